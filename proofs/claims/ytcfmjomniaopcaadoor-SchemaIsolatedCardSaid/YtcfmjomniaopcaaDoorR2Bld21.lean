/- A part of the proof: see the last text. -/
import Derived.Test.YtcfmjomniaopcaaDoorR2Add3
import Derived.Test.YtcfmjomniaopcaaDoorR2Plain4
import Derived.Test.YtcfmjomniaopcaaDoorKR2Same
set_option linter.unusedSimpArgs false
set_option linter.unusedVariables false
/- Build, as the program does it. -/
namespace Go.Eng
open Go Go.Proofs
open Nat (reduceAdd reduceMul reduceSub)
set_option maxRecDepth 20000
set_option maxHeartbeats 32000000
attribute [local irreducible] wpI endP
/-- The table with its checks in a slice of their own. -/
def reT (t : Tbl) : Tbl := ⟨t.name, t.cols, t.keys, t.fgns, cn t.checks.items⟩
def bldI : Except (Nat × Int) (List Tbl) → D
  | .ok s => .tuple [sl 5 encTbl (cn (s.map reT)), .int .i64 0, .int .i64 0]
  | .error (i, e) => .tuple [.nil, .int .i64 (i : Int), .int .i64 e]
/-- The rows of the builder's schema. -/
def Rows (B : List (List D)) : List D → List Tbl → Prop
  | [], [] => True
  | e :: es, t :: s => RowOk B e (reT t) ∧ Rows B es s
  | _, _ => False
theorem RowOk.agree {B B' : List (List D)} (h : ∀ (i : Nat) (c : List D), 0 < i → B[i]? = some c → B'[i]? = some c) {e : D} {t : Tbl} : RowOk B e t → RowOk B' e t
  | ⟨a, b, c, d, f, h1, ⟨h2, h3⟩, ⟨h4, h5⟩, h6, l, h7, h8, h9⟩ => ⟨a, b, c, d, f, h1, ⟨h2, h3.agree h⟩, ⟨h4, h5.agree h⟩, h6, l, h7, h8, h9.agree h⟩
theorem Rows.mono {B B' : List (List D)} (h : ∀ (i : Nat) (c : List D), 0 < i → B[i]? = some c → B'[i]? = some c) : ∀ {es : List D} {s : List Tbl}, Rows B es s → Rows B' es s
  | [], [], _ => trivial
  | e :: es, t :: s, ⟨h1, hr⟩ => ⟨h1.agree h, Rows.mono h hr⟩
  | [], _ :: _, h => h.elim
  | _ :: _, [], h => h.elim
theorem Rows.app {B : List (List D)} {e : D} {t : Tbl} (h : RowOk B e (reT t)) : ∀ {es : List D} {s : List Tbl}, Rows B es s → Rows B (es ++ [e]) (s ++ [t])
  | [], [], _ => ⟨h, trivial⟩
  | _ :: _, _ :: _, ⟨h1, h2⟩ => ⟨h1, Rows.app h h2⟩
  | [], _ :: _, h => h.elim
  | _ :: _, [], h => h.elim
/-- What is seen of a row. -/
theorem RowOk.sees {B : List (List D)} {e : D} {t : Tbl} : RowOk B e t → Sees B e (encTbl t)
  | ⟨a, b, c, d, f, h1, ⟨h2, h3⟩, ⟨h4, h5⟩, h6, l, h7, h8, h9⟩ => fun m hm => by
    have e1 := h3.sees t.cols.lt Col_len Col_mk Col_strip m hm
    have e2 := (h5.sees.acc (b := f) (k := 1)) m hm
    have e3 := h9.sees (by omega) ex_len ex_mk ex_strip m hm
    rw [out_cn 1 (sl 1 I) t.keys.lt, ← h4] at e2
    rw [← h2] at e1
    rw [← h7] at e3
    subst h1
    simp only [stripF_agg, stripFL_cons, e1, e2, e3, h6, go_sem]
/-- What is seen of them is what foreign keys look at. -/
theorem Rows.strip {B : List (List D)} : ∀ {es : List D} {s : List Tbl}, Rows B es s → ∃ c : List TblC, SeesL B es (c.map encTblC) ∧ Rel c s ∧ c.length = s.length
  | [], [], _ => ⟨[], .nil, rfl, rfl⟩
  | e :: es, t :: s, ⟨h, hr⟩ => by
    obtain ⟨cs, g1, g2, g3⟩ := Rows.strip hr
    have hq : ∃ q : Cell, q.1 = sl 8 encEx (reT t).checks := ⟨⟨sl 8 encEx (reT t).checks, fun g => strip_slEx 8 _, okC_sl 8 encEx _, cells_sl 8 encEx _⟩, rfl⟩
    obtain ⟨q, hq⟩ := hq
    refine ⟨⟨t.name, t.cols, t.keys, t.fgns, q⟩ :: cs, fun m hm => ?_, ?_, by simp [g3]⟩
    · rw [stripFL_cons, g1 m hm, h.sees m hm, List.map_cons]
      show encTbl (reT t) :: _ = encTblC _ :: _
      unfold encTbl encTblC
      rw [hq]
      rfl
    · unfold Rel at g2 ⊢
      rw [List.map_cons, List.map_cons, g2]; rfl
  | [], _ :: _, h => h.elim
  | _ :: _, [], h => h.elim
/-- In the end they are the tables. -/
theorem Rows.frz {B : List (List D)} {m : Mem} (hm : AgB B m) : ∀ {es : List D} {s : List Tbl}, Rows B es s → stripFL (frzM m m.boxes.length) es = (s.map reT).map encTbl
  | [], [], _ => rfl
  | e :: es, t :: s, ⟨h, hr⟩ => by
    rw [stripFL_cons, Rows.frz hm hr, h.sees m hm]; rfl
  | [], _ :: _, h => h.elim
  | _ :: _, [], h => h.elim
theorem Rows.len {m : List (List D)} : ∀ {es : List D} {s : List Tbl}, Rows m es s → es.length = s.length
  | [], [], _ => rfl
  | _ :: _, _ :: _, ⟨_, h⟩ => by simp [Rows.len h]
  | [], _ :: _, h => h.elim
  | _ :: _, [], h => h.elim
theorem stepR_ne {s : List Tbl} {x : Stm} {e : Int} (he : stepR s x = .error e) : e ≠ 0 := fun h0 => by
  subst h0
  unfold stepR at he
  cases h1 : x.kind.1 != 1 <;> rw [h1] at he
  · cases h2 : decide (8 ≤ s.length) || bigB x <;> rw [h2] at he
    · cases h3 : okB x <;> rw [h3] at he
      · cases he
      · cases h4 : exB s x <;> rw [h4] at he
        · simp only [cond_false, cond_true] at he
          cases h5 : tabR s x with
          | none => rw [h5] at he; cases he
          | some q =>
            obtain ⟨t, e⟩ := q
            rw [h5] at he
            simp only at he
            cases h6 : e == 0 <;> rw [h6] at he <;> cases he
            cases h6
        · cases he
    · cases he
  · cases he
theorem bldF_ne : ∀ (l : List Stm) (s : List Tbl) (i : Nat) (e : Int), bldF stepR s l = .error (i, e) → e ≠ 0
  | [], s, i, e, h => by cases h
  | x :: l, s, i, e, h => by
    rw [bldF] at h
    cases hx : stepR s x with
    | error e' => rw [hx] at h; cases h; exact stepR_ne hx
    | ok t => rw [hx] at h; exact bldF_ne l _ i e h
theorem bldF_len {step : List Tbl → Stm → Except Int Tbl} : ∀ (l : List Stm) (s r : List Tbl), bldF step s l = .ok r → r.length = s.length + l.length
  | [], s, r, h => by cases h; simp
  | x :: l, s, r, h => by
    rw [bldF] at h
    cases hx : step s x with
    | error e => rw [hx] at h; cases h
    | ok t =>
      rw [hx] at h
      have := bldF_len l _ r h
      simp at this ⊢; omega
def BldM (o : Except (Nat × Int) (List Tbl)) (r : D) (m : Mem) : Prop := match o with
  | .error (i, e) => r = .tuple [.nil, .int .i64 (i : Int), .int .i64 e]
  | .ok s => ∃ v g tk es, m = ⟨[v] :: g, tk⟩ ∧ Own 5 tk v es ∧ Rows ([v] :: g) es s ∧ r = .tuple [v, .int .i64 0, .int .i64 0]
/-- Build, with the result in boxes. -/
theorem bld21M (l : Sl Stm) (hn : l.items.length ≤ 12) (hl : ∀ x ∈ l.items, SmallS x) : ∃ r m, callR (XG GK) TT 100021 ⟨[], []⟩ [sl 22 encStm l] = some (r, m) ∧ BldM (bldF stepR [] l.items) r m := by
  refine callR_body T100021 rfl ?_
  unfold Tryd.f21
  simp only [Option.getD_some]
  simp +decide only[go_sem,reduceAdd,reduceMul,reduceSub]
  refine gw trivial ?_
  refine wpI_loopC (T := Nat × D × List D × List (List D) × List Nat × List Tbl) [5, 11, 12, 13] rfl (by simp +decide only[go_sem,reduceAdd,reduceMul,reduceSub]; exact rfl) (fun p => [(13, .int .i64 (p.1 : Int))]) (fun _ => []) (fun p => ⟨[p.2.1] :: p.2.2.2.1, p.2.2.2.2.1⟩) (fun p => p.1 ≤ l.items.length ∧ p.2.2.2.2.2.length = p.1 ∧ Own 5 p.2.2.2.2.1 p.2.1 p.2.2.1 ∧ Rows ([p.2.1] :: p.2.2.2.1) p.2.2.1 p.2.2.2.2.2 ∧ (∀ t ∈ p.2.2.2.2.2, KeysD t.keys.items) ∧ bldF stepR p.2.2.2.2.2 (l.items.drop p.1) = bldF stepR [] l.items) (fun p => l.items.length - p.1) (0, .nil, [], [], [], []) (by simp +decide only[go_sem,reduceAdd,reduceMul,reduceSub] <;> rfl) (by exact ⟨Nat.zero_le _, rfl, .inl ⟨rfl, rfl⟩, trivial, fun t ht => by simp at ht, rfl⟩) ?_
  rintro ⟨k, v, es, g, tk, s⟩ ⟨hk, hs, hv, hR, hK, hP⟩
  simp only at hk hs hv hR hK hP ⊢
  have hvo := hv.ok
  have hvc := hv.cells
  by_cases h : k < l.items.length
  · have hlt := l.lt
    have l_x : ((k : Int) < ((l.items).length : Int)) = True := by simp; omega
    obtain ⟨x, g_x⟩ : ∃ a_, (l.items)[k]? = some a_ := ⟨_, List.getElem?_eq_getElem (by assumption)⟩
    have w_x := wrap_nat k (by omega)
    rw [dropc g_x, bldF] at hP
    have hx := hl x (List.mem_of_getElem? g_x)
    obtain ⟨c, hc1, hc2, hc3⟩ := hR.strip
    obtain ⟨r, m', c56, hq⟩ := add56 c x hx v es g tk hv hc1 (by omega)
    simp only [encStm_eq] at c56
    have htk : List.take 16 x.rest.1 = x.rest.1 := List.take_of_length_le (by rw [rest_len]; exact Nat.le_refl _)
    have hsr : setRow [.int .i64 x.kind.1, .str x.name, sl 6 encCol x.cols, sl 1 (sl 1 S) x.keys, sl 3 encFgS x.fgns, sl 8 encEx x.checks, .nil, .nil, .nil, .nil, .int .i64 0, .str [], .str [], .int .i64 0, .int .i64 0, .int .i64 0, .str [], .nil, .nil, .nil, .int .i64 0, .str []] 6 x.rest.1 = .int .i64 x.kind.1 :: .str x.name :: sl 6 encCol x.cols :: sl 1 (sl 1 S) x.keys :: sl 3 encFgS x.fgns :: sl 8 encEx x.checks :: x.rest.1 :=
      (setRow_append_right [.nil, .nil, .nil, .nil, .int .i64 0, .str [], .str [], .int .i64 0, .int .i64 0, .int .i64 0, .str [], .nil, .nil, .nil, .int .i64 0, .str []] x.rest.1 [.int .i64 x.kind.1, .str x.name, sl 6 encCol x.cols, sl 1 (sl 1 S) x.keys, sl 3 encFgS x.fgns, sl 8 encEx x.checks] 0).trans (by
        have h2 := setRow_whole [] x.rest.1 [.nil, .nil, .nil, .nil, .int .i64 0, .str [], .str [], .int .i64 0, .int .i64 0, .int .i64 0, .str [], .nil, .nil, .nil, .int .i64 0, .str []] (by rw [rest_len]; rfl)
        rw [List.append_nil, List.append_nil] at h2
        rw [h2]; rfl)
    unfold AddQ at hq
    rcases step_rel hc2 hK (by omega) x with ⟨e, h1, h2⟩ | ⟨ks, fs, h1, h2, h3⟩
    · rw [h1] at hq
      rw [h2] at hP
      simp only at hq hP
      subst hq
      have he : (e != 0) = true := by
        have hne := fun e => @stepR_ne s x e
        simpa using hne e h2
      refine gw (an hvo (an hvc (an l_x (an g_x (an w_x (an c56 (an htk (an hsr he)))))))) ?_
      simp +decide only[go_sem,reduceAdd,reduceMul,reduceSub,hvo,hvc,l_x,g_x,w_x,c56,htk,hsr]
      rw [← hP, hs]; rfl
    · rw [h1] at hq
      rw [h2] at hP
      simp only at hq hP
      obtain ⟨rfl, v', g', tk', e, rfl, hv', hr', hg'⟩ := hq
      refine gw (an hvo (an hvc (an l_x (an g_x (an w_x (an c56 (an htk hsr))))))) ?_
      refine ⟨(k + 1, v', es ++ [e], g', tk', s ++ [⟨x.name, x.cols, cn ks, cn fs, x.checks⟩]), by simp +decide only[go_sem,reduceAdd,reduceMul,reduceSub,hvo,hvc,l_x,g_x,w_x,c56,htk,hsr] <;> rfl, ⟨by simp only; omega, by simp [hs], hv', ?_, fun t ht => ?_, hP⟩, by simp only; omega⟩
      · refine Rows.app hr' (hR.mono fun i c hi hc => ?_)
        obtain ⟨j, rfl⟩ : ∃ j, i = j + 1 := ⟨i - 1, by omega⟩
        obtain ⟨w, rfl⟩ := hg'
        show (g ++ w)[j]? = some c
        have hc : g[j]? = some c := hc
        rw [List.getElem?_append_left (List.getElem?_eq_some_iff.1 hc).1]; exact hc
      · rcases List.mem_append.1 ht with ht | ht
        · exact hK t ht
        · rw [List.mem_singleton.1 ht]; exact h3
  have l_x : ((k : Int) < ((l.items).length : Int)) = False := by simp; omega
  rw [List.drop_eq_nil_of_le (by omega), bldF] at hP
  refine gw (an hvo (an hvc l_x)) ?_
  simp +decide only[go_sem,reduceAdd,reduceMul,reduceSub,hvo,hvc,l_x]
  rw [← hP]
  exact ⟨v, g, tk, es, rfl, hv, hR, rfl⟩
theorem bldM_frz {l : Sl Stm} {r : D} {m : Mem} (hn : l.items.length ≤ 12) (h : BldM (bldF stepR [] l.items) r m) : frz m r = bldI (bldF stepR [] l.items) := by
  have hlen := fun s => @bldF_len stepR l.items [] s
  generalize bldF stepR [] l.items = o at *
  cases o with
  | error p => 
    obtain ⟨i, e⟩ := p
    have h : r = _ := h
    subst h; rfl
  | ok s =>
    obtain ⟨v, g, tk, es, rfl, hv, hR, rfl⟩ := h
    have hfz := hR.frz (AgB.refl ([v] :: g) tk)
    have hl := hlen s rfl
    have hsl : (s.map reT).length < 4611686018427387904 := by rw [List.length_map, hl]; simp; omega
    have : stripF (frzM ⟨[v] :: g, tk⟩ ([v] :: g).length) v = sl 5 encTbl (cn (s.map reT)) := by
      rw [hv.strip, ← out_cn 5 encTbl hsl]
      exact congrArg (outD 5) hfz
    exact congrArg (fun d => D.tuple [d, .int .i64 0, .int .i64 0]) this
theorem bld21 (l : Sl Stm) (hn : l.items.length ≤ 12) (hl : ∀ x ∈ l.items, SmallS x) : callP (XG GK) TT 21 [sl 22 encStm l] = some (bldI (bldF stepR [] l.items)) := by
  obtain ⟨r, m, h1, h2⟩ := bld21M l hn hl
  rw [← bldM_frz hn h2]
  exact callP_var T21 T100021 rfl (by simp only [go_sem]) h1
end Go.Eng
