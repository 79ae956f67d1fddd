/- A part of the proof: see the last text. -/
import Derived.Test.YtcfmjomniaopcaaGreatDoorR2Add3
import Derived.Test.YtcfmjomniaopcaaGreatDoorR2Plain4
import Derived.Test.YtcfmjomniaopcaaGreatDoorR2Same
set_option linter.unusedSimpArgs false
set_option linter.unusedVariables false
/- Build, as the program does it. -/
namespace Go.Eng
open Go Go.Proofs
open Nat (reduceAdd reduceMul reduceSub)
set_option maxRecDepth 20000
set_option maxHeartbeats 32000000
/-- The table with its checks in a slice of their own. -/
def reT (t : Tbl) : Tbl := ⟨t.name, t.cols, t.keys, t.fgns, cn t.checks.items⟩
def bldI : Except (Nat × Int) (List Tbl) → D
  | .ok s => .tuple [sl 5 encTbl (cn (s.map reT)), .int .i64 0, .int .i64 0]
  | .error (i, e) => .tuple [.nil, .int .i64 (i : Int), .int .i64 e]
/-- The rows of the builder's schema. -/
def Rows (m : Mem) : List D → List Tbl → Prop
  | [], [] => True
  | e :: es, t :: s => RowOk m e (reT t) ∧ Rows m es s
  | _, _ => False
theorem Rows.mono {m m' : Mem} (h : ∀ (i : Nat) (c : List D), 0 < i → m.boxes[i]? = some c → m'.boxes[i]? = some c) : ∀ {es : List D} {s : List Tbl}, Rows m es s → Rows m' es s
  | [], [], _ => trivial
  | e :: es, t :: s, ⟨⟨a, b, c, d, h1, h2, h3, h4, l, h5, h6, h7⟩, hr⟩ => by
    refine ⟨⟨a, b, c, d, h1, h2, h3, h4, l, h5, h6, ?_⟩, Rows.mono h hr⟩
    rcases h7 with h7 | ⟨h7, id, h8, h9, h10⟩
    · exact .inl h7
    · exact .inr ⟨h7, id, h8, h9, h _ _ h8 h10⟩
  | [], _ :: _, h => h.elim
  | _ :: _, [], h => h.elim
theorem Rows.app {m : Mem} {e : D} {t : Tbl} (h : RowOk m e (reT t)) : ∀ {es : List D} {s : List Tbl}, Rows m es s → Rows m (es ++ [e]) (s ++ [t])
  | [], [], _ => ⟨h, trivial⟩
  | _ :: _, _ :: _, ⟨h1, h2⟩ => ⟨h1, Rows.app h h2⟩
  | [], _ :: _, h => h.elim
  | _ :: _, [], h => h.elim
def cellOf (d : D) (h : (∀ g, stripF g d = d) ∧ d.okC = true ∧ d.cells = [d]) : Cell := ⟨d, h⟩
/-- Without their checks they are what foreign keys look at. -/
theorem Rows.strip {m : Mem} : ∀ {es : List D} {s : List Tbl}, Rows m es s → ∃ c : List TblC, stripFL noR es = c.map encTblC ∧ Rel c s ∧ c.length = s.length
  | [], [], _ => ⟨[], rfl, rfl, rfl⟩
  | e :: es, t :: s, ⟨⟨a, b, c, d, h1, h2, h3, h4, l, h5, h6, h7⟩, hr⟩ => by
    obtain ⟨cs, g1, g2, g3⟩ := Rows.strip hr
    have hc : ∃ q : Cell, stripF noR d = q.1 := by
      rcases h7 with ⟨_, rfl⟩ | ⟨_, id, _, rfl, _⟩
      · exact ⟨⟨.nil, fun _ => rfl, rfl, rfl⟩, rfl⟩
      · exact ⟨⟨.opq, fun _ => rfl, rfl, rfl⟩, rfl⟩
    obtain ⟨q, hq⟩ := hc
    refine ⟨⟨t.name, t.cols, t.keys, t.fgns, q⟩ :: cs, ?_, ?_, by simp [g3]⟩
    · rw [stripFL_cons, g1, h1, List.map_cons]
      simp only [stripF_agg, stripFL_cons, h2, h3, h4, hq]
      rfl
    · unfold Rel at g2 ⊢
      rw [List.map_cons, List.map_cons, g2]; rfl
  | [], _ :: _, h => h.elim
  | _ :: _, [], h => h.elim
/-- In the end they are the tables. -/
theorem Rows.frz {m : Mem} : ∀ {es : List D} {s : List Tbl}, Rows m es s → stripFL (frzM m m.boxes.length) es = (s.map reT).map encTbl
  | [], [], _ => rfl
  | e :: es, t :: s, ⟨⟨a, b, c, d, h1, h2, h3, h4, l, h5, h6, h7⟩, hr⟩ => by
    have ih := Rows.frz hr
    have hd : stripF (frzM m m.boxes.length) d = sl 8 encEx (reT t).checks := by
      rw [h5]
      rcases h7 with ⟨rfl, rfl⟩ | ⟨hne, id, hp, rfl, hb⟩
      · rw [cn_nil]; rfl
      · have := frz_rsl (m := m) (id := id) (n := l.length) hb rfl ex_len ex_mk ex_strip
        show frzM m m.boxes.length id 0 l.length 8 = _
        rw [this]
        have hcl : (cn l).1 = some l := by
          unfold cn
          rw [dif_pos (by omega)]
          cases l with
          | nil => exact absurd rfl hne
          | cons a r => rfl
        unfold sl
        rw [hcl]
    rw [stripFL_cons, ih, h1, List.map_cons, List.map_cons]
    simp only [stripF_agg, stripFL_cons, h2, h3, h4, hd]
    rfl
  | [], _ :: _, h => h.elim
  | _ :: _, [], h => h.elim
theorem Rows.len {m : Mem} : ∀ {es : List D} {s : List Tbl}, Rows m es s → es.length = s.length
  | [], [], _ => rfl
  | _ :: _, _ :: _, ⟨_, h⟩ => by simp [Rows.len h]
  | [], _ :: _, h => h.elim
  | _ :: _, [], h => h.elim
theorem stepR_ne {s : List Tbl} {x : Stm} {e : Int} (he : stepR s x = .error e) : e ≠ 0 := fun h0 => by
  subst h0
  unfold stepR at he
  cases h1 : x.kind.1 != 1 <;> rw [h1] at he
  · cases h2 : decide (8 ≤ s.length) || bigB x <;> rw [h2] at he
    · cases h3 : okB x <;> rw [h3] at he
      · cases he
      · cases h4 : exB s x <;> rw [h4] at he
        · simp only [cond_false, cond_true] at he
          cases h5 : tabR s x with
          | none => rw [h5] at he; cases he
          | some q =>
            obtain ⟨t, e⟩ := q
            rw [h5] at he
            simp only at he
            cases h6 : e == 0 <;> rw [h6] at he <;> cases he
            cases h6
        · cases he
    · cases he
  · cases he
theorem bldF_ne : ∀ (l : List Stm) (s : List Tbl) (i : Nat) (e : Int), bldF stepR s l = .error (i, e) → e ≠ 0
  | [], s, i, e, h => by cases h
  | x :: l, s, i, e, h => by
    rw [bldF] at h
    cases hx : stepR s x with
    | error e' => rw [hx] at h; cases h; exact stepR_ne hx
    | ok t => rw [hx] at h; exact bldF_ne l _ i e h
theorem bldF_len {step : List Tbl → Stm → Except Int Tbl} : ∀ (l : List Stm) (s r : List Tbl), bldF step s l = .ok r → r.length = s.length + l.length
  | [], s, r, h => by cases h; simp
  | x :: l, s, r, h => by
    rw [bldF] at h
    cases hx : step s x with
    | error e => rw [hx] at h; cases h
    | ok t =>
      rw [hx] at h
      have := bldF_len l _ r h
      simp at this ⊢; omega
theorem bld21 (l : Sl Stm) (hn : l.items.length ≤ 12) (hl : ∀ x ∈ l.items, SmallS x) : callP (XG GK) TT 10 [sl 22 encStm l] = some (bldI (bldF stepR [] l.items)) := by
  suffices h : ∃ v, callP (XG GK) TT 10 [sl 22 encStm l] = some v ∧ v = bldI (bldF stepR [] l.items) by
    obtain ⟨v, h1, h2⟩ := h; rw [h1, h2]
  refine callP_body T10 rfl (by simp only [go_sem]) ?_
  unfold Tryz.f10
  simp only [Option.getD_some]
  simp +decide only[go_sem,reduceAdd,reduceMul,reduceSub]
  refine gw trivial ?_
  refine wpI_loopC (T := Nat × D × List D × List (List D) × List Nat × List Tbl) [5, 11, 12, 13] rfl (by simp +decide only[go_sem,reduceAdd,reduceMul,reduceSub]; exact rfl) (fun p => [(13, .int .i64 (p.1 : Int))]) (fun _ => []) (fun p => ⟨[p.2.1] :: p.2.2.2.1, p.2.2.2.2.1⟩) (fun p => p.1 ≤ l.items.length ∧ p.2.2.2.2.2.length = p.1 ∧ Own 5 p.2.2.2.2.1 p.2.1 p.2.2.1 ∧ Rows ⟨[p.2.1] :: p.2.2.2.1, p.2.2.2.2.1⟩ p.2.2.1 p.2.2.2.2.2 ∧ (∀ t ∈ p.2.2.2.2.2, KeysD t.keys.items) ∧ bldF stepR p.2.2.2.2.2 (l.items.drop p.1) = bldF stepR [] l.items) (fun p => l.items.length - p.1) (0, .nil, [], [], [], []) (by simp +decide only[go_sem,reduceAdd,reduceMul,reduceSub] <;> rfl) (by exact ⟨Nat.zero_le _, rfl, .inl ⟨rfl, rfl⟩, trivial, fun t ht => by simp at ht, rfl⟩) ?_
  rintro ⟨k, v, es, g, tk, s⟩ ⟨hk, hs, hv, hR, hK, hP⟩
  simp only at hk hs hv hR hK hP ⊢
  have hvo := hv.ok
  have hvc := hv.cells
  by_cases h : k < l.items.length
  · have hlt := l.lt
    have l_x : ((k : Int) < ((l.items).length : Int)) = True := by simp; omega
    obtain ⟨x, g_x⟩ : ∃ a_, (l.items)[k]? = some a_ := ⟨_, List.getElem?_eq_getElem (by assumption)⟩
    have w_x := wrap_nat k (by omega)
    rw [dropc g_x, bldF] at hP
    have hx := hl x (List.mem_of_getElem? g_x)
    obtain ⟨c, hc1, hc2, hc3⟩ := hR.strip
    obtain ⟨r, m', c56, hq⟩ := add56 c x hx v es g tk hv hc1 (by omega)
    simp only [encStm_eq] at c56
    have htk : List.take 16 x.rest.1 = x.rest.1 := List.take_of_length_le (by rw [rest_len]; exact Nat.le_refl _)
    have hsr : setRow [.int .i64 x.kind.1, .str x.name, sl 6 encCol x.cols, sl 1 (sl 1 S) x.keys, sl 3 encFgS x.fgns, sl 8 encEx x.checks, .nil, .nil, .nil, .nil, .int .i64 0, .str [], .str [], .int .i64 0, .int .i64 0, .int .i64 0, .str [], .nil, .nil, .nil, .int .i64 0, .str []] 6 x.rest.1 = .int .i64 x.kind.1 :: .str x.name :: sl 6 encCol x.cols :: sl 1 (sl 1 S) x.keys :: sl 3 encFgS x.fgns :: sl 8 encEx x.checks :: x.rest.1 :=
      (setRow_append_right [.nil, .nil, .nil, .nil, .int .i64 0, .str [], .str [], .int .i64 0, .int .i64 0, .int .i64 0, .str [], .nil, .nil, .nil, .int .i64 0, .str []] x.rest.1 [.int .i64 x.kind.1, .str x.name, sl 6 encCol x.cols, sl 1 (sl 1 S) x.keys, sl 3 encFgS x.fgns, sl 8 encEx x.checks] 0).trans (by
        have h2 := setRow_whole [] x.rest.1 [.nil, .nil, .nil, .nil, .int .i64 0, .str [], .str [], .int .i64 0, .int .i64 0, .int .i64 0, .str [], .nil, .nil, .nil, .int .i64 0, .str []] (by rw [rest_len]; rfl)
        rw [List.append_nil, List.append_nil] at h2
        rw [h2]; rfl)
    unfold AddQ at hq
    rcases step_rel hc2 hK (by omega) x with ⟨e, h1, h2⟩ | ⟨ks, fs, h1, h2, h3⟩
    · rw [h1] at hq
      rw [h2] at hP
      simp only at hq hP
      subst hq
      have he : (e != 0) = true := by
        have hne := fun e => @stepR_ne s x e
        simpa using hne e h2
      refine gw (an hvo (an hvc (an l_x (an g_x (an w_x (an c56 (an htk (an hsr he)))))))) ?_
      simp +decide only[go_sem,reduceAdd,reduceMul,reduceSub,hvo,hvc,l_x,g_x,w_x,c56,htk,hsr]
      rw [← hP, hs]; rfl
    · rw [h1] at hq
      rw [h2] at hP
      simp only at hq hP
      obtain ⟨rfl, v', g', tk', e, rfl, hv', hr', hg'⟩ := hq
      refine gw (an hvo (an hvc (an l_x (an g_x (an w_x (an c56 (an htk hsr))))))) ?_
      refine ⟨(k + 1, v', es ++ [e], g', tk', s ++ [⟨x.name, x.cols, cn ks, cn fs, x.checks⟩]), by simp +decide only[go_sem,reduceAdd,reduceMul,reduceSub,hvo,hvc,l_x,g_x,w_x,c56,htk,hsr] <;> rfl, ⟨by simp only; omega, by simp [hs], hv', ?_, fun t ht => ?_, hP⟩, by simp only; omega⟩
      · refine Rows.app hr' (hR.mono fun i c hi hc => ?_)
        obtain ⟨j, rfl⟩ : ∃ j, i = j + 1 := ⟨i - 1, by omega⟩
        obtain ⟨w, rfl⟩ := hg'
        show (g ++ w)[j]? = some c
        have hc : g[j]? = some c := hc
        rw [List.getElem?_append_left (List.getElem?_eq_some_iff.1 hc).1]; exact hc
      · rcases List.mem_append.1 ht with ht | ht
        · exact hK t ht
        · rw [List.mem_singleton.1 ht]; exact h3
  have l_x : ((k : Int) < ((l.items).length : Int)) = False := by simp; omega
  rw [List.drop_eq_nil_of_le (by omega), bldF] at hP
  refine gw (an hvo (an hvc l_x)) ?_
  simp +decide only[go_sem,reduceAdd,reduceMul,reduceSub,hvo,hvc,l_x]
  rw [← hP]
  have hfz := hR.frz
  have hsl : (s.map reT).length < 4611686018427387904 := by rw [List.length_map]; omega
  have : stripF (frzM ⟨[v] :: g, tk⟩ ([v] :: g).length) v = sl 5 encTbl (cn (s.map reT)) := by
    rw [hv.strip, ← out_cn 5 encTbl hsl]
    exact congrArg (outD 5) hfz
  first | exact congrArg (fun d => D.tuple [d, .int .i64 0, .int .i64 0]) this | simp only [bldI, this]
end Go.Eng
