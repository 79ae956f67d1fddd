/- A part of the proof: see the last text. -/
import Derived.Test.YtcfmjomniaopcaaDoorR2Po
import Derived.Test.YtcfmjomniaopcaaDoorKR2Same
import Derived.Test.YtcfmjomniaopcaaDoorKR2Pi2
set_option linter.unusedSimpArgs false
set_option linter.unusedVariables false
/- Same: a plan is the same as itself. -/
namespace Go.Eng
open Go Go.Proofs
open Nat (reduceAdd reduceMul reduceSub)
set_option maxRecDepth 20000
set_option maxHeartbeats 32000000
theorem same_step18 (p : PlR) (ih : ∀ x ∈ p.args.items, callP (XG GK) TT 18 [encPl x, encPl x] = some (.bool true)) : callP (XG GK) TT 18 [p.enc, p.enc] = some (.bool true) := by
  obtain ⟨e0, he0⟩ := Ex.close p.r
  have c0 := expr52 e0
  rw [he0] at c0
  simp only [ExR_eq] at c0
  refine callP_val T18 rfl (by simp only [go_sem]) ?_
  unfold Tryd.f18
  simp only [Option.getD_some]
  have hlc := p.c.lt
  have hle := p.e.lt
  have hla := p.args.lt
  simp +decide only[go_sem,reduceAdd,reduceMul,reduceSub,c0]
  refine gw c0 ?_
  refine wpI_loopC (T := Nat) [2, 3, 5] rfl (by simp +decide only[go_sem,reduceAdd,reduceMul,reduceSub,c0]; exact rfl) (fun k => [(5, .int .i64 (k : Int))]) (fun _ => []) (fun _ => ⟨[], []⟩) (fun k => k ≤ p.c.items.length) (fun k => p.c.items.length - k) 0 (by simp +decide only[go_sem,reduceAdd,reduceMul,reduceSub,c0] <;> rfl) (by simp) ?_
  rintro k hk
  by_cases h : k < p.c.items.length
  · have l_x : ((k : Int) < ((p.c.items).length : Int)) = True := by simp; omega
    obtain ⟨x, g_x⟩ : ∃ a_, (p.c.items)[k]? = some a_ := ⟨_, List.getElem?_eq_getElem (by assumption)⟩
    have w_x := wrap_nat k (by omega)
    refine gw (an c0 (an l_x (an g_x w_x))) ?_
    exact ⟨k + 1, by simp +decide only[go_sem,reduceAdd,reduceMul,reduceSub,c0,l_x,g_x,w_x] <;> rfl, by omega, by omega⟩
  have l_e1 : ((k : Int) < ((p.c.items).length : Int)) = False := by simp; omega
  refine gw (an c0 l_e1) ?_
  refine wpI_loopC (T := Nat) [2, 3, 6] rfl (by simp +decide only[go_sem,reduceAdd,reduceMul,reduceSub,c0,l_e1]; exact rfl) (fun k => [(6, .int .i64 (k : Int))]) (fun _ => []) (fun _ => ⟨[], []⟩) (fun k => k ≤ p.e.items.length) (fun k => p.e.items.length - k) 0 (by simp +decide only[go_sem,reduceAdd,reduceMul,reduceSub,c0,l_e1] <;> rfl) (by simp) ?_
  rintro q hq
  by_cases h : q < p.e.items.length
  · have l_x : ((q : Int) < ((p.e.items).length : Int)) = True := by simp; omega
    obtain ⟨x, g_x⟩ : ∃ a_, (p.e.items)[q]? = some a_ := ⟨_, List.getElem?_eq_getElem (by assumption)⟩
    have w_x := wrap_nat q (by omega)
    have c1 := expr52 x
    refine gw (an c0 (an l_e1 (an l_x (an g_x (an w_x c1))))) ?_
    exact ⟨q + 1, by simp +decide only[go_sem,reduceAdd,reduceMul,reduceSub,c0,l_e1,l_x,g_x,w_x] <;> rfl, by omega, by omega⟩
  have l_e2 : ((q : Int) < ((p.e.items).length : Int)) = False := by simp; omega
  refine gw (an c0 (an l_e1 l_e2)) ?_
  refine wpI_loopC (T := Nat) [2, 3, 7] rfl (by simp +decide only[go_sem,reduceAdd,reduceMul,reduceSub,c0,l_e1,l_e2]; exact rfl) (fun k => [(7, .int .i64 (k : Int))]) (fun _ => []) (fun _ => ⟨[], []⟩) (fun k => k ≤ p.args.items.length) (fun k => p.args.items.length - k) 0 (by simp +decide only[go_sem,reduceAdd,reduceMul,reduceSub,c0,l_e1,l_e2] <;> rfl) (by simp) ?_
  rintro j hj
  by_cases h : j < p.args.items.length
  · have l_x : ((j : Int) < ((p.args.items).length : Int)) = True := by simp; omega
    obtain ⟨x, g_x⟩ : ∃ a_, (p.args.items)[j]? = some a_ := ⟨_, List.getElem?_eq_getElem (by assumption)⟩
    have w_x := wrap_nat j (by omega)
    have c1 := ih x (List.mem_of_getElem? g_x)
    refine gw (an c0 (an l_e1 (an l_e2 (an l_x (an g_x (an w_x c1)))))) ?_
    exact ⟨j + 1, by simp +decide only[go_sem,reduceAdd,reduceMul,reduceSub,c0,l_e1,l_e2,l_x,g_x,w_x] <;> rfl, by omega, by omega⟩
  have l_e3 : ((j : Int) < ((p.args.items).length : Int)) = False := by simp; omega
  refine gw (an c0 (an l_e1 (an l_e2 l_e3))) ?_
  simp +decide only[go_sem,reduceAdd,reduceMul,reduceSub,c0,l_e1,l_e2,l_e3]
def zeroR : ExR := ⟨⟨0, by decide⟩, [], [], ⟨0, by decide⟩, ⟨0, by decide⟩, ⟨0, by decide⟩, [], ⟨none, by simp⟩⟩
def plK (e : Ex) : D := .agg [.int .i64 0, .int .i64 0, .nil, .slice none 8 [encEx e], .int .i64 0, .str [], .str [], .int .i64 0, .int .i64 0, .int .i64 0, .str [], .nil, .nil]
theorem same18 (e : Ex) : callP (XG GK) TT 18 [plK e, plK e] = some (.bool true) :=
  same_step18 ⟨⟨0, by decide⟩, ⟨0, by decide⟩, ⟨none, by simp⟩, ⟨some [e], by show (1 : Nat) < 4611686018427387904; decide⟩, zeroR, ⟨none, by simp⟩⟩ fun x hx => by cases hx
end Go.Eng
/- The keys of a source, by the program and by the reference: the same lists. -/
namespace Go.Eng
open Go Go.Proofs
theorem BinN.fine {n : Nat} {d : D} (h : BinN n d) : FineE d := by
  induction h with
  | mk n r h2 hA k ih => exact .mk r (by omega) ih
theorem CjL.bin {d : D} {L : List Ex} (h : CjL d L) : ∀ n, BinN n d → ∀ e ∈ L, ∃ m, BinN m (encEx e) := by
  induction h with
  | none r h0 => intro n _ e he; cases he
  | one e r he h0 h1 => intro n hb x hx; rw [List.mem_singleton.1 hx]; exact ⟨n, hb⟩
  | and r x y h18 hx A B ha hb iha ihb =>
    intro n hn e he
    obtain ⟨m, r', h1, h2, _, _, hk⟩ := hn.open
    have hmem : ∀ z ∈ r.args.items, BinN m (encEx z) := by
      have h3 : sl 8 encEx r.args = sl 8 encEx r'.args := by
        simp only [ExR_eq, D.agg.injEq, List.cons.injEq] at h2; exact h2.2.2.2.2.2.2.2.1
      have h4 := elems_sl (k := 8) (f := encEx) (s := r.args) (m := ⟨[], []⟩)
      have h5 := elems_sl (k := 8) (f := encEx) (s := r'.args) (m := ⟨[], []⟩)
      rw [h3, h5] at h4
      have h6 : r'.args.items.map encEx = r.args.items.map encEx := Option.some.inj h4
      intro z hz
      have h7 : encEx z ∈ r.args.items.map encEx := List.mem_map.2 ⟨z, hz, rfl⟩
      rw [← h6] at h7
      obtain ⟨z', hz', e'⟩ := List.mem_map.1 h7
      rw [← e']; exact hk z' hz'
    rcases List.mem_append.1 he with he | he
    · exact iha m (hmem x (by rw [hx]; simp)) e he
    · exact ihb m (hmem y (by rw [hx]; simp)) e he
theorem args_bin {m : Nat} {e : Ex} (h : BinN m (encEx e)) : ∀ x ∈ (root e).args.items, FineE (encEx x) := by
  have h := h.fine
  rw [root_eq e] at h
  generalize hr : (root e).enc = d at h
  cases h with
  | mk r h8 k =>
    have h3 : sl 8 encEx (root e).args = sl 8 encEx r.args := by
      simp only [ExR_eq, D.agg.injEq, List.cons.injEq] at hr; exact hr.2.2.2.2.2.2.2.1
    have h4 := elems_sl (k := 8) (f := encEx) (s := (root e).args) (m := ⟨[], []⟩)
    have h5 := elems_sl (k := 8) (f := encEx) (s := r.args) (m := ⟨[], []⟩)
    rw [h3, h5] at h4
    have h6 : r.args.items.map encEx = (root e).args.items.map encEx := Option.some.inj h4
    intro z hz
    have h7 : encEx z ∈ (root e).args.items.map encEx := List.mem_map.2 ⟨z, hz, rfl⟩
    rw [← h6] at h7
    obtain ⟨z', hz', e'⟩ := List.mem_map.1 h7
    rw [← e']; exact k z' hz'
theorem gvF_mem {f : Ex → Bool} {v : Int} {e x : Ex} (h : gvF f v e = some x) : x ∈ (root e).args.items := by
  unfold gvF at h
  generalize (root e).args.items = l at h
  match l, h with
  | [a, b], h =>
    simp only [gvA] at h
    cases hc : ((root e).a.1 == 10 && (colR (root a) v && f b)) with
    | true => rw [hc, cond_true] at h; cases h; simp
    | false =>
      rw [hc, cond_false] at h
      cases hd : ((root e).a.1 == 10 && (colR (root b) v && f a)) with
      | true => rw [hd, cond_true] at h; cases h; simp
      | false => rw [hd, cond_false] at h; cases h
theorem keys_both (s : Sl Tbl) (b : Bnd) (W : List Nat) (h : WOK s.items b.tabs.items W) (hb : BinN 8 b.w.enc) (src w : Nat) (hw : W[src]? = some w) (known : Sl I64) (hk : Knw W known.items) :
    ∃ L : List (Nat × Ex), L.length ≤ 20 ∧ callP (XG GK) TT 16 [sl 5 encTbl s, encBnd b, .int .i64 (src : Int), sl 1 I known] = some (.tuple [outD 1 (L.map cD), outD 8 (L.map kD)]) ∧
      callP (XG GK) TT 17 [sl 5 encTbl s, encBnd b, .int .i64 (src : Int), sl 1 I known] = some (.tuple [outD 1 (L.map cD), outD 8 (L.map kD)]) := by
  obtain ⟨e, he⟩ := Ex.close b.w
  rw [← he] at hb
  obtain ⟨L, hL, hlen⟩ := cj_ex 8 e hb
  have hbin := hL.bin 8 hb
  rw [he] at hL
  have hlen : L.length ≤ 256 := hlen
  obtain ⟨c, hc, hcL⟩ := conj46 (G := GK) hL (by omega)
  obtain ⟨c', hc', hcL'⟩ := conj90 (G := GK) hL (by omega)
  obtain ⟨f, hf⟩ := over (G := GK) h hk
  have hw20 : w ≤ 20 := by
    obtain ⟨_, _, w', _, _, g3, _, g5⟩ := h.at (i := src) (by have := h.len; have := (List.getElem?_eq_some_iff.1 hw).1; omega)
    rw [hw] at g3; cases g3; exact g5
  refine ⟨ksF (fun k => L.findSome? (gvF f ((offW W src + k : Nat) : Int))) w, Nat.le_trans (ksF_len _ _) hw20, ?_, ?_⟩
  · refine keys16 s b W h src w hw known c' hc' _ (fun m k hm => ?_) (fun k x hx => ?_)
    · rw [← hcL']
      exact first91 s b W known f m 0 (some 1) c' hm (fun e m hm => (hf e).2 m 0 (some 1) c' hm) _
    · obtain ⟨y, hy, hxy⟩ := List.exists_of_findSome?_eq_some hx
      obtain ⟨m, hm⟩ := hbin y hy
      exact args_bin hm x (gvF_mem hxy)
  · refine keys17 s b W h src w hw known _ (fun k => ?_)
    rw [← hcL]
    exact search50 (G := GK) s b known f (fun e => (hf e).1) _ c hc
end Go.Eng
