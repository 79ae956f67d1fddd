/- A part of the proof: see the last text. -/
import Derived.Test.YtcfmjomniaopcaaDoorKR2Vr
import Derived.Test.YtcfmjomniaopcaaDoorKR2Pj
set_option linter.unusedSimpArgs false
set_option linter.unusedVariables false
/- The bound statement of a case: the walk. -/
namespace Go.Eng
open Go Go.Proofs
open Nat (reduceAdd reduceMul reduceSub)
set_option maxRecDepth 20000
set_option maxHeartbeats 32000000
variable {G : Nat → Option (List D)}
def numL : List I64 := [⟨0, by decide⟩, ⟨1, by decide⟩, ⟨2, by decide⟩]
def numS (n : Nat) : Sl I64 := ⟨some (numL.take n), by
  show (numL.take n).length < 4611686018427387904
  have : (numL.take n).length ≤ numL.length := List.length_take_le' ..
  have h3 : numL.length = 3 := rfl
  omega⟩
theorem numS_eq (n : Nat) : sl 1 I (numS n) = .slice none 1 ([.int .i64 0, .int .i64 1, .int .i64 2].take n) := by
  simp only [sl, numS, List.map_take]; rfl
def stB (c : Cas) (S : List Src) (k : Nat) (V : List Col) : List D := [.int .i64 5, .str [], .nil, .nil, .nil, .nil, .nil, .nil, .nil, gT 1 2 (S.map encSrc), .int .i64 c.w.a.1, .str c.w.s, .str c.w.t, .int .i64 c.w.b.1, .int .i64 c.w.c.1, .int .i64 c.w.d.1, .str c.w.u, sl 8 encEx c.w.args, .nil, .nil, .int .i64 0, .str [], .int .i64 0, gT 0 1 ((c.fr.items.take k).map I), gT 2 5 (V.map vr), .nil]
def srcF (c : Cas) (k : Nat) : List Src := (List.range k).flatMap fun i => match c.fr.items[i]?, c.al.items[i]? with
  | some x, some a => (match atI c.s.items x.1 with | some t => [⟨t.name, a⟩] | none => [])
  | _, _ => []
def varF (c : Cas) (k : Nat) : List Col := (List.range k).flatMap fun i => match c.fr.items[i]? with
  | some x => (match atI c.s.items x.1 with | some t => t.cols.items | none => [])
  | none => []
theorem srcF_succ {c : Cas} {k : Nat} {x : I64} {a : Str} {t : Tbl} (h1 : c.fr.items[k]? = some x) (h2 : c.al.items[k]? = some a) (h3 : atI c.s.items x.1 = some t) : srcF c (k + 1) = srcF c k ++ [⟨t.name, a⟩] := by
  unfold srcF; rw [List.range_succ, List.flatMap_append, List.flatMap_singleton, h1, h2]; simp only [h3]
theorem varF_succ {c : Cas} {k : Nat} {x : I64} {t : Tbl} (h1 : c.fr.items[k]? = some x) (h3 : atI c.s.items x.1 = some t) : varF c (k + 1) = varF c k ++ t.cols.items := by
  unfold varF; rw [List.range_succ, List.flatMap_append, List.flatMap_singleton, h1]; simp only [h3]
structure BInv (c : Cas) (p : Nat × List Src × List Col) : Prop where
  k : p.1 ≤ c.fr.items.length
  s : p.2.1.length = p.1
  v : p.2.2.length ≤ 20 * p.1
  z : p.1 = 0 → p.2.2 = []
  sv : p.2.1 = srcF c p.1
  vv : p.2.2 = varF c p.1
  ok : ∀ i x, i < p.1 → c.fr.items[i]? = some x → ∃ t, atI c.s.items x.1 = some t
theorem wok_of {c : Cas} (h3 : c.fr.items.length ≤ 3) (h20 : ∀ t ∈ c.s.items, t.cols.items.length ≤ 20) (h : ∀ i x, i < c.fr.items.length → c.fr.items[i]? = some x → ∃ t, atI c.s.items x.1 = some t) : ∃ W, WOK c.s.items c.fr.items W := by
  refine ⟨c.fr.items.map fun x => match atI c.s.items x.1 with | some t => t.cols.items.length | none => 0, by simp, h3, fun i v hv => ?_⟩
  obtain ⟨t, ht⟩ := h i v (List.getElem?_eq_some_iff.1 hv).1 hv
  refine ⟨t, ht, by rw [List.getElem?_map, hv]; simp [ht], h20 t ?_⟩
  obtain ⟨k, _, hk⟩ := atI_some ht
  exact List.mem_of_getElem? hk
/-- A case that has a bound statement. -/
structure CaseOK (c : Cas) (b1 b2 b3 : Bool) : Prop where
  b1 : b1 = true
  b2 : b2 = true
  b3 : b3 = true
  l1 : 1 ≤ c.fr.items.length
  l3 : c.fr.items.length ≤ 3
  la : c.al.items.length = c.fr.items.length
  fr : ∀ (i : Nat) (x : I64), c.fr.items[i]? = some x → 0 ≤ x.1 ∧ x.1 < (c.s.items.length : Int)
  al : ∀ a : Str, a ∈ c.al.items → a.length ≤ 30
def BQ (c : Cas) (b1 b2 b3 : Bool) (v : D) : Prop := ∃ (b : Bnd) (ok : Bool), v = .tuple [encBnd b, .bool ok] ∧ (ok = true ∨ CaseOK c b1 b2 b3 → b1 = true ∧ b3 = true ∧ b.w = c.w ∧ b.tabs.items = c.fr.items ∧ c.fr.items ≠ [] ∧ (b.src = cn (srcF c c.fr.items.length) ∧ b.vars = cn (varF c c.fr.items.length)) ∧ ∃ W, WOK c.s.items c.fr.items W)
attribute [local irreducible] wpI endP
theorem bound13 (c : Cas) (b1 b2 b3 : Bool) (h24 : callP (XG G) TT 24 [sl 5 encTbl c.s] = some (.bool b1)) (h39 : b1 = true → callP (XG G) TT 39 [sl 5 encTbl c.s] = some (.bool b2)) (h42 : callP (XG G) TT 42 [c.w.enc, .int .i64 8] = some (.bool b3))
    (h20 : b1 = true → ∀ t ∈ c.s.items, t.cols.items.length ≤ 20) :
    ∃ (b : Bnd) (ok : Bool), callP (XG G) TT 13 [encCas c] = some (.tuple [encBnd b, .bool ok]) ∧ (ok = true ∨ CaseOK c b1 b2 b3 → b1 = true ∧ b3 = true ∧ b.w = c.w ∧ b.tabs.items = c.fr.items ∧ c.fr.items ≠ [] ∧ (b.src = cn (srcF c c.fr.items.length) ∧ b.vars = cn (varF c c.fr.items.length)) ∧ ∃ W, WOK c.s.items c.fr.items W) := by
  suffices h : ∃ v, callP (XG G) TT 13 [encCas c] = some v ∧ BQ c b1 b2 b3 v by
    obtain ⟨v, h1, b, ok, rfl, h2⟩ := h; exact ⟨b, ok, h1, h2⟩
  have hno : ∀ v, v = D.tuple [encBnd ⟨⟨none, by simp⟩, c.w, ⟨none, by simp⟩, ⟨none, by simp⟩⟩, .bool false] → ¬ CaseOK c b1 b2 b3 → BQ c b1 b2 b3 v := fun v e hn => ⟨_, false, e, fun h => h.elim (fun h => by cases h) (fun h => absurd h hn)⟩
  refine callP_body T13 rfl (by simp only [go_sem]) ?_
  unfold Tryd.f13
  simp only [Option.getD_some]
  have hfl := c.fr.lt
  simp only [ExR_eq] at h42
  simp +decide only[go_sem,reduceAdd,reduceMul,reduceSub,h24,h42]
  cases b1
  · refine gw (an h24 h42) ?_
    simp +decide only[go_sem,reduceAdd,reduceMul,reduceSub,h24,h42]
    exact hno _ rfl (fun h => by cases h.b1)
  have h39 := h39 rfl
  cases b2
  · refine gw (an h24 (an h42 h39)) ?_
    simp +decide only[go_sem,reduceAdd,reduceMul,reduceSub,h24,h42,h39]
    exact hno _ rfl (fun h => by cases h.b2)
  by_cases l1 : (c.fr.items.length : Int) < 1
  · refine gw (an h24 (an h42 (an h39 l1))) ?_
    simp +decide only[go_sem,reduceAdd,reduceMul,reduceSub,h24,h42,h39,l1]
    exact hno _ rfl (fun h => by have := h.l1; omega)
  by_cases l3 : (3 : Int) < (c.fr.items.length : Int)
  · refine gw (an h24 (an h42 (an h39 (an l1 l3)))) ?_
    simp +decide only[go_sem,reduceAdd,reduceMul,reduceSub,h24,h42,h39,l1,l3]
    exact hno _ rfl (fun h => by have := h.l3; omega)
  cases la : ((c.al.items.length : Int) != (c.fr.items.length : Int))
  · cases b3
    · refine gw (an h24 (an h42 (an h39 (an l1 (an l3 la))))) ?_
      simp +decide only[go_sem,reduceAdd,reduceMul,reduceSub,h24,h42,h39,l1,l3,la]
      exact hno _ rfl (fun h => by cases h.b3)
    have hal : c.al.items.length = c.fr.items.length := by simp at la; omega
    refine gw (an h24 (an h42 (an h39 (an l1 (an l3 la))))) ?_
    refine wpI_loopC (T := Nat × List Src × List Col) [1, 2, 4, 5] rfl (by simp +decide only[go_sem,reduceAdd,reduceMul,reduceSub,h24,h42,h39,l1,l3,la]; exact rfl) (fun p => [(5, .int .i64 (p.1 : Int))]) (fun p => [(4, [.int .i64 5, .str [], .nil, .nil, .nil, .nil, .nil, .nil, .nil, gT 1 2 (p.2.1.map encSrc), .int .i64 c.w.a.1, .str c.w.s, .str c.w.t, .int .i64 c.w.b.1, .int .i64 c.w.c.1, .int .i64 c.w.d.1, .str c.w.u, sl 8 encEx c.w.args, .nil, .nil, .int .i64 0, .str [], .int .i64 0, gT 0 1 ((c.fr.items.take p.1).map I), gT 2 5 (p.2.2.map vr), .nil])]) (fun p => ⟨[], gV p.1 (p.2.2.map vr)⟩) (BInv c) (fun p => c.fr.items.length - p.1) (0, [], []) (by simp +decide only[go_sem,reduceAdd,reduceMul,reduceSub,h24,h42,h39,l1,l3,la] <;> rfl) (by exact ⟨Nat.zero_le _, rfl, Nat.le_refl _, fun _ => rfl, rfl, rfl, fun i x h => absurd h (Nat.not_lt_zero _)⟩) ?_
    rintro ⟨k, S, V⟩ hI
    obtain ⟨hk, hS, hV, hz, hsv, hvv, hok⟩ := hI
    simp only at hk hS hV hz hsv hvv hok ⊢
    have hSl : S.length < 4611686018427387904 := by omega
    have hVl : V.length < 4611686018427387904 := by omega
    have hTl : (c.fr.items.take k).length < 4611686018427387904 := Nat.lt_of_le_of_lt (List.length_take_le' ..) c.fr.lt
    have sc1 : ∀ g, stripF g (gT 1 2 (S.map encSrc)) = sl 2 encSrc (cn S) := fun g => by rw [strip_gT 1 2 (stripFL_map encSrc (fun _ => rfl) S), out_cn 2 encSrc hSl]
    have sc2 : ∀ g, stripF g (gT 0 1 ((c.fr.items.take k).map I)) = sl 1 I (cn (c.fr.items.take k)) := fun g => by rw [strip_gT 0 1 (stripFL_map I strip_I _), out_cn 1 I hTl]
    have sc3 : ∀ g, stripF g (gT 2 5 (V.map vr)) = sl 5 vr (cn V) := fun g => by rw [strip_gT 2 5 (strip_vrs V), out_cn 5 vr hVl]
    have hbad : ∀ v, v = D.tuple [encBnd ⟨cn S, c.w, cn (c.fr.items.take k), cn V⟩, .bool false] → ¬ CaseOK c true true true → BQ c true true true v := fun v e hn => ⟨_, false, e, fun h => h.elim (fun h => by cases h) (fun h => absurd h hn)⟩
    have o1 := fun l => okC_gT 1 2 l
    have o2 := fun l => okC_gT 0 1 l
    have o3 := fun l => okC_gT 2 5 l
    have q1' := fun l => cells_gT 1 2 l
    have q2' := fun l => cells_gT 0 1 l
    have q3' := fun l => cells_gT 2 5 l
    by_cases h1 : k < c.fr.items.length
    · have l_x : ((k : Int) < ((c.fr.items).length : Int)) = True := by simp; omega
      obtain ⟨x, g_x⟩ : ∃ a_, (c.fr.items)[k]? = some a_ := ⟨_, List.getElem?_eq_getElem (by assumption)⟩
      have w_x := wrap_nat k (by omega)
      obtain ⟨a, g_a⟩ : ∃ a, c.al.items[k]? = some a := ⟨_, List.getElem?_eq_getElem (by omega)⟩
      by_cases x0 : x.1 < 0
      · repeat (first|(with_reducible first|refine q1 ?_|refine q2 ?_|refine q3 ?_|refine q4 ?_|refine q5 ?_|refine q6 ?_|refine q7 ?_|refine q8 ?_|refine q9 ?_|refine q10 ?_|refine q11 ?_|refine q12 (by decide) ?_)|((first|with_reducible refine q13 ?_|((with_reducible refine q14 ?_ ?_);focus exact rfl));intro K hK;simp +decide only[go_sem,reduceAdd,reduceMul,reduceSub,h24,h42,h39,l1,l3,la,sc1,sc2,sc3,o1,o2,o3,q1',q2',q3',l_x,g_x,w_x,g_a,x0];with_reducible refine hK _ ?_;clear hK K)|(with_reducible refine q15 ?_;intro K J hK hJ;simp +decide only[go_sem,reduceAdd,reduceMul,reduceSub,h24,h42,h39,l1,l3,la,sc1,sc2,sc3,o1,o2,o3,q1',q2',q3',l_x,g_x,w_x,g_a,x0];(with_reducible first|refine hK ?_|refine hJ ?_);clear hK hJ K J))
        simp +decide only[go_sem,reduceAdd,reduceMul,reduceSub,h24,h42,h39,l1,l3,la,sc1,sc2,sc3,o1,o2,o3,q1',q2',q3',l_x,g_x,w_x,g_a,x0]
        exact hbad _ rfl (fun h => by have := (h.fr k x g_x).1; omega)
      by_cases x1 : (c.s.items.length : Int) ≤ x.1
      · repeat (first|(with_reducible first|refine q1 ?_|refine q2 ?_|refine q3 ?_|refine q4 ?_|refine q5 ?_|refine q6 ?_|refine q7 ?_|refine q8 ?_|refine q9 ?_|refine q10 ?_|refine q11 ?_|refine q12 (by decide) ?_)|((first|with_reducible refine q13 ?_|((with_reducible refine q14 ?_ ?_);focus exact rfl));intro K hK;simp +decide only[go_sem,reduceAdd,reduceMul,reduceSub,h24,h42,h39,l1,l3,la,sc1,sc2,sc3,o1,o2,o3,q1',q2',q3',l_x,g_x,w_x,g_a,x0,x1];with_reducible refine hK _ ?_;clear hK K)|(with_reducible refine q15 ?_;intro K J hK hJ;simp +decide only[go_sem,reduceAdd,reduceMul,reduceSub,h24,h42,h39,l1,l3,la,sc1,sc2,sc3,o1,o2,o3,q1',q2',q3',l_x,g_x,w_x,g_a,x0,x1];(with_reducible first|refine hK ?_|refine hJ ?_);clear hK hJ K J))
        simp +decide only[go_sem,reduceAdd,reduceMul,reduceSub,h24,h42,h39,l1,l3,la,sc1,sc2,sc3,o1,o2,o3,q1',q2',q3',l_x,g_x,w_x,g_a,x0,x1]
        exact hbad _ rfl (fun h => by have := (h.fr k x g_x).2; omega)
      by_cases x2 : (30 : Int) < (a.length : Int)
      · repeat (first|(with_reducible first|refine q1 ?_|refine q2 ?_|refine q3 ?_|refine q4 ?_|refine q5 ?_|refine q6 ?_|refine q7 ?_|refine q8 ?_|refine q9 ?_|refine q10 ?_|refine q11 ?_|refine q12 (by decide) ?_)|((first|with_reducible refine q13 ?_|((with_reducible refine q14 ?_ ?_);focus exact rfl));intro K hK;simp +decide only[go_sem,reduceAdd,reduceMul,reduceSub,h24,h42,h39,l1,l3,la,sc1,sc2,sc3,o1,o2,o3,q1',q2',q3',l_x,g_x,w_x,g_a,x0,x1,x2];with_reducible refine hK _ ?_;clear hK K)|(with_reducible refine q15 ?_;intro K J hK hJ;simp +decide only[go_sem,reduceAdd,reduceMul,reduceSub,h24,h42,h39,l1,l3,la,sc1,sc2,sc3,o1,o2,o3,q1',q2',q3',l_x,g_x,w_x,g_a,x0,x1,x2];(with_reducible first|refine hK ?_|refine hJ ?_);clear hK hJ K J))
        simp +decide only[go_sem,reduceAdd,reduceMul,reduceSub,h24,h42,h39,l1,l3,la,sc1,sc2,sc3,o1,o2,o3,q1',q2',q3',l_x,g_x,w_x,g_a,x0,x1,x2]
        exact hbad _ rfl (fun h => by have := h.al a (List.mem_of_getElem? g_a); omega)
      obtain ⟨n, hn⟩ : ∃ n : Nat, x.1 = n := ⟨x.1.toNat, by omega⟩
      obtain ⟨t, ht⟩ : ∃ t, c.s.items[n]? = some t := ⟨_, List.getElem?_eq_getElem (by omega)⟩
      have ht' : atI c.s.items x.1 = some t := by rw [hn]; exact ht
      have h20t := h20 rfl t (List.mem_of_getElem? ht)
      have cv := vars37 (G := G) t h20t
      simp only [encTbl_eq] at cv
      have e1 := fun m => el_gT m 0 1 ((c.fr.items.take k).map I)
      have e2 := fun m => el_gT m 1 2 (S.map encSrc)
      have e3 := fun m => el_gT m 2 5 (V.map vr)
      have p1 := g_app0 k (V.map vr) ((c.fr.items.take k).map I) (.int .i64 x.1) (by rw [List.length_map, List.length_take]; omega) (fun h => by rw [hz h]; rfl)
      have p2 := g_app1 k (V.map vr) (S.map encSrc) (.agg [.str t.name, .str a]) (by rw [List.length_map, hS]) (fun h => by rw [hz h]; rfl)
      have p3 := g_app2 k (V.map vr) (t.cols.items.map vr)
      have m1 : ((c.fr.items.take k).length + 1 ≤ 16777216) = True := eq_true (by rw [List.length_take]; omega)
      have m2 : (S.length + 1 ≤ 16777216) = True := eq_true (by omega)
      have m3 : (V.length + t.cols.items.length ≤ 16777216) = True := eq_true (by omega)
      repeat (first|(with_reducible first|refine q1 ?_|refine q2 ?_|refine q3 ?_|refine q4 ?_|refine q5 ?_|refine q6 ?_|refine q7 ?_|refine q8 ?_|refine q9 ?_|refine q10 ?_|refine q11 ?_|refine q12 (by decide) ?_)|((first|with_reducible refine q13 ?_|((with_reducible refine q14 ?_ ?_);focus exact rfl));intro K hK;simp +decide only[go_sem,reduceAdd,reduceMul,reduceSub,h24,h42,h39,l1,l3,la,sc1,sc2,sc3,o1,o2,o3,q1',q2',q3',l_x,g_x,w_x,g_a,x0,x1,x2,ht',cv,e1,e2,e3,p1,p2,p3,m1,m2,m3,List.length_map];with_reducible refine hK _ ?_;clear hK K)|(with_reducible refine q15 ?_;intro K J hK hJ;simp +decide only[go_sem,reduceAdd,reduceMul,reduceSub,h24,h42,h39,l1,l3,la,sc1,sc2,sc3,o1,o2,o3,q1',q2',q3',l_x,g_x,w_x,g_a,x0,x1,x2,ht',cv,e1,e2,e3,p1,p2,p3,m1,m2,m3,List.length_map];(with_reducible first|refine hK ?_|refine hJ ?_);clear hK hJ K J))
      refine ⟨(k + 1, S ++ [⟨t.name, a⟩], V ++ t.cols.items), ?_, ⟨by simp only; omega, by simp [hS], by simp only [List.length_append]; omega, fun h => by simp at h, by simp only; rw [srcF_succ g_x g_a ht', hsv], by simp only; rw [varF_succ g_x ht', hvv], fun i y hi hy => ?_⟩, by simp only; omega⟩
      · rw [List.take_add_one, g_x, List.map_append, List.map_append, List.map_append]
        exact by simp +decide only[go_sem,reduceAdd,reduceMul,reduceSub,h24,h42,h39,l1,l3,la,sc1,sc2,sc3,o1,o2,o3,q1',q2',q3',l_x,g_x,w_x,g_a,x0,x1,x2] <;> rfl
      · by_cases hik : i < k
        · exact hok i y hik hy
        · obtain rfl : i = k := by simp only at hi; omega
          rw [g_x] at hy; cases hy
          exact ⟨t, ht'⟩
    · have l_e1 : ((k : Int) < ((c.fr.items).length : Int)) = False := by simp; omega
      have hkn : k = c.fr.items.length := by omega
      obtain ⟨W, hW⟩ := wok_of (c := c) (by omega) (h20 rfl) (fun i x hi hx => hok i x (by omega) hx)
      have htk : c.fr.items.take k = c.fr.items := by rw [hkn, List.take_length]
      have hci : (cn c.fr.items).items = c.fr.items := cn_items c.fr.lt
      rw [htk] at sc2
      rw [htk]
      obtain ⟨kk, h43⟩ := within43 (G := G) c.s ⟨cn S, c.w, cn c.fr.items, cn V⟩ W (by rw [hci]; exact hW) (numS c.fr.items.length) c.w
      rw [numS_eq] at h43
      simp only [encBnd_eq, ExR_eq] at h43
      have t0' : Int.toNat 0 = 0 := rfl
      have s0' : ∀ g, stripFL g (List.take c.fr.items.length [D.int IntKind.i64 0, D.int IntKind.i64 1, D.int IntKind.i64 2]) = List.take c.fr.items.length [D.int IntKind.i64 0, D.int IntKind.i64 1, D.int IntKind.i64 2] := fun g => by
        have : [D.int IntKind.i64 0, D.int IntKind.i64 1, D.int IntKind.i64 2] = numL.map I := rfl
        rw [this, ← List.map_take]; exact stripFL_map I strip_I _
      have hf3 : ((c.fr.items.length : Int) ≤ ((3 : Nat) : Int)) = True := eq_true (by omega)
      repeat (first|(with_reducible first|refine q1 ?_|refine q2 ?_|refine q3 ?_|refine q4 ?_|refine q5 ?_|refine q6 ?_|refine q7 ?_|refine q8 ?_|refine q9 ?_|refine q10 ?_|refine q11 ?_|refine q12 (by decide) ?_)|((first|with_reducible refine q13 ?_|((with_reducible refine q14 ?_ ?_);focus exact rfl));intro K hK;simp +decide only[go_sem,reduceAdd,reduceMul,reduceSub,h24,h42,h39,l1,l3,la,sc1,sc2,sc3,o1,o2,o3,q1',q2',q3',l_e1,hf3,t0',s0',h43];with_reducible refine hK _ ?_;clear hK K)|(with_reducible refine q15 ?_;intro K J hK hJ;simp +decide only[go_sem,reduceAdd,reduceMul,reduceSub,h24,h42,h39,l1,l3,la,sc1,sc2,sc3,o1,o2,o3,q1',q2',q3',l_e1,hf3,t0',s0',h43];(with_reducible first|refine hK ?_|refine hJ ?_);clear hK hJ K J))
      simp +decide only[go_sem,reduceAdd,reduceMul,reduceSub,h24,h42,h39,l1,l3,la,sc1,sc2,sc3,o1,o2,o3,q1',q2',q3',l_e1]
      exact ⟨⟨cn S, c.w, cn c.fr.items, cn V⟩, kk, rfl, fun _ => ⟨rfl, rfl, rfl, hci, fun e => by rw [e] at l1; exact l1 (by decide), ⟨by rw [hsv, hkn], by rw [hvv, hkn]⟩, W, hW⟩⟩
  · refine gw (an h24 (an h42 (an h39 (an l1 (an l3 la))))) ?_
    simp +decide only[go_sem,reduceAdd,reduceMul,reduceSub,h24,h42,h39,l1,l3,la]
    exact hno _ rfl (fun h => by have := h.la; simp at la; omega)
end Go.Eng
