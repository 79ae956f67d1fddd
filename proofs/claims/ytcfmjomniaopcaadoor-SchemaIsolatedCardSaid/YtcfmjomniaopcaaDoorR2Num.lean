/- A part of the proof: see the last text. -/
import Derived.Test.YtcfmjomniaopcaaDoorR2Add1
set_option linter.unusedSimpArgs false
set_option linter.unusedVariables false
/- Numbers of columns in a box of their own; foreign keys of a schema that lies in boxes. -/
namespace Go.Eng
open Go Go.Proofs
open Nat (reduceAdd reduceMul reduceSub)
set_option maxRecDepth 20000
set_option maxHeartbeats 32000000
attribute [local irreducible] wpI endP
/-- The numbers' box behind those that were there. -/
def NumB (B gj : List (List D)) (d : D) (acc : List I64) : Prop := (acc = [] ∧ d = .nil) ∨ (acc ≠ [] ∧ ∃ gj0, gj = gj0 ++ [acc.map I] ∧ d = .rsl (B.length + gj0.length) 0 acc.length 1)
theorem NumB.ok {B gj : List (List D)} {d : D} {acc : List I64} (h : NumB B gj d acc) : d.okC = true := by
  rcases h with ⟨_, rfl⟩ | ⟨_, _, _, rfl⟩ <;> rfl
theorem NumB.cells {B gj : List (List D)} {d : D} {acc : List I64} (h : NumB B gj d acc) : d.cells = [d] := by
  rcases h with ⟨_, rfl⟩ | ⟨_, _, _, rfl⟩ <;> rfl
theorem NumB.elems {B gj : List (List D)} {tk : List Nat} {d : D} {acc : List I64} (h : NumB B gj d acc) : elemsOf ⟨B ++ gj, tk⟩ 1 d = some (acc.map I) := by
  rcases h with ⟨rfl, rfl⟩ | ⟨h0, gj0, rfl, rfl⟩
  · rfl
  · have hb : (B ++ (gj0 ++ [acc.map I]))[B.length + gj0.length]? = some (acc.map I) := by
      rw [List.getElem?_append_right (by omega)]; simp
    have := chunks_flat (f := I) (k := 1) I_len I_mk acc
    rw [flat_I] at this
    simp only [elemsOf, elemsR, hb, List.length_map, Nat.mul_one, Nat.zero_add, Nat.le_refl, decide_true, cond_true, List.drop_zero, this]
theorem NumB.app {B gj : List (List D)} {tk : List Nat} {d : D} {acc : List I64} (h : NumB B gj d acc) (x : I64) : ∃ d' gj', appendB 1 ⟨B ++ gj, tk⟩ d (acc.map I) [I x] = some (d', ⟨B ++ gj', tk⟩) ∧ NumB B gj' d' (acc ++ [x]) := by
  rcases h with ⟨rfl, rfl⟩ | ⟨h0, gj0, rfl, rfl⟩
  · refine ⟨.rsl (B.length + gj.length) 0 1 1, gj ++ [[I x]], ?_, .inr ⟨by simp, gj, rfl, rfl⟩⟩
    simp only [appB_nil, List.length_append, List.length_singleton, List.append_assoc, List.map_nil]
    rfl
  · have hb : (B ++ (gj0 ++ [acc.map I]))[B.length + gj0.length]? = some (acc.map I) := by
      rw [List.getElem?_append_right (by omega)]; simp
    have hp : 0 < acc.length := List.length_pos_iff.2 h0
    refine ⟨.rsl (B.length + (gj0 ++ [[]]).length) 0 (acc ++ [x]).length 1, gj0 ++ [[]] ++ [(acc ++ [x]).map I], ?_, .inr ⟨by simp, gj0 ++ [[]], rfl, rfl⟩⟩
    have hset : (B ++ (gj0 ++ [acc.map I])).set (B.length + gj0.length) [] = B ++ (gj0 ++ [[]]) := by
      rw [List.set_append_right _ _ (by omega), Nat.add_sub_cancel_left, List.set_append_right _ _ (by omega), Nat.sub_self]; rfl
    have hfl : flat (acc.map I ++ [I x]) = (acc ++ [x]).map I := by
      rw [show acc.map I ++ [I x] = (acc ++ [x]).map I by simp, flat_I]
    simp only [appB_rsl, hb, decide_true, Bool.true_and, List.length_map, Nat.mul_one, hp, cond_true, hset, hfl]
    simp
theorem NumB.boxS {B gj : List (List D)} {d : D} {acc : List I64} (h : NumB B gj d acc) (hB : 0 < B.length) : BoxS I (B ++ gj) 1 d acc := by
  rcases h with h | ⟨h0, gj0, rfl, rfl⟩
  · exact .inl h
  · refine .inr ⟨h0, _, by omega, rfl, ?_⟩
    rw [List.getElem?_append_right (by omega), flat_I]; simp
theorem scalL_I : ∀ l : List I64, scalL (l.map I) = true
  | [] => rfl
  | _ :: r => scalL_I r
def NumQ (B : List (List D)) (tk : List Nat) (o : Option (List I64)) (r : D) (m : Mem) : Prop := ∃ gj, m = ⟨B ++ gj, tk⟩ ∧ match o with
  | none => r = .tuple [.nil, .bool false]
  | some l => ∃ d, r = .tuple [d, .bool true] ∧ NumB B gj d l
theorem numbers97B (t : TblC) (nD cD kD fD hD : D) (hx : nD = .str t.name) (s : Sl Str) (hs : s.items.length ≤ 100) (B : List (List D)) (tk : List Nat) (ht : Sees B (.agg [nD, cD, kD, fD, hD]) (encTblC t)) :
    ∃ r m', callR (XG GK) TT 100097 ⟨B, tk⟩ [.agg [nD, cD, kD, fD, hD], sl 1 S s] = some (r, m') ∧ NumQ B tk (numsL t.cols.items [] s.items) r m' := by
  have hcol : ∀ gj nm, callR (XG GK) TT 200027 ⟨B ++ gj, tk⟩ [.agg [nD, cD, kD, fD, hD], .str nm] = some (fndT (fnd (fun t : Col => t.name == nm) 0 t.cols.items), ⟨B ++ gj, tk⟩) := fun gj nm =>
    callR_frz T27 T200027 (by rw [frzL_cons, frzL_cons, frzL_nil, ht _ (AgB.app _ _ _)]; rfl) (by simp only [go_sem]) (col27C t nm) (scal_fndT _)
  refine callR_body T100097 rfl ?_
  unfold Tryd.f97
  simp only [Option.getD_some]
  simp +decide only[go_sem,reduceAdd,reduceMul,reduceSub]
  refine gw trivial ?_
  refine wpI_loopC (T := Nat × List I64 × D × List (List D)) [2, 6, 11, 12, 13] rfl (by simp +decide only[go_sem,reduceAdd,reduceMul,reduceSub]; exact rfl) (fun p => [(13, .int .i64 (p.1 : Int)), (6, p.2.2.1)]) (fun _ => []) (fun p => ⟨B ++ p.2.2.2, tk⟩) (fun p => p.1 ≤ s.items.length ∧ p.2.1.length = p.1 ∧ numsL t.cols.items p.2.1 (s.items.drop p.1) = numsL t.cols.items [] s.items ∧ NumB B p.2.2.2 p.2.2.1 p.2.1) (fun p => s.items.length - p.1) (0, [], .nil, []) (by simp +decide only[go_sem,reduceAdd,reduceMul,reduceSub] <;> rfl) (by exact ⟨Nat.zero_le _, rfl, rfl, .inl ⟨rfl, rfl⟩⟩) ?_
  rintro ⟨k, acc, d, gj⟩ ⟨hk, ha, hP, hN⟩
  simp only at hk ha hP hN ⊢
  have hno := hN.ok
  have hnc := hN.cells
  by_cases h : k < s.items.length
  · have l_x : ((k : Int) < ((s.items).length : Int)) = True := by simp; omega
    obtain ⟨x, g_x⟩ : ∃ a_, (s.items)[k]? = some a_ := ⟨_, List.getElem?_eq_getElem (by assumption)⟩
    have w_x := wrap_nat k (by omega)
    rw [dropc g_x, numsL] at hP
    have hc := hcol gj x
    have hlt := t.cols.lt
    have fl := @fnd_lt _ (fun c : Col => c.name == x) t.cols.items
    generalize fnd (fun c : Col => c.name == x) 0 t.cols.items = o at *
    cases o with
    | none =>
      simp only [fndT] at hc hP
      refine gw (an hno (an hnc (an l_x (an g_x (an w_x hc))))) ?_
      simp +decide only[go_sem,reduceAdd,reduceMul,reduceSub,hno,hnc,l_x,g_x,w_x]
      rw [← hP]
      exact ⟨gj, rfl, rfl⟩
    | some j =>
      have fl := fl rfl
      simp only [fndT] at hc hP
      have hl : ((acc.map I).length + 1 ≤ 16777216) = True := eq_true (by rw [List.length_map]; omega)
      have he := hN.elems (tk := tk)
      obtain ⟨d', gj', h1, h2⟩ := hN.app (tk := tk) (iN j)
      rw [show I (iN j) = .int .i64 (j : Int) by rw [I, iN_1 (show j < 4611686018427387904 by omega)]] at h1
      refine gw (an hno (an hnc (an l_x (an g_x (an w_x (an hc (an hl (an he h1)))))))) ?_
      exact ⟨(k + 1, acc ++ [iN j], d', gj'), by simp +decide only[go_sem,reduceAdd,reduceMul,reduceSub,hno,hnc,l_x,g_x,w_x] <;> rfl, ⟨by simp only; omega, by simp [ha], hP, h2⟩, by simp only; omega⟩
  · have l_x : ((k : Int) < ((s.items).length : Int)) = False := by simp; omega
    rw [List.drop_eq_nil_of_le (by omega), numsL] at hP
    refine gw (an hno (an hnc l_x)) ?_
    simp +decide only[go_sem,reduceAdd,reduceMul,reduceSub,hno,hnc,l_x]
    rw [← hP]
    exact ⟨gj, rfl, d, rfl, hN⟩
theorem fgn99I (s : Sl TblC) (t : TblC) (f : FgS) (ht : s.items[s.items.length - 1]? = some t) (hf : f.cols.items.length ≤ 20 ∧ f.refs.items.length ≤ 20) (m : Mem) (sD : D) (hsD : stripF (frzM m m.boxes.length) sD = sl 5 encTblC s) :
    callR (XG GK) TT 200099 m [sD, encFgS f] = some (fgTC (fgnOfC (fun p l => fnd p 0 l) s.items t.cols.items f), m) := by
  have hpos : s.items.length - 1 < s.items.length := (List.getElem?_eq_some_iff.1 ht).1
  have hslt := s.lt
  refine callF_val T200099 (l := [sl 5 encTblC s, encFgS f]) (by rw [frzL_cons, frzL_cons, frzL_nil, hsD, strip_FgS]) rfl ?_
  unfold Tryd.f99
  simp only [Option.getD_some]
  have w1 : IntKind.i64.wrap ((s.items.length : Int) - 1) = ((s.items.length - 1 : Nat) : Int) := by rw [wrap_fit _ (by omega)]; omega
  obtain ⟨r1, m1, c1, hq1⟩ := numbers97B t (.str t.name) (sl 6 encCol t.cols) (sl 1 (sl 1 I) t.keys) (sl 3 encFgn t.fgns) t.chk.1 rfl f.cols (by omega) [] [] (.of fun g => strip_TblC t)
  have c2 := find25C (G := GK) s f.table
  unfold fgnOfC
  have hl1 := numsL_len t.cols.items f.cols.items []
  generalize numsL t.cols.items [] f.cols.items = o1 at *
  have fl := @fnd_lt _ (fun t : TblC => t.name == f.table) s.items
  generalize fnd (fun t : TblC => t.name == f.table) 0 s.items = o2 at *
  obtain ⟨gj, rfl, hq1⟩ := hq1
  simp only [List.nil_append] at c1
  have hsub : ∀ m : Mem, Sub ⟨[], []⟩ m = True := fun m => eq_true fun id cs h => by simp at h
  cases o1 with
  | none =>
    simp only at hq1
    subst hq1
    cases o2 with
    | none =>
      simp only [fndT] at c2
      simp +decide only[go_sem,reduceAdd,reduceMul,reduceSub,true_and,false_or,hsub,w1,ht,c2,c1]
      repeat (first|(with_reducible first|refine q1 ?_|refine q2 ?_|refine q3 ?_|refine q4 ?_|refine q5 ?_|refine q6 ?_|refine q7 ?_|refine q8 ?_|refine q9 ?_|refine q10 ?_|refine q11 ?_|refine q12 (by decide) ?_)|((first|with_reducible refine q13 ?_|((with_reducible refine q14 ?_ ?_);focus exact rfl));intro K hK;simp +decide only[go_sem,reduceAdd,reduceMul,reduceSub,true_and,false_or,hsub,w1,ht,c2,c1];with_reducible refine hK _ ?_;clear hK K)|(with_reducible refine q15 ?_;intro K J hK hJ;simp +decide only[go_sem,reduceAdd,reduceMul,reduceSub,true_and,false_or,hsub,w1,ht,c2,c1];(with_reducible first|refine hK ?_|refine hJ ?_);clear hK hJ K J))
      simp +decide only[go_sem,reduceAdd,reduceMul,reduceSub,true_and,false_or,hsub,w1,ht,c2,c1]
      exact ⟨rfl, rfl⟩
    | some n =>
      simp only [fndT] at c2
      simp +decide only[go_sem,reduceAdd,reduceMul,reduceSub,true_and,false_or,hsub,w1,ht,c2,c1]
      repeat (first|(with_reducible first|refine q1 ?_|refine q2 ?_|refine q3 ?_|refine q4 ?_|refine q5 ?_|refine q6 ?_|refine q7 ?_|refine q8 ?_|refine q9 ?_|refine q10 ?_|refine q11 ?_|refine q12 (by decide) ?_)|((first|with_reducible refine q13 ?_|((with_reducible refine q14 ?_ ?_);focus exact rfl));intro K hK;simp +decide only[go_sem,reduceAdd,reduceMul,reduceSub,true_and,false_or,hsub,w1,ht,c2,c1];with_reducible refine hK _ ?_;clear hK K)|(with_reducible refine q15 ?_;intro K J hK hJ;simp +decide only[go_sem,reduceAdd,reduceMul,reduceSub,true_and,false_or,hsub,w1,ht,c2,c1];(with_reducible first|refine hK ?_|refine hJ ?_);clear hK hJ K J))
      simp +decide only[go_sem,reduceAdd,reduceMul,reduceSub,true_and,false_or,hsub,w1,ht,c2,c1]
      exact ⟨rfl, rfl⟩
  | some a =>
    have ha := hl1 a rfl
    obtain ⟨kd, rfl, hN⟩ := hq1
    have hko := hN.ok
    have hkc := hN.cells
    cases o2 with
    | none =>
      simp only [fndT] at c2
      simp +decide only[go_sem,reduceAdd,reduceMul,reduceSub,true_and,false_or,hsub,w1,ht,c2,c1,hko,hkc]
      repeat (first|(with_reducible first|refine q1 ?_|refine q2 ?_|refine q3 ?_|refine q4 ?_|refine q5 ?_|refine q6 ?_|refine q7 ?_|refine q8 ?_|refine q9 ?_|refine q10 ?_|refine q11 ?_|refine q12 (by decide) ?_)|((first|with_reducible refine q13 ?_|((with_reducible refine q14 ?_ ?_);focus exact rfl));intro K hK;simp +decide only[go_sem,reduceAdd,reduceMul,reduceSub,true_and,false_or,hsub,w1,ht,c2,c1,hko,hkc];with_reducible refine hK _ ?_;clear hK K)|(with_reducible refine q15 ?_;intro K J hK hJ;simp +decide only[go_sem,reduceAdd,reduceMul,reduceSub,true_and,false_or,hsub,w1,ht,c2,c1,hko,hkc];(with_reducible first|refine hK ?_|refine hJ ?_);clear hK hJ K J))
      simp +decide only[go_sem,reduceAdd,reduceMul,reduceSub,true_and,false_or,hsub,w1,ht,c2,c1,hko,hkc]
      exact ⟨rfl, rfl⟩
    | some n =>
      have fl := fl rfl
      simp only [fndT] at c2
      obtain ⟨u, hu⟩ : ∃ u, s.items[n]? = some u := ⟨_, List.getElem?_eq_getElem fl⟩
      have c3 := numbers97C (G := GK) u f.refs (by omega)
      simp only [encTblC_eq] at c3
      simp only [hu]
      have hl2 := numsL_len u.cols.items f.refs.items []
      generalize numsL u.cols.items [] f.refs.items = o3 at *
      cases o3 with
      | none =>
        simp only [numsT] at c3
        have c4 := ixf153 u.keys 154 [.ptr gj.length 0] ⟨gj ++ [[.nil]], []⟩ (fun k => eqI k.items []) (eq_true (by decide)) fun k _ => eq154 k ⟨none, by simp⟩ _ _ (by simp; rfl)
        generalize fnd (fun k : Sl I64 => eqI k.items []) 0 u.keys.items = o4 at *
        obtain ⟨i, hi⟩ : ∃ i, fndI o4 = .int .i64 i := by cases o4 <;> exact ⟨_, rfl⟩
        rw [hi] at c4
        simp +decide only[go_sem,reduceAdd,reduceMul,reduceSub,true_and,false_or,hsub,w1,ht,c2,c1,hko,hkc,hu,c3,c4]
        repeat (first|(with_reducible first|refine q1 ?_|refine q2 ?_|refine q3 ?_|refine q4 ?_|refine q5 ?_|refine q6 ?_|refine q7 ?_|refine q8 ?_|refine q9 ?_|refine q10 ?_|refine q11 ?_|refine q12 (by decide) ?_)|((first|with_reducible refine q13 ?_|((with_reducible refine q14 ?_ ?_);focus exact rfl));intro K hK;simp +decide only[go_sem,reduceAdd,reduceMul,reduceSub,true_and,false_or,hsub,w1,ht,c2,c1,hko,hkc,hu,c3,c4];with_reducible refine hK _ ?_;clear hK K)|(with_reducible refine q15 ?_;intro K J hK hJ;simp +decide only[go_sem,reduceAdd,reduceMul,reduceSub,true_and,false_or,hsub,w1,ht,c2,c1,hko,hkc,hu,c3,c4];(with_reducible first|refine hK ?_|refine hJ ?_);clear hK hJ K J))
        simp +decide only[go_sem,reduceAdd,reduceMul,reduceSub,true_and,false_or,hsub,w1,ht,c2,c1,hko,hkc,hu,c3,c4]
        exact ⟨rfl, rfl⟩
      | some b =>
        have hb := hl2 b rfl
        have hbl : b.length < 4611686018427387904 := by simp at hb; omega
        simp only [numsT] at c3
        rw [out_cn 1 I hbl] at c3
        have c4 := ixf153 u.keys 154 [.ptr gj.length 0] ⟨gj ++ [[sl 1 I (cn b)]], []⟩ (fun k => eqI k.items b) (eq_true (by decide)) fun k _ => by
          have := eq154 k (cn b) ⟨gj ++ [[sl 1 I (cn b)]], []⟩ gj.length (by simp)
          rw [cn_items hbl] at this; exact this
        have fl4 := @fnd_lt _ (fun k : Sl I64 => eqI k.items b) u.keys.items
        have hkl := u.keys.lt
        dsimp only
        generalize fnd (fun k : Sl I64 => eqI k.items b) 0 u.keys.items = o4 at *
        cases o4 with
        | none =>
          simp only [fndI] at c4
          simp +decide only[go_sem,reduceAdd,reduceMul,reduceSub,true_and,false_or,hsub,w1,ht,c2,c1,hko,hkc,hu,c3,c4]
          repeat (first|(with_reducible first|refine q1 ?_|refine q2 ?_|refine q3 ?_|refine q4 ?_|refine q5 ?_|refine q6 ?_|refine q7 ?_|refine q8 ?_|refine q9 ?_|refine q10 ?_|refine q11 ?_|refine q12 (by decide) ?_)|((first|with_reducible refine q13 ?_|((with_reducible refine q14 ?_ ?_);focus exact rfl));intro K hK;simp +decide only[go_sem,reduceAdd,reduceMul,reduceSub,true_and,false_or,hsub,w1,ht,c2,c1,hko,hkc,hu,c3,c4];with_reducible refine hK _ ?_;clear hK K)|(with_reducible refine q15 ?_;intro K J hK hJ;simp +decide only[go_sem,reduceAdd,reduceMul,reduceSub,true_and,false_or,hsub,w1,ht,c2,c1,hko,hkc,hu,c3,c4];(with_reducible first|refine hK ?_|refine hJ ?_);clear hK hJ K J))
          simp +decide only[go_sem,reduceAdd,reduceMul,reduceSub,true_and,false_or,hsub,w1,ht,c2,c1,hko,hkc,hu,c3,c4]
          exact ⟨rfl, rfl⟩
        | some j =>
          have fl4 := fl4 rfl
          simp only [fndI] at c4
          have hj : ((j : Int) < 0) = False := eq_false (by omega)
          simp +decide only[go_sem,reduceAdd,reduceMul,reduceSub,true_and,false_or,hsub,w1,ht,c2,c1,hko,hkc,hu,c3,c4]
          repeat (first|(with_reducible first|refine q1 ?_|refine q2 ?_|refine q3 ?_|refine q4 ?_|refine q5 ?_|refine q6 ?_|refine q7 ?_|refine q8 ?_|refine q9 ?_|refine q10 ?_|refine q11 ?_|refine q12 (by decide) ?_)|((first|with_reducible refine q13 ?_|((with_reducible refine q14 ?_ ?_);focus exact rfl));intro K hK;simp +decide only[go_sem,reduceAdd,reduceMul,reduceSub,true_and,false_or,hsub,w1,ht,c2,c1,hko,hkc,hu,c3,c4,hj];with_reducible refine hK _ ?_;clear hK K)|(with_reducible refine q15 ?_;intro K J hK hJ;simp +decide only[go_sem,reduceAdd,reduceMul,reduceSub,true_and,false_or,hsub,w1,ht,c2,c1,hko,hkc,hu,c3,c4,hj];(with_reducible first|refine hK ?_|refine hJ ?_);clear hK hJ K J))
          simp +decide only[go_sem,reduceAdd,reduceMul,reduceSub,true_and,false_or,hsub,w1,ht,c2,c1,hko,hkc,hu,c3,c4]
          have hal : a.length < 4611686018427387904 := by have := f.cols.lt; simp at ha; omega
          simp only [fgTC, encFgn, iN_1 (show n < 4611686018427387904 by omega), iN_1 (show j < 4611686018427387904 by omega)]
          rcases hN with ⟨rfl, rfl⟩ | ⟨h0, gj0, rfl, rfl⟩
          · exact ⟨rfl, by rw [cn_nil]; rfl⟩
          · have hbx : (gj0 ++ [a.map I] ++ [[sl 1 I (cn b)]])[gj0.length]? = some (a.map I) := by simp
            have hsc : scalL (a.map I) = true := scalL_I a
            have hfz := frz_rsl (m := ⟨gj0 ++ [a.map I] ++ [[sl 1 I (cn b)]], []⟩) (id := gj0.length) (n := a.length) (f := I) (l := a) (by rw [flat_I]; exact hbx) rfl I_len I_mk I_strip
            have hsl : sl 1 I (cn a) = .slice none 1 (a.map I) := by
              rw [← out_cn 1 I hal]
              cases a with
              | nil => exact absurd rfl h0
              | cons x r => rfl
            refine ⟨?_, ?_⟩
            · simp only [frs, frsL, List.length_nil, Nat.zero_add, hbx, hsc]
            · rw [hsl, ← hfz]; simp only [List.length_nil, Nat.zero_add]; rfl
end Go.Eng
