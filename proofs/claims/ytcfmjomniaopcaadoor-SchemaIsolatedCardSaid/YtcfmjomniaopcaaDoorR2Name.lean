/- A part of the proof: see the last text. -/
import Derived.Test.YtcfmjomniaopcaaDoorKR2Kw
set_option linter.unusedSimpArgs false
set_option linter.unusedVariables false
/- Names: the program's test and the reference's are one. -/
namespace Go.Eng
open Go Go.Proofs
open Nat (reduceAdd reduceMul reduceSub)
set_option maxRecDepth 20000
set_option maxHeartbeats 32000000
attribute [local irreducible] wpI endP
theorem nm_wd {b : UInt8} (h : nmB b = true) : wdB b = true := by
  simp only [nmB, nmI, wdB, wdI, ltrI, Bool.or_eq_true] at *
  rcases h with (h | h) | h
  · exact .inl (.inl (.inl h))
  · exact .inl (.inr h)
  · exact .inr h
theorem lo_up {n : Int} (h : loI n = true) : upI n = false := by
  simp only [loI, upI, Bool.and_eq_true, decide_eq_true_eq, Bool.and_eq_false_iff, decide_eq_false_iff_not] at *
  omega
theorem dg_up {n : Int} (h : dgI n = true) : upI n = false := by
  simp only [dgI, upI, Bool.and_eq_true, decide_eq_true_eq, Bool.and_eq_false_iff, decide_eq_false_iff_not] at *
  omega
theorem nm_up {b : UInt8} (h : nmB b = true) : upI b.toNat = false := by
  simp only [nmB, nmI, Bool.or_eq_true, beq_iff_eq] at h
  rcases h with (h | h) | h
  · exact lo_up h
  · exact dg_up h
  · rw [h]; rfl
theorem low_same {b : UInt8} : lowB b = b ↔ upI b.toNat = false := by
  unfold lowB
  cases h : upI b.toNat
  · simp
  · simp only [cond_true, Bool.true_eq_false, iff_false]
    intro e
    simp only [upI, Bool.and_eq_true, decide_eq_true_eq] at h
    have h2 : (b + 32).toNat = b.toNat + 32 := by rw [UInt8.toNat_add]; show (b.toNat + 32) % 256 = _; omega
    rw [e] at h2
    omega
theorem wd_nm {b : UInt8} (h : wdB b = true) (k : upI b.toNat = false) : nmB b = true := by
  simp only [wdB, wdI, ltrI, k, Bool.or_false] at h
  exact h
theorem span_all : ∀ s : Str, spanN s < s.length ↔ s.all wdB = false
  | [] => by simp [spanN]
  | b :: r => by
    have h1 := spanN_le r
    have h2 := span_all r
    simp only [spanN, List.length_cons, List.all_cons]
    cases wdB b
    · simp
    · simp only [cond_true, Bool.true_and, ← h2]; omega
/-- Names. -/
def nameB (s : Str) : Bool := match s with
  | [] => false
  | b :: r => (decide ((b :: r).length ≤ 24) && loI b.toNat) && ((b :: r).all nmB && !decide ((b :: r).map uppB ∈ kwL))
theorem sortedK : ∀ (i j : Nat) (x y : Str), i < j → kwL[i]? = some x → kwL[j]? = some y → Op.bytesLess x y = true := by
  have h : (List.range 47).all (fun i => (List.range 47).all fun j => !decide (i < j) || Op.bytesLess (kwL[i]?.getD []) (kwL[j]?.getD [])) = true := by kernel_rfl
  intro i j x y hij hx hy
  have hn : kwL.length = 47 := rfl
  have hi := (List.getElem?_eq_some_iff.1 hx).1
  have hj := (List.getElem?_eq_some_iff.1 hy).1
  have := List.all_eq_true.1 (List.all_eq_true.1 h i (List.mem_range.2 (hn ▸ hi))) j (List.mem_range.2 (hn ▸ hj))
  simpa [hij, hx, hy] using this
theorem bl_irr : ∀ x : Str, Op.bytesLess x x = false
  | [] => rfl
  | a :: r => by
    have := bl_irr r
    simp only [Op.bytesLess, this, Bool.and_false, Bool.or_false, decide_eq_false_iff_not]
    exact UInt8.lt_irrefl a
theorem bl_trans : ∀ x y z : Str, Op.bytesLess x y = true → Op.bytesLess y z = true → Op.bytesLess x z = true
  | _, [], _, h, _ => by cases h' : (‹List UInt8›) <;> simp [Op.bytesLess] at h
  | _, _ :: _, [], _, h => by simp [Op.bytesLess] at h
  | [], _ :: _, _ :: _, _, _ => rfl
  | a :: x, b :: y, c :: z, h, k => by
    simp only [Op.bytesLess, Bool.or_eq_true, decide_eq_true_eq, Bool.and_eq_true, beq_iff_eq] at *
    rcases h with h | ⟨rfl, h⟩ <;> rcases k with k | ⟨rfl, k⟩
    · exact .inl (UInt8.lt_trans h k)
    · exact .inl h
    · exact .inl k
    · exact .inr ⟨rfl, bl_trans x y z h k⟩
theorem kw165 (s : Str) (hs : s.length ≤ 100) : callP (XG GK) TT 165 [.str s] = some (.bool (decide (s.map uppB ∈ kwL))) := by
  refine callP_val T165 rfl (by simp only [go_sem]) ?_
  unfold Tryd.f165
  simp only [Option.getD_some]
  have c1 := upp183 (G := GK) s hs
  obtain ⟨v, c2, n, b, rfl, hb⟩ := search182 (G := GK) kwL (s.map uppB) (by decide) sortedK bl_irr (fun i j x y hij hx hy h => bl_trans _ _ _ (sortedK i j x y hij hx hy) h)
  have g1 : GK 1 = some [.slice none 1 (kwL.map .str)] := rfl
  generalize kwL = l at *
  have hst : stripFL noR (l.map D.str) = l.map D.str := stripFL_map D.str (fun _ => rfl) l
  simp +decide only[go_sem,reduceAdd,reduceMul,reduceSub,g1,c1,c2,hst]
  refine gw (an g1 (an c1 (an c2 hst))) ?_
  simp +decide only[go_sem,reduceAdd,reduceMul,reduceSub,g1,c1,c2,hst]
  simp [← hb]
theorem name123 (s : Str) (hs : s.length ≤ 100) : callP (XG GK) TT 123 [.str s] = some (.bool (nameB s)) := by
  refine callP_val T123 rfl (by simp only [go_sem]) ?_
  unfold Tryd.f123
  simp only [Option.getD_some]
  have c1 := low164 (G := GK) s hs
  have c2 := kw165 s hs
  have c3 : ∀ m, callR (XG GK) TT 162 m [.str s, .func 163 []] = some (.int .i64 (spanN s : Nat), m) := fun m => span162 m s (by omega)
  cases s with
  | nil =>
    simp +decide only[go_sem,reduceAdd,reduceMul,reduceSub,let161,c1,c2,c3]
    repeat (first|(with_reducible first|refine q1 ?_|refine q2 ?_|refine q3 ?_|refine q4 ?_|refine q5 ?_|refine q6 ?_|refine q7 ?_|refine q8 ?_|refine q9 ?_|refine q10 ?_|refine q11 ?_|refine q12 (by decide) ?_)|((first|with_reducible refine q13 ?_|((with_reducible refine q14 ?_ ?_);focus exact rfl));intro K hK;simp +decide only[go_sem,reduceAdd,reduceMul,reduceSub,let161,c1,c2,c3];with_reducible refine hK _ ?_;clear hK K)|(with_reducible refine q15 ?_;intro K J hK hJ;simp +decide only[go_sem,reduceAdd,reduceMul,reduceSub,let161,c1,c2,c3];(with_reducible first|refine hK ?_|refine hJ ?_);clear hK hJ K J))
    simp +decide only[go_sem,reduceAdd,reduceMul,reduceSub,let161,c1,c2,c3]
    rfl
  | cons b r =>
    generalize hS : b :: r = s at *
    have n0 : (s == []) = false := by rw [← hS]; rfl
    have n1 : atI s 0 = some b := by rw [← hS]; rfl
    have nB : nameB s = ((decide (s.length ≤ 24) && loI b.toNat) && (s.all nmB && !decide (s.map uppB ∈ kwL))) := by rw [← hS]; rfl
    have hb : b ∈ s := by rw [← hS]; exact List.mem_cons_self
    rw [nB]
    generalize decide (s.map uppB ∈ kwL) = kw at *
    simp +decide only[go_sem,reduceAdd,reduceMul,reduceSub,let161,c1,c2,c3,n0,n1]
    by_cases h1 : (24 : Int) < (s.length : Int)
    · repeat (first|(with_reducible first|refine q1 ?_|refine q2 ?_|refine q3 ?_|refine q4 ?_|refine q5 ?_|refine q6 ?_|refine q7 ?_|refine q8 ?_|refine q9 ?_|refine q10 ?_|refine q11 ?_|refine q12 (by decide) ?_)|((first|with_reducible refine q13 ?_|((with_reducible refine q14 ?_ ?_);focus exact rfl));intro K hK;simp +decide only[go_sem,reduceAdd,reduceMul,reduceSub,let161,c1,c2,c3,n0,n1,h1];with_reducible refine hK _ ?_;clear hK K)|(with_reducible refine q15 ?_;intro K J hK hJ;simp +decide only[go_sem,reduceAdd,reduceMul,reduceSub,let161,c1,c2,c3,n0,n1,h1];(with_reducible first|refine hK ?_|refine hJ ?_);clear hK hJ K J))
      simp +decide only[go_sem,reduceAdd,reduceMul,reduceSub,let161,c1,c2,c3,n0,n1,h1]
      simp only [decide_eq_false (show ¬ s.length ≤ 24 by omega), Bool.false_and]
    rw [decide_eq_true (show s.length ≤ 24 by omega), Bool.true_and]
    cases h2 : (ltrI b.toNat)
    · repeat (first|(with_reducible first|refine q1 ?_|refine q2 ?_|refine q3 ?_|refine q4 ?_|refine q5 ?_|refine q6 ?_|refine q7 ?_|refine q8 ?_|refine q9 ?_|refine q10 ?_|refine q11 ?_|refine q12 (by decide) ?_)|((first|with_reducible refine q13 ?_|((with_reducible refine q14 ?_ ?_);focus exact rfl));intro K hK;simp +decide only[go_sem,reduceAdd,reduceMul,reduceSub,let161,c1,c2,c3,n0,n1,h1,h2];with_reducible refine hK _ ?_;clear hK K)|(with_reducible refine q15 ?_;intro K J hK hJ;simp +decide only[go_sem,reduceAdd,reduceMul,reduceSub,let161,c1,c2,c3,n0,n1,h1,h2];(with_reducible first|refine hK ?_|refine hJ ?_);clear hK hJ K J))
      simp +decide only[go_sem,reduceAdd,reduceMul,reduceSub,let161,c1,c2,c3,n0,n1,h1,h2]
      have : loI b.toNat = false := by
        simp only [ltrI, Bool.or_eq_false_iff] at h2; exact h2.1
      rw [this, Bool.false_and]
    by_cases h3 : spanN s < s.length
    · have h3' : ((spanN s : Int) < (s.length : Int)) = True := eq_true (by omega)
      repeat (first|(with_reducible first|refine q1 ?_|refine q2 ?_|refine q3 ?_|refine q4 ?_|refine q5 ?_|refine q6 ?_|refine q7 ?_|refine q8 ?_|refine q9 ?_|refine q10 ?_|refine q11 ?_|refine q12 (by decide) ?_)|((first|with_reducible refine q13 ?_|((with_reducible refine q14 ?_ ?_);focus exact rfl));intro K hK;simp +decide only[go_sem,reduceAdd,reduceMul,reduceSub,let161,c1,c2,c3,n0,n1,h1,h2,h3'];with_reducible refine hK _ ?_;clear hK K)|(with_reducible refine q15 ?_;intro K J hK hJ;simp +decide only[go_sem,reduceAdd,reduceMul,reduceSub,let161,c1,c2,c3,n0,n1,h1,h2,h3'];(with_reducible first|refine hK ?_|refine hJ ?_);clear hK hJ K J))
      simp +decide only[go_sem,reduceAdd,reduceMul,reduceSub,let161,c1,c2,c3,n0,n1,h1,h2,h3']
      have : s.all nmB = false := by
        have := (span_all s).1 h3
        cases h : s.all nmB
        · rfl
        · rw [List.all_eq_true] at h
          rw [List.all_eq_true.2 fun x hx => nm_wd (h x hx)] at this
          cases this
      rw [this, Bool.false_and, Bool.and_false]
    have h3' : ((spanN s : Int) < (s.length : Int)) = False := eq_false (by omega)
    have hwd : s.all wdB = true := by
      cases h : s.all wdB
      · exact absurd ((span_all s).2 h) h3
      · rfl
    cases h4 : (s == s.map lowB)
    · repeat (first|(with_reducible first|refine q1 ?_|refine q2 ?_|refine q3 ?_|refine q4 ?_|refine q5 ?_|refine q6 ?_|refine q7 ?_|refine q8 ?_|refine q9 ?_|refine q10 ?_|refine q11 ?_|refine q12 (by decide) ?_)|((first|with_reducible refine q13 ?_|((with_reducible refine q14 ?_ ?_);focus exact rfl));intro K hK;simp +decide only[go_sem,reduceAdd,reduceMul,reduceSub,let161,c1,c2,c3,n0,n1,h1,h2,h3',h4];with_reducible refine hK _ ?_;clear hK K)|(with_reducible refine q15 ?_;intro K J hK hJ;simp +decide only[go_sem,reduceAdd,reduceMul,reduceSub,let161,c1,c2,c3,n0,n1,h1,h2,h3',h4];(with_reducible first|refine hK ?_|refine hJ ?_);clear hK hJ K J))
      simp +decide only[go_sem,reduceAdd,reduceMul,reduceSub,let161,c1,c2,c3,n0,n1,h1,h2,h3',h4]
      have : s.all nmB = false := by
        cases h : s.all nmB
        · rfl
        · rw [List.all_eq_true] at h
          have e : s.map lowB = s := (List.map_congr_left (g := id) fun x hx => low_same.2 (nm_up (h x hx))).trans (List.map_id s)
          rw [e, beq_self_eq_true] at h4
          cases h4
      rw [this, Bool.false_and, Bool.and_false]
    have h4' : ∀ x ∈ s, lowB x = x := fun x hx => by
      have h4 := eq_of_beq h4
      obtain ⟨i, hi⟩ := List.getElem?_of_mem hx
      have := congrArg (fun l : Str => l[i]?) h4
      simp only [List.getElem?_map, hi, Option.map_some, Option.some.injEq] at this
      exact this.symm
    have h5 : s.all nmB = true := List.all_eq_true.2 fun x hx => wd_nm (List.all_eq_true.1 hwd x hx) (low_same.1 (h4' x hx))
    have h6 : loI b.toNat = true := by
      have := low_same.1 (h4' b hb)
      simpa only [ltrI, this, Bool.or_false] using h2
    repeat (first|(with_reducible first|refine q1 ?_|refine q2 ?_|refine q3 ?_|refine q4 ?_|refine q5 ?_|refine q6 ?_|refine q7 ?_|refine q8 ?_|refine q9 ?_|refine q10 ?_|refine q11 ?_|refine q12 (by decide) ?_)|((first|with_reducible refine q13 ?_|((with_reducible refine q14 ?_ ?_);focus exact rfl));intro K hK;simp +decide only[go_sem,reduceAdd,reduceMul,reduceSub,let161,c1,c2,c3,n0,n1,h1,h2,h3',h4];with_reducible refine hK _ ?_;clear hK K)|(with_reducible refine q15 ?_;intro K J hK hJ;simp +decide only[go_sem,reduceAdd,reduceMul,reduceSub,let161,c1,c2,c3,n0,n1,h1,h2,h3',h4];(with_reducible first|refine hK ?_|refine hJ ?_);clear hK hJ K J))
    simp +decide only[go_sem,reduceAdd,reduceMul,reduceSub,let161,c1,c2,c3,n0,n1,h1,h2,h3',h4]
    rw [h5, h6, Bool.true_and, Bool.true_and]
theorem cont157 (K t : Str) (hK : K.length ≤ 1000) (ht : t.length ≤ 1000) : ∃ v, callP (XG GK) TT 157 [.str K, .str t] = some v ∧ ∃ b, v = .bool b ∧ (b = true ↔ ∃ i, i + t.length ≤ K.length ∧ (K.take (i + t.length)).drop i = t) := by
  refine callP_body T157 rfl (by simp only [go_sem]) ?_
  unfold Tryd.f157
  simp only [Option.getD_some]
  simp +decide only[go_sem,reduceAdd,reduceMul,reduceSub]
  refine gw trivial ?_
  refine wpI_loopC (T := Nat) [0, 1, 5] rfl (by simp +decide only[go_sem,reduceAdd,reduceMul,reduceSub]; exact rfl) (fun k => [(5, .int .i64 (k : Int))]) (fun _ => []) (fun _ => ⟨[], []⟩) (fun k => k ≤ K.length + 1 ∧ ∀ i, i < k → ¬ (i + t.length ≤ K.length ∧ (K.take (i + t.length)).drop i = t)) (fun k => K.length + 1 - k) 0 (by simp +decide only[go_sem,reduceAdd,reduceMul,reduceSub] <;> rfl) (by simp) ?_
  rintro k ⟨hk, hP⟩
  have w1 : IntKind.i64.wrap ((k : Int) + (t.length : Int)) = ((k + t.length : Nat) : Int) := by rw [wrap_fit _ (by omega)]; omega
  have w2 := wrap_nat k (by omega)
  by_cases h : k + t.length ≤ K.length
  · have h1 : (((k + t.length : Nat) : Int) ≤ (K.length : Int)) = True := eq_true (by omega)
    have h2 : ((k : Int) ≤ ((k + t.length : Nat) : Int)) = True := eq_true (by omega)
    refine gw (an w1 (an w2 (an h1 h2))) ?_
    cases c : ((K.take (k + t.length)).drop k == t)
    · refine gw (an w1 (an w2 (an h1 (an h2 c)))) ?_
      refine ⟨k + 1, by simp +decide only[go_sem,reduceAdd,reduceMul,reduceSub,w1,w2,h1,h2,c] <;> rfl, ⟨by omega, fun i hi => ?_⟩, by omega⟩
      by_cases e : i = k
      · subst e
        rintro ⟨_, h4⟩
        rw [h4, beq_self_eq_true] at c
        cases c
      · exact hP i (by omega)
    · refine gw (an w1 (an w2 (an h1 (an h2 c)))) ?_
      simp +decide only[go_sem,reduceAdd,reduceMul,reduceSub,w1,w2,h1,h2,c]
      exact ⟨_, rfl, ⟨fun _ => ⟨k, h, eq_of_beq c⟩, fun _ => rfl⟩⟩
  · have h1 : (((k + t.length : Nat) : Int) ≤ (K.length : Int)) = False := eq_false (by omega)
    refine gw (an w1 (an w2 h1)) ?_
    simp +decide only[go_sem,reduceAdd,reduceMul,reduceSub,w1,w2]
    refine ⟨_, rfl, ⟨fun h => by (first | cases h | simp at h), fun ⟨i, h2, h3⟩ => ?_⟩⟩
    exact absurd ⟨h2, h3⟩ (hP i (by omega))
def KS : Str := [32, 97, 110, 100, 32, 97, 115, 32, 97, 115, 99, 32, 98, 101, 103, 105, 110, 32, 98, 101, 116, 119, 101, 101, 110, 32, 98, 121, 32, 99, 104, 101, 99, 107, 32, 99, 111, 109, 109, 105, 116, 32, 99, 111, 117, 110, 116, 32, 99, 114, 101, 97, 116, 101, 32, 100, 101, 108, 101, 116, 101, 32, 100, 101, 115, 99, 32, 102, 111, 114, 101, 105, 103, 110, 32, 102, 114, 111, 109, 32, 103, 114, 111, 117, 112, 32, 105, 110, 32, 105, 110, 115, 101, 114, 116, 32, 105, 110, 116, 101, 103, 101, 114, 32, 105, 110, 116, 111, 32, 105, 115, 32, 106, 111, 105, 110, 32, 107, 101, 121, 32, 108, 101, 110, 103, 116, 104, 32, 108, 105, 107, 101, 32, 108, 105, 109, 105, 116, 32, 109, 97, 120, 32, 109, 105, 110, 32, 110, 111, 116, 32, 110, 117, 108, 108, 32, 111, 110, 32, 111, 114, 32, 111, 114, 100, 101, 114, 32, 112, 114, 105, 109, 97, 114, 121, 32, 114, 101, 102, 101, 114, 101, 110, 99, 101, 115, 32, 114, 101, 108, 101, 97, 115, 101, 32, 114, 111, 108, 108, 98, 97, 99, 107, 32, 115, 97, 118, 101, 112, 111, 105, 110, 116, 32, 115, 101, 108, 101, 99, 116, 32, 115, 101, 116, 32, 115, 117, 109, 32, 116, 97, 98, 108, 101, 32, 116, 101, 120, 116, 32, 116, 111, 32, 117, 110, 105, 113, 117, 101, 32, 117, 112, 100, 97, 116, 101, 32, 118, 97, 108, 117, 101, 115, 32, 119, 104, 101, 114, 101, 32]
theorem kw158 : callP (XG GK) TT 158 [] = some (.str KS) := by
  refine callP_val T158 rfl (by simp only [go_sem]) ?_
  unfold Tryd.f158
  simp only [Option.getD_some]
  simp +decide only[go_sem,reduceAdd,reduceMul,reduceSub]
  refine gw trivial ?_
  simp +decide only[go_sem,reduceAdd,reduceMul,reduceSub]
  rfl
def blank (ws : List Str) : Str := (ws.map fun w => (32 : UInt8) :: w).flatten ++ [32]
theorem KS_eq : KS = blank (kwL.map fun w => w.map lowB) := by kernel_rfl
theorem first_blank : ∀ (s w : Str) (a b : Str), (∀ x ∈ s, x ≠ 32) → (∀ x ∈ w, x ≠ 32) → s ++ 32 :: a = w ++ 32 :: b → s = w
  | [], [], _, _, _, _, _ => rfl
  | [], y :: w, a, b, _, hw, h => by
    simp only [List.nil_append, List.cons_append, List.cons.injEq] at h
    exact absurd h.1.symm (hw y List.mem_cons_self)
  | x :: s, [], a, b, hs, _, h => by
    simp only [List.nil_append, List.cons_append, List.cons.injEq] at h
    exact absurd h.1 (hs x List.mem_cons_self)
  | x :: s, y :: w, a, b, hs, hw, h => by
    simp only [List.cons_append, List.cons.injEq] at h
    obtain ⟨rfl, h⟩ := h
    rw [first_blank s w a b (fun z hz => hs z (List.mem_cons_of_mem _ hz)) (fun z hz => hw z (List.mem_cons_of_mem _ hz)) h]
theorem skip_word : ∀ (w p : Str) (s a b : Str), (∀ x ∈ w, x ≠ 32) → p ++ 32 :: (s ++ 32 :: a) = w ++ b → ∃ p', p' ++ 32 :: (s ++ 32 :: a) = b
  | [], p, s, a, b, _, h => ⟨p, by simpa using h⟩
  | y :: w, [], s, a, b, hw, h => by
    simp only [List.nil_append, List.cons_append, List.cons.injEq] at h
    exact absurd h.1.symm (hw y List.mem_cons_self)
  | y :: w, x :: p, s, a, b, hw, h => by
    simp only [List.cons_append, List.cons.injEq] at h
    exact skip_word w p s a b (fun z hz => hw z (List.mem_cons_of_mem _ hz)) h.2
theorem in_blank : ∀ (ws : List Str) (s p a : Str), (∀ x ∈ s, x ≠ 32) → (∀ w ∈ ws, ∀ x ∈ w, x ≠ 32) → p ++ 32 :: (s ++ 32 :: a) = blank ws → s ∈ ws
  | [], s, p, a, _, _, h => by
    have := congrArg List.length h
    simp [blank] at this
    omega
  | w :: ws, s, p, a, hs, hw, h => by
    have hb : blank (w :: ws) = 32 :: (w ++ blank ws) := by simp [blank]
    have hb2 : ∃ t, blank ws = 32 :: t := by cases ws <;> simp [blank]
    rw [hb] at h
    cases p with
    | nil =>
      obtain ⟨t, ht⟩ := hb2
      rw [ht] at h
      simp only [List.nil_append, List.cons.injEq, true_and] at h
      rw [first_blank s w a t hs (hw w List.mem_cons_self) h]
      exact List.mem_cons_self
    | cons x p =>
      simp only [List.cons_append, List.cons.injEq] at h
      obtain ⟨p', h'⟩ := skip_word w p s a (blank ws) (hw w List.mem_cons_self) h.2
      exact List.mem_cons_of_mem _ (in_blank ws s p' a hs (fun v hv => hw v (List.mem_cons_of_mem _ hv)) h')
theorem of_blank : ∀ (ws : List Str) (s : Str), s ∈ ws → ∃ p a, p ++ 32 :: (s ++ 32 :: a) = blank ws
  | w :: ws, s, h => by
    have hb : blank (w :: ws) = 32 :: (w ++ blank ws) := by simp [blank]
    have hb2 : ∃ t, blank ws = 32 :: t := by cases ws <;> simp [blank]
    rcases List.mem_cons.1 h with rfl | h
    · obtain ⟨t, ht⟩ := hb2
      exact ⟨[], t, by rw [hb, ht]; rfl⟩
    · obtain ⟨p, a, h'⟩ := of_blank ws s h
      exact ⟨32 :: (w ++ p), a, by rw [hb, ← h']; simp⟩
end Go.Eng
