/- A part of the proof: see the last text. -/
import Derived.Test.YtcfmjomniaopcaaDoorKR2Kw
set_option linter.unusedSimpArgs false
set_option linter.unusedVariables false
/- Names: the program's test and the reference's are one. -/
namespace Go.Eng
open Go Go.Proofs
open Nat (reduceAdd reduceMul reduceSub)
set_option maxRecDepth 20000
set_option maxHeartbeats 32000000
theorem lo_up {n : Int} (h : loI n = true) : upI n = false := by
  simp only [loI, upI, Bool.and_eq_true, decide_eq_true_eq, Bool.and_eq_false_iff, decide_eq_false_iff_not] at *
  omega
theorem dg_up {n : Int} (h : dgI n = true) : upI n = false := by
  simp only [dgI, upI, Bool.and_eq_true, decide_eq_true_eq, Bool.and_eq_false_iff, decide_eq_false_iff_not] at *
  omega
theorem nm_up {b : UInt8} (h : nmB b = true) : upI b.toNat = false := by
  simp only [nmB, nmI, Bool.or_eq_true, beq_iff_eq] at h
  rcases h with (h | h) | h
  · exact lo_up h
  · exact dg_up h
  · rw [h]; rfl
theorem low_same {b : UInt8} : lowB b = b ↔ upI b.toNat = false := by
  unfold lowB
  cases h : upI b.toNat
  · simp
  · simp only [cond_true, Bool.true_eq_false, iff_false]
    intro e
    simp only [upI, Bool.and_eq_true, decide_eq_true_eq] at h
    have h2 : (b + 32).toNat = b.toNat + 32 := by rw [UInt8.toNat_add]; show (b.toNat + 32) % 256 = _; omega
    rw [e] at h2
    omega
/-- Names. -/
def nameB (s : Str) : Bool := match s with
  | [] => false
  | b :: r => (decide ((b :: r).length ≤ 24) && loI b.toNat) && ((b :: r).all nmB && !decide ((b :: r).map uppB ∈ kwL))
theorem cont157 (K t : Str) (hK : K.length ≤ 1000) (ht : t.length ≤ 1000) : ∃ v, callP (XG GK) TT 157 [.str K, .str t] = some v ∧ ∃ b, v = .bool b ∧ (b = true ↔ ∃ i, i + t.length ≤ K.length ∧ (K.take (i + t.length)).drop i = t) := by
  refine callP_body T157 rfl (by simp only [go_sem]) ?_
  unfold Tryd.f157
  simp only [Option.getD_some]
  simp +decide only[go_sem,reduceAdd,reduceMul,reduceSub]
  refine gw trivial ?_
  refine wpI_loopC (T := Nat) [0, 1, 5] rfl (by simp +decide only[go_sem,reduceAdd,reduceMul,reduceSub]; exact rfl) (fun k => [(5, .int .i64 (k : Int))]) (fun _ => []) (fun _ => ⟨[], []⟩) (fun k => k ≤ K.length + 1 ∧ ∀ i, i < k → ¬ (i + t.length ≤ K.length ∧ (K.take (i + t.length)).drop i = t)) (fun k => K.length + 1 - k) 0 (by simp +decide only[go_sem,reduceAdd,reduceMul,reduceSub] <;> rfl) (by simp) ?_
  rintro k ⟨hk, hP⟩
  have w1 : IntKind.i64.wrap ((k : Int) + (t.length : Int)) = ((k + t.length : Nat) : Int) := by rw [wrap_fit _ (by omega)]; omega
  have w2 := wrap_nat k (by omega)
  by_cases h : k + t.length ≤ K.length
  · have h1 : (((k + t.length : Nat) : Int) ≤ (K.length : Int)) = True := eq_true (by omega)
    have h2 : ((k : Int) ≤ ((k + t.length : Nat) : Int)) = True := eq_true (by omega)
    refine gw (an w1 (an w2 (an h1 h2))) ?_
    cases c : ((K.take (k + t.length)).drop k == t)
    · refine gw (an w1 (an w2 (an h1 (an h2 c)))) ?_
      refine ⟨k + 1, by simp +decide only[go_sem,reduceAdd,reduceMul,reduceSub,w1,w2,h1,h2,c] <;> rfl, ⟨by omega, fun i hi => ?_⟩, by omega⟩
      by_cases e : i = k
      · subst e
        rintro ⟨_, h4⟩
        rw [h4, beq_self_eq_true] at c
        cases c
      · exact hP i (by omega)
    · refine gw (an w1 (an w2 (an h1 (an h2 c)))) ?_
      simp +decide only[go_sem,reduceAdd,reduceMul,reduceSub,w1,w2,h1,h2,c]
      exact ⟨_, rfl, ⟨fun _ => ⟨k, h, eq_of_beq c⟩, fun _ => rfl⟩⟩
  · have h1 : (((k + t.length : Nat) : Int) ≤ (K.length : Int)) = False := eq_false (by omega)
    refine gw (an w1 (an w2 h1)) ?_
    simp +decide only[go_sem,reduceAdd,reduceMul,reduceSub,w1,w2]
    refine ⟨_, rfl, ⟨fun h => by (first | cases h | simp at h), fun ⟨i, h2, h3⟩ => ?_⟩⟩
    exact absurd ⟨h2, h3⟩ (hP i (by omega))
def KS : Str := [32, 97, 110, 100, 32, 97, 115, 32, 97, 115, 99, 32, 98, 101, 103, 105, 110, 32, 98, 101, 116, 119, 101, 101, 110, 32, 98, 121, 32, 99, 104, 101, 99, 107, 32, 99, 111, 109, 109, 105, 116, 32, 99, 111, 117, 110, 116, 32, 99, 114, 101, 97, 116, 101, 32, 100, 101, 108, 101, 116, 101, 32, 100, 101, 115, 99, 32, 102, 111, 114, 101, 105, 103, 110, 32, 102, 114, 111, 109, 32, 103, 114, 111, 117, 112, 32, 105, 110, 32, 105, 110, 115, 101, 114, 116, 32, 105, 110, 116, 101, 103, 101, 114, 32, 105, 110, 116, 111, 32, 105, 115, 32, 106, 111, 105, 110, 32, 107, 101, 121, 32, 108, 101, 110, 103, 116, 104, 32, 108, 105, 107, 101, 32, 108, 105, 109, 105, 116, 32, 109, 97, 120, 32, 109, 105, 110, 32, 110, 111, 116, 32, 110, 117, 108, 108, 32, 111, 110, 32, 111, 114, 32, 111, 114, 100, 101, 114, 32, 112, 114, 105, 109, 97, 114, 121, 32, 114, 101, 102, 101, 114, 101, 110, 99, 101, 115, 32, 114, 101, 108, 101, 97, 115, 101, 32, 114, 111, 108, 108, 98, 97, 99, 107, 32, 115, 97, 118, 101, 112, 111, 105, 110, 116, 32, 115, 101, 108, 101, 99, 116, 32, 115, 101, 116, 32, 115, 117, 109, 32, 116, 97, 98, 108, 101, 32, 116, 101, 120, 116, 32, 116, 111, 32, 117, 110, 105, 113, 117, 101, 32, 117, 112, 100, 97, 116, 101, 32, 118, 97, 108, 117, 101, 115, 32, 119, 104, 101, 114, 101, 32]
theorem kw158 : callP (XG GK) TT 158 [] = some (.str KS) := by
  refine callP_val T158 rfl (by simp only [go_sem]) ?_
  unfold Tryd.f158
  simp only [Option.getD_some]
  simp +decide only[go_sem,reduceAdd,reduceMul,reduceSub]
  refine gw trivial ?_
  simp +decide only[go_sem,reduceAdd,reduceMul,reduceSub]
  rfl
def blank (ws : List Str) : Str := (ws.map fun w => (32 : UInt8) :: w).flatten ++ [32]
theorem KS_eq : KS = blank (kwL.map fun w => w.map lowB) := by kernel_rfl
theorem first_blank : ∀ (s w : Str) (a b : Str), (∀ x ∈ s, x ≠ 32) → (∀ x ∈ w, x ≠ 32) → s ++ 32 :: a = w ++ 32 :: b → s = w
  | [], [], _, _, _, _, _ => rfl
  | [], y :: w, a, b, _, hw, h => by
    simp only [List.nil_append, List.cons_append, List.cons.injEq] at h
    exact absurd h.1.symm (hw y List.mem_cons_self)
  | x :: s, [], a, b, hs, _, h => by
    simp only [List.nil_append, List.cons_append, List.cons.injEq] at h
    exact absurd h.1 (hs x List.mem_cons_self)
  | x :: s, y :: w, a, b, hs, hw, h => by
    simp only [List.cons_append, List.cons.injEq] at h
    obtain ⟨rfl, h⟩ := h
    rw [first_blank s w a b (fun z hz => hs z (List.mem_cons_of_mem _ hz)) (fun z hz => hw z (List.mem_cons_of_mem _ hz)) h]
theorem skip_word : ∀ (w p : Str) (s a b : Str), (∀ x ∈ w, x ≠ 32) → p ++ 32 :: (s ++ 32 :: a) = w ++ b → ∃ p', p' ++ 32 :: (s ++ 32 :: a) = b
  | [], p, s, a, b, _, h => ⟨p, by simpa using h⟩
  | y :: w, [], s, a, b, hw, h => by
    simp only [List.nil_append, List.cons_append, List.cons.injEq] at h
    exact absurd h.1.symm (hw y List.mem_cons_self)
  | y :: w, x :: p, s, a, b, hw, h => by
    simp only [List.cons_append, List.cons.injEq] at h
    exact skip_word w p s a b (fun z hz => hw z (List.mem_cons_of_mem _ hz)) h.2
theorem in_blank : ∀ (ws : List Str) (s p a : Str), (∀ x ∈ s, x ≠ 32) → (∀ w ∈ ws, ∀ x ∈ w, x ≠ 32) → p ++ 32 :: (s ++ 32 :: a) = blank ws → s ∈ ws
  | [], s, p, a, _, _, h => by
    have := congrArg List.length h
    simp [blank] at this
    omega
  | w :: ws, s, p, a, hs, hw, h => by
    have hb : blank (w :: ws) = 32 :: (w ++ blank ws) := by simp [blank]
    have hb2 : ∃ t, blank ws = 32 :: t := by cases ws <;> simp [blank]
    rw [hb] at h
    cases p with
    | nil =>
      obtain ⟨t, ht⟩ := hb2
      rw [ht] at h
      simp only [List.nil_append, List.cons.injEq, true_and] at h
      rw [first_blank s w a t hs (hw w List.mem_cons_self) h]
      exact List.mem_cons_self
    | cons x p =>
      simp only [List.cons_append, List.cons.injEq] at h
      obtain ⟨p', h'⟩ := skip_word w p s a (blank ws) (hw w List.mem_cons_self) h.2
      exact List.mem_cons_of_mem _ (in_blank ws s p' a hs (fun v hv => hw v (List.mem_cons_of_mem _ hv)) h')
theorem of_blank : ∀ (ws : List Str) (s : Str), s ∈ ws → ∃ p a, p ++ 32 :: (s ++ 32 :: a) = blank ws
  | w :: ws, s, h => by
    have hb : blank (w :: ws) = 32 :: (w ++ blank ws) := by simp [blank]
    have hb2 : ∃ t, blank ws = 32 :: t := by cases ws <;> simp [blank]
    rcases List.mem_cons.1 h with rfl | h
    · obtain ⟨t, ht⟩ := hb2
      exact ⟨[], t, by rw [hb, ht]; rfl⟩
    · obtain ⟨p, a, h'⟩ := of_blank ws s h
      exact ⟨32 :: (w ++ p), a, by rw [hb, ← h']; simp⟩
end Go.Eng
