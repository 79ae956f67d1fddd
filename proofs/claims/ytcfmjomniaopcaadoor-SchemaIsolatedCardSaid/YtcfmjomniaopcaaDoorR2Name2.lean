/- A part of the proof: see the last text. -/
import Derived.Test.YtcfmjomniaopcaaDoorR2Name
set_option linter.unusedSimpArgs false
set_option linter.unusedVariables false
/- The reference's test of names. -/
namespace Go.Eng
open Go Go.Proofs
open Nat (reduceAdd reduceMul reduceSub)
set_option maxRecDepth 20000
set_option maxHeartbeats 32000000
attribute [local irreducible] wpI endP
theorem cut_iff (K t : Str) : (∃ i, i + t.length ≤ K.length ∧ (K.take (i + t.length)).drop i = t) ↔ ∃ p a, p ++ (t ++ a) = K := by
  constructor
  · rintro ⟨i, h1, h2⟩
    refine ⟨K.take i, K.drop (i + t.length), ?_⟩
    conv => lhs; rw [← h2]
    have h3 : K.take i = (K.take (i + t.length)).take i := by rw [List.take_take, Nat.min_eq_left (Nat.le_add_right _ _)]
    rw [h2, ← List.append_assoc, h3]
    conv => lhs; lhs; rhs; rw [← h2]
    rw [List.take_append_drop, List.take_append_drop]
  · rintro ⟨p, a, rfl⟩
    refine ⟨p.length, by simp, ?_⟩
    rw [← List.append_assoc, List.take_append_of_le_length (by simp), List.take_of_length_le (by simp), List.drop_left]
theorem low_upp {b : UInt8} (h : nmB b = true) : lowB (uppB b) = b := by
  cases hl : loI b.toNat
  · have : uppB b = b := by simp only [uppB, hl, cond_false]
    rw [this, low_same.2 (nm_up h)]
  · have hl' := hl
    simp only [loI, Bool.and_eq_true, decide_eq_true_eq] at hl'
    have h2 : (uppB b).toNat = b.toNat - 32 := by
      simp only [uppB, hl, cond_true]
      rw [UInt8.toNat_sub_of_le _ _ (by rw [UInt8.le_iff_toNat_le]; show 32 ≤ b.toNat; omega)]; rfl
    have h3 : upI (uppB b).toNat = true := by
      simp only [upI, Bool.and_eq_true, decide_eq_true_eq, h2]; omega
    apply UInt8.toNat_inj.1
    simp only [lowB, h3, cond_true]
    rw [UInt8.toNat_add, h2]
    show (b.toNat - 32 + 32) % 256 = _
    have := b.toNat_lt
    omega
theorem nm_32 {b : UInt8} (h : nmB b = true) : b ≠ 32 := by
  rintro rfl
  exact absurd h (by decide)
theorem kw_words : (kwL.map fun w => w.map lowB).all (fun w => w.all fun x => !(x == 32)) = true := by kernel_rfl
theorem kw_back : kwL.all (fun w => (w.map lowB).map uppB == w) = true := by kernel_rfl
theorem kw_iff (s : Str) (h : s.all nmB = true) : (∃ i, i + ([32] ++ s ++ [32]).length ≤ KS.length ∧ (KS.take (i + ([32] ++ s ++ [32]).length)).drop i = [32] ++ s ++ [32]) ↔ s.map uppB ∈ kwL := by
  rw [cut_iff, KS_eq]
  rw [List.all_eq_true] at h
  have hw : ∀ w ∈ kwL.map (fun w => w.map lowB), ∀ x ∈ w, x ≠ 32 := fun w hw x hx => by
    have := List.all_eq_true.1 (List.all_eq_true.1 kw_words w hw) x hx
    intro e; subst e; simp at this
  constructor
  · rintro ⟨p, a, e⟩
    have e : p ++ 32 :: (s ++ 32 :: a) = blank (kwL.map fun w => w.map lowB) := by rw [← e]; simp
    have := in_blank _ s p a (fun x hx => nm_32 (h x hx)) hw e
    obtain ⟨w, hw1, rfl⟩ := List.mem_map.1 this
    have := List.all_eq_true.1 kw_back w hw1
    rw [eq_of_beq this]; exact hw1
  · intro hm
    have e : (s.map uppB).map lowB = s := by
      rw [List.map_map]
      exact (List.map_congr_left (g := id) fun x hx => low_upp (h x hx)).trans (List.map_id s)
    have : s ∈ kwL.map fun w => w.map lowB := List.mem_map.2 ⟨_, hm, e⟩
    obtain ⟨p, a, e⟩ := of_blank _ s this
    exact ⟨p, a, by rw [← e]; simp⟩
theorem name104 (s : Str) (hs : s.length ≤ 100) : callP (XG GK) TT 104 [.str s] = some (.bool (nameB s)) := by
  refine callP_val T104 rfl (by simp only [go_sem]) ?_
  unfold Tryd.f104
  simp only [Option.getD_some]
  obtain ⟨v, c1, b1, rfl, hb1⟩ := cont157 KS ([32] ++ s ++ [32]) (by decide) (by simp; omega)
  have c8 := kw158
  cases s with
  | nil =>
    simp +decide only[go_sem,reduceAdd,reduceMul,reduceSub,c8,c1]
    refine gw (an c8 c1) ?_
    simp +decide only[go_sem,reduceAdd,reduceMul,reduceSub,c8,c1]
    rfl
  | cons b r =>
    generalize hS : b :: r = s at *
    have n1 : atI s 0 = some b := by rw [← hS]; rfl
    have nB : nameB s = ((decide (s.length ≤ 24) && loI b.toNat) && (s.all nmB && !decide (s.map uppB ∈ kwL))) := by rw [← hS]; rfl
    have hl : ((s.length : Int) < 1) = False := eq_false (by rw [← hS]; simp only [List.length_cons]; omega)
    rw [nB]
    have hkw := kw_iff s
    generalize hkw0 : decide (s.map uppB ∈ kwL) = kw at *
    generalize KS = ks at *
    simp +decide only[go_sem,reduceAdd,reduceMul,reduceSub,c8,c1,n1,hl]
    by_cases h1 : (24 : Int) < (s.length : Int)
    · refine gw (an c8 (an c1 (an n1 (an hl h1)))) ?_
      simp +decide only[go_sem,reduceAdd,reduceMul,reduceSub,c8,c1,n1,hl,h1]
      simp only [decide_eq_false (show ¬ s.length ≤ 24 by omega), Bool.false_and]
    rw [decide_eq_true (show s.length ≤ 24 by omega), Bool.true_and]
    by_cases h2 : (b.toNat : Int) < 97
    · refine gw (an c8 (an c1 (an n1 (an hl (an h1 h2))))) ?_
      simp +decide only[go_sem,reduceAdd,reduceMul,reduceSub,c8,c1,n1,hl,h1,h2]
      have : loI b.toNat = false := by
        simp only [loI, decide_eq_false (show ¬ (97 : Int) ≤ b.toNat by omega), Bool.false_and]
      rw [this, Bool.false_and]
    by_cases h3 : (122 : Int) < (b.toNat : Int)
    · refine gw (an c8 (an c1 (an n1 (an hl (an h1 (an h2 h3)))))) ?_
      simp +decide only[go_sem,reduceAdd,reduceMul,reduceSub,c8,c1,n1,hl,h1,h2,h3]
      have : loI b.toNat = false := by
        simp only [loI, decide_eq_false (show ¬ (b.toNat : Int) ≤ 122 by omega), Bool.and_false]
      rw [this, Bool.false_and]
    have h4 : loI b.toNat = true := by
      simp only [loI, Bool.and_eq_true, decide_eq_true_eq]; omega
    rw [h4, Bool.true_and]
    refine gw (an c8 (an c1 (an n1 (an hl (an h1 (an h2 h3)))))) ?_
    refine wpI_loopC (T := Nat) [0, 3] rfl (by simp +decide only[go_sem,reduceAdd,reduceMul,reduceSub,c8,c1,n1,hl,h1,h2,h3]; exact rfl) (fun k => [(3, .int .i64 (k : Int))]) (fun _ => []) (fun _ => ⟨[], []⟩) (fun k => k ≤ s.length ∧ ∀ x ∈ s.take k, nmB x = true) (fun k => s.length - k) 0 (by simp +decide only[go_sem,reduceAdd,reduceMul,reduceSub,c8,c1,n1,hl,h1,h2,h3] <;> rfl) (by simp) ?_
    rintro k ⟨hk, hP⟩
    by_cases h : k < s.length
    · have l_x : ((k : Int) < ((s).length : Int)) = True := by simp; omega
      obtain ⟨x, g_x⟩ : ∃ a_, (s)[k]? = some a_ := ⟨_, List.getElem?_eq_getElem (by assumption)⟩
      have w_x := wrap_nat k (by omega)
      have hx := List.mem_of_getElem? g_x
      have good : nmB x = true → k + 1 ≤ s.length ∧ ∀ y ∈ s.take (k + 1), nmB y = true := fun e => by
        refine ⟨by omega, fun y hy => ?_⟩
        rw [List.take_add_one, g_x] at hy
        rcases List.mem_append.1 hy with hy | hy
        · exact hP y hy
        · obtain rfl : y = x := by simpa using hy
          exact e
      have bad : nmB x = false → s.all nmB = false := fun e => by
        cases h : s.all nmB
        · rfl
        · rw [List.all_eq_true.1 h x hx] at e; cases e
      refine gw (an c8 (an c1 (an n1 (an hl (an h1 (an h2 (an h3 (an l_x (an g_x w_x))))))))) ?_
      cases a1 : (decide ((97 : Int) ≤ x.toNat))
      · cases a3 : (decide ((48 : Int) ≤ x.toNat))
        · cases a5 : ((x.toNat : Int) == 95)
          · refine gw (an c8 (an c1 (an n1 (an hl (an h1 (an h2 (an h3 (an l_x (an g_x (an w_x (an a1 (an a3 a5)))))))))))) ?_
            simp +decide only[go_sem,reduceAdd,reduceMul,reduceSub,c8,c1,n1,hl,h1,h2,h3,l_x,g_x,w_x,a1,a3,a5]
            rw [bad (by simp only [nmB, nmI, loI, dgI, a1, a3, a5, Bool.false_and, Bool.or_self]), Bool.false_and]
          · refine gw (an c8 (an c1 (an n1 (an hl (an h1 (an h2 (an h3 (an l_x (an g_x (an w_x (an a1 (an a3 a5)))))))))))) ?_
            exact ⟨k + 1, by simp +decide only[go_sem,reduceAdd,reduceMul,reduceSub,c8,c1,n1,hl,h1,h2,h3,l_x,g_x,w_x,a1,a3,a5] <;> rfl, good (by simp only [nmB, nmI, a5, Bool.or_true]), by omega⟩
        · cases a4 : (decide ((x.toNat : Int) ≤ 57))
          · cases a5 : ((x.toNat : Int) == 95)
            · refine gw (an c8 (an c1 (an n1 (an hl (an h1 (an h2 (an h3 (an l_x (an g_x (an w_x (an a1 (an a3 (an a4 a5))))))))))))) ?_
              simp +decide only[go_sem,reduceAdd,reduceMul,reduceSub,c8,c1,n1,hl,h1,h2,h3,l_x,g_x,w_x,a1,a3,a4,a5]
              rw [bad (by simp only [nmB, nmI, loI, dgI, a1, a3, a4, a5, Bool.false_and, Bool.and_false, Bool.or_self]), Bool.false_and]
            · refine gw (an c8 (an c1 (an n1 (an hl (an h1 (an h2 (an h3 (an l_x (an g_x (an w_x (an a1 (an a3 (an a4 a5))))))))))))) ?_
              exact ⟨k + 1, by simp +decide only[go_sem,reduceAdd,reduceMul,reduceSub,c8,c1,n1,hl,h1,h2,h3,l_x,g_x,w_x,a1,a3,a4,a5] <;> rfl, good (by simp only [nmB, nmI, a5, Bool.or_true]), by omega⟩
          · refine gw (an c8 (an c1 (an n1 (an hl (an h1 (an h2 (an h3 (an l_x (an g_x (an w_x (an a1 (an a3 a4)))))))))))) ?_
            exact ⟨k + 1, by simp +decide only[go_sem,reduceAdd,reduceMul,reduceSub,c8,c1,n1,hl,h1,h2,h3,l_x,g_x,w_x,a1,a3,a4] <;> rfl, good (by simp only [nmB, nmI, dgI, a3, a4, Bool.and_self, Bool.or_true, Bool.true_or]), by omega⟩
      · cases a2 : (decide ((x.toNat : Int) ≤ 122))
        · cases a3 : (decide ((48 : Int) ≤ x.toNat))
          · cases a5 : ((x.toNat : Int) == 95)
            · refine gw (an c8 (an c1 (an n1 (an hl (an h1 (an h2 (an h3 (an l_x (an g_x (an w_x (an a1 (an a2 (an a3 a5))))))))))))) ?_
              simp +decide only[go_sem,reduceAdd,reduceMul,reduceSub,c8,c1,n1,hl,h1,h2,h3,l_x,g_x,w_x,a1,a2,a3,a5]
              rw [bad (by simp only [nmB, nmI, loI, dgI, a1, a2, a3, a5, Bool.false_and, Bool.and_false, Bool.or_self]), Bool.false_and]
            · refine gw (an c8 (an c1 (an n1 (an hl (an h1 (an h2 (an h3 (an l_x (an g_x (an w_x (an a1 (an a2 (an a3 a5))))))))))))) ?_
              exact ⟨k + 1, by simp +decide only[go_sem,reduceAdd,reduceMul,reduceSub,c8,c1,n1,hl,h1,h2,h3,l_x,g_x,w_x,a1,a2,a3,a5] <;> rfl, good (by simp only [nmB, nmI, a5, Bool.or_true]), by omega⟩
          · cases a4 : (decide ((x.toNat : Int) ≤ 57))
            · cases a5 : ((x.toNat : Int) == 95)
              · refine gw (an c8 (an c1 (an n1 (an hl (an h1 (an h2 (an h3 (an l_x (an g_x (an w_x (an a1 (an a2 (an a3 (an a4 a5)))))))))))))) ?_
                simp +decide only[go_sem,reduceAdd,reduceMul,reduceSub,c8,c1,n1,hl,h1,h2,h3,l_x,g_x,w_x,a1,a2,a3,a4,a5]
                rw [bad (by simp only [nmB, nmI, loI, dgI, a1, a2, a3, a4, a5, Bool.false_and, Bool.and_false, Bool.or_self]), Bool.false_and]
              · refine gw (an c8 (an c1 (an n1 (an hl (an h1 (an h2 (an h3 (an l_x (an g_x (an w_x (an a1 (an a2 (an a3 (an a4 a5)))))))))))))) ?_
                exact ⟨k + 1, by simp +decide only[go_sem,reduceAdd,reduceMul,reduceSub,c8,c1,n1,hl,h1,h2,h3,l_x,g_x,w_x,a1,a2,a3,a4,a5] <;> rfl, good (by simp only [nmB, nmI, a5, Bool.or_true]), by omega⟩
            · refine gw (an c8 (an c1 (an n1 (an hl (an h1 (an h2 (an h3 (an l_x (an g_x (an w_x (an a1 (an a2 (an a3 a4))))))))))))) ?_
              exact ⟨k + 1, by simp +decide only[go_sem,reduceAdd,reduceMul,reduceSub,c8,c1,n1,hl,h1,h2,h3,l_x,g_x,w_x,a1,a2,a3,a4] <;> rfl, good (by simp only [nmB, nmI, dgI, a3, a4, Bool.and_self, Bool.or_true, Bool.true_or]), by omega⟩
        · refine gw (an c8 (an c1 (an n1 (an hl (an h1 (an h2 (an h3 (an l_x (an g_x (an w_x (an a1 a2))))))))))) ?_
          exact ⟨k + 1, by simp +decide only[go_sem,reduceAdd,reduceMul,reduceSub,c8,c1,n1,hl,h1,h2,h3,l_x,g_x,w_x,a1,a2] <;> rfl, good (by simp only [nmB, nmI, loI, a1, a2, Bool.and_self, Bool.true_or]), by omega⟩
    · have l_x : ((k : Int) < ((s).length : Int)) = False := by simp; omega
      rw [List.take_of_length_le (by omega)] at hP
      have h5 : s.all nmB = true := List.all_eq_true.2 hP
      have l1 : (1 + s.length ≤ 140737488355328) = True := eq_true (by omega)
      have l2 : (s.length + 1 + 1 ≤ 140737488355328) = True := eq_true (by omega)
      have c2 : callP (XG GK) TT 157 [.str ks, .str (32 :: (s ++ [32]))] = some (.bool b1) := c1
      have e : b1 = kw := by
        have := hb1.trans (hkw h5)
        rw [← hkw0]
        cases b1 <;> simp at this ⊢ <;> exact this
      refine gw (an c8 (an c1 (an n1 (an hl (an h1 (an h2 (an h3 (an l_x (an l1 (an l2 c2)))))))))) ?_
      simp +decide only[go_sem,reduceAdd,reduceMul,reduceSub,c8,c1,n1,hl,h1,h2,h3,l_x]
      rw [h5, Bool.true_and, e]
end Go.Eng
