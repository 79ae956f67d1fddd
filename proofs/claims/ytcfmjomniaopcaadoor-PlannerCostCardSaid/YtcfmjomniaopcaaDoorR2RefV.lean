/- A part of the proof: see the last text. -/
import Derived.Test.YtcfmjomniaopcaaDoorKR2Def
set_option linter.unusedSimpArgs false
set_option linter.unusedVariables false
/- The reference's Valid. -/
namespace Go.Eng
open Go Go.Proofs
open Nat (reduceAdd reduceMul reduceSub)
set_option maxRecDepth 20000
set_option maxHeartbeats 32000000
variable {G : Nat → Option (List D)}
theorem ins80 (t : Tbl) (l : Sl I64) : callP (XG G) TT 80 [encTbl t, sl 1 I l] = some (.bool (l.items.all (inB t.cols.items.length))) := by
  refine callP_val T80 rfl (by simp only [go_sem]) ?_
  unfold Tryd.f80
  simp only [Option.getD_some]
  have hlt := l.lt
  simp +decide only[go_sem,reduceAdd,reduceMul,reduceSub]
  refine gw trivial ?_
  refine wpI_loopC (T := Nat) [1, 2, 5] rfl (by simp +decide only[go_sem,reduceAdd,reduceMul,reduceSub]; exact rfl) (fun k => [(5, .int .i64 (k : Int))]) (fun _ => []) (fun _ => ⟨[], []⟩) (fun k => k ≤ l.items.length ∧ (l.items.take k).all (inB t.cols.items.length) = true) (fun k => l.items.length - k) 0 (by simp +decide only[go_sem,reduceAdd,reduceMul,reduceSub] <;> rfl) (by simp) ?_
  rintro k ⟨hk, hP⟩
  by_cases h : k < l.items.length
  · have l_x : ((k : Int) < ((l.items).length : Int)) = True := by simp; omega
    obtain ⟨x, g_x⟩ : ∃ a_, (l.items)[k]? = some a_ := ⟨_, List.getElem?_eq_getElem (by assumption)⟩
    have w_x := wrap_nat k (by omega)
    by_cases b1 : (x.1 : Int) < 0
    · rw [all_bad g_x (by unfold inB; rw [decide_eq_false (show ¬ (0 : Int) ≤ x.1 by omega)]; rfl)]
      refine gw (an l_x (an g_x (an w_x b1))) ?_
      simp +decide only[go_sem,reduceAdd,reduceMul,reduceSub,l_x,g_x,w_x,b1]
    by_cases b2 : (t.cols.items.length : Int) ≤ x.1
    · rw [all_bad g_x (by unfold inB; rw [decide_eq_false (show ¬ x.1 < (t.cols.items.length : Int) by omega), Bool.and_false])]
      refine gw (an l_x (an g_x (an w_x (an b1 b2)))) ?_
      simp +decide only[go_sem,reduceAdd,reduceMul,reduceSub,l_x,g_x,w_x,b1,b2]
    refine gw (an l_x (an g_x (an w_x (an b1 b2)))) ?_
    exact ⟨k + 1, by simp +decide only[go_sem,reduceAdd,reduceMul,reduceSub,l_x,g_x,w_x,b1,b2] <;> rfl, ⟨by omega, all_take hP g_x (by unfold inB; rw [decide_eq_true (show (0 : Int) ≤ x.1 by omega), decide_eq_true (show x.1 < (t.cols.items.length : Int) by omega)]; rfl)⟩, by omega⟩
  · have l_x : ((k : Int) < ((l.items).length : Int)) = False := by simp; omega
    rw [List.take_of_length_le (by omega)] at hP
    refine gw l_x ?_
    simp +decide only[go_sem,reduceAdd,reduceMul,reduceSub,l_x]
    rw [hP]
def insK (t : Tbl) (k : Sl I64) : Bool := k.items.all (inB t.cols.items.length)
def insF (s : List Tbl) (n : Nat) (t : Tbl) (f : Fgn) : Bool := f.cols.items.all (inB t.cols.items.length) && (decide (0 ≤ f.table.1) && (decide (f.table.1 ≤ (n : Int)) && (decide (0 ≤ f.key.1) && match atI s f.table.1 with
  | some u => decide (f.key.1 < (u.keys.items.length : Int))
  | none => false)))
def insL (s : List Tbl) : Nat → List Tbl → Bool
  | _, [] => true
  | n, t :: r => (t.keys.items.all (insK t) && t.fgns.items.all (insF s n t)) && insL s (n + 1) r
def bOk : Except (Nat × Int) (List Tbl) → Bool
  | .ok _ => true
  | .error (_, e) => e == 0
theorem insL_at {s : List Tbl} : ∀ (l : List Tbl) (k : Nat), insL s k l = true → ∀ (n : Nat) (t : Tbl), l[n]? = some t → t.keys.items.all (insK t) = true ∧ t.fgns.items.all (insF s (k + n) t) = true
  | [], _, _, n, t, h => by simp at h
  | a :: r, k, h, n, t, ht => by
    rw [insL, Bool.and_eq_true, Bool.and_eq_true] at h
    cases n with
    | zero => simp at ht; subst ht; exact h.1
    | succ n =>
      have := insL_at r (k + 1) h.2 n t (by simpa using ht)
      rw [show k + (n + 1) = k + 1 + n by omega]; exact this
theorem all_inC {cols : List Col} {l : List I64} (h : l.all (inB cols.length) = true) : inC cols l := fun x hx => by
  have := List.all_eq_true.1 h x hx
  simp only [inB, Bool.and_eq_true, decide_eq_true_eq] at this
  exact atI_lt this.1 this.2
theorem atI_get {α : Type} {l : List α} {n : Int} {a : α} (h : atI l n = some a) : ∃ k : Nat, n = k ∧ l[k]? = some a := by
  cases n with
  | ofNat k => exact ⟨k, rfl, h⟩
  | negSucc k => cases h
/-- Numbers that exist. -/
theorem insL_ok {s : List Tbl} (hs : ∀ t ∈ s, SmallT t) (h : insL s 0 s = true) {n : Nat} {t : Tbl} (ht : s[n]? = some t) : (∀ k ∈ t.keys.items, inC t.cols.items k.items) ∧ ∀ f ∈ t.fgns.items, FgI s t f := by
  obtain ⟨h1, h2⟩ := insL_at s 0 h n t ht
  refine ⟨fun k hk => all_inC (List.all_eq_true.1 h1 k hk), fun f hf => ?_⟩
  have := List.all_eq_true.1 h2 f hf
  simp only [insF, Bool.and_eq_true, decide_eq_true_eq] at this
  obtain ⟨g1, g2, g3, g4, g5⟩ := this
  refine ⟨all_inC g1, ?_⟩
  cases hu : atI s f.table.1 with
  | none => rw [hu] at g5; cases g5
  | some u =>
    rw [hu] at g5
    have g5 : f.key.1 < (u.keys.items.length : Int) := by simpa using g5
    obtain ⟨z, hz⟩ := atI_lt g4 g5
    obtain ⟨i, _, hi⟩ := atI_get hu
    obtain ⟨j, _, hj⟩ := atI_get hz
    have hzm := List.mem_of_getElem? hj
    refine ⟨u, z, rfl, hz, all_inC (List.all_eq_true.1 (insL_at s 0 h i u hi).1 z hzm), ?_⟩
    obtain ⟨x1, x2, x3, x4, x5, _⟩ := hs u (List.mem_of_getElem? hi)
    have := x5 z hzm; omega
theorem kn_len (t : Tbl) (k : Sl I64) : (kn t k).items.length = k.items.length := by
  unfold kn; rw [cn_items (by rw [List.length_map]; exact k.lt), List.length_map]
theorem defS_small {s : List Tbl} (hs : ∀ t ∈ s, SmallT t) {t : Tbl} (ht : t ∈ s) (hf : ∀ f ∈ t.fgns.items, FgI s t f) : SmallS (defS s t) := by
  obtain ⟨x1, x2, x3, x4, x5, x6, x7, x8, x9⟩ := hs t ht
  refine ⟨x1, ?_, ?_, x4, x7, x8, ?_, ?_, x9⟩
  · show (cn _).items.length ≤ 10
    rw [cn_items (by rw [List.length_map]; exact t.keys.lt), List.length_map]; exact x2
  · show (cn _).items.length ≤ 10
    rw [cn_items (by rw [List.length_map]; exact t.fgns.lt), List.length_map]; exact x3
  · intro k hk
    have hk : k ∈ (cn (t.keys.items.map (kn t))).items := hk
    rw [cn_items (by rw [List.length_map]; exact t.keys.lt)] at hk
    obtain ⟨k0, h0, rfl⟩ := List.mem_map.1 hk
    rw [kn_len]; exact x5 k0 h0
  · intro f hfm
    have hfm : f ∈ (cn (t.fgns.items.map (fgS s t))).items := hfm
    rw [cn_items (by rw [List.length_map]; exact t.fgns.lt)] at hfm
    obtain ⟨f0, h0, rfl⟩ := List.mem_map.1 hfm
    obtain ⟨g1, u, z, g2, g3, g4, g5⟩ := hf f0 h0
    simp only [fgS, g2, g3, kn_len]
    refine ⟨x6 f0 h0, ?_⟩
    obtain ⟨i, _, hi⟩ := atI_get g2
    obtain ⟨j, _, hj⟩ := atI_get g3
    obtain ⟨_, _, _, _, y5, _⟩ := hs u (List.mem_of_getElem? hi)
    exact y5 z (List.mem_of_getElem? hj)
theorem val39 (s : Sl Tbl) (hs : ∀ t ∈ s.items, SmallT t) (hl : s.items.length ≤ 12) : callP (XG GK) TT 39 [sl 5 encTbl s] = some (.bool (insL s.items 0 s.items && bOk (bldF stepR [] (s.items.map (defS s.items))))) := by
  refine callP_val T39 rfl (by simp only [go_sem]) ?_
  unfold Tryd.f39
  simp only [Option.getD_some]
  have hslt := s.lt
  simp +decide only[go_sem,reduceAdd,reduceMul,reduceSub]
  refine gw trivial ?_
  refine wpI_loopC (T := Nat) [0, 3] rfl (by simp +decide only[go_sem,reduceAdd,reduceMul,reduceSub]; exact rfl) (fun k => [(3, .int .i64 (k : Int))]) (fun _ => []) (fun _ => ⟨[], []⟩) (fun k => k ≤ s.items.length ∧ insL s.items k (s.items.drop k) = insL s.items 0 s.items) (fun k => s.items.length - k) 0 (by simp +decide only[go_sem,reduceAdd,reduceMul,reduceSub] <;> rfl) (by simp) ?_
  rintro n ⟨hn, hP⟩
  by_cases h : n < s.items.length
  · have l_t : ((n : Int) < ((s.items).length : Int)) = True := by simp; omega
    obtain ⟨t, g_t⟩ : ∃ a_, (s.items)[n]? = some a_ := ⟨_, List.getElem?_eq_getElem (by assumption)⟩
    have w_t := wrap_nat n (by omega)
    rw [dropc g_t, insL] at hP
    have hklt := t.keys.lt
    have hflt := t.fgns.lt
    refine gw (an l_t (an g_t w_t)) ?_
    refine wpI_loopC (T := Nat) [0, 3, 4] rfl (by simp +decide only[go_sem,reduceAdd,reduceMul,reduceSub,l_t,g_t,w_t]; exact rfl) (fun k => [(4, .int .i64 (k : Int))]) (fun _ => []) (fun _ => ⟨[], []⟩) (fun k => k ≤ t.keys.items.length ∧ (t.keys.items.take k).all (insK t) = true) (fun k => t.keys.items.length - k) 0 (by simp +decide only[go_sem,reduceAdd,reduceMul,reduceSub,l_t,g_t,w_t] <;> rfl) (by simp) ?_
    rintro k ⟨hk, hQ⟩
    by_cases h1 : k < t.keys.items.length
    · have l_y : ((k : Int) < ((t.keys.items).length : Int)) = True := by simp; omega
      obtain ⟨y, g_y⟩ : ∃ a_, (t.keys.items)[k]? = some a_ := ⟨_, List.getElem?_eq_getElem (by assumption)⟩
      have w_y := wrap_nat k (by omega)
      have c1 := ins80 (G := GK) t y
      simp only [encTbl_eq] at c1
      cases d : (y.items.all (inB t.cols.items.length))
      · rw [all_bad (p := insK t) g_y d, Bool.false_and, Bool.false_and] at hP
        refine gw (an l_t (an g_t (an w_t (an l_y (an g_y (an w_y (an c1 d))))))) ?_
        simp +decide only[go_sem,reduceAdd,reduceMul,reduceSub,l_t,g_t,w_t,l_y,g_y,w_y,c1,d]
        rw [← hP]
        all_goals rfl
      · refine gw (an l_t (an g_t (an w_t (an l_y (an g_y (an w_y (an c1 d))))))) ?_
        exact ⟨k + 1, by simp +decide only[go_sem,reduceAdd,reduceMul,reduceSub,l_t,g_t,w_t,l_y,g_y,w_y,c1,d] <;> rfl, ⟨by omega, all_take hQ g_y d⟩, by omega⟩
    have l_e1 : ((k : Int) < ((t.keys.items).length : Int)) = False := by simp; omega
    rw [List.take_of_length_le (by omega)] at hQ
    rw [hQ, Bool.true_and] at hP
    refine gw (an l_t (an g_t (an w_t l_e1))) ?_
    refine wpI_loopC (T := Nat) [0, 3, 5] rfl (by simp +decide only[go_sem,reduceAdd,reduceMul,reduceSub,l_t,g_t,w_t,l_e1]; exact rfl) (fun k => [(5, .int .i64 (k : Int))]) (fun _ => []) (fun _ => ⟨[], []⟩) (fun k => k ≤ t.fgns.items.length ∧ (t.fgns.items.take k).all (insF s.items n t) = true) (fun k => t.fgns.items.length - k) 0 (by simp +decide only[go_sem,reduceAdd,reduceMul,reduceSub,l_t,g_t,w_t,l_e1] <;> rfl) (by simp) ?_
    rintro k2 ⟨hk2, hR⟩
    by_cases h2 : k2 < t.fgns.items.length
    · have l_f : ((k2 : Int) < ((t.fgns.items).length : Int)) = True := by simp; omega
      obtain ⟨f, g_f⟩ : ∃ a_, (t.fgns.items)[k2]? = some a_ := ⟨_, List.getElem?_eq_getElem (by assumption)⟩
      have w_f := wrap_nat k2 (by omega)
      have c2 := ins80 (G := GK) t f.cols
      simp only [encTbl_eq] at c2
      have bad : insF s.items n t f = false → insL s.items 0 s.items = false := fun e => by
        rw [all_bad (p := insF s.items n t) g_f e, Bool.false_and] at hP; exact hP.symm
      cases d : (f.cols.items.all (inB t.cols.items.length))
      · refine gw (an l_t (an g_t (an w_t (an l_e1 (an l_f (an g_f (an w_f (an c2 d)))))))) ?_
        simp +decide only[go_sem,reduceAdd,reduceMul,reduceSub,l_t,g_t,w_t,l_e1,l_f,g_f,w_f,c2,d]
        rw [bad (by unfold insF; rw [d]; rfl)]
        all_goals rfl
      by_cases b1 : (f.table.1 : Int) < 0
      · refine gw (an l_t (an g_t (an w_t (an l_e1 (an l_f (an g_f (an w_f (an c2 (an d b1))))))))) ?_
        simp +decide only[go_sem,reduceAdd,reduceMul,reduceSub,l_t,g_t,w_t,l_e1,l_f,g_f,w_f,c2,d,b1]
        rw [bad (by unfold insF; rw [decide_eq_false (show ¬ (0 : Int) ≤ f.table.1 by omega), Bool.false_and, Bool.and_false])]
        all_goals rfl
      by_cases b2 : (n : Int) < (f.table.1 : Int)
      · refine gw (an l_t (an g_t (an w_t (an l_e1 (an l_f (an g_f (an w_f (an c2 (an d (an b1 b2)))))))))) ?_
        simp +decide only[go_sem,reduceAdd,reduceMul,reduceSub,l_t,g_t,w_t,l_e1,l_f,g_f,w_f,c2,d,b1,b2]
        rw [bad (by unfold insF; rw [decide_eq_false (show ¬ f.table.1 ≤ (n : Int) by omega), Bool.false_and, Bool.and_false, Bool.and_false])]
        all_goals rfl
      by_cases b3 : (f.key.1 : Int) < 0
      · refine gw (an l_t (an g_t (an w_t (an l_e1 (an l_f (an g_f (an w_f (an c2 (an d (an b1 (an b2 b3))))))))))) ?_
        simp +decide only[go_sem,reduceAdd,reduceMul,reduceSub,l_t,g_t,w_t,l_e1,l_f,g_f,w_f,c2,d,b1,b2,b3]
        rw [bad (by unfold insF; rw [decide_eq_false (show ¬ (0 : Int) ≤ f.key.1 by omega), Bool.false_and, Bool.and_false, Bool.and_false, Bool.and_false])]
        all_goals rfl
      obtain ⟨u, hu⟩ := atI_lt (l := s.items) (n := f.table.1) (by omega) (by omega)
      by_cases b4 : (u.keys.items.length : Int) ≤ f.key.1
      · refine gw (an l_t (an g_t (an w_t (an l_e1 (an l_f (an g_f (an w_f (an c2 (an d (an b1 (an b2 (an b3 (an hu b4))))))))))))) ?_
        simp +decide only[go_sem,reduceAdd,reduceMul,reduceSub,l_t,g_t,w_t,l_e1,l_f,g_f,w_f,c2,d,b1,b2,b3,hu,b4]
        rw [bad (by unfold insF; simp only [hu]; rw [decide_eq_false (show ¬ f.key.1 < (u.keys.items.length : Int) by omega)]; simp)]
        all_goals rfl
      refine gw (an l_t (an g_t (an w_t (an l_e1 (an l_f (an g_f (an w_f (an c2 (an d (an b1 (an b2 (an b3 (an hu b4))))))))))))) ?_
      exact ⟨k2 + 1, by simp +decide only[go_sem,reduceAdd,reduceMul,reduceSub,l_t,g_t,w_t,l_e1,l_f,g_f,w_f,c2,d,b1,b2,b3,hu,b4] <;> rfl, ⟨by omega, all_take hR g_f (by
        unfold insF
        simp only [hu]
        rw [d, decide_eq_true (show (0 : Int) ≤ f.table.1 by omega), decide_eq_true (show f.table.1 ≤ (n : Int) by omega), decide_eq_true (show (0 : Int) ≤ f.key.1 by omega), decide_eq_true (show f.key.1 < (u.keys.items.length : Int) by omega)]
        rfl)⟩, by omega⟩
    have l_e2 : ((k2 : Int) < ((t.fgns.items).length : Int)) = False := by simp; omega
    rw [List.take_of_length_le (by omega)] at hR
    rw [hR, Bool.true_and] at hP
    refine gw (an l_t (an g_t (an w_t (an l_e1 l_e2)))) ?_
    exact ⟨n + 1, by simp +decide only[go_sem,reduceAdd,reduceMul,reduceSub,l_t,g_t,w_t,l_e1,l_e2] <;> rfl, ⟨by omega, hP⟩, by omega⟩
  have l_e0 : ((n : Int) < ((s.items).length : Int)) = False := by simp; omega
  rw [List.drop_eq_nil_of_le (by omega), insL] at hP
  have hin := hP.symm
  rw [hin, Bool.true_and]
  refine gw l_e0 ?_
  refine wpI_loopC (T := Nat) [0, 7, 8] rfl (by simp +decide only[go_sem,reduceAdd,reduceMul,reduceSub,l_e0]; exact rfl) (fun k => [(8, .int .i64 (k : Int)), (7, accD 22 (((s.items.take k).map (defS s.items)).map encStm))]) (fun _ => []) (fun k => ⟨[], accT (((s.items.take k).map (defS s.items)).map encStm)⟩) (fun k => k ≤ s.items.length) (fun k => s.items.length - k) 0 (by simp +decide only[go_sem,reduceAdd,reduceMul,reduceSub,l_e0] <;> rfl) (by simp) ?_
  rintro k hk
  by_cases h : k < s.items.length
  · have l_t : ((k : Int) < ((s.items).length : Int)) = True := by simp; omega
    obtain ⟨t, g_t⟩ : ∃ a_, (s.items)[k]? = some a_ := ⟨_, List.getElem?_eq_getElem (by assumption)⟩
    have w_t := wrap_nat k (by omega)
    obtain ⟨i1, i2⟩ := insL_ok hs hin g_t
    have c3 := def81 (G := GK) s k t g_t (hs t (List.mem_of_getElem? g_t)) i1 i2
    simp only [encStm_eq] at c3
    have hle : ((((s.items.take k).map (defS s.items)).map encStm).length + 1 ≤ 16777216) = True := by
      have : (((s.items.take k).map (defS s.items)).map encStm).length ≤ s.items.length := by simp only [List.length_map]; exact List.length_take_le' ..
      simp only [eq_iff_iff, iff_true]; omega
    have htk : List.take 16 (defS s.items t).rest.1 = (defS s.items t).rest.1 := List.take_of_length_le (by rw [rest_len]; exact Nat.le_refl _)
    refine gw (an l_e0 (an l_t (an g_t (an w_t (an c3 (an hle htk)))))) ?_
    refine ⟨k + 1, ?_, by omega, by omega⟩
    rw [List.take_add_one, g_t, List.map_append, List.map_append]
    simp only [Option.toList_some, List.map_cons, List.map_nil, encStm_eq]
    exact by simp +decide only[go_sem,reduceAdd,reduceMul,reduceSub,l_e0,l_t,g_t,w_t] <;> rfl
  have l_e3 : ((k : Int) < ((s.items).length : Int)) = False := by simp; omega
  rw [List.take_of_length_le (by omega)]
  have hml : (s.items.map (defS s.items)).length < 4611686018427387904 := by rw [List.length_map]; omega
  have hst : stripF noR (accD 22 ((s.items.map (defS s.items)).map encStm)) = sl 22 encStm (cn (s.items.map (defS s.items))) := by rw [strip_acc (stripFL_map _ (fun y => strip_Stm y) _), out_cn _ _ hml]
  have c4 := bld22 (cn (s.items.map (defS s.items))) (by rw [cn_items hml, List.length_map]; exact hl) (by
    rw [cn_items hml]
    intro x hx
    obtain ⟨t, ht, rfl⟩ := List.mem_map.1 hx
    obtain ⟨i, hi⟩ := List.mem_iff_getElem?.1 ht
    exact defS_small hs ht (insL_ok hs hin hi).2)
  rw [cn_items hml] at c4
  generalize bldF stepR [] (s.items.map (defS s.items)) = o at *
  cases o with
  | ok r =>
    simp only [bldT] at c4
    refine gw (an l_e0 (an l_e3 (an hst c4))) ?_
    simp +decide only[go_sem,reduceAdd,reduceMul,reduceSub,l_e0,l_e3]
    all_goals rfl
  | error p =>
    obtain ⟨i, e⟩ := p
    simp only [bldT] at c4
    refine gw (an l_e0 (an l_e3 (an hst c4))) ?_
    simp +decide only[go_sem,reduceAdd,reduceMul,reduceSub,l_e0,l_e3]
    all_goals rfl
end Go.Eng
