/- Part of the engine that proves it: see the last text. -/
import Derived.Test.YtcfmjomniaopcaaDoorEngX2
/- One walk in the text's order serves every order. -/
namespace Go.Eng
open Go

/-- Pointers to local boxes lead to boxes. -/
def WfR (st : St) : Prop := ∀ x k off, st.lp x = some (k, off) → st.bx k ≠ none

/-- What is known of an effect when an operation has yielded it. -/
def EffOk (X : Ctx) (F : Fi) (C : CallW) (o : Oper) (st : St) : Eff → Prop
  | .put _ => True
  | .putM _ _ => kindOf X.P C.pf F o = .mem
  | .putL k _ => st.bx k ≠ none ∧ o.dst ≠ none
  | .stay => o.dst = none
  | .newBox _ => kindOf X.P C.pf F o = .make ∧ ∃ x, o.dst = some x ∧ st.bx x = none
  | .wr k off ds => (kindOf X.P C.pf F o = .wr k off ds.length ∧ memB F.cap k = false ∨ kindOf X.P C.pf F o = .st ∧ memB F.cap k = true) ∧ o.dst = none ∧ ∃ cs, st.bx k = some cs ∧ off + ds.length ≤ cs.length
  | .setM _ => kindOf X.P C.pf F o = .st ∧ o.dst = none

theorem setRow_len : ∀ (ds cs : List D) (o : Nat), (setRow cs o ds).length = cs.length
  | [], _, _ => rfl
  | d :: r, cs, o => by simp only [setRow]; rw [setRow_len r]; simp
theorem setRow_get : ∀ (ds cs : List D) (o j : Nat), (setRow cs o ds)[j]? = if o ≤ j ∧ j < o + ds.length ∧ j < cs.length then ds[j - o]? else cs[j]?
  | [], cs, o, j => by simp only [setRow, List.length_nil]; rw [if_neg (by omega)]
  | d :: r, cs, o, j => by
    simp only [setRow]
    rw [setRow_get r, List.length_set, List.length_cons]
    by_cases h1 : o + 1 ≤ j ∧ j < o + 1 + r.length ∧ j < cs.length
    · rw [if_pos h1, if_pos (by omega), show j - o = (j - (o + 1)) + 1 by omega, List.getElem?_cons_succ]
    · rw [if_neg h1]
      by_cases h2 : o = j
      · subst h2
        by_cases h3 : o < cs.length
        · rw [if_pos (by omega), List.getElem?_set_self h3]; simp
        · rw [if_neg (by omega), List.getElem?_eq_none (by simp; omega), List.getElem?_eq_none (by omega)]
      · rw [List.getElem?_set_ne h2, if_neg (by omega)]
theorem setRow_comm (cs : List D) (o1 o2 : Nat) (d1 d2 : List D) (h : o1 + d1.length ≤ o2) : setRow (setRow cs o1 d1) o2 d2 = setRow (setRow cs o2 d2) o1 d1 := by
  apply List.ext_getElem?
  intro j
  simp only [setRow_get, setRow_len]
  by_cases h1 : o2 ≤ j ∧ j < o2 + d2.length ∧ j < cs.length <;> by_cases h2 : o1 ≤ j ∧ j < o1 + d1.length ∧ j < cs.length
  · omega
  · rw [if_pos h1, if_neg h2, if_pos h1]
  · rw [if_neg h1, if_pos h2, if_pos h2]
  · rw [if_neg h1, if_neg h2, if_neg h2, if_neg h1]

section
variable {X : Ctx} {F : Fi} {C : CallW} {m0 : Mem} {st st' : St} {ops : Array Oper} {o oi oj : Oper}

theorem locOf_cap {p : Operand} {k o : Nat} (h : locOf F p = some (k, o)) : memB F.cap k = false := by
  unfold locOf at h
  split at h
  · split at h
    · split at h
      · cases h
      · rename_i hc; cases h; exact hc
    · cases h
  · cases h
theorem kind_rd {k : Nat} (h : kindOf X.P C.pf F o = .rd k) : memB F.cap k = false := by
  unfold kindOf at h
  repeat' split at h
  all_goals first
    | (cases h; done)
    | (cases h; exact locOf_cap (by assumption))
theorem kind_wr {k off n : Nat} (h : kindOf X.P C.pf F o = .wr k off n) : memB F.cap k = false := by
  unfold kindOf at h
  repeat' split at h
  all_goals first
    | (cases h; done)
    | (cases h; exact locOf_cap (by assumption))

theorem effN0_ok (hw : WfR st) {e : Eff} (h : effN0 X F C m0 o st = some (.eff e)) : EffOk X F C o st e := by
  have pure_ : pureE X m0 o st = some (.eff e) → EffOk X F C o st e := fun h => by
    unfold pureE at h; split at h <;> cases h; trivial
  have make_ : kindOf X.P C.pf F o = .mem → makeE X F o st = some (.eff e) → EffOk X F C o st e := fun hk h => by
    unfold makeE at h; split at h <;> cases h; exact hk
  have alloc_ : ∀ cs, kindOf X.P C.pf F o = (match o.dst with | some x => (match memB F.esc x with | true => .mem | false => .make) | none => .make) → allocE F o cs st = some (.eff e) → EffOk X F C o st e := fun cs hk h => by
    unfold allocE at h
    split at h
    · rename_i x hx
      rw [hx] at hk
      simp only at hk
      split at h
      · rename_i he
        rw [he] at hk
        cases h; exact hk
      · rename_i he
        rw [he] at hk
        split at h
        · rename_i h2
          cases h; exact ⟨hk, x, hx, h2⟩
        · cases h
    · cases h
  unfold effN0 at h
  split at h <;> rename_i hop
  · split at h
    · exact alloc_ _ (by unfold kindOf; simp only [hop]; rfl) h
    · cases h
  · split at h
    · split at h
      · exact alloc_ _ (by unfold kindOf; simp only [hop]; rfl) h
      · cases h
    · cases h
  · split at h
    · rename_i hd
      unfold storeE at h
      split at h
      · rename_i hlk
        have hr' := eqR_spec hlk
        split at h
        · rename_i key off hr
          rw [hr] at hr'
          split at h
          · rename_i cs n hb hn
            split at h
            · rename_i hc
              simp only [Bool.and_eq_true, decide_eq_true_eq] at hc
              cases h
              refine ⟨?_, hd, cs, hb, by rw [hc.1.2]; exact hc.2⟩
              rcases hr' with hr' | ⟨k', o', h1, h2, h3⟩
              · exact .inl ⟨by unfold kindOf; rw [hop]; simp only [← hr', hn]; rw [hc.1.2], locOf_cap hr'.symm⟩
              · cases h1
                exact .inr ⟨by unfold kindOf; rw [hop]; simp only [h2], h3⟩
            · cases h
          · cases h
        · rename_i hr
          rw [hr] at hr'
          split at h
          · split at h
            · split at h
              · cases h
                have hr' := hr'.elim (fun h => h.symm) (fun ⟨k', o', h1, _⟩ => by cases h1)
                exact ⟨by unfold kindOf; rw [hop]; simp only [hr'], hd⟩
              · cases h
            · cases h
          · cases h
      · cases h
    · cases h
  · split at h
    · split at h <;> cases h; trivial
    · split at h
      · split at h <;> cases h
      · cases h
  · exact make_ (by unfold kindOf; rw [hop]) h
  · unfold rowE at h; split at h <;> cases h; trivial
  · exact pure_ h
  · exact pure_ h
  · exact pure_ h
  · rename_i t p i
    split at h
    · rename_i key off hr
      split at h
      · rename_i n x hn hx
        cases h
        refine ⟨?_, by rw [hx]; simp⟩
        cases p with
        | tmp x => exact hw x key off hr
        | const v => cases hr
        | global g => cases hr
        | func f => cases hr
      · cases h
    · exact pure_ h
  · rename_i p
    split at h
    · rename_i key off hr
      split at h
      · rename_i x hx
        cases h
        refine ⟨?_, by rw [hx]; simp⟩
        cases p with
        | tmp x => exact hw x key off hr
        | const v => cases hr
        | global g => cases hr
        | func f => cases hr
      · rename_i hx; cases h; exact hx
    · exact pure_ h
  · split at h
    · exact pure_ h
    · cases h
  · exact make_ (by unfold kindOf; rw [hop]) h
  · split at h
    · rename_i hb; exact make_ (by unfold kindOf; rw [hop]; simp only [hb]) h
    · exact pure_ h
  all_goals first | exact pure_ h | cases h

theorem effN_ok (hw : WfR st) {all : List Oper} {e : Eff} (h : effN X F C m0 all o st = some (.eff e)) : EffOk X F C o st e := by
  unfold effN at h
  split at h
  · exact effN0_ok hw h
  · split at h
    · split at h
      · exact effN0_ok hw h
      · cases h; trivial
    · cases h; trivial
    · cases h

theorem effN_call {all : List Oper} {g : Nat} {ds : List D} (h : effN X F C m0 all o st = some (.call g ds)) : kindOf X.P C.pf F o = .mem := by
  have main : effN0 X F C m0 o st = some (.call g ds) → kindOf X.P C.pf F o = .mem := fun h => by
    have pure_ : pureE X m0 o st ≠ some (.call g ds) := fun h => by
      unfold pureE at h; split at h <;> cases h
    have make_ : makeE X F o st ≠ some (.call g ds) := fun h => by
      unfold makeE at h; split at h <;> cases h
    have alloc_ : ∀ cs, allocE F o cs st ≠ some (.call g ds) := fun cs h => by
      unfold allocE at h
      repeat' split at h
      all_goals cases h
    have store_ : ∀ t p v, storeE X F t p v st ≠ some (.call g ds) := fun t p v h => by
      unfold storeE at h
      repeat' split at h
      all_goals cases h
    unfold effN0 at h
    split at h <;> rename_i hop
    · split at h
      · exact absurd h (alloc_ _)
      · cases h
    · split at h
      · split at h
        · exact absurd h (alloc_ _)
        · cases h
      · cases h
    · split at h
      · exact absurd h (store_ _ _ _)
      · cases h
    · split at h
      · split at h <;> cases h
      · rename_i hp; unfold kindOf; rw [hop]; simp only; rw [hp]
    · exact absurd h make_
    · unfold rowE at h; split at h <;> cases h
    · exact absurd h pure_
    · exact absurd h pure_
    · exact absurd h pure_
    · split at h
      · split at h <;> cases h
      · exact absurd h pure_
    · split at h
      · split at h <;> cases h
      · exact absurd h pure_
    · split at h
      · exact absurd h pure_
      · cases h
    · exact absurd h make_
    · split at h
      · exact absurd h make_
      · exact absurd h pure_
    all_goals first | exact absurd h pure_ | cases h
  unfold effN at h
  split at h
  · exact main h
  · split at h
    · split at h
      · exact main h
      · cases h
    · cases h
    · cases h

theorem sl_apply (e : Eff) (dst : Option Nat) (st : St) {t : Nat} (ht : dst ≠ some t) : (e.apply dst st).sl t = st.sl t := by
  cases dst with
  | none => cases e <;> rfl
  | some x =>
    have hx : t ≠ x := fun e => ht (by rw [e])
    cases e <;> simp [Eff.apply, St.put, St.putL, St.newBox, St.setM, upd_other _ _ hx]

theorem lp_put (st : St) (dst : Option Nat) (d : D) {t : Nat} (ht : dst ≠ some t) : (st.put dst d).lp t = st.lp t := by
  cases dst with
  | none => rfl
  | some x =>
    have hx : t ≠ x := fun e => ht (by rw [e])
    simp only [St.put, updReg]
    cases st.lp x with
    | none => rfl
    | some q => exact upd_other _ _ hx

theorem lp_apply (e : Eff) (he : EffOk X F C o st e) {t : Nat} (ht : o.dst ≠ some t) : (e.apply o.dst st).lp t = st.lp t := by
  cases e with
  | put d => exact lp_put st _ d ht
  | putM d m => exact lp_put st _ d ht
  | stay => rfl
  | wr k off ds => rfl
  | setM m => rfl
  | putL k off =>
    simp only [Eff.apply]
    cases hd : o.dst with
    | none => rfl
    | some x =>
      have hx : t ≠ x := fun e => ht (by rw [hd, e])
      simp [St.putL, upd_other _ _ hx]
  | newBox cs =>
    obtain ⟨_, x, hd, hb⟩ := he
    have hx : t ≠ x := fun e => ht (by rw [hd, e])
    simp only [Eff.apply, hd, St.newBox, hb, dropIf]
    rw [upd_other _ _ hx]

/-- An operation apart from another sees no difference when the other has been done. -/
theorem agree_of {e : Eff} (hi : EffOk X F C oi st e) (hw : WfR st) (hap : ∀ d, oi.dst = some d → d ∉ oj.looksAt ops) (hdd : ∀ d, oi.dst = some d → oj.dst ≠ some d) (hk : kindsOk (kindOf X.P C.pf F oi) (kindOf X.P C.pf F oj) = true) :
    Agree X F C ops oj st (e.apply oi.dst st) where
  sl := fun t ht => (sl_apply e oi.dst st (fun h => hap t h ht)).symm
  lp := fun t ht => (lp_apply e hi (fun h => hap t h ht)).symm
  bx := fun k hkj hreg => by
    cases e with
    | put d => cases oi.dst <;> rfl
    | putM d m => cases oi.dst <;> rfl
    | stay => rfl
    | putL k off => simp only [Eff.apply]; cases oi.dst <;> rfl
    | setM m => rfl
    | newBox cs =>
      obtain ⟨h2, x, hd, hb⟩ := hi
      simp only [Eff.apply, hd, St.newBox]
      by_cases hne : k = x
      · subst hne; obtain ⟨t, off, ht⟩ := hreg; exact absurd hb (hw t k off ht)
      · rw [upd_other _ _ hne]
    | wr k' off ds =>
      obtain ⟨h3, _, cs, hb, _⟩ := hi
      simp only [Eff.apply, hb]
      have hne : k ≠ k' := fun e => by
        subst e
        rcases h3 with ⟨h3, hc⟩ | ⟨h3, hc⟩ <;> rcases hkj with h4 | ⟨h4, hc'⟩
        · rw [h3, h4] at hk; simp [kindsOk] at hk
        · rw [hc] at hc'; cases hc'
        · rw [kind_rd h4] at hc; cases hc
        · rw [h3, h4] at hk; cases hk
      rw [upd_other _ _ hne]
  bl := fun k hkj hreg => by
    cases e with
    | put d => cases oi.dst <;> rfl
    | putM d m => cases oi.dst <;> rfl
    | stay => rfl
    | putL k off => simp only [Eff.apply]; cases oi.dst <;> rfl
    | setM m => rfl
    | newBox cs =>
      obtain ⟨h2, x, hd, hb⟩ := hi
      simp only [Eff.apply, hd, St.newBox]
      by_cases hne : k = x
      · subst hne; obtain ⟨t, off, ht⟩ := hreg; exact absurd hb (hw t k off ht)
      · rw [upd_other _ _ hne]
    | wr k' off' ds =>
      obtain ⟨h3, _, cs, hb, _⟩ := hi
      simp only [Eff.apply, hb]
      by_cases hne : k = k'
      · subst hne; rw [upd_same, hb]; simp only [Option.map_some, setRow_len]
      · rw [upd_other _ _ hne]
  nb := fun hkj x hx => by
    cases e with
    | put d => cases oi.dst <;> exact Iff.rfl
    | putM d m => cases oi.dst <;> exact Iff.rfl
    | stay => exact Iff.rfl
    | setM m => exact Iff.rfl
    | putL k off => simp only [Eff.apply]; cases oi.dst <;> exact Iff.rfl
    | newBox cs =>
      obtain ⟨_, y, hd, hb⟩ := hi
      simp only [Eff.apply, hd, St.newBox]
      have hne : x ≠ y := fun e => hdd y hd (by rw [hx, e])
      rw [upd_other _ _ hne]
    | wr k' off cs =>
      obtain ⟨h3, _, c0, hb, _⟩ := hi
      simp only [Eff.apply, hb]
      by_cases hxk : x = k'
      · subst hxk
        rw [upd_same, hb]
        exact ⟨fun h => (by cases h), fun h => (by cases h)⟩
      · rw [upd_other _ _ hxk]
  m := fun hkj => by
    cases e with
    | put d => cases oi.dst <;> rfl
    | stay => rfl
    | putL k off => simp only [Eff.apply]; cases oi.dst <;> rfl
    | newBox cs => obtain ⟨_, y, hd, hb⟩ := hi; simp only [Eff.apply, hd]; rfl
    | wr k' off cs => rfl
    | setM m =>
      have : kindOf X.P C.pf F oi = .st := hi.1
      rw [this] at hk
      rcases hkj with h | h <;> rw [h] at hk <;> cases hk
    | putM d m =>
      have : kindOf X.P C.pf F oi = .mem := hi
      rw [this] at hk
      rcases hkj with h | h <;> rw [h] at hk <;> cases hk

theorem St.ext' {a b : St} (h1 : ∀ t, a.sl t = b.sl t) (h2 : ∀ t, a.lp t = b.lp t) (h3 : ∀ k, a.bx k = b.bx k) (h4 : a.m = b.m) : a = b := by
  obtain ⟨s1, l1, b1, m1⟩ := a
  obtain ⟨s2, l2, b2, m2⟩ := b
  have e1 : s1 = s2 := funext h1
  have e2 : l1 = l2 := funext h2
  have e3 : b1 = b2 := funext h3
  have e4 : m1 = m2 := h4
  rw [e1, e2, e3, e4]

theorem sl_at {e : Eff} {s s' : St} (he : EffOk X F C o s e) {x : Nat} (hd : o.dst = some x) : (e.apply o.dst s).sl x = (e.apply o.dst s').sl x := by
  rw [hd]
  cases e with
  | put d => simp [Eff.apply, St.put, upd_same]
  | putM d m => simp [Eff.apply, St.put, St.setM, upd_same]
  | putL k off => simp [Eff.apply, St.putL, upd_same]
  | stay => rw [show o.dst = none from he] at hd; cases hd
  | newBox cs => simp [Eff.apply, St.newBox, upd_same]
  | wr k off cs => rw [he.2.1] at hd; cases hd
  | setM m => rw [he.2] at hd; cases hd

theorem lp_put_at (s : St) (x : Nat) (d : D) : (s.put (some x) d).lp x = none := by
  simp only [St.put, updReg]
  cases h : s.lp x with
  | none => exact h
  | some q => exact upd_same _ _ _

theorem lp_at {e : Eff} {s s' : St} (he : EffOk X F C o s e) {x : Nat} (hd : o.dst = some x) : (e.apply o.dst s).lp x = (e.apply o.dst s').lp x := by
  rw [hd]
  cases e with
  | put d => simp only [Eff.apply]; rw [lp_put_at, lp_put_at]
  | putM d m => show (s.put (some x) d).lp x = (s'.put (some x) d).lp x; rw [lp_put_at, lp_put_at]
  | putL k off => simp [Eff.apply, St.putL, upd_same]
  | stay => rw [show o.dst = none from he] at hd; cases hd
  | newBox cs => simp [Eff.apply, St.newBox, upd_same]
  | wr k off cs => rw [he.2.1] at hd; cases hd
  | setM m => rw [he.2] at hd; cases hd

theorem bx_put (s : St) (dst : Option Nat) (d : D) : (s.put dst d).bx = s.bx := by cases dst <;> rfl
theorem m_put (s : St) (dst : Option Nat) (d : D) : (s.put dst d).m = s.m := by cases dst <;> rfl

/-- Two effects of operations apart from each other commute. -/
theorem apply_comm {ei ej : Eff} {st : St} (hi : EffOk X F C oi st ei) (hj : EffOk X F C oj st ej) (hi' : EffOk X F C oi (ej.apply oj.dst st) ei) (hj' : EffOk X F C oj (ei.apply oi.dst st) ej)
    (hdd : ∀ d, oi.dst = some d → oj.dst ≠ some d) (hk : kindsOk (kindOf X.P C.pf F oi) (kindOf X.P C.pf F oj) = true) :
    ei.apply oi.dst (ej.apply oj.dst st) = ej.apply oj.dst (ei.apply oi.dst st) := by
  apply St.ext'
  · intro t
    by_cases h1 : oi.dst = some t
    · rw [sl_apply ej oj.dst _ (hdd t h1)]
      exact sl_at hi' h1
    · rw [sl_apply ei oi.dst _ h1]
      by_cases h2 : oj.dst = some t
      · exact sl_at hj h2
      · rw [sl_apply ej oj.dst _ h2, sl_apply ej oj.dst _ h2, sl_apply ei oi.dst _ h1]
  · intro t
    by_cases h1 : oi.dst = some t
    · rw [lp_apply ej hj' (hdd t h1)]
      exact lp_at hi' h1
    · rw [lp_apply ei hi' h1]
      by_cases h2 : oj.dst = some t
      · exact lp_at hj h2
      · rw [lp_apply ej hj h2, lp_apply ej hj' h2, lp_apply ei hi h1]
  · intro k
    have bxe : ∀ (e : Eff) (o : Oper) (s : St), EffOk X F C o s e → (e.apply o.dst s).bx k = (match e with | .newBox cs => if o.dst = some k then some cs else s.bx k | .wr k' off ds => if k = k' then (s.bx k).map (fun cs => setRow cs off ds) else s.bx k | _ => s.bx k) := fun e o s he => by
      cases e with
      | put d => simp only [Eff.apply]; rw [bx_put]
      | putM d m => show (s.put o.dst d).bx k = _; rw [bx_put]
      | putL a b => simp only [Eff.apply]; cases o.dst <;> rfl
      | stay => rfl
      | setM m => rfl
      | newBox cs =>
        obtain ⟨_, x, hd, hb⟩ := he
        simp only [Eff.apply, hd, St.newBox, upd, Option.some.injEq, eq_comm]
      | wr k' off ds =>
        obtain ⟨_, _, cs, hb, _⟩ := he
        simp only [Eff.apply, hb]
        by_cases hk' : k = k'
        · subst hk'; rw [upd_same, if_pos rfl, hb]; rfl
        · rw [upd_other _ _ hk', if_neg hk']
    rw [bxe ei oi _ hi', bxe ej oj _ hj, bxe ej oj _ hj', bxe ei oi _ hi]
    cases ei <;> cases ej <;> try rfl
    · rename_i c1 c2
      by_cases h1 : oi.dst = some k
      · simp [h1, hdd k h1]
      · simp [h1]
    · rename_i c1 k2 o2 d2
      by_cases h1 : oi.dst = some k
      · by_cases h2 : k = k2
        · subst h2
          obtain ⟨_, x, hd, hb⟩ := hi
          rw [h1] at hd; cases hd
          obtain ⟨_, _, cs, hb2, _⟩ := hj
          rw [hb] at hb2; cases hb2
        · simp [h1, h2]
      · simp [h1]
    · rename_i k1 o1 d1 c2
      by_cases h1 : oj.dst = some k
      · by_cases h2 : k = k1
        · subst h2
          obtain ⟨_, x, hd, hb⟩ := hj
          rw [h1] at hd; cases hd
          obtain ⟨_, _, cs, hb2, _⟩ := hi
          rw [hb] at hb2; cases hb2
        · simp [h1, h2]
      · simp [h1]
    · rename_i k1 o1 d1 k2 o2 d2
      by_cases h1 : k = k1 <;> by_cases h2 : k = k2
      · subst h1; subst h2
        have hk : kindsOk (.wr k o1 d1.length) (.wr k o2 d2.length) = true := by
          rcases hi.1 with ⟨h3, hc⟩ | ⟨h3, hc⟩ <;> rcases hj.1 with ⟨h4, hc'⟩ | ⟨h4, hc'⟩
          · rw [h3, h4] at hk; exact hk
          · rw [hc] at hc'; cases hc'
          · rw [hc] at hc'; cases hc'
          · rw [h3, h4] at hk; cases hk
        simp only [if_true, Option.map_map]
        cases hbk : st.bx k with
        | none => rfl
        | some cs =>
          simp only [Option.map_some, Function.comp_apply, Option.some.injEq]
          obtain ⟨_, _, cs1, hb1, hl1⟩ := hi
          obtain ⟨_, _, cs2, hb2, hl2⟩ := hj
          rw [hbk] at hb1 hb2; cases hb1; cases hb2
          have hkk : k.beq k = true := Nat.beq_refl k
          simp only [kindsOk, hkk, Bool.not_true, Bool.false_or, Bool.or_eq_true, Nat.ble_eq] at hk
          rcases hk with hk | hk
          · exact (setRow_comm cs o1 o2 d1 d2 hk).symm
          · exact setRow_comm cs o2 o1 d2 d1 hk
      · simp only [if_pos h1, if_neg h2]
      · simp only [if_neg h1, if_pos h2]
      · simp only [if_neg h1, if_neg h2]
  · have me : ∀ (e : Eff) (o : Oper) (s : St), EffOk X F C o s e → (e.apply o.dst s).m = (match e with | .putM _ m => m | .setM m => m | _ => s.m) := fun e o s he => by
      cases e with
      | put d => simp only [Eff.apply]; rw [m_put]
      | putM d m => rfl
      | putL a b => simp only [Eff.apply]; cases o.dst <;> rfl
      | stay => rfl
      | newBox cs => obtain ⟨_, x, hd, hb⟩ := he; simp only [Eff.apply, hd]; rfl
      | wr k' off cs => rfl
      | setM m => rfl
    rw [me ei oi _ hi', me ej oj _ hj, me ej oj _ hj', me ei oi _ hi]
    cases ei <;> cases ej <;> try rfl
    · rw [show kindOf X.P C.pf F oi = .mem from hi, show kindOf X.P C.pf F oj = .mem from hj] at hk; cases hk
    · rw [show kindOf X.P C.pf F oi = .mem from hi, show kindOf X.P C.pf F oj = .st from hj.1] at hk; cases hk
    · rw [show kindOf X.P C.pf F oi = .st from hi.1, show kindOf X.P C.pf F oj = .mem from hj] at hk; cases hk
    · rw [show kindOf X.P C.pf F oi = .st from hi.1, show kindOf X.P C.pf F oj = .st from hj.1] at hk; cases hk

theorem wf_apply (hw : WfR st) {e : Eff} (he : EffOk X F C o st e) : WfR (e.apply o.dst st) := by
  intro x k off h
  by_cases hx : o.dst = some x
  · rw [hx] at h ⊢
    cases e with
    | put d => simp only [Eff.apply] at h; rw [lp_put_at] at h; cases h
    | putM d m => have h : (st.put (some x) d).lp x = _ := h; rw [lp_put_at] at h; cases h
    | putL k' off' => simp only [Eff.apply, St.putL] at h ⊢; rw [upd_same] at h; cases h; exact he.1
    | stay => rw [show o.dst = none from he] at hx; cases hx
    | newBox cs => simp only [Eff.apply, St.newBox] at h ⊢; rw [upd_same] at h; cases h; rw [upd_same]; simp
    | wr k off cs => rw [he.2.1] at hx; cases hx
    | setM m => rw [he.2] at hx; cases hx
  · rw [lp_apply e he hx] at h
    have := hw x k off h
    cases e with
    | put d => simp only [Eff.apply]; rw [bx_put]; exact this
    | putM d m => show (st.put o.dst d).bx k ≠ none; rw [bx_put]; exact this
    | putL a b => simp only [Eff.apply]; cases o.dst <;> exact this
    | stay => exact this
    | newBox cs =>
      obtain ⟨_, y, hd, hb⟩ := he
      simp only [Eff.apply, hd, St.newBox]
      by_cases e : k = y
      · subst e; rw [upd_same]; simp
      · rw [upd_other _ _ e]; exact this
    | setM m => exact this
    | wr k' off cs =>
      obtain ⟨_, _, c0, hb, _⟩ := he
      simp only [Eff.apply, hb]
      by_cases e : k = k'
      · subst e; rw [upd_same]; simp
      · rw [upd_other _ _ e]; exact this
end
end Go.Eng
