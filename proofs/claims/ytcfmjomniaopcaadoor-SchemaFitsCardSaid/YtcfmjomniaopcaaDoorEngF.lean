/- Part of the engine that proves it: see the last text. -/
import Derived.Test.YtcfmjomniaopcaaDoorEngZ
/- Whole functions. -/
namespace Go.Eng
open Go
section
variable {X : Ctx} {F : Fi} {B N n : Nat} {w0 w w' : World} {S0 S S' : Sh} {st : St} {lb : Nat → Nat} {a : Act}

theorem slL_numbered : ∀ (ds : List D) (i x : Nat), slL (numbered ds i) x = if i ≤ x then (ds[x - i]?).getD .undef else .undef
  | [], i, x => by simp [numbered, slL]
  | d :: r, i, x => by
    simp only [numbered, slL]
    by_cases e : x = i
    · subst e; simp
    · rw [if_neg e, slL_numbered r (i + 1) x]
      by_cases h : i ≤ x
      · rw [if_pos h, if_pos (by omega), show x - i = (x - (i + 1)) + 1 by omega, List.getElem?_cons_succ]
      · rw [if_neg h, if_neg (by omega)]

theorem resL_ok (R : RelG X B w S) (A : RelA N w S st lb a) (f : ResultVar → Sem Value) (f1 : ∀ t, f (.tmp t) = pure (a.tmps.getD t undef)) (f2 : ∀ p t, f (.cell p t) = do loadVar t (← asAddr (a.tmps.getD p undef))) : ∀ (rs : List ResultVar) (ds : List D), resL X st rs = some ds →
    ∃ vs : List Value, (rs.mapM f).run X.P w = .ok vs w ∧ HasL w S ds vs
  | [], ds, h => by cases h; exact ⟨[], by simp, rfl, fun j c v hc => by simp at hc⟩
  | r :: rs, ds, h => by
    simp only [resL] at h
    split at h
    · rename_i d ds' h1 h2
      cases h
      obtain ⟨vs, hr, hl⟩ := resL_ok R A f f1 f2 rs ds' h2
      have one : ∃ v, (f r).run X.P w = .ok v w ∧ HasV w S d v := by
        cases r with
        | tmp t => simp only [resOne] at h1; cases h1; exact ⟨_, by rw [f1]; rfl, A.slots t⟩
        | cell p t =>
          simp only [resOne] at h1
          split at h1
          · rename_i cs off hp
            rw [A.m] at hp
            obtain ⟨b, base, he, L⟩ := place_ok R A (fun _ _ h => h) hp
            obtain ⟨v, hv, hvv⟩ := takeD_ok L h1
            have he : a.tmps.getD p undef = _ := he
            exact ⟨v, by simp only [f2, he, asAddr, Sem.run_bind, Sem.run_pure, Result.andThen_ok, hv], hvv⟩
          · cases h1
      obtain ⟨v, hv1, hv2⟩ := one
      refine ⟨v :: vs, ?_, ⟨by simp [hl.len], fun j c u hc hu => ?_⟩⟩
      · rw [List.mapM_cons]
        simp only [Sem.run_bind, hv1, Result.andThen_ok, hr, Sem.run_pure]
      · cases j with
        | zero => simp at hc hu; subst hc; subst hu; exact hv2
        | succ j => simp at hc hu; exact hl.at_ j c u hc hu
    · cases h

theorem results_eq (fn : Func) (tmps : Array Value) : ∃ f : ResultVar → Sem Value, (∀ t, f (.tmp t) = pure (tmps.getD t undef)) ∧ (∀ p t, f (.cell p t) = do loadVar t (← asAddr (tmps.getD p undef))) ∧
    results fn tmps = (do let vs ← fn.results.mapM f; pure (if h : vs.size = 1 then vs[0] else .tuple vs)) := by
  refine ⟨_, ?_, ?_, rfl⟩
  · intro t; rfl
  · intro p t; rfl

theorem results_ok (R : RelG X B w S) (A : RelA N w S st lb a) {fn : Func} {r : D} (h : resD X fn.results.toList st = some r) : ∃ v, (results fn a.tmps).run X.P w = .ok v w ∧ HasV w S r v := by
  unfold resD at h
  have main : ∀ ds, resL X st fn.results.toList = some ds → ∃ vs : Array Value, (results fn a.tmps).run X.P w = .ok (if h : vs.size = 1 then vs[0] else .tuple vs) w ∧ HasL w S ds vs.toList := fun ds hd => by
    obtain ⟨f, f1, f2, hf⟩ := results_eq fn a.tmps
    rw [hf, Array.mapM_eq_mapM_toList]
    simp only [Sem.run_bind, Sem.run_map]
    obtain ⟨vs, hr, hl⟩ := resL_ok R A f f1 f2 _ ds hd
    refine ⟨vs.toArray, ?_, by simpa using hl⟩
    rw [hr]
    simp
  split at h
  · rename_i d hd
    cases h
    obtain ⟨vs, hr, hl⟩ := main _ hd
    have hs : vs.size = 1 := by have := hl.len; simpa using this.symm
    refine ⟨_, hr, ?_⟩
    rw [dif_pos hs]
    exact hl.at_ 0 _ _ rfl (by simp [hs])
  · rename_i ds hne hd
    cases h
    obtain ⟨vs, hr, hl⟩ := main _ hd
    have hs : ¬ vs.size = 1 := fun e => by
      have : ds.length = 1 := by have := hl.len; simpa [e] using this
      match ds, this with
      | [d], _ => exact hne d rfl
    refine ⟨_, hr, ?_⟩
    rw [dif_neg hs]
    exact .tuple ds vs (by simpa using hl.len) (fun j c v hc hv => hl.at_ j c v hc (by simpa using hv))
  · cases h

/-- A function by its body. -/
theorem call_of {C : CallW} (hC : CallOk X C) {f : Nat} {fn : Func} {c : Code} {m : Mem} {ds : List D} {Q : D → Mem → Prop} (F : Fi) (hf : X.P.funcs[f]? = some fn) (hb : fn.body = some c) (hen : enterable X.P f = true) (hok : codeOk X.P C.pf F fn.ntmps c = true)
    (hl : ds.length ≤ fn.ntmps) (h : wpI X F C c (endP X fn.results.toList Q) (entry ds m)) : CallD X f m ds Q := by
  refine ⟨hen, fun B w S args R hm ha => calls_of_wp hf hb ?_⟩
  have hal : args.size = ds.length := by have := ha.len; simpa using this.symm
  have hsz : (args ++ Array.replicate (fn.ntmps - args.size) undef).size = fn.ntmps := by simp; omega
  have A : RelA w.heap.size w S (entry ds m) (fun _ => 0) { tmps := args ++ Array.replicate (fn.ntmps - args.size) undef, defers := [] } := {
    m := hm.symm
    defers := rfl
    slots := fun x => by
      show HasV w S (slL (numbered ds 0) x) _
      rw [slL_numbered, if_pos (Nat.zero_le _), Nat.sub_zero]
      rcases Nat.lt_or_ge x ds.length with hx | hx
      · have h1 : ds[x]? = some ds[x] := List.getElem?_eq_getElem hx
        have hxa : x < args.size := by omega
        rw [h1]
        refine ha.at_ x _ _ h1 ?_
        have h2 : x < args.toList.length := by simpa using hxa
        rw [List.getElem?_eq_getElem h2]
        have hx2 : x < (args ++ Array.replicate (fn.ntmps - args.size) undef).size := by rw [hsz]; omega
        simp only [Array.getD_eq_getD_getElem?, Array.getElem?_eq_getElem hx2, Option.getD_some]
        rw [Array.getElem_append_left hxa]; simp
      · rw [List.getElem?_eq_none hx]; exact .undef _
    regs := fun x k o h => by cases h
    boxes := fun k cs h => by cases h
    inj := fun k k' h => by cases h }
  refine wp_mono (wpI_ok hC R.base (F := F) (n := fn.ntmps) R.tidy (Nat.le_refl _) c hok _ _ w ⟨_, S, _, h, R, A, Ext.refl _ w S, by rw [hsz]; exact Nat.le_refl _⟩) fun e a' w' hc => ?_
  obtain ⟨st, S', lb, hq, R', A', E, _⟩ := hc
  have fin : (match resD X fn.results.toList st with | some r => Q r st.m | none => False) → a'.defers = [] ∧ ∃ v, (results fn a'.tmps).run X.P w' = .ok v w' ∧ ∃ v' S' r, Ending.returned v = .returned v' ∧ Q r S'.m ∧ RelG X B w' S' ∧ Ext w.heap.size w S w' S' ∧ HasV w' S' r v' := fun hq => by
    split at hq
    · rename_i r hr
      obtain ⟨v, h1, h2⟩ := results_ok R' A' hr
      exact ⟨A'.defers, v, h1, v, S', r, rfl, A'.m ▸ hq, R', E, h2⟩
    · exact hq.elim
  cases e with
  | normal => exact fin hq
  | ret => exact fin hq
  | exit id => exact hq.elim
  | goto l => exact hq.elim
  | panic c => exact hq.elim
  | outgrown => exact hq.elim
end
end Go.Eng
