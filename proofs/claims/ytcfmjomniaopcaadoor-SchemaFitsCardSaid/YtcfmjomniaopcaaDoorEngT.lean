/- Part of the engine that proves it: see the last text. -/
import Derived.Test.YtcfmjomniaopcaaDoorEngI
/- Tables of functions. -/
namespace Go.Eng
open Go

def fiOf : List (Nat × Fi) → Nat → Option Fi
  | [], _ => none
  | (i, F) :: r, f => match Nat.beq i f with | true => some F | false => fiOf r f
/-- The table: functions with what is known of their slots; cl: those that are on their own. -/
def mkT (P : Program) (tab : List (Nat × Fi)) (cl : List Nat) (f : Nat) : Option Fx :=
  match fiOf tab f with
  | some F => (match P.funcs[f % 100000]? with
    | some fn => (match fn.body with
      | some c => some ⟨F, fn.ntmps, fn.results.toList, c, memB cl f⟩
      | none => none)
    | none => none)
  | none => none
def okF (P : Program) (pf : Nat → Bool) (f : Nat) (F : Fi) : Bool :=
  match P.funcs[f % 100000]? with
  | some fn => (match fn.body with
    | some c => enterable P (f % 100000) && codeOk P pf F fn.ntmps c
    | none => true)
  | none => true
def okTab (P : Program) (pf : Nat → Bool) : List (Nat × Fi) → Bool
  | [] => true
  | (f, F) :: r => okF P pf f F && okTab P pf r

theorem okTab_of {P : Program} {pf : Nat → Bool} : ∀ {tab : List (Nat × Fi)} {f : Nat} {F : Fi}, okTab P pf tab = true → fiOf tab f = some F → okF P pf f F = true
  | [], f, F, _, h => by cases h
  | (i, F') :: r, f, F, ho, h => by
    simp only [okTab, Bool.and_eq_true] at ho
    simp only [fiOf] at h
    split at h
    · rename_i he; cases h; rw [← Nat.eq_of_beq_eq_true he]; exact ho.1
    · exact okTab_of ho.2 h

theorem allGood_of {X : Ctx} (hG : PlainG X) {tab : List (Nat × Fi)} {cl : List Nat} (ho : okTab X.P (pfT (mkT X.P tab cl)) tab = true) : AllGood X (mkT X.P tab cl) := by
  refine ⟨hG, fun f fx h => ?_⟩
  have h0 := h
  unfold mkT at h
  split at h
  · rename_i F hF
    have hok := okTab_of ho hF
    split at h
    · rename_i fn hfn
      split at h
      · rename_i c hc
        cases h
        unfold okF at hok
        rw [hfn] at hok
        simp only [hc, Bool.and_eq_true] at hok
        exact ⟨fn, hfn, hc, rfl, rfl, hok.1, hok.2⟩
      · cases h
    · cases h
  · cases h

section
variable {X : Ctx} {T : Nat → Option Fx}
theorem callR_body {f : Nat} {F : Fi} {n : Nat} {rs : List ResultVar} {c : Code} {m : Mem} {ds : List D} {Q : D → Mem → Prop} (hT : T f = some ⟨F, n, rs, c, false⟩) (hl : Nat.ble ds.length n = true)
    (h : wpI X F (callC X T) c (endP X rs Q) (entry ds m)) : ∃ r m', callR X T f m ds = some (r, m') ∧ Q r m' := callR_of hT rfl hl h
theorem callR_val {f : Nat} {F : Fi} {n : Nat} {rs : List ResultVar} {c : Code} {m : Mem} {ds : List D} {v : D} {m1 : Mem} (hT : T f = some ⟨F, n, rs, c, false⟩) (hl : Nat.ble ds.length n = true)
    (h : wpI X F (callC X T) c (endP X rs fun r m' => r = v ∧ m' = m1) (entry ds m)) : callR X T f m ds = some (v, m1) := callR_eq hT rfl hl h
/-- A function on its own: what it returns for arguments without rights. -/
theorem callP_val {f : Nat} {F : Fi} {n : Nat} {rs : List ResultVar} {c : Code} {ds : List D} {v : D} (hT : T f = some ⟨F, n, rs, c, true⟩) (hl : Nat.ble ds.length n = true) (hs : stripL ds = ds)
    (h : wpI X F (callC X T) c (endP X rs fun r m => frz m r = v) (entry ds ⟨[], []⟩)) : callP X T f ds = some v := by
  obtain ⟨r, m', h1, h2⟩ := callR_cl hT rfl hl (by rw [hs]; exact h)
  unfold callP
  rw [h2]
  simp only [Option.map_some, h1]
theorem callP_body {f : Nat} {F : Fi} {n : Nat} {rs : List ResultVar} {c : Code} {ds : List D} {Q : D → Prop} (hT : T f = some ⟨F, n, rs, c, true⟩) (hl : Nat.ble ds.length n = true) (hs : stripL ds = ds)
    (h : wpI X F (callC X T) c (endP X rs fun r m => Q (frz m r)) (entry ds ⟨[], []⟩)) : ∃ v, callP X T f ds = some v ∧ Q v := by
  obtain ⟨r, m', h1, h2⟩ := callR_cl hT rfl hl (by rw [hs]; exact h)
  refine ⟨frz m' r, ?_, h1⟩
  unfold callP
  rw [h2]
  rfl
/-- A call of a function on its own. -/
theorem callR_own {g : Nat} (hp : pfT T g = true) (m : Mem) (ds : List D) : callR X T g m ds = (match callP X T g (stripL ds) with | some v => some (v, m) | none => none) := by
  have hst : ∀ ds : List D, stripL (stripL ds) = stripL ds := stripL_idem
  have key : ∀ (n : Nat) (m : Mem) (ds : List D), callAt X T n g m ds = (callAt X T n g ⟨[], []⟩ (stripL ds)).map fun p => (p.1, m) := fun n m ds => by
    unfold callAt callBy
    unfold pfT at hp
    cases hT : T g with
    | none => rfl
    | some fx =>
      rw [hT] at hp
      have hp : fx.cl = true := hp
      simp only [hp, hst, stripL_length]
      cases Nat.ble ds.length fx.n with
      | false => rfl
      | true =>
        simp only
        cases bodyBy X (exec X T n) fx ⟨[], []⟩ (stripL ds) <;> rfl
  unfold callP
  cases h : callR X T g ⟨[], []⟩ (stripL ds) with
  | none =>
    simp only [Option.map_none]
    cases h2 : callR X T g m ds with
    | none => rfl
    | some q =>
      obtain ⟨n, hn⟩ := callR_some h2
      have := key n m ds
      rw [hn n (Nat.le_refl n)] at this
      cases h3 : callAt X T n g ⟨[], []⟩ (stripL ds) with
      | none => rw [h3] at this; cases this
      | some q2 => rw [callR_of_at h3] at h; cases h
  | some q =>
    obtain ⟨n, hn⟩ := callR_some h
    have := key n m ds
    rw [hn n (Nat.le_refl n)] at this
    rw [callR_of_at this]
    rfl

@[go_sem] theorem callN_eq (g : Nat) (ds : List D) (dst : Option Nat) (K : St → Prop) (st : St) : callN (callC X T) g ds dst K st = match callR X T g st.m ds with | some (r, m') => Sub st.m m' ∧ K ((st.put dst r).setM m') | none => False := by
  apply propext
  unfold callN
  simp only [callC_run]
  cases callR X T g st.m ds with
  | none => exact ⟨fun ⟨_, _, h, _⟩ => h, fun h => h.elim⟩
  | some p =>
    obtain ⟨r, m'⟩ := p
    exact ⟨fun ⟨T', _, h, h2⟩ => h2 r m' h, fun h => ⟨fun a b => a = r ∧ b = m', ⟨r, m', rfl, rfl⟩, ⟨rfl, rfl⟩, fun a b ⟨e1, e2⟩ => by subst e1; subst e2; exact h⟩⟩
theorem Sub.refl (m : Mem) : Sub m m := fun _ _ h => h
@[go_sem] theorem Sub_self (m : Mem) : Sub m m = True := eq_true (Sub.refl m)
@[go_sem] theorem Sub_toks (b : List (List D)) (t t' : List Nat) : Sub ⟨b, t⟩ ⟨b, t'⟩ = True := eq_true fun _ _ h => h
end
end Go.Eng
