/- Part of the engine that proves it: see the last text. -/
import Derived.Test.YtcfmjomniaopcaaDoorEngG
/- The machine and its limit. -/
namespace Go.Eng
open Go

noncomputable def lim {α : Type} (f : Nat → Option α) : Option α := by
  classical exact if h : ∃ n, (f n).isSome = true then f h.choose else none

theorem lim_some {α : Type} {f : Nat → Option α} {x : α} (h : lim f = some x) : ∃ n, f n = some x := by
  classical
  unfold lim at h
  split at h
  · exact ⟨_, h⟩
  · cases h
theorem lim_of {α : Type} {f : Nat → Option α} {x : α} {n : Nat} (hm : ∀ n k y, f n = some y → n ≤ k → f k = some y) (h : f n = some x) : lim f = some x := by
  classical
  have he : ∃ n, (f n).isSome = true := ⟨n, by rw [h]; rfl⟩
  unfold lim
  rw [dif_pos he]
  obtain ⟨y, hy⟩ := Option.isSome_iff_exists.1 he.choose_spec
  have h1 := hm _ (max n he.choose) y hy (Nat.le_max_right _ _)
  have h2 := hm _ (max n he.choose) x h (Nat.le_max_left _ _)
  rw [h1] at h2
  rw [hy]; exact h2

section
variable {X : Ctx} {F : Fi} {R : Type} {call call' : Call} {pf : Nat → Bool} {K K' : St → Option R} {st : St} {x : R}

theorem pureM_mono {o : Oper} (hK : ∀ st', K st' = some x → K' st' = some x) (h : pureM X o K st = some x) : pureM X o K' st = some x := by
  unfold pureM at h ⊢
  split at h
  · exact hK _ h
  · cases h
theorem pureMN_mono {m0 : Mem} {o : Oper} (hK : ∀ st', K st' = some x → K' st' = some x) (h : pureMN X m0 o K st = some x) : pureMN X m0 o K' st = some x := by
  unfold pureMN at h ⊢
  split at h
  · exact hK _ h
  · cases h
theorem makeM_mono {o : Oper} (hK : ∀ st', K st' = some x → K' st' = some x) (h : makeM X F o K st = some x) : makeM X F o K' st = some x := by
  unfold makeM at h ⊢
  split at h
  · exact hK _ h
  · cases h
theorem rowM_mono {o : Oper} (hK : ∀ st', K st' = some x → K' st' = some x) (h : rowM X o K st = some x) : rowM X o K' st = some x := by
  unfold rowM at h ⊢
  split at h
  · exact hK _ h
  · cases h
theorem allocM_mono {o : Oper} {cs : List D} (hK : ∀ st', K st' = some x → K' st' = some x) (h : allocM F o cs K st = some x) : allocM F o cs K' st = some x := by
  unfold allocM at h ⊢
  split at h
  · split at h
    · exact hK _ h
    · exact hK _ h
  · cases h
theorem allocMN_mono {o : Oper} {cs : List D} (hK : ∀ st', K st' = some x → K' st' = some x) (h : allocMN F o cs K st = some x) : allocMN F o cs K' st = some x := by
  unfold allocMN at h ⊢
  split at h
  · split at h
    · exact hK _ h
    · split at h
      · exact hK _ h
      · cases h
  · cases h
theorem storeM_mono {t : Nat} {p v : Operand} (hK : ∀ st', K st' = some x → K' st' = some x) (h : storeM X t p v K st = some x) : storeM X t p v K' st = some x := by
  unfold storeM at h ⊢
  repeat' split at h
  all_goals first | (cases h; done) | exact hK _ h
theorem storeMN_mono {t : Nat} {p v : Operand} (hK : ∀ st', K st' = some x → K' st' = some x) (h : storeMN X F t p v K st = some x) : storeMN X F t p v K' st = some x := by
  unfold storeMN at h ⊢
  repeat' split at h
  all_goals first | (cases h; done) | exact hK _ h
theorem callM_mono (hc : ∀ g m ds r, call g m ds = some r → call' g m ds = some r) {g : Nat} {ds : List D} {dst : Option Nat}
    (hK : ∀ st', K st' = some x → K' st' = some x) (h : callM call g ds dst K st = some x) : callM call' g ds dst K' st = some x := by
  unfold callM at h ⊢
  split at h
  · rename_i r m he; rw [hc _ _ _ _ he]; exact hK _ h
  · cases h
theorem callMN_mono (hc : ∀ g m ds r, call g m ds = some r → call' g m ds = some r) {g : Nat} {ds : List D} {dst : Option Nat}
    (hK : ∀ st', K st' = some x → K' st' = some x) (h : callMN call g ds dst K st = some x) : callMN call' g ds dst K' st = some x := by
  unfold callMN at h ⊢
  split at h
  · rename_i r m he
    rw [hc _ _ _ _ he]
    simp only
    split at h
    · rename_i hs; exact hK _ h
    · cases h
  · cases h

theorem stepM_mono (hc : ∀ g m ds r, call g m ds = some r → call' g m ds = some r) {o : Oper}
    (hK : ∀ st', K st' = some x → K' st' = some x) (h : stepM X F call o K st = some x) : stepM X F call' o K' st = some x := by
  unfold stepM at h
  repeat' split at h
  all_goals first | (cases h; done) | skip
  all_goals unfold stepM
  all_goals first
    | (simp only [*]; done)
    | (simp only [*]; first | exact hK _ h | exact pureM_mono hK h | exact makeM_mono hK h | exact rowM_mono hK h | exact allocM_mono hK h | exact storeM_mono hK h | exact callM_mono hc hK h)

theorem stepMN_mono (hc : ∀ g m ds r, call g m ds = some r → call' g m ds = some r) {m0 : Mem} {o : Oper}
    (hK : ∀ st', K st' = some x → K' st' = some x) (h : stepMN X F pf call m0 o K st = some x) : stepMN X F pf call' m0 o K' st = some x := by
  unfold stepMN at h
  split at h
  case h_4 =>
    rename_i hop
    unfold stepMN
    rw [hop]
    simp only
    split at h
    · split at h
      · rename_i d m he; rw [hc _ _ _ _ he]; exact hK _ h
      · cases h
    · split at h
      · split at h
        · exact callMN_mono hc hK h
        · cases h
      · cases h
  all_goals repeat' split at h
  all_goals first | (cases h; done) | skip
  all_goals unfold stepMN
  all_goals first
    | (simp only [*]; done)
    | (simp only [*]; first | exact hK _ h | exact pureMN_mono hK h | exact makeM_mono hK h | exact rowM_mono hK h | exact allocMN_mono hK h | exact storeMN_mono hK h | exact callMN_mono hc hK h)

theorem opM_mono (hc : ∀ g m ds r, call g m ds = some r → call' g m ds = some r) {all : List Oper} {o : Oper}
    (hK : ∀ st', K st' = some x → K' st' = some x) (h : opM X F call all o K st = some x) : opM X F call' all o K' st = some x := by
  unfold opM at h ⊢
  split at h
  · exact stepM_mono hc hK h
  · split at h
    · split at h
      · exact stepM_mono hc hK h
      · exact hK _ h
    · exact hK _ h
    · cases h
theorem opMN_mono (hc : ∀ g m ds r, call g m ds = some r → call' g m ds = some r) {m0 : Mem} {all : List Oper} {o : Oper}
    (hK : ∀ st', K st' = some x → K' st' = some x) (h : opMN X F pf call m0 all o K st = some x) : opMN X F pf call' m0 all o K' st = some x := by
  unfold opMN at h ⊢
  split at h
  · exact stepMN_mono hc hK h
  · split at h
    · split at h
      · exact stepMN_mono hc hK h
      · exact hK _ h
    · exact hK _ h
    · cases h
theorem opsM_mono (hc : ∀ g m ds r, call g m ds = some r → call' g m ds = some r) {all : List Oper} (hK : ∀ st', K st' = some x → K' st' = some x) :
    ∀ (l : List Oper) (st : St), opsM X F call all l K st = some x → opsM X F call' all l K' st = some x
  | [], _, h => hK _ h
  | _ :: r, _, h => opM_mono hc (opsM_mono hc hK r) h
theorem opsMN_mono (hc : ∀ g m ds r, call g m ds = some r → call' g m ds = some r) {m0 : Mem} {all : List Oper} (hK : ∀ st', K st' = some x → K' st' = some x) :
    ∀ (l : List Oper) (st : St), opsMN X F pf call m0 all l K st = some x → opsMN X F pf call' m0 all l K' st = some x
  | [], _, h => hK _ h
  | _ :: r, _, h => opMN_mono hc (opsMN_mono hc hK r) h
end

section
variable {X : Ctx} {T : Nat → Option Fx}

theorem bodyBy_mono {ex ex' : Fi → Code → St → Option (Exit × St)} (h : ∀ F c st o, ex F c st = some o → ex' F c st = some o) {fx : Fx} {m : Mem} {ds : List D} {r : D × Mem}
    (hc : bodyBy X ex fx m ds = some r) : bodyBy X ex' fx m ds = some r := by
  unfold bodyBy at hc ⊢
  simp only [forceL_eq, forceM_eq] at hc ⊢
  split at hc
  · rename_i o ho; rw [h _ _ _ _ ho]; exact hc
  · cases hc
theorem callBy_mono {ex ex' : Fi → Code → St → Option (Exit × St)} (h : ∀ F c st o, ex F c st = some o → ex' F c st = some o) (g : Nat) (m : Mem) (ds : List D) (r : D × Mem)
    (hc : callBy X T ex g m ds = some r) : callBy X T ex' g m ds = some r := by
  unfold callBy at hc ⊢
  split at hc
  · rename_i fx hfx
    split at hc
    · rename_i hle
      split at hc
      · split at hc
        · rename_i r0 m0 he; simp only [bodyBy_mono h he]; exact hc
        · cases hc
      · exact bodyBy_mono h hc
    · cases hc
  · cases hc

theorem exec_mono : ∀ (n : Nat) (F : Fi) (c : Code) (st : St) (o : Exit × St), exec X T n F c st = some o → exec X T (n + 1) F c st = some o := by
  intro n
  induction n with
  | zero => intro F c st o h; simp [exec] at h
  | succ n ih =>
  intro F c st o h
  have hcall := callBy_mono (X := X) (T := T) ih
  cases c with
  | skip => simpa only [exec] using h
  | region id ops dr =>
    cases dr with
    | false => rw [exec] at h ⊢; simp only [keepF_eq] at h ⊢; exact opsM_mono hcall (fun _ h => h) _ _ h
    | true =>
      rw [exec] at h ⊢
      simp only [keepF_eq] at h ⊢
      split at h
      · exact opsMN_mono hcall (fun _ h => h) _ _ h
      · cases h
  | seq a b =>
    rw [exec] at h ⊢
    simp only [thenM] at h ⊢
    split at h
    · rename_i s1 h1; rw [ih _ _ _ _ h1]; exact ih _ _ _ _ h
    · rename_i hne
      rw [ih _ _ _ _ h]
      obtain ⟨e, s⟩ := o
      cases e <;> first | rfl | exact (hne _ h).elim
  | cond o' a b =>
    rw [exec] at h ⊢
    split at h
    · rename_i t ht
      cases t with
      | true => exact ih _ _ _ _ h
      | false => exact ih _ _ _ _ h
    · cases h
  | block id a =>
    rw [exec] at h ⊢
    split at h
    · rename_i id' s1 h1; rw [ih _ _ _ _ h1]; exact h
    · rename_i hne
      rw [ih _ _ _ _ h]
      obtain ⟨e, s⟩ := o
      cases e <;> first | rfl | exact (hne _ _ h).elim
  | exit id => simpa only [exec] using h
  | ret => simpa only [exec] using h
  | loop a =>
    rw [exec] at h ⊢
    simp only [thenM, keepF_eq] at h ⊢
    split at h
    · rename_i s1 h1; rw [ih _ _ _ _ h1]; exact ih _ _ _ _ h
    · rename_i hne
      rw [ih _ _ _ _ h]
      obtain ⟨e, s⟩ := o
      cases e <;> first | rfl | exact (hne _ h).elim
  | rangeFunc _ _ _ _ => simp [exec] at h
  | scope _ => simp [exec] at h
  | label _ => simp [exec] at h
  | goto _ => simp [exec] at h
  | refuse _ => simp [exec] at h

theorem exec_le {n k : Nat} (hk : n ≤ k) (F : Fi) (c : Code) (st : St) (o : Exit × St) (h : exec X T n F c st = some o) : exec X T k F c st = some o := by
  induction hk with
  | refl => exact h
  | step _ ih => exact exec_mono _ _ _ _ _ ih

variable (X T) in
/-- The call at depth n. -/
def callAt (n : Nat) : Call := callBy X T (exec X T n)
theorem callAt_le {n k : Nat} (hk : n ≤ k) (g : Nat) (m : Mem) (ds : List D) (r : D × Mem) (h : callAt X T n g m ds = some r) : callAt X T k g m ds = some r :=
  callBy_mono (fun F c st o => exec_le hk F c st o) g m ds r h

variable (X T) in
/-- What a function returns. -/
noncomputable def callR (g : Nat) (m : Mem) (ds : List D) : Option (D × Mem) := lim fun n => callAt X T n g m ds

theorem callR_some {g : Nat} {m : Mem} {ds : List D} {r : D × Mem} (h : callR X T g m ds = some r) : ∃ n, ∀ k, n ≤ k → callAt X T k g m ds = some r := by
  obtain ⟨n, hn⟩ := lim_some h
  exact ⟨n, fun k hk => callAt_le hk _ _ _ _ hn⟩
theorem callR_of_at {n : Nat} {g : Nat} {m : Mem} {ds : List D} {r : D × Mem} (h : callAt X T n g m ds = some r) : callR X T g m ds = some r :=
  lim_of (f := fun n => callAt X T n g m ds) (fun _ _ _ h1 h2 => callAt_le h2 _ _ _ _ h1) h
end
end Go.Eng
