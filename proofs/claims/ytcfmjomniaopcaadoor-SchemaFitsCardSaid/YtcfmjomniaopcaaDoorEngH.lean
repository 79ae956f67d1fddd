/- Part of the engine that proves it: see the last text. -/
import Derived.Test.YtcfmjomniaopcaaDoorEngL
/- What the machine returns, the program returns. -/
namespace Go.Eng
open Go

mutual
theorem eqV_sound : ∀ (a b : D), eqV a b = true → a = b
  | .int k n, b, h => by cases b <;> simp [eqV] at h; simp [h]
  | .bool x, b, h => by cases b <;> simp [eqV] at h; simp [h]
  | .str x, b, h => by cases b <;> simp [eqV] at h; simp [h]
  | .slice t k es, b, h => by
    cases b <;> simp [eqV] at h
    obtain ⟨rfl, rfl, h⟩ := h
    rw [eqVs_sound _ _ h]
  | .nil, b, h => by cases b <;> simp [eqV] at h; rfl
  | .opq, b, h => by cases b <;> simp [eqV] at h; rfl
  | .rsl x y z u, b, h => by cases b <;> simp [eqV] at h; simp [h]
  | .ptr x y, b, h => by cases b <;> simp [eqV] at h; simp [h]
  | .nilptr, b, h => by cases b <;> simp [eqV] at h; rfl
  | .ref cs o, b, h => by
    cases b <;> simp [eqV] at h
    rw [eqVs_sound _ _ h.1, h.2]
  | .func f cs, b, h => by
    cases b <;> simp [eqV] at h
    rw [eqVs_sound _ _ h.2, h.1]
  | .nilfunc, b, h => by cases b <;> simp [eqV] at h; rfl
  | .agg cs, b, h => by
    cases b <;> simp [eqV] at h
    rw [eqVs_sound _ _ h]
  | .tuple cs, b, h => by
    cases b <;> simp [eqV] at h
    rw [eqVs_sound _ _ h]
  | .undef, b, h => by cases b <;> simp [eqV] at h; rfl
theorem eqVs_sound : ∀ (a b : List D), eqVs a b = true → a = b
  | [], b, h => by cases b <;> simp [eqVs] at h; rfl
  | x :: r, b, h => by
    cases b <;> simp [eqVs] at h
    rw [eqV_sound _ _ h.1, eqVs_sound _ _ h.2]
end
mutual
theorem eqV_refl : ∀ (a : D), eqV a a = true
  | .int k n => by simp [eqV]
  | .bool x => by simp [eqV]
  | .str x => by simp [eqV]
  | .slice t k es => by simp [eqV, eqVs_refl es]
  | .nil => rfl
  | .opq => rfl
  | .rsl x y z u => by simp [eqV]
  | .ptr x y => by simp [eqV]
  | .nilptr => rfl
  | .ref cs o => by simp [eqV, eqVs_refl cs]
  | .func f cs => by simp [eqV, eqVs_refl cs]
  | .nilfunc => rfl
  | .agg cs => by simp [eqV, eqVs_refl cs]
  | .tuple cs => by simp [eqV, eqVs_refl cs]
  | .undef => rfl
theorem eqVs_refl : ∀ (a : List D), eqVs a a = true
  | [] => rfl
  | x :: r => by simp [eqVs, eqV_refl x, eqVs_refl r]
end

theorem preB_sound : ∀ (a b : List (List D)), preB a b = true → ∀ (i : Nat) (cs : List D), a[i]? = some cs → b[i]? = some cs
  | [], _, _, i, cs, h => by simp at h
  | x :: r, [], h, _, _, _ => by simp [preB] at h
  | x :: r, y :: s, h, i, cs, hi => by
    simp [preB] at h
    cases i with
    | zero => simp at hi ⊢; rw [← hi, eqVs_sound _ _ h.1]
    | succ i => simp at hi ⊢; exact preB_sound r s h.2 i cs hi
theorem preB_of : ∀ (a b : List (List D)), (∀ (i : Nat) (cs : List D), a[i]? = some cs → b[i]? = some cs) → preB a b = true
  | [], _, _ => rfl
  | x :: r, b, h => by
    have h0 := h 0 x rfl
    cases b with
    | nil => simp at h0
    | cons y s =>
      simp at h0; subst h0
      simp only [preB, eqVs_refl, Bool.true_and]
      exact preB_of r s fun i cs hi => by simpa using h (i + 1) cs (by simpa using hi)
theorem subB_sound {m m' : Mem} (h : subB m m' = true) : Sub m m' := preB_sound _ _ h
theorem subB_of {m m' : Mem} (h : Sub m m') : subB m m' = true := preB_of _ _ h

section
variable {X : Ctx} {F : Fi} {R : Type} {call : Call} {C : CallW} {K : St → Option R} {K' : St → Prop} {st : St} {x : R}

theorem pureM_sound {o : Oper} (hK : ∀ st', K st' = some x → K' st') (h : pureM X o K st = some x) : pureK X o K' st := by
  unfold pureM at h; unfold pureK
  split at h
  · rename_i d hd; rw [hd]; exact hK _ h
  · cases h
theorem pureMN_sound {m0 : Mem} {o : Oper} (hK : ∀ st', K st' = some x → K' st') (h : pureMN X m0 o K st = some x) : pureN X m0 o K' st := by
  unfold pureMN at h; unfold pureN
  split at h
  · rename_i d hd; rw [hd]; exact hK _ h
  · cases h
theorem makeM_sound {o : Oper} (hK : ∀ st', K st' = some x → K' st') (h : makeM X F o K st = some x) : makeK X F o K' st := by
  unfold makeM at h; unfold makeK
  split at h
  · rename_i d m hd; rw [hd]; exact hK _ h
  · cases h
theorem rowM_sound {o : Oper} (hK : ∀ st', K st' = some x → K' st') (h : rowM X o K st = some x) : rowK X o K' st := by
  unfold rowM at h; unfold rowK
  split at h
  · rename_i d hd; rw [hd]; exact hK _ h
  · cases h
theorem allocM_sound {o : Oper} {cs : List D} (hK : ∀ st', K st' = some x → K' st') (h : allocM F o cs K st = some x) : allocK F o cs K' st := by
  unfold allocM at h; unfold allocK
  split at h
  · rename_i y hy
    rw [hy]; simp only
    split at h
    · rename_i he; rw [he]; rw [← hy]; exact hK _ h
    · rename_i he; rw [he]; exact hK _ h
  · cases h
theorem allocMN_sound {o : Oper} {cs : List D} (hK : ∀ st', K st' = some x → K' st') (h : allocMN F o cs K st = some x) : allocN F o cs K' st := by
  unfold allocMN at h; unfold allocN
  split at h
  · rename_i y hy
    rw [hy]; simp only
    split at h
    · rename_i he; rw [he]; rw [← hy]; exact hK _ h
    · rename_i he
      rw [he]
      simp only
      split at h
      · rename_i hb; rw [hb]; exact hK _ h
      · cases h
  · cases h
theorem storeM_sound {t : Nat} {p v : Operand} (hK : ∀ st', K st' = some x → K' st') (h : storeM X t p v K st = some x) : storeK X t p v K' st := by
  unfold storeM at h; unfold storeK
  repeat' split at h
  all_goals first | (cases h; done) | (simp only [*]; done) | (simp only [*]; exact hK _ h)
theorem storeMN_sound {t : Nat} {p v : Operand} (hK : ∀ st', K st' = some x → K' st') (h : storeMN X F t p v K st = some x) : storeN X F t p v K' st := by
  unfold storeMN at h; unfold storeN
  repeat' split at h
  all_goals first | (cases h; done) | (simp only [*]; done) | (simp only [*]; exact hK _ h)
theorem callM_sound (hc : ∀ g m ds r m', call g m ds = some (r, m') → ∀ Q : D → Mem → Prop, Q r m' → C.run g m ds Q) {g : Nat} {ds : List D} {dst : Option Nat}
    (hK : ∀ st', K st' = some x → K' st') (h : callM call g ds dst K st = some x) : C.run g st.m ds fun r m => K' ((st.put dst r).setM m) := by
  unfold callM at h
  split at h
  · rename_i r m he; exact hc _ _ _ _ _ he _ (hK _ h)
  · cases h
theorem callMN_sound (hc : ∀ g m ds r m', call g m ds = some (r, m') → ∀ Q : D → Mem → Prop, Q r m' → C.run g m ds Q) {g : Nat} {ds : List D} {dst : Option Nat}
    (hK : ∀ st', K st' = some x → K' st') (h : callMN call g ds dst K st = some x) : callN C g ds dst K' st := by
  unfold callMN at h
  split at h
  · rename_i r m he
    split at h
    · rename_i hs
      exact ⟨fun r' m' => r' = r ∧ m' = m, ⟨r, m, rfl, rfl⟩, hc _ _ _ _ _ he _ ⟨rfl, rfl⟩, fun r' m' ⟨e1, e2⟩ => by subst e1; subst e2; exact ⟨subB_sound hs, hK _ h⟩⟩
    · cases h
  · cases h

theorem stepM_sound (hc : ∀ g m ds r m', call g m ds = some (r, m') → ∀ Q : D → Mem → Prop, Q r m' → C.run g m ds Q) {o : Oper}
    (hK : ∀ st', K st' = some x → K' st') (h : stepM X F call o K st = some x) : stepI X F C o K' st := by
  unfold stepM at h
  repeat' split at h
  all_goals first | (cases h; done) | skip
  all_goals unfold stepI
  all_goals first
    | (simp only [*]; done)
    | (simp only [*]; first | exact hK _ h | exact pureM_sound hK h | exact makeM_sound hK h | exact rowM_sound hK h | exact allocM_sound hK h | exact storeM_sound hK h | exact callM_sound hc hK h)

theorem stepMN_sound (hc : ∀ g m ds r m', call g m ds = some (r, m') → ∀ Q : D → Mem → Prop, Q r m' → C.run g m ds Q) (hp : ∀ g ds r m', C.pf g = true → call g ⟨[], []⟩ ds = some (r, m') → C.pv g ds = some r) {m0 : Mem} {o : Oper}
    (hK : ∀ st', K st' = some x → K' st') (h : stepMN X F C.pf call m0 o K st = some x) : stepN X F C m0 o K' st := by
  unfold stepMN at h
  split at h
  case h_4 =>
    rename_i hop
    unfold stepN
    rw [hop]
    simp only
    split at h
    · rename_i g hg
      rw [hg]
      simp only
      split at h
      · rename_i d m he
        obtain ⟨_, _, _, _, hpf⟩ := pureOf_spec hg
        rw [hp _ _ _ _ hpf he]; exact hK _ h
      · cases h
    · rename_i hg
      rw [hg]
      simp only
      split at h
      · rename_i hf
        rw [hf]
        simp only
        split at h
        · rename_i hlt; rw [hlt]; exact callMN_sound hc hK h
        · cases h
      · cases h
  all_goals repeat' split at h
  all_goals first | (cases h; done) | skip
  all_goals unfold stepN
  all_goals first
    | (simp only [*]; done)
    | (simp only [*]; first | exact hK _ h | exact pureMN_sound hK h | exact makeM_sound hK h | exact rowM_sound hK h | exact allocMN_sound hK h | exact storeMN_sound hK h | exact callMN_sound hc hK h)

theorem opM_sound (hc : ∀ g m ds r m', call g m ds = some (r, m') → ∀ Q : D → Mem → Prop, Q r m' → C.run g m ds Q) {all : List Oper} {o : Oper}
    (hK : ∀ st', K st' = some x → K' st') (h : opM X F call all o K st = some x) : opI X F C all o K' st := by
  unfold opM at h; unfold opI
  split at h
  · rename_i hg; rw [hg]; exact stepM_sound hc hK h
  · rename_i j want hg
    rw [hg]; simp only
    split at h
    · rename_i b hb
      rw [hb]; simp only
      split at h
      · rename_i he; rw [he]; exact stepM_sound hc hK h
      · rename_i he; rw [he]; exact hK _ h
    · rename_i hb; rw [hb]; exact hK _ h
    · cases h
theorem opMN_sound (hc : ∀ g m ds r m', call g m ds = some (r, m') → ∀ Q : D → Mem → Prop, Q r m' → C.run g m ds Q) (hp : ∀ g ds r m', C.pf g = true → call g ⟨[], []⟩ ds = some (r, m') → C.pv g ds = some r) {m0 : Mem} {all : List Oper} {o : Oper}
    (hK : ∀ st', K st' = some x → K' st') (h : opMN X F C.pf call m0 all o K st = some x) : opN X F C m0 all o K' st := by
  unfold opMN at h; unfold opN
  split at h
  · rename_i hg; rw [hg]; exact stepMN_sound hc hp hK h
  · rename_i j want hg
    rw [hg]; simp only
    split at h
    · rename_i b hb
      rw [hb]; simp only
      split at h
      · rename_i he; rw [he]; exact stepMN_sound hc hp hK h
      · rename_i he; rw [he]; exact hK _ h
    · rename_i hb; rw [hb]; exact hK _ h
    · cases h
theorem opsM_sound (hc : ∀ g m ds r m', call g m ds = some (r, m') → ∀ Q : D → Mem → Prop, Q r m' → C.run g m ds Q) {all : List Oper} (hK : ∀ st', K st' = some x → K' st') :
    ∀ (l : List Oper) (st : St), opsM X F call all l K st = some x → wpOps X F C all l K' st
  | [], _, h => hK _ h
  | _ :: r, _, h => opM_sound hc (opsM_sound hc hK r) h
theorem opsMN_sound (hc : ∀ g m ds r m', call g m ds = some (r, m') → ∀ Q : D → Mem → Prop, Q r m' → C.run g m ds Q) (hp : ∀ g ds r m', C.pf g = true → call g ⟨[], []⟩ ds = some (r, m') → C.pv g ds = some r) {m0 : Mem} {all : List Oper} (hK : ∀ st', K st' = some x → K' st') :
    ∀ (l : List Oper) (st : St), opsMN X F C.pf call m0 all l K st = some x → wpOpsN X F C m0 all l K' st
  | [], _, h => hK _ h
  | _ :: r, _, h => opMN_sound hc hp (opsMN_sound hc hp hK r) h
end

structure Good (X : Ctx) (pf : Nat → Bool) (f : Nat) (fx : Fx) (fn : Func) : Prop where
  hf : X.P.funcs[f]? = some fn
  hb : fn.body = some fx.code
  hr : fn.results.toList = fx.rs
  hn : fn.ntmps = fx.n
  hen : enterable X.P f = true
  hok : codeOk X.P pf fx.F fx.n fx.code = true

def AllGood (X : Ctx) (T : Nat → Option Fx) : Prop := PlainG X ∧ ∀ f fx, T f = some fx → ∃ fn, Good X (pfT T) (f % 100000) fx fn

section
variable {X : Ctx} {T : Nat → Option Fx}

theorem endM_endP {rs : List ResultVar} {o : Exit × St} {r : D} {m : Mem} (h : endM X rs o = some (r, m)) {Q : D → Mem → Prop} (hq : Q r m) : endP X rs Q o.1 o.2 := by
  obtain ⟨e, st⟩ := o
  cases e <;> simp only [endM] at h <;> first
    | (cases h; done)
    | (split at h
       · rename_i d hd; cases h; simp only [endP, hd]; exact hq
       · cases h)

/-- What the machine does, is asked. -/
theorem exec_wpI {C : CallW} (hpf : C.pf = pfT T) : ∀ (n : Nat), (∀ k, k < n → ∀ g m ds r m', callAt X T k g m ds = some (r, m') → ∀ Q : D → Mem → Prop, Q r m' → C.run g m ds Q) →
    (∀ k, k < n → ∀ g ds r m', C.pf g = true → callAt X T k g ⟨[], []⟩ ds = some (r, m') → C.pv g ds = some r) → ∀ (F : Fi) (c : Code) (st : St) (e : Exit) (st' : St), exec X T n F c st = some (e, st') →
    ∀ Q : Post, Q e st' → wpI X F C c Q st := by
  intro n
  induction n using Nat.strongRecOn with
  | _ n ih0 =>
  intro hc0 hp0 F c st e st' h Q hQ
  have ih : ∀ k, k < n → ∀ (F : Fi) (c : Code) (st : St) (e : Exit) (st' : St), exec X T k F c st = some (e, st') → ∀ Q : Post, Q e st' → wpI X F C c Q st := fun k hk =>
    ih0 k hk (fun j hj => hc0 j (Nat.lt_trans hj hk)) (fun j hj => hp0 j (Nat.lt_trans hj hk))
  cases n with
  | zero => simp [exec] at h
  | succ n =>
  have hc := hc0 n (Nat.lt_succ_self n)
  have hp := hp0 n (Nat.lt_succ_self n)
  cases c with
  | skip => simp only [exec] at h; cases h; exact hQ
  | region id ops dr =>
    simp only [exec, keepF_eq] at h
    cases dr with
    | false =>
      simp only at h
      refine opsM_sound (R := Exit × St) (x := (e, st')) (K := fun st' => some (Exit.normal, st'.keep F.ext)) hc (fun s hs => ?_) _ _ h
      cases hs; exact hQ
    | true =>
      simp only at h
      split at h
      · rename_i hb
        rw [← hpf] at h
        refine ⟨hb, opsMN_sound (R := Exit × St) (x := (e, st')) (K := fun st' => some (Exit.normal, st'.keep F.ext)) hc hp (fun s hs => ?_) _ _ h⟩
        cases hs; exact hQ
      · cases h
  | seq a b =>
    simp only [exec] at h
    unfold thenM at h
    split at h
    · rename_i s1 h1
      exact ih n (Nat.lt_succ_self n) F a st _ _ h1 _ (ih n (Nat.lt_succ_self n) F b s1 _ _ h _ hQ)
    · rename_i hne
      refine ih n (Nat.lt_succ_self n) F a st _ _ h _ ?_
      cases e with
      | normal => exact (hne _ h).elim
      | exit id => exact hQ
      | goto l => exact hQ
      | ret => exact hQ
      | panic c => exact hQ
      | outgrown => exact hQ
  | cond o a b =>
    simp only [exec] at h
    split at h
    · rename_i t ht
      simp only [wpI, ht]
      cases t with
      | true => exact ih n (Nat.lt_succ_self n) F a st _ _ h _ hQ
      | false => exact ih n (Nat.lt_succ_self n) F b st _ _ h _ hQ
    · cases h
  | block id a =>
    simp only [exec] at h
    split at h
    · rename_i id' s1 h1
      refine ih n (Nat.lt_succ_self n) F a st _ _ h1 _ ?_
      split at h
      · rename_i he; cases h; simp only [blockP, if_pos (Nat.eq_of_beq_eq_true he)]; exact hQ
      · rename_i he; cases h; simp only [blockP, if_neg (Nat.ne_of_beq_eq_false he)]; exact hQ
    · rename_i hne
      refine ih n (Nat.lt_succ_self n) F a st _ _ h _ ?_
      cases e with
      | normal => exact hQ
      | exit id => exact (hne _ _ h).elim
      | goto l => exact hQ
      | ret => exact hQ
      | panic c => exact hQ
      | outgrown => exact hQ
  | exit id => simp only [exec] at h; cases h; exact hQ
  | ret => simp only [exec] at h; cases h; exact hQ
  | loop a =>
    refine ⟨Nat × St, fun p => p.2, fun p => p.1 ≤ n ∧ thenM (exec X T p.1 F a p.2) (fun s => exec X T p.1 F (.loop a) s) = some (e, st'), fun p => p.1, ⟨(n, st.keep (liveOf F a)), rfl, Nat.le_refl _, by simpa only [exec, keepF_eq] using h⟩, ?_⟩
    rintro ⟨k, s⟩ ⟨hk, hs⟩
    simp only at hk hs ⊢
    have hlt : k < n + 1 := by omega
    unfold thenM at hs
    split at hs
    · rename_i s1 h1
      refine ih k hlt F a s _ _ h1 _ ?_
      cases k with
      | zero => simp [exec] at h1
      | succ k =>
        exact ⟨(k, s1.keep (liveOf F a)), rfl, ⟨by show k ≤ n; omega, by simpa only [exec, keepF_eq] using hs⟩, Nat.lt_succ_self k⟩
    · rename_i hne
      refine ih k hlt F a s _ _ hs _ ?_
      cases e with
      | normal => exact (hne _ hs).elim
      | exit id => exact hQ
      | goto l => exact hQ
      | ret => exact hQ
      | panic c => exact hQ
      | outgrown => exact hQ
  | rangeFunc _ _ _ _ => simp [exec] at h
  | scope _ => simp [exec] at h
  | label _ => simp [exec] at h
  | goto _ => simp [exec] at h
  | refuse _ => simp [exec] at h

/-- The callees at the depth n. -/
def calD (X : Ctx) (T : Nat → Option Fx) (n : Nat) : CallW := { run := fun g => CallD X (g % 100000), pv := fun g ds => (callAt X T n g ⟨[], []⟩ ds).map (·.1), pf := pfT T }

theorem call_sound (hT : AllGood X T) : ∀ (n : Nat) (g : Nat) (m : Mem) (ds : List D) (r : D) (m' : Mem), callAt X T n g m ds = some (r, m') →
    (∀ Q : D → Mem → Prop, Q r m' → CallD X (g % 100000) m ds Q) ∧ (pfT T g = true → ∀ m2, CallD X (g % 100000) m2 ds fun r' m'' => r' = r ∧ m'' = m2) := by
  intro n
  induction n using Nat.strongRecOn with
  | _ n ih =>
  intro g m ds r m' hc
  unfold callAt callBy at hc
  split at hc
  · rename_i fx hfx
    split at hc
    · rename_i hle
      obtain ⟨fn, G⟩ := hT.2 g fx hfx
      have body : ∀ (m : Mem) (ds : List D) (r : D) (m' : Mem), ds.length ≤ fx.n → bodyBy X (exec X T n) fx m ds = some (r, m') → ∀ Q : D → Mem → Prop, Q r m' → CallD X (g % 100000) m ds Q := fun m ds r m' hle hb Q hq => by
        clear hc
        unfold bodyBy at hb
        simp only [forceL_eq, forceM_eq] at hb
        split at hb
        · rename_i o ho
          cases n with
          | zero => simp [exec] at ho
          | succ n =>
          have hok : CallOk X (calD X T n) := ⟨fun _ _ _ _ h => h, fun g ds v hp hv m => by
            simp only [calD] at hv hp
            cases hcall : callAt X T n g ⟨[], []⟩ ds with
            | none => rw [hcall] at hv; cases hv
            | some q =>
              obtain ⟨r, m'⟩ := q
              rw [hcall] at hv
              cases hv
              exact (ih n (Nat.lt_succ_self n) g ⟨[], []⟩ ds r m' hcall).2 hp m⟩
          refine call_of hok fx.F G.hf G.hb G.hen (by rw [G.hn]; exact G.hok) (by rw [G.hn]; exact hle) ?_
          rw [G.hr]
          refine exec_wpI (C := calD X T n) rfl (n + 1) (fun k hk g m ds r m' h Q hq => (ih k hk g m ds r m' h).1 Q hq) (fun k hk g ds r m' _ h => ?_) fx.F fx.code _ o.1 o.2 ho _ (endM_endP hb hq)
          simp only [calD, callAt_le (Nat.le_of_lt_succ hk) _ _ _ _ h, Option.map_some]
        · cases hb
      have hle' := Nat.le_of_ble_eq_true hle
      split at hc
      · rename_i hcl
        split at hc
        · rename_i r0 m0 he
          cases hc
          have main : ∀ m2, CallD X (g % 100000) m2 ds fun r' m'' => r' = frz m0 r0 ∧ m'' = m2 := fun m2 =>
            (closed_ok hT.1 (Q := fun r m => r = r0 ∧ m = m0) (body ⟨[], []⟩ (stripL ds) r0 m0 (by rw [stripL_length]; exact hle') he (fun r m => r = r0 ∧ m = m0) ⟨rfl, rfl⟩) m2).mono fun r' m'' ⟨⟨q, qm, ⟨hq, hqm⟩, e1⟩, e2⟩ => ⟨by rw [e1, hq, hqm], e2⟩
          exact ⟨fun Q hq => (main m).mono fun r' m'' ⟨e1, e2⟩ => by rw [e1, e2]; exact hq, fun _ => main⟩
        · cases hc
      · rename_i hcl
        refine ⟨fun Q hq => body m ds r m' hle' hc Q hq, fun hp => ?_⟩
        unfold pfT at hp
        rw [hfx] at hp
        simp only at hp
        rw [hcl] at hp; cases hp
    · cases hc
  · cases hc
end
end Go.Eng
