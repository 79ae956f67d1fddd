/- Part of the engine that proves it: see the last text. -/
import Derived.Test.YtcfmjomniaopcaaDoorEngW
/- One operation is sound. -/
namespace Go.Eng
open Go
section
variable {X : Ctx} {F : Fi} {C : CallW} {B N n : Nat} {w0 w w' : World} {S0 S S' : Sh} {st : St} {lb : Nat → Nat} {a : Act}

theorem put_size (a : Act) (dst : Option Nat) (v : Value) : (a.put dst v).tmps.size = a.tmps.size := by
  cases dst <;> simp [Act.put]

theorem conc_put (hT0 : Tidy w0 S0) (E0 : Ext N w0 S0 w S) (R : RelG X B w S) (A : RelA N w S st lb a) (hn : n ≤ a.tmps.size) {dst : Option Nat} (hdst : ∀ x, dst = some x → x < n)
    (T : Step X B N w S w' S') {d : D} {v : Value} (hv : HasV w' S' d v) {K : St → Prop} (hK : K ((st.put dst d).setM S'.m)) : Conc X B N n w0 S0 K (a.put dst v) w' := by
  have A' := A.step R.tidy T
  refine ⟨_, S', lb, hK, T.rel, ?_, E0.trans hT0 T.ext, by rw [put_size]; exact hn⟩
  cases dst with
  | none => exact A'
  | some x => exact A'.put (by have := hdst x rfl; omega) hv

theorem Conc.mono {K K' : St → Prop} (h : Conc X B N n w0 S0 K a w) (hk : ∀ st, K st → K' st) : Conc X B N n w0 S0 K' a w :=
  let ⟨st, S, lb, h1, h2⟩ := h; ⟨st, S, lb, hk st h1, h2⟩

theorem setM_self (A : RelA N w S st lb a) : st.setM S.m = st := by
  unfold St.setM; rw [← A.m]

theorem put_setM (st : St) (dst : Option Nat) (d : D) (m : Mem) : (st.setM m).put dst d = (st.put dst d).setM m := by
  cases dst <;> rfl

theorem conc_pure (hT0 : Tidy w0 S0) (E0 : Ext N w0 S0 w S) (R : RelG X B w S) (A : RelA N w S st lb a) (hn : n ≤ a.tmps.size) {dst : Option Nat} (hdst : ∀ x, dst = some x → x < n)
    {d : D} {v : Value} (hv : HasV w S d v) {K : St → Prop} (hK : K (st.put dst d)) : Conc X B N n w0 S0 K (a.put dst v) w := by
  refine conc_put hT0 E0 R A hn hdst (Step.refl R) hv ?_
  have : (st.put dst d).setM S.m = st.put dst d := by
    rw [← put_setM, setM_self A]
  rw [this]; exact hK

theorem evArgs (R : RelG X B w S) (A : RelA N w S st lb a) : ∀ l : List Operand, HasL w S (argsD X st l) (l.map a.eval)
  | [] => ⟨rfl, fun j c v hc => by simp [argsD] at hc⟩
  | x :: r => by
    have ih := evArgs R A r
    exact ⟨by simp [argsD, ih.len], fun j c v hc hv => by
      cases j with
      | zero => simp [argsD] at hc hv; subst hc; subst hv; exact ev_ok R A x
      | succ j => simp [argsD] at hc hv; exact ih.at_ j c v hc (by simpa using hv)⟩

theorem hasL_append {a b : List D} {x y : List Value} (h : HasL w S a x) (h' : HasL w S b y) : HasL w S (a ++ b) (x ++ y) where
  len := by simp [h.len, h'.len]
  at_ := fun j c v hc hv => by
    have hl := h.len
    rcases Nat.lt_or_ge j a.length with hj | hj
    · rw [List.getElem?_append_left hj] at hc
      rw [List.getElem?_append_left (by omega)] at hv
      exact h.at_ j c v hc hv
    · rw [List.getElem?_append_right hj] at hc
      rw [List.getElem?_append_right (by omega)] at hv
      exact h'.at_ _ c v hc (by rw [← hl] at hv; exact hv)

theorem hasFunc {f : Nat} {cap : List D} {v : Value} (h : HasV w S (.func f cap) v) : ∃ vs : Array Value, v = .func (.func f) #[] vs ∧ HasL w S cap vs.toList := by
  cases h with
  | func _ _ vs hl hv => exact ⟨vs, rfl, by simpa using hl, fun j c v hc hv' => hv j c v hc (by simpa using hv')⟩

theorem callFunc_run {P : Program} {f : Nat} (h : enterable P f = true) (args : Array Value) (w : World) : (callFunc f args).run P w = .ok (.enter f args) w := by
  unfold enterable at h
  split at h
  · rename_i fn hf
    simp only [Bool.and_eq_true, Bool.not_eq_true'] at h
    obtain ⟨h1, h2⟩ := h
    have h3 : ¬ fn.body = none := by intro hb; rw [hb] at h1; cases h1
    have h4 : ¬ fn.name = "runtime.NumGoroutine" := by simpa using h2
    unfold callFunc
    simp [hf, h3, h4]
  · cases h

theorem wp_value {o : Oper} {next : Act → World → Prop} {Q : Exit → Act → World → Prop} {v : Value} (h : (execOp a.eval o).run X.P w = .ok (.value v) w') (hK : next (a.put o.dst v) w') : o.wp X.P a w next Q := by
  unfold Oper.wp; rw [h]; exact hK

theorem step_pure (hT0 : Tidy w0 S0) (E0 : Ext N w0 S0 w S) (R : RelG X B w S) (A : RelA N w S st lb a) (hn : n ≤ a.tmps.size) {o : Oper} (hdst : ∀ x, o.dst = some x → x < n)
    {K : St → Prop} {Q : Exit → Act → World → Prop} (h : pureK X o K st) : o.wp X.P a w (Conc X B N n w0 S0 K) Q := by
  unfold pureK at h
  rw [A.m] at h
  split at h
  · rename_i d hd
    obtain ⟨v, hr, hv⟩ := pure_ok R A (m0 := S.m) (fun _ _ h => h) hd
    exact wp_value hr (conc_pure hT0 E0 R A hn hdst hv h)
  · exact h.elim

theorem step_make (hT0 : Tidy w0 S0) (E0 : Ext N w0 S0 w S) (R : RelG X B w S) (A : RelA N w S st lb a) (hn : n ≤ a.tmps.size) {o : Oper} (hdst : ∀ x, o.dst = some x → x < n)
    {K : St → Prop} {Q : Exit → Act → World → Prop} (h : makeK X F o K st) : o.wp X.P a w (Conc X B N n w0 S0 K) Q := by
  unfold makeK at h
  rw [A.m] at h
  split at h
  · rename_i d m hd
    obtain ⟨dst, op, ty, pos, af, gd⟩ := o
    have fin : (∃ v w' S', (execOp a.eval ⟨dst, op, ty, pos, af, gd⟩).run X.P w = .ok (.value v) w' ∧ S'.m = m ∧ Step X B N w S w' S' ∧ HasV w' S' d v) → (⟨dst, op, ty, pos, af, gd⟩ : Oper).wp X.P a w (Conc X B N n w0 S0 K) Q := by
      rintro ⟨v, w', S', hr, rfl, T, hv⟩
      exact wp_value hr (conc_put hT0 E0 R A hn hdst T hv h)
    cases op <;> first | (cases hd; done) | exact fin (bytes_ok R A hd) | exact fin (makeSlice_ok R A hd) | skip
    rename_i c
    obtain ⟨callee, args, tys⟩ := c
    cases callee <;> first | (cases hd; done) | skip
    rename_i b
    cases b <;> first | (cases hd; done) | skip
    exact fin (append_ok R A hd)
  · exact h.elim

theorem step_row (hT0 : Tidy w0 S0) (E0 : Ext N w0 S0 w S) (R : RelG X B w S) (A : RelA N w S st lb a) (hn : n ≤ a.tmps.size) {o : Oper} (hdst : ∀ x, o.dst = some x → x < n)
    {K : St → Prop} {Q : Exit → Act → World → Prop} (h : rowK X o K st) : o.wp X.P a w (Conc X B N n w0 S0 K) Q := by
  unfold rowK at h
  split at h
  · rename_i d hd
    obtain ⟨dst, op, ty, pos, af, gd⟩ := o
    cases op <;> first | (cases hd; done) | skip
    obtain ⟨v, w', S', hr, hm, T, hv⟩ := buildSlice_ok (N := N) R A hd
    refine wp_value hr (conc_put hT0 E0 R A hn hdst T hv ?_)
    rw [hm]
    have : (st.put dst d).setM S.m = st.put dst d := by rw [← put_setM, setM_self A]
    rw [this]; exact h
  · exact h.elim

theorem do_call (hT0 : Tidy w0 S0) (hN : N ≤ w0.heap.size) (E0 : Ext N w0 S0 w S) (R : RelG X B w S) (A : RelA N w S st lb a) (hn : n ≤ a.tmps.size) {dst : Option Nat} {f : Operand} {args : Array Operand} {tys : Array Nat} {ty : Nat} {pos : String} {af : Array Edge} {gd : Option (Nat × Bool)}
    (hdst : ∀ x, dst = some x → x < n) {K : St → Prop} {Q : Exit → Act → World → Prop} {g : Nat} {cap : List D} (hf : ev X st f = .func g cap)
    (h : CallD X g st.m (argsD X st args.toList ++ cap) fun r m => K ((st.put dst r).setM m)) :
    (⟨dst, .call ⟨.value f, args, tys⟩, ty, pos, af, gd⟩ : Oper).wp X.P a w (Conc X B N n w0 S0 K) Q := by
  obtain ⟨hen, hdet⟩ := h
  have hfv := ev_ok R A f
  rw [hf] at hfv
  obtain ⟨vs, hv, hcap⟩ := hasFunc hfv
  have hargs := hasL_append (evArgs R A args.toList) hcap
  have hcall := hdet B w S (args.map a.eval ++ vs) R A.m.symm (by simpa using hargs)
  unfold Oper.wp
  have hr : (execOp a.eval ⟨dst, .call ⟨.value f, args, tys⟩, ty, pos, af, gd⟩).run X.P w = .ok (.enter g (args.map a.eval ++ vs)) w := by
    simp only [execOp, resolve, hv, Deferred.ofValue, Sem.run_bind, Sem.run_pure, Result.andThen_ok, invoke, callFunc_run hen]
    simp
  rw [hr, Oper.upon_enter]
  refine hcall.mono fun e w' h' => ?_
  obtain ⟨v, S', r, rfl, hK, R', E', hv'⟩ := h'
  have T : Step X B N w S w' S' := ⟨R', E'.mono (Nat.le_trans hN E0.size), fun b hb => E'.keep b (R.mu b hb) (fun h => R.bbMu b h hb) (fun id k h => R.tbMu id b k h hb) (.inl (R.mu b hb)), fun b hb => E'.mu b hb (R.mu b hb)⟩
  exact conc_put hT0 E0 R A hn hdst T hv' hK

theorem step_alloc' (hT0 : Tidy w0 S0) (hN : N ≤ w0.heap.size) (E0 : Ext N w0 S0 w S) (R : RelG X B w S) (A : RelA N w S st lb a) (hn : n ≤ a.tmps.size) {o : Oper} (hdst : ∀ x, o.dst = some x → x < n)
    {K : St → Prop} {Q : Exit → Act → World → Prop} {cs : List D} {vs : Array Value} {t : Nat} (hc : HasC w S cs vs.toList)
    (hr : (execOp a.eval o).run X.P w = .ok (.value (.pointer (some ⟨w.heap.size, 0, none⟩))) (w.alloc (.cells vs t (0, 0)))) (h : allocK F o cs K st) : o.wp X.P a w (Conc X B N n w0 S0 K) Q := by
  unfold allocK at h
  split at h
  · rename_i x hx
    have hxn := hdst x hx
    refine wp_value hr ?_
    rw [hx]
    split at h
    · have R' := R.allocBox t hc
      have T : Step X B N w S (w.alloc (.cells vs t (0, 0))) (S.addBox w.heap.size cs) := ⟨R', Ext.allocBox R _ cs, heapPriv R _, fun _ h => h⟩
      have hv : HasV (w.alloc (.cells vs t (0, 0))) (S.addBox w.heap.size cs) (.ptr st.m.boxes.length 0) (.pointer (some ⟨w.heap.size, 0, none⟩)) := by
        refine .ptr _ 0 _ ?_
        simp only [Sh.addBox]
        rw [A.m, ← R.bbLen]; simp
      refine conc_put hT0 E0 R A hn (fun y hy => by cases hy; exact hxn) T hv ?_
      rw [A.m] at h ⊢
      rw [hx] at h
      exact h
    · have A' := RelA.newBox R A (Nat.lt_of_lt_of_le hxn hn) (Nat.le_trans hN E0.size) t hc
      exact ⟨_, _, _, h, R.allocMu _, A', E0.trans hT0 (Ext.allocMu R _), by rw [put_size]; exact hn⟩
  · exact h.elim

/-- A local box is moved to memory. -/
theorem promote_ok (hB : B ≤ N) (R : RelG X B w S) (A : RelA N w S st lb a) (k : Nat) : ∃ S', RelG X B w S' ∧ Ext N w S w S' ∧ RelA N w S' (promote st k) lb a := by
  unfold promote
  cases hk : st.bx k with
  | none => exact ⟨S, R, Ext.refl N w S, A⟩
  | some cs =>
    obtain ⟨hN, hmu, vs, t, hh, hc⟩ := A.boxes k cs hk
    have hlt := R.mu _ hmu
    have hlen : cs.length = vs.size := by have := hc.len; simpa using this
    let S' : Sh := { S with mu := fun b => S.mu b ∧ b ≠ lb k, bb := S.bb ++ [lb k], m := { S.m with boxes := S.m.boxes ++ [cs] } }
    have E : Ext N w S w S' := {
      os := rfl
      tape := rfl
      output := rfl
      ok := rfl
      size := Nat.le_refl _
      mu := fun b h hl => ⟨h, fun e => by omega⟩
      muNew := fun b h _ => h.1
      bb := fun _ _ h => get_append_of h
      bbNew := fun b h _ => by
        rcases List.mem_append.1 h with h | h
        · exact .inl h
        · simp at h; subst h; exact .inr ⟨hmu, hN⟩
      tb := fun _ b _ h => ⟨b, h, .inl rfl⟩
      tbNew := fun _ _ _ h _ => h
      marks := fun _ mk h => ⟨mk, h, Nat.le_refl _⟩
      markSame := fun _ _ b k b' _ _ h h' => by rw [show S'.tb = S.tb from rfl, h] at h'; cases h'; rfl
      keep := fun _ _ _ _ _ => rfl
      keepT := fun _ _ _ _ _ _ c _ _ h => ⟨c, h, rfl, fun _ _ => rfl⟩ }
    have R' : RelG X B w S' := {
      bbLen := by simp [S', R.bbLen]
      tbLen := R.tbLen
      mu := fun b h => R.mu b h.1
      bbLt := fun b h => by
        rcases List.mem_append.1 h with h | h
        · exact R.bbLt b h
        · simp at h; subst h; exact hlt
      tbLt := R.tbLt
      tbInj := R.tbInj
      tbBb := fun id b k' h hb => by
        rcases List.mem_append.1 hb with hb | hb
        · exact R.tbBb id b k' h hb
        · simp at hb; subst hb; exact R.tbMu id _ k' h hmu
      tbMu := fun id b k' h hb => R.tbMu id b k' h hb.1
      bbMu := fun b h hb => by
        rcases List.mem_append.1 h with h | h
        · exact R.bbMu b h hb.1
        · simp at h; exact hb.2 h
      okNew := R.okNew
      okTok := R.okTok
      base := R.base
      bbGe := fun b h => by
        rcases List.mem_append.1 h with h | h
        · exact R.bbGe b h
        · simp at h; omega
      tbGe := R.tbGe
      bbInj := fun id id' b h h' => by
        rcases get_append_one h with h | ⟨h, e⟩ <;> rcases get_append_one h' with h' | ⟨h', e'⟩
        · exact R.bbInj id id' b h h'
        · subst e'; exact absurd hmu (R.bbMu _ (List.mem_of_getElem? h))
        · subst e; exact absurd hmu (R.bbMu _ (List.mem_of_getElem? h'))
        · omega
      boxes := fun id b c h h' => by
        rcases get_append_one h with h1 | ⟨h1, e⟩ <;> rcases get_append_one h' with h2 | ⟨h2, e'⟩
        · obtain ⟨us, t', fr', h3, ho', hl', h4⟩ := R.boxes id b c h1 h2
          exact ⟨us, t', fr', h3, ho', hl', h4.mono E R.tidy⟩
        · have := lt_of_get h1; have := R.bbLen; omega
        · have := lt_of_get h2; have := R.bbLen; omega
        · subst e; subst e'
          exact ⟨vs, t, (0, 0), hh, openR_zero vs, Nat.le_of_eq hlen, by rw [hlen, List.take_of_length_le (by simp)]; exact hc.mono E R.tidy⟩
      toks := R.toks
      glob := fun g c h => (R.glob g c h).mono E R.tidy }
    refine ⟨S', R', E, ?_⟩
    have isk : ∀ k', (upd st.bx k none k').isSome = true → k' ≠ k ∧ (st.bx k').isSome = true := fun k' h => by
      by_cases e : k' = k
      · subst e; rw [upd_same] at h; cases h
      · rw [upd_other _ _ e] at h; exact ⟨e, h⟩
    exact {
      m := by show ({ st.m with boxes := st.m.boxes ++ [cs] } : Mem) = _; rw [A.m]
      defers := A.defers
      slots := fun y => by
        show HasV w S' (prS st.sl st.lp k st.m.boxes.length y) _
        unfold prS
        cases hl : st.lp y with
        | none => exact (A.slots y).mono E R.tidy
        | some ko =>
          obtain ⟨k', o⟩ := ko
          simp only
          by_cases e : k' = k
          · subst e
            rw [if_pos rfl, (A.regs y k' o hl).1]
            refine .ptr _ o _ ?_
            show (S.bb ++ [lb k'])[st.m.boxes.length]? = some (lb k')
            rw [A.m, ← R.bbLen]; simp
          · rw [if_neg e]; exact (A.slots y).mono E R.tidy
      regs := fun y k' o h => by
        have h : dropReg k (st.lp y) = some (k', o) := h
        unfold dropReg at h
        cases hl : st.lp y with
        | none => rw [hl] at h; cases h
        | some ko =>
          obtain ⟨k2, o2⟩ := ko
          rw [hl] at h
          simp only at h
          by_cases e : k2 = k
          · rw [if_pos e] at h; cases h
          · rw [if_neg e] at h; cases h
            obtain ⟨h1, h2⟩ := A.regs y k' o hl
            exact ⟨h1, by show (upd st.bx k none k').isSome = true; rw [upd_other _ _ e]; exact h2⟩
      boxes := fun k' c h => by
        have h : upd st.bx k none k' = some c := h
        have hne := isk k' (by rw [h]; rfl)
        rw [upd_other _ _ hne.1] at h
        obtain ⟨h1, h2, us, t', h3, h4⟩ := A.boxes k' c h
        exact ⟨h1, ⟨h2, fun e => hne.1 (A.inj k' k (by rw [h]; rfl) (by rw [hk]; rfl) e)⟩, us, t', h3, h4.mono E R.tidy⟩
      inj := fun k1 k2 h1 h2 => A.inj k1 k2 (isk k1 h1).2 (isk k2 h2).2 }

theorem promoteL_ok (hB : B ≤ N) : ∀ (l : List Operand) {S : Sh} {st : St}, RelG X B w S → RelA N w S st lb a → ∃ S', RelG X B w S' ∧ Ext N w S w S' ∧ RelA N w S' (promoteL st l) lb a
  | [], S, _, R, A => ⟨S, R, Ext.refl N w S, A⟩
  | x :: r, S, st, R, A => by
    have h1 : ∃ S', RelG X B w S' ∧ Ext N w S w S' ∧ RelA N w S' (promote1 st (regOf st x)) lb a := by
      cases regOf st x with
      | none => exact ⟨S, R, Ext.refl N w S, A⟩
      | some ko => exact promote_ok hB R A ko.1
    obtain ⟨S1, R1, E1, A1⟩ := h1
    obtain ⟨S2, R2, E2, A2⟩ := promoteL_ok hB r R1 A1
    exact ⟨S2, R2, E1.trans R.tidy E2, A2⟩

theorem take_splice {α : Type} (L B : List α) (off nn n : Nat) (hB : B.length = nn) (h1 : off + nn ≤ n) (h2 : n ≤ L.length) :
    (L.take off ++ B ++ L.drop (off + nn)).take n = (L.take n).take off ++ B ++ (L.take n).drop (off + nn) := by
  have l2 : (L.take off ++ B).length = off + nn := by rw [List.length_append, List.length_take, hB, Nat.min_eq_left (by omega)]
  rw [List.take_append (l₁ := L.take off ++ B), List.take_of_length_le (by rw [l2]; exact h1), l2, List.take_take, Nat.min_eq_left (by omega), List.drop_take]

theorem step_ok' (hC : CallOk X C) (hB : B ≤ N) (hT0 : Tidy w0 S0) (hN : N ≤ w0.heap.size) (E0 : Ext N w0 S0 w S) (R : RelG X B w S) (A : RelA N w S st lb a) (hn : n ≤ a.tmps.size) {dst : Option Nat} {op : Op} {ty : Nat} {pos : String} {af : Array Edge} {gd : Option (Nat × Bool)} (hdst : ∀ x, dst = some x → x < n)
    {K : St → Prop} {Q : Exit → Act → World → Prop} (h : stepI X F C ⟨dst, op, ty, pos, af, gd⟩ K st) : (⟨dst, op, ty, pos, af, gd⟩ : Oper).wp X.P a w (Conc X B N n w0 S0 K) Q := by
  cases op <;> first
    | exact h.elim
    | exact step_pure hT0 E0 R A hn hdst h
    | exact step_make hT0 E0 R A hn hdst h
    | exact step_row hT0 E0 R A hn hdst h
    | skip
  case makeFunc f fs b =>
    simp only [stepI] at h
    obtain ⟨S', R', E', A'⟩ := promoteL_ok hB b.toList R A
    exact step_pure hT0 (E0.trans hT0 E') R' A' hn hdst h
  case convert src dst' x =>
    simp only [stepI] at h
    split at h
    · exact step_make hT0 E0 R A hn hdst h
    · exact step_pure hT0 E0 R A hn hdst h
  case alloc t =>
    simp only [stepI] at h
    split at h
    · rename_i z hz
      obtain ⟨zv, h1, h2⟩ := zeroD_spec hz
      have hzv := constD_ok (w := w) (S := S) h2
      have hok : z.okC = true := by
        unfold constD at h2
        split at h2
        · rename_i cs
          cases hc : constL constC cs.toList with
          | none => rw [hc] at h2; cases h2
          | some ds => rw [hc] at h2; cases h2; rfl
        · have := (constC_ok (w := w) (S := S) h2).2
          cases z <;> first | rfl | cases this
      have hc := okC_cells hzv hok
      refine step_alloc' hT0 hN E0 R A hn hdst hc (t := t) ?_ h
      simp [execOp, Instr.alloc, run_zeroValue h1, newVar, newRow]
    · exact h.elim
  case box t v =>
    simp only [stepI] at h
    split at h
    · rename_i k hk
      split at h
      · rename_i hb
        simp only [Bool.and_eq_true, decide_eq_true_eq] at hb
        have hc := okC_cells (ev_ok R A v) hb.1
        refine step_alloc' hT0 hN E0 R A hn hdst hc (t := t) ?_ h
        simp [execOp, Instr.box, newVar, newRow]
      · exact h.elim
    · exact h.elim
  case store t p v =>
    simp only [stepI] at h
    split at h
    · unfold storeK at h
      cases p with
      | tmp x =>
        simp only at h
        have store : ∀ (b off nn : Nat) (vs0 : Array Value) (ty' : Nat) (fr : Nat × Nat), a.tmps.getD x undef = .pointer (some ⟨b, off, none⟩) → szOf X.P t = some nn → (ev X st v).okC = true → (ev X st v).cells.length = nn → w.heap[b]? = some (.cells vs0 ty' fr) → OpenR vs0 fr → off + nn ≤ vs0.size →
            HasC w S (ev X st v).cells (a.eval v).cells.toList ∧ (a.eval v).cells.toList.length = nn ∧ (execOp a.eval ⟨none, .store t (.tmp x) v, ty, pos, af, gd⟩).run X.P w = .ok .skip (w.setRow b (vs0.toList.take off ++ (a.eval v).cells.toList ++ vs0.toList.drop (off + nn)).toArray) := fun b off nn vs0 ty' fr he hnn hok hl hh ho hfit => by
          have hc := okC_cells (ev_ok R A v) hok
          have hsz : (a.eval v).cells.size = nn := by have := hc.len; simp at this; omega
          refine ⟨hc, by simpa using hsz, ?_⟩
          have := storeVar_run (P := X.P) hnn hsz (oneCells hc) hh ho hfit
          simp only [execOp, Instr.storeAt, show a.eval (.tmp x) = _ from he, Instr.sureAddr, Sem.run_bind, Sem.run_pure, Result.andThen_ok, this]
        split at h
        · rename_i key off hl
          obtain ⟨hp, _⟩ := A.regs x key off hl
          split at h
          · rename_i cs nn hb hnn
            split at h
            · rename_i hc
              simp only [Bool.and_eq_true, decide_eq_true_eq] at hc
              obtain ⟨_, _, vs0, ty0, hh, hcs⟩ := A.boxes key cs hb
              have hlen : cs.length = vs0.size := by have := hcs.len; simpa using this
              obtain ⟨hcv, hsz, hr⟩ := store (lb key) off nn vs0 ty0 (0, 0) hp hnn hc.1.1 hc.1.2 hh (openR_zero vs0) (by omega)
              have hspl := hasC_splice hcs hcv (off := off) (by omega)
              rw [hsz] at hspl
              obtain ⟨R', E', A'⟩ := RelA.setBox R A hb hh (vs := (vs0.toList.take off ++ (a.eval v).cells.toList ++ vs0.toList.drop (off + nn)).toArray) (by simpa using hspl)
              unfold Oper.wp
              rw [hr, Oper.upon_skip]
              exact ⟨_, S, lb, h, R', A', E0.trans hT0 E', hn⟩
            · exact h.elim
          · exact h.elim
        · rename_i hl
          split at h
          · rename_i id off hid
            have hx := A.slots x
            rw [hid] at hx
            generalize hp : a.tmps.getD x undef = pv at hx
            cases hx with
            | ptr _ _ b hbb =>
              rw [A.m] at h
              split at h
              · rename_i cs nn hb hnn
                split at h
                · rename_i hc
                  simp only [Bool.and_eq_true, decide_eq_true_eq] at hc
                  obtain ⟨vs0, ty0, fr, hh, ho, hlen, hcs⟩ := R.boxes id b cs hbb hb
                  obtain ⟨hcv, hsz, hr⟩ := store b off nn vs0 ty0 fr hp hnn hc.1.1 hc.1.2 hh ho (by omega)
                  have hspl := hasC_splice (vs := (vs0.toList.take cs.length).toArray) (by simpa using hcs) hcv (off := off) (by omega)
                  rw [hsz] at hspl
                  have hcl : (setRow cs off (ev X st v).cells).length = cs.length := setRow_len' _ _ _
                  have hnew : (vs0.toList.take off ++ (a.eval v).cells.toList ++ vs0.toList.drop (off + nn)).length = vs0.size := by
                    simp only [List.length_append, List.length_take, List.length_drop, hsz, Array.length_toList]; omega
                  have R' := R.setBox hbb (vs := (vs0.toList.take off ++ (a.eval v).cells.toList ++ vs0.toList.drop (off + nn)).toArray) hb hh (fun j hj => ho j (by rw [List.size_toArray, hnew] at hj; exact hj)) (by rw [hcl, List.size_toArray, hnew]; exact hlen) (by
                    rw [hcl]
                    have e : (vs0.toList.take off ++ (a.eval v).cells.toList ++ vs0.toList.drop (off + nn)).toArray.toList.take cs.length = (vs0.toList.take cs.length).toArray.toList.take off ++ (a.eval v).cells.toList ++ (vs0.toList.take cs.length).toArray.toList.drop (off + nn) := by
                      exact take_splice _ _ off nn cs.length hsz (by omega) (by rw [Array.length_toList]; omega)
                    rw [e]
                    exact hspl)
                  have T : Step X B N w S _ _ := ⟨R', Ext.setBox R hbb _ _, fun c hc' => setRow_other w b c _ (fun e => by subst e; exact R.bbMu _ (List.mem_of_getElem? hbb) hc'), fun _ h => h⟩
                  unfold Oper.wp
                  rw [hr, Oper.upon_skip]
                  exact ⟨_, _, lb, h, R', A.step R.tidy T, E0.trans hT0 T.ext, hn⟩
                · exact h.elim
              · exact h.elim
          · exact h.elim
      | const v => exact h.elim
      | global g => exact h.elim
      | func f => exact h.elim
    · exact h.elim
  case fieldAddr t p i =>
    simp only [stepI] at h
    split at h
    · rename_i key off hp
      cases p with
      | tmp x =>
        have hp : st.lp x = some (key, off) := hp
        obtain ⟨he, hb⟩ := A.regs x key off hp
        split at h
        · rename_i o y ho
          have hyn := hdst y rfl
          refine wp_value (v := .pointer (some ⟨lb key, off + o, none⟩)) (w' := w) ?_ ?_
          · simp only [execOp, Sem.run_bind, show a.eval (.tmp x) = _ from he, fieldAt_run ho]; rfl
          · exact ⟨_, S, lb, h, R, A.putL (Nat.lt_of_lt_of_le hyn hn) hb, E0, by rw [put_size]; exact hn⟩
        · exact h.elim
      | const v => cases hp
      | global g => cases hp
      | func f => cases hp
    · exact step_pure hT0 E0 R A hn hdst h
  case nilCheck p =>
    simp only [stepI] at h
    split at h
    · rename_i key off hp
      cases p with
      | tmp x =>
        have hp : st.lp x = some (key, off) := hp
        obtain ⟨he, hb⟩ := A.regs x key off hp
        refine wp_value (v := .pointer (some ⟨lb key, off, none⟩)) (w' := w) ?_ ?_
        · simp only [execOp, show a.eval (.tmp x) = _ from he]; rfl
        · split at h
          · rename_i y
            have hyn := hdst y rfl
            exact ⟨_, S, lb, h, R, A.putL (Nat.lt_of_lt_of_le hyn hn) hb, E0, by rw [put_size]; exact hn⟩
          · exact ⟨_, S, lb, h, R, A, E0, hn⟩
      | const v => cases hp
      | global g => cases hp
      | func f => cases hp
    · exact step_pure hT0 E0 R A hn hdst h
  case call c =>
    obtain ⟨callee, args, tys⟩ := c
    cases callee with
    | value f =>
      simp only [stepI] at h
      split at h
      · rename_i g cap hf
        split at h
        · rename_i hg
          exact do_call hT0 hN E0 R A hn hdst hf (ix_mod F dst hg ▸ hC.run _ _ _ _ h)
        · exact h.elim
      · exact h.elim
    | invoke r m => exact h.elim
    | builtin b =>
      cases b <;> first
        | exact h.elim
        | exact step_pure hT0 E0 R A hn hdst h
        | exact step_make hT0 E0 R A hn hdst h

theorem step_ok (hC : CallOk X C) (hB : B ≤ N) (hT0 : Tidy w0 S0) (hN : N ≤ w0.heap.size) (E0 : Ext N w0 S0 w S) (R : RelG X B w S) (A : RelA N w S st lb a) (hn : n ≤ a.tmps.size) {o : Oper} (hdst : ∀ x, o.dst = some x → x < n)
    {K : St → Prop} {Q : Exit → Act → World → Prop} (h : stepI X F C o K st) : o.wp X.P a w (Conc X B N n w0 S0 K) Q :=
  step_ok' hC hB (dst := o.dst) (op := o.op) (ty := o.type) (pos := o.pos) (af := o.after) (gd := o.guard) hT0 hN E0 R A hn hdst h

theorem dstFrom_spec : ∀ (l : List Oper) (i j : Nat), dstFrom l i (i + j) = (l[j]?).bind (·.dst)
  | [], i, j => by simp [dstFrom]
  | o :: r, i, 0 => by simp [dstFrom]
  | o :: r, i, j + 1 => by
    simp only [dstFrom]
    rw [if_neg (by omega)]
    have := dstFrom_spec r (i + 1) j
    rw [show i + (j + 1) = i + 1 + j by omega, this]; simp

/-- The guards are seen alike. -/
theorem guard_ok (A : RelA N w S st lb a) {ops : Array Oper} {j : Nat} {r : Option Bool} (h : guardI ops.toList st j = some r) : yielded ops a.tmps j = r := by
  unfold guardI at h
  have hd := dstFrom_spec ops.toList 0 j
  rw [Nat.zero_add] at hd
  rw [hd] at h
  unfold yielded
  have e : ops.toList[j]? = ops[j]? := by simp
  rw [e] at h
  cases hx : (ops[j]?).bind (·.dst) with
  | none => rw [hx] at h; cases h
  | some x =>
    rw [hx] at h
    simp only at h
    have hv := A.slots x
    simp only [Option.bind_some]
    unfold guardV at h
    split at h
    · rename_i b hb
      cases h
      rw [hb] at hv
      have := hasBool hv
      simp only [Array.getD_eq_getD_getElem?] at this
      cases hg : a.tmps[x]? with
      | none => rw [hg] at this; cases this
      | some u => rw [hg] at this; simp at this; subst this; rfl
    · rename_i hb
      cases h
      rw [hb] at hv
      obtain ⟨vs, hvs, hl, _⟩ := hasTuple hv
      simp only [Array.getD_eq_getD_getElem?] at hvs
      cases hg : a.tmps[x]? with
      | none => rfl
      | some u => rw [hg] at hvs; simp at hvs; subst hvs; rfl
    · cases h

/-- A region in the order of its text. -/
theorem wpOps_ok (hC : CallOk X C) (hB : B ≤ N) (hT0 : Tidy w0 S0) (hN : N ≤ w0.heap.size) {ops : Array Oper} (hdst : ∀ o ∈ ops.toList, ∀ x, o.dst = some x → x < n) {K : St → Prop} {Q : Exit → Act → World → Prop} (hQ : ∀ a w, Conc X B N n w0 S0 K a w → Q .normal a w) :
    ∀ (l : List Oper) (k : Nat), (∀ j, l[j]? = ops[k + j]?) → ∀ (a : Act) (w : World), Conc X B N n w0 S0 (wpOps X F C ops.toList l K) a w → Go.wpOps X.P ops Q (List.range' k l.length) a w
  | [], k, _, a, w, h => hQ a w h
  | o :: l, k, hl, a, w, ⟨st, S, lb, h, R, A, E, hn⟩ => by
    have h0 : ops[k]? = some o := by simpa using (hl 0).symm
    have ho : o ∈ ops.toList := by
      have : ops.toList[k]? = some o := by simpa using h0
      exact List.mem_of_getElem? this
    have ih := wpOps_ok hC hB hT0 hN hdst hQ l (k + 1) (fun j => by have := hl (j + 1); simpa [Nat.add_assoc, Nat.add_comm 1 j] using this)
    rw [List.length_cons, List.range'_succ]
    simp only [Go.wpOps, h0]
    have hd := hdst o ho
    have run : stepI X F C o (wpOps X F C ops.toList l K) st → o.wp X.P a w (Go.wpOps X.P ops Q (List.range' (k + 1) l.length)) Q := fun hs =>
      Oper.wp_mono (fun a w => ih a w) (step_ok hC hB hT0 hN E R A hn hd hs)
    have skip : wpOps X F C ops.toList l K (st.put o.dst (.tuple [])) → Go.wpOps X.P ops Q (List.range' (k + 1) l.length) (a.put o.dst undef) w := fun hs =>
      ih _ _ (conc_pure hT0 E R A hn hd (HasV.tuple [] #[] rfl (fun j c v hc => by simp at hc)) hs)
    simp only [wpOps, opI] at h
    cases hg : o.guard with
    | none =>
      rw [hg] at h
      simp only [Region.wanted, hg, if_true]
      exact .inl (run h)
    | some jw =>
      obtain ⟨j, want⟩ := jw
      rw [hg] at h
      simp only at h
      simp only [Region.wanted, hg]
      split at h
      · rename_i b hb
        have hy := guard_ok A hb
        rw [hy]
        split at h
        · rename_i he
          have : b = want := by cases b <;> cases want <;> simp [eqB] at he ⊢
          subst this
          simp only [beq_self_eq_true, if_true]
          exact .inl (run h)
        · rename_i he
          have : ((some b : Option Bool) == some want) = false := by cases b <;> cases want <;> simp [eqB] at he ⊢
          simp only [this, Bool.false_eq_true, if_false]
          exact skip h
      · rename_i hb
        have hy := guard_ok A hb
        rw [hy]
        simp only [show ((none : Option Bool) == some want) = false from rfl, Bool.false_eq_true, if_false]
        exact skip h
      · exact h.elim
end
end Go.Eng
