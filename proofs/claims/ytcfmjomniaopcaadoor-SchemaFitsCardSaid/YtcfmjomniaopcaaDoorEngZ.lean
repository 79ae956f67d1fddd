/- Part of the engine that proves it: see the last text. -/
import Derived.Test.YtcfmjomniaopcaaDoorEngX5
set_option linter.unusedSimpArgs false
set_option linter.unusedVariables false
/- Control, and whole functions. -/
namespace Go.Eng
open Go

def dstsOk (n : Nat) : List Oper → Bool
  | [] => true
  | o :: r => (match o.dst with | some x => decide (x < n) | none => true) && dstsOk n r
/-- All is in order: what is written are slots; the regions of open order may be walked in the text's order (but those that are said to be bad). -/
def codeOk (P : Program) (pf : Nat → Bool) (F : Fi) (n : Nat) : Code → Bool
  | .region id ops dr => dstsOk n ops.toList && (match dr with | true => memB F.bad id || lexOk P pf F ops | false => true)
  | .seq a b => codeOk P pf F n a && codeOk P pf F n b
  | .cond _ a b => codeOk P pf F n a && codeOk P pf F n b
  | .block _ a => codeOk P pf F n a
  | .loop a => codeOk P pf F n a
  | _ => true

theorem dstsOk_spec {n : Nat} : ∀ {l : List Oper}, dstsOk n l = true → ∀ o ∈ l, ∀ x, o.dst = some x → x < n
  | [], _, o, ho, _, _ => by cases ho
  | p :: r, h, o, ho, x, hx => by
    simp only [dstsOk, Bool.and_eq_true] at h
    rcases List.mem_cons.1 ho with rfl | ho
    · have := h.1; rw [hx] at this; simpa using this
    · exact dstsOk_spec h.2 o ho x hx

section
variable {X : Ctx} {F : Fi} {C : CallW} {B N n : Nat} {w0 w w' : World} {S0 S S' : Sh} {st : St} {lb : Nat → Nat} {a : Act}

theorem slL_keep (f : Nat → D) : ∀ (l : List Nat) (x : Nat), slL (keepS f l) x = f x ∨ slL (keepS f l) x = .undef
  | [], x => .inr rfl
  | y :: r, x => by
    simp only [keepS, slL]
    split
    · rename_i h; subst h; exact .inl rfl
    · exact slL_keep f r x

theorem opL_keep {α : Type} (f : Nat → Option α) : ∀ (l : List Nat) (x : Nat) (v : α), opL (keepO f l) x = some v → f x = some v
  | [], x, v, h => by cases h
  | y :: r, x, v, h => by
    simp only [keepO] at h
    split at h
    · rename_i u hu
      simp only [opL] at h
      split at h
      · rename_i e; subst e; cases h; exact hu
      · exact opL_keep f r x v h
    · exact opL_keep f r x v h

theorem opL_keep_of {α : Type} (f : Nat → Option α) : ∀ (l : List Nat) (x : Nat) (v : α), memB l x = true → f x = some v → opL (keepO f l) x = some v
  | [], x, v, h, _ => by cases h
  | y :: r, x, v, h, hf => by
    simp only [keepO]
    simp only [memB] at h
    by_cases e : y = x
    · subst e
      rw [hf]; simp [opL]
    · rw [if_neg e] at h
      have ih := opL_keep_of f r x v h hf
      split
      · simp only [opL]; rw [if_neg (fun h => e h.symm)]; exact ih
      · exact ih

theorem RelA.keep (A : RelA N w S st lb a) (l : List Nat) : RelA N w S (st.keep l) lb a where
  m := A.m
  defers := A.defers
  slots := fun x => by
    show HasV w S (slL (keepS st.sl l) x) _
    rcases slL_keep st.sl l x with h | h <;> rw [h]
    · exact A.slots x
    · exact .undef _
  regs := fun x k o h => by
    have h1 := opL_keep (keepR l st.lp) l x (k, o) h
    have h2 : st.lp x = some (k, o) ∧ memB l k = true := by
      unfold keepR keepReg at h1
      split at h1
      · rename_i k' o' hl
        split at h1
        · rename_i hm; cases h1; exact ⟨hl, hm⟩
        · cases h1
      · cases h1
    obtain ⟨h3, h4⟩ := A.regs x k o h2.1
    refine ⟨h3, ?_⟩
    obtain ⟨c, hc⟩ := Option.isSome_iff_exists.1 h4
    have := opL_keep_of st.bx l k c h2.2 hc
    show (opL (keepO st.bx l) k).isSome = true
    rw [this]; rfl
  boxes := fun k cs h => A.boxes k cs (opL_keep st.bx l k cs h)
  inj := fun k k' h h' => by
    have conv : ∀ j, ((st.keep l).bx j).isSome = true → (st.bx j).isSome = true := fun j hj => by
      obtain ⟨c, hc⟩ := Option.isSome_iff_exists.1 hj
      rw [opL_keep st.bx l j c hc]; rfl
    exact A.inj k k' (conv k h) (conv k' h')

theorem Conc.keep {K : St → Prop} {l : List Nat} (h : Conc X B N n w0 S0 (fun st => K (st.keep l)) a w) : Conc X B N n w0 S0 K a w :=
  let ⟨st, S, lb, h1, h2, h3, h4⟩ := h; ⟨st.keep l, S, lb, h1, h2, h3.keep l, h4⟩

theorem wpI_ok (hC : CallOk X C) (hB : B ≤ N) (hT0 : Tidy w0 S0) (hN : N ≤ w0.heap.size) : ∀ (c : Code), codeOk X.P C.pf F n c = true → ∀ (Q : Post) (a : Act) (w : World), Conc X B N n w0 S0 (wpI X F C c Q) a w →
    c.wp X.P (fun e => Conc X B N n w0 S0 (Q e)) a w
  | .skip, _, Q, a, w, h => wp_skip h
  | .region id ops dr, hc, Q, a, w, h => by
    simp only [codeOk, Bool.and_eq_true] at hc
    obtain ⟨hc, hx⟩ := hc
    cases dr with
    | false =>
      refine wp_region ?_
      have := wpOps_ok hC hB (F := F) hT0 hN (dstsOk_spec hc) (K := fun st' => Q .normal (st'.keep F.ext)) (Q := fun e => Conc X B N n w0 S0 (Q e)) (fun a w h => h.keep) ops.toList 0 (fun j => by simp) a w h
      rw [List.range_eq_range']
      simpa using this
    | true =>
      have hl : memB F.bad id = false := by obtain ⟨st, S, lb, h1, _⟩ := h; exact h1.1
      simp only [hl, Bool.false_or] at hx
      have hl := hx
      exact regionN_ok hC hB hT0 hN (dstsOk_spec hc) (K := fun st' => Q .normal (st'.keep F.ext)) (fun a w h => h.keep) hl (h.mono fun st h => h.2)
  | .seq c d, hc, Q, a, w, h => by
    simp only [codeOk, Bool.and_eq_true] at hc
    refine wp_seq (wp_mono (wpI_ok hC hB hT0 hN c hc.1 _ a w h) fun e a w h => ?_)
    cases e with
    | normal => exact wpI_ok hC hB hT0 hN d hc.2 Q a w h
    | exit id => exact h
    | goto l => exact h
    | ret => exact h
    | panic c => exact h
    | outgrown => exact h
  | .cond o c d, hc, Q, a, w, h => by
    simp only [codeOk, Bool.and_eq_true] at hc
    obtain ⟨st, S, lb, h1, R, A, E, hn⟩ := h
    simp only [wpI] at h1
    split at h1
    · rename_i t ht
      have hv := ev_ok R A o
      rw [ht] at hv
      have hv := hasBool hv
      cases t with
      | true => exact wp_cond_true hv (wpI_ok hC hB hT0 hN c hc.1 Q a w ⟨st, S, lb, h1, R, A, E, hn⟩)
      | false => exact wp_cond_false hv (wpI_ok hC hB hT0 hN d hc.2 Q a w ⟨st, S, lb, h1, R, A, E, hn⟩)
    · exact h1.elim
  | .block id c, hc, Q, a, w, h => by
    refine wp_block (wp_mono (wpI_ok hC hB hT0 hN c hc _ a w h) fun e a w h => ?_)
    cases e with
    | exit id' =>
      simp only [Exit.inBlock]
      split
      · rename_i e; exact h.mono fun st h => by simpa [blockP, e] using h
      · rename_i e; exact h.mono fun st h => by simpa [blockP, e] using h
    | normal => exact h
    | goto l => exact h
    | ret => exact h
    | panic c => exact h
    | outgrown => exact h
  | .exit id, _, Q, a, w, h => wp_exit h
  | .ret, _, Q, a, w, h => wp_ret h
  | .loop c, hc, Q, a, w, ⟨st, S, lb, ⟨T, head, I, μ, ⟨p0, h0, hI⟩, hr⟩, R, A, E, hn⟩ => by
    have body : ∀ p, I p → ∀ a w, Conc X B N n w0 S0 (fun s => s = head p) a w → c.wp X.P (fun e => Conc X B N n w0 S0 (thenP (fun st' => ∃ p', st'.keep (liveOf F c) = head p' ∧ I p' ∧ μ p' < μ p) Q e)) a w := fun p hp a w h =>
      wpI_ok hC hB hT0 hN c hc _ a w (h.mono fun s hs => by subst hs; exact hr p hp)
    have start : Conc X B N n w0 S0 (fun s => s = head p0) a w := ⟨_, S, lb, h0, R, A.keep (liveOf F c), E, hn⟩
    intro b k cs
    have key : ∀ (m : Nat) (p : T), μ p = m → I p → ∀ a w, Conc X B N n w0 S0 (fun s => s = head p) a w →
        ∃ e a' w', Conc X B N n w0 S0 (Q e) a' w' ∧ Arrives X.P (lone (b.at a (.code c :: .inLoop c :: k)) cs w) b k cs e a' w' := by
      intro m
      induction m using Nat.strongRecOn with
      | _ m ih =>
        intro p hm hp a w hcn
        obtain ⟨e, a₁, w₁, hq, harr⟩ := body p hp a w hcn b (.inLoop c :: k) cs
        cases e with
        | normal =>
          obtain ⟨st1, S1, lb1, ⟨p', hk, hI', hlt⟩, R1, A1, E1, hn1⟩ := hq
          obtain ⟨e₂, a₂, w₂, hq₂, harr₂⟩ := ih (μ p') (hm ▸ hlt) p' rfl hI' a₁ w₁ ⟨_, S1, lb1, hk, R1, A1.keep (liveOf F c), E1, hn1⟩
          exact ⟨e₂, a₂, w₂, hq₂, .of_steps (Steps.trans harr (.one step_inLoop)) harr₂⟩
        | exit id => exact ⟨_, a₁, w₁, hq, .pass (x := .inLoop c) rfl (fun _ _ => .inl (by simp)) harr⟩
        | goto l => exact ⟨_, a₁, w₁, hq, .pass (x := .inLoop c) rfl (fun _ _ => .inl (by simp)) harr⟩
        | ret => exact ⟨_, a₁, w₁, hq, .pass (x := .inLoop c) rfl (fun _ _ => .inl (by simp)) harr⟩
        | panic ch => exact ⟨_, a₁, w₁, hq, .pass (x := .inLoop c) rfl (fun _ _ => .inl (by simp)) harr⟩
        | outgrown => exact ⟨_, a₁, w₁, hq, .pass (x := .inLoop c) rfl (fun _ _ => .inl (by simp)) harr⟩
    obtain ⟨e, a', w', hq, harr⟩ := key _ p0 rfl hI a w start
    exact ⟨e, a', w', hq, .of_steps (.one step_loop) harr⟩
  | .rangeFunc _ _ _ _, _, _, _, _, ⟨_, _, _, h, _⟩ => h.elim
  | .scope _, _, _, _, _, ⟨_, _, _, h, _⟩ => h.elim
  | .label _, _, _, _, _, ⟨_, _, _, h, _⟩ => h.elim
  | .goto _, _, _, _, _, ⟨_, _, _, h, _⟩ => h.elim
  | .refuse _, _, _, _, _, ⟨_, _, _, h, _⟩ => h.elim
end
end Go.Eng
