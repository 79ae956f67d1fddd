/- Part of the engine that proves it: see the last text. -/
import Derived.Test.YtcfmjomniaopcaaDoorEngN2
/- One operation, whatever it is: what the abstract machine asks of it is enough. -/
namespace Go.Eng
open Go

def enterable (P : Program) (f : Nat) : Bool := match P.funcs[f]? with | some fn => fn.body.isSome && !(fn.name == "runtime.NumGoroutine") | none => false

/-- From this memory and these arguments the function returns, with Q of the result and the memory: in every world that they stand for. -/
def CallD (X : Ctx) (f : Nat) (m : Mem) (ds : List D) (Q : D → Mem → Prop) : Prop :=
  enterable X.P f = true ∧ ∀ (B : Nat) (w : World) (S : Sh) (args : Array Value), RelG X B w S → S.m = m → HasL w S ds args.toList →
    Calls X.P f args w fun e w' => ∃ v S' r, e = .returned v ∧ Q r S'.m ∧ RelG X B w' S' ∧ Ext w.heap.size w S w' S' ∧ HasV w' S' r v

theorem CallD.mono {X : Ctx} {f : Nat} {m : Mem} {ds : List D} {Q Q' : D → Mem → Prop} (h : CallD X f m ds Q) (hq : ∀ r m', Q r m' → Q' r m') : CallD X f m ds Q' :=
  ⟨h.1, fun B w S args R hm ha => (h.2 B w S args R hm ha).mono fun _ _ ⟨v, S', r, h1, h2, h3⟩ => ⟨v, S', r, h1, hq _ _ h2, h3⟩⟩

/-- What is known of the callees is so. -/
structure CallOk (X : Ctx) (C : CallW) : Prop where
  run : ∀ (g : Nat) (m : Mem) (ds : List D) (Q : D → Mem → Prop), C.run g m ds Q → CallD X (g % 100000) m ds Q
  pv : ∀ (g : Nat) (ds : List D) (v : D), C.pf g = true → C.pv g ds = some v → ∀ m, CallD X (g % 100000) m ds fun r m' => r = v ∧ m' = m

theorem ix_mod (F : Fi) (dst : Option Nat) {g : Nat} (h : decide (g < 100000) = true) : ix F dst g % 100000 = g := by
  have h := of_decide_eq_true h
  unfold ix
  split
  · split
    · omega
    · omega
  · omega

/-- Some abstract state with K stands for this state. -/
def Conc (X : Ctx) (B N n : Nat) (w0 : World) (S0 : Sh) (K : St → Prop) (a : Act) (w : World) : Prop :=
  ∃ st S lb, K st ∧ RelG X B w S ∧ RelA N w S st lb a ∧ Ext N w0 S0 w S ∧ n ≤ a.tmps.size

section
variable {X : Ctx} {F : Fi} {B N n : Nat} {w0 w w' : World} {S0 S S' : Sh} {st : St} {lb : Nat → Nat} {a : Act}

theorem getD_put (tmps : Array Value) (x : Nat) (v : Value) (y : Nat) (hx : x < tmps.size) : (tmps.setIfInBounds x v).getD y undef = if y = x then v else tmps.getD y undef := by
  by_cases e : y = x
  · subst e; simp [Array.getD, hx]
  · simp only [Array.getD_eq_getD_getElem?, e, if_false]
    rw [Array.getElem?_setIfInBounds_ne (fun h => e h.symm)]

theorem upd_same {α : Type} (f : Nat → α) (x : Nat) (v : α) : upd f x v x = v := by simp [upd]
theorem upd_other {α : Type} (f : Nat → α) {x y : Nat} (v : α) (h : y ≠ x) : upd f x v y = f y := by simp [upd, h]

theorem RelA.put (A : RelA N w S st lb a) {x : Nat} (hx : x < a.tmps.size) {d : D} {v : Value} (hv : HasV w S d v) : RelA N w S (st.put (some x) d) lb (a.put (some x) v) where
  m := A.m
  defers := A.defers
  slots := fun y => by
    show HasV w S (upd st.sl x d y) ((a.tmps.setIfInBounds x v).getD y undef)
    rw [getD_put _ _ _ _ hx]
    by_cases e : y = x
    · subst e; rw [upd_same, if_pos rfl]; exact hv
    · rw [upd_other _ _ e, if_neg e]; exact A.slots y
  regs := fun y k o h => by
    have hy : y ≠ x ∧ st.lp y = some (k, o) := by
      simp only [St.put, updReg] at h
      cases hl : st.lp x with
      | none =>
        rw [hl] at h
        have h2 : st.lp y = some (k, o) := h
        refine ⟨fun e => ?_, h2⟩
        subst e; rw [hl] at h2; cases h2
      | some q =>
        rw [hl] at h
        simp only at h
        by_cases e : y = x
        · subst e; rw [upd_same] at h; cases h
        · rw [upd_other _ _ e] at h; exact ⟨e, h⟩
    obtain ⟨h1, h2⟩ := A.regs y k o hy.2
    refine ⟨?_, h2⟩
    show (a.tmps.setIfInBounds x v).getD y undef = _
    rw [getD_put _ _ _ _ hx, if_neg hy.1]; exact h1
  boxes := A.boxes
  inj := A.inj

theorem RelA.putL (A : RelA N w S st lb a) {x k o : Nat} (hx : x < a.tmps.size) (hk : (st.bx k).isSome = true) : RelA N w S (st.putL x k o) lb (a.put (some x) (.pointer (some ⟨lb k, o, none⟩))) where
  m := A.m
  defers := A.defers
  slots := fun y => by
    show HasV w S (upd st.sl x .undef y) ((a.tmps.setIfInBounds x _).getD y undef)
    rw [getD_put _ _ _ _ hx]
    by_cases e : y = x
    · subst e; rw [upd_same, if_pos rfl]; exact .undef _
    · rw [upd_other _ _ e, if_neg e]; exact A.slots y
  regs := fun y k' o' h => by
    show (a.tmps.setIfInBounds x _).getD y undef = _ ∧ _
    rw [getD_put _ _ _ _ hx]
    simp only [St.putL] at h
    by_cases e : y = x
    · subst e; rw [upd_same] at h; cases h; rw [if_pos rfl]; exact ⟨rfl, hk⟩
    · rw [upd_other _ _ e] at h; rw [if_neg e]; exact A.regs y k' o' h
  boxes := A.boxes
  inj := A.inj

theorem RelA.step (A : RelA N w S st lb a) (hT : Tidy w S) (T : Step X B N w S w' S') : RelA N w' S' (st.setM S'.m) lb a where
  m := rfl
  defers := A.defers
  slots := fun x => (A.slots x).mono T.ext hT
  regs := A.regs
  boxes := fun k cs h => by
    obtain ⟨h1, h2, vs, t, h3, h4⟩ := A.boxes k cs h
    exact ⟨h1, T.muK _ h2, vs, t, by rw [T.priv _ h2]; exact h3, h4.mono T.ext hT⟩
  inj := A.inj

theorem Step.refl (R : RelG X B w S) : Step X B N w S w S := ⟨R, Ext.refl N w S, fun _ _ => rfl, fun _ h => h⟩

theorem RelA.newBox (R : RelG X B w S) (A : RelA N w S st lb a) {x : Nat} (hx : x < a.tmps.size) (hN : N ≤ w.heap.size) {cs : List D} {vs : Array Value} (t : TypeId) (hc : HasC w S cs vs.toList) :
    RelA N (w.alloc (.cells vs t (0, 0))) (S.addMu w.heap.size) (st.newBox x cs) (fun k => if k = x then w.heap.size else lb k) (a.put (some x) (.pointer (some ⟨w.heap.size, 0, none⟩))) := by
  have E := Ext.allocMu (N := N) R (.cells vs t (0, 0))
  have lbne : ∀ k, (st.bx k).isSome = true → lb k < w.heap.size := fun k hk => by
    obtain ⟨c, hc⟩ := Option.isSome_iff_exists.1 hk
    exact R.mu _ (A.boxes k c hc).2.1
  exact {
    m := A.m
    defers := A.defers
    slots := fun y => by
      show HasV _ _ (upd st.sl x .undef y) ((a.tmps.setIfInBounds x _).getD y undef)
      rw [getD_put _ _ _ _ hx]
      by_cases e : y = x
      · subst e; rw [upd_same, if_pos rfl]; exact .undef _
      · rw [upd_other _ _ e, if_neg e]; exact (A.slots y).mono E R.tidy
    regs := fun y k o h => by
      show (a.tmps.setIfInBounds x _).getD y undef = _ ∧ (upd st.bx x (some cs) k).isSome = true
      rw [getD_put _ _ _ _ hx]
      simp only [St.newBox] at h
      by_cases e : y = x
      · subst e; rw [upd_same] at h; cases h
        rw [if_pos rfl, upd_same]; simp
      · rw [upd_other _ _ e] at h; rw [if_neg e]
        have hk : k ≠ x ∧ st.lp y = some (k, o) := by
          unfold dropIf at h
          cases hb : st.bx x with
          | none =>
            rw [hb] at h
            refine ⟨fun ek => ?_, h⟩
            subst ek
            have := (A.regs y k o h).2
            rw [hb] at this; cases this
          | some c =>
            rw [hb] at h
            simp only [dropKey, dropReg] at h
            cases hl : st.lp y with
            | none => rw [hl] at h; cases h
            | some q =>
              obtain ⟨k', o'⟩ := q
              rw [hl] at h
              simp only at h
              by_cases ek : k' = x
              · rw [if_pos ek] at h; cases h
              · rw [if_neg ek] at h; cases h; exact ⟨ek, rfl⟩
        obtain ⟨h1, h2⟩ := A.regs y k o hk.2
        rw [if_neg hk.1, upd_other _ _ hk.1]
        exact ⟨h1, h2⟩
    boxes := fun k c h => by
      show N ≤ (if k = x then w.heap.size else lb k) ∧ _
      simp only [St.newBox] at h
      by_cases e : k = x
      · subst e; rw [upd_same] at h; cases h
        simp only [if_true]
        exact ⟨hN, .inl rfl, vs, t, alloc_new w _, hc.mono E R.tidy⟩
      · rw [upd_other _ _ e] at h
        simp only [e, if_false]
        obtain ⟨h1, h2, us, t', h3, h4⟩ := A.boxes k c h
        exact ⟨h1, .inr h2, us, t', by rw [alloc_old w _ (R.mu _ h2)]; exact h3, h4.mono E R.tidy⟩
    inj := fun k k' h h' he => by
      simp only [St.newBox] at h h'
      by_cases e : k = x <;> by_cases e' : k' = x
      · omega
      · rw [upd_other _ _ e'] at h'
        simp only [e, e', if_true, if_false] at he
        have := lbne k' h'; omega
      · rw [upd_other _ _ e] at h
        simp only [e, e', if_true, if_false] at he
        have := lbne k h; omega
      · rw [upd_other _ _ e] at h; rw [upd_other _ _ e'] at h'
        simp only [e, e', if_false] at he
        exact A.inj k k' h h' he }

/-- A local box is written. -/
theorem RelA.setBox (R : RelG X B w S) (A : RelA N w S st lb a) {k : Nat} {cs old : List D} {vs vs0 : Array Value} {t : TypeId} (hk : st.bx k = some old) (h0 : w.heap[lb k]? = some (.cells vs0 t (0, 0))) (hc : HasC w S cs vs.toList) :
    RelG X B (w.setRow (lb k) vs) S ∧ Ext N w S (w.setRow (lb k) vs) S ∧ RelA N (w.setRow (lb k) vs) S ⟨st.sl, st.lp, upd st.bx k (some cs), st.m⟩ lb a := by
  obtain ⟨hN, hmu, _⟩ := A.boxes k old hk
  have E := Ext.setMu (N := N) R hmu hN vs
  refine ⟨R.setMu hmu vs, E, ?_⟩
  have some_of : ∀ j, (upd st.bx k (some cs) j).isSome = true → (st.bx j).isSome = true := fun j h => by
    by_cases e : j = k
    · subst e; rw [hk]; rfl
    · rw [upd_other _ _ e] at h; exact h
  exact {
    m := A.m
    defers := A.defers
    slots := fun x => (A.slots x).mono E R.tidy
    regs := fun y j o h => by
      obtain ⟨h1, h2⟩ := A.regs y j o h
      refine ⟨h1, ?_⟩
      by_cases e : j = k
      · subst e; show (upd st.bx j (some cs) j).isSome = true; rw [upd_same]; rfl
      · show (upd st.bx k (some cs) j).isSome = true; rw [upd_other _ _ e]; exact h2
    boxes := fun j c h => by
      have h : upd st.bx k (some cs) j = some c := h
      by_cases e : j = k
      · subst e; rw [upd_same] at h; cases h
        exact ⟨hN, hmu, vs, t, setRow_heap w _ vs0 vs t _ h0, hc.mono E R.tidy⟩
      · rw [upd_other _ _ e] at h
        obtain ⟨h1, h2, us, t', h3, h4⟩ := A.boxes j c h
        have hne : lb j ≠ lb k := fun x => e (A.inj j k (by rw [h]; rfl) (by rw [hk]; rfl) x)
        exact ⟨h1, h2, us, t', by rw [setRow_other w _ _ vs hne]; exact h3, h4.mono E R.tidy⟩
    inj := fun j j' h h' => A.inj j j' (some_of j h) (some_of j' h') }

theorem setRow_len' : ∀ (ds cs : List D) (o : Nat), (setRow cs o ds).length = cs.length
  | [], _, _ => rfl
  | d :: r, cs, o => by simp only [setRow]; rw [setRow_len' r]; simp

theorem run_storeCells_open {P : Program} (g o : Nat) (t : TypeId) (fr : Nat × Nat) : ∀ (vs : List Value) (i : Nat) (cur : Array Value) (w : World), w.heap[g]? = some (.cells cur t fr) → OpenR cur fr → o + i + vs.length ≤ cur.size → (∀ v ∈ vs, v.oneCell' = true) →
    (storeCells ⟨g, o, none⟩ vs i).run P w = .ok () (w.setRow g (cur.toList.take (o + i) ++ vs ++ cur.toList.drop (o + i + vs.length)).toArray)
  | [], i, cur, w, hg, _, _, _ => by
    simp only [storeCells, List.append_nil, List.length_nil, Nat.add_zero, List.take_append_drop, Array.toArray_toList]
    rw [setRow_self w g cur t fr hg]
    rfl
  | v :: rest, i, cur, w, hg, ho, hl, h1 => by
    have hi : o + i < cur.size := by simp at hl; omega
    have hadd : (⟨g, o, none⟩ : Addr).add i = ⟨g, o + i, none⟩ := by unfold Addr.add; split <;> simp_all
    have hcell : w.cell? ⟨g, o + i, none⟩ = some cur[o + i] := by simp [World.cell?, hg, hi]
    have hfro : w.frozen? ⟨g, o + i, none⟩ = false := by
      have := ho (o + i) hi
      obtain ⟨lo, hi'⟩ := fr
      simp only [World.frozen?, hg, Bool.and_eq_false_iff, decide_eq_false_iff_not]
      simp only at this
      omega
    have hst : (store ((⟨g, o, none⟩ : Addr).add i) v).run P w = .ok () (w.setRow g (cur.setIfInBounds (o + i) v)) := by
      rw [hadd, run_store P w _ v _ (h1 v (by simp)), hcell]
      simp [hfro, setCell_eq_setRow w g (o + i) cur t fr v hg]
    have ih := run_storeCells_open (P := P) g o t fr rest (i + 1) (cur.setIfInBounds (o + i) v) (w.setRow g (cur.setIfInBounds (o + i) v)) (setRow_heap w g cur _ t _ hg) (fun j hj => ho j (by simpa using hj)) (by simp at hl ⊢; omega) (fun x hx => h1 x (by simp [hx]))
    simp only [storeCells, Sem.run_bind, hst, Result.andThen_ok, ih, setRow_setRow]
    congr 3
    have e := list_seg_step cur.toList (o + i) v rest (by simp at hl ⊢; omega)
    simpa [Array.toList_setIfInBounds, Nat.add_assoc] using e

theorem storeVar_run {P : Program} {t nn b off : Nat} {v : Value} {vs0 : Array Value} {ty : TypeId} {fr : Nat × Nat} (hn : szOf P t = some nn) (hv : v.cells.size = nn) (h1 : ∀ u ∈ v.cells.toList, u.oneCell' = true)
    (hh : w.heap[b]? = some (.cells vs0 ty fr)) (ho : OpenR vs0 fr) (hfit : off + nn ≤ vs0.size) :
    (storeVar t ⟨b, off, none⟩ v).run P w = .ok () (w.setRow b (vs0.toList.take off ++ v.cells.toList ++ vs0.toList.drop (off + nn)).toArray) := by
  have := run_storeCells_open (P := P) b off ty fr v.cells.toList 0 vs0 w hh ho (by simp; omega) h1
  unfold storeVar
  simp only [Sem.run_bind, run_sizeOf hn, Result.andThen_ok, hv, ne_eq, not_true_eq_false, if_false]
  rw [this]
  simp [hv]

theorem setRow_splice : ∀ (ds : List D) (cs : List D) (off : Nat), off + ds.length ≤ cs.length → setRow cs off ds = cs.take off ++ ds ++ cs.drop (off + ds.length)
  | [], cs, off, _ => by simp [setRow]
  | d :: r, cs, off, h => by
    have ih := setRow_splice r (cs.set off d) (off + 1) (by simp at h ⊢; omega)
    simp only [setRow, ih]
    have hlt : off < cs.length := by simp at h; omega
    have e1 : (cs.set off d).take (off + 1) = cs.take off ++ [d] := by
      rw [List.take_succ_eq_append_getElem (by simpa using hlt)]
      simp [List.take_set_of_le]
    have e2 : (cs.set off d).drop (off + 1 + r.length) = cs.drop (off + (r.length + 1)) := by
      rw [List.drop_set_of_lt (by omega)]; congr 1; omega
    rw [e1, e2]; simp

theorem hasC_splice {cs ds : List D} {vs : Array Value} {us : List Value} (h : HasC w S cs vs.toList) (hd : HasC w S ds us) {off : Nat} (hfit : off + ds.length ≤ cs.length) :
    HasC w S (setRow cs off ds) (vs.toList.take off ++ us ++ vs.toList.drop (off + us.length)) := by
  rw [setRow_splice ds cs off hfit, ← hd.len]
  refine hasC_append (hasC_append ?_ hd) ?_
  · have := hasC_take h 0 off
    simpa using this
  · have hl := h.len
    have := hasC_take h (off + ds.length) cs.length
    rw [List.take_of_length_le (by simp), List.take_of_length_le (by rw [List.length_drop, ← hl]; omega)] at this
    exact this
end
end Go.Eng
