/- Part of the engine that proves it: see the last text. -/
import Derived.Test.YtcfmjomniaopcaaDoorEngX4
/- Regions whose order is open: sound. -/
namespace Go.Eng
open Go
section
variable {X : Ctx} {F : Fi} {C : CallW} {B N n : Nat} {w0 w w' : World} {S0 S S' : Sh} {st : St} {lb : Nat → Nat} {a : Act} {m0 : Mem} {K : St → Prop} {ops : Array Oper}

theorem appendD_boxes {k : Nat} {m m' : Mem} {s d : D} {xs : List D} (h : appendD k m s xs = some (d, m')) : m'.boxes = m.boxes := by
  unfold appendD at h
  split at h
  · cases h; rfl
  · split at h
    · cases h; rfl
    · revert h
      cases decide (k = _) <;> intro h <;> cases h
      rfl
    · split at h
      · rename_i n hn
        revert h
        cases (decide (k = _) && decide (n = _)) <;> intro h <;> cases h
        rfl
      · cases h
    · cases h

theorem sub_of_boxes {m m' : Mem} (h : m'.boxes = m.boxes) : Sub m m' := fun id cs hc => by rw [h]; exact hc
theorem sub_box (m : Mem) (x : List D) : Sub m { m with boxes := m.boxes ++ [x] } := fun _ _ hc => get_append_of hc
theorem appendB_sub {k : Nat} {m m' : Mem} {s d : D} {es xs : List D} (h : appendB k m s es xs = some (d, m')) : Sub m m' := by
  unfold appendB at h
  split at h
  · split at h <;> cases h
    exact sub_refl _
  · split at h <;> cases h
    · exact sub_box _ _
    · exact sub_box _ _

theorem makeD_sub {m m' : Mem} {op : Op} {d : D} {bx : Bool} (h : makeD X bx m st op = some (d, m')) : Sub m m' := by
  cases op <;> first | (cases h; done) | skip
  case convert s t x =>
    simp only [makeD] at h
    split at h
    · rename_i s' _ _
      revert h
      cases decide (s'.length ≤ 16777216) <;> intro h <;> cases h
      exact sub_box _ _
    · cases h
  case makeSlice t l c =>
    simp only [makeD] at h
    split at h
    · rename_i e n n' _ _ _
      split at h
      · rename_i k z _ _ _
        revert h
        cases (z.okC && decide (z.cells.length = k) && decide (0 ≤ n) && decide (n = n') && decide (n ≤ 16777216)) <;> intro h <;> cases h
        exact sub_box _ _
      · cases h
    · cases h
  case call c =>
    obtain ⟨callee, args, tys⟩ := c
    cases callee <;> first | (cases h; done) | skip
    rename_i b
    cases b <;> first | (cases h; done) | skip
    simp only [makeD] at h
    split at h
    · split at h
      · rename_i e k k' _ _ _
        split at h
        · rename_i xs es _ _ _ _
          revert h
          cases (decide (k' = k) && decide (es.length + xs.length ≤ 16777216)) <;> intro h
          · cases h
          · cases bx with
            | true => exact appendB_sub h
            | false => exact sub_of_boxes (appendD_boxes h)
        · cases h
      · cases h
    · cases h

/-- What is known of the callees, as it is. -/
def CallW.down (C : CallW) (X : Ctx) : CallW := { C with run := fun g => CallD X (g % 100000) }
theorem down_run (C : CallW) : (C.down X).run = fun g => CallD X (g % 100000) := rfl
theorem down_ok (hC : CallOk X C) : CallOk X (C.down X) := ⟨fun _ _ _ _ h => h, hC.pv⟩
theorem pureOf_spec {pf : Nat → Bool} {dst : Option Nat} {f : Operand} {g : Nat} (h : pureOf pf F dst f = some g) : ∃ g0, f = .func g0 ∧ decide (g0 < 100000) = true ∧ ix F dst g0 = g ∧ pf g = true := by
  unfold pureOf at h
  split at h
  · split at h
    · rename_i hp
      simp only [Bool.and_eq_true] at hp
      cases h; exact ⟨_, rfl, hp.1, rfl, hp.2⟩
    · cases h
  · cases h

theorem todo_step (hC : CallOk X C) {o : Oper} (h : doN C o.dst K st (effN0 X F C m0 o st)) :
    (∃ d, pureD X m0 st o.op = some d ∧ K (st.put o.dst d) ∧ ∀ t p, o.op = .load t p → locOk F st p = true) ∨ stepI X F (C.down X) o (fun s => K s ∧ (Sub st.m s.m ∨ kindOf X.P C.pf F o = .st)) st := by
  have pure_ : (∀ t p, o.op = .load t p → locOk F st p = true) → doN C o.dst K st (pureE X m0 o st) → ∃ d, pureD X m0 st o.op = some d ∧ K (st.put o.dst d) ∧ ∀ t p, o.op = .load t p → locOk F st p = true := fun hl h => by
    unfold pureE at h
    split at h
    · rename_i d hd; exact ⟨d, hd, h, hl⟩
    · exact h.elim
  have make_ : doN C o.dst K st (makeE X F o st) → makeK X F o (fun s => K s ∧ (Sub st.m s.m ∨ kindOf X.P C.pf F o = .st)) st := fun h => by
    unfold makeE at h
    unfold makeK
    split at h
    · rename_i d m hd
      rw [hd]
      exact ⟨h, .inl (makeD_sub hd)⟩
    · exact h.elim
  have alloc_ : ∀ cs, doN C o.dst K st (allocE F o cs st) → allocK F o cs (fun s => K s ∧ (Sub st.m s.m ∨ kindOf X.P C.pf F o = .st)) st := fun cs h => by
    unfold allocE at h
    unfold allocK
    split at h
    · rename_i x hx
      split at h
      · rename_i hm
        simp only [hx, hm]
        rw [hx] at h
        exact ⟨h, .inl (sub_box _ _)⟩
      · rename_i hm
        split at h
        · rename_i hb
          simp only [hx, hm]
          simp only [doN, Eff.apply, hx] at h
          exact ⟨h, .inl (sub_refl _)⟩
        · exact h.elim
    · exact h.elim
  unfold effN0 at h
  unfold stepI
  split at h <;> rename_i hop <;> simp only [hop]
  · right
    split at h
    · rename_i z hz; rw [hz]; exact alloc_ _ h
    · exact h.elim
  · right
    split at h
    · rename_i k hk
      split at h
      · rename_i hb; rw [hk]; simp only; rw [hb]; exact alloc_ _ h
      · exact h.elim
    · exact h.elim
  · right
    rename_i t p v
    split at h
    · rename_i hd
      rw [hd]
      unfold storeE at h
      unfold storeK
      split at h
      · rename_i hlk
        have hr' := eqR_spec hlk
        split at h
        · rename_i key off hr
          cases p with
          | tmp x =>
            have hl : st.lp x = some (key, off) := hr
            split at h
            · rename_i cs k hb hk
              split at h
              · rename_i hc
                simp only [hl, hb, hk, hc]
                rw [hd] at h
                simp only [doN, Eff.apply, hb] at h
                exact ⟨h, .inl (sub_refl _)⟩
              · exact h.elim
            · exact h.elim
          | const v => cases hr
          | global g => cases hr
          | func f => cases hr
        · rename_i hr
          rw [hr] at hr'
          split at h
          · rename_i id off hp
            cases p with
            | tmp x =>
              have hl : st.lp x = none := hr
              have hs : st.sl x = .ptr id off := hp
              split at h
              · rename_i cs k hb hk
                split at h
                · rename_i hc
                  simp only [hl, hs, hb, hk, hc]
                  rw [hd] at h
                  have hr' := hr'.elim (fun h => h.symm) (fun ⟨k', o', h1, _⟩ => by cases h1)
                  exact ⟨h, .inr (by unfold kindOf; rw [hop]; simp only [hr'])⟩
                · exact h.elim
              · exact h.elim
            | const v =>
              exfalso
              have : constD v ≠ some (.ptr id off) := fun e => by
                unfold constD at e
                split at e
                · rename_i cs
                  cases hc : constL constC cs.toList <;> rw [hc] at e <;> cases e
                · unfold constC at e
                  split at e <;> cases e
              simp only [ev] at hp
              cases hv : constD v with
              | none => rw [hv] at hp; cases hp
              | some d => rw [hv] at hp; simp only [Option.getD_some] at hp; rw [hp] at hv; exact this hv
            | global g =>
              exfalso
              simp only [ev] at hp
              split at hp <;> cases hp
            | func f => cases hp
          · exact h.elim
      · exact h.elim
    · exact h.elim
  · right
    split at h
    · rename_i g hg
      obtain ⟨g0, rfl, h0, rfl, hp⟩ := pureOf_spec hg
      split at h
      · rename_i d hd
        have := hC.pv _ _ d hp hd st.m
        rw [ix_mod F o.dst h0] at this
        simp only [ev, List.append_nil, h0]
        rw [down_run]
        simp only [ix_mod F o.dst h0]
        refine CallD.mono this ?_
        rintro r m' ⟨rfl, rfl⟩
        have e : (st.put o.dst r).setM st.m = st.put o.dst r := by
          cases o.dst <;> rfl
        rw [e]
        exact ⟨h, .inl (by rw [m_put]; exact sub_refl _)⟩
      · exact h.elim
    · split at h
      · rename_i g cap hf
        rw [hf]
        simp only
        split at h
        · rename_i hlt
          rw [hlt]
          obtain ⟨T, _, h2, h3⟩ := h
          simp only [down_run]
          exact (hC.run _ _ _ _ h2).mono fun r m hr => ⟨(h3 r m hr).2, .inl (h3 r m hr).1⟩
        · exact h.elim
      · exact h.elim
  · exact .inr (make_ h)
  · right
    unfold rowE at h
    unfold rowK
    split at h
    · rename_i d hd
      rw [hd]
      exact ⟨h, .inl (by rw [m_put]; exact sub_refl _)⟩
    · exact h.elim
  · exact .inl (hop ▸ pure_ (fun t' p' e => by rw [hop] at e; cases e) h)
  · exact .inl (hop ▸ pure_ (fun t' p' e => by rw [hop] at e; cases e) h)
  · exact .inl (hop ▸ pure_ (fun t' p' e => by rw [hop] at e; cases e) h)
  · rename_i t p i
    split at h
    · rename_i key off hr
      right
      split at h
      · rename_i n x hn hx
        simp only [doN, Eff.apply, hx] at h
        simp only [hr, hn, hx]
        exact ⟨h, .inl (sub_refl _)⟩
      · exact h.elim
    · exact .inl (hop ▸ pure_ (fun t' p' e => by rw [hop] at e; cases e) h)
  · rename_i p
    split at h
    · rename_i key off hr
      right
      split at h
      · rename_i x hx
        simp only [doN, Eff.apply, hx] at h
        simp only [hr, hx]
        exact ⟨h, .inl (sub_refl _)⟩
      · rename_i hx
        simp only [doN, Eff.apply] at h
        simp only [hr, hx]
        exact ⟨h, .inl (sub_refl _)⟩
    · exact .inl (hop ▸ pure_ (fun t' p' e => by rw [hop] at e; cases e) h)
  · split at h
    · rename_i hl
      exact .inl (hop ▸ pure_ (fun t' p' e => by rw [hop] at e; cases e; exact hl) h)
    · exact h.elim
  · exact .inr (make_ h)
  · split at h
    · rename_i hb; right; rw [hb]; exact make_ h
    · exact .inl (hop ▸ pure_ (fun t' p' e => by rw [hop] at e; cases e) h)
  all_goals first | exact .inl (hop ▸ pure_ (fun t' p' e => by rw [hop] at e; cases e) h) | exact h.elim

/-- What does not read memory sees no difference. -/
theorem pureD_mem {o : Oper} {m1 : Mem} (hk : (kindOf X.P C.pf F o).onMem = false) (hl : ∀ t p, o.op = .load t p → locOk F st p = true) : pureD X m0 st o.op = pureD X m1 st o.op := by
  obtain ⟨dst, op, ty, pos, af, gd⟩ := o
  cases op <;> first | rfl | skip
  case makeFunc f a b => cases f <;> rfl
  case convert s t x =>
    simp only [pureD]
    cases hb : bytesTy X.P s && isStr X.P t with
    | false => rfl
    | true =>
      exfalso
      simp only [Bool.and_eq_true] at hb
      have h2 : isStr X.P s = false := by
        have := hb.1
        unfold bytesTy sliceElem at this
        unfold isStr
        cases hu : X.P.underlying s with
        | none => rfl
        | some d => rw [hu] at this; cases d <;> first | rfl | cases this
      unfold kindOf at hk
      simp only [h2, hb.1, hb.2, Bool.false_and, Bool.and_self, Kd.onMem] at hk
      cases hk
  case slice t x lo hi mx => cases lo <;> cases hi <;> cases mx <;> rfl
  case call c =>
    obtain ⟨callee, args, tys⟩ := c
    cases callee <;> first | rfl | skip
    rename_i b
    cases b <;> rfl
  case load t p =>
    have h1 := eqR_spec (hl t p rfl)
    have h2 : regOf st p ≠ none := fun e => by
      rw [e] at h1
      have h1 := h1.elim (fun h => h.symm) (fun ⟨k', o', h1, _⟩ => by cases h1)
      unfold kindOf at hk
      simp only [h1, Kd.onMem] at hk
      cases hk
    cases p with
    | tmp x =>
      simp only [pureD, place]
      cases hx : st.lp x with
      | none => exact absurd hx h2
      | some ko => rfl
    | const v => exact absurd rfl h2
    | global g => exact absurd rfl h2
    | func f => exact absurd rfl h2

theorem todo_ok (hC : CallOk X C) (hB : B ≤ N) (hT0 : Tidy w0 S0) (hN : N ≤ w0.heap.size) (E0 : Ext N w0 S0 w S) (R : RelG X B w S) (A : RelA N w S st lb a) (hn : n ≤ a.tmps.size) {o : Oper} (hdst : ∀ x, o.dst = some x → x < n) (hs : Sub m0 st.m ∨ (kindOf X.P C.pf F o).onMem = false)
    {Q : Exit → Act → World → Prop} (h : doN C o.dst K st (effN0 X F C m0 o st)) : o.wp X.P a w (Conc X B N n w0 S0 fun s => ((Sub m0 st.m → Sub m0 s.m) ∨ kindOf X.P C.pf F o = .st) ∧ K s) Q := by
  rcases todo_step hC h with ⟨d, hd, hK, hl⟩ | hst
  · have hd' : pureD X S.m st o.op = some d ∨ Sub m0 S.m := by
      rcases hs with hs | hk
      · exact .inr (A.m ▸ hs)
      · exact .inl (by rw [← pureD_mem (m0 := m0) hk hl]; exact hd)
    rcases hd' with hd' | hm
    · obtain ⟨v, hr, hv⟩ := pure_ok R A (m0 := S.m) (fun _ _ h => h) hd'
      exact wp_value hr (conc_pure hT0 E0 R A hn hdst hv ⟨.inl fun h => by rw [m_put]; exact h, hK⟩)
    · obtain ⟨v, hr, hv⟩ := pure_ok R A (m0 := m0) hm hd
      exact wp_value hr (conc_pure hT0 E0 R A hn hdst hv ⟨.inl fun h => by rw [m_put]; exact h, hK⟩)
  · exact Oper.wp_mono (fun a w hc => hc.mono fun s hs' => ⟨hs'.2.imp (fun h1 h2 => h2.trans h1) id, hs'.1⟩) (step_ok (F := F) (down_ok hC) hB hT0 hN E0 R A hn hdst hst)

/-- All that the listed operations wait for is listed. -/
def Closed (ops : Array Oper) (listed : Array Bool) : Prop := ∀ j oj, ops[j]? = some oj → listed.getD j true = true → ∀ e ∈ oj.after, Region.binds .any e = true → listed.getD e.on false = true

theorem getD_tf {listed : Array Bool} {j : Nat} (h : listed.getD j false = true) : listed.getD j true = true := by
  simp only [Array.getD_eq_getD_getElem?] at h ⊢
  cases hx : listed[j]? with
  | none => rfl
  | some b => rw [hx] at h; exact h

theorem closed_set {listed : Array Bool} (hc : Closed ops listed) {i : Nat} (hi : i ∈ Region.ready .any ops listed) : Closed ops (listed.setIfInBounds i true) := fun j oj hj hl e he hb => by
  obtain ⟨_, o, ho, hall⟩ := mem_ready.1 hi
  by_cases hji : i = j
  · subst hji
    rw [ho] at hj; cases hj
    exact getD_set_true (hall e he hb)
  · rw [getD_set_ne true hji] at hl
    exact getD_set_true (hc j oj hj hl e he hb)

/-- W: what operation i waits for. -/
theorem waits_listed {i : Nat} {W : List Nat} (hW : ∀ w ∈ W, w = i ∨ ∃ w' ∈ W, w < w' ∧ ∃ o, ops[w']? = some o ∧ ∃ e ∈ o.after, Region.binds .any e = true ∧ e.on = w) (hi : ∀ w ∈ W, w ≤ i) {listed : Array Bool} (hc : Closed ops listed) (hr : i ∈ Region.ready .any ops listed) :
    ∀ (n w : Nat), w ∈ W → i - w = n → w = i ∨ listed.getD w false = true := by
  intro n
  induction n using Nat.strongRecOn with
  | _ n ih =>
    intro w hw hn
    rcases hW w hw with h | ⟨w', hw', hlt, o, ho, e, he, hb, rfl⟩
    · exact .inl h
    · right
      have hwi := hi w' hw'
      rcases ih (i - w') (by omega) w' hw' rfl with h | h
      · subst h
        obtain ⟨_, o2, ho2, hall⟩ := mem_ready.1 hr
        rw [ho] at ho2; cases ho2
        exact hall e he hb
      · exact hc w' o ho (getD_tf h) e he hb

theorem waitsOf_spec {i : Nat} : ∀ (j : Nat) (W : List Nat), (∀ w ∈ W, w = i ∨ ∃ w' ∈ W, w < w' ∧ ∃ o, ops[w']? = some o ∧ ∃ e ∈ o.after, Region.binds .any e = true ∧ e.on = w) → (∀ w ∈ W, j ≤ w ∧ w ≤ i) → j ≤ i →
    (∀ w ∈ waitsOf ops.toList j W, w = i ∨ ∃ w' ∈ waitsOf ops.toList j W, w < w' ∧ ∃ o, ops[w']? = some o ∧ ∃ e ∈ o.after, Region.binds .any e = true ∧ e.on = w) ∧ (∀ w ∈ waitsOf ops.toList j W, w ≤ i)
  | 0, W, h1, h2, _ => ⟨h1, fun w hw => (h2 w hw).2⟩
  | j + 1, W, h1, h2, hj => by
    simp only [waitsOf]
    split
    · rename_i ha
      rw [List.any_eq_true] at ha
      obtain ⟨⟨o, k⟩, hm, hc⟩ := ha
      simp only [Bool.and_eq_true] at hc
      have hk := memB_spec hc.1
      obtain ⟨e, he, hb, hon⟩ := edgeTo_spec hc.2
      have hon : e.on = j := by simpa using hon
      have ho : ops[k]? = some o := by
        have := List.mk_mem_zipIdx_iff_getElem?.1 hm
        simpa using this
      have hjk := h2 k hk
      refine waitsOf_spec j (j :: W) (fun w hw => ?_) (fun w hw => ?_) (by omega)
      · rcases List.mem_cons.1 hw with rfl | hw
        · exact .inr ⟨k, List.mem_cons_of_mem _ hk, by omega, o, ho, e, he, hb, hon⟩
        · rcases h1 w hw with h | ⟨w', h3, h4⟩
          · exact .inl h
          · exact .inr ⟨w', List.mem_cons_of_mem _ h3, h4⟩
      · rcases List.mem_cons.1 hw with rfl | hw
        · exact ⟨Nat.le_refl _, by omega⟩
        · have := h2 w hw; exact ⟨by omega, this.2⟩
    · exact waitsOf_spec j W h1 (fun w hw => by have := h2 w hw; exact ⟨by omega, this.2⟩) (by omega)

theorem stOk_spec : ∀ (l : List Oper) (k : Nat), stOk X.P C.pf F ops.toList l k = true → ∀ j o, l[j]? = some o → kindOf X.P C.pf F o = .st →
    ∀ i oi, ops[i]? = some oi → (kindOf X.P C.pf F oi).onMem = true → i = k + j ∨ memB (waitsOf ops.toList (k + j) [k + j]) i = true
  | [], _, _, j, o, h, _ => by simp at h
  | p :: r, k, h, 0, o, ho, hk => fun i oi hi hm => by
    simp only [stOk, Bool.and_eq_true] at h
    simp at ho; subst ho
    have h1 := h.1
    rw [hk] at h1
    simp only [List.all_eq_true] at h1
    have hmem : (oi, i) ∈ ops.toList.zipIdx := List.mk_mem_zipIdx_iff_getElem?.2 (by simpa using hi)
    have := h1 _ hmem
    simp only [hm, Bool.not_true, Bool.false_or, Bool.or_eq_true] at this
    rcases this with h2 | h2
    · exact .inl (Nat.eq_of_beq_eq_true h2)
    · exact .inr h2
  | p :: r, k, h, j + 1, o, ho, hk => fun i oi hi hm => by
    simp only [stOk, Bool.and_eq_true] at h
    have := stOk_spec r (k + 1) h.2 j o (by simpa using ho) hk i oi hi hm
    rw [show k + (j + 1) = k + 1 + j by omega]
    exact this

/-- When memory is written, whatever touches memory is done. -/
theorem st_ready (hst : stOk X.P C.pf F ops.toList ops.toList 0 = true) {listed : Array Bool} (hc : Closed ops listed) {i : Nat} {o : Oper} (hi : i ∈ Region.ready .any ops listed) (ho : ops[i]? = some o) (hk : kindOf X.P C.pf F o = .st) :
    ∀ j oj, ops[j]? = some oj → (listed.setIfInBounds i true).getD j true = false → (kindOf X.P C.pf F oj).onMem = false := fun j oj hj hl => by
  cases hm : (kindOf X.P C.pf F oj).onMem with
  | false => rfl
  | true =>
    exfalso
    have h1 := stOk_spec (C := C) (F := F) (X := X) ops.toList 0 hst i o (by simpa using ho) hk j oj hj hm
    rw [Nat.zero_add] at h1
    have hw := waitsOf_spec (ops := ops) (i := i) i [i] (fun w hw => .inl (by simpa using hw)) (fun w hw => by simp at hw; omega) (Nat.le_refl _)
    have h2 : j = i ∨ listed.getD j false = true := by
      rcases h1 with h1 | h1
      · exact .inl h1
      · exact waits_listed hw.1 hw.2 hc hi (i - j) j (memB_spec h1) rfl
    rcases h2 with rfl | h2
    · obtain ⟨h0, _⟩ := mem_ready.1 hi
      simp only [Array.getD_eq_getD_getElem?] at hl h0
      by_cases hlt : j < listed.size
      · simp [hlt] at hl
      · simp [Array.getElem?_eq_none (by omega : listed.size ≤ j)] at h0
    · by_cases hji : i = j
      · subst hji
        obtain ⟨h0, _⟩ := mem_ready.1 hi
        rw [getD_tf h2] at h0; cases h0
      · rw [getD_set_ne true hji, getD_tf h2] at hl; cases hl

theorem any_ok (hC : CallOk X C) (hB : B ≤ N) (hst : stOk X.P C.pf F ops.toList ops.toList 0 = true) (hT0 : Tidy w0 S0) (hN : N ≤ w0.heap.size) (hdst : ∀ o ∈ ops.toList, ∀ x, o.dst = some x → x < n) {Q : Exit → Act → World → Prop} (hQ : ∀ a w, Conc X B N n w0 S0 K a w → Q .normal a w) :
    ∀ (fuel : Nat) (listed : Array Bool) (a : Act) (w : World), Closed ops listed → Conc X B N n w0 S0 (fun st => (Sub m0 st.m ∨ ∀ j oj, ops[j]? = some oj → listed.getD j true = false → (kindOf X.P C.pf F oj).onMem = false) ∧ anyN X F C m0 ops K fuel listed st) a w → wpAny X.P .any ops Q fuel listed a w
  | 0, listed, a, w, _, h => by
    have hr : Region.ready .any ops listed = [] := by obtain ⟨st, S, lb, h1, _⟩ := h; exact h1.2.1
    exact ⟨hr, hQ _ _ (h.mono fun s hs => hs.2.2)⟩
  | fuel + 1, listed, a, w, hcl, h => by
    refine ⟨fun hr => hQ _ _ (h.mono fun s hs => hs.2.1 hr), fun i hi => ?_⟩
    obtain ⟨hun, o, ho, _⟩ := mem_ready.1 hi
    obtain ⟨st, S, lb, ⟨hs, h1⟩, R, A, E, hn⟩ := h
    have hd := h1.2 i hi o ho
    have hmem : o ∈ ops.toList := by
      have : ops.toList[i]? = some o := by simpa using ho
      exact List.mem_of_getElem? this
    have hdo := hdst o hmem
    have hcl' := closed_set hcl hi
    have ih := any_ok hC hB hst hT0 hN hdst hQ fuel (listed.setIfInBounds i true)
    have later : ∀ {m : Mem}, (Sub m0 st.m → Sub m0 m) → (Sub m0 m ∨ ∀ j oj, ops[j]? = some oj → (listed.setIfInBounds i true).getD j true = false → (kindOf X.P C.pf F oj).onMem = false) := fun hm => by
      rcases hs with hs | hs
      · exact .inl (hm hs)
      · refine .inr fun j oj hj hl => hs j oj hj ?_
        by_cases hji : i = j
        · subst hji; exact hun
        · rw [getD_set_ne true hji] at hl; exact hl
    unfold wpOp
    simp only [ho]
    have run : doN C o.dst (anyN X F C m0 ops K fuel (listed.setIfInBounds i true)) st (effN0 X F C m0 o st) → o.wp X.P a w (wpAny X.P .any ops Q fuel (listed.setIfInBounds i true)) Q := fun hh =>
      Oper.wp_mono (fun a w hc => ih a w hcl' (hc.mono fun s ⟨h2, h3⟩ => ⟨h2.elim (fun h2 => later h2) (fun h2 => .inr (st_ready hst hcl hi ho h2)), h3⟩)) (todo_ok hC hB hT0 hN E R A hn hdo (hs.imp id fun hs => hs i o ho hun) hh)
    have skip : anyN X F C m0 ops K fuel (listed.setIfInBounds i true) (st.put o.dst (.tuple [])) → wpAny X.P .any ops Q fuel (listed.setIfInBounds i true) (a.put o.dst undef) w := fun hh =>
      ih _ _ hcl' (conc_pure hT0 E R A hn hdo (HasV.tuple [] #[] rfl (fun j c v hc => by simp at hc)) ⟨later (by rw [m_put]; exact id), hh⟩)
    unfold effN at hd
    cases hg : o.guard with
    | none =>
      rw [hg] at hd
      simp only [Region.wanted, hg, if_true]
      exact .inl (run hd)
    | some jw =>
      obtain ⟨j, want⟩ := jw
      rw [hg] at hd
      simp only at hd
      simp only [Region.wanted, hg]
      split at hd
      · rename_i b hb
        have hy := guard_ok A hb
        rw [hy]
        split at hd
        · rename_i he
          have : b = want := by cases b <;> cases want <;> simp [eqB] at he ⊢
          subst this
          simp only [beq_self_eq_true, if_true]
          exact .inl (run hd)
        · rename_i he
          have : ((some b : Option Bool) == some want) = false := by cases b <;> cases want <;> simp [eqB] at he ⊢
          simp only [this, Bool.false_eq_true, if_false]
          exact skip hd
      · rename_i hb
        have hy := guard_ok A hb
        rw [hy]
        simp only [show ((none : Option Bool) == some want) = false from rfl, Bool.false_eq_true, if_false]
        exact skip hd
      · exact hd.elim

theorem RelA.wf (A : RelA N w S st lb a) : WfR st := fun x k off h => by
  have := (A.regs x k off h).2
  intro e; rw [e] at this; cases this

theorem regionN_ok (hC : CallOk X C) (hB : B ≤ N) (hT0 : Tidy w0 S0) (hN : N ≤ w0.heap.size) {id : Nat} (hdst : ∀ o ∈ ops.toList, ∀ x, o.dst = some x → x < n) {Q : Exit → Act → World → Prop} (hQ : ∀ a w, Conc X B N n w0 S0 K a w → Q .normal a w)
    (hl : lexOk X.P C.pf F ops = true) (h : Conc X B N n w0 S0 (fun st => wpOpsN X F C st.m ops.toList ops.toList K st) a w) : (Code.region id ops true).wp X.P Q a w := by
  simp only [lexOk, Bool.and_eq_true] at hl
  obtain ⟨l1, l3, l4⟩ := hl
  obtain ⟨st, S, lb, h1, R, A, E, hn⟩ := h
  have hany := any_lex (C := C) (F := F) ops.toList 0 (Array.replicate ops.size false) st A.wf (fun j => by simp) l3 (fun j hj => by simp [hj]) h1
  refine wp_region_any l1 ?_
  have ED : Ext N w S w.drew S := Ext.ofHeap rfl rfl rfl rfl
  have T : Step X B N w S w.drew S := ⟨R.ofHeap rfl rfl rfl rfl, ED, fun _ _ => rfl, fun _ h => h⟩
  have A' := A.step R.tidy T
  rw [setM_self A] at A'
  have hcl : Closed ops (Array.replicate ops.size false) := fun j oj hj hl => by
    have hlt := (Array.getElem?_eq_some_iff.1 hj).1
    simp [hlt] at hl
  exact any_ok hC hB l4 (m0 := st.m) (F := F) hT0 hN hdst hQ ops.size (Array.replicate ops.size false) a w.drew hcl ⟨st, S, lb, ⟨.inl (sub_refl _), by simpa using hany⟩, T.rel, A', E.trans hT0 ED, hn⟩
end
end Go.Eng
