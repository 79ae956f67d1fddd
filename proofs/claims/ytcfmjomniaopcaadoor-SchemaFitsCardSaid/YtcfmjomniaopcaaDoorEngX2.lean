/- Part of the engine that proves it: see the last text. -/
import Derived.Test.YtcfmjomniaopcaaDoorEngX
/- What an operation does hangs on what it looks at. -/
namespace Go.Eng
open Go

/-- The two states look alike to the operation. -/
structure Agree (X : Ctx) (F : Fi) (C : CallW) (ops : Array Oper) (o : Oper) (st st' : St) : Prop where
  sl : ∀ t ∈ o.looksAt ops, st.sl t = st'.sl t
  lp : ∀ t ∈ o.looksAt ops, st.lp t = st'.lp t
  bx : ∀ k, (kindOf X.P C.pf F o = .rd k ∨ kindOf X.P C.pf F o = .rdm ∧ memB F.cap k = true) → (∃ t off, st.lp t = some (k, off)) → st.bx k = st'.bx k
  bl : ∀ k, ((∃ off n, kindOf X.P C.pf F o = .wr k off n) ∨ kindOf X.P C.pf F o = .st ∧ memB F.cap k = true) → (∃ t off, st.lp t = some (k, off)) → (st.bx k).map (·.length) = (st'.bx k).map (·.length)
  nb : kindOf X.P C.pf F o = .make → ∀ x, o.dst = some x → (st.bx x = none ↔ st'.bx x = none)
  m : (kindOf X.P C.pf F o = .mem ∨ kindOf X.P C.pf F o = .st) → st.m = st'.m

section
variable {X : Ctx} {F : Fi} {C : CallW} {m0 : Mem} {st st' : St} {ops : Array Oper} {o : Oper}

theorem mem_looks {t : Nat} (h : Operand.tmp t ∈ o.op.operands) : t ∈ o.looksAt ops :=
  List.mem_append_left _ (List.mem_filterMap.2 ⟨.tmp t, by simpa using h, rfl⟩)

theorem Agree.ev (h : Agree X F C ops o st st') {x : Operand} (hx : x ∈ o.op.operands) : ev X st x = ev X st' x := by
  cases x with
  | tmp t => exact h.sl t (mem_looks hx)
  | const v => rfl
  | global g => rfl
  | func f => rfl

theorem Agree.reg (h : Agree X F C ops o st st') {x : Operand} (hx : x ∈ o.op.operands) : regOf st x = regOf st' x := by
  cases x with
  | tmp t => exact h.lp t (mem_looks hx)
  | const v => rfl
  | global g => rfl
  | func f => rfl

theorem argsD_congr : ∀ (l : List Operand), (∀ x ∈ l, ev X st x = ev X st' x) → argsD X st l = argsD X st' l
  | [], _ => rfl
  | x :: r, h => by
    simp only [argsD]
    rw [h x (List.mem_cons_self ..), argsD_congr r (fun y hy => h y (List.mem_cons_of_mem _ hy))]

theorem partsD_congr : ∀ (l : List (Nat × Operand)), (∀ x ∈ l, ev X st x.2 = ev X st' x.2) → partsD X st l = partsD X st' l
  | [], _ => rfl
  | x :: r, h => by
    obtain ⟨i, x⟩ := x
    simp only [partsD]
    rw [h (i, x) (List.mem_cons_self ..), partsD_congr r (fun y hy => h y (List.mem_cons_of_mem _ hy))]

theorem optI_congr {z : Option Int} {x : Option Operand} (h : ∀ y, x = some y → ev X st y = ev X st' y) : optI X st z x = optI X st' z x := by
  cases x with
  | none => rfl
  | some y => simp only [optI]; rw [h y rfl]

theorem pureD_congr (h : Agree X F C ops o st st') (hp : ∀ t p, o.op = .load t p → place X m0 st p = place X m0 st' p) : pureD X m0 st o.op = pureD X m0 st' o.op := by
  have ev_ := fun x hx => h.ev (x := x) hx
  obtain ⟨dst, op, ty, pos, af, gd⟩ := o
  cases op <;> simp only [Op.operands] at ev_ <;> first | rfl | skip
  case move x => simp only [pureD]; rw [ev_ x (by simp)]
  case assign x => simp only [pureD]; rw [ev_ x (by simp)]
  case pick c x y => simp only [pureD]; rw [ev_ c (by simp), ev_ x (by simp), ev_ y (by simp)]
  case load t p => simp only [pureD]; rw [hp t p rfl]
  case nilCheck x => simp only [pureD]; rw [ev_ x (by simp)]
  case binOp op t x y u => simp only [pureD]; rw [ev_ x (by simp), ev_ y (by simp)]
  case unOp op t x => simp only [pureD]; rw [ev_ x (by simp)]
  case convert s t x => simp only [pureD]; rw [ev_ x (by simp)]
  case makeFunc f a b =>
    cases f <;> first | rfl | skip
    simp only [pureD]
    have : b.toList.map (ev X st) = b.toList.map (ev X st') := List.map_congr_left fun x hx => ev_ x (by simp; right; simpa using hx)
    rw [this]
  case field t x i => simp only [pureD]; rw [ev_ x (by simp)]
  case build t ps =>
    simp only [pureD]
    rw [partsD_congr ps.toList (fun x hx => ev_ x.2 (by simp; exact ⟨x.1, by simpa using hx⟩))]
  case fieldAddr t x i => simp only [pureD]; rw [ev_ x (by simp)]
  case indexAddr t x i => simp only [pureD]; rw [ev_ x (by simp), ev_ i (by simp)]
  case index t x i => simp only [pureD]; rw [ev_ x (by simp), ev_ i (by simp)]
  case extract x i => simp only [pureD]; rw [ev_ x (by simp)]
  case slice t x lo hi mx =>
    have hx := ev_ x (by simp)
    have hlo : ∀ z, optI X st z lo = optI X st' z lo := fun z => optI_congr fun y hy => ev_ y (by subst hy; simp)
    have hhi : ∀ z, optI X st z hi = optI X st' z hi := fun z => optI_congr fun y hy => ev_ y (by subst hy; simp)
    cases mx with
    | none => simp only [pureD, hx, hlo, hhi]
    | some m =>
      cases lo with
      | some l => rfl
      | none =>
        cases hi with
        | none => rfl
        | some hh =>
          simp only [pureD]
          rw [hx, ev_ hh (by simp), ev_ m (by simp)]
  case call c =>
    obtain ⟨callee, args, tys⟩ := c
    cases callee <;> first | rfl | skip
    rename_i b
    have two : ∀ (lo : Bool), (match args.toList with | x :: r => minL lo (ev X st x) (r.map (ev X st)) | _ => none) = (match args.toList with | x :: r => minL lo (ev X st' x) (r.map (ev X st')) | _ => none) := fun lo => by
      split
      · rename_i x r hx
        have hm : ∀ y ∈ x :: r, ev X st y = ev X st' y := fun y hy => ev_ y (by simp [Call.operands]; rw [← hx] at hy; simpa using hy)
        rw [hm x (List.mem_cons_self ..), List.map_congr_left fun y hy => hm y (List.mem_cons_of_mem _ hy)]
      · rfl
    cases b <;> first | rfl | exact two true | exact two false | skip
    simp only [pureD]
    split
    · rename_i x t hx ht
      have : x ∈ args := by
        have : x ∈ args.toList := by rw [hx]; simp
        simpa using this
      rw [ev_ x (by simp [Call.operands]; exact this)]
    · rfl

theorem makeD_congr (h : Agree X F C ops o st st') (bx : Bool) (m : Mem) : makeD X bx m st o.op = makeD X bx m st' o.op := by
  have ev_ := fun x hx => h.ev (x := x) hx
  obtain ⟨dst, op, ty, pos, af, gd⟩ := o
  cases op <;> simp only [Op.operands] at ev_ <;> first | rfl | skip
  case convert s t x => simp only [makeD]; rw [ev_ x (by simp)]
  case makeSlice t l c => simp only [makeD]; rw [ev_ l (by simp), ev_ c (by simp)]
  case call c =>
    obtain ⟨callee, args, tys⟩ := c
    cases callee <;> first | rfl | skip
    rename_i b
    cases b <;> first | rfl | skip
    simp only [makeD]
    split
    · rename_i s x t u hs ht
      have m1 : s ∈ args := by
        have : s ∈ args.toList := by rw [hs]; simp
        simpa using this
      have m2 : x ∈ args := by
        have : x ∈ args.toList := by rw [hs]; simp
        simpa using this
      rw [ev_ s (by simp [Call.operands]; exact m1), ev_ x (by simp [Call.operands]; exact m2)]
    · rfl

theorem rowD_congr (h : Agree X F C ops o st st') : rowD X st o.op = rowD X st' o.op := by
  have ev_ := fun x hx => h.ev (x := x) hx
  obtain ⟨dst, op, ty, pos, af, gd⟩ := o
  cases op <;> simp only [Op.operands] at ev_ <;> first | rfl | skip
  case buildSlice t n ps =>
    simp only [rowD]
    rw [partsD_congr ps.toList (fun x hx => ev_ x.2 (by simp; exact ⟨x.1, by simpa using hx⟩))]

theorem eqR_spec {a b : Option (Nat × Nat)} (h : eqR F a b = true) : a = b ∨ ∃ k o, a = some (k, o) ∧ b = none ∧ memB F.cap k = true := by
  unfold eqR at h
  split at h
  · exact .inl rfl
  · simp only [Bool.and_eq_true, decide_eq_true_eq] at h; rw [h.1, h.2]; exact .inl rfl
  · exact .inr ⟨_, _, rfl, rfl, h⟩
  · cases h

theorem effN0_congr (h : Agree X F C ops o st st') : effN0 X F C m0 o st = effN0 X F C m0 o st' := by
  have ev_ := fun x hx => h.ev (x := x) hx
  have reg_ := fun x hx => h.reg (x := x) hx
  have pure_ := fun hp => pureD_congr (m0 := m0) h hp
  have make_ := fun bx m => makeD_congr h bx m
  have bx_ := h.bx
  have bl_ := h.bl
  have nb_ := h.nb
  have m_ := h.m
  have looks := fun t ht => mem_looks (ops := ops) (o := o) (t := t) ht
  obtain ⟨dst, op, ty, pos, af, gd⟩ := o
  have alloc_ : ∀ cs, kindOf X.P C.pf F (⟨dst, op, ty, pos, af, gd⟩ : Oper) = (match dst with | some x => (match memB F.esc x with | true => .mem | false => .make) | none => .make) → allocE F ⟨dst, op, ty, pos, af, gd⟩ cs st = allocE F ⟨dst, op, ty, pos, af, gd⟩ cs st' := fun cs hk => by
    unfold allocE
    cases dst with
    | none => rfl
    | some x =>
      simp only at hk ⊢
      cases he : memB F.esc x with
      | true =>
        rw [he] at hk
        rw [m_ (.inl hk)]
      | false =>
        rw [he] at hk
        have hn := nb_ hk x rfl
        cases h1 : st.bx x with
        | none => rw [hn.1 h1]
        | some c =>
          cases h2 : st'.bx x with
          | none => rw [hn.2 h2] at h1; cases h1
          | some c' => rfl
  cases op <;> simp only [Op.operands] at ev_ reg_ looks <;> first | rfl | (simp only [effN0, pureE]; rw [pure_ (fun _ _ e => by cases e)]; done) | skip
  case alloc t =>
    simp only [effN0]
    split
    · exact alloc_ _ rfl
    · rfl
  case box t v =>
    simp only [effN0]
    rw [ev_ v (by simp)]
    split
    · split
      · exact alloc_ _ rfl
      · rfl
    · rfl
  case buildSlice t n ps =>
    have := rowD_congr h
    simp only [effN0, rowE]
    rw [this]
  case convert s t x =>
    simp only [effN0]
    cases hb : isStr X.P s && bytesTy X.P t with
    | true => simp only [makeE]; rw [m_ (.inl (by unfold kindOf; simp only [hb])), make_]
    | false => simp only [pureE]; rw [pure_ (fun _ _ e => by cases e)]
  case makeSlice t l c => simp only [effN0, makeE]; rw [m_ (.inl rfl), make_]
  case load t p =>
    have hl : locOk F st p = locOk F st' p := by unfold locOk; rw [reg_ p (by simp)]
    simp only [effN0]
    rw [← hl]
    cases hl' : locOk F st p with
    | false => rfl
    | true =>
      simp only [pureE]
      rw [pure_ fun t' p' e => ?_]
      cases e
      have hr := eqR_spec hl'
      cases p with
      | tmp x =>
        have h1 : st.lp x = st'.lp x := reg_ (.tmp x) (by simp)
        have h2 : st.sl x = st'.sl x := ev_ (.tmp x) (by simp)
        simp only [place, ← h1, ← h2]
        cases hx : st.lp x with
        | none => rfl
        | some ko =>
          obtain ⟨k, off⟩ := ko
          simp only
          have hkk : kindOf X.P C.pf F (⟨dst, .load t (.tmp x), ty, pos, af, gd⟩ : Oper) = .rd k ∨ kindOf X.P C.pf F (⟨dst, .load t (.tmp x), ty, pos, af, gd⟩ : Oper) = .rdm ∧ memB F.cap k = true := by
            rcases hr with hr | ⟨k', o', h1, h2, h3⟩
            · left
              have hk : locOf F (.tmp x) = some (k, off) := by rw [← hr]; exact hx
              unfold kindOf; simp only [hk]
            · right
              have e : some (k', o') = some (k, off) := h1.symm.trans hx
              cases e
              exact ⟨by unfold kindOf; simp only [h2], h3⟩
          rw [bx_ k hkk ⟨x, off, hx⟩]
      | const v => simp only [place]; rw [ev_ (.const v) (by simp)]
      | global g => simp only [place]; rw [ev_ (.global g) (by simp)]
      | func f => simp only [place]; rw [ev_ (.func f) (by simp)]
  case store t p v =>
    have hl : locOk F st p = locOk F st' p := by unfold locOk; rw [reg_ p (by simp)]
    simp only [effN0]
    cases dst with
    | some x => rfl
    | none =>
      simp only [storeE]
      rw [← hl, ← reg_ p (by simp), ← ev_ v (by simp), ← ev_ p (by simp)]
      cases hl' : locOk F st p with
      | false => rfl
      | true =>
        simp only
        have hr' := eqR_spec hl'
        cases hr : regOf st p with
        | none =>
          simp only
          rw [hr] at hr'
          have hr' : locOf F p = none := by
            rcases hr' with hr' | ⟨k', o', h1, _⟩
            · exact hr'.symm
            · cases h1
          rw [m_ (.inr (by unfold kindOf; simp only [hr']))]
        | some ko =>
          obtain ⟨k, off⟩ := ko
          simp only
          rw [hr] at hr'
          cases hn : szOf X.P t with
          | none => cases st.bx k <;> cases st'.bx k <;> rfl
          | some n =>
            have hreg : ∃ t off, st.lp t = some (k, off) := by
              cases p with
              | tmp x => exact ⟨x, off, hr⟩
              | const v => cases hr
              | global g => cases hr
              | func f => cases hr
            have hb := bl_ k (by
              rcases hr' with hr' | ⟨k', o', h1, h2, h3⟩
              · exact .inl ⟨off, n, by unfold kindOf; simp only [← hr', hn]⟩
              · cases h1
                exact .inr ⟨by unfold kindOf; simp only [h2], h3⟩) hreg
            cases h1 : st.bx k <;> cases h2 : st'.bx k <;> rw [h1, h2] at hb <;> simp only [Option.map_some, Option.map_none, reduceCtorEq, Option.some.injEq] at hb
            simp only [hb]
  case nilCheck x =>
    simp only [effN0]
    rw [← reg_ x (by simp)]
    split
    · rfl
    · simp only [pureE]; rw [pure_ (fun _ _ e => by cases e)]
  case fieldAddr t x i =>
    simp only [effN0]
    rw [← reg_ x (by simp)]
    split
    · rfl
    · simp only [pureE]; rw [pure_ (fun _ _ e => by cases e)]
  case call c =>
    obtain ⟨callee, args, tys⟩ := c
    cases callee with
    | value f =>
      simp only [effN0]
      rw [← ev_ f (by simp [Call.operands]), ← argsD_congr args.toList (fun x hx => ev_ x (by simp [Call.operands]; right; simpa using hx))]
    | invoke r m => rfl
    | builtin b =>
      cases b <;> first | rfl | (simp only [effN0, pureE]; rw [pure_ (fun _ _ e => by cases e)]; done) | skip
      simp only [effN0, makeE]; rw [m_ (.inl rfl), make_]

theorem guardI_congr (h : Agree X F C ops o st st') {j : Nat} {want : Bool} (hg : o.guard = some (j, want)) : guardI ops.toList st j = guardI ops.toList st' j := by
  have hd := dstFrom_spec ops.toList 0 j
  rw [Nat.zero_add] at hd
  unfold guardI
  rw [hd]
  have e : ops.toList[j]? = ops[j]? := by simp
  rw [e]
  cases hx : (ops[j]?).bind (·.dst) with
  | none => rfl
  | some x =>
    simp only
    rw [h.sl x (List.mem_append_right _ (by rw [hg]; simp [hx]))]

theorem effN_congr (h : Agree X F C ops o st st') : effN X F C m0 ops.toList o st = effN X F C m0 ops.toList o st' := by
  unfold effN
  cases hg : o.guard with
  | none => exact effN0_congr h
  | some jw =>
    obtain ⟨j, want⟩ := jw
    simp only
    rw [guardI_congr h hg, effN0_congr h]
end
end Go.Eng
