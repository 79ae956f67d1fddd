/- Part of the engine that proves it: see the last text. -/
import Derived.Test.YtcfmjomniaopcaaDoorEngW2
/- Regions whose order is open: what an operation does, as a thing of its own. -/
namespace Go.Eng
open Go

inductive Eff where
  | put (d : D)
  | putM (d : D) (m : Mem)
  | putL (k o : Nat)
  | stay
  | newBox (cs : List D)
  | wr (k off : Nat) (ds : List D)
  | setM (m : Mem)

def Eff.apply (dst : Option Nat) (e : Eff) (st : St) : St :=
  match e with
  | .put d => st.put dst d
  | .putM d m => (st.put dst d).setM m
  | .putL k o => match dst with | some x => st.putL x k o | none => st
  | .stay => st
  | .newBox cs => match dst with | some x => st.newBox x cs | none => st
  | .wr k off ds => ⟨st.sl, st.lp, (match st.bx k with | some cs => upd st.bx k (some (setRow cs off ds)) | none => st.bx), st.m⟩
  | .setM m => st.setM m

inductive Todo where
  | eff (e : Eff)
  | call (g : Nat) (ds : List D)

def pureE (X : Ctx) (m0 : Mem) (o : Oper) (st : St) : Option Todo :=
  match pureD X m0 st o.op with
  | some d => some (.eff (.put d))
  | none => none
def makeE (X : Ctx) (F : Fi) (o : Oper) (st : St) : Option Todo :=
  match makeD X (mkB F o.dst) st.m st o.op with
  | some (d, m) => some (.eff (.putM d m))
  | none => none
def rowE (X : Ctx) (o : Oper) (st : St) : Option Todo :=
  match rowD X st o.op with
  | some d => some (.eff (.put d))
  | none => none
def allocE (F : Fi) (o : Oper) (cs : List D) (st : St) : Option Todo :=
  match o.dst with
  | some x => match memB F.esc x with
    | true => some (.eff (.putM (.ptr st.m.boxes.length 0) { st.m with boxes := st.m.boxes ++ [cs] }))
    | false => match st.bx x with
      | none => some (.eff (.newBox cs))
      | some _ => none
  | none => none
def storeE (X : Ctx) (F : Fi) (t : Nat) (p v : Operand) (st : St) : Option Todo :=
  match locOk F st p with
  | true => match regOf st p with
    | some (key, off) => match st.bx key, szOf X.P t with
      | some cs, some n => match (ev X st v).okC && decide ((ev X st v).cells.length = n) && decide (off + n ≤ cs.length) with
        | true => some (.eff (.wr key off (ev X st v).cells))
        | false => none
      | _, _ => none
    | none => match ev X st p with
      | .ptr id off => match st.m.boxes[id]?, szOf X.P t with
        | some cs, some n => match (ev X st v).okC && decide ((ev X st v).cells.length = n) && decide (off + n ≤ cs.length) with
          | true => some (.eff (.setM { st.m with boxes := st.m.boxes.set id (setRow cs off (ev X st v).cells) }))
          | false => none
        | _, _ => none
      | _ => none
  | false => none

def effN0 (X : Ctx) (F : Fi) (C : CallW) (m0 : Mem) (o : Oper) (st : St) : Option Todo :=
  match o.op with
  | .alloc t => match zeroD X.P t with | some z => allocE F o z.cells st | none => none
  | .box t v => match szOf X.P t with
    | some n => match (ev X st v).okC && decide ((ev X st v).cells.length = n) with | true => allocE F o (ev X st v).cells st | false => none
    | none => none
  | .store t p v => match o.dst with | none => storeE X F t p v st | some _ => none
  | .call { callee := .value f, args, argTypes := _ } => match pureOf C.pf F o.dst f with
    | some g => match C.pv g (argsD X st args.toList) with
      | some d => some (.eff (.put d))
      | none => none
    | none => match ev X st f with
      | .func g cap => match decide (g < 100000) with
        | true => some (.call (ix F o.dst g) (argsD X st args.toList ++ cap))
        | false => none
      | _ => none
  | .call { callee := .builtin .append, args := _, argTypes := _ } => makeE X F o st
  | .buildSlice _ _ _ => rowE X o st
  | .call { callee := .builtin .len, args := _, argTypes := _ } | .call { callee := .builtin .min, args := _, argTypes := _ } | .call { callee := .builtin .max, args := _, argTypes := _ } => pureE X m0 o st
  | .fieldAddr t p i => match regOf st p with
    | some (key, off) => match fieldOff X.P t i, o.dst with
      | some n, some _ => some (.eff (.putL key (off + n)))
      | _, _ => none
    | none => pureE X m0 o st
  | .nilCheck p => match regOf st p with
    | some (key, off) => match o.dst with
      | some _ => some (.eff (.putL key off))
      | none => some (.eff .stay)
    | none => pureE X m0 o st
  | .load _ p => match locOk F st p with
    | true => pureE X m0 o st
    | false => none
  | .makeSlice _ _ _ => makeE X F o st
  | .convert s d _ => match isStr X.P s && bytesTy X.P d with
    | true => makeE X F o st
    | false => pureE X m0 o st
  | .move _ | .assign _ | .pick _ _ _ | .binOp _ _ _ _ _ | .unOp _ _ _ | .makeFunc _ _ _ | .field _ _ _ | .build _ _
  | .indexAddr _ _ _ | .index _ _ _ | .extract _ _ | .slice _ _ _ _ _ => pureE X m0 o st
  | _ => none

def effN (X : Ctx) (F : Fi) (C : CallW) (m0 : Mem) (all : List Oper) (o : Oper) (st : St) : Option Todo :=
  match o.guard with
  | none => effN0 X F C m0 o st
  | some (j, want) => match guardI all st j with
    | some (some b) => (match eqB want b with
      | true => effN0 X F C m0 o st
      | false => some (.eff (.put (.tuple []))))
    | some none => some (.eff (.put (.tuple [])))
    | none => none

def doN (C : CallW) (dst : Option Nat) (K : St → Prop) (st : St) : Option Todo → Prop
  | some (.eff e) => K (e.apply dst st)
  | some (.call g ds) => callN C g ds dst K st
  | none => False

section
variable {X : Ctx} {F : Fi} {C : CallW} {m0 : Mem} {K : St → Prop} {st : St}

theorem pureE_do (o : Oper) : pureN X m0 o K st → doN C o.dst K st (pureE X m0 o st) := by
  unfold pureN pureE; cases pureD X m0 st o.op <;> exact id
theorem makeE_do (o : Oper) : makeK X F o K st → doN C o.dst K st (makeE X F o st) := by
  unfold makeK makeE; cases makeD X (mkB F o.dst) st.m st o.op <;> exact id
theorem rowE_do (o : Oper) : rowK X o K st → doN C o.dst K st (rowE X o st) := by
  unfold rowK rowE; cases rowD X st o.op <;> exact id
theorem allocE_do (o : Oper) (cs : List D) : allocN F o cs K st → doN C o.dst K st (allocE F o cs st) := by
  unfold allocN allocE
  cases hd : o.dst with
  | none => exact id
  | some x =>
    simp only
    cases memB F.esc x with
    | true => exact id
    | false => cases st.bx x <;> exact id
theorem storeE_do (o : Oper) (t : Nat) (p v : Operand) : storeN X F t p v K st → doN C o.dst K st (storeE X F t p v st) := by
  unfold storeN storeE
  cases locOk F st p with
  | false => exact id
  | true =>
    simp only
    cases regOf st p with
    | none =>
      simp only
      generalize ev X st p = pv
      cases pv <;> first | exact id | skip
      rename_i id off
      simp only
      cases st.m.boxes[id]? <;> cases szOf X.P t <;> intro h <;> first | exact h.elim | skip
      rename_i cs n
      simp only at h ⊢
      cases hb : ((ev X st v).okC && decide ((ev X st v).cells.length = n) && decide (off + n ≤ cs.length)) <;> rw [hb] at h <;> first | exact h.elim | exact h
    | some ko =>
      obtain ⟨key, off⟩ := ko
      simp only
      cases hbx : st.bx key <;> cases szOf X.P t <;> intro h <;> first | exact h.elim | skip
      rename_i cs n
      simp only at h ⊢
      cases hb : ((ev X st v).okC && decide ((ev X st v).cells.length = n) && decide (off + n ≤ cs.length)) <;> rw [hb] at h <;> first | exact h.elim | skip
      simp only [doN, Eff.apply, hbx]
      exact h

theorem stepN_do (o : Oper) (h : stepN X F C m0 o K st) : doN C o.dst K st (effN0 X F C m0 o st) := by
  unfold stepN at h
  unfold effN0
  split at h <;> rename_i hop <;> simp only [hop]
  · split at h
    · rename_i z hz; rw [hz]; exact allocE_do o _ h
    · exact h.elim
  · split at h
    · rename_i n hn; rw [hn]
      simp only
      split at h
      · rename_i hb; rw [hb]; exact allocE_do o _ h
      · exact h.elim
    · exact h.elim
  · split at h
    · rename_i hd; rw [hd]; simp only; have := storeE_do (C := C) o _ _ _ h; rw [hd] at this; exact this
    · exact h.elim
  · split at h
    · rename_i g hg
      rw [hg]
      simp only
      split at h
      · rename_i d hd; rw [hd]; exact h
      · exact h.elim
    · rename_i hg
      rw [hg]
      simp only
      split at h
      · rename_i hf
        rw [hf]
        simp only
        split at h
        · rename_i hg; rw [hg]; exact h
        · exact h.elim
      · exact h.elim
  · exact makeE_do o h
  · exact rowE_do o h
  · exact pureE_do o h
  · exact pureE_do o h
  · exact pureE_do o h
  · split at h
    · rename_i hr; rw [hr]
      simp only
      split at h
      · rename_i n x hn hx; rw [hn, hx]; exact h
      · exact h.elim
    · rename_i hr; rw [hr]; exact pureE_do o h
  · split at h
    · rename_i hr; rw [hr]
      simp only
      split at h
      · rename_i x hx; rw [hx]; exact h
      · rename_i hx; rw [hx]; exact h
    · rename_i hr; rw [hr]; exact pureE_do o h
  · split at h
    · rename_i hl; rw [hl]; exact pureE_do o h
    · exact h.elim
  · exact makeE_do o h
  · split at h
    · rename_i hl; rw [hl]; exact makeE_do o h
    · rename_i hl; rw [hl]; exact pureE_do o h
  all_goals first | exact pureE_do o h | exact h.elim

theorem opN_do (all : List Oper) (o : Oper) (h : opN X F C m0 all o K st) : doN C o.dst K st (effN X F C m0 all o st) := by
  unfold opN at h
  unfold effN
  split at h
  · rename_i hg; simp only [hg]; exact stepN_do o h
  · rename_i j want hg
    simp only [hg]
    split at h
    · rename_i b hb
      simp only [hb]
      split at h
      · rename_i he; simp only [he]; exact stepN_do o h
      · rename_i he; simp only [he]; exact h
    · rename_i hb; simp only [hb]; exact h
    · exact h.elim
end
end Go.Eng
