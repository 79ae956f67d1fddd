/- Part of the engine that proves it: see the last text. -/
import Derived.Test.YtcfmjomniaopcaaDoorEngC
import Derived.Laws.Entries
/- The relation between abstract and concrete states; operations that change no memory. -/
namespace Go.Eng
open Go

structure HasC (w : World) (S : Sh) (cs : List D) (vs : List Value) : Prop extends HasL w S cs vs where
  cell : ∀ c ∈ cs, c.isCell = true

theorem HasC.mono {N : Nat} {w w' : World} {S S' : Sh} (h : Ext N w S w' S') (hT : Tidy w S) {cs : List D} {vs : List Value} (hd : HasC w S cs vs) : HasC w' S' cs vs :=
  ⟨hd.toHasL.mono h hT, hd.cell⟩

/-- No cell of the row is frozen. -/
def OpenR (vs : Array Value) (fr : Nat × Nat) : Prop := ∀ j, j < vs.size → ¬ (fr.1 ≤ j ∧ j < fr.2)

structure RelG (X : Ctx) (B : Nat) (w : World) (S : Sh) : Prop extends Tidy w S where
  base : B ≤ w.heap.size
  bbGe : ∀ b ∈ S.bb, B ≤ b
  tbGe : ∀ (id b k : Nat), S.tb[id]? = some (b, k) → B ≤ b
  bbInj : ∀ (id id' b : Nat), S.bb[id]? = some b → S.bb[id']? = some b → id = id'
  boxes : ∀ (id b : Nat) (cs : List D), S.bb[id]? = some b → S.m.boxes[id]? = some cs → ∃ vs t fr, w.heap[b]? = some (.cells vs t fr) ∧ OpenR vs fr ∧ cs.length ≤ vs.size ∧ HasC w S cs (vs.toList.take cs.length)
  toks : ∀ (id b k mk : Nat), S.tb[id]? = some (b, k) → S.m.toks[id]? = some mk → 0 < k ∧ ∃ vs t, w.heap[b]? = some (.cells vs t (0, 0)) ∧ mk * k ≤ vs.size
  glob : ∀ (g : Nat) (cs : List D), X.G g = some cs → HasV w S (.ref cs 0) (.pointer (some ⟨g, 0, none⟩))

structure RelA (N : Nat) (w : World) (S : Sh) (st : St) (lb : Nat → Nat) (a : Act) : Prop where
  m : st.m = S.m
  defers : a.defers = []
  slots : ∀ x, HasV w S (st.sl x) (a.tmps.getD x undef)
  regs : ∀ x k o, st.lp x = some (k, o) → a.tmps.getD x undef = .pointer (some ⟨lb k, o, none⟩) ∧ (st.bx k).isSome = true
  boxes : ∀ k cs, st.bx k = some cs → N ≤ lb k ∧ S.mu (lb k) ∧ ∃ vs t, w.heap[lb k]? = some (.cells vs t (0, 0)) ∧ HasC w S cs vs.toList
  inj : ∀ k k', (st.bx k).isSome = true → (st.bx k').isSome = true → lb k = lb k' → k = k'

section
variable {X : Ctx} {B N : Nat} {w : World} {S : Sh} {st : St} {lb : Nat → Nat} {a : Act}

theorem constC_ok {v : Value} {d : D} (h : constC v = some d) : HasV w S d v ∧ d.isCell = true := by
  unfold constC at h
  split at h <;> first
    | (cases h; done)
    | (cases h; first
      | exact ⟨.int _ _, rfl⟩
      | exact ⟨.bool _, rfl⟩
      | exact ⟨.str _, rfl⟩
      | exact ⟨.nil, rfl⟩
      | exact ⟨.nilptr, rfl⟩
      | exact ⟨.nilfunc, rfl⟩)

theorem constL_ok (w : World) (S : Sh) : ∀ {vs : List Value} {ds : List D}, constL constC vs = some ds → HasC w S ds vs
  | [], ds, h => by cases h; exact ⟨⟨rfl, fun j c v hc => by simp at hc⟩, fun c hc => by simp at hc⟩
  | v :: r, ds, h => by
    unfold constL at h
    split at h
    · rename_i d ds' h1 h2
      cases h
      have ih := constL_ok w S h2
      have h0 := constC_ok (w := w) (S := S) h1
      refine ⟨⟨by simp [ih.len], fun j c v' hc hv => ?_⟩, fun c hc => ?_⟩
      · cases j with
        | zero => simp at hc hv; subst hc; subst hv; exact h0.1
        | succ j => simp at hc hv; exact ih.at_ j c v' hc hv
      · rcases List.mem_cons.1 hc with rfl | hc
        · exact h0.2
        · exact ih.cell c hc
    · cases h

theorem constD_ok {v : Value} {d : D} (h : constD v = some d) : HasV w S d v := by
  unfold constD at h
  split at h
  · rename_i cs
    cases hc : constL constC cs.toList with
    | none => rw [hc] at h; cases h
    | some ds =>
      rw [hc] at h; cases h
      have := constL_ok w S hc
      exact .agg ds cs (by simpa using this.len) this.cell (fun j c v hj hv => this.at_ j c v hj (by simpa using hv))
  · exact (constC_ok h).1

theorem ev_ok (R : RelG X B w S) (A : RelA N w S st lb a) (x : Operand) : HasV w S (ev X st x) (a.eval x) := by
  cases x with
  | tmp t => exact A.slots t
  | const v =>
    show HasV w S ((constD v).getD .undef) v
    cases h : constD v with
    | none => exact .undef v
    | some d => exact constD_ok h
  | global g =>
    show HasV w S (match X.G g with | some cs => .ref cs 0 | none => .undef) _
    cases h : X.G g with
    | none => exact .undef _
    | some cs => exact R.glob g cs h
  | func f => exact .func f [] #[] rfl (fun j c v hc => by simp at hc)

/-- Where a row of cells lies. -/
structure Lies (w : World) (S : Sh) (cs : List D) (b base : Nat) : Prop where
  cell : ∀ (j : Nat) (c : D), cs[j]? = some c → ∃ v, w.cell? ⟨b, base + j, none⟩ = some v ∧ HasV w S c v
  ok : ∀ c ∈ cs, c.isCell = true

theorem lies_of_pre {cs : List D} {vs : Array Value} {t : TypeId} {fr : Nat × Nat} {b : Nat} (hb : w.heap[b]? = some (.cells vs t fr)) (hl : cs.length ≤ vs.size) (hc : HasC w S cs (vs.toList.take cs.length)) : Lies w S cs b 0 where
  cell := fun j c hj => by
    have hlt : j < cs.length := by
      rcases Nat.lt_or_ge j cs.length with h | h
      · exact h
      · rw [List.getElem?_eq_none h] at hj; cases hj
    have hlt' : j < vs.size := by omega
    refine ⟨vs[j], ?_, hc.at_ j c _ hj (by rw [List.getElem?_take_of_lt hlt]; simp [hlt'])⟩
    rw [Nat.zero_add, cell_of_row w b j vs t fr hb, Array.getElem?_eq_getElem hlt']
  ok := hc.cell
theorem lies_of_heap {cs : List D} {vs : Array Value} {t : TypeId} {fr : Nat × Nat} {b : Nat} (hb : w.heap[b]? = some (.cells vs t fr)) (hc : HasC w S cs vs.toList) : Lies w S cs b 0 := by
  have hl : cs.length = vs.size := by have := hc.len; simpa using this
  refine lies_of_pre hb (Nat.le_of_eq hl) ?_
  rw [hl, List.take_of_length_le (by simp)]
  exact hc

theorem placeV_ok (R : RelG X B w S) {m0 : Mem} (hm : Sub m0 S.m) {d : D} {v : Value} (hv : HasV w S d v) {cs : List D} {off : Nat} (h : placeV m0 d = some (cs, off)) :
    ∃ b base, v = .pointer (some ⟨b, base + off, none⟩) ∧ Lies w S cs b base := by
  unfold placeV at h
  split at h
  · cases h
    cases hv with
    | ref _ _ b base vals hcl hvis hcell hv => exact ⟨b, base, rfl, ⟨fun j c hj => ⟨_, hcell j c hj, hv j c hj⟩, hcl⟩⟩
  · rename_i id o
    split at h
    · rename_i cs' hb
      cases h
      cases hv with
      | ptr _ _ b hbb =>
        obtain ⟨vs, t, fr, hh, _, hl, hc⟩ := R.boxes id b cs hbb (hm id cs hb)
        exact ⟨b, 0, by rw [Nat.zero_add], lies_of_pre hh hl hc⟩
    · cases h
  · cases h

theorem place_ok (R : RelG X B w S) (A : RelA N w S st lb a) {m0 : Mem} (hm : Sub m0 S.m) {p : Operand} {cs : List D} {off : Nat} (h : place X m0 st p = some (cs, off)) :
    ∃ b base, a.eval p = .pointer (some ⟨b, base + off, none⟩) ∧ Lies w S cs b base := by
  cases p with
  | tmp t =>
    simp only [place] at h
    cases hl : st.lp t with
    | none => rw [hl] at h; exact placeV_ok R hm (A.slots t) h
    | some ko =>
      obtain ⟨k, o⟩ := ko
      rw [hl] at h
      simp only at h
      cases hb : st.bx k with
      | none => rw [hb] at h; cases h
      | some cs' =>
        rw [hb] at h; cases h
        obtain ⟨_, _, vs, ty, hh, hc⟩ := A.boxes k cs hb
        refine ⟨lb k, 0, ?_, lies_of_heap hh hc⟩
        rw [Nat.zero_add]; exact (A.regs t k off hl).1
  | const v => exact placeV_ok R hm (ev_ok R A (.const v)) h
  | global g => exact placeV_ok R hm (ev_ok R A (.global g)) h
  | func f => exact placeV_ok R hm (ev_ok R A (.func f)) h

theorem add_none (b o n : Nat) : Addr.add ⟨b, o, none⟩ n = ⟨b, o + n, none⟩ := by
  unfold Addr.add; split
  · rename_i h; subst h; rfl
  · rfl

theorem run_isAgg {P : Program} {t : Nat} {q : Bool} (h : isAgg P t = some q) (w : World) : (Go.isAgg t).run P w = .ok q w := by
  unfold isAgg at h
  unfold Go.isAgg underlying
  simp only [Sem.run_bind, run_program, Result.andThen_ok]
  split at h <;> first | (cases h; done) | (rename_i he; cases h; simp [he])

theorem run_sizeOf {P : Program} {t n : Nat} (h : szOf P t = some n) (w : World) : (sizeOf t).run P w = .ok n w := by
  unfold szOf at h
  unfold sizeOf typeInfo
  cases hi : P.info? t with
  | none => rw [hi] at h; cases h
  | some i => rw [hi] at h; cases h; simp [hi]

theorem run_loadVar_one {P : Program} {t : Nat} {w : World} {p : Addr} {v : Value} (h : isAgg P t = some false) (hc : w.cell? p = some v) : (loadVar t p).run P w = .ok v w := by
  unfold loadVar
  simp [Sem.run_bind, run_isAgg h, hc]

theorem run_loadVar_agg {P : Program} {t n : Nat} {w : World} {p : Addr} {arr : Array Value} (h : isAgg P t = some true) (hn : szOf P t = some n) (hc : (loadCells p n).run P w = .ok arr w) : (loadVar t p).run P w = .ok (.agg arr) w := by
  unfold loadVar
  simp [Sem.run_bind, run_isAgg h, run_sizeOf hn, hc]

theorem takeD_ok {cs : List D} {b base off : Nat} (L : Lies w S cs b base) {t : Nat} {d : D} (h : takeD X.P t cs off = some d) :
    ∃ v, (loadVar t ⟨b, base + off, none⟩).run X.P w = .ok v w ∧ HasV w S d v := by
  unfold takeD at h
  split at h
  · rename_i hu
    split at h
    · rename_i n hn
      by_cases hle : off + n ≤ cs.length
      · simp only [hle, decide_true, cond_true] at h
        cases h
        have hcells : ∀ j, j < n → ∃ v, w.cell? ⟨b, base + off + j, none⟩ = some v ∧ ∀ c, cs[off + j]? = some c → HasV w S c v := fun j hj => by
          obtain ⟨v, h1, h2⟩ := L.cell (off + j) cs[off + j] (List.getElem?_eq_getElem (by omega))
          refine ⟨v, by rw [← h1, Nat.add_assoc], fun c hc => ?_⟩
          rw [List.getElem?_eq_getElem (by omega)] at hc; cases hc; exact h2
        let f : Nat → Value := fun j => if h : j < n then (hcells j h).choose else undef
        have hf : ∀ j (hj : j < n), w.cell? ⟨b, base + off + j, none⟩ = some (f j) ∧ ∀ c, cs[off + j]? = some c → HasV w S c (f j) := fun j hj => by
          have := (hcells j hj).choose_spec
          simp only [f, hj, dif_pos]; exact this
        have hrun := run_loadCells (P := X.P) w ⟨b, base + off, none⟩ n f (fun j hj => by rw [add_none]; exact (hf j hj).1)
        refine ⟨.agg ((List.range n).map f).toArray, run_loadVar_agg hu hn hrun, ?_⟩
        refine .agg _ _ (by simp; omega) (fun c hc => L.ok c (List.mem_of_mem_drop (List.mem_of_mem_take hc))) (fun j c v hc hv => ?_)
        have hj : j < n := by
          rcases Nat.lt_or_ge j n with h | h
          · exact h
          · rw [List.getElem?_take_eq_none h] at hc; cases hc
        simp [hj] at hv
        subst hv
        refine (hf j hj).2 c ?_
        rw [List.getElem?_take_of_lt hj, List.getElem?_drop] at hc; exact hc
      · simp [hle] at h
    · cases h
  · rename_i hu
    obtain ⟨v, h1, h2⟩ := L.cell off d h
    exact ⟨v, run_loadVar_one hu h1, h2⟩
  · cases h
end
end Go.Eng
