/- Part of the engine that proves it: see the last text. -/
import Derived.Test.YtcfmjomniaopcaaDoorEngO
/- The rest of the operations that change no memory, and all of them together. -/
namespace Go.Eng
open Go
section
variable {X : Ctx} {B N : Nat} {w : World} {S : Sh} {st : St} {lb : Nat → Nat} {a : Act}

theorem fieldOff_spec {P : Program} {t i o : Nat} (h : fieldOff P t i = some o) : ∃ fs f n, P.underlying t = some (.struct fs) ∧ fs[i]? = some f ∧ szOf P f.type = some n ∧ n ≠ 0 ∧ f.offset = o := by
  unfold fieldOff at h
  split at h
  · rename_i fs hu
    split at h
    · rename_i f hf
      split at h
      · rename_i n hn
        cases hz : Nat.beq n 0 with
        | true => rw [hz] at h; cases h
        | false =>
          rw [hz] at h; simp at h
          exact ⟨fs, f, n, hu, hf, hn, fun e => by subst e; simp at hz, h⟩
      · cases h
    · cases h
  · cases h

theorem fieldAt_run {t i o b off : Nat} (h : fieldOff X.P t i = some o) : (Instr.fieldAt t (.pointer (some ⟨b, off, none⟩)) i).run X.P w = .ok (.pointer (some ⟨b, off + o, none⟩)) w := by
  obtain ⟨fs, f, n, hu, hf, hn, hz, ho⟩ := fieldOff_spec h
  unfold Instr.fieldAt
  simp [run_underlying_of hu, hf, Instr.sureAddr, fieldPlace, run_sizeOf hn, hz, ho, add_none]

theorem hasC_take {cs : List D} {vs : List Value} (h : HasC w S cs vs) (o n : Nat) : HasC w S ((cs.drop o).take n) ((vs.drop o).take n) where
  len := by simp [h.len]
  at_ := fun j c v hc hv => by
    rcases Nat.lt_or_ge j n with hj | hj
    · rw [List.getElem?_take_of_lt hj, List.getElem?_drop] at hc hv
      exact h.at_ _ _ _ hc hv
    · rw [List.getElem?_take_eq_none hj] at hc; cases hc
  cell := fun c hc => h.cell c (List.mem_of_mem_drop (List.mem_of_mem_take hc))

theorem takeD_part {cs : List D} {vs : Array Value} (h : HasC w S cs vs.toList) {t off : Nat} {d : D} (hd : takeD X.P t cs off = some d) :
    ∃ v, (part t vs off).run X.P w = .ok v w ∧ HasV w S d v := by
  unfold takeD at hd
  unfold part
  split at hd
  · rename_i hu
    split at hd
    · rename_i n hn
      by_cases hle : off + n ≤ cs.length
      · simp only [hle, decide_true, cond_true] at hd
        cases hd
        have hh := hasC_take h off n
        refine ⟨.agg (vs.extract off (off + n)), by simp [run_isAgg hu, run_sizeOf hn], ?_⟩
        have e : (vs.extract off (off + n)).toList = (vs.toList.drop off).take n := by simp [List.extract_eq_take_drop]
        refine .agg _ _ ?_ hh.cell (fun j c v hc hv => hh.at_ j c v hc ?_)
        · have := hh.len; rw [this, ← e]; exact Array.length_toList
        · rw [← e, Array.getElem?_toList]; exact hv
      · simp [hle] at hd
    · cases hd
  · rename_i hu
    have hlt : off < vs.size := by
      have := h.len; simp at this
      rcases Nat.lt_or_ge off cs.length with h | h
      · omega
      · rw [List.getElem?_eq_none h] at hd; cases hd
    exact ⟨vs[off], by simp [run_isAgg hu, hlt], h.at_ off d _ hd (by simp [hlt])⟩
  · cases hd

theorem okC_cells {d : D} {v : Value} (h : HasV w S d v) (ho : d.okC = true) : HasC w S d.cells v.cells.toList := by
  have one : ∀ (d : D) (v : Value), d.isCell = true → HasV w S d v → HasC w S [d] [v] := fun d v hc h =>
    ⟨⟨rfl, fun j c u hj hu => by cases j with
      | zero => simp at hj hu; subst hj; subst hu; exact h
      | succ j => simp at hj⟩, fun c hm => by simp at hm; subst hm; exact hc⟩
  cases h with
  | int k n => exact one _ _ rfl (.int k n)
  | bool b => exact one _ _ rfl (.bool b)
  | str s => exact one _ _ rfl (.str s)
  | nil => exact one _ _ rfl .nil
  | opq v h =>
    have e : v.cells.toList = [v] := by cases v <;> first | rfl | cases h
    rw [e]; exact one _ _ rfl (.opq v h)
  | rsl id off len k b cap hk hl h => exact one _ _ rfl (.rsl id off len k b cap hk hl h)
  | slice0 t k p c h => exact one _ _ rfl (.slice0 t k p c h)
  | slice tag k es b off cap vals hk hcap hbig hsz hcl hvis htag hcell hv => exact one _ _ rfl (.slice tag k es b off cap vals hk hcap hbig hsz hcl hvis htag hcell hv)
  | ptr id off b h => exact one _ _ rfl (.ptr id off b h)
  | nilptr => exact one _ _ rfl .nilptr
  | ref cs o b base vals hcl hvis hcell hv => exact one _ _ rfl (.ref cs o b base vals hcl hvis hcell hv)
  | func f cap vs hl hv => exact one _ _ rfl (.func f cap vs hl hv)
  | nilfunc => exact one _ _ rfl .nilfunc
  | agg cs vs hl hcl hv => exact ⟨⟨by show cs.length = vs.toList.length; rw [hl]; simp, fun j c v hc hv' => hv j c v hc (by rw [← Array.getElem?_toList]; exact hv')⟩, hcl⟩
  | tuple ds vs hl hv => cases ho
  | undef v => cases ho

/-- The cells of one element of a row. -/
theorem flat_at {k : Nat} : ∀ {es : List D} {i : Nat} {d : D}, (∀ d ∈ es, d.cells.length = k) → es[i]? = some d → ∀ (j : Nat) (c : D), d.cells[j]? = some c → (flat es)[i * k + j]? = some c
  | [], i, d, _, h, _, _, _ => by simp at h
  | e :: r, 0, d, hk, h, j, c, hc => by
    simp at h; subst h
    have hj : j < e.cells.length := by
      rcases Nat.lt_or_ge j e.cells.length with h | h
      · exact h
      · rw [List.getElem?_eq_none h] at hc; cases hc
    simp only [flat, Nat.zero_mul, Nat.zero_add]
    rw [List.getElem?_append_left hj]; exact hc
  | e :: r, i + 1, d, hk, h, j, c, hc => by
    simp at h
    have he := hk e (List.mem_cons_self ..)
    have ih := flat_at (fun d hd => hk d (List.mem_cons_of_mem _ hd)) h j c hc
    simp only [flat]
    rw [List.getElem?_append_right (by rw [he, Nat.succ_mul]; omega), he, ← ih]
    congr 1
    rw [Nat.succ_mul]; omega

theorem mem_flat {es : List D} {d c : D} (hd : d ∈ es) (hc : c ∈ d.cells) : c ∈ flat es := by
  induction es with
  | nil => cases hd
  | cons e r ih =>
    simp only [flat, List.mem_append]
    rcases List.mem_cons.1 hd with rfl | hd
    · exact .inl hc
    · exact .inr (ih hd)

theorem hasC_set {cs : List D} {vs : Array Value} (h : HasC w S cs vs.toList) {i : Nat} {c : D} {v : Value} (hc : HasV w S c v) (hcl : c.isCell = true) :
    HasC w S (cs.set i c) (vs.setIfInBounds i v).toList where
  len := by have := h.len; simp at this ⊢; exact this
  at_ := fun j d u hd hu => by
    rw [Array.toList_setIfInBounds] at hu
    by_cases e : i = j
    · subst e
      rw [List.getElem?_set_self'] at hd hu
      cases h1 : cs[i]? with
      | none => rw [h1] at hd; cases hd
      | some d0 =>
        cases h2 : vs.toList[i]? with
        | none => rw [h2] at hu; cases hu
        | some u0 => rw [h1] at hd; rw [h2] at hu; cases hd; cases hu; exact hc
    · rw [List.getElem?_set_ne e] at hd hu
      exact h.at_ j d u hd hu
  cell := fun d hd => by
    rcases List.mem_or_eq_of_mem_set hd with h' | rfl
    · exact h.cell d h'
    · exact hcl

theorem hasC_setRow {off : Nat} : ∀ (ds : List D) (us : List Value) (k : Nat) (cs : List D) (vs : Array Value), HasC w S cs vs.toList → HasC w S ds us →
    HasC w S (setRow cs (off + k) ds) ((us.zipIdx k).foldl (fun cs (x : Value × Nat) => cs.setIfInBounds (off + x.2) x.1) vs).toList
  | [], [], _, _, _, h, _ => h
  | [], _ :: _, _, _, _, _, h => by have := h.len; simp at this
  | _ :: _, [], _, _, _, _, h => by have := h.len; simp at this
  | d :: r, u :: ur, k, cs, vs, h, hd => by
    have h0 := hd.at_ 0 d u rfl rfl
    have hr : HasC w S r ur := ⟨⟨by have := hd.len; simpa using this, fun j c v hc hv => hd.at_ (j + 1) c v (by simpa using hc) (by simpa using hv)⟩, fun c hc => hd.cell c (List.mem_cons_of_mem _ hc)⟩
    have := hasC_setRow (off := off) r ur (k + 1) (cs.set (off + k) d) (vs.setIfInBounds (off + k) u) (hasC_set h h0 (hd.cell d (List.mem_cons_self ..))) hr
    simpa [setRow, List.zipIdx_cons, Nat.add_assoc] using this

theorem run_fill {P : Program} {t : Nat} {fs : Array Field} (hu : P.underlying t = some (.struct fs)) (places : Array (Nat × Nat)) (hp : ∀ (i : Nat) (f : Field) (n : Nat), fs[i]? = some f → szOf P f.type = some n → places[i]? = some (f.offset, n)) :
    ∀ (parts : List (Nat × D)) (vparts : List (Nat × Value)) (cs : List D) (vs : Array Value) (out : List D),
      parts.length = vparts.length → (∀ (j i : Nat) (d : D) (i' : Nat) (v : Value), parts[j]? = some (i, d) → vparts[j]? = some (i', v) → i = i' ∧ HasV w S d v) → HasC w S cs vs.toList →
      fillS P t cs parts = some out → ∃ us : Array Value, Instr.fill (places[·]?) vs vparts = some us ∧ HasC w S out us.toList
  | [], [], cs, vs, out, _, _, hc, h => by cases h; exact ⟨vs, rfl, hc⟩
  | [], _ :: _, _, _, _, hl, _, _, _ => by simp at hl
  | _ :: _, [], _, _, _, hl, _, _, _ => by simp at hl
  | (i, d) :: r, (i', v) :: vr, cs, vs, out, hl, hv, hc, h => by
    obtain ⟨rfl, h0⟩ := hv 0 i d i' v rfl rfl
    unfold fillS at h
    split at h
    · rename_i off n ho hn
      obtain ⟨fs', f, n', hu', hf, hn', hz, hoff⟩ := fieldOff_spec ho
      rw [hu] at hu'; cases hu'
      have en : n' = n := by
        unfold fieldTy at hn
        rw [hu] at hn
        simp [hf, hn'] at hn; exact hn
      subst en
      cases hb : (d.okC && decide (d.cells.length = n') && decide (off + n' ≤ cs.length)) with
      | false => rw [hb] at h; cases h
      | true =>
        rw [hb] at h
        simp only [cond_true] at h
        simp only [Bool.and_eq_true, decide_eq_true_eq] at hb
        obtain ⟨⟨h1, h2⟩, h3⟩ := hb
        have hcv := okC_cells h0 h1
        have hsz : v.cells.size = n' := by have := hcv.len; simp at this; omega
        have hlen : vs.size = cs.length := by have := hc.len; simp at this; omega
        have step : HasC w S (setRow cs off d.cells) (v.cells.zipIdx.foldl (fun cs (c, j) => cs.setIfInBounds (off + j) c) vs).toList := by
          have := hasC_setRow (off := off) d.cells v.cells.toList 0 cs vs hc hcv
          rw [Nat.add_zero] at this
          rw [← Array.foldl_toList, Array.toList_zipIdx]
          exact this
        obtain ⟨us, hus, hcu⟩ := run_fill hu places hp r vr (setRow cs off d.cells) _ out (by simpa using hl) (fun j i d i' v hj hj' => hv (j + 1) i d i' v (by simpa using hj) (by simpa using hj')) step h
        refine ⟨us, ?_, hcu⟩
        simp only [Instr.fill, hp i f n' hf hn', hoff]
        rw [if_neg (by rw [hsz, hlen]; simp; omega)]
        exact hus
    · cases h
end
end Go.Eng
