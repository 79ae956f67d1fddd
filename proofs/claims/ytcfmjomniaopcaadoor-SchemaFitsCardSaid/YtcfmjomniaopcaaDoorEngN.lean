/- Part of the engine that proves it: see the last text. -/
import Derived.Test.YtcfmjomniaopcaaDoorEngM
/- Operations that make memory: buildSlice, append. -/
namespace Go.Eng
open Go
section
variable {X : Ctx} {B N : Nat} {w w' : World} {S S' : Sh} {st : St} {lb : Nat → Nat} {a : Act}

theorem hasC_append {a b : List D} {x y : List Value} (h : HasC w S a x) (h' : HasC w S b y) : HasC w S (a ++ b) (x ++ y) where
  len := by simp [h.len, h'.len]
  at_ := fun j c v hc hv => by
    have hl := h.len
    rcases Nat.lt_or_ge j a.length with hj | hj
    · rw [List.getElem?_append_left hj] at hc
      rw [List.getElem?_append_left (by omega)] at hv
      exact h.at_ j c v hc hv
    · rw [List.getElem?_append_right hj] at hc
      rw [List.getElem?_append_right (by omega)] at hv
      exact h'.at_ _ c v hc (by rw [← hl] at hv; exact hv)
  cell := fun c hc => (List.mem_append.1 hc).elim (h.cell c) (h'.cell c)

theorem loadRow {tg : Option Nat} {k : Nat} {es : List D} {v : Value} (h : HasV w S (.slice tg k es) v) : ∃ p cap, v = .slice (some p) es.length cap ∧ ∃ arr : Array Value,
    (loadCells p (es.length * k)).run X.P w = .ok arr w ∧ HasC w S (flat es) arr.toList ∧ arr.size = es.length * k ∧ ∀ d ∈ es, d.cells.length = k := by
  cases h with
  | slice0 _ _ p cap _ =>
    exact ⟨p, cap, rfl, #[], by simp [loadCells, loadCellsFrom], ⟨⟨rfl, fun j c v hc => by simp [flat] at hc⟩, fun c hc => by simp [flat] at hc⟩, by simp, fun d hd => by cases hd⟩
  | slice _ _ _ b off cap vals hk hcap hbig hsz hcl hvis htag hcell hv =>
    have hfl := flat_length es hsz
    have hlt : ∀ j, j < es.length * k → ∃ c, (flat es)[j]? = some c := fun j hj => ⟨_, List.getElem?_eq_getElem (by omega)⟩
    have hr := run_loadCells (P := X.P) w ⟨b, off, none⟩ (es.length * k) vals (fun j hj => by
      obtain ⟨c, hc⟩ := hlt j hj
      rw [add_none]; exact hcell j c hc)
    refine ⟨_, cap, rfl, _, hr, ⟨⟨by simp [hfl], fun j c v hc hv' => ?_⟩, hcl⟩, by simp, hsz⟩
    have hj := lt_of_get hc
    rw [hfl] at hj
    simp [hj] at hv'
    subst hv'
    exact hv j c hc

/-- A slice over the whole of a block that nobody changes. -/
theorem fullSlice {k b : Nat} {es : List D} {vs : Array Value} {t : TypeId} {fr : Nat × Nat} (hk : 0 < k) (hbig : es.length ≤ 140737488355328) (hsz : ∀ d ∈ es, d.cells.length = k)
    (hh : w.heap[b]? = some (.cells vs t fr)) (hc : HasC w S (flat es) vs.toList) (hmu : ¬ S.mu b) (hbb : b ∉ S.bb) (htb : ∀ (i k' : Nat), S.tb[i]? ≠ some (b, k')) (hok : S.ok b (0 + es.length * k)) :
    HasV w S (.slice (some 0) k es) (.slice (some ⟨b, 0, none⟩) es.length es.length) := by
  have hb : b < w.heap.size := by
    rcases Nat.lt_or_ge b w.heap.size with h | h
    · exact h
    · rw [Array.getElem?_eq_none h] at hh; cases hh
  have hl := hc.len
  refine .slice (some 0) k es b 0 es.length (fun j => vs.getD j undef) hk (Nat.le_refl _) hbig hsz hc.cell ⟨hb, hmu, hbb, fun i k' mk h1 _ => absurd h1 (htb i k'), _, Nat.le_refl _, hok⟩ rfl (fun j c hj => ?_) (fun j c hj => ?_)
  · have hlt := lt_of_get hj
    have hj' : j < vs.size := by simp at hl; omega
    rw [Nat.zero_add, cell_of_row w b j vs t fr hh]
    simp [Array.getD, hj']
  · have hlt := lt_of_get hj
    have hj' : j < vs.size := by simp at hl; omega
    refine hc.at_ j c _ hj ?_
    simp [Array.getD, hj']

/-- A slice over a block whose first cells are its elements. -/
theorem mkSlice {id k b cap : Nat} {es : List D} {vs : Array Value} {t : TypeId} {fr : Nat × Nat} (hk : 0 < k) (hbig : es.length ≤ 140737488355328) (hcap : es.length ≤ cap) (hsz : ∀ d ∈ es, d.cells.length = k)
    (hh : w.heap[b]? = some (.cells vs t fr)) (hc : HasC w S (flat es) (vs.toList.take (es.length * k))) (hmu : ¬ S.mu b) (hbb : b ∉ S.bb) (htb : S.tb[id]? = some (b, k)) (hmk : S.m.toks[id]? = some es.length)
    (hinj : ∀ (i k' : Nat), S.tb[i]? = some (b, k') → i = id) (hs : vs.size = cap * k) (hok : ∃ n', 0 + es.length * k ≤ n' ∧ S.ok b n') : HasV w S (.slice (some (id + 1)) k es) (.slice (some ⟨b, 0, none⟩) es.length cap) := by
  have hb : b < w.heap.size := by
    rcases Nat.lt_or_ge b w.heap.size with h | h
    · exact h
    · rw [Array.getElem?_eq_none h] at hh; cases hh
  have hfl := flat_length es hsz
  refine .slice (some (id + 1)) k es b 0 cap (fun j => vs.getD j undef) hk hcap hbig hsz hc.cell ⟨hb, hmu, hbb, fun i k' mk h1 h2 => ?_, hok⟩ ⟨rfl, es.length, b, hmk, htb, Nat.le_refl _, fun _ => ⟨rfl, t, ?_⟩⟩ (fun j c hj => ?_) (fun j c hj => ?_)
  · have := hinj i k' h1
    subst this
    rw [htb] at h1; cases h1
    rw [hmk] at h2; cases h2
    omega
  · unfold World.shape?; rw [hh]; simp [hs]
  · have hlt := lt_of_get hj
    have : es.length * k ≤ vs.size := by rw [hs]; exact Nat.mul_le_mul_right _ hcap
    have hj' : j < vs.size := by omega
    rw [Nat.zero_add, cell_of_row w b j vs t fr hh]
    simp [Array.getD, hj']
  · have hlt := lt_of_get hj
    have : es.length * k ≤ vs.size := by rw [hs]; exact Nat.mul_le_mul_right _ hcap
    have hj' : j < vs.size := by omega
    refine hc.at_ j c _ hj ?_
    rw [List.getElem?_take_of_lt (by omega)]
    simp [Array.getD, hj']

theorem setRow_append_right (cs : List D) : ∀ (ds pre : List D) (o : Nat), setRow (pre ++ cs) (pre.length + o) ds = pre ++ setRow cs o ds
  | [], pre, o => rfl
  | d :: r, pre, o => by
    have ih := setRow_append_right (cs.set o d) r pre (o + 1)
    simp only [setRow]
    rw [List.set_append_right _ _ (by omega), Nat.add_sub_cancel_left, Nat.add_assoc]
    exact ih
termination_by ds => ds.length

theorem setRow_whole (post : List D) : ∀ (ds pre : List D), ds.length = pre.length → setRow (pre ++ post) 0 ds = ds ++ post
  | [], [], _ => rfl
  | [], _ :: _, h => by simp at h
  | _ :: _, [], h => by simp at h
  | d :: r, p :: pre, h => by
    have ih := setRow_whole post r pre (by simpa using h)
    have := setRow_append_right (pre ++ post) r [d] 0
    simp only [setRow, List.cons_append, List.set_cons_zero, Nat.zero_add]
    simp only [List.length_cons, List.length_nil, List.cons_append, List.nil_append, Nat.add_zero, Nat.zero_add] at this
    rw [this, ih]

theorem flat_set {k : Nat} : ∀ (es : List D) (i : Nat) (d : D), (∀ d ∈ es, d.cells.length = k) → d.cells.length = k → i < es.length → flat (es.set i d) = setRow (flat es) (i * k) d.cells
  | [], _, _, _, _, h => by simp at h
  | e :: r, 0, d, hk, hd, _ => by
    simp only [List.set_cons_zero, flat, Nat.zero_mul]
    exact (setRow_whole (flat r) d.cells e.cells (by rw [hd, hk e (List.mem_cons_self ..)])).symm
  | e :: r, i + 1, d, hk, hd, h => by
    simp only [List.set_cons_succ, flat]
    rw [flat_set r i d (fun x hx => hk x (List.mem_cons_of_mem _ hx)) hd (by simpa using h)]
    have := setRow_append_right (flat r) d.cells e.cells (i * k)
    rw [← this]
    congr 1
    rw [hk e (List.mem_cons_self ..), Nat.succ_mul]; omega

theorem run_fillA {k : Nat} : ∀ (parts : List (Nat × D)) (vparts : List (Nat × Value)) (es : List D) (vs : Array Value) (out : List D),
      parts.length = vparts.length → (∀ (j i : Nat) (d : D) (i' : Nat) (v : Value), parts[j]? = some (i, d) → vparts[j]? = some (i', v) → i = i' ∧ HasV w S d v) → HasC w S (flat es) vs.toList →
      (∀ d ∈ es, d.cells.length = k) → fillA es k parts = some out → ∃ us : Array Value, Instr.fill (fun i => some (i * k, k)) vs vparts = some us ∧ HasC w S (flat out) us.toList ∧ out.length = es.length ∧ ∀ d ∈ out, d.cells.length = k
  | [], [], es, vs, out, _, _, hc, hk, h => by cases h; exact ⟨vs, rfl, hc, rfl, hk⟩
  | [], _ :: _, _, _, _, hl, _, _, _, _ => by simp at hl
  | _ :: _, [], _, _, _, hl, _, _, _, _ => by simp at hl
  | (i, d) :: r, (i', v) :: vr, es, vs, out, hl, hv, hc, hk, h => by
    obtain ⟨rfl, h0⟩ := hv 0 i d i' v rfl rfl
    unfold fillA at h
    cases hb : (d.okC && decide (d.cells.length = k) && decide (i < es.length)) with
    | false => rw [hb] at h; cases h
    | true =>
      rw [hb] at h
      simp only [cond_true] at h
      simp only [Bool.and_eq_true, decide_eq_true_eq] at hb
      obtain ⟨⟨h1, h2⟩, h3⟩ := hb
      have hcv := okC_cells h0 h1
      have hsz : v.cells.size = k := by have := hcv.len; simp at this; omega
      have hlen : vs.size = es.length * k := by have := hc.len; rw [flat_length es hk] at this; simp at this; omega
      have step : HasC w S (flat (es.set i d)) (v.cells.zipIdx.foldl (fun cs (c, j) => cs.setIfInBounds (i * k + j) c) vs).toList := by
        have := hasC_setRow (off := i * k) d.cells v.cells.toList 0 (flat es) vs hc hcv
        rw [Nat.add_zero] at this
        rw [flat_set es i d hk h2 h3, ← Array.foldl_toList, Array.toList_zipIdx]
        exact this
      have hk' : ∀ x ∈ es.set i d, x.cells.length = k := fun x hx => by
        rcases List.mem_or_eq_of_mem_set hx with hx | rfl
        · exact hk x hx
        · exact h2
      obtain ⟨us, hus, hcu, hol, hok⟩ := run_fillA r vr (es.set i d) _ out (by simpa using hl) (fun j i d i' v hj hj' => hv (j + 1) i d i' v (by simpa using hj) (by simpa using hj')) step hk' h
      refine ⟨us, ?_, hcu, by simpa using hol, hok⟩
      have hfit : i * k + k ≤ es.length * k := by rw [← Nat.succ_mul]; exact Nat.mul_le_mul_right _ h3
      simp only [Instr.fill]
      rw [if_neg (by rw [hsz, hlen]; simp; omega)]
      exact hus

theorem flat_replicate_get {z : D} {k : Nat} (hz : z.cells.length = k) : ∀ (n j : Nat), j < n * k → (flat (List.replicate n z))[j]? = z.cells[j % k]?
  | 0, j, h => by simp at h
  | n + 1, j, h => by
    simp only [List.replicate_succ, flat]
    rcases Nat.lt_or_ge j k with hj | hj
    · rw [List.getElem?_append_left (by omega), Nat.mod_eq_of_lt hj]
    · rw [List.getElem?_append_right (by omega), hz, flat_replicate_get hz n (j - k) (by rw [Nat.succ_mul] at h; omega), ← Nat.mod_eq_sub_mod hj]

theorem zero_row {z : D} {zv : Value} (hz : HasV w S z zv) (ho : z.okC = true) {k : Nat} (hk : z.cells.length = k) (n : Nat) :
    HasC w S (flat (List.replicate n z)) ((Array.range (n * k)).map fun i => zv.cells[i % zv.cells.size]!).toList := by
  have hc := okC_cells hz ho
  have hs : zv.cells.size = k := by have := hc.len; simp at this; omega
  have hl : (flat (List.replicate n z)).length = n * k := by rw [flat_length (k := k) _ (fun d hd => by rw [List.eq_of_mem_replicate hd]; exact hk)]; simp
  refine ⟨⟨by simp [hl], fun j c v hj hv => ?_⟩, fun c hcm => ?_⟩
  · have hlt := lt_of_get hj
    rw [hl] at hlt
    have k0 : 0 < k := by
      rcases Nat.eq_zero_or_pos k with h | h
      · subst h; simp at hlt
      · exact h
    rw [flat_replicate_get hk n j hlt] at hj
    refine hc.at_ (j % k) c v hj ?_
    simp [hlt] at hv
    have hm : j % k < zv.cells.size := by rw [hs]; exact Nat.mod_lt _ k0
    rw [← hv, hs]
    simp [hm]
  · obtain ⟨j, hj⟩ := List.getElem?_of_mem hcm
    have hlt := lt_of_get hj
    rw [hl] at hlt
    rw [flat_replicate_get hk n j hlt] at hj
    exact hc.cell c (List.mem_of_getElem? hj)
end
end Go.Eng
