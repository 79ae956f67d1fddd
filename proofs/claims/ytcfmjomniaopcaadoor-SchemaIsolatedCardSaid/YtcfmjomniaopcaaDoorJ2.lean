/- Part of the engine that proves it: see the last text. -/
import Derived.Laws.MakeOwn
import Derived.Test.YtcfmjomniaopcaaDoorJ1
set_option linter.unusedSimpArgs false
set_option linter.unusedVariables false
/- buildSlice and append. -/
namespace Go.Eng
open Go

/-- What a step leaves: the relation, what was there, private blocks untouched. -/
structure Step (X : Ctx) (B N : Nat) (w : World) (S : Sh) (w' : World) (S' : Sh) : Prop where
  rel : RelG X B w' S'
  ext : Ext N w S w' S'
  priv : ∀ b, S.mu b → w'.heap[b]? = w.heap[b]?
  muK : ∀ b, S.mu b → S'.mu b

section
variable {X : Ctx} {B N : Nat} {w w' : World} {S S' : Sh} {st : St} {lb : Nat → Nat} {a : Act}

theorem bytesOk_spec {P : Program} {e : Nat} (h : bytesOk P e = true) : ∃ i, P.info? e = some i ∧ 1 ≤ i.size ∧ i.bytes ≤ 4096 := by
  unfold bytesOk at h
  split at h
  · rename_i i hi
    simp at h
    exact ⟨i, hi, h.1, h.2⟩
  · cases h

theorem szOf_info {P : Program} {e k : Nat} {i : TypeInfo} (hi : P.info? e = some i) (h : szOf P e = some k) : i.size = k := by
  unfold szOf at h; rw [hi] at h; cases h; rfl

theorem heapPriv (R : RelG X B w S) (o : Obj) : ∀ b, S.mu b → (w.alloc o).heap[b]? = w.heap[b]? := fun b h => alloc_old w o (R.mu b h)

theorem newTok (R : RelG X B w S) {es : List D} {vs : Array Value} (t : TypeId) {k cap : Nat} (hk : 0 < k) (hbig : es.length ≤ 140737488355328) (hcap : es.length ≤ cap) (hs : vs.size = cap * k)
    (hsz : ∀ d ∈ es, d.cells.length = k) (hc : HasC w S (flat es) (vs.toList.take (es.length * k))) :
    Step X B N w S (w.alloc (.cells vs t (0, 0))) (S.addTok w.heap.size k es.length) ∧
    HasV (w.alloc (.cells vs t (0, 0))) (S.addTok w.heap.size k es.length) (.slice (some (S.m.toks.length + 1)) k es) (.slice (some ⟨w.heap.size, 0, none⟩) es.length cap) := by
  have hfit : es.length * k ≤ vs.size := by rw [hs]; exact Nat.mul_le_mul_right _ hcap
  have E := Ext.allocTok (N := N) R (.cells vs t (0, 0)) k es.length
  have R' := R.allocTok t hk hfit
  refine ⟨⟨R', E, heapPriv R _, fun _ h => h⟩, ?_⟩
  refine mkSlice hk hbig hcap hsz (alloc_new w _) (hc.mono E R.tidy) (fun h => by have := R.mu _ h; omega) (fun h => by have := R.bbLt _ h; omega) ?_ ?_ (fun i k' h => ?_) hs ⟨_, Nat.le_refl _, R.okNew _ _ (Nat.le_refl _)⟩
  · simp [Sh.addTok, ← R.tbLen]
  · simp [Sh.addTok]
  · rcases get_append_one h with h | ⟨h, _⟩
    · have := R.tbLt i _ k' h; omega
    · rw [h, R.tbLen]

theorem newFull (R : RelG X B w S) {es : List D} {vs : Array Value} (t : TypeId) {k : Nat} (hk : 0 < k) (hbig : es.length ≤ 140737488355328)
    (hsz : ∀ d ∈ es, d.cells.length = k) (hc : HasC w S (flat es) vs.toList) :
    Step X B N w S (w.alloc (.cells vs t (0, 0))) S ∧
    HasV (w.alloc (.cells vs t (0, 0))) S (.slice (some 0) k es) (.slice (some ⟨w.heap.size, 0, none⟩) es.length es.length) := by
  have E := Ext.allocFull (N := N) R (.cells vs t (0, 0))
  refine ⟨⟨R.allocFull _, E, heapPriv R _, fun _ h => h⟩, ?_⟩
  exact fullSlice hk hbig hsz (alloc_new w _) (hc.mono E R.tidy) (fun h => by have := R.mu _ h; omega) (fun h => by have := R.bbLt _ h; omega) (fun i k' h => by have := R.tbLt i _ k' h; omega) (R.okNew _ _ (Nat.le_refl _))

/-- A slice over a new box. -/
theorem newBoxV (R : RelG X B w S) {cs : List D} {vs : Array Value} (t : TypeId) {fr : Nat × Nat} {k len cap : Nat} (hk : 0 < k) (hcap : len ≤ cap ∧ len ≤ 140737488355328) (ho : OpenR vs fr) (hl : cs.length ≤ vs.size) (hcs : cap * k ≤ vs.size) (hc : HasC w S cs (vs.toList.take cs.length)) :
    Step X B N w S (w.alloc (.cells vs t fr)) (S.addBox w.heap.size cs) ∧ HasV (w.alloc (.cells vs t fr)) (S.addBox w.heap.size cs) (.rsl S.m.boxes.length 0 len k) (.slice (some ⟨w.heap.size, 0, none⟩) len cap) := by
  refine ⟨⟨R.allocBoxP t ho hl hc, Ext.allocBox R _ cs, heapPriv R _, fun _ h => h⟩, .rsl _ 0 len k _ cap hk hcap ?_ ⟨t, vs.size, ?_, by omega⟩⟩
  · simp [Sh.addBox, ← R.bbLen]
  · unfold World.shape?; rw [alloc_new]

theorem bytes_ok (R : RelG X B w S) (A : RelA N w S st lb a) {src dst' : Nat} {x : Operand} {d : D} {m' : Mem} {dst : Option Nat} {ty : Nat} {pos : String} {af : Array Edge} {gd : Option (Nat × Bool)} {bx : Bool}
    (h : makeD X bx S.m st (.convert src dst' x) = some (d, m')) :
    ∃ v w' S', (execOp a.eval ⟨dst, .convert src dst' x, ty, pos, af, gd⟩).run X.P w = .ok (.value v) w' ∧ S'.m = m' ∧ Step X B N w S w' S' ∧ HasV w' S' d v := by
  simp only [makeD] at h
  split at h
  · rename_i s hty hx
    simp only [Bool.and_eq_true] at hty
    obtain ⟨e, h1, h2⟩ := bytesTy_spec hty.2
    have h3 := isStr_eq hty.1
    by_cases hl : s.length ≤ 16777216
    · simp only [hl, decide_true, cond_true] at h
      cases h
      have hv := ev_ok R A x
      rw [hx] at hv
      have hvs := hasStr hv
      have hr := run_bytes_of_string (P := X.P) w src dst' e ⟨s.toArray⟩ h3 h1 h2
      have ED : Ext N w S w.drew S := Ext.ofHeap rfl rfl rfl rfl
      have RD : RelG X B w.drew S := R.ofHeap rfl rfl rfl rfl
      have hsz : (⟨s.toArray⟩ : ByteArray).size = s.length := size_mk s
      generalize hcap : grownCap w (⟨s.toArray⟩ : ByteArray).size 0 e = cap at hr
      have hcl : s.length ≤ cap := by
        rw [← hcap, hsz]
        show s.length ≤ (Question.appendCap s.length 0 e).cut _
        show s.length ≤ s.length + 0 + _
        omega
      have hrow : bytesRow ⟨s.toArray⟩ cap = ((s.map fun (b : UInt8) => Value.int .u8 b.toNat) ++ List.replicate (cap - s.length) (Value.int .u8 0)).toArray := by
        unfold bytesRow
        rw [hsz]
        simp
      have ho : OpenR (bytesRow ⟨s.toArray⟩ cap) ((bytesRow ⟨s.toArray⟩ cap).size, (bytesRow ⟨s.toArray⟩ cap).size + 1) := fun j hj h => by omega
      have hlen : (s.map byteD).length ≤ (bytesRow ⟨s.toArray⟩ cap).size := by rw [hrow]; simp
      have hcc : HasC w.drew S (s.map byteD) ((bytesRow ⟨s.toArray⟩ cap).toList.take (s.map byteD).length) := by
        rw [hrow]
        simp only [List.length_map]
        rw [List.take_append_of_le_length (by simp), List.take_of_length_le (by simp)]
        refine ⟨⟨by simp, fun j c v hc hv => ?_⟩, fun c hc => ?_⟩
        · simp only [List.getElem?_map, Option.map_eq_some_iff] at hc hv
          obtain ⟨b, hb, rfl⟩ := hc
          obtain ⟨b', hb', rfl⟩ := hv
          rw [hb] at hb'; cases hb'
          exact .int _ _
        · simp only [List.mem_map] at hc
          obtain ⟨b, _, rfl⟩ := hc
          rfl
      obtain ⟨st1, hv1⟩ := newBoxV (N := N) RD e (show 0 < 1 by omega) ⟨hcl, by omega⟩ ho hlen (by rw [hrow]; simp; omega) hcc
      refine ⟨_, _, _, ?_, ?_, ⟨st1.rel, ED.trans R.tidy st1.ext, fun b hb => st1.priv b hb, st1.muK⟩, hv1⟩
      · simp only [execOp, Sem.run_bind, hvs, hr]
        rw [hsz]; rfl
      · simp [Sh.addBox]
    · simp [hl] at h
  · cases h

theorem makeSlice_ok (R : RelG X B w S) (A : RelA N w S st lb a) {t : Nat} {l c : Operand} {d : D} {m' : Mem} {dst : Option Nat} {ty : Nat} {pos : String} {af : Array Edge} {gd : Option (Nat × Bool)} {bx : Bool}
    (h : makeD X bx S.m st (.makeSlice t l c) = some (d, m')) :
    ∃ v w' S', (execOp a.eval ⟨dst, .makeSlice t l c, ty, pos, af, gd⟩).run X.P w = .ok (.value v) w' ∧ S'.m = m' ∧ Step X B N w S w' S' ∧ HasV w' S' d v := by
  simp only [makeD] at h
  split at h
  · rename_i e n n' hs hl hc
    split at h
    · rename_i k z hk hb hz
      cases hcond : (z.okC && decide (z.cells.length = k) && decide (0 ≤ n) && decide (n = n') && decide (n ≤ 16777216)) with
      | false => rw [hcond] at h; cases h
      | true =>
        rw [hcond] at h
        simp only [cond_true] at h
        simp only [Bool.and_eq_true, decide_eq_true_eq] at hcond
        obtain ⟨⟨⟨⟨c1, c2⟩, c3⟩, rfl⟩, c5⟩ := hcond
        cases h
        obtain ⟨i, hi, hi1, hi2⟩ := bytesOk_spec hb
        have hik := szOf_info hi hk
        have k0 : 0 < k := by omega
        obtain ⟨nn, rfl⟩ := toNat_of c3
        obtain ⟨zv, hzv, hzc⟩ := zeroD_spec hz
        have hz' := constD_ok (w := w) (S := S) hzc
        have hzl : zv.cells.size = k := by have := (okC_cells hz' c1).len; simp at this; omega
        have hrow := zero_row hz' c1 c2 nn
        have h1 := ev_ok R A l
        have h2 := ev_ok R A c
        rw [hl] at h1
        rw [hc] at h2
        have hbig : (i.bytes : Int) * (nn : Int) ≤ 281474976710656 := by
          have h1 : i.bytes * nn ≤ 4096 * 16777216 := Nat.mul_le_mul hi2 (by omega)
          have h2 : ((i.bytes * nn : Nat) : Int) ≤ 281474976710656 := by omega
          rwa [Int.natCast_mul] at h2
        have hr := run_make (P := X.P) w t e i zv (sliceElem_eq hs) hi (by rw [hi] at hzv; exact hzv) .i64 .i64 nn nn (by omega) (Int.le_refl _) hbig (by omega)
        simp only [Int.toNat_natCast] at hr
        obtain ⟨st1, hv1⟩ := newBoxV (N := N) R e k0 (⟨Nat.le_refl nn, by omega⟩ : nn ≤ nn ∧ nn ≤ 140737488355328) (openR_zero (madeCells zv.cells (nn * i.size))) (cs := flat (List.replicate nn z)) (by have := hrow.len; simp at this; rw [size_madeCells, hik]; omega) (by rw [size_madeCells, hik]; exact Nat.le_refl _) (by
          rw [List.take_of_length_le (by have := hrow.len; simp at this; simp [size_madeCells, hik]; omega)]
          unfold madeCells
          rw [hik]
          exact hrow)
        refine ⟨_, _, _, ?_, ?_, st1, hv1⟩
        · simp only [execOp, Sem.run_bind, hasInt h1, hasInt h2, hr]; rfl
        · simp [Sh.addBox]
    · cases h
  · cases h

theorem buildSlice_ok (R : RelG X B w S) (A : RelA N w S st lb a) {t len : Nat} {parts : Array (Nat × Operand)} {d : D} {dst : Option Nat} {ty : Nat} {pos : String} {af : Array Edge} {gd : Option (Nat × Bool)}
    (h : rowD X st (.buildSlice t len parts) = some d) :
    ∃ v w' S', (execOp a.eval ⟨dst, .buildSlice t len parts, ty, pos, af, gd⟩).run X.P w = .ok (.value v) w' ∧ S'.m = S.m ∧ Step X B N w S w' S' ∧ HasV w' S' d v := by
  simp only [rowD] at h
  split at h
  · rename_i e hs
    split at h
    · rename_i k z hk hb hz
      cases hc : (z.okC && decide (z.cells.length = k) && decide (len * k ≤ 16777216)) with
      | false => rw [hc] at h; cases h
      | true =>
        rw [hc] at h
        simp only [cond_true] at h
        simp only [Bool.and_eq_true, decide_eq_true_eq] at hc
        obtain ⟨⟨c1, c2⟩, c3⟩ := hc
        obtain ⟨i, hi, hi1, hi2⟩ := bytesOk_spec hb
        have hik := szOf_info hi hk
        have k0 : 0 < k := by omega
        obtain ⟨zv, hzv, hzc⟩ := zeroD_spec hz
        have hz' := constD_ok (w := w) (S := S) hzc
        have hrow := zero_row hz' c1 c2 len
        have main : ∀ out, fillA (List.replicate len z) k (partsD X st parts.toList) = some out → ∃ us : Array Value,
            (execOp a.eval ⟨dst, .buildSlice t len parts, ty, pos, af, gd⟩).run X.P w = .ok (.value (.slice (some ⟨w.heap.size, 0, none⟩) len len)) (w.alloc (.cells us e (0, 0))) ∧ HasC w S (flat out) us.toList ∧ out.length = len ∧ (∀ d ∈ out, d.cells.length = k) ∧ us.size = len * k := fun out ho => by
          obtain ⟨us, h1, h2, h3, h4⟩ := run_fillA (w := w) (S := S) (partsD X st parts.toList) (parts.toList.map fun (i, x) => (i, a.eval x)) (List.replicate len z) _ out (by rw [partsD_length]; simp) (parts_ok R A parts.toList) hrow
            (fun d hd => by rw [List.eq_of_mem_replicate hd]; exact c2) ho
          have h3' : out.length = len := by simpa using h3
          refine ⟨us, ?_, h2, h3', h4, by have := h2.len; rw [flat_length out h4, h3'] at this; simp at this; omega⟩
          have e1 : (parts.map fun (i, x) => (i, a.eval x)).toList = parts.toList.map fun (i, x) => (i, a.eval x) := by simp
          simp only [execOp, Instr.buildSlice, Sem.run_bind, run_underlying_of (sliceElem_eq hs), Result.andThen_ok, run_sizeOf hk, Sem.run_ite]
          rw [if_neg (by omega)]
          by_cases h0 : len * k = 0
          · rw [if_pos h0]
            have earr : ((Array.range (len * k)).map fun i => (#[] : Array Value)[i % (#[] : Array Value).size]!) = (Array.range (len * k)).map fun i => zv.cells[i % zv.cells.size]! := by
              rw [h0]; simp
            simp only [Sem.run_pure, Result.andThen_ok, earr, e1, h1]
            simp [newRow]
          · rw [if_neg h0]
            simp only [run_zeroValue hzv, Sem.run_pure, Result.andThen_ok, e1, h1]
            simp [newRow]
        split at h
        · rename_i es ho
          cases h
          obtain ⟨us, hr, hc, hl, hsz, hus⟩ := main es ho
          have hbig : es.length ≤ 140737488355328 := by
            rw [hl]
            have : len * 1 ≤ len * k := Nat.mul_le_mul_left _ k0
            omega
          obtain ⟨h1, h2⟩ := newFull (N := N) R e k0 hbig hsz hc
          rw [hl] at h2
          exact ⟨_, _, _, hr, rfl, h1, h2⟩
        · cases h
    · cases h
  · cases h

theorem growBy_le (n : Nat) : ∀ (r c : Nat), c ≤ n + (n + 768) / 4 → Builtin.growBy n r c ≤ n + (n + 768) / 4
  | 0, c, h => h
  | r + 1, c, h => by
    unfold Builtin.growBy
    split
    · exact h
    · exact growBy_le n r _ (by omega)

theorem nextslicecap_le (n c : Nat) (h : c < n) : Builtin.nextslicecap n c ≤ 2 * n + 192 := by
  unfold Builtin.nextslicecap
  split
  · omega
  · split
    · omega
    · have := growBy_le n 4 c (by omega); omega

theorem chunks_length (k : Nat) : ∀ (n : Nat) (cs : List D), (chunks k n cs).length = n
  | 0, _ => rfl
  | n + 1, cs => by simp [chunks, chunks_length k n]
theorem mkEl_cells {k : Nat} {cs : List D} (hok : ∀ c ∈ cs, c.isCell = true) : (mkEl k cs).cells = cs := by
  unfold mkEl
  split
  · rename_i c
    have := hok c (List.mem_cons_self ..)
    cases c <;> first | rfl | cases this
  · rfl
theorem chunks_cells (k : Nat) : ∀ (n : Nat) (cs : List D), 0 < k → (∀ c ∈ cs, c.isCell = true) → n * k ≤ cs.length → ∀ d ∈ chunks k n cs, d.cells.length = k
  | 0, _, _, _, _, d, h => by simp [chunks] at h
  | n + 1, cs, hk, hok, hl, d, h => by
    rw [Nat.succ_mul] at hl
    simp only [chunks, List.mem_cons] at h
    rcases h with rfl | h
    · rw [mkEl_cells (fun c hc => hok c (List.mem_of_mem_take hc)), List.length_take]; omega
    · exact chunks_cells k n (cs.drop k) hk (fun c hc => hok c (List.mem_of_mem_drop hc)) (by rw [List.length_drop]; omega) d h
theorem flat_chunks (k : Nat) : ∀ (n : Nat) (cs : List D), 0 < k → (∀ c ∈ cs, c.isCell = true) → n * k ≤ cs.length → flat (chunks k n cs) = cs.take (n * k)
  | 0, _, _, _, _ => by simp [chunks, flat]
  | n + 1, cs, hk, hok, hl => by
    rw [Nat.succ_mul] at hl
    have ih := flat_chunks k n (cs.drop k) hk (fun c hc => hok c (List.mem_of_mem_drop hc)) (by rw [List.length_drop]; omega)
    simp only [chunks, flat, ih]
    rw [mkEl_cells (fun c hc => hok c (List.mem_of_mem_take hc)), Nat.succ_mul, Nat.add_comm (n * k) k, List.take_add]

/-- The appended cells. -/
theorem firstCells_ok (R : RelG X B w S) {x : D} {k : Nat} {xs : List D} (h : elemsOf S.m k x = some xs) {v : Value} (hv : HasV w S x v) :
    (Builtin.lenOf v).run X.P w = .ok xs.length w ∧ ∃ arr : Array Value, (Builtin.firstCells k xs.length v).run X.P w = .ok arr w ∧ HasC w S (flat xs) arr.toList ∧ arr.size = xs.length * k ∧ ∀ d ∈ xs, d.cells.length = k := by
  have nothing : HasC w S (flat []) (#[] : Array Value).toList := ⟨⟨rfl, fun j c v hc => by simp [flat] at hc⟩, fun c hc => by simp [flat] at hc⟩
  unfold elemsOf at h
  split at h
  · rename_i id off len k'
    by_cases hk : k' = k
    · subst hk
      simp only [decide_true, cond_true] at h
      unfold elemsR at h
      split at h
      · rename_i cs hcs
        by_cases hb : off + len * k' ≤ cs.length
        · simp only [hb, decide_true, cond_true] at h
          cases h
          cases hv with
          | rsl _ _ _ _ b cap hk0 hlc hbb _ =>
            obtain ⟨vs, t, fr, hh, _, hsz, hc⟩ := R.boxes id b cs hbb hcs
            have L := lies_of_pre hh hsz hc
            have hlc' : (chunks k' len (cs.drop off)).length = len := chunks_length k' len _
            have hok : ∀ c ∈ cs.drop off, c.isCell = true := fun c hc => L.ok c (List.mem_of_mem_drop hc)
            have hfl : len * k' ≤ (cs.drop off).length := by rw [List.length_drop]; omega
            have hr := run_loadCells (P := X.P) w ⟨b, off, none⟩ (len * k') (fun j => vs.getD (off + j) undef) (fun j hj => by
              rw [add_none, cell_of_row w b _ vs t fr hh]
              have : off + j < vs.size := by omega
              simp [Array.getD, this])
            refine ⟨by simp [Builtin.lenOf, hlc'], _, by simp only [Builtin.firstCells, hlc']; exact hr, ?_, by simp [hlc'], chunks_cells k' len _ hk0 hok hfl⟩
            rw [flat_chunks k' len _ hk0 hok hfl]
            refine ⟨⟨by simp; omega, fun j c v hj hv => ?_⟩, fun c hc => hok c (List.mem_of_mem_take hc)⟩
            have hj' : j < len * k' := by
              have := lt_of_get hj
              simp at this; omega
            rw [List.getElem?_take_of_lt hj', List.getElem?_drop] at hj
            simp [hj'] at hv
            subst hv
            refine hc.at_ (off + j) c _ hj ?_
            rw [List.getElem?_take_of_lt (by omega)]
            have : off + j < vs.size := by omega
            simp [Array.getD, this]
        · simp [hb] at h
      · cases h
    · simp [hk] at h
  · rename_i tg k' es
    by_cases hk : k' = k
    · subst hk
      simp at h; subst h
      obtain ⟨p, cap, rfl, arr, hr, hc, hs, hsz⟩ := loadRow (X := X) hv
      exact ⟨by simp [Builtin.lenOf], arr, by simpa [Builtin.firstCells] using hr, hc, hs, hsz⟩
    · simp [hk] at h
  · cases h
    rw [hasNil hv]
    exact ⟨by simp [Builtin.lenOf], #[], by simp [Builtin.firstCells], nothing, by simp, fun d hd => by cases hd⟩
  · cases h

theorem oneCell_of {c : D} {v : Value} (h : HasV w S c v) (hc : c.isCell = true) : v.oneCell' = true := by
  cases h <;> first | rfl | assumption | cases hc

theorem oneCells {cs : List D} {vs : List Value} (h : HasC w S cs vs) : ∀ v ∈ vs, v.oneCell' = true := fun v hv => by
  obtain ⟨j, hj⟩ := List.getElem?_of_mem hv
  have hlt := lt_of_get hj
  have hl := h.len
  have hc : cs[j]? = some cs[j] := List.getElem?_eq_getElem (by omega)
  exact oneCell_of (h.at_ j _ v hc hj) (h.cell _ (List.getElem_mem _))

/-- The grown branch of append: a new block with the old cells, the new ones, and room. -/
theorem append_grow {t u e e' k sLen sCap n : Nat} {base : Option Addr} {vx : Value} (hs : sliceElem X.P t = some e) (hu : sliceElem X.P u = some e') (hk : szOf X.P e = some k) (hb : bytesOk X.P e = true)
    {old new : Array Value} (hold : (Builtin.firstCells k sLen (.slice base sLen sCap)).run X.P w.drew = .ok old w.drew) (hln : (Builtin.lenOf vx).run X.P w = .ok n w)
    (hnew : (Builtin.firstCells k n vx).run X.P w.drew = .ok new w.drew)
    (hso : old.size = sLen * k) (hsn : new.size = n * k) (hle : sLen + n ≤ 16777216) (hgt : sCap < sLen + n) {zv : Value} (hz : (X.P.info? e).bind (·.zero) = some zv) (hzk : zv.cells.size = k) (ty : Nat) :
    ∃ (cap : Nat) (vs : Array Value), (Builtin.append_ #[t, u] ty #[.slice base sLen sCap, vx]).run X.P w = .ok (.slice (some ⟨w.heap.size, 0, none⟩) (sLen + n) cap) (w.drew.alloc (.cells vs e (0, 0))) ∧
      sLen + n ≤ cap ∧ vs.size = cap * k ∧ vs.toList.take ((sLen + n) * k) = old.toList ++ new.toList := by
  obtain ⟨i, hi, hi1, hi2⟩ := bytesOk_spec hb
  have hik := szOf_info hi hk
  let q : Question := .appendCap (sLen + n) sCap e
  let cap := q.cut (w.tape w.drawn q)
  have hcap : sLen + n ≤ cap := by show sLen + n ≤ sLen + n + _; omega
  let rest := Builtin.zeroCells zv.cells (cap - (sLen + n))
  have hrest : rest.size = (cap - (sLen + n)) * k := by simp [rest, Builtin.zeroCells, hzk]
  refine ⟨cap, old ++ new ++ rest, ?_, hcap, ?_, ?_⟩
  · have hnc := nextslicecap_le (sLen + n) sCap hgt
    have hbig : ¬ Builtin.nextslicecap (sLen + n) sCap * i.bytes > 2 ^ 48 := by
      have : Builtin.nextslicecap (sLen + n) sCap * i.bytes ≤ (2 * 16777216 + 192) * 4096 := Nat.mul_le_mul (by omega) hi2
      omega
    have hti : ∀ W : World, (typeInfo e).run X.P W = .ok i W := fun W => by simp [typeInfo, hi]
    have hzz : ∀ W : World, (zeroValue e).run X.P W = .ok zv W := fun W => run_zeroValue hz W
    have hneed : ¬ (sLen + n ≤ sCap) := by omega
    have hneed2 : ¬ (((sLen + n : Nat) : Int) > IntKind.i64.max) := by show ¬ _ > (9223372036854775807 : Int); omega
    unfold Builtin.append_
    have hch : (choose q).run X.P w = .ok cap w.drew := by simp [choose, Sem.run, q, cap, Question.forced]
    simp [run_underlying_of (sliceElem_eq hs), run_underlying_of (sliceElem_eq hu), run_sizeOf hk, hln, hneed, hti]
    rw [if_neg (fun h => by omega), if_neg (by omega)]
    rw [if_neg (by simp [Question.forced])]
    simp only [hold, hnew, hzz, Result.andThen_ok, newRow, Sem.run_bind, run_newObj, Sem.run_pure, World.alloc_eq]
    congr 2
  · simp [hso, hsn, hrest, Nat.add_mul, Nat.sub_mul]
    have : sLen * k + n * k ≤ cap * k := by rw [← Nat.add_mul]; exact Nat.mul_le_mul_right _ hcap
    omega
  · simp only [Array.toList_append]
    rw [List.take_append_of_le_length (by simp [hso, hsn, Nat.add_mul])]
    rw [List.take_of_length_le (by simp [hso, hsn, Nat.add_mul])]

theorem rowPrefix {tg : Option Nat} {k b cap : Nat} {es : List D} {vs : Array Value} {t : TypeId} {fr : Nat × Nat} (h : HasV w S (.slice tg k es) (.slice (some ⟨b, 0, none⟩) es.length cap))
    (hh : w.heap[b]? = some (.cells vs t fr)) : HasC w S (flat es) (vs.toList.take (es.length * k)) ∧ (∀ d ∈ es, d.cells.length = k) := by
  generalize hv : Value.slice (some ⟨b, 0, none⟩) es.length cap = v at h
  cases h with
  | slice0 _ _ p cap' h =>
    simp only [Value.slice.injEq, Option.some.injEq] at hv
    exact ⟨⟨⟨by simp [flat], fun j c v hc => by simp [flat] at hc⟩, fun c hc => by simp [flat] at hc⟩, fun d hd => by cases hd⟩
  | slice _ _ _ b' off cap' vals hk hcap hbig hsz hcl hvis htag hcell hvv =>
    simp only [Value.slice.injEq, Option.some.injEq, Addr.mk.injEq] at hv
    obtain ⟨⟨rfl, rfl, _⟩, _, rfl⟩ := hv
    have hfl := flat_length es hsz
    have hcc : ∀ (j : Nat) (c : D), (flat es)[j]? = some c → vs[j]? = some (vals j) := fun j c hj => by
      have := hcell j c hj
      rw [Nat.zero_add, cell_of_row w _ j vs t fr hh] at this
      exact this
    refine ⟨⟨⟨?_, fun j c v hc hv' => ?_⟩, hcl⟩, hsz⟩
    · rw [hfl]
      rcases Nat.eq_zero_or_pos (es.length * k) with h0 | h0
      · rw [h0]; simp
      · have hl := hcc (es.length * k - 1) _ (List.getElem?_eq_getElem (by omega))
        have : es.length * k - 1 < vs.size := by
          rcases Nat.lt_or_ge (es.length * k - 1) vs.size with h | h
          · exact h
          · rw [Array.getElem?_eq_none h] at hl; cases hl
        simp; omega
    · have hj := lt_of_get hc
      rw [List.getElem?_take_of_lt (by omega)] at hv'
      have := hcc j c hc
      rw [← Array.getElem?_toList, hv'] at this
      cases this
      exact hvv j c hc

theorem fullCap {k : Nat} {es : List D} {v : Value} (h : HasV w S (.slice (some 0) k es) v) : ∃ p, v = .slice (some p) es.length es.length := by
  cases h with
  | slice0 _ _ p cap h =>
    rcases h with h | ⟨_, rfl⟩
    · cases h
    · exact ⟨p, rfl⟩
  | slice _ _ _ b off cap vals hk hcap hbig hsz hcl hvis htag hcell hvv =>
    have : es.length = cap := htag
    subst this
    exact ⟨_, rfl⟩

theorem tokSlice (R : RelG X B w S) {id k : Nat} {es : List D} {v : Value} (h : HasV w S (.slice (some (id + 1)) k es) v) (hm : S.m.toks[id]? = some es.length) :
    ∃ (b cap : Nat) (vs : Array Value) (t : TypeId), v = .slice (some ⟨b, 0, none⟩) es.length cap ∧ es.length ≤ cap ∧ S.tb[id]? = some (b, k) ∧ w.heap[b]? = some (.cells vs t (0, 0)) ∧ vs.size = cap * k := by
  cases h with
  | slice0 _ _ p cap h => rcases h with h | ⟨h, _⟩ <;> cases h
  | slice _ _ _ b off cap vals hk hcap hbig hsz hcl hvis htag hcell hvv =>
    obtain ⟨rfl, mk, b', h1, h2, h3, h4⟩ := htag
    rw [hm] at h1; cases h1
    obtain ⟨rfl, t, hsh⟩ := h4 rfl
    obtain ⟨_, vs, t', hh, _⟩ := R.toks id _ k _ h2 hm
    refine ⟨_, cap, vs, t', rfl, hcap, h2, hh, ?_⟩
    unfold World.shape? at hsh
    rw [hh] at hsh
    simp only [Option.some.injEq, Prod.mk.injEq] at hsh
    exact hsh.2

theorem run_storeCells_open {P : Program} (g o : Nat) (t : TypeId) (fr : Nat × Nat) : ∀ (vs : List Value) (i : Nat) (cur : Array Value) (w : World), w.heap[g]? = some (.cells cur t fr) → OpenR cur fr → o + i + vs.length ≤ cur.size → (∀ v ∈ vs, v.oneCell' = true) →
    (storeCells ⟨g, o, none⟩ vs i).run P w = .ok () (w.setRow g (cur.toList.take (o + i) ++ vs ++ cur.toList.drop (o + i + vs.length)).toArray)
  | [], i, cur, w, hg, _, _, _ => by
    simp only [storeCells, List.append_nil, List.length_nil, Nat.add_zero, List.take_append_drop, Array.toArray_toList]
    rw [setRow_self w g cur t fr hg]
    rfl
  | v :: rest, i, cur, w, hg, ho, hl, h1 => by
    have hi : o + i < cur.size := by simp at hl; omega
    have hadd : (⟨g, o, none⟩ : Addr).add i = ⟨g, o + i, none⟩ := by unfold Addr.add; split <;> simp_all
    have hcell : w.cell? ⟨g, o + i, none⟩ = some cur[o + i] := by simp [World.cell?, hg, hi]
    have hfro : w.frozen? ⟨g, o + i, none⟩ = false := by
      have := ho (o + i) hi
      obtain ⟨lo, hi'⟩ := fr
      simp only [World.frozen?, hg, Bool.and_eq_false_iff, decide_eq_false_iff_not]
      simp only at this
      omega
    have hst : (store ((⟨g, o, none⟩ : Addr).add i) v).run P w = .ok () (w.setRow g (cur.setIfInBounds (o + i) v)) := by
      rw [hadd, run_store P w _ v _ (h1 v (by simp)), hcell]
      simp [hfro, setCell_eq_setRow w g (o + i) cur t fr v hg]
    have ih := run_storeCells_open (P := P) g o t fr rest (i + 1) (cur.setIfInBounds (o + i) v) (w.setRow g (cur.setIfInBounds (o + i) v)) (setRow_heap w g cur _ t _ hg) (fun j hj => ho j (by simpa using hj)) (by simp at hl ⊢; omega) (fun x hx => h1 x (by simp [hx]))
    simp only [storeCells, Sem.run_bind, hst, Result.andThen_ok, ih, setRow_setRow]
    congr 3
    have e := list_seg_step cur.toList (o + i) v rest (by simp at hl ⊢; omega)
    simpa [Array.toList_setIfInBounds, Nat.add_assoc] using e

theorem append_ok (R : RelG X B w S) (A : RelA N w S st lb a) {args : Array Operand} {tys : Array Nat} {d : D} {m' : Mem} {dst : Option Nat} {ty : Nat} {pos : String} {af : Array Edge} {gd : Option (Nat × Bool)} {bx : Bool}
    (h : makeD X bx S.m st (.call ⟨.builtin .append, args, tys⟩) = some (d, m')) :
    ∃ v w' S', (execOp a.eval ⟨dst, .call ⟨.builtin .append, args, tys⟩, ty, pos, af, gd⟩).run X.P w = .ok (.value v) w' ∧ S'.m = m' ∧ Step X B N w S w' S' ∧ HasV w' S' d v := by
  simp only [makeD] at h
  split at h
  · rename_i sO xO t u hargs htys
    have ha : args = #[sO, xO] := by apply Array.ext'; simpa using hargs
    have ht : tys = #[t, u] := by apply Array.ext'; simpa using htys
    subst ha; subst ht
    split at h
    · rename_i e k k' hs hsk huk
      split at h
      · rename_i xs es hb hz hx hss
        cases hc : (decide (k' = k) && decide (es.length + xs.length ≤ 16777216)) with
        | false => rw [hc] at h; cases h
        | true =>
          rw [hc] at h
          simp only [cond_true] at h
          simp only [Bool.and_eq_true, decide_eq_true_eq] at hc
          obtain ⟨rfl, hle⟩ := hc
          obtain ⟨e', hu, _⟩ := sliceSz_spec huk
          have hk : szOf X.P e = some k' := by
            obtain ⟨e2, h1, h2⟩ := sliceSz_spec hsk
            rw [hs] at h1; cases h1; exact h2
          have hvx := ev_ok R A xO
          have hvs := ev_ok R A sO
          obtain ⟨i, hi, hi1, hi2⟩ := bytesOk_spec hb
          have hik := szOf_info hi hk
          have k0 : 0 < k' := by omega
          have exec : ∀ v w', (Builtin.append_ #[t, u] ty #[a.eval sO, a.eval xO]).run X.P w = .ok v w' →
              (execOp a.eval ⟨dst, .call ⟨.builtin .append, #[sO, xO], #[t, u]⟩, ty, pos, af, gd⟩).run X.P w = .ok (.value v) w' := fun v w' hr => by
            simp [execOp, resolve, invoke, builtin, hr]
          obtain ⟨hln, arr, hfx, hcx, hsx, hkx⟩ := firstCells_ok R hx hvx
          -- the run where it fits
          have fits : ∀ base sLen sCap, a.eval sO = .slice base sLen sCap → sLen + xs.length ≤ sCap → ∀ w', (match base with | some p => storeCells (p.add (sLen * k')) arr.toList | none => pure ()).run X.P w = .ok () w' →
              (Builtin.append_ #[t, u] ty #[a.eval sO, a.eval xO]).run X.P w = .ok (.slice base (sLen + xs.length) sCap) w' := fun base sLen sCap he hfit w' hst => by
            unfold Builtin.append_
            simp [run_underlying_of (sliceElem_eq hs), run_underlying_of (sliceElem_eq hu), run_sizeOf hk, hln, he, hfit, hfx]
            cases base with
            | none => simp at hst; simp [hst]
            | some p => simp at hst; simp [hst]
          -- zero value
          obtain ⟨zv, hzv, hzk⟩ : ∃ zv : Value, (X.P.info? e).bind (·.zero) = some zv ∧ zv.cells.size = k' := by
            unfold zeroOk at hz
            split at hz
            · rename_i z hz'
              simp only [Bool.and_eq_true, decide_eq_true_eq] at hz
              obtain ⟨zv, h1, h2⟩ := zeroD_spec hz'
              have := (okC_cells (constD_ok (w := w) (S := S) h2) hz.1).len
              exact ⟨zv, h1, by simp at this; omega⟩
            · cases hz
          -- the world behind the draw
          have ED : Ext N w S w.drew S := Ext.ofHeap rfl rfl rfl rfl
          have RD : RelG X B w.drew S := R.ofHeap rfl rfl rfl rfl
          obtain ⟨_, arr1, hfx1, hcx1, hsx1, _⟩ := firstCells_ok RD hx (hvx.mono ED R.tidy)
          have newRowCase : ∀ base, a.eval sO = .slice base es.length es.length → (∃ arr0 : Array Value, (Builtin.firstCells k' es.length (.slice base es.length es.length)).run X.P w.drew = .ok arr0 w.drew ∧ HasC w.drew S (flat es) arr0.toList ∧ arr0.size = es.length * k' ∧ ∀ d ∈ es, d.cells.length = k') → 0 < xs.length →
              ∃ v w' S', (execOp a.eval ⟨dst, .call ⟨.builtin .append, #[sO, xO], #[t, u]⟩, ty, pos, af, gd⟩).run X.P w = .ok (.value v) w' ∧ S'.m = { S.m with toks := S.m.toks ++ [(es ++ xs).length] } ∧ Step X B N w S w' S' ∧
                HasV w' S' (.slice (some (S.m.toks.length + 1)) k' (es ++ xs)) v := fun base he ⟨arr0, hold, hc0, hs0, hk0⟩ hpos => by
            obtain ⟨cap, vs, hr, hcap, hsz, htk⟩ := append_grow hs hu hk hb hold hln hfx1 hs0 hsx1 hle (by omega) hzv hzk ty
            rw [← he] at hr
            have hle2 : (es ++ xs).length ≤ 140737488355328 := by rw [List.length_append]; omega
            have hcap2 : (es ++ xs).length ≤ cap := by rw [List.length_append]; exact hcap
            obtain ⟨st1, hv1⟩ := newTok (N := N) RD e k0 hle2 hcap2 hsz (fun d hd => (List.mem_append.1 hd).elim (hk0 d) (hkx d)) (by rw [List.length_append, htk, flat_append]; exact hasC_append hc0 hcx1)
            refine ⟨_, _, _, exec _ _ hr, ?_, ⟨st1.rel, ED.trans R.tidy st1.ext, fun b hb => st1.priv b hb, st1.muK⟩, by rw [← List.length_append]; exact hv1⟩
            simp [Sh.addTok]
          cases bx with
          | true =>
            simp only at h
            have newBoxCase : ∀ base, a.eval sO = .slice base es.length es.length → (∃ arr0 : Array Value, (Builtin.firstCells k' es.length (.slice base es.length es.length)).run X.P w.drew = .ok arr0 w.drew ∧ HasC w.drew S (flat es) arr0.toList ∧ arr0.size = es.length * k' ∧ ∀ d ∈ es, d.cells.length = k') → 0 < xs.length →
                ∃ v w' S', (execOp a.eval ⟨dst, .call ⟨.builtin .append, #[sO, xO], #[t, u]⟩, ty, pos, af, gd⟩).run X.P w = .ok (.value v) w' ∧ S'.m = { S.m with boxes := S.m.boxes ++ [flat (es ++ xs)] } ∧ Step X B N w S w' S' ∧
                  HasV w' S' (.rsl S.m.boxes.length 0 (es ++ xs).length k') v := fun base he ⟨arr0, hold, hc0, hs0, hk0⟩ hpos => by
              obtain ⟨cap, vs, hr, hcap, hsz, htk⟩ := append_grow hs hu hk hb hold hln hfx1 hs0 hsx1 hle (by omega) hzv hzk ty
              rw [← he] at hr
              have hkk : ∀ d ∈ es ++ xs, d.cells.length = k' := fun d hd => (List.mem_append.1 hd).elim (hk0 d) (hkx d)
              have hfl := flat_length (es ++ xs) hkk
              have hcc : HasC w.drew S (flat (es ++ xs)) (vs.toList.take (flat (es ++ xs)).length) := by
                rw [hfl, List.length_append, htk, flat_append]; exact hasC_append hc0 hcx1
              have hlen : (flat (es ++ xs)).length ≤ vs.size := by
                rw [hfl, hsz, List.length_append]; exact Nat.mul_le_mul_right _ hcap
              obtain ⟨st1, hv1⟩ := newBoxV (N := N) RD e k0 (show (es ++ xs).length ≤ cap ∧ (es ++ xs).length ≤ 140737488355328 by rw [List.length_append]; exact ⟨hcap, by omega⟩) (openR_zero vs) hlen (by rw [hsz]; exact Nat.le_refl _) hcc
              exact ⟨_, _, _, exec _ _ hr, by simp [Sh.addBox], ⟨st1.rel, ED.trans R.tidy st1.ext, fun b hb => st1.priv b hb, st1.muK⟩, by rw [← List.length_append]; exact hv1⟩
            cases xs with
            | nil =>
              simp only [appendB] at h
              have harr : arr = #[] := by
                apply Array.ext'
                have : arr.toList.length = 0 := by simpa using hsx
                rw [List.length_eq_zero_iff.1 this]
              subst harr
              cases hd : ev X st sO <;> rw [hd] at hss hvs h <;> first | (simp [elemsOf] at hss; done) | (cases h; done) | skip
              · cases h
                obtain ⟨p, cap, hp, hcap⟩ := hasSlice' hvs
                have hr := fits (some p) _ cap hp (by simpa using hcap) w (by simp [storeCells])
                refine ⟨_, w, S, exec _ _ hr, rfl, ⟨R, Ext.refl N w S, fun _ _ => rfl, fun _ h => h⟩, ?_⟩
                rw [List.length_nil, Nat.add_zero, ← hp]; exact hvs
              · cases h
                have hr := fits none 0 0 (hasNil hvs) (by simp) w (by simp)
                refine ⟨_, w, S, exec _ _ hr, rfl, ⟨R, Ext.refl N w S, fun _ _ => rfl, fun _ h => h⟩, ?_⟩
                exact .nil
            | cons x0 xr =>
              simp only [appendB] at h
              cases hd : ev X st sO <;> rw [hd] at h hss hvs <;> first | (cases h; done) | skip
              · rename_i tg k2 es2
                cases tg with
                | none => cases h
                | some id1 =>
                cases id1 with
                | succ id => cases h
                | zero =>
                  cases h
                  have hk2 : k2 = k' ∧ es2 = es := by
                    simp only [elemsOf] at hss
                    by_cases hkk : k2 = k'
                    · simp [hkk] at hss; exact ⟨hkk, hss⟩
                    · simp [hkk] at hss
                  obtain ⟨rfl, rfl⟩ := hk2
                  obtain ⟨p, hp⟩ := fullCap hvs
                  obtain ⟨p', cap', hp', arr0, hl0, hc0, hs0, hk0⟩ := loadRow (X := X) (hvs.mono ED R.tidy)
                  rw [hp] at hp'
                  simp only [Value.slice.injEq, Option.some.injEq] at hp'
                  obtain ⟨rfl, _, rfl⟩ := hp'
                  exact newBoxCase (some p) hp ⟨arr0, by simpa [Builtin.firstCells] using hl0, hc0, hs0, hk0⟩ (by simp)
              · cases h
                have hes : es = [] := by simpa [elemsOf] using hss.symm
                subst hes
                have := newBoxCase none (hasNil hvs) ⟨#[], by simp [Builtin.firstCells], ⟨⟨rfl, fun j c v hc => by simp [flat] at hc⟩, fun c hc => by simp [flat] at hc⟩, by simp, fun d hd => by cases hd⟩ (by simp)
                simpa using this
              · rename_i id off len k2
                simp only at h
                split at h
                · rename_i cs hcs
                  by_cases hcd : k2 = k' ∧ off = 0 ∧ cs.length = len * k2 ∧ 0 < len
                  · obtain ⟨rfl, rfl, hcl, hpos⟩ := hcd
                    simp [hcl, hpos] at h
                    obtain ⟨rfl, rfl⟩ := h
                    obtain ⟨hln0, arr0, hf0, hc0, hs0, hk0⟩ := firstCells_ok RD hss (hvs.mono ED R.tidy)
                    have hes : es.length = len := by
                      simp only [elemsOf, decide_true, cond_true, elemsR] at hss
                      rw [hcs] at hss
                      simp only [Nat.zero_add, hcl, Nat.le_refl, decide_true, cond_true, Option.some.injEq] at hss
                      rw [← hss, chunks_length]
                    have hkk : ∀ d ∈ es ++ x0 :: xr, d.cells.length = k2 := fun d hd => (List.mem_append.1 hd).elim (hk0 d) (hkx d)
                    have hfl := flat_length (es ++ x0 :: xr) hkk
                    generalize hvx' : a.eval sO = vx at hvs hf0
                    cases hvs with
                    | rsl _ _ _ _ b cap hkp hl hbb hsh =>
                      obtain ⟨vs, t0, fr, hh, ho, hsz, hcc⟩ := R.boxes id b cs hbb hcs
                      have hne : cs ≠ [] := fun e => by
                        rw [e] at hcl
                        have : 0 < len * k2 := Nat.mul_pos hpos k0
                        simp at hcl; omega
                      obtain ⟨t1, sz1, hs1, hs2⟩ := hsh
                      have hcap : cap * k2 ≤ vs.size := by
                        unfold World.shape? at hs1
                        rw [hh] at hs1
                        simp only [Option.some.injEq, Prod.mk.injEq] at hs1
                        omega
                      have EK : Ext N w S w (S.killBox id) := Ext.kill id
                      have RK := R.kill id
                      have hlb : (S.killBox id).m.boxes.length = S.m.boxes.length := by simp [Sh.killBox]
                      by_cases hfit : es.length + (x0 :: xr).length ≤ cap
                      · have hpl : es.length * k2 + (x0 :: xr).length * k2 ≤ vs.size := by rw [← Nat.add_mul]; exact Nat.le_trans (Nat.mul_le_mul_right _ hfit) hcap
                        have hst := run_storeCells_open (P := X.P) b (es.length * k2) t0 fr arr.toList 0 vs w hh ho (by simp [hsx] at hpl ⊢; omega) (oneCells hcx)
                        have hr := fits (some ⟨b, 0, none⟩) es.length cap (by rw [hvx', hes]) hfit _ (by
                          show (storeCells ((⟨b, 0, none⟩ : Addr).add (es.length * k2)) arr.toList).run X.P w = _
                          rw [add_none, Nat.zero_add]; exact hst)
                        simp only [Nat.add_zero] at hr
                        have hsz' : (vs.toList.take (es.length * k2) ++ arr.toList ++ vs.toList.drop (es.length * k2 + arr.toList.length)).toArray.size = vs.size := by
                          simp [hsx] at hpl ⊢; omega
                        have hdead : ∀ (i : Nat) (c : List D), (S.killBox id).bb[i]? = some b → (S.killBox id).m.boxes[i]? = some c → c = [] := fun i c h1 h2 => by
                          rcases kill_get h2 with ⟨_, e, _⟩ | ⟨e, h2⟩
                          · exact e
                          · by_cases hc : c = []
                            · exact hc
                            · exact absurd (R.bbInj i id b c cs h1 hbb h2 hcs hc hne) e
                        have hcold : HasC w S (flat es) (vs.toList.take (es.length * k2)) := by
                          simp only [elemsOf, decide_true, cond_true, elemsR] at hss
                          rw [hcs] at hss
                          simp only [Nat.zero_add, hcl, Nat.le_refl, decide_true, cond_true, Option.some.injEq, List.drop_zero] at hss
                          have hok : ∀ c ∈ cs, c.isCell = true := hcc.cell
                          rw [← hss, flat_chunks k2 len cs k0 hok (by omega), List.take_of_length_le (by omega), chunks_length, ← hcl]
                          exact hcc
                        have e1 : (vs.toList.take (es.length * k2) ++ arr.toList ++ vs.toList.drop (es.length * k2 + arr.toList.length)).toArray.toList.take (flat (es ++ x0 :: xr)).length = vs.toList.take (es.length * k2) ++ arr.toList := by
                          have hl1 : (vs.toList.take (es.length * k2) ++ arr.toList).length = (flat (es ++ x0 :: xr)).length := by
                            have l1 : (vs.toList.take (es.length * k2)).length = es.length * k2 := List.length_take_of_le (by rw [Array.length_toList]; exact Nat.le_trans (Nat.le_add_right _ _) hpl)
                            have l2 : arr.toList.length = (x0 :: xr).length * k2 := by rw [Array.length_toList]; exact hsx
                            rw [List.length_append, l1, l2, hfl, List.length_append, Nat.add_mul]
                          show List.take _ (_ ++ _) = _
                          rw [← hl1, List.take_left']
                          rfl
                        have hnew : HasC w (S.killBox id) (flat (es ++ x0 :: xr)) ((vs.toList.take (es.length * k2) ++ arr.toList ++ vs.toList.drop (es.length * k2 + arr.toList.length)).toArray.toList.take (flat (es ++ x0 :: xr)).length) := by
                          rw [e1, flat_append]
                          exact (hasC_append hcold hcx).mono EK R.tidy
                        have hlen : (flat (es ++ x0 :: xr)).length ≤ (vs.toList.take (es.length * k2) ++ arr.toList ++ vs.toList.drop (es.length * k2 + arr.toList.length)).toArray.size := by
                          rw [hsz', hfl, List.length_append, Nat.add_mul]; exact hpl
                        have hbm : b ∈ (S.killBox id).bb := List.mem_of_getElem? hbb
                        have ho' : OpenR (vs.toList.take (es.length * k2) ++ arr.toList ++ vs.toList.drop (es.length * k2 + arr.toList.length)).toArray fr := fun j hj => ho j (by rw [hsz'] at hj; exact hj)
                        have R' := RK.alias hbm hdead hh hsz' ho' hlen hnew
                        have E' := EK.trans R.tidy (Ext.alias (N := N) RK hbm _ (flat (es ++ x0 :: xr)) hh hsz')
                        refine ⟨_, _, _, exec _ _ hr, ?_, ⟨R', E', fun c hc => setRow_other w b c _ (fun x => by subst x; exact R.bbMu _ (List.mem_of_getElem? hbb) hc), fun _ h => h⟩, ?_⟩
                        · simp [Sh.addBox, Sh.killBox]
                        · rw [← show (es ++ x0 :: xr).length = es.length + (x0 :: xr).length from List.length_append]
                          rw [show es.length + (xr.length + 1) = (es ++ x0 :: xr).length by simp]
                          refine .rsl _ 0 _ k2 b cap k0 ⟨?_, ?_⟩ ?_ ⟨t0, vs.size, ?_, by omega⟩
                          · rw [List.length_append]; exact hfit
                          · rw [List.length_append]; omega
                          · rw [← hlb, ← RK.bbLen]; simp [Sh.addBox]
                          · unfold World.shape?; rw [setRow_heap w b vs _ _ _ hh]; simp only [hsz']
                      · have hold : (Builtin.firstCells k2 es.length (.slice (some ⟨b, 0, none⟩) es.length cap)).run X.P w.drew = .ok arr0 w.drew := by rw [← hes] at hf0; exact hf0
                        obtain ⟨cap2, vs2, hr, hcap2, hsz2, htk⟩ := append_grow hs hu hk hb hold hln hfx1 hs0 hsx1 hle (by omega) hzv hzk ty
                        rw [show (Value.slice (some ⟨b, 0, none⟩) es.length cap) = a.eval sO by rw [hvx', hes]] at hr
                        have RKD := RD.kill id
                        have EKD : Ext N w.drew S w.drew (S.killBox id) := Ext.kill id
                        have hcc2 : HasC w.drew (S.killBox id) (flat (es ++ x0 :: xr)) (vs2.toList.take (flat (es ++ x0 :: xr)).length) := by
                          rw [hfl, List.length_append, htk, flat_append]; exact (hasC_append hc0 hcx1).mono EKD RD.tidy
                        have hlen : (flat (es ++ x0 :: xr)).length ≤ vs2.size := by
                          rw [hfl, hsz2, List.length_append]; exact Nat.mul_le_mul_right _ hcap2
                        obtain ⟨st1, hv1⟩ := newBoxV (N := N) RKD e k0 (show (es ++ x0 :: xr).length ≤ cap2 ∧ (es ++ x0 :: xr).length ≤ 140737488355328 by rw [List.length_append]; exact ⟨hcap2, by omega⟩) (openR_zero vs2) hlen (by rw [hsz2]; exact Nat.le_refl _) hcc2
                        refine ⟨_, _, _, exec _ _ hr, by simp [Sh.addBox, Sh.killBox], ⟨st1.rel, ED.trans R.tidy (EKD.trans RD.tidy st1.ext), fun b hb => st1.priv b hb, st1.muK⟩, ?_⟩
                        rw [show es.length + (xr.length + 1) = (es ++ x0 :: xr).length by simp, ← List.length_append, ← hlb]; exact hv1
                  · have : (decide (k2 = k') && (decide (off = 0) && (decide (cs.length = len * k') && decide (0 < len)))) = false := by
                      simp only [Bool.and_eq_false_iff, decide_eq_false_iff_not]
                      by_cases h1 : k2 = k'
                      · subst h1
                        by_cases h2 : off = 0
                        · by_cases h3 : cs.length = len * k2
                          · exact .inr (.inr (.inr fun h4 => hcd ⟨rfl, h2, h3, h4⟩))
                          · exact .inr (.inr (.inl h3))
                        · exact .inr (.inl h2)
                      · exact .inl h1
                    rw [this] at h; cases h
                · cases h
          | false =>
          simp only at h
          cases xs with
          | nil =>
            simp only [appendD] at h
            cases h
            have harr : arr = #[] := by
              apply Array.ext'
              have : arr.toList.length = 0 := by simpa using hsx
              rw [List.length_eq_zero_iff.1 this]
            subst harr
            cases hd : ev X st sO <;> rw [hd] at hss hvs <;> first | (simp [elemsOf] at hss; done) | skip
            · obtain ⟨p, cap, hp, hcap⟩ := hasSlice' hvs
              have hr := fits (some p) _ cap hp (by simpa using hcap) w (by simp [storeCells])
              refine ⟨_, w, S, exec _ _ hr, rfl, ⟨R, Ext.refl N w S, fun _ _ => rfl, fun _ h => h⟩, ?_⟩
              rw [List.length_nil, Nat.add_zero, ← hp]; exact hvs
            · have hr := fits none 0 0 (hasNil hvs) (by simp) w (by simp)
              refine ⟨_, w, S, exec _ _ hr, rfl, ⟨R, Ext.refl N w S, fun _ _ => rfl, fun _ h => h⟩, ?_⟩
              exact .nil
            · rename_i id off len k2
              generalize hvx' : a.eval sO = vx at hvs
              cases hvs with
              | rsl _ _ _ _ b cap hk0 hl hbb hsh =>
                have hr := fits (some ⟨b, off, none⟩) len cap hvx' (by simpa using hl.1) w (by simp [storeCells])
                exact ⟨_, w, S, exec _ _ hr, rfl, ⟨R, Ext.refl N w S, fun _ _ => rfl, fun _ h => h⟩, .rsl id off len k2 b cap hk0 hl hbb hsh⟩
          | cons x0 xr =>
            simp only [appendD] at h
            cases hd : ev X st sO <;> rw [hd] at h hss hvs <;> first | (cases h; done) | skip
            · rename_i tg k2 es2
              have hk2 : k2 = k' ∧ es2 = es := by
                simp only [elemsOf] at hss
                by_cases hkk : k2 = k'
                · simp [hkk] at hss; exact ⟨hkk, hss⟩
                · simp [hkk] at hss
              obtain ⟨rfl, rfl⟩ := hk2
              cases tg with
              | none => cases h
              | some id1 =>
              cases id1 with
              | zero =>
                simp only [decide_true, cond_true] at h
                cases h
                obtain ⟨p, hp⟩ := fullCap hvs
                obtain ⟨p', cap', hp', arr0, hl0, hc0, hs0, hk0⟩ := loadRow (X := X) (hvs.mono ED R.tidy)
                rw [hp] at hp'
                simp only [Value.slice.injEq, Option.some.injEq] at hp'
                obtain ⟨rfl, _, rfl⟩ := hp'
                exact newRowCase (some p) hp ⟨arr0, by simpa [Builtin.firstCells] using hl0, hc0, hs0, hk0⟩ (by simp)
              | succ id =>
                simp only at h
                split at h
                · rename_i n hn
                  by_cases hb2 : n = es2.length
                  · subst hb2
                    simp at h
                    obtain ⟨rfl, rfl⟩ := h
                    obtain ⟨b, cap, vs, tt, hp, hcap, htb, hh, hsz⟩ := tokSlice R hvs hn
                    have hrow := rowPrefix (hp ▸ hvs) hh
                    by_cases hfit : es2.length + (x0 :: xr).length ≤ cap
                    · have hpl : es2.length * k2 + (x0 :: xr).length * k2 ≤ vs.size := by rw [hsz, ← Nat.add_mul]; exact Nat.mul_le_mul_right _ hfit
                      have hst := run_storeCells_at X.P b (es2.length * k2) tt arr.toList 0 vs w hh (by simp [hsx] at hpl ⊢; omega) (oneCells hcx)
                      have hr := fits (some ⟨b, 0, none⟩) es2.length cap hp hfit _ (by
                        show (storeCells ((⟨b, 0, none⟩ : Addr).add (es2.length * k2)) arr.toList).run X.P w = _
                        rw [add_none, Nat.zero_add]; exact hst)
                      simp only [Nat.add_zero] at hr
                      have hsz' : (vs.toList.take (es2.length * k2) ++ arr.toList ++ vs.toList.drop (es2.length * k2 + arr.toList.length)).toArray.size = vs.size := by
                        simp [hsx] at hpl ⊢; omega
                      have hpre : ∀ j, j < es2.length * k2 → (vs.toList.take (es2.length * k2) ++ arr.toList ++ vs.toList.drop (es2.length * k2 + arr.toList.length)).toArray[j]? = vs[j]? := fun j hj => by
                        have hjv : j < vs.size := by omega
                        rw [List.getElem?_toArray, List.append_assoc, List.getElem?_append_left (by simp; omega), List.getElem?_take_of_lt hj]; simp
                      have hmk : es2.length ≤ (es2 ++ x0 :: xr).length := by simp
                      have hfit' : (es2 ++ x0 :: xr).length * k2 ≤ (vs.toList.take (es2.length * k2) ++ arr.toList ++ vs.toList.drop (es2.length * k2 + arr.toList.length)).toArray.size := by
                        rw [hsz', List.length_append, Nat.add_mul]; exact hpl
                      have E := Ext.growIn (N := N) R htb hn hmk hh hsz' hpre
                      have R' := R.growIn htb hn hmk hh hsz' hpre hfit'
                      refine ⟨_, _, _, exec _ _ hr, by simp [Sh.growTok], ⟨R', E, fun c hc => setRow_other w b c _ (fun x => by subst x; exact R.tbMu id _ k2 htb hc), fun _ h => h⟩, ?_⟩
                      have hkk : ∀ d ∈ es2 ++ x0 :: xr, d.cells.length = k2 := fun d hd => (List.mem_append.1 hd).elim (hrow.2 d) (hkx d)
                      have := mkSlice (w := w.setRow b (vs.toList.take (es2.length * k2) ++ arr.toList ++ vs.toList.drop (es2.length * k2 + arr.toList.length)).toArray) (S := S.growTok id b k2 (es2 ++ x0 :: xr).length) (id := id) (k := k2) (b := b) (cap := cap) (es := es2 ++ x0 :: xr) k0
                        (by simp at hle ⊢; omega) (by simp at hfit ⊢; omega) hkk (setRow_heap w b _ _ _ _ hh) ?_ (R.tbMu id b k2 htb) (R.tbBb id b k2 htb) ?_ ?_ ?_ (by rw [hsz', hsz]) ⟨_, Nat.le_refl _, R.okTok id b k2 htb _⟩
                      · rw [← show (es2 ++ x0 :: xr).length = es2.length + (x0 :: xr).length from List.length_append]; exact this
                      · rw [flat_append]
                        have e1 : (vs.toList.take (es2.length * k2) ++ arr.toList ++ vs.toList.drop (es2.length * k2 + arr.toList.length)).toArray.toList.take ((es2 ++ x0 :: xr).length * k2) = vs.toList.take (es2.length * k2) ++ arr.toList := by
                          have hl1 : (vs.toList.take (es2.length * k2) ++ arr.toList).length = (es2 ++ x0 :: xr).length * k2 := by
                            have l1 : (vs.toList.take (es2.length * k2)).length = es2.length * k2 := List.length_take_of_le (by rw [Array.length_toList]; exact Nat.le_trans (Nat.le_add_right _ _) hpl)
                            have l2 : arr.toList.length = (x0 :: xr).length * k2 := by rw [Array.length_toList]; exact hsx
                            rw [List.length_append, l1, l2, List.length_append, Nat.add_mul]
                          show List.take _ (_ ++ _) = _
                          rw [← hl1, List.take_left']
                          rfl
                        rw [e1]
                        exact (hasC_append hrow.1 hcx).mono E R.tidy
                      · simp only [Sh.growTok]; rw [List.getElem?_set_self (lt_of_get htb)]
                      · simp only [Sh.growTok]; rw [List.getElem?_set_self (lt_of_get hn)]
                      · intro j k3 h3
                        simp only [Sh.growTok] at h3
                        by_cases ej : id = j
                        · exact ej.symm
                        · rw [List.getElem?_set_ne ej] at h3
                          exact R.tbInj j id b k3 k2 h3 htb
                    · have hvs1 := hvs.mono ED R.tidy
                      rw [hp] at hvs1
                      obtain ⟨p', cap', hp', arr0, hl0, hc0, hs0, hk0⟩ := loadRow (X := X) hvs1
                      simp only [Value.slice.injEq, Option.some.injEq] at hp'
                      obtain ⟨rfl, _, rfl⟩ := hp'
                      have hold : (Builtin.firstCells k2 es2.length (.slice (some ⟨b, 0, none⟩) es2.length cap)).run X.P w.drew = .ok arr0 w.drew := by simpa [Builtin.firstCells] using hl0
                      obtain ⟨cap2, vs2, hr, hcap2, hsz2, htk⟩ := append_grow hs hu hk hb hold hln hfx1 hs0 hsx1 hle (by omega) hzv hzk ty
                      rw [← hp] at hr
                      have hmk : es2.length < (es2 ++ x0 :: xr).length := by simp
                      have hfit2 : (es2 ++ x0 :: xr).length * k2 ≤ vs2.size := by rw [hsz2, List.length_append]; exact Nat.mul_le_mul_right _ hcap2
                      have E := Ext.growNew (N := N) RD htb hn hmk (.cells vs2 e (0, 0))
                      have R' := RD.growNew htb hn hmk e hfit2
                      refine ⟨_, _, _, exec _ _ hr, by simp [Sh.growTok], ⟨R', ED.trans R.tidy E, fun c hc => alloc_old w.drew _ (R.mu c hc), fun _ h => h⟩, ?_⟩
                      have hkk : ∀ d ∈ es2 ++ x0 :: xr, d.cells.length = k2 := fun d hd => (List.mem_append.1 hd).elim (hrow.2 d) (hkx d)
                      have hsize : w.drew.heap.size = w.heap.size := rfl
                      have := mkSlice (w := w.drew.alloc (.cells vs2 e (0, 0))) (S := S.growTok id w.heap.size k2 (es2 ++ x0 :: xr).length) (id := id) (k := k2) (b := w.heap.size) (cap := cap2) (es := es2 ++ x0 :: xr) k0
                        (by simp at hle ⊢; omega) (by rw [List.length_append]; exact hcap2) hkk (alloc_new w.drew _) ?_ (fun h => by have := R.mu _ h; omega) (fun h => by have := R.bbLt _ h; omega) ?_ ?_ ?_ hsz2 ⟨_, Nat.le_refl _, R.okNew _ _ (Nat.le_refl _)⟩
                      · rw [← show (es2 ++ x0 :: xr).length = es2.length + (x0 :: xr).length from List.length_append]; exact this
                      · rw [flat_append, show (es2 ++ x0 :: xr).length * k2 = (es2.length + (x0 :: xr).length) * k2 by rw [List.length_append], htk]
                        exact (hasC_append hc0 hcx1).mono E RD.tidy
                      · simp only [Sh.growTok]; rw [List.getElem?_set_self (lt_of_get htb)]
                      · simp only [Sh.growTok]; rw [List.getElem?_set_self (lt_of_get hn)]
                      · intro j k3 h3
                        simp only [Sh.growTok] at h3
                        by_cases ej : id = j
                        · exact ej.symm
                        · rw [List.getElem?_set_ne ej] at h3
                          have := R.tbLt j _ k3 h3; omega
                  · simp [hb2] at h
                · cases h
            · cases h
              have hes : es = [] := by simpa [elemsOf] using hss.symm
              subst hes
              have := newRowCase none (hasNil hvs) ⟨#[], by simp [Builtin.firstCells], ⟨⟨rfl, fun j c v hc => by simp [flat] at hc⟩, fun c hc => by simp [flat] at hc⟩, by simp, fun d hd => by cases hd⟩ (by simp)
              simpa using this
      · cases h
    · cases h
  · cases h
end
end Go.Eng
/- One operation, whatever it is: what the abstract machine asks of it is enough. -/
namespace Go.Eng
open Go

def enterable (P : Program) (f : Nat) : Bool := match P.funcs[f]? with | some fn => fn.body.isSome && !(fn.name == "runtime.NumGoroutine") | none => false

/-- From this memory and these arguments the function returns, with Q of the result and the memory: in every world that they stand for. -/
def CallD (X : Ctx) (f : Nat) (m : Mem) (ds : List D) (Q : D → Mem → Prop) : Prop :=
  enterable X.P f = true ∧ ∀ (B : Nat) (w : World) (S : Sh) (args : Array Value), RelG X B w S → S.m = m → HasL w S ds args.toList →
    Calls X.P f args w fun e w' => ∃ v S' r, e = .returned v ∧ Q r S'.m ∧ RelG X B w' S' ∧ Ext w.heap.size w S w' S' ∧ HasV w' S' r v

theorem CallD.mono {X : Ctx} {f : Nat} {m : Mem} {ds : List D} {Q Q' : D → Mem → Prop} (h : CallD X f m ds Q) (hq : ∀ r m', Q r m' → Q' r m') : CallD X f m ds Q' :=
  ⟨h.1, fun B w S args R hm ha => (h.2 B w S args R hm ha).mono fun _ _ ⟨v, S', r, h1, h2, h3⟩ => ⟨v, S', r, h1, hq _ _ h2, h3⟩⟩

/-- What is known of the callees is so. -/
structure CallOk (X : Ctx) (C : CallW) : Prop where
  run : ∀ (g : Nat) (m : Mem) (ds : List D) (Q : D → Mem → Prop), C.run g m ds Q → CallD X (g % 100000) m ds Q
  pv : ∀ (g : Nat) (ds : List D) (v : D), C.pf g = true → C.pv g ds = some v → ∀ m, CallD X (g % 100000) m ds fun r m' => r = v ∧ m' = m

theorem ix_mod (F : Fi) (dst : Option Nat) {g : Nat} (h : decide (g < 100000) = true) : ix F dst g % 100000 = g := by
  have h := of_decide_eq_true h
  unfold ix
  split
  · split
    · omega
    · omega
  · omega

/-- Some abstract state with K stands for this state. -/
def Conc (X : Ctx) (B N n : Nat) (w0 : World) (S0 : Sh) (K : St → Prop) (a : Act) (w : World) : Prop :=
  ∃ st S lb, K st ∧ RelG X B w S ∧ RelA N w S st lb a ∧ Ext N w0 S0 w S ∧ n ≤ a.tmps.size

section
variable {X : Ctx} {F : Fi} {B N n : Nat} {w0 w w' : World} {S0 S S' : Sh} {st : St} {lb : Nat → Nat} {a : Act}

theorem getD_put (tmps : Array Value) (x : Nat) (v : Value) (y : Nat) (hx : x < tmps.size) : (tmps.setIfInBounds x v).getD y undef = if y = x then v else tmps.getD y undef := by
  by_cases e : y = x
  · subst e; simp [Array.getD, hx]
  · simp only [Array.getD_eq_getD_getElem?, e, if_false]
    rw [Array.getElem?_setIfInBounds_ne (fun h => e h.symm)]

theorem upd_same {α : Type} (f : Nat → α) (x : Nat) (v : α) : upd f x v x = v := by simp [upd]
theorem upd_other {α : Type} (f : Nat → α) {x y : Nat} (v : α) (h : y ≠ x) : upd f x v y = f y := by simp [upd, h]

theorem RelA.put (A : RelA N w S st lb a) {x : Nat} (hx : x < a.tmps.size) {d : D} {v : Value} (hv : HasV w S d v) : RelA N w S (st.put (some x) d) lb (a.put (some x) v) where
  m := A.m
  defers := A.defers
  slots := fun y => by
    show HasV w S (upd st.sl x d y) ((a.tmps.setIfInBounds x v).getD y undef)
    rw [getD_put _ _ _ _ hx]
    by_cases e : y = x
    · subst e; rw [upd_same, if_pos rfl]; exact hv
    · rw [upd_other _ _ e, if_neg e]; exact A.slots y
  regs := fun y k o h => by
    have hy : y ≠ x ∧ st.lp y = some (k, o) := by
      simp only [St.put, updReg] at h
      cases hl : st.lp x with
      | none =>
        rw [hl] at h
        have h2 : st.lp y = some (k, o) := h
        refine ⟨fun e => ?_, h2⟩
        subst e; rw [hl] at h2; cases h2
      | some q =>
        rw [hl] at h
        simp only at h
        by_cases e : y = x
        · subst e; rw [upd_same] at h; cases h
        · rw [upd_other _ _ e] at h; exact ⟨e, h⟩
    obtain ⟨h1, h2⟩ := A.regs y k o hy.2
    refine ⟨?_, h2⟩
    show (a.tmps.setIfInBounds x v).getD y undef = _
    rw [getD_put _ _ _ _ hx, if_neg hy.1]; exact h1
  boxes := A.boxes
  inj := A.inj

theorem RelA.putL (A : RelA N w S st lb a) {x k o : Nat} (hx : x < a.tmps.size) (hk : (st.bx k).isSome = true) : RelA N w S (st.putL x k o) lb (a.put (some x) (.pointer (some ⟨lb k, o, none⟩))) where
  m := A.m
  defers := A.defers
  slots := fun y => by
    show HasV w S (upd st.sl x .undef y) ((a.tmps.setIfInBounds x _).getD y undef)
    rw [getD_put _ _ _ _ hx]
    by_cases e : y = x
    · subst e; rw [upd_same, if_pos rfl]; exact .undef _
    · rw [upd_other _ _ e, if_neg e]; exact A.slots y
  regs := fun y k' o' h => by
    show (a.tmps.setIfInBounds x _).getD y undef = _ ∧ _
    rw [getD_put _ _ _ _ hx]
    simp only [St.putL] at h
    by_cases e : y = x
    · subst e; rw [upd_same] at h; cases h; rw [if_pos rfl]; exact ⟨rfl, hk⟩
    · rw [upd_other _ _ e] at h; rw [if_neg e]; exact A.regs y k' o' h
  boxes := A.boxes
  inj := A.inj

theorem RelA.step (A : RelA N w S st lb a) (hT : Tidy w S) (T : Step X B N w S w' S') : RelA N w' S' (st.setM S'.m) lb a where
  m := rfl
  defers := A.defers
  slots := fun x => (A.slots x).mono T.ext hT
  regs := A.regs
  boxes := fun k cs h => by
    obtain ⟨h1, h2, vs, t, h3, h4⟩ := A.boxes k cs h
    exact ⟨h1, T.muK _ h2, vs, t, by rw [T.priv _ h2]; exact h3, h4.mono T.ext hT⟩
  inj := A.inj

theorem Step.refl (R : RelG X B w S) : Step X B N w S w S := ⟨R, Ext.refl N w S, fun _ _ => rfl, fun _ h => h⟩

theorem RelA.newBox (R : RelG X B w S) (A : RelA N w S st lb a) {x : Nat} (hx : x < a.tmps.size) (hN : N ≤ w.heap.size) {cs : List D} {vs : Array Value} (t : TypeId) (hc : HasC w S cs vs.toList) :
    RelA N (w.alloc (.cells vs t (0, 0))) (S.addMu w.heap.size) (st.newBox x cs) (fun k => if k = x then w.heap.size else lb k) (a.put (some x) (.pointer (some ⟨w.heap.size, 0, none⟩))) := by
  have E := Ext.allocMu (N := N) R (.cells vs t (0, 0))
  have lbne : ∀ k, (st.bx k).isSome = true → lb k < w.heap.size := fun k hk => by
    obtain ⟨c, hc⟩ := Option.isSome_iff_exists.1 hk
    exact R.mu _ (A.boxes k c hc).2.1
  exact {
    m := A.m
    defers := A.defers
    slots := fun y => by
      show HasV _ _ (upd st.sl x .undef y) ((a.tmps.setIfInBounds x _).getD y undef)
      rw [getD_put _ _ _ _ hx]
      by_cases e : y = x
      · subst e; rw [upd_same, if_pos rfl]; exact .undef _
      · rw [upd_other _ _ e, if_neg e]; exact (A.slots y).mono E R.tidy
    regs := fun y k o h => by
      show (a.tmps.setIfInBounds x _).getD y undef = _ ∧ (upd st.bx x (some cs) k).isSome = true
      rw [getD_put _ _ _ _ hx]
      simp only [St.newBox] at h
      by_cases e : y = x
      · subst e; rw [upd_same] at h; cases h
        rw [if_pos rfl, upd_same]; simp
      · rw [upd_other _ _ e] at h; rw [if_neg e]
        have hk : k ≠ x ∧ st.lp y = some (k, o) := by
          unfold dropIf at h
          cases hb : st.bx x with
          | none =>
            rw [hb] at h
            refine ⟨fun ek => ?_, h⟩
            subst ek
            have := (A.regs y k o h).2
            rw [hb] at this; cases this
          | some c =>
            rw [hb] at h
            simp only [dropKey, dropReg] at h
            cases hl : st.lp y with
            | none => rw [hl] at h; cases h
            | some q =>
              obtain ⟨k', o'⟩ := q
              rw [hl] at h
              simp only at h
              by_cases ek : k' = x
              · rw [if_pos ek] at h; cases h
              · rw [if_neg ek] at h; cases h; exact ⟨ek, rfl⟩
        obtain ⟨h1, h2⟩ := A.regs y k o hk.2
        rw [if_neg hk.1, upd_other _ _ hk.1]
        exact ⟨h1, h2⟩
    boxes := fun k c h => by
      show N ≤ (if k = x then w.heap.size else lb k) ∧ _
      simp only [St.newBox] at h
      by_cases e : k = x
      · subst e; rw [upd_same] at h; cases h
        simp only [if_true]
        exact ⟨hN, .inl rfl, vs, t, alloc_new w _, hc.mono E R.tidy⟩
      · rw [upd_other _ _ e] at h
        simp only [e, if_false]
        obtain ⟨h1, h2, us, t', h3, h4⟩ := A.boxes k c h
        exact ⟨h1, .inr h2, us, t', by rw [alloc_old w _ (R.mu _ h2)]; exact h3, h4.mono E R.tidy⟩
    inj := fun k k' h h' he => by
      simp only [St.newBox] at h h'
      by_cases e : k = x <;> by_cases e' : k' = x
      · omega
      · rw [upd_other _ _ e'] at h'
        simp only [e, e', if_true, if_false] at he
        have := lbne k' h'; omega
      · rw [upd_other _ _ e] at h
        simp only [e, e', if_true, if_false] at he
        have := lbne k h; omega
      · rw [upd_other _ _ e] at h; rw [upd_other _ _ e'] at h'
        simp only [e, e', if_false] at he
        exact A.inj k k' h h' he }

/-- A local box is written. -/
theorem RelA.setBox (R : RelG X B w S) (A : RelA N w S st lb a) {k : Nat} {cs old : List D} {vs vs0 : Array Value} {t : TypeId} (hk : st.bx k = some old) (h0 : w.heap[lb k]? = some (.cells vs0 t (0, 0))) (hc : HasC w S cs vs.toList) :
    RelG X B (w.setRow (lb k) vs) S ∧ Ext N w S (w.setRow (lb k) vs) S ∧ RelA N (w.setRow (lb k) vs) S ⟨st.sl, st.lp, upd st.bx k (some cs), st.m⟩ lb a := by
  obtain ⟨hN, hmu, _⟩ := A.boxes k old hk
  have E := Ext.setMu (N := N) R hmu hN vs
  refine ⟨R.setMu hmu vs, E, ?_⟩
  have some_of : ∀ j, (upd st.bx k (some cs) j).isSome = true → (st.bx j).isSome = true := fun j h => by
    by_cases e : j = k
    · subst e; rw [hk]; rfl
    · rw [upd_other _ _ e] at h; exact h
  exact {
    m := A.m
    defers := A.defers
    slots := fun x => (A.slots x).mono E R.tidy
    regs := fun y j o h => by
      obtain ⟨h1, h2⟩ := A.regs y j o h
      refine ⟨h1, ?_⟩
      by_cases e : j = k
      · subst e; show (upd st.bx j (some cs) j).isSome = true; rw [upd_same]; rfl
      · show (upd st.bx k (some cs) j).isSome = true; rw [upd_other _ _ e]; exact h2
    boxes := fun j c h => by
      have h : upd st.bx k (some cs) j = some c := h
      by_cases e : j = k
      · subst e; rw [upd_same] at h; cases h
        exact ⟨hN, hmu, vs, t, setRow_heap w _ vs0 vs t _ h0, hc.mono E R.tidy⟩
      · rw [upd_other _ _ e] at h
        obtain ⟨h1, h2, us, t', h3, h4⟩ := A.boxes j c h
        have hne : lb j ≠ lb k := fun x => e (A.inj j k (by rw [h]; rfl) (by rw [hk]; rfl) x)
        exact ⟨h1, h2, us, t', by rw [setRow_other w _ _ vs hne]; exact h3, h4.mono E R.tidy⟩
    inj := fun j j' h h' => A.inj j j' (some_of j h) (some_of j' h') }

theorem setRow_len' : ∀ (ds cs : List D) (o : Nat), (setRow cs o ds).length = cs.length
  | [], _, _ => rfl
  | d :: r, cs, o => by simp only [setRow]; rw [setRow_len' r]; simp

theorem storeVar_run {P : Program} {t nn b off : Nat} {v : Value} {vs0 : Array Value} {ty : TypeId} {fr : Nat × Nat} (hn : szOf P t = some nn) (hv : v.cells.size = nn) (h1 : ∀ u ∈ v.cells.toList, u.oneCell' = true)
    (hh : w.heap[b]? = some (.cells vs0 ty fr)) (ho : OpenR vs0 fr) (hfit : off + nn ≤ vs0.size) :
    (storeVar t ⟨b, off, none⟩ v).run P w = .ok () (w.setRow b (vs0.toList.take off ++ v.cells.toList ++ vs0.toList.drop (off + nn)).toArray) := by
  have := run_storeCells_open (P := P) b off ty fr v.cells.toList 0 vs0 w hh ho (by simp; omega) h1
  unfold storeVar
  simp only [Sem.run_bind, run_sizeOf hn, Result.andThen_ok, hv, ne_eq, not_true_eq_false, if_false]
  rw [this]
  simp [hv]

theorem setRow_splice : ∀ (ds : List D) (cs : List D) (off : Nat), off + ds.length ≤ cs.length → setRow cs off ds = cs.take off ++ ds ++ cs.drop (off + ds.length)
  | [], cs, off, _ => by simp [setRow]
  | d :: r, cs, off, h => by
    have ih := setRow_splice r (cs.set off d) (off + 1) (by simp at h ⊢; omega)
    simp only [setRow, ih]
    have hlt : off < cs.length := by simp at h; omega
    have e1 : (cs.set off d).take (off + 1) = cs.take off ++ [d] := by
      rw [List.take_succ_eq_append_getElem (by simpa using hlt)]
      simp [List.take_set_of_le]
    have e2 : (cs.set off d).drop (off + 1 + r.length) = cs.drop (off + (r.length + 1)) := by
      rw [List.drop_set_of_lt (by omega)]; congr 1; omega
    rw [e1, e2]; simp

theorem hasC_splice {cs ds : List D} {vs : Array Value} {us : List Value} (h : HasC w S cs vs.toList) (hd : HasC w S ds us) {off : Nat} (hfit : off + ds.length ≤ cs.length) :
    HasC w S (setRow cs off ds) (vs.toList.take off ++ us ++ vs.toList.drop (off + us.length)) := by
  rw [setRow_splice ds cs off hfit, ← hd.len]
  refine hasC_append (hasC_append ?_ hd) ?_
  · have := hasC_take h 0 off
    simpa using this
  · have hl := h.len
    have := hasC_take h (off + ds.length) cs.length
    rw [List.take_of_length_le (by simp), List.take_of_length_le (by rw [List.length_drop, ← hl]; omega)] at this
    exact this
end
end Go.Eng
/- One operation is sound. -/
namespace Go.Eng
open Go
section
variable {X : Ctx} {F : Fi} {C : CallW} {B N n : Nat} {w0 w w' : World} {S0 S S' : Sh} {st : St} {lb : Nat → Nat} {a : Act}

theorem put_size (a : Act) (dst : Option Nat) (v : Value) : (a.put dst v).tmps.size = a.tmps.size := by
  cases dst <;> simp [Act.put]

theorem conc_put (hT0 : Tidy w0 S0) (E0 : Ext N w0 S0 w S) (R : RelG X B w S) (A : RelA N w S st lb a) (hn : n ≤ a.tmps.size) {dst : Option Nat} (hdst : ∀ x, dst = some x → x < n)
    (T : Step X B N w S w' S') {d : D} {v : Value} (hv : HasV w' S' d v) {K : St → Prop} (hK : K ((st.put dst d).setM S'.m)) : Conc X B N n w0 S0 K (a.put dst v) w' := by
  have A' := A.step R.tidy T
  refine ⟨_, S', lb, hK, T.rel, ?_, E0.trans hT0 T.ext, by rw [put_size]; exact hn⟩
  cases dst with
  | none => exact A'
  | some x => exact A'.put (by have := hdst x rfl; omega) hv

theorem Conc.mono {K K' : St → Prop} (h : Conc X B N n w0 S0 K a w) (hk : ∀ st, K st → K' st) : Conc X B N n w0 S0 K' a w :=
  let ⟨st, S, lb, h1, h2⟩ := h; ⟨st, S, lb, hk st h1, h2⟩

theorem setM_self (A : RelA N w S st lb a) : st.setM S.m = st := by
  unfold St.setM; rw [← A.m]

theorem put_setM (st : St) (dst : Option Nat) (d : D) (m : Mem) : (st.setM m).put dst d = (st.put dst d).setM m := by
  cases dst <;> rfl

theorem conc_pure (hT0 : Tidy w0 S0) (E0 : Ext N w0 S0 w S) (R : RelG X B w S) (A : RelA N w S st lb a) (hn : n ≤ a.tmps.size) {dst : Option Nat} (hdst : ∀ x, dst = some x → x < n)
    {d : D} {v : Value} (hv : HasV w S d v) {K : St → Prop} (hK : K (st.put dst d)) : Conc X B N n w0 S0 K (a.put dst v) w := by
  refine conc_put hT0 E0 R A hn hdst (Step.refl R) hv ?_
  have : (st.put dst d).setM S.m = st.put dst d := by
    rw [← put_setM, setM_self A]
  rw [this]; exact hK

theorem evArgs (R : RelG X B w S) (A : RelA N w S st lb a) : ∀ l : List Operand, HasL w S (argsD X st l) (l.map a.eval)
  | [] => ⟨rfl, fun j c v hc => by simp [argsD] at hc⟩
  | x :: r => by
    have ih := evArgs R A r
    exact ⟨by simp [argsD, ih.len], fun j c v hc hv => by
      cases j with
      | zero => simp [argsD] at hc hv; subst hc; subst hv; exact ev_ok R A x
      | succ j => simp [argsD] at hc hv; exact ih.at_ j c v hc (by simpa using hv)⟩

theorem hasL_append {a b : List D} {x y : List Value} (h : HasL w S a x) (h' : HasL w S b y) : HasL w S (a ++ b) (x ++ y) where
  len := by simp [h.len, h'.len]
  at_ := fun j c v hc hv => by
    have hl := h.len
    rcases Nat.lt_or_ge j a.length with hj | hj
    · rw [List.getElem?_append_left hj] at hc
      rw [List.getElem?_append_left (by omega)] at hv
      exact h.at_ j c v hc hv
    · rw [List.getElem?_append_right hj] at hc
      rw [List.getElem?_append_right (by omega)] at hv
      exact h'.at_ _ c v hc (by rw [← hl] at hv; exact hv)

theorem hasFunc {f : Nat} {cap : List D} {v : Value} (h : HasV w S (.func f cap) v) : ∃ vs : Array Value, v = .func (.func f) #[] vs ∧ HasL w S cap vs.toList := by
  cases h with
  | func _ _ vs hl hv => exact ⟨vs, rfl, by simpa using hl, fun j c v hc hv' => hv j c v hc (by simpa using hv')⟩

theorem callFunc_run {P : Program} {f : Nat} (h : enterable P f = true) (args : Array Value) (w : World) : (callFunc f args).run P w = .ok (.enter f args) w := by
  unfold enterable at h
  split at h
  · rename_i fn hf
    simp only [Bool.and_eq_true, Bool.not_eq_true'] at h
    obtain ⟨h1, h2⟩ := h
    have h3 : ¬ fn.body = none := by intro hb; rw [hb] at h1; cases h1
    have h4 : ¬ fn.name = "runtime.NumGoroutine" := by simpa using h2
    unfold callFunc
    simp [hf, h3, h4]
  · cases h

theorem wp_value {o : Oper} {next : Act → World → Prop} {Q : Exit → Act → World → Prop} {v : Value} (h : (execOp a.eval o).run X.P w = .ok (.value v) w') (hK : next (a.put o.dst v) w') : o.wp X.P a w next Q := by
  unfold Oper.wp; rw [h]; exact hK

theorem step_pure (hT0 : Tidy w0 S0) (E0 : Ext N w0 S0 w S) (R : RelG X B w S) (A : RelA N w S st lb a) (hn : n ≤ a.tmps.size) {o : Oper} (hdst : ∀ x, o.dst = some x → x < n)
    {K : St → Prop} {Q : Exit → Act → World → Prop} (h : pureK X o K st) : o.wp X.P a w (Conc X B N n w0 S0 K) Q := by
  unfold pureK at h
  rw [A.m] at h
  split at h
  · rename_i d hd
    obtain ⟨v, hr, hv⟩ := pure_ok R A (m0 := S.m) (fun _ _ h => h) hd
    exact wp_value hr (conc_pure hT0 E0 R A hn hdst hv h)
  · exact h.elim

theorem step_make (hT0 : Tidy w0 S0) (E0 : Ext N w0 S0 w S) (R : RelG X B w S) (A : RelA N w S st lb a) (hn : n ≤ a.tmps.size) {o : Oper} (hdst : ∀ x, o.dst = some x → x < n)
    {K : St → Prop} {Q : Exit → Act → World → Prop} (h : makeK X F o K st) : o.wp X.P a w (Conc X B N n w0 S0 K) Q := by
  unfold makeK at h
  rw [A.m] at h
  split at h
  · rename_i d m hd
    obtain ⟨dst, op, ty, pos, af, gd⟩ := o
    have fin : (∃ v w' S', (execOp a.eval ⟨dst, op, ty, pos, af, gd⟩).run X.P w = .ok (.value v) w' ∧ S'.m = m ∧ Step X B N w S w' S' ∧ HasV w' S' d v) → (⟨dst, op, ty, pos, af, gd⟩ : Oper).wp X.P a w (Conc X B N n w0 S0 K) Q := by
      rintro ⟨v, w', S', hr, rfl, T, hv⟩
      exact wp_value hr (conc_put hT0 E0 R A hn hdst T hv h)
    cases op <;> first | (cases hd; done) | exact fin (bytes_ok R A hd) | exact fin (makeSlice_ok R A hd) | skip
    rename_i c
    obtain ⟨callee, args, tys⟩ := c
    cases callee <;> first | (cases hd; done) | skip
    rename_i b
    cases b <;> first | (cases hd; done) | skip
    exact fin (append_ok R A hd)
  · exact h.elim

theorem step_row (hT0 : Tidy w0 S0) (E0 : Ext N w0 S0 w S) (R : RelG X B w S) (A : RelA N w S st lb a) (hn : n ≤ a.tmps.size) {o : Oper} (hdst : ∀ x, o.dst = some x → x < n)
    {K : St → Prop} {Q : Exit → Act → World → Prop} (h : rowK X o K st) : o.wp X.P a w (Conc X B N n w0 S0 K) Q := by
  unfold rowK at h
  split at h
  · rename_i d hd
    obtain ⟨dst, op, ty, pos, af, gd⟩ := o
    cases op <;> first | (cases hd; done) | skip
    obtain ⟨v, w', S', hr, hm, T, hv⟩ := buildSlice_ok (N := N) R A hd
    refine wp_value hr (conc_put hT0 E0 R A hn hdst T hv ?_)
    rw [hm]
    have : (st.put dst d).setM S.m = st.put dst d := by rw [← put_setM, setM_self A]
    rw [this]; exact h
  · exact h.elim

theorem do_call (hT0 : Tidy w0 S0) (hN : N ≤ w0.heap.size) (E0 : Ext N w0 S0 w S) (R : RelG X B w S) (A : RelA N w S st lb a) (hn : n ≤ a.tmps.size) {dst : Option Nat} {f : Operand} {args : Array Operand} {tys : Array Nat} {ty : Nat} {pos : String} {af : Array Edge} {gd : Option (Nat × Bool)}
    (hdst : ∀ x, dst = some x → x < n) {K : St → Prop} {Q : Exit → Act → World → Prop} {g : Nat} {cap : List D} (hf : ev X st f = .func g cap)
    (h : CallD X g st.m (argsD X st args.toList ++ cap) fun r m => K ((st.put dst r).setM m)) :
    (⟨dst, .call ⟨.value f, args, tys⟩, ty, pos, af, gd⟩ : Oper).wp X.P a w (Conc X B N n w0 S0 K) Q := by
  obtain ⟨hen, hdet⟩ := h
  have hfv := ev_ok R A f
  rw [hf] at hfv
  obtain ⟨vs, hv, hcap⟩ := hasFunc hfv
  have hargs := hasL_append (evArgs R A args.toList) hcap
  have hcall := hdet B w S (args.map a.eval ++ vs) R A.m.symm (by simpa using hargs)
  unfold Oper.wp
  have hr : (execOp a.eval ⟨dst, .call ⟨.value f, args, tys⟩, ty, pos, af, gd⟩).run X.P w = .ok (.enter g (args.map a.eval ++ vs)) w := by
    simp only [execOp, resolve, hv, Deferred.ofValue, Sem.run_bind, Sem.run_pure, Result.andThen_ok, invoke, callFunc_run hen]
    simp
  rw [hr, Oper.upon_enter]
  refine hcall.mono fun e w' h' => ?_
  obtain ⟨v, S', r, rfl, hK, R', E', hv'⟩ := h'
  have T : Step X B N w S w' S' := ⟨R', E'.mono (Nat.le_trans hN E0.size), fun b hb => E'.keep b (R.mu b hb) (fun h => R.bbMu b h hb) (fun id k h => R.tbMu id b k h hb) (.inl (R.mu b hb)), fun b hb => E'.mu b hb (R.mu b hb)⟩
  exact conc_put hT0 E0 R A hn hdst T hv' hK

theorem step_alloc' (hT0 : Tidy w0 S0) (hN : N ≤ w0.heap.size) (E0 : Ext N w0 S0 w S) (R : RelG X B w S) (A : RelA N w S st lb a) (hn : n ≤ a.tmps.size) {o : Oper} (hdst : ∀ x, o.dst = some x → x < n)
    {K : St → Prop} {Q : Exit → Act → World → Prop} {cs : List D} {vs : Array Value} {t : Nat} (hc : HasC w S cs vs.toList)
    (hr : (execOp a.eval o).run X.P w = .ok (.value (.pointer (some ⟨w.heap.size, 0, none⟩))) (w.alloc (.cells vs t (0, 0)))) (h : allocK F o cs K st) : o.wp X.P a w (Conc X B N n w0 S0 K) Q := by
  unfold allocK at h
  split at h
  · rename_i x hx
    have hxn := hdst x hx
    refine wp_value hr ?_
    rw [hx]
    split at h
    · have R' := R.allocBox t hc
      have T : Step X B N w S (w.alloc (.cells vs t (0, 0))) (S.addBox w.heap.size cs) := ⟨R', Ext.allocBox R _ cs, heapPriv R _, fun _ h => h⟩
      have hv : HasV (w.alloc (.cells vs t (0, 0))) (S.addBox w.heap.size cs) (.ptr st.m.boxes.length 0) (.pointer (some ⟨w.heap.size, 0, none⟩)) := by
        refine .ptr _ 0 _ ?_
        simp only [Sh.addBox]
        rw [A.m, ← R.bbLen]; simp
      refine conc_put hT0 E0 R A hn (fun y hy => by cases hy; exact hxn) T hv ?_
      rw [A.m] at h ⊢
      rw [hx] at h
      exact h
    · have A' := RelA.newBox R A (Nat.lt_of_lt_of_le hxn hn) (Nat.le_trans hN E0.size) t hc
      exact ⟨_, _, _, h, R.allocMu _, A', E0.trans hT0 (Ext.allocMu R _), by rw [put_size]; exact hn⟩
  · exact h.elim

/-- A local box is moved to memory. -/
theorem promote_ok (hB : B ≤ N) (R : RelG X B w S) (A : RelA N w S st lb a) (k : Nat) : ∃ S', RelG X B w S' ∧ Ext N w S w S' ∧ RelA N w S' (promote st k) lb a := by
  unfold promote
  cases hk : st.bx k with
  | none => exact ⟨S, R, Ext.refl N w S, A⟩
  | some cs =>
    obtain ⟨hN, hmu, vs, t, hh, hc⟩ := A.boxes k cs hk
    have hlt := R.mu _ hmu
    have hlen : cs.length = vs.size := by have := hc.len; simpa using this
    let S' : Sh := { S with mu := fun b => S.mu b ∧ b ≠ lb k, bb := S.bb ++ [lb k], m := { S.m with boxes := S.m.boxes ++ [cs] } }
    have E : Ext N w S w S' := {
      os := rfl
      tape := rfl
      output := rfl
      ok := rfl
      size := Nat.le_refl _
      mu := fun b h hl => ⟨h, fun e => by omega⟩
      muNew := fun b h _ => h.1
      bb := fun _ _ h => get_append_of h
      bbNew := fun b h _ => by
        rcases List.mem_append.1 h with h | h
        · exact .inl h
        · simp at h; subst h; exact .inr ⟨hmu, hN⟩
      tb := fun _ b _ h => ⟨b, h, .inl rfl⟩
      tbNew := fun _ _ _ h _ => h
      marks := fun _ mk h => ⟨mk, h, Nat.le_refl _⟩
      markSame := fun _ _ b k b' _ _ h h' => by rw [show S'.tb = S.tb from rfl, h] at h'; cases h'; rfl
      keep := fun _ _ _ _ _ => rfl
      shp := fun _ _ _ h => h
      keepT := fun _ _ _ _ _ _ c _ _ h => ⟨c, h, rfl, fun _ _ => rfl⟩ }
    have R' : RelG X B w S' := {
      bbLen := by simp [S', R.bbLen]
      tbLen := R.tbLen
      mu := fun b h => R.mu b h.1
      bbLt := fun b h => by
        rcases List.mem_append.1 h with h | h
        · exact R.bbLt b h
        · simp at h; subst h; exact hlt
      tbLt := R.tbLt
      tbInj := R.tbInj
      tbBb := fun id b k' h hb => by
        rcases List.mem_append.1 hb with hb | hb
        · exact R.tbBb id b k' h hb
        · simp at hb; subst hb; exact R.tbMu id _ k' h hmu
      tbMu := fun id b k' h hb => R.tbMu id b k' h hb.1
      bbMu := fun b h hb => by
        rcases List.mem_append.1 h with h | h
        · exact R.bbMu b h hb.1
        · simp at h; exact hb.2 h
      okNew := R.okNew
      okTok := R.okTok
      base := R.base
      bbGe := fun b h => by
        rcases List.mem_append.1 h with h | h
        · exact R.bbGe b h
        · simp at h; omega
      tbGe := R.tbGe
      bbInj := fun id id' b c c' h h' k k' n n' => by
        rcases get_append_one h with h | ⟨h, e⟩ <;> rcases get_append_one h' with h' | ⟨h', e'⟩
        · have l1 := lt_of_get h; have l2 := lt_of_get h'; have l3 := R.bbLen
          have k : (S.m.boxes ++ [cs])[id]? = some c := k
          have k' : (S.m.boxes ++ [cs])[id']? = some c' := k'
          rw [List.getElem?_append_left (by omega)] at k k'
          exact R.bbInj id id' b c c' h h' k k' n n'
        · subst e'; exact absurd hmu (R.bbMu _ (List.mem_of_getElem? h))
        · subst e; exact absurd hmu (R.bbMu _ (List.mem_of_getElem? h'))
        · omega
      boxes := fun id b c h h' => by
        rcases get_append_one h with h1 | ⟨h1, e⟩ <;> rcases get_append_one h' with h2 | ⟨h2, e'⟩
        · obtain ⟨us, t', fr', h3, ho', hl', h4⟩ := R.boxes id b c h1 h2
          exact ⟨us, t', fr', h3, ho', hl', h4.mono E R.tidy⟩
        · have := lt_of_get h1; have := R.bbLen; omega
        · have := lt_of_get h2; have := R.bbLen; omega
        · subst e; subst e'
          exact ⟨vs, t, (0, 0), hh, openR_zero vs, Nat.le_of_eq hlen, by rw [hlen, List.take_of_length_le (by simp)]; exact hc.mono E R.tidy⟩
      toks := R.toks
      glob := fun g c h => (R.glob g c h).mono E R.tidy }
    refine ⟨S', R', E, ?_⟩
    have isk : ∀ k', (upd st.bx k none k').isSome = true → k' ≠ k ∧ (st.bx k').isSome = true := fun k' h => by
      by_cases e : k' = k
      · subst e; rw [upd_same] at h; cases h
      · rw [upd_other _ _ e] at h; exact ⟨e, h⟩
    exact {
      m := by show ({ st.m with boxes := st.m.boxes ++ [cs] } : Mem) = _; rw [A.m]
      defers := A.defers
      slots := fun y => by
        show HasV w S' (prS st.sl st.lp k st.m.boxes.length y) _
        unfold prS
        cases hl : st.lp y with
        | none => exact (A.slots y).mono E R.tidy
        | some ko =>
          obtain ⟨k', o⟩ := ko
          simp only
          by_cases e : k' = k
          · subst e
            rw [if_pos rfl, (A.regs y k' o hl).1]
            refine .ptr _ o _ ?_
            show (S.bb ++ [lb k'])[st.m.boxes.length]? = some (lb k')
            rw [A.m, ← R.bbLen]; simp
          · rw [if_neg e]; exact (A.slots y).mono E R.tidy
      regs := fun y k' o h => by
        have h : dropReg k (st.lp y) = some (k', o) := h
        unfold dropReg at h
        cases hl : st.lp y with
        | none => rw [hl] at h; cases h
        | some ko =>
          obtain ⟨k2, o2⟩ := ko
          rw [hl] at h
          simp only at h
          by_cases e : k2 = k
          · rw [if_pos e] at h; cases h
          · rw [if_neg e] at h; cases h
            obtain ⟨h1, h2⟩ := A.regs y k' o hl
            exact ⟨h1, by show (upd st.bx k none k').isSome = true; rw [upd_other _ _ e]; exact h2⟩
      boxes := fun k' c h => by
        have h : upd st.bx k none k' = some c := h
        have hne := isk k' (by rw [h]; rfl)
        rw [upd_other _ _ hne.1] at h
        obtain ⟨h1, h2, us, t', h3, h4⟩ := A.boxes k' c h
        exact ⟨h1, ⟨h2, fun e => hne.1 (A.inj k' k (by rw [h]; rfl) (by rw [hk]; rfl) e)⟩, us, t', h3, h4.mono E R.tidy⟩
      inj := fun k1 k2 h1 h2 => A.inj k1 k2 (isk k1 h1).2 (isk k2 h2).2 }

theorem promoteL_ok (hB : B ≤ N) : ∀ (l : List Operand) {S : Sh} {st : St}, RelG X B w S → RelA N w S st lb a → ∃ S', RelG X B w S' ∧ Ext N w S w S' ∧ RelA N w S' (promoteL st l) lb a
  | [], S, _, R, A => ⟨S, R, Ext.refl N w S, A⟩
  | x :: r, S, st, R, A => by
    have h1 : ∃ S', RelG X B w S' ∧ Ext N w S w S' ∧ RelA N w S' (promote1 st (regOf st x)) lb a := by
      cases regOf st x with
      | none => exact ⟨S, R, Ext.refl N w S, A⟩
      | some ko => exact promote_ok hB R A ko.1
    obtain ⟨S1, R1, E1, A1⟩ := h1
    obtain ⟨S2, R2, E2, A2⟩ := promoteL_ok hB r R1 A1
    exact ⟨S2, R2, E1.trans R.tidy E2, A2⟩

theorem take_splice {α : Type} (L B : List α) (off nn n : Nat) (hB : B.length = nn) (h1 : off + nn ≤ n) (h2 : n ≤ L.length) :
    (L.take off ++ B ++ L.drop (off + nn)).take n = (L.take n).take off ++ B ++ (L.take n).drop (off + nn) := by
  have l2 : (L.take off ++ B).length = off + nn := by rw [List.length_append, List.length_take, hB, Nat.min_eq_left (by omega)]
  rw [List.take_append (l₁ := L.take off ++ B), List.take_of_length_le (by rw [l2]; exact h1), l2, List.take_take, Nat.min_eq_left (by omega), List.drop_take]

theorem step_ok' (hC : CallOk X C) (hB : B ≤ N) (hT0 : Tidy w0 S0) (hN : N ≤ w0.heap.size) (E0 : Ext N w0 S0 w S) (R : RelG X B w S) (A : RelA N w S st lb a) (hn : n ≤ a.tmps.size) {dst : Option Nat} {op : Op} {ty : Nat} {pos : String} {af : Array Edge} {gd : Option (Nat × Bool)} (hdst : ∀ x, dst = some x → x < n)
    {K : St → Prop} {Q : Exit → Act → World → Prop} (h : stepI X F C ⟨dst, op, ty, pos, af, gd⟩ K st) : (⟨dst, op, ty, pos, af, gd⟩ : Oper).wp X.P a w (Conc X B N n w0 S0 K) Q := by
  cases op <;> first
    | exact h.elim
    | exact step_pure hT0 E0 R A hn hdst h
    | exact step_make hT0 E0 R A hn hdst h
    | exact step_row hT0 E0 R A hn hdst h
    | skip
  case makeFunc f fs b =>
    simp only [stepI] at h
    obtain ⟨S', R', E', A'⟩ := promoteL_ok hB b.toList R A
    exact step_pure hT0 (E0.trans hT0 E') R' A' hn hdst h
  case convert src dst' x =>
    simp only [stepI] at h
    split at h
    · exact step_make hT0 E0 R A hn hdst h
    · exact step_pure hT0 E0 R A hn hdst h
  case alloc t =>
    simp only [stepI] at h
    split at h
    · rename_i z hz
      obtain ⟨zv, h1, h2⟩ := zeroD_spec hz
      have hzv := constD_ok (w := w) (S := S) h2
      have hok : z.okC = true := by
        unfold constD at h2
        split at h2
        · rename_i cs
          cases hc : constL constC cs.toList with
          | none => rw [hc] at h2; cases h2
          | some ds => rw [hc] at h2; cases h2; rfl
        · have := (constC_ok (w := w) (S := S) h2).2
          cases z <;> first | rfl | cases this
      have hc := okC_cells hzv hok
      refine step_alloc' hT0 hN E0 R A hn hdst hc (t := t) ?_ h
      simp [execOp, Instr.alloc, run_zeroValue h1, newVar, newRow]
    · exact h.elim
  case box t v =>
    simp only [stepI] at h
    split at h
    · rename_i k hk
      split at h
      · rename_i hb
        simp only [Bool.and_eq_true, decide_eq_true_eq] at hb
        have hc := okC_cells (ev_ok R A v) hb.1
        refine step_alloc' hT0 hN E0 R A hn hdst hc (t := t) ?_ h
        simp [execOp, Instr.box, newVar, newRow]
      · exact h.elim
    · exact h.elim
  case store t p v =>
    simp only [stepI] at h
    split at h
    · unfold storeK at h
      cases p with
      | tmp x =>
        simp only at h
        have store : ∀ (b off nn : Nat) (vs0 : Array Value) (ty' : Nat) (fr : Nat × Nat), a.tmps.getD x undef = .pointer (some ⟨b, off, none⟩) → szOf X.P t = some nn → (ev X st v).okC = true → (ev X st v).cells.length = nn → w.heap[b]? = some (.cells vs0 ty' fr) → OpenR vs0 fr → off + nn ≤ vs0.size →
            HasC w S (ev X st v).cells (a.eval v).cells.toList ∧ (a.eval v).cells.toList.length = nn ∧ (execOp a.eval ⟨none, .store t (.tmp x) v, ty, pos, af, gd⟩).run X.P w = .ok .skip (w.setRow b (vs0.toList.take off ++ (a.eval v).cells.toList ++ vs0.toList.drop (off + nn)).toArray) := fun b off nn vs0 ty' fr he hnn hok hl hh ho hfit => by
          have hc := okC_cells (ev_ok R A v) hok
          have hsz : (a.eval v).cells.size = nn := by have := hc.len; simp at this; omega
          refine ⟨hc, by simpa using hsz, ?_⟩
          have := storeVar_run (P := X.P) hnn hsz (oneCells hc) hh ho hfit
          simp only [execOp, Instr.storeAt, show a.eval (.tmp x) = _ from he, Instr.sureAddr, Sem.run_bind, Sem.run_pure, Result.andThen_ok, this]
        split at h
        · rename_i key off hl
          obtain ⟨hp, _⟩ := A.regs x key off hl
          split at h
          · rename_i cs nn hb hnn
            split at h
            · rename_i hc
              simp only [Bool.and_eq_true, decide_eq_true_eq] at hc
              obtain ⟨_, _, vs0, ty0, hh, hcs⟩ := A.boxes key cs hb
              have hlen : cs.length = vs0.size := by have := hcs.len; simpa using this
              obtain ⟨hcv, hsz, hr⟩ := store (lb key) off nn vs0 ty0 (0, 0) hp hnn hc.1.1 hc.1.2 hh (openR_zero vs0) (by omega)
              have hspl := hasC_splice hcs hcv (off := off) (by omega)
              rw [hsz] at hspl
              obtain ⟨R', E', A'⟩ := RelA.setBox R A hb hh (vs := (vs0.toList.take off ++ (a.eval v).cells.toList ++ vs0.toList.drop (off + nn)).toArray) (by simpa using hspl)
              unfold Oper.wp
              rw [hr, Oper.upon_skip]
              exact ⟨_, S, lb, h, R', A', E0.trans hT0 E', hn⟩
            · exact h.elim
          · exact h.elim
        · rename_i hl
          split at h
          · rename_i id off hid
            have hx := A.slots x
            rw [hid] at hx
            generalize hp : a.tmps.getD x undef = pv at hx
            cases hx with
            | ptr _ _ b hbb =>
              rw [A.m] at h
              split at h
              · rename_i cs nn hb hnn
                split at h
                · rename_i hc
                  simp only [Bool.and_eq_true, decide_eq_true_eq] at hc
                  obtain ⟨vs0, ty0, fr, hh, ho, hlen, hcs⟩ := R.boxes id b cs hbb hb
                  obtain ⟨hcv, hsz, hr⟩ := store b off nn vs0 ty0 fr hp hnn hc.1.1 hc.1.2 hh ho (by omega)
                  have hspl := hasC_splice (vs := (vs0.toList.take cs.length).toArray) (by simpa using hcs) hcv (off := off) (by omega)
                  rw [hsz] at hspl
                  have hcl : (setRow cs off (ev X st v).cells).length = cs.length := setRow_len' _ _ _
                  have hnew : (vs0.toList.take off ++ (a.eval v).cells.toList ++ vs0.toList.drop (off + nn)).length = vs0.size := by
                    simp only [List.length_append, List.length_take, List.length_drop, hsz, Array.length_toList]; omega
                  have hnil : cs ≠ [] ∨ (vs0.toList.take off ++ (a.eval v).cells.toList ++ vs0.toList.drop (off + nn)).toArray = vs0 := by
                    by_cases e : cs = []
                    · refine .inr ?_
                      have h0 : off = 0 ∧ nn = 0 := by have := hc.2; rw [e] at this; simp at this; omega
                      obtain ⟨rfl, rfl⟩ := h0
                      have : (a.eval v).cells.toList = [] := List.length_eq_zero_iff.1 hsz
                      rw [this]; simp
                    · exact .inl e
                  have R' := R.setBox hbb (vs := (vs0.toList.take off ++ (a.eval v).cells.toList ++ vs0.toList.drop (off + nn)).toArray) hb hh (fun j hj => ho j (by rw [List.size_toArray, hnew] at hj; exact hj)) (by rw [hcl, List.size_toArray, hnew]; exact hlen) (by rw [List.size_toArray, hnew]) hcl hnil (by
                    rw [hcl]
                    have e : (vs0.toList.take off ++ (a.eval v).cells.toList ++ vs0.toList.drop (off + nn)).toArray.toList.take cs.length = (vs0.toList.take cs.length).toArray.toList.take off ++ (a.eval v).cells.toList ++ (vs0.toList.take cs.length).toArray.toList.drop (off + nn) := by
                      exact take_splice _ _ off nn cs.length hsz (by omega) (by rw [Array.length_toList]; omega)
                    rw [e]
                    exact hspl)
                  have T : Step X B N w S _ _ := ⟨R', Ext.setBox R hbb _ _ hh (by rw [List.size_toArray, hnew]), fun c hc' => setRow_other w b c _ (fun e => by subst e; exact R.bbMu _ (List.mem_of_getElem? hbb) hc'), fun _ h => h⟩
                  unfold Oper.wp
                  rw [hr, Oper.upon_skip]
                  exact ⟨_, _, lb, h, R', A.step R.tidy T, E0.trans hT0 T.ext, hn⟩
                · exact h.elim
              · exact h.elim
          · exact h.elim
      | const v => exact h.elim
      | global g => exact h.elim
      | func f => exact h.elim
    · exact h.elim
  case fieldAddr t p i =>
    simp only [stepI] at h
    split at h
    · rename_i key off hp
      cases p with
      | tmp x =>
        have hp : st.lp x = some (key, off) := hp
        obtain ⟨he, hb⟩ := A.regs x key off hp
        split at h
        · rename_i o y ho
          have hyn := hdst y rfl
          refine wp_value (v := .pointer (some ⟨lb key, off + o, none⟩)) (w' := w) ?_ ?_
          · simp only [execOp, Sem.run_bind, show a.eval (.tmp x) = _ from he, fieldAt_run ho]; rfl
          · exact ⟨_, S, lb, h, R, A.putL (Nat.lt_of_lt_of_le hyn hn) hb, E0, by rw [put_size]; exact hn⟩
        · exact h.elim
      | const v => cases hp
      | global g => cases hp
      | func f => cases hp
    · exact step_pure hT0 E0 R A hn hdst h
  case nilCheck p =>
    simp only [stepI] at h
    split at h
    · rename_i key off hp
      cases p with
      | tmp x =>
        have hp : st.lp x = some (key, off) := hp
        obtain ⟨he, hb⟩ := A.regs x key off hp
        refine wp_value (v := .pointer (some ⟨lb key, off, none⟩)) (w' := w) ?_ ?_
        · simp only [execOp, show a.eval (.tmp x) = _ from he]; rfl
        · split at h
          · rename_i y
            have hyn := hdst y rfl
            exact ⟨_, S, lb, h, R, A.putL (Nat.lt_of_lt_of_le hyn hn) hb, E0, by rw [put_size]; exact hn⟩
          · exact ⟨_, S, lb, h, R, A, E0, hn⟩
      | const v => cases hp
      | global g => cases hp
      | func f => cases hp
    · exact step_pure hT0 E0 R A hn hdst h
  case call c =>
    obtain ⟨callee, args, tys⟩ := c
    cases callee with
    | value f =>
      simp only [stepI] at h
      split at h
      · rename_i g cap hf
        split at h
        · rename_i hg
          exact do_call hT0 hN E0 R A hn hdst hf (ix_mod F dst hg ▸ hC.run _ _ _ _ h)
        · exact h.elim
      · exact h.elim
    | invoke r m => exact h.elim
    | builtin b =>
      cases b <;> first
        | exact h.elim
        | exact step_pure hT0 E0 R A hn hdst h
        | exact step_make hT0 E0 R A hn hdst h

theorem step_ok (hC : CallOk X C) (hB : B ≤ N) (hT0 : Tidy w0 S0) (hN : N ≤ w0.heap.size) (E0 : Ext N w0 S0 w S) (R : RelG X B w S) (A : RelA N w S st lb a) (hn : n ≤ a.tmps.size) {o : Oper} (hdst : ∀ x, o.dst = some x → x < n)
    {K : St → Prop} {Q : Exit → Act → World → Prop} (h : stepI X F C o K st) : o.wp X.P a w (Conc X B N n w0 S0 K) Q :=
  step_ok' hC hB (dst := o.dst) (op := o.op) (ty := o.type) (pos := o.pos) (af := o.after) (gd := o.guard) hT0 hN E0 R A hn hdst h

theorem dstFrom_spec : ∀ (l : List Oper) (i j : Nat), dstFrom l i (i + j) = (l[j]?).bind (·.dst)
  | [], i, j => by simp [dstFrom]
  | o :: r, i, 0 => by simp [dstFrom]
  | o :: r, i, j + 1 => by
    simp only [dstFrom]
    rw [if_neg (by omega)]
    have := dstFrom_spec r (i + 1) j
    rw [show i + (j + 1) = i + 1 + j by omega, this]; simp

/-- The guards are seen alike. -/
theorem guard_ok (A : RelA N w S st lb a) {ops : Array Oper} {j : Nat} {r : Option Bool} (h : guardI ops.toList st j = some r) : yielded ops a.tmps j = r := by
  unfold guardI at h
  have hd := dstFrom_spec ops.toList 0 j
  rw [Nat.zero_add] at hd
  rw [hd] at h
  unfold yielded
  have e : ops.toList[j]? = ops[j]? := by simp
  rw [e] at h
  cases hx : (ops[j]?).bind (·.dst) with
  | none => rw [hx] at h; cases h
  | some x =>
    rw [hx] at h
    simp only at h
    have hv := A.slots x
    simp only [Option.bind_some]
    unfold guardV at h
    split at h
    · rename_i b hb
      cases h
      rw [hb] at hv
      have := hasBool hv
      simp only [Array.getD_eq_getD_getElem?] at this
      cases hg : a.tmps[x]? with
      | none => rw [hg] at this; cases this
      | some u => rw [hg] at this; simp at this; subst this; rfl
    · rename_i hb
      cases h
      rw [hb] at hv
      obtain ⟨vs, hvs, hl, _⟩ := hasTuple hv
      simp only [Array.getD_eq_getD_getElem?] at hvs
      cases hg : a.tmps[x]? with
      | none => rfl
      | some u => rw [hg] at hvs; simp at hvs; subst hvs; rfl
    · cases h

/-- A region in the order of its text. -/
theorem wpOps_ok (hC : CallOk X C) (hB : B ≤ N) (hT0 : Tidy w0 S0) (hN : N ≤ w0.heap.size) {ops : Array Oper} (hdst : ∀ o ∈ ops.toList, ∀ x, o.dst = some x → x < n) {K : St → Prop} {Q : Exit → Act → World → Prop} (hQ : ∀ a w, Conc X B N n w0 S0 K a w → Q .normal a w) :
    ∀ (l : List Oper) (k : Nat), (∀ j, l[j]? = ops[k + j]?) → ∀ (a : Act) (w : World), Conc X B N n w0 S0 (wpOps X F C ops.toList l K) a w → Go.wpOps X.P ops Q (List.range' k l.length) a w
  | [], k, _, a, w, h => hQ a w h
  | o :: l, k, hl, a, w, ⟨st, S, lb, h, R, A, E, hn⟩ => by
    have h0 : ops[k]? = some o := by simpa using (hl 0).symm
    have ho : o ∈ ops.toList := by
      have : ops.toList[k]? = some o := by simpa using h0
      exact List.mem_of_getElem? this
    have ih := wpOps_ok hC hB hT0 hN hdst hQ l (k + 1) (fun j => by have := hl (j + 1); simpa [Nat.add_assoc, Nat.add_comm 1 j] using this)
    rw [List.length_cons, List.range'_succ]
    simp only [Go.wpOps, h0]
    have hd := hdst o ho
    have run : stepI X F C o (wpOps X F C ops.toList l K) st → o.wp X.P a w (Go.wpOps X.P ops Q (List.range' (k + 1) l.length)) Q := fun hs =>
      Oper.wp_mono (fun a w => ih a w) (step_ok hC hB hT0 hN E R A hn hd hs)
    have skip : wpOps X F C ops.toList l K (st.put o.dst (.tuple [])) → Go.wpOps X.P ops Q (List.range' (k + 1) l.length) (a.put o.dst undef) w := fun hs =>
      ih _ _ (conc_pure hT0 E R A hn hd (HasV.tuple [] #[] rfl (fun j c v hc => by simp at hc)) hs)
    simp only [wpOps, opI] at h
    cases hg : o.guard with
    | none =>
      rw [hg] at h
      simp only [Region.wanted, hg, if_true]
      exact .inl (run h)
    | some jw =>
      obtain ⟨j, want⟩ := jw
      rw [hg] at h
      simp only at h
      simp only [Region.wanted, hg]
      split at h
      · rename_i b hb
        have hy := guard_ok A hb
        rw [hy]
        split at h
        · rename_i he
          have : b = want := by cases b <;> cases want <;> simp [eqB] at he ⊢
          subst this
          simp only [beq_self_eq_true, if_true]
          exact .inl (run h)
        · rename_i he
          have : ((some b : Option Bool) == some want) = false := by cases b <;> cases want <;> simp [eqB] at he ⊢
          simp only [this, Bool.false_eq_true, if_false]
          exact skip h
      · rename_i hb
        have hy := guard_ok A hb
        rw [hy]
        simp only [show ((none : Option Bool) == some want) = false from rfl, Bool.false_eq_true, if_false]
        exact skip h
      · exact h.elim
end
end Go.Eng
/- Regions whose order is open: what an operation does, as a thing of its own. -/
namespace Go.Eng
open Go

inductive Eff where
  | put (d : D)
  | putM (d : D) (m : Mem)
  | putL (k o : Nat)
  | stay
  | newBox (cs : List D)
  | wr (k off : Nat) (ds : List D)
  | wrM (id off : Nat) (ds : List D)

/-- A row of a box is set. -/
def wrB (bs : List (List D)) (id off : Nat) (ds : List D) : List (List D) := match bs[id]? with | some cs => bs.set id (setRow cs off ds) | none => bs
def Eff.apply (dst : Option Nat) (e : Eff) (st : St) : St :=
  match e with
  | .put d => st.put dst d
  | .putM d m => (st.put dst d).setM m
  | .putL k o => match dst with | some x => st.putL x k o | none => st
  | .stay => st
  | .newBox cs => match dst with | some x => st.newBox x cs | none => st
  | .wr k off ds => ⟨st.sl, st.lp, (match st.bx k with | some cs => upd st.bx k (some (setRow cs off ds)) | none => st.bx), st.m⟩
  | .wrM id off ds => st.setM { st.m with boxes := wrB st.m.boxes id off ds }

inductive Todo where
  | eff (e : Eff)
  | call (b : Bool) (g : Nat) (ds : List D)

def pureE (X : Ctx) (m0 : Mem) (o : Oper) (st : St) : Option Todo :=
  match pureD X m0 st o.op with
  | some d => some (.eff (.put d))
  | none => none
def makeE (X : Ctx) (F : Fi) (o : Oper) (st : St) : Option Todo :=
  match makeD X (mkB F o.dst) st.m st o.op with
  | some (d, m) => some (.eff (.putM d m))
  | none => none
def rowE (X : Ctx) (o : Oper) (st : St) : Option Todo :=
  match rowD X st o.op with
  | some d => some (.eff (.put d))
  | none => none
def allocE (F : Fi) (o : Oper) (cs : List D) (st : St) : Option Todo :=
  match o.dst with
  | some x => match memB F.esc x with
    | true => some (.eff (.putM (.ptr st.m.boxes.length 0) { st.m with boxes := st.m.boxes ++ [cs] }))
    | false => match st.bx x with
      | none => some (.eff (.newBox cs))
      | some _ => none
  | none => none
def storeE (X : Ctx) (F : Fi) (m0 : Mem) (t : Nat) (p v : Operand) (st : St) : Option Todo :=
  match locOk F st p with
  | true => match regOf st p with
    | some (key, off) => match st.bx key, szOf X.P t with
      | some cs, some n => match !isFr F p && ((ev X st v).okC && decide ((ev X st v).cells.length = n) && decide (off + n ≤ cs.length)) with
        | true => some (.eff (.wr key off (ev X st v).cells))
        | false => none
      | _, _ => none
    | none => match ev X st p with
      | .ptr id off => match st.m.boxes[id]?, szOf X.P t with
        | some cs, some n => match frOk F m0 p id && ((ev X st v).okC && decide ((ev X st v).cells.length = n) && decide (off + n ≤ cs.length)) with
          | true => some (.eff (.wrM id off (ev X st v).cells))
          | false => none
        | _, _ => none
      | _ => none
  | false => none

def effN0 (X : Ctx) (F : Fi) (C : CallW) (m0 : Mem) (o : Oper) (st : St) : Option Todo :=
  match o.op with
  | .alloc t => match zeroD X.P t with | some z => allocE F o z.cells st | none => none
  | .box t v => match szOf X.P t with
    | some n => match (ev X st v).okC && decide ((ev X st v).cells.length = n) with | true => allocE F o (ev X st v).cells st | false => none
    | none => none
  | .store t p v => match o.dst with | none => storeE X F m0 t p v st | some _ => none
  | .call { callee := .value f, args, argTypes := _ } => match pureOf C.pf F o.dst f with
    | some g => match C.pv g (argsD X st args.toList) with
      | some d => some (.eff (.put d))
      | none => none
    | none => match ev X st f with
      | .func g cap => match decide (g < 100000) with
        | true => some (.call (mkB F o.dst) (ix F o.dst g) (argsD X st args.toList ++ cap))
        | false => none
      | _ => none
  | .call { callee := .builtin .append, args := _, argTypes := _ } => makeE X F o st
  | .buildSlice _ _ _ => rowE X o st
  | .call { callee := .builtin .len, args := _, argTypes := _ } | .call { callee := .builtin .min, args := _, argTypes := _ } | .call { callee := .builtin .max, args := _, argTypes := _ } => pureE X m0 o st
  | .fieldAddr t p i => match regOf st p with
    | some (key, off) => match fieldOff X.P t i, o.dst with
      | some n, some _ => some (.eff (.putL key (off + n)))
      | _, _ => none
    | none => pureE X m0 o st
  | .nilCheck p => match regOf st p with
    | some (key, off) => match o.dst with
      | some _ => some (.eff (.putL key off))
      | none => some (.eff .stay)
    | none => pureE X m0 o st
  | .load _ p => match locOk F st p with
    | true => pureE X m0 o st
    | false => none
  | .makeSlice _ _ _ => makeE X F o st
  | .convert s d _ => match isStr X.P s && bytesTy X.P d with
    | true => makeE X F o st
    | false => pureE X m0 o st
  | .move _ | .assign _ | .pick _ _ _ | .binOp _ _ _ _ _ | .unOp _ _ _ | .makeFunc _ _ _ | .field _ _ _ | .build _ _
  | .indexAddr _ _ _ | .index _ _ _ | .extract _ _ | .slice _ _ _ _ _ => pureE X m0 o st
  | _ => none

def effN (X : Ctx) (F : Fi) (C : CallW) (m0 : Mem) (all : List Oper) (o : Oper) (st : St) : Option Todo :=
  match o.guard with
  | none => effN0 X F C m0 o st
  | some (j, want) => match guardI all st j with
    | some (some b) => (match eqB want b with
      | true => effN0 X F C m0 o st
      | false => some (.eff (.put (.tuple []))))
    | some none => some (.eff (.put (.tuple [])))
    | none => none

def doN (C : CallW) (dst : Option Nat) (K : St → Prop) (st : St) : Option Todo → Prop
  | some (.eff e) => K (e.apply dst st)
  | some (.call b g ds) => callN C b g ds dst K st
  | none => False

section
variable {X : Ctx} {F : Fi} {C : CallW} {m0 : Mem} {K : St → Prop} {st : St}

theorem pureE_do (o : Oper) : pureN X m0 o K st → doN C o.dst K st (pureE X m0 o st) := by
  unfold pureN pureE; cases pureD X m0 st o.op <;> exact id
theorem makeE_do (o : Oper) : makeK X F o K st → doN C o.dst K st (makeE X F o st) := by
  unfold makeK makeE; cases makeD X (mkB F o.dst) st.m st o.op <;> exact id
theorem rowE_do (o : Oper) : rowK X o K st → doN C o.dst K st (rowE X o st) := by
  unfold rowK rowE; cases rowD X st o.op <;> exact id
theorem allocE_do (o : Oper) (cs : List D) : allocN F o cs K st → doN C o.dst K st (allocE F o cs st) := by
  unfold allocN allocE
  cases hd : o.dst with
  | none => exact id
  | some x =>
    simp only
    cases memB F.esc x with
    | true => exact id
    | false => cases st.bx x <;> exact id
theorem storeE_do (o : Oper) (t : Nat) (p v : Operand) : storeN X F m0 t p v K st → doN C o.dst K st (storeE X F m0 t p v st) := by
  unfold storeN storeE
  cases locOk F st p with
  | false => exact id
  | true =>
    simp only
    cases regOf st p with
    | none =>
      simp only
      generalize ev X st p = pv
      cases pv <;> first | exact id | skip
      rename_i id off
      simp only
      cases hbx : st.m.boxes[id]? <;> cases szOf X.P t <;> intro h <;> first | exact h.elim | skip
      rename_i cs n
      simp only at h ⊢
      cases hb : (frOk F m0 p id && ((ev X st v).okC && decide ((ev X st v).cells.length = n) && decide (off + n ≤ cs.length))) <;> rw [hb] at h <;> first | exact h.elim | skip
      simp only [doN, Eff.apply, wrB, hbx]
      exact h
    | some ko =>
      obtain ⟨key, off⟩ := ko
      simp only
      cases hbx : st.bx key <;> cases szOf X.P t <;> intro h <;> first | exact h.elim | skip
      rename_i cs n
      simp only at h ⊢
      cases hb : (!isFr F p && ((ev X st v).okC && decide ((ev X st v).cells.length = n) && decide (off + n ≤ cs.length))) <;> rw [hb] at h <;> first | exact h.elim | skip
      simp only [doN, Eff.apply, hbx]
      exact h

theorem stepN_do (o : Oper) (h : stepN X F C m0 o K st) : doN C o.dst K st (effN0 X F C m0 o st) := by
  unfold stepN at h
  unfold effN0
  split at h <;> rename_i hop <;> simp only [hop]
  · split at h
    · rename_i z hz; rw [hz]; exact allocE_do o _ h
    · exact h.elim
  · split at h
    · rename_i n hn; rw [hn]
      simp only
      split at h
      · rename_i hb; rw [hb]; exact allocE_do o _ h
      · exact h.elim
    · exact h.elim
  · split at h
    · rename_i hd; rw [hd]; simp only; have := storeE_do (C := C) o _ _ _ h; rw [hd] at this; exact this
    · exact h.elim
  · split at h
    · rename_i g hg
      rw [hg]
      simp only
      split at h
      · rename_i d hd; rw [hd]; exact h
      · exact h.elim
    · rename_i hg
      rw [hg]
      simp only
      split at h
      · rename_i hf
        rw [hf]
        simp only
        split at h
        · rename_i hg; rw [hg]; exact h
        · exact h.elim
      · exact h.elim
  · exact makeE_do o h
  · exact rowE_do o h
  · exact pureE_do o h
  · exact pureE_do o h
  · exact pureE_do o h
  · split at h
    · rename_i hr; rw [hr]
      simp only
      split at h
      · rename_i n x hn hx; rw [hn, hx]; exact h
      · exact h.elim
    · rename_i hr; rw [hr]; exact pureE_do o h
  · split at h
    · rename_i hr; rw [hr]
      simp only
      split at h
      · rename_i x hx; rw [hx]; exact h
      · rename_i hx; rw [hx]; exact h
    · rename_i hr; rw [hr]; exact pureE_do o h
  · split at h
    · rename_i hl; rw [hl]; exact pureE_do o h
    · exact h.elim
  · exact makeE_do o h
  · split at h
    · rename_i hl; rw [hl]; exact makeE_do o h
    · rename_i hl; rw [hl]; exact pureE_do o h
  all_goals first | exact pureE_do o h | exact h.elim

theorem opN_do (all : List Oper) (o : Oper) (h : opN X F C m0 all o K st) : doN C o.dst K st (effN X F C m0 all o st) := by
  unfold opN at h
  unfold effN
  split at h
  · rename_i hg; simp only [hg]; exact stepN_do o h
  · rename_i j want hg
    simp only [hg]
    split at h
    · rename_i b hb
      simp only [hb]
      split at h
      · rename_i he; simp only [he]; exact stepN_do o h
      · rename_i he; simp only [he]; exact h
    · rename_i hb; simp only [hb]; exact h
    · exact h.elim
end
end Go.Eng
/- What an operation does hangs on what it looks at. -/
namespace Go.Eng
open Go

/-- The two states look alike to the operation. -/
structure Agree (X : Ctx) (F : Fi) (C : CallW) (m0 : Mem) (ops : Array Oper) (o : Oper) (st st' : St) : Prop where
  sl : ∀ t ∈ o.looksAt ops, st.sl t = st'.sl t
  lp : ∀ t ∈ o.looksAt ops, st.lp t = st'.lp t
  bx : ∀ k, (kindOf X.P C.pf F o = .rd k ∨ kindOf X.P C.pf F o = .rdm ∧ memB F.cap k = true) → (∃ t off, st.lp t = some (k, off)) → st.bx k = st'.bx k
  bl : ∀ k, ((∃ off n, kindOf X.P C.pf F o = .wr k off n) ∨ kindOf X.P C.pf F o = .sto ∧ memB F.cap k = true) → (∃ t off, st.lp t = some (k, off)) → (st.bx k).map (·.length) = (st'.bx k).map (·.length)
  nb : kindOf X.P C.pf F o = .make → ∀ x, o.dst = some x → (st.bx x = none ↔ st'.bx x = none)
  m : (kindOf X.P C.pf F o = .mem ∨ kindOf X.P C.pf F o = .st) → st.m = st'.m
  ms : kindOf X.P C.pf F o = .sto → ∀ id, inM m0 id = true → st.m.boxes[id]? = st'.m.boxes[id]?
  mf : kindOf X.P C.pf F o = .stf → ∀ id, inM m0 id = false → st.m.boxes[id]? = st'.m.boxes[id]?

section
variable {X : Ctx} {F : Fi} {C : CallW} {m0 : Mem} {st st' : St} {ops : Array Oper} {o : Oper}

theorem mem_looks {t : Nat} (h : Operand.tmp t ∈ o.op.operands) : t ∈ o.looksAt ops :=
  List.mem_append_left _ (List.mem_filterMap.2 ⟨.tmp t, by simpa using h, rfl⟩)

theorem Agree.ev (h : Agree X F C m0 ops o st st') {x : Operand} (hx : x ∈ o.op.operands) : ev X st x = ev X st' x := by
  cases x with
  | tmp t => exact h.sl t (mem_looks hx)
  | const v => rfl
  | global g => rfl
  | func f => rfl

theorem Agree.reg (h : Agree X F C m0 ops o st st') {x : Operand} (hx : x ∈ o.op.operands) : regOf st x = regOf st' x := by
  cases x with
  | tmp t => exact h.lp t (mem_looks hx)
  | const v => rfl
  | global g => rfl
  | func f => rfl

theorem argsD_congr : ∀ (l : List Operand), (∀ x ∈ l, ev X st x = ev X st' x) → argsD X st l = argsD X st' l
  | [], _ => rfl
  | x :: r, h => by
    simp only [argsD]
    rw [h x (List.mem_cons_self ..), argsD_congr r (fun y hy => h y (List.mem_cons_of_mem _ hy))]

theorem partsD_congr : ∀ (l : List (Nat × Operand)), (∀ x ∈ l, ev X st x.2 = ev X st' x.2) → partsD X st l = partsD X st' l
  | [], _ => rfl
  | x :: r, h => by
    obtain ⟨i, x⟩ := x
    simp only [partsD]
    rw [h (i, x) (List.mem_cons_self ..), partsD_congr r (fun y hy => h y (List.mem_cons_of_mem _ hy))]

theorem optI_congr {z : Option Int} {x : Option Operand} (h : ∀ y, x = some y → ev X st y = ev X st' y) : optI X st z x = optI X st' z x := by
  cases x with
  | none => rfl
  | some y => simp only [optI]; rw [h y rfl]

theorem pureD_congr (h : Agree X F C m0 ops o st st') (hp : ∀ t p, o.op = .load t p → place X m0 st p = place X m0 st' p) : pureD X m0 st o.op = pureD X m0 st' o.op := by
  have ev_ := fun x hx => h.ev (x := x) hx
  obtain ⟨dst, op, ty, pos, af, gd⟩ := o
  cases op <;> simp only [Op.operands] at ev_ <;> first | rfl | skip
  case move x => simp only [pureD]; rw [ev_ x (by simp)]
  case assign x => simp only [pureD]; rw [ev_ x (by simp)]
  case pick c x y => simp only [pureD]; rw [ev_ c (by simp), ev_ x (by simp), ev_ y (by simp)]
  case load t p => simp only [pureD]; rw [hp t p rfl]
  case nilCheck x => simp only [pureD]; rw [ev_ x (by simp)]
  case binOp op t x y u => simp only [pureD]; rw [ev_ x (by simp), ev_ y (by simp)]
  case unOp op t x => simp only [pureD]; rw [ev_ x (by simp)]
  case convert s t x => simp only [pureD]; rw [ev_ x (by simp)]
  case makeFunc f a b =>
    cases f <;> first | rfl | skip
    simp only [pureD]
    have : b.toList.map (ev X st) = b.toList.map (ev X st') := List.map_congr_left fun x hx => ev_ x (by simp; right; simpa using hx)
    rw [this]
  case field t x i => simp only [pureD]; rw [ev_ x (by simp)]
  case build t ps =>
    simp only [pureD]
    rw [partsD_congr ps.toList (fun x hx => ev_ x.2 (by simp; exact ⟨x.1, by simpa using hx⟩))]
  case fieldAddr t x i => simp only [pureD]; rw [ev_ x (by simp)]
  case indexAddr t x i => simp only [pureD]; rw [ev_ x (by simp), ev_ i (by simp)]
  case index t x i => simp only [pureD]; rw [ev_ x (by simp), ev_ i (by simp)]
  case extract x i => simp only [pureD]; rw [ev_ x (by simp)]
  case slice t x lo hi mx =>
    have hx := ev_ x (by simp)
    have hlo : ∀ z, optI X st z lo = optI X st' z lo := fun z => optI_congr fun y hy => ev_ y (by subst hy; simp)
    have hhi : ∀ z, optI X st z hi = optI X st' z hi := fun z => optI_congr fun y hy => ev_ y (by subst hy; simp)
    cases mx with
    | none => simp only [pureD, hx, hlo, hhi]
    | some m =>
      cases lo with
      | some l => rfl
      | none =>
        cases hi with
        | none => rfl
        | some hh =>
          simp only [pureD]
          rw [hx, ev_ hh (by simp), ev_ m (by simp)]
  case call c =>
    obtain ⟨callee, args, tys⟩ := c
    cases callee <;> first | rfl | skip
    rename_i b
    have two : ∀ (lo : Bool), (match args.toList with | x :: r => minL lo (ev X st x) (r.map (ev X st)) | _ => none) = (match args.toList with | x :: r => minL lo (ev X st' x) (r.map (ev X st')) | _ => none) := fun lo => by
      split
      · rename_i x r hx
        have hm : ∀ y ∈ x :: r, ev X st y = ev X st' y := fun y hy => ev_ y (by simp [Call.operands]; rw [← hx] at hy; simpa using hy)
        rw [hm x (List.mem_cons_self ..), List.map_congr_left fun y hy => hm y (List.mem_cons_of_mem _ hy)]
      · rfl
    cases b <;> first | rfl | exact two true | exact two false | skip
    simp only [pureD]
    split
    · rename_i x t hx ht
      have : x ∈ args := by
        have : x ∈ args.toList := by rw [hx]; simp
        simpa using this
      rw [ev_ x (by simp [Call.operands]; exact this)]
    · rfl

theorem makeD_congr (h : Agree X F C m0 ops o st st') (bx : Bool) (m : Mem) : makeD X bx m st o.op = makeD X bx m st' o.op := by
  have ev_ := fun x hx => h.ev (x := x) hx
  obtain ⟨dst, op, ty, pos, af, gd⟩ := o
  cases op <;> simp only [Op.operands] at ev_ <;> first | rfl | skip
  case convert s t x => simp only [makeD]; rw [ev_ x (by simp)]
  case makeSlice t l c => simp only [makeD]; rw [ev_ l (by simp), ev_ c (by simp)]
  case call c =>
    obtain ⟨callee, args, tys⟩ := c
    cases callee <;> first | rfl | skip
    rename_i b
    cases b <;> first | rfl | skip
    simp only [makeD]
    split
    · rename_i s x t u hs ht
      have m1 : s ∈ args := by
        have : s ∈ args.toList := by rw [hs]; simp
        simpa using this
      have m2 : x ∈ args := by
        have : x ∈ args.toList := by rw [hs]; simp
        simpa using this
      rw [ev_ s (by simp [Call.operands]; exact m1), ev_ x (by simp [Call.operands]; exact m2)]
    · rfl

theorem rowD_congr (h : Agree X F C m0 ops o st st') : rowD X st o.op = rowD X st' o.op := by
  have ev_ := fun x hx => h.ev (x := x) hx
  obtain ⟨dst, op, ty, pos, af, gd⟩ := o
  cases op <;> simp only [Op.operands] at ev_ <;> first | rfl | skip
  case buildSlice t n ps =>
    simp only [rowD]
    rw [partsD_congr ps.toList (fun x hx => ev_ x.2 (by simp; exact ⟨x.1, by simpa using hx⟩))]

theorem eqR_spec {a b : Option (Nat × Nat)} (h : eqR F a b = true) : a = b ∨ ∃ k o, a = some (k, o) ∧ b = none ∧ memB F.cap k = true := by
  unfold eqR at h
  split at h
  · exact .inl rfl
  · simp only [Bool.and_eq_true, decide_eq_true_eq] at h; rw [h.1, h.2]; exact .inl rfl
  · exact .inr ⟨_, _, rfl, rfl, h⟩
  · cases h

theorem effN0_congr (h : Agree X F C m0 ops o st st') : effN0 X F C m0 o st = effN0 X F C m0 o st' := by
  have ev_ := fun x hx => h.ev (x := x) hx
  have reg_ := fun x hx => h.reg (x := x) hx
  have pure_ := fun hp => pureD_congr (m0 := m0) h hp
  have make_ := fun bx m => makeD_congr h bx m
  have bx_ := h.bx
  have bl_ := h.bl
  have nb_ := h.nb
  have m_ := h.m
  have ms_ := h.ms
  have mf_ := h.mf
  have looks := fun t ht => mem_looks (ops := ops) (o := o) (t := t) ht
  obtain ⟨dst, op, ty, pos, af, gd⟩ := o
  have alloc_ : ∀ cs, kindOf X.P C.pf F (⟨dst, op, ty, pos, af, gd⟩ : Oper) = (match dst with | some x => (match memB F.esc x with | true => .mem | false => .make) | none => .make) → allocE F ⟨dst, op, ty, pos, af, gd⟩ cs st = allocE F ⟨dst, op, ty, pos, af, gd⟩ cs st' := fun cs hk => by
    unfold allocE
    cases dst with
    | none => rfl
    | some x =>
      simp only at hk ⊢
      cases he : memB F.esc x with
      | true =>
        rw [he] at hk
        rw [m_ (.inl hk)]
      | false =>
        rw [he] at hk
        have hn := nb_ hk x rfl
        cases h1 : st.bx x with
        | none => rw [hn.1 h1]
        | some c =>
          cases h2 : st'.bx x with
          | none => rw [hn.2 h2] at h1; cases h1
          | some c' => rfl
  cases op <;> simp only [Op.operands] at ev_ reg_ looks <;> first | rfl | (simp only [effN0, pureE]; rw [pure_ (fun _ _ e => by cases e)]; done) | skip
  case alloc t =>
    simp only [effN0]
    split
    · exact alloc_ _ rfl
    · rfl
  case box t v =>
    simp only [effN0]
    rw [ev_ v (by simp)]
    split
    · split
      · exact alloc_ _ rfl
      · rfl
    · rfl
  case buildSlice t n ps =>
    have := rowD_congr h
    simp only [effN0, rowE]
    rw [this]
  case convert s t x =>
    simp only [effN0]
    cases hb : isStr X.P s && bytesTy X.P t with
    | true => simp only [makeE]; rw [m_ (.inl (by unfold kindOf; simp only [hb])), make_]
    | false => simp only [pureE]; rw [pure_ (fun _ _ e => by cases e)]
  case makeSlice t l c => simp only [effN0, makeE]; rw [m_ (.inl rfl), make_]
  case load t p =>
    have hl : locOk F st p = locOk F st' p := by unfold locOk; rw [reg_ p (by simp)]
    simp only [effN0]
    rw [← hl]
    cases hl' : locOk F st p with
    | false => rfl
    | true =>
      simp only [pureE]
      rw [pure_ fun t' p' e => ?_]
      cases e
      have hr := eqR_spec hl'
      cases p with
      | tmp x =>
        have h1 : st.lp x = st'.lp x := reg_ (.tmp x) (by simp)
        have h2 : st.sl x = st'.sl x := ev_ (.tmp x) (by simp)
        simp only [place, ← h1, ← h2]
        cases hx : st.lp x with
        | none => rfl
        | some ko =>
          obtain ⟨k, off⟩ := ko
          simp only
          have hkk : kindOf X.P C.pf F (⟨dst, .load t (.tmp x), ty, pos, af, gd⟩ : Oper) = .rd k ∨ kindOf X.P C.pf F (⟨dst, .load t (.tmp x), ty, pos, af, gd⟩ : Oper) = .rdm ∧ memB F.cap k = true := by
            rcases hr with hr | ⟨k', o', h1, h2, h3⟩
            · left
              have hk : locOf F (.tmp x) = some (k, off) := by rw [← hr]; exact hx
              unfold kindOf; simp only [hk]
            · right
              have e : some (k', o') = some (k, off) := h1.symm.trans hx
              cases e
              exact ⟨by unfold kindOf; simp only [h2], h3⟩
          rw [bx_ k hkk ⟨x, off, hx⟩]
      | const v => simp only [place]; rw [ev_ (.const v) (by simp)]
      | global g => simp only [place]; rw [ev_ (.global g) (by simp)]
      | func f => simp only [place]; rw [ev_ (.func f) (by simp)]
  case store t p v =>
    have hl : locOk F st p = locOk F st' p := by unfold locOk; rw [reg_ p (by simp)]
    simp only [effN0]
    cases dst with
    | some x => rfl
    | none =>
      simp only [storeE]
      rw [← hl, ← reg_ p (by simp), ← ev_ v (by simp), ← ev_ p (by simp)]
      cases hl' : locOk F st p with
      | false => rfl
      | true =>
        simp only
        have hr' := eqR_spec hl'
        cases hr : regOf st p with
        | none =>
          simp only
          rw [hr] at hr'
          have hr' : locOf F p = none := by
            rcases hr' with hr' | ⟨k', o', h1, _⟩
            · exact hr'.symm
            · cases h1
          cases hp : ev X st p <;> first | rfl | skip
          rename_i id off
          simp only
          cases hfr : isFr F p with
          | true =>
            have := mf_ (by unfold kindOf; simp only [hr', hfr]) id
            simp only [frOk, hfr, cond_true]
            cases hin : inM m0 id with
            | false => rw [this hin]
            | true => cases st.m.boxes[id]? <;> cases st'.m.boxes[id]? <;> cases szOf X.P t <;> rfl
          | false =>
            have := ms_ (by unfold kindOf; simp only [hr', hfr]) id
            simp only [frOk, hfr, cond_false]
            cases hin : inM m0 id with
            | true => rw [this hin]
            | false => cases st.m.boxes[id]? <;> cases st'.m.boxes[id]? <;> cases szOf X.P t <;> rfl
        | some ko =>
          obtain ⟨k, off⟩ := ko
          simp only
          rw [hr] at hr'
          cases hn : szOf X.P t with
          | none => cases st.bx k <;> cases st'.bx k <;> rfl
          | some n =>
            have hreg : ∃ t off, st.lp t = some (k, off) := by
              cases p with
              | tmp x => exact ⟨x, off, hr⟩
              | const v => cases hr
              | global g => cases hr
              | func f => cases hr
            cases hno : isFr F p with
            | true => cases st.bx k <;> cases st'.bx k <;> simp
            | false =>
            have hno : ¬ isFr F p = true := by rw [hno]; simp
            have hb := bl_ k (by
              rcases hr' with hr' | ⟨k', o', h1, h2, h3⟩
              · exact .inl ⟨off, n, by unfold kindOf; simp only [← hr', hn]⟩
              · cases h1
                cases hfr : isFr F p with
                | true => exact absurd hfr hno
                | false => exact .inr ⟨by unfold kindOf; simp only [h2, hfr], h3⟩) hreg
            cases h1 : st.bx k <;> cases h2 : st'.bx k <;> rw [h1, h2] at hb <;> simp only [Option.map_some, Option.map_none, reduceCtorEq, Option.some.injEq] at hb
            simp only [hb]
  case nilCheck x =>
    simp only [effN0]
    rw [← reg_ x (by simp)]
    split
    · rfl
    · simp only [pureE]; rw [pure_ (fun _ _ e => by cases e)]
  case fieldAddr t x i =>
    simp only [effN0]
    rw [← reg_ x (by simp)]
    split
    · rfl
    · simp only [pureE]; rw [pure_ (fun _ _ e => by cases e)]
  case call c =>
    obtain ⟨callee, args, tys⟩ := c
    cases callee with
    | value f =>
      simp only [effN0]
      rw [← ev_ f (by simp [Call.operands]), ← argsD_congr args.toList (fun x hx => ev_ x (by simp [Call.operands]; right; simpa using hx))]
    | invoke r m => rfl
    | builtin b =>
      cases b <;> first | rfl | (simp only [effN0, pureE]; rw [pure_ (fun _ _ e => by cases e)]; done) | skip
      simp only [effN0, makeE]; rw [m_ (by simp only [kindOf]; cases mkB F dst <;> simp), make_]

theorem guardI_congr (h : Agree X F C m0 ops o st st') {j : Nat} {want : Bool} (hg : o.guard = some (j, want)) : guardI ops.toList st j = guardI ops.toList st' j := by
  have hd := dstFrom_spec ops.toList 0 j
  rw [Nat.zero_add] at hd
  unfold guardI
  rw [hd]
  have e : ops.toList[j]? = ops[j]? := by simp
  rw [e]
  cases hx : (ops[j]?).bind (·.dst) with
  | none => rfl
  | some x =>
    simp only
    rw [h.sl x (List.mem_append_right _ (by rw [hg]; simp [hx]))]

theorem effN_congr (h : Agree X F C m0 ops o st st') : effN X F C m0 ops.toList o st = effN X F C m0 ops.toList o st' := by
  unfold effN
  cases hg : o.guard with
  | none => exact effN0_congr h
  | some jw =>
    obtain ⟨j, want⟩ := jw
    simp only
    rw [guardI_congr h hg, effN0_congr h]
end
end Go.Eng
/- One walk in the text's order serves every order. -/
namespace Go.Eng
open Go

/-- Pointers to local boxes lead to boxes. -/
def WfR (st : St) : Prop := ∀ x k off, st.lp x = some (k, off) → st.bx k ≠ none

/-- What is known of an effect when an operation has yielded it. -/
def EffOk (X : Ctx) (F : Fi) (C : CallW) (m0 : Mem) (o : Oper) (st : St) : Eff → Prop
  | .put _ => True
  | .putM _ _ => kindOf X.P C.pf F o = .mem ∨ kindOf X.P C.pf F o = .st
  | .putL k _ => st.bx k ≠ none ∧ o.dst ≠ none
  | .stay => o.dst = none
  | .newBox _ => kindOf X.P C.pf F o = .make ∧ ∃ x, o.dst = some x ∧ st.bx x = none
  | .wr k off ds => (kindOf X.P C.pf F o = .wr k off ds.length ∧ memB F.cap k = false ∨ kindOf X.P C.pf F o = .sto ∧ memB F.cap k = true) ∧ o.dst = none ∧ ∃ cs, st.bx k = some cs ∧ off + ds.length ≤ cs.length
  | .wrM id _ _ => (kindOf X.P C.pf F o = .sto ∧ inM m0 id = true ∨ kindOf X.P C.pf F o = .stf ∧ inM m0 id = false) ∧ o.dst = none

theorem setRow_len : ∀ (ds cs : List D) (o : Nat), (setRow cs o ds).length = cs.length
  | [], _, _ => rfl
  | d :: r, cs, o => by simp only [setRow]; rw [setRow_len r]; simp
theorem setRow_get : ∀ (ds cs : List D) (o j : Nat), (setRow cs o ds)[j]? = if o ≤ j ∧ j < o + ds.length ∧ j < cs.length then ds[j - o]? else cs[j]?
  | [], cs, o, j => by simp only [setRow, List.length_nil]; rw [if_neg (by omega)]
  | d :: r, cs, o, j => by
    simp only [setRow]
    rw [setRow_get r, List.length_set, List.length_cons]
    by_cases h1 : o + 1 ≤ j ∧ j < o + 1 + r.length ∧ j < cs.length
    · rw [if_pos h1, if_pos (by omega), show j - o = (j - (o + 1)) + 1 by omega, List.getElem?_cons_succ]
    · rw [if_neg h1]
      by_cases h2 : o = j
      · subst h2
        by_cases h3 : o < cs.length
        · rw [if_pos (by omega), List.getElem?_set_self h3]; simp
        · rw [if_neg (by omega), List.getElem?_eq_none (by simp; omega), List.getElem?_eq_none (by omega)]
      · rw [List.getElem?_set_ne h2, if_neg (by omega)]
theorem wrB_get {bs : List (List D)} {id i : Nat} (off : Nat) (ds : List D) (_x : Unit) (h : id ≠ i) : (wrB bs id off ds)[i]? = bs[i]? := by
  unfold wrB
  split
  · exact List.getElem?_set_ne h
  · rfl
theorem wrB_comm {bs : List (List D)} {i j : Nat} (o1 o2 : Nat) (d1 d2 : List D) (h : i ≠ j) : wrB (wrB bs i o1 d1) j o2 d2 = wrB (wrB bs j o2 d2) i o1 d1 := by
  have e1 := wrB_get (bs := bs) o1 d1 () h
  have e2 := wrB_get (bs := bs) o2 d2 () (Ne.symm h)
  rw [show wrB (wrB bs i o1 d1) j o2 d2 = (match (wrB bs i o1 d1)[j]? with | some cs => (wrB bs i o1 d1).set j (setRow cs o2 d2) | none => wrB bs i o1 d1) from rfl, show wrB (wrB bs j o2 d2) i o1 d1 = (match (wrB bs j o2 d2)[i]? with | some cs => (wrB bs j o2 d2).set i (setRow cs o1 d1) | none => wrB bs j o2 d2) from rfl, e1, e2]
  unfold wrB
  cases bs[i]? <;> cases bs[j]? <;> simp only
  exact List.set_comm _ _ h
theorem setRow_comm (cs : List D) (o1 o2 : Nat) (d1 d2 : List D) (h : o1 + d1.length ≤ o2) : setRow (setRow cs o1 d1) o2 d2 = setRow (setRow cs o2 d2) o1 d1 := by
  apply List.ext_getElem?
  intro j
  simp only [setRow_get, setRow_len]
  by_cases h1 : o2 ≤ j ∧ j < o2 + d2.length ∧ j < cs.length <;> by_cases h2 : o1 ≤ j ∧ j < o1 + d1.length ∧ j < cs.length
  · omega
  · rw [if_pos h1, if_neg h2, if_pos h1]
  · rw [if_neg h1, if_pos h2, if_pos h2]
  · rw [if_neg h1, if_neg h2, if_neg h2, if_neg h1]

section
variable {X : Ctx} {F : Fi} {C : CallW} {m0 : Mem} {st st' : St} {ops : Array Oper} {o oi oj : Oper}

theorem locOf_cap {p : Operand} {k o : Nat} (h : locOf F p = some (k, o)) : memB F.cap k = false := by
  unfold locOf at h
  split at h
  · split at h
    · split at h
      · cases h
      · rename_i hc; cases h; exact hc
    · cases h
  · cases h
theorem kind_rd {k : Nat} (h : kindOf X.P C.pf F o = .rd k) : memB F.cap k = false := by
  unfold kindOf at h
  repeat' split at h
  all_goals first
    | (cases h; done)
    | (cases h; exact locOf_cap (by assumption))
theorem kind_wr {k off n : Nat} (h : kindOf X.P C.pf F o = .wr k off n) : memB F.cap k = false := by
  unfold kindOf at h
  repeat' split at h
  all_goals first
    | (cases h; done)
    | (cases h; exact locOf_cap (by assumption))

theorem effN0_ok (hw : WfR st) {e : Eff} (h : effN0 X F C m0 o st = some (.eff e)) : EffOk X F C m0 o st e := by
  have pure_ : pureE X m0 o st = some (.eff e) → EffOk X F C m0 o st e := fun h => by
    unfold pureE at h; split at h <;> cases h; trivial
  have make_ : (kindOf X.P C.pf F o = .mem ∨ kindOf X.P C.pf F o = .st) → makeE X F o st = some (.eff e) → EffOk X F C m0 o st e := fun hk h => by
    unfold makeE at h; split at h <;> cases h; exact hk
  have alloc_ : ∀ cs, kindOf X.P C.pf F o = (match o.dst with | some x => (match memB F.esc x with | true => .mem | false => .make) | none => .make) → allocE F o cs st = some (.eff e) → EffOk X F C m0 o st e := fun cs hk h => by
    unfold allocE at h
    split at h
    · rename_i x hx
      rw [hx] at hk
      simp only at hk
      split at h
      · rename_i he
        rw [he] at hk
        cases h; exact .inl hk
      · rename_i he
        rw [he] at hk
        split at h
        · rename_i h2
          cases h; exact ⟨hk, x, hx, h2⟩
        · cases h
    · cases h
  unfold effN0 at h
  split at h <;> rename_i hop
  · split at h
    · exact alloc_ _ (by unfold kindOf; simp only [hop]; rfl) h
    · cases h
  · split at h
    · split at h
      · exact alloc_ _ (by unfold kindOf; simp only [hop]; rfl) h
      · cases h
    · cases h
  · rename_i t p v
    split at h
    · rename_i hd
      unfold storeE at h
      split at h
      · rename_i hlk
        have hr' := eqR_spec hlk
        split at h
        · rename_i key off hr
          rw [hr] at hr'
          split at h
          · rename_i cs n hb hn
            split at h
            · rename_i hc
              simp only [Bool.and_eq_true, decide_eq_true_eq, Bool.not_eq_true'] at hc
              obtain ⟨hfr, hc⟩ := hc
              cases h
              refine ⟨?_, hd, cs, hb, by rw [hc.1.2]; exact hc.2⟩
              rcases hr' with hr' | ⟨k', o', h1, h2, h3⟩
              · exact .inl ⟨by unfold kindOf; rw [hop]; simp only [← hr', hn]; rw [hc.1.2], locOf_cap hr'.symm⟩
              · cases h1
                exact .inr ⟨by unfold kindOf; rw [hop]; simp only [h2, hfr], h3⟩
            · cases h
          · cases h
        · rename_i hr
          rw [hr] at hr'
          split at h
          · split at h
            · split at h
              · rename_i hc
                simp only [Bool.and_eq_true] at hc
                have hc := hc.1
                cases h
                have hr' := hr'.elim (fun h => h.symm) (fun ⟨k', o', h1, _⟩ => by cases h1)
                refine ⟨?_, hd⟩
                unfold frOk at hc
                cases hfr : isFr F p with
                | true =>
                  rw [hfr] at hc
                  exact .inr ⟨by unfold kindOf; rw [hop]; simp only [hr', hfr], by simpa using hc⟩
                | false =>
                  rw [hfr] at hc
                  exact .inl ⟨by unfold kindOf; rw [hop]; simp only [hr', hfr], by simpa using hc⟩
              · cases h
            · cases h
          · cases h
      · cases h
    · cases h
  · split at h
    · split at h <;> cases h; trivial
    · split at h
      · split at h <;> cases h
      · cases h
  · exact make_ (by unfold kindOf; rw [hop]; simp only []; cases mkB F o.dst <;> simp) h
  · unfold rowE at h; split at h <;> cases h; trivial
  · exact pure_ h
  · exact pure_ h
  · exact pure_ h
  · rename_i t p i
    split at h
    · rename_i key off hr
      split at h
      · rename_i n x hn hx
        cases h
        refine ⟨?_, by rw [hx]; simp⟩
        cases p with
        | tmp x => exact hw x key off hr
        | const v => cases hr
        | global g => cases hr
        | func f => cases hr
      · cases h
    · exact pure_ h
  · rename_i p
    split at h
    · rename_i key off hr
      split at h
      · rename_i x hx
        cases h
        refine ⟨?_, by rw [hx]; simp⟩
        cases p with
        | tmp x => exact hw x key off hr
        | const v => cases hr
        | global g => cases hr
        | func f => cases hr
      · rename_i hx; cases h; exact hx
    · exact pure_ h
  · split at h
    · exact pure_ h
    · cases h
  · exact make_ (.inl (by unfold kindOf; rw [hop])) h
  · split at h
    · rename_i hb; exact make_ (.inl (by unfold kindOf; rw [hop]; simp only [hb])) h
    · exact pure_ h
  all_goals first | exact pure_ h | cases h

theorem effN_ok (hw : WfR st) {all : List Oper} {e : Eff} (h : effN X F C m0 all o st = some (.eff e)) : EffOk X F C m0 o st e := by
  unfold effN at h
  split at h
  · exact effN0_ok hw h
  · split at h
    · split at h
      · exact effN0_ok hw h
      · cases h; trivial
    · cases h; trivial
    · cases h

def callKd (b : Bool) : Kd := match b with | true => .st | false => .mem
theorem callKd_or (b : Bool) : callKd b = .mem ∨ callKd b = .st := by cases b <;> simp [callKd]
theorem effN_call {all : List Oper} {b : Bool} {g : Nat} {ds : List D} (h : effN X F C m0 all o st = some (.call b g ds)) : kindOf X.P C.pf F o = callKd b := by
  have main : effN0 X F C m0 o st = some (.call b g ds) → kindOf X.P C.pf F o = callKd b := fun h => by
    have pure_ : pureE X m0 o st ≠ some (.call b g ds) := fun h => by
      unfold pureE at h; split at h <;> cases h
    have make_ : makeE X F o st ≠ some (.call b g ds) := fun h => by
      unfold makeE at h; split at h <;> cases h
    have alloc_ : ∀ cs, allocE F o cs st ≠ some (.call b g ds) := fun cs h => by
      unfold allocE at h
      repeat' split at h
      all_goals cases h
    have store_ : ∀ t p v, storeE X F m0 t p v st ≠ some (.call b g ds) := fun t p v h => by
      unfold storeE at h
      repeat' split at h
      all_goals cases h
    unfold effN0 at h
    split at h <;> rename_i hop
    · split at h
      · exact absurd h (alloc_ _)
      · cases h
    · split at h
      · split at h
        · exact absurd h (alloc_ _)
        · cases h
      · cases h
    · split at h
      · exact absurd h (store_ _ _ _)
      · cases h
    · split at h
      · split at h <;> cases h
      · rename_i hp
        split at h
        · split at h
          · cases h
            unfold kindOf
            rw [hop]
            simp only
            rw [hp]
            rfl
          · cases h
        · cases h
    · exact absurd h make_
    · unfold rowE at h; split at h <;> cases h
    · exact absurd h pure_
    · exact absurd h pure_
    · exact absurd h pure_
    · split at h
      · split at h <;> cases h
      · exact absurd h pure_
    · split at h
      · split at h <;> cases h
      · exact absurd h pure_
    · split at h
      · exact absurd h pure_
      · cases h
    · exact absurd h make_
    · split at h
      · exact absurd h make_
      · exact absurd h pure_
    all_goals first | exact absurd h pure_ | cases h
  unfold effN at h
  split at h
  · exact main h
  · split at h
    · split at h
      · exact main h
      · cases h
    · cases h
    · cases h

theorem sl_apply (e : Eff) (dst : Option Nat) (st : St) {t : Nat} (ht : dst ≠ some t) : (e.apply dst st).sl t = st.sl t := by
  cases dst with
  | none => cases e <;> rfl
  | some x =>
    have hx : t ≠ x := fun e => ht (by rw [e])
    cases e <;> simp [Eff.apply, St.put, St.putL, St.newBox, St.setM, upd_other _ _ hx]

theorem lp_put (st : St) (dst : Option Nat) (d : D) {t : Nat} (ht : dst ≠ some t) : (st.put dst d).lp t = st.lp t := by
  cases dst with
  | none => rfl
  | some x =>
    have hx : t ≠ x := fun e => ht (by rw [e])
    simp only [St.put, updReg]
    cases st.lp x with
    | none => rfl
    | some q => exact upd_other _ _ hx

theorem lp_apply (e : Eff) (he : EffOk X F C m0 o st e) {t : Nat} (ht : o.dst ≠ some t) : (e.apply o.dst st).lp t = st.lp t := by
  cases e with
  | put d => exact lp_put st _ d ht
  | putM d m => exact lp_put st _ d ht
  | stay => rfl
  | wr k off ds => rfl
  | wrM id off ds => rfl
  | putL k off =>
    simp only [Eff.apply]
    cases hd : o.dst with
    | none => rfl
    | some x =>
      have hx : t ≠ x := fun e => ht (by rw [hd, e])
      simp [St.putL, upd_other _ _ hx]
  | newBox cs =>
    obtain ⟨_, x, hd, hb⟩ := he
    have hx : t ≠ x := fun e => ht (by rw [hd, e])
    simp only [Eff.apply, hd, St.newBox, hb, dropIf]
    rw [upd_other _ _ hx]

/-- An operation apart from another sees no difference when the other has been done. -/
theorem agree_of {e : Eff} (hi : EffOk X F C m0 oi st e) (hw : WfR st) (hap : ∀ d, oi.dst = some d → d ∉ oj.looksAt ops) (hdd : ∀ d, oi.dst = some d → oj.dst ≠ some d) (hk : kindsOk (kindOf X.P C.pf F oi) (kindOf X.P C.pf F oj) = true) :
    Agree X F C m0 ops oj st (e.apply oi.dst st) where
  sl := fun t ht => (sl_apply e oi.dst st (fun h => hap t h ht)).symm
  lp := fun t ht => (lp_apply e hi (fun h => hap t h ht)).symm
  bx := fun k hkj hreg => by
    cases e with
    | put d => cases oi.dst <;> rfl
    | putM d m => cases oi.dst <;> rfl
    | stay => rfl
    | putL k off => simp only [Eff.apply]; cases oi.dst <;> rfl
    | wrM id off ds => rfl
    | newBox cs =>
      obtain ⟨h2, x, hd, hb⟩ := hi
      simp only [Eff.apply, hd, St.newBox]
      by_cases hne : k = x
      · subst hne; obtain ⟨t, off, ht⟩ := hreg; exact absurd hb (hw t k off ht)
      · rw [upd_other _ _ hne]
    | wr k' off ds =>
      obtain ⟨h3, _, cs, hb, _⟩ := hi
      simp only [Eff.apply, hb]
      have hne : k ≠ k' := fun e => by
        subst e
        rcases h3 with ⟨h3, hc⟩ | ⟨h3, hc⟩ <;> rcases hkj with h4 | ⟨h4, hc'⟩
        · rw [h3, h4] at hk; simp [kindsOk] at hk
        · rw [hc] at hc'; cases hc'
        · rw [kind_rd h4] at hc; cases hc
        · rw [h3, h4] at hk; cases hk
      rw [upd_other _ _ hne]
  bl := fun k hkj hreg => by
    cases e with
    | put d => cases oi.dst <;> rfl
    | putM d m => cases oi.dst <;> rfl
    | stay => rfl
    | putL k off => simp only [Eff.apply]; cases oi.dst <;> rfl
    | wrM id off ds => rfl
    | newBox cs =>
      obtain ⟨h2, x, hd, hb⟩ := hi
      simp only [Eff.apply, hd, St.newBox]
      by_cases hne : k = x
      · subst hne; obtain ⟨t, off, ht⟩ := hreg; exact absurd hb (hw t k off ht)
      · rw [upd_other _ _ hne]
    | wr k' off' ds =>
      obtain ⟨h3, _, cs, hb, _⟩ := hi
      simp only [Eff.apply, hb]
      by_cases hne : k = k'
      · subst hne; rw [upd_same, hb]; simp only [Option.map_some, setRow_len]
      · rw [upd_other _ _ hne]
  nb := fun hkj x hx => by
    cases e with
    | put d => cases oi.dst <;> exact Iff.rfl
    | putM d m => cases oi.dst <;> exact Iff.rfl
    | stay => exact Iff.rfl
    | wrM id off ds => exact Iff.rfl
    | putL k off => simp only [Eff.apply]; cases oi.dst <;> exact Iff.rfl
    | newBox cs =>
      obtain ⟨_, y, hd, hb⟩ := hi
      simp only [Eff.apply, hd, St.newBox]
      have hne : x ≠ y := fun e => hdd y hd (by rw [hx, e])
      rw [upd_other _ _ hne]
    | wr k' off cs =>
      obtain ⟨h3, _, c0, hb, _⟩ := hi
      simp only [Eff.apply, hb]
      by_cases hxk : x = k'
      · subst hxk
        rw [upd_same, hb]
        exact ⟨fun h => (by cases h), fun h => (by cases h)⟩
      · rw [upd_other _ _ hxk]
  m := fun hkj => by
    cases e with
    | put d => cases oi.dst <;> rfl
    | stay => rfl
    | putL k off => simp only [Eff.apply]; cases oi.dst <;> rfl
    | newBox cs => obtain ⟨_, y, hd, hb⟩ := hi; simp only [Eff.apply, hd]; rfl
    | wr k' off cs => rfl
    | wrM id off ds =>
      rcases hi.1 with ⟨this, _⟩ | ⟨this, _⟩ <;> rw [this] at hk <;> rcases hkj with h | h <;> rw [h] at hk <;> cases hk
    | putM d m =>
      have : kindOf X.P C.pf F oi = .mem ∨ kindOf X.P C.pf F oi = .st := hi
      rcases this with this | this <;> rw [this] at hk <;> rcases hkj with h | h <;> rw [h] at hk <;> cases hk
  ms := fun hkj i hin => by
    cases e with
    | put d => cases oi.dst <;> rfl
    | stay => rfl
    | putL k off => simp only [Eff.apply]; cases oi.dst <;> rfl
    | newBox cs => obtain ⟨_, y, hd, hb⟩ := hi; simp only [Eff.apply, hd]; rfl
    | wr k' off cs => rfl
    | wrM id off ds =>
      rcases hi.1 with ⟨this, h0⟩ | ⟨this, h0⟩
      · rw [this, hkj] at hk; cases hk
      · have hne : id ≠ i := fun e => by rw [e, hin] at h0; cases h0
        exact (wrB_get _ _ () hne).symm
    | putM d m =>
      have : kindOf X.P C.pf F oi = .mem ∨ kindOf X.P C.pf F oi = .st := hi
      rcases this with this | this <;> rw [this, hkj] at hk <;> cases hk
  mf := fun hkj i hin => by
    cases e with
    | put d => cases oi.dst <;> rfl
    | stay => rfl
    | putL k off => simp only [Eff.apply]; cases oi.dst <;> rfl
    | newBox cs => obtain ⟨_, y, hd, hb⟩ := hi; simp only [Eff.apply, hd]; rfl
    | wr k' off cs => rfl
    | wrM id off ds =>
      rcases hi.1 with ⟨this, h0⟩ | ⟨this, h0⟩
      · have hne : id ≠ i := fun e => by rw [e, hin] at h0; cases h0
        exact (wrB_get _ _ () hne).symm
      · rw [this, hkj] at hk; cases hk
    | putM d m =>
      have : kindOf X.P C.pf F oi = .mem ∨ kindOf X.P C.pf F oi = .st := hi
      rcases this with this | this <;> rw [this, hkj] at hk <;> cases hk

theorem St.ext' {a b : St} (h1 : ∀ t, a.sl t = b.sl t) (h2 : ∀ t, a.lp t = b.lp t) (h3 : ∀ k, a.bx k = b.bx k) (h4 : a.m = b.m) : a = b := by
  obtain ⟨s1, l1, b1, m1⟩ := a
  obtain ⟨s2, l2, b2, m2⟩ := b
  have e1 : s1 = s2 := funext h1
  have e2 : l1 = l2 := funext h2
  have e3 : b1 = b2 := funext h3
  have e4 : m1 = m2 := h4
  rw [e1, e2, e3, e4]

theorem sl_at {e : Eff} {s s' : St} (he : EffOk X F C m0 o s e) {x : Nat} (hd : o.dst = some x) : (e.apply o.dst s).sl x = (e.apply o.dst s').sl x := by
  rw [hd]
  cases e with
  | put d => simp [Eff.apply, St.put, upd_same]
  | putM d m => simp [Eff.apply, St.put, St.setM, upd_same]
  | putL k off => simp [Eff.apply, St.putL, upd_same]
  | stay => rw [show o.dst = none from he] at hd; cases hd
  | newBox cs => simp [Eff.apply, St.newBox, upd_same]
  | wr k off cs => rw [he.2.1] at hd; cases hd
  | wrM id off ds => rw [he.2] at hd; cases hd

theorem lp_put_at (s : St) (x : Nat) (d : D) : (s.put (some x) d).lp x = none := by
  simp only [St.put, updReg]
  cases h : s.lp x with
  | none => exact h
  | some q => exact upd_same _ _ _

theorem lp_at {e : Eff} {s s' : St} (he : EffOk X F C m0 o s e) {x : Nat} (hd : o.dst = some x) : (e.apply o.dst s).lp x = (e.apply o.dst s').lp x := by
  rw [hd]
  cases e with
  | put d => simp only [Eff.apply]; rw [lp_put_at, lp_put_at]
  | putM d m => show (s.put (some x) d).lp x = (s'.put (some x) d).lp x; rw [lp_put_at, lp_put_at]
  | putL k off => simp [Eff.apply, St.putL, upd_same]
  | stay => rw [show o.dst = none from he] at hd; cases hd
  | newBox cs => simp [Eff.apply, St.newBox, upd_same]
  | wr k off cs => rw [he.2.1] at hd; cases hd
  | wrM id off ds => rw [he.2] at hd; cases hd

theorem bx_put (s : St) (dst : Option Nat) (d : D) : (s.put dst d).bx = s.bx := by cases dst <;> rfl
theorem m_put (s : St) (dst : Option Nat) (d : D) : (s.put dst d).m = s.m := by cases dst <;> rfl

/-- Two effects of operations apart from each other commute. -/
theorem apply_comm {ei ej : Eff} {st : St} (hi : EffOk X F C m0 oi st ei) (hj : EffOk X F C m0 oj st ej) (hi' : EffOk X F C m0 oi (ej.apply oj.dst st) ei) (hj' : EffOk X F C m0 oj (ei.apply oi.dst st) ej)
    (hdd : ∀ d, oi.dst = some d → oj.dst ≠ some d) (hk : kindsOk (kindOf X.P C.pf F oi) (kindOf X.P C.pf F oj) = true) :
    ei.apply oi.dst (ej.apply oj.dst st) = ej.apply oj.dst (ei.apply oi.dst st) := by
  apply St.ext'
  · intro t
    by_cases h1 : oi.dst = some t
    · rw [sl_apply ej oj.dst _ (hdd t h1)]
      exact sl_at hi' h1
    · rw [sl_apply ei oi.dst _ h1]
      by_cases h2 : oj.dst = some t
      · exact sl_at hj h2
      · rw [sl_apply ej oj.dst _ h2, sl_apply ej oj.dst _ h2, sl_apply ei oi.dst _ h1]
  · intro t
    by_cases h1 : oi.dst = some t
    · rw [lp_apply ej hj' (hdd t h1)]
      exact lp_at hi' h1
    · rw [lp_apply ei hi' h1]
      by_cases h2 : oj.dst = some t
      · exact lp_at hj h2
      · rw [lp_apply ej hj h2, lp_apply ej hj' h2, lp_apply ei hi h1]
  · intro k
    have bxe : ∀ (e : Eff) (o : Oper) (s : St), EffOk X F C m0 o s e → (e.apply o.dst s).bx k = (match e with | .newBox cs => if o.dst = some k then some cs else s.bx k | .wr k' off ds => if k = k' then (s.bx k).map (fun cs => setRow cs off ds) else s.bx k | _ => s.bx k) := fun e o s he => by
      cases e with
      | put d => simp only [Eff.apply]; rw [bx_put]
      | putM d m => show (s.put o.dst d).bx k = _; rw [bx_put]
      | putL a b => simp only [Eff.apply]; cases o.dst <;> rfl
      | stay => rfl
      | wrM id off ds => rfl
      | newBox cs =>
        obtain ⟨_, x, hd, hb⟩ := he
        simp only [Eff.apply, hd, St.newBox, upd, Option.some.injEq, eq_comm]
      | wr k' off ds =>
        obtain ⟨_, _, cs, hb, _⟩ := he
        simp only [Eff.apply, hb]
        by_cases hk' : k = k'
        · subst hk'; rw [upd_same, if_pos rfl, hb]; rfl
        · rw [upd_other _ _ hk', if_neg hk']
    rw [bxe ei oi _ hi', bxe ej oj _ hj, bxe ej oj _ hj', bxe ei oi _ hi]
    cases ei <;> cases ej <;> try rfl
    · rename_i c1 c2
      by_cases h1 : oi.dst = some k
      · simp [h1, hdd k h1]
      · simp [h1]
    · rename_i c1 k2 o2 d2
      by_cases h1 : oi.dst = some k
      · by_cases h2 : k = k2
        · subst h2
          obtain ⟨_, x, hd, hb⟩ := hi
          rw [h1] at hd; cases hd
          obtain ⟨_, _, cs, hb2, _⟩ := hj
          rw [hb] at hb2; cases hb2
        · simp [h1, h2]
      · simp [h1]
    · rename_i k1 o1 d1 c2
      by_cases h1 : oj.dst = some k
      · by_cases h2 : k = k1
        · subst h2
          obtain ⟨_, x, hd, hb⟩ := hj
          rw [h1] at hd; cases hd
          obtain ⟨_, _, cs, hb2, _⟩ := hi
          rw [hb] at hb2; cases hb2
        · simp [h1, h2]
      · simp [h1]
    · rename_i k1 o1 d1 k2 o2 d2
      by_cases h1 : k = k1 <;> by_cases h2 : k = k2
      · subst h1; subst h2
        have hk : kindsOk (.wr k o1 d1.length) (.wr k o2 d2.length) = true := by
          rcases hi.1 with ⟨h3, hc⟩ | ⟨h3, hc⟩ <;> rcases hj.1 with ⟨h4, hc'⟩ | ⟨h4, hc'⟩
          · rw [h3, h4] at hk; exact hk
          · rw [hc] at hc'; cases hc'
          · rw [hc] at hc'; cases hc'
          · rw [h3, h4] at hk; cases hk
        simp only [if_true, Option.map_map]
        cases hbk : st.bx k with
        | none => rfl
        | some cs =>
          simp only [Option.map_some, Function.comp_apply, Option.some.injEq]
          obtain ⟨_, _, cs1, hb1, hl1⟩ := hi
          obtain ⟨_, _, cs2, hb2, hl2⟩ := hj
          rw [hbk] at hb1 hb2; cases hb1; cases hb2
          have hkk : k.beq k = true := Nat.beq_refl k
          simp only [kindsOk, hkk, Bool.not_true, Bool.false_or, Bool.or_eq_true, Nat.ble_eq] at hk
          rcases hk with hk | hk
          · exact (setRow_comm cs o1 o2 d1 d2 hk).symm
          · exact setRow_comm cs o2 o1 d2 d1 hk
      · simp only [if_pos h1, if_neg h2]
      · simp only [if_neg h1, if_pos h2]
      · simp only [if_neg h1, if_neg h2]
  · have me : ∀ (e : Eff) (o : Oper) (s : St), EffOk X F C m0 o s e → (e.apply o.dst s).m = (match e with | .putM _ m => m | .wrM id off ds => { s.m with boxes := wrB s.m.boxes id off ds } | _ => s.m) := fun e o s he => by
      cases e with
      | put d => simp only [Eff.apply]; rw [m_put]
      | putM d m => rfl
      | putL a b => simp only [Eff.apply]; cases o.dst <;> rfl
      | stay => rfl
      | newBox cs => obtain ⟨_, x, hd, hb⟩ := he; simp only [Eff.apply, hd]; rfl
      | wr k' off cs => rfl
      | wrM id off ds => rfl
    rw [me ei oi _ hi', me ej oj _ hj, me ej oj _ hj', me ei oi _ hi]
    cases ei <;> cases ej <;> try rfl
    · have hi : kindOf X.P C.pf F oi = .mem ∨ kindOf X.P C.pf F oi = .st := hi
      have hj : kindOf X.P C.pf F oj = .mem ∨ kindOf X.P C.pf F oj = .st := hj
      rcases hi with hi | hi <;> rcases hj with hj | hj <;> rw [hi, hj] at hk <;> cases hk
    · have hi : kindOf X.P C.pf F oi = .mem ∨ kindOf X.P C.pf F oi = .st := hi
      rcases hi with hi | hi <;> rcases hj.1 with ⟨hj, _⟩ | ⟨hj, _⟩ <;> rw [hi, hj] at hk <;> cases hk
    · have hj : kindOf X.P C.pf F oj = .mem ∨ kindOf X.P C.pf F oj = .st := hj
      rcases hj with hj | hj <;> rcases hi.1 with ⟨hi, _⟩ | ⟨hi, _⟩ <;> rw [hi, hj] at hk <;> cases hk
    · rename_i i1 o1 d1 i2 o2 d2
      have hne : i1 ≠ i2 := fun e => by
        subst e
        rcases hi.1 with ⟨h1, g1⟩ | ⟨h1, g1⟩ <;> rcases hj.1 with ⟨h2, g2⟩ | ⟨h2, g2⟩
        · rw [h1, h2] at hk; cases hk
        · rw [g1] at g2; cases g2
        · rw [g1] at g2; cases g2
        · rw [h1, h2] at hk; cases hk
      simp only [me ei oi _ hi, me ej oj _ hj]
      exact congrArg (fun b => (⟨b, st.m.toks⟩ : Mem)) (wrB_comm o2 o1 d2 d1 (Ne.symm hne))

theorem wf_apply (hw : WfR st) {e : Eff} (he : EffOk X F C m0 o st e) : WfR (e.apply o.dst st) := by
  intro x k off h
  by_cases hx : o.dst = some x
  · rw [hx] at h ⊢
    cases e with
    | put d => simp only [Eff.apply] at h; rw [lp_put_at] at h; cases h
    | putM d m => have h : (st.put (some x) d).lp x = _ := h; rw [lp_put_at] at h; cases h
    | putL k' off' => simp only [Eff.apply, St.putL] at h ⊢; rw [upd_same] at h; cases h; exact he.1
    | stay => rw [show o.dst = none from he] at hx; cases hx
    | newBox cs => simp only [Eff.apply, St.newBox] at h ⊢; rw [upd_same] at h; cases h; rw [upd_same]; simp
    | wr k off cs => rw [he.2.1] at hx; cases hx
    | wrM id off ds => rw [he.2] at hx; cases hx
  · rw [lp_apply e he hx] at h
    have := hw x k off h
    cases e with
    | put d => simp only [Eff.apply]; rw [bx_put]; exact this
    | putM d m => show (st.put o.dst d).bx k ≠ none; rw [bx_put]; exact this
    | putL a b => simp only [Eff.apply]; cases o.dst <;> exact this
    | stay => exact this
    | newBox cs =>
      obtain ⟨_, y, hd, hb⟩ := he
      simp only [Eff.apply, hd, St.newBox]
      by_cases e : k = y
      · subst e; rw [upd_same]; simp
      · rw [upd_other _ _ e]; exact this
    | wrM id off ds => exact this
    | wr k' off cs =>
      obtain ⟨_, _, c0, hb, _⟩ := he
      simp only [Eff.apply, hb]
      by_cases e : k = k'
      · subst e; rw [upd_same]; simp
      · rw [upd_other _ _ e]; exact this
end
end Go.Eng
/- Any order; soundness of regions whose order is open. -/
namespace Go.Eng
open Go

theorem callN_mono {C : CallW} (b : Bool) (g : Nat) (ds : List D) (dst : Option Nat) {K K' : St → Prop} {st : St} (h : ∀ r m, (b = true ∨ Sub st.m m) → K ((st.put dst r).setM m) → K' ((st.put dst r).setM m)) (hc : callN C b g ds dst K st) : callN C b g ds dst K' st := by
  obtain ⟨T, h1, h2, h3⟩ := hc
  exact ⟨T, h1, h2, fun r m hr => ⟨(h3 r m hr).1, h r m (h3 r m hr).1 (h3 r m hr).2⟩⟩

/-- In whatever order the operations are ready. -/
def anyN (X : Ctx) (F : Fi) (C : CallW) (m0 : Mem) (ops : Array Oper) (K : St → Prop) : Nat → Array Bool → St → Prop
  | 0, listed, st => Region.ready .any ops listed = [] ∧ K st
  | fuel + 1, listed, st => (Region.ready .any ops listed = [] → K st) ∧
    ∀ i ∈ Region.ready .any ops listed, ∀ o, ops[i]? = some o → doN C o.dst (anyN X F C m0 ops K fuel (listed.setIfInBounds i true)) st (effN X F C m0 ops.toList o st)

section
variable {X : Ctx} {F : Fi} {C : CallW} {m0 : Mem} {ops : Array Oper} {K K' : St → Prop} {st : St} {o oi oj : Oper}

theorem sub_refl (m : Mem) : Sub m m := fun _ _ h => h
theorem Sub.trans {a b c : Mem} (h : Sub a b) (k : Sub b c) : Sub a c := fun id cs h' => k id cs (h id cs h')

/-- What holds behind every outcome, with what is known of it. -/
theorem doN_mono (hw : WfR st) {t : Option Todo} (ht : t = effN X F C m0 ops.toList o st) (hk : ∀ s, WfR s → K s → K' s) (h : doN C o.dst K st t) : doN C o.dst K' st t := by
  cases t with
  | none => exact h
  | some t =>
    cases t with
    | eff e => exact hk _ (wf_apply (m0 := m0) hw (effN_ok hw ht.symm)) h
    | call b g ds =>
      have h4 : kindOf X.P C.pf F o = .mem ∨ kindOf X.P C.pf F o = .st := by rw [effN_call ht.symm]; exact callKd_or b
      exact callN_mono b g ds o.dst (fun r m _ hK => hk _ (wf_apply (m0 := m0) (o := o) (e := .putM r m) hw h4) hK) h

theorem doN_some {t : Option Todo} (h : doN C o.dst K st t) : ∃ s, K s := by
  cases t with
  | none => exact h.elim
  | some t =>
    cases t with
    | eff e => exact ⟨_, h⟩
    | call b g ds =>
      obtain ⟨T, ⟨r, m, hr⟩, _, h3⟩ := h
      exact ⟨_, (h3 r m hr).2⟩

theorem kinds_symm {a b : Kd} (h : kindsOk a b = true) : kindsOk b a = true := by
  have bs : ∀ x y : Nat, x.beq y = y.beq x := fun x y => by
    cases h1 : x.beq y with
    | true => rw [Nat.eq_of_beq_eq_true h1]; exact (Nat.beq_refl y).symm
    | false =>
      cases h2 : y.beq x with
      | true => rw [Nat.eq_of_beq_eq_true h2, Nat.beq_refl x] at h1; cases h1
      | false => rfl
  cases a <;> cases b <;> first | rfl | (cases h; done) | skip
  all_goals simp only [kindsOk] at h ⊢
  · rw [bs]; exact h
  · rw [bs]; exact h
  · rw [bs, Bool.or_comm (Nat.ble _ _)]; exact h

theorem apart_symm {ops : Array Oper} (h : oi.apart ops oj = true) : (∀ d, oj.dst = some d → d ∉ oi.looksAt ops) ∧ (∀ d, oj.dst = some d → oi.dst ≠ some d) := by
  obtain ⟨h1, h2, h3⟩ := Oper.apart_spec h
  exact ⟨h3, fun d hd he => h2 d he hd⟩

/-- The earlier and a later one change places. -/
theorem swap (hw : WfR st) (hap : oi.apart ops oj = true) (hk : kindsOk (kindOf X.P C.pf F oi) (kindOf X.P C.pf F oj) = true)
    (h : doN C oi.dst (fun s => doN C oj.dst K s (effN X F C m0 ops.toList oj s)) st (effN X F C m0 ops.toList oi st)) :
    doN C oj.dst (fun s => doN C oi.dst K s (effN X F C m0 ops.toList oi s)) st (effN X F C m0 ops.toList oj st) := by
  obtain ⟨a1, a2, a3⟩ := Oper.apart_spec hap
  obtain ⟨b1, b2⟩ := apart_symm hap
  have hk' := kinds_symm hk
  -- the later one, behind an effect of the earlier one
  have lat : ∀ ei, EffOk X F C m0 oi st ei → effN X F C m0 ops.toList oj (ei.apply oi.dst st) = effN X F C m0 ops.toList oj st := fun ei he => (effN_congr (agree_of he hw a1 a2 hk)).symm
  have ear : ∀ ej, EffOk X F C m0 oj st ej → effN X F C m0 ops.toList oi (ej.apply oj.dst st) = effN X F C m0 ops.toList oi st := fun ej he => (effN_congr (agree_of he hw b1 b2 hk')).symm
  have comm : ∀ ei ej, EffOk X F C m0 oi st ei → EffOk X F C m0 oj st ej → EffOk X F C m0 oi (ej.apply oj.dst st) ei → EffOk X F C m0 oj (ei.apply oi.dst st) ej → ei.apply oi.dst (ej.apply oj.dst st) = ej.apply oj.dst (ei.apply oi.dst st) := fun ei ej h1 h2 h3 h4 =>
    apply_comm h1 h2 h3 h4 (fun d hd => a2 d hd) hk
  have mOf : ∀ (e : Eff) (o : Oper), EffOk X F C m0 o st e → kindOf X.P C.pf F o ≠ .mem ∧ kindOf X.P C.pf F o ≠ .st ∧ kindOf X.P C.pf F o ≠ .sto ∧ kindOf X.P C.pf F o ≠ .stf → (e.apply o.dst st).m = st.m := fun e o he h4 => by
    cases e with
    | put d => simp only [Eff.apply]; rw [m_put]
    | putM d m => exact absurd he fun h => h.elim h4.1 h4.2.1
    | putL a b => simp only [Eff.apply]; cases o.dst <;> rfl
    | stay => rfl
    | newBox cs => obtain ⟨_, x, hd, hb⟩ := he; simp only [Eff.apply, hd]; rfl
    | wr k' off cs => rfl
    | wrM id off ds => exact absurd he.1 fun h => h.elim (fun h => h4.2.2.1 h.1) (fun h => h4.2.2.2 h.1)
  cases hi : effN X F C m0 ops.toList oi st with
  | none => rw [hi] at h; exact h.elim
  | some ti =>
    rw [hi] at h
    cases ti with
    | eff ei =>
      have oki := effN_ok hw hi
      have h : doN C oj.dst K (ei.apply oi.dst st) (effN X F C m0 ops.toList oj (ei.apply oi.dst st)) := h
      have e1 := lat ei oki
      cases hj : effN X F C m0 ops.toList oj st with
      | none => rw [e1, hj] at h; exact h.elim
      | some tj =>
        have hj1 : effN X F C m0 ops.toList oj (ei.apply oi.dst st) = some tj := by rw [e1, hj]
        rw [hj1] at h
        cases tj with
        | eff ej =>
          have okj := effN_ok hw hj
          have okj' := effN_ok (wf_apply (m0 := m0) hw oki) hj1
          have e2 := ear ej okj
          have hi1 : effN X F C m0 ops.toList oi (ej.apply oj.dst st) = some (.eff ei) := by rw [e2, hi]
          have oki' := effN_ok (wf_apply (m0 := m0) hw okj) hi1
          show doN C oi.dst K (ej.apply oj.dst st) (effN X F C m0 ops.toList oi (ej.apply oj.dst st))
          rw [hi1]
          show K (ei.apply oi.dst (ej.apply oj.dst st))
          rw [comm ei ej oki okj oki' okj']
          exact h
        | call b g ds =>
          have k4 := effN_call hj
          have k5 : kindOf X.P C.pf F oj = .mem ∨ kindOf X.P C.pf F oj = .st := by rw [k4]; exact callKd_or b
          have ki : kindOf X.P C.pf F oi ≠ .mem ∧ kindOf X.P C.pf F oi ≠ .st ∧ kindOf X.P C.pf F oi ≠ .sto ∧ kindOf X.P C.pf F oi ≠ .stf := ⟨fun e => (by rw [e, k4] at hk; cases b <;> cases hk), fun e => (by rw [e, k4] at hk; cases b <;> cases hk), fun e => (by rw [e, k4] at hk; cases b <;> cases hk), fun e => (by rw [e, k4] at hk; cases b <;> cases hk)⟩
          obtain ⟨T, h1, h2, h3⟩ := h
          rw [mOf ei oi oki ki] at h2
          refine ⟨T, h1, h2, fun r m hr => ?_⟩
          obtain ⟨s1, s2⟩ := h3 r m hr
          rw [mOf ei oi oki ki] at s1
          refine ⟨s1, ?_⟩
          have okj : EffOk X F C m0 oj st (.putM r m) := k5
          have okj' : EffOk X F C m0 oj (ei.apply oi.dst st) (.putM r m) := k5
          have e2 := ear (.putM r m) okj
          have hi1 : effN X F C m0 ops.toList oi ((Eff.putM r m).apply oj.dst st) = some (.eff ei) := by rw [e2, hi]
          have oki' := effN_ok (wf_apply (m0 := m0) hw okj) hi1
          show doN C oi.dst K ((Eff.putM r m).apply oj.dst st) (effN X F C m0 ops.toList oi ((Eff.putM r m).apply oj.dst st))
          rw [hi1]
          show K (ei.apply oi.dst ((Eff.putM r m).apply oj.dst st))
          rw [comm ei (.putM r m) oki okj oki' okj']
          exact s2
    | call b g ds =>
      have k4 := effN_call hi
      have k5 : kindOf X.P C.pf F oi = .mem ∨ kindOf X.P C.pf F oi = .st := by rw [k4]; exact callKd_or b
      have kj : kindOf X.P C.pf F oj ≠ .mem ∧ kindOf X.P C.pf F oj ≠ .st ∧ kindOf X.P C.pf F oj ≠ .sto ∧ kindOf X.P C.pf F oj ≠ .stf := ⟨fun e => (by rw [k4, e] at hk; cases b <;> cases hk), fun e => (by rw [k4, e] at hk; cases b <;> cases hk), fun e => (by rw [k4, e] at hk; cases b <;> cases hk), fun e => (by rw [k4, e] at hk; cases b <;> cases hk)⟩
      obtain ⟨T, ⟨r0, m1, hr0⟩, h2, h3⟩ := h
      have oki : ∀ r m, EffOk X F C m0 oi st (.putM r m) := fun r m => k5
      cases hj : effN X F C m0 ops.toList oj st with
      | none =>
        have := (h3 r0 m1 hr0).2
        have e1 := lat (.putM r0 m1) (oki r0 m1)
        have : doN C oj.dst K ((Eff.putM r0 m1).apply oi.dst st) (effN X F C m0 ops.toList oj ((Eff.putM r0 m1).apply oi.dst st)) := this
        rw [e1, hj] at this; exact this.elim
      | some tj =>
        cases tj with
        | call b' g' ds' => exact absurd (effN_call hj) (fun e => by rw [e] at kj; cases b' <;> first | exact kj.1 rfl | exact kj.2.1 rfl)
        | eff ej =>
          have okj := effN_ok hw hj
          have e2 := ear ej okj
          have hi1 : effN X F C m0 ops.toList oi (ej.apply oj.dst st) = some (.call b g ds) := by rw [e2, hi]
          show doN C oi.dst K (ej.apply oj.dst st) (effN X F C m0 ops.toList oi (ej.apply oj.dst st))
          rw [hi1]
          refine ⟨T, ⟨r0, m1, hr0⟩, by rw [mOf ej oj okj kj]; exact h2, fun r m hr => ?_⟩
          obtain ⟨s1, s2⟩ := h3 r m hr
          rw [mOf ej oj okj kj]
          refine ⟨s1, ?_⟩
          have e1 := lat (.putM r m) (oki r m)
          have hj1 : effN X F C m0 ops.toList oj ((Eff.putM r m).apply oi.dst st) = some (.eff ej) := by rw [e1, hj]
          have s2 : doN C oj.dst K ((Eff.putM r m).apply oi.dst st) (effN X F C m0 ops.toList oj ((Eff.putM r m).apply oi.dst st)) := s2
          rw [hj1] at s2
          have okj' := effN_ok (wf_apply (m0 := m0) hw (oki r m)) hj1
          have oki' : EffOk X F C m0 oi (ej.apply oj.dst st) (.putM r m) := k5
          have := comm (.putM r m) ej (oki r m) okj oki' okj'
          show K ((Eff.putM r m).apply oi.dst (ej.apply oj.dst st))
          rw [this]; exact s2

theorem any_first {i : Nat} (hi : ops[i]? = some oi) (D : List Nat) (hiD : i ∈ D) (hD : ∀ d ∈ D, d ≠ i → ∀ od, ops[d]? = some od → ∃ e ∈ od.after, Region.binds .any e = true ∧ e.on ∈ D) :
    ∀ (fuel : Nat) (listed : Array Bool) (st : St), WfR st → (∀ d ∈ D, listed.getD d true = false) →
    (∀ j oj, ops[j]? = some oj → listed.getD j true = false → j ∉ D → oi.apart ops oj = true ∧ kindsOk (kindOf X.P C.pf F oi) (kindOf X.P C.pf F oj) = true) →
    i ∈ Region.ready .any ops listed → doN C oi.dst (anyN X F C m0 ops K fuel (listed.setIfInBounds i true)) st (effN X F C m0 ops.toList oi st) → anyN X F C m0 ops K (fuel + 1) listed st := by
  intro fuel
  induction fuel with
  | zero =>
    intro listed st hw _ _ hr H
    refine ⟨fun h => (by rw [h] at hr; cases hr), fun j hj o ho => ?_⟩
    by_cases hji : j = i
    · subst hji; rw [hi] at ho; cases ho; exact H
    · have := ready_mono hj hji
      obtain ⟨s, hs⟩ := doN_some H
      rw [hs.1] at this
      cases this
  | succ fuel ih =>
    intro listed st hw hun hfree hr H
    refine ⟨fun h => (by rw [h] at hr; cases hr), fun j hj oj hoj => ?_⟩
    by_cases hji : j = i
    · subst hji; rw [hi] at hoj; cases hoj; exact H
    · obtain ⟨hjun, oj', hoj', hall⟩ := mem_ready.1 hj
      rw [hoj] at hoj'; cases hoj'
      have hjD : j ∉ D := fun hjD => by
        obtain ⟨e, he, hb, heD⟩ := hD j hjD hji oj hoj
        have h1 := hall e he hb
        have h0 := hun _ heD
        rcases Nat.lt_or_ge e.on listed.size with h' | h'
        · simp [h'] at h0 h1; rw [h0] at h1; cases h1
        · simp [Array.getElem?_eq_none h'] at h1
      obtain ⟨hap, hk⟩ := hfree j oj hoj hjun hjD
      have H1 : doN C oi.dst (fun s => doN C oj.dst (anyN X F C m0 ops K fuel ((listed.setIfInBounds i true).setIfInBounds j true)) s (effN X F C m0 ops.toList oj s)) st (effN X F C m0 ops.toList oi st) :=
        doN_mono hw rfl (fun s _ hs => hs.2 j (ready_mono hj hji) oj hoj) H
      have H2 := swap hw hap hk H1
      have hun' : ∀ d ∈ D, (listed.setIfInBounds j true).getD d true = false := fun d hd => by
        rw [getD_set_ne true (fun e => hjD (by rw [e]; exact hd))]; exact hun d hd
      have hfree' : ∀ k ok, ops[k]? = some ok → (listed.setIfInBounds j true).getD k true = false → k ∉ D → oi.apart ops ok = true ∧ kindsOk (kindOf X.P C.pf F oi) (kindOf X.P C.pf F ok) = true := fun k ok hk hkun hno => by
        refine hfree k ok hk ?_ hno
        by_cases hjk : j = k
        · subst hjk; exact hjun
        · rw [getD_set_ne true hjk] at hkun; exact hkun
      refine doN_mono hw rfl (fun s hws hs => ih (listed.setIfInBounds j true) s hws hun' hfree' (ready_mono hr (Ne.symm hji)) ?_) H2
      rw [Array.setIfInBounds_comm _ _ hji]
      exact hs

theorem memB_spec : ∀ {l : List Nat} {x : Nat}, memB l x = true → x ∈ l
  | [], _, h => by cases h
  | y :: r, x, h => by
    simp only [memB] at h
    split at h
    · rename_i e; rw [e]; exact List.mem_cons_self ..
    · exact List.mem_cons_of_mem _ (memB_spec h)

theorem edgeTo_spec {D : List Nat} {p : Oper} (h : edgeTo D p = true) : ∃ e ∈ p.after, Region.binds .any e = true ∧ e.on ∈ D := by
  unfold edgeTo at h
  rw [Array.any_eq_true] at h
  obtain ⟨x, hx, he⟩ := h
  simp only [Bool.and_eq_true] at he
  exact ⟨_, Array.getElem_mem hx, he.1, memB_spec he.2⟩

/-- What waits, and what does not. -/
theorem clearOf_spec {i : Nat} : ∀ {l : List Oper} {k : Nat} {D : List Nat}, (∀ j, l[j]? = ops[k + j]?) → clearOf X.P C.pf F ops oi l k D = true →
    (∀ d ∈ D, d < k ∧ i ≤ d) → i ≤ k → (∀ d ∈ D, d ≠ i → ∀ od, ops[d]? = some od → ∃ e ∈ od.after, Region.binds .any e = true ∧ e.on ∈ D) → (∀ j oj, ops[j]? = some oj → i < j → j < k → j ∉ D → oi.apart ops oj = true ∧ kindsOk (kindOf X.P C.pf F oi) (kindOf X.P C.pf F oj) = true) →
    ∃ D' : List Nat, (∀ d ∈ D, d ∈ D') ∧ (∀ d ∈ D', i ≤ d ∧ d < k + l.length) ∧ (∀ d ∈ D', d ≠ i → ∀ od, ops[d]? = some od → ∃ e ∈ od.after, Region.binds .any e = true ∧ e.on ∈ D') ∧
      ∀ j oj, ops[j]? = some oj → i < j → j ∉ D' → oi.apart ops oj = true ∧ kindsOk (kindOf X.P C.pf F oi) (kindOf X.P C.pf F oj) = true
  | [], k, D, hl, _, hD, _, he, hf => ⟨D, fun _ h => h, fun d hd => ⟨(hD d hd).2, by simpa using (hD d hd).1⟩, he, fun j oj hj hij hjD => by
      refine hf j oj hj hij ?_ hjD
      rcases Nat.lt_or_ge j k with h | h
      · exact h
      · have := hl (j - k)
        rw [show k + (j - k) = j by omega, hj] at this
        simp at this⟩
  | p :: r, k, D, hl, h, hD, hik, he, hf => by
    have hp : ops[k]? = some p := by simpa using (hl 0).symm
    have hl' : ∀ j, r[j]? = ops[k + 1 + j]? := fun j => by have := hl (j + 1); simpa [Nat.add_assoc, Nat.add_comm 1 j] using this
    simp only [clearOf] at h
    cases hb : edgeTo D p with
    | true =>
      rw [hb] at h
      obtain ⟨e, h1, h2, h3⟩ := edgeTo_spec hb
      obtain ⟨D', g1, g2, g3, g4⟩ := clearOf_spec (k := k + 1) (D := k :: D) hl' h (fun d hd => by
          rcases List.mem_cons.1 hd with rfl | hd
          · exact ⟨Nat.lt_succ_self _, hik⟩
          · exact ⟨Nat.lt_succ_of_lt (hD d hd).1, (hD d hd).2⟩) (by omega) (fun d hd hne od hod => by
          rcases List.mem_cons.1 hd with rfl | hd
          · rw [hp] at hod; cases hod
            exact ⟨e, h1, h2, List.mem_cons_of_mem _ h3⟩
          · obtain ⟨e', a1, a2, a3⟩ := he d hd hne od hod
            exact ⟨e', a1, a2, List.mem_cons_of_mem _ a3⟩) (fun j oj hj hij hjk hjD => by
          have hne : j ≠ k := fun e => hjD (by rw [e]; exact List.mem_cons_self ..)
          exact hf j oj hj hij (by omega) (fun h => hjD (List.mem_cons_of_mem _ h)))
      exact ⟨D', fun d hd => g1 d (List.mem_cons_of_mem _ hd), fun d hd => ⟨(g2 d hd).1, by have := (g2 d hd).2; simp only [List.length_cons]; omega⟩, g3, g4⟩
    | false =>
      rw [hb] at h
      simp only [Bool.and_eq_true] at h
      obtain ⟨D', g1, g2, g3, g4⟩ := clearOf_spec (k := k + 1) (D := D) hl' h.2.2 (fun d hd => ⟨Nat.lt_succ_of_lt (hD d hd).1, (hD d hd).2⟩) (by omega) he (fun j oj hj hij hjk hjD => by
          by_cases e : j = k
          · subst e; rw [hp] at hj; cases hj; exact ⟨h.1, h.2.1⟩
          · exact hf j oj hj hij (by omega) hjD)
      exact ⟨D', g1, fun d hd => ⟨(g2 d hd).1, by have := (g2 d hd).2; simp only [List.length_cons]; omega⟩, g3, g4⟩

theorem any_lex : ∀ (l : List Oper) (k : Nat) (listed : Array Bool) (st : St), WfR st → (∀ j, l[j]? = ops[k + j]?) → memOk X.P C.pf F ops l k = true → (∀ j, j < ops.size → listed.getD j true = decide (j < k)) →
    wpOpsN X F C m0 ops.toList l K st → anyN X F C m0 ops K l.length listed st
  | [], k, listed, _, _, hl, _, hlow, h => by
    refine ⟨?_, h⟩
    refine List.eq_nil_iff_forall_not_mem.2 fun j hj => ?_
    obtain ⟨h0, o, ho, _⟩ := mem_ready.1 hj
    have hlt := (Array.getElem?_eq_some_iff.1 ho).1
    rw [hlow j hlt] at h0
    have hjk : k ≤ j := by simpa using h0
    have := hl (j - k)
    rw [show k + (j - k) = j by omega, ho] at this
    simp at this
  | o :: l, k, listed, st, hw, hl, hm, hlow, h => by
    have h0 : ops[k]? = some o := by simpa using (hl 0).symm
    have hkl := (Array.getElem?_eq_some_iff.1 h0).1
    have hl' : ∀ j, l[j]? = ops[k + 1 + j]? := fun j => by have := hl (j + 1); simpa [Nat.add_assoc, Nat.add_comm 1 j] using this
    simp only [memOk, Bool.and_eq_true] at hm
    obtain ⟨hr, hc, hm'⟩ := hm
    have hdo := opN_do ops.toList o h
    obtain ⟨D', g1, g2, g3, g4⟩ := clearOf_spec (i := k) (k := k + 1) (D := [k]) hl' hc (fun d hd => by simp at hd; omega) (by omega) (fun d hd hne => by simp at hd; exact absurd hd hne) (fun j oj hj h1 h2 => by omega)
    have hlen : k + 1 + l.length = ops.size := by
      rcases Nat.lt_trichotomy (k + 1 + l.length) ops.size with h | h | h
      · have := hl' l.length
        rw [Array.getElem?_eq_getElem h] at this
        simp at this
      · exact h
      · cases hll : l.length with
        | zero => omega
        | succ q =>
          have := hl' q
          rw [Array.getElem?_eq_none (by omega), List.getElem?_eq_getElem (by omega)] at this
          cases this
    refine any_first h0 D' (g1 k (List.mem_cons_self ..)) g3 l.length listed st hw (fun d hd => ?_) (fun j oj hj hun hjD => ?_) ?_ (doN_mono hw rfl (fun s hws hs => ?_) hdo)
    · have := g2 d hd
      rw [hlow d (by omega)]; simp; omega
    · have hlt := (Array.getElem?_eq_some_iff.1 hj).1
      rw [hlow j hlt] at hun
      have hkj : k ≤ j := by simpa using hun
      have hne : j ≠ k := fun e => hjD (by rw [e]; exact g1 k (List.mem_cons_self ..))
      exact g4 j oj hj (by omega) hjD
    · refine mem_ready.2 ⟨by rw [hlow k hkl]; simp, o, h0, fun e he hb => ?_⟩
      rw [Array.all_eq_true] at hr
      obtain ⟨q, hq, rfl⟩ := Array.mem_iff_getElem.1 he
      have := hr q hq
      rw [hb] at this
      have hlt : (o.after[q]).on < k := by
        have : Nat.blt (o.after[q]).on k = true := by simpa using this
        simpa [Nat.blt_eq] using this
      have h1 := hlow (o.after[q]).on (by omega)
      rw [decide_eq_true hlt] at h1
      have hs : (o.after[q]).on < listed.size := by
        rcases Nat.lt_or_ge (o.after[q]).on listed.size with h | h
        · exact h
        · exfalso
          have h2 := hlow k hkl
          simp [Array.getElem?_eq_none (show listed.size ≤ k by omega)] at h2
      simp [hs] at h1 ⊢
      exact h1
    · refine any_lex l (k + 1) _ s hws hl' hm' (fun j hj => ?_) hs
      by_cases e : k = j
      · subst e
        rcases Nat.lt_or_ge k listed.size with h | h
        · simp [h]
        · simp
      · rw [getD_set_ne true e, hlow j hj]
        congr 1
        apply propext
        omega
end
end Go.Eng
/- Regions whose order is open: sound. -/
namespace Go.Eng
open Go
section
variable {X : Ctx} {F : Fi} {C : CallW} {B N n : Nat} {w0 w w' : World} {S0 S S' : Sh} {st : St} {lb : Nat → Nat} {a : Act} {m0 : Mem} {K : St → Prop} {ops : Array Oper}

theorem appendD_boxes {k : Nat} {m m' : Mem} {s d : D} {xs : List D} (h : appendD k m s xs = some (d, m')) : m'.boxes = m.boxes := by
  unfold appendD at h
  split at h
  · cases h; rfl
  · split at h
    · cases h; rfl
    · revert h
      cases decide (k = _) <;> intro h <;> cases h
      rfl
    · split at h
      · rename_i n hn
        revert h
        cases (decide (k = _) && decide (n = _)) <;> intro h <;> cases h
        rfl
      · cases h
    · cases h

theorem sub_of_boxes {m m' : Mem} (h : m'.boxes = m.boxes) : Sub m m' := fun id cs hc => by rw [h]; exact hc
theorem sub_fresh {F : Fi} {m0 : Mem} {p : Operand} {id : Nat} (h : frOk F m0 p id = true) (hf : isFr F p = true) {m : Mem} {c : List D} (hm : Sub m0 m) : Sub m0 { m with boxes := m.boxes.set id c } := fun i cs hi => by
  unfold frOk at h
  rw [hf, cond_true] at h
  have hne : id ≠ i := fun e => by subst e; unfold inM at h; rw [hi] at h; cases h
  show (m.boxes.set id c)[i]? = some cs
  rw [List.getElem?_set_ne hne]; exact hm i cs hi
theorem sub_box (m : Mem) (x : List D) : Sub m { m with boxes := m.boxes ++ [x] } := fun _ _ hc => get_append_of hc
theorem makeD_sub {m m' : Mem} {op : Op} {d : D} {bx : Bool} (h : makeD X bx m st op = some (d, m')) : Sub m m' ∨ (bx = true ∧ ∃ args tys, op = .call ⟨.builtin .append, args, tys⟩) := by
  cases op <;> first | (cases h; done) | skip
  case convert s t x =>
    simp only [makeD] at h
    split at h
    · rename_i s' _ _
      revert h
      cases decide (s'.length ≤ 16777216) <;> intro h <;> cases h
      exact .inl (sub_box _ _)
    · cases h
  case makeSlice t l c =>
    simp only [makeD] at h
    split at h
    · rename_i e n n' _ _ _
      split at h
      · rename_i k z _ _ _
        revert h
        cases (z.okC && decide (z.cells.length = k) && decide (0 ≤ n) && decide (n = n') && decide (n ≤ 16777216)) <;> intro h <;> cases h
        exact .inl (sub_box _ _)
      · cases h
    · cases h
  case call c =>
    obtain ⟨callee, args, tys⟩ := c
    cases callee <;> first | (cases h; done) | skip
    rename_i b
    cases b <;> first | (cases h; done) | skip
    simp only [makeD] at h
    split at h
    · split at h
      · rename_i e k k' _ _ _
        split at h
        · rename_i xs es _ _ _ _
          revert h
          cases (decide (k' = k) && decide (es.length + xs.length ≤ 16777216)) <;> intro h
          · cases h
          · cases bx with
            | true => exact .inr ⟨rfl, _, _, rfl⟩
            | false => exact .inl (sub_of_boxes (appendD_boxes h))
        · cases h
      · cases h
    · cases h

/-- What is known of the callees, as it is. -/
def CallW.down (C : CallW) (X : Ctx) : CallW := { C with run := fun g => CallD X (g % 100000) }
theorem down_run (C : CallW) : (C.down X).run = fun g => CallD X (g % 100000) := rfl
theorem down_ok (hC : CallOk X C) : CallOk X (C.down X) := ⟨fun _ _ _ _ h => h, hC.pv⟩
theorem pureOf_spec {pf : Nat → Bool} {dst : Option Nat} {f : Operand} {g : Nat} (h : pureOf pf F dst f = some g) : ∃ g0, f = .func g0 ∧ decide (g0 < 100000) = true ∧ ix F dst g0 = g ∧ pf g = true := by
  unfold pureOf at h
  split at h
  · split at h
    · rename_i hp
      simp only [Bool.and_eq_true] at hp
      cases h; exact ⟨_, rfl, hp.1, rfl, hp.2⟩
    · cases h
  · cases h

theorem todo_step (hC : CallOk X C) {o : Oper} (h : doN C o.dst K st (effN0 X F C m0 o st)) :
    (∃ d, pureD X m0 st o.op = some d ∧ K (st.put o.dst d) ∧ ∀ t p, o.op = .load t p → locOk F st p = true) ∨ stepI X F (C.down X) o (fun s => K s ∧ ((Sub m0 st.m → Sub m0 s.m) ∨ (kindOf X.P C.pf F o).isSt = true)) st := by
  have pure_ : (∀ t p, o.op = .load t p → locOk F st p = true) → doN C o.dst K st (pureE X m0 o st) → ∃ d, pureD X m0 st o.op = some d ∧ K (st.put o.dst d) ∧ ∀ t p, o.op = .load t p → locOk F st p = true := fun hl h => by
    unfold pureE at h
    split at h
    · rename_i d hd; exact ⟨d, hd, h, hl⟩
    · exact h.elim
  have make_ : doN C o.dst K st (makeE X F o st) → makeK X F o (fun s => K s ∧ ((Sub m0 st.m → Sub m0 s.m) ∨ (kindOf X.P C.pf F o).isSt = true)) st := fun h => by
    unfold makeE at h
    unfold makeK
    split at h
    · rename_i d m hd
      rw [hd]
      refine ⟨h, ?_⟩
      rcases makeD_sub hd with hs | ⟨h1, args, tys, h2⟩
      · exact .inl fun h0 => h0.trans hs
      · refine .inr ?_
        unfold kindOf
        rw [h2]
        simp only [h1]
        rfl
    · exact h.elim
  have alloc_ : ∀ cs, doN C o.dst K st (allocE F o cs st) → allocK F o cs (fun s => K s ∧ ((Sub m0 st.m → Sub m0 s.m) ∨ (kindOf X.P C.pf F o).isSt = true)) st := fun cs h => by
    unfold allocE at h
    unfold allocK
    split at h
    · rename_i x hx
      split at h
      · rename_i hm
        simp only [hx, hm]
        rw [hx] at h
        exact ⟨h, .inl fun h0 => h0.trans (sub_box _ _)⟩
      · rename_i hm
        split at h
        · rename_i hb
          simp only [hx, hm]
          simp only [doN, Eff.apply, hx] at h
          exact ⟨h, .inl id⟩
        · exact h.elim
    · exact h.elim
  unfold effN0 at h
  unfold stepI
  split at h <;> rename_i hop <;> simp only [hop]
  · right
    split at h
    · rename_i z hz; rw [hz]; exact alloc_ _ h
    · exact h.elim
  · right
    split at h
    · rename_i k hk
      split at h
      · rename_i hb; rw [hk]; simp only; rw [hb]; exact alloc_ _ h
      · exact h.elim
    · exact h.elim
  · right
    rename_i t p v
    split at h
    · rename_i hd
      rw [hd]
      unfold storeE at h
      unfold storeK
      split at h
      · rename_i hlk
        have hr' := eqR_spec hlk
        split at h
        · rename_i key off hr
          cases p with
          | tmp x =>
            have hl : st.lp x = some (key, off) := hr
            split at h
            · rename_i cs k hb hk
              split at h
              · rename_i hc
                rw [Bool.and_eq_true] at hc
                replace hc := hc.2
                simp only [hl, hb, hk, hc]
                rw [hd] at h
                simp only [doN, Eff.apply, hb] at h
                exact ⟨h, .inl id⟩
              · exact h.elim
            · exact h.elim
          | const v => cases hr
          | global g => cases hr
          | func f => cases hr
        · rename_i hr
          rw [hr] at hr'
          split at h
          · rename_i id off hp
            cases p with
            | tmp x =>
              have hl : st.lp x = none := hr
              have hs : st.sl x = .ptr id off := hp
              split at h
              · rename_i cs k hb hk
                split at h
                · rename_i hc
                  rw [Bool.and_eq_true] at hc
                  obtain ⟨hfo, hc⟩ := hc
                  simp only [hl, hs, hb, hk, hc]
                  rw [hd] at h
                  simp only [doN, Eff.apply, wrB, hb] at h
                  have hr' := hr'.elim (fun h => h.symm) (fun ⟨k', o', h1, _⟩ => by cases h1)
                  refine ⟨h, ?_⟩
                  cases hfr : isFr F (.tmp x) with
                  | false => exact .inr (by unfold kindOf; rw [hop]; simp only [hr', hfr]; rfl)
                  | true => exact .inl (sub_fresh hfo hfr)
                · exact h.elim
              · exact h.elim
            | const v =>
              exfalso
              have : constD v ≠ some (.ptr id off) := fun e => by
                unfold constD at e
                split at e
                · rename_i cs
                  cases hc : constL constC cs.toList <;> rw [hc] at e <;> cases e
                · unfold constC at e
                  split at e <;> cases e
              simp only [ev] at hp
              cases hv : constD v with
              | none => rw [hv] at hp; cases hp
              | some d => rw [hv] at hp; simp only [Option.getD_some] at hp; rw [hp] at hv; exact this hv
            | global g =>
              exfalso
              simp only [ev] at hp
              split at hp <;> cases hp
            | func f => cases hp
          · exact h.elim
      · exact h.elim
    · exact h.elim
  · right
    split at h
    · rename_i g hg
      obtain ⟨g0, rfl, h0, rfl, hp⟩ := pureOf_spec hg
      split at h
      · rename_i d hd
        have := hC.pv _ _ d hp hd st.m
        rw [ix_mod F o.dst h0] at this
        simp only [ev, List.append_nil, h0]
        rw [down_run]
        simp only [ix_mod F o.dst h0]
        refine CallD.mono this ?_
        rintro r m' ⟨rfl, rfl⟩
        have e : (st.put o.dst r).setM st.m = st.put o.dst r := by
          cases o.dst <;> rfl
        rw [e]
        exact ⟨h, .inl (by rw [m_put]; exact id)⟩
      · exact h.elim
    · rename_i hpn
      split at h
      · rename_i g cap hf
        rw [hf]
        simp only
        split at h
        · rename_i hlt
          rw [hlt]
          obtain ⟨T, _, h2, h3⟩ := h
          simp only [down_run]
          exact (hC.run _ _ _ _ h2).mono fun r m hr => ⟨(h3 r m hr).2, (h3 r m hr).1.elim (fun hb => .inr (by unfold kindOf; rw [hop]; simp only; rw [hpn]; simp only; rw [hb]; rfl)) fun hs => .inl fun h0 => h0.trans hs⟩
        · exact h.elim
      · exact h.elim
  · exact .inr (make_ h)
  · right
    unfold rowE at h
    unfold rowK
    split at h
    · rename_i d hd
      rw [hd]
      exact ⟨h, .inl (by rw [m_put]; exact id)⟩
    · exact h.elim
  · exact .inl (hop ▸ pure_ (fun t' p' e => by rw [hop] at e; cases e) h)
  · exact .inl (hop ▸ pure_ (fun t' p' e => by rw [hop] at e; cases e) h)
  · exact .inl (hop ▸ pure_ (fun t' p' e => by rw [hop] at e; cases e) h)
  · rename_i t p i
    split at h
    · rename_i key off hr
      right
      split at h
      · rename_i n x hn hx
        simp only [doN, Eff.apply, hx] at h
        simp only [hr, hn, hx]
        exact ⟨h, .inl id⟩
      · exact h.elim
    · exact .inl (hop ▸ pure_ (fun t' p' e => by rw [hop] at e; cases e) h)
  · rename_i p
    split at h
    · rename_i key off hr
      right
      split at h
      · rename_i x hx
        simp only [doN, Eff.apply, hx] at h
        simp only [hr, hx]
        exact ⟨h, .inl id⟩
      · rename_i hx
        simp only [doN, Eff.apply] at h
        simp only [hr, hx]
        exact ⟨h, .inl id⟩
    · exact .inl (hop ▸ pure_ (fun t' p' e => by rw [hop] at e; cases e) h)
  · split at h
    · rename_i hl
      exact .inl (hop ▸ pure_ (fun t' p' e => by rw [hop] at e; cases e; exact hl) h)
    · exact h.elim
  · exact .inr (make_ h)
  · split at h
    · rename_i hb; right; rw [hb]; exact make_ h
    · exact .inl (hop ▸ pure_ (fun t' p' e => by rw [hop] at e; cases e) h)
  all_goals first | exact .inl (hop ▸ pure_ (fun t' p' e => by rw [hop] at e; cases e) h) | exact h.elim

/-- What does not read memory sees no difference. -/
theorem pureD_mem {o : Oper} {m1 : Mem} (hk : (kindOf X.P C.pf F o).onMem = false) (hl : ∀ t p, o.op = .load t p → locOk F st p = true) : pureD X m0 st o.op = pureD X m1 st o.op := by
  obtain ⟨dst, op, ty, pos, af, gd⟩ := o
  cases op <;> first | rfl | skip
  case makeFunc f a b => cases f <;> rfl
  case convert s t x =>
    simp only [pureD]
    cases hb : bytesTy X.P s && isStr X.P t with
    | false => rfl
    | true =>
      exfalso
      simp only [Bool.and_eq_true] at hb
      have h2 : isStr X.P s = false := by
        have := hb.1
        unfold bytesTy sliceElem at this
        unfold isStr
        cases hu : X.P.underlying s with
        | none => rfl
        | some d => rw [hu] at this; cases d <;> first | rfl | cases this
      unfold kindOf at hk
      simp only [h2, hb.1, hb.2, Bool.false_and, Bool.and_self, Kd.onMem] at hk
      cases hk
  case slice t x lo hi mx => cases lo <;> cases hi <;> cases mx <;> rfl
  case call c =>
    obtain ⟨callee, args, tys⟩ := c
    cases callee <;> first | rfl | skip
    rename_i b
    cases b <;> rfl
  case load t p =>
    have h1 := eqR_spec (hl t p rfl)
    have h2 : regOf st p ≠ none := fun e => by
      rw [e] at h1
      have h1 := h1.elim (fun h => h.symm) (fun ⟨k', o', h1, _⟩ => by cases h1)
      unfold kindOf at hk
      simp only [h1, Kd.onMem] at hk
      cases hk
    cases p with
    | tmp x =>
      simp only [pureD, place]
      cases hx : st.lp x with
      | none => exact absurd hx h2
      | some ko => rfl
    | const v => exact absurd rfl h2
    | global g => exact absurd rfl h2
    | func f => exact absurd rfl h2

theorem todo_ok (hC : CallOk X C) (hB : B ≤ N) (hT0 : Tidy w0 S0) (hN : N ≤ w0.heap.size) (E0 : Ext N w0 S0 w S) (R : RelG X B w S) (A : RelA N w S st lb a) (hn : n ≤ a.tmps.size) {o : Oper} (hdst : ∀ x, o.dst = some x → x < n) (hs : Sub m0 st.m ∨ (kindOf X.P C.pf F o).onMem = false)
    {Q : Exit → Act → World → Prop} (h : doN C o.dst K st (effN0 X F C m0 o st)) : o.wp X.P a w (Conc X B N n w0 S0 fun s => ((Sub m0 st.m → Sub m0 s.m) ∨ (kindOf X.P C.pf F o).isSt = true) ∧ K s) Q := by
  rcases todo_step hC h with ⟨d, hd, hK, hl⟩ | hst
  · have hd' : pureD X S.m st o.op = some d ∨ Sub m0 S.m := by
      rcases hs with hs | hk
      · exact .inr (A.m ▸ hs)
      · exact .inl (by rw [← pureD_mem (m0 := m0) hk hl]; exact hd)
    rcases hd' with hd' | hm
    · obtain ⟨v, hr, hv⟩ := pure_ok R A (m0 := S.m) (fun _ _ h => h) hd'
      exact wp_value hr (conc_pure hT0 E0 R A hn hdst hv ⟨.inl fun h => by rw [m_put]; exact h, hK⟩)
    · obtain ⟨v, hr, hv⟩ := pure_ok R A (m0 := m0) hm hd
      exact wp_value hr (conc_pure hT0 E0 R A hn hdst hv ⟨.inl fun h => by rw [m_put]; exact h, hK⟩)
  · exact Oper.wp_mono (fun a w hc => hc.mono fun s hs' => ⟨hs'.2, hs'.1⟩) (step_ok (F := F) (down_ok hC) hB hT0 hN E0 R A hn hdst hst)

/-- All that the listed operations wait for is listed. -/
def Closed (ops : Array Oper) (listed : Array Bool) : Prop := ∀ j oj, ops[j]? = some oj → listed.getD j true = true → ∀ e ∈ oj.after, Region.binds .any e = true → listed.getD e.on false = true

theorem getD_tf {listed : Array Bool} {j : Nat} (h : listed.getD j false = true) : listed.getD j true = true := by
  simp only [Array.getD_eq_getD_getElem?] at h ⊢
  cases hx : listed[j]? with
  | none => rfl
  | some b => rw [hx] at h; exact h

theorem closed_set {listed : Array Bool} (hc : Closed ops listed) {i : Nat} (hi : i ∈ Region.ready .any ops listed) : Closed ops (listed.setIfInBounds i true) := fun j oj hj hl e he hb => by
  obtain ⟨_, o, ho, hall⟩ := mem_ready.1 hi
  by_cases hji : i = j
  · subst hji
    rw [ho] at hj; cases hj
    exact getD_set_true (hall e he hb)
  · rw [getD_set_ne true hji] at hl
    exact getD_set_true (hc j oj hj hl e he hb)

/-- W: what operation i waits for. -/
theorem waits_listed {i : Nat} {W : List Nat} (hW : ∀ w ∈ W, w = i ∨ ∃ w' ∈ W, w < w' ∧ ∃ o, ops[w']? = some o ∧ ∃ e ∈ o.after, Region.binds .any e = true ∧ e.on = w) (hi : ∀ w ∈ W, w ≤ i) {listed : Array Bool} (hc : Closed ops listed) (hr : i ∈ Region.ready .any ops listed) :
    ∀ (n w : Nat), w ∈ W → i - w = n → w = i ∨ listed.getD w false = true := by
  intro n
  induction n using Nat.strongRecOn with
  | _ n ih =>
    intro w hw hn
    rcases hW w hw with h | ⟨w', hw', hlt, o, ho, e, he, hb, rfl⟩
    · exact .inl h
    · right
      have hwi := hi w' hw'
      rcases ih (i - w') (by omega) w' hw' rfl with h | h
      · subst h
        obtain ⟨_, o2, ho2, hall⟩ := mem_ready.1 hr
        rw [ho] at ho2; cases ho2
        exact hall e he hb
      · exact hc w' o ho (getD_tf h) e he hb

theorem waitsOf_spec {i : Nat} : ∀ (j : Nat) (W : List Nat), (∀ w ∈ W, w = i ∨ ∃ w' ∈ W, w < w' ∧ ∃ o, ops[w']? = some o ∧ ∃ e ∈ o.after, Region.binds .any e = true ∧ e.on = w) → (∀ w ∈ W, j ≤ w ∧ w ≤ i) → j ≤ i →
    (∀ w ∈ waitsOf ops.toList j W, w = i ∨ ∃ w' ∈ waitsOf ops.toList j W, w < w' ∧ ∃ o, ops[w']? = some o ∧ ∃ e ∈ o.after, Region.binds .any e = true ∧ e.on = w) ∧ (∀ w ∈ waitsOf ops.toList j W, w ≤ i)
  | 0, W, h1, h2, _ => ⟨h1, fun w hw => (h2 w hw).2⟩
  | j + 1, W, h1, h2, hj => by
    simp only [waitsOf]
    split
    · rename_i ha
      rw [List.any_eq_true] at ha
      obtain ⟨⟨o, k⟩, hm, hc⟩ := ha
      simp only [Bool.and_eq_true] at hc
      have hk := memB_spec hc.1
      obtain ⟨e, he, hb, hon⟩ := edgeTo_spec hc.2
      have hon : e.on = j := by simpa using hon
      have ho : ops[k]? = some o := by
        have := List.mk_mem_zipIdx_iff_getElem?.1 hm
        simpa using this
      have hjk := h2 k hk
      refine waitsOf_spec j (j :: W) (fun w hw => ?_) (fun w hw => ?_) (by omega)
      · rcases List.mem_cons.1 hw with rfl | hw
        · exact .inr ⟨k, List.mem_cons_of_mem _ hk, by omega, o, ho, e, he, hb, hon⟩
        · rcases h1 w hw with h | ⟨w', h3, h4⟩
          · exact .inl h
          · exact .inr ⟨w', List.mem_cons_of_mem _ h3, h4⟩
      · rcases List.mem_cons.1 hw with rfl | hw
        · exact ⟨Nat.le_refl _, by omega⟩
        · have := h2 w hw; exact ⟨by omega, this.2⟩
    · exact waitsOf_spec j W h1 (fun w hw => by have := h2 w hw; exact ⟨by omega, this.2⟩) (by omega)

theorem stOk_spec : ∀ (l : List Oper) (k : Nat), stOk X.P C.pf F ops.toList l k = true → ∀ j o, l[j]? = some o → (kindOf X.P C.pf F o).isSt = true →
    ∀ i oi, ops[i]? = some oi → (kindOf X.P C.pf F oi).onMem = true → i = k + j ∨ memB (waitsOf ops.toList (k + j) [k + j]) i = true
  | [], _, _, j, o, h, _ => by simp at h
  | p :: r, k, h, 0, o, ho, hk => fun i oi hi hm => by
    simp only [stOk, Bool.and_eq_true] at h
    simp at ho; subst ho
    have h1 := h.1
    rw [hk] at h1
    simp only [List.all_eq_true] at h1
    have hmem : (oi, i) ∈ ops.toList.zipIdx := List.mk_mem_zipIdx_iff_getElem?.2 (by simpa using hi)
    have := h1 _ hmem
    simp only [hm, Bool.not_true, Bool.false_or, Bool.or_eq_true] at this
    rcases this with h2 | h2
    · exact .inl (Nat.eq_of_beq_eq_true h2)
    · exact .inr h2
  | p :: r, k, h, j + 1, o, ho, hk => fun i oi hi hm => by
    simp only [stOk, Bool.and_eq_true] at h
    have := stOk_spec r (k + 1) h.2 j o (by simpa using ho) hk i oi hi hm
    rw [show k + (j + 1) = k + 1 + j by omega]
    exact this

/-- When memory is written, whatever touches memory is done. -/
theorem st_ready (hst : stOk X.P C.pf F ops.toList ops.toList 0 = true) {listed : Array Bool} (hc : Closed ops listed) {i : Nat} {o : Oper} (hi : i ∈ Region.ready .any ops listed) (ho : ops[i]? = some o) (hk : (kindOf X.P C.pf F o).isSt = true) :
    ∀ j oj, ops[j]? = some oj → (listed.setIfInBounds i true).getD j true = false → (kindOf X.P C.pf F oj).onMem = false := fun j oj hj hl => by
  cases hm : (kindOf X.P C.pf F oj).onMem with
  | false => rfl
  | true =>
    exfalso
    have h1 := stOk_spec (C := C) (F := F) (X := X) ops.toList 0 hst i o (by simpa using ho) hk j oj hj hm
    rw [Nat.zero_add] at h1
    have hw := waitsOf_spec (ops := ops) (i := i) i [i] (fun w hw => .inl (by simpa using hw)) (fun w hw => by simp at hw; omega) (Nat.le_refl _)
    have h2 : j = i ∨ listed.getD j false = true := by
      rcases h1 with h1 | h1
      · exact .inl h1
      · exact waits_listed hw.1 hw.2 hc hi (i - j) j (memB_spec h1) rfl
    rcases h2 with rfl | h2
    · obtain ⟨h0, _⟩ := mem_ready.1 hi
      simp only [Array.getD_eq_getD_getElem?] at hl h0
      by_cases hlt : j < listed.size
      · simp [hlt] at hl
      · simp [Array.getElem?_eq_none (by omega : listed.size ≤ j)] at h0
    · by_cases hji : i = j
      · subst hji
        obtain ⟨h0, _⟩ := mem_ready.1 hi
        rw [getD_tf h2] at h0; cases h0
      · rw [getD_set_ne true hji, getD_tf h2] at hl; cases hl

theorem any_ok (hC : CallOk X C) (hB : B ≤ N) (hst : stOk X.P C.pf F ops.toList ops.toList 0 = true) (hT0 : Tidy w0 S0) (hN : N ≤ w0.heap.size) (hdst : ∀ o ∈ ops.toList, ∀ x, o.dst = some x → x < n) {Q : Exit → Act → World → Prop} (hQ : ∀ a w, Conc X B N n w0 S0 K a w → Q .normal a w) :
    ∀ (fuel : Nat) (listed : Array Bool) (a : Act) (w : World), Closed ops listed → Conc X B N n w0 S0 (fun st => (Sub m0 st.m ∨ ∀ j oj, ops[j]? = some oj → listed.getD j true = false → (kindOf X.P C.pf F oj).onMem = false) ∧ anyN X F C m0 ops K fuel listed st) a w → wpAny X.P .any ops Q fuel listed a w
  | 0, listed, a, w, _, h => by
    have hr : Region.ready .any ops listed = [] := by obtain ⟨st, S, lb, h1, _⟩ := h; exact h1.2.1
    exact ⟨hr, hQ _ _ (h.mono fun s hs => hs.2.2)⟩
  | fuel + 1, listed, a, w, hcl, h => by
    refine ⟨fun hr => hQ _ _ (h.mono fun s hs => hs.2.1 hr), fun i hi => ?_⟩
    obtain ⟨hun, o, ho, _⟩ := mem_ready.1 hi
    obtain ⟨st, S, lb, ⟨hs, h1⟩, R, A, E, hn⟩ := h
    have hd := h1.2 i hi o ho
    have hmem : o ∈ ops.toList := by
      have : ops.toList[i]? = some o := by simpa using ho
      exact List.mem_of_getElem? this
    have hdo := hdst o hmem
    have hcl' := closed_set hcl hi
    have ih := any_ok hC hB hst hT0 hN hdst hQ fuel (listed.setIfInBounds i true)
    have later : ∀ {m : Mem}, (Sub m0 st.m → Sub m0 m) → (Sub m0 m ∨ ∀ j oj, ops[j]? = some oj → (listed.setIfInBounds i true).getD j true = false → (kindOf X.P C.pf F oj).onMem = false) := fun hm => by
      rcases hs with hs | hs
      · exact .inl (hm hs)
      · refine .inr fun j oj hj hl => hs j oj hj ?_
        by_cases hji : i = j
        · subst hji; exact hun
        · rw [getD_set_ne true hji] at hl; exact hl
    unfold wpOp
    simp only [ho]
    have run : doN C o.dst (anyN X F C m0 ops K fuel (listed.setIfInBounds i true)) st (effN0 X F C m0 o st) → o.wp X.P a w (wpAny X.P .any ops Q fuel (listed.setIfInBounds i true)) Q := fun hh =>
      Oper.wp_mono (fun a w hc => ih a w hcl' (hc.mono fun s ⟨h2, h3⟩ => ⟨h2.elim (fun h2 => later h2) (fun h2 => .inr (st_ready hst hcl hi ho h2)), h3⟩)) (todo_ok hC hB hT0 hN E R A hn hdo (hs.imp id fun hs => hs i o ho hun) hh)
    have skip : anyN X F C m0 ops K fuel (listed.setIfInBounds i true) (st.put o.dst (.tuple [])) → wpAny X.P .any ops Q fuel (listed.setIfInBounds i true) (a.put o.dst undef) w := fun hh =>
      ih _ _ hcl' (conc_pure hT0 E R A hn hdo (HasV.tuple [] #[] rfl (fun j c v hc => by simp at hc)) ⟨later (by rw [m_put]; exact id), hh⟩)
    unfold effN at hd
    cases hg : o.guard with
    | none =>
      rw [hg] at hd
      simp only [Region.wanted, hg, if_true]
      exact .inl (run hd)
    | some jw =>
      obtain ⟨j, want⟩ := jw
      rw [hg] at hd
      simp only at hd
      simp only [Region.wanted, hg]
      split at hd
      · rename_i b hb
        have hy := guard_ok A hb
        rw [hy]
        split at hd
        · rename_i he
          have : b = want := by cases b <;> cases want <;> simp [eqB] at he ⊢
          subst this
          simp only [beq_self_eq_true, if_true]
          exact .inl (run hd)
        · rename_i he
          have : ((some b : Option Bool) == some want) = false := by cases b <;> cases want <;> simp [eqB] at he ⊢
          simp only [this, Bool.false_eq_true, if_false]
          exact skip hd
      · rename_i hb
        have hy := guard_ok A hb
        rw [hy]
        simp only [show ((none : Option Bool) == some want) = false from rfl, Bool.false_eq_true, if_false]
        exact skip hd
      · exact hd.elim

theorem RelA.wf (A : RelA N w S st lb a) : WfR st := fun x k off h => by
  have := (A.regs x k off h).2
  intro e; rw [e] at this; cases this

theorem regionN_ok (hC : CallOk X C) (hB : B ≤ N) (hT0 : Tidy w0 S0) (hN : N ≤ w0.heap.size) {id : Nat} (hdst : ∀ o ∈ ops.toList, ∀ x, o.dst = some x → x < n) {Q : Exit → Act → World → Prop} (hQ : ∀ a w, Conc X B N n w0 S0 K a w → Q .normal a w)
    (hl : lexOk X.P C.pf F ops = true) (h : Conc X B N n w0 S0 (fun st => wpOpsN X F C st.m ops.toList ops.toList K st) a w) : (Code.region id ops true).wp X.P Q a w := by
  simp only [lexOk, Bool.and_eq_true] at hl
  obtain ⟨l1, l3, l4⟩ := hl
  obtain ⟨st, S, lb, h1, R, A, E, hn⟩ := h
  have hany := any_lex (C := C) (F := F) ops.toList 0 (Array.replicate ops.size false) st A.wf (fun j => by simp) l3 (fun j hj => by simp [hj]) h1
  refine wp_region_any l1 ?_
  have ED : Ext N w S w.drew S := Ext.ofHeap rfl rfl rfl rfl
  have T : Step X B N w S w.drew S := ⟨R.ofHeap rfl rfl rfl rfl, ED, fun _ _ => rfl, fun _ h => h⟩
  have A' := A.step R.tidy T
  rw [setM_self A] at A'
  have hcl : Closed ops (Array.replicate ops.size false) := fun j oj hj hl => by
    have hlt := (Array.getElem?_eq_some_iff.1 hj).1
    simp [hlt] at hl
  exact any_ok hC hB l4 (m0 := st.m) (F := F) hT0 hN hdst hQ ops.size (Array.replicate ops.size false) a w.drew hcl ⟨st, S, lb, ⟨.inl (sub_refl _), by simpa using hany⟩, T.rel, A', E.trans hT0 ED, hn⟩
end
end Go.Eng
/- Control, and whole functions. -/
namespace Go.Eng
open Go

def dstsOk (n : Nat) : List Oper → Bool
  | [] => true
  | o :: r => (match o.dst with | some x => decide (x < n) | none => true) && dstsOk n r
/-- All is in order: what is written are slots; the regions of open order may be walked in the text's order (but those that are said to be bad). -/
def codeOk (P : Program) (pf : Nat → Bool) (F : Fi) (n : Nat) : Code → Bool
  | .region id ops dr => dstsOk n ops.toList && (match dr with | true => memB F.bad id || lexOk P pf F ops | false => true)
  | .seq a b => codeOk P pf F n a && codeOk P pf F n b
  | .cond _ a b => codeOk P pf F n a && codeOk P pf F n b
  | .block _ a => codeOk P pf F n a
  | .loop a => codeOk P pf F n a
  | _ => true

theorem dstsOk_spec {n : Nat} : ∀ {l : List Oper}, dstsOk n l = true → ∀ o ∈ l, ∀ x, o.dst = some x → x < n
  | [], _, o, ho, _, _ => by cases ho
  | p :: r, h, o, ho, x, hx => by
    simp only [dstsOk, Bool.and_eq_true] at h
    rcases List.mem_cons.1 ho with rfl | ho
    · have := h.1; rw [hx] at this; simpa using this
    · exact dstsOk_spec h.2 o ho x hx

section
variable {X : Ctx} {F : Fi} {C : CallW} {B N n : Nat} {w0 w w' : World} {S0 S S' : Sh} {st : St} {lb : Nat → Nat} {a : Act}

theorem slL_keep (f : Nat → D) : ∀ (l : List Nat) (x : Nat), slL (keepS f l) x = f x ∨ slL (keepS f l) x = .undef
  | [], x => .inr rfl
  | y :: r, x => by
    simp only [keepS, slL]
    split
    · rename_i h; subst h; exact .inl rfl
    · exact slL_keep f r x

theorem opL_keep {α : Type} (f : Nat → Option α) : ∀ (l : List Nat) (x : Nat) (v : α), opL (keepO f l) x = some v → f x = some v
  | [], x, v, h => by cases h
  | y :: r, x, v, h => by
    simp only [keepO] at h
    split at h
    · rename_i u hu
      simp only [opL] at h
      split at h
      · rename_i e; subst e; cases h; exact hu
      · exact opL_keep f r x v h
    · exact opL_keep f r x v h

theorem opL_keep_of {α : Type} (f : Nat → Option α) : ∀ (l : List Nat) (x : Nat) (v : α), memB l x = true → f x = some v → opL (keepO f l) x = some v
  | [], x, v, h, _ => by cases h
  | y :: r, x, v, h, hf => by
    simp only [keepO]
    simp only [memB] at h
    by_cases e : y = x
    · subst e
      rw [hf]; simp [opL]
    · rw [if_neg e] at h
      have ih := opL_keep_of f r x v h hf
      split
      · simp only [opL]; rw [if_neg (fun h => e h.symm)]; exact ih
      · exact ih

theorem RelA.keep (A : RelA N w S st lb a) (l : List Nat) : RelA N w S (st.keep l) lb a where
  m := A.m
  defers := A.defers
  slots := fun x => by
    show HasV w S (slL (keepS st.sl l) x) _
    rcases slL_keep st.sl l x with h | h <;> rw [h]
    · exact A.slots x
    · exact .undef _
  regs := fun x k o h => by
    have h1 := opL_keep (keepR l st.lp) l x (k, o) h
    have h2 : st.lp x = some (k, o) ∧ memB l k = true := by
      unfold keepR keepReg at h1
      split at h1
      · rename_i k' o' hl
        split at h1
        · rename_i hm; cases h1; exact ⟨hl, hm⟩
        · cases h1
      · cases h1
    obtain ⟨h3, h4⟩ := A.regs x k o h2.1
    refine ⟨h3, ?_⟩
    obtain ⟨c, hc⟩ := Option.isSome_iff_exists.1 h4
    have := opL_keep_of st.bx l k c h2.2 hc
    show (opL (keepO st.bx l) k).isSome = true
    rw [this]; rfl
  boxes := fun k cs h => A.boxes k cs (opL_keep st.bx l k cs h)
  inj := fun k k' h h' => by
    have conv : ∀ j, ((st.keep l).bx j).isSome = true → (st.bx j).isSome = true := fun j hj => by
      obtain ⟨c, hc⟩ := Option.isSome_iff_exists.1 hj
      rw [opL_keep st.bx l j c hc]; rfl
    exact A.inj k k' (conv k h) (conv k' h')

theorem Conc.keep {K : St → Prop} {l : List Nat} (h : Conc X B N n w0 S0 (fun st => K (st.keep l)) a w) : Conc X B N n w0 S0 K a w :=
  let ⟨st, S, lb, h1, h2, h3, h4⟩ := h; ⟨st.keep l, S, lb, h1, h2, h3.keep l, h4⟩

theorem wpI_ok (hC : CallOk X C) (hB : B ≤ N) (hT0 : Tidy w0 S0) (hN : N ≤ w0.heap.size) : ∀ (c : Code), codeOk X.P C.pf F n c = true → ∀ (Q : Post) (a : Act) (w : World), Conc X B N n w0 S0 (wpI X F C c Q) a w →
    c.wp X.P (fun e => Conc X B N n w0 S0 (Q e)) a w
  | .skip, _, Q, a, w, h => wp_skip h
  | .region id ops dr, hc, Q, a, w, h => by
    simp only [codeOk, Bool.and_eq_true] at hc
    obtain ⟨hc, hx⟩ := hc
    cases dr with
    | false =>
      refine wp_region ?_
      have := wpOps_ok hC hB (F := F) hT0 hN (dstsOk_spec hc) (K := fun st' => Q .normal (st'.keep F.ext)) (Q := fun e => Conc X B N n w0 S0 (Q e)) (fun a w h => h.keep) ops.toList 0 (fun j => by simp) a w h
      rw [List.range_eq_range']
      simpa using this
    | true =>
      have hl : memB F.bad id = false := by obtain ⟨st, S, lb, h1, _⟩ := h; exact h1.1
      simp only [hl, Bool.false_or] at hx
      have hl := hx
      exact regionN_ok hC hB hT0 hN (dstsOk_spec hc) (K := fun st' => Q .normal (st'.keep F.ext)) (fun a w h => h.keep) hl (h.mono fun st h => h.2)
  | .seq c d, hc, Q, a, w, h => by
    simp only [codeOk, Bool.and_eq_true] at hc
    refine wp_seq (wp_mono (wpI_ok hC hB hT0 hN c hc.1 _ a w h) fun e a w h => ?_)
    cases e with
    | normal => exact wpI_ok hC hB hT0 hN d hc.2 Q a w h
    | exit id => exact h
    | goto l => exact h
    | ret => exact h
    | panic c => exact h
    | outgrown => exact h
  | .cond o c d, hc, Q, a, w, h => by
    simp only [codeOk, Bool.and_eq_true] at hc
    obtain ⟨st, S, lb, h1, R, A, E, hn⟩ := h
    simp only [wpI] at h1
    split at h1
    · rename_i t ht
      have hv := ev_ok R A o
      rw [ht] at hv
      have hv := hasBool hv
      cases t with
      | true => exact wp_cond_true hv (wpI_ok hC hB hT0 hN c hc.1 Q a w ⟨st, S, lb, h1, R, A, E, hn⟩)
      | false => exact wp_cond_false hv (wpI_ok hC hB hT0 hN d hc.2 Q a w ⟨st, S, lb, h1, R, A, E, hn⟩)
    · exact h1.elim
  | .block id c, hc, Q, a, w, h => by
    refine wp_block (wp_mono (wpI_ok hC hB hT0 hN c hc _ a w h) fun e a w h => ?_)
    cases e with
    | exit id' =>
      simp only [Exit.inBlock]
      split
      · rename_i e; exact h.mono fun st h => by simpa [blockP, e] using h
      · rename_i e; exact h.mono fun st h => by simpa [blockP, e] using h
    | normal => exact h
    | goto l => exact h
    | ret => exact h
    | panic c => exact h
    | outgrown => exact h
  | .exit id, _, Q, a, w, h => wp_exit h
  | .ret, _, Q, a, w, h => wp_ret h
  | .loop c, hc, Q, a, w, ⟨st, S, lb, ⟨T, head, I, μ, ⟨p0, h0, hI⟩, hr⟩, R, A, E, hn⟩ => by
    have body : ∀ p, I p → ∀ a w, Conc X B N n w0 S0 (fun s => s = head p) a w → c.wp X.P (fun e => Conc X B N n w0 S0 (thenP (fun st' => ∃ p', st'.keep (liveOf F c) = head p' ∧ I p' ∧ μ p' < μ p) Q e)) a w := fun p hp a w h =>
      wpI_ok hC hB hT0 hN c hc _ a w (h.mono fun s hs => by subst hs; exact hr p hp)
    have start : Conc X B N n w0 S0 (fun s => s = head p0) a w := ⟨_, S, lb, h0, R, A.keep (liveOf F c), E, hn⟩
    intro b k cs
    have key : ∀ (m : Nat) (p : T), μ p = m → I p → ∀ a w, Conc X B N n w0 S0 (fun s => s = head p) a w →
        ∃ e a' w', Conc X B N n w0 S0 (Q e) a' w' ∧ Arrives X.P (lone (b.at a (.code c :: .inLoop c :: k)) cs w) b k cs e a' w' := by
      intro m
      induction m using Nat.strongRecOn with
      | _ m ih =>
        intro p hm hp a w hcn
        obtain ⟨e, a₁, w₁, hq, harr⟩ := body p hp a w hcn b (.inLoop c :: k) cs
        cases e with
        | normal =>
          obtain ⟨st1, S1, lb1, ⟨p', hk, hI', hlt⟩, R1, A1, E1, hn1⟩ := hq
          obtain ⟨e₂, a₂, w₂, hq₂, harr₂⟩ := ih (μ p') (hm ▸ hlt) p' rfl hI' a₁ w₁ ⟨_, S1, lb1, hk, R1, A1.keep (liveOf F c), E1, hn1⟩
          exact ⟨e₂, a₂, w₂, hq₂, .of_steps (Steps.trans harr (.one step_inLoop)) harr₂⟩
        | exit id => exact ⟨_, a₁, w₁, hq, .pass (x := .inLoop c) rfl (fun _ _ => .inl (by simp)) harr⟩
        | goto l => exact ⟨_, a₁, w₁, hq, .pass (x := .inLoop c) rfl (fun _ _ => .inl (by simp)) harr⟩
        | ret => exact ⟨_, a₁, w₁, hq, .pass (x := .inLoop c) rfl (fun _ _ => .inl (by simp)) harr⟩
        | panic ch => exact ⟨_, a₁, w₁, hq, .pass (x := .inLoop c) rfl (fun _ _ => .inl (by simp)) harr⟩
        | outgrown => exact ⟨_, a₁, w₁, hq, .pass (x := .inLoop c) rfl (fun _ _ => .inl (by simp)) harr⟩
    obtain ⟨e, a', w', hq, harr⟩ := key _ p0 rfl hI a w start
    exact ⟨e, a', w', hq, .of_steps (.one step_loop) harr⟩
  | .rangeFunc _ _ _ _, _, _, _, _, ⟨_, _, _, h, _⟩ => h.elim
  | .scope _, _, _, _, _, ⟨_, _, _, h, _⟩ => h.elim
  | .label _, _, _, _, _, ⟨_, _, _, h, _⟩ => h.elim
  | .goto _, _, _, _, _, ⟨_, _, _, h, _⟩ => h.elim
  | .refuse _, _, _, _, _, ⟨_, _, _, h, _⟩ => h.elim
end
end Go.Eng
/- Whole functions. -/
namespace Go.Eng
open Go
section
variable {X : Ctx} {F : Fi} {B N n : Nat} {w0 w w' : World} {S0 S S' : Sh} {st : St} {lb : Nat → Nat} {a : Act}

theorem slL_numbered : ∀ (ds : List D) (i x : Nat), slL (numbered ds i) x = if i ≤ x then (ds[x - i]?).getD .undef else .undef
  | [], i, x => by simp [numbered, slL]
  | d :: r, i, x => by
    simp only [numbered, slL]
    by_cases e : x = i
    · subst e; simp
    · rw [if_neg e, slL_numbered r (i + 1) x]
      by_cases h : i ≤ x
      · rw [if_pos h, if_pos (by omega), show x - i = (x - (i + 1)) + 1 by omega, List.getElem?_cons_succ]
      · rw [if_neg h, if_neg (by omega)]

theorem resL_ok (R : RelG X B w S) (A : RelA N w S st lb a) (f : ResultVar → Sem Value) (f1 : ∀ t, f (.tmp t) = pure (a.tmps.getD t undef)) (f2 : ∀ p t, f (.cell p t) = do loadVar t (← asAddr (a.tmps.getD p undef))) : ∀ (rs : List ResultVar) (ds : List D), resL X st rs = some ds →
    ∃ vs : List Value, (rs.mapM f).run X.P w = .ok vs w ∧ HasL w S ds vs
  | [], ds, h => by cases h; exact ⟨[], by simp, rfl, fun j c v hc => by simp at hc⟩
  | r :: rs, ds, h => by
    simp only [resL] at h
    split at h
    · rename_i d ds' h1 h2
      cases h
      obtain ⟨vs, hr, hl⟩ := resL_ok R A f f1 f2 rs ds' h2
      have one : ∃ v, (f r).run X.P w = .ok v w ∧ HasV w S d v := by
        cases r with
        | tmp t => simp only [resOne] at h1; cases h1; exact ⟨_, by rw [f1]; rfl, A.slots t⟩
        | cell p t =>
          simp only [resOne] at h1
          split at h1
          · rename_i cs off hp
            rw [A.m] at hp
            obtain ⟨b, base, he, L⟩ := place_ok R A (fun _ _ h => h) hp
            obtain ⟨v, hv, hvv⟩ := takeD_ok L h1
            have he : a.tmps.getD p undef = _ := he
            exact ⟨v, by simp only [f2, he, asAddr, Sem.run_bind, Sem.run_pure, Result.andThen_ok, hv], hvv⟩
          · cases h1
      obtain ⟨v, hv1, hv2⟩ := one
      refine ⟨v :: vs, ?_, ⟨by simp [hl.len], fun j c u hc hu => ?_⟩⟩
      · rw [List.mapM_cons]
        simp only [Sem.run_bind, hv1, Result.andThen_ok, hr, Sem.run_pure]
      · cases j with
        | zero => simp at hc hu; subst hc; subst hu; exact hv2
        | succ j => simp at hc hu; exact hl.at_ j c u hc hu
    · cases h

theorem results_eq (fn : Func) (tmps : Array Value) : ∃ f : ResultVar → Sem Value, (∀ t, f (.tmp t) = pure (tmps.getD t undef)) ∧ (∀ p t, f (.cell p t) = do loadVar t (← asAddr (tmps.getD p undef))) ∧
    results fn tmps = (do let vs ← fn.results.mapM f; pure (if h : vs.size = 1 then vs[0] else .tuple vs)) := by
  refine ⟨_, ?_, ?_, rfl⟩
  · intro t; rfl
  · intro p t; rfl

theorem results_ok (R : RelG X B w S) (A : RelA N w S st lb a) {fn : Func} {r : D} (h : resD X fn.results.toList st = some r) : ∃ v, (results fn a.tmps).run X.P w = .ok v w ∧ HasV w S r v := by
  unfold resD at h
  have main : ∀ ds, resL X st fn.results.toList = some ds → ∃ vs : Array Value, (results fn a.tmps).run X.P w = .ok (if h : vs.size = 1 then vs[0] else .tuple vs) w ∧ HasL w S ds vs.toList := fun ds hd => by
    obtain ⟨f, f1, f2, hf⟩ := results_eq fn a.tmps
    rw [hf, Array.mapM_eq_mapM_toList]
    simp only [Sem.run_bind, Sem.run_map]
    obtain ⟨vs, hr, hl⟩ := resL_ok R A f f1 f2 _ ds hd
    refine ⟨vs.toArray, ?_, by simpa using hl⟩
    rw [hr]
    simp
  split at h
  · rename_i d hd
    cases h
    obtain ⟨vs, hr, hl⟩ := main _ hd
    have hs : vs.size = 1 := by have := hl.len; simpa using this.symm
    refine ⟨_, hr, ?_⟩
    rw [dif_pos hs]
    exact hl.at_ 0 _ _ rfl (by simp [hs])
  · rename_i ds hne hd
    cases h
    obtain ⟨vs, hr, hl⟩ := main _ hd
    have hs : ¬ vs.size = 1 := fun e => by
      have : ds.length = 1 := by have := hl.len; simpa [e] using this
      match ds, this with
      | [d], _ => exact hne d rfl
    refine ⟨_, hr, ?_⟩
    rw [dif_neg hs]
    exact .tuple ds vs (by simpa using hl.len) (fun j c v hc hv => hl.at_ j c v hc (by simpa using hv))
  · cases h

/-- A function by its body. -/
theorem call_of {C : CallW} (hC : CallOk X C) {f : Nat} {fn : Func} {c : Code} {m : Mem} {ds : List D} {Q : D → Mem → Prop} (F : Fi) (hf : X.P.funcs[f]? = some fn) (hb : fn.body = some c) (hen : enterable X.P f = true) (hok : codeOk X.P C.pf F fn.ntmps c = true)
    (hl : ds.length ≤ fn.ntmps) (h : wpI X F C c (endP X fn.results.toList Q) (entry ds m)) : CallD X f m ds Q := by
  refine ⟨hen, fun B w S args R hm ha => calls_of_wp hf hb ?_⟩
  have hal : args.size = ds.length := by have := ha.len; simpa using this.symm
  have hsz : (args ++ Array.replicate (fn.ntmps - args.size) undef).size = fn.ntmps := by simp; omega
  have A : RelA w.heap.size w S (entry ds m) (fun _ => 0) { tmps := args ++ Array.replicate (fn.ntmps - args.size) undef, defers := [] } := {
    m := hm.symm
    defers := rfl
    slots := fun x => by
      show HasV w S (slL (numbered ds 0) x) _
      rw [slL_numbered, if_pos (Nat.zero_le _), Nat.sub_zero]
      rcases Nat.lt_or_ge x ds.length with hx | hx
      · have h1 : ds[x]? = some ds[x] := List.getElem?_eq_getElem hx
        have hxa : x < args.size := by omega
        rw [h1]
        refine ha.at_ x _ _ h1 ?_
        have h2 : x < args.toList.length := by simpa using hxa
        rw [List.getElem?_eq_getElem h2]
        have hx2 : x < (args ++ Array.replicate (fn.ntmps - args.size) undef).size := by rw [hsz]; omega
        simp only [Array.getD_eq_getD_getElem?, Array.getElem?_eq_getElem hx2, Option.getD_some]
        rw [Array.getElem_append_left hxa]; simp
      · rw [List.getElem?_eq_none hx]; exact .undef _
    regs := fun x k o h => by cases h
    boxes := fun k cs h => by cases h
    inj := fun k k' h => by cases h }
  refine wp_mono (wpI_ok hC R.base (F := F) (n := fn.ntmps) R.tidy (Nat.le_refl _) c hok _ _ w ⟨_, S, _, h, R, A, Ext.refl _ w S, by rw [hsz]; exact Nat.le_refl _⟩) fun e a' w' hc => ?_
  obtain ⟨st, S', lb, hq, R', A', E, _⟩ := hc
  have fin : (match resD X fn.results.toList st with | some r => Q r st.m | none => False) → a'.defers = [] ∧ ∃ v, (results fn a'.tmps).run X.P w' = .ok v w' ∧ ∃ v' S' r, Ending.returned v = .returned v' ∧ Q r S'.m ∧ RelG X B w' S' ∧ Ext w.heap.size w S w' S' ∧ HasV w' S' r v' := fun hq => by
    split at hq
    · rename_i r hr
      obtain ⟨v, h1, h2⟩ := results_ok R' A' hr
      exact ⟨A'.defers, v, h1, v, S', r, rfl, A'.m ▸ hq, R', E, h2⟩
    · exact hq.elim
  cases e with
  | normal => exact fin hq
  | ret => exact fin hq
  | exit id => exact hq.elim
  | goto l => exact hq.elim
  | panic c => exact hq.elim
  | outgrown => exact hq.elim
end
end Go.Eng
/- Functions on their own: their arguments are handed on without rights, boxes and tokens are hidden from them; what they return is without rights. -/
namespace Go.Eng
open Go

section
variable {f : Nat → Nat → Nat → Nat → D}
theorem stripFL_length : ∀ (l : List D), (stripFL f l).length = l.length
  | [] => rfl
  | d :: r => by simp [stripFL, stripFL_length r]
theorem stripFL_get : ∀ (l : List D) (j : Nat) (c : D), (stripFL f l)[j]? = some c → ∃ d, l[j]? = some d ∧ c = stripF f d
  | [], j, c, h => by simp [stripFL] at h
  | d :: r, 0, c, h => by simp [stripFL] at h; exact ⟨d, rfl, h.symm⟩
  | d :: r, j + 1, c, h => by
    simp only [stripFL, List.getElem?_cons_succ] at h
    exact stripFL_get r j c h
theorem stripFL_append : ∀ (a b : List D), stripFL f (a ++ b) = stripFL f a ++ stripFL f b
  | [], b => rfl
  | d :: r, b => by simp [stripFL, stripFL_append r b]
theorem stripF_isCell (hf : ∀ a b c d, (f a b c d).isCell = true) {d : D} (h : d.isCell = true) : (stripF f d).isCell = true := by
  cases d <;> first | rfl | (cases h; done) | exact hf _ _ _ _
theorem stripFL_isCell (hf : ∀ a b c d, (f a b c d).isCell = true) : ∀ (l : List D), (∀ c ∈ l, c.isCell = true) → ∀ c ∈ stripFL f l, c.isCell = true
  | [], _, c, h => by simp [stripFL] at h
  | d :: r, hl, c, h => by
    simp only [stripFL, List.mem_cons] at h
    rcases h with rfl | h
    · exact stripF_isCell hf (hl d (List.mem_cons_self ..))
    · exact stripFL_isCell hf r (fun c hc => hl c (List.mem_cons_of_mem _ hc)) c h
theorem stripF_cells (hf : ∀ a b c d, (f a b c d).isCell = true) (d : D) : (stripF f d).cells = stripFL f d.cells := by
  cases d <;> first | rfl | skip
  rename_i a b c d
  have := hf a b c d
  show (f a b c d).cells = [f a b c d]
  generalize f a b c d = x at this
  cases x <;> first | rfl | cases this
theorem flat_stripFL (hf : ∀ a b c d, (f a b c d).isCell = true) : ∀ (es : List D), flat (stripFL f es) = stripFL f (flat es)
  | [] => rfl
  | d :: r => by simp only [stripFL, flat, stripF_cells hf, stripFL_append, flat_stripFL hf r]
theorem stripFL_cellsLen (hf : ∀ a b c d, (f a b c d).isCell = true) {k : Nat} : ∀ (es : List D), (∀ d ∈ es, d.cells.length = k) → ∀ d ∈ stripFL f es, d.cells.length = k
  | [], _, d, h => by simp [stripFL] at h
  | e :: r, hl, d, h => by
    simp only [stripFL, List.mem_cons] at h
    rcases h with rfl | h
    · rw [stripF_cells hf, stripFL_length]; exact hl e (List.mem_cons_self ..)
    · exact stripFL_cellsLen hf r (fun c hc => hl c (List.mem_cons_of_mem _ hc)) d h
end
theorem noR_isCell (a b c d : Nat) : (noR a b c d).isCell = true := rfl
theorem frzM_isCell (m : Mem) : ∀ (n a b c d : Nat), (frzM m n a b c d).isCell = true
  | 0, _, _, _, _ => rfl
  | n + 1, a, b, c, d => by
    simp only [frzM]
    split
    · rename_i cs _
      cases decide (b + c * d ≤ cs.length) <;> rfl
    · rfl
theorem stripL_length (l : List D) : (stripL l).length = l.length := stripFL_length l

mutual
theorem strip_idem : ∀ (d : D), strip (strip d) = strip d
  | .slice _ k es => by have := stripL_idem es; simp only [strip, stripL] at this; simp only [strip, stripF, this]
  | .rsl _ _ _ _ => rfl
  | .ptr _ _ => rfl
  | .ref cs o => by have := stripL_idem cs; simp only [strip, stripL] at this; simp only [strip, stripF, this]
  | .func f cs => by have := stripL_idem cs; simp only [strip, stripL] at this; simp only [strip, stripF, this]
  | .agg cs => by have := stripL_idem cs; simp only [strip, stripL] at this; simp only [strip, stripF, this]
  | .tuple cs => by have := stripL_idem cs; simp only [strip, stripL] at this; simp only [strip, stripF, this]
  | .int _ _ => rfl
  | .bool _ => rfl
  | .str _ => rfl
  | .nil => rfl
  | .opq => rfl
  | .nilptr => rfl
  | .nilfunc => rfl
  | .undef => rfl
theorem stripL_idem : ∀ (l : List D), stripL (stripL l) = stripL l
  | [] => rfl
  | d :: r => by
    have h1 := strip_idem d
    have h2 := stripL_idem r
    simp only [strip, stripL] at h1 h2
    simp only [stripL, stripFL, h1, h2]
end

section
variable {X : Ctx} {B N : Nat} {w w' : World} {S S' : Sh}

/-- Where all that is seen is seen too, a value without rights stands for the same. -/
theorem strip_to {f : Nat → Nat → Nat → Nat → D} (hf : ∀ a b c d, (f a b c d).isCell = true) (hV : ∀ b n, Vis w S b n → Vis w S' b n)
    (hR : ∀ (id off len k : Nat) (v : Value), HasV w S (.rsl id off len k) v → HasV w S' (f id off len k) v) {d : D} {v : Value} (h : HasV w S d v) : HasV w S' (stripF f d) v := by
  induction h with
  | int k n => exact .int k n
  | bool b => exact .bool b
  | str s => exact .str s
  | nil => exact .nil
  | opq v h => exact .opq v h
  | rsl id off len k b cap hk hl hb hsh => exact hR id off len k _ (.rsl id off len k b cap hk hl hb hsh)
  | slice0 t k a c h => exact .slice0 none k a c (.inl rfl)
  | slice tag k es b off cap vals hk hcap hbig hsz hcl hvis htag hcell hv ih =>
    rw [← stripFL_length (f := f) es]
    refine .slice none k (stripFL f es) b off cap vals hk (by rw [stripFL_length]; exact hcap) (by rw [stripFL_length]; exact hbig) (stripFL_cellsLen hf es hsz) (by rw [flat_stripFL hf]; exact stripFL_isCell hf _ hcl)
      (by rw [stripFL_length]; exact hV _ _ hvis) trivial (fun j c hj => ?_) (fun j c hj => ?_)
    · rw [flat_stripFL hf] at hj
      obtain ⟨d, hd, _⟩ := stripFL_get _ _ _ hj
      exact hcell j d hd
    · rw [flat_stripFL hf] at hj
      obtain ⟨d, hd, rfl⟩ := stripFL_get _ _ _ hj
      exact ih j d hd
  | ptr id off b hb => exact .opq _ rfl
  | nilptr => exact .nilptr
  | ref cs o b base vals hcl hvis hcell hv ih =>
    refine .ref (stripFL f cs) o b base vals (stripFL_isCell hf _ hcl) (by rw [stripFL_length]; exact hV _ _ hvis) (fun j c hj => ?_) (fun j c hj => ?_)
    · obtain ⟨d, hd, _⟩ := stripFL_get _ _ _ hj
      exact hcell j d hd
    · obtain ⟨d, hd, rfl⟩ := stripFL_get _ _ _ hj
      exact ih j d hd
  | func g cap vs hl hv ih =>
    refine .func g (stripFL f cap) vs (by rw [stripFL_length]; exact hl) (fun j c v hj hv => ?_)
    obtain ⟨d, hd, rfl⟩ := stripFL_get _ _ _ hj
    exact ih j d v hd hv
  | nilfunc => exact .nilfunc
  | agg cs vs hl hcl hv ih =>
    refine .agg (stripFL f cs) vs (by rw [stripFL_length]; exact hl) (stripFL_isCell hf _ hcl) (fun j c v hj hv => ?_)
    obtain ⟨d, hd, rfl⟩ := stripFL_get _ _ _ hj
    exact ih j d v hd hv
  | tuple ds vs hl hv ih =>
    refine .tuple (stripFL f ds) vs (by rw [stripFL_length]; exact hl) (fun j c v hj hv => ?_)
    obtain ⟨d, hd, rfl⟩ := stripFL_get _ _ _ hj
    exact ih j d v hd hv
  | undef v => exact .undef v

theorem noR_to (id off len k : Nat) (v : Value) (h : HasV w S (.rsl id off len k) v) : HasV w S' (noR id off len k) v := by
  cases h with
  | rsl => exact .opq _ rfl

theorem strip_toL (hV : ∀ b n, Vis w S b n → Vis w S' b n) {ds : List D} {vs : List Value} (h : HasL w S ds vs) : HasL w S' (stripL ds) vs :=
  ⟨by rw [stripL_length]; exact h.len, fun j c v hj hv => by
    obtain ⟨d, hd, rfl⟩ := stripFL_get _ _ _ hj
    exact strip_to noR_isCell hV noR_to (h.at_ j d v hd hv)⟩

/-- Where the blocks of boxes are seen too, slices over boxes stand for what the boxes hold. -/
theorem frzM_to (R : RelG X B w S) (hV : ∀ b n, Vis w S b n → Vis w S' b n) (hB : ∀ b n, b ∈ S.bb → Vis w S' b n) :
    ∀ (n id off len k : Nat) (v : Value), HasV w S (.rsl id off len k) v → HasV w S' (frzM S.m n id off len k) v
  | 0, _, _, _, _, _, h => noR_to _ _ _ _ _ h
  | n + 1, id, off, len, k, v, h => by
    have ih := frzM_to R hV hB n
    have hf := frzM_isCell S.m n
    cases h with
    | rsl _ _ _ _ b cap hk hl hb _ =>
      simp only [frzM]
      split
      · rename_i cs hcs
        by_cases hfit : off + len * k ≤ cs.length
        · simp only [hfit, decide_true, cond_true]
          obtain ⟨vs, t, fr, hh, _, hsz, hc⟩ := R.boxes id b cs hb hcs
          have L := lies_of_pre hh hsz hc
          have hok0 : ∀ c ∈ cs.drop off, c.isCell = true := fun c hc => L.ok c (List.mem_of_mem_drop hc)
          have hok := stripFL_isCell hf (cs.drop off) hok0
          have hln : len * k ≤ (stripFL (frzM S.m n) (cs.drop off)).length := by rw [stripFL_length, List.length_drop]; omega
          have hcl := chunks_length k len (stripFL (frzM S.m n) (cs.drop off))
          have key : ∀ (j : Nat) (c : D), (flat (chunks k len (stripFL (frzM S.m n) (cs.drop off))))[j]? = some c → j < len * k ∧ ∃ d, cs[off + j]? = some d ∧ c = stripF (frzM S.m n) d := fun j c hj => by
            rw [flat_chunks k len _ hk hok hln] at hj
            have hjl : j < len * k := by
              have := lt_of_get hj
              simp at this; omega
            rw [List.getElem?_take_of_lt hjl] at hj
            obtain ⟨d, hd, hc⟩ := stripFL_get _ _ _ hj
            rw [List.getElem?_drop] at hd
            exact ⟨hjl, d, hd, hc⟩
          suffices hfin : HasV w S' (.slice none k (chunks k len (stripFL (frzM S.m n) (cs.drop off)))) (.slice (some ⟨b, off, none⟩) (chunks k len (stripFL (frzM S.m n) (cs.drop off))).length cap) by
            rw [hcl] at hfin; exact hfin
          refine .slice none k _ b off cap (fun j => vs.getD (off + j) undef) hk (by rw [hcl]; exact hl.1) (by rw [hcl]; exact hl.2) (chunks_cells k len _ hk hok hln) (fun c hc => ?_) (hB _ _ (List.mem_of_getElem? hb)) trivial (fun j c hj => ?_) (fun j c hj => ?_)
          · rw [flat_chunks k len _ hk hok hln] at hc
            exact hok c (List.mem_of_mem_take hc)
          · obtain ⟨hjl, _⟩ := key j c hj
            rw [cell_of_row w b _ vs t fr hh]
            have : off + j < vs.size := by omega
            simp [Array.getD, this]
          · obtain ⟨hjl, d, hd, rfl⟩ := key j c hj
            refine strip_to hf hV ih (hc.at_ (off + j) d _ hd ?_)
            rw [List.getElem?_take_of_lt (by omega)]
            have : off + j < vs.size := by omega
            simp [Array.getD, this]
        · simp only [hfit, decide_false, cond_false]
          exact .opq _ rfl
      · exact .opq _ rfl

/-- Boxes and tokens are hidden. -/
def hide (w : World) (S : Sh) : Sh := {
  mu := S.mu
  bb := []
  tb := []
  m := ⟨[], []⟩
  ok := fun b n => w.heap.size ≤ b ∨ ((∃ n', n ≤ n' ∧ S.ok b n') ∧ b ∉ S.bb ∧ ∀ id k mk : Nat, S.tb[id]? = some (b, k) → S.m.toks[id]? = some mk → n ≤ mk * k) }

theorem hide_vis (b n : Nat) (h : Vis w S b n) : Vis w (hide w S) b n where
  lt := h.lt
  mu := h.mu
  bb := by simp [hide]
  tb := fun id k mk h => by simp [hide] at h
  ok := ⟨n, Nat.le_refl _, .inr ⟨h.ok, h.bb, h.tb⟩⟩

/-- The variables of packages hold values without rights. -/
def PlainG (X : Ctx) : Prop := ∀ g cs, X.G g = some cs → stripL cs = cs

theorem hide_rel (hG : PlainG X) (R : RelG X B w S) : RelG X B w (hide w S) where
  bbLen := rfl
  tbLen := rfl
  mu := R.mu
  bbLt := fun b h => by simp [hide] at h
  tbLt := fun id b k h => by simp [hide] at h
  tbInj := fun id id' b k k' h => by simp [hide] at h
  tbBb := fun id b k h => by simp [hide] at h
  tbMu := fun id b k h => by simp [hide] at h
  bbMu := fun b h => by simp [hide] at h
  okNew := fun b n h => .inl h
  okTok := fun id b k h => by simp [hide] at h
  base := R.base
  bbGe := fun b h => by simp [hide] at h
  tbGe := fun id b k h => by simp [hide] at h
  bbInj := fun id id' b c c' h => by simp [hide] at h
  boxes := fun id b cs h => by simp [hide] at h
  toks := fun id b k mk h => by simp [hide] at h
  glob := fun g cs h => by
    have := strip_to (S' := hide w S) noR_isCell hide_vis noR_to (R.glob g cs h)
    simp only [stripF] at this
    have e : stripFL noR cs = cs := hG g cs h
    rw [e] at this
    exact this

/-- What lay hidden, behind the call. -/
def unhide (S S' : Sh) : Sh := { mu := S'.mu, bb := S.bb, tb := S.tb, m := S.m, ok := S.ok }

theorem unhide_ext (R : RelG X B w S) (E : Ext w.heap.size w (hide w S) w' S') : Ext w.heap.size w S w' (unhide S S') where
  os := E.os
  tape := E.tape
  output := E.output
  ok := rfl
  size := E.size
  mu := E.mu
  muNew := E.muNew
  bb := fun _ _ h => h
  bbNew := fun _ h _ => .inl h
  tb := fun _ b _ h => ⟨b, h, .inl rfl⟩
  tbNew := fun _ _ _ h _ => h
  marks := fun _ mk h => ⟨mk, h, Nat.le_refl _⟩
  markSame := fun _ _ b k b' _ _ h h' => by rw [show (unhide S S').tb = S.tb from rfl, h] at h'; cases h'; rfl
  keep := fun b hl _ _ _ => E.keep b hl (by simp [hide]) (by simp [hide]) (.inl hl)
  shp := fun b hb x hx => (shape_of_heap (E.keep b (R.bbLt b hb) (by simp [hide]) (by simp [hide]) (.inl (R.bbLt b hb)))).trans hx
  keepT := fun id b k mk h _ c t fr hc => ⟨c, by rw [E.keep b (R.tbLt id b k h) (by simp [hide]) (by simp [hide]) (.inl (R.tbLt id b k h))]; exact hc, rfl, fun _ _ => rfl⟩

theorem unhide_rel (R : RelG X B w S) (R' : RelG X B w' S') (E : Ext w.heap.size w (hide w S) w' S') : RelG X B w' (unhide S S') :=
  R.same (unhide_ext R E) rfl rfl rfl (fun b h => by
      rcases Nat.lt_or_ge b w.heap.size with hb | hb
      · exact .inl (E.muNew b h hb)
      · exact .inr ⟨hb, R'.mu b h⟩)
    (fun b h => E.keep b (R.bbLt b h) (by simp [hide]) (by simp [hide]) (.inl (R.bbLt b h)))
    (fun id b k h => E.keep b (R.tbLt id b k h) (by simp [hide]) (by simp [hide]) (.inl (R.tbLt id b k h)))

theorem unhide_vis (R : RelG X B w S) (E : Ext w.heap.size w (hide w S) w' S') (b n : Nat) (h : Vis w' S' b n) : Vis w' (unhide S S') b n := by
  obtain ⟨n', hn, ho⟩ := h.ok
  rw [E.ok] at ho
  refine ⟨h.lt, h.mu, ?_, ?_, ?_⟩
  · intro hb
    rcases ho with ho | ho
    · have := R.bbLt b hb; omega
    · exact ho.2.1 hb
  · intro id k mk h1 h2
    rcases ho with ho | ho
    · have := R.tbLt id b k h1; omega
    · exact Nat.le_trans hn (ho.2.2 id k mk h1 h2)
  · rcases ho with ho | ho
    · exact ⟨n, Nat.le_refl _, R.okNew b n ho⟩
    · obtain ⟨n2, h1, h2⟩ := ho.1
      exact ⟨n2, Nat.le_trans hn h1, h2⟩

/-- The blocks of boxes that the function made are seen behind the call. -/
theorem unhide_box (R : RelG X B w S) (R' : RelG X B w' S') (E : Ext w.heap.size w (hide w S) w' S') (b n : Nat) (h : b ∈ S'.bb) : Vis w' (unhide S S') b n := by
  have hge : w.heap.size ≤ b := by
    rcases Nat.lt_or_ge b w.heap.size with hb | hb
    · rcases E.bbNew b h hb with h1 | ⟨_, h1⟩
      · simp [hide] at h1
      · omega
    · exact hb
  refine ⟨R'.bbLt b h, R'.bbMu b h, fun hb => ?_, fun id k mk h1 _ => ?_, ⟨n, Nat.le_refl _, R.okNew b n hge⟩⟩
  · have := R.bbLt b hb; omega
  · have := R.tbLt id b k h1; omega

/-- A function on its own, wherever it is called. -/
theorem closed_ok (hG : PlainG X) {f : Nat} {ds : List D} {Q : D → Mem → Prop} (h : CallD X f ⟨[], []⟩ (stripL ds) Q) (m : Mem) : CallD X f m ds fun r m' => (∃ r0 m0, Q r0 m0 ∧ r = frz m0 r0) ∧ m' = m := by
  refine ⟨h.1, fun B w S args R hm ha => ?_⟩
  refine (h.2 B w (hide w S) args (hide_rel hG R) rfl (strip_toL hide_vis ha)).mono fun e w' h' => ?_
  obtain ⟨v, S', r, rfl, hq, R', E, hv⟩ := h'
  refine ⟨v, unhide S S', frz S'.m r, rfl, ⟨⟨r, S'.m, hq, rfl⟩, hm⟩, unhide_rel R R' E, unhide_ext R E, ?_⟩
  exact strip_to (frzM_isCell _ _) (unhide_vis R E) (fun id off len k v hv => frzM_to R' (unhide_vis R E) (unhide_box R R' E) _ id off len k v hv) hv
end
end Go.Eng
/- Functions on their own that return scalars: they may see what lies in boxes, as if nobody wrote it any more. -/
namespace Go.Eng
open Go
mutual
def scal : D → Bool
  | .int _ _ => true
  | .bool _ => true
  | .str _ => true
  | .tuple ds => scalL ds
  | _ => false
def scalL : List D → Bool
  | [] => true
  | d :: r => match scal d with | true => scalL r | false => false
end
mutual
/-- What a function has made: scalars and slices over boxes that hold scalars. -/
def frs (m : Mem) : D → Bool
  | .int _ _ => true
  | .bool _ => true
  | .str _ => true
  | .nil => true
  | .rsl id _ _ _ => (match m.boxes[id]? with | some cs => scalL cs | none => false)
  | .agg ds => frsL m ds
  | .tuple ds => frsL m ds
  | _ => false
def frsL (m : Mem) : List D → Bool
  | [] => true
  | d :: r => match frs m d with | true => frsL m r | false => false
end
theorem frsL_get {m : Mem} : ∀ {l : List D}, frsL m l = true → ∀ (j : Nat) (d : D), l[j]? = some d → frs m d = true
  | [], _, j, d, h => by simp at h
  | a :: r, hs, j, d, h => by
    have hs' : (match frs m a with | true => frsL m r | false => false) = true := hs
    cases ha : frs m a with
    | false => rw [ha] at hs'; cases hs'
    | true =>
      rw [ha] at hs'
      cases j with
      | zero => simp at h; rw [← h]; exact ha
      | succ j => exact frsL_get hs' j d (by simpa using h)
mutual
theorem scal_frs (m : Mem) : ∀ (d : D), scal d = true → frs m d = true
  | .int _ _, _ => rfl
  | .bool _, _ => rfl
  | .str _, _ => rfl
  | .slice _ _ _, h => by cases h
  | .nil, h => by cases h
  | .opq, h => by cases h
  | .rsl _ _ _ _, h => by cases h
  | .ptr _ _, h => by cases h
  | .nilptr, h => by cases h
  | .ref _ _, h => by cases h
  | .func _ _, h => by cases h
  | .nilfunc, h => by cases h
  | .agg _, h => by cases h
  | .undef, h => by cases h
  | .tuple ds, h => scal_frsL m ds h
theorem scal_frsL (m : Mem) : ∀ (l : List D), scalL l = true → frsL m l = true
  | [], _ => rfl
  | d :: r, h => by
    have h : (match scal d with | true => scalL r | false => false) = true := h
    cases hd : scal d with
    | false => rw [hd] at h; cases h
    | true =>
      rw [hd] at h
      have h1 := scal_frs m d hd
      have h2 := scal_frsL m r h
      show (match frs m d with | true => frsL m r | false => false) = true
      rw [h1]; exact h2
end
mutual
theorem scal_strip (f : Nat → Nat → Nat → Nat → D) : ∀ (d : D), scal d = true → stripF f d = d
  | .int _ _, _ => rfl
  | .bool _, _ => rfl
  | .str _, _ => rfl
  | .slice _ _ _, h => by cases h
  | .nil, h => by cases h
  | .opq, h => by cases h
  | .rsl _ _ _ _, h => by cases h
  | .ptr _ _, h => by cases h
  | .nilptr, h => by cases h
  | .ref _ _, h => by cases h
  | .func _ _, h => by cases h
  | .nilfunc, h => by cases h
  | .agg _, h => by cases h
  | .undef, h => by cases h
  | .tuple ds, h => by
    have := scal_stripL f ds h
    show D.tuple (stripFL f ds) = D.tuple ds
    rw [this]
theorem scal_stripL (f : Nat → Nat → Nat → Nat → D) : ∀ (l : List D), scalL l = true → stripFL f l = l
  | [], _ => rfl
  | d :: r, h => by
    have h : (match scal d with | true => scalL r | false => false) = true := h
    cases hd : scal d with
    | false => rw [hd] at h; cases h
    | true =>
      rw [hd] at h
      have h1 := scal_strip f d hd
      have h2 := scal_stripL f r h
      show stripF f d :: stripFL f r = d :: r
      rw [h1, h2]
end
theorem scalL_drop : ∀ {l : List D}, scalL l = true → ∀ n, scalL (l.drop n) = true
  | [], _, n => by simp [scalL]
  | a :: r, h, 0 => h
  | a :: r, h, n + 1 => by
    have h0 : (match scal a with | true => scalL r | false => false) = true := h
    cases ha : scal a with
    | true => rw [ha] at h0; exact scalL_drop h0 n
    | false => rw [ha] at h0; cases h0
def frzL (m : Mem) (l : List D) : List D := stripFL (frzM m m.boxes.length) l
theorem frzL_length (m : Mem) (l : List D) : (frzL m l).length = l.length := stripFL_length l
theorem scalL_get : ∀ {l : List D}, scalL l = true → ∀ (j : Nat) (d : D), l[j]? = some d → scal d = true
  | [], _, j, d, h => by simp at h
  | a :: r, hs, j, d, h => by
    have hs' : (match scal a with | true => scalL r | false => false) = true := hs
    cases ha : scal a with
    | false => rw [ha] at hs'; cases hs'
    | true =>
      rw [ha] at hs'
      cases j with
      | zero => simp at h; rw [← h]; exact ha
      | succ j => exact scalL_get hs' j d (by simpa using h)
section
variable {X : Ctx} {B N : Nat} {w w' w'' : World} {S S' S'' : Sh}
/-- A scalar stands for the same everywhere. -/
theorem scal_to {d : D} {v : Value} (h : HasV w S d v) : scal d = true → HasV w'' S'' d v := by
  induction h with
  | int k n => exact fun _ => .int k n
  | bool b => exact fun _ => .bool b
  | str s => exact fun _ => .str s
  | tuple ds vs hl hv ih => exact fun hs => .tuple ds vs hl fun j c v hj hv' => ih j c v hj hv' (scalL_get hs j c hj)
  | _ => intro hs; cases hs
/-- Boxes are hidden, what they hold is seen. -/
def hideF (w : World) (S : Sh) : Sh := {
  mu := S.mu
  bb := []
  tb := []
  m := ⟨[], []⟩
  ok := fun b n => w.heap.size ≤ b ∨ b ∈ S.bb ∨ ((∃ n', n ≤ n' ∧ S.ok b n') ∧ ∀ id k mk : Nat, S.tb[id]? = some (b, k) → S.m.toks[id]? = some mk → n ≤ mk * k) }
theorem hideF_vis (b n : Nat) (h : Vis w S b n) : Vis w (hideF w S) b n where
  lt := h.lt
  mu := h.mu
  bb := by simp [hideF]
  tb := fun id k mk h => by simp [hideF] at h
  ok := ⟨n, Nat.le_refl _, .inr (.inr ⟨h.ok, h.tb⟩)⟩
theorem hideF_box (R : RelG X B w S) (b n : Nat) (h : b ∈ S.bb) : Vis w (hideF w S) b n where
  lt := R.bbLt b h
  mu := R.bbMu b h
  bb := by simp [hideF]
  tb := fun id k mk h => by simp [hideF] at h
  ok := ⟨n, Nat.le_refl _, .inr (.inl h)⟩
theorem hideF_rel (hG : PlainG X) (R : RelG X B w S) : RelG X B w (hideF w S) where
  bbLen := rfl
  tbLen := rfl
  mu := R.mu
  bbLt := fun b h => by simp [hideF] at h
  tbLt := fun id b k h => by simp [hideF] at h
  tbInj := fun id id' b k k' h => by simp [hideF] at h
  tbBb := fun id b k h => by simp [hideF] at h
  tbMu := fun id b k h => by simp [hideF] at h
  bbMu := fun b h => by simp [hideF] at h
  okNew := fun b n h => .inl h
  okTok := fun id b k h => by simp [hideF] at h
  base := R.base
  bbGe := fun b h => by simp [hideF] at h
  tbGe := fun id b k h => by simp [hideF] at h
  bbInj := fun id id' b c c' h => by simp [hideF] at h
  boxes := fun id b cs h => by simp [hideF] at h
  toks := fun id b k mk h => by simp [hideF] at h
  glob := fun g cs h => by
    have := strip_to (S' := hideF w S) noR_isCell hideF_vis noR_to (R.glob g cs h)
    simp only [stripF] at this
    have e : stripFL noR cs = cs := hG g cs h
    rw [e] at this
    exact this
theorem frzL_to (R : RelG X B w S) {ds : List D} {vs : List Value} (h : HasL w S ds vs) : HasL w (hideF w S) (frzL S.m ds) vs :=
  ⟨by rw [frzL_length]; exact h.len, fun j c v hj hv => by
    obtain ⟨d, hd, rfl⟩ := stripFL_get _ _ _ hj
    exact strip_to (frzM_isCell _ _) hideF_vis (fun id off len k v hv => frzM_to R hideF_vis (hideF_box R) _ id off len k v hv) (h.at_ j d v hd hv)⟩
theorem unhideF_ext (R : RelG X B w S) (E : Ext w.heap.size w (hideF w S) w' S') : Ext w.heap.size w S w' (unhide S S') where
  os := E.os
  tape := E.tape
  output := E.output
  ok := rfl
  size := E.size
  mu := E.mu
  muNew := E.muNew
  bb := fun _ _ h => h
  bbNew := fun _ h _ => .inl h
  tb := fun _ b _ h => ⟨b, h, .inl rfl⟩
  tbNew := fun _ _ _ h _ => h
  marks := fun _ mk h => ⟨mk, h, Nat.le_refl _⟩
  markSame := fun _ _ b k b' _ _ h h' => by rw [show (unhide S S').tb = S.tb from rfl, h] at h'; cases h'; rfl
  keep := fun b hl _ _ _ => E.keep b hl (by simp [hideF]) (by simp [hideF]) (.inl hl)
  shp := fun b hb x hx => (shape_of_heap (E.keep b (R.bbLt b hb) (by simp [hideF]) (by simp [hideF]) (.inl (R.bbLt b hb)))).trans hx
  keepT := fun id b k mk h _ c t fr hc => ⟨c, by rw [E.keep b (R.tbLt id b k h) (by simp [hideF]) (by simp [hideF]) (.inl (R.tbLt id b k h))]; exact hc, rfl, fun _ _ => rfl⟩
theorem unhideF_rel (R : RelG X B w S) (R' : RelG X B w' S') (E : Ext w.heap.size w (hideF w S) w' S') : RelG X B w' (unhide S S') :=
  R.same (unhideF_ext R E) rfl rfl rfl (fun b h => by
      rcases Nat.lt_or_ge b w.heap.size with hb | hb
      · exact .inl (E.muNew b h hb)
      · exact .inr ⟨hb, R'.mu b h⟩)
    (fun b h => E.keep b (R.bbLt b h) (by simp [hideF]) (by simp [hideF]) (.inl (R.bbLt b h)))
    (fun id b k h => E.keep b (R.tbLt id b k h) (by simp [hideF]) (by simp [hideF]) (.inl (R.tbLt id b k h)))
/-- A slice over a box of scalars, where the block is seen without rights. -/
theorem frzM_sc (R : RelG X B w S) (hB : ∀ b n, b ∈ S.bb → Vis w S' b n) (n id off len k : Nat) (v : Value) (h : HasV w S (.rsl id off len k) v) {cs : List D} (hcs : S.m.boxes[id]? = some cs) (hsc : scalL cs = true) :
    HasV w S' (frzM S.m (n + 1) id off len k) v := by
  have hf := frzM_isCell S.m n
  cases h with
  | rsl _ _ _ _ b cap hk hl hb _ =>
    simp only [frzM, hcs]
    by_cases hfit : off + len * k ≤ cs.length
    · simp only [hfit, decide_true, cond_true]
      obtain ⟨vs, t, fr, hh, _, hsz, hc⟩ := R.boxes id b cs hb hcs
      have L := lies_of_pre hh hsz hc
      rw [show stripFL (frzM S.m n) (cs.drop off) = cs.drop off from scal_stripL _ _ (scalL_drop hsc off)]
      have hok : ∀ c ∈ cs.drop off, c.isCell = true := fun c hc => L.ok c (List.mem_of_mem_drop hc)
      have hln : len * k ≤ (cs.drop off).length := by rw [List.length_drop]; omega
      have hcl := chunks_length k len (cs.drop off)
      have key : ∀ (j : Nat) (c : D), (flat (chunks k len (cs.drop off)))[j]? = some c → j < len * k ∧ cs[off + j]? = some c := fun j c hj => by
        rw [flat_chunks k len _ hk hok hln] at hj
        have hjl : j < len * k := by
          have := lt_of_get hj
          simp at this; omega
        rw [List.getElem?_take_of_lt hjl, List.getElem?_drop] at hj
        exact ⟨hjl, hj⟩
      suffices hfin : HasV w S' (.slice none k (chunks k len (cs.drop off))) (.slice (some ⟨b, off, none⟩) (chunks k len (cs.drop off)).length cap) by
        rw [hcl] at hfin; exact hfin
      refine .slice none k _ b off cap (fun j => vs.getD (off + j) undef) hk (by rw [hcl]; exact hl.1) (by rw [hcl]; exact hl.2) (chunks_cells k len _ hk hok hln) (fun c hc => ?_) (hB _ _ (List.mem_of_getElem? hb)) trivial (fun j c hj => ?_) (fun j c hj => ?_)
      · rw [flat_chunks k len _ hk hok hln] at hc
        exact hok c (List.mem_of_mem_take hc)
      · obtain ⟨hjl, _⟩ := key j c hj
        rw [cell_of_row w b _ vs t fr hh]
        have : off + j < vs.size := by omega
        simp [Array.getD, this]
      · obtain ⟨hjl, hd⟩ := key j c hj
        refine scal_to (hc.at_ (off + j) c _ hd ?_) (scalL_get hsc _ _ hd)
        rw [List.getElem?_take_of_lt (by omega)]
        have : off + j < vs.size := by omega
        simp [Array.getD, this]
    · simp only [hfit, decide_false, cond_false]
      exact .opq _ rfl
/-- What a function has made stands for the same where the blocks that it made are seen. -/
theorem fresh_to (R : RelG X B w S) (hB : ∀ b n, b ∈ S.bb → Vis w S' b n) {d : D} {v : Value} (h : HasV w S d v) : frs S.m d = true → HasV w S' (frz S.m d) v := by
  induction h with
  | int k n => exact fun _ => .int k n
  | bool b => exact fun _ => .bool b
  | str s => exact fun _ => .str s
  | nil => exact fun _ => .nil
  | rsl id off len k b cap hk hl hb hsh =>
    intro hs
    have hs : (match S.m.boxes[id]? with | some cs => scalL cs | none => false) = true := hs
    cases hcs : S.m.boxes[id]? with
    | none => rw [hcs] at hs; cases hs
    | some cs =>
      rw [hcs] at hs
      have hid := (List.getElem?_eq_some_iff.1 hcs).1
      obtain ⟨N, hN⟩ : ∃ N, S.m.boxes.length = N + 1 := ⟨S.m.boxes.length - 1, by omega⟩
      show HasV w S' (frzM S.m S.m.boxes.length id off len k) _
      rw [hN]
      exact frzM_sc R hB N id off len k _ (.rsl id off len k b cap hk hl hb hsh) hcs hs
  | agg cs vs hl hcl hv ih =>
    intro hs
    refine .agg (stripFL (frzM S.m S.m.boxes.length) cs) vs (by rw [stripFL_length]; exact hl) (stripFL_isCell (frzM_isCell _ _) _ hcl) (fun j c v hj hv => ?_)
    obtain ⟨d, hd, rfl⟩ := stripFL_get _ _ _ hj
    exact ih j d v hd hv (frsL_get hs j d hd)
  | tuple ds vs hl hv ih =>
    intro hs
    refine .tuple (stripFL (frzM S.m S.m.boxes.length) ds) vs (by rw [stripFL_length]; exact hl) (fun j c v hj hv => ?_)
    obtain ⟨d, hd, rfl⟩ := stripFL_get _ _ _ hj
    exact ih j d v hd hv (frsL_get hs j d hd)
  | _ => intro hs; cases hs
theorem unhideF_box (R : RelG X B w S) (R' : RelG X B w' S') (E : Ext w.heap.size w (hideF w S) w' S') (b n : Nat) (h : b ∈ S'.bb) : Vis w' (unhide S S') b n := by
  have hge : w.heap.size ≤ b := by
    rcases Nat.lt_or_ge b w.heap.size with hb | hb
    · rcases E.bbNew b h hb with h1 | ⟨_, h1⟩
      · simp [hideF] at h1
      · omega
    · exact hb
  refine ⟨R'.bbLt b h, R'.bbMu b h, fun hb => ?_, fun id k mk h1 _ => ?_, ⟨n, Nat.le_refl _, R.okNew b n hge⟩⟩
  · have := R.bbLt b hb; omega
  · have := R.tbLt id b k h1; omega
/-- A function on its own that hands back what it has made, wherever it is called. -/
theorem closedF_ok (hG : PlainG X) {f : Nat} {ds : List D} {m : Mem} {Q : D → Mem → Prop} (h : CallD X f ⟨[], []⟩ (frzL m ds) Q) (hs : ∀ r m, Q r m → frs m r = true) : CallD X f m ds fun r m' => (∃ r0 m0, Q r0 m0 ∧ r = frz m0 r0) ∧ m' = m := by
  refine ⟨h.1, fun B w S args R hm ha => ?_⟩
  refine (h.2 B w (hideF w S) args (hideF_rel hG R) rfl (by rw [← hm]; exact frzL_to R ha)).mono fun e w' h' => ?_
  obtain ⟨v, S', r, rfl, hq, R', E, hv⟩ := h'
  exact ⟨v, unhide S S', frz S'.m r, rfl, ⟨⟨r, S'.m, hq, rfl⟩, hm⟩, unhideF_rel R R' E, unhideF_ext R E, fresh_to R' (unhideF_box R R' E) hv (hs _ _ hq)⟩
end
end Go.Eng
