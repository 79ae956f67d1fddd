/- Part of the engine that proves it: see the last text. -/
import Derived.Test.YtcfmjomniaopcaaDoorEngN
import Derived.Laws.MakeOwn
set_option linter.unusedSimpArgs false
set_option linter.unusedVariables false
/- buildSlice and append. -/
namespace Go.Eng
open Go

/-- What a step leaves: the relation, what was there, private blocks untouched. -/
structure Step (X : Ctx) (B N : Nat) (w : World) (S : Sh) (w' : World) (S' : Sh) : Prop where
  rel : RelG X B w' S'
  ext : Ext N w S w' S'
  priv : ∀ b, S.mu b → w'.heap[b]? = w.heap[b]?
  muK : ∀ b, S.mu b → S'.mu b

section
variable {X : Ctx} {B N : Nat} {w w' : World} {S S' : Sh} {st : St} {lb : Nat → Nat} {a : Act}

theorem bytesOk_spec {P : Program} {e : Nat} (h : bytesOk P e = true) : ∃ i, P.info? e = some i ∧ 1 ≤ i.size ∧ i.bytes ≤ 4096 := by
  unfold bytesOk at h
  split at h
  · rename_i i hi
    simp at h
    exact ⟨i, hi, h.1, h.2⟩
  · cases h

theorem szOf_info {P : Program} {e k : Nat} {i : TypeInfo} (hi : P.info? e = some i) (h : szOf P e = some k) : i.size = k := by
  unfold szOf at h; rw [hi] at h; cases h; rfl

theorem heapPriv (R : RelG X B w S) (o : Obj) : ∀ b, S.mu b → (w.alloc o).heap[b]? = w.heap[b]? := fun b h => alloc_old w o (R.mu b h)

theorem newTok (R : RelG X B w S) {es : List D} {vs : Array Value} (t : TypeId) {k cap : Nat} (hk : 0 < k) (hbig : es.length ≤ 140737488355328) (hcap : es.length ≤ cap) (hs : vs.size = cap * k)
    (hsz : ∀ d ∈ es, d.cells.length = k) (hc : HasC w S (flat es) (vs.toList.take (es.length * k))) :
    Step X B N w S (w.alloc (.cells vs t (0, 0))) (S.addTok w.heap.size k es.length) ∧
    HasV (w.alloc (.cells vs t (0, 0))) (S.addTok w.heap.size k es.length) (.slice (some (S.m.toks.length + 1)) k es) (.slice (some ⟨w.heap.size, 0, none⟩) es.length cap) := by
  have hfit : es.length * k ≤ vs.size := by rw [hs]; exact Nat.mul_le_mul_right _ hcap
  have E := Ext.allocTok (N := N) R (.cells vs t (0, 0)) k es.length
  have R' := R.allocTok t hk hfit
  refine ⟨⟨R', E, heapPriv R _, fun _ h => h⟩, ?_⟩
  refine mkSlice hk hbig hcap hsz (alloc_new w _) (hc.mono E R.tidy) (fun h => by have := R.mu _ h; omega) (fun h => by have := R.bbLt _ h; omega) ?_ ?_ (fun i k' h => ?_) hs ⟨_, Nat.le_refl _, R.okNew _ _ (Nat.le_refl _)⟩
  · simp [Sh.addTok, ← R.tbLen]
  · simp [Sh.addTok]
  · rcases get_append_one h with h | ⟨h, _⟩
    · have := R.tbLt i _ k' h; omega
    · rw [h, R.tbLen]

theorem newFull (R : RelG X B w S) {es : List D} {vs : Array Value} (t : TypeId) {k : Nat} (hk : 0 < k) (hbig : es.length ≤ 140737488355328)
    (hsz : ∀ d ∈ es, d.cells.length = k) (hc : HasC w S (flat es) vs.toList) :
    Step X B N w S (w.alloc (.cells vs t (0, 0))) S ∧
    HasV (w.alloc (.cells vs t (0, 0))) S (.slice (some 0) k es) (.slice (some ⟨w.heap.size, 0, none⟩) es.length es.length) := by
  have E := Ext.allocFull (N := N) R (.cells vs t (0, 0))
  refine ⟨⟨R.allocFull _, E, heapPriv R _, fun _ h => h⟩, ?_⟩
  exact fullSlice hk hbig hsz (alloc_new w _) (hc.mono E R.tidy) (fun h => by have := R.mu _ h; omega) (fun h => by have := R.bbLt _ h; omega) (fun i k' h => by have := R.tbLt i _ k' h; omega) (R.okNew _ _ (Nat.le_refl _))

/-- A slice over a new box. -/
theorem newBoxV (R : RelG X B w S) {cs : List D} {vs : Array Value} (t : TypeId) {fr : Nat × Nat} {k len cap : Nat} (hk : 0 < k) (hcap : len ≤ cap ∧ len ≤ 140737488355328) (ho : OpenR vs fr) (hl : cs.length ≤ vs.size) (hc : HasC w S cs (vs.toList.take cs.length)) :
    Step X B N w S (w.alloc (.cells vs t fr)) (S.addBox w.heap.size cs) ∧ HasV (w.alloc (.cells vs t fr)) (S.addBox w.heap.size cs) (.rsl S.m.boxes.length 0 len k) (.slice (some ⟨w.heap.size, 0, none⟩) len cap) := by
  refine ⟨⟨R.allocBoxP t ho hl hc, Ext.allocBox R _ cs, heapPriv R _, fun _ h => h⟩, .rsl _ 0 len k _ cap hk hcap ?_⟩
  simp [Sh.addBox, ← R.bbLen]

theorem bytes_ok (R : RelG X B w S) (A : RelA N w S st lb a) {src dst' : Nat} {x : Operand} {d : D} {m' : Mem} {dst : Option Nat} {ty : Nat} {pos : String} {af : Array Edge} {gd : Option (Nat × Bool)} {bx : Bool}
    (h : makeD X bx S.m st (.convert src dst' x) = some (d, m')) :
    ∃ v w' S', (execOp a.eval ⟨dst, .convert src dst' x, ty, pos, af, gd⟩).run X.P w = .ok (.value v) w' ∧ S'.m = m' ∧ Step X B N w S w' S' ∧ HasV w' S' d v := by
  simp only [makeD] at h
  split at h
  · rename_i s hty hx
    simp only [Bool.and_eq_true] at hty
    obtain ⟨e, h1, h2⟩ := bytesTy_spec hty.2
    have h3 := isStr_eq hty.1
    by_cases hl : s.length ≤ 16777216
    · simp only [hl, decide_true, cond_true] at h
      cases h
      have hv := ev_ok R A x
      rw [hx] at hv
      have hvs := hasStr hv
      have hr := run_bytes_of_string (P := X.P) w src dst' e ⟨s.toArray⟩ h3 h1 h2
      have ED : Ext N w S w.drew S := Ext.ofHeap rfl rfl rfl rfl
      have RD : RelG X B w.drew S := R.ofHeap rfl rfl rfl rfl
      have hsz : (⟨s.toArray⟩ : ByteArray).size = s.length := size_mk s
      generalize hcap : grownCap w (⟨s.toArray⟩ : ByteArray).size 0 e = cap at hr
      have hcl : s.length ≤ cap := by
        rw [← hcap, hsz]
        show s.length ≤ (Question.appendCap s.length 0 e).cut _
        show s.length ≤ s.length + 0 + _
        omega
      have hrow : bytesRow ⟨s.toArray⟩ cap = ((s.map fun (b : UInt8) => Value.int .u8 b.toNat) ++ List.replicate (cap - s.length) (Value.int .u8 0)).toArray := by
        unfold bytesRow
        rw [hsz]
        simp
      have ho : OpenR (bytesRow ⟨s.toArray⟩ cap) ((bytesRow ⟨s.toArray⟩ cap).size, (bytesRow ⟨s.toArray⟩ cap).size + 1) := fun j hj h => by omega
      have hlen : (s.map byteD).length ≤ (bytesRow ⟨s.toArray⟩ cap).size := by rw [hrow]; simp
      have hcc : HasC w.drew S (s.map byteD) ((bytesRow ⟨s.toArray⟩ cap).toList.take (s.map byteD).length) := by
        rw [hrow]
        simp only [List.length_map]
        rw [List.take_append_of_le_length (by simp), List.take_of_length_le (by simp)]
        refine ⟨⟨by simp, fun j c v hc hv => ?_⟩, fun c hc => ?_⟩
        · simp only [List.getElem?_map, Option.map_eq_some_iff] at hc hv
          obtain ⟨b, hb, rfl⟩ := hc
          obtain ⟨b', hb', rfl⟩ := hv
          rw [hb] at hb'; cases hb'
          exact .int _ _
        · simp only [List.mem_map] at hc
          obtain ⟨b, _, rfl⟩ := hc
          rfl
      obtain ⟨st1, hv1⟩ := newBoxV (N := N) RD e (show 0 < 1 by omega) ⟨hcl, by omega⟩ ho hlen hcc
      refine ⟨_, _, _, ?_, ?_, ⟨st1.rel, ED.trans R.tidy st1.ext, fun b hb => st1.priv b hb, st1.muK⟩, hv1⟩
      · simp only [execOp, Sem.run_bind, hvs, hr]
        rw [hsz]; rfl
      · simp [Sh.addBox]
    · simp [hl] at h
  · cases h

theorem makeSlice_ok (R : RelG X B w S) (A : RelA N w S st lb a) {t : Nat} {l c : Operand} {d : D} {m' : Mem} {dst : Option Nat} {ty : Nat} {pos : String} {af : Array Edge} {gd : Option (Nat × Bool)} {bx : Bool}
    (h : makeD X bx S.m st (.makeSlice t l c) = some (d, m')) :
    ∃ v w' S', (execOp a.eval ⟨dst, .makeSlice t l c, ty, pos, af, gd⟩).run X.P w = .ok (.value v) w' ∧ S'.m = m' ∧ Step X B N w S w' S' ∧ HasV w' S' d v := by
  simp only [makeD] at h
  split at h
  · rename_i e n n' hs hl hc
    split at h
    · rename_i k z hk hb hz
      cases hcond : (z.okC && decide (z.cells.length = k) && decide (0 ≤ n) && decide (n = n') && decide (n ≤ 16777216)) with
      | false => rw [hcond] at h; cases h
      | true =>
        rw [hcond] at h
        simp only [cond_true] at h
        simp only [Bool.and_eq_true, decide_eq_true_eq] at hcond
        obtain ⟨⟨⟨⟨c1, c2⟩, c3⟩, rfl⟩, c5⟩ := hcond
        cases h
        obtain ⟨i, hi, hi1, hi2⟩ := bytesOk_spec hb
        have hik := szOf_info hi hk
        have k0 : 0 < k := by omega
        obtain ⟨nn, rfl⟩ := toNat_of c3
        obtain ⟨zv, hzv, hzc⟩ := zeroD_spec hz
        have hz' := constD_ok (w := w) (S := S) hzc
        have hzl : zv.cells.size = k := by have := (okC_cells hz' c1).len; simp at this; omega
        have hrow := zero_row hz' c1 c2 nn
        have h1 := ev_ok R A l
        have h2 := ev_ok R A c
        rw [hl] at h1
        rw [hc] at h2
        have hbig : (i.bytes : Int) * (nn : Int) ≤ 281474976710656 := by
          have h1 : i.bytes * nn ≤ 4096 * 16777216 := Nat.mul_le_mul hi2 (by omega)
          have h2 : ((i.bytes * nn : Nat) : Int) ≤ 281474976710656 := by omega
          rwa [Int.natCast_mul] at h2
        have hr := run_make (P := X.P) w t e i zv (sliceElem_eq hs) hi (by rw [hi] at hzv; exact hzv) .i64 .i64 nn nn (by omega) (Int.le_refl _) hbig (by omega)
        simp only [Int.toNat_natCast] at hr
        obtain ⟨st1, hv1⟩ := newBoxV (N := N) R e k0 (⟨Nat.le_refl nn, by omega⟩ : nn ≤ nn ∧ nn ≤ 140737488355328) (openR_zero (madeCells zv.cells (nn * i.size))) (cs := flat (List.replicate nn z)) (by have := hrow.len; simp at this; rw [size_madeCells, hik]; omega) (by
          rw [List.take_of_length_le (by have := hrow.len; simp at this; simp [size_madeCells, hik]; omega)]
          unfold madeCells
          rw [hik]
          exact hrow)
        refine ⟨_, _, _, ?_, ?_, st1, hv1⟩
        · simp only [execOp, Sem.run_bind, hasInt h1, hasInt h2, hr]; rfl
        · simp [Sh.addBox]
    · cases h
  · cases h

theorem buildSlice_ok (R : RelG X B w S) (A : RelA N w S st lb a) {t len : Nat} {parts : Array (Nat × Operand)} {d : D} {dst : Option Nat} {ty : Nat} {pos : String} {af : Array Edge} {gd : Option (Nat × Bool)}
    (h : rowD X st (.buildSlice t len parts) = some d) :
    ∃ v w' S', (execOp a.eval ⟨dst, .buildSlice t len parts, ty, pos, af, gd⟩).run X.P w = .ok (.value v) w' ∧ S'.m = S.m ∧ Step X B N w S w' S' ∧ HasV w' S' d v := by
  simp only [rowD] at h
  split at h
  · rename_i e hs
    split at h
    · rename_i k z hk hb hz
      cases hc : (z.okC && decide (z.cells.length = k) && decide (len * k ≤ 16777216)) with
      | false => rw [hc] at h; cases h
      | true =>
        rw [hc] at h
        simp only [cond_true] at h
        simp only [Bool.and_eq_true, decide_eq_true_eq] at hc
        obtain ⟨⟨c1, c2⟩, c3⟩ := hc
        obtain ⟨i, hi, hi1, hi2⟩ := bytesOk_spec hb
        have hik := szOf_info hi hk
        have k0 : 0 < k := by omega
        obtain ⟨zv, hzv, hzc⟩ := zeroD_spec hz
        have hz' := constD_ok (w := w) (S := S) hzc
        have hrow := zero_row hz' c1 c2 len
        have main : ∀ out, fillA (List.replicate len z) k (partsD X st parts.toList) = some out → ∃ us : Array Value,
            (execOp a.eval ⟨dst, .buildSlice t len parts, ty, pos, af, gd⟩).run X.P w = .ok (.value (.slice (some ⟨w.heap.size, 0, none⟩) len len)) (w.alloc (.cells us e (0, 0))) ∧ HasC w S (flat out) us.toList ∧ out.length = len ∧ (∀ d ∈ out, d.cells.length = k) ∧ us.size = len * k := fun out ho => by
          obtain ⟨us, h1, h2, h3, h4⟩ := run_fillA (w := w) (S := S) (partsD X st parts.toList) (parts.toList.map fun (i, x) => (i, a.eval x)) (List.replicate len z) _ out (by rw [partsD_length]; simp) (parts_ok R A parts.toList) hrow
            (fun d hd => by rw [List.eq_of_mem_replicate hd]; exact c2) ho
          have h3' : out.length = len := by simpa using h3
          refine ⟨us, ?_, h2, h3', h4, by have := h2.len; rw [flat_length out h4, h3'] at this; simp at this; omega⟩
          have e1 : (parts.map fun (i, x) => (i, a.eval x)).toList = parts.toList.map fun (i, x) => (i, a.eval x) := by simp
          simp only [execOp, Instr.buildSlice, Sem.run_bind, run_underlying_of (sliceElem_eq hs), Result.andThen_ok, run_sizeOf hk, Sem.run_ite]
          rw [if_neg (by omega)]
          by_cases h0 : len * k = 0
          · rw [if_pos h0]
            have earr : ((Array.range (len * k)).map fun i => (#[] : Array Value)[i % (#[] : Array Value).size]!) = (Array.range (len * k)).map fun i => zv.cells[i % zv.cells.size]! := by
              rw [h0]; simp
            simp only [Sem.run_pure, Result.andThen_ok, earr, e1, h1]
            simp [newRow]
          · rw [if_neg h0]
            simp only [run_zeroValue hzv, Sem.run_pure, Result.andThen_ok, e1, h1]
            simp [newRow]
        split at h
        · rename_i es ho
          cases h
          obtain ⟨us, hr, hc, hl, hsz, hus⟩ := main es ho
          have hbig : es.length ≤ 140737488355328 := by
            rw [hl]
            have : len * 1 ≤ len * k := Nat.mul_le_mul_left _ k0
            omega
          obtain ⟨h1, h2⟩ := newFull (N := N) R e k0 hbig hsz hc
          rw [hl] at h2
          exact ⟨_, _, _, hr, rfl, h1, h2⟩
        · cases h
    · cases h
  · cases h

theorem growBy_le (n : Nat) : ∀ (r c : Nat), c ≤ n + (n + 768) / 4 → Builtin.growBy n r c ≤ n + (n + 768) / 4
  | 0, c, h => h
  | r + 1, c, h => by
    unfold Builtin.growBy
    split
    · exact h
    · exact growBy_le n r _ (by omega)

theorem nextslicecap_le (n c : Nat) (h : c < n) : Builtin.nextslicecap n c ≤ 2 * n + 192 := by
  unfold Builtin.nextslicecap
  split
  · omega
  · split
    · omega
    · have := growBy_le n 4 c (by omega); omega

theorem chunks_length (k : Nat) : ∀ (n : Nat) (cs : List D), (chunks k n cs).length = n
  | 0, _ => rfl
  | n + 1, cs => by simp [chunks, chunks_length k n]
theorem mkEl_cells {k : Nat} {cs : List D} (hok : ∀ c ∈ cs, c.isCell = true) : (mkEl k cs).cells = cs := by
  unfold mkEl
  split
  · rename_i c
    have := hok c (List.mem_cons_self ..)
    cases c <;> first | rfl | cases this
  · rfl
theorem chunks_cells (k : Nat) : ∀ (n : Nat) (cs : List D), 0 < k → (∀ c ∈ cs, c.isCell = true) → n * k ≤ cs.length → ∀ d ∈ chunks k n cs, d.cells.length = k
  | 0, _, _, _, _, d, h => by simp [chunks] at h
  | n + 1, cs, hk, hok, hl, d, h => by
    rw [Nat.succ_mul] at hl
    simp only [chunks, List.mem_cons] at h
    rcases h with rfl | h
    · rw [mkEl_cells (fun c hc => hok c (List.mem_of_mem_take hc)), List.length_take]; omega
    · exact chunks_cells k n (cs.drop k) hk (fun c hc => hok c (List.mem_of_mem_drop hc)) (by rw [List.length_drop]; omega) d h
theorem flat_chunks (k : Nat) : ∀ (n : Nat) (cs : List D), 0 < k → (∀ c ∈ cs, c.isCell = true) → n * k ≤ cs.length → flat (chunks k n cs) = cs.take (n * k)
  | 0, _, _, _, _ => by simp [chunks, flat]
  | n + 1, cs, hk, hok, hl => by
    rw [Nat.succ_mul] at hl
    have ih := flat_chunks k n (cs.drop k) hk (fun c hc => hok c (List.mem_of_mem_drop hc)) (by rw [List.length_drop]; omega)
    simp only [chunks, flat, ih]
    rw [mkEl_cells (fun c hc => hok c (List.mem_of_mem_take hc)), Nat.succ_mul, Nat.add_comm (n * k) k, List.take_add]

/-- The appended cells. -/
theorem firstCells_ok (R : RelG X B w S) {x : D} {k : Nat} {xs : List D} (h : elemsOf S.m k x = some xs) {v : Value} (hv : HasV w S x v) :
    (Builtin.lenOf v).run X.P w = .ok xs.length w ∧ ∃ arr : Array Value, (Builtin.firstCells k xs.length v).run X.P w = .ok arr w ∧ HasC w S (flat xs) arr.toList ∧ arr.size = xs.length * k ∧ ∀ d ∈ xs, d.cells.length = k := by
  have nothing : HasC w S (flat []) (#[] : Array Value).toList := ⟨⟨rfl, fun j c v hc => by simp [flat] at hc⟩, fun c hc => by simp [flat] at hc⟩
  unfold elemsOf at h
  split at h
  · rename_i id off len k'
    by_cases hk : k' = k
    · subst hk
      simp only [decide_true, cond_true] at h
      unfold elemsR at h
      split at h
      · rename_i cs hcs
        by_cases hb : off + len * k' ≤ cs.length
        · simp only [hb, decide_true, cond_true] at h
          cases h
          cases hv with
          | rsl _ _ _ _ b cap hk0 hlc hbb =>
            obtain ⟨vs, t, fr, hh, _, hsz, hc⟩ := R.boxes id b cs hbb hcs
            have L := lies_of_pre hh hsz hc
            have hlc' : (chunks k' len (cs.drop off)).length = len := chunks_length k' len _
            have hok : ∀ c ∈ cs.drop off, c.isCell = true := fun c hc => L.ok c (List.mem_of_mem_drop hc)
            have hfl : len * k' ≤ (cs.drop off).length := by rw [List.length_drop]; omega
            have hr := run_loadCells (P := X.P) w ⟨b, off, none⟩ (len * k') (fun j => vs.getD (off + j) undef) (fun j hj => by
              rw [add_none, cell_of_row w b _ vs t fr hh]
              have : off + j < vs.size := by omega
              simp [Array.getD, this])
            refine ⟨by simp [Builtin.lenOf, hlc'], _, by simp only [Builtin.firstCells, hlc']; exact hr, ?_, by simp [hlc'], chunks_cells k' len _ hk0 hok hfl⟩
            rw [flat_chunks k' len _ hk0 hok hfl]
            refine ⟨⟨by simp; omega, fun j c v hj hv => ?_⟩, fun c hc => hok c (List.mem_of_mem_take hc)⟩
            have hj' : j < len * k' := by
              have := lt_of_get hj
              simp at this; omega
            rw [List.getElem?_take_of_lt hj', List.getElem?_drop] at hj
            simp [hj'] at hv
            subst hv
            refine hc.at_ (off + j) c _ hj ?_
            rw [List.getElem?_take_of_lt (by omega)]
            have : off + j < vs.size := by omega
            simp [Array.getD, this]
        · simp [hb] at h
      · cases h
    · simp [hk] at h
  · rename_i tg k' es
    by_cases hk : k' = k
    · subst hk
      simp at h; subst h
      obtain ⟨p, cap, rfl, arr, hr, hc, hs, hsz⟩ := loadRow (X := X) hv
      exact ⟨by simp [Builtin.lenOf], arr, by simpa [Builtin.firstCells] using hr, hc, hs, hsz⟩
    · simp [hk] at h
  · cases h
    rw [hasNil hv]
    exact ⟨by simp [Builtin.lenOf], #[], by simp [Builtin.firstCells], nothing, by simp, fun d hd => by cases hd⟩
  · cases h

theorem oneCell_of {c : D} {v : Value} (h : HasV w S c v) (hc : c.isCell = true) : v.oneCell' = true := by
  cases h <;> first | rfl | assumption | cases hc

theorem oneCells {cs : List D} {vs : List Value} (h : HasC w S cs vs) : ∀ v ∈ vs, v.oneCell' = true := fun v hv => by
  obtain ⟨j, hj⟩ := List.getElem?_of_mem hv
  have hlt := lt_of_get hj
  have hl := h.len
  have hc : cs[j]? = some cs[j] := List.getElem?_eq_getElem (by omega)
  exact oneCell_of (h.at_ j _ v hc hj) (h.cell _ (List.getElem_mem _))

/-- The grown branch of append: a new block with the old cells, the new ones, and room. -/
theorem append_grow {t u e e' k sLen sCap n : Nat} {base : Option Addr} {vx : Value} (hs : sliceElem X.P t = some e) (hu : sliceElem X.P u = some e') (hk : szOf X.P e = some k) (hb : bytesOk X.P e = true)
    {old new : Array Value} (hold : (Builtin.firstCells k sLen (.slice base sLen sCap)).run X.P w.drew = .ok old w.drew) (hln : (Builtin.lenOf vx).run X.P w = .ok n w)
    (hnew : (Builtin.firstCells k n vx).run X.P w.drew = .ok new w.drew)
    (hso : old.size = sLen * k) (hsn : new.size = n * k) (hle : sLen + n ≤ 16777216) (hgt : sCap < sLen + n) {zv : Value} (hz : (X.P.info? e).bind (·.zero) = some zv) (hzk : zv.cells.size = k) (ty : Nat) :
    ∃ (cap : Nat) (vs : Array Value), (Builtin.append_ #[t, u] ty #[.slice base sLen sCap, vx]).run X.P w = .ok (.slice (some ⟨w.heap.size, 0, none⟩) (sLen + n) cap) (w.drew.alloc (.cells vs e (0, 0))) ∧
      sLen + n ≤ cap ∧ vs.size = cap * k ∧ vs.toList.take ((sLen + n) * k) = old.toList ++ new.toList := by
  obtain ⟨i, hi, hi1, hi2⟩ := bytesOk_spec hb
  have hik := szOf_info hi hk
  let q : Question := .appendCap (sLen + n) sCap e
  let cap := q.cut (w.tape w.drawn q)
  have hcap : sLen + n ≤ cap := by show sLen + n ≤ sLen + n + _; omega
  let rest := Builtin.zeroCells zv.cells (cap - (sLen + n))
  have hrest : rest.size = (cap - (sLen + n)) * k := by simp [rest, Builtin.zeroCells, hzk]
  refine ⟨cap, old ++ new ++ rest, ?_, hcap, ?_, ?_⟩
  · have hnc := nextslicecap_le (sLen + n) sCap hgt
    have hbig : ¬ Builtin.nextslicecap (sLen + n) sCap * i.bytes > 2 ^ 48 := by
      have : Builtin.nextslicecap (sLen + n) sCap * i.bytes ≤ (2 * 16777216 + 192) * 4096 := Nat.mul_le_mul (by omega) hi2
      omega
    have hti : ∀ W : World, (typeInfo e).run X.P W = .ok i W := fun W => by simp [typeInfo, hi]
    have hzz : ∀ W : World, (zeroValue e).run X.P W = .ok zv W := fun W => run_zeroValue hz W
    have hneed : ¬ (sLen + n ≤ sCap) := by omega
    have hneed2 : ¬ (((sLen + n : Nat) : Int) > IntKind.i64.max) := by show ¬ _ > (9223372036854775807 : Int); omega
    unfold Builtin.append_
    have hch : (choose q).run X.P w = .ok cap w.drew := by simp [choose, Sem.run, q, cap, Question.forced]
    simp [run_underlying_of (sliceElem_eq hs), run_underlying_of (sliceElem_eq hu), run_sizeOf hk, hln, hneed, hti]
    rw [if_neg (fun h => by omega), if_neg (by omega)]
    rw [if_neg (by simp [Question.forced])]
    simp only [hold, hnew, hzz, Result.andThen_ok, newRow, Sem.run_bind, run_newObj, Sem.run_pure, World.alloc_eq]
    congr 2
  · simp [hso, hsn, hrest, Nat.add_mul, Nat.sub_mul]
    have : sLen * k + n * k ≤ cap * k := by rw [← Nat.add_mul]; exact Nat.mul_le_mul_right _ hcap
    omega
  · simp only [Array.toList_append]
    rw [List.take_append_of_le_length (by simp [hso, hsn, Nat.add_mul])]
    rw [List.take_of_length_le (by simp [hso, hsn, Nat.add_mul])]

theorem rowPrefix {tg : Option Nat} {k b cap : Nat} {es : List D} {vs : Array Value} {t : TypeId} {fr : Nat × Nat} (h : HasV w S (.slice tg k es) (.slice (some ⟨b, 0, none⟩) es.length cap))
    (hh : w.heap[b]? = some (.cells vs t fr)) : HasC w S (flat es) (vs.toList.take (es.length * k)) ∧ (∀ d ∈ es, d.cells.length = k) := by
  generalize hv : Value.slice (some ⟨b, 0, none⟩) es.length cap = v at h
  cases h with
  | slice0 _ _ p cap' h =>
    simp only [Value.slice.injEq, Option.some.injEq] at hv
    exact ⟨⟨⟨by simp [flat], fun j c v hc => by simp [flat] at hc⟩, fun c hc => by simp [flat] at hc⟩, fun d hd => by cases hd⟩
  | slice _ _ _ b' off cap' vals hk hcap hbig hsz hcl hvis htag hcell hvv =>
    simp only [Value.slice.injEq, Option.some.injEq, Addr.mk.injEq] at hv
    obtain ⟨⟨rfl, rfl, _⟩, _, rfl⟩ := hv
    have hfl := flat_length es hsz
    have hcc : ∀ (j : Nat) (c : D), (flat es)[j]? = some c → vs[j]? = some (vals j) := fun j c hj => by
      have := hcell j c hj
      rw [Nat.zero_add, cell_of_row w _ j vs t fr hh] at this
      exact this
    refine ⟨⟨⟨?_, fun j c v hc hv' => ?_⟩, hcl⟩, hsz⟩
    · rw [hfl]
      rcases Nat.eq_zero_or_pos (es.length * k) with h0 | h0
      · rw [h0]; simp
      · have hl := hcc (es.length * k - 1) _ (List.getElem?_eq_getElem (by omega))
        have : es.length * k - 1 < vs.size := by
          rcases Nat.lt_or_ge (es.length * k - 1) vs.size with h | h
          · exact h
          · rw [Array.getElem?_eq_none h] at hl; cases hl
        simp; omega
    · have hj := lt_of_get hc
      rw [List.getElem?_take_of_lt (by omega)] at hv'
      have := hcc j c hc
      rw [← Array.getElem?_toList, hv'] at this
      cases this
      exact hvv j c hc

theorem fullCap {k : Nat} {es : List D} {v : Value} (h : HasV w S (.slice (some 0) k es) v) : ∃ p, v = .slice (some p) es.length es.length := by
  cases h with
  | slice0 _ _ p cap h =>
    rcases h with h | ⟨_, rfl⟩
    · cases h
    · exact ⟨p, rfl⟩
  | slice _ _ _ b off cap vals hk hcap hbig hsz hcl hvis htag hcell hvv =>
    have : es.length = cap := htag
    subst this
    exact ⟨_, rfl⟩

theorem tokSlice (R : RelG X B w S) {id k : Nat} {es : List D} {v : Value} (h : HasV w S (.slice (some (id + 1)) k es) v) (hm : S.m.toks[id]? = some es.length) :
    ∃ (b cap : Nat) (vs : Array Value) (t : TypeId), v = .slice (some ⟨b, 0, none⟩) es.length cap ∧ es.length ≤ cap ∧ S.tb[id]? = some (b, k) ∧ w.heap[b]? = some (.cells vs t (0, 0)) ∧ vs.size = cap * k := by
  cases h with
  | slice0 _ _ p cap h => rcases h with h | ⟨h, _⟩ <;> cases h
  | slice _ _ _ b off cap vals hk hcap hbig hsz hcl hvis htag hcell hvv =>
    obtain ⟨rfl, mk, b', h1, h2, h3, h4⟩ := htag
    rw [hm] at h1; cases h1
    obtain ⟨rfl, t, hsh⟩ := h4 rfl
    obtain ⟨_, vs, t', hh, _⟩ := R.toks id _ k _ h2 hm
    refine ⟨_, cap, vs, t', rfl, hcap, h2, hh, ?_⟩
    unfold World.shape? at hsh
    rw [hh] at hsh
    simp only [Option.some.injEq, Prod.mk.injEq] at hsh
    exact hsh.2

theorem append_ok (R : RelG X B w S) (A : RelA N w S st lb a) {args : Array Operand} {tys : Array Nat} {d : D} {m' : Mem} {dst : Option Nat} {ty : Nat} {pos : String} {af : Array Edge} {gd : Option (Nat × Bool)} {bx : Bool}
    (h : makeD X bx S.m st (.call ⟨.builtin .append, args, tys⟩) = some (d, m')) :
    ∃ v w' S', (execOp a.eval ⟨dst, .call ⟨.builtin .append, args, tys⟩, ty, pos, af, gd⟩).run X.P w = .ok (.value v) w' ∧ S'.m = m' ∧ Step X B N w S w' S' ∧ HasV w' S' d v := by
  simp only [makeD] at h
  split at h
  · rename_i sO xO t u hargs htys
    have ha : args = #[sO, xO] := by apply Array.ext'; simpa using hargs
    have ht : tys = #[t, u] := by apply Array.ext'; simpa using htys
    subst ha; subst ht
    split at h
    · rename_i e k k' hs hsk huk
      split at h
      · rename_i xs es hb hz hx hss
        cases hc : (decide (k' = k) && decide (es.length + xs.length ≤ 16777216)) with
        | false => rw [hc] at h; cases h
        | true =>
          rw [hc] at h
          simp only [cond_true] at h
          simp only [Bool.and_eq_true, decide_eq_true_eq] at hc
          obtain ⟨rfl, hle⟩ := hc
          obtain ⟨e', hu, _⟩ := sliceSz_spec huk
          have hk : szOf X.P e = some k' := by
            obtain ⟨e2, h1, h2⟩ := sliceSz_spec hsk
            rw [hs] at h1; cases h1; exact h2
          have hvx := ev_ok R A xO
          have hvs := ev_ok R A sO
          obtain ⟨i, hi, hi1, hi2⟩ := bytesOk_spec hb
          have hik := szOf_info hi hk
          have k0 : 0 < k' := by omega
          have exec : ∀ v w', (Builtin.append_ #[t, u] ty #[a.eval sO, a.eval xO]).run X.P w = .ok v w' →
              (execOp a.eval ⟨dst, .call ⟨.builtin .append, #[sO, xO], #[t, u]⟩, ty, pos, af, gd⟩).run X.P w = .ok (.value v) w' := fun v w' hr => by
            simp [execOp, resolve, invoke, builtin, hr]
          obtain ⟨hln, arr, hfx, hcx, hsx, hkx⟩ := firstCells_ok R hx hvx
          -- the run where it fits
          have fits : ∀ base sLen sCap, a.eval sO = .slice base sLen sCap → sLen + xs.length ≤ sCap → ∀ w', (match base with | some p => storeCells (p.add (sLen * k')) arr.toList | none => pure ()).run X.P w = .ok () w' →
              (Builtin.append_ #[t, u] ty #[a.eval sO, a.eval xO]).run X.P w = .ok (.slice base (sLen + xs.length) sCap) w' := fun base sLen sCap he hfit w' hst => by
            unfold Builtin.append_
            simp [run_underlying_of (sliceElem_eq hs), run_underlying_of (sliceElem_eq hu), run_sizeOf hk, hln, he, hfit, hfx]
            cases base with
            | none => simp at hst; simp [hst]
            | some p => simp at hst; simp [hst]
          -- zero value
          obtain ⟨zv, hzv, hzk⟩ : ∃ zv : Value, (X.P.info? e).bind (·.zero) = some zv ∧ zv.cells.size = k' := by
            unfold zeroOk at hz
            split at hz
            · rename_i z hz'
              simp only [Bool.and_eq_true, decide_eq_true_eq] at hz
              obtain ⟨zv, h1, h2⟩ := zeroD_spec hz'
              have := (okC_cells (constD_ok (w := w) (S := S) h2) hz.1).len
              exact ⟨zv, h1, by simp at this; omega⟩
            · cases hz
          -- the world behind the draw
          have ED : Ext N w S w.drew S := Ext.ofHeap rfl rfl rfl rfl
          have RD : RelG X B w.drew S := R.ofHeap rfl rfl rfl rfl
          obtain ⟨_, arr1, hfx1, hcx1, hsx1, _⟩ := firstCells_ok RD hx (hvx.mono ED R.tidy)
          have newRowCase : ∀ base, a.eval sO = .slice base es.length es.length → (∃ arr0 : Array Value, (Builtin.firstCells k' es.length (.slice base es.length es.length)).run X.P w.drew = .ok arr0 w.drew ∧ HasC w.drew S (flat es) arr0.toList ∧ arr0.size = es.length * k' ∧ ∀ d ∈ es, d.cells.length = k') → 0 < xs.length →
              ∃ v w' S', (execOp a.eval ⟨dst, .call ⟨.builtin .append, #[sO, xO], #[t, u]⟩, ty, pos, af, gd⟩).run X.P w = .ok (.value v) w' ∧ S'.m = { S.m with toks := S.m.toks ++ [(es ++ xs).length] } ∧ Step X B N w S w' S' ∧
                HasV w' S' (.slice (some (S.m.toks.length + 1)) k' (es ++ xs)) v := fun base he ⟨arr0, hold, hc0, hs0, hk0⟩ hpos => by
            obtain ⟨cap, vs, hr, hcap, hsz, htk⟩ := append_grow hs hu hk hb hold hln hfx1 hs0 hsx1 hle (by omega) hzv hzk ty
            rw [← he] at hr
            have hle2 : (es ++ xs).length ≤ 140737488355328 := by rw [List.length_append]; omega
            have hcap2 : (es ++ xs).length ≤ cap := by rw [List.length_append]; exact hcap
            obtain ⟨st1, hv1⟩ := newTok (N := N) RD e k0 hle2 hcap2 hsz (fun d hd => (List.mem_append.1 hd).elim (hk0 d) (hkx d)) (by rw [List.length_append, htk, flat_append]; exact hasC_append hc0 hcx1)
            refine ⟨_, _, _, exec _ _ hr, ?_, ⟨st1.rel, ED.trans R.tidy st1.ext, fun b hb => st1.priv b hb, st1.muK⟩, by rw [← List.length_append]; exact hv1⟩
            simp [Sh.addTok]
          cases bx with
          | true =>
            simp only at h
            have newBoxCase : ∀ base, a.eval sO = .slice base es.length es.length → (∃ arr0 : Array Value, (Builtin.firstCells k' es.length (.slice base es.length es.length)).run X.P w.drew = .ok arr0 w.drew ∧ HasC w.drew S (flat es) arr0.toList ∧ arr0.size = es.length * k' ∧ ∀ d ∈ es, d.cells.length = k') → 0 < xs.length →
                ∃ v w' S', (execOp a.eval ⟨dst, .call ⟨.builtin .append, #[sO, xO], #[t, u]⟩, ty, pos, af, gd⟩).run X.P w = .ok (.value v) w' ∧ S'.m = { S.m with boxes := S.m.boxes ++ [flat (es ++ xs)] } ∧ Step X B N w S w' S' ∧
                  HasV w' S' (.rsl S.m.boxes.length 0 (es ++ xs).length k') v := fun base he ⟨arr0, hold, hc0, hs0, hk0⟩ hpos => by
              obtain ⟨cap, vs, hr, hcap, hsz, htk⟩ := append_grow hs hu hk hb hold hln hfx1 hs0 hsx1 hle (by omega) hzv hzk ty
              rw [← he] at hr
              have hkk : ∀ d ∈ es ++ xs, d.cells.length = k' := fun d hd => (List.mem_append.1 hd).elim (hk0 d) (hkx d)
              have hfl := flat_length (es ++ xs) hkk
              have hcc : HasC w.drew S (flat (es ++ xs)) (vs.toList.take (flat (es ++ xs)).length) := by
                rw [hfl, List.length_append, htk, flat_append]; exact hasC_append hc0 hcx1
              have hlen : (flat (es ++ xs)).length ≤ vs.size := by
                rw [hfl, hsz, List.length_append]; exact Nat.mul_le_mul_right _ hcap
              obtain ⟨st1, hv1⟩ := newBoxV (N := N) RD e k0 (show (es ++ xs).length ≤ cap ∧ (es ++ xs).length ≤ 140737488355328 by rw [List.length_append]; exact ⟨hcap, by omega⟩) (openR_zero vs) hlen hcc
              exact ⟨_, _, _, exec _ _ hr, by simp [Sh.addBox], ⟨st1.rel, ED.trans R.tidy st1.ext, fun b hb => st1.priv b hb, st1.muK⟩, by rw [← List.length_append]; exact hv1⟩
            cases xs with
            | nil =>
              simp only [appendB] at h
              have harr : arr = #[] := by
                apply Array.ext'
                have : arr.toList.length = 0 := by simpa using hsx
                rw [List.length_eq_zero_iff.1 this]
              subst harr
              cases hd : ev X st sO <;> rw [hd] at hss hvs h <;> first | (simp [elemsOf] at hss; done) | (cases h; done) | skip
              · cases h
                obtain ⟨p, cap, hp, hcap⟩ := hasSlice' hvs
                have hr := fits (some p) _ cap hp (by simpa using hcap) w (by simp [storeCells])
                refine ⟨_, w, S, exec _ _ hr, rfl, ⟨R, Ext.refl N w S, fun _ _ => rfl, fun _ h => h⟩, ?_⟩
                rw [List.length_nil, Nat.add_zero, ← hp]; exact hvs
              · cases h
                have hr := fits none 0 0 (hasNil hvs) (by simp) w (by simp)
                refine ⟨_, w, S, exec _ _ hr, rfl, ⟨R, Ext.refl N w S, fun _ _ => rfl, fun _ h => h⟩, ?_⟩
                exact .nil
            | cons x0 xr =>
              simp only [appendB] at h
              cases hd : ev X st sO <;> rw [hd] at h hss hvs <;> first | (cases h; done) | skip
              · rename_i tg k2 es2
                cases tg with
                | none => cases h
                | some id1 =>
                cases id1 with
                | succ id => cases h
                | zero =>
                  cases h
                  have hk2 : k2 = k' ∧ es2 = es := by
                    simp only [elemsOf] at hss
                    by_cases hkk : k2 = k'
                    · simp [hkk] at hss; exact ⟨hkk, hss⟩
                    · simp [hkk] at hss
                  obtain ⟨rfl, rfl⟩ := hk2
                  obtain ⟨p, hp⟩ := fullCap hvs
                  obtain ⟨p', cap', hp', arr0, hl0, hc0, hs0, hk0⟩ := loadRow (X := X) (hvs.mono ED R.tidy)
                  rw [hp] at hp'
                  simp only [Value.slice.injEq, Option.some.injEq] at hp'
                  obtain ⟨rfl, _, rfl⟩ := hp'
                  exact newBoxCase (some p) hp ⟨arr0, by simpa [Builtin.firstCells] using hl0, hc0, hs0, hk0⟩ (by simp)
              · cases h
                have hes : es = [] := by simpa [elemsOf] using hss.symm
                subst hes
                have := newBoxCase none (hasNil hvs) ⟨#[], by simp [Builtin.firstCells], ⟨⟨rfl, fun j c v hc => by simp [flat] at hc⟩, fun c hc => by simp [flat] at hc⟩, by simp, fun d hd => by cases hd⟩ (by simp)
                simpa using this
          | false =>
          simp only at h
          cases xs with
          | nil =>
            simp only [appendD] at h
            cases h
            have harr : arr = #[] := by
              apply Array.ext'
              have : arr.toList.length = 0 := by simpa using hsx
              rw [List.length_eq_zero_iff.1 this]
            subst harr
            cases hd : ev X st sO <;> rw [hd] at hss hvs <;> first | (simp [elemsOf] at hss; done) | skip
            · obtain ⟨p, cap, hp, hcap⟩ := hasSlice' hvs
              have hr := fits (some p) _ cap hp (by simpa using hcap) w (by simp [storeCells])
              refine ⟨_, w, S, exec _ _ hr, rfl, ⟨R, Ext.refl N w S, fun _ _ => rfl, fun _ h => h⟩, ?_⟩
              rw [List.length_nil, Nat.add_zero, ← hp]; exact hvs
            · have hr := fits none 0 0 (hasNil hvs) (by simp) w (by simp)
              refine ⟨_, w, S, exec _ _ hr, rfl, ⟨R, Ext.refl N w S, fun _ _ => rfl, fun _ h => h⟩, ?_⟩
              exact .nil
            · rename_i id off len k2
              generalize hvx' : a.eval sO = vx at hvs
              cases hvs with
              | rsl _ _ _ _ b cap hk0 hl hbb =>
                have hr := fits (some ⟨b, off, none⟩) len cap hvx' (by simpa using hl.1) w (by simp [storeCells])
                exact ⟨_, w, S, exec _ _ hr, rfl, ⟨R, Ext.refl N w S, fun _ _ => rfl, fun _ h => h⟩, .rsl id off len k2 b cap hk0 hl hbb⟩
          | cons x0 xr =>
            simp only [appendD] at h
            cases hd : ev X st sO <;> rw [hd] at h hss hvs <;> first | (cases h; done) | skip
            · rename_i tg k2 es2
              have hk2 : k2 = k' ∧ es2 = es := by
                simp only [elemsOf] at hss
                by_cases hkk : k2 = k'
                · simp [hkk] at hss; exact ⟨hkk, hss⟩
                · simp [hkk] at hss
              obtain ⟨rfl, rfl⟩ := hk2
              cases tg with
              | none => cases h
              | some id1 =>
              cases id1 with
              | zero =>
                simp only [decide_true, cond_true] at h
                cases h
                obtain ⟨p, hp⟩ := fullCap hvs
                obtain ⟨p', cap', hp', arr0, hl0, hc0, hs0, hk0⟩ := loadRow (X := X) (hvs.mono ED R.tidy)
                rw [hp] at hp'
                simp only [Value.slice.injEq, Option.some.injEq] at hp'
                obtain ⟨rfl, _, rfl⟩ := hp'
                exact newRowCase (some p) hp ⟨arr0, by simpa [Builtin.firstCells] using hl0, hc0, hs0, hk0⟩ (by simp)
              | succ id =>
                simp only at h
                split at h
                · rename_i n hn
                  by_cases hb2 : n = es2.length
                  · subst hb2
                    simp at h
                    obtain ⟨rfl, rfl⟩ := h
                    obtain ⟨b, cap, vs, tt, hp, hcap, htb, hh, hsz⟩ := tokSlice R hvs hn
                    have hrow := rowPrefix (hp ▸ hvs) hh
                    by_cases hfit : es2.length + (x0 :: xr).length ≤ cap
                    · have hpl : es2.length * k2 + (x0 :: xr).length * k2 ≤ vs.size := by rw [hsz, ← Nat.add_mul]; exact Nat.mul_le_mul_right _ hfit
                      have hst := run_storeCells_at X.P b (es2.length * k2) tt arr.toList 0 vs w hh (by simp [hsx] at hpl ⊢; omega) (oneCells hcx)
                      have hr := fits (some ⟨b, 0, none⟩) es2.length cap hp hfit _ (by
                        show (storeCells ((⟨b, 0, none⟩ : Addr).add (es2.length * k2)) arr.toList).run X.P w = _
                        rw [add_none, Nat.zero_add]; exact hst)
                      simp only [Nat.add_zero] at hr
                      have hsz' : (vs.toList.take (es2.length * k2) ++ arr.toList ++ vs.toList.drop (es2.length * k2 + arr.toList.length)).toArray.size = vs.size := by
                        simp [hsx] at hpl ⊢; omega
                      have hpre : ∀ j, j < es2.length * k2 → (vs.toList.take (es2.length * k2) ++ arr.toList ++ vs.toList.drop (es2.length * k2 + arr.toList.length)).toArray[j]? = vs[j]? := fun j hj => by
                        have hjv : j < vs.size := by omega
                        rw [List.getElem?_toArray, List.append_assoc, List.getElem?_append_left (by simp; omega), List.getElem?_take_of_lt hj]; simp
                      have hmk : es2.length ≤ (es2 ++ x0 :: xr).length := by simp
                      have hfit' : (es2 ++ x0 :: xr).length * k2 ≤ (vs.toList.take (es2.length * k2) ++ arr.toList ++ vs.toList.drop (es2.length * k2 + arr.toList.length)).toArray.size := by
                        rw [hsz', List.length_append, Nat.add_mul]; exact hpl
                      have E := Ext.growIn (N := N) R htb hn hmk hh hsz' hpre
                      have R' := R.growIn htb hn hmk hh hsz' hpre hfit'
                      refine ⟨_, _, _, exec _ _ hr, by simp [Sh.growTok], ⟨R', E, fun c hc => setRow_other w b c _ (fun x => by subst x; exact R.tbMu id _ k2 htb hc), fun _ h => h⟩, ?_⟩
                      have hkk : ∀ d ∈ es2 ++ x0 :: xr, d.cells.length = k2 := fun d hd => (List.mem_append.1 hd).elim (hrow.2 d) (hkx d)
                      have := mkSlice (w := w.setRow b (vs.toList.take (es2.length * k2) ++ arr.toList ++ vs.toList.drop (es2.length * k2 + arr.toList.length)).toArray) (S := S.growTok id b k2 (es2 ++ x0 :: xr).length) (id := id) (k := k2) (b := b) (cap := cap) (es := es2 ++ x0 :: xr) k0
                        (by simp at hle ⊢; omega) (by simp at hfit ⊢; omega) hkk (setRow_heap w b _ _ _ _ hh) ?_ (R.tbMu id b k2 htb) (R.tbBb id b k2 htb) ?_ ?_ ?_ (by rw [hsz', hsz]) ⟨_, Nat.le_refl _, R.okTok id b k2 htb _⟩
                      · rw [← show (es2 ++ x0 :: xr).length = es2.length + (x0 :: xr).length from List.length_append]; exact this
                      · rw [flat_append]
                        have e1 : (vs.toList.take (es2.length * k2) ++ arr.toList ++ vs.toList.drop (es2.length * k2 + arr.toList.length)).toArray.toList.take ((es2 ++ x0 :: xr).length * k2) = vs.toList.take (es2.length * k2) ++ arr.toList := by
                          have hl1 : (vs.toList.take (es2.length * k2) ++ arr.toList).length = (es2 ++ x0 :: xr).length * k2 := by
                            have l1 : (vs.toList.take (es2.length * k2)).length = es2.length * k2 := List.length_take_of_le (by rw [Array.length_toList]; exact Nat.le_trans (Nat.le_add_right _ _) hpl)
                            have l2 : arr.toList.length = (x0 :: xr).length * k2 := by rw [Array.length_toList]; exact hsx
                            rw [List.length_append, l1, l2, List.length_append, Nat.add_mul]
                          show List.take _ (_ ++ _) = _
                          rw [← hl1, List.take_left']
                          rfl
                        rw [e1]
                        exact (hasC_append hrow.1 hcx).mono E R.tidy
                      · simp only [Sh.growTok]; rw [List.getElem?_set_self (lt_of_get htb)]
                      · simp only [Sh.growTok]; rw [List.getElem?_set_self (lt_of_get hn)]
                      · intro j k3 h3
                        simp only [Sh.growTok] at h3
                        by_cases ej : id = j
                        · exact ej.symm
                        · rw [List.getElem?_set_ne ej] at h3
                          exact R.tbInj j id b k3 k2 h3 htb
                    · have hvs1 := hvs.mono ED R.tidy
                      rw [hp] at hvs1
                      obtain ⟨p', cap', hp', arr0, hl0, hc0, hs0, hk0⟩ := loadRow (X := X) hvs1
                      simp only [Value.slice.injEq, Option.some.injEq] at hp'
                      obtain ⟨rfl, _, rfl⟩ := hp'
                      have hold : (Builtin.firstCells k2 es2.length (.slice (some ⟨b, 0, none⟩) es2.length cap)).run X.P w.drew = .ok arr0 w.drew := by simpa [Builtin.firstCells] using hl0
                      obtain ⟨cap2, vs2, hr, hcap2, hsz2, htk⟩ := append_grow hs hu hk hb hold hln hfx1 hs0 hsx1 hle (by omega) hzv hzk ty
                      rw [← hp] at hr
                      have hmk : es2.length < (es2 ++ x0 :: xr).length := by simp
                      have hfit2 : (es2 ++ x0 :: xr).length * k2 ≤ vs2.size := by rw [hsz2, List.length_append]; exact Nat.mul_le_mul_right _ hcap2
                      have E := Ext.growNew (N := N) RD htb hn hmk (.cells vs2 e (0, 0))
                      have R' := RD.growNew htb hn hmk e hfit2
                      refine ⟨_, _, _, exec _ _ hr, by simp [Sh.growTok], ⟨R', ED.trans R.tidy E, fun c hc => alloc_old w.drew _ (R.mu c hc), fun _ h => h⟩, ?_⟩
                      have hkk : ∀ d ∈ es2 ++ x0 :: xr, d.cells.length = k2 := fun d hd => (List.mem_append.1 hd).elim (hrow.2 d) (hkx d)
                      have hsize : w.drew.heap.size = w.heap.size := rfl
                      have := mkSlice (w := w.drew.alloc (.cells vs2 e (0, 0))) (S := S.growTok id w.heap.size k2 (es2 ++ x0 :: xr).length) (id := id) (k := k2) (b := w.heap.size) (cap := cap2) (es := es2 ++ x0 :: xr) k0
                        (by simp at hle ⊢; omega) (by rw [List.length_append]; exact hcap2) hkk (alloc_new w.drew _) ?_ (fun h => by have := R.mu _ h; omega) (fun h => by have := R.bbLt _ h; omega) ?_ ?_ ?_ hsz2 ⟨_, Nat.le_refl _, R.okNew _ _ (Nat.le_refl _)⟩
                      · rw [← show (es2 ++ x0 :: xr).length = es2.length + (x0 :: xr).length from List.length_append]; exact this
                      · rw [flat_append, show (es2 ++ x0 :: xr).length * k2 = (es2.length + (x0 :: xr).length) * k2 by rw [List.length_append], htk]
                        exact (hasC_append hc0 hcx1).mono E RD.tidy
                      · simp only [Sh.growTok]; rw [List.getElem?_set_self (lt_of_get htb)]
                      · simp only [Sh.growTok]; rw [List.getElem?_set_self (lt_of_get hn)]
                      · intro j k3 h3
                        simp only [Sh.growTok] at h3
                        by_cases ej : id = j
                        · exact ej.symm
                        · rw [List.getElem?_set_ne ej] at h3
                          have := R.tbLt j _ k3 h3; omega
                  · simp [hb2] at h
                · cases h
            · cases h
              have hes : es = [] := by simpa [elemsOf] using hss.symm
              subst hes
              have := newRowCase none (hasNil hvs) ⟨#[], by simp [Builtin.firstCells], ⟨⟨rfl, fun j c v hc => by simp [flat] at hc⟩, fun c hc => by simp [flat] at hc⟩, by simp, fun d hd => by cases hd⟩ (by simp)
              simpa using this
      · cases h
    · cases h
  · cases h
end
end Go.Eng
