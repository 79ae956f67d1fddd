/- Part of the engine that proves it: see the last text. -/
import Derived.Test.YtcfmjomniaopcaaDoorEngO2
/- All the operations that change no memory. -/
namespace Go.Eng
open Go
section
variable {X : Ctx} {B N : Nat} {w : World} {S : Sh} {st : St} {lb : Nat → Nat} {a : Act}

theorem run_mapM_list {P : Program} {α β : Type} (f : α → Sem β) (g : α → β) (w : World) : ∀ l : List α, (∀ x ∈ l, (f x).run P w = .ok (g x) w) → (l.mapM f).run P w = .ok (l.map g) w
  | [], _ => by simp
  | x :: r, h => by
    have h0 := h x (List.mem_cons_self ..)
    have ih := run_mapM_list f g w r (fun y hy => h y (List.mem_cons_of_mem _ hy))
    simp [List.mapM_cons, h0, ih]

theorem run_zeroValue {P : Program} {t : Nat} {v : Value} (h : (P.info? t).bind (·.zero) = some v) (w : World) : (zeroValue t).run P w = .ok v w := by
  unfold zeroValue typeInfo
  cases hi : P.info? t with
  | none => rw [hi] at h; cases h
  | some i =>
    rw [hi] at h
    have hz : i.zero = some v := h
    simp [hi, hz]

theorem zeroD_spec {P : Program} {t : Nat} {z : D} (h : zeroD P t = some z) : ∃ v, (P.info? t).bind (·.zero) = some v ∧ constD v = some z := by
  unfold zeroD at h
  cases hz : (P.info? t).bind (·.zero) with
  | none => rw [hz] at h; cases h
  | some v => rw [hz] at h; exact ⟨v, rfl, h⟩

theorem parts_ok (R : RelG X B w S) (A : RelA N w S st lb a) : ∀ (l : List (Nat × Operand)) (j i : Nat) (d : D) (i' : Nat) (v : Value), (partsD X st l)[j]? = some (i, d) →
    (l.map fun (i, x) => (i, a.eval x))[j]? = some (i', v) → i = i' ∧ HasV w S d v
  | [], j, i, d, i', v, h, _ => by simp [partsD] at h
  | (n, x) :: r, 0, i, d, i', v, h, h' => by
    simp [partsD] at h h'
    obtain ⟨rfl, rfl⟩ := h; obtain ⟨rfl, rfl⟩ := h'
    exact ⟨rfl, ev_ok R A x⟩
  | (n, x) :: r, j + 1, i, d, i', v, h, h' => by
    simp [partsD] at h h'
    exact parts_ok R A r j i d i' v h (by simpa using h')

theorem partsD_length (l : List (Nat × Operand)) : (partsD X st l).length = l.length := by
  induction l with
  | nil => rfl
  | cons x r ih => obtain ⟨i, x⟩ := x; simp [partsD, ih]

theorem build_ok (R : RelG X B w S) (A : RelA N w S st lb a) {t : Nat} {parts : Array (Nat × Operand)} {z out : List D} (hs : isStruct X.P t = true) (hz : zeroD X.P t = some (.agg z))
    (hf : fillS X.P t z (partsD X st parts.toList) = some out) :
    ∃ us : Array Value, (Instr.build t (parts.map fun (i, x) => (i, a.eval x))).run X.P w = .ok (.agg us) w ∧ HasC w S out us.toList := by
  obtain ⟨zv, hzv, hc⟩ := zeroD_spec hz
  have hzc := constD_ok (w := w) (S := S) hc
  obtain ⟨zs, rfl, hzs⟩ := hasAgg hzc
  unfold isStruct at hs
  split at hs
  · rename_i fs hu
    have hall := List.all_eq_true.1 hs
    have hm : (fs.mapM fun f => (do pure (f.offset, ← sizeOf f.type) : Sem (Nat × Nat))).run X.P w = .ok (fs.map fun f => (f.offset, (szOf X.P f.type).getD 0)) w := by
      rw [Array.mapM_eq_mapM_toList]
      have := run_mapM_list (P := X.P) (fun f : Field => (do pure (f.offset, ← sizeOf f.type) : Sem (Nat × Nat))) (fun f => (f.offset, (szOf X.P f.type).getD 0)) w fs.toList (fun f hf => by
        have h1 := hall f hf
        cases h2 : szOf X.P f.type with
        | none => rw [h2] at h1; cases h1
        | some n => simp [run_sizeOf h2])
      simp only [Sem.run_map, this, Result.andThen_ok]
      congr 1
      apply Array.ext'; simp
    obtain ⟨us, h1, h2⟩ := run_fill (w := w) (S := S) hu (fs.map fun f => (f.offset, (szOf X.P f.type).getD 0)) (fun i f n hf hn => by simp [hf, hn]) (partsD X st parts.toList)
      (parts.toList.map fun (i, x) => (i, a.eval x)) z zs out (by rw [partsD_length]; simp) (parts_ok R A parts.toList) hzs hf
    refine ⟨us, ?_, h2⟩
    unfold Instr.build
    simp only [Sem.run_bind, run_zeroValue hzv, Result.andThen_ok, run_underlying_of hu, hm, Value.cells]
    have e : (parts.map fun (i, x) => (i, a.eval x)).toList = parts.toList.map fun (i, x) => (i, a.eval x) := by simp
    rw [e, h1]
    rfl
  · cases hs

theorem run_fillC {k : Nat} : ∀ (parts : List (Nat × D)) (vparts : List (Nat × Value)) (cs : List D) (vs : Array Value) (out : List D),
      parts.length = vparts.length → (∀ (j i : Nat) (d : D) (i' : Nat) (v : Value), parts[j]? = some (i, d) → vparts[j]? = some (i', v) → i = i' ∧ HasV w S d v) → HasC w S cs vs.toList →
      fillC k cs parts = some out → ∃ us : Array Value, Instr.fill (fun i => some (i * k, k)) vs vparts = some us ∧ HasC w S out us.toList
  | [], [], cs, vs, out, _, _, hc, h => by cases h; exact ⟨vs, rfl, hc⟩
  | [], _ :: _, _, _, _, hl, _, _, _ => by simp at hl
  | _ :: _, [], _, _, _, hl, _, _, _ => by simp at hl
  | (i, d) :: r, (i', v) :: vr, cs, vs, out, hl, hv, hc, h => by
    obtain ⟨rfl, h0⟩ := hv 0 i d i' v rfl rfl
    unfold fillC at h
    cases hb : (d.okC && decide (d.cells.length = k) && decide (i * k + k ≤ cs.length)) with
    | false => rw [hb] at h; cases h
    | true =>
      rw [hb] at h
      simp only [cond_true] at h
      simp only [Bool.and_eq_true, decide_eq_true_eq] at hb
      obtain ⟨⟨h1, h2⟩, h3⟩ := hb
      have hcv := okC_cells h0 h1
      have hsz : v.cells.size = k := by have := hcv.len; simp at this; omega
      have hlen : vs.size = cs.length := by have := hc.len; simp at this; omega
      have step : HasC w S (setRow cs (i * k) d.cells) (v.cells.zipIdx.foldl (fun cs (c, j) => cs.setIfInBounds (i * k + j) c) vs).toList := by
        have := hasC_setRow (off := i * k) d.cells v.cells.toList 0 cs vs hc hcv
        rw [Nat.add_zero] at this
        rw [← Array.foldl_toList, Array.toList_zipIdx]
        exact this
      obtain ⟨us, hus, hcu⟩ := run_fillC r vr _ _ out (by simpa using hl) (fun j i d i' v hj hj' => hv (j + 1) i d i' v (by simpa using hj) (by simpa using hj')) step h
      refine ⟨us, ?_, hcu⟩
      simp only [Instr.fill]
      rw [if_neg (by rw [hsz, hlen]; simp; omega)]
      exact hus

theorem buildA_ok (R : RelG X B w S) (A : RelA N w S st lb a) {t n e k : Nat} {parts : Array (Nat × Operand)} {z out : List D} (hs : arrElem X.P t = some (n, e)) (hk : szOf X.P e = some k) (hz : zeroD X.P t = some (.agg z))
    (hf : fillC k z (partsD X st parts.toList) = some out) :
    ∃ us : Array Value, (Instr.build t (parts.map fun (i, x) => (i, a.eval x))).run X.P w = .ok (.agg us) w ∧ HasC w S out us.toList := by
  obtain ⟨zv, hzv, hc⟩ := zeroD_spec hz
  have hzc := constD_ok (w := w) (S := S) hc
  obtain ⟨zs, rfl, hzs⟩ := hasAgg hzc
  obtain ⟨us, h1, h2⟩ := run_fillC (w := w) (S := S) (k := k) (partsD X st parts.toList) (parts.toList.map fun (i, x) => (i, a.eval x)) z zs out (by rw [partsD_length]; simp) (parts_ok R A parts.toList) hzs hf
  refine ⟨us, ?_, h2⟩
  unfold Instr.build
  have e1 : (parts.map fun (i, x) => (i, a.eval x)).toList = parts.toList.map fun (i, x) => (i, a.eval x) := by simp
  simp only [Sem.run_bind, run_zeroValue hzv, Result.andThen_ok, run_underlying_of (arrElem_eq hs), run_sizeOf hk, Value.cells, e1, h1]
  rfl

theorem hasTuple {ds : List D} {v : Value} (h : HasV w S (.tuple ds) v) : ∃ vs : Array Value, v = .tuple vs ∧ ds.length = vs.size ∧ ∀ (j : Nat) (c : D) (u : Value), ds[j]? = some c → vs[j]? = some u → HasV w S c u := by
  cases h with
  | tuple _ vs hl hv => exact ⟨vs, rfl, hl, hv⟩

theorem Vis.le {b n n' : Nat} (h : Vis w S b n) (hn : n' ≤ n) : Vis w S b n' := ⟨h.lt, h.mu, h.bb, fun id k mk h1 h2 => Nat.le_trans hn (h.tb id k mk h1 h2), let ⟨m, h1, h2⟩ := h.ok; ⟨m, Nat.le_trans hn h1, h2⟩⟩

theorem mem_of_getElem? {α : Type} {l : List α} {i : Nat} {x : α} (h : l[i]? = some x) : x ∈ l := List.mem_of_getElem? h

theorem index_ok {t : Option Nat} {k : Nat} {es : List D} {v : Value} (h : HasV w S (.slice t k es) v) {i : Nat} {d : D} (hi : es[i]? = some d) :
    ∃ b off cap, v = .slice (some ⟨b, off, none⟩) es.length cap ∧ HasV w S (.ref d.cells 0) (.pointer (some ⟨b, off + i * k, none⟩)) := by
  cases h with
  | slice0 _ _ p cap _ => simp at hi
  | slice _ _ _ b off cap vals hk hcap hbig hsz hcl hvis htag hcell hv =>
    have hlt : i < es.length := by
      rcases Nat.lt_or_ge i es.length with h | h
      · exact h
      · rw [List.getElem?_eq_none h] at hi; cases hi
    have hd := mem_of_getElem? hi
    have hdk := hsz d hd
    refine ⟨b, off, cap, rfl, .ref d.cells 0 b (off + i * k) (fun j => vals (i * k + j)) (fun c hc => hcl c (mem_flat hd hc)) (hvis.le ?_) (fun j c hj => ?_) (fun j c hj => ?_)⟩
    · rw [hdk, Nat.add_assoc, ← Nat.succ_mul]
      exact Nat.add_le_add_left (Nat.mul_le_mul_right _ hlt) _
    · rw [Nat.add_assoc]; exact hcell _ c (flat_at hsz hi j c hj)
    · exact hv _ c (flat_at hsz hi j c hj)

theorem flat_append (a b : List D) : flat (a ++ b) = flat a ++ flat b := by
  induction a with
  | nil => rfl
  | cons x r ih => simp [flat, ih]

theorem flat_take_drop {k : Nat} (es : List D) (hk : ∀ d ∈ es, d.cells.length = k) (l h : Nat) (hl : l ≤ h) (hh : h ≤ es.length) (j : Nat) (c : D) (hj : (flat ((es.take h).drop l))[j]? = some c) : (flat es)[l * k + j]? = some c := by
  have e1 : es = es.take h ++ es.drop h := (List.take_append_drop h es).symm
  have e2 : es.take h = (es.take h).take l ++ (es.take h).drop l := (List.take_append_drop l _).symm
  have hf : flat es = flat ((es.take h).take l) ++ (flat ((es.take h).drop l) ++ flat (es.drop h)) := by
    rw [← flat_append, ← flat_append, ← List.append_assoc, ← e2, ← e1]
  have hlen : (flat ((es.take h).take l)).length = l * k := by
    rw [flat_length _ (fun d hd => hk d (List.mem_of_mem_take (List.mem_of_mem_take hd)))]
    rw [List.length_take, List.length_take]; congr 1; omega
  have hjl : j < (flat ((es.take h).drop l)).length := by
    rcases Nat.lt_or_ge j (flat ((es.take h).drop l)).length with h | h
    · exact h
    · rw [List.getElem?_eq_none h] at hj; cases hj
  rw [hf, List.getElem?_append_right (by omega), hlen, Nat.add_sub_cancel_left, List.getElem?_append_left hjl]
  exact hj

theorem sliceBounds_run {P : Program} (isSlice : Bool) (len cap : Nat) (lo hi : Option Value) (l h : Nat) (hlo : (lo = none ∧ l = 0) ∨ ∃ k, lo = some (.int k l)) (hhi : (hi = none ∧ h = len) ∨ ∃ k, hi = some (.int k h)) (h1 : l ≤ h) (h2 : h ≤ cap) :
    (Instr.sliceBounds isSlice len cap lo hi none).run P w = .ok (l, h, cap) w := by
  unfold Instr.sliceBounds
  rcases hhi with ⟨rfl, rfl⟩ | ⟨kh, rfl⟩ <;> rcases hlo with ⟨rfl, rfl⟩ | ⟨kl, rfl⟩ <;>
    simp [Instr.sliceBound, asIntOf, h1, h2]

theorem optI_spec (R : RelG X B w S) (A : RelA N w S st lb a) {z l : Int} {o : Option Operand} (h : optI X st (some z) o = some l) : (o.map a.eval = none ∧ l = z) ∨ ∃ k, o.map a.eval = some (.int k l) := by
  unfold optI at h
  split at h
  · rename_i x
    split at h
    · rename_i k n hx
      cases h
      have := ev_ok R A x
      rw [hx] at this
      exact .inr ⟨k, by simp [hasInt this]⟩
    · cases h
  · cases h; exact .inl ⟨rfl, rfl⟩

theorem toNat_of {z : Int} (h : 0 ≤ z) : ∃ n : Nat, z = n := ⟨z.toNat, by omega⟩

theorem slice_ok {tg : Option Nat} {k : Nat} {es : List D} {v : Value} (hv : HasV w S (.slice tg k es) v) {t e : Nat} (ht : sliceElem X.P t = some e) (hk : szOf X.P e = some k) {lo hi : Option Value} {l h : Nat}
    (hlo : (lo = none ∧ l = 0) ∨ ∃ k, lo = some (.int k l)) (hhi : (hi = none ∧ h = es.length) ∨ ∃ k, hi = some (.int k h)) (h1 : l ≤ h) (h2 : h ≤ es.length) :
    ∃ u, (Instr.sliceAt t v lo hi none).run X.P w = .ok u w ∧ HasV w S (.slice none k ((es.take h).drop l)) u := by
  have hu := sliceElem_eq ht
  have hlen : ((es.take h).drop l).length = h - l := by simp; omega
  cases hv with
  | slice0 _ _ p cap _ =>
    have e1 : h = 0 := by simpa using h2
    subst e1
    have e2 : l = 0 := by omega
    subst e2
    refine ⟨.slice (some p) 0 cap, ?_, .slice0 none k p cap (.inl rfl)⟩
    unfold Instr.sliceAt Instr.slice
    have hb := sliceBounds_run (w := w) (P := X.P) true 0 cap lo hi 0 0 hlo (by simpa using hhi) (Nat.le_refl _) (Nat.zero_le _)
    simp only [List.length_nil] at hhi ⊢
    simp only [Sem.run_bind, run_underlying_of hu, Result.andThen_ok, hb, run_sizeOf hk]
    by_cases hc : cap = 0
    · subst hc; simp
    · simp [hc, Addr.add]
  | slice _ _ _ b off cap vals hk0 hcap hbig hsz hcl hvis htag hcell hvv =>
    have hb := sliceBounds_run (w := w) (P := X.P) true es.length cap lo hi l h hlo hhi h1 (by omega)
    refine ⟨.slice (if cap = l then some ⟨b, off, none⟩ else some ⟨b, off + l * k, none⟩) (h - l) (cap - l), ?_, ?_⟩
    · unfold Instr.sliceAt Instr.slice
      simp only [Sem.run_bind, run_underlying_of hu, Result.andThen_ok, hb, run_sizeOf hk, Sem.run_pure, Option.map_some, add_none]
    · by_cases hz : h = l
      · subst hz
        have : (es.take h).drop h = [] := by apply List.drop_eq_nil_of_le; simp; omega
        rw [this]
        by_cases hc : cap = h
        · simp [hc]; exact .slice0 none _ _ _ (.inl rfl)
        · simp [hc]; exact .slice0 none _ _ _ (.inl rfl)
      · have hc : cap ≠ l := by omega
        rw [if_neg hc]
        have hm : ∀ d ∈ (es.take h).drop l, d ∈ es := fun d hd => List.mem_of_mem_take (List.mem_of_mem_drop hd)
        have hflat : ∀ c ∈ flat ((es.take h).drop l), c.isCell = true := fun c hc => by
          obtain ⟨j, hj⟩ := List.getElem?_of_mem hc
          exact hcl c (mem_of_getElem? (flat_take_drop es hsz l h h1 h2 j c hj))
        have := HasV.slice (w := w) (S := S) none k ((es.take h).drop l) b (off + l * k) (cap - l) (fun j => vals (l * k + j)) hk0 (by rw [hlen]; omega) (by rw [hlen]; omega)
          (fun d hd => hsz d (hm d hd)) hflat (hvis.le (by rw [hlen, Nat.add_assoc, ← Nat.add_mul]; exact Nat.add_le_add_left (Nat.mul_le_mul_right _ (by omega)) _)) trivial
          (fun j c hj => by rw [Nat.add_assoc]; exact hcell _ c (flat_take_drop es hsz l h h1 h2 j c hj)) (fun j c hj => hvv _ c (flat_take_drop es hsz l h h1 h2 j c hj))
        rw [hlen] at this
        exact this
end
end Go.Eng
