/- Part of the engine that proves it: see the last text. -/
import Derived.Test.YtcfmjomniaopcaaDoorEngF
set_option linter.unusedSimpArgs false
set_option linter.unusedVariables false
/- Functions on their own: their arguments are handed on without rights, boxes and tokens are hidden from them; what they return is without rights. -/
namespace Go.Eng
open Go

section
variable {f : Nat → Nat → Nat → Nat → D}
theorem stripFL_length : ∀ (l : List D), (stripFL f l).length = l.length
  | [] => rfl
  | d :: r => by simp [stripFL, stripFL_length r]
theorem stripFL_get : ∀ (l : List D) (j : Nat) (c : D), (stripFL f l)[j]? = some c → ∃ d, l[j]? = some d ∧ c = stripF f d
  | [], j, c, h => by simp [stripFL] at h
  | d :: r, 0, c, h => by simp [stripFL] at h; exact ⟨d, rfl, h.symm⟩
  | d :: r, j + 1, c, h => by
    simp only [stripFL, List.getElem?_cons_succ] at h
    exact stripFL_get r j c h
theorem stripFL_append : ∀ (a b : List D), stripFL f (a ++ b) = stripFL f a ++ stripFL f b
  | [], b => rfl
  | d :: r, b => by simp [stripFL, stripFL_append r b]
theorem stripF_isCell (hf : ∀ a b c d, (f a b c d).isCell = true) {d : D} (h : d.isCell = true) : (stripF f d).isCell = true := by
  cases d <;> first | rfl | (cases h; done) | exact hf _ _ _ _
theorem stripFL_isCell (hf : ∀ a b c d, (f a b c d).isCell = true) : ∀ (l : List D), (∀ c ∈ l, c.isCell = true) → ∀ c ∈ stripFL f l, c.isCell = true
  | [], _, c, h => by simp [stripFL] at h
  | d :: r, hl, c, h => by
    simp only [stripFL, List.mem_cons] at h
    rcases h with rfl | h
    · exact stripF_isCell hf (hl d (List.mem_cons_self ..))
    · exact stripFL_isCell hf r (fun c hc => hl c (List.mem_cons_of_mem _ hc)) c h
theorem stripF_cells (hf : ∀ a b c d, (f a b c d).isCell = true) (d : D) : (stripF f d).cells = stripFL f d.cells := by
  cases d <;> first | rfl | skip
  rename_i a b c d
  have := hf a b c d
  show (f a b c d).cells = [f a b c d]
  generalize f a b c d = x at this
  cases x <;> first | rfl | cases this
theorem flat_stripFL (hf : ∀ a b c d, (f a b c d).isCell = true) : ∀ (es : List D), flat (stripFL f es) = stripFL f (flat es)
  | [] => rfl
  | d :: r => by simp only [stripFL, flat, stripF_cells hf, stripFL_append, flat_stripFL hf r]
theorem stripFL_cellsLen (hf : ∀ a b c d, (f a b c d).isCell = true) {k : Nat} : ∀ (es : List D), (∀ d ∈ es, d.cells.length = k) → ∀ d ∈ stripFL f es, d.cells.length = k
  | [], _, d, h => by simp [stripFL] at h
  | e :: r, hl, d, h => by
    simp only [stripFL, List.mem_cons] at h
    rcases h with rfl | h
    · rw [stripF_cells hf, stripFL_length]; exact hl e (List.mem_cons_self ..)
    · exact stripFL_cellsLen hf r (fun c hc => hl c (List.mem_cons_of_mem _ hc)) d h
end
theorem noR_isCell (a b c d : Nat) : (noR a b c d).isCell = true := rfl
theorem frzM_isCell (m : Mem) : ∀ (n a b c d : Nat), (frzM m n a b c d).isCell = true
  | 0, _, _, _, _ => rfl
  | n + 1, a, b, c, d => by
    simp only [frzM]
    split
    · rename_i cs _
      cases decide (b + c * d ≤ cs.length) <;> rfl
    · rfl
theorem stripL_length (l : List D) : (stripL l).length = l.length := stripFL_length l

mutual
theorem strip_idem : ∀ (d : D), strip (strip d) = strip d
  | .slice _ k es => by have := stripL_idem es; simp only [strip, stripL] at this; simp only [strip, stripF, this]
  | .rsl _ _ _ _ => rfl
  | .ptr _ _ => rfl
  | .ref cs o => by have := stripL_idem cs; simp only [strip, stripL] at this; simp only [strip, stripF, this]
  | .func f cs => by have := stripL_idem cs; simp only [strip, stripL] at this; simp only [strip, stripF, this]
  | .agg cs => by have := stripL_idem cs; simp only [strip, stripL] at this; simp only [strip, stripF, this]
  | .tuple cs => by have := stripL_idem cs; simp only [strip, stripL] at this; simp only [strip, stripF, this]
  | .int _ _ => rfl
  | .bool _ => rfl
  | .str _ => rfl
  | .nil => rfl
  | .opq => rfl
  | .nilptr => rfl
  | .nilfunc => rfl
  | .undef => rfl
theorem stripL_idem : ∀ (l : List D), stripL (stripL l) = stripL l
  | [] => rfl
  | d :: r => by
    have h1 := strip_idem d
    have h2 := stripL_idem r
    simp only [strip, stripL] at h1 h2
    simp only [stripL, stripFL, h1, h2]
end

section
variable {X : Ctx} {B N : Nat} {w w' : World} {S S' : Sh}

/-- Where all that is seen is seen too, a value without rights stands for the same. -/
theorem strip_to {f : Nat → Nat → Nat → Nat → D} (hf : ∀ a b c d, (f a b c d).isCell = true) (hV : ∀ b n, Vis w S b n → Vis w S' b n)
    (hR : ∀ (id off len k : Nat) (v : Value), HasV w S (.rsl id off len k) v → HasV w S' (f id off len k) v) {d : D} {v : Value} (h : HasV w S d v) : HasV w S' (stripF f d) v := by
  induction h with
  | int k n => exact .int k n
  | bool b => exact .bool b
  | str s => exact .str s
  | nil => exact .nil
  | opq v h => exact .opq v h
  | rsl id off len k b cap hk hl hb => exact hR id off len k _ (.rsl id off len k b cap hk hl hb)
  | slice0 t k a c h => exact .slice0 none k a c (.inl rfl)
  | slice tag k es b off cap vals hk hcap hbig hsz hcl hvis htag hcell hv ih =>
    rw [← stripFL_length (f := f) es]
    refine .slice none k (stripFL f es) b off cap vals hk (by rw [stripFL_length]; exact hcap) (by rw [stripFL_length]; exact hbig) (stripFL_cellsLen hf es hsz) (by rw [flat_stripFL hf]; exact stripFL_isCell hf _ hcl)
      (by rw [stripFL_length]; exact hV _ _ hvis) trivial (fun j c hj => ?_) (fun j c hj => ?_)
    · rw [flat_stripFL hf] at hj
      obtain ⟨d, hd, _⟩ := stripFL_get _ _ _ hj
      exact hcell j d hd
    · rw [flat_stripFL hf] at hj
      obtain ⟨d, hd, rfl⟩ := stripFL_get _ _ _ hj
      exact ih j d hd
  | ptr id off b hb => exact .opq _ rfl
  | nilptr => exact .nilptr
  | ref cs o b base vals hcl hvis hcell hv ih =>
    refine .ref (stripFL f cs) o b base vals (stripFL_isCell hf _ hcl) (by rw [stripFL_length]; exact hV _ _ hvis) (fun j c hj => ?_) (fun j c hj => ?_)
    · obtain ⟨d, hd, _⟩ := stripFL_get _ _ _ hj
      exact hcell j d hd
    · obtain ⟨d, hd, rfl⟩ := stripFL_get _ _ _ hj
      exact ih j d hd
  | func g cap vs hl hv ih =>
    refine .func g (stripFL f cap) vs (by rw [stripFL_length]; exact hl) (fun j c v hj hv => ?_)
    obtain ⟨d, hd, rfl⟩ := stripFL_get _ _ _ hj
    exact ih j d v hd hv
  | nilfunc => exact .nilfunc
  | agg cs vs hl hcl hv ih =>
    refine .agg (stripFL f cs) vs (by rw [stripFL_length]; exact hl) (stripFL_isCell hf _ hcl) (fun j c v hj hv => ?_)
    obtain ⟨d, hd, rfl⟩ := stripFL_get _ _ _ hj
    exact ih j d v hd hv
  | tuple ds vs hl hv ih =>
    refine .tuple (stripFL f ds) vs (by rw [stripFL_length]; exact hl) (fun j c v hj hv => ?_)
    obtain ⟨d, hd, rfl⟩ := stripFL_get _ _ _ hj
    exact ih j d v hd hv
  | undef v => exact .undef v

theorem noR_to (id off len k : Nat) (v : Value) (h : HasV w S (.rsl id off len k) v) : HasV w S' (noR id off len k) v := by
  cases h with
  | rsl => exact .opq _ rfl

theorem strip_toL (hV : ∀ b n, Vis w S b n → Vis w S' b n) {ds : List D} {vs : List Value} (h : HasL w S ds vs) : HasL w S' (stripL ds) vs :=
  ⟨by rw [stripL_length]; exact h.len, fun j c v hj hv => by
    obtain ⟨d, hd, rfl⟩ := stripFL_get _ _ _ hj
    exact strip_to noR_isCell hV noR_to (h.at_ j d v hd hv)⟩

/-- Where the blocks of boxes are seen too, slices over boxes stand for what the boxes hold. -/
theorem frzM_to (R : RelG X B w S) (hV : ∀ b n, Vis w S b n → Vis w S' b n) (hB : ∀ b n, b ∈ S.bb → Vis w S' b n) :
    ∀ (n id off len k : Nat) (v : Value), HasV w S (.rsl id off len k) v → HasV w S' (frzM S.m n id off len k) v
  | 0, _, _, _, _, _, h => noR_to _ _ _ _ _ h
  | n + 1, id, off, len, k, v, h => by
    have ih := frzM_to R hV hB n
    have hf := frzM_isCell S.m n
    cases h with
    | rsl _ _ _ _ b cap hk hl hb =>
      simp only [frzM]
      split
      · rename_i cs hcs
        by_cases hfit : off + len * k ≤ cs.length
        · simp only [hfit, decide_true, cond_true]
          obtain ⟨vs, t, fr, hh, _, hsz, hc⟩ := R.boxes id b cs hb hcs
          have L := lies_of_pre hh hsz hc
          have hok0 : ∀ c ∈ cs.drop off, c.isCell = true := fun c hc => L.ok c (List.mem_of_mem_drop hc)
          have hok := stripFL_isCell hf (cs.drop off) hok0
          have hln : len * k ≤ (stripFL (frzM S.m n) (cs.drop off)).length := by rw [stripFL_length, List.length_drop]; omega
          have hcl := chunks_length k len (stripFL (frzM S.m n) (cs.drop off))
          have key : ∀ (j : Nat) (c : D), (flat (chunks k len (stripFL (frzM S.m n) (cs.drop off))))[j]? = some c → j < len * k ∧ ∃ d, cs[off + j]? = some d ∧ c = stripF (frzM S.m n) d := fun j c hj => by
            rw [flat_chunks k len _ hk hok hln] at hj
            have hjl : j < len * k := by
              have := lt_of_get hj
              simp at this; omega
            rw [List.getElem?_take_of_lt hjl] at hj
            obtain ⟨d, hd, hc⟩ := stripFL_get _ _ _ hj
            rw [List.getElem?_drop] at hd
            exact ⟨hjl, d, hd, hc⟩
          suffices hfin : HasV w S' (.slice none k (chunks k len (stripFL (frzM S.m n) (cs.drop off)))) (.slice (some ⟨b, off, none⟩) (chunks k len (stripFL (frzM S.m n) (cs.drop off))).length cap) by
            rw [hcl] at hfin; exact hfin
          refine .slice none k _ b off cap (fun j => vs.getD (off + j) undef) hk (by rw [hcl]; exact hl.1) (by rw [hcl]; exact hl.2) (chunks_cells k len _ hk hok hln) (fun c hc => ?_) (hB _ _ (List.mem_of_getElem? hb)) trivial (fun j c hj => ?_) (fun j c hj => ?_)
          · rw [flat_chunks k len _ hk hok hln] at hc
            exact hok c (List.mem_of_mem_take hc)
          · obtain ⟨hjl, _⟩ := key j c hj
            rw [cell_of_row w b _ vs t fr hh]
            have : off + j < vs.size := by omega
            simp [Array.getD, this]
          · obtain ⟨hjl, d, hd, rfl⟩ := key j c hj
            refine strip_to hf hV ih (hc.at_ (off + j) d _ hd ?_)
            rw [List.getElem?_take_of_lt (by omega)]
            have : off + j < vs.size := by omega
            simp [Array.getD, this]
        · simp only [hfit, decide_false, cond_false]
          exact .opq _ rfl
      · exact .opq _ rfl

/-- Boxes and tokens are hidden. -/
def hide (w : World) (S : Sh) : Sh := {
  mu := S.mu
  bb := []
  tb := []
  m := ⟨[], []⟩
  ok := fun b n => w.heap.size ≤ b ∨ ((∃ n', n ≤ n' ∧ S.ok b n') ∧ b ∉ S.bb ∧ ∀ id k mk : Nat, S.tb[id]? = some (b, k) → S.m.toks[id]? = some mk → n ≤ mk * k) }

theorem hide_vis (b n : Nat) (h : Vis w S b n) : Vis w (hide w S) b n where
  lt := h.lt
  mu := h.mu
  bb := by simp [hide]
  tb := fun id k mk h => by simp [hide] at h
  ok := ⟨n, Nat.le_refl _, .inr ⟨h.ok, h.bb, h.tb⟩⟩

/-- The variables of packages hold values without rights. -/
def PlainG (X : Ctx) : Prop := ∀ g cs, X.G g = some cs → stripL cs = cs

theorem hide_rel (hG : PlainG X) (R : RelG X B w S) : RelG X B w (hide w S) where
  bbLen := rfl
  tbLen := rfl
  mu := R.mu
  bbLt := fun b h => by simp [hide] at h
  tbLt := fun id b k h => by simp [hide] at h
  tbInj := fun id id' b k k' h => by simp [hide] at h
  tbBb := fun id b k h => by simp [hide] at h
  tbMu := fun id b k h => by simp [hide] at h
  bbMu := fun b h => by simp [hide] at h
  okNew := fun b n h => .inl h
  okTok := fun id b k h => by simp [hide] at h
  base := R.base
  bbGe := fun b h => by simp [hide] at h
  tbGe := fun id b k h => by simp [hide] at h
  bbInj := fun id id' b h => by simp [hide] at h
  boxes := fun id b cs h => by simp [hide] at h
  toks := fun id b k mk h => by simp [hide] at h
  glob := fun g cs h => by
    have := strip_to (S' := hide w S) noR_isCell hide_vis noR_to (R.glob g cs h)
    simp only [stripF] at this
    have e : stripFL noR cs = cs := hG g cs h
    rw [e] at this
    exact this

/-- What lay hidden, behind the call. -/
def unhide (S S' : Sh) : Sh := { mu := S'.mu, bb := S.bb, tb := S.tb, m := S.m, ok := S.ok }

theorem unhide_ext (R : RelG X B w S) (E : Ext w.heap.size w (hide w S) w' S') : Ext w.heap.size w S w' (unhide S S') where
  os := E.os
  tape := E.tape
  output := E.output
  ok := rfl
  size := E.size
  mu := E.mu
  muNew := E.muNew
  bb := fun _ _ h => h
  bbNew := fun _ h _ => .inl h
  tb := fun _ b _ h => ⟨b, h, .inl rfl⟩
  tbNew := fun _ _ _ h _ => h
  marks := fun _ mk h => ⟨mk, h, Nat.le_refl _⟩
  markSame := fun _ _ b k b' _ _ h h' => by rw [show (unhide S S').tb = S.tb from rfl, h] at h'; cases h'; rfl
  keep := fun b hl _ _ _ => E.keep b hl (by simp [hide]) (by simp [hide]) (.inl hl)
  keepT := fun id b k mk h _ c t fr hc => ⟨c, by rw [E.keep b (R.tbLt id b k h) (by simp [hide]) (by simp [hide]) (.inl (R.tbLt id b k h))]; exact hc, rfl, fun _ _ => rfl⟩

theorem unhide_rel (R : RelG X B w S) (R' : RelG X B w' S') (E : Ext w.heap.size w (hide w S) w' S') : RelG X B w' (unhide S S') :=
  R.same (unhide_ext R E) rfl rfl rfl (fun b h => by
      rcases Nat.lt_or_ge b w.heap.size with hb | hb
      · exact .inl (E.muNew b h hb)
      · exact .inr ⟨hb, R'.mu b h⟩)
    (fun b h => E.keep b (R.bbLt b h) (by simp [hide]) (by simp [hide]) (.inl (R.bbLt b h)))
    (fun id b k h => E.keep b (R.tbLt id b k h) (by simp [hide]) (by simp [hide]) (.inl (R.tbLt id b k h)))

theorem unhide_vis (R : RelG X B w S) (E : Ext w.heap.size w (hide w S) w' S') (b n : Nat) (h : Vis w' S' b n) : Vis w' (unhide S S') b n := by
  obtain ⟨n', hn, ho⟩ := h.ok
  rw [E.ok] at ho
  refine ⟨h.lt, h.mu, ?_, ?_, ?_⟩
  · intro hb
    rcases ho with ho | ho
    · have := R.bbLt b hb; omega
    · exact ho.2.1 hb
  · intro id k mk h1 h2
    rcases ho with ho | ho
    · have := R.tbLt id b k h1; omega
    · exact Nat.le_trans hn (ho.2.2 id k mk h1 h2)
  · rcases ho with ho | ho
    · exact ⟨n, Nat.le_refl _, R.okNew b n ho⟩
    · obtain ⟨n2, h1, h2⟩ := ho.1
      exact ⟨n2, Nat.le_trans hn h1, h2⟩

/-- The blocks of boxes that the function made are seen behind the call. -/
theorem unhide_box (R : RelG X B w S) (R' : RelG X B w' S') (E : Ext w.heap.size w (hide w S) w' S') (b n : Nat) (h : b ∈ S'.bb) : Vis w' (unhide S S') b n := by
  have hge : w.heap.size ≤ b := by
    rcases Nat.lt_or_ge b w.heap.size with hb | hb
    · rcases E.bbNew b h hb with h1 | ⟨_, h1⟩
      · simp [hide] at h1
      · omega
    · exact hb
  refine ⟨R'.bbLt b h, R'.bbMu b h, fun hb => ?_, fun id k mk h1 _ => ?_, ⟨n, Nat.le_refl _, R.okNew b n hge⟩⟩
  · have := R.bbLt b hb; omega
  · have := R.tbLt id b k h1; omega

/-- A function on its own, wherever it is called. -/
theorem closed_ok (hG : PlainG X) {f : Nat} {ds : List D} {Q : D → Mem → Prop} (h : CallD X f ⟨[], []⟩ (stripL ds) Q) (m : Mem) : CallD X f m ds fun r m' => (∃ r0 m0, Q r0 m0 ∧ r = frz m0 r0) ∧ m' = m := by
  refine ⟨h.1, fun B w S args R hm ha => ?_⟩
  refine (h.2 B w (hide w S) args (hide_rel hG R) rfl (strip_toL hide_vis ha)).mono fun e w' h' => ?_
  obtain ⟨v, S', r, rfl, hq, R', E, hv⟩ := h'
  refine ⟨v, unhide S S', frz S'.m r, rfl, ⟨⟨r, S'.m, hq, rfl⟩, hm⟩, unhide_rel R R' E, unhide_ext R E, ?_⟩
  exact strip_to (frzM_isCell _ _) (unhide_vis R E) (fun id off len k v hv => frzM_to R' (unhide_vis R E) (unhide_box R R' E) _ id off len k v hv) hv
end
end Go.Eng
