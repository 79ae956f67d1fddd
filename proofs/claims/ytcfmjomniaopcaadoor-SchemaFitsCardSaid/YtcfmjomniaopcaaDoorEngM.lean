/- Part of the engine that proves it: see the last text. -/
import Derived.Test.YtcfmjomniaopcaaDoorEngO4
import Derived.Laws.CopyRow
set_option linter.unusedSimpArgs false
set_option linter.unusedVariables false
/- What changes memory: new blocks, stores, appends: the relation is kept. -/
namespace Go.Eng
open Go
section
variable {X : Ctx} {B N : Nat} {w w' : World} {S S' : Sh}

theorem RelG.tidy (R : RelG X B w S) : Tidy w S := R.toTidy

theorem alloc_old (w : World) (o : Obj) {b : Nat} (h : b < w.heap.size) : (w.alloc o).heap[b]? = w.heap[b]? := by
  show (w.heap.push o)[b]? = _
  rw [Array.getElem?_push, if_neg (by omega)]
theorem alloc_new (w : World) (o : Obj) : (w.alloc o).heap[w.heap.size]? = some o := by
  show (w.heap.push o)[w.heap.size]? = _
  rw [Array.getElem?_push, if_pos rfl]

/-- The relation where boxes, tokens and their blocks are as they were. -/
theorem RelG.same (R : RelG X B w S) (E : Ext N w S w' S') (hbb : S'.bb = S.bb) (htb : S'.tb = S.tb) (hm : S'.m = S.m) (hmu : ∀ b, S'.mu b → S.mu b ∨ (w.heap.size ≤ b ∧ b < w'.heap.size))
    (hb : ∀ b, b ∈ S.bb → w'.heap[b]? = w.heap[b]?) (ht : ∀ (id b k : Nat), S.tb[id]? = some (b, k) → w'.heap[b]? = w.heap[b]?) : RelG X B w' S' where
  bbLen := by rw [hbb, hm]; exact R.bbLen
  tbLen := by rw [htb, hm]; exact R.tbLen
  mu := fun b h => (hmu b h).elim (fun h => Nat.lt_of_lt_of_le (R.mu b h) E.size) (fun h => h.2)
  bbLt := fun b h => Nat.lt_of_lt_of_le (R.bbLt b (hbb ▸ h)) E.size
  tbLt := fun id b k h => Nat.lt_of_lt_of_le (R.tbLt id b k (htb ▸ h)) E.size
  tbInj := fun id id' b k k' h h' => R.tbInj id id' b k k' (htb ▸ h) (htb ▸ h')
  tbBb := fun id b k h => by rw [hbb]; exact R.tbBb id b k (htb ▸ h)
  tbMu := fun id b k h hm' => (hmu b hm').elim (R.tbMu id b k (htb ▸ h)) (fun h' => by have := R.tbLt id b k (htb ▸ h); omega)
  bbMu := fun b h hm' => (hmu b hm').elim (R.bbMu b (hbb ▸ h)) (fun h' => by have := R.bbLt b (hbb ▸ h); omega)
  okNew := fun b n h => by rw [E.ok]; exact R.okNew b n (Nat.le_trans E.size h)
  okTok := fun id b k h n => by rw [E.ok]; exact R.okTok id b k (htb ▸ h) n
  base := Nat.le_trans R.base E.size
  bbGe := fun b h => R.bbGe b (hbb ▸ h)
  tbGe := fun id b k h => R.tbGe id b k (htb ▸ h)
  bbInj := fun id id' b h h' => R.bbInj id id' b (hbb ▸ h) (hbb ▸ h')
  boxes := fun id b cs h h' => by
    rw [hbb] at h; rw [hm] at h'
    obtain ⟨vs, t, fr, h1, ho, hl, h2⟩ := R.boxes id b cs h h'
    exact ⟨vs, t, fr, by rw [hb b (List.mem_of_getElem? h)]; exact h1, ho, hl, h2.mono E R.tidy⟩
  toks := fun id b k mk h h' => by
    rw [htb] at h; rw [hm] at h'
    obtain ⟨h0, vs, t, h1, h2⟩ := R.toks id b k mk h h'
    exact ⟨h0, vs, t, by rw [ht id b k h]; exact h1, h2⟩
  glob := fun g cs h => (R.glob g cs h).mono E R.tidy

/-- A new block that nobody sees but this activation. -/
def Sh.addMu (S : Sh) (n : Nat) : Sh := { S with mu := fun b => b = n ∨ S.mu b }

theorem Ext.allocMu (R : RelG X B w S) (o : Obj) : Ext N w S (w.alloc o) (S.addMu w.heap.size) where
  os := rfl
  tape := rfl
  output := rfl
  ok := rfl
  size := by simp
  mu := fun _ h _ => .inr h
  muNew := fun b h hl => h.resolve_left (by omega)
  bb := fun _ _ h => h
  bbNew := fun _ h _ => .inl h
  tb := fun _ b _ h => ⟨b, h, .inl rfl⟩
  tbNew := fun _ _ _ h _ => h
  marks := fun _ mk h => ⟨mk, h, Nat.le_refl _⟩
  markSame := fun _ _ b k b' _ _ h h' => by rw [show (S.addMu w.heap.size).tb = S.tb from rfl, h] at h'; cases h'; rfl
  keep := fun b hl _ _ _ => alloc_old w o hl
  keepT := fun id b k mk h _ c t fr hc => ⟨c, by rw [alloc_old w o (R.tbLt id b k h)]; exact hc, rfl, fun _ _ => rfl⟩

theorem RelG.allocMu (R : RelG X B w S) (o : Obj) : RelG X B (w.alloc o) (S.addMu w.heap.size) :=
  R.same (Ext.allocMu (N := 0) R o) rfl rfl rfl (fun b h => h.elim (fun h => .inr (by simp; omega)) .inl) (fun b h => alloc_old w o (R.bbLt b h)) (fun id b k h => alloc_old w o (R.tbLt id b k h))

/-- A new block that stays as it is. -/
theorem Ext.allocFull (R : RelG X B w S) (o : Obj) : Ext N w S (w.alloc o) S where
  os := rfl
  tape := rfl
  output := rfl
  ok := rfl
  size := by simp
  mu := fun _ h _ => h
  muNew := fun b h _ => h
  bb := fun _ _ h => h
  bbNew := fun _ h _ => .inl h
  tb := fun _ b _ h => ⟨b, h, .inl rfl⟩
  tbNew := fun _ _ _ h _ => h
  marks := fun _ mk h => ⟨mk, h, Nat.le_refl _⟩
  markSame := fun _ _ b k b' _ _ h h' => by rw [h] at h'; cases h'; rfl
  keep := fun b hl _ _ _ => alloc_old w o hl
  keepT := fun id b k mk h _ c t fr hc => ⟨c, by rw [alloc_old w o (R.tbLt id b k h)]; exact hc, rfl, fun _ _ => rfl⟩

theorem RelG.allocFull (R : RelG X B w S) (o : Obj) : RelG X B (w.alloc o) S :=
  R.same (Ext.allocFull (N := 0) R o) rfl rfl rfl (fun _ h => .inl h) (fun b h => alloc_old w o (R.bbLt b h)) (fun id b k h => alloc_old w o (R.tbLt id b k h))

/-- A private block is written. -/
theorem Ext.setMu (R : RelG X B w S) {g : Nat} (hg : S.mu g) (hN : N ≤ g) (cs : Array Value) : Ext N w S (w.setRow g cs) S where
  os := rfl
  tape := rfl
  output := rfl
  ok := rfl
  size := by simp
  mu := fun _ h _ => h
  muNew := fun _ h _ => h
  bb := fun _ _ h => h
  bbNew := fun _ h _ => .inl h
  tb := fun _ b _ h => ⟨b, h, .inl rfl⟩
  tbNew := fun _ _ _ h _ => h
  marks := fun _ mk h => ⟨mk, h, Nat.le_refl _⟩
  markSame := fun _ _ b k b' _ _ h h' => by rw [h] at h'; cases h'; rfl
  keep := fun b hl _ _ h3 => setRow_other w g b cs (fun e => by subst e; rcases h3 with h | h; omega; exact h hg)
  keepT := fun id b k mk h _ c t fr hc => ⟨c, by rw [setRow_other w g b cs (fun e => by subst e; exact R.tbMu id _ k h hg)]; exact hc, rfl, fun _ _ => rfl⟩

theorem RelG.setMu (R : RelG X B w S) {g : Nat} (hg : S.mu g) (cs : Array Value) : RelG X B (w.setRow g cs) S :=
  R.same (Ext.setMu (N := 0) R hg (Nat.zero_le _) cs) rfl rfl rfl (fun _ h => .inl h) (fun b h => setRow_other w g b cs (fun e => by subst e; exact R.bbMu _ h hg))
    (fun id b k h => setRow_other w g b cs (fun e => by subst e; exact R.tbMu id _ k h hg))

/-- A new box. -/
def Sh.addBox (S : Sh) (n : Nat) (cs : List D) : Sh := { S with bb := S.bb ++ [n], m := { S.m with boxes := S.m.boxes ++ [cs] } }

theorem get_append_one {α : Type} {l : List α} {x y : α} {i : Nat} (h : (l ++ [x])[i]? = some y) : l[i]? = some y ∨ (i = l.length ∧ y = x) := by
  rcases Nat.lt_trichotomy i l.length with hl | hl | hl
  · rw [List.getElem?_append_left hl] at h; exact .inl h
  · subst hl; simp at h; exact .inr ⟨rfl, h.symm⟩
  · rw [List.getElem?_append_right (by omega), List.getElem?_eq_none (by simp; omega)] at h; cases h

theorem get_append_of {α : Type} {l : List α} {x y : α} {i : Nat} (h : l[i]? = some y) : (l ++ [x])[i]? = some y := by
  rw [List.getElem?_append_left (lt_of_get h)]; exact h

theorem Ext.allocBox (R : RelG X B w S) (o : Obj) (cs : List D) : Ext N w S (w.alloc o) (S.addBox w.heap.size cs) where
  os := rfl
  tape := rfl
  output := rfl
  ok := rfl
  size := by simp
  mu := fun _ h _ => h
  muNew := fun _ h _ => h
  bb := fun _ _ h => get_append_of h
  bbNew := fun b h hl => by
    rcases List.mem_append.1 h with h | h
    · exact .inl h
    · simp at h; omega
  tb := fun _ b _ h => ⟨b, h, .inl rfl⟩
  tbNew := fun _ _ _ h _ => h
  marks := fun _ mk h => ⟨mk, h, Nat.le_refl _⟩
  markSame := fun _ _ b k b' _ _ h h' => by rw [show (S.addBox w.heap.size cs).tb = S.tb from rfl, h] at h'; cases h'; rfl
  keep := fun b hl _ _ _ => alloc_old w o hl
  keepT := fun id b k mk h _ c t fr hc => ⟨c, by rw [alloc_old w o (R.tbLt id b k h)]; exact hc, rfl, fun _ _ => rfl⟩

theorem RelG.allocBoxP (R : RelG X B w S) {cs : List D} {vs : Array Value} (t : TypeId) {fr : Nat × Nat} (ho : OpenR vs fr) (hl : cs.length ≤ vs.size) (hc : HasC w S cs (vs.toList.take cs.length)) : RelG X B (w.alloc (.cells vs t fr)) (S.addBox w.heap.size cs) := by
  have E := Ext.allocBox (N := 0) R (.cells vs t fr) cs
  exact {
    bbLen := by simp [Sh.addBox, R.bbLen]
    tbLen := R.tbLen
    mu := fun b h => by have := R.mu b h; simp; omega
    bbLt := fun b h => by
      rcases List.mem_append.1 h with h | h
      · have := R.bbLt b h; simp; omega
      · simp at h; simp; omega
    tbLt := fun id b k h => by have := R.tbLt id b k h; simp; omega
    tbInj := R.tbInj
    tbBb := fun id b k h hb => by
      rcases List.mem_append.1 hb with hb | hb
      · exact R.tbBb id b k h hb
      · simp at hb; have := R.tbLt id b k h; omega
    tbMu := R.tbMu
    bbMu := fun b h hm => by
      rcases List.mem_append.1 h with h | h
      · exact R.bbMu b h hm
      · simp at h; have := R.mu b hm; omega
    okNew := fun b n h => by rw [E.ok]; exact R.okNew b n (Nat.le_trans E.size h)
    okTok := fun id b k h n => by rw [E.ok]; exact R.okTok id b k h n
    base := Nat.le_trans R.base E.size
    bbGe := fun b h => by
      rcases List.mem_append.1 h with h | h
      · exact R.bbGe b h
      · simp at h; have := R.base; omega
    tbGe := R.tbGe
    bbInj := fun id id' b h h' => by
      rcases get_append_one h with h | ⟨h, e⟩ <;> rcases get_append_one h' with h' | ⟨h', e'⟩
      · exact R.bbInj id id' b h h'
      · have := R.bbLt b (List.mem_of_getElem? h); omega
      · have := R.bbLt b (List.mem_of_getElem? h'); omega
      · omega
    boxes := fun id b c h h' => by
      rcases get_append_one h with h1 | ⟨h1, e⟩ <;> rcases get_append_one h' with h2 | ⟨h2, e'⟩
      · obtain ⟨us, t', fr', h3, ho', hl', h4⟩ := R.boxes id b c h1 h2
        exact ⟨us, t', fr', by rw [alloc_old w _ (R.bbLt b (List.mem_of_getElem? h1))]; exact h3, ho', hl', h4.mono E R.tidy⟩
      · have := lt_of_get h1; have := R.bbLen; omega
      · have := lt_of_get h2; have := R.bbLen; omega
      · subst e; subst e'
        exact ⟨vs, t, fr, alloc_new w _, ho, hl, hc.mono E R.tidy⟩
    toks := fun id b k mk h h' => by
      obtain ⟨h0, us, t', h1, h2⟩ := R.toks id b k mk h h'
      exact ⟨h0, us, t', by rw [alloc_old w _ (R.tbLt id b k h)]; exact h1, h2⟩
    glob := fun g c h => (R.glob g c h).mono E R.tidy }

theorem openR_zero (vs : Array Value) : OpenR vs (0, 0) := fun j _ h => by omega
theorem RelG.allocBox (R : RelG X B w S) {cs : List D} {vs : Array Value} (t : TypeId) (hc : HasC w S cs vs.toList) : RelG X B (w.alloc (.cells vs t (0, 0))) (S.addBox w.heap.size cs) := by
  have hl : cs.length = vs.size := by have := hc.len; simpa using this
  exact R.allocBoxP t (openR_zero vs) (Nat.le_of_eq hl) (by rw [hl, List.take_of_length_le (by simp)]; exact hc)

/-- A box is written. -/
def Sh.setBox (S : Sh) (id : Nat) (cs : List D) : Sh := { S with m := { S.m with boxes := S.m.boxes.set id cs } }

theorem Ext.setBox (R : RelG X B w S) {id g : Nat} (hg : S.bb[id]? = some g) (vs : Array Value) (cs : List D) : Ext N w S (w.setRow g vs) (S.setBox id cs) where
  os := rfl
  tape := rfl
  output := rfl
  ok := rfl
  size := by simp
  mu := fun _ h _ => h
  muNew := fun _ h _ => h
  bb := fun _ _ h => h
  bbNew := fun _ h _ => .inl h
  tb := fun _ b _ h => ⟨b, h, .inl rfl⟩
  tbNew := fun _ _ _ h _ => h
  marks := fun _ mk h => ⟨mk, h, Nat.le_refl _⟩
  markSame := fun _ _ b k b' _ _ h h' => by rw [show (S.setBox id cs).tb = S.tb from rfl, h] at h'; cases h'; rfl
  keep := fun b hl h1 _ _ => setRow_other w g b vs (fun e => by subst e; exact h1 (List.mem_of_getElem? hg))
  keepT := fun i b k mk h _ c t fr hc => ⟨c, by rw [setRow_other w g b vs (fun e => by subst e; exact R.tbBb i _ k h (List.mem_of_getElem? hg))]; exact hc, rfl, fun _ _ => rfl⟩

theorem RelG.setBox (R : RelG X B w S) {id g : Nat} (hg : S.bb[id]? = some g) {cs old : List D} {vs vs0 : Array Value} {t : TypeId} (hold : S.m.boxes[id]? = some old) {fr : Nat × Nat} (h0 : w.heap[g]? = some (.cells vs0 t fr)) (ho : OpenR vs fr) (hl : cs.length ≤ vs.size)
    (hc : HasC w S cs (vs.toList.take cs.length)) : RelG X B (w.setRow g vs) (S.setBox id cs) := by
  have E := Ext.setBox (N := 0) R hg vs cs
  have gm := List.mem_of_getElem? hg
  exact {
    bbLen := by simp [Sh.setBox, R.bbLen]
    tbLen := R.tbLen
    mu := fun b h => by simp; exact R.mu b h
    bbLt := fun b h => by simp; exact R.bbLt b h
    tbLt := fun i b k h => by simp; exact R.tbLt i b k h
    tbInj := R.tbInj
    tbBb := R.tbBb
    tbMu := R.tbMu
    bbMu := R.bbMu
    okNew := fun b n h => by rw [E.ok]; exact R.okNew b n (Nat.le_trans E.size h)
    okTok := fun id b k h n => by rw [E.ok]; exact R.okTok id b k h n
    base := Nat.le_trans R.base E.size
    bbGe := R.bbGe
    tbGe := R.tbGe
    bbInj := R.bbInj
    boxes := fun i b c h h' => by
      by_cases e : i = id
      · subst e
        rw [show (S.setBox i cs).bb = S.bb from rfl, hg] at h; cases h
        have e2 : c = cs := by
          simp only [Sh.setBox] at h'
          rw [List.getElem?_set_self (lt_of_get hold)] at h'; cases h'; rfl
        subst e2
        exact ⟨vs, t, fr, setRow_heap w g vs0 vs t _ h0, ho, hl, hc.mono E R.tidy⟩
      · simp only [Sh.setBox] at h'
        rw [List.getElem?_set_ne (fun x => e x.symm)] at h'
        obtain ⟨us, t', fr', h3, ho', hl', h4⟩ := R.boxes i b c h h'
        exact ⟨us, t', fr', by rw [setRow_other w g b vs (fun x => by subst x; exact e (R.bbInj i id _ h hg))]; exact h3, ho', hl', h4.mono E R.tidy⟩
    toks := fun i b k mk h h' => by
      obtain ⟨h1, us, t', h2, h3⟩ := R.toks i b k mk h h'
      exact ⟨h1, us, t', by rw [setRow_other w g b vs (fun x => by subst x; exact R.tbBb i _ k h gm)]; exact h2, h3⟩
    glob := fun q c h => (R.glob q c h).mono E R.tidy }

/-- A new row that may be appended to. -/
def Sh.addTok (S : Sh) (n k mk : Nat) : Sh := { S with tb := S.tb ++ [(n, k)], m := { S.m with toks := S.m.toks ++ [mk] } }

theorem Ext.allocTok (R : RelG X B w S) (o : Obj) (k mk : Nat) : Ext N w S (w.alloc o) (S.addTok w.heap.size k mk) where
  os := rfl
  tape := rfl
  output := rfl
  ok := rfl
  size := by simp
  mu := fun _ h _ => h
  muNew := fun _ h _ => h
  bb := fun _ _ h => h
  bbNew := fun _ h _ => .inl h
  tb := fun _ b _ h => ⟨b, get_append_of h, .inl rfl⟩
  tbNew := fun id b k h hl => by
    rcases get_append_one h with h | ⟨_, h⟩
    · exact h
    · cases h; omega
  marks := fun _ mk h => ⟨mk, get_append_of h, Nat.le_refl _⟩
  markSame := fun id m' b k b' _ _ h h' => by
    have := get_append_of (x := (w.heap.size, k)) h
    simp only [Sh.addTok] at h'
    rw [List.getElem?_append_left (lt_of_get h), h] at h'; cases h'; rfl
  keep := fun b hl _ _ _ => alloc_old w o hl
  keepT := fun id b k mk h _ c t fr hc => ⟨c, by rw [alloc_old w o (R.tbLt id b k h)]; exact hc, rfl, fun _ _ => rfl⟩

theorem RelG.allocTok (R : RelG X B w S) {vs : Array Value} (t : TypeId) {k mk : Nat} (hk : 0 < k) (hm : mk * k ≤ vs.size) : RelG X B (w.alloc (.cells vs t (0, 0))) (S.addTok w.heap.size k mk) := by
  have E := Ext.allocTok (N := 0) R (.cells vs t (0, 0)) k mk
  have tl : ∀ (id b k' : Nat), (S.addTok w.heap.size k mk).tb[id]? = some (b, k') → S.tb[id]? = some (b, k') ∨ (id = S.tb.length ∧ b = w.heap.size ∧ k' = k) := fun id b k' h => by
    rcases get_append_one h with h | ⟨h1, e⟩
    · exact .inl h
    · cases e; exact .inr ⟨h1, rfl, rfl⟩
  exact {
    bbLen := R.bbLen
    tbLen := by simp [Sh.addTok, R.tbLen]
    mu := fun b h => by have := R.mu b h; simp; omega
    bbLt := fun b h => by have := R.bbLt b h; simp; omega
    tbLt := fun id b k' h => by
      rcases tl id b k' h with h | h
      · have := R.tbLt id b k' h; simp; omega
      · simp; omega
    tbInj := fun id id' b k1 k2 h h' => by
      rcases tl id b k1 h with h | h <;> rcases tl id' b k2 h' with h' | h'
      · exact R.tbInj id id' b k1 k2 h h'
      · have := R.tbLt id b k1 h; omega
      · have := R.tbLt id' b k2 h'; omega
      · omega
    tbBb := fun id b k' h hb => by
      rcases tl id b k' h with h | h
      · exact R.tbBb id b k' h hb
      · have := R.bbLt b hb; omega
    tbMu := fun id b k' h hb => by
      rcases tl id b k' h with h | h
      · exact R.tbMu id b k' h hb
      · have := R.mu b hb; omega
    bbMu := R.bbMu
    okNew := fun b n h => by rw [E.ok]; exact R.okNew b n (Nat.le_trans E.size h)
    okTok := fun id b k' h n => by
      rw [E.ok]
      rcases tl id b k' h with h | h
      · exact R.okTok id b k' h n
      · exact R.okNew b n (by omega)
    base := Nat.le_trans R.base E.size
    bbGe := R.bbGe
    tbGe := fun id b k' h => by
      rcases tl id b k' h with h | h
      · exact R.tbGe id b k' h
      · have := R.base; omega
    bbInj := R.bbInj
    boxes := fun id b c h h' => by
      obtain ⟨us, t', fr', h3, ho', hl', h4⟩ := R.boxes id b c h h'
      exact ⟨us, t', fr', by rw [alloc_old w _ (R.bbLt b (List.mem_of_getElem? h))]; exact h3, ho', hl', h4.mono E R.tidy⟩
    toks := fun id b k' mk' h h' => by
      have hl := R.tbLen
      rcases tl id b k' h with h | ⟨h, e, e'⟩
      · have h' : S.m.toks[id]? = some mk' := by
          rcases get_append_one h' with h' | ⟨h', _⟩
          · exact h'
          · have := lt_of_get h; omega
        obtain ⟨h0, us, t', h1, h2⟩ := R.toks id b k' mk' h h'
        exact ⟨h0, us, t', by rw [alloc_old w _ (R.tbLt id b k' h)]; exact h1, h2⟩
      · subst e; subst e'
        have e2 : mk' = mk := by
          rcases get_append_one h' with h' | ⟨_, h'⟩
          · have := lt_of_get h'; omega
          · exact h'
        subst e2
        exact ⟨hk, vs, t, alloc_new w _, hm⟩
    glob := fun g c h => (R.glob g c h).mono E R.tidy }
/-- Only what is drawn has moved. -/
theorem Ext.ofHeap (h : w'.heap = w.heap) (ho : w'.os = w.os) (ht : w'.tape = w.tape) (hp : w'.output = w.output) : Ext N w S w' S where
  os := ho
  tape := ht
  output := hp
  ok := rfl
  size := by rw [h]; exact Nat.le_refl _
  mu := fun _ h _ => h
  muNew := fun _ h _ => h
  bb := fun _ _ h => h
  bbNew := fun _ h _ => .inl h
  tb := fun _ b _ h => ⟨b, h, .inl rfl⟩
  tbNew := fun _ _ _ h _ => h
  marks := fun _ mk h => ⟨mk, h, Nat.le_refl _⟩
  markSame := fun _ _ b k b' _ _ h h' => by rw [h] at h'; cases h'; rfl
  keep := fun _ _ _ _ _ => by rw [h]
  keepT := fun _ _ _ _ _ _ c _ _ hc => ⟨c, by rw [h]; exact hc, rfl, fun _ _ => rfl⟩

theorem RelG.ofHeap (R : RelG X B w S) (h : w'.heap = w.heap) (ho : w'.os = w.os) (ht : w'.tape = w.tape) (hp : w'.output = w.output) : RelG X B w' S :=
  R.same (Ext.ofHeap (N := 0) h ho ht hp) rfl rfl rfl (fun _ h => .inl h) (fun b _ => by rw [h]) (fun _ b _ _ => by rw [h])

/-- A row has grown, where it was or in a new block. -/
def Sh.growTok (S : Sh) (id b k mk : Nat) : Sh := { S with tb := S.tb.set id (b, k), m := { S.m with toks := S.m.toks.set id mk } }

theorem Ext.growIn (R : RelG X B w S) {id b k mk mk' : Nat} (ht : S.tb[id]? = some (b, k)) (hm : S.m.toks[id]? = some mk) (hmk : mk ≤ mk') {vs0 vs : Array Value} {t : TypeId}
    (h0 : w.heap[b]? = some (.cells vs0 t (0, 0))) (hs : vs.size = vs0.size) (hp : ∀ j, j < mk * k → vs[j]? = vs0[j]?) : Ext N w S (w.setRow b vs) (S.growTok id b k mk') := by
  have htb : (S.growTok id b k mk').tb = S.tb := by
    simp only [Sh.growTok]
    apply List.ext_getElem?
    intro i
    by_cases e : id = i
    · subst e; rw [List.getElem?_set_self (lt_of_get ht), ht]
    · rw [List.getElem?_set_ne e]
  exact {
    os := rfl
    tape := rfl
    output := rfl
    ok := rfl
    size := by simp
    mu := fun _ h _ => h
    muNew := fun _ h _ => h
    bb := fun _ _ h => h
    bbNew := fun _ h _ => .inl h
    tb := fun _ b _ h => ⟨b, by rw [htb]; exact h, .inl rfl⟩
    tbNew := fun _ _ _ h _ => by rw [htb] at h; exact h
    marks := fun i m1 h => by
      by_cases e : id = i
      · subst e; rw [hm] at h; cases h
        exact ⟨mk', by simp only [Sh.growTok]; rw [List.getElem?_set_self (lt_of_get hm)], hmk⟩
      · exact ⟨m1, by simp only [Sh.growTok]; rw [List.getElem?_set_ne e]; exact h, Nat.le_refl _⟩
    markSame := fun _ _ b k b' _ _ h h' => by rw [htb, h] at h'; cases h'; rfl
    keep := fun c hl _ h2 _ => setRow_other w b c vs (fun e => by subst e; exact h2 id k ht)
    keepT := fun i c k' m1 h h' cc t' fr hc => by
      by_cases e : c = b
      · subst e
        have := R.tbInj i id c k' k h ht
        subst this
        rw [ht] at h; cases h
        rw [hm] at h'; cases h'
        rw [h0] at hc; cases hc
        exact ⟨vs, setRow_heap w c _ vs _ _ h0, hs, hp⟩
      · exact ⟨cc, by rw [setRow_other w b c vs e]; exact hc, rfl, fun _ _ => rfl⟩ }

theorem RelG.growIn (R : RelG X B w S) {id b k mk mk' : Nat} (ht : S.tb[id]? = some (b, k)) (hm : S.m.toks[id]? = some mk) (hmk : mk ≤ mk') {vs0 vs : Array Value} {t : TypeId}
    (h0 : w.heap[b]? = some (.cells vs0 t (0, 0))) (hs : vs.size = vs0.size) (hp : ∀ j, j < mk * k → vs[j]? = vs0[j]?) (hfit : mk' * k ≤ vs.size) : RelG X B (w.setRow b vs) (S.growTok id b k mk') := by
  have E := Ext.growIn (N := 0) R ht hm hmk h0 hs hp
  have htb : (S.growTok id b k mk').tb = S.tb := by
    simp only [Sh.growTok]
    apply List.ext_getElem?
    intro i
    by_cases e : id = i
    · subst e; rw [List.getElem?_set_self (lt_of_get ht), ht]
    · rw [List.getElem?_set_ne e]
  exact {
    bbLen := R.bbLen
    tbLen := by simp [Sh.growTok, R.tbLen]
    mu := fun b h => by simp; exact R.mu b h
    bbLt := fun b h => by simp; exact R.bbLt b h
    tbLt := fun i b k h => by rw [htb] at h; simp; exact R.tbLt i b k h
    tbInj := by rw [htb]; exact R.tbInj
    tbBb := by rw [htb]; exact R.tbBb
    tbMu := by rw [htb]; exact R.tbMu
    bbMu := R.bbMu
    okNew := fun b n h => by rw [E.ok]; exact R.okNew b n (Nat.le_trans E.size h)
    okTok := fun id b k h n => by rw [E.ok]; rw [htb] at h; exact R.okTok id b k h n
    base := Nat.le_trans R.base E.size
    bbGe := R.bbGe
    tbGe := by rw [htb]; exact R.tbGe
    bbInj := R.bbInj
    boxes := fun i c cs h h' => by
      obtain ⟨us, t', fr', h3, ho', hl', h4⟩ := R.boxes i c cs h h'
      exact ⟨us, t', fr', by rw [setRow_other w b c vs (fun x => by subst x; exact R.tbBb id _ k ht (List.mem_of_getElem? h))]; exact h3, ho', hl', h4.mono E R.tidy⟩
    toks := fun i c k' m1 h h' => by
      rw [htb] at h
      by_cases e : i = id
      · subst e
        rw [ht] at h; cases h
        have : m1 = mk' := by
          simp only [Sh.growTok] at h'
          rw [List.getElem?_set_self (lt_of_get hm)] at h'; cases h'; rfl
        subst this
        obtain ⟨hk, _⟩ := R.toks i b k mk ht hm
        exact ⟨hk, vs, t, setRow_heap w b _ vs _ _ h0, hfit⟩
      · simp only [Sh.growTok] at h'
        rw [List.getElem?_set_ne (fun x => e x.symm)] at h'
        obtain ⟨hk, us, t', h2, h3⟩ := R.toks i c k' m1 h h'
        exact ⟨hk, us, t', by rw [setRow_other w b c vs (fun x => by subst x; exact e (R.tbInj i id _ _ _ h ht))]; exact h2, h3⟩
    glob := fun q c h => (R.glob q c h).mono E R.tidy }

theorem Ext.growNew (R : RelG X B w S) {id b k mk mk' : Nat} (ht : S.tb[id]? = some (b, k)) (hm : S.m.toks[id]? = some mk) (hmk : mk < mk') (o : Obj) : Ext N w S (w.alloc o) (S.growTok id w.heap.size k mk') where
  os := rfl
  tape := rfl
  output := rfl
  ok := rfl
  size := by simp
  mu := fun _ h _ => h
  muNew := fun _ h _ => h
  bb := fun _ _ h => h
  bbNew := fun _ h _ => .inl h
  tb := fun i c k' h => by
    by_cases e : id = i
    · subst e; rw [ht] at h; cases h
      exact ⟨w.heap.size, by simp only [Sh.growTok]; rw [List.getElem?_set_self (lt_of_get ht)], .inr (Nat.le_refl _)⟩
    · exact ⟨c, by simp only [Sh.growTok]; rw [List.getElem?_set_ne e]; exact h, .inl rfl⟩
  tbNew := fun i c k' h hl => by
    simp only [Sh.growTok] at h
    by_cases e : id = i
    · subst e; rw [List.getElem?_set_self (lt_of_get ht)] at h; cases h; omega
    · rw [List.getElem?_set_ne e] at h; exact h
  marks := fun i m1 h => by
    by_cases e : id = i
    · subst e; rw [hm] at h; cases h
      exact ⟨mk', by simp only [Sh.growTok]; rw [List.getElem?_set_self (lt_of_get hm)], by omega⟩
    · exact ⟨m1, by simp only [Sh.growTok]; rw [List.getElem?_set_ne e]; exact h, Nat.le_refl _⟩
  markSame := fun i m1 c k' c' h h' hb hb' => by
    simp only [Sh.growTok] at h' hb'
    by_cases e : id = i
    · subst e; rw [List.getElem?_set_self (lt_of_get hm)] at h'; cases h'
      rw [hm] at h; cases h; omega
    · rw [List.getElem?_set_ne e, hb] at hb'; cases hb'; rfl
  keep := fun c hl _ _ _ => alloc_old w o hl
  keepT := fun i c k' m1 h _ cc t fr hc => ⟨cc, by rw [alloc_old w o (R.tbLt i c k' h)]; exact hc, rfl, fun _ _ => rfl⟩

theorem RelG.growNew (R : RelG X B w S) {id b k mk mk' : Nat} (ht : S.tb[id]? = some (b, k)) (hm : S.m.toks[id]? = some mk) (hmk : mk < mk') {vs : Array Value} (t : TypeId) (hfit : mk' * k ≤ vs.size) :
    RelG X B (w.alloc (.cells vs t (0, 0))) (S.growTok id w.heap.size k mk') := by
  have E := Ext.growNew (N := 0) R ht hm hmk (.cells vs t (0, 0))
  have tl : ∀ (i c k' : Nat), (S.growTok id w.heap.size k mk').tb[i]? = some (c, k') → (i ≠ id ∧ S.tb[i]? = some (c, k')) ∨ (i = id ∧ c = w.heap.size ∧ k' = k) := fun i c k' h => by
    simp only [Sh.growTok] at h
    by_cases e : id = i
    · subst e; rw [List.getElem?_set_self (lt_of_get ht)] at h; cases h; exact .inr ⟨rfl, rfl, rfl⟩
    · rw [List.getElem?_set_ne e] at h; exact .inl ⟨fun x => e x.symm, h⟩
  exact {
    bbLen := R.bbLen
    tbLen := by simp [Sh.growTok, R.tbLen]
    mu := fun b h => by have := R.mu b h; simp; omega
    bbLt := fun b h => by have := R.bbLt b h; simp; omega
    tbLt := fun i c k' h => by
      rcases tl i c k' h with h | h
      · have := R.tbLt i c k' h.2; simp; omega
      · simp; omega
    tbInj := fun i i' c k1 k2 h h' => by
      rcases tl i c k1 h with h | h <;> rcases tl i' c k2 h' with h' | h'
      · exact R.tbInj i i' c k1 k2 h.2 h'.2
      · have := R.tbLt i c k1 h.2; omega
      · have := R.tbLt i' c k2 h'.2; omega
      · omega
    tbBb := fun i c k' h hb => by
      rcases tl i c k' h with h | h
      · exact R.tbBb i c k' h.2 hb
      · have := R.bbLt c hb; omega
    tbMu := fun i c k' h hb => by
      rcases tl i c k' h with h | h
      · exact R.tbMu i c k' h.2 hb
      · have := R.mu c hb; omega
    bbMu := R.bbMu
    okNew := fun b n h => by rw [E.ok]; exact R.okNew b n (Nat.le_trans E.size h)
    okTok := fun i c k' h n => by
      rw [E.ok]
      rcases tl i c k' h with h | h
      · exact R.okTok i c k' h.2 n
      · exact R.okNew c n (by omega)
    base := Nat.le_trans R.base E.size
    bbGe := R.bbGe
    tbGe := fun i c k' h => by
      rcases tl i c k' h with h | h
      · exact R.tbGe i c k' h.2
      · have := R.base; omega
    bbInj := R.bbInj
    boxes := fun i c cs h h' => by
      obtain ⟨us, t', fr', h3, ho', hl', h4⟩ := R.boxes i c cs h h'
      exact ⟨us, t', fr', by rw [alloc_old w _ (R.bbLt c (List.mem_of_getElem? h))]; exact h3, ho', hl', h4.mono E R.tidy⟩
    toks := fun i c k' m1 h h' => by
      simp only [Sh.growTok] at h'
      rcases tl i c k' h with ⟨e, h⟩ | ⟨e, e1, e2⟩
      · rw [List.getElem?_set_ne (fun x => e x.symm)] at h'
        obtain ⟨h0, us, t', h1, h2⟩ := R.toks i c k' m1 h h'
        exact ⟨h0, us, t', by rw [alloc_old w _ (R.tbLt i c k' h)]; exact h1, h2⟩
      · subst e; subst e1; subst e2
        rw [List.getElem?_set_self (lt_of_get hm)] at h'; cases h'
        exact ⟨(R.toks i b k' mk ht hm).1, vs, t, alloc_new w _, hfit⟩
    glob := fun g c h => (R.glob g c h).mono E R.tidy }
end
end Go.Eng
