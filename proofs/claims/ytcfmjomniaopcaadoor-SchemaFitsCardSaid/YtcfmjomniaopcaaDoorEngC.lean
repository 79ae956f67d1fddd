/- Part of the engine that proves it: see the last text. -/
import Derived.Test.YtcfmjomniaopcaaDoorEngP
import Derived.Laws.Rows
import Derived.Laws.Cells
import Derived.Laws.Sem
/- What an abstract value stands for: the relation to the model's values and worlds, and that it lasts. -/
namespace Go.Eng
open Go

/-- Where the abstract memory lies: which blocks are private variables of activations, the block of each box, block and cell count of each token. -/
structure Sh where
  mu : Nat → Prop
  bb : List Nat
  tb : List (Nat × Nat)
  m : Mem
  ok : Nat → Nat → Prop

/-- The cells of block b below n are stable. -/
structure Vis (w : World) (S : Sh) (b n : Nat) : Prop where
  lt : b < w.heap.size
  mu : ¬ S.mu b
  bb : b ∉ S.bb
  tb : ∀ id k mk : Nat, S.tb[id]? = some (b, k) → S.m.toks[id]? = some mk → n ≤ mk * k
  ok : ∃ n', n ≤ n' ∧ S.ok b n'


/-- What a tag is good for. -/
def TagOk (w : World) (S : Sh) (tag : Option Nat) (b off len k cap : Nat) : Prop :=
  match tag with
  | none => True
  | some 0 => len = cap
  | some (id + 1) => off = 0 ∧ ∃ mk b', S.m.toks[id]? = some mk ∧ S.tb[id]? = some (b', k) ∧ len ≤ mk ∧
      (len = mk → b' = b ∧ ∃ t, w.shape? b = some (t, cap * k))

inductive HasV (w : World) (S : Sh) : D → Value → Prop where
  | int (k : IntKind) (n : Int) : HasV w S (.int k n) (.int k n)
  | bool (b : Bool) : HasV w S (.bool b) (.bool b)
  | str (s : List UInt8) : HasV w S (.str s) (.string ⟨s.toArray⟩)
  | nil : HasV w S .nil (.slice none 0 0)
  | rsl (id off len k b cap : Nat) (hk : 0 < k) (hl : len ≤ cap ∧ len ≤ 140737488355328) (h : S.bb[id]? = some b) : HasV w S (.rsl id off len k) (.slice (some ⟨b, off, none⟩) len cap)
  | opq (v : Value) (h : v.oneCell' = true) : HasV w S .opq v
  | slice0 (tag : Option Nat) (k : Nat) (a : Addr) (cap : Nat) (h : tag = none ∨ tag = some 0 ∧ cap = 0) : HasV w S (.slice tag k []) (.slice (some a) 0 cap)
  | slice (tag : Option Nat) (k : Nat) (es : List D) (b off cap : Nat) (vals : Nat → Value) (hk : 0 < k) (hcap : es.length ≤ cap) (hbig : es.length ≤ 140737488355328)
      (hsz : ∀ d ∈ es, d.cells.length = k) (hcl : ∀ c ∈ flat es, c.isCell = true) (hvis : Vis w S b (off + es.length * k)) (htag : TagOk w S tag b off es.length k cap)
      (hcell : ∀ (j : Nat) (c : D), (flat es)[j]? = some c → w.cell? ⟨b, off + j, none⟩ = some (vals j))
      (hv : ∀ (j : Nat) (c : D), (flat es)[j]? = some c → HasV w S c (vals j)) :
      HasV w S (.slice tag k es) (.slice (some ⟨b, off, none⟩) es.length cap)
  | ptr (id off b : Nat) (h : S.bb[id]? = some b) : HasV w S (.ptr id off) (.pointer (some ⟨b, off, none⟩))
  | nilptr : HasV w S .nilptr (.pointer none)
  | ref (cs : List D) (o b base : Nat) (vals : Nat → Value) (hcl : ∀ c ∈ cs, c.isCell = true) (hvis : Vis w S b (base + cs.length))
      (hcell : ∀ (j : Nat) (c : D), cs[j]? = some c → w.cell? ⟨b, base + j, none⟩ = some (vals j))
      (hv : ∀ (j : Nat) (c : D), cs[j]? = some c → HasV w S c (vals j)) :
      HasV w S (.ref cs o) (.pointer (some ⟨b, base + o, none⟩))
  | func (f : Nat) (cap : List D) (vs : Array Value) (hl : cap.length = vs.size)
      (hv : ∀ (j : Nat) (c : D) (v : Value), cap[j]? = some c → vs[j]? = some v → HasV w S c v) : HasV w S (.func f cap) (.func (.func f) #[] vs)
  | nilfunc : HasV w S .nilfunc .nilFunc
  | agg (cs : List D) (vs : Array Value) (hl : cs.length = vs.size) (hcl : ∀ c ∈ cs, c.isCell = true)
      (hv : ∀ (j : Nat) (c : D) (v : Value), cs[j]? = some c → vs[j]? = some v → HasV w S c v) : HasV w S (.agg cs) (.agg vs)
  | tuple (ds : List D) (vs : Array Value) (hl : ds.length = vs.size)
      (hv : ∀ (j : Nat) (c : D) (v : Value), ds[j]? = some c → vs[j]? = some v → HasV w S c v) : HasV w S (.tuple ds) (.tuple vs)
  | undef (v : Value) : HasV w S .undef v

/-- A row of cells. -/
structure HasL (w : World) (S : Sh) (cs : List D) (vs : List Value) : Prop where
  len : cs.length = vs.length
  at_ : ∀ (j : Nat) (c : D) (v : Value), cs[j]? = some c → vs[j]? = some v → HasV w S c v

/-- From (w, S) to (w', S') what is stable has stayed. N: what was there when the activation began. -/
structure Ext (N : Nat) (w : World) (S : Sh) (w' : World) (S' : Sh) : Prop where
  os : w'.os = w.os
  tape : w'.tape = w.tape
  output : w'.output = w.output
  ok : S'.ok = S.ok
  size : w.heap.size ≤ w'.heap.size
  mu : ∀ b, S.mu b → b < N → S'.mu b
  muNew : ∀ b, S'.mu b → b < w.heap.size → S.mu b
  bb : ∀ (id b : Nat), S.bb[id]? = some b → S'.bb[id]? = some b
  bbNew : ∀ b, b ∈ S'.bb → b < w.heap.size → b ∈ S.bb ∨ (S.mu b ∧ N ≤ b)
  tb : ∀ (id b k : Nat), S.tb[id]? = some (b, k) → ∃ b', S'.tb[id]? = some (b', k) ∧ (b' = b ∨ w.heap.size ≤ b')
  tbNew : ∀ (id b k : Nat), S'.tb[id]? = some (b, k) → b < w.heap.size → S.tb[id]? = some (b, k)
  marks : ∀ (id mk : Nat), S.m.toks[id]? = some mk → ∃ mk', S'.m.toks[id]? = some mk' ∧ mk ≤ mk'
  markSame : ∀ (id mk b k b' : Nat), S.m.toks[id]? = some mk → S'.m.toks[id]? = some mk → S.tb[id]? = some (b, k) → S'.tb[id]? = some (b', k) → b' = b
  keep : ∀ b, b < w.heap.size → b ∉ S.bb → (∀ (id k : Nat), S.tb[id]? ≠ some (b, k)) → (b < N ∨ ¬ S.mu b) → w'.heap[b]? = w.heap[b]?
  keepT : ∀ (id b k mk : Nat), S.tb[id]? = some (b, k) → S.m.toks[id]? = some mk → ∀ c t fr, w.heap[b]? = some (.cells c t fr) → ∃ c', w'.heap[b]? = some (.cells c' t fr) ∧ c'.size = c.size ∧ ∀ j, j < mk * k → c'[j]? = c[j]?

theorem Ext.refl (N : Nat) (w : World) (S : Sh) : Ext N w S w S where
  os := rfl
  tape := rfl
  output := rfl
  ok := rfl
  size := Nat.le_refl _
  mu := fun _ h _ => h
  muNew := fun _ h _ => h
  bb := fun _ _ h => h
  bbNew := fun _ h _ => .inl h
  tb := fun _ b _ h => ⟨b, h, .inl rfl⟩
  tbNew := fun _ _ _ h _ => h
  marks := fun _ mk h => ⟨mk, h, Nat.le_refl _⟩
  markSame := fun _ _ b k b' _ _ h h' => by rw [h] at h'; cases h'; rfl
  keep := fun _ _ _ _ _ => rfl
  keepT := fun _ _ _ _ _ _ c _ _ h => ⟨c, h, rfl, fun _ _ => rfl⟩

theorem Ext.mono {N N' : Nat} {w w' : World} {S S' : Sh} (h : Ext N w S w' S') (hn : N' ≤ N) : Ext N' w S w' S' :=
  { h with
    mu := fun b hb hl => h.mu b hb (Nat.lt_of_lt_of_le hl hn)
    bbNew := fun b hb hl => (h.bbNew b hb hl).imp id fun ⟨h1, h2⟩ => ⟨h1, Nat.le_trans hn h2⟩
    keep := fun b hb h1 h2 h3 => h.keep b hb h1 h2 (h3.imp (fun x => Nat.lt_of_lt_of_le x hn) id) }

/-- Tokens' blocks are cells (part of what is asked of a state). -/
structure Tidy (w : World) (S : Sh) : Prop where
  bbLen : S.bb.length = S.m.boxes.length
  tbLen : S.tb.length = S.m.toks.length
  mu : ∀ b, S.mu b → b < w.heap.size
  bbLt : ∀ b, b ∈ S.bb → b < w.heap.size
  tbLt : ∀ (id b k : Nat), S.tb[id]? = some (b, k) → b < w.heap.size
  tbInj : ∀ (id id' b k k' : Nat), S.tb[id]? = some (b, k) → S.tb[id']? = some (b, k') → id = id'
  tbBb : ∀ (id b k : Nat), S.tb[id]? = some (b, k) → b ∉ S.bb
  tbMu : ∀ (id b k : Nat), S.tb[id]? = some (b, k) → ¬ S.mu b
  bbMu : ∀ b, b ∈ S.bb → ¬ S.mu b
  okNew : ∀ b n, w.heap.size ≤ b → S.ok b n
  okTok : ∀ (id b k : Nat), S.tb[id]? = some (b, k) → ∀ n, S.ok b n

theorem cell_of_heap {w w' : World} {b : Nat} (h : w'.heap[b]? = w.heap[b]?) (j : Nat) : w'.cell? ⟨b, j, none⟩ = w.cell? ⟨b, j, none⟩ := by
  unfold World.cell?; rw [h]

theorem Ext.cell {N : Nat} {w w' : World} {S S' : Sh} (h : Ext N w S w' S') {b n : Nat} (hv : Vis w S b n) (hT : Tidy w S) {j : Nat} (hj : j < n) {v : Value} (hc : w.cell? ⟨b, j, none⟩ = some v) :
    w'.cell? ⟨b, j, none⟩ = some v := by
  by_cases ht : ∃ id k : Nat, S.tb[id]? = some (b, k)
  · obtain ⟨id, k, ht⟩ := ht
    have hid : id < S.m.toks.length := by
      rw [← hT.tbLen]
      rcases Nat.lt_or_ge id S.tb.length with h | h
      · exact h
      · rw [List.getElem?_eq_none h] at ht; cases ht
    have hmk : S.m.toks[id]? = some S.m.toks[id] := List.getElem?_eq_getElem hid
    have hle := hv.tb id k _ ht hmk
    unfold World.cell? at hc
    split at hc
    · rename_i c t fr hb
      obtain ⟨c', hb', hsz, hpre⟩ := h.keepT id b k _ ht hmk c t fr hb
      unfold World.cell?
      rw [hb']
      simp only [Option.isSome_none, Bool.false_eq_true, if_false] at hc ⊢
      rw [hpre j (by omega)]; exact hc
    · cases hc
  · rw [cell_of_heap (h.keep b hv.lt hv.bb (fun id k e => ht ⟨id, k, e⟩) (.inr hv.mu))]; exact hc

theorem Ext.vis {N : Nat} {w w' : World} {S S' : Sh} (h : Ext N w S w' S') {b n : Nat} (hv : Vis w S b n) (hT : Tidy w S) : Vis w' S' b n where
  lt := Nat.lt_of_lt_of_le hv.lt h.size
  mu := fun hm => hv.mu (h.muNew b hm hv.lt)
  bb := fun hb => (h.bbNew b hb hv.lt).elim hv.bb fun h => hv.mu h.1
  tb := fun id k mk ht hm => by
    have ht0 := h.tbNew id b k ht hv.lt
    have hid : id < S.m.toks.length := by
      rw [← hT.tbLen]
      rcases Nat.lt_or_ge id S.tb.length with h | h
      · exact h
      · rw [List.getElem?_eq_none h] at ht0; cases ht0
    have hmk : S.m.toks[id]? = some S.m.toks[id] := List.getElem?_eq_getElem hid
    obtain ⟨mk', hm', hle⟩ := h.marks id _ hmk
    rw [hm] at hm'; cases hm'
    exact Nat.le_trans (hv.tb id k _ ht0 hmk) (Nat.mul_le_mul_right _ hle)
  ok := by rw [h.ok]; exact hv.ok

theorem shape_of_heap {w w' : World} {b : Nat} (h : w'.heap[b]? = w.heap[b]?) : w'.shape? b = w.shape? b := by
  unfold World.shape?; rw [h]

theorem HasV.mono {N : Nat} {w w' : World} {S S' : Sh} (h : Ext N w S w' S') (hT : Tidy w S) {d : D} {v : Value} (hd : HasV w S d v) : HasV w' S' d v := by
  induction hd with
  | int k n => exact .int k n
  | bool b => exact .bool b
  | str s => exact .str s
  | nil => exact .nil
  | opq v h => exact .opq v h
  | rsl id off len k b cap hk hl hb => exact .rsl id off len k b cap hk hl (h.bb id b hb)
  | slice0 t k a c h => exact .slice0 t k a c h
  | slice tag k es b off cap vals hk hcap hbig hsz hcl hvis htag hcell hv ih =>
    refine .slice tag k es b off cap vals hk hcap hbig hsz hcl (h.vis hvis hT) ?_ (fun j c hj => ?_) ih
    · match tag, htag with
      | none, _ => trivial
      | some 0, htag => exact htag
      | some (id + 1), htag =>
        obtain ⟨ho, mk, b', hmk, htb, hle, himp⟩ := htag
        obtain ⟨mk', hmk', hle'⟩ := h.marks id mk hmk
        obtain ⟨b'', htb', _⟩ := h.tb id b' k htb
        refine ⟨ho, mk', b'', hmk', htb', by omega, fun e => ?_⟩
        have e1 : es.length = mk := by omega
        have e2 : mk' = mk := by omega
        subst e2
        obtain ⟨rfl, t, hsh⟩ := himp e1
        have e3 := h.markSame id _ _ _ _ hmk hmk' htb htb'
        subst e3
        refine ⟨rfl, t, ?_⟩
        unfold World.shape? at hsh ⊢
        split at hsh
        · rename_i c t' fr hb
          obtain ⟨c', hb', hsz', _⟩ := h.keepT id _ k _ htb hmk c t' fr hb
          rw [hb']
          simp only [Option.some.injEq, Prod.mk.injEq] at hsh ⊢
          exact ⟨hsh.1, by omega⟩
        · cases hsh
    · have hlt : j < (flat es).length := by
        rcases Nat.lt_or_ge j (flat es).length with h | h
        · exact h
        · rw [List.getElem?_eq_none h] at hj; cases hj
      have hfl : (flat es).length = es.length * k := by
        clear hcell hv ih hj hlt hvis htag hbig hcap hcl
        induction es with
        | nil => simp [flat]
        | cons d r ih =>
          simp only [flat, List.length_append, List.length_cons]
          rw [ih (fun d hd => hsz d (List.mem_cons_of_mem _ hd)), hsz d (List.mem_cons_self ..), Nat.succ_mul]; omega
      exact h.cell hvis hT (by omega) (hcell j c hj)
  | ptr id off b hb => exact .ptr id off b (h.bb id b hb)
  | nilptr => exact .nilptr
  | ref cs o b base vals hcl hvis hcell hv ih =>
    refine .ref cs o b base vals hcl (h.vis hvis hT) (fun j c hj => ?_) ih
    have hlt : j < cs.length := by
      rcases Nat.lt_or_ge j cs.length with h | h
      · exact h
      · rw [List.getElem?_eq_none h] at hj; cases hj
    exact h.cell hvis hT (by omega) (hcell j c hj)
  | func f cap vs hl hv ih => exact .func f cap vs hl ih
  | nilfunc => exact .nilfunc
  | agg cs vs hl hcl hv ih => exact .agg cs vs hl hcl ih
  | tuple ds vs hl hv ih => exact .tuple ds vs hl ih
  | undef v => exact .undef v

theorem HasL.mono {N : Nat} {w w' : World} {S S' : Sh} (h : Ext N w S w' S') (hT : Tidy w S) {cs : List D} {vs : List Value} (hd : HasL w S cs vs) : HasL w' S' cs vs :=
  ⟨hd.len, fun j c v hc hv => (hd.at_ j c v hc hv).mono h hT⟩

theorem flat_length {k : Nat} : ∀ (es : List D), (∀ d ∈ es, d.cells.length = k) → (flat es).length = es.length * k
  | [], _ => by simp [flat]
  | d :: r, h => by
    simp only [flat, List.length_append, List.length_cons]
    rw [flat_length r (fun d hd => h d (List.mem_cons_of_mem _ hd)), h d (List.mem_cons_self ..), Nat.succ_mul]; omega

theorem Ext.trans {N : Nat} {w w1 w2 : World} {S S1 S2 : Sh} (hT : Tidy w S) (h : Ext N w S w1 S1) (k : Ext N w1 S1 w2 S2) : Ext N w S w2 S2 where
  os := k.os.trans h.os
  tape := k.tape.trans h.tape
  output := k.output.trans h.output
  ok := k.ok.trans h.ok
  size := Nat.le_trans h.size k.size
  mu := fun b hb hl => k.mu b (h.mu b hb hl) hl
  muNew := fun b hb hl => h.muNew b (k.muNew b hb (Nat.lt_of_lt_of_le hl h.size)) hl
  bb := fun id b hb => k.bb id b (h.bb id b hb)
  bbNew := fun b hb hl => by
    rcases k.bbNew b hb (Nat.lt_of_lt_of_le hl h.size) with h1 | ⟨h1, h2⟩
    · exact h.bbNew b h1 hl
    · exact .inr ⟨h.muNew b h1 hl, h2⟩
  tb := fun id b kk hb => by
    obtain ⟨b1, h1, e1⟩ := h.tb id b kk hb
    obtain ⟨b2, h2, e2⟩ := k.tb id b1 kk h1
    refine ⟨b2, h2, ?_⟩
    have := h.size
    rcases e2 with rfl | e2
    · exact e1
    · exact .inr (by omega)
  tbNew := fun id b kk hb hl => h.tbNew id b kk (k.tbNew id b kk hb (Nat.lt_of_lt_of_le hl h.size)) hl
  marks := fun id mk hm => by
    obtain ⟨m1, h1, l1⟩ := h.marks id mk hm
    obtain ⟨m2, h2, l2⟩ := k.marks id m1 h1
    exact ⟨m2, h2, by omega⟩
  markSame := fun id mk b kk b' hm hm' hb hb' => by
    obtain ⟨m1, h1, l1⟩ := h.marks id mk hm
    obtain ⟨m2, h2, l2⟩ := k.marks id m1 h1
    rw [hm'] at h2; cases h2
    have : m1 = mk := by omega
    subst this
    obtain ⟨b1, hb1, _⟩ := h.tb id b kk hb
    have e1 := h.markSame id _ b kk b1 hm h1 hb hb1
    have e2 := k.markSame id _ b1 kk b' h1 hm' hb1 hb'
    omega
  keep := fun b hl h1 h2 h3 => by
    have hl1 := Nat.lt_of_lt_of_le hl h.size
    rw [k.keep b hl1 (fun hb => (h.bbNew b hb hl).elim h1 fun ⟨x, y⟩ => h3.elim (fun z => by omega) (fun z => z x)) (fun id kk e => h2 id kk (h.tbNew id b kk e hl)) (h3.imp id fun hm hm' => hm (h.muNew b hm' hl))]
    exact h.keep b hl h1 h2 h3
  keepT := fun id b kk mk hb hm c t fr hc => by
    obtain ⟨c1, hc1, s1, p1⟩ := h.keepT id b kk mk hb hm c t fr hc
    have hl : b < w.heap.size := hT.tbLt id b kk hb
    obtain ⟨m1, hm1, l1⟩ := h.marks id mk hm
    obtain ⟨b1, hb1, e1⟩ := h.tb id b kk hb
    by_cases eb : b1 = b
    · subst eb
      obtain ⟨c2, hc2, s2, p2⟩ := k.keepT id _ kk m1 hb1 hm1 c1 t fr hc1
      refine ⟨c2, hc2, by omega, fun j hj => ?_⟩
      rw [p2 j (Nat.lt_of_lt_of_le hj (Nat.mul_le_mul_right _ l1)), p1 j hj]
    · have hn : ∀ (id' k' : Nat), S1.tb[id']? ≠ some (b, k') := fun id' k' e => by
        have e0 := h.tbNew id' b k' e hl
        have := hT.tbInj id id' b kk k' hb e0
        subst this
        rw [hb1] at e; cases e; exact eb rfl
      have hk := k.keep b (Nat.lt_of_lt_of_le hl h.size) (fun e => (h.bbNew b e hl).elim (hT.tbBb id b kk hb) fun x => hT.tbMu id b kk hb x.1) hn (.inr fun e => hT.tbMu id b kk hb (h.muNew b e hl))
      exact ⟨c1, by rw [hk]; exact hc1, s1, p1⟩
end Go.Eng
