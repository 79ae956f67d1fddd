/- Part of the engine that proves it: see the last text. -/
import Derived.Deep.Slices
import Derived.DataReads
import Derived.ChangeArms
import GoSem.ClaimJoined
import Derived.Test.YtcfmjomniaopcaaDoorEngY
import Derived.Test.YtcfmjomniaopcaaDoorJ1
set_option linter.unusedSimpArgs false
set_option linter.unusedVariables false
/- Arguments, as they lie in the memory before the call, as data. -/
namespace Go.Eng
open Go
/-- Before the call: no private blocks, no boxes, no tokens. -/
def Sh0 : Sh := { mu := fun _ => False, bb := [], tb := [], m := ⟨[], []⟩, ok := fun _ _ => True }
section
variable {H : Type} {enc : TypeId × Value → H} {P : Program} {W : World}
/-- What a value of type t (read with less than N levels) is: a row of cells that stands for data. -/
def Rd (enc : TypeId × Value → H) (P : Program) (W : World) (N : Nat) (t : Nat) {α : Type} (c : α → List D) : Prop :=
  ∀ (fuel : Nat) (cs : List Value) (x : DataW H × List MemPlace), fuel < N → DataW.trod enc P W 0 (fun _ => true) true fuel t cs = some x → (∀ m ∈ x.1.weights P t, m ≤ reachBytes) → ∃ a : α, HasC W Sh0 (c a) cs
theorem Rd.mono {N N' t : Nat} {α : Type} {c : α → List D} (h : Rd enc P W N t c) (hn : N' ≤ N) : Rd enc P W N' t c :=
  fun fuel cs x hf => h fuel cs x (Nat.lt_of_lt_of_le hf hn)
theorem Rd.map {N t : Nat} {α β : Type} {c : α → List D} {c' : β → List D} (h : Rd enc P W N t c) (g : ∀ a, ∃ b, c' b = c a) : Rd enc P W N t c' :=
  fun fuel cs x hf h1 h2 => by
    obtain ⟨a, ha⟩ := h fuel cs x hf h1 h2
    obtain ⟨b, hb⟩ := g a
    exact ⟨b, hb ▸ ha⟩
theorem hasC_one {d : D} {v : Value} {S : Sh} (h : HasV W S d v) (hc : d.isCell = true) : HasC W S [d] [v] := by
  refine ⟨⟨rfl, fun j c v' hc hv => ?_⟩, fun c hm => ?_⟩
  · cases j with
    | zero => simp at hc hv; subst hc; subst hv; exact h
    | succ j => simp at hc
  · simp at hm; subst hm; exact hc
theorem rd_int {N t : Nat} (ht : P.underlying t = some (.int .i64)) : Rd enc P W N t (fun n : I64 => [.int .i64 n.1]) := by
  intro fuel cs x _ h _
  obtain ⟨n, rfl, _, hw⟩ := DataW.trod_int ht h
  have : -9223372036854775808 ≤ n ∧ n ≤ 9223372036854775807 := by
    simp only [Lit.wf, Bool.and_eq_true, decide_eq_true_eq] at hw
    exact hw
  exact ⟨⟨n, this⟩, hasC_one (.int _ _) rfl⟩
theorem rd_bool {N t : Nat} (ht : P.underlying t = some .bool) : Rd enc P W N t (fun b : Bool => [.bool b]) := by
  intro fuel cs x _ h _
  obtain ⟨b, rfl, _⟩ := DataW.trod_bool ht h
  exact ⟨b, hasC_one (.bool _) rfl⟩
theorem rd_str {N t : Nat} (ht : P.underlying t = some .string) : Rd enc P W N t (fun s : List UInt8 => [.str s]) := by
  intro fuel cs x _ h _
  obtain ⟨s, rfl, _⟩ := DataW.trod_string ht h
  exact ⟨s.data.toList, hasC_one (by have := HasV.str (w := W) (S := Sh0) s.data.toList; simpa using this) rfl⟩
theorem list_of {α : Type} {p : Nat → α → Prop} : ∀ (n : Nat), (∀ i, i < n → ∃ a, p i a) → ∃ l : List α, l.length = n ∧ ∀ (i : Nat) (a : α), l[i]? = some a → p i a
  | 0, _ => ⟨[], rfl, fun i a h => by simp at h⟩
  | n + 1, h => by
    obtain ⟨l, h1, h2⟩ := list_of n fun i hi => h i (by omega)
    obtain ⟨a, ha⟩ := h n (by omega)
    refine ⟨l ++ [a], by simp [h1], fun i b hb => ?_⟩
    by_cases hi : i < l.length
    · rw [List.getElem?_append_left hi] at hb; exact h2 i b hb
    · rw [List.getElem?_append_right (by omega)] at hb
      have : i = l.length := by
        by_cases e : i - l.length = 0
        · omega
        · rw [List.getElem?_eq_none (by simp; omega)] at hb; cases hb
      subst this
      simp at hb; subst hb; rw [h1]; exact ha
/-- A cell of a row of elements: of which element. -/
theorem flat_find {k : Nat} : ∀ {es : List D}, (∀ d ∈ es, d.cells.length = k) → ∀ {j : Nat} {c : D}, (flat es)[j]? = some c → ∃ (i r : Nat) (d : D), j = i * k + r ∧ r < k ∧ es[i]? = some d ∧ d.cells[r]? = some c
  | [], _, j, c, h => by simp [flat] at h
  | d :: es, hk, j, c, h => by
    have hd := hk d (by simp)
    simp only [flat] at h
    by_cases hj : j < d.cells.length
    · rw [List.getElem?_append_left hj] at h
      exact ⟨0, j, d, by simp, by omega, rfl, h⟩
    · rw [List.getElem?_append_right (by omega)] at h
      obtain ⟨i, r, e, h1, h2, h3, h4⟩ := flat_find (fun x hx => hk x (by simp [hx])) h
      exact ⟨i + 1, r, e, by rw [Nat.succ_mul]; omega, h2, by simpa using h3, h4⟩
theorem weightsAll_mem {e : TypeId} : ∀ {l : List (DataW H)} {i : Nat} {d : DataW H}, l[i]? = some d → ∀ m ∈ d.weights P e, m ∈ DataW.weightsAll P e l
  | [], i, d, h, m, hm => by simp at h
  | a :: r, 0, d, h, m, hm => by simp at h; subst h; simp only [DataW.weightsAll, List.mem_append]; exact .inl hm
  | a :: r, i + 1, d, h, m, hm => by simp only [DataW.weightsAll, List.mem_append]; exact .inr (weightsAll_mem (by simpa using h) m hm)
theorem weightsEach_mem : ∀ {ts : List TypeId} {l : List (DataW H)} {i : Nat} {t : TypeId} {d : DataW H}, ts[i]? = some t → l[i]? = some d → ∀ m ∈ d.weights P t, m ∈ DataW.weightsEach P ts l
  | [], l, i, t, d, h, _, m, hm => by simp at h
  | a :: ts, [], i, t, d, _, h, m, hm => by simp at h
  | a :: ts, b :: r, 0, t, d, h0, h, m, hm => by simp at h h0; subst h; subst h0; simp only [DataW.weightsEach, List.mem_append]; exact .inl hm
  | a :: ts, b :: r, i + 1, t, d, h0, h, m, hm => by simp only [DataW.weightsEach, List.mem_append]; exact .inr (weightsEach_mem (by simpa using h0) (by simpa using h) m hm)
theorem cell_lt {b j : Nat} {v : Value} (h : W.cell? ⟨b, j, none⟩ = some v) : b < W.heap.size := by
  unfold World.cell? at h
  split at h
  · rename_i c t fr hb
    rcases Nat.lt_or_ge b W.heap.size with h | h
    · exact h
    · rw [Array.getElem?_eq_none h] at hb; cases hb
  · cases h
/-- A slice whose elements' cells stand for data. -/
theorem slice_core {base k cap : Nat} (hk0 : 0 < k) {α : Type} {l : List α} {f : α → D} (hc : ∀ a, (f a).cells.length = k) {a : Addr} (hl : l.length ≤ cap) (hbig : l.length ≤ 140737488355328)
    (hlp : ∀ (i : Nat) (a' : α), l[i]? = some a' → ∃ cs', W.cells? base (a.add (i * k)) k = some cs' ∧ HasC W Sh0 (f a').cells cs') : HasV W Sh0 (.slice none k (l.map f)) (.slice (some a) l.length cap) := by
  have hsz : ∀ d ∈ l.map f, d.cells.length = k := fun d hd => by obtain ⟨a', _, rfl⟩ := List.mem_map.1 hd; exact hc a'
  cases hl0 : l with
  | nil =>
    exact .slice0 none k a cap (.inl rfl)
  | cons a0 r =>
    rw [← hl0]
    have key : ∀ (i r : Nat) (a' : α), l[i]? = some a' → r < k → ∃ v, W.cell? ⟨a.block, a.off + (i * k + r), none⟩ = some v ∧ ∀ c, (f a').cells[r]? = some c → HasV W Sh0 c v ∧ c.isCell = true := fun i r a' hi hr => by
      obtain ⟨cs', h1, h2⟩ := hlp i a' hi
      obtain ⟨_, h3, h4⟩ := World.cells?_some h1
      have h5 := h4 r hr
      obtain ⟨v, hv⟩ : ∃ v, cs'[r]? = some v := ⟨_, List.getElem?_eq_getElem (by omega)⟩
      rw [hv] at h5
      refine ⟨v, ?_, fun c hcc => ⟨h2.at_ r c v hcc hv, h2.cell c (List.mem_of_getElem? hcc)⟩⟩
      have hspot : ∀ b : Addr, W.cell? b = some v → W.cell? ⟨b.block, b.off, none⟩ = some v := fun b hb => by
        unfold World.cell? at hb ⊢
        split at hb
        · rename_i hh
          rw [hh]
          split at hb
          · cases hb
          · simpa using hb
        · cases hb
      have h6 := hspot _ h5
      have e1 : ((a.add (i * k)).add r).block = a.block := by unfold Addr.add; split <;> split <;> rfl
      have e2 : ((a.add (i * k)).add r).off = a.off + (i * k + r) := by
        unfold Addr.add
        split <;> split <;> simp_all <;> omega
      rw [e1, e2] at h6
      exact h6
    have hspot : a = ⟨a.block, a.off, none⟩ := by
      obtain ⟨cs', h1, h2⟩ := hlp 0 a0 (by rw [hl0]; rfl)
      obtain ⟨_, h3, h4⟩ := World.cells?_some h1
      have h5 := h4 0 hk0
      obtain ⟨v, hv⟩ : ∃ v, cs'[0]? = some v := ⟨_, List.getElem?_eq_getElem (by omega)⟩
      rw [hv] at h5
      have e : (a.add (0 * k)).add 0 = a := by simp [Addr.add]
      rw [e] at h5
      unfold World.cell? at h5
      split at h5
      · split at h5
        · cases h5
        · rename_i hn
          cases a with
          | mk b o sp => cases sp with
            | none => rfl
            | some s => simp at hn
      · cases h5
    have hfl : ∀ (j : Nat) (c : D), (flat (l.map f))[j]? = some c → ∃ v, W.cell? ⟨a.block, a.off + j, none⟩ = some v ∧ HasV W Sh0 c v ∧ c.isCell = true := fun j c hj => by
      obtain ⟨i, r, d, rfl, hr, hd, hcc⟩ := flat_find hsz hj
      rw [List.getElem?_map] at hd
      obtain ⟨a', ha', rfl⟩ := Option.map_eq_some_iff.1 hd
      obtain ⟨v, hv, hh⟩ := key i r a' ha' hr
      exact ⟨v, hv, hh c hcc⟩
    have hes : (l.map f).length = l.length := by simp
    have hlt : a.block < W.heap.size := by
      obtain ⟨v, hv, _⟩ := key 0 0 a0 (by rw [hl0]; rfl) hk0
      exact cell_lt hv
    have := HasV.slice (w := W) (S := Sh0) none k (l.map f) a.block a.off cap (fun j => (W.cell? ⟨a.block, a.off + j, none⟩).getD undef) hk0 (by omega) (by omega) hsz
      (fun c hcm => by
        obtain ⟨j, hj⟩ := List.mem_iff_getElem?.1 hcm
        obtain ⟨v, _, _, h⟩ := hfl j c hj; exact h)
      ⟨hlt, fun h => h, by simp [Sh0], fun id k mk h => by simp [Sh0] at h, ⟨_, Nat.le_refl _, trivial⟩⟩ trivial
      (fun j c hj => by obtain ⟨v, hv, _⟩ := hfl j c hj; simp [hv])
      (fun j c hj => by obtain ⟨v, hv, h, _⟩ := hfl j c hj; simpa [hv] using h)
    rw [hes, ← hspot] at this
    exact this
theorem rd_slice {N t e k : Nat} (ht : P.underlying t = some (.slice e)) (hk : P.cellsOf e = k) (hk0 : 0 < k) (hb : 1 ≤ P.bytesOf e) {α : Type} {f : α → D} (hc : ∀ a, (f a).cells.length = k)
    (h : Rd enc P W N e fun a => (f a).cells) : Rd enc P W (N + 1) t (fun s : Sl α => [sl k f s]) := by
  intro fuel cs x hf hx hw
  rcases DataW.trod_slice ht hx with ⟨rfl, rfl⟩ | ⟨a, len, cap, elems, rest, n, rfl, rfl, rfl, _, hl, hm, hlen, hel, hsp, _⟩
  · exact ⟨⟨none, by simp⟩, hasC_one .nil rfl⟩
  have hsp := (hsp rfl).1
  have hw1 : (elems.length + rest.length) * P.bytesOf e ≤ reachBytes := hw _ (by simp only [DataW.weights, ht]; simp)
  have hbig : elems.length ≤ 140737488355328 := by
    have h1 : elems.length * 1 ≤ (elems.length + rest.length) * P.bytesOf e := Nat.mul_le_mul (by omega) hb
    have h2 : reachBytes ≤ 140737488355328 := by decide
    omega
  obtain ⟨l, hll, hlp⟩ := list_of (α := α) (p := fun i a' => ∃ cs', W.cells? 0 (a.add (i * k)) k = some cs' ∧ HasC W Sh0 (f a').cells cs') len fun i hi => by
    have h1 := hel i hi
    obtain ⟨y, hy⟩ : ∃ y, elems[i]? = some y := ⟨_, List.getElem?_eq_getElem (by omega)⟩
    rw [hy] at h1
    obtain ⟨cs', h2, h3⟩ := Option.bind_eq_some_iff.1 h1
    rw [hk] at h2
    obtain ⟨a', ha'⟩ := h n cs' y (by omega) h3 fun m hm => hw m (by
      simp only [DataW.weights, ht]
      refine List.mem_cons_of_mem _ (List.mem_append_left _ (weightsAll_mem (i := i) (d := y.1) ?_ m hm))
      simp [hy])
    exact ⟨a', cs', h2, ha'⟩
  refine ⟨⟨some l, by show l.length < _; omega⟩, hasC_one ?_ rfl⟩
  show HasV W Sh0 (.slice none k (l.map f)) _
  rw [← hll]
  exact slice_core hk0 hc (by omega) (by omega) hlp
/-- A slice of strings, its elements known. -/
theorem strs_known {base fuel t e : Nat} {spare : Nat → Bool} {held : Bool} (ht : P.underlying t = some (.slice e)) (he : P.underlying e = some .string) (hk : P.cellsOf e = 1) {cs : List Value} {l : List (List UInt8)} {sp : List (DataW H)} {ps : List MemPlace}
    (hbig : l.length ≤ 140737488355328) (hx : DataW.trod enc P W base spare held fuel t cs = some (.slice (l.map fun s => .lit (.string s)) sp, ps)) : HasC W Sh0 [.slice none 1 (l.map .str)] cs := by
  rcases DataW.trod_slice ht hx with ⟨_, h⟩ | ⟨a, len, cap, elems, rest, n, rfl, rfl, h, _, hl, hm, hlen, hel, _, _⟩
  · cases h
  have h1 : (l.map fun s => (.lit (.string s) : DataW H)) = elems.map (·.1) := by
    have := congrArg Prod.fst h
    simpa using (DataW.slice.inj this).1
  have hll : l.length = len := by
    have := congrArg List.length h1
    simp at this; omega
  rw [← hll]
  refine hasC_one (slice_core (base := base) (k := 1) (by omega) (f := D.str) (fun _ => rfl) (by omega) hbig fun i s hs => ?_) rfl
  have hi : i < len := by rw [← hll]; exact (List.getElem?_eq_some_iff.1 hs).1
  have h2 := hel i hi
  obtain ⟨y, hy⟩ : ∃ y, elems[i]? = some y := ⟨_, List.getElem?_eq_getElem (by omega)⟩
  rw [hy] at h2
  obtain ⟨cs', h3, h4⟩ := Option.bind_eq_some_iff.1 h2
  rw [hk] at h3
  obtain ⟨b, rfl, hb, _⟩ := DataW.trod_string he h4
  have h5 := congrArg (fun z => z[i]?) h1
  simp only [List.getElem?_map, hs, hy, Option.map_some, hb] at h5
  have h6 : s = b.data.toList := by
    have := Option.some.inj h5
    cases this; rfl
  subst h6
  exact ⟨_, h3, hasC_one (by have := HasV.str (w := W) (S := Sh0) b.data.toList; simpa using this) rfl⟩
/-- The fields of a struct from an offset on. -/
def RdF (enc : TypeId × Value → H) (P : Program) (W : World) (N : Nat) (fs : List Field) (off len : Nat) {α : Type} (c : α → List D) : Prop :=
  ∀ (n : Nat) (cs : List Value) (xs : List (DataW H × List MemPlace)), n < N → cs.length = len → xs.length = fs.length →
    (∀ (i : Nat) (f : Field), fs[i]? = some f → DataW.trod enc P W 0 (fun _ => true) true n f.type ((cs.drop f.offset).take (P.cellsOf f.type)) = xs[i]?) →
    (∀ (i : Nat) (f : Field) (x : DataW H × List MemPlace), fs[i]? = some f → xs[i]? = some x → ∀ m ∈ x.1.weights P f.type, m ≤ reachBytes) → ∃ a : α, HasC W Sh0 (c a) (cs.drop off)
theorem HasC.append {w : World} {S : Sh} {a b : List D} {x y : List Value} (h : HasC w S a x) (k : HasC w S b y) : HasC w S (a ++ b) (x ++ y) := by
  refine ⟨⟨by simp [h.len, k.len], fun j c v hc hv => ?_⟩, fun c hc => (List.mem_append.1 hc).elim (h.cell c) (k.cell c)⟩
  by_cases hj : j < a.length
  · rw [List.getElem?_append_left hj] at hc
    rw [List.getElem?_append_left (by rw [← h.len]; exact hj)] at hv
    exact h.at_ j c v hc hv
  · rw [List.getElem?_append_right (by omega)] at hc
    rw [List.getElem?_append_right (by rw [← h.len]; omega)] at hv
    exact k.at_ _ c v hc (by rw [h.len]; exact hv)
theorem rdf_nil {N off : Nat} : RdF enc P W N [] off off (fun _ : Unit => []) := by
  intro n cs xs _ hl _ _ _
  refine ⟨(), ?_⟩
  rw [List.drop_eq_nil_of_le (by omega)]
  exact ⟨⟨rfl, fun j c v hc => by simp at hc⟩, fun c hc => by simp at hc⟩
theorem rdf_cons {N off len k : Nat} {f : Field} {fs : List Field} {α β : Type} {c : α → List D} {c' : β → List D} (ho : f.offset = off) (hk : P.cellsOf f.type = k)
    (h : Rd enc P W N f.type c) (hr : RdF enc P W N fs (off + k) len c') : RdF enc P W N (f :: fs) off len (fun p : α × β => c p.1 ++ c' p.2) := by
  intro n cs xs hn hl hx ht hw
  cases xs with
  | nil => simp at hx
  | cons x xs =>
    have h0 := ht 0 f rfl
    obtain ⟨a, ha⟩ := h n _ x hn h0 (hw 0 f x rfl rfl)
    obtain ⟨b, hb⟩ := hr n cs xs hn hl (by simpa using hx) (fun i g hg => by simpa using ht (i + 1) g (by simpa using hg)) (fun i g y hg hy => hw (i + 1) g y (by simpa using hg) (by simpa using hy))
    refine ⟨(a, b), ?_⟩
    have := ha.append hb
    rw [ho, hk, ← List.drop_drop, List.take_append_drop] at this
    exact this
theorem rd_struct {N t len : Nat} {fs : Array Field} (ht : P.underlying t = some (.struct fs)) (hl : P.cellsOf t = len) {α : Type} {c : α → List D} (h : RdF enc P W N fs.toList 0 len c) : Rd enc P W (N + 1) t c := by
  intro fuel cs x hf hx hw
  obtain ⟨xs, n, rfl, rfl, h1, h2, h3⟩ := DataW.trod_struct ht hx
  have := h n cs xs (by omega) (by omega) (by simpa using h2) (fun i f hi => h3 i f (by simpa using hi)) (fun i f y hi hy m hm => hw m (by
    simp only [DataW.weights, ht]
    exact weightsEach_mem (i := i) (t := f.type) (d := y.1) (by simp [show fs[i]? = some f by simpa using hi]) (by simp [hy]) m hm))
  simpa using this
end
end Go.Eng
