/- A part of the proof: see the last text. -/
import Derived.Test.YtcfmjomniaopcaaGreatDoorR2RefV
import Derived.Test.YtcfmjomniaopcaaGreatDoorR2PlainA
import Derived.Test.YtcfmjomniaopcaaGreatDoorR2Bld21
set_option linter.unusedSimpArgs false
set_option linter.unusedVariables false
/- A schema is valid exactly if the reference builds it out of its definitions. -/
namespace Go.Eng
open Go Go.Proofs
theorem dupF_iff {α : Type} {e : α → α → Bool} (he : ∀ a b, e a b = true ↔ a = b) : ∀ (l seen : List α), dupF e seen l = false ↔ (∀ a ∈ l, a ∉ seen) ∧ l.Nodup
  | [], seen => ⟨fun _ => ⟨fun a h => (by cases h), List.nodup_nil⟩, fun _ => rfl⟩
  | a :: r, seen => by
    rw [dupF, Bool.or_eq_false_iff, dupF_iff he r]
    have h0 : (seen.any fun s => e a s) = false ↔ a ∉ seen := by
      rw [← Bool.not_eq_true, List.any_eq_true]
      constructor
      · intro h hm; exact h ⟨a, hm, (he a a).2 rfl⟩
      · rintro h ⟨b, hb, hab⟩; rw [(he a b).1 hab] at h; exact h hb
    rw [h0, List.nodup_cons]
    constructor
    · rintro ⟨h1, h2, h3⟩
      refine ⟨fun b hb => ?_, fun h => h2 a h (List.mem_append_right _ (List.mem_singleton.2 rfl)), h3⟩
      rcases List.mem_cons.1 hb with rfl | hb
      · exact h1
      · exact fun h => h2 b hb (List.mem_append_left _ h)
    · rintro ⟨h1, h2, h3⟩
      refine ⟨h1 a List.mem_cons_self, fun b hb h => ?_, h3⟩
      rcases List.mem_append.1 h with h | h
      · exact h1 b (List.mem_cons_of_mem _ hb) h
      · rw [List.mem_singleton.1 h] at hb; exact h2 hb
theorem dupS_iff (l : List Str) : dupS l = false ↔ l.Nodup := by
  have := dupF_iff (e := fun a b : Str => a == b) (fun a b => beq_iff_eq) l []
  unfold dupS
  rw [this]
  exact ⟨fun h => h.2, fun h => ⟨fun a _ h => (by cases h), h⟩⟩
theorem dupI_iff (l : List I64) : dupI l = false ↔ l.Nodup := by
  have := dupF_iff (e := fun a b : I64 => a.1 == b.1) (fun a b => ⟨fun h => Subtype.ext (by simpa using h), fun h => by rw [h]; simp⟩) l []
  unfold dupI
  rw [this]
  exact ⟨fun h => h.2, fun h => ⟨fun a _ h => (by cases h), h⟩⟩
theorem fnd_nodup {α β : Type} (f : α → β) (p : α → Bool) : ∀ (l : List α) (i k : Nat) (a : α), (∀ x, p x = true ↔ f x = f a) → (l.map f).Nodup → l[k]? = some a → fnd p i l = some (i + k)
  | [], _, k, a, _, _, h => by simp at h
  | b :: r, i, 0, a, hp, _, h => by
    have h : b = a := by simpa using h
    subst h
    rw [fnd, (hp b).2 rfl]; rfl
  | b :: r, i, k + 1, a, hp, hn, h => by
    rw [List.map_cons, List.nodup_cons] at hn
    have hr : r[k]? = some a := by simpa using h
    have hb : p b = false := by
      cases e : p b with
      | false => rfl
      | true => exact absurd (List.mem_map.2 ⟨a, List.mem_of_getElem? hr, ((hp b).1 e).symm⟩) hn.1
    rw [fnd, hb]
    simp only
    rw [fnd_nodup f p r (i + 1) k a hp hn.2 hr]
    congr 1; omega
theorem nums_names {cols : List Col} (hc : cols.length < 4611686018427387904) (hn : (cols.map (·.name)).Nodup) : ∀ (l acc : List I64), inC cols l → numsL cols acc (l.map (nameAt cols)) = some (acc ++ l)
  | [], acc, _ => by simp [numsL]
  | x :: l, acc, h => by
    obtain ⟨c, hx⟩ := h x List.mem_cons_self
    obtain ⟨k, hk, hck⟩ := atI_get hx
    have hf : fnd (fun c' : Col => c'.name == c.name) 0 cols = some (0 + k) := fnd_nodup (fun c : Col => c.name) _ cols 0 k c (fun x => beq_iff_eq) hn hck
    have hlt := (List.getElem?_eq_some_iff.1 hck).1
    have hx' : iN k = x := Subtype.ext (by rw [iN_1 (by omega), hk])
    rw [List.map_cons, numsL, nameAt_some hx, hf, Nat.zero_add]
    simp only
    rw [hx', nums_names hc hn l _ fun y hy => h y (List.mem_cons_of_mem _ hy)]
    simp
theorem names_inj {cols : List Col} (hc : cols.length < 4611686018427387904) (hn : (cols.map (·.name)).Nodup) {a b : List I64} (ha : inC cols a) (hb : inC cols b) (h : a.map (nameAt cols) = b.map (nameAt cols)) : a = b := by
  have h1 := nums_names hc hn a [] ha
  have h2 := nums_names hc hn b [] hb
  rw [h, h2] at h1
  simpa using h1.symm
theorem dup_names {cols : List Col} (hc : cols.length < 4611686018427387904) (hn : (cols.map (·.name)).Nodup) {l : List I64} (h : inC cols l) : dupS (l.map (nameAt cols)) = dupI l := by
  have key : dupS (l.map (nameAt cols)) = false ↔ dupI l = false := by
    rw [dupS_iff, dupI_iff]
    unfold List.Nodup
    rw [List.pairwise_map]
    constructor
    · exact fun h => h.imp fun hab e => hab (by rw [e])
    · intro hp
      refine hp.imp_of_mem fun {a b} ha hb hab e => hab ?_
      have := names_inj hc hn (a := [a]) (b := [b]) (fun x hx => by rw [List.mem_singleton.1 hx]; exact h a ha) (fun x hx => by rw [List.mem_singleton.1 hx]; exact h b hb) (by simp [e])
      simpa using this
  cases h1 : dupS (l.map (nameAt cols)) <;> cases h2 : dupI l <;> simp_all
theorem eqS_iff : ∀ {a b : List Str}, eqS a b = true ↔ a = b
  | [], [] => ⟨fun _ => rfl, fun _ => rfl⟩
  | [], _ :: _ => ⟨fun h => (by cases h), fun h => (by cases h)⟩
  | _ :: _, [] => ⟨fun h => (by cases h), fun h => (by cases h)⟩
  | x :: a, y :: b => by
    show ((x == y) && eqS a b) = true ↔ _
    rw [Bool.and_eq_true, eqS_iff (a := a) (b := b), beq_iff_eq, List.cons.injEq]
theorem eqI_iff {a b : List I64} : eqI a b = true ↔ a = b := ⟨eqI_eq, fun h => by rw [h]; exact eqI_self b⟩
theorem eq_names {cols : List Col} (hc : cols.length < 4611686018427387904) (hn : (cols.map (·.name)).Nodup) {a b : List I64} (ha : inC cols a) (hb : inC cols b) : eqS (a.map (nameAt cols)) (b.map (nameAt cols)) = eqI a b := by
  have key : eqS (a.map (nameAt cols)) (b.map (nameAt cols)) = true ↔ eqI a b = true := by
    rw [eqS_iff, eqI_iff]
    exact ⟨names_inj hc hn ha hb, fun h => by rw [h]⟩
  cases h1 : eqS (a.map (nameAt cols)) (b.map (nameAt cols)) <;> cases h2 : eqI a b <;> simp_all
theorem kn_items (t : Tbl) (k : Sl I64) : (kn t k).items = k.items.map (nameAt t.cols.items) := by
  unfold kn; rw [cn_items (by rw [List.length_map]; exact k.lt)]
/-- Keys without repetitions, pairwise different. -/
def KeysN (l : List (Sl I64)) : Prop := (∀ k ∈ l, dupI k.items = false) ∧ KeysD l
theorem kdF_iff : ∀ (l seen : List (Sl Str)), kdF seen l = false ↔ (∀ k ∈ l, dupS k.items = false ∧ ∀ o ∈ seen, k.items ≠ o.items) ∧ l.Pairwise (fun a b => a.items ≠ b.items)
  | [], seen => ⟨fun _ => ⟨fun k hk => (by simp at hk), List.Pairwise.nil⟩, fun _ => rfl⟩
  | k :: r, seen => by
    rw [kdF, Bool.or_eq_false_iff, Bool.or_eq_false_iff, kdF_iff r]
    have h0 : (seen.any fun o => eqS k.items o.items) = false ↔ ∀ o ∈ seen, k.items ≠ o.items := by
      rw [← Bool.not_eq_true, List.any_eq_true]
      constructor
      · intro h o ho e; exact h ⟨o, ho, eqS_iff.2 e⟩
      · rintro h ⟨o, ho, e⟩; exact h o ho (eqS_iff.1 e)
    rw [h0, List.pairwise_cons]
    constructor
    · rintro ⟨⟨h1, h2⟩, h3, h4⟩
      refine ⟨fun q hq => ?_, fun q hq e => (h3 q hq).2 k (List.mem_append_right _ List.mem_cons_self) e.symm, h4⟩
      rcases List.mem_cons.1 hq with rfl | hq
      · exact ⟨h1, h2⟩
      · exact ⟨(h3 q hq).1, fun o ho => (h3 q hq).2 o (List.mem_append_left _ ho)⟩
    · rintro ⟨h1, h2, h3⟩
      refine ⟨h1 k List.mem_cons_self, fun q hq => ⟨(h1 q (List.mem_cons_of_mem _ hq)).1, fun o ho => ?_⟩, h3⟩
      rcases List.mem_append.1 ho with ho | ho
      · exact (h1 q (List.mem_cons_of_mem _ hq)).2 o ho
      · rw [List.mem_singleton.1 ho]; exact fun e => h2 q hq e.symm
theorem kdF_keys (t : Tbl) (hn : (t.cols.items.map (·.name)).Nodup) (hin : ∀ k ∈ t.keys.items, inC t.cols.items k.items) : kdF [] (t.keys.items.map (kn t)) = false ↔ KeysN t.keys.items := by
  rw [kdF_iff, List.pairwise_map]
  unfold KeysN KeysD
  refine and_congr ⟨fun h k hk => ?_, fun h k hk => ?_⟩ ⟨fun h => ?_, fun h => ?_⟩
  · have := (h (kn t k) (List.mem_map_of_mem hk)).1
    rwa [kn_items, dup_names t.cols.lt hn (hin k hk)] at this
  · obtain ⟨k0, h0, rfl⟩ := List.mem_map.1 hk
    refine ⟨?_, fun o ho => (by cases ho)⟩
    rw [kn_items, dup_names t.cols.lt hn (hin k0 h0)]; exact h k0 h0
  · refine h.imp_of_mem fun {a b} ha hb hab e => hab ?_
    rw [kn_items, kn_items, e]
  · refine h.imp_of_mem fun {a b} ha hb hab e => hab ?_
    rw [kn_items, kn_items] at e
    exact names_inj t.cols.lt hn (hin a ha) (hin b hb) e
theorem keysV_iff {cols : List Col} : ∀ (l seen : List (Sl I64)), keysV cols seen l = true ↔ (∀ k ∈ l, cofB cols k.items = true ∧ ∀ o ∈ seen, k.items ≠ o.items) ∧ KeysD l
  | [], seen => ⟨fun _ => ⟨fun k hk => (by simp at hk), List.Pairwise.nil⟩, fun _ => rfl⟩
  | k :: r, seen => by
    rw [keysV, Bool.and_eq_true, Bool.and_eq_true, keysV_iff r, Bool.not_eq_true']
    have h0 : (seen.any fun o => eqI k.items o.items) = false ↔ ∀ o ∈ seen, k.items ≠ o.items := by
      rw [← Bool.not_eq_true, List.any_eq_true]
      constructor
      · intro h o ho e; exact h ⟨o, ho, eqI_iff.2 e⟩
      · rintro h ⟨o, ho, e⟩; exact h o ho (eqI_iff.1 e)
    unfold KeysD
    rw [h0, List.pairwise_cons]
    constructor
    · rintro ⟨⟨h1, h2⟩, h3, h4⟩
      refine ⟨fun q hq => ?_, fun q hq e => (h3 q hq).2 k (List.mem_append_right _ List.mem_cons_self) e.symm, h4⟩
      rcases List.mem_cons.1 hq with rfl | hq
      · exact ⟨h1, h2⟩
      · exact ⟨(h3 q hq).1, fun o ho => (h3 q hq).2 o (List.mem_append_left _ ho)⟩
    · rintro ⟨h1, h2, h3⟩
      refine ⟨h1 k List.mem_cons_self, fun q hq => ⟨(h1 q (List.mem_cons_of_mem _ hq)).1, fun o ho => ?_⟩, h3⟩
      rcases List.mem_append.1 ho with ho | ho
      · exact (h1 q (List.mem_cons_of_mem _ hq)).2 o ho
      · rw [List.mem_singleton.1 ho]; exact fun e => h2 q hq e.symm
theorem cof_iff {cols : List Col} {l : List I64} (h : l.all (inB cols.length) = true) : cofB cols l = true ↔ l ≠ [] ∧ dupI l = false := by
  unfold cofB
  rw [h, Bool.and_true, Bool.and_eq_true, Bool.not_eq_true', decide_eq_true_eq]
  refine and_congr ⟨fun h e => by rw [e] at h; simp at h, fun h => ?_⟩ Iff.rfl
  cases l with
  | nil => exact absurd rfl h
  | cons a r => simp only [List.length_cons]; omega
/-- The table as built, and as it was. -/
structure Alk (t' t : Tbl) : Prop where
  name : t'.name = t.name
  cols : t'.cols = t.cols
  keys : t'.keys.items.map Sl.items = t.keys.items.map Sl.items
  fgns : AlikeL AlikeF t'.fgns.items t.fgns.items
  checks : t'.checks = t.checks
end Go.Eng
/- One step of the reference's Build, on a definition. -/
namespace Go.Eng
open Go Go.Proofs
theorem fnd_append {α : Type} (p : α → Bool) : ∀ (a b : List α) (i : Nat), fnd p i (a ++ b) = match fnd p i a with | some j => some j | none => fnd p (i + a.length) b
  | [], b, i => rfl
  | x :: a, b, i => by
    rw [List.cons_append, fnd, fnd]
    cases p x with
    | true => rfl
    | false =>
      simp only
      rw [fnd_append p a b (i + 1), List.length_cons, show i + 1 + a.length = i + (a.length + 1) by omega]
theorem keysD_iff (l : List (Sl I64)) : KeysD l ↔ (l.map Sl.items).Nodup := by
  unfold KeysD List.Nodup
  rw [List.pairwise_map]
/-- First places: pairwise different. -/
theorem nodup_first {α β : Type} [BEq β] [LawfulBEq β] (f : α → β) {l : List α} {k : Nat} (h : ∀ (i : Nat) (u : α), i < k → l[i]? = some u → fnd (fun x => f x == f u) 0 l = some i) : ((l.take k).map f).Nodup := by
  unfold List.Nodup
  rw [List.pairwise_iff_getElem]
  intro i j hi hj hij e
  simp only [List.length_map, List.length_take] at hi hj
  simp only [List.getElem_map, List.getElem_take] at e
  have h1 := h i l[i] (by omega) (List.getElem?_eq_getElem (by omega))
  have h2 := h j l[j] (by omega) (List.getElem?_eq_getElem (by omega))
  rw [e, h2] at h1
  have : j = i := by simpa using h1
  omega
theorem keysL_kn (t : Tbl) (hn : (t.cols.items.map (·.name)).Nodup) : ∀ (l acc : List (Sl I64)), (∀ k ∈ l, inC t.cols.items k.items) → keysL t.cols.items acc (l.map (kn t)) = some (acc ++ l.map fun k => cn k.items)
  | [], acc, _ => by simp [keysL]
  | k :: l, acc, h => by
    have h1 := nums_names t.cols.lt hn k.items [] (h k List.mem_cons_self)
    rw [List.map_cons, keysL, kn_items, h1]
    simp only [List.nil_append]
    rw [keysL_kn t hn l _ fun q hq => h q (List.mem_cons_of_mem _ hq)]
    simp
/-- The types of a foreign key's columns. -/
def typV (s : List Tbl) (t : Tbl) (f : Fgn) : Bool := match atI s f.table.1 with
  | some u => (match atI u.keys.items f.key.1 with
    | some z => typF u.cols.items t.cols.items z.items f.cols.items
    | none => false)
  | none => false
theorem fgsR_all {s all : List Tbl} {t : Tbl} {cols : List Col} : ∀ (l : List Fgn), (∀ f ∈ l, ∃ g u b, fgnOf lastOf all cols (fgS s t f) = some (g, u, b) ∧ AlikeF g f ∧ typF cols u.cols.items g.cols.items b = typV s t f) → ∀ (acc : List Fgn) (e : Int),
    ∃ new, fgsR all cols acc e (l.map (fgS s t)) = some (acc ++ new, bif l.all (typV s t) then e else 6) ∧ AlikeL AlikeF new l
  | [], _, acc, e => ⟨[], by simp [fgsR], rfl, fun i x y h => by simp at h⟩
  | f :: l, h, acc, e => by
    obtain ⟨g, u, b, h1, h2, h3⟩ := h f List.mem_cons_self
    rw [List.map_cons, fgsR, h1]
    simp only [h3]
    obtain ⟨new, g1, g2, g3⟩ := fgsR_all l (fun f hf => h f (List.mem_cons_of_mem _ hf)) (acc ++ [g]) (bif typV s t f then e else 6)
    refine ⟨g :: new, ?_, by simp [g2], fun i x y hx hy => ?_⟩
    · rw [g1]
      simp only [List.append_assoc, List.singleton_append, Option.some.injEq, Prod.mk.injEq, true_and, List.all_cons]
      cases typV s t f <;> cases l.all (typV s t) <;> rfl
    · cases i with
      | zero => simp at hx hy; subst hx; subst hy; exact h2
      | succ i => exact g3 i x y (by simpa using hx) (by simpa using hy)
theorem validB_iff {s : List Tbl} {n : Nat} {t : Tbl} : validB s n t = true ↔ (nameB t.name = true ∧ 1 ≤ t.cols.items.length ∧ t.cols.items.length ≤ 8 ∧ t.keys.items.length ≤ 4 ∧ t.fgns.items.length ≤ 4 ∧ t.checks.items.length ≤ 4) ∧ fnd (fun u : Tbl => u.name == t.name) 0 s = some n ∧ t.cols.items.all colB = true ∧ (t.cols.items.map (·.name)).Nodup ∧ keysV t.cols.items [] t.keys.items = true ∧ t.fgns.items.all (fgV s n t) = true := by
  unfold validB headV
  simp only [Bool.and_eq_true, decide_eq_true_eq, Bool.not_eq_true', dupS_iff]
/-- A foreign key whose numbers exist. -/
theorem fgV_iff {s : List Tbl} {k : Nat} {t u : Tbl} {z : Sl I64} {f : Fgn} (hi : insF s k t f = true) (hu : atI s f.table.1 = some u) (hz : atI u.keys.items f.key.1 = some z) (hin : z.items.all (inB u.cols.items.length) = true) (hd : dupI z.items = false) :
    fgV s k t f = true ↔ (f.cols.items ≠ [] ∧ dupI f.cols.items = false) ∧ f.cols.items.length = z.items.length ∧ typV s t f = true := by
  simp only [insF, Bool.and_eq_true, decide_eq_true_eq] at hi
  obtain ⟨g1, g2, g3, g4, _⟩ := hi
  unfold fgV typV
  simp only [hu, hz, Bool.and_eq_true, decide_eq_true_eq, beq_iff_eq]
  rw [cof_iff g1, cof_iff hin]
  constructor
  · rintro ⟨h1, _, _, _, h2, _, h3⟩; exact ⟨h1, by omega, h3⟩
  · rintro ⟨h1, h2, h3⟩
    refine ⟨h1, g2, g3, g4, by omega, ⟨fun e => h1.1 ?_, hd⟩, h3⟩
    rw [e] at h2
    exact List.eq_nil_of_length_eq_zero (by simpa using h2)
theorem step_def {s r : List Tbl} {k : Nat} {t : Tbl} (hs : ∀ t ∈ s, SmallT t) (hins : insL s 0 s = true) (ht : s[k]? = some t) (hr : r.length = k) (ha : ∀ (i : Nat) (t' u : Tbl), r[i]? = some t' → s[i]? = some u → Alk t' u)
    (hv : ∀ (i : Nat) (u : Tbl), i < k → s[i]? = some u → validB s i u = true) :
    (∃ t', stepR r (defS s t) = .ok t' ∧ Alk t' t ∧ validB s k t = true ∧ k < 8) ∨ ∃ e, stepR r (defS s t) = .error e ∧ (e == 0) = false ∧ (validB s k t = false ∨ 8 ≤ k) := by
  have hks : k < s.length := (List.getElem?_eq_some_iff.1 ht).1
  obtain ⟨hk1, hf1⟩ := insL_ok hs hins ht
  obtain ⟨hb1, hb2⟩ := insL_at s 0 hins k t ht
  rw [Nat.zero_add] at hb2
  have hxk : (defS s t).keys.items = t.keys.items.map (kn t) := cn_items (by rw [List.length_map]; exact t.keys.lt)
  have hxf : (defS s t).fgns.items = t.fgns.items.map (fgS s t) := cn_items (by rw [List.length_map]; exact t.fgns.lt)
  unfold stepR
  rw [show ((defS s t).kind.1 != 1) = false from rfl, cond_false, hr]
  by_cases h8 : 8 ≤ k
  · rw [decide_eq_true h8]; exact .inr ⟨3, rfl, rfl, .inr h8⟩
  rw [decide_eq_false h8, Bool.false_or]
  -- sizes
  have hbg : bigB (defS s t) = true → validB s k t = false := fun h => by
    rw [← Bool.not_eq_true]
    intro hV
    obtain ⟨⟨_, _, h1, h2, h3, h4⟩, _⟩ := validB_iff.1 hV
    unfold bigB at h
    rw [hxk, hxf, List.length_map, List.length_map] at h
    simp only [Bool.or_eq_true, decide_eq_true_eq] at h
    have e1 : (defS s t).cols.items.length = t.cols.items.length := rfl
    have e2 : (defS s t).checks.items.length = t.checks.items.length := rfl
    omega
  cases hbig : bigB (defS s t) with
  | true => exact .inr ⟨3, rfl, rfl, .inl (hbg hbig)⟩
  | false =>
    rw [cond_false]
    have hsz : t.cols.items.length ≤ 8 ∧ t.keys.items.length ≤ 4 ∧ t.fgns.items.length ≤ 4 ∧ t.checks.items.length ≤ 4 := by
      unfold bigB at hbig
      rw [hxk, hxf, List.length_map, List.length_map] at hbig
      simp only [Bool.or_eq_false_iff, decide_eq_false_iff_not] at hbig
      have e1 : (defS s t).cols.items.length = t.cols.items.length := rfl
      have e2 : (defS s t).checks.items.length = t.checks.items.length := rfl
      omega
    -- names
    have hnm : r.map (·.name) = (s.take k).map (·.name) := by
      apply List.ext_getElem?
      intro i
      rw [List.getElem?_map, List.getElem?_map]
      by_cases hi : i < k
      · obtain ⟨t', ht'⟩ : ∃ t', r[i]? = some t' := ⟨_, List.getElem?_eq_getElem (by omega)⟩
        obtain ⟨u, hu⟩ : ∃ u, s[i]? = some u := ⟨_, List.getElem?_eq_getElem (by omega)⟩
        rw [List.getElem?_take_of_lt hi, ht', hu]
        simp [(ha i t' u ht' hu).name]
      · rw [List.getElem?_eq_none (by omega), List.getElem?_eq_none (by rw [List.length_take]; omega)]
    have hfs : fnd (fun u : Tbl => u.name == t.name) 0 s = some k ↔ fnd (fun u : Tbl => u.name == t.name) 0 r = none := by
      have e1 := fnd_map (fun u : Tbl => u.name) (fun n => n == t.name) s 0
      have e2 := fnd_map (fun u : Tbl => u.name) (fun n => n == t.name) r 0
      have e3 : s.map (fun u : Tbl => u.name) = r.map (fun u : Tbl => u.name) ++ t.name :: (s.drop (k + 1)).map (fun u : Tbl => u.name) := by
        rw [hnm, ← List.map_cons (f := fun u : Tbl => u.name), ← List.map_append, ← dropc ht, List.take_append_drop]
      rw [e1, e2, e3, fnd_append]
      cases hf : fnd (fun n => n == t.name) 0 (r.map fun u : Tbl => u.name) with
      | none =>
        simp only
        rw [fnd, show (t.name == t.name) = true by simp, List.length_map, hr]
        simp
      | some j =>
        have hj := fnd_lt hf
        rw [List.length_map] at hj
        simp only [Option.some.injEq, reduceCtorEq, iff_false]
        omega
    -- what is nice about the tables before
    have hnice0 : ∀ (i : Nat) (u : Tbl), i < k → s[i]? = some u → (u.cols.items.map (·.name)).Nodup ∧ KeysN u.keys.items := fun i u hi hu => by
      obtain ⟨_, _, _, h1, h2, _⟩ := validB_iff.1 (hv i u hi hu)
      obtain ⟨h3, h4⟩ := (keysV_iff _ _).1 h2
      refine ⟨h1, fun z hz => ?_, h4⟩
      have := (h3 z hz).1
      simp only [cofB, Bool.and_eq_true, Bool.not_eq_true'] at this
      exact this.2.1
    have hkeyin : ∀ (i : Nat) (u : Tbl), s[i]? = some u → ∀ z ∈ u.keys.items, z.items.all (inB u.cols.items.length) = true := fun i u hu z hz => List.all_eq_true.1 (insL_at s 0 hins i u hu).1 z hz
    -- what the checks of the statement say
    have hokI : okB (defS s t) = true ↔ nameB t.name = true ∧ 1 ≤ t.cols.items.length ∧ t.cols.items.all colB = true ∧ (∀ z ∈ t.keys.items, z.items ≠ []) ∧ ∀ f ∈ t.fgns.items, f.cols.items ≠ [] ∧ f.cols.items.length = (fgS s t f).refs.items.length := by
      unfold okB
      rw [hxk, hxf]
      simp only [Bool.and_eq_true, Bool.not_eq_true', beq_eq_false_iff_ne, List.all_eq_true, List.mem_map, forall_exists_index, and_imp, forall_apply_eq_imp_iff₂]
      refine and_congr Iff.rfl (and_congr ?_ (and_congr Iff.rfl (and_congr ?_ ?_)))
      · show ¬ ((t.cols.items.length : Int) = 0) ↔ _
        omega
      · refine forall_congr' fun z => forall_congr' fun hz => ?_
        unfold neB
        rw [kn_len]
        simp only [Bool.not_eq_true', beq_eq_false_iff_ne]
        cases z.items <;> simp
        omega
      · refine forall_congr' fun f => forall_congr' fun hf => ?_
        obtain ⟨_, u, z, h1, h2, _⟩ := hf1 f hf
        unfold fgB
        simp only [fgS, h1, h2, kn_len, Bool.and_eq_true, Bool.not_eq_true', beq_eq_false_iff_ne, beq_iff_eq]
        refine and_congr ?_ (by omega)
        cases f.cols.items <;> simp
        omega
    have hexI : (t.cols.items.map (·.name)).Nodup → (exB r (defS s t) = false ↔ fnd (fun u : Tbl => u.name == t.name) 0 r = none ∧ KeysN t.keys.items ∧ ∀ f ∈ t.fgns.items, dupI f.cols.items = false) := fun hn => by
      unfold exB
      rw [hxk, hxf]
      simp only [Bool.or_eq_false_iff, kdF_keys t hn hk1]
      have e0 : dupS ((defS s t).cols.items.map (·.name)) = false := (dupS_iff _).2 hn
      simp only [e0, true_and]
      refine and_congr (by rw [Option.isSome_eq_false_iff, Option.isNone_iff_eq_none]; rfl) (and_congr Iff.rfl ?_)
      rw [← Bool.not_eq_true, List.any_eq_true]
      simp only [List.mem_map, not_exists, not_and, Bool.not_eq_true]
      constructor
      · intro h f hf
        obtain ⟨hc, u, z, h1, h2, _⟩ := hf1 f hf
        have := h (fgS s t f) ⟨f, hf, rfl⟩
        simp only [fgS, h1, h2, kn_items] at this
        rwa [dup_names t.cols.lt hn hc] at this
      · rintro h _ ⟨f, hf, rfl⟩
        obtain ⟨hc, u, z, h1, h2, _⟩ := hf1 f hf
        simp only [fgS, h1, h2, kn_items]
        rw [dup_names t.cols.lt hn hc]; exact h f hf
    have hexN : exB r (defS s t) = false → (t.cols.items.map (·.name)).Nodup := fun h => by
      unfold exB at h
      simp only [Bool.or_eq_false_iff] at h
      exact (dupS_iff _).1 h.2.1
    have hkV : keysV t.cols.items [] t.keys.items = true ↔ (∀ z ∈ t.keys.items, z.items ≠ []) ∧ KeysN t.keys.items := by
      rw [keysV_iff]
      unfold KeysN
      constructor
      · rintro ⟨h1, h2⟩
        have h3 : ∀ z ∈ t.keys.items, z.items ≠ [] ∧ dupI z.items = false := fun z hz => (cof_iff (hkeyin k t ht z hz)).1 (h1 z hz).1
        exact ⟨fun z hz => (h3 z hz).1, fun z hz => (h3 z hz).2, h2⟩
      · rintro ⟨h1, h2, h3⟩
        exact ⟨fun z hz => ⟨(cof_iff (hkeyin k t ht z hz)).2 ⟨h1 z hz, h2 z hz⟩, fun o ho => (by cases ho)⟩, h3⟩
    have hfV : (t.cols.items.map (·.name)).Nodup → KeysN t.keys.items → (t.fgns.items.all (fgV s k t) = true ↔ (∀ f ∈ t.fgns.items, f.cols.items ≠ [] ∧ f.cols.items.length = (fgS s t f).refs.items.length) ∧ (∀ f ∈ t.fgns.items, dupI f.cols.items = false) ∧ t.fgns.items.all (typV s t) = true) := fun hn hK => by
      have key : ∀ f ∈ t.fgns.items, (fgV s k t f = true ↔ (f.cols.items ≠ [] ∧ dupI f.cols.items = false) ∧ f.cols.items.length = (fgS s t f).refs.items.length ∧ typV s t f = true) := fun f hf => by
        obtain ⟨hc, u, z, h1, h2, _⟩ := hf1 f hf
        have hi := List.all_eq_true.1 hb2 f hf
        obtain ⟨i, ei, hui⟩ := atI_get h1
        obtain ⟨j, ej, hzj⟩ := atI_get h2
        have hik : i ≤ k := by
          simp only [insF, Bool.and_eq_true, decide_eq_true_eq] at hi
          omega
        have hd : dupI z.items = false := by
          rcases Nat.lt_or_ge i k with h | h
          · exact (hnice0 i u h hui).2.1 z (List.mem_of_getElem? hzj)
          · obtain rfl : i = k := by omega
            rw [ht] at hui; cases hui
            exact hK.1 z (List.mem_of_getElem? hzj)
        rw [fgV_iff hi h1 h2 (hkeyin i u hui z (List.mem_of_getElem? hzj)) hd]
        simp only [fgS, h1, h2, kn_len]
      simp only [List.all_eq_true]
      constructor
      · intro h
        exact ⟨fun f hf => ⟨((key f hf).1 (h f hf)).1.1, ((key f hf).1 (h f hf)).2.1⟩, fun f hf => ((key f hf).1 (h f hf)).1.2, fun f hf => ((key f hf).1 (h f hf)).2.2⟩
      · rintro ⟨h1, h2, h3⟩ f hf
        exact (key f hf).2 ⟨⟨(h1 f hf).1, h2 f hf⟩, (h1 f hf).2, h3 f hf⟩
    have hV : validB s k t = true ↔ okB (defS s t) = true ∧ exB r (defS s t) = false ∧ t.fgns.items.all (typV s t) = true := by
      rw [validB_iff, hokI, hfs, hkV]
      constructor
      · rintro ⟨⟨a1, a2, _⟩, a3, a4, a5, ⟨a6, a7⟩, a8⟩
        obtain ⟨b1, b2, b3⟩ := (hfV a5 a7).1 a8
        exact ⟨⟨a1, a2, a4, a6, b1⟩, (hexI a5).2 ⟨a3, a7, b2⟩, b3⟩
      · rintro ⟨⟨a1, a2, a3, a4, a5⟩, a6, a7⟩
        have hn := hexN a6
        obtain ⟨b1, b2, b3⟩ := (hexI hn).1 a6
        exact ⟨⟨a1, a2, hsz.1, hsz.2.1, hsz.2.2.1, hsz.2.2.2⟩, b1, a3, hn, ⟨a4, b2⟩, (hfV hn b2).2 ⟨a5, b3, a7⟩⟩
    have hno : ¬ (okB (defS s t) = true ∧ exB r (defS s t) = false ∧ t.fgns.items.all (typV s t) = true) → validB s k t = false := fun h => by
      rw [← Bool.not_eq_true, hV]; exact h
    cases hok : okB (defS s t) with
    | false => exact .inr ⟨1, rfl, rfl, .inl (hno fun h => by rw [hok] at h; cases h.1)⟩
    | true =>
      rw [cond_true]
      cases hex : exB r (defS s t) with
      | true => exact .inr ⟨5, rfl, rfl, .inl (hno fun h => by rw [hex] at h; cases h.2.1)⟩
      | false =>
        rw [cond_false]
        have hn := hexN hex
        obtain ⟨b1, b2, b3⟩ := (hexI hn).1 hex
        have hfk := hfs.2 b1
        unfold tabR
        rw [hxk, hxf]
        have hkL : keysL (defS s t).cols.items [] (t.keys.items.map (kn t)) = some (t.keys.items.map fun k => cn k.items) := by
          have := keysL_kn t hn t.keys.items [] hk1
          rw [List.nil_append] at this
          exact this
        rw [hkL]
        simp only
        have hKi : (cn (t.keys.items.map fun k => (cn k.items : Sl I64))).items.map Sl.items = t.keys.items.map Sl.items := by
          rw [cn_items (by rw [List.length_map]; exact t.keys.lt), List.map_map]
          refine List.map_congr_left fun z _ => ?_
          show (cn z.items).items = z.items
          exact cn_items z.lt
        generalize hall : r ++ [(⟨(defS s t).name, (defS s t).cols, cn (t.keys.items.map fun k => cn k.items), nilS, (defS s t).checks⟩ : Tbl)] = all
        have hallN : (all.map fun u : Tbl => u.name).Nodup := by
          have h1 : all.map (fun u : Tbl => u.name) = (s.take (k + 1)).map (fun u : Tbl => u.name) := by
            rw [← hall, List.map_append, hnm, List.take_add_one, ht, List.map_append]; rfl
          rw [h1]
          refine nodup_first _ fun i u hi hu => ?_
          rcases Nat.lt_or_ge i k with h | h
          · exact (validB_iff.1 (hv i u h hu)).2.1
          · obtain rfl : i = k := by omega
            rw [ht] at hu; cases hu
            exact hfk
        have hget : ∀ (i : Nat) (u : Tbl), i ≤ k → s[i]? = some u → ∃ u', all[i]? = some u' ∧ u'.name = u.name ∧ u'.cols = u.cols ∧ u'.keys.items.map Sl.items = u.keys.items.map Sl.items := fun i u hi hu => by
          rcases Nat.lt_or_ge i k with h | h
          · obtain ⟨t', ht'⟩ : ∃ t', r[i]? = some t' := ⟨_, List.getElem?_eq_getElem (by omega)⟩
            have hA := ha i t' u ht' hu
            exact ⟨t', by rw [← hall, List.getElem?_append_left (by omega)]; exact ht', hA.name, hA.cols, hA.keys⟩
          · obtain rfl : i = k := by omega
            rw [ht] at hu; cases hu
            exact ⟨⟨(defS s t).name, (defS s t).cols, cn (t.keys.items.map fun k => cn k.items), nilS, (defS s t).checks⟩, by rw [← hall, List.getElem?_append_right (by omega), hr, Nat.sub_self]; rfl, rfl, rfl, hKi⟩
        have hnice : ∀ (i : Nat) (u : Tbl), i ≤ k → s[i]? = some u → (u.cols.items.map (·.name)).Nodup ∧ KeysN u.keys.items := fun i u hi hu => by
          rcases Nat.lt_or_ge i k with h | h
          · exact hnice0 i u h hu
          · obtain rfl : i = k := by omega
            rw [ht] at hu; cases hu
            exact ⟨hn, b2⟩
        have hsl : s.length < 4611686018427387904 ∨ True := .inr trivial
        have hfg : ∀ f ∈ t.fgns.items, ∃ g u b, fgnOf lastOf all t.cols.items (fgS s t f) = some (g, u, b) ∧ AlikeF g f ∧ typF t.cols.items u.cols.items g.cols.items b = typV s t f := fun f hf => by
          obtain ⟨hc, u, z, h1, h2, h3, _⟩ := hf1 f hf
          have hi := List.all_eq_true.1 hb2 f hf
          obtain ⟨i, ei, hui⟩ := atI_get h1
          obtain ⟨j, ej, hzj⟩ := atI_get h2
          have hik : i ≤ k := by
            simp only [insF, Bool.and_eq_true, decide_eq_true_eq] at hi
            omega
          obtain ⟨u', hu', e1, e2, e3⟩ := hget i u hik hui
          obtain ⟨hun, huk⟩ := hnice i u hik hui
          have n1 := nums_names t.cols.lt hn f.cols.items [] hc
          have n2 := nums_names u.cols.lt hun z.items [] h3
          have n3 : fnd (fun x : Tbl => x.name == u.name) 0 all = some (0 + i) := fnd_nodup (fun u : Tbl => u.name) _ all 0 i u' (fun x => by rw [e1]; exact beq_iff_eq) hallN hu'
          obtain ⟨z', hz', ez⟩ : ∃ z', u'.keys.items[j]? = some z' ∧ z'.items = z.items := by
            have := congrArg (fun l => l[j]?) e3
            simp only [List.getElem?_map, hzj, Option.map_some] at this
            cases hq : u'.keys.items[j]? with
            | none => rw [hq] at this; cases this
            | some z' => rw [hq] at this; exact ⟨z', rfl, by simpa using this⟩
          have hKD : KeysD u'.keys.items := by rw [keysD_iff, e3, ← keysD_iff]; exact huk.2
          have n4 : fnd (fun x : Sl I64 => eqI x.items z.items) 0 u'.keys.items = some (0 + j) := fnd_nodup Sl.items _ u'.keys.items 0 j z' (fun x => by rw [ez]; exact eqI_iff) ((keysD_iff _).1 hKD) hz'
          rw [key_last hKD] at n4
          rw [Nat.zero_add] at n3 n4
          have hi2 : i < 4611686018427387904 := by
            have := f.table.2; rw [ei] at this
            have := (List.getElem?_eq_some_iff.1 hu').1
            rw [← hall] at this
            simp at this
            omega
          have hj2 : j < 4611686018427387904 := by
            have := (List.getElem?_eq_some_iff.1 hzj).1
            have := u.keys.lt
            omega
          refine ⟨⟨cn f.cols.items, iN i, iN j⟩, u', z.items, ?_, ⟨cn_items f.cols.lt, ?_, ?_⟩, ?_⟩
          · unfold fgnOf
            simp only [fgS, h1, h2, kn_items, n1, n3, hu', e2, n2, n4, List.nil_append]
          · show (iN i).1 = f.table.1
            rw [iN_1 hi2, ei]
          · show (iN j).1 = f.key.1
            rw [iN_1 hj2, ej]
          · unfold typV
            simp only [h1, h2, e2]
            rw [cn_items f.cols.lt, typF_swap]
        obtain ⟨new, hn1, hn2⟩ := fgsR_all t.fgns.items hfg [] 0
        rw [show (defS s t).cols.items = t.cols.items from rfl, hn1]
        simp only [List.nil_append]
        cases hty : t.fgns.items.all (typV s t) with
        | false => exact .inr ⟨6, rfl, rfl, .inl (hno fun h => by rw [hty] at h; cases h.2.2)⟩
        | true =>
          refine .inl ⟨_, rfl, ⟨rfl, rfl, hKi, ?_, rfl⟩, hV.2 ⟨hok, hex, hty⟩, by omega⟩
          show AlikeL AlikeF (cn new).items t.fgns.items
          rw [cn_items (by rw [hn2.1]; exact t.fgns.lt)]
          exact hn2
end Go.Eng
/- A schema is valid exactly if it is built out of its definitions. -/
namespace Go.Eng
open Go Go.Proofs
theorem bld_def {s : List Tbl} (hs : ∀ t ∈ s, SmallT t) (hins : insL s 0 s = true) : ∀ (n k : Nat) (r : List Tbl), k + n = s.length → r.length = k → (∀ (i : Nat) (t' u : Tbl), r[i]? = some t' → s[i]? = some u → Alk t' u) →
    (∀ (i : Nat) (u : Tbl), i < k → s[i]? = some u → validB s i u = true) → k ≤ 8 →
    (∃ r', bldF stepR r ((s.drop k).map (defS s)) = .ok r' ∧ r'.length = s.length ∧ (∀ (i : Nat) (t' u : Tbl), r'[i]? = some t' → s[i]? = some u → Alk t' u) ∧ (decide (s.length ≤ 8) && valL s k (s.drop k)) = true) ∨
    ∃ i e, bldF stepR r ((s.drop k).map (defS s)) = .error (i, e) ∧ (e == 0) = false ∧ (decide (s.length ≤ 8) && valL s k (s.drop k)) = false
  | 0, k, r, hk, hr, ha, hv, h8 => by
    rw [List.drop_eq_nil_of_le (by omega)]
    exact .inl ⟨r, rfl, by omega, ha, by rw [decide_eq_true (by omega)]; rfl⟩
  | n + 1, k, r, hk, hr, ha, hv, h8 => by
    obtain ⟨t, ht⟩ : ∃ t, s[k]? = some t := ⟨_, List.getElem?_eq_getElem (by omega)⟩
    rw [dropc ht, List.map_cons, bldF, valL]
    rcases step_def hs hins ht hr ha hv with ⟨t', h1, h2, h3, h4⟩ | ⟨e, h1, h2, h3⟩
    · rw [h1, h3]
      simp only [Bool.true_and]
      refine bld_def hs hins n (k + 1) (r ++ [t']) (by omega) (by simp [hr]) (fun i a u hi hu => ?_) (fun i u hi hu => ?_) (by omega)
      · rcases Nat.lt_or_ge i k with h | h
        · rw [List.getElem?_append_left (by omega)] at hi; exact ha i a u hi hu
        · have hil := (List.getElem?_eq_some_iff.1 hi).1
          obtain rfl : i = k := by simp at hil; omega
          rw [List.getElem?_append_right (by omega), hr, Nat.sub_self] at hi
          have hi : t' = a := by simpa using hi
          rw [ht] at hu; cases hu
          rw [← hi]; exact h2
      · rcases Nat.lt_or_ge i k with h | h
        · exact hv i u h hu
        · obtain rfl : i = k := by omega
          rw [ht] at hu; cases hu
          exact h3
    · rw [h1]
      refine .inr ⟨r.length, e, rfl, h2, ?_⟩
      rcases h3 with h3 | h3
      · rw [h3, Bool.false_and, Bool.and_false]
      · rw [decide_eq_false (by omega), Bool.false_and]
theorem valL_ins {s : List Tbl} : ∀ (l : List Tbl) (k : Nat), valL s k l = true → insL s k l = true
  | [], _, _ => rfl
  | t :: l, k, h => by
    rw [valL, Bool.and_eq_true] at h
    rw [insL, valL_ins l (k + 1) h.2, Bool.and_true, Bool.and_eq_true, List.all_eq_true, List.all_eq_true]
    obtain ⟨_, _, _, _, h1, h2⟩ := validB_iff.1 h.1
    have cof : ∀ {cols : List Col} {l : List I64}, cofB cols l = true → l.all (inB cols.length) = true := fun h => by
      simp only [cofB, Bool.and_eq_true] at h; exact h.2.2
    refine ⟨fun z hz => cof (((keysV_iff _ _).1 h1).1 z hz).1, fun f hf => ?_⟩
    have := List.all_eq_true.1 h2 f hf
    unfold fgV at this
    unfold insF
    rw [Bool.and_eq_true] at this
    rw [cof this.1, Bool.true_and]
    have := this.2
    cases hu : atI s f.table.1 with
    | none => rw [hu] at this; simp at this
    | some u =>
      rw [hu] at this
      simp only at this ⊢
      cases hz : atI u.keys.items f.key.1 with
      | none => rw [hz] at this; simp at this
      | some z =>
        obtain ⟨j, ej, hj⟩ := atI_get hz
        have hlt := (List.getElem?_eq_some_iff.1 hj).1
        rw [hz] at this
        simp only [Bool.and_eq_true, decide_eq_true_eq] at this ⊢
        exact ⟨this.1, this.2.1, this.2.2.1, by omega⟩
theorem valid_same {s : List Tbl} (hs : ∀ t ∈ s, SmallT t) : (decide (s.length ≤ 8) && valL s 0 s) = (insL s 0 s && bOk (bldF stepR [] (s.map (defS s)))) := by
  cases hins : insL s 0 s with
  | false =>
    have : valL s 0 s = false := by
      cases h : valL s 0 s with
      | false => rfl
      | true => rw [valL_ins s 0 h] at hins; cases hins
    rw [this, Bool.and_false]; rfl
  | true =>
    rw [Bool.true_and]
    rcases bld_def hs hins s.length 0 [] (by omega) rfl (fun i t' u h => by simp at h) (fun i u h => by omega) (by omega) with ⟨r', h1, _, _, h2⟩ | ⟨i, e, h1, h2, h3⟩
    · rw [List.drop_zero] at h1 h2
      rw [h1, h2]; rfl
    · rw [List.drop_zero] at h1 h3
      rw [h1, h3]; exact h2.symm
end Go.Eng
/- Validity does not look at checks. -/
namespace Go.Eng
open Go Go.Proofs
theorem fgV_re (s : List Tbl) (n : Nat) (t : Tbl) (f : Fgn) : fgV (s.map reT) n (reT t) f = fgV s n t f := by
  unfold fgV
  have : atI (s.map reT) f.table.1 = (atI s f.table.1).map reT := by cases f.table.1 <;> simp [atI]
  rw [this]
  cases atI s f.table.1 with
  | none => rfl
  | some u => rfl
theorem validB_re (s : List Tbl) (n : Nat) (t : Tbl) : validB (s.map reT) n (reT t) = validB s n t := by
  unfold validB headV
  have h1 : fnd (fun u : Tbl => u.name == (reT t).name) 0 (s.map reT) = fnd (fun u : Tbl => u.name == t.name) 0 s := by
    exact (fnd_map reT (fun u : Tbl => u.name == t.name) s 0).symm
  rw [h1]
  have h2 : (reT t).checks.items.length = t.checks.items.length := by
    show (cn t.checks.items).items.length = _
    rw [cn_items t.checks.lt]
  rw [h2]
  have h3 : (reT t).fgns.items.all (fgV (s.map reT) n (reT t)) = t.fgns.items.all (fgV s n t) := by
    show t.fgns.items.all _ = _
    rw [show fgV (s.map reT) n (reT t) = fgV s n t from funext fun f => fgV_re s n t f]
  rw [h3]; rfl
theorem valL_of {s : List Tbl} : ∀ (l : List Tbl) (k : Nat), (∀ (i : Nat) (u : Tbl), l[i]? = some u → validB s (k + i) u = true) → valL s k l = true
  | [], _, _ => rfl
  | t :: l, k, h => by
    rw [valL, show validB s k t = true from h 0 t rfl, Bool.true_and]
    exact valL_of l (k + 1) fun i u hu => by have := h (i + 1) u (by simpa using hu); rwa [show k + 1 + i = k + (i + 1) by omega]
theorem valL_re {s : List Tbl} : ∀ (l : List Tbl) (k : Nat), valL (s.map reT) k (l.map reT) = valL s k l
  | [], _ => rfl
  | t :: l, k => by rw [List.map_cons, valL, valL, validB_re, valL_re l (k + 1)]
theorem smallT_re {t : Tbl} (h : SmallT t) : SmallT (reT t) := by
  obtain ⟨y1, y2, y3, y4, y5, y6, y7, y8, y9⟩ := h
  refine ⟨y1, y2, y3, ?_, y5, y6, y7, y8, ?_⟩
  · show (cn t.checks.items).items.length ≤ 10
    rw [cn_items t.checks.lt]; exact y4
  · intro e he
    have he : e ∈ (cn t.checks.items).items := he
    rw [cn_items t.checks.lt] at he; exact y9 e he
end Go.Eng
