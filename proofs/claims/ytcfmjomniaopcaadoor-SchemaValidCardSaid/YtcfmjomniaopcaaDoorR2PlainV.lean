/- A part of the proof: see the last text. -/
import Derived.Test.YtcfmjomniaopcaaDoorR2RefV
import Derived.Test.YtcfmjomniaopcaaDoorR2PlainA
set_option linter.unusedSimpArgs false
set_option linter.unusedVariables false
/- A schema is valid exactly if the reference builds it out of its definitions. -/
namespace Go.Eng
open Go Go.Proofs
theorem dupF_iff {α : Type} {e : α → α → Bool} (he : ∀ a b, e a b = true ↔ a = b) : ∀ (l seen : List α), dupF e seen l = false ↔ (∀ a ∈ l, a ∉ seen) ∧ l.Nodup
  | [], seen => ⟨fun _ => ⟨fun a h => (by cases h), List.nodup_nil⟩, fun _ => rfl⟩
  | a :: r, seen => by
    rw [dupF, Bool.or_eq_false_iff, dupF_iff he r]
    have h0 : (seen.any fun s => e a s) = false ↔ a ∉ seen := by
      rw [← Bool.not_eq_true, List.any_eq_true]
      constructor
      · intro h hm; exact h ⟨a, hm, (he a a).2 rfl⟩
      · rintro h ⟨b, hb, hab⟩; rw [(he a b).1 hab] at h; exact h hb
    rw [h0, List.nodup_cons]
    constructor
    · rintro ⟨h1, h2, h3⟩
      refine ⟨fun b hb => ?_, fun h => h2 a h (List.mem_append_right _ (List.mem_singleton.2 rfl)), h3⟩
      rcases List.mem_cons.1 hb with rfl | hb
      · exact h1
      · exact fun h => h2 b hb (List.mem_append_left _ h)
    · rintro ⟨h1, h2, h3⟩
      refine ⟨h1 a List.mem_cons_self, fun b hb h => ?_, h3⟩
      rcases List.mem_append.1 h with h | h
      · exact h1 b (List.mem_cons_of_mem _ hb) h
      · rw [List.mem_singleton.1 h] at hb; exact h2 hb
theorem dupS_iff (l : List Str) : dupS l = false ↔ l.Nodup := by
  have := dupF_iff (e := fun a b : Str => a == b) (fun a b => beq_iff_eq) l []
  unfold dupS
  rw [this]
  exact ⟨fun h => h.2, fun h => ⟨fun a _ h => (by cases h), h⟩⟩
theorem dupI_iff (l : List I64) : dupI l = false ↔ l.Nodup := by
  have := dupF_iff (e := fun a b : I64 => a.1 == b.1) (fun a b => ⟨fun h => Subtype.ext (by simpa using h), fun h => by rw [h]; simp⟩) l []
  unfold dupI
  rw [this]
  exact ⟨fun h => h.2, fun h => ⟨fun a _ h => (by cases h), h⟩⟩
theorem fnd_nodup {α β : Type} (f : α → β) (p : α → Bool) : ∀ (l : List α) (i k : Nat) (a : α), (∀ x, p x = true ↔ f x = f a) → (l.map f).Nodup → l[k]? = some a → fnd p i l = some (i + k)
  | [], _, k, a, _, _, h => by simp at h
  | b :: r, i, 0, a, hp, _, h => by
    have h : b = a := by simpa using h
    subst h
    rw [fnd, (hp b).2 rfl]; rfl
  | b :: r, i, k + 1, a, hp, hn, h => by
    rw [List.map_cons, List.nodup_cons] at hn
    have hr : r[k]? = some a := by simpa using h
    have hb : p b = false := by
      cases e : p b with
      | false => rfl
      | true => exact absurd (List.mem_map.2 ⟨a, List.mem_of_getElem? hr, ((hp b).1 e).symm⟩) hn.1
    rw [fnd, hb]
    simp only
    rw [fnd_nodup f p r (i + 1) k a hp hn.2 hr]
    congr 1; omega
theorem nums_names {cols : List Col} (hc : cols.length < 4611686018427387904) (hn : (cols.map (·.name)).Nodup) : ∀ (l acc : List I64), inC cols l → numsL cols acc (l.map (nameAt cols)) = some (acc ++ l)
  | [], acc, _ => by simp [numsL]
  | x :: l, acc, h => by
    obtain ⟨c, hx⟩ := h x List.mem_cons_self
    obtain ⟨k, hk, hck⟩ := atI_get hx
    have hf : fnd (fun c' : Col => c'.name == c.name) 0 cols = some (0 + k) := fnd_nodup (fun c : Col => c.name) _ cols 0 k c (fun x => beq_iff_eq) hn hck
    have hlt := (List.getElem?_eq_some_iff.1 hck).1
    have hx' : iN k = x := Subtype.ext (by rw [iN_1 (by omega), hk])
    rw [List.map_cons, numsL, nameAt_some hx, hf, Nat.zero_add]
    simp only
    rw [hx', nums_names hc hn l _ fun y hy => h y (List.mem_cons_of_mem _ hy)]
    simp
theorem names_inj {cols : List Col} (hc : cols.length < 4611686018427387904) (hn : (cols.map (·.name)).Nodup) {a b : List I64} (ha : inC cols a) (hb : inC cols b) (h : a.map (nameAt cols) = b.map (nameAt cols)) : a = b := by
  have h1 := nums_names hc hn a [] ha
  have h2 := nums_names hc hn b [] hb
  rw [h, h2] at h1
  simpa using h1.symm
theorem dup_names {cols : List Col} (hc : cols.length < 4611686018427387904) (hn : (cols.map (·.name)).Nodup) {l : List I64} (h : inC cols l) : dupS (l.map (nameAt cols)) = dupI l := by
  have key : dupS (l.map (nameAt cols)) = false ↔ dupI l = false := by
    rw [dupS_iff, dupI_iff]
    unfold List.Nodup
    rw [List.pairwise_map]
    constructor
    · exact fun h => h.imp fun hab e => hab (by rw [e])
    · intro hp
      refine hp.imp_of_mem fun {a b} ha hb hab e => hab ?_
      have := names_inj hc hn (a := [a]) (b := [b]) (fun x hx => by rw [List.mem_singleton.1 hx]; exact h a ha) (fun x hx => by rw [List.mem_singleton.1 hx]; exact h b hb) (by simp [e])
      simpa using this
  cases h1 : dupS (l.map (nameAt cols)) <;> cases h2 : dupI l <;> simp_all
theorem eqS_iff : ∀ {a b : List Str}, eqS a b = true ↔ a = b
  | [], [] => ⟨fun _ => rfl, fun _ => rfl⟩
  | [], _ :: _ => ⟨fun h => (by cases h), fun h => (by cases h)⟩
  | _ :: _, [] => ⟨fun h => (by cases h), fun h => (by cases h)⟩
  | x :: a, y :: b => by
    show ((x == y) && eqS a b) = true ↔ _
    rw [Bool.and_eq_true, eqS_iff (a := a) (b := b), beq_iff_eq, List.cons.injEq]
theorem eqI_iff {a b : List I64} : eqI a b = true ↔ a = b := ⟨eqI_eq, fun h => by rw [h]; exact eqI_self b⟩
theorem eq_names {cols : List Col} (hc : cols.length < 4611686018427387904) (hn : (cols.map (·.name)).Nodup) {a b : List I64} (ha : inC cols a) (hb : inC cols b) : eqS (a.map (nameAt cols)) (b.map (nameAt cols)) = eqI a b := by
  have key : eqS (a.map (nameAt cols)) (b.map (nameAt cols)) = true ↔ eqI a b = true := by
    rw [eqS_iff, eqI_iff]
    exact ⟨names_inj hc hn ha hb, fun h => by rw [h]⟩
  cases h1 : eqS (a.map (nameAt cols)) (b.map (nameAt cols)) <;> cases h2 : eqI a b <;> simp_all
theorem kn_items (t : Tbl) (k : Sl I64) : (kn t k).items = k.items.map (nameAt t.cols.items) := by
  unfold kn; rw [cn_items (by rw [List.length_map]; exact k.lt)]
/-- Keys without repetitions, pairwise different. -/
def KeysN (l : List (Sl I64)) : Prop := (∀ k ∈ l, dupI k.items = false) ∧ KeysD l
theorem kdF_iff : ∀ (l seen : List (Sl Str)), kdF seen l = false ↔ (∀ k ∈ l, dupS k.items = false ∧ ∀ o ∈ seen, k.items ≠ o.items) ∧ l.Pairwise (fun a b => a.items ≠ b.items)
  | [], seen => ⟨fun _ => ⟨fun k hk => (by simp at hk), List.Pairwise.nil⟩, fun _ => rfl⟩
  | k :: r, seen => by
    rw [kdF, Bool.or_eq_false_iff, Bool.or_eq_false_iff, kdF_iff r]
    have h0 : (seen.any fun o => eqS k.items o.items) = false ↔ ∀ o ∈ seen, k.items ≠ o.items := by
      rw [← Bool.not_eq_true, List.any_eq_true]
      constructor
      · intro h o ho e; exact h ⟨o, ho, eqS_iff.2 e⟩
      · rintro h ⟨o, ho, e⟩; exact h o ho (eqS_iff.1 e)
    rw [h0, List.pairwise_cons]
    constructor
    · rintro ⟨⟨h1, h2⟩, h3, h4⟩
      refine ⟨fun q hq => ?_, fun q hq e => (h3 q hq).2 k (List.mem_append_right _ List.mem_cons_self) e.symm, h4⟩
      rcases List.mem_cons.1 hq with rfl | hq
      · exact ⟨h1, h2⟩
      · exact ⟨(h3 q hq).1, fun o ho => (h3 q hq).2 o (List.mem_append_left _ ho)⟩
    · rintro ⟨h1, h2, h3⟩
      refine ⟨h1 k List.mem_cons_self, fun q hq => ⟨(h1 q (List.mem_cons_of_mem _ hq)).1, fun o ho => ?_⟩, h3⟩
      rcases List.mem_append.1 ho with ho | ho
      · exact (h1 q (List.mem_cons_of_mem _ hq)).2 o ho
      · rw [List.mem_singleton.1 ho]; exact fun e => h2 q hq e.symm
theorem kdF_keys (t : Tbl) (hn : (t.cols.items.map (·.name)).Nodup) (hin : ∀ k ∈ t.keys.items, inC t.cols.items k.items) : kdF [] (t.keys.items.map (kn t)) = false ↔ KeysN t.keys.items := by
  rw [kdF_iff, List.pairwise_map]
  unfold KeysN KeysD
  refine and_congr ⟨fun h k hk => ?_, fun h k hk => ?_⟩ ⟨fun h => ?_, fun h => ?_⟩
  · have := (h (kn t k) (List.mem_map_of_mem hk)).1
    rwa [kn_items, dup_names t.cols.lt hn (hin k hk)] at this
  · obtain ⟨k0, h0, rfl⟩ := List.mem_map.1 hk
    refine ⟨?_, fun o ho => (by cases ho)⟩
    rw [kn_items, dup_names t.cols.lt hn (hin k0 h0)]; exact h k0 h0
  · refine h.imp_of_mem fun {a b} ha hb hab e => hab ?_
    rw [kn_items, kn_items, e]
  · refine h.imp_of_mem fun {a b} ha hb hab e => hab ?_
    rw [kn_items, kn_items] at e
    exact names_inj t.cols.lt hn (hin a ha) (hin b hb) e
theorem keysV_iff {cols : List Col} : ∀ (l seen : List (Sl I64)), keysV cols seen l = true ↔ (∀ k ∈ l, cofB cols k.items = true ∧ ∀ o ∈ seen, k.items ≠ o.items) ∧ KeysD l
  | [], seen => ⟨fun _ => ⟨fun k hk => (by simp at hk), List.Pairwise.nil⟩, fun _ => rfl⟩
  | k :: r, seen => by
    rw [keysV, Bool.and_eq_true, Bool.and_eq_true, keysV_iff r, Bool.not_eq_true']
    have h0 : (seen.any fun o => eqI k.items o.items) = false ↔ ∀ o ∈ seen, k.items ≠ o.items := by
      rw [← Bool.not_eq_true, List.any_eq_true]
      constructor
      · intro h o ho e; exact h ⟨o, ho, eqI_iff.2 e⟩
      · rintro h ⟨o, ho, e⟩; exact h o ho (eqI_iff.1 e)
    unfold KeysD
    rw [h0, List.pairwise_cons]
    constructor
    · rintro ⟨⟨h1, h2⟩, h3, h4⟩
      refine ⟨fun q hq => ?_, fun q hq e => (h3 q hq).2 k (List.mem_append_right _ List.mem_cons_self) e.symm, h4⟩
      rcases List.mem_cons.1 hq with rfl | hq
      · exact ⟨h1, h2⟩
      · exact ⟨(h3 q hq).1, fun o ho => (h3 q hq).2 o (List.mem_append_left _ ho)⟩
    · rintro ⟨h1, h2, h3⟩
      refine ⟨h1 k List.mem_cons_self, fun q hq => ⟨(h1 q (List.mem_cons_of_mem _ hq)).1, fun o ho => ?_⟩, h3⟩
      rcases List.mem_append.1 ho with ho | ho
      · exact (h1 q (List.mem_cons_of_mem _ hq)).2 o ho
      · rw [List.mem_singleton.1 ho]; exact fun e => h2 q hq e.symm
theorem cof_iff {cols : List Col} {l : List I64} (h : l.all (inB cols.length) = true) : cofB cols l = true ↔ l ≠ [] ∧ dupI l = false := by
  unfold cofB
  rw [h, Bool.and_true, Bool.and_eq_true, Bool.not_eq_true', decide_eq_true_eq]
  refine and_congr ⟨fun h e => by rw [e] at h; simp at h, fun h => ?_⟩ Iff.rfl
  cases l with
  | nil => exact absurd rfl h
  | cons a r => simp only [List.length_cons]; omega
/-- The table as built, and as it was. -/
structure Alk (t' t : Tbl) : Prop where
  name : t'.name = t.name
  cols : t'.cols = t.cols
  keys : t'.keys.items.map Sl.items = t.keys.items.map Sl.items
  fgns : AlikeL AlikeF t'.fgns.items t.fgns.items
  checks : t'.checks = t.checks
end Go.Eng
