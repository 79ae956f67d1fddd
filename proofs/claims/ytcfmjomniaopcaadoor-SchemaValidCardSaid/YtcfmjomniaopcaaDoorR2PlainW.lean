/- A part of the proof: see the last text. -/
import Derived.Test.YtcfmjomniaopcaaDoorR2PlainV
set_option linter.unusedSimpArgs false
set_option linter.unusedVariables false
/- One step of the reference's Build, on a definition. -/
namespace Go.Eng
open Go Go.Proofs
theorem fnd_append {α : Type} (p : α → Bool) : ∀ (a b : List α) (i : Nat), fnd p i (a ++ b) = match fnd p i a with | some j => some j | none => fnd p (i + a.length) b
  | [], b, i => rfl
  | x :: a, b, i => by
    rw [List.cons_append, fnd, fnd]
    cases p x with
    | true => rfl
    | false =>
      simp only
      rw [fnd_append p a b (i + 1), List.length_cons, show i + 1 + a.length = i + (a.length + 1) by omega]
theorem keysD_iff (l : List (Sl I64)) : KeysD l ↔ (l.map Sl.items).Nodup := by
  unfold KeysD List.Nodup
  rw [List.pairwise_map]
/-- First places: pairwise different. -/
theorem nodup_first {α β : Type} [BEq β] [LawfulBEq β] (f : α → β) {l : List α} {k : Nat} (h : ∀ (i : Nat) (u : α), i < k → l[i]? = some u → fnd (fun x => f x == f u) 0 l = some i) : ((l.take k).map f).Nodup := by
  unfold List.Nodup
  rw [List.pairwise_iff_getElem]
  intro i j hi hj hij e
  simp only [List.length_map, List.length_take] at hi hj
  simp only [List.getElem_map, List.getElem_take] at e
  have h1 := h i l[i] (by omega) (List.getElem?_eq_getElem (by omega))
  have h2 := h j l[j] (by omega) (List.getElem?_eq_getElem (by omega))
  rw [e, h2] at h1
  have : j = i := by simpa using h1
  omega
theorem keysL_kn (t : Tbl) (hn : (t.cols.items.map (·.name)).Nodup) : ∀ (l acc : List (Sl I64)), (∀ k ∈ l, inC t.cols.items k.items) → keysL t.cols.items acc (l.map (kn t)) = some (acc ++ l.map fun k => cn k.items)
  | [], acc, _ => by simp [keysL]
  | k :: l, acc, h => by
    have h1 := nums_names t.cols.lt hn k.items [] (h k List.mem_cons_self)
    rw [List.map_cons, keysL, kn_items, h1]
    simp only [List.nil_append]
    rw [keysL_kn t hn l _ fun q hq => h q (List.mem_cons_of_mem _ hq)]
    simp
/-- The types of a foreign key's columns. -/
def typV (s : List Tbl) (t : Tbl) (f : Fgn) : Bool := match atI s f.table.1 with
  | some u => (match atI u.keys.items f.key.1 with
    | some z => typF u.cols.items t.cols.items z.items f.cols.items
    | none => false)
  | none => false
theorem fgsR_all {s all : List Tbl} {t : Tbl} {cols : List Col} : ∀ (l : List Fgn), (∀ f ∈ l, ∃ g u b, fgnOf lastOf all cols (fgS s t f) = some (g, u, b) ∧ AlikeF g f ∧ typF cols u.cols.items g.cols.items b = typV s t f) → ∀ (acc : List Fgn) (e : Int),
    ∃ new, fgsR all cols acc e (l.map (fgS s t)) = some (acc ++ new, bif l.all (typV s t) then e else 6) ∧ AlikeL AlikeF new l
  | [], _, acc, e => ⟨[], by simp [fgsR], rfl, fun i x y h => by simp at h⟩
  | f :: l, h, acc, e => by
    obtain ⟨g, u, b, h1, h2, h3⟩ := h f List.mem_cons_self
    rw [List.map_cons, fgsR, h1]
    simp only [h3]
    obtain ⟨new, g1, g2, g3⟩ := fgsR_all l (fun f hf => h f (List.mem_cons_of_mem _ hf)) (acc ++ [g]) (bif typV s t f then e else 6)
    refine ⟨g :: new, ?_, by simp [g2], fun i x y hx hy => ?_⟩
    · rw [g1]
      simp only [List.append_assoc, List.singleton_append, Option.some.injEq, Prod.mk.injEq, true_and, List.all_cons]
      cases typV s t f <;> cases l.all (typV s t) <;> rfl
    · cases i with
      | zero => simp at hx hy; subst hx; subst hy; exact h2
      | succ i => exact g3 i x y (by simpa using hx) (by simpa using hy)
theorem validB_iff {s : List Tbl} {n : Nat} {t : Tbl} : validB s n t = true ↔ (nameB t.name = true ∧ 1 ≤ t.cols.items.length ∧ t.cols.items.length ≤ 8 ∧ t.keys.items.length ≤ 4 ∧ t.fgns.items.length ≤ 4 ∧ t.checks.items.length ≤ 4) ∧ fnd (fun u : Tbl => u.name == t.name) 0 s = some n ∧ t.cols.items.all colB = true ∧ (t.cols.items.map (·.name)).Nodup ∧ keysV t.cols.items [] t.keys.items = true ∧ t.fgns.items.all (fgV s n t) = true := by
  unfold validB headV
  simp only [Bool.and_eq_true, decide_eq_true_eq, Bool.not_eq_true', dupS_iff]
/-- A foreign key whose numbers exist. -/
theorem fgV_iff {s : List Tbl} {k : Nat} {t u : Tbl} {z : Sl I64} {f : Fgn} (hi : insF s k t f = true) (hu : atI s f.table.1 = some u) (hz : atI u.keys.items f.key.1 = some z) (hin : z.items.all (inB u.cols.items.length) = true) (hd : dupI z.items = false) :
    fgV s k t f = true ↔ (f.cols.items ≠ [] ∧ dupI f.cols.items = false) ∧ f.cols.items.length = z.items.length ∧ typV s t f = true := by
  simp only [insF, Bool.and_eq_true, decide_eq_true_eq] at hi
  obtain ⟨g1, g2, g3, g4, _⟩ := hi
  unfold fgV typV
  simp only [hu, hz, Bool.and_eq_true, decide_eq_true_eq, beq_iff_eq]
  rw [cof_iff g1, cof_iff hin]
  constructor
  · rintro ⟨h1, _, _, _, h2, _, h3⟩; exact ⟨h1, by omega, h3⟩
  · rintro ⟨h1, h2, h3⟩
    refine ⟨h1, g2, g3, g4, by omega, ⟨fun e => h1.1 ?_, hd⟩, h3⟩
    rw [e] at h2
    exact List.eq_nil_of_length_eq_zero (by simpa using h2)
theorem step_def {s r : List Tbl} {k : Nat} {t : Tbl} (hs : ∀ t ∈ s, SmallT t) (hins : insL s 0 s = true) (ht : s[k]? = some t) (hr : r.length = k) (ha : ∀ (i : Nat) (t' u : Tbl), r[i]? = some t' → s[i]? = some u → Alk t' u)
    (hv : ∀ (i : Nat) (u : Tbl), i < k → s[i]? = some u → validB s i u = true) :
    (∃ t', stepR r (defS s t) = .ok t' ∧ Alk t' t ∧ validB s k t = true ∧ k < 8) ∨ ∃ e, stepR r (defS s t) = .error e ∧ (e == 0) = false ∧ (validB s k t = false ∨ 8 ≤ k) := by
  have hks : k < s.length := (List.getElem?_eq_some_iff.1 ht).1
  obtain ⟨hk1, hf1⟩ := insL_ok hs hins ht
  obtain ⟨hb1, hb2⟩ := insL_at s 0 hins k t ht
  rw [Nat.zero_add] at hb2
  have hxk : (defS s t).keys.items = t.keys.items.map (kn t) := cn_items (by rw [List.length_map]; exact t.keys.lt)
  have hxf : (defS s t).fgns.items = t.fgns.items.map (fgS s t) := cn_items (by rw [List.length_map]; exact t.fgns.lt)
  unfold stepR
  rw [show ((defS s t).kind.1 != 1) = false from rfl, cond_false, hr]
  by_cases h8 : 8 ≤ k
  · rw [decide_eq_true h8]; exact .inr ⟨3, rfl, rfl, .inr h8⟩
  rw [decide_eq_false h8, Bool.false_or]
  -- sizes
  have hbg : bigB (defS s t) = true → validB s k t = false := fun h => by
    rw [← Bool.not_eq_true]
    intro hV
    obtain ⟨⟨_, _, h1, h2, h3, h4⟩, _⟩ := validB_iff.1 hV
    unfold bigB at h
    rw [hxk, hxf, List.length_map, List.length_map] at h
    simp only [Bool.or_eq_true, decide_eq_true_eq] at h
    have e1 : (defS s t).cols.items.length = t.cols.items.length := rfl
    have e2 : (defS s t).checks.items.length = t.checks.items.length := rfl
    omega
  cases hbig : bigB (defS s t) with
  | true => exact .inr ⟨3, rfl, rfl, .inl (hbg hbig)⟩
  | false =>
    rw [cond_false]
    have hsz : t.cols.items.length ≤ 8 ∧ t.keys.items.length ≤ 4 ∧ t.fgns.items.length ≤ 4 ∧ t.checks.items.length ≤ 4 := by
      unfold bigB at hbig
      rw [hxk, hxf, List.length_map, List.length_map] at hbig
      simp only [Bool.or_eq_false_iff, decide_eq_false_iff_not] at hbig
      have e1 : (defS s t).cols.items.length = t.cols.items.length := rfl
      have e2 : (defS s t).checks.items.length = t.checks.items.length := rfl
      omega
    -- names
    have hnm : r.map (·.name) = (s.take k).map (·.name) := by
      apply List.ext_getElem?
      intro i
      rw [List.getElem?_map, List.getElem?_map]
      by_cases hi : i < k
      · obtain ⟨t', ht'⟩ : ∃ t', r[i]? = some t' := ⟨_, List.getElem?_eq_getElem (by omega)⟩
        obtain ⟨u, hu⟩ : ∃ u, s[i]? = some u := ⟨_, List.getElem?_eq_getElem (by omega)⟩
        rw [List.getElem?_take_of_lt hi, ht', hu]
        simp [(ha i t' u ht' hu).name]
      · rw [List.getElem?_eq_none (by omega), List.getElem?_eq_none (by rw [List.length_take]; omega)]
    have hfs : fnd (fun u : Tbl => u.name == t.name) 0 s = some k ↔ fnd (fun u : Tbl => u.name == t.name) 0 r = none := by
      have e1 := fnd_map (fun u : Tbl => u.name) (fun n => n == t.name) s 0
      have e2 := fnd_map (fun u : Tbl => u.name) (fun n => n == t.name) r 0
      have e3 : s.map (fun u : Tbl => u.name) = r.map (fun u : Tbl => u.name) ++ t.name :: (s.drop (k + 1)).map (fun u : Tbl => u.name) := by
        rw [hnm, ← List.map_cons (f := fun u : Tbl => u.name), ← List.map_append, ← dropc ht, List.take_append_drop]
      rw [e1, e2, e3, fnd_append]
      cases hf : fnd (fun n => n == t.name) 0 (r.map fun u : Tbl => u.name) with
      | none =>
        simp only
        rw [fnd, show (t.name == t.name) = true by simp, List.length_map, hr]
        simp
      | some j =>
        have hj := fnd_lt hf
        rw [List.length_map] at hj
        simp only [Option.some.injEq, reduceCtorEq, iff_false]
        omega
    -- what is nice about the tables before
    have hnice0 : ∀ (i : Nat) (u : Tbl), i < k → s[i]? = some u → (u.cols.items.map (·.name)).Nodup ∧ KeysN u.keys.items := fun i u hi hu => by
      obtain ⟨_, _, _, h1, h2, _⟩ := validB_iff.1 (hv i u hi hu)
      obtain ⟨h3, h4⟩ := (keysV_iff _ _).1 h2
      refine ⟨h1, fun z hz => ?_, h4⟩
      have := (h3 z hz).1
      simp only [cofB, Bool.and_eq_true, Bool.not_eq_true'] at this
      exact this.2.1
    have hkeyin : ∀ (i : Nat) (u : Tbl), s[i]? = some u → ∀ z ∈ u.keys.items, z.items.all (inB u.cols.items.length) = true := fun i u hu z hz => List.all_eq_true.1 (insL_at s 0 hins i u hu).1 z hz
    -- what the checks of the statement say
    have hokI : okB (defS s t) = true ↔ nameB t.name = true ∧ 1 ≤ t.cols.items.length ∧ t.cols.items.all colB = true ∧ (∀ z ∈ t.keys.items, z.items ≠ []) ∧ ∀ f ∈ t.fgns.items, f.cols.items ≠ [] ∧ f.cols.items.length = (fgS s t f).refs.items.length := by
      unfold okB
      rw [hxk, hxf]
      simp only [Bool.and_eq_true, Bool.not_eq_true', beq_eq_false_iff_ne, List.all_eq_true, List.mem_map, forall_exists_index, and_imp, forall_apply_eq_imp_iff₂]
      refine and_congr Iff.rfl (and_congr ?_ (and_congr Iff.rfl (and_congr ?_ ?_)))
      · show ¬ ((t.cols.items.length : Int) = 0) ↔ _
        omega
      · refine forall_congr' fun z => forall_congr' fun hz => ?_
        unfold neB
        rw [kn_len]
        simp only [Bool.not_eq_true', beq_eq_false_iff_ne]
        cases z.items <;> simp
        omega
      · refine forall_congr' fun f => forall_congr' fun hf => ?_
        obtain ⟨_, u, z, h1, h2, _⟩ := hf1 f hf
        unfold fgB
        simp only [fgS, h1, h2, kn_len, Bool.and_eq_true, Bool.not_eq_true', beq_eq_false_iff_ne, beq_iff_eq]
        refine and_congr ?_ (by omega)
        cases f.cols.items <;> simp
        omega
    have hexI : (t.cols.items.map (·.name)).Nodup → (exB r (defS s t) = false ↔ fnd (fun u : Tbl => u.name == t.name) 0 r = none ∧ KeysN t.keys.items ∧ ∀ f ∈ t.fgns.items, dupI f.cols.items = false) := fun hn => by
      unfold exB
      rw [hxk, hxf]
      simp only [Bool.or_eq_false_iff, kdF_keys t hn hk1]
      have e0 : dupS ((defS s t).cols.items.map (·.name)) = false := (dupS_iff _).2 hn
      simp only [e0, true_and]
      refine and_congr (by rw [Option.isSome_eq_false_iff, Option.isNone_iff_eq_none]; rfl) (and_congr Iff.rfl ?_)
      rw [← Bool.not_eq_true, List.any_eq_true]
      simp only [List.mem_map, not_exists, not_and, Bool.not_eq_true]
      constructor
      · intro h f hf
        obtain ⟨hc, u, z, h1, h2, _⟩ := hf1 f hf
        have := h (fgS s t f) ⟨f, hf, rfl⟩
        simp only [fgS, h1, h2, kn_items] at this
        rwa [dup_names t.cols.lt hn hc] at this
      · rintro h _ ⟨f, hf, rfl⟩
        obtain ⟨hc, u, z, h1, h2, _⟩ := hf1 f hf
        simp only [fgS, h1, h2, kn_items]
        rw [dup_names t.cols.lt hn hc]; exact h f hf
    have hexN : exB r (defS s t) = false → (t.cols.items.map (·.name)).Nodup := fun h => by
      unfold exB at h
      simp only [Bool.or_eq_false_iff] at h
      exact (dupS_iff _).1 h.2.1
    have hkV : keysV t.cols.items [] t.keys.items = true ↔ (∀ z ∈ t.keys.items, z.items ≠ []) ∧ KeysN t.keys.items := by
      rw [keysV_iff]
      unfold KeysN
      constructor
      · rintro ⟨h1, h2⟩
        have h3 : ∀ z ∈ t.keys.items, z.items ≠ [] ∧ dupI z.items = false := fun z hz => (cof_iff (hkeyin k t ht z hz)).1 (h1 z hz).1
        exact ⟨fun z hz => (h3 z hz).1, fun z hz => (h3 z hz).2, h2⟩
      · rintro ⟨h1, h2, h3⟩
        exact ⟨fun z hz => ⟨(cof_iff (hkeyin k t ht z hz)).2 ⟨h1 z hz, h2 z hz⟩, fun o ho => (by cases ho)⟩, h3⟩
    have hfV : (t.cols.items.map (·.name)).Nodup → KeysN t.keys.items → (t.fgns.items.all (fgV s k t) = true ↔ (∀ f ∈ t.fgns.items, f.cols.items ≠ [] ∧ f.cols.items.length = (fgS s t f).refs.items.length) ∧ (∀ f ∈ t.fgns.items, dupI f.cols.items = false) ∧ t.fgns.items.all (typV s t) = true) := fun hn hK => by
      have key : ∀ f ∈ t.fgns.items, (fgV s k t f = true ↔ (f.cols.items ≠ [] ∧ dupI f.cols.items = false) ∧ f.cols.items.length = (fgS s t f).refs.items.length ∧ typV s t f = true) := fun f hf => by
        obtain ⟨hc, u, z, h1, h2, _⟩ := hf1 f hf
        have hi := List.all_eq_true.1 hb2 f hf
        obtain ⟨i, ei, hui⟩ := atI_get h1
        obtain ⟨j, ej, hzj⟩ := atI_get h2
        have hik : i ≤ k := by
          simp only [insF, Bool.and_eq_true, decide_eq_true_eq] at hi
          omega
        have hd : dupI z.items = false := by
          rcases Nat.lt_or_ge i k with h | h
          · exact (hnice0 i u h hui).2.1 z (List.mem_of_getElem? hzj)
          · obtain rfl : i = k := by omega
            rw [ht] at hui; cases hui
            exact hK.1 z (List.mem_of_getElem? hzj)
        rw [fgV_iff hi h1 h2 (hkeyin i u hui z (List.mem_of_getElem? hzj)) hd]
        simp only [fgS, h1, h2, kn_len]
      simp only [List.all_eq_true]
      constructor
      · intro h
        exact ⟨fun f hf => ⟨((key f hf).1 (h f hf)).1.1, ((key f hf).1 (h f hf)).2.1⟩, fun f hf => ((key f hf).1 (h f hf)).1.2, fun f hf => ((key f hf).1 (h f hf)).2.2⟩
      · rintro ⟨h1, h2, h3⟩ f hf
        exact (key f hf).2 ⟨⟨(h1 f hf).1, h2 f hf⟩, (h1 f hf).2, h3 f hf⟩
    have hV : validB s k t = true ↔ okB (defS s t) = true ∧ exB r (defS s t) = false ∧ t.fgns.items.all (typV s t) = true := by
      rw [validB_iff, hokI, hfs, hkV]
      constructor
      · rintro ⟨⟨a1, a2, _⟩, a3, a4, a5, ⟨a6, a7⟩, a8⟩
        obtain ⟨b1, b2, b3⟩ := (hfV a5 a7).1 a8
        exact ⟨⟨a1, a2, a4, a6, b1⟩, (hexI a5).2 ⟨a3, a7, b2⟩, b3⟩
      · rintro ⟨⟨a1, a2, a3, a4, a5⟩, a6, a7⟩
        have hn := hexN a6
        obtain ⟨b1, b2, b3⟩ := (hexI hn).1 a6
        exact ⟨⟨a1, a2, hsz.1, hsz.2.1, hsz.2.2.1, hsz.2.2.2⟩, b1, a3, hn, ⟨a4, b2⟩, (hfV hn b2).2 ⟨a5, b3, a7⟩⟩
    have hno : ¬ (okB (defS s t) = true ∧ exB r (defS s t) = false ∧ t.fgns.items.all (typV s t) = true) → validB s k t = false := fun h => by
      rw [← Bool.not_eq_true, hV]; exact h
    cases hok : okB (defS s t) with
    | false => exact .inr ⟨1, rfl, rfl, .inl (hno fun h => by rw [hok] at h; cases h.1)⟩
    | true =>
      rw [cond_true]
      cases hex : exB r (defS s t) with
      | true => exact .inr ⟨5, rfl, rfl, .inl (hno fun h => by rw [hex] at h; cases h.2.1)⟩
      | false =>
        rw [cond_false]
        have hn := hexN hex
        obtain ⟨b1, b2, b3⟩ := (hexI hn).1 hex
        have hfk := hfs.2 b1
        unfold tabR
        rw [hxk, hxf]
        have hkL : keysL (defS s t).cols.items [] (t.keys.items.map (kn t)) = some (t.keys.items.map fun k => cn k.items) := by
          have := keysL_kn t hn t.keys.items [] hk1
          rw [List.nil_append] at this
          exact this
        rw [hkL]
        simp only
        have hKi : (cn (t.keys.items.map fun k => (cn k.items : Sl I64))).items.map Sl.items = t.keys.items.map Sl.items := by
          rw [cn_items (by rw [List.length_map]; exact t.keys.lt), List.map_map]
          refine List.map_congr_left fun z _ => ?_
          show (cn z.items).items = z.items
          exact cn_items z.lt
        generalize hall : r ++ [(⟨(defS s t).name, (defS s t).cols, cn (t.keys.items.map fun k => cn k.items), nilS, (defS s t).checks⟩ : Tbl)] = all
        have hallN : (all.map fun u : Tbl => u.name).Nodup := by
          have h1 : all.map (fun u : Tbl => u.name) = (s.take (k + 1)).map (fun u : Tbl => u.name) := by
            rw [← hall, List.map_append, hnm, List.take_add_one, ht, List.map_append]; rfl
          rw [h1]
          refine nodup_first _ fun i u hi hu => ?_
          rcases Nat.lt_or_ge i k with h | h
          · exact (validB_iff.1 (hv i u h hu)).2.1
          · obtain rfl : i = k := by omega
            rw [ht] at hu; cases hu
            exact hfk
        have hget : ∀ (i : Nat) (u : Tbl), i ≤ k → s[i]? = some u → ∃ u', all[i]? = some u' ∧ u'.name = u.name ∧ u'.cols = u.cols ∧ u'.keys.items.map Sl.items = u.keys.items.map Sl.items := fun i u hi hu => by
          rcases Nat.lt_or_ge i k with h | h
          · obtain ⟨t', ht'⟩ : ∃ t', r[i]? = some t' := ⟨_, List.getElem?_eq_getElem (by omega)⟩
            have hA := ha i t' u ht' hu
            exact ⟨t', by rw [← hall, List.getElem?_append_left (by omega)]; exact ht', hA.name, hA.cols, hA.keys⟩
          · obtain rfl : i = k := by omega
            rw [ht] at hu; cases hu
            exact ⟨⟨(defS s t).name, (defS s t).cols, cn (t.keys.items.map fun k => cn k.items), nilS, (defS s t).checks⟩, by rw [← hall, List.getElem?_append_right (by omega), hr, Nat.sub_self]; rfl, rfl, rfl, hKi⟩
        have hnice : ∀ (i : Nat) (u : Tbl), i ≤ k → s[i]? = some u → (u.cols.items.map (·.name)).Nodup ∧ KeysN u.keys.items := fun i u hi hu => by
          rcases Nat.lt_or_ge i k with h | h
          · exact hnice0 i u h hu
          · obtain rfl : i = k := by omega
            rw [ht] at hu; cases hu
            exact ⟨hn, b2⟩
        have hsl : s.length < 4611686018427387904 ∨ True := .inr trivial
        have hfg : ∀ f ∈ t.fgns.items, ∃ g u b, fgnOf lastOf all t.cols.items (fgS s t f) = some (g, u, b) ∧ AlikeF g f ∧ typF t.cols.items u.cols.items g.cols.items b = typV s t f := fun f hf => by
          obtain ⟨hc, u, z, h1, h2, h3, _⟩ := hf1 f hf
          have hi := List.all_eq_true.1 hb2 f hf
          obtain ⟨i, ei, hui⟩ := atI_get h1
          obtain ⟨j, ej, hzj⟩ := atI_get h2
          have hik : i ≤ k := by
            simp only [insF, Bool.and_eq_true, decide_eq_true_eq] at hi
            omega
          obtain ⟨u', hu', e1, e2, e3⟩ := hget i u hik hui
          obtain ⟨hun, huk⟩ := hnice i u hik hui
          have n1 := nums_names t.cols.lt hn f.cols.items [] hc
          have n2 := nums_names u.cols.lt hun z.items [] h3
          have n3 : fnd (fun x : Tbl => x.name == u.name) 0 all = some (0 + i) := fnd_nodup (fun u : Tbl => u.name) _ all 0 i u' (fun x => by rw [e1]; exact beq_iff_eq) hallN hu'
          obtain ⟨z', hz', ez⟩ : ∃ z', u'.keys.items[j]? = some z' ∧ z'.items = z.items := by
            have := congrArg (fun l => l[j]?) e3
            simp only [List.getElem?_map, hzj, Option.map_some] at this
            cases hq : u'.keys.items[j]? with
            | none => rw [hq] at this; cases this
            | some z' => rw [hq] at this; exact ⟨z', rfl, by simpa using this⟩
          have hKD : KeysD u'.keys.items := by rw [keysD_iff, e3, ← keysD_iff]; exact huk.2
          have n4 : fnd (fun x : Sl I64 => eqI x.items z.items) 0 u'.keys.items = some (0 + j) := fnd_nodup Sl.items _ u'.keys.items 0 j z' (fun x => by rw [ez]; exact eqI_iff) ((keysD_iff _).1 hKD) hz'
          rw [key_last hKD] at n4
          rw [Nat.zero_add] at n3 n4
          have hi2 : i < 4611686018427387904 := by
            have := f.table.2; rw [ei] at this
            have := (List.getElem?_eq_some_iff.1 hu').1
            rw [← hall] at this
            simp at this
            omega
          have hj2 : j < 4611686018427387904 := by
            have := (List.getElem?_eq_some_iff.1 hzj).1
            have := u.keys.lt
            omega
          refine ⟨⟨cn f.cols.items, iN i, iN j⟩, u', z.items, ?_, ⟨cn_items f.cols.lt, ?_, ?_⟩, ?_⟩
          · unfold fgnOf
            simp only [fgS, h1, h2, kn_items, n1, n3, hu', e2, n2, n4, List.nil_append]
          · show (iN i).1 = f.table.1
            rw [iN_1 hi2, ei]
          · show (iN j).1 = f.key.1
            rw [iN_1 hj2, ej]
          · unfold typV
            simp only [h1, h2, e2]
            rw [cn_items f.cols.lt, typF_swap]
        obtain ⟨new, hn1, hn2⟩ := fgsR_all t.fgns.items hfg [] 0
        rw [show (defS s t).cols.items = t.cols.items from rfl, hn1]
        simp only [List.nil_append]
        cases hty : t.fgns.items.all (typV s t) with
        | false => exact .inr ⟨6, rfl, rfl, .inl (hno fun h => by rw [hty] at h; cases h.2.2)⟩
        | true =>
          refine .inl ⟨_, rfl, ⟨rfl, rfl, hKi, ?_, rfl⟩, hV.2 ⟨hok, hex, hty⟩, by omega⟩
          show AlikeL AlikeF (cn new).items t.fgns.items
          rw [cn_items (by rw [hn2.1]; exact t.fgns.lt)]
          exact hn2
end Go.Eng
