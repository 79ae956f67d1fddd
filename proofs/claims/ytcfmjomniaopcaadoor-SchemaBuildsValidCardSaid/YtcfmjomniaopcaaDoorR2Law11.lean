/- A part of the proof: see the last text. -/
import Derived.Test.YtcfmjomniaopcaaDoorR2Bld21
import Derived.Test.YtcfmjomniaopcaaDoorKR2PlainY
import Derived.Test.YtcfmjomniaopcaaDoorR2Awake
set_option linter.unusedSimpArgs false
set_option linter.unusedVariables false
/- SchemaBuildsValid. -/
namespace Go.Eng
open Go Go.Proofs
theorem inC_all {cols : List Col} {l : List I64} (h : inC cols l) : l.all (inB cols.length) = true := by
  rw [List.all_eq_true]
  intro x hx
  obtain ⟨c, hc⟩ := h x hx
  obtain ⟨k, hk, hkc⟩ := atI_get hc
  have := (List.getElem?_eq_some_iff.1 hkc).1
  unfold inB
  simp only [Bool.and_eq_true, decide_eq_true_eq]
  omega
theorem nums_nodup {cols : List Col} (hc : cols.length < 4611686018427387904) {l : List Str} {r : List I64} (h : numsL cols [] l = some r) (hd : dupS l = false) : dupI r = false := by
  obtain ⟨m, h1, h2⟩ := numsL_names hc l [] r h
  rw [List.nil_append] at h1; subst h1
  rw [h2, dupS_iff] at hd
  rw [dupI_iff]
  unfold List.Nodup at hd ⊢
  rw [List.pairwise_map] at hd
  exact hd.imp fun hab e => hab (by rw [e])
theorem fgsR_inv {all : List Tbl} {cols : List Col} : ∀ (l : List FgS) (acc fs : List Fgn) (e : Int), fgsR all cols acc e l = some (fs, 0) → ∃ new, fs = acc ++ new ∧ new.length = l.length ∧ e = 0 ∧ ∀ (i : Nat) (f : Fgn) (y : FgS), new[i]? = some f → l[i]? = some y → ∃ u b, fgnOf lastOf all cols y = some (f, u, b) ∧ typF cols u.cols.items f.cols.items b = true
  | [], acc, fs, e, h => by
    rw [fgsR] at h; cases h
    exact ⟨[], by simp, rfl, rfl, fun i f y hf => by simp at hf⟩
  | y :: l, acc, fs, e, h => by
    rw [fgsR] at h
    cases hy : fgnOf lastOf all cols y with
    | none => rw [hy] at h; cases h
    | some q =>
      obtain ⟨g, u, b⟩ := q
      rw [hy] at h
      simp only at h
      obtain ⟨new, h1, h2, h3, h4⟩ := fgsR_inv l _ fs _ h
      cases ht : typF cols u.cols.items g.cols.items b with
      | false => rw [ht] at h3; cases h3
      | true =>
        rw [ht, cond_true] at h3
        refine ⟨g :: new, by rw [h1]; simp, by simp [h2], h3, fun i f z hf hz => ?_⟩
        cases i with
        | zero =>
          simp only [List.getElem?_cons_zero, Option.some.injEq] at hf hz
          subst hf; subst hz
          exact ⟨u, b, hy, ht⟩
        | succ i => exact h4 i f z (by simpa using hf) (by simpa using hz)
theorem keysL_inv {cols : List Col} : ∀ (l : List (Sl Str)) (acc ks : List (Sl I64)), keysL cols acc l = some ks → ∃ new, ks = acc ++ new ∧ new.length = l.length ∧ ∀ (i : Nat) (z : Sl I64) (y : Sl Str), new[i]? = some z → l[i]? = some y → ∃ r, numsL cols [] y.items = some r ∧ z = cn r
  | [], acc, ks, h => by
    rw [keysL] at h; cases h
    exact ⟨[], by simp, rfl, fun i f y hf => by simp at hf⟩
  | y :: l, acc, ks, h => by
    rw [keysL] at h
    cases hy : numsL cols [] y.items with
    | none => rw [hy] at h; cases h
    | some r =>
      rw [hy] at h
      obtain ⟨new, h1, h2, h4⟩ := keysL_inv l _ ks h
      refine ⟨cn r :: new, by rw [h1]; simp, by simp [h2], fun i f z hf hz => ?_⟩
      cases i with
      | zero =>
        simp only [List.getElem?_cons_zero, Option.some.injEq] at hf hz
        subst hf; subst hz
        exact ⟨r, hy, rfl⟩
      | succ i => exact h4 i f z (by simpa using hf) (by simpa using hz)
theorem atI_app {s : List Tbl} {t u : Tbl} {n : Int} (h : atI s n = some u) : atI (s ++ [t]) n = some u := by
  obtain ⟨k, rfl, hk⟩ := atI_get h
  show (s ++ [t])[k]? = some u
  rw [List.getElem?_append_left (List.getElem?_eq_some_iff.1 hk).1]; exact hk
/-- A table that is valid stays so. -/
theorem validB_app {s : List Tbl} {n : Nat} {t u : Tbl} (h : validB s n t = true) : validB (s ++ [u]) n t = true := by
  rw [validB_iff] at h ⊢
  obtain ⟨h1, h2, h3, h4, h5, h6⟩ := h
  refine ⟨h1, by rw [fnd_append, h2], h3, h4, h5, ?_⟩
  rw [List.all_eq_true] at h6 ⊢
  intro f hf
  have := h6 f hf
  unfold fgV at this ⊢
  rw [Bool.and_eq_true, Bool.and_eq_true, Bool.and_eq_true, Bool.and_eq_true] at this ⊢
  obtain ⟨g1, g2, g3, g4, g5⟩ := this
  refine ⟨g1, g2, g3, g4, ?_⟩
  cases hu : atI s f.table.1 with
  | none => rw [hu] at g5; cases g5
  | some w => rw [hu] at g5; rw [atI_app hu]; exact g5
theorem stepR_ok {s : List Tbl} {x : Stm} {t : Tbl} (hx : SmallS x) (hsl : s.length ≤ 100) (hv : ∀ (i : Nat) (u : Tbl), s[i]? = some u → validB s i u = true) (h : stepR s x = .ok t) : validB (s ++ [t]) s.length t = true ∧ s.length < 8 ∧ SmallT t := by
  obtain ⟨x1, x2, x3, x4, x5, x6, x7, x8, x9⟩ := hx
  unfold stepR at h
  cases hk : x.kind.1 != 1 <;> rw [hk] at h
  case true => cases h
  rw [cond_false] at h
  cases h8 : decide (8 ≤ s.length) || bigB x <;> rw [h8] at h
  case true => cases h
  rw [cond_false] at h
  rw [Bool.or_eq_false_iff, decide_eq_false_iff_not] at h8
  cases hok : okB x <;> rw [hok] at h
  case false => cases h
  rw [cond_true] at h
  cases hex : exB s x <;> rw [hex] at h
  case true => cases h
  rw [cond_false] at h
  cases htab : tabR s x with
  | none => rw [htab] at h; cases h
  | some te =>
    obtain ⟨t', e⟩ := te
    rw [htab] at h
    simp only at h
    cases he : e == 0 <;> rw [he] at h <;> cases h
    have he : e = 0 := by simpa using he
    subst he
    unfold tabR at htab
    cases hks : keysL x.cols.items [] x.keys.items with
    | none => rw [hks] at htab; cases htab
    | some ks =>
      rw [hks] at htab
      simp only at htab
      cases hfs : fgsR (s ++ [⟨x.name, x.cols, cn ks, nilS, x.checks⟩]) x.cols.items [] 0 x.fgns.items with
      | none => rw [hfs] at htab; cases htab
      | some fe =>
        obtain ⟨fs, e⟩ := fe
        rw [hfs] at htab
        simp only [Option.some.injEq, Prod.mk.injEq] at htab
        obtain ⟨rfl, rfl⟩ := htab
        obtain ⟨new, e1, e2, _, e3⟩ := fgsR_inv _ _ _ _ hfs
        rw [List.nil_append] at e1; subst e1
        obtain ⟨kn', k1, k2, k3⟩ := keysL_inv _ _ _ hks
        rw [List.nil_append] at k1; subst k1
        have hkl : ks.length < 4611686018427387904 := by omega
        have hfl : fs.length < 4611686018427387904 := by omega
        have hki := cn_items hkl
        have hfi := cn_items hfl
        simp only [okB, Bool.and_eq_true, Bool.not_eq_true', beq_eq_false_iff_ne, List.all_eq_true] at hok
        obtain ⟨o1, o2, o3, o4, o5⟩ := hok
        have hbg := h8.2
        unfold bigB at hbg
        simp only [Bool.or_eq_false_iff, decide_eq_false_iff_not] at hbg
        obtain ⟨b1, b2, b3, b4⟩ := hbg
        unfold exB at hex
        simp only [Bool.or_eq_false_iff] at hex
        obtain ⟨d1, d2, d3, d4⟩ := hex
        have d1 : fnd (fun t : Tbl => t.name == x.name) 0 s = none := by rw [Option.isSome_eq_false_iff, Option.isNone_iff_eq_none] at d1; exact d1
        have hn := (dupS_iff _).1 d2
        obtain ⟨kd1, kd2⟩ := (kdF_iff _ _).1 d3
        -- the keys
        have hz : ∀ z ∈ ks, cofB x.cols.items z.items = true ∧ z.items.length ≤ 20 := fun z hz => by
          obtain ⟨i, hi⟩ := List.mem_iff_getElem?.1 hz
          have hil := (List.getElem?_eq_some_iff.1 hi).1
          obtain ⟨y, hy⟩ : ∃ y, x.keys.items[i]? = some y := ⟨_, List.getElem?_eq_getElem (by omega)⟩
          have hym := List.mem_of_getElem? hy
          obtain ⟨r, hr, rfl⟩ := k3 i z y hi hy
          have hrl := numsL_len _ _ _ _ hr
          have hyl := x7 y hym
          have hrl2 : r.length < 4611686018427387904 := by simp at hrl; omega
          rw [cn_items hrl2]
          have hin := numsL_in _ x.cols.lt _ _ _ hr fun a ha => by cases ha
          have hne : r ≠ [] := fun e0 => by
            have := o4 y hym
            unfold neB at this
            simp only [Bool.not_eq_true', beq_eq_false_iff_ne] at this
            rw [e0] at hrl; simp at hrl; omega
          exact ⟨(cof_iff (inC_all hin)).2 ⟨hne, nums_nodup x.cols.lt hr (kd1 y hym).1⟩, by simp at hrl; omega⟩
        have hKD := keysL_D x.cols.lt d3 hks
        have hkV : keysV x.cols.items [] ks = true := (keysV_iff _ _).2 ⟨fun z hzm => ⟨(hz z hzm).1, fun o ho => by cases ho⟩, hKD⟩
        have hfyl : ∀ f ∈ fs, ∃ y u b, y ∈ x.fgns.items ∧ fgnOf lastOf (s ++ [⟨x.name, x.cols, cn ks, nilS, x.checks⟩]) x.cols.items y = some (f, u, b) ∧ typF x.cols.items u.cols.items f.cols.items b = true := fun f hf => by
          obtain ⟨i, hi⟩ := List.mem_iff_getElem?.1 hf
          have hil := (List.getElem?_eq_some_iff.1 hi).1
          obtain ⟨y, hy⟩ : ∃ y, x.fgns.items[i]? = some y := ⟨_, List.getElem?_eq_getElem (by omega)⟩
          obtain ⟨u, b, g1, g2⟩ := e3 i f y hi hy
          exact ⟨y, u, b, List.mem_of_getElem? hy, g1, g2⟩
        have hfg : ∀ f ∈ fs, fgV (s ++ [⟨x.name, x.cols, cn ks, cn fs, x.checks⟩]) s.length ⟨x.name, x.cols, cn ks, cn fs, x.checks⟩ f = true ∧ f.cols.items.length ≤ 20 := fun f hf => by
          obtain ⟨y, u, b, hym, hfo, hty⟩ := hfyl f hf
          have hyok := o5 y hym
          simp only [fgB, Bool.and_eq_true, Bool.not_eq_true', beq_eq_false_iff_ne, beq_iff_eq] at hyok
          have hyd : dupS y.cols.items = false := by
            cases hd : dupS y.cols.items with
            | false => rfl
            | true =>
              have : (x.fgns.items.any fun f => dupS f.cols.items) = true := List.any_eq_true.2 ⟨y, hym, hd⟩
              rw [this] at d4; cases d4
          have hyl := x8 y hym
          unfold fgnOf at hfo
          cases ha : numsL x.cols.items [] y.cols.items with
          | none => rw [ha] at hfo; cases hfo
          | some a =>
            rw [ha] at hfo
            have fl := @fnd_some _ (fun t : Tbl => t.name == y.table) (s ++ [(⟨x.name, x.cols, cn ks, nilS, x.checks⟩ : Tbl)]) 0
            cases hnn : fnd (fun t : Tbl => t.name == y.table) 0 (s ++ [(⟨x.name, x.cols, cn ks, nilS, x.checks⟩ : Tbl)]) with
            | none => rw [hnn] at hfo; cases hfo
            | some n' =>
              rw [hnn] at hfo
              obtain ⟨_, u0, hu0, _⟩ := fl n' hnn
              rw [Nat.sub_zero] at hu0
              have hnl := (List.getElem?_eq_some_iff.1 hu0).1
              rw [List.length_append, List.length_singleton] at hnl
              simp only [hu0] at hfo
              cases hb : numsL u0.cols.items [] y.refs.items with
              | none => rw [hb] at hfo; cases hfo
              | some b0 =>
                rw [hb] at hfo
                simp only at hfo
                have lk := lastOf_some (fun k : Sl I64 => eqI k.items b0) u0.keys.items
                cases hj : lastOf (fun k : Sl I64 => eqI k.items b0) u0.keys.items with
                | none => rw [hj] at hfo; cases hfo
                | some j =>
                  rw [hj] at hfo
                  simp only [Option.some.injEq, Prod.mk.injEq] at hfo
                  obtain ⟨rfl, rfl, rfl⟩ := hfo
                  obtain ⟨z, hzj, hze⟩ := lk j hj
                  have hze := eqI_eq hze
                  have hal := numsL_len _ _ _ _ ha
                  have hbl := numsL_len _ _ _ _ hb
                  have hal2 : a.length < 4611686018427387904 := by simp at hal; omega
                  have hjl := (List.getElem?_eq_some_iff.1 hzj).1
                  have hkk := u0.keys.lt
                  -- the table, as it is in the new schema
                  obtain ⟨w, hw, hwc, hwk, hwz⟩ : ∃ w : Tbl, (s ++ [(⟨x.name, x.cols, cn ks, cn fs, x.checks⟩ : Tbl)])[n']? = some w ∧ w.cols = u0.cols ∧ w.keys = u0.keys ∧ cofB w.cols.items z.items = true := by
                    rcases Nat.lt_or_ge n' s.length with hlt | hge
                    · rw [List.getElem?_append_left hlt] at hu0
                      refine ⟨u0, by rw [List.getElem?_append_left hlt]; exact hu0, rfl, rfl, ?_⟩
                      obtain ⟨_, _, _, _, g1, _⟩ := validB_iff.1 (hv n' u0 hu0)
                      exact (((keysV_iff _ _).1 g1).1 z (List.mem_of_getElem? hzj)).1
                    · obtain rfl : n' = s.length := by omega
                      rw [List.getElem?_append_right (Nat.le_refl _), Nat.sub_self] at hu0
                      have hu0 : (⟨x.name, x.cols, cn ks, nilS, x.checks⟩ : Tbl) = u0 := by simpa using hu0
                      subst hu0
                      refine ⟨⟨x.name, x.cols, cn ks, cn fs, x.checks⟩, by rw [List.getElem?_append_right (Nat.le_refl _), Nat.sub_self]; rfl, rfl, rfl, ?_⟩
                      have hzj : (cn ks).items[j]? = some z := hzj
                      rw [hki] at hzj
                      exact (hz z (List.mem_of_getElem? hzj)).1
                  have e1 : atI (s ++ [(⟨x.name, x.cols, cn ks, cn fs, x.checks⟩ : Tbl)]) (iN n').1 = some w := by rw [iN_1 (by omega)]; exact hw
                  have e2 : atI w.keys.items (iN j).1 = some z := by rw [iN_1 (by omega), hwk]; exact hzj
                  refine ⟨?_, by show (cn a).items.length ≤ 20; rw [cn_items hal2]; simp at hal; omega⟩
                  unfold fgV
                  simp only [e1, e2, Bool.and_eq_true, decide_eq_true_eq, beq_iff_eq]
                  rw [cn_items hal2]
                  rw [cn_items hal2] at hty
                  refine ⟨(cof_iff (inC_all (numsL_in _ x.cols.lt _ _ _ ha fun a ha => by cases ha))).2 ⟨fun e0 => ?_, nums_nodup x.cols.lt ha hyd⟩, ?_, ?_, ?_, ?_, hwz, ?_⟩
                  · rw [e0] at hal; simp at hal; omega
                  · rw [iN_1 (by omega)]; omega
                  · rw [iN_1 (by omega)]; omega
                  · rw [iN_1 (by omega)]; omega
                  · rw [hze]; simp at hal hbl; omega
                  · rw [hwc, hze, typF_swap]; exact hty
        refine ⟨validB_iff.2 ⟨⟨o1, by show 1 ≤ x.cols.items.length; omega, by show x.cols.items.length ≤ 8; omega, ?_, ?_, by show x.checks.items.length ≤ 4; omega⟩, ?_, ?_, hn, ?_, ?_⟩, by omega, ?_⟩
        · show (cn ks).items.length ≤ 4
          rw [hki]; omega
        · show (cn fs).items.length ≤ 4
          rw [hfi]; omega
        · rw [fnd_append, d1]
          simp only
          rw [fnd, show (x.name == x.name) = true by simp, Nat.zero_add]
        · rw [List.all_eq_true]; exact o3
        · show keysV x.cols.items [] (cn ks).items = true
          rw [hki]; exact hkV
        · rw [List.all_eq_true]
          intro f hf
          have hf : f ∈ (cn fs).items := hf
          rw [hfi] at hf
          exact (hfg f hf).1
        · refine ⟨x1, ?_, ?_, x4, fun y hy => ?_, fun y hy => ?_, x5, x6, x9⟩
          · show (cn ks).items.length ≤ 10
            rw [hki]; omega
          · show (cn fs).items.length ≤ 10
            rw [hfi]; omega
          · have hy : y ∈ (cn ks).items := hy
            rw [hki] at hy
            exact (hz y hy).2
          · have hy : y ∈ (cn fs).items := hy
            rw [hfi] at hy
            exact (hfg y hy).2
theorem bld_valid : ∀ (l : List Stm) (s r : List Tbl), (∀ x ∈ l, SmallS x) → s.length ≤ 8 → (∀ (i : Nat) (u : Tbl), s[i]? = some u → validB s i u = true ∧ SmallT u) → bldF stepR s l = .ok r → r.length ≤ 8 ∧ ∀ (i : Nat) (u : Tbl), r[i]? = some u → validB r i u = true ∧ SmallT u
  | [], s, r, _, hs, hv, h => by cases h; exact ⟨hs, hv⟩
  | x :: l, s, r, hx, hs, hv, h => by
    rw [bldF] at h
    cases ht : stepR s x with
    | error e => rw [ht] at h; cases h
    | ok t =>
      rw [ht] at h
      obtain ⟨h1, h2, h3⟩ := stepR_ok (hx x List.mem_cons_self) (by omega) (fun i u hu => (hv i u hu).1) ht
      refine bld_valid l (s ++ [t]) r (fun y hy => hx y (List.mem_cons_of_mem _ hy)) (by simp; omega) (fun i u hu => ?_) h
      rcases Nat.lt_or_ge i s.length with hi | hi
      · rw [List.getElem?_append_left hi] at hu
        exact ⟨validB_app (hv i u hu).1, (hv i u hu).2⟩
      · have hl := (List.getElem?_eq_some_iff.1 hu).1
        obtain rfl : i = s.length := by simp at hl; omega
        rw [List.getElem?_append_right (Nat.le_refl _), Nat.sub_self] at hu
        have hu : t = u := by simpa using hu
        rw [← hu]; exact ⟨h1, h3⟩
set_option maxRecDepth 20000 in
set_option maxHeartbeats 8000000 in
theorem law11 (l : Sl Stm) : callP (XG GK) TT 11 [sl 22 encStm l] = some (.bool true) := by
  refine callP_val T11 rfl (by simp only [go_sem]) ?_
  unfold Tryd.f11
  simp only [Option.getD_some]
  obtain ⟨b, hb, hsm⟩ := small (G := GK) l
  simp (decide:=true) only[go_sem,Nat.reduceAdd,Nat.reduceMul,Nat.reduceSub]
  repeat (first|(with_reducible first|refine q1 ?_|refine q2 ?_|refine q3 ?_|refine q4 ?_|refine q5 ?_|refine q6 ?_|refine q7 ?_|refine q8 ?_|refine q9 ?_|refine q10 ?_|refine q11 ?_|refine q12 (by decide) ?_)|((first|with_reducible refine q13 ?_|((with_reducible refine q14 ?_ ?_);focus exact rfl));intro K hK;simp (decide:=true) only[go_sem,Nat.reduceAdd,Nat.reduceMul,Nat.reduceSub];with_reducible refine hK _ ?_;clear hK K)|(with_reducible refine q15 ?_;intro K J hK hJ;simp (decide:=true) only[go_sem,Nat.reduceAdd,Nat.reduceMul,Nat.reduceSub];(with_reducible first|refine hK ?_|refine hJ ?_);clear hK hJ K J))
  cases b
  · repeat (first|(with_reducible first|refine q1 ?_|refine q2 ?_|refine q3 ?_|refine q4 ?_|refine q5 ?_|refine q6 ?_|refine q7 ?_|refine q8 ?_|refine q9 ?_|refine q10 ?_|refine q11 ?_|refine q12 (by decide) ?_)|((first|with_reducible refine q13 ?_|((with_reducible refine q14 ?_ ?_);focus exact rfl));intro K hK;simp (decide:=true) only[go_sem,Nat.reduceAdd,Nat.reduceMul,Nat.reduceSub,callR_own pf19,callR_own pf20,awake,hb];with_reducible refine hK _ ?_;clear hK K)|(with_reducible refine q15 ?_;intro K J hK hJ;simp (decide:=true) only[go_sem,Nat.reduceAdd,Nat.reduceMul,Nat.reduceSub,callR_own pf19,callR_own pf20,awake,hb];(with_reducible first|refine hK ?_|refine hJ ?_);clear hK hJ K J))
    simp (decide:=true) only[go_sem,Nat.reduceAdd,Nat.reduceMul,Nat.reduceSub]
  obtain ⟨h1, h2⟩ := hsm rfl
  have c1 := bld21 l h1 h2
  have hlen := bldF_len (step := stepR) l.items []
  have hva := bld_valid l.items [] 
  have hne := bldF_ne l.items []
  generalize bldF stepR [] l.items = o at *
  cases o with
  | ok s =>
    have hl := hlen s rfl
    obtain ⟨v1, v2⟩ := hva s h2 (by simp) (fun i u hu => by simp at hu) rfl
    simp only [bldI] at c1
    have hsl : s.length < 4611686018427387904 := by omega
    have hsl2 : (s.map reT).length < 4611686018427387904 := by rw [List.length_map]; exact hsl
    have c3 := valid38 (cn (s.map reT)) (by
      rw [cn_items hsl2]
      intro t ht
      obtain ⟨t0, h0, rfl⟩ := List.mem_map.1 ht
      obtain ⟨i, hi⟩ := List.mem_iff_getElem?.1 h0
      obtain ⟨_, y1, y2, y3, y4, y5, y6, y7, y8, y9⟩ := v2 i t0 hi
      refine ⟨y1, y2, y3, ?_, y5, y6, y7, y8, ?_⟩
      · show (cn t0.checks.items).items.length ≤ 10
        rw [cn_items t0.checks.lt]; exact y4
      · intro e he
        have he : e ∈ (cn t0.checks.items).items := he
        rw [cn_items t0.checks.lt] at he; exact y9 e he)
    rw [cn_items hsl2, decide_eq_true (by rw [List.length_map]; exact v1), valL_of (s.map reT) 0 (fun i u hu => by
      rw [Nat.zero_add]
      rw [List.getElem?_map] at hu
      obtain ⟨u0, hu0, rfl⟩ := Option.map_eq_some_iff.1 hu
      rw [validB_re]; exact (v2 i u0 hu0).1)] at c3
    have hcl : ((cn (s.map reT)).items.length : Int) = (l.items.length : Int) := by rw [cn_items hsl2, List.length_map, hl]; simp
    have hbi : ∀ b : Int, (b == b) = true := fun b => by simp
    repeat (first|(with_reducible first|refine q1 ?_|refine q2 ?_|refine q3 ?_|refine q4 ?_|refine q5 ?_|refine q6 ?_|refine q7 ?_|refine q8 ?_|refine q9 ?_|refine q10 ?_|refine q11 ?_|refine q12 (by decide) ?_)|((first|with_reducible refine q13 ?_|((with_reducible refine q14 ?_ ?_);focus exact rfl));intro K hK;simp (decide:=true) only[go_sem,Nat.reduceAdd,Nat.reduceMul,Nat.reduceSub,callR_own pf19,callR_own pf20,callR_own pf21,callR_own pf38,awake,hb,c1,c3,hcl,hbi];with_reducible refine hK _ ?_;clear hK K)|(with_reducible refine q15 ?_;intro K J hK hJ;simp (decide:=true) only[go_sem,Nat.reduceAdd,Nat.reduceMul,Nat.reduceSub,callR_own pf19,callR_own pf20,callR_own pf21,callR_own pf38,awake,hb,c1,c3,hcl,hbi];(with_reducible first|refine hK ?_|refine hJ ?_);clear hK hJ K J))
    (simp (decide:=true) only[go_sem,Nat.reduceAdd,Nat.reduceMul,Nat.reduceSub,callR_own pf19,callR_own pf20,callR_own pf21,callR_own pf38,awake,hb,c1,c3,hcl,hbi]) <;> (try (simp only [callR_own pf19, callR_own pf20, callR_own pf21, callR_own pf38, awake, hb, c1, c3, hcl, hbi, cond_true, cond_false, Bool.true_and, Bool.false_and, Bool.and_true, Bool.and_false, Bool.true_or, Bool.false_or, Bool.or_true, Bool.or_false, Bool.not_true, Bool.not_false, Bool.or_self, Bool.and_self, Bool.not_not])) <;> (first | exact ⟨trivial, trivial⟩ | exact ⟨rfl, trivial⟩ | rfl | (simp; done))
  | error p =>
    obtain ⟨i, e⟩ := p
    have he := hne i e rfl
    have he2 : (e != 0) = true := by simpa using he
    have h00 : (((0 : Nat) : Int) == 0) = true := rfl
    simp only [bldI] at c1
    repeat (first|(with_reducible first|refine q1 ?_|refine q2 ?_|refine q3 ?_|refine q4 ?_|refine q5 ?_|refine q6 ?_|refine q7 ?_|refine q8 ?_|refine q9 ?_|refine q10 ?_|refine q11 ?_|refine q12 (by decide) ?_)|((first|with_reducible refine q13 ?_|((with_reducible refine q14 ?_ ?_);focus exact rfl));intro K hK;simp (decide:=true) only[go_sem,Nat.reduceAdd,Nat.reduceMul,Nat.reduceSub,callR_own pf19,callR_own pf20,callR_own pf21,callR_own pf38,awake,hb,c1,he2,h00];with_reducible refine hK _ ?_;clear hK K)|(with_reducible refine q15 ?_;intro K J hK hJ;simp (decide:=true) only[go_sem,Nat.reduceAdd,Nat.reduceMul,Nat.reduceSub,callR_own pf19,callR_own pf20,callR_own pf21,callR_own pf38,awake,hb,c1,he2,h00];(with_reducible first|refine hK ?_|refine hJ ?_);clear hK hJ K J))
    (simp (decide:=true) only[go_sem,Nat.reduceAdd,Nat.reduceMul,Nat.reduceSub,callR_own pf19,callR_own pf20,callR_own pf21,callR_own pf38,awake,hb,c1,he2,h00]) <;> (try (simp only [callR_own pf19, callR_own pf20, callR_own pf21, callR_own pf38, awake, hb, c1, he2, h00, cond_true, cond_false, Bool.true_and, Bool.false_and, Bool.and_true, Bool.and_false, Bool.true_or, Bool.false_or, Bool.or_true, Bool.or_false, Bool.not_true, Bool.not_false, Bool.or_self, Bool.and_self, Bool.not_not])) <;> (first | exact ⟨trivial, trivial⟩ | exact ⟨rfl, trivial⟩ | rfl | (simp; done))
end Go.Eng
