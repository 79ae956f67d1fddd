/- Part of the engine that proves it: see the last text. -/
import Derived.Test.YtcfmjomniaopcaaDoorEngX3
/- Any order; soundness of regions whose order is open. -/
namespace Go.Eng
open Go

theorem callN_mono {C : CallW} (g : Nat) (ds : List D) (dst : Option Nat) {K K' : St → Prop} {st : St} (h : ∀ r m, Sub st.m m → K ((st.put dst r).setM m) → K' ((st.put dst r).setM m)) (hc : callN C g ds dst K st) : callN C g ds dst K' st := by
  obtain ⟨T, h1, h2, h3⟩ := hc
  exact ⟨T, h1, h2, fun r m hr => ⟨(h3 r m hr).1, h r m (h3 r m hr).1 (h3 r m hr).2⟩⟩

/-- In whatever order the operations are ready. -/
def anyN (X : Ctx) (F : Fi) (C : CallW) (m0 : Mem) (ops : Array Oper) (K : St → Prop) : Nat → Array Bool → St → Prop
  | 0, listed, st => Region.ready .any ops listed = [] ∧ K st
  | fuel + 1, listed, st => (Region.ready .any ops listed = [] → K st) ∧
    ∀ i ∈ Region.ready .any ops listed, ∀ o, ops[i]? = some o → doN C o.dst (anyN X F C m0 ops K fuel (listed.setIfInBounds i true)) st (effN X F C m0 ops.toList o st)

section
variable {X : Ctx} {F : Fi} {C : CallW} {m0 : Mem} {ops : Array Oper} {K K' : St → Prop} {st : St} {o oi oj : Oper}

theorem sub_refl (m : Mem) : Sub m m := fun _ _ h => h
theorem Sub.trans {a b c : Mem} (h : Sub a b) (k : Sub b c) : Sub a c := fun id cs h' => k id cs (h id cs h')

/-- What holds behind every outcome, with what is known of it. -/
theorem doN_mono (hw : WfR st) {t : Option Todo} (ht : t = effN X F C m0 ops.toList o st) (hk : ∀ s, WfR s → K s → K' s) (h : doN C o.dst K st t) : doN C o.dst K' st t := by
  cases t with
  | none => exact h
  | some t =>
    cases t with
    | eff e => exact hk _ (wf_apply hw (effN_ok hw ht.symm)) h
    | call g ds =>
      have h4 := effN_call ht.symm
      exact callN_mono g ds o.dst (fun r m _ hK => hk _ (wf_apply (o := o) (e := .putM r m) hw h4) hK) h

theorem doN_some {t : Option Todo} (h : doN C o.dst K st t) : ∃ s, K s := by
  cases t with
  | none => exact h.elim
  | some t =>
    cases t with
    | eff e => exact ⟨_, h⟩
    | call g ds =>
      obtain ⟨T, ⟨r, m, hr⟩, _, h3⟩ := h
      exact ⟨_, (h3 r m hr).2⟩

theorem kinds_symm {a b : Kd} (h : kindsOk a b = true) : kindsOk b a = true := by
  have bs : ∀ x y : Nat, x.beq y = y.beq x := fun x y => by
    cases h1 : x.beq y with
    | true => rw [Nat.eq_of_beq_eq_true h1]; exact (Nat.beq_refl y).symm
    | false =>
      cases h2 : y.beq x with
      | true => rw [Nat.eq_of_beq_eq_true h2, Nat.beq_refl x] at h1; cases h1
      | false => rfl
  cases a <;> cases b <;> first | rfl | (cases h; done) | skip
  all_goals simp only [kindsOk] at h ⊢
  · rw [bs]; exact h
  · rw [bs]; exact h
  · rw [bs, Bool.or_comm (Nat.ble _ _)]; exact h

theorem apart_symm {ops : Array Oper} (h : oi.apart ops oj = true) : (∀ d, oj.dst = some d → d ∉ oi.looksAt ops) ∧ (∀ d, oj.dst = some d → oi.dst ≠ some d) := by
  obtain ⟨h1, h2, h3⟩ := Oper.apart_spec h
  exact ⟨h3, fun d hd he => h2 d he hd⟩

/-- The earlier and a later one change places. -/
theorem swap (hw : WfR st) (hap : oi.apart ops oj = true) (hk : kindsOk (kindOf X.P C.pf F oi) (kindOf X.P C.pf F oj) = true)
    (h : doN C oi.dst (fun s => doN C oj.dst K s (effN X F C m0 ops.toList oj s)) st (effN X F C m0 ops.toList oi st)) :
    doN C oj.dst (fun s => doN C oi.dst K s (effN X F C m0 ops.toList oi s)) st (effN X F C m0 ops.toList oj st) := by
  obtain ⟨a1, a2, a3⟩ := Oper.apart_spec hap
  obtain ⟨b1, b2⟩ := apart_symm hap
  have hk' := kinds_symm hk
  -- the later one, behind an effect of the earlier one
  have lat : ∀ ei, EffOk X F C oi st ei → effN X F C m0 ops.toList oj (ei.apply oi.dst st) = effN X F C m0 ops.toList oj st := fun ei he => (effN_congr (agree_of he hw a1 a2 hk)).symm
  have ear : ∀ ej, EffOk X F C oj st ej → effN X F C m0 ops.toList oi (ej.apply oj.dst st) = effN X F C m0 ops.toList oi st := fun ej he => (effN_congr (agree_of he hw b1 b2 hk')).symm
  have comm : ∀ ei ej, EffOk X F C oi st ei → EffOk X F C oj st ej → EffOk X F C oi (ej.apply oj.dst st) ei → EffOk X F C oj (ei.apply oi.dst st) ej → ei.apply oi.dst (ej.apply oj.dst st) = ej.apply oj.dst (ei.apply oi.dst st) := fun ei ej h1 h2 h3 h4 =>
    apply_comm h1 h2 h3 h4 (fun d hd => a2 d hd) hk
  have mOf : ∀ (e : Eff) (o : Oper), EffOk X F C o st e → kindOf X.P C.pf F o ≠ .mem ∧ kindOf X.P C.pf F o ≠ .st → (e.apply o.dst st).m = st.m := fun e o he h4 => by
    cases e with
    | put d => simp only [Eff.apply]; rw [m_put]
    | putM d m => exact absurd he h4.1
    | putL a b => simp only [Eff.apply]; cases o.dst <;> rfl
    | stay => rfl
    | newBox cs => obtain ⟨_, x, hd, hb⟩ := he; simp only [Eff.apply, hd]; rfl
    | wr k' off cs => rfl
    | setM m => exact absurd he.1 h4.2
  cases hi : effN X F C m0 ops.toList oi st with
  | none => rw [hi] at h; exact h.elim
  | some ti =>
    rw [hi] at h
    cases ti with
    | eff ei =>
      have oki := effN_ok hw hi
      have h : doN C oj.dst K (ei.apply oi.dst st) (effN X F C m0 ops.toList oj (ei.apply oi.dst st)) := h
      have e1 := lat ei oki
      cases hj : effN X F C m0 ops.toList oj st with
      | none => rw [e1, hj] at h; exact h.elim
      | some tj =>
        have hj1 : effN X F C m0 ops.toList oj (ei.apply oi.dst st) = some tj := by rw [e1, hj]
        rw [hj1] at h
        cases tj with
        | eff ej =>
          have okj := effN_ok hw hj
          have okj' := effN_ok (wf_apply hw oki) hj1
          have e2 := ear ej okj
          have hi1 : effN X F C m0 ops.toList oi (ej.apply oj.dst st) = some (.eff ei) := by rw [e2, hi]
          have oki' := effN_ok (wf_apply hw okj) hi1
          show doN C oi.dst K (ej.apply oj.dst st) (effN X F C m0 ops.toList oi (ej.apply oj.dst st))
          rw [hi1]
          show K (ei.apply oi.dst (ej.apply oj.dst st))
          rw [comm ei ej oki okj oki' okj']
          exact h
        | call g ds =>
          have k4 := effN_call hj
          have ki : kindOf X.P C.pf F oi ≠ .mem ∧ kindOf X.P C.pf F oi ≠ .st := ⟨fun e => (by rw [e, k4] at hk; cases hk), fun e => (by rw [e, k4] at hk; cases hk)⟩
          obtain ⟨T, h1, h2, h3⟩ := h
          rw [mOf ei oi oki ki] at h2
          refine ⟨T, h1, h2, fun r m hr => ?_⟩
          obtain ⟨s1, s2⟩ := h3 r m hr
          rw [mOf ei oi oki ki] at s1
          refine ⟨s1, ?_⟩
          have okj : EffOk X F C oj st (.putM r m) := k4
          have okj' : EffOk X F C oj (ei.apply oi.dst st) (.putM r m) := k4
          have e2 := ear (.putM r m) okj
          have hi1 : effN X F C m0 ops.toList oi ((Eff.putM r m).apply oj.dst st) = some (.eff ei) := by rw [e2, hi]
          have oki' := effN_ok (wf_apply hw okj) hi1
          show doN C oi.dst K ((Eff.putM r m).apply oj.dst st) (effN X F C m0 ops.toList oi ((Eff.putM r m).apply oj.dst st))
          rw [hi1]
          show K (ei.apply oi.dst ((Eff.putM r m).apply oj.dst st))
          rw [comm ei (.putM r m) oki okj oki' okj']
          exact s2
    | call g ds =>
      have k4 := effN_call hi
      have kj : kindOf X.P C.pf F oj ≠ .mem ∧ kindOf X.P C.pf F oj ≠ .st := ⟨fun e => (by rw [k4, e] at hk; cases hk), fun e => (by rw [k4, e] at hk; cases hk)⟩
      obtain ⟨T, ⟨r0, m1, hr0⟩, h2, h3⟩ := h
      have oki : ∀ r m, EffOk X F C oi st (.putM r m) := fun r m => k4
      cases hj : effN X F C m0 ops.toList oj st with
      | none =>
        have := (h3 r0 m1 hr0).2
        have e1 := lat (.putM r0 m1) (oki r0 m1)
        have : doN C oj.dst K ((Eff.putM r0 m1).apply oi.dst st) (effN X F C m0 ops.toList oj ((Eff.putM r0 m1).apply oi.dst st)) := this
        rw [e1, hj] at this; exact this.elim
      | some tj =>
        cases tj with
        | call g' ds' => exact absurd (effN_call hj) kj.1
        | eff ej =>
          have okj := effN_ok hw hj
          have e2 := ear ej okj
          have hi1 : effN X F C m0 ops.toList oi (ej.apply oj.dst st) = some (.call g ds) := by rw [e2, hi]
          show doN C oi.dst K (ej.apply oj.dst st) (effN X F C m0 ops.toList oi (ej.apply oj.dst st))
          rw [hi1]
          refine ⟨T, ⟨r0, m1, hr0⟩, by rw [mOf ej oj okj kj]; exact h2, fun r m hr => ?_⟩
          obtain ⟨s1, s2⟩ := h3 r m hr
          rw [mOf ej oj okj kj]
          refine ⟨s1, ?_⟩
          have e1 := lat (.putM r m) (oki r m)
          have hj1 : effN X F C m0 ops.toList oj ((Eff.putM r m).apply oi.dst st) = some (.eff ej) := by rw [e1, hj]
          have s2 : doN C oj.dst K ((Eff.putM r m).apply oi.dst st) (effN X F C m0 ops.toList oj ((Eff.putM r m).apply oi.dst st)) := s2
          rw [hj1] at s2
          have okj' := effN_ok (wf_apply hw (oki r m)) hj1
          have oki' : EffOk X F C oi (ej.apply oj.dst st) (.putM r m) := k4
          have := comm (.putM r m) ej (oki r m) okj oki' okj'
          show K ((Eff.putM r m).apply oi.dst (ej.apply oj.dst st))
          rw [this]; exact s2

theorem any_first {i : Nat} (hi : ops[i]? = some oi) (D : List Nat) (hiD : i ∈ D) (hD : ∀ d ∈ D, d ≠ i → ∀ od, ops[d]? = some od → ∃ e ∈ od.after, Region.binds .any e = true ∧ e.on ∈ D) :
    ∀ (fuel : Nat) (listed : Array Bool) (st : St), WfR st → (∀ d ∈ D, listed.getD d true = false) →
    (∀ j oj, ops[j]? = some oj → listed.getD j true = false → j ∉ D → oi.apart ops oj = true ∧ kindsOk (kindOf X.P C.pf F oi) (kindOf X.P C.pf F oj) = true) →
    i ∈ Region.ready .any ops listed → doN C oi.dst (anyN X F C m0 ops K fuel (listed.setIfInBounds i true)) st (effN X F C m0 ops.toList oi st) → anyN X F C m0 ops K (fuel + 1) listed st := by
  intro fuel
  induction fuel with
  | zero =>
    intro listed st hw _ _ hr H
    refine ⟨fun h => (by rw [h] at hr; cases hr), fun j hj o ho => ?_⟩
    by_cases hji : j = i
    · subst hji; rw [hi] at ho; cases ho; exact H
    · have := ready_mono hj hji
      obtain ⟨s, hs⟩ := doN_some H
      rw [hs.1] at this
      cases this
  | succ fuel ih =>
    intro listed st hw hun hfree hr H
    refine ⟨fun h => (by rw [h] at hr; cases hr), fun j hj oj hoj => ?_⟩
    by_cases hji : j = i
    · subst hji; rw [hi] at hoj; cases hoj; exact H
    · obtain ⟨hjun, oj', hoj', hall⟩ := mem_ready.1 hj
      rw [hoj] at hoj'; cases hoj'
      have hjD : j ∉ D := fun hjD => by
        obtain ⟨e, he, hb, heD⟩ := hD j hjD hji oj hoj
        have h1 := hall e he hb
        have h0 := hun _ heD
        rcases Nat.lt_or_ge e.on listed.size with h' | h'
        · simp [h'] at h0 h1; rw [h0] at h1; cases h1
        · simp [Array.getElem?_eq_none h'] at h1
      obtain ⟨hap, hk⟩ := hfree j oj hoj hjun hjD
      have H1 : doN C oi.dst (fun s => doN C oj.dst (anyN X F C m0 ops K fuel ((listed.setIfInBounds i true).setIfInBounds j true)) s (effN X F C m0 ops.toList oj s)) st (effN X F C m0 ops.toList oi st) :=
        doN_mono hw rfl (fun s _ hs => hs.2 j (ready_mono hj hji) oj hoj) H
      have H2 := swap hw hap hk H1
      have hun' : ∀ d ∈ D, (listed.setIfInBounds j true).getD d true = false := fun d hd => by
        rw [getD_set_ne true (fun e => hjD (by rw [e]; exact hd))]; exact hun d hd
      have hfree' : ∀ k ok, ops[k]? = some ok → (listed.setIfInBounds j true).getD k true = false → k ∉ D → oi.apart ops ok = true ∧ kindsOk (kindOf X.P C.pf F oi) (kindOf X.P C.pf F ok) = true := fun k ok hk hkun hno => by
        refine hfree k ok hk ?_ hno
        by_cases hjk : j = k
        · subst hjk; exact hjun
        · rw [getD_set_ne true hjk] at hkun; exact hkun
      refine doN_mono hw rfl (fun s hws hs => ih (listed.setIfInBounds j true) s hws hun' hfree' (ready_mono hr (Ne.symm hji)) ?_) H2
      rw [Array.setIfInBounds_comm _ _ hji]
      exact hs

theorem memB_spec : ∀ {l : List Nat} {x : Nat}, memB l x = true → x ∈ l
  | [], _, h => by cases h
  | y :: r, x, h => by
    simp only [memB] at h
    split at h
    · rename_i e; rw [e]; exact List.mem_cons_self ..
    · exact List.mem_cons_of_mem _ (memB_spec h)

theorem edgeTo_spec {D : List Nat} {p : Oper} (h : edgeTo D p = true) : ∃ e ∈ p.after, Region.binds .any e = true ∧ e.on ∈ D := by
  unfold edgeTo at h
  rw [Array.any_eq_true] at h
  obtain ⟨x, hx, he⟩ := h
  simp only [Bool.and_eq_true] at he
  exact ⟨_, Array.getElem_mem hx, he.1, memB_spec he.2⟩

/-- What waits, and what does not. -/
theorem clearOf_spec {i : Nat} : ∀ {l : List Oper} {k : Nat} {D : List Nat}, (∀ j, l[j]? = ops[k + j]?) → clearOf X.P C.pf F ops oi l k D = true →
    (∀ d ∈ D, d < k ∧ i ≤ d) → i ≤ k → (∀ d ∈ D, d ≠ i → ∀ od, ops[d]? = some od → ∃ e ∈ od.after, Region.binds .any e = true ∧ e.on ∈ D) → (∀ j oj, ops[j]? = some oj → i < j → j < k → j ∉ D → oi.apart ops oj = true ∧ kindsOk (kindOf X.P C.pf F oi) (kindOf X.P C.pf F oj) = true) →
    ∃ D' : List Nat, (∀ d ∈ D, d ∈ D') ∧ (∀ d ∈ D', i ≤ d ∧ d < k + l.length) ∧ (∀ d ∈ D', d ≠ i → ∀ od, ops[d]? = some od → ∃ e ∈ od.after, Region.binds .any e = true ∧ e.on ∈ D') ∧
      ∀ j oj, ops[j]? = some oj → i < j → j ∉ D' → oi.apart ops oj = true ∧ kindsOk (kindOf X.P C.pf F oi) (kindOf X.P C.pf F oj) = true
  | [], k, D, hl, _, hD, _, he, hf => ⟨D, fun _ h => h, fun d hd => ⟨(hD d hd).2, by simpa using (hD d hd).1⟩, he, fun j oj hj hij hjD => by
      refine hf j oj hj hij ?_ hjD
      rcases Nat.lt_or_ge j k with h | h
      · exact h
      · have := hl (j - k)
        rw [show k + (j - k) = j by omega, hj] at this
        simp at this⟩
  | p :: r, k, D, hl, h, hD, hik, he, hf => by
    have hp : ops[k]? = some p := by simpa using (hl 0).symm
    have hl' : ∀ j, r[j]? = ops[k + 1 + j]? := fun j => by have := hl (j + 1); simpa [Nat.add_assoc, Nat.add_comm 1 j] using this
    simp only [clearOf] at h
    cases hb : edgeTo D p with
    | true =>
      rw [hb] at h
      obtain ⟨e, h1, h2, h3⟩ := edgeTo_spec hb
      obtain ⟨D', g1, g2, g3, g4⟩ := clearOf_spec (k := k + 1) (D := k :: D) hl' h (fun d hd => by
          rcases List.mem_cons.1 hd with rfl | hd
          · exact ⟨Nat.lt_succ_self _, hik⟩
          · exact ⟨Nat.lt_succ_of_lt (hD d hd).1, (hD d hd).2⟩) (by omega) (fun d hd hne od hod => by
          rcases List.mem_cons.1 hd with rfl | hd
          · rw [hp] at hod; cases hod
            exact ⟨e, h1, h2, List.mem_cons_of_mem _ h3⟩
          · obtain ⟨e', a1, a2, a3⟩ := he d hd hne od hod
            exact ⟨e', a1, a2, List.mem_cons_of_mem _ a3⟩) (fun j oj hj hij hjk hjD => by
          have hne : j ≠ k := fun e => hjD (by rw [e]; exact List.mem_cons_self ..)
          exact hf j oj hj hij (by omega) (fun h => hjD (List.mem_cons_of_mem _ h)))
      exact ⟨D', fun d hd => g1 d (List.mem_cons_of_mem _ hd), fun d hd => ⟨(g2 d hd).1, by have := (g2 d hd).2; simp only [List.length_cons]; omega⟩, g3, g4⟩
    | false =>
      rw [hb] at h
      simp only [Bool.and_eq_true] at h
      obtain ⟨D', g1, g2, g3, g4⟩ := clearOf_spec (k := k + 1) (D := D) hl' h.2.2 (fun d hd => ⟨Nat.lt_succ_of_lt (hD d hd).1, (hD d hd).2⟩) (by omega) he (fun j oj hj hij hjk hjD => by
          by_cases e : j = k
          · subst e; rw [hp] at hj; cases hj; exact ⟨h.1, h.2.1⟩
          · exact hf j oj hj hij (by omega) hjD)
      exact ⟨D', g1, fun d hd => ⟨(g2 d hd).1, by have := (g2 d hd).2; simp only [List.length_cons]; omega⟩, g3, g4⟩

theorem any_lex : ∀ (l : List Oper) (k : Nat) (listed : Array Bool) (st : St), WfR st → (∀ j, l[j]? = ops[k + j]?) → memOk X.P C.pf F ops l k = true → (∀ j, j < ops.size → listed.getD j true = decide (j < k)) →
    wpOpsN X F C m0 ops.toList l K st → anyN X F C m0 ops K l.length listed st
  | [], k, listed, _, _, hl, _, hlow, h => by
    refine ⟨?_, h⟩
    refine List.eq_nil_iff_forall_not_mem.2 fun j hj => ?_
    obtain ⟨h0, o, ho, _⟩ := mem_ready.1 hj
    have hlt := (Array.getElem?_eq_some_iff.1 ho).1
    rw [hlow j hlt] at h0
    have hjk : k ≤ j := by simpa using h0
    have := hl (j - k)
    rw [show k + (j - k) = j by omega, ho] at this
    simp at this
  | o :: l, k, listed, st, hw, hl, hm, hlow, h => by
    have h0 : ops[k]? = some o := by simpa using (hl 0).symm
    have hkl := (Array.getElem?_eq_some_iff.1 h0).1
    have hl' : ∀ j, l[j]? = ops[k + 1 + j]? := fun j => by have := hl (j + 1); simpa [Nat.add_assoc, Nat.add_comm 1 j] using this
    simp only [memOk, Bool.and_eq_true] at hm
    obtain ⟨hr, hc, hm'⟩ := hm
    have hdo := opN_do ops.toList o h
    obtain ⟨D', g1, g2, g3, g4⟩ := clearOf_spec (i := k) (k := k + 1) (D := [k]) hl' hc (fun d hd => by simp at hd; omega) (by omega) (fun d hd hne => by simp at hd; exact absurd hd hne) (fun j oj hj h1 h2 => by omega)
    have hlen : k + 1 + l.length = ops.size := by
      rcases Nat.lt_trichotomy (k + 1 + l.length) ops.size with h | h | h
      · have := hl' l.length
        rw [Array.getElem?_eq_getElem h] at this
        simp at this
      · exact h
      · cases hll : l.length with
        | zero => omega
        | succ q =>
          have := hl' q
          rw [Array.getElem?_eq_none (by omega), List.getElem?_eq_getElem (by omega)] at this
          cases this
    refine any_first h0 D' (g1 k (List.mem_cons_self ..)) g3 l.length listed st hw (fun d hd => ?_) (fun j oj hj hun hjD => ?_) ?_ (doN_mono hw rfl (fun s hws hs => ?_) hdo)
    · have := g2 d hd
      rw [hlow d (by omega)]; simp; omega
    · have hlt := (Array.getElem?_eq_some_iff.1 hj).1
      rw [hlow j hlt] at hun
      have hkj : k ≤ j := by simpa using hun
      have hne : j ≠ k := fun e => hjD (by rw [e]; exact g1 k (List.mem_cons_self ..))
      exact g4 j oj hj (by omega) hjD
    · refine mem_ready.2 ⟨by rw [hlow k hkl]; simp, o, h0, fun e he hb => ?_⟩
      rw [Array.all_eq_true] at hr
      obtain ⟨q, hq, rfl⟩ := Array.mem_iff_getElem.1 he
      have := hr q hq
      rw [hb] at this
      have hlt : (o.after[q]).on < k := by
        have : Nat.blt (o.after[q]).on k = true := by simpa using this
        simpa [Nat.blt_eq] using this
      have h1 := hlow (o.after[q]).on (by omega)
      rw [decide_eq_true hlt] at h1
      have hs : (o.after[q]).on < listed.size := by
        rcases Nat.lt_or_ge (o.after[q]).on listed.size with h | h
        · exact h
        · exfalso
          have h2 := hlow k hkl
          simp [Array.getElem?_eq_none (show listed.size ≤ k by omega)] at h2
      simp [hs] at h1 ⊢
      exact h1
    · refine any_lex l (k + 1) _ s hws hl' hm' (fun j hj => ?_) hs
      by_cases e : k = j
      · subst e
        rcases Nat.lt_or_ge k listed.size with h | h
        · simp [h]
        · simp
      · rw [getD_set_ne true e, hlow j hj]
        congr 1
        apply propext
        omega
end
end Go.Eng
