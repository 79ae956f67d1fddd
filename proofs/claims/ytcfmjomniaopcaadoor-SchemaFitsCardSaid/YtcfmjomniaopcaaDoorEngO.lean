/- Part of the engine that proves it: see the last text. -/
import Derived.Test.YtcfmjomniaopcaaDoorEngR
import Derived.Laws.StructEq
import Derived.Laws.Strings
import Derived.ChangeKeysEq
set_option linter.unusedSimpArgs false
set_option linter.unusedVariables false
/- Operations that change no memory: what they yield stands for what the abstract machine says. -/
namespace Go.Eng
open Go
section
variable {X : Ctx} {B N : Nat} {w : World} {S : Sh} {st : St} {lb : Nat → Nat} {a : Act}

theorem hasInt {k : IntKind} {n : Int} {v : Value} (h : HasV w S (.int k n) v) : v = .int k n := by cases h; rfl
theorem hasBool {b : Bool} {v : Value} (h : HasV w S (.bool b) v) : v = .bool b := by cases h; rfl
theorem hasStr {s : List UInt8} {v : Value} (h : HasV w S (.str s) v) : v = .string ⟨s.toArray⟩ := by cases h; rfl
theorem hasNil {v : Value} (h : HasV w S .nil v) : v = .slice none 0 0 := by cases h; rfl
theorem hasAgg {cs : List D} {v : Value} (h : HasV w S (.agg cs) v) : ∃ vs : Array Value, v = .agg vs ∧ HasC w S cs vs.toList := by
  cases h with
  | agg _ vs hl hcl hv => exact ⟨vs, rfl, ⟨by simpa using hl, fun j c v hc hv' => hv j c v hc (by simpa using hv')⟩, hcl⟩
theorem hasRsl {id off len k : Nat} {v : Value} (h : HasV w S (.rsl id off len k) v) : ∃ p n cap, v = .slice (some p) n cap := by
  cases h with
  | rsl _ _ _ _ b cap => exact ⟨_, _, _, rfl⟩
theorem hasSlice' {t : Option Nat} {k : Nat} {es : List D} {v : Value} (h : HasV w S (.slice t k es) v) : ∃ p cap, v = .slice (some p) es.length cap ∧ es.length ≤ cap := by
  cases h with
  | slice0 _ _ p cap => exact ⟨p, cap, rfl, by simp⟩
  | slice _ _ _ b off cap _ _ hcap => exact ⟨_, cap, rfl, hcap⟩
theorem hasSlice {t : Option Nat} {k : Nat} {es : List D} {v : Value} (h : HasV w S (.slice t k es) v) : ∃ p cap, v = .slice (some p) es.length cap := by
  obtain ⟨p, cap, h, _⟩ := hasSlice' h
  exact ⟨p, cap, h⟩

theorem run_underlying_of {P : Program} {t : Nat} {d : TypeDesc} (h : P.underlying t = some d) (w : World) : (underlying t).run P w = .ok d w := by
  unfold underlying; simp [h]

theorem intTy_eq {P : Program} {t : Nat} {k : IntKind} (h : intTy P t = some k) : P.underlying t = some (.int k) := by
  unfold intTy at h; split at h <;> first | (cases h; assumption) | cases h

theorem sliceElem_eq {P : Program} {t e : Nat} (h : sliceElem P t = some e) : P.underlying t = some (.slice e) := by
  unfold sliceElem at h; split at h <;> first | (cases h; assumption) | cases h

theorem isStr_eq {P : Program} {t : Nat} (h : isStr P t = true) : P.underlying t = some .string := by
  unfold isStr at h; split at h <;> first | assumption | cases h

theorem arrElem_eq {P : Program} {t n e : Nat} (h : arrElem P t = some (n, e)) : P.underlying t = some (.array n e) := by
  unfold arrElem at h; split at h <;> first | (cases h; assumption) | cases h

theorem tagOf_run {P : Program} {t g : Nat} (h : tagOf P t = some g) {x y : D} {p : Bool} (he : eqC g x y = some p) {vx vy : Value} (hx : HasV w S x vx) (hy : HasV w S y vy) (d : Nat) :
    (Op.equalIn (d + 1) t vx vy).run P w = .ok p w := by
  unfold eqC at he
  unfold tagOf at h
  split at he
  · rename_i k n k' n'
    by_cases hk : k = k'
    · subst hk
      simp at he; subst he
      rw [hasInt hx, hasInt hy]
      split at h <;> first | (cases h; done) | skip
      rename_i k0 hu
      exact run_equalIn_int w d t k k0 n n' hu
    · simp [hk] at he
  · cases he
    rw [hasBool hx, hasBool hy]
    split at h <;> first | (cases h; done) | skip
    rename_i hu
    exact run_equalIn_bool' w d t _ _ hu
  · cases he
    rename_i p q
    rw [hasStr hx, hasStr hy]
    split at h <;> first | (cases h; done) | skip
    rename_i hu
    rw [run_equalIn_string w d t _ _ hu, ByteArray.toList_eq, ByteArray.toList_eq]
  · cases he

theorem isAgg_of_tag {P : Program} {t g : Nat} (h : tagOf P t = some g) : isAgg P t = some false := by
  unfold tagOf at h; unfold isAgg
  split at h <;> first | (cases h; done) | (rename_i hu; rw [hu])

theorem drop_head {α : Type} {l r : List α} {i : Nat} {c : α} (h : l.drop i = c :: r) : l[i]? = some c := by
  have e : (l.drop i)[0]? = l[i]? := by simp
  rw [← e, h]; rfl

theorem eqFields_run {P : Program} (d : Nat) (xs ys : Array Value) (cx cy : List D) (hx : HasL w S cx xs.toList) (hy : HasL w S cy ys.toList) :
    ∀ (fs : List Field) (gs : List Nat) (i : Nat) (p : Bool), tagsFs P fs i = some gs → eqT gs (cx.drop i) (cy.drop i) = some p →
      (Op.eqFields (d + 1) xs ys fs).run P w = .ok p w
  | [], gs, i, p, h, he => by
    cases h
    simp only [Op.eqFields, Sem.run_pure]
    cases hcx : cx.drop i <;> cases hcy : cy.drop i <;> rw [hcx, hcy] at he <;> simp [eqT] at he
    rw [he]
  | f :: fs, gs, i, p, h, he => by
    unfold tagsFs at h
    split at h
    · rename_i g gs' hb hg hgs
      cases h
      simp only [Bool.and_eq_true, decide_eq_true_eq] at hb
      obtain ⟨hn, ho⟩ := hb
      cases hcx : cx.drop i with
      | nil => rw [hcx] at he; simp [eqT] at he
      | cons c rx =>
        cases hcy : cy.drop i with
        | nil => rw [hcx, hcy] at he; simp [eqT] at he
        | cons c' ry =>
          rw [hcx, hcy] at he
          simp only [eqT] at he
          split at he
          · rename_i q r hq hr
            cases he
            have hi : cx[i]? = some c := drop_head hcx
            have hi' : cy[i]? = some c' := drop_head hcy
            have hlx : i < xs.size := by
              have := hx.len; simp at this
              rcases Nat.lt_or_ge i cx.length with h | h
              · omega
              · rw [List.getElem?_eq_none h] at hi; cases hi
            have hly : i < ys.size := by
              have := hy.len; simp at this
              rcases Nat.lt_or_ge i cy.length with h | h
              · omega
              · rw [List.getElem?_eq_none h] at hi'; cases hi'
            have h1 := hx.at_ i c xs[i] hi (by simp [hlx])
            have h2 := hy.at_ i c' ys[i] hi' (by simp [hly])
            have ag := run_isAgg (isAgg_of_tag hg) w
            have heq := tagOf_run hg hq h1 h2 d
            have hpx : (part f.type xs f.offset).run P w = .ok xs[i] w := by
              unfold part; simp [ag, ho, hlx]
            have hpy : (part f.type ys f.offset).run P w = .ok ys[i] w := by
              unfold part; simp [ag, ho, hly]
            have ih := eqFields_run d xs ys cx cy hx hy fs gs' (i + 1) r hgs (by
              have e1 : cx.drop (i + 1) = rx := by rw [← List.drop_drop, hcx]; rfl
              have e2 : cy.drop (i + 1) = ry := by rw [← List.drop_drop, hcy]; rfl
              rw [e1, e2]; exact hr)
            simp only [Op.eqFields, hn, if_true, ne_eq, not_false_eq_true, Sem.run_bind, hpx, hpy, heq, Result.andThen_ok, Sem.run_ite, Sem.run_pure, ih]
            cases q <;> simp
          · cases he
    · cases h

theorem eqItems_run {P : Program} (d : Nat) {e g : Nat} (hg : tagOf P e = some g) (xs ys : Array Value) (cx cy : List D) (hx : HasL w S cx xs.toList) (hy : HasL w S cy ys.toList) :
    ∀ (n i : Nat) (p : Bool), eqT (List.replicate n g) (cx.drop i) (cy.drop i) = some p → (Op.eqItems (d + 1) e 1 xs ys (List.range' i n)).run P w = .ok p w
  | 0, i, p, he => by
    simp only [List.range'_zero, Op.eqItems, Sem.run_pure]
    cases hcx : cx.drop i <;> cases hcy : cy.drop i <;> rw [hcx, hcy] at he <;> simp [eqT] at he
    rw [he]
  | n + 1, i, p, he => by
    rw [List.replicate_succ] at he
    rw [List.range'_succ]
    cases hcx : cx.drop i with
    | nil => rw [hcx] at he; simp [eqT] at he
    | cons c rx =>
      cases hcy : cy.drop i with
      | nil => rw [hcx, hcy] at he; simp [eqT] at he
      | cons c' ry =>
        rw [hcx, hcy] at he
        simp only [eqT] at he
        split at he
        · rename_i q r hq hr
          cases he
          have hi : cx[i]? = some c := drop_head hcx
          have hi' : cy[i]? = some c' := drop_head hcy
          have hlx : i < xs.size := by
            have := hx.len; simp at this
            rcases Nat.lt_or_ge i cx.length with h | h
            · omega
            · rw [List.getElem?_eq_none h] at hi; cases hi
          have hly : i < ys.size := by
            have := hy.len; simp at this
            rcases Nat.lt_or_ge i cy.length with h | h
            · omega
            · rw [List.getElem?_eq_none h] at hi'; cases hi'
          have h1 := hx.at_ i c xs[i] hi (by simp [hlx])
          have h2 := hy.at_ i c' ys[i] hi' (by simp [hly])
          have ag := run_isAgg (isAgg_of_tag hg) w
          have heq := tagOf_run hg hq h1 h2 d
          have hpx : (part e xs (i * 1)).run P w = .ok xs[i] w := by
            unfold part; simp [ag, hlx]
          have hpy : (part e ys (i * 1)).run P w = .ok ys[i] w := by
            unfold part; simp [ag, hly]
          have ih := eqItems_run d hg xs ys cx cy hx hy n (i + 1) r (by
            have e1 : cx.drop (i + 1) = rx := by rw [← List.drop_drop, hcx]; rfl
            have e2 : cy.drop (i + 1) = ry := by rw [← List.drop_drop, hcy]; rfl
            rw [e1, e2]; exact hr)
          simp only [Op.eqItems, Sem.run_bind, hpx, hpy, heq, Result.andThen_ok]
          cases q
          · simp
          · simpa using ih
        · cases he

theorem eqD_run {t : Nat} {x y : D} {p : Bool} (h : eqD X.P t x y = some p) {vx vy : Value} (hx : HasV w S x vx) (hy : HasV w S y vy) (ox oy : Operand) (op : BinOp) :
    (Op.equal t vx vy).run X.P w = .ok p w ∧ (eqGuard op t ox oy vx vy).run X.P w = .ok () w ∧ (∀ k n, vx ≠ .int k n) ∧ (∀ k n, vx ≠ .float k n) ∧ (∀ k n m, vx ≠ .complex k n m) ∧ (∀ s, vx ≠ .string s) := by
  unfold eqD at h
  split at h
  · rename_i cx cy
    split at h
    · rename_i gs hg
      unfold eqTags at hg
      split at hg
      · rename_i fs hu
        cases hs : (X.P.stoodInHeld t || X.P.eqGuardType X.P.depth t) with
        | true => rw [hs] at hg; cases hg
        | false =>
          rw [hs] at hg
          simp only [Bool.or_eq_false_iff] at hs
          simp only [cond_false] at hg
          obtain ⟨xs, rfl, hxs⟩ := hasAgg hx
          obtain ⟨ys, rfl, hys⟩ := hasAgg hy
          have hfs : X.P.fieldsOf t = fs := by unfold Program.fieldsOf; rw [hu]
          refine ⟨?_, ?_, by simp, by simp, by simp, by simp⟩
          · unfold Op.equal Op.maxDepth
            rw [run_equalIn_struct w 9999 t xs ys (by rw [hfs]; exact hu) hs.1, hfs]
            exact eqFields_run 9998 xs ys cx cy hxs.toHasL hys.toHasL fs.toList gs 0 p hg (by simpa using h)
          · unfold eqGuard
            cases op <;> simp [hs.2]
      · rename_i n e hu
        cases hs : X.P.eqGuardType X.P.depth t with
        | true => rw [hs] at hg; cases hg
        | false =>
          rw [hs] at hg
          simp only [cond_false] at hg
          split at hg
          · rename_i g ht hz
            cases hg
            obtain ⟨xs, rfl, hxs⟩ := hasAgg hx
            obtain ⟨ys, rfl, hys⟩ := hasAgg hy
            unfold szOf at hz
            cases hi : X.P.info? e with
            | none => rw [hi] at hz; cases hz
            | some ti =>
              rw [hi] at hz
              simp only [Option.map_some, Option.some.injEq] at hz
              refine ⟨?_, ?_, by simp, by simp, by simp, by simp⟩
              · unfold Op.equal Op.maxDepth
                rw [run_equalIn_array w 9999 xs ys hu hi]
                have hc : X.P.cellsOf e = 1 := by unfold Program.cellsOf; rw [hi]; exact hz
                rw [hc, List.range_eq_range']
                exact eqItems_run 9998 ht xs ys cx cy hxs.toHasL hys.toHasL n 0 p (by simpa using h)
              · unfold eqGuard
                cases op <;> simp [hs]
          · cases hg
      · cases hg
    · cases h
  · rename_i b b'
    cases hb : isBoolT X.P t with
    | false => rw [hb] at h; cases h
    | true =>
      rw [hb] at h
      simp at h; subst h
      rw [hasBool hx, hasBool hy]
      refine ⟨?_, ?_, by simp, by simp, by simp, by simp⟩
      · unfold Op.equal Op.maxDepth
        refine run_equalIn_bool' w 9999 t _ _ ?_
        unfold isBoolT at hb; split at hb <;> first | assumption | cases hb
      · unfold eqGuard; cases op <;> simp
  · split at h
    · rename_i e he
      cases h
      rw [hasNil hx, hasNil hy]
      refine ⟨?_, ?_, by simp, by simp, by simp, by simp⟩
      · unfold Op.equal Op.maxDepth Op.equalIn
        simp [run_underlying_of (sliceElem_eq he)]
      · unfold eqGuard; cases op <;> simp
    · cases h
  · split at h
    · rename_i e he
      cases h
      obtain ⟨q, cap, rfl⟩ := hasSlice hx
      rw [hasNil hy]
      refine ⟨?_, ?_, by simp, by simp, by simp, by simp⟩
      · unfold Op.equal Op.maxDepth Op.equalIn
        simp [run_underlying_of (sliceElem_eq he)]
      · unfold eqGuard; cases op <;> simp
    · cases h
  · split at h
    · rename_i e he
      cases h
      obtain ⟨q, n, cap, rfl⟩ := hasRsl hx
      rw [hasNil hy]
      refine ⟨?_, ?_, by simp, by simp, by simp, by simp⟩
      · unfold Op.equal Op.maxDepth Op.equalIn
        simp [run_underlying_of (sliceElem_eq he)]
      · unfold eqGuard; cases op <;> simp
    · cases h
  · cases h

theorem binD_run {t : Nat} {op : BinOp} {x y d : D} (h : binD X.P t op x y = some d) {vx vy : Value} (hx : HasV w S x vx) (hy : HasV w S y vy) (ox oy : Operand) :
    ∃ v, (do eqGuard op t ox oy vx vy; binOp op t vx vy : Sem Value).run X.P w = .ok v w ∧ HasV w S d v := by
  unfold binD at h
  split at h
  · rename_i k n k' n'
    have hg0 : ∀ op : BinOp, (eqGuard op t ox oy (.int k n) (.int k' n')).run X.P w = .ok () w := fun op => by unfold eqGuard; cases op <;> simp
    split at h
    · by_cases hneg : n' < 0
      · simp [hneg] at h
      · simp only [hneg, decide_false, cond_false] at h
        rw [hasInt hx, hasInt hy]
        cases h
        exact ⟨_, by simp only [Sem.run_bind, hg0, Result.andThen_ok]; simp [binOp, Op.shift, hneg], .int _ _⟩
    · by_cases hneg : n' < 0
      · simp [hneg] at h
      · simp only [hneg, decide_false, cond_false] at h
        rw [hasInt hx, hasInt hy]
        cases h
        exact ⟨_, by simp only [Sem.run_bind, hg0, Result.andThen_ok]; simp [binOp, Op.shift, hneg], .int _ _⟩
    rename_i hshl hshr
    by_cases hk : k = k'
    · subst hk
      simp only [decide_true, cond_true] at h
      rw [hasInt hx, hasInt hy]
      have hg := hg0 op
      unfold binI at h
      cases op <;> first | exact absurd rfl hshl | exact absurd rfl hshr | skip
      all_goals simp only [reduceCtorEq] at h
      case quo =>
        cases h0 : n' == 0 with
        | true => rw [h0] at h; cases h
        | false =>
          rw [h0] at h
          have h0 : ¬ n' = 0 := by simpa using h0
          cases h
          exact ⟨_, by simp only [Sem.run_bind, hg, Result.andThen_ok]; simp [binOp, Op.intDiv, h0], .int _ _⟩
      case rem =>
        cases h0 : n' == 0 with
        | true => rw [h0] at h; cases h
        | false =>
          rw [h0] at h
          have h0 : ¬ n' = 0 := by simpa using h0
          cases h
          exact ⟨_, by simp only [Sem.run_bind, hg, Result.andThen_ok]; simp [binOp, Op.intDiv, h0], .int _ _⟩
      case and =>
        cases h
        refine ⟨_, ?_, .int _ _⟩
        simp only [Sem.run_bind, hg, Result.andThen_ok, binOp, ne_eq, not_true_eq_false, if_false]
        rfl
      case or =>
        cases h
        refine ⟨_, ?_, .int _ _⟩
        simp only [Sem.run_bind, hg, Result.andThen_ok, binOp, ne_eq, not_true_eq_false, if_false]
        rfl
      case xor =>
        cases h
        refine ⟨_, ?_, .int _ _⟩
        simp only [Sem.run_bind, hg, Result.andThen_ok, binOp, ne_eq, not_true_eq_false, if_false]
        rfl
      case andNot =>
        cases h
        refine ⟨_, ?_, .int _ _⟩
        simp only [Sem.run_bind, hg, Result.andThen_ok, binOp, ne_eq, not_true_eq_false, if_false]
        rfl
      all_goals (cases h; simp only [Sem.run_bind, hg, Result.andThen_ok])
      all_goals first
        | exact ⟨_, by simp [binOp, Op.intArith], .int _ _⟩
        | exact ⟨_, by simp [binOp, Op.intCmp], .bool _⟩
    · simp [hk] at h
  · rename_i s s'
    rw [hasStr hx, hasStr hy]
    have hg : (eqGuard op t ox oy (.string ⟨s.toArray⟩) (.string ⟨s'.toArray⟩)).run X.P w = .ok () w := by unfold eqGuard; cases op <;> simp
    cases op <;> simp only [reduceCtorEq] at h
    case add =>
      by_cases hb : s.length + s'.length ≤ 140737488355328
      · simp only [hb, decide_true, cond_true] at h
        cases h
        refine ⟨.string (⟨s.toArray⟩ ++ ⟨s'.toArray⟩), ?_, ?_⟩
        · simp only [Sem.run_bind, hg, Result.andThen_ok]
          simp only [binOp, Op.stringOp]
          rw [if_neg]
          · rfl
          · show ¬ (((s.toArray.size + s'.toArray.size : Nat) : Int) > 9223372036854775807)
            simp; omega
        · have : (⟨s.toArray⟩ : ByteArray) ++ ⟨s'.toArray⟩ = ⟨(s ++ s').toArray⟩ := by
            apply ByteArray.ext; simp
          rw [this]; exact .str _
      · simp [hb] at h
    all_goals (cases h; simp only [Sem.run_bind, hg, Result.andThen_ok])
    all_goals exact ⟨_, by simp [binOp, Op.stringOp, ByteArray.toList_eq], .bool _⟩
  · rename_i hni hns
    have main : ∀ p, eqD X.P t x y = some p → (op = .eql ∨ op = .neq) → ∃ v, (do eqGuard op t ox oy vx vy; binOp op t vx vy : Sem Value).run X.P w = .ok v w ∧ v = .bool (if op = .eql then p else !p) := fun p hp hop => by
      obtain ⟨h1, h2, h3, h4, h5, h6⟩ := eqD_run hp hx hy ox oy op
      simp only [Sem.run_bind, h2, Result.andThen_ok]
      refine ⟨_, ?_, rfl⟩
      rcases hop with rfl | rfl
      · cases vx <;> first
          | exact absurd rfl (h3 _ _)
          | exact absurd rfl (h4 _ _)
          | exact absurd rfl (h5 _ _ _)
          | exact absurd rfl (h6 _)
          | simp [binOp, h1]
      · cases vx <;> first
          | exact absurd rfl (h3 _ _)
          | exact absurd rfl (h4 _ _)
          | exact absurd rfl (h5 _ _ _)
          | exact absurd rfl (h6 _)
          | simp [binOp, h1]
    cases op <;> first | (cases h; done) | skip
    · simp only at h
      split at h
      · rename_i p hp
        cases h
        obtain ⟨v, hv, rfl⟩ := main p hp (.inl rfl)
        exact ⟨_, hv, by simp; exact .bool _⟩
      · cases h
    · simp only at h
      split at h
      · rename_i p hp
        cases h
        obtain ⟨v, hv, rfl⟩ := main p hp (.inr rfl)
        exact ⟨_, hv, by simp; exact .bool _⟩
      · cases h
end
end Go.Eng
