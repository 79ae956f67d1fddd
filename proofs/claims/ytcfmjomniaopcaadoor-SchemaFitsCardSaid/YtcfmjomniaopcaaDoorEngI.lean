/- Part of the engine that proves it: see the last text. -/
import Derived.Test.YtcfmjomniaopcaaDoorEngH
import Derived.Attr
set_option linter.unusedSimpArgs false
set_option linter.unusedVariables false
/- What is shown of a function's code, the machine returns. -/
namespace Go.Eng
open Go
section
variable {X : Ctx} {T : Nat → Option Fx}
/-- What the machine returns, the program returns. -/
theorem callD_of (hT : AllGood X T) {g : Nat} {m : Mem} {ds : List D} {r : D} {m' : Mem} (h : callR X T g m ds = some (r, m')) {Q : D → Mem → Prop} (hq : Q r m') : CallD X (g % 100000) m ds Q := by
  obtain ⟨n, hn⟩ := callR_some h
  exact (call_sound hT n g m ds r m' (hn n (Nat.le_refl n))).1 Q hq

variable (X T) in
/-- A call, by what it returns. -/
noncomputable def callC : CallW := {
  run := fun g m ds Q => match callR X T g m ds with | some (r, m') => Q r m' | none => False
  pv := fun g ds => (callR X T g ⟨[], []⟩ ds).map (·.1)
  pf := pfT T }

@[go_sem] theorem callC_run (g : Nat) (m : Mem) (ds : List D) (Q : D → Mem → Prop) : (callC X T).run g m ds Q = match callR X T g m ds with | some (r, m') => Q r m' | none => False := rfl
@[go_sem] theorem callC_pf : (callC X T).pf = pfT T := rfl
@[go_sem] theorem callC_pv (g : Nat) (ds : List D) : (callC X T).pv g ds = (callR X T g ⟨[], []⟩ ds).map (·.1) := rfl

/-- From n on the machine goes this way. -/
abbrev Goes (f : ∀ (k : Nat) (R : Type), (St → Option R) → Option R) (Q : St → Prop) : Prop := ∃ n st', Q st' ∧ ∀ k, n ≤ k → ∀ (R : Type) (K : St → Option R), f k R K = K st'

variable {F : Fi} {K' : St → Prop} {st : St}
theorem pure_goes {o : Oper} (h : pureK X o K' st) : Goes (fun _ _ K => pureM X o K st) K' := by
  unfold pureK at h
  split at h
  · rename_i d hd; exact ⟨0, _, h, fun k _ R K => by simp only [pureM, hd]⟩
  · exact h.elim
theorem pureN_goes {m0 : Mem} {o : Oper} (h : pureN X m0 o K' st) : Goes (fun _ _ K => pureMN X m0 o K st) K' := by
  unfold pureN at h
  split at h
  · rename_i d hd; exact ⟨0, _, h, fun k _ R K => by simp only [pureMN, hd]⟩
  · exact h.elim
theorem make_goes {o : Oper} (h : makeK X F o K' st) : Goes (fun _ _ K => makeM X F o K st) K' := by
  unfold makeK at h
  split at h
  · rename_i d m hd; exact ⟨0, _, h, fun k _ R K => by simp only [makeM, hd]⟩
  · exact h.elim
theorem row_goes {o : Oper} (h : rowK X o K' st) : Goes (fun _ _ K => rowM X o K st) K' := by
  unfold rowK at h
  split at h
  · rename_i d hd; exact ⟨0, _, h, fun k _ R K => by simp only [rowM, hd]⟩
  · exact h.elim
theorem alloc_goes {o : Oper} {cs : List D} (h : allocK F o cs K' st) : Goes (fun _ _ K => allocM F o cs K st) K' := by
  unfold allocK at h
  split at h
  · rename_i y hy
    split at h
    · rename_i he; exact ⟨0, _, h, fun k _ R K => by simp only [allocM, hy, he]⟩
    · rename_i he; exact ⟨0, _, h, fun k _ R K => by simp only [allocM, hy, he]⟩
  · exact h.elim
theorem allocN_goes {o : Oper} {cs : List D} (h : allocN F o cs K' st) : Goes (fun _ _ K => allocMN F o cs K st) K' := by
  unfold allocN at h
  split at h
  · rename_i y hy
    split at h
    · rename_i he; exact ⟨0, _, h, fun k _ R K => by simp only [allocMN, hy, he]⟩
    · rename_i he
      split at h
      · rename_i hb; exact ⟨0, _, h, fun k _ R K => by simp only [allocMN, hy, he, hb]⟩
      · exact h.elim
  · exact h.elim
theorem store_goes {t : Nat} {p v : Operand} (h : storeK X t p v K' st) : Goes (fun _ _ K => storeM X t p v K st) K' := by
  unfold storeK at h
  split at h
  · split at h
    · split at h
      · split at h
        · exact ⟨0, _, h, fun k _ R K => by simp only [storeM, *]⟩
        · exact h.elim
      · exact h.elim
    · split at h
      · split at h
        · split at h
          · exact ⟨0, _, h, fun k _ R K => by simp only [storeM, *]⟩
          · exact h.elim
        · exact h.elim
      · exact h.elim
  · exact h.elim
theorem storeN_goes {t : Nat} {p v : Operand} (h : storeN X F t p v K' st) : Goes (fun _ _ K => storeMN X F t p v K st) K' := by
  unfold storeN at h
  split at h
  · split at h
    · split at h
      · split at h
        · exact ⟨0, _, h, fun k _ R K => by simp only [storeMN, *]⟩
        · exact h.elim
      · exact h.elim
    · split at h
      · split at h
        · split at h
          · exact ⟨0, _, h, fun k _ R K => by simp only [storeMN, *]⟩
          · exact h.elim
        · exact h.elim
      · exact h.elim
  · exact h.elim
theorem call_goes {g : Nat} {ds : List D} {dst : Option Nat} (h : (callC X T).run g st.m ds fun r m => K' ((st.put dst r).setM m)) : Goes (fun k _ K => callM (callAt X T k) g ds dst K st) K' := by
  rw [callC_run] at h
  split at h
  · rename_i r m' hr
    obtain ⟨n, hn⟩ := callR_some hr
    exact ⟨n, _, h, fun k hk R K => by simp only [callM, hn k hk]⟩
  · exact h.elim
theorem callN_goes {g : Nat} {ds : List D} {dst : Option Nat} (h : callN (callC X T) g ds dst K' st) : Goes (fun k _ K => callMN (callAt X T k) g ds dst K st) K' := by
  obtain ⟨T', _, h1, h2⟩ := h
  rw [callC_run] at h1
  split at h1
  · rename_i r m' hr
    obtain ⟨n, hn⟩ := callR_some hr
    obtain ⟨h3, h4⟩ := h2 r m' h1
    exact ⟨n, _, h4, fun k hk R K => by simp only [callMN, hn k hk, subB_of h3]⟩
  · exact h1.elim

theorem step_goes {o : Oper} (h : stepI X F (callC X T) o K' st) : Goes (fun k _ K => stepM X F (callAt X T k) o K st) K' := by
  unfold stepI at h
  repeat' split at h
  all_goals first | exact h.elim | skip
  all_goals first
    | (obtain ⟨n, s, h1, g⟩ := pure_goes h; exact ⟨n, s, h1, fun k hk R K => by have g := g k hk R K; clear h h1; unfold stepM; simp only [*]⟩)
    | (obtain ⟨n, s, h1, g⟩ := make_goes h; exact ⟨n, s, h1, fun k hk R K => by have g := g k hk R K; clear h h1; unfold stepM; simp only [*]⟩)
    | (obtain ⟨n, s, h1, g⟩ := row_goes h; exact ⟨n, s, h1, fun k hk R K => by have g := g k hk R K; clear h h1; unfold stepM; simp only [*]⟩)
    | (obtain ⟨n, s, h1, g⟩ := alloc_goes h; exact ⟨n, s, h1, fun k hk R K => by have g := g k hk R K; clear h h1; unfold stepM; simp only [*]⟩)
    | (obtain ⟨n, s, h1, g⟩ := store_goes h; exact ⟨n, s, h1, fun k hk R K => by have g := g k hk R K; clear h h1; unfold stepM; simp only [*]⟩)
    | (obtain ⟨n, s, h1, g⟩ := call_goes h; exact ⟨n, s, h1, fun k hk R K => by have g := g k hk R K; clear h h1; unfold stepM; simp only [*]⟩)
    | exact ⟨0, _, h, fun k _ R K => by clear h; unfold stepM; simp only [*]⟩

theorem stepN_goes {m0 : Mem} {o : Oper} (h : stepN X F (callC X T) m0 o K' st) : Goes (fun k _ K => stepMN X F (pfT T) (callAt X T k) m0 o K st) K' := by
  unfold stepN at h
  split at h
  case h_4 =>
    rename_i hop
    split at h
    · rename_i g hg
      split at h
      · rename_i d hd
        simp only [callC] at hd
        cases hr : callR X T g ⟨[], []⟩ (argsD X st _) with
        | none => rw [hr] at hd; cases hd
        | some q =>
          obtain ⟨r, m'⟩ := q
          rw [hr] at hd
          cases hd
          obtain ⟨n, hn⟩ := callR_some hr
          have hg : pureOf (pfT T) F o.dst _ = some g := hg
          exact ⟨n, _, h, fun k hk R K => by unfold stepMN; rw [hop]; simp only [hg, hn k hk]⟩
      · exact h.elim
    · rename_i hg
      have hg : pureOf (pfT T) F o.dst _ = none := hg
      split at h
      · rename_i g cap hf
        split at h
        · rename_i hlt
          obtain ⟨n, s, h1, g⟩ := callN_goes h
          exact ⟨n, s, h1, fun k hk R K => by have g := g k hk R K; unfold stepMN; rw [hop]; simp only [hg, hf, hlt]; exact g⟩
        · exact h.elim
      · exact h.elim
  all_goals repeat' split at h
  all_goals first | exact h.elim | skip
  all_goals first
    | (obtain ⟨n, s, h1, g⟩ := pureN_goes h; exact ⟨n, s, h1, fun k hk R K => by have g := g k hk R K; clear h h1; unfold stepMN; simp only [*]⟩)
    | (obtain ⟨n, s, h1, g⟩ := make_goes h; exact ⟨n, s, h1, fun k hk R K => by have g := g k hk R K; clear h h1; unfold stepMN; simp only [*]⟩)
    | (obtain ⟨n, s, h1, g⟩ := row_goes h; exact ⟨n, s, h1, fun k hk R K => by have g := g k hk R K; clear h h1; unfold stepMN; simp only [*]⟩)
    | (obtain ⟨n, s, h1, g⟩ := allocN_goes h; exact ⟨n, s, h1, fun k hk R K => by have g := g k hk R K; clear h h1; unfold stepMN; simp only [*]⟩)
    | (obtain ⟨n, s, h1, g⟩ := storeN_goes h; exact ⟨n, s, h1, fun k hk R K => by have g := g k hk R K; clear h h1; unfold stepMN; simp only [*]⟩)
    | (obtain ⟨n, s, h1, g⟩ := callN_goes h; exact ⟨n, s, h1, fun k hk R K => by have g := g k hk R K; clear h h1; unfold stepMN; simp only [*]⟩)
    | exact ⟨0, _, h, fun k _ R K => by clear h; unfold stepMN; simp only [*]⟩

theorem op_goes {all : List Oper} {o : Oper} (h : opI X F (callC X T) all o K' st) : Goes (fun k _ K => opM X F (callAt X T k) all o K st) K' := by
  unfold opI at h
  split at h
  · rename_i hg; obtain ⟨n, s, h1, g⟩ := step_goes h; exact ⟨n, s, h1, fun k hk R K => by simp only [opM, hg]; exact g k hk R K⟩
  · rename_i j want hg
    split at h
    · rename_i b hb
      split at h
      · rename_i he; obtain ⟨n, s, h1, g⟩ := step_goes h; exact ⟨n, s, h1, fun k hk R K => by simp only [opM, hg, hb, he]; exact g k hk R K⟩
      · rename_i he; exact ⟨0, _, h, fun k _ R K => by simp only [opM, hg, hb, he]⟩
    · rename_i hb; exact ⟨0, _, h, fun k _ R K => by simp only [opM, hg, hb]⟩
    · exact h.elim
theorem opN_goes {m0 : Mem} {all : List Oper} {o : Oper} (h : opN X F (callC X T) m0 all o K' st) : Goes (fun k _ K => opMN X F (pfT T) (callAt X T k) m0 all o K st) K' := by
  unfold opN at h
  split at h
  · rename_i hg; obtain ⟨n, s, h1, g⟩ := stepN_goes h; exact ⟨n, s, h1, fun k hk R K => by simp only [opMN, hg]; exact g k hk R K⟩
  · rename_i j want hg
    split at h
    · rename_i b hb
      split at h
      · rename_i he; obtain ⟨n, s, h1, g⟩ := stepN_goes h; exact ⟨n, s, h1, fun k hk R K => by simp only [opMN, hg, hb, he]; exact g k hk R K⟩
      · rename_i he; exact ⟨0, _, h, fun k _ R K => by simp only [opMN, hg, hb, he]⟩
    · rename_i hb; exact ⟨0, _, h, fun k _ R K => by simp only [opMN, hg, hb]⟩
    · exact h.elim
theorem ops_goes {all : List Oper} : ∀ (l : List Oper) (st : St), wpOps X F (callC X T) all l K' st → Goes (fun k _ K => opsM X F (callAt X T k) all l K st) K'
  | [], st, h => ⟨0, st, h, fun k _ R K => rfl⟩
  | o :: r, st, h => by
    obtain ⟨n1, s1, h1, g1⟩ := op_goes (K' := wpOps X F (callC X T) all r K') h
    obtain ⟨n2, s2, h2, g2⟩ := ops_goes r s1 h1
    exact ⟨max n1 n2, s2, h2, fun k hk R K => by
      show opM X F (callAt X T k) all o (opsM X F (callAt X T k) all r K) st = K s2
      exact (g1 k (by omega) R _).trans (g2 k (by omega) R K)⟩
theorem opsN_goes {m0 : Mem} {all : List Oper} : ∀ (l : List Oper) (st : St), wpOpsN X F (callC X T) m0 all l K' st → Goes (fun k _ K => opsMN X F (pfT T) (callAt X T k) m0 all l K st) K'
  | [], st, h => ⟨0, st, h, fun k _ R K => rfl⟩
  | o :: r, st, h => by
    obtain ⟨n1, s1, h1, g1⟩ := opN_goes (K' := wpOpsN X F (callC X T) m0 all r K') h
    obtain ⟨n2, s2, h2, g2⟩ := opsN_goes r s1 h1
    exact ⟨max n1 n2, s2, h2, fun k hk R K => by
      show opMN X F (pfT T) (callAt X T k) m0 all o (opsMN X F (pfT T) (callAt X T k) m0 all r K) st = K s2
      exact (g1 k (by omega) R _).trans (g2 k (by omega) R K)⟩

/-- From n on the machine ends so. -/
theorem exec_of : ∀ (c : Code) (Q : Post) (st : St), wpI X F (callC X T) c Q st → ∃ n e st', Q e st' ∧ exec X T n F c st = some (e, st')
  | .skip, Q, st, h => ⟨1, .normal, st, h, rfl⟩
  | .region id ops dr, Q, st, h => by
    cases dr with
    | false =>
      obtain ⟨n, s, h1, g⟩ := ops_goes _ _ h
      exact ⟨n + 1, _, _, h1, by simp only [exec, keepF_eq]; exact g n (Nat.le_refl n) _ _⟩
    | true =>
      obtain ⟨n, s, h1, g⟩ := opsN_goes _ _ h.2
      exact ⟨n + 1, _, _, h1, by simp only [exec, keepF_eq, h.1]; exact g n (Nat.le_refl n) _ _⟩
  | .seq a b, Q, st, h => by
    obtain ⟨n1, e1, s1, h1, g1⟩ := exec_of a _ st h
    cases e1 with
    | normal =>
      obtain ⟨n2, e2, s2, h2, g2⟩ := exec_of b Q s1 h1
      refine ⟨max n1 n2 + 1, e2, s2, h2, ?_⟩
      rw [exec]
      simp only [thenM]
      rw [exec_le (Nat.le_max_left n1 n2) _ _ _ _ g1]
      exact exec_le (Nat.le_max_right n1 n2) _ _ _ _ g2
    | exit id => exact ⟨n1 + 1, _, s1, h1, by rw [exec]; simp only [thenM]; rw [g1]⟩
    | goto l => exact ⟨n1 + 1, _, s1, h1, by rw [exec]; simp only [thenM]; rw [g1]⟩
    | ret => exact ⟨n1 + 1, _, s1, h1, by rw [exec]; simp only [thenM]; rw [g1]⟩
    | panic c => exact ⟨n1 + 1, _, s1, h1, by rw [exec]; simp only [thenM]; rw [g1]⟩
    | outgrown => exact ⟨n1 + 1, _, s1, h1, by rw [exec]; simp only [thenM]; rw [g1]⟩
  | .cond c a b, Q, st, h => by
    simp only [wpI] at h
    split at h
    · rename_i t ht
      cases t with
      | true =>
        obtain ⟨n1, e1, s1, h1, g1⟩ := exec_of a Q st h
        exact ⟨n1 + 1, e1, s1, h1, by rw [exec]; simp only [ht]; exact g1⟩
      | false =>
        obtain ⟨n1, e1, s1, h1, g1⟩ := exec_of b Q st h
        exact ⟨n1 + 1, e1, s1, h1, by rw [exec]; simp only [ht]; exact g1⟩
    · exact h.elim
  | .block id a, Q, st, h => by
    obtain ⟨n1, e1, s1, h1, g1⟩ := exec_of a _ st h
    cases e1 with
    | exit id' =>
      simp only [blockP] at h1
      split at h1
      · rename_i he
        exact ⟨n1 + 1, _, s1, h1, by rw [exec]; rw [g1]; simp [he]⟩
      · rename_i he
        exact ⟨n1 + 1, _, s1, h1, by rw [exec]; rw [g1]; simp only [show id'.beq id = false from by cases hb : id'.beq id with | true => exact (he (Nat.eq_of_beq_eq_true hb)).elim | false => rfl]⟩
    | normal => exact ⟨n1 + 1, _, s1, h1, by rw [exec]; rw [g1]⟩
    | goto l => exact ⟨n1 + 1, _, s1, h1, by rw [exec]; rw [g1]⟩
    | ret => exact ⟨n1 + 1, _, s1, h1, by rw [exec]; rw [g1]⟩
    | panic c => exact ⟨n1 + 1, _, s1, h1, by rw [exec]; rw [g1]⟩
    | outgrown => exact ⟨n1 + 1, _, s1, h1, by rw [exec]; rw [g1]⟩
  | .exit id, Q, st, h => ⟨1, .exit id, st, h, rfl⟩
  | .ret, Q, st, h => ⟨1, .ret, st, h, rfl⟩
  | .loop a, Q, st, h => by
    obtain ⟨T', head, I, μ, ⟨p0, h0, hI⟩, hr⟩ := h
    have key : ∀ (m : Nat) (p : T'), μ p = m → I p → ∀ s : St, s.keep (liveOf F a) = head p → ∃ n e st', Q e st' ∧ exec X T n F (.loop a) s = some (e, st') := by
      intro m
      induction m using Nat.strongRecOn with
      | _ m ih =>
        intro p hm hp s hs
        obtain ⟨n1, e1, s1, h1, g1⟩ := exec_of a _ (head p) (hr p hp)
        cases e1 with
        | normal =>
          obtain ⟨p', hk, hI', hlt⟩ := h1
          obtain ⟨n2, e2, s2, h2, g2⟩ := ih (μ p') (hm ▸ hlt) p' rfl hI' s1 hk
          refine ⟨max n1 n2 + 1, e2, s2, h2, ?_⟩
          rw [exec]
          simp only [thenM, keepF_eq]
          rw [hs, exec_le (Nat.le_max_left n1 n2) _ _ _ _ g1]
          exact exec_le (Nat.le_max_right n1 n2) _ _ _ _ g2
        | exit id => exact ⟨n1 + 1, _, s1, h1, by rw [exec]; simp only [thenM, keepF_eq]; rw [hs, g1]⟩
        | goto l => exact ⟨n1 + 1, _, s1, h1, by rw [exec]; simp only [thenM, keepF_eq]; rw [hs, g1]⟩
        | ret => exact ⟨n1 + 1, _, s1, h1, by rw [exec]; simp only [thenM, keepF_eq]; rw [hs, g1]⟩
        | panic c => exact ⟨n1 + 1, _, s1, h1, by rw [exec]; simp only [thenM, keepF_eq]; rw [hs, g1]⟩
        | outgrown => exact ⟨n1 + 1, _, s1, h1, by rw [exec]; simp only [thenM, keepF_eq]; rw [hs, g1]⟩
    exact key _ p0 rfl hI st h0
  | .rangeFunc _ _ _ _, Q, st, h => h.elim
  | .scope _, Q, st, h => h.elim
  | .label _, Q, st, h => h.elim
  | .goto _, Q, st, h => h.elim
  | .refuse _, Q, st, h => h.elim

theorem endP_endM {rs : List ResultVar} {e : Exit} {st : St} {Q : D → Mem → Prop} (h : endP X rs Q e st) : ∃ r m, endM X rs (e, st) = some (r, m) ∧ Q r m := by
  cases e <;> simp only [endP] at h <;> first
    | exact h.elim
    | (split at h
       · rename_i d hd; exact ⟨d, st.m, by simp only [endM, hd], h⟩
       · exact h.elim)

/-- What the body of a function on its own returns. -/
noncomputable def callP (X : Ctx) (T : Nat → Option Fx) (g : Nat) (ds : List D) : Option D := (callR X T g ⟨[], []⟩ ds).map (·.1)

/-- A function by its body: one that is handed memory. -/
theorem callR_of {f : Nat} {fx : Fx} {m : Mem} {ds : List D} {Q : D → Mem → Prop} (hT : T f = some fx) (hcl : fx.cl = false) (hl : Nat.ble ds.length fx.n = true) (h : wpI X fx.F (callC X T) fx.code (endP X fx.rs Q) (entry ds m)) :
    ∃ r m', callR X T f m ds = some (r, m') ∧ Q r m' := by
  obtain ⟨n, e, st, h1, g⟩ := exec_of _ _ _ h
  obtain ⟨r, m', he, hq⟩ := endP_endM h1
  refine ⟨r, m', callR_of_at (n := n) ?_, hq⟩
  unfold callAt callBy
  simp only [hT, hl, hcl, bodyBy, forceL_eq, forceM_eq, g, he]
theorem callR_eq {f : Nat} {fx : Fx} {m : Mem} {ds : List D} {v : D} {m1 : Mem} (hT : T f = some fx) (hcl : fx.cl = false) (hl : Nat.ble ds.length fx.n = true)
    (h : wpI X fx.F (callC X T) fx.code (endP X fx.rs fun r m' => r = v ∧ m' = m1) (entry ds m)) : callR X T f m ds = some (v, m1) := by
  obtain ⟨r, m', h1, rfl, rfl⟩ := callR_of hT hcl hl h
  exact h1

/-- A function on its own, by its body. -/
theorem callR_cl {f : Nat} {fx : Fx} {ds : List D} {Q : D → Mem → Prop} (hT : T f = some fx) (hcl : fx.cl = true) (hl : Nat.ble ds.length fx.n = true) (h : wpI X fx.F (callC X T) fx.code (endP X fx.rs Q) (entry (stripL ds) ⟨[], []⟩)) :
    ∃ r m', Q r m' ∧ ∀ m, callR X T f m ds = some (frz m' r, m) := by
  obtain ⟨n, e, st, h1, g⟩ := exec_of _ _ _ h
  obtain ⟨r, m', he, hq⟩ := endP_endM h1
  refine ⟨r, m', hq, fun m => callR_of_at (n := n) ?_⟩
  unfold callAt callBy
  simp only [hT, hl, hcl, bodyBy, forceL_eq, forceM_eq, g, he]
end
end Go.Eng
