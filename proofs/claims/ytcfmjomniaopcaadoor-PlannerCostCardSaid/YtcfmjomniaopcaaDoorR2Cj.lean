/- A part of the proof: see the last text. -/
import Derived.Test.YtcfmjomniaopcaaDoorR2Ci
import Derived.Test.YtcfmjomniaopcaaDoorKR2Cc
set_option linter.unusedSimpArgs false
set_option linter.unusedVariables false
/- What the guards say of a plan: its shape. -/
namespace Go.Eng
open Go Go.Proofs
open Nat (reduceAdd reduceMul reduceSub)
set_option maxRecDepth 20000
set_option maxHeartbeats 32000000
attribute [local irreducible] wpI endP
/-- A plan whose parts fit. -/
inductive ShP (nt : Nat) : D → Prop
  | scan (p : PlR) (hk : p.k.1 = 1) (h0 : 0 ≤ p.s.1) (h1 : p.s.1 < (nt : Int)) : ShP nt p.enc
  | look (p : PlR) (hk : p.k.1 = 2) (h0 : 0 ≤ p.s.1) (h1 : p.s.1 < (nt : Int)) : ShP nt p.enc
  | rng (p : PlR) (hk : p.k.1 = 3) (h0 : 0 ≤ p.s.1) (h1 : p.s.1 < (nt : Int)) (hc : p.c.items.length = 1) (he : p.e.items.length = 2) : ShP nt p.enc
  | flt (p : PlR) (hk : p.k.1 = 4) (x : Pl) (hx : p.args.items = [x]) (h : ShP nt (encPl x)) : ShP nt p.enc
  | join (p : PlR) (hk : p.k.1 = 5) (x y : Pl) (hx : p.args.items = [x, y]) (h : ShP nt (encPl x)) (h' : ShP nt (encPl y)) : ShP nt p.enc
theorem one_of {α : Type} : ∀ {l : List α}, l.length = 1 → ∃ x, l = [x]
  | [x], _ => ⟨x, rfl⟩
theorem int_ne {a b : Int} (h : a ≠ b) : (a == b) = false := by simp [h]
theorem int_eq {a b : Int} (h : a = b) : (a == b) = true := by simp [h]
theorem app_EI (L l : List I64) : appendD 1 ⟨[], accT (L.map I)⟩ (accE 1 (L.map I)) (l.map I) = some (accE 1 ((L ++ l).map I), ⟨[], accT ((L ++ l).map I)⟩) := by
  rw [List.map_append]; exact app_E 1 _ _
theorem okC_accEI (L : List I64) : (accE 1 (L.map I)).okC = true := okC_accE 1 _
section
variable {G : Nat → Option (List D)} (s : Sl Tbl) (b : Bnd) (W : List Nat) (h : WOK s.items b.tabs.items W)
include h
theorem part_leaf (p : PlR) (hk : p.k.1 = 1 ∨ p.k.1 = 2 ∨ p.k.1 = 3) (given : Sl I64) :
    ∃ q, callP (XG G) TT 70 [sl 5 encTbl s, encBnd b, p.enc, sl 1 I given] = some (.bool q) ∧ (q = true → ShP b.tabs.items.length p.enc) := by
  obtain ⟨qa, ha⟩ := absent110 (G := G) p.r
  have hWl := h.len
  have hkeys : ∃ qk, (0 ≤ p.s.1 → p.s.1 < (b.tabs.items.length : Int) → callP (XG G) TT 111 [sl 5 encTbl s, encBnd b, p.enc, sl 1 I given] = some (.bool qk)) ∧ (qk = true → 0 ≤ p.s.1 → p.s.1 < (b.tabs.items.length : Int) → p.k.1 ≠ 2 → p.c.items.length = 1 ∧ p.e.items.length = 2) := by
    by_cases h0 : 0 ≤ p.s.1 ∧ p.s.1 < (b.tabs.items.length : Int)
    · obtain ⟨q, h1, h2⟩ := keys111 (G := G) s b W h p p.s.1.toNat (by omega) (by omega) given
      exact ⟨q, fun _ _ => h1, fun hq _ _ => h2 hq⟩
    · exact ⟨true, fun a c => absurd ⟨a, c⟩ h0, fun _ a c => absurd ⟨a, c⟩ h0⟩
  obtain ⟨qk, hkeys, hkr⟩ := hkeys
  refine boolP_of fun P hR => ?_
  simp only [ExR_eq] at ha
  refine callP_body T70 rfl (by simp only [go_sem]) ?_
  unfold Tryd.f70
  simp only [Option.getD_some]
  have hcl := p.c.lt
  have hel := p.e.lt
  simp only [PlR_eq, encBnd_eq] at hkeys
  rcases hk with hk | hk | hk
  · have e1 := int_eq hk
    simp +decide only[go_sem,reduceAdd,reduceMul,reduceSub,ha,e1]
    by_cases s0 : p.s.1 < 0
    · refine gw (an ha (an e1 s0)) ?_
      simp +decide only[go_sem,reduceAdd,reduceMul,reduceSub,ha,e1,s0]
      exact .no
    by_cases s1 : (b.tabs.items.length : Int) ≤ p.s.1
    · refine gw (an ha (an e1 (an s0 s1))) ?_
      simp +decide only[go_sem,reduceAdd,reduceMul,reduceSub,ha,e1,s0,s1]
      exact .no
    cases a0 : ((p.args.items.length : Int) != 0)
    · cases qa
      · refine gw (an ha (an e1 (an s0 (an s1 a0)))) ?_
        simp +decide only[go_sem,reduceAdd,reduceMul,reduceSub,ha,e1,s0,s1,a0]
        exact .no
      · have hy : P := hR (.scan p hk (by omega) (by omega))
        cases c0 : ((p.c.items.length : Int) == 0)
        · refine gw (an ha (an e1 (an s0 (an s1 (an a0 c0))))) ?_
          simp +decide only[go_sem,reduceAdd,reduceMul,reduceSub,ha,e1,s0,s1,a0,c0]
          exact .no
        · cases c1 : ((p.e.items.length : Int) == 0)
          · refine gw (an ha (an e1 (an s0 (an s1 (an a0 (an c0 c1)))))) ?_
            simp +decide only[go_sem,reduceAdd,reduceMul,reduceSub,ha,e1,s0,s1,a0,c0,c1]
            exact .no
          · refine gw (an ha (an e1 (an s0 (an s1 (an a0 (an c0 c1)))))) ?_
            simp +decide only[go_sem,reduceAdd,reduceMul,reduceSub,ha,e1,s0,s1,a0,c0,c1]
            exact .yes hy
    · refine gw (an ha (an e1 (an s0 (an s1 a0)))) ?_
      simp +decide only[go_sem,reduceAdd,reduceMul,reduceSub,ha,e1,s0,s1,a0]
      exact .no
  · have e1 : (p.k.1 == 1) = false := int_ne (by omega)
    have e2 := int_eq hk
    simp +decide only[go_sem,reduceAdd,reduceMul,reduceSub,ha,e1,e2]
    by_cases s0 : p.s.1 < 0
    · refine gw (an ha (an e1 (an e2 s0))) ?_
      simp +decide only[go_sem,reduceAdd,reduceMul,reduceSub,ha,e1,e2,s0]
      exact .no
    by_cases s1 : (b.tabs.items.length : Int) ≤ p.s.1
    · refine gw (an ha (an e1 (an e2 (an s0 s1)))) ?_
      simp +decide only[go_sem,reduceAdd,reduceMul,reduceSub,ha,e1,e2,s0,s1]
      exact .no
    cases a0 : ((p.args.items.length : Int) != 0)
    · cases qa
      · refine gw (an ha (an e1 (an e2 (an s0 (an s1 a0))))) ?_
        simp +decide only[go_sem,reduceAdd,reduceMul,reduceSub,ha,e1,e2,s0,s1,a0]
        exact .no
      · have hy : P := hR (.look p hk (by omega) (by omega))
        have hks := hkeys (by omega) (by omega)
        cases qk
        · refine gw (an ha (an e1 (an e2 (an s0 (an s1 (an a0 hks)))))) ?_
          simp +decide only[go_sem,reduceAdd,reduceMul,reduceSub,ha,e1,e2,s0,s1,a0,hks]
          exact .no
        · refine gw (an ha (an e1 (an e2 (an s0 (an s1 (an a0 hks)))))) ?_
          simp +decide only[go_sem,reduceAdd,reduceMul,reduceSub,ha,e1,e2,s0,s1,a0,hks]
          exact .yes hy
    · refine gw (an ha (an e1 (an e2 (an s0 (an s1 a0))))) ?_
      simp +decide only[go_sem,reduceAdd,reduceMul,reduceSub,ha,e1,e2,s0,s1,a0]
      exact .no
  · have e1 : (p.k.1 == 1) = false := int_ne (by omega)
    have e2 : (p.k.1 == 2) = false := int_ne (by omega)
    have e3 := int_eq hk
    simp +decide only[go_sem,reduceAdd,reduceMul,reduceSub,ha,e1,e2,e3]
    by_cases s0 : p.s.1 < 0
    · refine gw (an ha (an e1 (an e2 (an e3 s0)))) ?_
      simp +decide only[go_sem,reduceAdd,reduceMul,reduceSub,ha,e1,e2,e3,s0]
      exact .no
    by_cases s1 : (b.tabs.items.length : Int) ≤ p.s.1
    · refine gw (an ha (an e1 (an e2 (an e3 (an s0 s1))))) ?_
      simp +decide only[go_sem,reduceAdd,reduceMul,reduceSub,ha,e1,e2,e3,s0,s1]
      exact .no
    cases a0 : ((p.args.items.length : Int) != 0)
    · cases qa
      · refine gw (an ha (an e1 (an e2 (an e3 (an s0 (an s1 a0)))))) ?_
        simp +decide only[go_sem,reduceAdd,reduceMul,reduceSub,ha,e1,e2,e3,s0,s1,a0]
        exact .no
      · have hks := hkeys (by omega) (by omega)
        cases qk
        · refine gw (an ha (an e1 (an e2 (an e3 (an s0 (an s1 (an a0 hks))))))) ?_
          simp +decide only[go_sem,reduceAdd,reduceMul,reduceSub,ha,e1,e2,e3,s0,s1,a0,hks]
          exact .no
        · have hz := hkr rfl (by omega) (by omega) (by omega)
          have hy : P := hR (.rng p hk (by omega) (by omega) hz.1 hz.2)
          refine gw (an ha (an e1 (an e2 (an e3 (an s0 (an s1 (an a0 hks))))))) ?_
          simp +decide only[go_sem,reduceAdd,reduceMul,reduceSub,ha,e1,e2,e3,s0,s1,a0,hks]
          exact .yes hy
    · refine gw (an ha (an e1 (an e2 (an e3 (an s0 (an s1 a0)))))) ?_
      simp +decide only[go_sem,reduceAdd,reduceMul,reduceSub,ha,e1,e2,e3,s0,s1,a0]
      exact .no
end
end Go.Eng
