/- A part of the proof: see the last text. -/
import Derived.Test.YtcfmjomniaopcaaDoorR2Cj
set_option linter.unusedSimpArgs false
set_option linter.unusedVariables false
/- What the guards say of a plan: its shape. -/
namespace Go.Eng
open Go Go.Proofs
open Nat (reduceAdd reduceMul reduceSub)
set_option maxRecDepth 20000
set_option maxHeartbeats 32000000
attribute [local irreducible] wpI endP
section
variable {G : Nat → Option (List D)} (s : Sl Tbl) (b : Bnd) (W : List Nat) (h : WOK s.items b.tabs.items W)
include h
/-- A part that is no leaf: what is asked first. -/
theorem part_flt (p : PlR) (hk : p.k.1 = 4) (n : Nat) (hn : n ≤ 10) (hf : FewN (n + 1) p.enc) (given : Sl I64) (hg : given.items.length ≤ 1000000)
    (ih : ∀ x ∈ p.args.items, ∃ q, callP (XG G) TT 70 [sl 5 encTbl s, encBnd b, encPl x, sl 1 I given] = some (.bool q) ∧ (q = true → ShP b.tabs.items.length (encPl x))) :
    ∃ q, callP (XG G) TT 70 [sl 5 encTbl s, encBnd b, p.enc, sl 1 I given] = some (.bool q) ∧ (q = true → ShP b.tabs.items.length p.enc) := by
  obtain ⟨m, e, _, _, _, _, hkk⟩ := hf.open
  obtain rfl : m = n := by omega
  have e1 : (p.k.1 == 1) = false := int_ne (by omega)
  have e2 : (p.k.1 == 2) = false := int_ne (by omega)
  have e3 : (p.k.1 == 3) = false := int_ne (by omega)
  have e4 := int_eq hk
  refine boolP_of fun P hR => ?_
  refine callP_body T70 rfl (by simp only [go_sem]) ?_
  unfold Tryd.f70
  simp only [Option.getD_some]
  simp +decide only[go_sem,reduceAdd,reduceMul,reduceSub,e1,e2,e3,e4]
  cases s0 : (p.s.1 != 0)
  · cases c0 : ((p.c.items.length : Int) != 0)
    · cases c1 : ((p.e.items.length : Int) != 0)
      · cases a1 : ((p.args.items.length : Int) == 1)
        · refine gw (an e1 (an e2 (an e3 (an e4 (an s0 (an c0 (an c1 a1))))))) ?_
          simp +decide only[go_sem,reduceAdd,reduceMul,reduceSub,e1,e2,e3,e4,s0,c0,c1,a1]
          exact .no
        · cases z0 : (p.r.a.1 != 0)
          · refine gw (an e1 (an e2 (an e3 (an e4 (an s0 (an c0 (an c1 (an a1 z0)))))))) ?_
            simp +decide only[go_sem,reduceAdd,reduceMul,reduceSub,e1,e2,e3,e4,s0,c0,c1,a1,z0]
            exact .no
          · obtain ⟨x, hx⟩ := one_of (l := p.args.items) (by simp at a1; omega)
            have hxm : x ∈ p.args.items := by rw [hx]; simp
            obtain ⟨q, hq, hqx⟩ := ih x hxm
            obtain ⟨px, hpx, _⟩ := x.open
            have hfx := hkk x hxm
            rw [hpx] at hfx
            obtain ⟨sr, hsr, hsl⟩ := sources69 (G := G) m hn px hfx
            rw [← hpx] at hsr
            have hM : 3 ^ m ≤ 3 ^ 10 := Nat.pow_le_pow_right (by decide) (by omega)
            have hM : 3 ^ m ≤ 59049 := hM
            have hll : (given.items ++ sr.items).length < 4611686018427387904 := by rw [List.length_append]; omega
            obtain ⟨qw, hw⟩ := within43 (G := G) s b W h ⟨some (given.items ++ sr.items), hll⟩ p.r
            have hww : sl 1 I (⟨some (given.items ++ sr.items), hll⟩ : Sl I64) = .slice none 1 ((given.items ++ sr.items).map I) := rfl
            rw [hww] at hw
            have p0 : appendD 1 ⟨[], []⟩ (.slice (some 0) 1 []) (given.items.map I) = some (accE 1 (given.items.map I), ⟨[], accT (given.items.map I)⟩) := app_E 1 [] _
            have p1 := app_EI given.items sr.items
            have st : ∀ g, stripF g (accE 1 ((given.items ++ sr.items).map I)) = .slice none 1 ((given.items ++ sr.items).map I) := fun g => strip_accE (stripFL_map I strip_I _)
            have l1 : (given.items.length ≤ 16777216) = True := eq_true (by omega)
            have l2 : (given.items.length + sr.items.length ≤ 16777216) = True := eq_true (by omega)
            have at0 : atI p.args.items 0 = some x := by rw [hx]; rfl
            have ho := okC_accEI
            simp only [encBnd_eq, ExR_eq] at hw hq
            cases q
            · refine gw (an e1 (an e2 (an e3 (an e4 (an s0 (an c0 (an c1 (an a1 (an z0 (an hq at0)))))))))) ?_
              simp +decide only[go_sem,reduceAdd,reduceMul,reduceSub,e1,e2,e3,e4,s0,c0,c1,a1,z0,hq,at0]
              exact .no
            · repeat (first|(with_reducible first|refine q1 ?_|refine q2 ?_|refine q3 ?_|refine q4 ?_|refine q5 ?_|refine q6 ?_|refine q7 ?_|refine q8 ?_|refine q9 ?_|refine q10 ?_|refine q11 ?_|refine q12 (by decide) ?_)|((first|with_reducible refine q13 ?_|((with_reducible refine q14 ?_ ?_);focus exact rfl));intro K hK;simp +decide only[go_sem,reduceAdd,reduceMul,reduceSub,e1,e2,e3,e4,s0,c0,c1,a1,z0,hq,at0,hsr,hw,p0,p1,st,l1,l2,ho,List.length_map];with_reducible refine hK _ ?_;clear hK K)|(with_reducible refine q15 ?_;intro K J hK hJ;simp +decide only[go_sem,reduceAdd,reduceMul,reduceSub,e1,e2,e3,e4,s0,c0,c1,a1,z0,hq,at0,hsr,hw,p0,p1,st,l1,l2,ho,List.length_map];(with_reducible first|refine hK ?_|refine hJ ?_);clear hK hJ K J))
              simp +decide only[go_sem,reduceAdd,reduceMul,reduceSub,e1,e2,e3,e4,s0,c0,c1,a1,z0,hq,at0]
              cases qw
              · exact .no
              · exact .yes (hR (.flt p hk x hx (hqx rfl)))
      · refine gw (an e1 (an e2 (an e3 (an e4 (an s0 (an c0 c1)))))) ?_
        simp +decide only[go_sem,reduceAdd,reduceMul,reduceSub,e1,e2,e3,e4,s0,c0,c1]
        exact .no
    · refine gw (an e1 (an e2 (an e3 (an e4 (an s0 c0))))) ?_
      simp +decide only[go_sem,reduceAdd,reduceMul,reduceSub,e1,e2,e3,e4,s0,c0]
      exact .no
  · refine gw (an e1 (an e2 (an e3 (an e4 s0)))) ?_
    simp +decide only[go_sem,reduceAdd,reduceMul,reduceSub,e1,e2,e3,e4,s0]
    exact .no
end
end Go.Eng
/- What the guards say of a plan: its shape. -/
namespace Go.Eng
open Go Go.Proofs
open Nat (reduceAdd reduceMul reduceSub)
set_option maxRecDepth 20000
set_option maxHeartbeats 32000000
attribute [local irreducible] wpI endP
section
variable {G : Nat → Option (List D)} (s : Sl Tbl) (b : Bnd) (W : List Nat) (h : WOK s.items b.tabs.items W)
theorem part_join (p : PlR) (hk : p.k.1 = 5) (n : Nat) (hn : n ≤ 10) (hf : FewN (n + 1) p.enc) (given : Sl I64) (hg : given.items.length ≤ 1000000)
    (ih : ∀ x ∈ p.args.items, ∀ given' : Sl I64, given'.items.length ≤ given.items.length + 59049 → ∃ q, callP (XG G) TT 70 [sl 5 encTbl s, encBnd b, encPl x, sl 1 I given'] = some (.bool q) ∧ (q = true → ShP b.tabs.items.length (encPl x))) :
    ∃ q, callP (XG G) TT 70 [sl 5 encTbl s, encBnd b, p.enc, sl 1 I given] = some (.bool q) ∧ (q = true → ShP b.tabs.items.length p.enc) := by
  obtain ⟨m, e, _, _, _, _, hkk⟩ := hf.open
  obtain rfl : m = n := by omega
  have e1 : (p.k.1 == 1) = false := int_ne (by omega)
  have e2 : (p.k.1 == 2) = false := int_ne (by omega)
  have e3 : (p.k.1 == 3) = false := int_ne (by omega)
  have e4 : (p.k.1 == 4) = false := int_ne (by omega)
  have e5 := int_eq hk
  obtain ⟨qa, ha⟩ := absent110 (G := G) p.r
  refine boolP_of fun P hR => ?_
  simp only [ExR_eq] at ha
  refine callP_body T70 rfl (by simp only [go_sem]) ?_
  unfold Tryd.f70
  simp only [Option.getD_some]
  simp +decide only[go_sem,reduceAdd,reduceMul,reduceSub,e1,e2,e3,e4,e5,ha]
  cases s0 : (p.s.1 != 0)
  · cases c0 : ((p.c.items.length : Int) != 0)
    · cases c1 : ((p.e.items.length : Int) != 0)
      · cases a1 : ((p.args.items.length : Int) == 2)
        · refine gw (an e1 (an e2 (an e3 (an e4 (an e5 (an ha (an s0 (an c0 (an c1 a1))))))))) ?_
          simp +decide only[go_sem,reduceAdd,reduceMul,reduceSub,e1,e2,e3,e4,e5,ha,s0,c0,c1,a1]
          exact .no
        · cases qa
          · refine gw (an e1 (an e2 (an e3 (an e4 (an e5 (an ha (an s0 (an c0 (an c1 a1))))))))) ?_
            simp +decide only[go_sem,reduceAdd,reduceMul,reduceSub,e1,e2,e3,e4,e5,ha,s0,c0,c1,a1]
            exact .no
          · obtain ⟨x, y, hx⟩ := two_of (l := p.args.items) (by simp at a1; omega)
            have hxm : x ∈ p.args.items := by rw [hx]; simp
            have hym : y ∈ p.args.items := by rw [hx]; simp
            obtain ⟨q, hq, hqx⟩ := ih x hxm given (by omega)
            obtain ⟨px, hpx, _⟩ := x.open
            have hfx := hkk x hxm
            rw [hpx] at hfx
            obtain ⟨sr, hsr, hsl⟩ := sources69 (G := G) m hn px hfx
            rw [← hpx] at hsr
            have hM : 3 ^ m ≤ 3 ^ 10 := Nat.pow_le_pow_right (by decide) (by omega)
            have hM : 3 ^ m ≤ 59049 := hM
            have hll : (given.items ++ sr.items).length < 4611686018427387904 := by rw [List.length_append]; omega
            obtain ⟨qw, hw, hwx⟩ := ih y hym ⟨some (given.items ++ sr.items), hll⟩ (by show (given.items ++ sr.items).length ≤ _; rw [List.length_append]; omega)
            have hww : sl 1 I (⟨some (given.items ++ sr.items), hll⟩ : Sl I64) = .slice none 1 ((given.items ++ sr.items).map I) := rfl
            rw [hww] at hw
            have p0 : appendD 1 ⟨[], []⟩ (.slice (some 0) 1 []) (given.items.map I) = some (accE 1 (given.items.map I), ⟨[], accT (given.items.map I)⟩) := app_E 1 [] _
            have p1 := app_EI given.items sr.items
            have st : ∀ g, stripF g (accE 1 ((given.items ++ sr.items).map I)) = .slice none 1 ((given.items ++ sr.items).map I) := fun g => strip_accE (stripFL_map I strip_I _)
            have l1 : (given.items.length ≤ 16777216) = True := eq_true (by omega)
            have l2 : (given.items.length + sr.items.length ≤ 16777216) = True := eq_true (by omega)
            have at0 : atI p.args.items 0 = some x := by rw [hx]; rfl
            have at1 : atI p.args.items 1 = some y := by rw [hx]; rfl
            have ho := okC_accEI
            simp only [encBnd_eq] at hw hq
            cases q
            · repeat (first|(with_reducible first|refine q1 ?_|refine q2 ?_|refine q3 ?_|refine q4 ?_|refine q5 ?_|refine q6 ?_|refine q7 ?_|refine q8 ?_|refine q9 ?_|refine q10 ?_|refine q11 ?_|refine q12 (by decide) ?_)|((first|with_reducible refine q13 ?_|((with_reducible refine q14 ?_ ?_);focus exact rfl));intro K hK;simp +decide only[go_sem,reduceAdd,reduceMul,reduceSub,e1,e2,e3,e4,e5,ha,s0,c0,c1,a1,hq,at0,at1];with_reducible refine hK _ ?_;clear hK K)|(with_reducible refine q15 ?_;intro K J hK hJ;simp +decide only[go_sem,reduceAdd,reduceMul,reduceSub,e1,e2,e3,e4,e5,ha,s0,c0,c1,a1,hq,at0,at1];(with_reducible first|refine hK ?_|refine hJ ?_);clear hK hJ K J))
              simp +decide only[go_sem,reduceAdd,reduceMul,reduceSub,e1,e2,e3,e4,e5,ha,s0,c0,c1,a1,hq,at0,at1]
              exact .no
            · repeat (first|(with_reducible first|refine q1 ?_|refine q2 ?_|refine q3 ?_|refine q4 ?_|refine q5 ?_|refine q6 ?_|refine q7 ?_|refine q8 ?_|refine q9 ?_|refine q10 ?_|refine q11 ?_|refine q12 (by decide) ?_)|((first|with_reducible refine q13 ?_|((with_reducible refine q14 ?_ ?_);focus exact rfl));intro K hK;simp +decide only[go_sem,reduceAdd,reduceMul,reduceSub,e1,e2,e3,e4,e5,ha,s0,c0,c1,a1,hq,at0,at1,hsr,hw,p0,p1,st,l1,l2,ho,List.length_map];with_reducible refine hK _ ?_;clear hK K)|(with_reducible refine q15 ?_;intro K J hK hJ;simp +decide only[go_sem,reduceAdd,reduceMul,reduceSub,e1,e2,e3,e4,e5,ha,s0,c0,c1,a1,hq,at0,at1,hsr,hw,p0,p1,st,l1,l2,ho,List.length_map];(with_reducible first|refine hK ?_|refine hJ ?_);clear hK hJ K J))
              simp +decide only[go_sem,reduceAdd,reduceMul,reduceSub,e1,e2,e3,e4,e5,ha,s0,c0,c1,a1,hq,at0,at1]
              cases qw
              · exact .no
              · exact .yes (hR (.join p hk x y hx (hqx rfl) (hwx rfl)))
      · refine gw (an e1 (an e2 (an e3 (an e4 (an e5 (an ha (an s0 (an c0 c1)))))))) ?_
        simp +decide only[go_sem,reduceAdd,reduceMul,reduceSub,e1,e2,e3,e4,e5,ha,s0,c0,c1]
        exact .no
    · refine gw (an e1 (an e2 (an e3 (an e4 (an e5 (an ha (an s0 c0))))))) ?_
      simp +decide only[go_sem,reduceAdd,reduceMul,reduceSub,e1,e2,e3,e4,e5,ha,s0,c0]
      exact .no
  · refine gw (an e1 (an e2 (an e3 (an e4 (an e5 (an ha s0)))))) ?_
    simp +decide only[go_sem,reduceAdd,reduceMul,reduceSub,e1,e2,e3,e4,e5,ha,s0]
    exact .no
end
end Go.Eng
/- What the guards say of a plan: its shape. -/
namespace Go.Eng
open Go Go.Proofs
open Nat (reduceAdd reduceMul reduceSub)
set_option maxRecDepth 20000
set_option maxHeartbeats 32000000
attribute [local irreducible] wpI endP
section
variable {G : Nat → Option (List D)} (s : Sl Tbl) (b : Bnd) (W : List Nat) (h : WOK s.items b.tabs.items W)
theorem part_other (p : PlR) (h1 : p.k.1 ≠ 1) (h2 : p.k.1 ≠ 2) (h3 : p.k.1 ≠ 3) (h4 : p.k.1 ≠ 4) (h5 : p.k.1 ≠ 5) (given : Sl I64) :
    ∃ q, callP (XG G) TT 70 [sl 5 encTbl s, encBnd b, p.enc, sl 1 I given] = some (.bool q) ∧ (q = true → ShP b.tabs.items.length p.enc) := by
  have e1 := int_ne h1
  have e2 := int_ne h2
  have e3 := int_ne h3
  have e4 := int_ne h4
  have e5 := int_ne h5
  refine boolP_of fun P hR => ?_
  refine callP_body T70 rfl (by simp only [go_sem]) ?_
  unfold Tryd.f70
  simp only [Option.getD_some]
  simp +decide only[go_sem,reduceAdd,reduceMul,reduceSub,e1,e2,e3,e4,e5]
  cases s0 : (p.s.1 != 0)
  · cases c0 : ((p.c.items.length : Int) != 0)
    · cases c1 : ((p.e.items.length : Int) != 0)
      · refine gw (an e1 (an e2 (an e3 (an e4 (an e5 (an s0 (an c0 c1))))))) ?_
        simp +decide only[go_sem,reduceAdd,reduceMul,reduceSub,e1,e2,e3,e4,e5,s0,c0,c1]
        exact .no
      · refine gw (an e1 (an e2 (an e3 (an e4 (an e5 (an s0 (an c0 c1))))))) ?_
        simp +decide only[go_sem,reduceAdd,reduceMul,reduceSub,e1,e2,e3,e4,e5,s0,c0,c1]
        exact .no
    · refine gw (an e1 (an e2 (an e3 (an e4 (an e5 (an s0 c0)))))) ?_
      simp +decide only[go_sem,reduceAdd,reduceMul,reduceSub,e1,e2,e3,e4,e5,s0,c0]
      exact .no
  · refine gw (an e1 (an e2 (an e3 (an e4 (an e5 s0))))) ?_
    simp +decide only[go_sem,reduceAdd,reduceMul,reduceSub,e1,e2,e3,e4,e5,s0]
    exact .no
include h
theorem part70 : ∀ (n : Nat), n ≤ 10 → ∀ p : PlR, FewN n p.enc → ∀ given : Sl I64, given.items.length + 60000 * n ≤ 1000000 →
    ∃ q, callP (XG G) TT 70 [sl 5 encTbl s, encBnd b, p.enc, sl 1 I given] = some (.bool q) ∧ (q = true → ShP b.tabs.items.length p.enc) := by
  intro n
  induction n with
  | zero => intro _ p hf; obtain ⟨m, h, _⟩ := hf.open; omega
  | succ n ih =>
    intro hn p hf given hg
    obtain ⟨m, e, _, _, _, _, hkk⟩ := hf.open
    obtain rfl : m = n := by omega
    have ih' : ∀ x ∈ p.args.items, ∀ given' : Sl I64, given'.items.length ≤ given.items.length + 59049 → ∃ q, callP (XG G) TT 70 [sl 5 encTbl s, encBnd b, encPl x, sl 1 I given'] = some (.bool q) ∧ (q = true → ShP b.tabs.items.length (encPl x)) := fun x hx given' hg' => by
      obtain ⟨q, hq, _⟩ := x.open
      have := hkk x hx
      rw [hq] at this ⊢
      exact ih (by omega) q this given' (by omega)
    by_cases h1 : p.k.1 = 1
    · exact part_leaf s b W h p (.inl h1) given
    by_cases h2 : p.k.1 = 2
    · exact part_leaf s b W h p (.inr (.inl h2)) given
    by_cases h3 : p.k.1 = 3
    · exact part_leaf s b W h p (.inr (.inr h3)) given
    by_cases h4 : p.k.1 = 4
    · exact part_flt s b W h p h4 m (by omega) hf given (by omega) fun x hx => ih' x hx given (by omega)
    by_cases h5 : p.k.1 = 5
    · exact part_join s b p h5 m (by omega) hf given (by omega) ih'
    · exact part_other s b p h1 h2 h3 h4 h5 given
theorem shape33 (p : PlR) (n : Nat) (hn : n ≤ 10) (hf : FewN n p.enc) : ∃ q, callP (XG G) TT 33 [sl 5 encTbl s, encBnd b, p.enc] = some (.bool q) ∧ (q = true → ShP b.tabs.items.length p.enc) := by
  obtain ⟨l, hl, hll⟩ := sources69 (G := G) n hn p hf
  obtain ⟨qp, hp, hpr⟩ := part70 s b W h n hn p hf ⟨none, by show (0 : Nat) < 4611686018427387904; decide⟩ (by show 0 + 60000 * n ≤ 1000000; omega)
  have hp : callP (XG G) TT 70 [sl 5 encTbl s, encBnd b, p.enc, .nil] = some (.bool qp) := hp
  refine boolP_of fun P hR => ?_
  have hy : qp = true → P := fun e => hR (hpr e)
  clear hR hpr
  simp only [PlR_eq, encBnd_eq] at hl hp
  refine callP_body T33 rfl (by simp only [go_sem]) ?_
  unfold Tryd.f33
  simp only [Option.getD_some]
  have hlt := l.lt
  simp +decide only[go_sem,reduceAdd,reduceMul,reduceSub,hl,hp]
  cases c0 : ((l.items.length : Int) != (b.tabs.items.length : Int))
  · cases qp
    · refine gw (an hl (an hp c0)) ?_
      simp +decide only[go_sem,reduceAdd,reduceMul,reduceSub,hl,hp,c0]
      exact .no
    · refine gw (an hl (an hp c0)) ?_
      refine wpI_loopC (T := Nat) [7, 8] rfl (by simp +decide only[go_sem,reduceAdd,reduceMul,reduceSub,hl,hp,c0]; exact rfl) (fun k => [(8, .int .i64 (k : Int))]) (fun _ => []) (fun _ => ⟨[], []⟩) (fun k => k ≤ l.items.length) (fun k => l.items.length - k) 0 (by simp +decide only[go_sem,reduceAdd,reduceMul,reduceSub,hl,hp,c0] <;> rfl) (by simp) ?_
      rintro k hk
      by_cases h1 : k < l.items.length
      · have l_x : ((k : Int) < ((l.items).length : Int)) = True := by simp; omega
        obtain ⟨x, g_x⟩ : ∃ a_, (l.items)[k]? = some a_ := ⟨_, List.getElem?_eq_getElem (by assumption)⟩
        have w_x := wrap_nat k (by omega)
        have c2 := has71 (G := G) (l.take k) x.1
        have c3 := slcI_sl (P := Tryd.prog) (t := 24) (k := 1) I l (i := k) (by simp only [go_sem]) (by omega)
        cases c4 : ((l.take k).items.any fun y => y.1 == x.1)
        · refine gw (an hl (an hp (an c0 (an l_x (an g_x (an w_x (an c2 (an c3 c4)))))))) ?_
          exact ⟨k + 1, by simp +decide only[go_sem,reduceAdd,reduceMul,reduceSub,hl,hp,c0,l_x,g_x,w_x,c2,c3,c4] <;> rfl, by omega, by omega⟩
        · refine gw (an hl (an hp (an c0 (an l_x (an g_x (an w_x (an c2 (an c3 c4)))))))) ?_
          simp +decide only[go_sem,reduceAdd,reduceMul,reduceSub,hl,hp,c0,l_x,g_x,w_x,c2,c3,c4]
          exact .no
      · have l_e1 : ((k : Int) < ((l.items).length : Int)) = False := by simp; omega
        refine gw (an hl (an hp (an c0 l_e1))) ?_
        simp +decide only[go_sem,reduceAdd,reduceMul,reduceSub,hl,hp,c0,l_e1]
        exact .yes (hy rfl)
  · refine gw (an hl (an hp c0)) ?_
    simp +decide only[go_sem,reduceAdd,reduceMul,reduceSub,hl,hp,c0]
    exact .no
end
end Go.Eng
