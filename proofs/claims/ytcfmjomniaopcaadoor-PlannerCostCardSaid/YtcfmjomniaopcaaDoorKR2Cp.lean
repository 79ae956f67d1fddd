/- A part of the proof: see the last text. -/
import Derived.Test.YtcfmjomniaopcaaDoorKR2Cc
import Derived.Test.YtcfmjomniaopcaaDoorKR2Cg
import Derived.Test.YtcfmjomniaopcaaDoorR2Cj
import Derived.Test.YtcfmjomniaopcaaDoorKR2Pg
set_option linter.unusedSimpArgs false
set_option linter.unusedVariables false
/- The reference's estimate. -/
namespace Go.Eng
open Go Go.Proofs
open Nat (reduceAdd reduceMul reduceSub)
set_option maxRecDepth 20000
set_option maxHeartbeats 32000000
attribute [local irreducible] wpI endP
def i64 (n : Int) : D := .int .i64 n
structure EOK (r c : Int) : Prop where
  r0 : 0 ≤ r
  r1 : r ≤ 1099511627776
  c0 : 0 ≤ c
  c1 : c ≤ 1099511627776
/-- Rounded up, so many times. -/
def upN (r : Int) : Nat → Int
  | 0 => r
  | n + 1 => upF (upN r n) 2
theorem upN_le {r : Int} (h0 : 0 ≤ r) : ∀ n, 0 ≤ upN r n ∧ upN r n ≤ r
  | 0 => ⟨h0, Int.le_refl _⟩
  | n + 1 => by
    have h := upN_le h0 n
    have := upF_le (b := 2) h.1 (by omega)
    unfold upN; omega
def lokR (t : Tbl) (cols : List I64) (n : Int) : Int := bif anyCov cols t.keys.items then upF n 1000000 else upF n 10
def lokC (t : Tbl) (cols : List I64) (n : Int) : Int := bif anyCov cols (idxL t) then lokR t cols n + 1 else n
section
variable (s : Sl Tbl) (b : Bnd) (W : List Nat) (h : WOK s.items b.tabs.items W) (hsm : ∀ t ∈ s.items, t.keys.items.length ≤ 10 ∧ t.fgns.items.length ≤ 10)
include h hsm
theorem src_at (p : PlR) (h0 : 0 ≤ p.s.1) (h1 : p.s.1 < (b.tabs.items.length : Int)) : ∃ (i : Nat) (v : I64) (t : Tbl), p.s.1 = i ∧ b.tabs.items[i]? = some v ∧ atI s.items v.1 = some t ∧ t.keys.items.length ≤ 10 ∧ t.fgns.items.length ≤ 10 := by
  obtain ⟨v, t, w, g1, g2, _⟩ := h.at (i := p.s.1.toNat) (by omega)
  obtain ⟨k, _, hk⟩ := atI_some g2
  have := hsm t (List.mem_of_getElem? hk)
  exact ⟨_, v, t, by omega, g1, g2, this.1, this.2⟩
end
section
variable (s : Sl Tbl) (b : Bnd) (cnt : Sl I64)
theorem est_scan (p : PlR) (hk : p.k.1 = 1) (i : Nat) (v : I64) (t : Tbl) (hi : p.s.1 = i) (g1 : b.tabs.items[i]? = some v) (g2 : atI s.items v.1 = some t) :
    callP (XG GK) TT 34 [sl 5 encTbl s, encBnd b, p.enc, sl 1 I cnt] = some (.tuple [.int .i64 (cntF cnt.items i), .int .i64 (cntF cnt.items i)]) := by
  have e4 : (p.k.1 == 4) = false := int_ne (by omega)
  have e5 : (p.k.1 == 5) = false := int_ne (by omega)
  have e2 : (p.k.1 == 2) = false := int_ne (by omega)
  have e3 : (p.k.1 == 3) = false := int_ne (by omega)
  have c1 := count75 (G := GK) cnt i
  refine callP_val T34 rfl (by simp only [go_sem]) ?_
  unfold Tryd.f34
  simp only [Option.getD_some]
  simp +decide only[go_sem,reduceAdd,reduceMul,reduceSub,e4,e5,e2,e3,c1,hi,g1,g2]
  refine gw (an e4 (an e5 (an e2 (an e3 (an c1 (an hi (an g1 g2))))))) ?_
  simp +decide only[go_sem,reduceAdd,reduceMul,reduceSub,e4,e5,e2,e3,c1,hi,g1,g2]
theorem est_look (p : PlR) (hk : p.k.1 = 2) (i : Nat) (v : I64) (t : Tbl) (hi : p.s.1 = i) (g1 : b.tabs.items[i]? = some v) (g2 : atI s.items v.1 = some t) (h1 : t.keys.items.length ≤ 10) (h2 : t.fgns.items.length ≤ 10) :
    callP (XG GK) TT 34 [sl 5 encTbl s, encBnd b, p.enc, sl 1 I cnt] = some (.tuple [.int .i64 (lokR t p.c.items (cntF cnt.items i)), .int .i64 (lokC t p.c.items (cntF cnt.items i))]) := by
  have e4 : (p.k.1 == 4) = false := int_ne (by omega)
  have e5 : (p.k.1 == 5) = false := int_ne (by omega)
  have e2 := int_eq hk
  have c1 := count75 (G := GK) cnt i
  obtain ⟨n0, n1⟩ := cntF_le cnt.items i
  unfold lokC lokR
  generalize cntF cnt.items i = n at *
  have u1 := up73 (G := GK) n 10 n0 (by omega) (by omega) (by omega)
  have u2 := up73 (G := GK) n 1000000 n0 (by omega) (by omega) (by omega)
  obtain ⟨ix, hix, ci⟩ := idx77 (G := GK) t h1 h2
  have c2 := covers76 (G := GK) p.c ix
  rw [hix] at c2
  have c3 := covers76 (G := GK) p.c t.keys
  have b1 := upF_le (b := 10) n0 (by omega)
  have b2 := upF_le (b := 1000000) n0 (by omega)
  have w1 := wrap_fit (upF n 10 + 1) (by omega)
  have w2 := wrap_fit (upF n 1000000 + 1) (by omega)
  simp only [encTbl_eq] at ci
  refine callP_val T34 rfl (by simp only [go_sem]) ?_
  unfold Tryd.f34
  simp only [Option.getD_some]
  simp +decide only[go_sem,reduceAdd,reduceMul,reduceSub,e4,e5,e2,c1,hi,g1,g2,u1,u2,ci,c2,c3,w1,w2]
  cases a1 : (anyCov p.c.items (idxL t))
  · cases a2 : (anyCov p.c.items t.keys.items)
    · refine gw (an e4 (an e5 (an e2 (an c1 (an hi (an g1 (an g2 (an u1 (an u2 (an ci (an c2 (an c3 (an w1 (an w2 (an a1 a2))))))))))))))) ?_
      simp +decide only[go_sem,reduceAdd,reduceMul,reduceSub,e4,e5,e2,c1,hi,g1,g2,u1,u2,ci,c2,c3,w1,w2,a1,a2]
    · refine gw (an e4 (an e5 (an e2 (an c1 (an hi (an g1 (an g2 (an u1 (an u2 (an ci (an c2 (an c3 (an w1 (an w2 (an a1 a2))))))))))))))) ?_
      simp +decide only[go_sem,reduceAdd,reduceMul,reduceSub,e4,e5,e2,c1,hi,g1,g2,u1,u2,ci,c2,c3,w1,w2,a1,a2]
  · cases a2 : (anyCov p.c.items t.keys.items)
    · refine gw (an e4 (an e5 (an e2 (an c1 (an hi (an g1 (an g2 (an u1 (an u2 (an ci (an c2 (an c3 (an w1 (an w2 (an a1 a2))))))))))))))) ?_
      simp +decide only[go_sem,reduceAdd,reduceMul,reduceSub,e4,e5,e2,c1,hi,g1,g2,u1,u2,ci,c2,c3,w1,w2,a1,a2]
    · refine gw (an e4 (an e5 (an e2 (an c1 (an hi (an g1 (an g2 (an u1 (an u2 (an ci (an c2 (an c3 (an w1 (an w2 (an a1 a2))))))))))))))) ?_
      simp +decide only[go_sem,reduceAdd,reduceMul,reduceSub,e4,e5,e2,c1,hi,g1,g2,u1,u2,ci,c2,c3,w1,w2,a1,a2]
end
end Go.Eng
/- The reference's estimate of filters and joins. -/
namespace Go.Eng
open Go Go.Proofs
open Nat (reduceAdd reduceMul reduceSub)
set_option maxRecDepth 20000
set_option maxHeartbeats 32000000
attribute [local irreducible] wpI endP
section
variable (s : Sl Tbl) (b : Bnd) (cnt : Sl I64)
theorem est_flt (p : PlR) (hk : p.k.1 = 4) (x : Pl) (hx : p.args.items = [x]) (r c : Int) (hE : EOK r c) (L : List Ex) (hL : CjL p.r.enc L) (hLl : L.length ≤ 400)
    (ih : callP (XG GK) TT 34 [sl 5 encTbl s, encBnd b, encPl x, sl 1 I cnt] = some (.tuple [.int .i64 r, .int .i64 c])) :
    callP (XG GK) TT 34 [sl 5 encTbl s, encBnd b, p.enc, sl 1 I cnt] = some (.tuple [.int .i64 (upN r L.length), .int .i64 (liF (c + r))]) := by
  have e4 := int_eq hk
  have at0 : atI p.args.items 0 = some x := by rw [hx]; rfl
  obtain ⟨r0, r1, c0, c1⟩ := hE
  have pl := plus72 (G := GK) c r c0 c1 r0 r1
  obtain ⟨cj, hcj, hcl⟩ := conj46 (G := GK) hL (by omega)
  simp only [encBnd_eq, ExR_eq] at ih hcj
  refine callP_val T34 rfl (by simp only [go_sem]) ?_
  unfold Tryd.f34
  simp only [Option.getD_some]
  simp +decide only[go_sem,reduceAdd,reduceMul,reduceSub,e4,at0,pl,hcj,ih]
  repeat (first|(with_reducible first|refine q1 ?_|refine q2 ?_|refine q3 ?_|refine q4 ?_|refine q5 ?_|refine q6 ?_|refine q7 ?_|refine q8 ?_|refine q9 ?_|refine q10 ?_|refine q11 ?_|refine q12 (by decide) ?_)|((first|with_reducible refine q13 ?_|((with_reducible refine q14 ?_ ?_);focus exact rfl));intro K hK;simp +decide only[go_sem,reduceAdd,reduceMul,reduceSub,e4,at0,pl,hcj,ih];with_reducible refine hK _ ?_;clear hK K)|(with_reducible refine q15 ?_;intro K J hK hJ;simp +decide only[go_sem,reduceAdd,reduceMul,reduceSub,e4,at0,pl,hcj,ih];(with_reducible first|refine hK ?_|refine hJ ?_);clear hK hJ K J))
  refine wpI_loopC (T := Nat) [6, 10, 11, 12] rfl (by simp +decide only[go_sem,reduceAdd,reduceMul,reduceSub,e4,at0,pl,hcj,ih]; exact rfl) (fun k => [(12, .int .i64 (k : Int)), (10, .int .i64 (upN r k))]) (fun _ => []) (fun _ => ⟨[], []⟩) (fun k => k ≤ L.length) (fun k => L.length - k) 0 (by simp +decide only[go_sem,reduceAdd,reduceMul,reduceSub,e4,at0,pl,hcj,ih] <;> rfl) (by simp) ?_
  rintro k hk
  have hup := upN_le r0 k
  have u1 := up73 (G := GK) (upN r k) 2 hup.1 (by omega) (by omega) (by omega)
  have eN : upF (upN r k) 2 = upN r (k + 1) := rfl
  rw [eN] at u1
  by_cases h : k < L.length
  · have lq : ((k : Int) < (cj.items.length : Int)) = True := eq_true (by rw [hcl]; omega)
    have w1 := wrap_nat k (by omega)
    repeat (first|(with_reducible first|refine q1 ?_|refine q2 ?_|refine q3 ?_|refine q4 ?_|refine q5 ?_|refine q6 ?_|refine q7 ?_|refine q8 ?_|refine q9 ?_|refine q10 ?_|refine q11 ?_|refine q12 (by decide) ?_)|((first|with_reducible refine q13 ?_|((with_reducible refine q14 ?_ ?_);focus exact rfl));intro K hK;simp +decide only[go_sem,reduceAdd,reduceMul,reduceSub,e4,at0,pl,hcj,ih,lq,w1,u1];with_reducible refine hK _ ?_;clear hK K)|(with_reducible refine q15 ?_;intro K J hK hJ;simp +decide only[go_sem,reduceAdd,reduceMul,reduceSub,e4,at0,pl,hcj,ih,lq,w1,u1];(with_reducible first|refine hK ?_|refine hJ ?_);clear hK hJ K J))
    exact ⟨k + 1, by simp +decide only[go_sem,reduceAdd,reduceMul,reduceSub,e4,at0,pl,hcj,ih] <;> rfl, by omega, by omega⟩
  · have lq : ((k : Int) < (cj.items.length : Int)) = False := eq_false (by rw [hcl]; omega)
    obtain rfl : k = L.length := by omega
    repeat (first|(with_reducible first|refine q1 ?_|refine q2 ?_|refine q3 ?_|refine q4 ?_|refine q5 ?_|refine q6 ?_|refine q7 ?_|refine q8 ?_|refine q9 ?_|refine q10 ?_|refine q11 ?_|refine q12 (by decide) ?_)|((first|with_reducible refine q13 ?_|((with_reducible refine q14 ?_ ?_);focus exact rfl));intro K hK;simp +decide only[go_sem,reduceAdd,reduceMul,reduceSub,e4,at0,pl,hcj,ih,lq];with_reducible refine hK _ ?_;clear hK K)|(with_reducible refine q15 ?_;intro K J hK hJ;simp +decide only[go_sem,reduceAdd,reduceMul,reduceSub,e4,at0,pl,hcj,ih,lq];(with_reducible first|refine hK ?_|refine hJ ?_);clear hK hJ K J))
    simp +decide only[go_sem,reduceAdd,reduceMul,reduceSub,e4,at0,pl,hcj,ih]
theorem est_join (p : PlR) (hk : p.k.1 = 5) (x y : Pl) (hx : p.args.items = [x, y]) (r c q d : Int) (hE : EOK r c) (hE' : EOK q d)
    (ih : callP (XG GK) TT 34 [sl 5 encTbl s, encBnd b, encPl x, sl 1 I cnt] = some (.tuple [.int .i64 r, .int .i64 c]))
    (ih' : callP (XG GK) TT 34 [sl 5 encTbl s, encBnd b, encPl y, sl 1 I cnt] = some (.tuple [.int .i64 q, .int .i64 d])) :
    callP (XG GK) TT 34 [sl 5 encTbl s, encBnd b, p.enc, sl 1 I cnt] = some (.tuple [.int .i64 (prodF r q), .int .i64 (liF (c + prodF r d))]) := by
  have e4 : (p.k.1 == 4) = false := int_ne (by omega)
  have e5 := int_eq hk
  have at0 : atI p.args.items 0 = some x := by rw [hx]; rfl
  have at1 : atI p.args.items 1 = some y := by rw [hx]; rfl
  have b1 := prodF_le hE.r0 hE'.c0
  have t1 := times74 (G := GK) r q hE.r0 hE.r1 hE'.r0 hE'.r1
  have t2 := times74 (G := GK) r d hE.r0 hE.r1 hE'.c0 hE'.c1
  have pl := plus72 (G := GK) c (prodF r d) hE.c0 hE.c1 b1.1 b1.2
  simp only [encBnd_eq] at ih ih'
  refine callP_val T34 rfl (by simp only [go_sem]) ?_
  unfold Tryd.f34
  simp only [Option.getD_some]
  simp +decide only[go_sem,reduceAdd,reduceMul,reduceSub,e4,e5,at0,at1,pl,t1,t2,ih,ih']
  repeat (first|(with_reducible first|refine q1 ?_|refine q2 ?_|refine q3 ?_|refine q4 ?_|refine q5 ?_|refine q6 ?_|refine q7 ?_|refine q8 ?_|refine q9 ?_|refine q10 ?_|refine q11 ?_|refine q12 (by decide) ?_)|((first|with_reducible refine q13 ?_|((with_reducible refine q14 ?_ ?_);focus exact rfl));intro K hK;simp +decide only[go_sem,reduceAdd,reduceMul,reduceSub,e4,e5,at0,at1,pl,t1,t2,ih,ih'];with_reducible refine hK _ ?_;clear hK K)|(with_reducible refine q15 ?_;intro K J hK hJ;simp +decide only[go_sem,reduceAdd,reduceMul,reduceSub,e4,e5,at0,at1,pl,t1,t2,ih,ih'];(with_reducible first|refine hK ?_|refine hJ ?_);clear hK hJ K J))
  simp +decide only[go_sem,reduceAdd,reduceMul,reduceSub,e4,e5,at0,at1,pl,t1,t2,ih,ih']
end
end Go.Eng
