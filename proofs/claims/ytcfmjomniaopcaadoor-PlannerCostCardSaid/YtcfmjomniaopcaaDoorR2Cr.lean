/- A part of the proof: see the last text. -/
import Derived.Test.YtcfmjomniaopcaaDoorR2Cq
set_option linter.unusedSimpArgs false
set_option linter.unusedVariables false
/- The program's estimate: ranges. -/
namespace Go.Eng
open Go Go.Proofs
open Nat (reduceAdd reduceMul reduceSub)
set_option maxRecDepth 20000
set_option maxHeartbeats 32000000
attribute [local irreducible] wpI endP
section
variable (s : Sl Tbl) (b : Bnd) (W : List Nat) (cnt : Sl I64) (bx : List (List D)) (tk : List Nat) (id : Nat) (tg : Option Nat) (c : Sl Ex) (hm : bx[id]? = some (qC s b tg W c))
include hm
theorem cost_rng (p : PlR) (hk : p.k.1 = 3) (i : Nat) (v : I64) (t : Tbl) (hi : p.s.1 = i) (g1 : b.tabs.items[i]? = some v) (g2 : atI s.items v.1 = some t) (h1 : t.keys.items.length ≤ 10) (h2 : t.fgns.items.length ≤ 10)
    (x y : Ex) (rx ry : ExR) (he : p.e.items = [x, y]) (hx : encEx x = rx.enc) (hy : encEx y = ry.enc) :
    callR (XG GK) TT 78 ⟨bx, tk⟩ [.ptr id 0, p.enc, sl 1 I cnt] = some (.tuple [.int .i64 (rngR rx.a.1 ry.a.1 (cntF cnt.items i)), .int .i64 (rngC t p.c.items rx.a.1 ry.a.1 (cntF cnt.items i))], ⟨bx ++ [plC p], tk⟩) := by
  have e1 : (p.k.1 == 1) = false := int_ne (by omega)
  have e2 : (p.k.1 == 2) = false := int_ne (by omega)
  have e3 := int_eq hk
  obtain ⟨n0, n1⟩ := cntF_le cnt.items i
  have hj : (bx ++ [plC p])[bx.length]? = some (plC p) := by simp
  obtain ⟨ix, hix, ci⟩ := idx117 t h1 h2
  have hk2 := ctf114 ix 119 [.ptr bx.length 0] ⟨bx ++ [plC p], tk⟩ (fun k => eqI k.items p.c.items) (eq_true (by decide)) fun x _ => clo119 ⟨bx ++ [plC p], tk⟩ bx.length p hj x
  have hk2 : callR (XG GK) TT 114 ⟨bx ++ [plC p], tk⟩ [sl 1 (sl 1 I) ix, .func 119 [.ptr bx.length 0]] = some (.bool (anyEq p.c.items ix.items), ⟨bx ++ [plC p], tk⟩) := hk2
  rw [hix] at hk2
  have hcy := fun x (h : cnt.items[i]? = some x) => cnt_yes h
  have hcn := fun h => cnt_no (l := cnt.items) (i := i) h
  unfold rngC
  generalize cntF cnt.items i = n at *
  have u1 := up113 (G := GK) n 3 n0 (by omega) (by omega) (by omega)
  have u2 := up113 (G := GK) n 5 n0 (by omega) (by omega) (by omega)
  have b1 := upF_le (b := 3) n0 (by omega)
  have b2 := upF_le (b := 5) n0 (by omega)
  have w1 := wrap_fit (upF n 3 + 1) (by omega)
  have w2 := wrap_fit (upF n 5 + 1) (by omega)
  have at0 : atI p.e.items 0 = some x := by rw [he]; rfl
  have at1 : atI p.e.items 1 = some y := by rw [he]; rfl
  simp only [ExR_eq] at hx hy
  simp only [encTbl_eq] at ci
  unfold rngR
  refine callR_val T78 rfl ?_
  unfold Tryd.f78
  simp only [Option.getD_some]
  unfold qC at hm
  unfold plC at hk2 ⊢
  rw [hi] at hk2
  simp +decide only[go_sem,reduceAdd,reduceMul,reduceSub,e1,e2,e3,hi,g1,g2,hm,u1,u2,ci,hk2,w1,w2,at0,at1,hx,hy]
  by_cases h : i < cnt.items.length
  · obtain ⟨q, hq⟩ : ∃ q, cnt.items[i]? = some q := ⟨_, List.getElem?_eq_getElem h⟩
    obtain ⟨z, y1, y2⟩ := hcy q hq
    have l1 : ((i : Int) < (cnt.items.length : Int)) = True := eq_true (by omega)
    repeat (first|(with_reducible first|refine q1 ?_|refine q2 ?_|refine q3 ?_|refine q4 ?_|refine q5 ?_|refine q6 ?_|refine q7 ?_|refine q8 ?_|refine q9 ?_|refine q10 ?_|refine q11 ?_|refine q12 (by decide) ?_)|((first|with_reducible refine q13 ?_|((with_reducible refine q14 ?_ ?_);focus exact rfl));intro K hK;simp +decide only[go_sem,reduceAdd,reduceMul,reduceSub,e1,e2,e3,hi,g1,g2,hm,u1,u2,ci,hk2,w1,w2,at0,at1,hx,hy,hq,y1,y2,l1];with_reducible refine hK _ ?_;clear hK K)|(with_reducible refine q15 ?_;intro K J hK hJ;simp +decide only[go_sem,reduceAdd,reduceMul,reduceSub,e1,e2,e3,hi,g1,g2,hm,u1,u2,ci,hk2,w1,w2,at0,at1,hx,hy,hq,y1,y2,l1];(with_reducible first|refine hK ?_|refine hJ ?_);clear hK hJ K J))
    cases z0 : (rx.a.1 != 0)
    · repeat (first|(with_reducible first|refine q1 ?_|refine q2 ?_|refine q3 ?_|refine q4 ?_|refine q5 ?_|refine q6 ?_|refine q7 ?_|refine q8 ?_|refine q9 ?_|refine q10 ?_|refine q11 ?_|refine q12 (by decide) ?_)|((first|with_reducible refine q13 ?_|((with_reducible refine q14 ?_ ?_);focus exact rfl));intro K hK;simp +decide only[go_sem,reduceAdd,reduceMul,reduceSub,e1,e2,e3,hi,g1,g2,hm,u1,u2,ci,hk2,w1,w2,at0,at1,hx,hy,hq,y1,y2,l1,z0];with_reducible refine hK _ ?_;clear hK K)|(with_reducible refine q15 ?_;intro K J hK hJ;simp +decide only[go_sem,reduceAdd,reduceMul,reduceSub,e1,e2,e3,hi,g1,g2,hm,u1,u2,ci,hk2,w1,w2,at0,at1,hx,hy,hq,y1,y2,l1,z0];(with_reducible first|refine hK ?_|refine hJ ?_);clear hK hJ K J))
      cases a1 : (anyEq p.c.items (idxL t))
      · repeat (first|(with_reducible first|refine q1 ?_|refine q2 ?_|refine q3 ?_|refine q4 ?_|refine q5 ?_|refine q6 ?_|refine q7 ?_|refine q8 ?_|refine q9 ?_|refine q10 ?_|refine q11 ?_|refine q12 (by decide) ?_)|((first|with_reducible refine q13 ?_|((with_reducible refine q14 ?_ ?_);focus exact rfl));intro K hK;simp +decide only[go_sem,reduceAdd,reduceMul,reduceSub,e1,e2,e3,hi,g1,g2,hm,u1,u2,ci,hk2,w1,w2,at0,at1,hx,hy,hq,y1,y2,l1,z0,a1];with_reducible refine hK _ ?_;clear hK K)|(with_reducible refine q15 ?_;intro K J hK hJ;simp +decide only[go_sem,reduceAdd,reduceMul,reduceSub,e1,e2,e3,hi,g1,g2,hm,u1,u2,ci,hk2,w1,w2,at0,at1,hx,hy,hq,y1,y2,l1,z0,a1];(with_reducible first|refine hK ?_|refine hJ ?_);clear hK hJ K J))
        simp +decide only[go_sem,reduceAdd,reduceMul,reduceSub,e1,e2,e3,hi,g1,g2,hm,u1,u2,ci,hk2,w1,w2,at0,at1,hx,hy,hq,y1,y2,l1,z0,a1]
        first | done | exact ⟨rfl, trivial⟩ | trivial
      · repeat (first|(with_reducible first|refine q1 ?_|refine q2 ?_|refine q3 ?_|refine q4 ?_|refine q5 ?_|refine q6 ?_|refine q7 ?_|refine q8 ?_|refine q9 ?_|refine q10 ?_|refine q11 ?_|refine q12 (by decide) ?_)|((first|with_reducible refine q13 ?_|((with_reducible refine q14 ?_ ?_);focus exact rfl));intro K hK;simp +decide only[go_sem,reduceAdd,reduceMul,reduceSub,e1,e2,e3,hi,g1,g2,hm,u1,u2,ci,hk2,w1,w2,at0,at1,hx,hy,hq,y1,y2,l1,z0,a1];with_reducible refine hK _ ?_;clear hK K)|(with_reducible refine q15 ?_;intro K J hK hJ;simp +decide only[go_sem,reduceAdd,reduceMul,reduceSub,e1,e2,e3,hi,g1,g2,hm,u1,u2,ci,hk2,w1,w2,at0,at1,hx,hy,hq,y1,y2,l1,z0,a1];(with_reducible first|refine hK ?_|refine hJ ?_);clear hK hJ K J))
        simp +decide only[go_sem,reduceAdd,reduceMul,reduceSub,e1,e2,e3,hi,g1,g2,hm,u1,u2,ci,hk2,w1,w2,at0,at1,hx,hy,hq,y1,y2,l1,z0,a1]
        first | done | exact ⟨rfl, trivial⟩ | trivial
    · repeat (first|(with_reducible first|refine q1 ?_|refine q2 ?_|refine q3 ?_|refine q4 ?_|refine q5 ?_|refine q6 ?_|refine q7 ?_|refine q8 ?_|refine q9 ?_|refine q10 ?_|refine q11 ?_|refine q12 (by decide) ?_)|((first|with_reducible refine q13 ?_|((with_reducible refine q14 ?_ ?_);focus exact rfl));intro K hK;simp +decide only[go_sem,reduceAdd,reduceMul,reduceSub,e1,e2,e3,hi,g1,g2,hm,u1,u2,ci,hk2,w1,w2,at0,at1,hx,hy,hq,y1,y2,l1,z0];with_reducible refine hK _ ?_;clear hK K)|(with_reducible refine q15 ?_;intro K J hK hJ;simp +decide only[go_sem,reduceAdd,reduceMul,reduceSub,e1,e2,e3,hi,g1,g2,hm,u1,u2,ci,hk2,w1,w2,at0,at1,hx,hy,hq,y1,y2,l1,z0];(with_reducible first|refine hK ?_|refine hJ ?_);clear hK hJ K J))
      cases z1 : (ry.a.1 != 0)
      · repeat (first|(with_reducible first|refine q1 ?_|refine q2 ?_|refine q3 ?_|refine q4 ?_|refine q5 ?_|refine q6 ?_|refine q7 ?_|refine q8 ?_|refine q9 ?_|refine q10 ?_|refine q11 ?_|refine q12 (by decide) ?_)|((first|with_reducible refine q13 ?_|((with_reducible refine q14 ?_ ?_);focus exact rfl));intro K hK;simp +decide only[go_sem,reduceAdd,reduceMul,reduceSub,e1,e2,e3,hi,g1,g2,hm,u1,u2,ci,hk2,w1,w2,at0,at1,hx,hy,hq,y1,y2,l1,z0,z1];with_reducible refine hK _ ?_;clear hK K)|(with_reducible refine q15 ?_;intro K J hK hJ;simp +decide only[go_sem,reduceAdd,reduceMul,reduceSub,e1,e2,e3,hi,g1,g2,hm,u1,u2,ci,hk2,w1,w2,at0,at1,hx,hy,hq,y1,y2,l1,z0,z1];(with_reducible first|refine hK ?_|refine hJ ?_);clear hK hJ K J))
        cases a1 : (anyEq p.c.items (idxL t))
        · repeat (first|(with_reducible first|refine q1 ?_|refine q2 ?_|refine q3 ?_|refine q4 ?_|refine q5 ?_|refine q6 ?_|refine q7 ?_|refine q8 ?_|refine q9 ?_|refine q10 ?_|refine q11 ?_|refine q12 (by decide) ?_)|((first|with_reducible refine q13 ?_|((with_reducible refine q14 ?_ ?_);focus exact rfl));intro K hK;simp +decide only[go_sem,reduceAdd,reduceMul,reduceSub,e1,e2,e3,hi,g1,g2,hm,u1,u2,ci,hk2,w1,w2,at0,at1,hx,hy,hq,y1,y2,l1,z0,z1,a1];with_reducible refine hK _ ?_;clear hK K)|(with_reducible refine q15 ?_;intro K J hK hJ;simp +decide only[go_sem,reduceAdd,reduceMul,reduceSub,e1,e2,e3,hi,g1,g2,hm,u1,u2,ci,hk2,w1,w2,at0,at1,hx,hy,hq,y1,y2,l1,z0,z1,a1];(with_reducible first|refine hK ?_|refine hJ ?_);clear hK hJ K J))
          simp +decide only[go_sem,reduceAdd,reduceMul,reduceSub,e1,e2,e3,hi,g1,g2,hm,u1,u2,ci,hk2,w1,w2,at0,at1,hx,hy,hq,y1,y2,l1,z0,z1,a1]
          first | done | exact ⟨rfl, trivial⟩ | trivial
        · repeat (first|(with_reducible first|refine q1 ?_|refine q2 ?_|refine q3 ?_|refine q4 ?_|refine q5 ?_|refine q6 ?_|refine q7 ?_|refine q8 ?_|refine q9 ?_|refine q10 ?_|refine q11 ?_|refine q12 (by decide) ?_)|((first|with_reducible refine q13 ?_|((with_reducible refine q14 ?_ ?_);focus exact rfl));intro K hK;simp +decide only[go_sem,reduceAdd,reduceMul,reduceSub,e1,e2,e3,hi,g1,g2,hm,u1,u2,ci,hk2,w1,w2,at0,at1,hx,hy,hq,y1,y2,l1,z0,z1,a1];with_reducible refine hK _ ?_;clear hK K)|(with_reducible refine q15 ?_;intro K J hK hJ;simp +decide only[go_sem,reduceAdd,reduceMul,reduceSub,e1,e2,e3,hi,g1,g2,hm,u1,u2,ci,hk2,w1,w2,at0,at1,hx,hy,hq,y1,y2,l1,z0,z1,a1];(with_reducible first|refine hK ?_|refine hJ ?_);clear hK hJ K J))
          simp +decide only[go_sem,reduceAdd,reduceMul,reduceSub,e1,e2,e3,hi,g1,g2,hm,u1,u2,ci,hk2,w1,w2,at0,at1,hx,hy,hq,y1,y2,l1,z0,z1,a1]
          first | done | exact ⟨rfl, trivial⟩ | trivial
      · repeat (first|(with_reducible first|refine q1 ?_|refine q2 ?_|refine q3 ?_|refine q4 ?_|refine q5 ?_|refine q6 ?_|refine q7 ?_|refine q8 ?_|refine q9 ?_|refine q10 ?_|refine q11 ?_|refine q12 (by decide) ?_)|((first|with_reducible refine q13 ?_|((with_reducible refine q14 ?_ ?_);focus exact rfl));intro K hK;simp +decide only[go_sem,reduceAdd,reduceMul,reduceSub,e1,e2,e3,hi,g1,g2,hm,u1,u2,ci,hk2,w1,w2,at0,at1,hx,hy,hq,y1,y2,l1,z0,z1];with_reducible refine hK _ ?_;clear hK K)|(with_reducible refine q15 ?_;intro K J hK hJ;simp +decide only[go_sem,reduceAdd,reduceMul,reduceSub,e1,e2,e3,hi,g1,g2,hm,u1,u2,ci,hk2,w1,w2,at0,at1,hx,hy,hq,y1,y2,l1,z0,z1];(with_reducible first|refine hK ?_|refine hJ ?_);clear hK hJ K J))
        cases a1 : (anyEq p.c.items (idxL t))
        · repeat (first|(with_reducible first|refine q1 ?_|refine q2 ?_|refine q3 ?_|refine q4 ?_|refine q5 ?_|refine q6 ?_|refine q7 ?_|refine q8 ?_|refine q9 ?_|refine q10 ?_|refine q11 ?_|refine q12 (by decide) ?_)|((first|with_reducible refine q13 ?_|((with_reducible refine q14 ?_ ?_);focus exact rfl));intro K hK;simp +decide only[go_sem,reduceAdd,reduceMul,reduceSub,e1,e2,e3,hi,g1,g2,hm,u1,u2,ci,hk2,w1,w2,at0,at1,hx,hy,hq,y1,y2,l1,z0,z1,a1];with_reducible refine hK _ ?_;clear hK K)|(with_reducible refine q15 ?_;intro K J hK hJ;simp +decide only[go_sem,reduceAdd,reduceMul,reduceSub,e1,e2,e3,hi,g1,g2,hm,u1,u2,ci,hk2,w1,w2,at0,at1,hx,hy,hq,y1,y2,l1,z0,z1,a1];(with_reducible first|refine hK ?_|refine hJ ?_);clear hK hJ K J))
          simp +decide only[go_sem,reduceAdd,reduceMul,reduceSub,e1,e2,e3,hi,g1,g2,hm,u1,u2,ci,hk2,w1,w2,at0,at1,hx,hy,hq,y1,y2,l1,z0,z1,a1]
          first | done | exact ⟨rfl, trivial⟩ | trivial
        · repeat (first|(with_reducible first|refine q1 ?_|refine q2 ?_|refine q3 ?_|refine q4 ?_|refine q5 ?_|refine q6 ?_|refine q7 ?_|refine q8 ?_|refine q9 ?_|refine q10 ?_|refine q11 ?_|refine q12 (by decide) ?_)|((first|with_reducible refine q13 ?_|((with_reducible refine q14 ?_ ?_);focus exact rfl));intro K hK;simp +decide only[go_sem,reduceAdd,reduceMul,reduceSub,e1,e2,e3,hi,g1,g2,hm,u1,u2,ci,hk2,w1,w2,at0,at1,hx,hy,hq,y1,y2,l1,z0,z1,a1];with_reducible refine hK _ ?_;clear hK K)|(with_reducible refine q15 ?_;intro K J hK hJ;simp +decide only[go_sem,reduceAdd,reduceMul,reduceSub,e1,e2,e3,hi,g1,g2,hm,u1,u2,ci,hk2,w1,w2,at0,at1,hx,hy,hq,y1,y2,l1,z0,z1,a1];(with_reducible first|refine hK ?_|refine hJ ?_);clear hK hJ K J))
          simp +decide only[go_sem,reduceAdd,reduceMul,reduceSub,e1,e2,e3,hi,g1,g2,hm,u1,u2,ci,hk2,w1,w2,at0,at1,hx,hy,hq,y1,y2,l1,z0,z1,a1]
          first | done | exact ⟨rfl, trivial⟩ | trivial
  · have l1 : ((i : Int) < (cnt.items.length : Int)) = False := eq_false (by omega)
    obtain rfl : n = 0 := hcn h
    repeat (first|(with_reducible first|refine q1 ?_|refine q2 ?_|refine q3 ?_|refine q4 ?_|refine q5 ?_|refine q6 ?_|refine q7 ?_|refine q8 ?_|refine q9 ?_|refine q10 ?_|refine q11 ?_|refine q12 (by decide) ?_)|((first|with_reducible refine q13 ?_|((with_reducible refine q14 ?_ ?_);focus exact rfl));intro K hK;simp +decide only[go_sem,reduceAdd,reduceMul,reduceSub,e1,e2,e3,hi,g1,g2,hm,u1,u2,ci,hk2,w1,w2,at0,at1,hx,hy,l1];with_reducible refine hK _ ?_;clear hK K)|(with_reducible refine q15 ?_;intro K J hK hJ;simp +decide only[go_sem,reduceAdd,reduceMul,reduceSub,e1,e2,e3,hi,g1,g2,hm,u1,u2,ci,hk2,w1,w2,at0,at1,hx,hy,l1];(with_reducible first|refine hK ?_|refine hJ ?_);clear hK hJ K J))
    cases z0 : (rx.a.1 != 0)
    · repeat (first|(with_reducible first|refine q1 ?_|refine q2 ?_|refine q3 ?_|refine q4 ?_|refine q5 ?_|refine q6 ?_|refine q7 ?_|refine q8 ?_|refine q9 ?_|refine q10 ?_|refine q11 ?_|refine q12 (by decide) ?_)|((first|with_reducible refine q13 ?_|((with_reducible refine q14 ?_ ?_);focus exact rfl));intro K hK;simp +decide only[go_sem,reduceAdd,reduceMul,reduceSub,e1,e2,e3,hi,g1,g2,hm,u1,u2,ci,hk2,w1,w2,at0,at1,hx,hy,l1,z0];with_reducible refine hK _ ?_;clear hK K)|(with_reducible refine q15 ?_;intro K J hK hJ;simp +decide only[go_sem,reduceAdd,reduceMul,reduceSub,e1,e2,e3,hi,g1,g2,hm,u1,u2,ci,hk2,w1,w2,at0,at1,hx,hy,l1,z0];(with_reducible first|refine hK ?_|refine hJ ?_);clear hK hJ K J))
      cases a1 : (anyEq p.c.items (idxL t))
      · repeat (first|(with_reducible first|refine q1 ?_|refine q2 ?_|refine q3 ?_|refine q4 ?_|refine q5 ?_|refine q6 ?_|refine q7 ?_|refine q8 ?_|refine q9 ?_|refine q10 ?_|refine q11 ?_|refine q12 (by decide) ?_)|((first|with_reducible refine q13 ?_|((with_reducible refine q14 ?_ ?_);focus exact rfl));intro K hK;simp +decide only[go_sem,reduceAdd,reduceMul,reduceSub,e1,e2,e3,hi,g1,g2,hm,u1,u2,ci,hk2,w1,w2,at0,at1,hx,hy,l1,z0,a1];with_reducible refine hK _ ?_;clear hK K)|(with_reducible refine q15 ?_;intro K J hK hJ;simp +decide only[go_sem,reduceAdd,reduceMul,reduceSub,e1,e2,e3,hi,g1,g2,hm,u1,u2,ci,hk2,w1,w2,at0,at1,hx,hy,l1,z0,a1];(with_reducible first|refine hK ?_|refine hJ ?_);clear hK hJ K J))
        simp +decide only[go_sem,reduceAdd,reduceMul,reduceSub,e1,e2,e3,hi,g1,g2,hm,u1,u2,ci,hk2,w1,w2,at0,at1,hx,hy,l1,z0,a1]
        first | done | exact ⟨rfl, trivial⟩ | trivial
      · repeat (first|(with_reducible first|refine q1 ?_|refine q2 ?_|refine q3 ?_|refine q4 ?_|refine q5 ?_|refine q6 ?_|refine q7 ?_|refine q8 ?_|refine q9 ?_|refine q10 ?_|refine q11 ?_|refine q12 (by decide) ?_)|((first|with_reducible refine q13 ?_|((with_reducible refine q14 ?_ ?_);focus exact rfl));intro K hK;simp +decide only[go_sem,reduceAdd,reduceMul,reduceSub,e1,e2,e3,hi,g1,g2,hm,u1,u2,ci,hk2,w1,w2,at0,at1,hx,hy,l1,z0,a1];with_reducible refine hK _ ?_;clear hK K)|(with_reducible refine q15 ?_;intro K J hK hJ;simp +decide only[go_sem,reduceAdd,reduceMul,reduceSub,e1,e2,e3,hi,g1,g2,hm,u1,u2,ci,hk2,w1,w2,at0,at1,hx,hy,l1,z0,a1];(with_reducible first|refine hK ?_|refine hJ ?_);clear hK hJ K J))
        simp +decide only[go_sem,reduceAdd,reduceMul,reduceSub,e1,e2,e3,hi,g1,g2,hm,u1,u2,ci,hk2,w1,w2,at0,at1,hx,hy,l1,z0,a1]
        first | done | exact ⟨rfl, trivial⟩ | trivial
    · repeat (first|(with_reducible first|refine q1 ?_|refine q2 ?_|refine q3 ?_|refine q4 ?_|refine q5 ?_|refine q6 ?_|refine q7 ?_|refine q8 ?_|refine q9 ?_|refine q10 ?_|refine q11 ?_|refine q12 (by decide) ?_)|((first|with_reducible refine q13 ?_|((with_reducible refine q14 ?_ ?_);focus exact rfl));intro K hK;simp +decide only[go_sem,reduceAdd,reduceMul,reduceSub,e1,e2,e3,hi,g1,g2,hm,u1,u2,ci,hk2,w1,w2,at0,at1,hx,hy,l1,z0];with_reducible refine hK _ ?_;clear hK K)|(with_reducible refine q15 ?_;intro K J hK hJ;simp +decide only[go_sem,reduceAdd,reduceMul,reduceSub,e1,e2,e3,hi,g1,g2,hm,u1,u2,ci,hk2,w1,w2,at0,at1,hx,hy,l1,z0];(with_reducible first|refine hK ?_|refine hJ ?_);clear hK hJ K J))
      cases z1 : (ry.a.1 != 0)
      · repeat (first|(with_reducible first|refine q1 ?_|refine q2 ?_|refine q3 ?_|refine q4 ?_|refine q5 ?_|refine q6 ?_|refine q7 ?_|refine q8 ?_|refine q9 ?_|refine q10 ?_|refine q11 ?_|refine q12 (by decide) ?_)|((first|with_reducible refine q13 ?_|((with_reducible refine q14 ?_ ?_);focus exact rfl));intro K hK;simp +decide only[go_sem,reduceAdd,reduceMul,reduceSub,e1,e2,e3,hi,g1,g2,hm,u1,u2,ci,hk2,w1,w2,at0,at1,hx,hy,l1,z0,z1];with_reducible refine hK _ ?_;clear hK K)|(with_reducible refine q15 ?_;intro K J hK hJ;simp +decide only[go_sem,reduceAdd,reduceMul,reduceSub,e1,e2,e3,hi,g1,g2,hm,u1,u2,ci,hk2,w1,w2,at0,at1,hx,hy,l1,z0,z1];(with_reducible first|refine hK ?_|refine hJ ?_);clear hK hJ K J))
        cases a1 : (anyEq p.c.items (idxL t))
        · repeat (first|(with_reducible first|refine q1 ?_|refine q2 ?_|refine q3 ?_|refine q4 ?_|refine q5 ?_|refine q6 ?_|refine q7 ?_|refine q8 ?_|refine q9 ?_|refine q10 ?_|refine q11 ?_|refine q12 (by decide) ?_)|((first|with_reducible refine q13 ?_|((with_reducible refine q14 ?_ ?_);focus exact rfl));intro K hK;simp +decide only[go_sem,reduceAdd,reduceMul,reduceSub,e1,e2,e3,hi,g1,g2,hm,u1,u2,ci,hk2,w1,w2,at0,at1,hx,hy,l1,z0,z1,a1];with_reducible refine hK _ ?_;clear hK K)|(with_reducible refine q15 ?_;intro K J hK hJ;simp +decide only[go_sem,reduceAdd,reduceMul,reduceSub,e1,e2,e3,hi,g1,g2,hm,u1,u2,ci,hk2,w1,w2,at0,at1,hx,hy,l1,z0,z1,a1];(with_reducible first|refine hK ?_|refine hJ ?_);clear hK hJ K J))
          simp +decide only[go_sem,reduceAdd,reduceMul,reduceSub,e1,e2,e3,hi,g1,g2,hm,u1,u2,ci,hk2,w1,w2,at0,at1,hx,hy,l1,z0,z1,a1]
          first | done | exact ⟨rfl, trivial⟩ | trivial
        · repeat (first|(with_reducible first|refine q1 ?_|refine q2 ?_|refine q3 ?_|refine q4 ?_|refine q5 ?_|refine q6 ?_|refine q7 ?_|refine q8 ?_|refine q9 ?_|refine q10 ?_|refine q11 ?_|refine q12 (by decide) ?_)|((first|with_reducible refine q13 ?_|((with_reducible refine q14 ?_ ?_);focus exact rfl));intro K hK;simp +decide only[go_sem,reduceAdd,reduceMul,reduceSub,e1,e2,e3,hi,g1,g2,hm,u1,u2,ci,hk2,w1,w2,at0,at1,hx,hy,l1,z0,z1,a1];with_reducible refine hK _ ?_;clear hK K)|(with_reducible refine q15 ?_;intro K J hK hJ;simp +decide only[go_sem,reduceAdd,reduceMul,reduceSub,e1,e2,e3,hi,g1,g2,hm,u1,u2,ci,hk2,w1,w2,at0,at1,hx,hy,l1,z0,z1,a1];(with_reducible first|refine hK ?_|refine hJ ?_);clear hK hJ K J))
          simp +decide only[go_sem,reduceAdd,reduceMul,reduceSub,e1,e2,e3,hi,g1,g2,hm,u1,u2,ci,hk2,w1,w2,at0,at1,hx,hy,l1,z0,z1,a1]
          first | done | exact ⟨rfl, trivial⟩ | trivial
      · repeat (first|(with_reducible first|refine q1 ?_|refine q2 ?_|refine q3 ?_|refine q4 ?_|refine q5 ?_|refine q6 ?_|refine q7 ?_|refine q8 ?_|refine q9 ?_|refine q10 ?_|refine q11 ?_|refine q12 (by decide) ?_)|((first|with_reducible refine q13 ?_|((with_reducible refine q14 ?_ ?_);focus exact rfl));intro K hK;simp +decide only[go_sem,reduceAdd,reduceMul,reduceSub,e1,e2,e3,hi,g1,g2,hm,u1,u2,ci,hk2,w1,w2,at0,at1,hx,hy,l1,z0,z1];with_reducible refine hK _ ?_;clear hK K)|(with_reducible refine q15 ?_;intro K J hK hJ;simp +decide only[go_sem,reduceAdd,reduceMul,reduceSub,e1,e2,e3,hi,g1,g2,hm,u1,u2,ci,hk2,w1,w2,at0,at1,hx,hy,l1,z0,z1];(with_reducible first|refine hK ?_|refine hJ ?_);clear hK hJ K J))
        cases a1 : (anyEq p.c.items (idxL t))
        · repeat (first|(with_reducible first|refine q1 ?_|refine q2 ?_|refine q3 ?_|refine q4 ?_|refine q5 ?_|refine q6 ?_|refine q7 ?_|refine q8 ?_|refine q9 ?_|refine q10 ?_|refine q11 ?_|refine q12 (by decide) ?_)|((first|with_reducible refine q13 ?_|((with_reducible refine q14 ?_ ?_);focus exact rfl));intro K hK;simp +decide only[go_sem,reduceAdd,reduceMul,reduceSub,e1,e2,e3,hi,g1,g2,hm,u1,u2,ci,hk2,w1,w2,at0,at1,hx,hy,l1,z0,z1,a1];with_reducible refine hK _ ?_;clear hK K)|(with_reducible refine q15 ?_;intro K J hK hJ;simp +decide only[go_sem,reduceAdd,reduceMul,reduceSub,e1,e2,e3,hi,g1,g2,hm,u1,u2,ci,hk2,w1,w2,at0,at1,hx,hy,l1,z0,z1,a1];(with_reducible first|refine hK ?_|refine hJ ?_);clear hK hJ K J))
          simp +decide only[go_sem,reduceAdd,reduceMul,reduceSub,e1,e2,e3,hi,g1,g2,hm,u1,u2,ci,hk2,w1,w2,at0,at1,hx,hy,l1,z0,z1,a1]
          first | done | exact ⟨rfl, trivial⟩ | trivial
        · repeat (first|(with_reducible first|refine q1 ?_|refine q2 ?_|refine q3 ?_|refine q4 ?_|refine q5 ?_|refine q6 ?_|refine q7 ?_|refine q8 ?_|refine q9 ?_|refine q10 ?_|refine q11 ?_|refine q12 (by decide) ?_)|((first|with_reducible refine q13 ?_|((with_reducible refine q14 ?_ ?_);focus exact rfl));intro K hK;simp +decide only[go_sem,reduceAdd,reduceMul,reduceSub,e1,e2,e3,hi,g1,g2,hm,u1,u2,ci,hk2,w1,w2,at0,at1,hx,hy,l1,z0,z1,a1];with_reducible refine hK _ ?_;clear hK K)|(with_reducible refine q15 ?_;intro K J hK hJ;simp +decide only[go_sem,reduceAdd,reduceMul,reduceSub,e1,e2,e3,hi,g1,g2,hm,u1,u2,ci,hk2,w1,w2,at0,at1,hx,hy,l1,z0,z1,a1];(with_reducible first|refine hK ?_|refine hJ ?_);clear hK hJ K J))
          simp +decide only[go_sem,reduceAdd,reduceMul,reduceSub,e1,e2,e3,hi,g1,g2,hm,u1,u2,ci,hk2,w1,w2,at0,at1,hx,hy,l1,z0,z1,a1]
          first | done | exact ⟨rfl, trivial⟩ | trivial
end
end Go.Eng
