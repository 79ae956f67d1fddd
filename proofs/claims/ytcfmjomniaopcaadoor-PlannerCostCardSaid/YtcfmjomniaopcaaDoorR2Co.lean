/- A part of the proof: see the last text. -/
import Derived.Test.YtcfmjomniaopcaaDoorKR2Cp
import Derived.Test.YtcfmjomniaopcaaDoorR2Eqs
set_option linter.unusedSimpArgs false
set_option linter.unusedVariables false
/- The reference's estimate of a range. -/
namespace Go.Eng
open Go Go.Proofs
open Nat (reduceAdd reduceMul reduceSub)
set_option maxRecDepth 20000
set_option maxHeartbeats 32000000
attribute [local irreducible] wpI endP
def anyEq (cols : List I64) (s : List (Sl I64)) : Bool := s.any fun k => eqI k.items cols
def rngR (a b n : Int) : Int := bif a != 0 && b != 0 then upF n 5 else upF n 3
def rngC (t : Tbl) (cols : List I64) (a b n : Int) : Int := bif anyEq cols (idxL t) then rngR a b n + 1 else n
theorem rngR_le {a b n : Int} (h : 0 ≤ n) : 0 ≤ rngR a b n ∧ rngR a b n ≤ n := by
  have b1 := upF_le (b := 5) h (by omega)
  have b2 := upF_le (b := 3) h (by omega)
  unfold rngR; cases (a != 0 && b != 0) <;> simp only [cond_true, cond_false] <;> assumption
theorem eqI_one (k : List I64) (c : I64) : eqI k [c] = true ↔ ∃ x, k = [x] ∧ x.1 = c.1 := by
  match k with
  | [] => simp [eqI, eqF]
  | [x] => simp [eqI, eqF]
  | _ :: _ :: _ => simp [eqI, eqF]
theorem anyTakeL {α : Type} {l : List α} {k : Nat} {x : α} {p : α → Bool} (h : l[k]? = some x) : (l.take (k + 1)).any p = ((l.take k).any p || p x) := by
  rw [List.take_add_one, h, List.any_append]; simp
section
variable (s : Sl Tbl) (b : Bnd) (W : List Nat) (cnt : Sl I64)
theorem est_rng (p : PlR) (hk : p.k.1 = 3) (i : Nat) (v : I64) (t : Tbl) (hi : p.s.1 = i) (g1 : b.tabs.items[i]? = some v) (g2 : atI s.items v.1 = some t) (h1 : t.keys.items.length ≤ 10) (h2 : t.fgns.items.length ≤ 10)
    (c : I64) (hc : p.c.items = [c]) (x y : Ex) (rx ry : ExR) (he : p.e.items = [x, y]) (hx : encEx x = rx.enc) (hy : encEx y = ry.enc) :
    callP (XG GK) TT 34 [sl 5 encTbl s, encBnd b, p.enc, sl 1 I cnt] = some (.tuple [.int .i64 (rngR rx.a.1 ry.a.1 (cntF cnt.items i)), .int .i64 (rngC t p.c.items rx.a.1 ry.a.1 (cntF cnt.items i))]) := by
  have e4 : (p.k.1 == 4) = false := int_ne (by omega)
  have e5 : (p.k.1 == 5) = false := int_ne (by omega)
  have e2 : (p.k.1 == 2) = false := int_ne (by omega)
  have e3 := int_eq hk
  have c1 := count75 (G := GK) cnt i
  obtain ⟨n0, n1⟩ := cntF_le cnt.items i
  have br := rngR_le (a := rx.a.1) (b := ry.a.1) n0
  unfold rngC
  generalize cntF cnt.items i = n at *
  have u1 := up73 (G := GK) n 3 n0 (by omega) (by omega) (by omega)
  have u2 := up73 (G := GK) n 5 n0 (by omega) (by omega) (by omega)
  obtain ⟨ix, hix, ci⟩ := idx77 (G := GK) t h1 h2
  have at0 : atI p.e.items 0 = some x := by rw [he]; rfl
  have at1 : atI p.e.items 1 = some y := by rw [he]; rfl
  have ac : atI p.c.items 0 = some c := by rw [hc]; rfl
  have hxl := ix.lt
  have w1 := wrap_fit (rngR rx.a.1 ry.a.1 n + 1) (by omega)
  simp only [ExR_eq] at hx hy
  have hgo : ∀ R : Int, callP (XG GK) TT 34 [sl 5 encTbl s, encBnd b, p.enc, sl 1 I cnt] = some (.tuple [.int .i64 R, .int .i64 (bif anyEq p.c.items (idxL t) then R + 1 else n)]) → R = rngR rx.a.1 ry.a.1 n → callP (XG GK) TT 34 [sl 5 encTbl s, encBnd b, p.enc, sl 1 I cnt] = some (.tuple [.int .i64 (rngR rx.a.1 ry.a.1 n), .int .i64 (bif anyEq p.c.items (idxL t) then rngR rx.a.1 ry.a.1 n + 1 else n)]) := fun R h e => by rw [← e]; exact h
  have main : ∀ R : Int, R = rngR rx.a.1 ry.a.1 n → ((rx.a.1 != 0) = true ∧ (ry.a.1 != 0) = true ∧ R = upF n 5 ∨ (rx.a.1 != 0) = true ∧ (ry.a.1 != 0) = false ∧ R = upF n 3 ∨ (rx.a.1 != 0) = false ∧ R = upF n 3) → callP (XG GK) TT 34 [sl 5 encTbl s, encBnd b, p.enc, sl 1 I cnt] = some (.tuple [.int .i64 R, .int .i64 (bif anyEq p.c.items (idxL t) then R + 1 else n)]) := by
    intro R hR hcase
    rw [← hR] at w1
    have fin : anyEq p.c.items ix.items = anyEq p.c.items (idxL t) := by rw [hix]
    rw [← fin]
    simp only [encTbl_eq] at ci
    refine callP_val T34 rfl (by simp only [go_sem]) ?_
    unfold Tryd.f34
    simp only [Option.getD_some]
    rcases hcase with ⟨z0, z1, rfl⟩ | ⟨z0, z1, rfl⟩ | ⟨z0, rfl⟩
    · skip
      simp +decide only[go_sem,reduceAdd,reduceMul,reduceSub,e4,e5,e2,e3,c1,hi,g1,g2,u1,u2,ci,at0,at1,hx,hy,ac,w1,z0,z1]
      repeat (first|(with_reducible first|refine q1 ?_|refine q2 ?_|refine q3 ?_|refine q4 ?_|refine q5 ?_|refine q6 ?_|refine q7 ?_|refine q8 ?_|refine q9 ?_|refine q10 ?_|refine q11 ?_|refine q12 (by decide) ?_)|((first|with_reducible refine q13 ?_|((with_reducible refine q14 ?_ ?_);focus exact rfl));intro K hK;simp +decide only[go_sem,reduceAdd,reduceMul,reduceSub,e4,e5,e2,e3,c1,hi,g1,g2,u1,u2,ci,at0,at1,hx,hy,ac,w1,z0,z1];with_reducible refine hK _ ?_;clear hK K)|(with_reducible refine q15 ?_;intro K J hK hJ;simp +decide only[go_sem,reduceAdd,reduceMul,reduceSub,e4,e5,e2,e3,c1,hi,g1,g2,u1,u2,ci,at0,at1,hx,hy,ac,w1,z0,z1];(with_reducible first|refine hK ?_|refine hJ ?_);clear hK hJ K J))
      refine wpI_loopC (T := Nat) [6, 17, 19, 20, 21, 22] rfl (by simp +decide only[go_sem,reduceAdd,reduceMul,reduceSub,e4,e5,e2,e3,c1,hi,g1,g2,u1,u2,ci,at0,at1,hx,hy,ac,w1,z0,z1]; exact rfl) (fun k => [(22, .int .i64 (k : Int)), (20, .bool (anyEq p.c.items (ix.items.take k)))]) (fun _ => []) (fun _ => ⟨[], []⟩) (fun k => k ≤ ix.items.length) (fun k => ix.items.length - k) 0 (by simp +decide only[go_sem,reduceAdd,reduceMul,reduceSub,e4,e5,e2,e3,c1,hi,g1,g2,u1,u2,ci,at0,at1,hx,hy,ac,w1,z0,z1] <;> rfl) (by simp) ?_
      rintro k hk
      by_cases h : k < ix.items.length
      · have l_z : ((k : Int) < ((ix.items).length : Int)) = True := by simp; omega
        obtain ⟨z, g_z⟩ : ∃ a_, (ix.items)[k]? = some a_ := ⟨_, List.getElem?_eq_getElem (by assumption)⟩
        have w_z := wrap_nat k (by omega)
        have ea : anyEq p.c.items (ix.items.take (k + 1)) = (anyEq p.c.items (ix.items.take k) || eqI z.items p.c.items) := anyTakeL g_z
        cases a0 : (anyEq p.c.items (ix.items.take k))
        · rw [a0, Bool.false_or] at ea
          cases a1 : ((z.items.length : Int) == 1)
          · have en : eqI z.items p.c.items = false := by
              rw [hc]; cases hq : eqI z.items [c] with
              | false => rfl
              | true => obtain ⟨q, hz, _⟩ := (eqI_one _ _).1 hq; rw [hz] at a1; cases a1
            rw [en] at ea
            repeat (first|(with_reducible first|refine q1 ?_|refine q2 ?_|refine q3 ?_|refine q4 ?_|refine q5 ?_|refine q6 ?_|refine q7 ?_|refine q8 ?_|refine q9 ?_|refine q10 ?_|refine q11 ?_|refine q12 (by decide) ?_)|((first|with_reducible refine q13 ?_|((with_reducible refine q14 ?_ ?_);focus exact rfl));intro K hK;simp +decide only[go_sem,reduceAdd,reduceMul,reduceSub,e4,e5,e2,e3,c1,hi,g1,g2,u1,u2,ci,at0,at1,hx,hy,ac,w1,z0,z1,l_z,g_z,w_z,a0,a1];with_reducible refine hK _ ?_;clear hK K)|(with_reducible refine q15 ?_;intro K J hK hJ;simp +decide only[go_sem,reduceAdd,reduceMul,reduceSub,e4,e5,e2,e3,c1,hi,g1,g2,u1,u2,ci,at0,at1,hx,hy,ac,w1,z0,z1,l_z,g_z,w_z,a0,a1];(with_reducible first|refine hK ?_|refine hJ ?_);clear hK hJ K J))
            exact ⟨k + 1, by simp +decide only[go_sem,reduceAdd,reduceMul,reduceSub,e4,e5,e2,e3,c1,hi,g1,g2,u1,u2,ci,at0,at1,hx,hy,ac,w1,z0,z1,l_z,g_z,w_z,a0,a1,ea] <;> rfl, by omega, by omega⟩
          · obtain ⟨q, hz⟩ := one_of (l := z.items) (by simp at a1; omega)
            have az : atI z.items 0 = some q := by rw [hz]; rfl
            have en : eqI z.items p.c.items = (q.1 == c.1) := by rw [hc, hz]; simp [eqI, eqF]
            rw [en] at ea
            repeat (first|(with_reducible first|refine q1 ?_|refine q2 ?_|refine q3 ?_|refine q4 ?_|refine q5 ?_|refine q6 ?_|refine q7 ?_|refine q8 ?_|refine q9 ?_|refine q10 ?_|refine q11 ?_|refine q12 (by decide) ?_)|((first|with_reducible refine q13 ?_|((with_reducible refine q14 ?_ ?_);focus exact rfl));intro K hK;simp +decide only[go_sem,reduceAdd,reduceMul,reduceSub,e4,e5,e2,e3,c1,hi,g1,g2,u1,u2,ci,at0,at1,hx,hy,ac,w1,z0,z1,l_z,g_z,w_z,a0,a1,az];with_reducible refine hK _ ?_;clear hK K)|(with_reducible refine q15 ?_;intro K J hK hJ;simp +decide only[go_sem,reduceAdd,reduceMul,reduceSub,e4,e5,e2,e3,c1,hi,g1,g2,u1,u2,ci,at0,at1,hx,hy,ac,w1,z0,z1,l_z,g_z,w_z,a0,a1,az];(with_reducible first|refine hK ?_|refine hJ ?_);clear hK hJ K J))
            exact ⟨k + 1, by simp +decide only[go_sem,reduceAdd,reduceMul,reduceSub,e4,e5,e2,e3,c1,hi,g1,g2,u1,u2,ci,at0,at1,hx,hy,ac,w1,z0,z1,l_z,g_z,w_z,a0,a1,az,ea] <;> rfl, by omega, by omega⟩
        · rw [a0, Bool.true_or] at ea
          repeat (first|(with_reducible first|refine q1 ?_|refine q2 ?_|refine q3 ?_|refine q4 ?_|refine q5 ?_|refine q6 ?_|refine q7 ?_|refine q8 ?_|refine q9 ?_|refine q10 ?_|refine q11 ?_|refine q12 (by decide) ?_)|((first|with_reducible refine q13 ?_|((with_reducible refine q14 ?_ ?_);focus exact rfl));intro K hK;simp +decide only[go_sem,reduceAdd,reduceMul,reduceSub,e4,e5,e2,e3,c1,hi,g1,g2,u1,u2,ci,at0,at1,hx,hy,ac,w1,z0,z1,l_z,g_z,w_z,a0];with_reducible refine hK _ ?_;clear hK K)|(with_reducible refine q15 ?_;intro K J hK hJ;simp +decide only[go_sem,reduceAdd,reduceMul,reduceSub,e4,e5,e2,e3,c1,hi,g1,g2,u1,u2,ci,at0,at1,hx,hy,ac,w1,z0,z1,l_z,g_z,w_z,a0];(with_reducible first|refine hK ?_|refine hJ ?_);clear hK hJ K J))
          exact ⟨k + 1, by simp +decide only[go_sem,reduceAdd,reduceMul,reduceSub,e4,e5,e2,e3,c1,hi,g1,g2,u1,u2,ci,at0,at1,hx,hy,ac,w1,z0,z1,l_z,g_z,w_z,a0,ea] <;> rfl, by omega, by omega⟩
      · have l_e1 : ((k : Int) < ((ix.items).length : Int)) = False := by simp; omega
        rw [List.take_of_length_le (by omega)]
        cases a0 : (anyEq p.c.items ix.items)
        · repeat (first|(with_reducible first|refine q1 ?_|refine q2 ?_|refine q3 ?_|refine q4 ?_|refine q5 ?_|refine q6 ?_|refine q7 ?_|refine q8 ?_|refine q9 ?_|refine q10 ?_|refine q11 ?_|refine q12 (by decide) ?_)|((first|with_reducible refine q13 ?_|((with_reducible refine q14 ?_ ?_);focus exact rfl));intro K hK;simp +decide only[go_sem,reduceAdd,reduceMul,reduceSub,e4,e5,e2,e3,c1,hi,g1,g2,u1,u2,ci,at0,at1,hx,hy,ac,w1,z0,z1,l_e1,a0];with_reducible refine hK _ ?_;clear hK K)|(with_reducible refine q15 ?_;intro K J hK hJ;simp +decide only[go_sem,reduceAdd,reduceMul,reduceSub,e4,e5,e2,e3,c1,hi,g1,g2,u1,u2,ci,at0,at1,hx,hy,ac,w1,z0,z1,l_e1,a0];(with_reducible first|refine hK ?_|refine hJ ?_);clear hK hJ K J))
          simp +decide only[go_sem,reduceAdd,reduceMul,reduceSub,e4,e5,e2,e3,c1,hi,g1,g2,u1,u2,ci,at0,at1,hx,hy,ac,w1,z0,z1,l_e1,a0]
        · repeat (first|(with_reducible first|refine q1 ?_|refine q2 ?_|refine q3 ?_|refine q4 ?_|refine q5 ?_|refine q6 ?_|refine q7 ?_|refine q8 ?_|refine q9 ?_|refine q10 ?_|refine q11 ?_|refine q12 (by decide) ?_)|((first|with_reducible refine q13 ?_|((with_reducible refine q14 ?_ ?_);focus exact rfl));intro K hK;simp +decide only[go_sem,reduceAdd,reduceMul,reduceSub,e4,e5,e2,e3,c1,hi,g1,g2,u1,u2,ci,at0,at1,hx,hy,ac,w1,z0,z1,l_e1,a0];with_reducible refine hK _ ?_;clear hK K)|(with_reducible refine q15 ?_;intro K J hK hJ;simp +decide only[go_sem,reduceAdd,reduceMul,reduceSub,e4,e5,e2,e3,c1,hi,g1,g2,u1,u2,ci,at0,at1,hx,hy,ac,w1,z0,z1,l_e1,a0];(with_reducible first|refine hK ?_|refine hJ ?_);clear hK hJ K J))
          simp +decide only[go_sem,reduceAdd,reduceMul,reduceSub,e4,e5,e2,e3,c1,hi,g1,g2,u1,u2,ci,at0,at1,hx,hy,ac,w1,z0,z1,l_e1,a0]
    · skip
      simp +decide only[go_sem,reduceAdd,reduceMul,reduceSub,e4,e5,e2,e3,c1,hi,g1,g2,u1,u2,ci,at0,at1,hx,hy,ac,w1,z0,z1]
      repeat (first|(with_reducible first|refine q1 ?_|refine q2 ?_|refine q3 ?_|refine q4 ?_|refine q5 ?_|refine q6 ?_|refine q7 ?_|refine q8 ?_|refine q9 ?_|refine q10 ?_|refine q11 ?_|refine q12 (by decide) ?_)|((first|with_reducible refine q13 ?_|((with_reducible refine q14 ?_ ?_);focus exact rfl));intro K hK;simp +decide only[go_sem,reduceAdd,reduceMul,reduceSub,e4,e5,e2,e3,c1,hi,g1,g2,u1,u2,ci,at0,at1,hx,hy,ac,w1,z0,z1];with_reducible refine hK _ ?_;clear hK K)|(with_reducible refine q15 ?_;intro K J hK hJ;simp +decide only[go_sem,reduceAdd,reduceMul,reduceSub,e4,e5,e2,e3,c1,hi,g1,g2,u1,u2,ci,at0,at1,hx,hy,ac,w1,z0,z1];(with_reducible first|refine hK ?_|refine hJ ?_);clear hK hJ K J))
      refine wpI_loopC (T := Nat) [6, 17, 19, 20, 21, 22] rfl (by simp +decide only[go_sem,reduceAdd,reduceMul,reduceSub,e4,e5,e2,e3,c1,hi,g1,g2,u1,u2,ci,at0,at1,hx,hy,ac,w1,z0,z1]; exact rfl) (fun k => [(22, .int .i64 (k : Int)), (20, .bool (anyEq p.c.items (ix.items.take k)))]) (fun _ => []) (fun _ => ⟨[], []⟩) (fun k => k ≤ ix.items.length) (fun k => ix.items.length - k) 0 (by simp +decide only[go_sem,reduceAdd,reduceMul,reduceSub,e4,e5,e2,e3,c1,hi,g1,g2,u1,u2,ci,at0,at1,hx,hy,ac,w1,z0,z1] <;> rfl) (by simp) ?_
      rintro k hk
      by_cases h : k < ix.items.length
      · have l_z : ((k : Int) < ((ix.items).length : Int)) = True := by simp; omega
        obtain ⟨z, g_z⟩ : ∃ a_, (ix.items)[k]? = some a_ := ⟨_, List.getElem?_eq_getElem (by assumption)⟩
        have w_z := wrap_nat k (by omega)
        have ea : anyEq p.c.items (ix.items.take (k + 1)) = (anyEq p.c.items (ix.items.take k) || eqI z.items p.c.items) := anyTakeL g_z
        cases a0 : (anyEq p.c.items (ix.items.take k))
        · rw [a0, Bool.false_or] at ea
          cases a1 : ((z.items.length : Int) == 1)
          · have en : eqI z.items p.c.items = false := by
              rw [hc]; cases hq : eqI z.items [c] with
              | false => rfl
              | true => obtain ⟨q, hz, _⟩ := (eqI_one _ _).1 hq; rw [hz] at a1; cases a1
            rw [en] at ea
            repeat (first|(with_reducible first|refine q1 ?_|refine q2 ?_|refine q3 ?_|refine q4 ?_|refine q5 ?_|refine q6 ?_|refine q7 ?_|refine q8 ?_|refine q9 ?_|refine q10 ?_|refine q11 ?_|refine q12 (by decide) ?_)|((first|with_reducible refine q13 ?_|((with_reducible refine q14 ?_ ?_);focus exact rfl));intro K hK;simp +decide only[go_sem,reduceAdd,reduceMul,reduceSub,e4,e5,e2,e3,c1,hi,g1,g2,u1,u2,ci,at0,at1,hx,hy,ac,w1,z0,z1,l_z,g_z,w_z,a0,a1];with_reducible refine hK _ ?_;clear hK K)|(with_reducible refine q15 ?_;intro K J hK hJ;simp +decide only[go_sem,reduceAdd,reduceMul,reduceSub,e4,e5,e2,e3,c1,hi,g1,g2,u1,u2,ci,at0,at1,hx,hy,ac,w1,z0,z1,l_z,g_z,w_z,a0,a1];(with_reducible first|refine hK ?_|refine hJ ?_);clear hK hJ K J))
            exact ⟨k + 1, by simp +decide only[go_sem,reduceAdd,reduceMul,reduceSub,e4,e5,e2,e3,c1,hi,g1,g2,u1,u2,ci,at0,at1,hx,hy,ac,w1,z0,z1,l_z,g_z,w_z,a0,a1,ea] <;> rfl, by omega, by omega⟩
          · obtain ⟨q, hz⟩ := one_of (l := z.items) (by simp at a1; omega)
            have az : atI z.items 0 = some q := by rw [hz]; rfl
            have en : eqI z.items p.c.items = (q.1 == c.1) := by rw [hc, hz]; simp [eqI, eqF]
            rw [en] at ea
            repeat (first|(with_reducible first|refine q1 ?_|refine q2 ?_|refine q3 ?_|refine q4 ?_|refine q5 ?_|refine q6 ?_|refine q7 ?_|refine q8 ?_|refine q9 ?_|refine q10 ?_|refine q11 ?_|refine q12 (by decide) ?_)|((first|with_reducible refine q13 ?_|((with_reducible refine q14 ?_ ?_);focus exact rfl));intro K hK;simp +decide only[go_sem,reduceAdd,reduceMul,reduceSub,e4,e5,e2,e3,c1,hi,g1,g2,u1,u2,ci,at0,at1,hx,hy,ac,w1,z0,z1,l_z,g_z,w_z,a0,a1,az];with_reducible refine hK _ ?_;clear hK K)|(with_reducible refine q15 ?_;intro K J hK hJ;simp +decide only[go_sem,reduceAdd,reduceMul,reduceSub,e4,e5,e2,e3,c1,hi,g1,g2,u1,u2,ci,at0,at1,hx,hy,ac,w1,z0,z1,l_z,g_z,w_z,a0,a1,az];(with_reducible first|refine hK ?_|refine hJ ?_);clear hK hJ K J))
            exact ⟨k + 1, by simp +decide only[go_sem,reduceAdd,reduceMul,reduceSub,e4,e5,e2,e3,c1,hi,g1,g2,u1,u2,ci,at0,at1,hx,hy,ac,w1,z0,z1,l_z,g_z,w_z,a0,a1,az,ea] <;> rfl, by omega, by omega⟩
        · rw [a0, Bool.true_or] at ea
          repeat (first|(with_reducible first|refine q1 ?_|refine q2 ?_|refine q3 ?_|refine q4 ?_|refine q5 ?_|refine q6 ?_|refine q7 ?_|refine q8 ?_|refine q9 ?_|refine q10 ?_|refine q11 ?_|refine q12 (by decide) ?_)|((first|with_reducible refine q13 ?_|((with_reducible refine q14 ?_ ?_);focus exact rfl));intro K hK;simp +decide only[go_sem,reduceAdd,reduceMul,reduceSub,e4,e5,e2,e3,c1,hi,g1,g2,u1,u2,ci,at0,at1,hx,hy,ac,w1,z0,z1,l_z,g_z,w_z,a0];with_reducible refine hK _ ?_;clear hK K)|(with_reducible refine q15 ?_;intro K J hK hJ;simp +decide only[go_sem,reduceAdd,reduceMul,reduceSub,e4,e5,e2,e3,c1,hi,g1,g2,u1,u2,ci,at0,at1,hx,hy,ac,w1,z0,z1,l_z,g_z,w_z,a0];(with_reducible first|refine hK ?_|refine hJ ?_);clear hK hJ K J))
          exact ⟨k + 1, by simp +decide only[go_sem,reduceAdd,reduceMul,reduceSub,e4,e5,e2,e3,c1,hi,g1,g2,u1,u2,ci,at0,at1,hx,hy,ac,w1,z0,z1,l_z,g_z,w_z,a0,ea] <;> rfl, by omega, by omega⟩
      · have l_e1 : ((k : Int) < ((ix.items).length : Int)) = False := by simp; omega
        rw [List.take_of_length_le (by omega)]
        cases a0 : (anyEq p.c.items ix.items)
        · repeat (first|(with_reducible first|refine q1 ?_|refine q2 ?_|refine q3 ?_|refine q4 ?_|refine q5 ?_|refine q6 ?_|refine q7 ?_|refine q8 ?_|refine q9 ?_|refine q10 ?_|refine q11 ?_|refine q12 (by decide) ?_)|((first|with_reducible refine q13 ?_|((with_reducible refine q14 ?_ ?_);focus exact rfl));intro K hK;simp +decide only[go_sem,reduceAdd,reduceMul,reduceSub,e4,e5,e2,e3,c1,hi,g1,g2,u1,u2,ci,at0,at1,hx,hy,ac,w1,z0,z1,l_e1,a0];with_reducible refine hK _ ?_;clear hK K)|(with_reducible refine q15 ?_;intro K J hK hJ;simp +decide only[go_sem,reduceAdd,reduceMul,reduceSub,e4,e5,e2,e3,c1,hi,g1,g2,u1,u2,ci,at0,at1,hx,hy,ac,w1,z0,z1,l_e1,a0];(with_reducible first|refine hK ?_|refine hJ ?_);clear hK hJ K J))
          simp +decide only[go_sem,reduceAdd,reduceMul,reduceSub,e4,e5,e2,e3,c1,hi,g1,g2,u1,u2,ci,at0,at1,hx,hy,ac,w1,z0,z1,l_e1,a0]
        · repeat (first|(with_reducible first|refine q1 ?_|refine q2 ?_|refine q3 ?_|refine q4 ?_|refine q5 ?_|refine q6 ?_|refine q7 ?_|refine q8 ?_|refine q9 ?_|refine q10 ?_|refine q11 ?_|refine q12 (by decide) ?_)|((first|with_reducible refine q13 ?_|((with_reducible refine q14 ?_ ?_);focus exact rfl));intro K hK;simp +decide only[go_sem,reduceAdd,reduceMul,reduceSub,e4,e5,e2,e3,c1,hi,g1,g2,u1,u2,ci,at0,at1,hx,hy,ac,w1,z0,z1,l_e1,a0];with_reducible refine hK _ ?_;clear hK K)|(with_reducible refine q15 ?_;intro K J hK hJ;simp +decide only[go_sem,reduceAdd,reduceMul,reduceSub,e4,e5,e2,e3,c1,hi,g1,g2,u1,u2,ci,at0,at1,hx,hy,ac,w1,z0,z1,l_e1,a0];(with_reducible first|refine hK ?_|refine hJ ?_);clear hK hJ K J))
          simp +decide only[go_sem,reduceAdd,reduceMul,reduceSub,e4,e5,e2,e3,c1,hi,g1,g2,u1,u2,ci,at0,at1,hx,hy,ac,w1,z0,z1,l_e1,a0]
    · skip
      simp +decide only[go_sem,reduceAdd,reduceMul,reduceSub,e4,e5,e2,e3,c1,hi,g1,g2,u1,u2,ci,at0,at1,hx,hy,ac,w1,z0]
      repeat (first|(with_reducible first|refine q1 ?_|refine q2 ?_|refine q3 ?_|refine q4 ?_|refine q5 ?_|refine q6 ?_|refine q7 ?_|refine q8 ?_|refine q9 ?_|refine q10 ?_|refine q11 ?_|refine q12 (by decide) ?_)|((first|with_reducible refine q13 ?_|((with_reducible refine q14 ?_ ?_);focus exact rfl));intro K hK;simp +decide only[go_sem,reduceAdd,reduceMul,reduceSub,e4,e5,e2,e3,c1,hi,g1,g2,u1,u2,ci,at0,at1,hx,hy,ac,w1,z0];with_reducible refine hK _ ?_;clear hK K)|(with_reducible refine q15 ?_;intro K J hK hJ;simp +decide only[go_sem,reduceAdd,reduceMul,reduceSub,e4,e5,e2,e3,c1,hi,g1,g2,u1,u2,ci,at0,at1,hx,hy,ac,w1,z0];(with_reducible first|refine hK ?_|refine hJ ?_);clear hK hJ K J))
      refine wpI_loopC (T := Nat) [6, 17, 19, 20, 21, 22] rfl (by simp +decide only[go_sem,reduceAdd,reduceMul,reduceSub,e4,e5,e2,e3,c1,hi,g1,g2,u1,u2,ci,at0,at1,hx,hy,ac,w1,z0]; exact rfl) (fun k => [(22, .int .i64 (k : Int)), (20, .bool (anyEq p.c.items (ix.items.take k)))]) (fun _ => []) (fun _ => ⟨[], []⟩) (fun k => k ≤ ix.items.length) (fun k => ix.items.length - k) 0 (by simp +decide only[go_sem,reduceAdd,reduceMul,reduceSub,e4,e5,e2,e3,c1,hi,g1,g2,u1,u2,ci,at0,at1,hx,hy,ac,w1,z0] <;> rfl) (by simp) ?_
      rintro k hk
      by_cases h : k < ix.items.length
      · have l_z : ((k : Int) < ((ix.items).length : Int)) = True := by simp; omega
        obtain ⟨z, g_z⟩ : ∃ a_, (ix.items)[k]? = some a_ := ⟨_, List.getElem?_eq_getElem (by assumption)⟩
        have w_z := wrap_nat k (by omega)
        have ea : anyEq p.c.items (ix.items.take (k + 1)) = (anyEq p.c.items (ix.items.take k) || eqI z.items p.c.items) := anyTakeL g_z
        cases a0 : (anyEq p.c.items (ix.items.take k))
        · rw [a0, Bool.false_or] at ea
          cases a1 : ((z.items.length : Int) == 1)
          · have en : eqI z.items p.c.items = false := by
              rw [hc]; cases hq : eqI z.items [c] with
              | false => rfl
              | true => obtain ⟨q, hz, _⟩ := (eqI_one _ _).1 hq; rw [hz] at a1; cases a1
            rw [en] at ea
            repeat (first|(with_reducible first|refine q1 ?_|refine q2 ?_|refine q3 ?_|refine q4 ?_|refine q5 ?_|refine q6 ?_|refine q7 ?_|refine q8 ?_|refine q9 ?_|refine q10 ?_|refine q11 ?_|refine q12 (by decide) ?_)|((first|with_reducible refine q13 ?_|((with_reducible refine q14 ?_ ?_);focus exact rfl));intro K hK;simp +decide only[go_sem,reduceAdd,reduceMul,reduceSub,e4,e5,e2,e3,c1,hi,g1,g2,u1,u2,ci,at0,at1,hx,hy,ac,w1,z0,l_z,g_z,w_z,a0,a1];with_reducible refine hK _ ?_;clear hK K)|(with_reducible refine q15 ?_;intro K J hK hJ;simp +decide only[go_sem,reduceAdd,reduceMul,reduceSub,e4,e5,e2,e3,c1,hi,g1,g2,u1,u2,ci,at0,at1,hx,hy,ac,w1,z0,l_z,g_z,w_z,a0,a1];(with_reducible first|refine hK ?_|refine hJ ?_);clear hK hJ K J))
            exact ⟨k + 1, by simp +decide only[go_sem,reduceAdd,reduceMul,reduceSub,e4,e5,e2,e3,c1,hi,g1,g2,u1,u2,ci,at0,at1,hx,hy,ac,w1,z0,l_z,g_z,w_z,a0,a1,ea] <;> rfl, by omega, by omega⟩
          · obtain ⟨q, hz⟩ := one_of (l := z.items) (by simp at a1; omega)
            have az : atI z.items 0 = some q := by rw [hz]; rfl
            have en : eqI z.items p.c.items = (q.1 == c.1) := by rw [hc, hz]; simp [eqI, eqF]
            rw [en] at ea
            repeat (first|(with_reducible first|refine q1 ?_|refine q2 ?_|refine q3 ?_|refine q4 ?_|refine q5 ?_|refine q6 ?_|refine q7 ?_|refine q8 ?_|refine q9 ?_|refine q10 ?_|refine q11 ?_|refine q12 (by decide) ?_)|((first|with_reducible refine q13 ?_|((with_reducible refine q14 ?_ ?_);focus exact rfl));intro K hK;simp +decide only[go_sem,reduceAdd,reduceMul,reduceSub,e4,e5,e2,e3,c1,hi,g1,g2,u1,u2,ci,at0,at1,hx,hy,ac,w1,z0,l_z,g_z,w_z,a0,a1,az];with_reducible refine hK _ ?_;clear hK K)|(with_reducible refine q15 ?_;intro K J hK hJ;simp +decide only[go_sem,reduceAdd,reduceMul,reduceSub,e4,e5,e2,e3,c1,hi,g1,g2,u1,u2,ci,at0,at1,hx,hy,ac,w1,z0,l_z,g_z,w_z,a0,a1,az];(with_reducible first|refine hK ?_|refine hJ ?_);clear hK hJ K J))
            exact ⟨k + 1, by simp +decide only[go_sem,reduceAdd,reduceMul,reduceSub,e4,e5,e2,e3,c1,hi,g1,g2,u1,u2,ci,at0,at1,hx,hy,ac,w1,z0,l_z,g_z,w_z,a0,a1,az,ea] <;> rfl, by omega, by omega⟩
        · rw [a0, Bool.true_or] at ea
          repeat (first|(with_reducible first|refine q1 ?_|refine q2 ?_|refine q3 ?_|refine q4 ?_|refine q5 ?_|refine q6 ?_|refine q7 ?_|refine q8 ?_|refine q9 ?_|refine q10 ?_|refine q11 ?_|refine q12 (by decide) ?_)|((first|with_reducible refine q13 ?_|((with_reducible refine q14 ?_ ?_);focus exact rfl));intro K hK;simp +decide only[go_sem,reduceAdd,reduceMul,reduceSub,e4,e5,e2,e3,c1,hi,g1,g2,u1,u2,ci,at0,at1,hx,hy,ac,w1,z0,l_z,g_z,w_z,a0];with_reducible refine hK _ ?_;clear hK K)|(with_reducible refine q15 ?_;intro K J hK hJ;simp +decide only[go_sem,reduceAdd,reduceMul,reduceSub,e4,e5,e2,e3,c1,hi,g1,g2,u1,u2,ci,at0,at1,hx,hy,ac,w1,z0,l_z,g_z,w_z,a0];(with_reducible first|refine hK ?_|refine hJ ?_);clear hK hJ K J))
          exact ⟨k + 1, by simp +decide only[go_sem,reduceAdd,reduceMul,reduceSub,e4,e5,e2,e3,c1,hi,g1,g2,u1,u2,ci,at0,at1,hx,hy,ac,w1,z0,l_z,g_z,w_z,a0,ea] <;> rfl, by omega, by omega⟩
      · have l_e1 : ((k : Int) < ((ix.items).length : Int)) = False := by simp; omega
        rw [List.take_of_length_le (by omega)]
        cases a0 : (anyEq p.c.items ix.items)
        · repeat (first|(with_reducible first|refine q1 ?_|refine q2 ?_|refine q3 ?_|refine q4 ?_|refine q5 ?_|refine q6 ?_|refine q7 ?_|refine q8 ?_|refine q9 ?_|refine q10 ?_|refine q11 ?_|refine q12 (by decide) ?_)|((first|with_reducible refine q13 ?_|((with_reducible refine q14 ?_ ?_);focus exact rfl));intro K hK;simp +decide only[go_sem,reduceAdd,reduceMul,reduceSub,e4,e5,e2,e3,c1,hi,g1,g2,u1,u2,ci,at0,at1,hx,hy,ac,w1,z0,l_e1,a0];with_reducible refine hK _ ?_;clear hK K)|(with_reducible refine q15 ?_;intro K J hK hJ;simp +decide only[go_sem,reduceAdd,reduceMul,reduceSub,e4,e5,e2,e3,c1,hi,g1,g2,u1,u2,ci,at0,at1,hx,hy,ac,w1,z0,l_e1,a0];(with_reducible first|refine hK ?_|refine hJ ?_);clear hK hJ K J))
          simp +decide only[go_sem,reduceAdd,reduceMul,reduceSub,e4,e5,e2,e3,c1,hi,g1,g2,u1,u2,ci,at0,at1,hx,hy,ac,w1,z0,l_e1,a0]
        · repeat (first|(with_reducible first|refine q1 ?_|refine q2 ?_|refine q3 ?_|refine q4 ?_|refine q5 ?_|refine q6 ?_|refine q7 ?_|refine q8 ?_|refine q9 ?_|refine q10 ?_|refine q11 ?_|refine q12 (by decide) ?_)|((first|with_reducible refine q13 ?_|((with_reducible refine q14 ?_ ?_);focus exact rfl));intro K hK;simp +decide only[go_sem,reduceAdd,reduceMul,reduceSub,e4,e5,e2,e3,c1,hi,g1,g2,u1,u2,ci,at0,at1,hx,hy,ac,w1,z0,l_e1,a0];with_reducible refine hK _ ?_;clear hK K)|(with_reducible refine q15 ?_;intro K J hK hJ;simp +decide only[go_sem,reduceAdd,reduceMul,reduceSub,e4,e5,e2,e3,c1,hi,g1,g2,u1,u2,ci,at0,at1,hx,hy,ac,w1,z0,l_e1,a0];(with_reducible first|refine hK ?_|refine hJ ?_);clear hK hJ K J))
          simp +decide only[go_sem,reduceAdd,reduceMul,reduceSub,e4,e5,e2,e3,c1,hi,g1,g2,u1,u2,ci,at0,at1,hx,hy,ac,w1,z0,l_e1,a0]
  cases z0 : (rx.a.1 != 0) with
  | false => exact hgo (upF n 3) (main _ (by unfold rngR; rw [z0]; rfl) (.inr (.inr ⟨z0, rfl⟩))) (by unfold rngR; rw [z0]; rfl)
  | true => cases z1 : (ry.a.1 != 0) with
    | false => exact hgo (upF n 3) (main _ (by unfold rngR; rw [z0, z1]; rfl) (.inr (.inl ⟨z0, z1, rfl⟩))) (by unfold rngR; rw [z0, z1]; rfl)
    | true => exact hgo (upF n 5) (main _ (by unfold rngR; rw [z0, z1]; rfl) (.inl ⟨z0, z1, rfl⟩)) (by unfold rngR; rw [z0, z1]; rfl)
end
end Go.Eng
