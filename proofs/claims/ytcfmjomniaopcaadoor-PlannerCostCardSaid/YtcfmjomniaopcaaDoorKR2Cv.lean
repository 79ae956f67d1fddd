/- A part of the proof: see the last text. -/
import Derived.Test.YtcfmjomniaopcaaDoorR2Co
import Derived.Test.YtcfmjomniaopcaaDoorKR2Cp
import Derived.Test.YtcfmjomniaopcaaDoorR2Cr
import Derived.Test.YtcfmjomniaopcaaDoorKR2Cm
import Derived.Test.YtcfmjomniaopcaaDoorR2Ph
import Derived.Test.YtcfmjomniaopcaaDoorKR2Ka
import Derived.Test.YtcfmjomniaopcaaDoorR2Pl
import Derived.Test.YtcfmjomniaopcaaDoorKR2Pj
import Derived.Test.YtcfmjomniaopcaaDoorR2RefV
import Derived.Test.YtcfmjomniaopcaaDoorKR2Kf
set_option linter.unusedSimpArgs false
set_option linter.unusedVariables false
/- The program's estimate: filters and joins. -/
namespace Go.Eng
open Go Go.Proofs
open Nat (reduceAdd reduceMul reduceSub)
set_option maxRecDepth 20000
set_option maxHeartbeats 32000000
attribute [local irreducible] wpI endP
section
variable (cnt : Sl I64) (bx : List (List D)) (tk : List Nat) (id : Nat)

theorem cost_flt (p : PlR) (hk : p.k.1 = 4) (x : Pl) (hx : p.args.items = [x]) (r q : Int) (hE : EOK r q) (L : List Ex) (hL : CjL p.r.enc L) (hLl : L.length ≤ 400) (bx' : List (List D))
    (ih : callR (XG GK) TT 78 ⟨bx, tk⟩ [.ptr id 0, encPl x, sl 1 I cnt] = some (.tuple [.int .i64 r, .int .i64 q], ⟨bx', tk⟩)) :
    callR (XG GK) TT 78 ⟨bx, tk⟩ [.ptr id 0, p.enc, sl 1 I cnt] = some (.tuple [.int .i64 (upN r L.length), .int .i64 (liF (q + r))], ⟨bx', tk⟩) := by
  have e1 : (p.k.1 == 1) = false := int_ne (by omega)
  have e2 : (p.k.1 == 2) = false := int_ne (by omega)
  have e3 : (p.k.1 == 3) = false := int_ne (by omega)
  have e4 := int_eq hk
  have at0 : atI p.args.items 0 = some x := by rw [hx]; rfl
  obtain ⟨r0, r1, c0, c1⟩ := hE
  have pl := limit121 (G := GK) (q + r)
  have wl := wrap_fit (q + r) (by omega)
  obtain ⟨cj, hcj, hcl⟩ := conj90 (G := GK) hL (by omega)
  have hll : (cj.items.length : Int) = (L.length : Int) := by rw [hcl]
  simp only [ExR_eq] at hcj
  refine callR_val T78 rfl ?_
  unfold Tryd.f78
  simp only [Option.getD_some]
  simp +decide only[go_sem,reduceAdd,reduceMul,reduceSub,e1,e2,e3,e4,at0,pl,wl,hcj,ih]
  repeat (first|(with_reducible first|refine q1 ?_|refine q2 ?_|refine q3 ?_|refine q4 ?_|refine q5 ?_|refine q6 ?_|refine q7 ?_|refine q8 ?_|refine q9 ?_|refine q10 ?_|refine q11 ?_|refine q12 (by decide) ?_)|((first|with_reducible refine q13 ?_|((with_reducible refine q14 ?_ ?_);focus exact rfl));intro K hK;simp +decide only[go_sem,reduceAdd,reduceMul,reduceSub,e1,e2,e3,e4,at0,pl,wl,hcj,ih];with_reducible refine hK _ ?_;clear hK K)|(with_reducible refine q15 ?_;intro K J hK hJ;simp +decide only[go_sem,reduceAdd,reduceMul,reduceSub,e1,e2,e3,e4,at0,pl,wl,hcj,ih];(with_reducible first|refine hK ?_|refine hJ ?_);clear hK hJ K J))
  refine wpI_loopC (T := Nat) [14, 15, 133, 134] rfl (by simp +decide only[go_sem,reduceAdd,reduceMul,reduceSub,e1,e2,e3,e4,at0,pl,wl,hcj,ih]; exact rfl) (fun k => [(134, .int .i64 (k : Int)), (14, .int .i64 (upN r k))]) (fun _ => []) (fun _ => ⟨bx', tk⟩) (fun k => k ≤ L.length) (fun k => L.length - k) 0 (by simp +decide only[go_sem,reduceAdd,reduceMul,reduceSub,e1,e2,e3,e4,at0,pl,wl,hcj,ih] <;> rfl) (by simp) ?_
  rintro k hk
  have hup := upN_le r0 k
  have u1 := up113 (G := GK) (upN r k) 2 hup.1 (by omega) (by omega) (by omega)
  have eN : upF (upN r k) 2 = upN r (k + 1) := rfl
  rw [eN] at u1
  by_cases h : k < L.length
  · have lq : ((k : Int) < (cj.items.length : Int)) = True := eq_true (by rw [hcl]; omega)
    have w1 := wrap_nat k (by omega)
    repeat (first|(with_reducible first|refine q1 ?_|refine q2 ?_|refine q3 ?_|refine q4 ?_|refine q5 ?_|refine q6 ?_|refine q7 ?_|refine q8 ?_|refine q9 ?_|refine q10 ?_|refine q11 ?_|refine q12 (by decide) ?_)|((first|with_reducible refine q13 ?_|((with_reducible refine q14 ?_ ?_);focus exact rfl));intro K hK;simp +decide only[go_sem,reduceAdd,reduceMul,reduceSub,e1,e2,e3,e4,at0,pl,wl,hcj,ih,lq,w1,u1];with_reducible refine hK _ ?_;clear hK K)|(with_reducible refine q15 ?_;intro K J hK hJ;simp +decide only[go_sem,reduceAdd,reduceMul,reduceSub,e1,e2,e3,e4,at0,pl,wl,hcj,ih,lq,w1,u1];(with_reducible first|refine hK ?_|refine hJ ?_);clear hK hJ K J))
    exact ⟨k + 1, by simp +decide only[go_sem,reduceAdd,reduceMul,reduceSub,e1,e2,e3,e4,at0,pl,wl,hcj,ih] <;> rfl, by omega, by omega⟩
  · have lq : ((k : Int) < (cj.items.length : Int)) = False := eq_false (by rw [hcl]; omega)
    obtain rfl : k = L.length := by omega
    repeat (first|(with_reducible first|refine q1 ?_|refine q2 ?_|refine q3 ?_|refine q4 ?_|refine q5 ?_|refine q6 ?_|refine q7 ?_|refine q8 ?_|refine q9 ?_|refine q10 ?_|refine q11 ?_|refine q12 (by decide) ?_)|((first|with_reducible refine q13 ?_|((with_reducible refine q14 ?_ ?_);focus exact rfl));intro K hK;simp +decide only[go_sem,reduceAdd,reduceMul,reduceSub,e1,e2,e3,e4,at0,pl,wl,hcj,ih,lq];with_reducible refine hK _ ?_;clear hK K)|(with_reducible refine q15 ?_;intro K J hK hJ;simp +decide only[go_sem,reduceAdd,reduceMul,reduceSub,e1,e2,e3,e4,at0,pl,wl,hcj,ih,lq];(with_reducible first|refine hK ?_|refine hJ ?_);clear hK hJ K J))
    simp +decide only[go_sem,reduceAdd,reduceMul,reduceSub,e1,e2,e3,e4,at0,pl,wl,hcj,ih]
    first | done | exact ⟨rfl, trivial⟩ | trivial
theorem cost_join (p : PlR) (hk : p.k.1 = 5) (x y : Pl) (hx : p.args.items = [x, y]) (r q r' q' : Int) (hE : EOK r q) (hE' : EOK r' q') (bx' bx'' : List (List D))
    (ih : callR (XG GK) TT 78 ⟨bx, tk⟩ [.ptr id 0, encPl x, sl 1 I cnt] = some (.tuple [.int .i64 r, .int .i64 q], ⟨bx', tk⟩))
    (ih' : callR (XG GK) TT 78 ⟨bx', tk⟩ [.ptr id 0, encPl y, sl 1 I cnt] = some (.tuple [.int .i64 r', .int .i64 q'], ⟨bx'', tk⟩)) :
    callR (XG GK) TT 78 ⟨bx, tk⟩ [.ptr id 0, p.enc, sl 1 I cnt] = some (.tuple [.int .i64 (prodF r r'), .int .i64 (liF (q + prodF r q'))], ⟨bx'', tk⟩) := by
  have e1 : (p.k.1 == 1) = false := int_ne (by omega)
  have e2 : (p.k.1 == 2) = false := int_ne (by omega)
  have e3 : (p.k.1 == 3) = false := int_ne (by omega)
  have e4 : (p.k.1 == 4) = false := int_ne (by omega)
  have at0 : atI p.args.items 0 = some x := by rw [hx]; rfl
  have at1 : atI p.args.items 1 = some y := by rw [hx]; rfl
  have b1 := prodF_le hE.r0 hE'.c0
  have t1 := product122 (G := GK) r r' hE.r0 hE.r1 hE'.r0 hE'.r1
  have t2 := product122 (G := GK) r q' hE.r0 hE.r1 hE'.c0 hE'.c1
  have pl := limit121 (G := GK) (q + prodF r q')
  have wl := wrap_fit (q + prodF r q') (by have := hE.c0; have := hE.c1; omega)
  refine callR_val T78 rfl ?_
  unfold Tryd.f78
  simp only [Option.getD_some]
  simp +decide only[go_sem,reduceAdd,reduceMul,reduceSub,e1,e2,e3,e4,at0,at1,pl,wl,t1,t2,ih,ih']
  repeat (first|(with_reducible first|refine q1 ?_|refine q2 ?_|refine q3 ?_|refine q4 ?_|refine q5 ?_|refine q6 ?_|refine q7 ?_|refine q8 ?_|refine q9 ?_|refine q10 ?_|refine q11 ?_|refine q12 (by decide) ?_)|((first|with_reducible refine q13 ?_|((with_reducible refine q14 ?_ ?_);focus exact rfl));intro K hK;simp +decide only[go_sem,reduceAdd,reduceMul,reduceSub,e1,e2,e3,e4,at0,at1,pl,wl,t1,t2,ih,ih'];with_reducible refine hK _ ?_;clear hK K)|(with_reducible refine q15 ?_;intro K J hK hJ;simp +decide only[go_sem,reduceAdd,reduceMul,reduceSub,e1,e2,e3,e4,at0,at1,pl,wl,t1,t2,ih,ih'];(with_reducible first|refine hK ?_|refine hJ ?_);clear hK hJ K J))
  simp +decide only[go_sem,reduceAdd,reduceMul,reduceSub,e1,e2,e3,e4,at0,at1,pl,wl,t1,t2,ih,ih']
  first | done | exact ⟨rfl, trivial⟩ | trivial
end
end Go.Eng
/- Both estimates of a plan are the same. -/
namespace Go.Eng
open Go Go.Proofs
theorem lokR_le {t : Tbl} {cols : List I64} {n : Int} (h : 0 ≤ n) : 0 ≤ lokR t cols n ∧ lokR t cols n ≤ n := by
  have b1 := upF_le (b := 10) h (by omega)
  have b2 := upF_le (b := 1000000) h (by omega)
  unfold lokR; cases anyCov cols t.keys.items <;> simp only [cond_true, cond_false] <;> assumption
theorem lokC_le {t : Tbl} {cols : List I64} {n : Int} (h : 0 ≤ n) : 0 ≤ lokC t cols n ∧ lokC t cols n ≤ n + 1 := by
  have := lokR_le (t := t) (cols := cols) h
  unfold lokC; cases anyCov cols (idxL t) <;> simp only [cond_true, cond_false] <;> omega
theorem rngC_le {t : Tbl} {cols : List I64} {a b n : Int} (h : 0 ≤ n) : 0 ≤ rngC t cols a b n ∧ rngC t cols a b n ≤ n + 1 := by
  have := rngR_le (a := a) (b := b) h
  unfold rngC; cases anyEq cols (idxL t) <;> simp only [cond_true, cond_false] <;> omega
section
variable (s : Sl Tbl) (b : Bnd) (W : List Nat) (h : WOK s.items b.tabs.items W) (hsm : ∀ t ∈ s.items, t.keys.items.length ≤ 10 ∧ t.fgns.items.length ≤ 10) (cnt : Sl I64) (tk : List Nat) (id : Nat) (tg : Option Nat) (c : Sl Ex)
include h hsm
theorem both {d : D} (hS : ShP b.tabs.items.length d) : ∀ n, FewN n d → FltP d → ∃ r q, EOK r q ∧ callP (XG GK) TT 34 [sl 5 encTbl s, encBnd b, d, sl 1 I cnt] = some (.tuple [.int .i64 r, .int .i64 q]) ∧
    ∀ bx : List (List D), bx[id]? = some (qC s b tg W c) → ∃ ex, callR (XG GK) TT 78 ⟨bx, tk⟩ [.ptr id 0, d, sl 1 I cnt] = some (.tuple [.int .i64 r, .int .i64 q], ⟨bx ++ ex, tk⟩) := by
  induction hS with
  | scan p hk h0 h1 =>
    intro n _ _
    obtain ⟨i, v, t, hi, g1, g2, _⟩ := src_at s b W h hsm p h0 h1
    have hc := cntF_le cnt.items i
    exact ⟨_, _, ⟨hc.1, by omega, hc.1, by omega⟩, est_scan s b cnt p hk i v t hi g1 g2, fun bx hm => ⟨[], by rw [List.append_nil]; exact cost_scan s b W cnt bx tk id tg c hm p hk i v t hi g1 g2⟩⟩
  | look p hk h0 h1 =>
    intro n _ _
    obtain ⟨i, v, t, hi, g1, g2, k1, k2⟩ := src_at s b W h hsm p h0 h1
    have hc := cntF_le cnt.items i
    have b1 := lokR_le (t := t) (cols := p.c.items) hc.1
    have b2 := lokC_le (t := t) (cols := p.c.items) hc.1
    exact ⟨_, _, ⟨b1.1, by omega, b2.1, by omega⟩, est_look s b cnt p hk i v t hi g1 g2 k1 k2, fun bx hm => ⟨_, cost_look s b W cnt bx tk id tg c hm p hk i v t hi g1 g2 k1 k2⟩⟩
  | rng p hk h0 h1 hcl hel =>
    intro n _ _
    obtain ⟨i, v, t, hi, g1, g2, k1, k2⟩ := src_at s b W h hsm p h0 h1
    have hc := cntF_le cnt.items i
    obtain ⟨x, y, he⟩ := two_of hel
    obtain ⟨cc, hcc⟩ := one_of hcl
    obtain ⟨rx, hx, _⟩ := x.open
    obtain ⟨ry, hy, _⟩ := y.open
    have b1 := rngR_le (a := rx.a.1) (b := ry.a.1) hc.1
    have b2 := rngC_le (t := t) (cols := p.c.items) (a := rx.a.1) (b := ry.a.1) hc.1
    exact ⟨_, _, ⟨b1.1, by omega, b2.1, by omega⟩, est_rng s b cnt p hk i v t hi g1 g2 k1 k2 cc hcc x y rx ry he hx hy, fun bx hm => ⟨_, cost_rng s b W cnt bx tk id tg c hm p hk i v t hi g1 g2 k1 k2 x y rx ry he hx hy⟩⟩
  | flt p hk x hx hSx ih =>
    intro n hF hP
    obtain ⟨m, _, _, _, _, hr, hkk⟩ := hF.open
    obtain ⟨⟨L, hL⟩, hPk⟩ := hP.open
    have hxm : x ∈ p.args.items := by rw [hx]; simp
    obtain ⟨r, q, hE, e34, e78⟩ := ih m (hkk x hxm) (hPk x hxm)
    have hl := hr L hL
    have hu := upN_le hE.r0 L.length
    have hli := liF_le (q + r) (by have := hE.r0; have := hE.c0; omega)
    have hr1 := hE.r1
    refine ⟨_, _, ⟨hu.1, by omega, hli.1, hli.2⟩, est_flt s b cnt p hk x hx r q hE L hL hl e34, fun bx hm => ?_⟩
    obtain ⟨ex, e78⟩ := e78 bx hm
    exact ⟨ex, cost_flt cnt bx tk id p hk x hx r q hE L hL hl _ e78⟩
  | join p hk x y hx hSx hSy ihx ihy =>
    intro n hF hP
    obtain ⟨m, _, _, _, _, hr, hkk⟩ := hF.open
    obtain ⟨_, hPk⟩ := hP.open
    have hxm : x ∈ p.args.items := by rw [hx]; simp
    have hym : y ∈ p.args.items := by rw [hx]; simp
    obtain ⟨r, q, hE, e34, e78⟩ := ihx m (hkk x hxm) (hPk x hxm)
    obtain ⟨r', q', hE', e34', e78'⟩ := ihy m (hkk y hym) (hPk y hym)
    have b1 := prodF_le hE.r0 hE'.r0
    have b2 := prodF_le hE.r0 hE'.c0
    have hli := liF_le (q + prodF r q') (by have := hE.c0; omega)
    refine ⟨_, _, ⟨b1.1, b1.2, hli.1, hli.2⟩, est_join s b cnt p hk x y hx r q r' q' hE hE' e34 e34', fun bx hm => ?_⟩
    obtain ⟨ex, e78⟩ := e78 bx hm
    obtain ⟨ex', e78'⟩ := e78' (bx ++ ex) (by rw [List.getElem?_append_left (List.getElem?_eq_some_iff.1 hm).1]; exact hm)
    exact ⟨ex ++ ex', by rw [← List.append_assoc]; exact cost_join cnt bx tk id p hk x y hx r q r' q' hE hE' _ _ e78 e78'⟩
end
end Go.Eng
/- PlannerCost returns true. -/
namespace Go.Eng
open Go Go.Proofs
open Nat (reduceAdd reduceMul reduceSub)
set_option maxRecDepth 20000
set_option maxHeartbeats 32000000
attribute [local irreducible] wpI endP
theorem bnd_ok2 (c : Cas) : ∃ (b : Bnd) (ok : Bool), callP (XG GK) TT 13 [encCas c] = some (.tuple [encBnd b, .bool ok]) ∧
    (ok = true → BinN 8 b.w.enc ∧ (∃ k, callP (XG GK) TT 15 [encBnd b] = some (.bool k)) ∧ (∃ W, WOK c.s.items b.tabs.items W ∧ W ≠ []) ∧ ∀ t ∈ c.s.items, t.keys.items.length ≤ 10 ∧ t.fgns.items.length ≤ 10) := by
  obtain ⟨b1, h24, hsm⟩ := smallT (G := GK) c.s
  obtain ⟨b3, h42, hbin⟩ := binary42 (G := GK) 8 c.w (by omega)
  have h39 : ∃ b2, b1 = true → callP (XG GK) TT 39 [sl 5 encTbl c.s] = some (.bool b2) := by
    cases b1 with
    | false => exact ⟨true, fun h => by cases h⟩
    | true => exact ⟨_, fun _ => val39 c.s (hsm rfl).2 (hsm rfl).1⟩
  obtain ⟨b2, h39⟩ := h39
  obtain ⟨b, ok, h13, hok⟩ := bound13 (G := GK) c b1 b2 b3 h24 h39 h42 (fun h t ht => ((hsm h).2 t ht).1)
  refine ⟨b, ok, h13, fun h => ?_⟩
  obtain ⟨e1, e3, hw, ht, hn, _, W, hW⟩ := hok (.inl h)
  have hB := hbin e3
  rw [← hw] at hB
  rw [← ht] at hW hn
  have hW0 : W ≠ [] := fun e => hn (List.length_eq_zero_iff.1 (by rw [← hW.len, e]; rfl))
  refine ⟨hB, ?_, ⟨W, hW, hW0⟩, fun t ht => by obtain ⟨_, x2, x3, _⟩ := (hsm e1).2 t ht; exact ⟨x2, x3⟩⟩
  obtain ⟨e, he⟩ := Ex.close b.w
  have hB' := hB
  rw [← he] at hB'
  obtain ⟨L, hL, hlen⟩ := cj_ex 8 e hB'
  rw [he] at hL
  have hlen : L.length ≤ 256 := hlen
  obtain ⟨cc, hc, _⟩ := conj46 (G := GK) hL (by omega)
  exact few15 b cc hc
theorem sub_nil (m : Mem) : Sub ⟨[], []⟩ m := fun id cs h => by simp at h
theorem sub_app (a ex : List (List D)) (t t' : List Nat) : Sub ⟨a, t⟩ ⟨a ++ ex, t'⟩ := fun id cs h => by
  have h : a[id]? = some cs := h
  show (a ++ ex)[id]? = some cs
  rw [List.getElem?_append_left (List.getElem?_eq_some_iff.1 h).1]; exact h
theorem cost35 (s : Sl Tbl) (b : Bnd) (W : List Nat) (h : WOK s.items b.tabs.items W) (h0 : W ≠ []) (p : PlR) (cnt : Sl I64) (c : Sl Ex) (hc : callP (XG GK) TT 90 [b.w.enc] = some (sl 8 encEx c)) (r q : Int) (ex : List (List D))
    (h78 : callR (XG GK) TT 78 ⟨[qC s b (some 1) W c], [W.length + 1]⟩ [.ptr 0 0, p.enc, sl 1 I cnt] = some (.tuple [.int .i64 r, .int .i64 q], ⟨[qC s b (some 1) W c] ++ ex, [W.length + 1]⟩)) :
    callP (XG GK) TT 35 [sl 5 encTbl s, encBnd b, p.enc, sl 1 I cnt] = some (.int .i64 q) := by
  have c47 := of47 s b W h h0 c hc
  generalize qC s b (some 1) W c = Q at *
  generalize W.length + 1 = n at *
  have s1 : Sub ⟨[], []⟩ ⟨[Q], [n]⟩ = True := eq_true (sub_nil _)
  have s2 : Sub ⟨[Q], [n]⟩ ⟨[Q] ++ ex, [n]⟩ = True := eq_true (sub_app _ _ _ _)
  generalize hM : (⟨[Q] ++ ex, [n]⟩ : Mem) = M at *
  have ta := true_and
  have ot := or_true
  simp only [encBnd_eq] at c47
  simp only [PlR_eq] at h78
  refine callP_val T35 rfl (by simp only [go_sem]) ?_
  unfold Tryd.f35
  simp only [Option.getD_some]
  simp +decide only[go_sem,reduceAdd,reduceMul,reduceSub,c47,h78,s1,s2,ta,ot]
  refine gw (an c47 (an h78 (an s1 (an s2 (an ta ot))))) ?_
  simp +decide only[go_sem,reduceAdd,reduceMul,reduceSub,c47,h78,s1,s2,ta,ot]
section
variable (c : Cas) (p : PlR) (cnt : Sl I64) (h14 : callP (XG GK) TT 14 [] = some (.bool true))
include h14
theorem law8 : callP (XG GK) TT 8 [encCas c, p.enc, sl 1 I cnt] = some (.bool true) := by
  obtain ⟨b, ok, h13, hok⟩ := bnd_ok2 c
  obtain ⟨q31, h31, h31r⟩ := few31N (G := GK) 7 (by omega) p
  have h31 : callP (XG GK) TT 31 [p.enc, .int .i64 7] = some (.bool q31) := h31
  obtain ⟨q32, h32, h32r⟩ := flt_step (G := GK) p fun x _ => flt_n _ x (Nat.lt_succ_self _)
  have hall : ∃ q33 : Bool, ok = true → q31 = true → callP (XG GK) TT 33 [sl 5 encTbl c.s, encBnd b, p.enc] = some (.bool q33) ∧ (q33 = true → ∃ r q, q32 = true → callP (XG GK) TT 34 [sl 5 encTbl c.s, encBnd b, p.enc, sl 1 I cnt] = some (.tuple [.int .i64 r, .int .i64 q]) ∧ callP (XG GK) TT 35 [sl 5 encTbl c.s, encBnd b, p.enc, sl 1 I cnt] = some (.int .i64 q)) := by
    by_cases hk : ok = true ∧ q31 = true
    · obtain ⟨hB, _, ⟨W, hW, hW0⟩, hsm⟩ := hok hk.1
      have hF := h31r hk.2
      obtain ⟨q33, h33, h33r⟩ := shape33 (G := GK) c.s b W hW p 7 (by omega) hF
      refine ⟨q33, fun _ _ => ⟨h33, fun hq => ?_⟩⟩
      by_cases hq32 : q32 = true
      · obtain ⟨e, he⟩ := Ex.close b.w
        rw [← he] at hB
        obtain ⟨L, hL, hlen⟩ := cj_ex 8 e hB
        rw [he] at hL
        have hlen : L.length ≤ 256 := hlen
        obtain ⟨cc, hc, _⟩ := conj90 (G := GK) hL (by omega)
        obtain ⟨r, q, _, e34, e78⟩ := both c.s b W hW hsm cnt [W.length + 1] 0 (some 1) cc (h33r hq) 7 hF (h32r hq32)
        obtain ⟨ex, e78⟩ := e78 [qC c.s b (some 1) W cc] rfl
        exact ⟨r, q, fun _ => ⟨e34, cost35 c.s b W hW hW0 p cnt cc hc r q ex e78⟩⟩
      · exact ⟨0, 0, fun h => absurd h hq32⟩
    · exact ⟨true, fun a b => absurd ⟨a, b⟩ hk⟩
  obtain ⟨q33, hall⟩ := hall
  refine callP_val T8 rfl (by simp only [go_sem]) ?_
  unfold Tryd.f8
  simp only [Option.getD_some]
  have hcl := cnt.lt
  simp only [encCas_eq, encBnd_eq] at h13 hok hall
  simp only [PlR_eq] at h31 h32 hall
  clear h31r h32r
  simp +decide only[go_sem,reduceAdd,reduceMul,reduceSub,h13,h14,h31,h32]
  cases ok
  · refine gw (an h13 (an h14 (an h31 h32))) ?_
    simp +decide only[go_sem,reduceAdd,reduceMul,reduceSub,h13,h14,h31,h32]
  obtain ⟨_, ⟨k15, h15⟩, _⟩ := hok rfl
  cases k15
  · refine gw (an h13 (an h14 (an h31 (an h32 h15)))) ?_
    simp +decide only[go_sem,reduceAdd,reduceMul,reduceSub,h13,h14,h31,h32,h15]
  by_cases n2 : (10 : Int) < (cnt.items.length : Int)
  · refine gw (an h13 (an h14 (an h31 (an h32 (an h15 n2))))) ?_
    simp +decide only[go_sem,reduceAdd,reduceMul,reduceSub,h13,h14,h31,h32,h15,n2]
  cases q31
  · refine gw (an h13 (an h14 (an h31 (an h32 (an h15 n2))))) ?_
    simp +decide only[go_sem,reduceAdd,reduceMul,reduceSub,h13,h14,h31,h32,h15,n2]
  cases q32
  · refine gw (an h13 (an h14 (an h31 (an h32 (an h15 n2))))) ?_
    simp +decide only[go_sem,reduceAdd,reduceMul,reduceSub,h13,h14,h31,h32,h15,n2]
  obtain ⟨h33, h33r⟩ := hall rfl rfl
  cases q33
  · refine gw (an h13 (an h14 (an h31 (an h32 (an h15 (an n2 h33)))))) ?_
    simp +decide only[go_sem,reduceAdd,reduceMul,reduceSub,h13,h14,h31,h32,h15,n2,h33]
  obtain ⟨r, q, hrq⟩ := h33r rfl
  obtain ⟨h34, h35⟩ := hrq rfl
  refine gw (an h13 (an h14 (an h31 (an h32 (an h15 (an n2 (an h33 (an h34 h35)))))))) ?_
  simp +decide only[go_sem,reduceAdd,reduceMul,reduceSub,h13,h14,h31,h32,h15,n2,h33,h34,h35]
end
end Go.Eng
/- PlannerCost returns true for any plan. -/
namespace Go.Eng
open Go Go.Proofs
theorem pl_agg (e : Pl) : ∃ l, encPl e = .agg l := by
  obtain ⟨r, he, _⟩ := e.open
  exact ⟨_, he⟩
theorem law8_true (c : Cas) (e : Pl) (cnt : Sl I64) : callP (XG GK) TT 8 [encCas c, encPl e, sl 1 I cnt] = some (.bool true) := by
  obtain ⟨r, he, _⟩ := e.open
  rw [he]
  exact law8 c r cnt awake14
end Go.Eng
