/- A part of the proof: see the last text. -/
import Derived.Test.YtcfmjomniaopcaaDoorR2Co
set_option linter.unusedSimpArgs false
set_option linter.unusedVariables false
/- The program's estimate: scans and lookups. -/
namespace Go.Eng
open Go Go.Proofs
open Nat (reduceAdd reduceMul reduceSub)
set_option maxRecDepth 20000
set_option maxHeartbeats 32000000
attribute [local irreducible] wpI endP
def plC (p : PlR) : List D := [.int .i64 p.k.1, .int .i64 p.s.1, sl 1 I p.c, sl 8 encEx p.e, .int .i64 p.r.a.1, .str p.r.s, .str p.r.t, .int .i64 p.r.b.1, .int .i64 p.r.c.1, .int .i64 p.r.d.1, .str p.r.u, sl 8 encEx p.r.args, sl 13 encPl p.args]
theorem clo115 (m : Mem) (j : Nat) (p : PlR) (hj : m.boxes[j]? = some (plC p)) (k : Sl I64) : callR (XG GK) TT 115 m [sl 1 I k, .ptr j 0] = some (.bool (covB p.c.items k.items), m) := by
  have c := within116 (G := GK) k p.c
  refine callR_val T115 rfl ?_
  unfold Tryd.f115
  simp only [Option.getD_some]
  unfold plC at hj
  simp +decide only[go_sem,reduceAdd,reduceMul,reduceSub,hj,c]
  refine gw (an hj c) ?_
  simp +decide only[go_sem,reduceAdd,reduceMul,reduceSub,hj,c]
  first | done | exact ⟨rfl, trivial⟩ | trivial
theorem clo118 (m : Mem) (j : Nat) (p : PlR) (hj : m.boxes[j]? = some (plC p)) (k : Sl I64) : callR (XG GK) TT 118 m [sl 1 I k, .ptr j 0] = some (.bool (covB p.c.items k.items), m) := by
  have c := within116 (G := GK) k p.c
  refine callR_val T118 rfl ?_
  unfold Tryd.f118
  simp only [Option.getD_some]
  unfold plC at hj
  simp +decide only[go_sem,reduceAdd,reduceMul,reduceSub,hj,c]
  refine gw (an hj c) ?_
  simp +decide only[go_sem,reduceAdd,reduceMul,reduceSub,hj,c]
  first | done | exact ⟨rfl, trivial⟩ | trivial
theorem clo119 (m : Mem) (j : Nat) (p : PlR) (hj : m.boxes[j]? = some (plC p)) (k : Sl I64) : callR (XG GK) TT 119 m [sl 1 I k, .ptr j 0] = some (.bool (eqI k.items p.c.items), m) := by
  have c := equal120 (G := GK) k p.c
  refine callR_val T119 rfl ?_
  unfold Tryd.f119
  simp only [Option.getD_some]
  unfold plC at hj
  simp +decide only[go_sem,reduceAdd,reduceMul,reduceSub,hj,c]
  refine gw (an hj c) ?_
  simp +decide only[go_sem,reduceAdd,reduceMul,reduceSub,hj,c]
  first | done | exact ⟨rfl, trivial⟩ | trivial
theorem cnt_no {l : List I64} {i : Nat} (h : ¬ i < l.length) : cntF l i = 0 := by
  unfold cntF; rw [List.getElem?_eq_none (by omega)]
theorem cnt_yes {l : List I64} {i : Nat} {x : I64} (h : l[i]? = some x) : ∃ y : Int, (if 0 > x.1 then 0 else x.1) = y ∧ (if 1000000 < y then 1000000 else y) = cntF l i := by
  refine ⟨_, rfl, ?_⟩
  unfold cntF; rw [h]; simp only
  by_cases h1 : x.1 < 0
  · rw [if_pos h1, if_pos h1]; rfl
  · rw [if_neg h1, if_neg h1]
section
variable (s : Sl Tbl) (b : Bnd) (W : List Nat) (cnt : Sl I64) (bx : List (List D)) (tk : List Nat) (id : Nat) (tg : Option Nat) (c : Sl Ex) (hm : bx[id]? = some (qC s b tg W c))
include hm
theorem cost_scan (p : PlR) (hk : p.k.1 = 1) (i : Nat) (v : I64) (t : Tbl) (hi : p.s.1 = i) (g1 : b.tabs.items[i]? = some v) (g2 : atI s.items v.1 = some t) :
    callR (XG GK) TT 78 ⟨bx, tk⟩ [.ptr id 0, p.enc, sl 1 I cnt] = some (.tuple [.int .i64 (cntF cnt.items i), .int .i64 (cntF cnt.items i)], ⟨bx, tk⟩) := by
  have e1 := int_eq hk
  refine callR_val T78 rfl ?_
  unfold Tryd.f78
  simp only [Option.getD_some]
  unfold qC at hm
  simp +decide only[go_sem,reduceAdd,reduceMul,reduceSub,e1,hi,g1,g2,hm]
  by_cases h : i < cnt.items.length
  · obtain ⟨x, hx⟩ : ∃ x, cnt.items[i]? = some x := ⟨_, List.getElem?_eq_getElem h⟩
    obtain ⟨y, y1, y2⟩ := cnt_yes hx
    have l1 : ((i : Int) < (cnt.items.length : Int)) = True := eq_true (by omega)
    refine gw (an e1 (an hi (an g1 (an g2 (an hm (an hx (an y1 (an y2 l1)))))))) ?_
    simp +decide only[go_sem,reduceAdd,reduceMul,reduceSub,e1,hi,g1,g2,hm]
    first | done | exact ⟨rfl, trivial⟩ | trivial
  · have l1 : ((i : Int) < (cnt.items.length : Int)) = False := eq_false (by omega)
    rw [cnt_no h]
    refine gw (an e1 (an hi (an g1 (an g2 (an hm l1))))) ?_
    simp +decide only[go_sem,reduceAdd,reduceMul,reduceSub,e1,hi,g1,g2,hm]
    first | done | exact ⟨rfl, trivial⟩ | trivial
theorem cost_look (p : PlR) (hk : p.k.1 = 2) (i : Nat) (v : I64) (t : Tbl) (hi : p.s.1 = i) (g1 : b.tabs.items[i]? = some v) (g2 : atI s.items v.1 = some t) (h1 : t.keys.items.length ≤ 10) (h2 : t.fgns.items.length ≤ 10) :
    callR (XG GK) TT 78 ⟨bx, tk⟩ [.ptr id 0, p.enc, sl 1 I cnt] = some (.tuple [.int .i64 (lokR t p.c.items (cntF cnt.items i)), .int .i64 (lokC t p.c.items (cntF cnt.items i))], ⟨bx ++ [plC p], tk⟩) := by
  have e1 : (p.k.1 == 1) = false := int_ne (by omega)
  have e2 := int_eq hk
  obtain ⟨n0, n1⟩ := cntF_le cnt.items i
  have hj : (bx ++ [plC p])[bx.length]? = some (plC p) := by simp
  have hk1 := ctf114 t.keys 115 [.ptr bx.length 0] ⟨bx ++ [plC p], tk⟩ (fun k => covB p.c.items k.items) (eq_true (by decide)) fun x _ => clo115 ⟨bx ++ [plC p], tk⟩ bx.length p hj x
  obtain ⟨ix, hix, ci⟩ := idx117 t h1 h2
  have hk2 := ctf114 ix 118 [.ptr bx.length 0] ⟨bx ++ [plC p], tk⟩ (fun k => covB p.c.items k.items) (eq_true (by decide)) fun x _ => clo118 ⟨bx ++ [plC p], tk⟩ bx.length p hj x
  have hk1 : callR (XG GK) TT 114 ⟨bx ++ [plC p], tk⟩ [sl 1 (sl 1 I) t.keys, .func 115 [.ptr bx.length 0]] = some (.bool (anyCov p.c.items t.keys.items), ⟨bx ++ [plC p], tk⟩) := hk1
  have hk2 : callR (XG GK) TT 114 ⟨bx ++ [plC p], tk⟩ [sl 1 (sl 1 I) ix, .func 118 [.ptr bx.length 0]] = some (.bool (anyCov p.c.items ix.items), ⟨bx ++ [plC p], tk⟩) := hk2
  rw [hix] at hk2
  have ho : (if 1 < cntF cnt.items i then 1 else cntF cnt.items i) = upF (cntF cnt.items i) 1000000 := (upF_one n0 n1).symm
  have hcy := fun x (h : cnt.items[i]? = some x) => cnt_yes h
  have hcn := fun h => cnt_no (l := cnt.items) (i := i) h
  unfold lokC lokR
  generalize cntF cnt.items i = n at *
  have u1 := up113 (G := GK) n 10 n0 (by omega) (by omega) (by omega)
  have b1 := upF_le (b := 10) n0 (by omega)
  have b2 := upF_le (b := 1000000) n0 (by omega)
  have w1 := wrap_fit (upF n 10 + 1) (by omega)
  have w2 := wrap_fit (upF n 1000000 + 1) (by omega)
  simp only [encTbl_eq] at ci
  refine callR_val T78 rfl ?_
  unfold Tryd.f78
  simp only [Option.getD_some]
  unfold qC at hm
  unfold plC at hk1 hk2 ⊢
  rw [hi] at hk1 hk2
  simp +decide only[go_sem,reduceAdd,reduceMul,reduceSub,e1,e2,hi,g1,g2,hm,u1,ci,hk1,hk2,w1,w2,ho]
  by_cases h : i < cnt.items.length
  · obtain ⟨x, hx⟩ : ∃ x, cnt.items[i]? = some x := ⟨_, List.getElem?_eq_getElem h⟩
    obtain ⟨y, y1, y2⟩ := hcy x hx
    have l1 : ((i : Int) < (cnt.items.length : Int)) = True := eq_true (by omega)
    refine gw (an e1 (an e2 (an hi (an g1 (an g2 (an hm (an u1 (an ci (an hk1 (an hk2 (an w1 (an w2 (an ho (an hx (an y1 (an y2 l1)))))))))))))))) ?_
    cases a2 : (anyCov p.c.items t.keys.items)
    · refine gw (an e1 (an e2 (an hi (an g1 (an g2 (an hm (an u1 (an ci (an hk1 (an hk2 (an w1 (an w2 (an ho (an hx (an y1 (an y2 (an l1 a2))))))))))))))))) ?_
      cases a1 : (anyCov p.c.items (idxL t))
      · refine gw (an e1 (an e2 (an hi (an g1 (an g2 (an hm (an u1 (an ci (an hk1 (an hk2 (an w1 (an w2 (an ho (an hx (an y1 (an y2 (an l1 (an a2 a1)))))))))))))))))) ?_
        simp +decide only[go_sem,reduceAdd,reduceMul,reduceSub,e1,e2,hi,g1,g2,hm,u1,ci,hk1,hk2,w1,w2,ho,hx,y1,y2,l1,a2,a1]
        first | done | exact ⟨rfl, trivial⟩ | trivial
      · refine gw (an e1 (an e2 (an hi (an g1 (an g2 (an hm (an u1 (an ci (an hk1 (an hk2 (an w1 (an w2 (an ho (an hx (an y1 (an y2 (an l1 (an a2 a1)))))))))))))))))) ?_
        simp +decide only[go_sem,reduceAdd,reduceMul,reduceSub,e1,e2,hi,g1,g2,hm,u1,ci,hk1,hk2,w1,w2,ho,hx,y1,y2,l1,a2,a1]
        first | done | exact ⟨rfl, trivial⟩ | trivial
    · refine gw (an e1 (an e2 (an hi (an g1 (an g2 (an hm (an u1 (an ci (an hk1 (an hk2 (an w1 (an w2 (an ho (an hx (an y1 (an y2 (an l1 a2))))))))))))))))) ?_
      cases a1 : (anyCov p.c.items (idxL t))
      · refine gw (an e1 (an e2 (an hi (an g1 (an g2 (an hm (an u1 (an ci (an hk1 (an hk2 (an w1 (an w2 (an ho (an hx (an y1 (an y2 (an l1 (an a2 a1)))))))))))))))))) ?_
        simp +decide only[go_sem,reduceAdd,reduceMul,reduceSub,e1,e2,hi,g1,g2,hm,u1,ci,hk1,hk2,w1,w2,ho,hx,y1,y2,l1,a2,a1]
        first | done | exact ⟨rfl, trivial⟩ | trivial
      · refine gw (an e1 (an e2 (an hi (an g1 (an g2 (an hm (an u1 (an ci (an hk1 (an hk2 (an w1 (an w2 (an ho (an hx (an y1 (an y2 (an l1 (an a2 a1)))))))))))))))))) ?_
        simp +decide only[go_sem,reduceAdd,reduceMul,reduceSub,e1,e2,hi,g1,g2,hm,u1,ci,hk1,hk2,w1,w2,ho,hx,y1,y2,l1,a2,a1]
        first | done | exact ⟨rfl, trivial⟩ | trivial
  · have l1 : ((i : Int) < (cnt.items.length : Int)) = False := eq_false (by omega)
    obtain rfl : n = 0 := hcn h
    refine gw (an e1 (an e2 (an hi (an g1 (an g2 (an hm (an u1 (an ci (an hk1 (an hk2 (an w1 (an w2 (an ho l1))))))))))))) ?_
    cases a2 : (anyCov p.c.items t.keys.items)
    · refine gw (an e1 (an e2 (an hi (an g1 (an g2 (an hm (an u1 (an ci (an hk1 (an hk2 (an w1 (an w2 (an ho (an l1 a2)))))))))))))) ?_
      cases a1 : (anyCov p.c.items (idxL t))
      · refine gw (an e1 (an e2 (an hi (an g1 (an g2 (an hm (an u1 (an ci (an hk1 (an hk2 (an w1 (an w2 (an ho (an l1 (an a2 a1))))))))))))))) ?_
        simp +decide only[go_sem,reduceAdd,reduceMul,reduceSub,e1,e2,hi,g1,g2,hm,u1,ci,hk1,hk2,w1,w2,ho,l1,a2,a1]
        first | done | exact ⟨rfl, trivial⟩ | trivial
      · refine gw (an e1 (an e2 (an hi (an g1 (an g2 (an hm (an u1 (an ci (an hk1 (an hk2 (an w1 (an w2 (an ho (an l1 (an a2 a1))))))))))))))) ?_
        simp +decide only[go_sem,reduceAdd,reduceMul,reduceSub,e1,e2,hi,g1,g2,hm,u1,ci,hk1,hk2,w1,w2,ho,l1,a2,a1]
        first | done | exact ⟨rfl, trivial⟩ | trivial
    · refine gw (an e1 (an e2 (an hi (an g1 (an g2 (an hm (an u1 (an ci (an hk1 (an hk2 (an w1 (an w2 (an ho (an l1 a2)))))))))))))) ?_
      cases a1 : (anyCov p.c.items (idxL t))
      · refine gw (an e1 (an e2 (an hi (an g1 (an g2 (an hm (an u1 (an ci (an hk1 (an hk2 (an w1 (an w2 (an ho (an l1 (an a2 a1))))))))))))))) ?_
        simp +decide only[go_sem,reduceAdd,reduceMul,reduceSub,e1,e2,hi,g1,g2,hm,u1,ci,hk1,hk2,w1,w2,ho,l1,a2,a1]
        first | done | exact ⟨rfl, trivial⟩ | trivial
      · refine gw (an e1 (an e2 (an hi (an g1 (an g2 (an hm (an u1 (an ci (an hk1 (an hk2 (an w1 (an w2 (an ho (an l1 (an a2 a1))))))))))))))) ?_
        simp +decide only[go_sem,reduceAdd,reduceMul,reduceSub,e1,e2,hi,g1,g2,hm,u1,ci,hk1,hk2,w1,w2,ho,l1,a2,a1]
        first | done | exact ⟨rfl, trivial⟩ | trivial
end
end Go.Eng
