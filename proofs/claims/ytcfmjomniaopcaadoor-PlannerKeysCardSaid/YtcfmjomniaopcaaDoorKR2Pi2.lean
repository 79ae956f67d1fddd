/- A part of the proof: see the last text. -/
import Derived.Test.YtcfmjomniaopcaaDoorR2Ph
import Derived.Test.YtcfmjomniaopcaaDoorKR2Same
set_option linter.unusedSimpArgs false
set_option linter.unusedVariables false
/- Keys, by the reference and by the program; bound statements of a case; plans that are alike. -/
namespace Go.Eng
open Go Go.Proofs
open Nat (reduceAdd reduceMul reduceSub)
set_option maxRecDepth 20000
set_option maxHeartbeats 32000000
theorem ksF_mem {g : Nat → Option Ex} : ∀ {k : Nat} {p : Nat × Ex}, p ∈ ksF g k → g p.1 = some p.2
  | k + 1, p, h => by
    rw [ksF] at h
    split at h
    · rename_i x hx
      rcases List.mem_append.1 h with h | h
      · exact ksF_mem h
      · rw [List.mem_singleton.1 h]; exact hx
    · exact ksF_mem h
theorem frz_box {α : Type} {bs : List (List D)} {tk : List Nat} {k : Nat} {d : D} {f : α → D} {l : List α} (h : BoxL bs k d (l.map f)) (hk : ∀ a, (f a).cells.length = k) (hm : ∀ a, mkEl k (f a).cells = f a) (hs : ∀ (g : Nat → Nat → Nat → Nat → D) a, stripFL g (f a).cells = (f a).cells) :
    stripF (frzM ⟨bs, tk⟩ bs.length) d = outD k (l.map f) := by
  rcases h with ⟨rfl, h⟩ | ⟨id, rfl, h, h0⟩
  · rw [h]; rfl
  · have := frz_rsl (m := ⟨bs, tk⟩) (id := id) (n := l.length) h rfl hk hm hs
    rw [List.length_map]
    show frzM ⟨bs, tk⟩ bs.length id 0 l.length k = _
    rw [show bs.length = (⟨bs, tk⟩ : Mem).boxes.length from rfl, this]
    cases l with
    | nil => exact absurd rfl h0
    | cons a r => rfl
theorem lenT_box {bs : List (List D)} {k : Nat} {d : D} {es : List D} (h : BoxL bs k d es) (P : Program) (u : Nat) : lenT P u d = match sliceElem P u with | some _ => some es.length | none => none := by
  rcases h with ⟨rfl, rfl⟩ | ⟨id, rfl, h, h0⟩
  · exact lenT_nil P u
  · rfl
theorem keys16 (s : Sl Tbl) (b : Bnd) (W : List Nat) (h : WOK s.items b.tabs.items W) (src w : Nat) (hw : W[src]? = some w) (known : Sl I64) (c : Sl Ex) (hc : callP (XG GK) TT 90 [b.w.enc] = some (sl 8 encEx c)) (g : Nat → Option Ex)
    (hg : ∀ (m : Mem) (k : Nat), m.boxes[0]? = some (qC s b (some 1) W c) → callR (XG GK) TT 91 m [.ptr 0 0, .int .i64 ((offW W src + k : Nat) : Int), .int .i64 0, sl 1 I known] = some (gvT (g k), ⟨m.boxes ++ [[.int .i64 ((offW W src + k : Nat) : Int)]], m.toks⟩))
    (hfine : ∀ k x, g k = some x → FineE (encEx x)) :
    callP (XG GK) TT 16 [sl 5 encTbl s, encBnd b, .int .i64 (src : Int), sl 1 I known] = some (.tuple [outD 1 ((ksF g w).map cD), outD 8 ((ksF g w).map kD)]) := by
  have h0 : W ≠ [] := fun e => by rw [e] at hw; cases hw
  have c47 := of47 s b W h h0 c hc
  obtain ⟨r, m', c48, cd, kd, bs, rfl, rfl, hI⟩ := keys48 s b W h src w hw known [W.length + 1] (some 1) c g hg
  generalize W.length + 1 = n at *
  refine callP_val T16 rfl (by simp only [go_sem]) ?_
  unfold Tryd.f16
  simp only [Option.getD_some]
  have hlk := lenT_box hI.kb
  rw [List.length_map] at hlk
  simp only [encBnd_eq] at c47
  have hw20 : w ≤ 20 := by
    obtain ⟨_, _, w', _, _, g3, _, g5⟩ := h.at (i := src) (by have := h.len; have := (List.getElem?_eq_some_iff.1 hw).1; omega)
    rw [hw] at g3; cases g3; exact g5
  have hlen := ksF_len g w
  simp +decide only[go_sem,reduceAdd,reduceMul,reduceSub,c47,c48,hlk]
  refine gw (an c47 (an c48 hlk)) ?_
  refine wpI_loopC (T := Nat) [10, 11, 23, 24] rfl (by simp +decide only[go_sem,reduceAdd,reduceMul,reduceSub,c47,c48,hlk]; exact rfl) (fun k => [(24, .int .i64 (k : Int))]) (fun _ => []) (fun _ => ⟨bs, [n]⟩) (fun k => k ≤ (ksF g w).length) (fun k => (ksF g w).length - k) 0 (by simp +decide only[go_sem,reduceAdd,reduceMul,reduceSub,c47,c48,hlk] <;> rfl) (by simp) ?_
  rintro k hk
  by_cases h1 : k < (ksF g w).length
  · have l_p : ((k : Int) < ((ksF g w).length : Int)) = True := by simp; omega
    obtain ⟨p, g_p⟩ : ∃ a_, (ksF g w)[k]? = some a_ := ⟨_, List.getElem?_eq_getElem (by assumption)⟩
    have w_p := wrap_nat k (by omega)
    have hx := root_eq p.2
    have cp := cpy49 p.2 (hfine p.1 p.2 (ksF_mem (List.mem_of_getElem? g_p)))
    obtain ⟨id, e1, hb, e3⟩ : ∃ id, kd = .rsl id 0 (ksF g w).length 8 ∧ bs[id]? = some (flat ((ksF g w).map kD)) ∧ (ksF g w).map kD ≠ [] := by
      rcases hI.kb with ⟨_, e⟩ | ⟨id, e1, e2, e3⟩
      · rw [List.map_eq_nil_iff] at e; rw [e] at h1; exact absurd h1 (Nat.not_lt_zero _)
      · rw [List.length_map] at e1; exact ⟨id, e1, e2, e3⟩
    subst e1
    have hd := flat_cut (k := 8) (l := (ksF g w).map kD) (i := k) (x := encEx p.2) (map_len kD_len _) (by rw [List.getElem?_map, g_p]; rfl)
    have hf : (flat ((ksF g w).map kD)).length = (ksF g w).length * 8 := by rw [flat_len (map_len kD_len _), List.length_map]
    have ha : D.agg (encEx p.2).cells = encEx p.2 := by rw [hx]; rfl
    have hk8 : (k * 8 + 8 ≤ (ksF g w).length * 8) = True := eq_true (by omega)
    have hok : (encEx p.2).okC = true := by rw [hx]; rfl
    have hset : setRow (flat ((ksF g w).map kD)) (k * 8) (encEx p.2).cells = flat ((ksF g w).map kD) := setRow_same _ _ _ (by rw [ex_len]; exact hd)
    have hbs : bs.set id (flat ((ksF g w).map kD)) = bs := by
      obtain ⟨q1, q2⟩ := List.getElem?_eq_some_iff.1 hb
      rw [← q2]; exact List.set_getElem_self q1
    refine gw (an c47 (an c48 (an hlk (an l_p (an g_p (an w_p (an hb (an cp (an hd (an ha (an hf (an hk8 (an hok (an hset hbs)))))))))))))) ?_
    exact ⟨k + 1, by simp +decide only[go_sem,reduceAdd,reduceMul,reduceSub,c47,c48,hlk,l_p,g_p,w_p] <;> rfl, by omega, by omega⟩
  · have l_e1 : ((k : Int) < ((ksF g w).length : Int)) = False := by simp; omega
    refine gw (an c47 (an c48 (an hlk l_e1))) ?_
    simp +decide only[go_sem,reduceAdd,reduceMul,reduceSub,c47,c48,hlk,l_e1]
    have f1 := frz_box (tk := [n]) hI.cb cD_len cD_mk (fun _ _ => rfl)
    have f2 := frz_box (tk := [n]) hI.kb kD_len kD_mk (fun g a => ex_strip g a.2)
    first | exact ⟨f1, f2⟩ | simp only [f1, f2] | (rw [f1, f2])
end Go.Eng
/- Keys, by the reference and by the program; bound statements of a case; plans that are alike. -/
namespace Go.Eng
open Go Go.Proofs
open Nat (reduceAdd reduceMul reduceSub)
set_option maxRecDepth 20000
set_option maxHeartbeats 32000000
attribute [local irreducible] wpI endP
/-- The reference's two lists. -/
def cT (l : List (Nat × Ex)) : D := match l with | [] => .nil | _ :: _ => .slice (some 1) 1 (l.map cD)
def kT (l : List (Nat × Ex)) : D := match l with | [] => .nil | _ :: _ => .slice (some 2) 8 (l.map kD)
def tT (l : List (Nat × Ex)) : List Nat := match l with | [] => [] | _ :: _ => [l.length, l.length]
theorem el_cT (m : Mem) (l : List (Nat × Ex)) : elemsOf m 1 (cT l) = some (l.map cD) := by cases l <;> simp [cT, elemsOf]
theorem el_kT (m : Mem) (l : List (Nat × Ex)) : elemsOf m 8 (kT l) = some (l.map kD) := by cases l <;> simp [kT, elemsOf]
def tM (l : List (Nat × Ex)) : List Nat := match l with | [] => [1] | _ :: _ => [l.length + 1, l.length]
theorem app_cT (l : List (Nat × Ex)) (p : Nat × Ex) : appendD 1 ⟨[], tT l⟩ (cT l) [cD p] = some (cT (l ++ [p]), ⟨[], tM l⟩) := by
  cases l <;> simp [cT, tT, tM, appendD]
theorem app_kT (l : List (Nat × Ex)) (p : Nat × Ex) : appendD 8 ⟨[], tM l⟩ (kT l) [kD p] = some (kT (l ++ [p]), ⟨[], tT (l ++ [p])⟩) := by
  cases l <;> simp [kT, tT, tM, appendD]
theorem keys17 (s : Sl Tbl) (b : Bnd) (W : List Nat) (h : WOK s.items b.tabs.items W) (src w : Nat) (hw : W[src]? = some w) (known : Sl I64) (g : Nat → Option Ex)
    (hg : ∀ k : Nat, callP (XG GK) TT 50 [sl 5 encTbl s, encBnd b, .int .i64 ((offW W src + k : Nat) : Int), sl 1 I known, opE, opE] = some (gvT (g k))) :
    callP (XG GK) TT 17 [sl 5 encTbl s, encBnd b, .int .i64 (src : Int), sl 1 I known] = some (.tuple [outD 1 ((ksF g w).map cD), outD 8 ((ksF g w).map kD)]) := by
  refine callP_val T17 rfl (by simp only [go_sem]) ?_
  unfold Tryd.f17
  simp only [Option.getD_some]
  have hsrc := (List.getElem?_eq_some_iff.1 hw).1
  have hW := h.len
  have hf := h.few
  have ho := h.off src (by omega)
  obtain ⟨v, t, w', g1, g2, g3, g4, g5⟩ := h.at (i := src) (by omega)
  rw [hw] at g3
  cases g3
  have c51 := first51 (G := GK) s b W h src (by omega)
  simp only [encBnd_eq] at c51
  unfold opE at hg
  simp +decide only[go_sem,reduceAdd,reduceMul,reduceSub,g1,g2,g4,c51]
  refine gw (an g1 (an g2 (an g4 c51))) ?_
  refine wpI_loopC (T := Nat) [0, 2, 3, 5, 10, 11, 12, 13] rfl (by simp +decide only[go_sem,reduceAdd,reduceMul,reduceSub,g1,g2,g4,c51]; exact rfl) (fun k => [(13, .int .i64 (k : Int)), (10, cT (ksF g k)), (11, kT (ksF g k))]) (fun _ => []) (fun k => ⟨[], tT (ksF g k)⟩) (fun k => k ≤ w) (fun k => w - k) 0 (by simp +decide only[go_sem,reduceAdd,reduceMul,reduceSub,g1,g2,g4,c51] <;> rfl) (by simp) ?_
  rintro k hk
  by_cases h1 : k < w
  · have hl : ((k : Int) < (w : Int)) = True := eq_true (by omega)
    have hwk := wrap_nat k (by omega)
    have ha := wrap_add (offW W src) k (by omega)
    have hgk := hg k
    simp only [encBnd_eq] at hgk
    have hlen := ksF_len g k
    cases hgx : g k with
    | none =>
      rw [hgx] at hgk
      simp only [gvT, zeroE] at hgk
      refine gw (an g1 (an g2 (an g4 (an c51 (an hl (an hwk (an ha hgk))))))) ?_
      exact ⟨k + 1, by simp +decide only[go_sem,reduceAdd,reduceMul,reduceSub,g1,g2,g4,c51,hl,hwk,ha,ksF,hgx] <;> rfl, by omega, by omega⟩
    | some x =>
      rw [hgx] at hgk
      have hx := root_eq x
      simp only [ExR_eq] at hx
      simp only [gvT, hx] at hgk
      have e1 := el_cT ⟨[], tT (ksF g k)⟩ (ksF g k)
      have e2 := el_kT ⟨[], tM (ksF g k)⟩ (ksF g k)
      have p1 := app_cT (ksF g k) (k, x)
      have p2 := app_kT (ksF g k) (k, x)
      have hle : ((ksF g k).length + 1 ≤ 16777216) = True := eq_true (by omega)
      simp only [cD, kD, hx] at p1 p2
      repeat (first|(with_reducible first|refine q1 ?_|refine q2 ?_|refine q3 ?_|refine q4 ?_|refine q5 ?_|refine q6 ?_|refine q7 ?_|refine q8 ?_|refine q9 ?_|refine q10 ?_|refine q11 ?_|refine q12 (by decide) ?_)|((first|with_reducible refine q13 ?_|((with_reducible refine q14 ?_ ?_);focus exact rfl));intro K hK;simp +decide only[go_sem,reduceAdd,reduceMul,reduceSub,g1,g2,g4,c51,hl,hwk,ha,hgk,e1,e2,p1,p2,hle,List.length_map];with_reducible refine hK _ ?_;clear hK K)|(with_reducible refine q15 ?_;intro K J hK hJ;simp +decide only[go_sem,reduceAdd,reduceMul,reduceSub,g1,g2,g4,c51,hl,hwk,ha,hgk,e1,e2,p1,p2,hle,List.length_map];(with_reducible first|refine hK ?_|refine hJ ?_);clear hK hJ K J))
      exact ⟨k + 1, by simp +decide only[go_sem,reduceAdd,reduceMul,reduceSub,g1,g2,g4,c51,hl,hwk,ha,ksF,hgx] <;> rfl, by omega, by omega⟩
  · have hl : ((k : Int) < (w : Int)) = False := eq_false (by omega)
    obtain rfl : k = w := by omega
    refine gw (an g1 (an g2 (an g4 (an c51 hl)))) ?_
    simp +decide only[go_sem,reduceAdd,reduceMul,reduceSub,g1,g2,g4,c51]
    have s1 : ∀ q, stripF q (cT (ksF g k)) = outD 1 ((ksF g k).map cD) := fun q => by
      cases ksF g k with
      | nil => rfl
      | cons a r => simp only [cT, stripF_slice, stripFL_map cD (fun _ => rfl)]; rfl
    have s2 : ∀ q, stripF q (kT (ksF g k)) = outD 8 ((ksF g k).map kD) := fun q => by
      cases ksF g k with
      | nil => rfl
      | cons a r => simp only [kT, stripF_slice, stripFL_map kD (fun p => strip_Ex p.2)]; rfl
    first | exact ⟨s1 _, s2 _⟩ | simp only [s1, s2]
end Go.Eng
