/- A part of the proof: see the last text. -/
import Derived.Test.YtcfmjomniaopcaaGreatDoorR2Copy
set_option linter.unusedSimpArgs false
set_option linter.unusedVariables false
/- Foreign keys: how the program finds them. -/
namespace Go.Eng
open Go Go.Proofs
open Nat (reduceAdd reduceMul reduceSub)
set_option maxRecDepth 20000
set_option maxHeartbeats 32000000
/-- What a foreign key of a statement is in a schema: it, the table, the numbers of the columns there. pk: which of equal keys. -/
def fgnOf (pk : (Sl I64 → Bool) → List (Sl I64) → Option Nat) (s : List Tbl) (cols : List Col) (f : FgS) : Option (Fgn × Tbl × List I64) :=
  match numsL cols [] f.cols.items, fnd (fun t : Tbl => t.name == f.table) 0 s with
  | some a, some n => (match s[n]? with
    | some u => (match numsL u.cols.items [] f.refs.items with
      | some b => (match pk (fun k => eqI k.items b) u.keys.items with
        | some j => some (⟨cn a, iN n, iN j⟩, u, b)
        | none => none)
      | none => none)
    | none => none)
  | _, _ => none
def fgT : Option (Fgn × Tbl × List I64) → D
  | some (g, _, _) => .tuple [encFgn g, .int .i64 0]
  | none => .tuple [.agg [.nil, .int .i64 0, .int .i64 0], .int .i64 4]
theorem numsL_len (cols : List Col) : ∀ (l : List Str) (acc r : List I64), numsL cols acc l = some r → r.length = acc.length + l.length
  | [], acc, r, h => by cases h; rfl
  | n :: t, acc, r, h => by
    rw [numsL] at h
    cases hf : fnd (fun c : Col => c.name == n) 0 cols with
    | none => rw [hf] at h; cases h
    | some k =>
      rw [hf] at h
      have := numsL_len cols t _ r h
      simp at this ⊢; omega
theorem eq154 (a b : Sl I64) (m : Mem) (id : Nat) (hm : m.boxes[id]? = some [sl 1 I b]) : callR (XG GK) TT 70 m [sl 1 I a, .ptr id 0] = some (.bool (eqI a.items b.items), m) := by
  refine callR_val T70 rfl ?_
  unfold Tryz.f70
  simp only [Option.getD_some]
  have c := equal120 (G := GK) a b
  simp +decide only[go_sem,reduceAdd,reduceMul,reduceSub,hm,c]
  refine gw (an hm c) ?_
  simp +decide only[go_sem,reduceAdd,reduceMul,reduceSub,hm,c]
theorem fgn99 (s : Sl Tbl) (t : Tbl) (f : FgS) (ht : s.items[s.items.length - 1]? = some t) (hf : f.cols.items.length ≤ 20 ∧ f.refs.items.length ≤ 20) : callP (XG GK) TT 39 [sl 5 encTbl s, encFgS f] = some (fgT (fgnOf (fun p l => fnd p 0 l) s.items t.cols.items f)) := by
  have hpos : s.items.length - 1 < s.items.length := (List.getElem?_eq_some_iff.1 ht).1
  have hslt := s.lt
  refine callP_val T39 rfl (by simp only [go_sem, strip_FgS]) ?_
  unfold Tryz.f39
  simp only [Option.getD_some]
  have w1 : IntKind.i64.wrap ((s.items.length : Int) - 1) = ((s.items.length - 1 : Nat) : Int) := by rw [wrap_fit _ (by omega)]; omega
  have c1 := numbers97 (G := GK) t f.cols (by omega)
  have c2 := find25 (G := GK) s f.table
  simp only [encTbl_eq] at c1
  unfold fgnOf
  have hl1 := numsL_len t.cols.items f.cols.items []
  generalize numsL t.cols.items [] f.cols.items = o1 at *
  have fl := @fnd_lt _ (fun t : Tbl => t.name == f.table) s.items
  generalize fnd (fun t : Tbl => t.name == f.table) 0 s.items = o2 at *
  cases o1 with
  | none =>
    simp only [numsT] at c1
    cases o2 with
    | none =>
      simp only [fndT] at c2
      simp +decide only[go_sem,reduceAdd,reduceMul,reduceSub,w1,ht,c1,c2]
      refine gw (an w1 (an ht (an c1 c2))) ?_
      simp +decide only[go_sem,reduceAdd,reduceMul,reduceSub,w1,ht,c1,c2]
      rfl
    | some n =>
      simp only [fndT] at c2
      simp +decide only[go_sem,reduceAdd,reduceMul,reduceSub,w1,ht,c1,c2]
      refine gw (an w1 (an ht (an c1 c2))) ?_
      simp +decide only[go_sem,reduceAdd,reduceMul,reduceSub,w1,ht,c1,c2]
      rfl
  | some a =>
    have ha := hl1 a rfl
    simp only [numsT] at c1
    rw [out_cn 1 I (by simp at ha; omega)] at c1
    cases o2 with
    | none =>
      simp only [fndT] at c2
      simp +decide only[go_sem,reduceAdd,reduceMul,reduceSub,w1,ht,c1,c2]
      refine gw (an w1 (an ht (an c1 c2))) ?_
      simp +decide only[go_sem,reduceAdd,reduceMul,reduceSub,w1,ht,c1,c2]
      rfl
    | some n =>
      have fl := fl rfl
      simp only [fndT] at c2
      obtain ⟨u, hu⟩ : ∃ u, s.items[n]? = some u := ⟨_, List.getElem?_eq_getElem fl⟩
      have c3 := numbers97 (G := GK) u f.refs (by omega)
      simp only [encTbl_eq] at c3
      simp only [hu]
      have hl2 := numsL_len u.cols.items f.refs.items []
      generalize numsL u.cols.items [] f.refs.items = o3 at *
      cases o3 with
      | none =>
        simp only [numsT] at c3
        have c4 := ixf153 u.keys 70 [.ptr 0 0] ⟨[[.nil]], []⟩ (fun k => eqI k.items []) (eq_true (by decide)) fun k _ => eq154 k ⟨none, by simp⟩ _ _ rfl
        generalize fnd (fun k : Sl I64 => eqI k.items []) 0 u.keys.items = o4 at *
        obtain ⟨i, hi⟩ : ∃ i, fndI o4 = .int .i64 i := by cases o4 <;> exact ⟨_, rfl⟩
        rw [hi] at c4
        simp +decide only[go_sem,reduceAdd,reduceMul,reduceSub,w1,ht,c1,c2,hu,c3,c4]
        refine gw (an w1 (an ht (an c1 (an c2 (an hu (an c3 c4)))))) ?_
        simp +decide only[go_sem,reduceAdd,reduceMul,reduceSub,w1,ht,c1,c2,hu,c3,c4]
        rfl
      | some b =>
        have hb := hl2 b rfl
        have hbl : b.length < 4611686018427387904 := by simp at hb; omega
        simp only [numsT] at c3
        rw [out_cn 1 I hbl] at c3
        have c4 := ixf153 u.keys 70 [.ptr 0 0] ⟨[[sl 1 I (cn b)]], []⟩ (fun k => eqI k.items b) (eq_true (by decide)) fun k _ => by
          have := eq154 k (cn b) ⟨[[sl 1 I (cn b)]], []⟩ 0 rfl
          rw [cn_items hbl] at this; exact this
        have fl4 := @fnd_lt _ (fun k : Sl I64 => eqI k.items b) u.keys.items
        have hkl := u.keys.lt
        dsimp only
        generalize fnd (fun k : Sl I64 => eqI k.items b) 0 u.keys.items = o4 at *
        cases o4 with
        | none =>
          simp only [fndI] at c4
          simp +decide only[go_sem,reduceAdd,reduceMul,reduceSub,w1,ht,c1,c2,hu,c3,c4]
          refine gw (an w1 (an ht (an c1 (an c2 (an hu (an c3 c4)))))) ?_
          simp +decide only[go_sem,reduceAdd,reduceMul,reduceSub,w1,ht,c1,c2,hu,c3,c4]
          rfl
        | some j =>
          have fl4 := fl4 rfl
          simp only [fndI] at c4
          have hj : ((j : Int) < 0) = False := eq_false (by omega)
          simp +decide only[go_sem,reduceAdd,reduceMul,reduceSub,w1,ht,c1,c2,hu,c3,c4]
          refine gw (an w1 (an ht (an c1 (an c2 (an hu (an c3 (an c4 hj))))))) ?_
          simp +decide only[go_sem,reduceAdd,reduceMul,reduceSub,w1,ht,c1,c2,hu,c3,c4]
          simp only [fgT, encFgn, iN_1 (show n < 4611686018427387904 by omega), iN_1 (show j < 4611686018427387904 by omega)]
end Go.Eng
