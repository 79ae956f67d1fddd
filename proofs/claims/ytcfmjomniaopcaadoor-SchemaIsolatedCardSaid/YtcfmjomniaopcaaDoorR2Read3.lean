/- A part of the proof: see the last text. -/
import Derived.Test.YtcfmjomniaopcaaDoorR2Read
import Derived.Test.YtcfmjomniaopcaaDoorR2Copy
set_option linter.unusedSimpArgs false
set_option linter.unusedVariables false
/- How statements are read. -/
namespace Go.Eng
open Go Go.Proofs
theorem ce34 : Tryd.prog.cellsOf 34 = 1 := by kernel_rfl
theorem ce35 : Tryd.prog.cellsOf 35 = 1 := by kernel_rfl
theorem ce37 : Tryd.prog.cellsOf 37 = 4 := by kernel_rfl
theorem ce38 : Tryd.prog.cellsOf 38 = 1 := by kernel_rfl
theorem ce39 : Tryd.prog.cellsOf 39 = 1 := by kernel_rfl
theorem ce40 : Tryd.prog.cellsOf 40 = 1 := by kernel_rfl
theorem ce41 : Tryd.prog.cellsOf 41 = 1 := by kernel_rfl
theorem ce42 : Tryd.prog.cellsOf 42 = 1 := by kernel_rfl
theorem ce44 : Tryd.prog.cellsOf 44 = 22 := by kernel_rfl
theorem ce98 : Tryd.prog.cellsOf 98 = 2 := by kernel_rfl
theorem ce117 : Tryd.prog.cellsOf 117 = 3 := by kernel_rfl
theorem ce222 : Tryd.prog.cellsOf 222 = 10 := by kernel_rfl
theorem ce224 : Tryd.prog.cellsOf 224 = 9 := by kernel_rfl
theorem ce226 : Tryd.prog.cellsOf 226 = 2 := by kernel_rfl
def eSet (p : Str × I64 × Ex) : D := .agg (.str p.1 :: .int .i64 p.2.1.1 :: (encEx p.2.2).cells)
def eItem (p : I64 × Ex) : D := .agg (.int .i64 p.1.1 :: (encEx p.2).cells)
def eSrc (p : Str × Str) : D := .agg [.str p.1, .str p.2]
def eOrd (p : I64 × Bool) : D := .agg [.int .i64 p.1.1, .bool p.2]
theorem eSet_strip (g : Nat → Nat → Nat → Nat → D) (p : Str × I64 × Ex) : stripF g (eSet p) = eSet p := by
  simp only [eSet, stripF_agg, stripFL_cons, ex_strip]; rfl
theorem eItem_strip (g : Nat → Nat → Nat → Nat → D) (p : I64 × Ex) : stripF g (eItem p) = eItem p := by
  simp only [eItem, stripF_agg, stripFL_cons, ex_strip]; rfl
section
variable {H : Type} {enc : TypeId × Value → H} {W : World}
theorem rd25 (N : Nat) : Rd enc Tryd.prog W N 25 (fun s : Sl Str => [sl 1 S s]) := rds Tryd.underlying25 ce9 (by decide) (of_decide_eq_true (by kernel_rfl)) (fun _ => rfl) rd9 N
theorem rd34 (N : Nat) : Rd enc Tryd.prog W N 34 (fun s : Sl (Sl Str) => [sl 1 (sl 1 S) s]) :=
  rds Tryd.underlying34 ce25 (by decide) (of_decide_eq_true (by kernel_rfl)) (fun a => by rw [cells_sl]; rfl) (fun N => (rd25 N).map fun a => ⟨a, by rw [cells_sl]⟩) N
theorem rd117 (N : Nat) : Rd enc Tryd.prog W N 117 (fun c : FgS => (encFgS c).cells) :=
  (rdt Tryd.underlying117 ce117 (fun N => rdf_cons rfl ce25 (rd25 N) (rdf_cons rfl ce9 (rd9 N) (rdf_cons rfl ce25 (rd25 N) rdf_nil))) N).map fun ⟨a, b, c, ()⟩ => ⟨⟨a, b, c⟩, rfl⟩
theorem rd35 (N : Nat) : Rd enc Tryd.prog W N 35 (fun s : Sl FgS => [sl 3 encFgS s]) := rds Tryd.underlying35 ce117 (by decide) (of_decide_eq_true (by kernel_rfl)) (fun _ => rfl) rd117 N
theorem rd37 (N : Nat) : Rd enc Tryd.prog W N 37 (fun p : Sl Col × Sl (Sl Str) × Sl FgS × Sl Ex => [sl 6 encCol p.1, sl 1 (sl 1 S) p.2.1, sl 3 encFgS p.2.2.1, sl 8 encEx p.2.2.2]) :=
  (rdt Tryd.underlying37 ce37 (fun N => rdf_cons rfl ce33 (rd33 N) (rdf_cons rfl ce34 (rd34 N) (rdf_cons rfl ce35 (rd35 N) (rdf_cons rfl ce28 (rd28 N) rdf_nil)))) N).map fun ⟨a, b, c, d, ()⟩ => ⟨(a, b, c, d), rfl⟩
theorem rd38 (N : Nat) : Rd enc Tryd.prog W N 38 (fun s : Sl (Sl Ex) => [sl 1 (sl 8 encEx) s]) :=
  rds Tryd.underlying38 ce28 (by decide) (of_decide_eq_true (by kernel_rfl)) (fun a => by rw [cells_sl]; rfl) (fun N => (rd28 N).map fun a => ⟨a, by rw [cells_sl]⟩) N
theorem rd222 (N : Nat) : Rd enc Tryd.prog W N 222 (fun p => (eSet p).cells) :=
  (rdt Tryd.underlying222 ce222 (fun N => rdf_cons rfl ce9 (rd9 N) (rdf_cons rfl ce3 (rd3 N) (rdf_cons rfl ce30 (rd30 N) rdf_nil))) N).map fun ⟨a, b, c, ()⟩ => ⟨(a, b, c), by simp only [List.append_nil]; rfl⟩
theorem rd39 (N : Nat) : Rd enc Tryd.prog W N 39 (fun s : Sl (Str × I64 × Ex) => [sl 10 eSet s]) := rds Tryd.underlying39 ce222 (by decide) (of_decide_eq_true (by kernel_rfl)) (fun a => by simp only [eSet, cells_agg, List.length_cons, ex_len]) rd222 N
theorem rd224 (N : Nat) : Rd enc Tryd.prog W N 224 (fun p => (eItem p).cells) :=
  (rdt Tryd.underlying224 ce224 (fun N => rdf_cons rfl ce3 (rd3 N) (rdf_cons rfl ce30 (rd30 N) rdf_nil)) N).map fun ⟨a, b, ()⟩ => ⟨(a, b), by simp only [List.append_nil]; rfl⟩
theorem rd40 (N : Nat) : Rd enc Tryd.prog W N 40 (fun s : Sl (I64 × Ex) => [sl 9 eItem s]) := rds Tryd.underlying40 ce224 (by decide) (of_decide_eq_true (by kernel_rfl)) (fun a => by simp only [eItem, cells_agg, List.length_cons, ex_len]) rd224 N
theorem rd98 (N : Nat) : Rd enc Tryd.prog W N 98 (fun p => (eSrc p).cells) :=
  (rdt Tryd.underlying98 ce98 (fun N => rdf_cons rfl ce9 (rd9 N) (rdf_cons rfl ce9 (rd9 N) rdf_nil)) N).map fun ⟨a, b, ()⟩ => ⟨(a, b), rfl⟩
theorem rd41 (N : Nat) : Rd enc Tryd.prog W N 41 (fun s : Sl (Str × Str) => [sl 2 eSrc s]) := rds Tryd.underlying41 ce98 (by decide) (of_decide_eq_true (by kernel_rfl)) (fun _ => rfl) rd98 N
theorem rd226 (N : Nat) : Rd enc Tryd.prog W N 226 (fun p => (eOrd p).cells) :=
  (rdt Tryd.underlying226 ce226 (fun N => rdf_cons rfl ce3 (rd3 N) (rdf_cons rfl ce4 (rd4 N) rdf_nil)) N).map fun ⟨a, b, ()⟩ => ⟨(a, b), rfl⟩
theorem rd42 (N : Nat) : Rd enc Tryd.prog W N 42 (fun s : Sl (I64 × Bool) => [sl 2 eOrd s]) := rds Tryd.underlying42 ce226 (by decide) (of_decide_eq_true (by kernel_rfl)) (fun _ => rfl) rd226 N
/-- What a statement holds beside CREATE TABLE. -/
def restOf (v : Sl (Sl Ex)) (st : Sl (Str × I64 × Ex)) (it : Sl (I64 × Ex)) (fr : Sl (Str × Str)) (wh : Ex) (gr : Sl Ex) (od : Sl (I64 × Bool)) (li : I64) (nm : Str) : Rest 16 :=
  ⟨sl 1 (sl 8 encEx) v :: sl 10 eSet st :: sl 9 eItem it :: sl 2 eSrc fr :: ((encEx wh).cells ++ [sl 8 encEx gr, sl 2 eOrd od, .int .i64 li.1, .str nm]), by simp only [List.length_cons, List.length_append, ex_len, List.length_nil], fun g => by
    simp only [stripFL_cons, stripFL_append, ex_strip, strip_sl 1 (sl 8 encEx) v (fun x => strip_slEx 8 x), strip_sl 10 eSet st (eSet_strip g), strip_sl 9 eItem it (eItem_strip g), strip_sl 2 eSrc fr (fun _ => rfl), strip_slEx, strip_sl 2 eOrd od (fun _ => rfl)]
    rfl⟩
theorem rd44 (N : Nat) : Rd enc Tryd.prog W N 44 (fun s : Stm => (encStm s).cells) :=
  (rdt Tryd.underlying44 ce44 (fun N => rdf_cons rfl ce3 (rd3 N) (rdf_cons rfl ce9 (rd9 N) (rdf_cons rfl ce37 (rd37 N) (rdf_cons rfl ce38 (rd38 N) (rdf_cons rfl ce39 (rd39 N) (rdf_cons rfl ce40 (rd40 N) (rdf_cons rfl ce41 (rd41 N) (rdf_cons rfl ce30 (rd30 N) (rdf_cons rfl ce28 (rd28 N) (rdf_cons rfl ce42 (rd42 N) (rdf_cons rfl ce3 (rd3 N) (rdf_cons rfl ce9 (rd9 N) rdf_nil)))))))))))) N).map
    fun ⟨a, b, (c1, c2, c3, c4), v, st, it, fr, wh, gr, od, li, nm, ()⟩ => ⟨⟨a, b, c1, c2, c3, c4, restOf v st it fr wh gr od li nm⟩, rfl⟩
theorem rd60 (N : Nat) : Rd enc Tryd.prog W N 60 (fun s : Sl Stm => [sl 22 encStm s]) := rds Tryd.underlying60 ce44 (by decide) (of_decide_eq_true (by kernel_rfl)) (fun a => by simp only [encStm, cells_agg, List.length_cons, rest_len]) rd44 N
end
end Go.Eng
