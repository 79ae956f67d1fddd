/- A part of the proof: see the last text. -/
import Derived.Test.YtcfmjomniaopcaaDoorEngV
import Derived.Test.YtcfmjomniaopcaaDoorKR2Few
set_option linter.unusedSimpArgs false
set_option linter.unusedVariables false
/- How the data of schemas are read. -/
namespace Go.Eng
open Go Go.Proofs
section
variable {H : Type} {enc : TypeId × Value → H} {W : World}
theorem rds {t e k : Nat} (ht : Tryd.prog.underlying t = some (.slice e)) (hk : Tryd.prog.cellsOf e = k) (hk0 : 0 < k) (hb : 1 ≤ Tryd.prog.bytesOf e) {α : Type} {f : α → D} (hc : ∀ a, (f a).cells.length = k)
    (h : ∀ N, Rd enc Tryd.prog W N e fun a => (f a).cells) (N : Nat) : Rd enc Tryd.prog W N t (fun s : Sl α => [sl k f s]) := (rd_slice ht hk hk0 hb hc (h N)).mono (Nat.le_succ N)
theorem rdt {t len : Nat} {fs : Array Field} (ht : Tryd.prog.underlying t = some (.struct fs)) (hl : Tryd.prog.cellsOf t = len) {α : Type} {c : α → List D} (h : ∀ N, RdF enc Tryd.prog W N fs.toList 0 len c) (N : Nat) : Rd enc Tryd.prog W N t c :=
  (rd_struct ht hl (h N)).mono (Nat.le_succ N)
theorem ce3 : Tryd.prog.cellsOf 3 = 1 := by kernel_rfl
theorem ce2 : Tryd.prog.cellsOf 2 = 1 := by kernel_rfl
theorem ce9 : Tryd.prog.cellsOf 9 = 1 := by kernel_rfl
theorem ce4 : Tryd.prog.cellsOf 4 = 1 := by kernel_rfl
theorem ce24 : Tryd.prog.cellsOf 24 = 1 := by kernel_rfl
theorem ce25 : Tryd.prog.cellsOf 25 = 1 := by kernel_rfl
theorem ce27 : Tryd.prog.cellsOf 27 = 3 := by kernel_rfl
theorem ce28 : Tryd.prog.cellsOf 28 = 1 := by kernel_rfl
theorem ce30 : Tryd.prog.cellsOf 30 = 8 := by kernel_rfl
theorem ce33 : Tryd.prog.cellsOf 33 = 1 := by kernel_rfl
theorem ce69 : Tryd.prog.cellsOf 69 = 1 := by kernel_rfl
theorem ce70 : Tryd.prog.cellsOf 70 = 1 := by kernel_rfl
theorem ce72 : Tryd.prog.cellsOf 72 = 5 := by kernel_rfl
theorem ce80 : Tryd.prog.cellsOf 80 = 6 := by kernel_rfl
theorem ce114 : Tryd.prog.cellsOf 114 = 3 := by kernel_rfl
theorem rd3 (N : Nat) : Rd enc Tryd.prog W N 3 (fun n : I64 => [.int .i64 n.1]) := rd_int Tryd.underlying3
theorem rd2 (N : Nat) : Rd enc Tryd.prog W N 2 (fun n : I64 => [.int .i64 n.1]) := rd_int Tryd.underlying2
theorem rd9 (N : Nat) : Rd enc Tryd.prog W N 9 (fun s : Str => [.str s]) := rd_str Tryd.underlying9
theorem rd4 (N : Nat) : Rd enc Tryd.prog W N 4 (fun b : Bool => [.bool b]) := rd_bool Tryd.underlying4
theorem rd24 (N : Nat) : Rd enc Tryd.prog W N 24 (fun s : Sl I64 => [sl 1 I s]) := rds Tryd.underlying24 ce3 (by decide) (of_decide_eq_true (by kernel_rfl)) (fun _ => rfl) rd3 N
theorem rd69 (N : Nat) : Rd enc Tryd.prog W N 69 (fun s : Sl (Sl I64) => [sl 1 (sl 1 I) s]) :=
  rds Tryd.underlying69 ce24 (by decide) (of_decide_eq_true (by kernel_rfl)) (fun a => by rw [cells_sl]; rfl) (fun N => (rd24 N).map fun a => ⟨a, by rw [cells_sl]⟩) N
theorem rd27 (N : Nat) : Rd enc Tryd.prog W N 27 (fun p : I64 × I64 × Str => [.int .i64 p.1.1, .int .i64 p.2.1.1, .str p.2.2]) :=
  (rdt Tryd.underlying27 ce27 (fun N => rdf_cons rfl ce3 (rd3 N) (rdf_cons rfl ce2 (rd2 N) (rdf_cons rfl ce9 (rd9 N) rdf_nil))) N).map fun ⟨a, b, c, ()⟩ => ⟨(a, b, c), rfl⟩
theorem rd80 (N : Nat) : Rd enc Tryd.prog W N 80 (fun c : Col => (encCol c).cells) :=
  (rdt Tryd.underlying80 ce80 (fun N => rdf_cons rfl ce9 (rd9 N) (rdf_cons rfl ce3 (rd3 N) (rdf_cons rfl ce2 (rd2 N) (rdf_cons rfl ce2 (rd2 N) (rdf_cons rfl ce3 (rd3 N) (rdf_cons rfl ce4 (rd4 N) rdf_nil)))))) N).map
    fun ⟨a, b, c, d, e, f, ()⟩ => ⟨⟨a, b, c, d, e, f⟩, rfl⟩
theorem rd33 (N : Nat) : Rd enc Tryd.prog W N 33 (fun s : Sl Col => [sl 6 encCol s]) := rds Tryd.underlying33 ce80 (by decide) (of_decide_eq_true (by kernel_rfl)) (fun _ => rfl) rd80 N
theorem rd114 (N : Nat) : Rd enc Tryd.prog W N 114 (fun c : Fgn => (encFgn c).cells) :=
  (rdt Tryd.underlying114 ce114 (fun N => rdf_cons rfl ce24 (rd24 N) (rdf_cons rfl ce3 (rd3 N) (rdf_cons rfl ce3 (rd3 N) rdf_nil))) N).map fun ⟨a, b, c, ()⟩ => ⟨⟨a, b, c⟩, rfl⟩
theorem rd70 (N : Nat) : Rd enc Tryd.prog W N 70 (fun s : Sl Fgn => [sl 3 encFgn s]) := rds Tryd.underlying70 ce114 (by decide) (of_decide_eq_true (by kernel_rfl)) (fun _ => rfl) rd114 N
theorem rd28_of {N : Nat} (h : Rd enc Tryd.prog W N 30 fun e : Ex => (encEx e).cells) : Rd enc Tryd.prog W N 28 (fun s : Sl Ex => [sl 8 encEx s]) :=
  (rd_slice Tryd.underlying28 ce30 (by decide) (of_decide_eq_true (by kernel_rfl)) ex_len h).mono (Nat.le_succ N)
theorem rd30 : ∀ (N : Nat), Rd enc Tryd.prog W N 30 fun e : Ex => (encEx e).cells
  | 0 => fun _ _ _ h => absurd h (Nat.not_lt_zero _)
  | N + 1 => (rd_struct Tryd.underlying30 ce30 (rdf_cons rfl ce3 (rd3 N) (rdf_cons rfl ce9 (rd9 N) (rdf_cons rfl ce9 (rd9 N) (rdf_cons rfl ce3 (rd3 N) (rdf_cons rfl ce27 (rd27 N) (rdf_cons rfl ce28 (rd28_of (rd30 N)) rdf_nil))))))).map
    fun ⟨a, s, t, b, (c, d, u), args, ()⟩ => by
      obtain ⟨e, he⟩ := Ex.close ⟨a, s, t, b, c, d, u, args⟩
      exact ⟨e, by rw [he]; rfl⟩
theorem rd28 (N : Nat) : Rd enc Tryd.prog W N 28 (fun s : Sl Ex => [sl 8 encEx s]) := rd28_of (rd30 N)
theorem rd72 (N : Nat) : Rd enc Tryd.prog W N 72 (fun c : Tbl => (encTbl c).cells) :=
  (rdt Tryd.underlying72 ce72 (fun N => rdf_cons rfl ce9 (rd9 N) (rdf_cons rfl ce33 (rd33 N) (rdf_cons rfl ce69 (rd69 N) (rdf_cons rfl ce70 (rd70 N) (rdf_cons rfl ce28 (rd28 N) rdf_nil))))) N).map
    fun ⟨a, b, c, d, e, ()⟩ => ⟨⟨a, b, c, d, e⟩, rfl⟩
theorem rd23 (N : Nat) : Rd enc Tryd.prog W N 23 (fun s : Sl Tbl => [sl 5 encTbl s]) := rds Tryd.underlying23 ce72 (by decide) (of_decide_eq_true (by kernel_rfl)) (fun _ => rfl) rd72 N
end
end Go.Eng
