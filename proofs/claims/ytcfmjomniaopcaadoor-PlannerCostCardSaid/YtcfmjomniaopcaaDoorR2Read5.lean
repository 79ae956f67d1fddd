/- A part of the proof: see the last text. -/
import Derived.Test.YtcfmjomniaopcaaDoorR2Read3
import Derived.Test.YtcfmjomniaopcaaDoorKR2Cg
import Derived.Test.YtcfmjomniaopcaaDoorKR2Pg
set_option linter.unusedSimpArgs false
set_option linter.unusedVariables false
/- How plans are read. -/
namespace Go.Eng
open Go Go.Proofs
theorem Pl.close (p : PlR) : ∃ e : Pl, encPl e = p.enc := by
  cases hn : p.args.1 with
  | none => exact ⟨⟨_, .leaf p.k p.s p.c p.e p.r⟩, by simp [encPl, PlR.enc, sl, hn]⟩
  | some l =>
    refine ⟨⟨_, .node p.k p.s p.c p.e p.r (l.map encPl) ?_ ?_⟩, by simp [encPl, PlR.enc, sl, hn]⟩
    · have := p.args.lt; simp [Sl.items, hn] at this; simpa using this
    · intro x hx; obtain ⟨y, _, rfl⟩ := List.mem_map.1 hx; exact y.2
section
variable {H : Type} {enc : TypeId × Value → H} {W : World}
theorem ce56 : Tryd.prog.cellsOf 56 = 1 := by kernel_rfl
theorem ce58 : Tryd.prog.cellsOf 58 = 13 := by kernel_rfl
theorem rd56_of {N : Nat} (h : Rd enc Tryd.prog W N 58 fun e : Pl => (encPl e).cells) : Rd enc Tryd.prog W N 56 (fun s : Sl Pl => [sl 13 encPl s]) :=
  (rd_slice Tryd.underlying56 ce58 (by decide) (of_decide_eq_true (by kernel_rfl)) pl_len h).mono (Nat.le_succ N)
theorem rd58 : ∀ (N : Nat), Rd enc Tryd.prog W N 58 fun e : Pl => (encPl e).cells
  | 0 => fun _ _ _ h => absurd h (Nat.not_lt_zero _)
  | N + 1 => (rd_struct Tryd.underlying58 ce58 (rdf_cons rfl ce3 (rd3 N) (rdf_cons rfl ce3 (rd3 N) (rdf_cons rfl ce24 (rd24 N) (rdf_cons rfl ce28 (rd28 N) (rdf_cons rfl ce30 (rd30 N) (rdf_cons rfl ce56 (rd56_of (rd58 N)) rdf_nil))))))).map
    fun ⟨k, s, c, e, r, args, ()⟩ => by
      obtain ⟨x, hx⟩ := Pl.close ⟨k, s, c, e, root r, args⟩
      refine ⟨x, ?_⟩
      rw [hx]
      have := root_eq r
      simp only [this, List.append_nil]; rfl
end
end Go.Eng
