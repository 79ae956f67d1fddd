/- A part of the proof: see the last text. -/
import Derived.Test.YtcfmjomniaopcaaDoorR2Ph
import Derived.Test.YtcfmjomniaopcaaDoorKR2Same
import Derived.Test.YtcfmjomniaopcaaDoorR2Po
set_option linter.unusedSimpArgs false
set_option linter.unusedVariables false
/- Keys, by the reference and by the program; bound statements of a case; plans that are alike. -/
namespace Go.Eng
open Go Go.Proofs
open Nat (reduceAdd reduceMul reduceSub)
set_option maxRecDepth 20000
set_option maxHeartbeats 32000000
attribute [local irreducible] wpI endP
/-- The reference's two lists. -/
def cT (l : List (Nat × Ex)) : D := match l with | [] => .nil | _ :: _ => .slice (some 1) 1 (l.map cD)
def kT (l : List (Nat × Ex)) : D := match l with | [] => .nil | _ :: _ => .slice (some 2) 8 (l.map kD)
def tT (l : List (Nat × Ex)) : List Nat := match l with | [] => [] | _ :: _ => [l.length, l.length]
def tM (l : List (Nat × Ex)) : List Nat := match l with | [] => [1] | _ :: _ => [l.length + 1, l.length]
end Go.Eng
/- Same: a plan is the same as itself. -/
namespace Go.Eng
open Go Go.Proofs
open Nat (reduceAdd reduceMul reduceSub)
set_option maxRecDepth 20000
set_option maxHeartbeats 32000000
def zeroR : ExR := ⟨⟨0, by decide⟩, [], [], ⟨0, by decide⟩, ⟨0, by decide⟩, ⟨0, by decide⟩, [], ⟨none, by simp⟩⟩
def plK (e : Ex) : D := .agg [.int .i64 0, .int .i64 0, .nil, .slice none 8 [encEx e], .int .i64 0, .str [], .str [], .int .i64 0, .int .i64 0, .int .i64 0, .str [], .nil, .nil]
end Go.Eng
/- The keys of a source, by the program and by the reference: the same lists. -/
namespace Go.Eng
open Go Go.Proofs
theorem BinN.fine {n : Nat} {d : D} (h : BinN n d) : FineE d := by
  induction h with
  | mk n r h2 hA k ih => exact .mk r (by omega) ih
theorem CjL.bin {d : D} {L : List Ex} (h : CjL d L) : ∀ n, BinN n d → ∀ e ∈ L, ∃ m, BinN m (encEx e) := by
  induction h with
  | none r h0 => intro n _ e he; cases he
  | one e r he h0 h1 => intro n hb x hx; rw [List.mem_singleton.1 hx]; exact ⟨n, hb⟩
  | and r x y h18 hx A B ha hb iha ihb =>
    intro n hn e he
    obtain ⟨m, r', h1, h2, _, _, hk⟩ := hn.open
    have hmem : ∀ z ∈ r.args.items, BinN m (encEx z) := by
      have h3 : sl 8 encEx r.args = sl 8 encEx r'.args := by
        simp only [ExR_eq, D.agg.injEq, List.cons.injEq] at h2; exact h2.2.2.2.2.2.2.2.1
      have h4 := elems_sl (k := 8) (f := encEx) (s := r.args) (m := ⟨[], []⟩)
      have h5 := elems_sl (k := 8) (f := encEx) (s := r'.args) (m := ⟨[], []⟩)
      rw [h3, h5] at h4
      have h6 : r'.args.items.map encEx = r.args.items.map encEx := Option.some.inj h4
      intro z hz
      have h7 : encEx z ∈ r.args.items.map encEx := List.mem_map.2 ⟨z, hz, rfl⟩
      rw [← h6] at h7
      obtain ⟨z', hz', e'⟩ := List.mem_map.1 h7
      rw [← e']; exact hk z' hz'
    rcases List.mem_append.1 he with he | he
    · exact iha m (hmem x (by rw [hx]; simp)) e he
    · exact ihb m (hmem y (by rw [hx]; simp)) e he
end Go.Eng
