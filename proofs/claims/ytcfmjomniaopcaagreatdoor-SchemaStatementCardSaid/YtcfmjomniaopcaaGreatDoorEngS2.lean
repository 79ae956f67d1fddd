/- Part of the engine that proves it: see the last text. -/
import Derived.Test.YtcfmjomniaopcaaGreatDoorEngU
set_option linter.unusedSimpArgs false
set_option linter.unusedVariables false
/- More equations: strings and rows of bytes. -/
namespace Go.Eng
open Go
variable {X : Ctx} {m : Mem} {st : St}
@[go_sem] theorem make_convert (bx : Bool) (s d : Nat) (x : Operand) : makeD X bx m st (.convert s d x) = match isStr X.P s && bytesTy X.P d, ev X st x with
    | true, .str s => bif decide (s.length ≤ 16777216) then some (.rsl m.boxes.length 0 s.length 1, { m with boxes := m.boxes ++ [s.map byteD] }) else none
    | _, _ => none := rfl
@[go_sem] theorem strOf_rsl (id off len : Nat) : strOf m (.rsl id off len 1) = match m.boxes[id]? with
    | some cs => bif decide (off + len ≤ cs.length) then (match bytesOf ((cs.drop off).take len) with | some l => some (.str l) | none => none) else none
    | none => none := rfl
@[go_sem] theorem strOf_slice (t : Option Nat) (es : List D) : strOf m (.slice t 1 es) = match bytesOf es with | some l => some (.str l) | none => none := rfl
@[go_sem] theorem strOf_nil : strOf m .nil = some (.str []) := rfl
@[go_sem] theorem bin_lss_str (P : Program) (t : Nat) (a b : List UInt8) : binD P t .lss (.str a) (.str b) = some (.bool (Op.bytesLess a b)) := rfl
@[go_sem] theorem bin_shr (P : Program) (t : Nat) (k k' : IntKind) (a b : Int) : binD P t .shr (.int k a) (.int k' b) = bif decide (b < 0) then none else some (.int k (a.fdiv (2 ^ min b.toNat k.bits))) := rfl
attribute [go_sem] sliceStr sliceSl sliceR
@[go_sem] theorem slcI_rsl (P : Program) (t : Nat) (id off len k : Nat) (l : Option Int) (h : Int → Option Int) : slcI P t (.rsl id off len k) l h = match sliceSz P t, l, h len with
      | some k', some l, some h => bif decide (k' = k) then sliceR id off len k l h else none
      | _, _, _ => none := rfl
@[go_sem] theorem slcI_nil (P : Program) (t : Nat) (l : Option Int) (h : Int → Option Int) : slcI P t .nil l h = match sliceSz P t, l, h 0 with
      | some _, some l, some h => bif decide (l = 0) && decide (h = 0) then some .nil else none
      | _, _, _ => none := rfl
/-- The first i. -/
def Sl.take {α : Type} (s : Sl α) (i : Nat) : Sl α := ⟨s.1.map fun l => l.take i, by
  have h := s.2
  cases e : s.1 with
  | none => simp
  | some l => rw [e] at h; simp only [Option.map_some, Option.getD_some] at *; have := List.length_take_le' i l; omega⟩
theorem Sl.take_items {α : Type} (s : Sl α) (i : Nat) : (s.take i).items = s.items.take i := by
  obtain ⟨o, ho⟩ := s; cases o <;> simp [Sl.take, Sl.items]
theorem slcI_sl {α : Type} {P : Program} {t k : Nat} (f : α → D) (s : Sl α) {i : Nat} (hk : sliceSz P t = some k) (hi : i ≤ s.items.length) : slcI P t (sl k f s) (some 0) (fun _ => some (i : Int)) = some (sl k f (s.take i)) := by
  obtain ⟨o, ho⟩ := s
  cases o with
  | none =>
    have : i = 0 := by simpa [Sl.items] using hi
    subst this
    simp only [sl, Sl.take, slcI_nil, Option.map_none, hk]
    rfl
  | some es =>
    have hi : i ≤ es.length := hi
    simp only [sl, Sl.take, slcI_slice, Option.map_some, sliceSl, List.length_map, hk]
    simp [List.map_take, hi]
theorem wrap_u64' (n : Int) : IntKind.u64.wrap n = n % 18446744073709551616 := by simp [IntKind.wrap, IntKind.bits, IntKind.signed]
theorem bytesOf_map : ∀ l : List UInt8, bytesOf (l.map byteD) = some l
  | [] => rfl
  | b :: r => by
    have h : byteOf (byteD b) = some b := by
      show some (UInt8.ofNat (b.toNat : Int).toNat) = some b
      rw [Int.toNat_natCast, UInt8.ofNat_toNat]
    simp only [List.map_cons, bytesOf, h, bytesOf_map r]
attribute [go_sem] Bool.and_self Int.toNat_natCast Nat.mul_one Nat.zero_add
@[go_sem] theorem nn_nat (k : Nat) : (0 ≤ (k : Int)) = True := eq_true (Int.natCast_nonneg k)
end Go.Eng
