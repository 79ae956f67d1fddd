/- A part of the proof: see the last text. -/
import Derived.KernelRfl
import Derived.Test.YtcfmjomniaopcaaDoorR2Look
import Derived.Test.YtcfmjomniaopcaaDoorKEngU
import Derived.Test.YtcfmjomniaopcaaDoorKEngA2
set_option linter.unusedSimpArgs false
set_option linter.unusedVariables false
/- Names: how the program's lexer and the reference test them. -/
namespace Go.Eng
open Go Go.Proofs
open Nat (reduceAdd reduceMul reduceSub)
set_option maxRecDepth 20000
set_option maxHeartbeats 32000000
variable {G : Nat → Option (List D)}
def loI (n : Int) : Bool := decide (97 ≤ n) && decide (n ≤ 122)
def upI (n : Int) : Bool := decide (65 ≤ n) && decide (n ≤ 90)
def dgI (n : Int) : Bool := decide (48 ≤ n) && decide (n ≤ 57)
def ltrI (n : Int) : Bool := loI n || upI n
def wdI (n : Int) : Bool := (ltrI n || dgI n) || n == 95
def nmI (n : Int) : Bool := (loI n || dgI n) || n == 95
def wdB (b : UInt8) : Bool := wdI b.toNat
def nmB (b : UInt8) : Bool := nmI b.toNat
/-- How many bytes at the front are of words. -/
def spanN : Str → Nat
  | [] => 0
  | b :: r => bif wdB b then spanN r + 1 else 0
end Go.Eng
namespace Go.Eng
open Go Go.Proofs
open Nat (reduceAdd reduceMul reduceSub)
set_option maxRecDepth 20000
set_option maxHeartbeats 32000000
variable {G : Nat → Option (List D)}
@[go_sem] theorem ty_by_200 : bytesTy Tryd.prog 200 = true := by kernel_rfl
@[go_sem] theorem ty_st_200 : isStr Tryd.prog 200 = false := by kernel_rfl
@[go_sem] theorem ty_by_2 : bytesTy Tryd.prog 2 = false := by kernel_rfl
@[go_sem] theorem ty_by_3 : bytesTy Tryd.prog 3 = false := by kernel_rfl
@[go_sem] theorem ty_by_204 : bytesTy Tryd.prog 204 = false := by kernel_rfl
@[go_sem] theorem ty_st_2 : isStr Tryd.prog 2 = false := by kernel_rfl
@[go_sem] theorem ty_st_3 : isStr Tryd.prog 3 = false := by kernel_rfl
@[go_sem] theorem ty_st_204 : isStr Tryd.prog 204 = false := by kernel_rfl
@[go_sem] theorem ty_by_9 : bytesTy Tryd.prog 9 = false := by kernel_rfl
def lowB (b : UInt8) : UInt8 := bif upI b.toNat then b + 32 else b
def uppB (b : UInt8) : UInt8 := bif loI b.toNat then b - 32 else b
end Go.Eng
/- Keywords: binary search in the sorted list. -/
namespace Go.Eng
open Go Go.Proofs
open Nat (reduceAdd reduceMul reduceSub)
set_option maxRecDepth 20000
set_option maxHeartbeats 32000000
variable {G : Nat → Option (List D)}
def SortedS (l : List Str) : Prop := ∀ (i j : Nat) (x y : Str), i < j → l[i]? = some x → l[j]? = some y → Op.bytesLess x y = true
end Go.Eng
