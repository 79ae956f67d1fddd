/- A part of the proof: see the last text. -/
import Derived.Test.YtcfmjomniaopcaaDoorR2Read
import Derived.Test.YtcfmjomniaopcaaDoorR2Fits
/- How rows and statements are read. -/
namespace Go.Eng
open Go Go.Proofs
section
variable {H : Type} {enc : TypeId × Value → H} {W : World}
theorem rd27v (N : Nat) : Rd enc Tryd.prog W N 27 (fun v : Val => (encVal v).cells) :=
  (rd27 N).map fun ⟨a, b, c⟩ => ⟨⟨a, b, c⟩, rfl⟩
theorem rd93 (N : Nat) : Rd enc Tryd.prog W N 93 (fun s : Sl Val => [sl 3 encVal s]) := rds Tryd.underlying93 ce27 (by decide) (of_decide_eq_true (by kernel_rfl)) (fun _ => rfl) rd27v N
end
end Go.Eng
