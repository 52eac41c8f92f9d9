/- Mathematics of numbers as bytes. -/
import Derived.Test.YtkppkgahdoglpaazcMd5
namespace Go.Proofs.Ytkppkgahdoglpaa
open Go.RowKit
theorem byteAt_zero {n : Int} (h0 : 0 ≤ n) : ((byteAt n 0).toNat : Int) = n % 256 := by
  rw [byteAt_v h0]; simp
end Go.Proofs.Ytkppkgahdoglpaa
