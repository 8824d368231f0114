/- The cube roots of the first primes, and the square roots of the first eight: what the document says of the salts. -/
import Derived.Test.YtehmnbdeokjogaaDoorShaR
namespace Go.Proofs.YtehmnbdeokjogaaDoor.Sha
open Go.RowKit
set_option maxRecDepth 100000
def prL : List Int := [2, 3, 5, 7, 11, 13, 17, 19, 23, 29, 31, 37, 41, 43, 47, 53, 59, 61, 67, 71, 73, 79, 83, 89, 97, 101, 103, 107, 109, 113, 127, 131, 137, 139, 149, 151, 157, 163, 167, 173, 179, 181, 191, 193, 197, 199, 211, 223, 227, 229, 233, 239, 241, 251, 257, 263, 269, 271, 277, 281, 283, 293, 307, 311]
theorem cubes : prL.map cubeN = ssL := by kernel_rfl
theorem squares : (prL.take 8).map squareN = h0L := by kernel_rfl
end Go.Proofs.YtehmnbdeokjogaaDoor.Sha
