import Derived.Test.YtgbhjkkfleeodaaDoorShaN
namespace Go.Proofs.YtgbhjkkfleeodaaDoor.Sha
open Go.RowKit
set_option maxRecDepth 100000
def dig (s : ByteArray) : ByteArray := strOfNums (outL (sums ssL (strOfNums (padL s)) ((padL s).length / 64)))
theorem dig_size (s : ByteArray) : (dig s).size = 32 := by
  unfold dig
  rw [strOfNums_size, outL_length, sums_length]
end Go.Proofs.YtgbhjkkfleeodaaDoor.Sha
