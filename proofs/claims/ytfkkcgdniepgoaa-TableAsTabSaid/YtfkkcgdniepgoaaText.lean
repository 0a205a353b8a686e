/- codec: one byte and texts, put and read. -/
import Derived.Test.YtfkkcgdniepgoaaOut
import Derived.Test.YtfkkcgdniepgoaaInEnd
import Derived.Lib.AppendStr
namespace Go.Proofs.Ytfkkcgdniepgoaa
open Go.RowKit
set_option maxHeartbeats 1000000
set_option maxRecDepth 100000
set_option linter.unusedVariables false

theorem strCells_bytes (s : ByteArray) : Lib.strCells s = s.data.toList.map byteV := rfl

/-- a text's bytes behind its length -/
def textL (s : List UInt8) : List UInt8 := beBytes 4 s.length ++ s
theorem textL_length (s : List UInt8) : (textL s).length = s.length + 4 := by unfold textL; rw [List.length_append, beBytes_length]; omega

/-! ### reading -/
/-- what Text reads: the text, what is left, the error -/
def inText (most : Nat) (bs : List UInt8) (e : Int) : List UInt8 × List UInt8 × Int :=
  if (inTake 4 bs e).2.2 = 0 ∧ most < inNum 4 bs e then ([], (inTake 4 bs e).2.1, 2) else inTake (inNum 4 bs e) (inTake 4 bs e).2.1 (inTake 4 bs e).2.2
end Go.Proofs.Ytfkkcgdniepgoaa
