/- The statements over cell: cells, the plain law. -/
import Derived.Test.YtgfldfkgialdlaaCellC
namespace Go.Proofs.Ytgfldfkgialdlaa
set_option linter.unusedVariables false
set_option linter.unusedSimpArgs false
open Go.RowKit

def cellF (s : List UInt8) (i : Nat) (_ : UInt8) : UInt8 := maskB s i
/-- A text, over and over. -/
def cellsP (s : ByteArray) : ByteArray := if s.size = 0 then str blankL else str (turnN blankL 0 (cellF s.data.toList) 4096)
theorem cellsP_size (s : ByteArray) : (cellsP s).size = 4096 := by
  unfold cellsP
  split
  · rw [str_size, blankL_len]
  · rw [str_size, turnN_len, blankL_len]

end Go.Proofs.Ytgfldfkgialdlaa
