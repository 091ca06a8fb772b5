/- The program's cells. -/
import Derived.Test.YtgfldfkgialdlaaCellB
import Derived.Test.YtgfldfkgialdlaaShelf
import Derived.Lib.SliceRun
namespace Go.Proofs.Ytgfldfkgialdlaa
set_option linter.unusedVariables false
set_option linter.unusedSimpArgs false
open Go.RowKit

theorem repeat_one (x : UInt8) (n : Nat) : Lib.repeatL [x] n = List.replicate n x := by
  induction n with
  | zero => rfl
  | succ n ih => rw [Lib.repeatL, ih, List.replicate_succ]; rfl

theorem cell_new (w : World) (v : Value) (t : TypeId) : (w.alloc (Obj.cells #[v] t)).cell? ⟨w.heap.size, 0, none⟩ = some v := by
  have h : (w.alloc (Obj.cells #[v] t)).heap = w.heap.push (Obj.cells #[v] t) := rfl
  simp only [World.cell?, h]
  simp

theorem cell_kept {W : World} {a : Addr} {v : Value} (o : Obj) (h : W.cell? a = some v) : (W.alloc o).cell? a = some v := by
  exact Lib.cell?_alloc_some o h

/-- All bits. -/
def allB : ByteArray := str [255]

end Go.Proofs.Ytgfldfkgialdlaa
