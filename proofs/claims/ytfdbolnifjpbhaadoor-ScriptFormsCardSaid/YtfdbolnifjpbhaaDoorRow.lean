/- What a row's proof imports. -/
import Derived.ProofKit
import Derived.OpenShut
import Derived.ShutString
import Derived.ChangeOld
import Derived.SizedLaws
import Derived.WalkKit
namespace Go.Proofs.YtfdbolnifjpbhaaDoor
open Go.RowKit
/-- A row's text is no longer than its weight allows. -/
theorem reach_le {n : Nat} (h : n ≤ reachBytes) : n ≤ 140737488351232 := h
end Go.Proofs.YtfdbolnifjpbhaaDoor
