/- The example that the statement asks besides: one closed run by the abstract executor. -/
import Derived.Test.YtdcdfahhlfeifaaGreatDoorChecked
import Derived.Test.YtdcdfahhlfeifaaGreatDoorXb
import Derived.KernelRfl
section
namespace Go.Proofs.YtdcdfahhlfeifaaGreatDoor.Q
open Go.Ax
set_option maxRecDepth 1000000
def isT : Option (AV × AH) → Bool
  | some (.bool true, _) => true
  | _ => false
theorem isT_spec {x : Option (AV × AH)} (h : isT x = true) : ∃ h', x = some (.bool true, h') := by
  unfold isT at h
  split at h
  · exact ⟨_, rfl⟩
  · cases h
theorem known_run : isT (abody Tryz.prog 100000 false false 13 [] ⟨.e, 0⟩) = true := by kernel_rfl
theorem known_calls (w : World) : Calls Tryz.prog 13 #[] w fun e w' => e = .returned (.bool true) ∧ Go.RowKit.Below w.heap.size w w' := by
  obtain ⟨h', e⟩ := isT_spec known_run
  exact closed_run (Checked.mixed Tryz.checked) e w
end Go.Proofs.YtdcdfahhlfeifaaGreatDoor.Q

end
