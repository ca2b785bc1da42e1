/- Closed facts of the row, one by one. -/
import Derived.Test.YtdcdfahhlfeifaaGreatDoorRows
import Derived.JoinedOf
import Derived.KernelRfl
section
namespace Go.Proofs.YtdcdfahhlfeifaaGreatDoor.Q
theorem laidOut : laidOutB Tryz.prog = true := by kernel_rfl
theorem rowedMaps : mapsRowed Tryz.prog = true := by kernel_rfl
theorem inPlace3 : Tryz.prog.inPlace 3 = ["internal/abi.NoEscape"] := by kernel_rfl
theorem unfollowed3 : Tryz.prog.unfollowed 3 = true := by kernel_rfl
theorem recurses3 : Tryz.prog.recurses 3 = true := by kernel_rfl
theorem named3 : Tryz.prog.varsNamed 3 = ["internal/strconv.uint64pow10", "math/bits.deBruijn32tab", "math/bits.deBruijn64tab"] := by kernel_rfl
theorem facts3 : joinedFacts Tryz.pinned.checked.prog 3 Tryz.f3 Rows.watchWrongSpec Rows.watchWrongRow = true := by
  show joinedFacts Tryz.prog 3 Tryz.f3 Rows.watchWrongSpec Rows.watchWrongRow = true
  unfold joinedFacts
  rw [laidOut, rowedMaps, inPlace3, unfollowed3, recurses3, named3]
  kernel_rfl
theorem name3 : Tryz.pinned.checked.prog.funcNamed Rows.watchWrongRow.func = some 3 := by kernel_rfl
theorem instance3 : Tryz.f3.isInstance Tryz.pinned.checked.prog Rows.watchWrongRow.origin Rows.watchWrongRow.targs := of_decide_eq_true (by kernel_rfl)
theorem wrapper3 : Tryz.f3.isWrapper Tryz.pinned.checked.prog Rows.watchWrongRow.wrapper Rows.watchWrongRow.mainSum := by
  unfold Func.isWrapper; first | (rw [if_pos (by decide +kernel)]; kernel_rfl) | (rw [if_neg (by decide +kernel)]; exact ⟨rfl, rfl⟩)
end Go.Proofs.YtdcdfahhlfeifaaGreatDoor.Q

end
