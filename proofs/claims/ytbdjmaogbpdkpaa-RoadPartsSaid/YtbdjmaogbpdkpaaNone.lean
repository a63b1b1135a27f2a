import Derived.Test.YtbdjmaogbpdkpaaJoin
/-
  none, of no road.
-/
namespace Go.Proofs.Ytbdjmaogbpdkpaa
open Go Go.RowKit Go.Shelf

set_option maxRecDepth 100000 in
set_option maxHeartbeats 1000000 in
theorem none_nil (w : World) : Calls Try.prog 40 #[.agg #[.slice none 0 0, .slice none 0 0, .slice none 0 0]] w fun e w' => e = .returned (.bool true) ∧ Below w.heap.size w w' := by
  go_enter Try.func40, Try.ntmps40
  go_wp2
  go_ret
  exact ⟨rfl, balloc _ _⟩

end Go.Proofs.Ytbdjmaogbpdkpaa
