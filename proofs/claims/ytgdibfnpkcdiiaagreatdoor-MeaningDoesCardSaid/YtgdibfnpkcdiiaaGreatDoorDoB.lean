/- MeaningDoes answers true of any operation and any two numbers. By an AI agent. -/
import Derived.Test.YtgdibfnpkcdiiaaGreatDoorDoA
import Derived.Test.YtgdibfnpkcdiiaaGreatDoorEwS
namespace Go.Proofs.YtgdibfnpkcdiiaaGreatDoor
open Go.RowKit
set_option maxHeartbeats 1000000 in
theorem does_any (op a b : Int) (w : World) : Calls Tryz.prog 5 #[.int .u8 op, .int .i64 a, .int .i64 b] w fun e w' => e = .returned (.bool true) ∧ Below w.heap.size w w' := by
  obtain ⟨d, h1, h2⟩ := do_any op a b w
  go_enter Tryz.func5, Tryz.ntmps5
  go_wp2_with fail
  refine h1.mono ?_; rintro e w1 ⟨rfl, rfl⟩
  go_wp2_with fail
  refine h2.mono ?_; rintro e w1 ⟨rfl, rfl⟩
  go_wp2_with fail
  refine (Ev.works_22_any _).mono ?_; rintro e w1 ⟨rfl, hb⟩
  go_wp2_with fail
  go_ret
  exact ⟨rfl, hb⟩
end Go.Proofs.YtgdibfnpkcdiiaaGreatDoor
