/- ScriptNames, walked. Conditions: strconv's table stands. -/
import Derived.Test.YtgjdgafoidppaaaDoorSNames2
import Derived.Test.YtgjdgafoidppaaaDoorSKnown
namespace Go.Proofs.YtgjdgafoidppaaaDoor
open Go.RowKit
set_option linter.unusedVariables false
set_option linter.unusedSimpArgs false
set_option linter.unnecessarySimpa false
set_option maxRecDepth 100000 in
set_option maxHeartbeats 4000000 in
theorem scriptNames_any (w : World) [hk : Tb w] : Calls Tryd.prog 3 #[] w fun e w' => e = .returned (.bool true) ∧ Gr w w' := by
  have hnf : ∀ W : World, (binOp .eql 23 (.func (.func 23) #[] #[]) .nilFunc).run Tryd.prog W = .ok (.bool false) W := fun W => by kernel_rfl
  go_enter Tryd.func3, Tryd.ntmps3
  go_wp2_with (first | (go_at_call 7; ((with_reducible refine (names_any _).mono ?_); rintro _ _ ⟨rfl, rfl⟩)))
  refine wp_loop_rounds 12 ?_
  iterate 11
    rw [rounds_succ]
    go_wp2_with (go_at_call 8; ((with_reducible refine (goes_any _ _).mono ?_); rintro _ _ ⟨rfl, g, rfl⟩))
  rw [rounds_succ]
  go_wp2_with (go_at_call 9; ((with_reducible refine (known26_any _).mono ?_); rintro _ _ ⟨rfl, g, rfl⟩))
  go_ret
  exact ⟨rfl, by (refine Gr.of ?_; repeat (first | with_reducible exact Below.refl _ _ | with_reducible apply below_alloc | with_reducible refine below_set' ?_ _ | with_reducible refine below_trans ?_ (grown_below _ _) | with_reducible refine below_iter' ?_ _ _ | with_reducible apply Below.drew | with_reducible refine below_trans ?_ (by assumption)))⟩
end Go.Proofs.YtgjdgafoidppaaaDoor
