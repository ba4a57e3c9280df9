/- What 'known' and 'num' of the laws of layer 22 answer. Conditions: none. -/
import Derived.Test.YtginaleekfljfaaRows
import Derived.Test.YtginaleekfljfaaLaw
import Derived.Test.YtginaleekfljfaaOper3
namespace Go.Proofs.Ytginaleekfljfaa
open Go.ChangeShapes Go.WideShapes Go.ChangeAt Go.RowKit Go.Deep
open Go.ChangeMaps (open_string shut_string)
set_option linter.unusedVariables false
set_option linter.unusedSimpArgs false
set_option linter.unnecessarySimpa false
theorem num_any (n : Int) (w : World) : Calls Try.prog 13 #[.int .i64 n] w fun e w' => e = .returned (.int .i64 n) ∧ w = w' := by
  go_enter Try.func13, Try.ntmps13
  go_wp2
  go_ret
  exact ⟨rfl, rfl⟩
theorem pro_known1 (w : World) : Calls Try.prog 12 #[(Value.agg #[.int .u64 3, .int .u64 0, .int .u64 0, .int .u64 0, .int .u64 0, .bool false]), (Value.agg #[.int .u64 5, .int .u64 0, .int .u64 0, .int .u64 0, .int .u64 0, .bool false]), .bool false] w fun e w' => e = .returned (.tuple #[.int .u64 6, .bool false, .int .i64 0]) ∧ Gr w w' := by
  have h := promote_any 3 0 0 0 0 5 0 0 0 0 false false false w (by omega) (by omega)
  have e1 : proE (mayB 3 0 0 0 0 && mayB 5 0 0 0 0) false false 3 5 = 6 := by decide
  have e2 : proU (mayB 3 0 0 0 0 && mayB 5 0 0 0 0) false false 3 5 = false := by decide
  have e3 : proC (mayB 3 0 0 0 0 && mayB 5 0 0 0 0) false false 3 5 = 0 := by decide
  rw [e1, e2, e3] at h
  exact h
theorem pro_known2 (w : World) : Calls Try.prog 12 #[(Value.agg #[.int .u64 3, .int .u64 0, .int .u64 0, .int .u64 0, .int .u64 0, .bool false]), (Value.agg #[.int .u64 5, .int .u64 0, .int .u64 0, .int .u64 0, .int .u64 0, .bool true]), .bool false] w fun e w' => e = .returned (.tuple #[.int .u64 0, .bool false, .int .i64 12]) ∧ Gr w w' := by
  have h := promote_any 3 0 0 0 0 5 0 0 0 0 false true false w (by omega) (by omega)
  have e1 : proE (mayB 3 0 0 0 0 && mayB 5 0 0 0 0) true false 3 5 = 0 := by decide
  have e2 : proU (mayB 3 0 0 0 0 && mayB 5 0 0 0 0) true false 3 5 = false := by decide
  have e3 : proC (mayB 3 0 0 0 0 && mayB 5 0 0 0 0) true false 3 5 = 12 := by decide
  rw [e1, e2, e3] at h
  exact h
theorem pro_known3 (w : World) : Calls Try.prog 12 #[(Value.agg #[.int .u64 3, .int .u64 0, .int .u64 0, .int .u64 0, .int .u64 0, .bool false]), (Value.agg #[.int .u64 5, .int .u64 0, .int .u64 0, .int .u64 0, .int .u64 0, .bool true]), .bool true] w fun e w' => e = .returned (.tuple #[.int .u64 6, .bool true, .int .i64 0]) ∧ Gr w w' := by
  have h := promote_any 3 0 0 0 0 5 0 0 0 0 false true true w (by omega) (by omega)
  have e1 : proE (mayB 3 0 0 0 0 && mayB 5 0 0 0 0) true true 3 5 = 6 := by decide
  have e2 : proU (mayB 3 0 0 0 0 && mayB 5 0 0 0 0) true true 3 5 = true := by decide
  have e3 : proC (mayB 3 0 0 0 0 && mayB 5 0 0 0 0) true true 3 5 = 0 := by decide
  rw [e1, e2, e3] at h
  exact h
theorem known_any (w : World) : Calls Try.prog 15 #[] w fun e w' => e = .returned (.bool true) ∧ Gr w w' := by
  go_enter Try.func15, Try.ntmps15
  go_wp2_with (first | (go_at_call 12; ((with_reducible refine (pro_known1 _).mono ?_); rintro _ _ ⟨rfl, g, rfl⟩)) | (go_at_call 12; ((with_reducible refine (pro_known2 _).mono ?_); rintro _ _ ⟨rfl, g, rfl⟩)) | (go_at_call 12; ((with_reducible refine (pro_known3 _).mono ?_); rintro _ _ ⟨rfl, g, rfl⟩)) | (go_at_call 13; ((with_reducible refine (num_any _ _).mono ?_); rintro _ _ ⟨rfl, rfl⟩)))
  go_ret
  exact ⟨rfl, by (refine Gr.of ?_; repeat (first | with_reducible exact Below.refl _ _ | with_reducible apply below_alloc | ((with_reducible refine below_set ?_ ?hq _); case hq => (first | omega | exact Nat.le_of_lt (grown_lt _ _ _) | assumption)) | with_reducible refine below_trans ?_ (grown_below _ _) | with_reducible apply Below.drew | with_reducible refine below_trans ?_ (by assumption)))⟩
end Go.Proofs.Ytginaleekfljfaa
