/- What the functions of the packages state and operator compute (first part). Conditions: none. -/
import Derived.Test.YtginaleekfljfaaRows
import Derived.Test.YtginaleekfljfaaGrow
namespace Go.Proofs.Ytginaleekfljfaa
open Go.RowKit
set_option linter.unusedVariables false
set_option linter.unusedSimpArgs false
set_option linter.unnecessarySimpa false

def mayB (e l s b q : Int) : Bool := decide (e ≤ 4611686018427387904) && decide (l ≤ e) && decide (b ≤ e) && decide (s ≤ 4611686018427387904) && decide (q ≤ 4611686018427387904)

theorem safe_any (xe xl xs xb xq ye yl ys yb yq : Int) (xm ym : Bool) (w : World) :
    Calls Try.prog 10 #[(Value.agg #[.int .u64 xe, .int .u64 xl, .int .u64 xs, .int .u64 xb, .int .u64 xq, .bool xm]), (Value.agg #[.int .u64 ye, .int .u64 yl, .int .u64 ys, .int .u64 yb, .int .u64 yq, .bool ym])] w fun e w' => e = .returned (.bool (!ym)) ∧ Gr w w' := by
  go_enter Try.func10, Try.ntmps10
  go_wp2
  go_ret
  exact ⟨rfl, by (refine Gr.of ?_; repeat (first | with_reducible exact Below.refl _ _ | with_reducible apply below_alloc | ((with_reducible refine below_set ?_ ?hq _); case hq => (first | omega | exact Nat.le_of_lt (grown_lt _ _ _) | assumption)) | with_reducible refine below_trans ?_ (grown_below _ _) | with_reducible apply Below.drew | with_reducible refine below_trans ?_ (by assumption)))⟩

theorem may_any (xe xl xs xb xq : Int) (xm : Bool) (w : World) :
    Calls Try.prog 16 #[(Value.agg #[.int .u64 xe, .int .u64 xl, .int .u64 xs, .int .u64 xb, .int .u64 xq, .bool xm])] w fun e w' => e = .returned (.bool (mayB xe xl xs xb xq)) ∧ Gr w w' := by
  go_enter Try.func16, Try.ntmps16
  go_wp2
  all_goals go_ret
  all_goals refine ⟨?_, by (refine Gr.of ?_; repeat (first | with_reducible exact Below.refl _ _ | with_reducible apply below_alloc | ((with_reducible refine below_set ?_ ?hq _); case hq => (first | omega | exact Nat.le_of_lt (grown_lt _ _ _) | assumption)) | with_reducible refine below_trans ?_ (grown_below _ _) | with_reducible apply Below.drew | with_reducible refine below_trans ?_ (by assumption)))⟩
  all_goals (simp_all [mayB] <;> omega)
theorem may18_any (xe xl xs xb xq : Int) (xm : Bool) (w : World) :
    Calls Try.prog 17 #[(Value.agg #[.int .u64 xe, .int .u64 xl, .int .u64 xs, .int .u64 xb, .int .u64 xq, .bool xm])] w fun e w' => e = .returned (.bool (mayB xe xl xs xb xq)) ∧ Gr w w' := by
  go_enter Try.func17, Try.ntmps17
  go_wp2
  all_goals go_ret
  all_goals refine ⟨?_, by (refine Gr.of ?_; repeat (first | with_reducible exact Below.refl _ _ | with_reducible apply below_alloc | ((with_reducible refine below_set ?_ ?hq _); case hq => (first | omega | exact Nat.le_of_lt (grown_lt _ _ _) | assumption)) | with_reducible refine below_trans ?_ (grown_below _ _) | with_reducible apply Below.drew | with_reducible refine below_trans ?_ (by assumption)))⟩
  all_goals (simp_all [mayB] <;> omega)
theorem may19_any (xe xl xs xb xq : Int) (xm : Bool) (w : World) :
    Calls Try.prog 31 #[(Value.agg #[.int .u64 xe, .int .u64 xl, .int .u64 xs, .int .u64 xb, .int .u64 xq, .bool xm])] w fun e w' => e = .returned (.bool (mayB xe xl xs xb xq)) ∧ Gr w w' := by
  go_enter Try.func31, Try.ntmps31
  go_wp2
  all_goals go_ret
  all_goals refine ⟨?_, by (refine Gr.of ?_; repeat (first | with_reducible exact Below.refl _ _ | with_reducible apply below_alloc | ((with_reducible refine below_set ?_ ?hq _); case hq => (first | omega | exact Nat.le_of_lt (grown_lt _ _ _) | assumption)) | with_reducible refine below_trans ?_ (grown_below _ _) | with_reducible apply Below.drew | with_reducible refine below_trans ?_ (by assumption)))⟩
  all_goals (simp_all [mayB] <;> omega)

theorem name_any (xe xl xs xb xq : Int) (xm : Bool) (w : World) :
    Calls Try.prog 18 #[(Value.agg #[.int .u64 xe, .int .u64 xl, .int .u64 xs, .int .u64 xb, .int .u64 xq, .bool xm])] w fun e w' => e = .returned (.agg #[.int .u64 xl, .int .u64 xs]) ∧ Gr w w' := by
  go_enter Try.func18, Try.ntmps18
  go_wp2
  exact bodyPost_ret (v := .agg #[.int .u64 xl, .int .u64 xs]) (by simp [results, Try.results18, go_sem]) rfl ⟨rfl, by (refine Gr.of ?_; repeat (first | with_reducible exact Below.refl _ _ | with_reducible apply below_alloc | ((with_reducible refine below_set ?_ ?hq _); case hq => (first | omega | exact Nat.le_of_lt (grown_lt _ _ _) | assumption)) | with_reducible refine below_trans ?_ (grown_below _ _) | with_reducible apply Below.drew | with_reducible refine below_trans ?_ (by assumption)))⟩
theorem base_any (xe xl xs xb xq : Int) (xm : Bool) (w : World) :
    Calls Try.prog 19 #[(Value.agg #[.int .u64 xe, .int .u64 xl, .int .u64 xs, .int .u64 xb, .int .u64 xq, .bool xm])] w fun e w' => e = .returned (.agg #[.int .u64 xb, .int .u64 xq]) ∧ Gr w w' := by
  go_enter Try.func19, Try.ntmps19
  go_wp2
  exact bodyPost_ret (v := .agg #[.int .u64 xb, .int .u64 xq]) (by simp [results, Try.results19, go_sem]) rfl ⟨rfl, by (refine Gr.of ?_; repeat (first | with_reducible exact Below.refl _ _ | with_reducible apply below_alloc | ((with_reducible refine below_set ?_ ?hq _); case hq => (first | omega | exact Nat.le_of_lt (grown_lt _ _ _) | assumption)) | with_reducible refine below_trans ?_ (grown_below _ _) | with_reducible apply Below.drew | with_reducible refine below_trans ?_ (by assumption)))⟩
theorem next_any (xe xl xs xb xq : Int) (xm : Bool) (w : World) :
    Calls Try.prog 20 #[(Value.agg #[.int .u64 xe, .int .u64 xl, .int .u64 xs, .int .u64 xb, .int .u64 xq, .bool xm])] w fun e w' => e = .returned (.agg #[.int .u64 xe, .int .u64 xe, .int .u64 (IntKind.u64.wrap (xs + 1)), .int .u64 xb, .int .u64 xq, .bool xm]) ∧ Gr w w' := by
  go_enter Try.func20, Try.ntmps20
  go_wp2
  exact bodyPost_ret (v := .agg #[.int .u64 xe, .int .u64 xe, .int .u64 (IntKind.u64.wrap (xs + 1)), .int .u64 xb, .int .u64 xq, .bool xm]) (by simp [results, Try.results20, go_sem]) rfl ⟨rfl, by (refine Gr.of ?_; repeat (first | with_reducible exact Below.refl _ _ | with_reducible apply below_alloc | ((with_reducible refine below_set ?_ ?hq _); case hq => (first | omega | exact Nat.le_of_lt (grown_lt _ _ _) | assumption)) | with_reducible refine below_trans ?_ (grown_below _ _) | with_reducible apply Below.drew | with_reducible refine below_trans ?_ (by assumption)))⟩
theorem rebased_any (xe xl xs xb xq : Int) (xm : Bool) (w : World) :
    Calls Try.prog 21 #[(Value.agg #[.int .u64 xe, .int .u64 xl, .int .u64 xs, .int .u64 xb, .int .u64 xq, .bool xm])] w fun e w' => e = .returned (.agg #[.int .u64 xe, .int .u64 xl, .int .u64 xs, .int .u64 xl, .int .u64 xs, .bool xm]) ∧ Gr w w' := by
  go_enter Try.func21, Try.ntmps21
  go_wp2
  exact bodyPost_ret (v := .agg #[.int .u64 xe, .int .u64 xl, .int .u64 xs, .int .u64 xl, .int .u64 xs, .bool xm]) (by simp [results, Try.results21, go_sem]) rfl ⟨rfl, by (refine Gr.of ?_; repeat (first | with_reducible exact Below.refl _ _ | with_reducible apply below_alloc | ((with_reducible refine below_set ?_ ?hq _); case hq => (first | omega | exact Nat.le_of_lt (grown_lt _ _ _) | assumption)) | with_reducible refine below_trans ?_ (grown_below _ _) | with_reducible apply Below.drew | with_reducible refine below_trans ?_ (by assumption)))⟩
theorem marks_any (xe xl xs xb xq : Int) (xm c : Bool) (w : World) :
    Calls Try.prog 24 #[(Value.agg #[.int .u64 xe, .int .u64 xl, .int .u64 xs, .int .u64 xb, .int .u64 xq, .bool xm]), .bool c] w fun e w' => e = .returned (.agg #[.int .u64 xe, .int .u64 xl, .int .u64 xs, .int .u64 xb, .int .u64 xq, .bool c]) ∧ Gr w w' := by
  go_enter Try.func24, Try.ntmps24
  go_wp2
  exact bodyPost_ret (v := .agg #[.int .u64 xe, .int .u64 xl, .int .u64 xs, .int .u64 xb, .int .u64 xq, .bool c]) (by simp [results, Try.results24, go_sem]) rfl ⟨rfl, by (refine Gr.of ?_; repeat (first | with_reducible exact Below.refl _ _ | with_reducible apply below_alloc | ((with_reducible refine below_set ?_ ?hq _); case hq => (first | omega | exact Nat.le_of_lt (grown_lt _ _ _) | assumption)) | with_reducible refine below_trans ?_ (grown_below _ _) | with_reducible apply Below.drew | with_reducible refine below_trans ?_ (by assumption)))⟩
theorem leads_any (xe xl xs xb xq n : Int) (xm : Bool) (w : World) :
    Calls Try.prog 22 #[(Value.agg #[.int .u64 xe, .int .u64 xl, .int .u64 xs, .int .u64 xb, .int .u64 xq, .bool xm]), .int .u64 n] w fun e w' => e = .returned (.agg #[.int .u64 n, .int .u64 xl, .int .u64 xs, .int .u64 xl, .int .u64 xs, .bool xm]) ∧ Gr w w' := by
  go_enter Try.func22, Try.ntmps22
  go_wp2
  refine bodyPost_ret (v := (.agg #[.int .u64 n, .int .u64 xl, .int .u64 xs, .int .u64 xl, .int .u64 xs, .bool xm])) (by simp [results, Try.results21, go_sem]) rfl ?_
  simp only []
  go_wp2
  exact bodyPost_ret (v := .agg #[.int .u64 n, .int .u64 xl, .int .u64 xs, .int .u64 xl, .int .u64 xs, .bool xm]) (by simp [results, Try.results22, go_sem]) rfl ⟨rfl, by (refine Gr.of ?_; repeat (first | with_reducible exact Below.refl _ _ | with_reducible apply below_alloc | ((with_reducible refine below_set ?_ ?hq _); case hq => (first | omega | exact Nat.le_of_lt (grown_lt _ _ _) | assumption)) | with_reducible refine below_trans ?_ (grown_below _ _) | with_reducible apply Below.drew | with_reducible refine below_trans ?_ (by assumption)))⟩
theorem ended_any (xe xl xs xb xq n nl ns : Int) (xm : Bool) (w : World) :
    Calls Try.prog 23 #[(Value.agg #[.int .u64 xe, .int .u64 xl, .int .u64 xs, .int .u64 xb, .int .u64 xq, .bool xm]), .int .u64 n, .agg #[.int .u64 nl, .int .u64 ns]] w fun e w' => e = .returned (.agg #[.int .u64 n, .int .u64 nl, .int .u64 ns, .int .u64 nl, .int .u64 ns, .bool false]) ∧ Gr w w' := by
  go_enter Try.func23, Try.ntmps23
  go_wp2
  go_region
  go_wp2
  refine bodyPost_ret (v := (.agg #[.int .u64 n, .int .u64 nl, .int .u64 ns, .int .u64 nl, .int .u64 ns, .bool false])) (by simp [results, Try.results21, go_sem]) rfl ?_
  simp only []
  go_wp2
  exact bodyPost_ret (v := .agg #[.int .u64 n, .int .u64 nl, .int .u64 ns, .int .u64 nl, .int .u64 ns, .bool false]) (by simp [results, Try.results23, go_sem]) rfl ⟨rfl, by (refine Gr.of ?_; repeat (first | with_reducible exact Below.refl _ _ | with_reducible apply below_alloc | ((with_reducible refine below_set ?_ ?hq _); case hq => (first | omega | exact Nat.le_of_lt (grown_lt _ _ _) | assumption)) | with_reducible refine below_trans ?_ (grown_below _ _) | with_reducible apply Below.drew | with_reducible refine below_trans ?_ (by assumption)))⟩
end Go.Proofs.Ytginaleekfljfaa
