/- What the functions of the package operator and of its reference compute (second part). Conditions: epochs are not below 0 where an epoch is counted on. -/
import Derived.Test.YtginaleekfljfaaOper
namespace Go.Proofs.Ytginaleekfljfaa
open Go.RowKit
set_option linter.unusedVariables false
set_option linter.unusedSimpArgs false
set_option linter.unnecessarySimpa false

def degC (m leads xm : Bool) (xe ye : Int) : Int := if !m then 2 else if !leads then 11 else if xm then 12 else if xe < ye then 9 else 0
theorem degrade_any (xe xl xs xb xq ye yl ys yb yq : Int) (xm ym f : Bool) (w : World) :
    Calls Try.prog 14 #[(Value.agg #[.int .u64 xe, .int .u64 xl, .int .u64 xs, .int .u64 xb, .int .u64 xq, .bool xm]), (Value.agg #[.int .u64 ye, .int .u64 yl, .int .u64 ys, .int .u64 yb, .int .u64 yq, .bool ym]), .bool f] w fun e w' =>
      e = .returned (.int .i64 (degC (mayB xe xl xs xb xq && mayB ye yl ys yb yq) f xm xe ye)) ∧ Gr w w' := by
  rcases Bool.eq_false_or_eq_true (mayB xe xl xs xb xq && mayB ye yl ys yb yq) with h | h
  all_goals
    rcases Bool.eq_false_or_eq_true xm with rfl | rfl <;> rcases Bool.eq_false_or_eq_true f with rfl | rfl <;> by_cases hl : xe < ye
    all_goals
      go_enter Try.func14, Try.ntmps14
      go_wp2_with (first | (go_at_call 32; ((with_reducible refine (may2_any _ _ _ _ _ _ _ _ _ _ _ _ _).mono ?_); rintro _ _ ⟨rfl, g, rfl⟩)))
      all_goals go_ret
      all_goals exact ⟨by simp [degC, *], by (refine Gr.of ?_; repeat (first | with_reducible exact Below.refl _ _ | with_reducible apply below_alloc | ((with_reducible refine below_set ?_ ?hq _); case hq => (first | omega | exact Nat.le_of_lt (grown_lt _ _ _) | assumption)) | with_reducible refine below_trans ?_ (grown_below _ _) | with_reducible apply Below.drew | with_reducible refine below_trans ?_ (by assumption)))⟩
theorem refDegrade_any (xe xl xs xb xq ye yl ys yb yq : Int) (xm ym f : Bool) (w : World) :
    Calls Try.prog 30 #[(Value.agg #[.int .u64 xe, .int .u64 xl, .int .u64 xs, .int .u64 xb, .int .u64 xq, .bool xm]), (Value.agg #[.int .u64 ye, .int .u64 yl, .int .u64 ys, .int .u64 yb, .int .u64 yq, .bool ym]), .bool f] w fun e w' =>
      e = .returned (.int .i64 (degC (mayB xe xl xs xb xq && mayB ye yl ys yb yq) f xm xe ye)) ∧ Gr w w' := by
  rcases Bool.eq_false_or_eq_true (mayB xe xl xs xb xq) with h | h <;> rcases Bool.eq_false_or_eq_true (mayB ye yl ys yb yq) with h2 | h2
  all_goals
    rcases Bool.eq_false_or_eq_true xm with rfl | rfl <;> rcases Bool.eq_false_or_eq_true f with rfl | rfl <;> by_cases hl : xe < ye
    all_goals
      go_enter Try.func30, Try.ntmps30
      go_wp2_with (first | (go_at_call 31; ((with_reducible refine (may19_any _ _ _ _ _ _ _).mono ?_); rintro _ _ ⟨rfl, g, rfl⟩)))
      all_goals go_ret
      all_goals exact ⟨by simp [degC, *], by (refine Gr.of ?_; repeat (first | with_reducible exact Below.refl _ _ | with_reducible apply below_alloc | ((with_reducible refine below_set ?_ ?hq _); case hq => (first | omega | exact Nat.le_of_lt (grown_lt _ _ _) | assumption)) | with_reducible refine below_trans ?_ (grown_below _ _) | with_reducible apply Below.drew | with_reducible refine below_trans ?_ (by assumption)))⟩
theorem refOrder_any (ae au be bs : Int) (w : World) :
    Calls Try.prog 26 #[.agg #[.int .u64 ae, .int .u64 au], .agg #[.int .u64 be, .int .u64 bs]] w fun e w' => e = .returned (.int .i64 (ord ae au be bs)) ∧ Gr w w' := by
  go_enter Try.func26, Try.ntmps26
  go_wp2
  all_goals go_ret
  all_goals refine ⟨?_, by (refine Gr.of ?_; repeat (first | with_reducible exact Below.refl _ _ | with_reducible apply below_alloc | ((with_reducible refine below_set ?_ ?hq _); case hq => (first | omega | exact Nat.le_of_lt (grown_lt _ _ _) | assumption)) | with_reducible refine below_trans ?_ (grown_below _ _) | with_reducible apply Below.drew | with_reducible refine below_trans ?_ (by assumption)))⟩
  all_goals simp [ord, cmp3]
  all_goals omega
theorem safe2_any (xe xl xs xb xq ye yl ys yb yq : Int) (xm ym : Bool) (w : World) :
    Calls Try.prog 35 #[(Value.agg #[.int .u64 xe, .int .u64 xl, .int .u64 xs, .int .u64 xb, .int .u64 xq, .bool xm]), (Value.agg #[.int .u64 ye, .int .u64 yl, .int .u64 ys, .int .u64 yb, .int .u64 yq, .bool ym])] w fun e w' => e = .returned (.bool (mayB xe xl xs xb xq && mayB ye yl ys yb yq && !ym)) ∧ Gr w w' := by
  rcases Bool.eq_false_or_eq_true (mayB xe xl xs xb xq && mayB ye yl ys yb yq) with h | h
  all_goals
    go_enter Try.func35, Try.ntmps35
    go_wp2_with (first | (go_at_call 10; ((with_reducible refine (safe_any _ _ _ _ _ _ _ _ _ _ _ _ _).mono ?_); rintro _ _ ⟨rfl, g, rfl⟩)) | (go_at_call 32; ((with_reducible refine (may2_any _ _ _ _ _ _ _ _ _ _ _ _ _).mono ?_); rintro _ _ ⟨rfl, g, rfl⟩)))
    go_ret
    exact ⟨by simp [h], by (refine Gr.of ?_; repeat (first | with_reducible exact Below.refl _ _ | with_reducible apply below_alloc | ((with_reducible refine below_set ?_ ?hq _); case hq => (first | omega | exact Nat.le_of_lt (grown_lt _ _ _) | assumption)) | with_reducible refine below_trans ?_ (grown_below _ _) | with_reducible apply Below.drew | with_reducible refine below_trans ?_ (by assumption)))⟩
def choI (m xm ym : Bool) (o : Int) : Int := if !m then 0 else if !xm then (if !ym then (if o < 0 then 1 else 0) else 1) else 0
theorem choose_not (xe xl xs xb xq ye yl ys yb yq : Int) (xm ym : Bool) (w : World) (h : (mayB xe xl xs xb xq && mayB ye yl ys yb yq) = false) :
    Calls Try.prog 28 #[(Value.agg #[.int .u64 xe, .int .u64 xl, .int .u64 xs, .int .u64 xb, .int .u64 xq, .bool xm]), (Value.agg #[.int .u64 ye, .int .u64 yl, .int .u64 ys, .int .u64 yb, .int .u64 yq, .bool ym])] w fun e w' =>
      e = .returned (.tuple #[.int .i64 (choI (mayB xe xl xs xb xq && mayB ye yl ys yb yq) xm ym (ord xl xs yl ys)), .bool (mayB xe xl xs xb xq && mayB ye yl ys yb yq && !(xm && ym))]) ∧ Gr w w' := by
  have h2 : (mayB ye yl ys yb yq && mayB xe xl xs xb xq) = false := by rw [Bool.and_comm]; exact h
  go_enter Try.func28, Try.ntmps28
  go_wp2_with (first | (go_at_call 35; ((with_reducible refine (safe2_any _ _ _ _ _ _ _ _ _ _ _ _ _).mono ?_); rintro _ _ ⟨rfl, g, rfl⟩)))
  go_ret2
  exact ⟨by simp [choI, *], by (refine Gr.of ?_; repeat (first | with_reducible exact Below.refl _ _ | with_reducible apply below_alloc | ((with_reducible refine below_set ?_ ?hq _); case hq => (first | omega | exact Nat.le_of_lt (grown_lt _ _ _) | assumption)) | with_reducible refine below_trans ?_ (grown_below _ _) | with_reducible apply Below.drew | with_reducible refine below_trans ?_ (by assumption)))⟩
set_option maxHeartbeats 1000000 in
theorem choose_marked (xe xl xs xb xq ye yl ys yb yq : Int) (xm ym : Bool) (w : World) (h : (mayB xe xl xs xb xq && mayB ye yl ys yb yq) = true) (hm : (xm || ym) = true) :
    Calls Try.prog 28 #[(Value.agg #[.int .u64 xe, .int .u64 xl, .int .u64 xs, .int .u64 xb, .int .u64 xq, .bool xm]), (Value.agg #[.int .u64 ye, .int .u64 yl, .int .u64 ys, .int .u64 yb, .int .u64 yq, .bool ym])] w fun e w' =>
      e = .returned (.tuple #[.int .i64 (choI (mayB xe xl xs xb xq && mayB ye yl ys yb yq) xm ym (ord xl xs yl ys)), .bool (mayB xe xl xs xb xq && mayB ye yl ys yb yq && !(xm && ym))]) ∧ Gr w w' := by
  have h2 : (mayB ye yl ys yb yq && mayB xe xl xs xb xq) = true := by rw [Bool.and_comm]; exact h
  cases xm <;> cases ym
  case false.false => exact absurd hm (by decide)
  all_goals
    clear hm
    go_enter Try.func28, Try.ntmps28
    go_wp2_with (first | (go_at_call 35; ((with_reducible refine (safe2_any _ _ _ _ _ _ _ _ _ _ _ _ _).mono ?_); rintro _ _ ⟨rfl, g, rfl⟩)))
    go_ret2
    exact ⟨by simp [choI, *], by (refine Gr.of ?_; repeat (first | with_reducible exact Below.refl _ _ | with_reducible apply below_alloc | ((with_reducible refine below_set ?_ ?hq _); case hq => (first | omega | exact Nat.le_of_lt (grown_lt _ _ _) | assumption)) | with_reducible refine below_trans ?_ (grown_below _ _) | with_reducible apply Below.drew | with_reducible refine below_trans ?_ (by assumption)))⟩
set_option maxHeartbeats 1000000 in
theorem choose_free (xe xl xs xb xq ye yl ys yb yq : Int) (w : World) (h : (mayB xe xl xs xb xq && mayB ye yl ys yb yq) = true) :
    Calls Try.prog 28 #[(Value.agg #[.int .u64 xe, .int .u64 xl, .int .u64 xs, .int .u64 xb, .int .u64 xq, .bool false]), (Value.agg #[.int .u64 ye, .int .u64 yl, .int .u64 ys, .int .u64 yb, .int .u64 yq, .bool false])] w fun e w' =>
      e = .returned (.tuple #[.int .i64 (choI (mayB xe xl xs xb xq && mayB ye yl ys yb yq) false false (ord xl xs yl ys)), .bool (mayB xe xl xs xb xq && mayB ye yl ys yb yq && !(false && false))]) ∧ Gr w w' := by
  have h2 : (mayB ye yl ys yb yq && mayB xe xl xs xb xq) = true := by rw [Bool.and_comm]; exact h
  by_cases ho : ord xl xs yl ys < 0
  all_goals
    go_enter Try.func28, Try.ntmps28
    go_wp2_with (first | (go_at_call 35; ((with_reducible refine (safe2_any _ _ _ _ _ _ _ _ _ _ _ _ _).mono ?_); rintro _ _ ⟨rfl, g, rfl⟩)))
    refine wp_region_grow (by kernel_rfl) (by kernel_rfl) ?_
    repeat (go_big_quiet_step ((first | (go_at_call 18; exact grow_call (name_any _ _ _ _ _ _ _)) | (go_at_call 25; exact grow_call (order_any _ _ _ _ _)))))
    refine wpQuiet_nil ?_
    intro g1
    go_wp2
    go_ret2
    exact ⟨by simp [choI, *], by (refine Gr.of ?_; repeat (first | with_reducible exact Below.refl _ _ | with_reducible apply below_alloc | ((with_reducible refine below_set ?_ ?hq _); case hq => (first | omega | exact Nat.le_of_lt (grown_lt _ _ _) | assumption)) | with_reducible refine below_trans ?_ (grown_below _ _) | with_reducible apply Below.drew | with_reducible refine below_trans ?_ (by assumption)))⟩
theorem choose_any (xe xl xs xb xq ye yl ys yb yq : Int) (xm ym : Bool) (w : World) :
    Calls Try.prog 28 #[(Value.agg #[.int .u64 xe, .int .u64 xl, .int .u64 xs, .int .u64 xb, .int .u64 xq, .bool xm]), (Value.agg #[.int .u64 ye, .int .u64 yl, .int .u64 ys, .int .u64 yb, .int .u64 yq, .bool ym])] w fun e w' =>
      e = .returned (.tuple #[.int .i64 (choI (mayB xe xl xs xb xq && mayB ye yl ys yb yq) xm ym (ord xl xs yl ys)), .bool (mayB xe xl xs xb xq && mayB ye yl ys yb yq && !(xm && ym))]) ∧ Gr w w' := by
  rcases Bool.eq_false_or_eq_true (mayB xe xl xs xb xq && mayB ye yl ys yb yq) with h | h
  · rcases Bool.eq_false_or_eq_true (xm || ym) with hm | hm
    · exact choose_marked _ _ _ _ _ _ _ _ _ _ _ _ _ h hm
    · simp only [Bool.or_eq_false_iff] at hm
      obtain ⟨rfl, rfl⟩ := hm
      exact choose_free _ _ _ _ _ _ _ _ _ _ _ h
  · exact choose_not _ _ _ _ _ _ _ _ _ _ _ _ _ h
end Go.Proofs.Ytginaleekfljfaa
