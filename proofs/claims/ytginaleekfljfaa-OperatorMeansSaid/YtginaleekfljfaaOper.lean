/- What the functions of the package operator compute. Conditions: none. -/
import Derived.Test.YtginaleekfljfaaState
namespace Go.Proofs.Ytginaleekfljfaa
open Go.RowKit
set_option linter.unusedVariables false
set_option linter.unusedSimpArgs false
set_option linter.unnecessarySimpa false

def cmp3 (a b : Int) : Int := if a < b then -1 else if b < a then 1 else 0
theorem compare_any (a b : Int) (w : World) :
    Calls Try.prog 34 #[.int .u64 a, .int .u64 b] w fun e w' => e = .returned (.int .i64 (cmp3 a b)) ∧ w = w' := by
  rcases Int.lt_trichotomy a b with h | h | h
  · go_enter Try.func34, Try.ntmps34
    go_wp2
    go_ret
    exact ⟨by simp [cmp3, h], rfl⟩
  · subst h
    go_enter Try.func34, Try.ntmps34
    go_wp2
    go_ret
    exact ⟨by simp [cmp3], rfl⟩
  · have h' : ¬ a < b := by omega
    go_enter Try.func34, Try.ntmps34
    go_wp2
    go_ret
    exact ⟨by simp [cmp3, h, h'], rfl⟩
def or2 (c d : Int) : Int := if c = 0 then d else c
theorem or_two (c d : Int) (b : Nat) (w : World) (h0 : w.cell? ⟨b, 0, none⟩ = some (.int .i64 c)) (h1 : w.cell? ⟨b, 1, none⟩ = some (.int .i64 d)) :
    Calls Try.prog 33 #[.slice (some ⟨b, 0, none⟩) 2 2] w fun e w' => e = .returned (.int .i64 (or2 c d)) ∧ w = w' := by
  by_cases hc : c = 0
  · subst hc
    by_cases hd : d = 0
    · subst hd
      go_enter Try.func33, Try.ntmps33
      go_wp2
      refine wp_loop_rounds 3 ?_
      rw [rounds_succ]
      go_wp2
      rw [rounds_succ]
      go_wp2
      rw [rounds_succ]
      go_wp2
      go_ret
      exact ⟨by simp [or2, *], rfl⟩
    · go_enter Try.func33, Try.ntmps33
      go_wp2
      refine wp_loop_rounds 2 ?_
      rw [rounds_succ]
      go_wp2
      rw [rounds_succ]
      go_wp2
      go_ret
      exact ⟨by simp [or2, *], rfl⟩
  · go_enter Try.func33, Try.ntmps33
    go_wp2
    refine wp_loop_rounds 1 ?_
    rw [rounds_succ]
    go_wp2
    go_ret
    exact ⟨by simp [or2, *], rfl⟩
def ord (ae au be bs : Int) : Int := if ae = be ∧ au = bs then 0 else if cmp3 ae be = 0 then cmp3 au bs else cmp3 ae be
theorem order_any (ae au be bs : Int) (w : World) :
    Calls Try.prog 25 #[.agg #[.int .u64 ae, .int .u64 au], .agg #[.int .u64 be, .int .u64 bs]] w fun e w' => e = .returned (.int .i64 (ord ae au be bs)) ∧ Gr w w' := by
  by_cases h : ae = be
  · subst h
    by_cases h2 : au = bs
    · subst h2
      go_enter Try.func25, Try.ntmps25
      go_wp2
      go_ret
      exact ⟨by simp [ord], by (refine Gr.of ?_; repeat (first | with_reducible exact Below.refl _ _ | with_reducible apply below_alloc | ((with_reducible refine below_set ?_ ?hq _); case hq => (first | omega | exact Nat.le_of_lt (grown_lt _ _ _) | assumption)) | with_reducible refine below_trans ?_ (grown_below _ _) | with_reducible apply Below.drew | with_reducible refine below_trans ?_ (by assumption)))⟩
    go_enter Try.func25, Try.ntmps25
    go_wp2
    refine wp_region_grow_tail 10 (by kernel_rfl) (by kernel_rfl) ?_
    simp only [List.take_succ_cons, List.take_zero, List.drop_succ_cons, List.drop_zero]
    repeat (go_big_quiet_step ((go_at_call 34; exact grow_call_same (compare_any _ _ _))))
    refine wpQuiet_nil ?_
    intro g1
    go_wp2_with fail
    refine (or_two (cmp3 ae ae) (cmp3 au bs) _ _ ?h0 ?h1).mono ?hh
    case h0 => simp
    case h1 => simp
    case hh =>
     rintro e w2 ⟨rfl, rfl⟩
     go_wp2
     go_ret
     exact ⟨by simp [ord, or2, cmp3, *], by (refine Gr.of ?_; repeat (first | with_reducible exact Below.refl _ _ | with_reducible apply below_alloc | ((with_reducible refine below_set ?_ ?hq _); case hq => (first | omega | exact Nat.le_of_lt (grown_lt _ _ _) | assumption)) | with_reducible refine below_trans ?_ (grown_below _ _) | with_reducible apply Below.drew | with_reducible refine below_trans ?_ (by assumption)))⟩
  · go_enter Try.func25, Try.ntmps25
    go_wp2
    refine wp_region_grow_tail 10 (by kernel_rfl) (by kernel_rfl) ?_
    simp only [List.take_succ_cons, List.take_zero, List.drop_succ_cons, List.drop_zero]
    repeat (go_big_quiet_step ((go_at_call 34; exact grow_call_same (compare_any _ _ _))))
    refine wpQuiet_nil ?_
    intro g1
    go_wp2_with fail
    refine (or_two (cmp3 ae be) (cmp3 au bs) _ _ ?h0 ?h1).mono ?hh
    case h0 => simp
    case h1 => simp
    case hh =>
     rintro e w2 ⟨rfl, rfl⟩
     go_wp2
     go_ret
     exact ⟨by simp [ord, or2, cmp3, *], by (refine Gr.of ?_; repeat (first | with_reducible exact Below.refl _ _ | with_reducible apply below_alloc | ((with_reducible refine below_set ?_ ?hq _); case hq => (first | omega | exact Nat.le_of_lt (grown_lt _ _ _) | assumption)) | with_reducible refine below_trans ?_ (grown_below _ _) | with_reducible apply Below.drew | with_reducible refine below_trans ?_ (by assumption)))⟩
theorem may2_any (xe xl xs xb xq ye yl ys yb yq : Int) (xm ym : Bool) (w : World) :
    Calls Try.prog 32 #[(Value.agg #[.int .u64 xe, .int .u64 xl, .int .u64 xs, .int .u64 xb, .int .u64 xq, .bool xm]), (Value.agg #[.int .u64 ye, .int .u64 yl, .int .u64 ys, .int .u64 yb, .int .u64 yq, .bool ym])] w fun e w' => e = .returned (.bool (mayB xe xl xs xb xq && mayB ye yl ys yb yq)) ∧ Gr w w' := by
  rcases Bool.eq_false_or_eq_true (mayB xe xl xs xb xq) with h | h
  all_goals
    go_enter Try.func32, Try.ntmps32
    go_wp2_with (first | (go_at_call 16; ((with_reducible refine (may_any _ _ _ _ _ _ _).mono ?_); rintro _ _ ⟨rfl, g, rfl⟩)))
    go_ret
    exact ⟨by simp [h], by (refine Gr.of ?_; repeat (first | with_reducible exact Below.refl _ _ | with_reducible apply below_alloc | ((with_reducible refine below_set ?_ ?hq _); case hq => (first | omega | exact Nat.le_of_lt (grown_lt _ _ _) | assumption)) | with_reducible refine below_trans ?_ (grown_below _ _) | with_reducible apply Below.drew | with_reducible refine below_trans ?_ (by assumption)))⟩
/-- The epoch, is it not safe, the error. -/
def proE (m ym f : Bool) (xe ye : Int) : Int := if !m || ym && !f then 0 else if 4611686018427387904 ≤ max xe ye then 0 else max xe ye + 1
def proU (m ym f : Bool) (xe ye : Int) : Bool := if !m || ym && !f then false else if 4611686018427387904 ≤ max xe ye then false else ym
def proC (m ym f : Bool) (xe ye : Int) : Int := if !m then 2 else if ym && !f then 12 else if 4611686018427387904 ≤ max xe ye then 8 else 0
theorem promote_any (xe xl xs xb xq ye yl ys yb yq : Int) (xm ym f : Bool) (w : World) (hx : 0 ≤ xe) (hy : 0 ≤ ye) :
    Calls Try.prog 12 #[(Value.agg #[.int .u64 xe, .int .u64 xl, .int .u64 xs, .int .u64 xb, .int .u64 xq, .bool xm]), (Value.agg #[.int .u64 ye, .int .u64 yl, .int .u64 ys, .int .u64 yb, .int .u64 yq, .bool ym]), .bool f] w fun e w' =>
      e = .returned (.tuple #[.int .u64 (proE (mayB xe xl xs xb xq && mayB ye yl ys yb yq) ym f xe ye), .bool (proU (mayB xe xl xs xb xq && mayB ye yl ys yb yq) ym f xe ye), .int .i64 (proC (mayB xe xl xs xb xq && mayB ye yl ys yb yq) ym f xe ye)]) ∧ Gr w w' := by
  rcases Bool.eq_false_or_eq_true (mayB xe xl xs xb xq && mayB ye yl ys yb yq) with h | h
  all_goals
    rcases Bool.eq_false_or_eq_true ym with rfl | rfl <;> rcases Bool.eq_false_or_eq_true f with rfl | rfl
    all_goals
      go_enter Try.func12, Try.ntmps12
      go_wp2_with (first | (go_at_call 10; ((with_reducible refine (safe_any _ _ _ _ _ _ _ _ _ _ _ _ _).mono ?_); rintro _ _ ⟨rfl, g, rfl⟩)) | (go_at_call 32; ((with_reducible refine (may2_any _ _ _ _ _ _ _ _ _ _ _ _ _).mono ?_); rintro _ _ ⟨rfl, g, rfl⟩)))
      all_goals go_ret3
      all_goals refine ⟨?_, by (refine Gr.of ?_; repeat (first | with_reducible exact Below.refl _ _ | with_reducible apply below_alloc | ((with_reducible refine below_set ?_ ?hq _); case hq => (first | omega | exact Nat.le_of_lt (grown_lt _ _ _) | assumption)) | with_reducible refine below_trans ?_ (grown_below _ _) | with_reducible apply Below.drew | with_reducible refine below_trans ?_ (by assumption)))⟩
      all_goals simp [proE, proU, proC]
      all_goals omega
end Go.Proofs.Ytginaleekfljfaa
