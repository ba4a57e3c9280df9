/- What the functions of the reference of layer 22 compute. Conditions: epochs are not below 0 where an epoch is counted on. -/
import Derived.Test.YtginaleekfljfaaOper2
namespace Go.Proofs.Ytginaleekfljfaa
open Go.RowKit
set_option linter.unusedVariables false
set_option linter.unusedSimpArgs false
set_option linter.unnecessarySimpa false

set_option maxHeartbeats 1000000 in
theorem refChoose_any (xe xl xs xb xq ye yl ys yb yq : Int) (xm ym : Bool) (w : World) :
    Calls Try.prog 29 #[(Value.agg #[.int .u64 xe, .int .u64 xl, .int .u64 xs, .int .u64 xb, .int .u64 xq, .bool xm]), (Value.agg #[.int .u64 ye, .int .u64 yl, .int .u64 ys, .int .u64 yb, .int .u64 yq, .bool ym])] w fun e w' =>
      e = .returned (.tuple #[.int .i64 (choI (mayB xe xl xs xb xq && mayB ye yl ys yb yq) xm ym (ord xl xs yl ys)), .bool (mayB xe xl xs xb xq && mayB ye yl ys yb yq && !(xm && ym))]) ∧ Gr w w' := by
  rcases Bool.eq_false_or_eq_true (mayB xe xl xs xb xq) with h | h
  · rcases Bool.eq_false_or_eq_true (mayB ye yl ys yb yq) with h2 | h2
    · cases xm <;> cases ym
      · by_cases ho : ord xl xs yl ys < 0
        all_goals
          go_enter Try.func29, Try.ntmps29
          go_wp2_with (first | (go_at_call 31; ((with_reducible refine (may19_any _ _ _ _ _ _ _).mono ?_); rintro _ _ ⟨rfl, g, rfl⟩)) | (go_at_call 26; ((with_reducible refine (refOrder_any _ _ _ _ _).mono ?_); rintro _ _ ⟨rfl, g, rfl⟩)))
          go_ret2
          exact ⟨by simp [choI, *], by (refine Gr.of ?_; repeat (first | with_reducible exact Below.refl _ _ | with_reducible apply below_alloc | ((with_reducible refine below_set ?_ ?hq _); case hq => (first | omega | exact Nat.le_of_lt (grown_lt _ _ _) | assumption)) | with_reducible refine below_trans ?_ (grown_below _ _) | with_reducible apply Below.drew | with_reducible refine below_trans ?_ (by assumption)))⟩
      all_goals
        go_enter Try.func29, Try.ntmps29
        go_wp2_with (first | (go_at_call 31; ((with_reducible refine (may19_any _ _ _ _ _ _ _).mono ?_); rintro _ _ ⟨rfl, g, rfl⟩)) | (go_at_call 26; ((with_reducible refine (refOrder_any _ _ _ _ _).mono ?_); rintro _ _ ⟨rfl, g, rfl⟩)))
        go_ret2
        exact ⟨by simp [choI, *], by (refine Gr.of ?_; repeat (first | with_reducible exact Below.refl _ _ | with_reducible apply below_alloc | ((with_reducible refine below_set ?_ ?hq _); case hq => (first | omega | exact Nat.le_of_lt (grown_lt _ _ _) | assumption)) | with_reducible refine below_trans ?_ (grown_below _ _) | with_reducible apply Below.drew | with_reducible refine below_trans ?_ (by assumption)))⟩
    · go_enter Try.func29, Try.ntmps29
      go_wp2_with (first | (go_at_call 31; ((with_reducible refine (may19_any _ _ _ _ _ _ _).mono ?_); rintro _ _ ⟨rfl, g, rfl⟩)) | (go_at_call 26; ((with_reducible refine (refOrder_any _ _ _ _ _).mono ?_); rintro _ _ ⟨rfl, g, rfl⟩)))
      go_ret2
      exact ⟨by simp [choI, *], by (refine Gr.of ?_; repeat (first | with_reducible exact Below.refl _ _ | with_reducible apply below_alloc | ((with_reducible refine below_set ?_ ?hq _); case hq => (first | omega | exact Nat.le_of_lt (grown_lt _ _ _) | assumption)) | with_reducible refine below_trans ?_ (grown_below _ _) | with_reducible apply Below.drew | with_reducible refine below_trans ?_ (by assumption)))⟩
  · go_enter Try.func29, Try.ntmps29
    go_wp2_with (first | (go_at_call 31; ((with_reducible refine (may19_any _ _ _ _ _ _ _).mono ?_); rintro _ _ ⟨rfl, g, rfl⟩)) | (go_at_call 26; ((with_reducible refine (refOrder_any _ _ _ _ _).mono ?_); rintro _ _ ⟨rfl, g, rfl⟩)))
    go_ret2
    exact ⟨by simp [choI, *], by (refine Gr.of ?_; repeat (first | with_reducible exact Below.refl _ _ | with_reducible apply below_alloc | ((with_reducible refine below_set ?_ ?hq _); case hq => (first | omega | exact Nat.le_of_lt (grown_lt _ _ _) | assumption)) | with_reducible refine below_trans ?_ (grown_below _ _) | with_reducible apply Below.drew | with_reducible refine below_trans ?_ (by assumption)))⟩
theorem mayB_le {xe xl xs xb xq : Int} (h : mayB xe xl xs xb xq = true) : xe ≤ 4611686018427387904 := by
  simp [mayB] at h; omega
set_option maxHeartbeats 2000000 in
theorem refPromote_any (xe xl xs xb xq ye yl ys yb yq : Int) (xm ym f : Bool) (w : World) (hx : 0 ≤ xe) (hy : 0 ≤ ye) :
    Calls Try.prog 27 #[(Value.agg #[.int .u64 xe, .int .u64 xl, .int .u64 xs, .int .u64 xb, .int .u64 xq, .bool xm]), (Value.agg #[.int .u64 ye, .int .u64 yl, .int .u64 ys, .int .u64 yb, .int .u64 yq, .bool ym]), .bool f] w fun e w' =>
      e = .returned (.tuple #[.int .u64 (proE (mayB xe xl xs xb xq && mayB ye yl ys yb yq) ym f xe ye), .bool (proU (mayB xe xl xs xb xq && mayB ye yl ys yb yq) ym f xe ye), .int .i64 (proC (mayB xe xl xs xb xq && mayB ye yl ys yb yq) ym f xe ye)]) ∧ Gr w w' := by
  rcases Bool.eq_false_or_eq_true (mayB xe xl xs xb xq) with h | h
  · rcases Bool.eq_false_or_eq_true (mayB ye yl ys yb yq) with h2 | h2
    · have b1 := mayB_le h
      have b2 := mayB_le h2
      cases ym <;> cases f
      all_goals
        by_cases hg : xe < ye
        · by_cases hm : ye < 4611686018427387904
          · go_enter Try.func27, Try.ntmps27
            go_wp2_with (first | (go_at_call 31; ((with_reducible refine (may19_any _ _ _ _ _ _ _).mono ?_); rintro _ _ ⟨rfl, g, rfl⟩)))
            all_goals try (go_region; all_goals go_wp2)
            all_goals go_ret3
            all_goals refine ⟨?_, by (refine Gr.of ?_; repeat (first | with_reducible exact Below.refl _ _ | with_reducible apply below_alloc | ((with_reducible refine below_set ?_ ?hq _); case hq => (first | omega | exact Nat.le_of_lt (grown_lt _ _ _) | assumption)) | with_reducible refine below_trans ?_ (grown_below _ _) | with_reducible apply Below.drew | with_reducible refine below_trans ?_ (by assumption)))⟩
            all_goals simp [proE, proU, proC, *]
            all_goals omega
          · have : ye = 4611686018427387904 := by omega
            subst this
            go_enter Try.func27, Try.ntmps27
            go_wp2_with (first | (go_at_call 31; ((with_reducible refine (may19_any _ _ _ _ _ _ _).mono ?_); rintro _ _ ⟨rfl, g, rfl⟩)))
            all_goals try (go_region; all_goals go_wp2)
            all_goals go_ret3
            all_goals refine ⟨?_, by (refine Gr.of ?_; repeat (first | with_reducible exact Below.refl _ _ | with_reducible apply below_alloc | ((with_reducible refine below_set ?_ ?hq _); case hq => (first | omega | exact Nat.le_of_lt (grown_lt _ _ _) | assumption)) | with_reducible refine below_trans ?_ (grown_below _ _) | with_reducible apply Below.drew | with_reducible refine below_trans ?_ (by assumption)))⟩
            all_goals simp [proE, proU, proC, *]
            all_goals omega
        · by_cases hm : xe < 4611686018427387904
          · go_enter Try.func27, Try.ntmps27
            go_wp2_with (first | (go_at_call 31; ((with_reducible refine (may19_any _ _ _ _ _ _ _).mono ?_); rintro _ _ ⟨rfl, g, rfl⟩)))
            all_goals try (go_region; all_goals go_wp2)
            all_goals go_ret3
            all_goals refine ⟨?_, by (refine Gr.of ?_; repeat (first | with_reducible exact Below.refl _ _ | with_reducible apply below_alloc | ((with_reducible refine below_set ?_ ?hq _); case hq => (first | omega | exact Nat.le_of_lt (grown_lt _ _ _) | assumption)) | with_reducible refine below_trans ?_ (grown_below _ _) | with_reducible apply Below.drew | with_reducible refine below_trans ?_ (by assumption)))⟩
            all_goals simp [proE, proU, proC, *]
            all_goals omega
          · have : xe = 4611686018427387904 := by omega
            subst this
            go_enter Try.func27, Try.ntmps27
            go_wp2_with (first | (go_at_call 31; ((with_reducible refine (may19_any _ _ _ _ _ _ _).mono ?_); rintro _ _ ⟨rfl, g, rfl⟩)))
            all_goals try (go_region; all_goals go_wp2)
            all_goals go_ret3
            all_goals refine ⟨?_, by (refine Gr.of ?_; repeat (first | with_reducible exact Below.refl _ _ | with_reducible apply below_alloc | ((with_reducible refine below_set ?_ ?hq _); case hq => (first | omega | exact Nat.le_of_lt (grown_lt _ _ _) | assumption)) | with_reducible refine below_trans ?_ (grown_below _ _) | with_reducible apply Below.drew | with_reducible refine below_trans ?_ (by assumption)))⟩
            all_goals simp [proE, proU, proC, *]
            all_goals omega
    · go_enter Try.func27, Try.ntmps27
      go_wp2_with (first | (go_at_call 31; ((with_reducible refine (may19_any _ _ _ _ _ _ _).mono ?_); rintro _ _ ⟨rfl, g, rfl⟩)))
      all_goals try (go_region; all_goals go_wp2)
      all_goals go_ret3
      all_goals refine ⟨?_, by (refine Gr.of ?_; repeat (first | with_reducible exact Below.refl _ _ | with_reducible apply below_alloc | ((with_reducible refine below_set ?_ ?hq _); case hq => (first | omega | exact Nat.le_of_lt (grown_lt _ _ _) | assumption)) | with_reducible refine below_trans ?_ (grown_below _ _) | with_reducible apply Below.drew | with_reducible refine below_trans ?_ (by assumption)))⟩
      all_goals simp [proE, proU, proC, *]
      all_goals omega
  · go_enter Try.func27, Try.ntmps27
    go_wp2_with (first | (go_at_call 31; ((with_reducible refine (may19_any _ _ _ _ _ _ _).mono ?_); rintro _ _ ⟨rfl, g, rfl⟩)))
    all_goals try (go_region; all_goals go_wp2)
    all_goals go_ret3
    all_goals refine ⟨?_, by (refine Gr.of ?_; repeat (first | with_reducible exact Below.refl _ _ | with_reducible apply below_alloc | ((with_reducible refine below_set ?_ ?hq _); case hq => (first | omega | exact Nat.le_of_lt (grown_lt _ _ _) | assumption)) | with_reducible refine below_trans ?_ (grown_below _ _) | with_reducible apply Below.drew | with_reducible refine below_trans ?_ (by assumption)))⟩
    all_goals simp [proE, proU, proC, *]
    all_goals omega
end Go.Proofs.Ytginaleekfljfaa
