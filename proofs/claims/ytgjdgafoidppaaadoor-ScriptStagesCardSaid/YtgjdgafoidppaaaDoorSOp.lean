/- command.within, command.Same. Conditions: what is read stands in memory. -/
import Derived.Test.YtgjdgafoidppaaaDoorSTab
import Derived.Test.YtgjdgafoidppaaaDoorSLeaf
namespace Go.Proofs.YtgjdgafoidppaaaDoor
open Go.RowKit
set_option linter.unusedVariables false
set_option linter.unusedSimpArgs false
set_option linter.unnecessarySimpa false
theorem ret_bool {a b : Bool} (h : a = b) : Ending.returned (.bool a) = .returned (.bool b) := by rw [h]
def wVol (v : Int) : Bool := decide (1 ≤ v) && decide (v < 4294967296)
def wTo (t v : Int) : Bool := decide (1 ≤ t) && decide (t < 4294967296) && (t != v)
def wSize (s : Int) : Bool := decide (0 ≤ s) && decide (s ≤ 256)
def wAt (a : Int) : Bool := decide (0 ≤ a) && decide (a ≤ 1048576)
def wCount (c : Int) : Bool := decide (1 ≤ c) && decide (c ≤ 1024)
def wData (n : Nat) : Bool := decide (64 ≤ n) && decide (n % 64 = 0) && decide (n ≤ 2048)
set_option maxHeartbeats 1000000 in
theorem within_v (xk xv xt xs xa xc : Int) (xD : Option Addr) (xn xq : Nat) (w : World) : Calls Tryd.prog 65 #[.int .i32 118, (Value.agg #[.int .i64 xk, .int .u64 xv, .int .u64 xt, .int .i64 xs, .int .i64 xa, .int .i64 xc, .slice xD xn xq])] w fun e w' => e = .returned (.bool (wVol xv)) ∧ Gr w w' := by
  by_cases h0 : 1 ≤ xv
  · by_cases h1 : xv < 4294967296
    · go_enter Tryd.func65, Tryd.ntmps65
      go_wp2
      go_ret
      exact ⟨ret_bool (by simp [wVol, wSize, wAt, wCount, *]), by (refine Gr.of ?_; repeat (first | with_reducible exact Below.refl _ _ | with_reducible apply below_alloc | ((with_reducible refine below_set ?_ ?hq _); case hq => (first | omega | exact Nat.le_of_lt (grown_lt _ _ _) | assumption)) | with_reducible refine below_trans ?_ (grown_below _ _) | ((with_reducible refine below_iter ?_ ?hq _ _); case hq => (first | omega | exact Nat.le_of_lt (grown_lt _ _ _) | (simp; omega))) | with_reducible apply Below.drew | with_reducible refine below_trans ?_ (by assumption)))⟩
    · have f1 : decide (xv < 4294967296) = false := by simpa using h1
      go_enter Tryd.func65, Tryd.ntmps65
      go_wp2
      go_ret
      exact ⟨ret_bool (by simp [wVol, wSize, wAt, wCount, *]), by (refine Gr.of ?_; repeat (first | with_reducible exact Below.refl _ _ | with_reducible apply below_alloc | ((with_reducible refine below_set ?_ ?hq _); case hq => (first | omega | exact Nat.le_of_lt (grown_lt _ _ _) | assumption)) | with_reducible refine below_trans ?_ (grown_below _ _) | ((with_reducible refine below_iter ?_ ?hq _ _); case hq => (first | omega | exact Nat.le_of_lt (grown_lt _ _ _) | (simp; omega))) | with_reducible apply Below.drew | with_reducible refine below_trans ?_ (by assumption)))⟩
  · have f0 : decide (1 ≤ xv) = false := by simpa using h0
    go_enter Tryd.func65, Tryd.ntmps65
    go_wp2
    go_ret
    exact ⟨ret_bool (by simp [wVol, wSize, wAt, wCount, *]), by (refine Gr.of ?_; repeat (first | with_reducible exact Below.refl _ _ | with_reducible apply below_alloc | ((with_reducible refine below_set ?_ ?hq _); case hq => (first | omega | exact Nat.le_of_lt (grown_lt _ _ _) | assumption)) | with_reducible refine below_trans ?_ (grown_below _ _) | ((with_reducible refine below_iter ?_ ?hq _ _); case hq => (first | omega | exact Nat.le_of_lt (grown_lt _ _ _) | (simp; omega))) | with_reducible apply Below.drew | with_reducible refine below_trans ?_ (by assumption)))⟩
set_option maxHeartbeats 1000000 in
theorem within_s (xk xv xt xs xa xc : Int) (xD : Option Addr) (xn xq : Nat) (w : World) : Calls Tryd.prog 65 #[.int .i32 115, (Value.agg #[.int .i64 xk, .int .u64 xv, .int .u64 xt, .int .i64 xs, .int .i64 xa, .int .i64 xc, .slice xD xn xq])] w fun e w' => e = .returned (.bool (wSize xs)) ∧ Gr w w' := by
  by_cases h0 : 0 ≤ xs
  · by_cases h1 : xs ≤ 256
    · go_enter Tryd.func65, Tryd.ntmps65
      go_wp2
      go_ret
      exact ⟨ret_bool (by simp [wVol, wSize, wAt, wCount, *]), by (refine Gr.of ?_; repeat (first | with_reducible exact Below.refl _ _ | with_reducible apply below_alloc | ((with_reducible refine below_set ?_ ?hq _); case hq => (first | omega | exact Nat.le_of_lt (grown_lt _ _ _) | assumption)) | with_reducible refine below_trans ?_ (grown_below _ _) | ((with_reducible refine below_iter ?_ ?hq _ _); case hq => (first | omega | exact Nat.le_of_lt (grown_lt _ _ _) | (simp; omega))) | with_reducible apply Below.drew | with_reducible refine below_trans ?_ (by assumption)))⟩
    · have f1 : decide (xs ≤ 256) = false := by simpa using h1
      go_enter Tryd.func65, Tryd.ntmps65
      go_wp2
      go_ret
      exact ⟨ret_bool (by simp [wVol, wSize, wAt, wCount, *]), by (refine Gr.of ?_; repeat (first | with_reducible exact Below.refl _ _ | with_reducible apply below_alloc | ((with_reducible refine below_set ?_ ?hq _); case hq => (first | omega | exact Nat.le_of_lt (grown_lt _ _ _) | assumption)) | with_reducible refine below_trans ?_ (grown_below _ _) | ((with_reducible refine below_iter ?_ ?hq _ _); case hq => (first | omega | exact Nat.le_of_lt (grown_lt _ _ _) | (simp; omega))) | with_reducible apply Below.drew | with_reducible refine below_trans ?_ (by assumption)))⟩
  · have f0 : decide (0 ≤ xs) = false := by simpa using h0
    go_enter Tryd.func65, Tryd.ntmps65
    go_wp2
    go_ret
    exact ⟨ret_bool (by simp [wVol, wSize, wAt, wCount, *]), by (refine Gr.of ?_; repeat (first | with_reducible exact Below.refl _ _ | with_reducible apply below_alloc | ((with_reducible refine below_set ?_ ?hq _); case hq => (first | omega | exact Nat.le_of_lt (grown_lt _ _ _) | assumption)) | with_reducible refine below_trans ?_ (grown_below _ _) | ((with_reducible refine below_iter ?_ ?hq _ _); case hq => (first | omega | exact Nat.le_of_lt (grown_lt _ _ _) | (simp; omega))) | with_reducible apply Below.drew | with_reducible refine below_trans ?_ (by assumption)))⟩
set_option maxHeartbeats 1000000 in
theorem within_a (xk xv xt xs xa xc : Int) (xD : Option Addr) (xn xq : Nat) (w : World) : Calls Tryd.prog 65 #[.int .i32 97, (Value.agg #[.int .i64 xk, .int .u64 xv, .int .u64 xt, .int .i64 xs, .int .i64 xa, .int .i64 xc, .slice xD xn xq])] w fun e w' => e = .returned (.bool (wAt xa)) ∧ Gr w w' := by
  by_cases h0 : 0 ≤ xa
  · by_cases h1 : xa ≤ 1048576
    · go_enter Tryd.func65, Tryd.ntmps65
      go_wp2
      go_ret
      exact ⟨ret_bool (by simp [wVol, wSize, wAt, wCount, *]), by (refine Gr.of ?_; repeat (first | with_reducible exact Below.refl _ _ | with_reducible apply below_alloc | ((with_reducible refine below_set ?_ ?hq _); case hq => (first | omega | exact Nat.le_of_lt (grown_lt _ _ _) | assumption)) | with_reducible refine below_trans ?_ (grown_below _ _) | ((with_reducible refine below_iter ?_ ?hq _ _); case hq => (first | omega | exact Nat.le_of_lt (grown_lt _ _ _) | (simp; omega))) | with_reducible apply Below.drew | with_reducible refine below_trans ?_ (by assumption)))⟩
    · have f1 : decide (xa ≤ 1048576) = false := by simpa using h1
      go_enter Tryd.func65, Tryd.ntmps65
      go_wp2
      go_ret
      exact ⟨ret_bool (by simp [wVol, wSize, wAt, wCount, *]), by (refine Gr.of ?_; repeat (first | with_reducible exact Below.refl _ _ | with_reducible apply below_alloc | ((with_reducible refine below_set ?_ ?hq _); case hq => (first | omega | exact Nat.le_of_lt (grown_lt _ _ _) | assumption)) | with_reducible refine below_trans ?_ (grown_below _ _) | ((with_reducible refine below_iter ?_ ?hq _ _); case hq => (first | omega | exact Nat.le_of_lt (grown_lt _ _ _) | (simp; omega))) | with_reducible apply Below.drew | with_reducible refine below_trans ?_ (by assumption)))⟩
  · have f0 : decide (0 ≤ xa) = false := by simpa using h0
    go_enter Tryd.func65, Tryd.ntmps65
    go_wp2
    go_ret
    exact ⟨ret_bool (by simp [wVol, wSize, wAt, wCount, *]), by (refine Gr.of ?_; repeat (first | with_reducible exact Below.refl _ _ | with_reducible apply below_alloc | ((with_reducible refine below_set ?_ ?hq _); case hq => (first | omega | exact Nat.le_of_lt (grown_lt _ _ _) | assumption)) | with_reducible refine below_trans ?_ (grown_below _ _) | ((with_reducible refine below_iter ?_ ?hq _ _); case hq => (first | omega | exact Nat.le_of_lt (grown_lt _ _ _) | (simp; omega))) | with_reducible apply Below.drew | with_reducible refine below_trans ?_ (by assumption)))⟩
set_option maxHeartbeats 1000000 in
theorem within_c (xk xv xt xs xa xc : Int) (xD : Option Addr) (xn xq : Nat) (w : World) : Calls Tryd.prog 65 #[.int .i32 99, (Value.agg #[.int .i64 xk, .int .u64 xv, .int .u64 xt, .int .i64 xs, .int .i64 xa, .int .i64 xc, .slice xD xn xq])] w fun e w' => e = .returned (.bool (wCount xc)) ∧ Gr w w' := by
  by_cases h0 : 1 ≤ xc
  · by_cases h1 : xc ≤ 1024
    · go_enter Tryd.func65, Tryd.ntmps65
      go_wp2
      go_ret
      exact ⟨ret_bool (by simp [wVol, wSize, wAt, wCount, *]), by (refine Gr.of ?_; repeat (first | with_reducible exact Below.refl _ _ | with_reducible apply below_alloc | ((with_reducible refine below_set ?_ ?hq _); case hq => (first | omega | exact Nat.le_of_lt (grown_lt _ _ _) | assumption)) | with_reducible refine below_trans ?_ (grown_below _ _) | ((with_reducible refine below_iter ?_ ?hq _ _); case hq => (first | omega | exact Nat.le_of_lt (grown_lt _ _ _) | (simp; omega))) | with_reducible apply Below.drew | with_reducible refine below_trans ?_ (by assumption)))⟩
    · have f1 : decide (xc ≤ 1024) = false := by simpa using h1
      go_enter Tryd.func65, Tryd.ntmps65
      go_wp2
      go_ret
      exact ⟨ret_bool (by simp [wVol, wSize, wAt, wCount, *]), by (refine Gr.of ?_; repeat (first | with_reducible exact Below.refl _ _ | with_reducible apply below_alloc | ((with_reducible refine below_set ?_ ?hq _); case hq => (first | omega | exact Nat.le_of_lt (grown_lt _ _ _) | assumption)) | with_reducible refine below_trans ?_ (grown_below _ _) | ((with_reducible refine below_iter ?_ ?hq _ _); case hq => (first | omega | exact Nat.le_of_lt (grown_lt _ _ _) | (simp; omega))) | with_reducible apply Below.drew | with_reducible refine below_trans ?_ (by assumption)))⟩
  · have f0 : decide (1 ≤ xc) = false := by simpa using h0
    go_enter Tryd.func65, Tryd.ntmps65
    go_wp2
    go_ret
    exact ⟨ret_bool (by simp [wVol, wSize, wAt, wCount, *]), by (refine Gr.of ?_; repeat (first | with_reducible exact Below.refl _ _ | with_reducible apply below_alloc | ((with_reducible refine below_set ?_ ?hq _); case hq => (first | omega | exact Nat.le_of_lt (grown_lt _ _ _) | assumption)) | with_reducible refine below_trans ?_ (grown_below _ _) | ((with_reducible refine below_iter ?_ ?hq _ _); case hq => (first | omega | exact Nat.le_of_lt (grown_lt _ _ _) | (simp; omega))) | with_reducible apply Below.drew | with_reducible refine below_trans ?_ (by assumption)))⟩
set_option maxHeartbeats 1000000 in
theorem within_t (xk xv xt xs xa xc : Int) (xD : Option Addr) (xn xq : Nat) (w : World) : Calls Tryd.prog 65 #[.int .i32 116, (Value.agg #[.int .i64 xk, .int .u64 xv, .int .u64 xt, .int .i64 xs, .int .i64 xa, .int .i64 xc, .slice xD xn xq])] w fun e w' => e = .returned (.bool (wTo xt xv)) ∧ Gr w w' := by
  by_cases h0 : 1 ≤ xt
  · by_cases h1 : xt < 4294967296
    · rcases Bool.eq_false_or_eq_true (xt != xv) with h2 | h2
      all_goals
        go_enter Tryd.func65, Tryd.ntmps65
        go_wp2
        go_ret
        exact ⟨ret_bool (by simp only [wTo, h2, decide_eq_true h0, decide_eq_true h1]; rfl), by (refine Gr.of ?_; repeat (first | with_reducible exact Below.refl _ _ | with_reducible apply below_alloc | ((with_reducible refine below_set ?_ ?hq _); case hq => (first | omega | exact Nat.le_of_lt (grown_lt _ _ _) | assumption)) | with_reducible refine below_trans ?_ (grown_below _ _) | ((with_reducible refine below_iter ?_ ?hq _ _); case hq => (first | omega | exact Nat.le_of_lt (grown_lt _ _ _) | (simp; omega))) | with_reducible apply Below.drew | with_reducible refine below_trans ?_ (by assumption)))⟩
    · have f1 : decide (xt < 4294967296) = false := by simpa using h1
      go_enter Tryd.func65, Tryd.ntmps65
      go_wp2
      go_ret
      exact ⟨ret_bool (by simp [wTo, f1]), by (refine Gr.of ?_; repeat (first | with_reducible exact Below.refl _ _ | with_reducible apply below_alloc | ((with_reducible refine below_set ?_ ?hq _); case hq => (first | omega | exact Nat.le_of_lt (grown_lt _ _ _) | assumption)) | with_reducible refine below_trans ?_ (grown_below _ _) | ((with_reducible refine below_iter ?_ ?hq _ _); case hq => (first | omega | exact Nat.le_of_lt (grown_lt _ _ _) | (simp; omega))) | with_reducible apply Below.drew | with_reducible refine below_trans ?_ (by assumption)))⟩
  · have f0 : decide (1 ≤ xt) = false := by simpa using h0
    go_enter Tryd.func65, Tryd.ntmps65
    go_wp2
    go_ret
    exact ⟨ret_bool (by simp [wTo, f0]), by (refine Gr.of ?_; repeat (first | with_reducible exact Below.refl _ _ | with_reducible apply below_alloc | ((with_reducible refine below_set ?_ ?hq _); case hq => (first | omega | exact Nat.le_of_lt (grown_lt _ _ _) | assumption)) | with_reducible refine below_trans ?_ (grown_below _ _) | ((with_reducible refine below_iter ?_ ?hq _ _); case hq => (first | omega | exact Nat.le_of_lt (grown_lt _ _ _) | (simp; omega))) | with_reducible apply Below.drew | with_reducible refine below_trans ?_ (by assumption)))⟩
set_option maxHeartbeats 1000000 in
theorem within_d (xk xv xt xs xa xc : Int) (xD : Option Addr) (xn xq : Nat) (w : World) : Calls Tryd.prog 65 #[.int .i32 100, (Value.agg #[.int .i64 xk, .int .u64 xv, .int .u64 xt, .int .i64 xs, .int .i64 xa, .int .i64 xc, .slice xD xn xq])] w fun e w' => e = .returned (.bool (wData xn)) ∧ Gr w w' := by
  go_enter Tryd.func65, Tryd.ntmps65
  go_wp2
  all_goals go_ret
  all_goals exact ⟨ret_bool (by rw [Bool.eq_iff_iff]; simp [wData]; omega), by (refine Gr.of ?_; repeat (first | with_reducible exact Below.refl _ _ | with_reducible apply below_alloc | ((with_reducible refine below_set ?_ ?hq _); case hq => (first | omega | exact Nat.le_of_lt (grown_lt _ _ _) | assumption)) | with_reducible refine below_trans ?_ (grown_below _ _) | ((with_reducible refine below_iter ?_ ?hq _ _); case hq => (first | omega | exact Nat.le_of_lt (grown_lt _ _ _) | (simp; omega))) | with_reducible apply Below.drew | with_reducible refine below_trans ?_ (by assumption)))⟩
def sameB (xk xv xt xs xa xc yk yv yt ys ya yc : Int) (lx ly : List UInt8) : Bool := xk == yk && xv == yv && xt == yt && xs == ys && xa == ya && xc == yc && lx == ly
set_option maxHeartbeats 2000000 in
theorem same13_any (xk xv xt xs xa xc yk yv yt ys ya yc : Int) (xD yD : Option Addr) (xn xq yn yq : Nat) (lx ly : List UInt8) (w : World) (hx : lx.length = xn) (hy : ly.length = yn) (hn : xn ≤ 9223372036854775807) (h1 : Row bv w xD lx) (h2 : Row bv w yD ly) :
    Calls Tryd.prog 66 #[(Value.agg #[.int .i64 xk, .int .u64 xv, .int .u64 xt, .int .i64 xs, .int .i64 xa, .int .i64 xc, .slice xD xn xq]), (Value.agg #[.int .i64 yk, .int .u64 yv, .int .u64 yt, .int .i64 ys, .int .i64 ya, .int .i64 yc, .slice yD yn yq])] w fun e w' => e = .returned (.bool (sameB xk xv xt xs xa xc yk yv yt ys ya yc lx ly)) ∧ Gr w w' := by
  have HX := Lib.hid hx; clear hx
  have HY := Lib.hid hy; clear hy
  rcases Bool.eq_false_or_eq_true (xk == yk) with k1 | k1
  rotate_left
  · go_enter Tryd.func66, Tryd.ntmps66
    go_wp2
    go_ret
    exact ⟨ret_bool (by simp [sameB, k1]), by (refine Gr.of ?_; repeat (first | with_reducible exact Below.refl _ _ | with_reducible apply below_alloc | ((with_reducible refine below_set ?_ ?hq _); case hq => (first | omega | exact Nat.le_of_lt (grown_lt _ _ _) | assumption)) | with_reducible refine below_trans ?_ (grown_below _ _) | ((with_reducible refine below_iter ?_ ?hq _ _); case hq => (first | omega | exact Nat.le_of_lt (grown_lt _ _ _) | (simp; omega))) | with_reducible apply Below.drew | with_reducible refine below_trans ?_ (by assumption)))⟩
  rcases Bool.eq_false_or_eq_true (xv == yv) with k2 | k2
  rotate_left
  · go_enter Tryd.func66, Tryd.ntmps66
    go_wp2
    go_ret
    exact ⟨ret_bool (by simp [sameB, k2]), by (refine Gr.of ?_; repeat (first | with_reducible exact Below.refl _ _ | with_reducible apply below_alloc | ((with_reducible refine below_set ?_ ?hq _); case hq => (first | omega | exact Nat.le_of_lt (grown_lt _ _ _) | assumption)) | with_reducible refine below_trans ?_ (grown_below _ _) | ((with_reducible refine below_iter ?_ ?hq _ _); case hq => (first | omega | exact Nat.le_of_lt (grown_lt _ _ _) | (simp; omega))) | with_reducible apply Below.drew | with_reducible refine below_trans ?_ (by assumption)))⟩
  rcases Bool.eq_false_or_eq_true (xt == yt) with k3 | k3
  rotate_left
  · go_enter Tryd.func66, Tryd.ntmps66
    go_wp2
    go_ret
    exact ⟨ret_bool (by simp [sameB, k3]), by (refine Gr.of ?_; repeat (first | with_reducible exact Below.refl _ _ | with_reducible apply below_alloc | ((with_reducible refine below_set ?_ ?hq _); case hq => (first | omega | exact Nat.le_of_lt (grown_lt _ _ _) | assumption)) | with_reducible refine below_trans ?_ (grown_below _ _) | ((with_reducible refine below_iter ?_ ?hq _ _); case hq => (first | omega | exact Nat.le_of_lt (grown_lt _ _ _) | (simp; omega))) | with_reducible apply Below.drew | with_reducible refine below_trans ?_ (by assumption)))⟩
  rcases Bool.eq_false_or_eq_true (xs == ys) with k4 | k4
  rotate_left
  · go_enter Tryd.func66, Tryd.ntmps66
    go_wp2
    go_ret
    exact ⟨ret_bool (by simp [sameB, k4]), by (refine Gr.of ?_; repeat (first | with_reducible exact Below.refl _ _ | with_reducible apply below_alloc | ((with_reducible refine below_set ?_ ?hq _); case hq => (first | omega | exact Nat.le_of_lt (grown_lt _ _ _) | assumption)) | with_reducible refine below_trans ?_ (grown_below _ _) | ((with_reducible refine below_iter ?_ ?hq _ _); case hq => (first | omega | exact Nat.le_of_lt (grown_lt _ _ _) | (simp; omega))) | with_reducible apply Below.drew | with_reducible refine below_trans ?_ (by assumption)))⟩
  rcases Bool.eq_false_or_eq_true (xa == ya) with k5 | k5
  rotate_left
  · go_enter Tryd.func66, Tryd.ntmps66
    go_wp2
    go_ret
    exact ⟨ret_bool (by simp [sameB, k5]), by (refine Gr.of ?_; repeat (first | with_reducible exact Below.refl _ _ | with_reducible apply below_alloc | ((with_reducible refine below_set ?_ ?hq _); case hq => (first | omega | exact Nat.le_of_lt (grown_lt _ _ _) | assumption)) | with_reducible refine below_trans ?_ (grown_below _ _) | ((with_reducible refine below_iter ?_ ?hq _ _); case hq => (first | omega | exact Nat.le_of_lt (grown_lt _ _ _) | (simp; omega))) | with_reducible apply Below.drew | with_reducible refine below_trans ?_ (by assumption)))⟩
  rcases Bool.eq_false_or_eq_true (xc == yc) with k6 | k6
  rotate_left
  · go_enter Tryd.func66, Tryd.ntmps66
    go_wp2
    go_ret
    exact ⟨ret_bool (by simp [sameB, k6]), by (refine Gr.of ?_; repeat (first | with_reducible exact Below.refl _ _ | with_reducible apply below_alloc | ((with_reducible refine below_set ?_ ?hq _); case hq => (first | omega | exact Nat.le_of_lt (grown_lt _ _ _) | assumption)) | with_reducible refine below_trans ?_ (grown_below _ _) | ((with_reducible refine below_iter ?_ ?hq _ _); case hq => (first | omega | exact Nat.le_of_lt (grown_lt _ _ _) | (simp; omega))) | with_reducible apply Below.drew | with_reducible refine below_trans ?_ (by assumption)))⟩
  go_enter Tryd.func66, Tryd.ntmps66
  go_wp2_with (go_at_call 85; ((with_reducible refine (equalB_any _ _ _ _ _ _ lx ly _ HX.out HY.out hn (h1.gr (by (refine Gr.of ?_; repeat (first | with_reducible exact Below.refl _ _ | with_reducible apply below_alloc | ((with_reducible refine below_set ?_ ?hq _); case hq => (first | omega | exact Nat.le_of_lt (grown_lt _ _ _) | assumption)) | with_reducible refine below_trans ?_ (grown_below _ _) | ((with_reducible refine below_iter ?_ ?hq _ _); case hq => (first | omega | exact Nat.le_of_lt (grown_lt _ _ _) | (simp; omega))) | with_reducible apply Below.drew | with_reducible refine below_trans ?_ (by assumption))))) (h2.gr (by (refine Gr.of ?_; repeat (first | with_reducible exact Below.refl _ _ | with_reducible apply below_alloc | ((with_reducible refine below_set ?_ ?hq _); case hq => (first | omega | exact Nat.le_of_lt (grown_lt _ _ _) | assumption)) | with_reducible refine below_trans ?_ (grown_below _ _) | ((with_reducible refine below_iter ?_ ?hq _ _); case hq => (first | omega | exact Nat.le_of_lt (grown_lt _ _ _) | (simp; omega))) | with_reducible apply Below.drew | with_reducible refine below_trans ?_ (by assumption)))))).mono ?_); rintro _ _ ⟨rfl, g, rfl⟩))
  go_ret
  exact ⟨ret_bool (by simp [sameB, k1, k2, k3, k4, k5, k6]), by (refine Gr.of ?_; repeat (first | with_reducible exact Below.refl _ _ | with_reducible apply below_alloc | ((with_reducible refine below_set ?_ ?hq _); case hq => (first | omega | exact Nat.le_of_lt (grown_lt _ _ _) | assumption)) | with_reducible refine below_trans ?_ (grown_below _ _) | ((with_reducible refine below_iter ?_ ?hq _ _); case hq => (first | omega | exact Nat.le_of_lt (grown_lt _ _ _) | (simp; omega))) | with_reducible apply Below.drew | with_reducible refine below_trans ?_ (by assumption)))⟩
end Go.Proofs.YtgjdgafoidppaaaDoor
