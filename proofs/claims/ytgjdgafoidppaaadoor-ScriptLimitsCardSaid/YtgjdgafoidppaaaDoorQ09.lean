/- command.May. Conditions: what is read stands in memory. script.SameAct. Conditions: what is read stands in memory. script.MayAct (what it says). Conditions: what is read stands in memory. script.MayAct (kinds 1). Conditions: what is read stands in memory. -/
import Derived.Test.YtgjdgafoidppaaaDoorQ03
import Derived.Test.YtgjdgafoidppaaaDoorQ02
import Derived.Test.YtgjdgafoidppaaaDoorQ07
namespace Go.Proofs.YtgjdgafoidppaaaDoor
open Go.RowKit
set_option linter.unusedVariables false
set_option linter.unusedSimpArgs false
set_option linter.unnecessarySimpa false
def mayOpB (xk xv xt xs xa xc : Int) (xn : Nat) (lx : List UInt8) : Bool :=
  if xk = 1 then wVol xv && wSize xs && (xt == 0) && (xa == 0) && (xc == 0) && (lx == []) else if xk = 2 then wVol xv && (xt == 0) && (xs == 0) && (xa == 0) && (xc == 0) && (lx == []) else if xk = 3 then wVol xv && wSize xs && (xt == 0) && (xa == 0) && (xc == 0) && (lx == []) else if xk = 4 then wVol xv && wTo xt xv && (xs == 0) && (xa == 0) && (xc == 0) && (lx == []) else if xk = 5 then wVol xv && wAt xa && wData xn && (xt == 0) && (xs == 0) && (xc == 0) else if xk = 6 then wVol xv && wAt xa && wCount xc && (xt == 0) && (xs == 0) && (lx == []) else if xk = 7 then wVol xv && wAt xa && wCount xc && (xt == 0) && (xs == 0) && (lx == []) else if xk = 8 then (xv == 0) && (xt == 0) && (xs == 0) && (xa == 0) && (xc == 0) && (lx == []) else if xk = 9 then wVol xv && wAt xa && wCount xc && (xt == 0) && (xs == 0) && (lx == []) else false
set_option maxHeartbeats 2000000 in
theorem mayOp_1 (xv xt xs xa xc : Int) (xD : Option Addr) (xn xq : Nat) (lx : List UInt8) (w : World) (hx : lx.length = xn) (hn : xn ≤ 9223372036854775807) (h1 : Row bv w xD lx) : Calls Tryd.prog 39 #[(Value.agg #[.int .i64 1, .int .u64 xv, .int .u64 xt, .int .i64 xs, .int .i64 xa, .int .i64 xc, .slice xD xn xq])] w fun e w' => e = .returned (.bool (mayOpB 1 xv xt xs xa xc xn lx)) ∧ Gr w w' := by
  have HX := Lib.hid hx; clear hx
  have en : namesB 1 = ⟨#[118, 115]⟩ := rfl
  have E0 : mayOpB 1 xv xt xs xa xc xn lx = (wVol xv && wSize xs && (xt == 0) && (xa == 0) && (xc == 0) && (lx == [])) := rfl
  rw [E0]; clear E0
  rcases Bool.eq_false_or_eq_true (wVol xv) with b0 | b0
  rotate_left
  · go_enter Tryd.func39, Tryd.ntmps39
    go_wp2_with (first | (go_at_call 64; ((with_reducible refine (namesB_any _ _).mono ?_); rintro _ _ ⟨rfl, g, rfl⟩)) | (go_at_call 65; ((with_reducible refine (within_v _ _ _ _ _ _ _ _ _ _).mono ?_); rintro _ _ ⟨rfl, g, rfl⟩)) | (go_at_call 65; ((with_reducible refine (within_t _ _ _ _ _ _ _ _ _ _).mono ?_); rintro _ _ ⟨rfl, g, rfl⟩)) | (go_at_call 65; ((with_reducible refine (within_s _ _ _ _ _ _ _ _ _ _).mono ?_); rintro _ _ ⟨rfl, g, rfl⟩)) | (go_at_call 65; ((with_reducible refine (within_a _ _ _ _ _ _ _ _ _ _).mono ?_); rintro _ _ ⟨rfl, g, rfl⟩)) | (go_at_call 65; ((with_reducible refine (within_c _ _ _ _ _ _ _ _ _ _).mono ?_); rintro _ _ ⟨rfl, g, rfl⟩)) | (go_at_call 65; ((with_reducible refine (within_d _ _ _ _ _ _ _ _ _ _).mono ?_); rintro _ _ ⟨rfl, g, rfl⟩)) | (go_at_call 66; ((with_reducible refine (same13_any _ _ _ _ _ _ _ _ _ _ _ _ _ _ _ _ _ _ lx [] _ HX.out List.length_nil hn (h1.gr (gri)) Row.nil).mono ?_); rintro _ _ ⟨rfl, g, rfl⟩)))
    refine wp_loop_rounds 1 ?_
    rw [rounds_succ]
    go_wp2_with (first | (go_at_call 64; ((with_reducible refine (namesB_any _ _).mono ?_); rintro _ _ ⟨rfl, g, rfl⟩)) | (go_at_call 65; ((with_reducible refine (within_v _ _ _ _ _ _ _ _ _ _).mono ?_); rintro _ _ ⟨rfl, g, rfl⟩)) | (go_at_call 65; ((with_reducible refine (within_t _ _ _ _ _ _ _ _ _ _).mono ?_); rintro _ _ ⟨rfl, g, rfl⟩)) | (go_at_call 65; ((with_reducible refine (within_s _ _ _ _ _ _ _ _ _ _).mono ?_); rintro _ _ ⟨rfl, g, rfl⟩)) | (go_at_call 65; ((with_reducible refine (within_a _ _ _ _ _ _ _ _ _ _).mono ?_); rintro _ _ ⟨rfl, g, rfl⟩)) | (go_at_call 65; ((with_reducible refine (within_c _ _ _ _ _ _ _ _ _ _).mono ?_); rintro _ _ ⟨rfl, g, rfl⟩)) | (go_at_call 65; ((with_reducible refine (within_d _ _ _ _ _ _ _ _ _ _).mono ?_); rintro _ _ ⟨rfl, g, rfl⟩)) | (go_at_call 66; ((with_reducible refine (same13_any _ _ _ _ _ _ _ _ _ _ _ _ _ _ _ _ _ _ lx [] _ HX.out List.length_nil hn (h1.gr (gri)) Row.nil).mono ?_); rintro _ _ ⟨rfl, g, rfl⟩)))
    go_ret
    exact ⟨ret_bool (by simp [b0]), gri⟩
  rcases Bool.eq_false_or_eq_true (wSize xs) with b1 | b1
  rotate_left
  · go_enter Tryd.func39, Tryd.ntmps39
    go_wp2_with (first | (go_at_call 64; ((with_reducible refine (namesB_any _ _).mono ?_); rintro _ _ ⟨rfl, g, rfl⟩)) | (go_at_call 65; ((with_reducible refine (within_v _ _ _ _ _ _ _ _ _ _).mono ?_); rintro _ _ ⟨rfl, g, rfl⟩)) | (go_at_call 65; ((with_reducible refine (within_t _ _ _ _ _ _ _ _ _ _).mono ?_); rintro _ _ ⟨rfl, g, rfl⟩)) | (go_at_call 65; ((with_reducible refine (within_s _ _ _ _ _ _ _ _ _ _).mono ?_); rintro _ _ ⟨rfl, g, rfl⟩)) | (go_at_call 65; ((with_reducible refine (within_a _ _ _ _ _ _ _ _ _ _).mono ?_); rintro _ _ ⟨rfl, g, rfl⟩)) | (go_at_call 65; ((with_reducible refine (within_c _ _ _ _ _ _ _ _ _ _).mono ?_); rintro _ _ ⟨rfl, g, rfl⟩)) | (go_at_call 65; ((with_reducible refine (within_d _ _ _ _ _ _ _ _ _ _).mono ?_); rintro _ _ ⟨rfl, g, rfl⟩)) | (go_at_call 66; ((with_reducible refine (same13_any _ _ _ _ _ _ _ _ _ _ _ _ _ _ _ _ _ _ lx [] _ HX.out List.length_nil hn (h1.gr (gri)) Row.nil).mono ?_); rintro _ _ ⟨rfl, g, rfl⟩)))
    refine wp_loop_rounds 2 ?_
    iterate 2
      rw [rounds_succ]
      go_wp2_with (first | (go_at_call 64; ((with_reducible refine (namesB_any _ _).mono ?_); rintro _ _ ⟨rfl, g, rfl⟩)) | (go_at_call 65; ((with_reducible refine (within_v _ _ _ _ _ _ _ _ _ _).mono ?_); rintro _ _ ⟨rfl, g, rfl⟩)) | (go_at_call 65; ((with_reducible refine (within_t _ _ _ _ _ _ _ _ _ _).mono ?_); rintro _ _ ⟨rfl, g, rfl⟩)) | (go_at_call 65; ((with_reducible refine (within_s _ _ _ _ _ _ _ _ _ _).mono ?_); rintro _ _ ⟨rfl, g, rfl⟩)) | (go_at_call 65; ((with_reducible refine (within_a _ _ _ _ _ _ _ _ _ _).mono ?_); rintro _ _ ⟨rfl, g, rfl⟩)) | (go_at_call 65; ((with_reducible refine (within_c _ _ _ _ _ _ _ _ _ _).mono ?_); rintro _ _ ⟨rfl, g, rfl⟩)) | (go_at_call 65; ((with_reducible refine (within_d _ _ _ _ _ _ _ _ _ _).mono ?_); rintro _ _ ⟨rfl, g, rfl⟩)) | (go_at_call 66; ((with_reducible refine (same13_any _ _ _ _ _ _ _ _ _ _ _ _ _ _ _ _ _ _ lx [] _ HX.out List.length_nil hn (h1.gr (gri)) Row.nil).mono ?_); rintro _ _ ⟨rfl, g, rfl⟩)))
    go_ret
    exact ⟨ret_bool (by simp [b0, b1]), gri⟩
  go_enter Tryd.func39, Tryd.ntmps39
  go_wp2_with (first | (go_at_call 64; ((with_reducible refine (namesB_any _ _).mono ?_); rintro _ _ ⟨rfl, g, rfl⟩)) | (go_at_call 65; ((with_reducible refine (within_v _ _ _ _ _ _ _ _ _ _).mono ?_); rintro _ _ ⟨rfl, g, rfl⟩)) | (go_at_call 65; ((with_reducible refine (within_t _ _ _ _ _ _ _ _ _ _).mono ?_); rintro _ _ ⟨rfl, g, rfl⟩)) | (go_at_call 65; ((with_reducible refine (within_s _ _ _ _ _ _ _ _ _ _).mono ?_); rintro _ _ ⟨rfl, g, rfl⟩)) | (go_at_call 65; ((with_reducible refine (within_a _ _ _ _ _ _ _ _ _ _).mono ?_); rintro _ _ ⟨rfl, g, rfl⟩)) | (go_at_call 65; ((with_reducible refine (within_c _ _ _ _ _ _ _ _ _ _).mono ?_); rintro _ _ ⟨rfl, g, rfl⟩)) | (go_at_call 65; ((with_reducible refine (within_d _ _ _ _ _ _ _ _ _ _).mono ?_); rintro _ _ ⟨rfl, g, rfl⟩)) | (go_at_call 66; ((with_reducible refine (same13_any _ _ _ _ _ _ _ _ _ _ _ _ _ _ _ _ _ _ lx [] _ HX.out List.length_nil hn (h1.gr (gri)) Row.nil).mono ?_); rintro _ _ ⟨rfl, g, rfl⟩)))
  refine wp_loop_rounds 3 ?_
  iterate 3
    rw [rounds_succ]
    go_wp2_with (first | (go_at_call 64; ((with_reducible refine (namesB_any _ _).mono ?_); rintro _ _ ⟨rfl, g, rfl⟩)) | (go_at_call 65; ((with_reducible refine (within_v _ _ _ _ _ _ _ _ _ _).mono ?_); rintro _ _ ⟨rfl, g, rfl⟩)) | (go_at_call 65; ((with_reducible refine (within_t _ _ _ _ _ _ _ _ _ _).mono ?_); rintro _ _ ⟨rfl, g, rfl⟩)) | (go_at_call 65; ((with_reducible refine (within_s _ _ _ _ _ _ _ _ _ _).mono ?_); rintro _ _ ⟨rfl, g, rfl⟩)) | (go_at_call 65; ((with_reducible refine (within_a _ _ _ _ _ _ _ _ _ _).mono ?_); rintro _ _ ⟨rfl, g, rfl⟩)) | (go_at_call 65; ((with_reducible refine (within_c _ _ _ _ _ _ _ _ _ _).mono ?_); rintro _ _ ⟨rfl, g, rfl⟩)) | (go_at_call 65; ((with_reducible refine (within_d _ _ _ _ _ _ _ _ _ _).mono ?_); rintro _ _ ⟨rfl, g, rfl⟩)) | (go_at_call 66; ((with_reducible refine (same13_any _ _ _ _ _ _ _ _ _ _ _ _ _ _ _ _ _ _ lx [] _ HX.out List.length_nil hn (h1.gr (gri)) Row.nil).mono ?_); rintro _ _ ⟨rfl, g, rfl⟩)))
  go_ret
  exact ⟨ret_bool (by simp [sameB, b0, b1, Bool.and_assoc]), gri⟩
set_option maxHeartbeats 2000000 in
theorem mayOp_2 (xv xt xs xa xc : Int) (xD : Option Addr) (xn xq : Nat) (lx : List UInt8) (w : World) (hx : lx.length = xn) (hn : xn ≤ 9223372036854775807) (h1 : Row bv w xD lx) : Calls Tryd.prog 39 #[(Value.agg #[.int .i64 2, .int .u64 xv, .int .u64 xt, .int .i64 xs, .int .i64 xa, .int .i64 xc, .slice xD xn xq])] w fun e w' => e = .returned (.bool (mayOpB 2 xv xt xs xa xc xn lx)) ∧ Gr w w' := by
  have HX := Lib.hid hx; clear hx
  have en : namesB 2 = ⟨#[118]⟩ := rfl
  have E0 : mayOpB 2 xv xt xs xa xc xn lx = (wVol xv && (xt == 0) && (xs == 0) && (xa == 0) && (xc == 0) && (lx == [])) := rfl
  rw [E0]; clear E0
  rcases Bool.eq_false_or_eq_true (wVol xv) with b0 | b0
  rotate_left
  · go_enter Tryd.func39, Tryd.ntmps39
    go_wp2_with (first | (go_at_call 64; ((with_reducible refine (namesB_any _ _).mono ?_); rintro _ _ ⟨rfl, g, rfl⟩)) | (go_at_call 65; ((with_reducible refine (within_v _ _ _ _ _ _ _ _ _ _).mono ?_); rintro _ _ ⟨rfl, g, rfl⟩)) | (go_at_call 65; ((with_reducible refine (within_t _ _ _ _ _ _ _ _ _ _).mono ?_); rintro _ _ ⟨rfl, g, rfl⟩)) | (go_at_call 65; ((with_reducible refine (within_s _ _ _ _ _ _ _ _ _ _).mono ?_); rintro _ _ ⟨rfl, g, rfl⟩)) | (go_at_call 65; ((with_reducible refine (within_a _ _ _ _ _ _ _ _ _ _).mono ?_); rintro _ _ ⟨rfl, g, rfl⟩)) | (go_at_call 65; ((with_reducible refine (within_c _ _ _ _ _ _ _ _ _ _).mono ?_); rintro _ _ ⟨rfl, g, rfl⟩)) | (go_at_call 65; ((with_reducible refine (within_d _ _ _ _ _ _ _ _ _ _).mono ?_); rintro _ _ ⟨rfl, g, rfl⟩)) | (go_at_call 66; ((with_reducible refine (same13_any _ _ _ _ _ _ _ _ _ _ _ _ _ _ _ _ _ _ lx [] _ HX.out List.length_nil hn (h1.gr (gri)) Row.nil).mono ?_); rintro _ _ ⟨rfl, g, rfl⟩)))
    refine wp_loop_rounds 1 ?_
    rw [rounds_succ]
    go_wp2_with (first | (go_at_call 64; ((with_reducible refine (namesB_any _ _).mono ?_); rintro _ _ ⟨rfl, g, rfl⟩)) | (go_at_call 65; ((with_reducible refine (within_v _ _ _ _ _ _ _ _ _ _).mono ?_); rintro _ _ ⟨rfl, g, rfl⟩)) | (go_at_call 65; ((with_reducible refine (within_t _ _ _ _ _ _ _ _ _ _).mono ?_); rintro _ _ ⟨rfl, g, rfl⟩)) | (go_at_call 65; ((with_reducible refine (within_s _ _ _ _ _ _ _ _ _ _).mono ?_); rintro _ _ ⟨rfl, g, rfl⟩)) | (go_at_call 65; ((with_reducible refine (within_a _ _ _ _ _ _ _ _ _ _).mono ?_); rintro _ _ ⟨rfl, g, rfl⟩)) | (go_at_call 65; ((with_reducible refine (within_c _ _ _ _ _ _ _ _ _ _).mono ?_); rintro _ _ ⟨rfl, g, rfl⟩)) | (go_at_call 65; ((with_reducible refine (within_d _ _ _ _ _ _ _ _ _ _).mono ?_); rintro _ _ ⟨rfl, g, rfl⟩)) | (go_at_call 66; ((with_reducible refine (same13_any _ _ _ _ _ _ _ _ _ _ _ _ _ _ _ _ _ _ lx [] _ HX.out List.length_nil hn (h1.gr (gri)) Row.nil).mono ?_); rintro _ _ ⟨rfl, g, rfl⟩)))
    go_ret
    exact ⟨ret_bool (by simp [b0]), gri⟩
  go_enter Tryd.func39, Tryd.ntmps39
  go_wp2_with (first | (go_at_call 64; ((with_reducible refine (namesB_any _ _).mono ?_); rintro _ _ ⟨rfl, g, rfl⟩)) | (go_at_call 65; ((with_reducible refine (within_v _ _ _ _ _ _ _ _ _ _).mono ?_); rintro _ _ ⟨rfl, g, rfl⟩)) | (go_at_call 65; ((with_reducible refine (within_t _ _ _ _ _ _ _ _ _ _).mono ?_); rintro _ _ ⟨rfl, g, rfl⟩)) | (go_at_call 65; ((with_reducible refine (within_s _ _ _ _ _ _ _ _ _ _).mono ?_); rintro _ _ ⟨rfl, g, rfl⟩)) | (go_at_call 65; ((with_reducible refine (within_a _ _ _ _ _ _ _ _ _ _).mono ?_); rintro _ _ ⟨rfl, g, rfl⟩)) | (go_at_call 65; ((with_reducible refine (within_c _ _ _ _ _ _ _ _ _ _).mono ?_); rintro _ _ ⟨rfl, g, rfl⟩)) | (go_at_call 65; ((with_reducible refine (within_d _ _ _ _ _ _ _ _ _ _).mono ?_); rintro _ _ ⟨rfl, g, rfl⟩)) | (go_at_call 66; ((with_reducible refine (same13_any _ _ _ _ _ _ _ _ _ _ _ _ _ _ _ _ _ _ lx [] _ HX.out List.length_nil hn (h1.gr (gri)) Row.nil).mono ?_); rintro _ _ ⟨rfl, g, rfl⟩)))
  refine wp_loop_rounds 2 ?_
  iterate 2
    rw [rounds_succ]
    go_wp2_with (first | (go_at_call 64; ((with_reducible refine (namesB_any _ _).mono ?_); rintro _ _ ⟨rfl, g, rfl⟩)) | (go_at_call 65; ((with_reducible refine (within_v _ _ _ _ _ _ _ _ _ _).mono ?_); rintro _ _ ⟨rfl, g, rfl⟩)) | (go_at_call 65; ((with_reducible refine (within_t _ _ _ _ _ _ _ _ _ _).mono ?_); rintro _ _ ⟨rfl, g, rfl⟩)) | (go_at_call 65; ((with_reducible refine (within_s _ _ _ _ _ _ _ _ _ _).mono ?_); rintro _ _ ⟨rfl, g, rfl⟩)) | (go_at_call 65; ((with_reducible refine (within_a _ _ _ _ _ _ _ _ _ _).mono ?_); rintro _ _ ⟨rfl, g, rfl⟩)) | (go_at_call 65; ((with_reducible refine (within_c _ _ _ _ _ _ _ _ _ _).mono ?_); rintro _ _ ⟨rfl, g, rfl⟩)) | (go_at_call 65; ((with_reducible refine (within_d _ _ _ _ _ _ _ _ _ _).mono ?_); rintro _ _ ⟨rfl, g, rfl⟩)) | (go_at_call 66; ((with_reducible refine (same13_any _ _ _ _ _ _ _ _ _ _ _ _ _ _ _ _ _ _ lx [] _ HX.out List.length_nil hn (h1.gr (gri)) Row.nil).mono ?_); rintro _ _ ⟨rfl, g, rfl⟩)))
  go_ret
  exact ⟨ret_bool (by simp [sameB, b0, Bool.and_assoc]), gri⟩
set_option maxHeartbeats 2000000 in
theorem mayOp_3 (xv xt xs xa xc : Int) (xD : Option Addr) (xn xq : Nat) (lx : List UInt8) (w : World) (hx : lx.length = xn) (hn : xn ≤ 9223372036854775807) (h1 : Row bv w xD lx) : Calls Tryd.prog 39 #[(Value.agg #[.int .i64 3, .int .u64 xv, .int .u64 xt, .int .i64 xs, .int .i64 xa, .int .i64 xc, .slice xD xn xq])] w fun e w' => e = .returned (.bool (mayOpB 3 xv xt xs xa xc xn lx)) ∧ Gr w w' := by
  have HX := Lib.hid hx; clear hx
  have en : namesB 3 = ⟨#[118, 115]⟩ := rfl
  have E0 : mayOpB 3 xv xt xs xa xc xn lx = (wVol xv && wSize xs && (xt == 0) && (xa == 0) && (xc == 0) && (lx == [])) := rfl
  rw [E0]; clear E0
  rcases Bool.eq_false_or_eq_true (wVol xv) with b0 | b0
  rotate_left
  · go_enter Tryd.func39, Tryd.ntmps39
    go_wp2_with (first | (go_at_call 64; ((with_reducible refine (namesB_any _ _).mono ?_); rintro _ _ ⟨rfl, g, rfl⟩)) | (go_at_call 65; ((with_reducible refine (within_v _ _ _ _ _ _ _ _ _ _).mono ?_); rintro _ _ ⟨rfl, g, rfl⟩)) | (go_at_call 65; ((with_reducible refine (within_t _ _ _ _ _ _ _ _ _ _).mono ?_); rintro _ _ ⟨rfl, g, rfl⟩)) | (go_at_call 65; ((with_reducible refine (within_s _ _ _ _ _ _ _ _ _ _).mono ?_); rintro _ _ ⟨rfl, g, rfl⟩)) | (go_at_call 65; ((with_reducible refine (within_a _ _ _ _ _ _ _ _ _ _).mono ?_); rintro _ _ ⟨rfl, g, rfl⟩)) | (go_at_call 65; ((with_reducible refine (within_c _ _ _ _ _ _ _ _ _ _).mono ?_); rintro _ _ ⟨rfl, g, rfl⟩)) | (go_at_call 65; ((with_reducible refine (within_d _ _ _ _ _ _ _ _ _ _).mono ?_); rintro _ _ ⟨rfl, g, rfl⟩)) | (go_at_call 66; ((with_reducible refine (same13_any _ _ _ _ _ _ _ _ _ _ _ _ _ _ _ _ _ _ lx [] _ HX.out List.length_nil hn (h1.gr (gri)) Row.nil).mono ?_); rintro _ _ ⟨rfl, g, rfl⟩)))
    refine wp_loop_rounds 1 ?_
    rw [rounds_succ]
    go_wp2_with (first | (go_at_call 64; ((with_reducible refine (namesB_any _ _).mono ?_); rintro _ _ ⟨rfl, g, rfl⟩)) | (go_at_call 65; ((with_reducible refine (within_v _ _ _ _ _ _ _ _ _ _).mono ?_); rintro _ _ ⟨rfl, g, rfl⟩)) | (go_at_call 65; ((with_reducible refine (within_t _ _ _ _ _ _ _ _ _ _).mono ?_); rintro _ _ ⟨rfl, g, rfl⟩)) | (go_at_call 65; ((with_reducible refine (within_s _ _ _ _ _ _ _ _ _ _).mono ?_); rintro _ _ ⟨rfl, g, rfl⟩)) | (go_at_call 65; ((with_reducible refine (within_a _ _ _ _ _ _ _ _ _ _).mono ?_); rintro _ _ ⟨rfl, g, rfl⟩)) | (go_at_call 65; ((with_reducible refine (within_c _ _ _ _ _ _ _ _ _ _).mono ?_); rintro _ _ ⟨rfl, g, rfl⟩)) | (go_at_call 65; ((with_reducible refine (within_d _ _ _ _ _ _ _ _ _ _).mono ?_); rintro _ _ ⟨rfl, g, rfl⟩)) | (go_at_call 66; ((with_reducible refine (same13_any _ _ _ _ _ _ _ _ _ _ _ _ _ _ _ _ _ _ lx [] _ HX.out List.length_nil hn (h1.gr (gri)) Row.nil).mono ?_); rintro _ _ ⟨rfl, g, rfl⟩)))
    go_ret
    exact ⟨ret_bool (by simp [b0]), gri⟩
  rcases Bool.eq_false_or_eq_true (wSize xs) with b1 | b1
  rotate_left
  · go_enter Tryd.func39, Tryd.ntmps39
    go_wp2_with (first | (go_at_call 64; ((with_reducible refine (namesB_any _ _).mono ?_); rintro _ _ ⟨rfl, g, rfl⟩)) | (go_at_call 65; ((with_reducible refine (within_v _ _ _ _ _ _ _ _ _ _).mono ?_); rintro _ _ ⟨rfl, g, rfl⟩)) | (go_at_call 65; ((with_reducible refine (within_t _ _ _ _ _ _ _ _ _ _).mono ?_); rintro _ _ ⟨rfl, g, rfl⟩)) | (go_at_call 65; ((with_reducible refine (within_s _ _ _ _ _ _ _ _ _ _).mono ?_); rintro _ _ ⟨rfl, g, rfl⟩)) | (go_at_call 65; ((with_reducible refine (within_a _ _ _ _ _ _ _ _ _ _).mono ?_); rintro _ _ ⟨rfl, g, rfl⟩)) | (go_at_call 65; ((with_reducible refine (within_c _ _ _ _ _ _ _ _ _ _).mono ?_); rintro _ _ ⟨rfl, g, rfl⟩)) | (go_at_call 65; ((with_reducible refine (within_d _ _ _ _ _ _ _ _ _ _).mono ?_); rintro _ _ ⟨rfl, g, rfl⟩)) | (go_at_call 66; ((with_reducible refine (same13_any _ _ _ _ _ _ _ _ _ _ _ _ _ _ _ _ _ _ lx [] _ HX.out List.length_nil hn (h1.gr (gri)) Row.nil).mono ?_); rintro _ _ ⟨rfl, g, rfl⟩)))
    refine wp_loop_rounds 2 ?_
    iterate 2
      rw [rounds_succ]
      go_wp2_with (first | (go_at_call 64; ((with_reducible refine (namesB_any _ _).mono ?_); rintro _ _ ⟨rfl, g, rfl⟩)) | (go_at_call 65; ((with_reducible refine (within_v _ _ _ _ _ _ _ _ _ _).mono ?_); rintro _ _ ⟨rfl, g, rfl⟩)) | (go_at_call 65; ((with_reducible refine (within_t _ _ _ _ _ _ _ _ _ _).mono ?_); rintro _ _ ⟨rfl, g, rfl⟩)) | (go_at_call 65; ((with_reducible refine (within_s _ _ _ _ _ _ _ _ _ _).mono ?_); rintro _ _ ⟨rfl, g, rfl⟩)) | (go_at_call 65; ((with_reducible refine (within_a _ _ _ _ _ _ _ _ _ _).mono ?_); rintro _ _ ⟨rfl, g, rfl⟩)) | (go_at_call 65; ((with_reducible refine (within_c _ _ _ _ _ _ _ _ _ _).mono ?_); rintro _ _ ⟨rfl, g, rfl⟩)) | (go_at_call 65; ((with_reducible refine (within_d _ _ _ _ _ _ _ _ _ _).mono ?_); rintro _ _ ⟨rfl, g, rfl⟩)) | (go_at_call 66; ((with_reducible refine (same13_any _ _ _ _ _ _ _ _ _ _ _ _ _ _ _ _ _ _ lx [] _ HX.out List.length_nil hn (h1.gr (gri)) Row.nil).mono ?_); rintro _ _ ⟨rfl, g, rfl⟩)))
    go_ret
    exact ⟨ret_bool (by simp [b0, b1]), gri⟩
  go_enter Tryd.func39, Tryd.ntmps39
  go_wp2_with (first | (go_at_call 64; ((with_reducible refine (namesB_any _ _).mono ?_); rintro _ _ ⟨rfl, g, rfl⟩)) | (go_at_call 65; ((with_reducible refine (within_v _ _ _ _ _ _ _ _ _ _).mono ?_); rintro _ _ ⟨rfl, g, rfl⟩)) | (go_at_call 65; ((with_reducible refine (within_t _ _ _ _ _ _ _ _ _ _).mono ?_); rintro _ _ ⟨rfl, g, rfl⟩)) | (go_at_call 65; ((with_reducible refine (within_s _ _ _ _ _ _ _ _ _ _).mono ?_); rintro _ _ ⟨rfl, g, rfl⟩)) | (go_at_call 65; ((with_reducible refine (within_a _ _ _ _ _ _ _ _ _ _).mono ?_); rintro _ _ ⟨rfl, g, rfl⟩)) | (go_at_call 65; ((with_reducible refine (within_c _ _ _ _ _ _ _ _ _ _).mono ?_); rintro _ _ ⟨rfl, g, rfl⟩)) | (go_at_call 65; ((with_reducible refine (within_d _ _ _ _ _ _ _ _ _ _).mono ?_); rintro _ _ ⟨rfl, g, rfl⟩)) | (go_at_call 66; ((with_reducible refine (same13_any _ _ _ _ _ _ _ _ _ _ _ _ _ _ _ _ _ _ lx [] _ HX.out List.length_nil hn (h1.gr (gri)) Row.nil).mono ?_); rintro _ _ ⟨rfl, g, rfl⟩)))
  refine wp_loop_rounds 3 ?_
  iterate 3
    rw [rounds_succ]
    go_wp2_with (first | (go_at_call 64; ((with_reducible refine (namesB_any _ _).mono ?_); rintro _ _ ⟨rfl, g, rfl⟩)) | (go_at_call 65; ((with_reducible refine (within_v _ _ _ _ _ _ _ _ _ _).mono ?_); rintro _ _ ⟨rfl, g, rfl⟩)) | (go_at_call 65; ((with_reducible refine (within_t _ _ _ _ _ _ _ _ _ _).mono ?_); rintro _ _ ⟨rfl, g, rfl⟩)) | (go_at_call 65; ((with_reducible refine (within_s _ _ _ _ _ _ _ _ _ _).mono ?_); rintro _ _ ⟨rfl, g, rfl⟩)) | (go_at_call 65; ((with_reducible refine (within_a _ _ _ _ _ _ _ _ _ _).mono ?_); rintro _ _ ⟨rfl, g, rfl⟩)) | (go_at_call 65; ((with_reducible refine (within_c _ _ _ _ _ _ _ _ _ _).mono ?_); rintro _ _ ⟨rfl, g, rfl⟩)) | (go_at_call 65; ((with_reducible refine (within_d _ _ _ _ _ _ _ _ _ _).mono ?_); rintro _ _ ⟨rfl, g, rfl⟩)) | (go_at_call 66; ((with_reducible refine (same13_any _ _ _ _ _ _ _ _ _ _ _ _ _ _ _ _ _ _ lx [] _ HX.out List.length_nil hn (h1.gr (gri)) Row.nil).mono ?_); rintro _ _ ⟨rfl, g, rfl⟩)))
  go_ret
  exact ⟨ret_bool (by simp [sameB, b0, b1, Bool.and_assoc]), gri⟩
set_option maxHeartbeats 2000000 in
theorem mayOp_4 (xv xt xs xa xc : Int) (xD : Option Addr) (xn xq : Nat) (lx : List UInt8) (w : World) (hx : lx.length = xn) (hn : xn ≤ 9223372036854775807) (h1 : Row bv w xD lx) : Calls Tryd.prog 39 #[(Value.agg #[.int .i64 4, .int .u64 xv, .int .u64 xt, .int .i64 xs, .int .i64 xa, .int .i64 xc, .slice xD xn xq])] w fun e w' => e = .returned (.bool (mayOpB 4 xv xt xs xa xc xn lx)) ∧ Gr w w' := by
  have HX := Lib.hid hx; clear hx
  have en : namesB 4 = ⟨#[118, 116]⟩ := rfl
  have E0 : mayOpB 4 xv xt xs xa xc xn lx = (wVol xv && wTo xt xv && (xs == 0) && (xa == 0) && (xc == 0) && (lx == [])) := rfl
  rw [E0]; clear E0
  rcases Bool.eq_false_or_eq_true (wVol xv) with b0 | b0
  rotate_left
  · go_enter Tryd.func39, Tryd.ntmps39
    go_wp2_with (first | (go_at_call 64; ((with_reducible refine (namesB_any _ _).mono ?_); rintro _ _ ⟨rfl, g, rfl⟩)) | (go_at_call 65; ((with_reducible refine (within_v _ _ _ _ _ _ _ _ _ _).mono ?_); rintro _ _ ⟨rfl, g, rfl⟩)) | (go_at_call 65; ((with_reducible refine (within_t _ _ _ _ _ _ _ _ _ _).mono ?_); rintro _ _ ⟨rfl, g, rfl⟩)) | (go_at_call 65; ((with_reducible refine (within_s _ _ _ _ _ _ _ _ _ _).mono ?_); rintro _ _ ⟨rfl, g, rfl⟩)) | (go_at_call 65; ((with_reducible refine (within_a _ _ _ _ _ _ _ _ _ _).mono ?_); rintro _ _ ⟨rfl, g, rfl⟩)) | (go_at_call 65; ((with_reducible refine (within_c _ _ _ _ _ _ _ _ _ _).mono ?_); rintro _ _ ⟨rfl, g, rfl⟩)) | (go_at_call 65; ((with_reducible refine (within_d _ _ _ _ _ _ _ _ _ _).mono ?_); rintro _ _ ⟨rfl, g, rfl⟩)) | (go_at_call 66; ((with_reducible refine (same13_any _ _ _ _ _ _ _ _ _ _ _ _ _ _ _ _ _ _ lx [] _ HX.out List.length_nil hn (h1.gr (gri)) Row.nil).mono ?_); rintro _ _ ⟨rfl, g, rfl⟩)))
    refine wp_loop_rounds 1 ?_
    rw [rounds_succ]
    go_wp2_with (first | (go_at_call 64; ((with_reducible refine (namesB_any _ _).mono ?_); rintro _ _ ⟨rfl, g, rfl⟩)) | (go_at_call 65; ((with_reducible refine (within_v _ _ _ _ _ _ _ _ _ _).mono ?_); rintro _ _ ⟨rfl, g, rfl⟩)) | (go_at_call 65; ((with_reducible refine (within_t _ _ _ _ _ _ _ _ _ _).mono ?_); rintro _ _ ⟨rfl, g, rfl⟩)) | (go_at_call 65; ((with_reducible refine (within_s _ _ _ _ _ _ _ _ _ _).mono ?_); rintro _ _ ⟨rfl, g, rfl⟩)) | (go_at_call 65; ((with_reducible refine (within_a _ _ _ _ _ _ _ _ _ _).mono ?_); rintro _ _ ⟨rfl, g, rfl⟩)) | (go_at_call 65; ((with_reducible refine (within_c _ _ _ _ _ _ _ _ _ _).mono ?_); rintro _ _ ⟨rfl, g, rfl⟩)) | (go_at_call 65; ((with_reducible refine (within_d _ _ _ _ _ _ _ _ _ _).mono ?_); rintro _ _ ⟨rfl, g, rfl⟩)) | (go_at_call 66; ((with_reducible refine (same13_any _ _ _ _ _ _ _ _ _ _ _ _ _ _ _ _ _ _ lx [] _ HX.out List.length_nil hn (h1.gr (gri)) Row.nil).mono ?_); rintro _ _ ⟨rfl, g, rfl⟩)))
    go_ret
    exact ⟨ret_bool (by simp [b0]), gri⟩
  rcases Bool.eq_false_or_eq_true (wTo xt xv) with b1 | b1
  rotate_left
  · go_enter Tryd.func39, Tryd.ntmps39
    go_wp2_with (first | (go_at_call 64; ((with_reducible refine (namesB_any _ _).mono ?_); rintro _ _ ⟨rfl, g, rfl⟩)) | (go_at_call 65; ((with_reducible refine (within_v _ _ _ _ _ _ _ _ _ _).mono ?_); rintro _ _ ⟨rfl, g, rfl⟩)) | (go_at_call 65; ((with_reducible refine (within_t _ _ _ _ _ _ _ _ _ _).mono ?_); rintro _ _ ⟨rfl, g, rfl⟩)) | (go_at_call 65; ((with_reducible refine (within_s _ _ _ _ _ _ _ _ _ _).mono ?_); rintro _ _ ⟨rfl, g, rfl⟩)) | (go_at_call 65; ((with_reducible refine (within_a _ _ _ _ _ _ _ _ _ _).mono ?_); rintro _ _ ⟨rfl, g, rfl⟩)) | (go_at_call 65; ((with_reducible refine (within_c _ _ _ _ _ _ _ _ _ _).mono ?_); rintro _ _ ⟨rfl, g, rfl⟩)) | (go_at_call 65; ((with_reducible refine (within_d _ _ _ _ _ _ _ _ _ _).mono ?_); rintro _ _ ⟨rfl, g, rfl⟩)) | (go_at_call 66; ((with_reducible refine (same13_any _ _ _ _ _ _ _ _ _ _ _ _ _ _ _ _ _ _ lx [] _ HX.out List.length_nil hn (h1.gr (gri)) Row.nil).mono ?_); rintro _ _ ⟨rfl, g, rfl⟩)))
    refine wp_loop_rounds 2 ?_
    iterate 2
      rw [rounds_succ]
      go_wp2_with (first | (go_at_call 64; ((with_reducible refine (namesB_any _ _).mono ?_); rintro _ _ ⟨rfl, g, rfl⟩)) | (go_at_call 65; ((with_reducible refine (within_v _ _ _ _ _ _ _ _ _ _).mono ?_); rintro _ _ ⟨rfl, g, rfl⟩)) | (go_at_call 65; ((with_reducible refine (within_t _ _ _ _ _ _ _ _ _ _).mono ?_); rintro _ _ ⟨rfl, g, rfl⟩)) | (go_at_call 65; ((with_reducible refine (within_s _ _ _ _ _ _ _ _ _ _).mono ?_); rintro _ _ ⟨rfl, g, rfl⟩)) | (go_at_call 65; ((with_reducible refine (within_a _ _ _ _ _ _ _ _ _ _).mono ?_); rintro _ _ ⟨rfl, g, rfl⟩)) | (go_at_call 65; ((with_reducible refine (within_c _ _ _ _ _ _ _ _ _ _).mono ?_); rintro _ _ ⟨rfl, g, rfl⟩)) | (go_at_call 65; ((with_reducible refine (within_d _ _ _ _ _ _ _ _ _ _).mono ?_); rintro _ _ ⟨rfl, g, rfl⟩)) | (go_at_call 66; ((with_reducible refine (same13_any _ _ _ _ _ _ _ _ _ _ _ _ _ _ _ _ _ _ lx [] _ HX.out List.length_nil hn (h1.gr (gri)) Row.nil).mono ?_); rintro _ _ ⟨rfl, g, rfl⟩)))
    go_ret
    exact ⟨ret_bool (by simp [b0, b1]), gri⟩
  go_enter Tryd.func39, Tryd.ntmps39
  go_wp2_with (first | (go_at_call 64; ((with_reducible refine (namesB_any _ _).mono ?_); rintro _ _ ⟨rfl, g, rfl⟩)) | (go_at_call 65; ((with_reducible refine (within_v _ _ _ _ _ _ _ _ _ _).mono ?_); rintro _ _ ⟨rfl, g, rfl⟩)) | (go_at_call 65; ((with_reducible refine (within_t _ _ _ _ _ _ _ _ _ _).mono ?_); rintro _ _ ⟨rfl, g, rfl⟩)) | (go_at_call 65; ((with_reducible refine (within_s _ _ _ _ _ _ _ _ _ _).mono ?_); rintro _ _ ⟨rfl, g, rfl⟩)) | (go_at_call 65; ((with_reducible refine (within_a _ _ _ _ _ _ _ _ _ _).mono ?_); rintro _ _ ⟨rfl, g, rfl⟩)) | (go_at_call 65; ((with_reducible refine (within_c _ _ _ _ _ _ _ _ _ _).mono ?_); rintro _ _ ⟨rfl, g, rfl⟩)) | (go_at_call 65; ((with_reducible refine (within_d _ _ _ _ _ _ _ _ _ _).mono ?_); rintro _ _ ⟨rfl, g, rfl⟩)) | (go_at_call 66; ((with_reducible refine (same13_any _ _ _ _ _ _ _ _ _ _ _ _ _ _ _ _ _ _ lx [] _ HX.out List.length_nil hn (h1.gr (gri)) Row.nil).mono ?_); rintro _ _ ⟨rfl, g, rfl⟩)))
  refine wp_loop_rounds 3 ?_
  iterate 3
    rw [rounds_succ]
    go_wp2_with (first | (go_at_call 64; ((with_reducible refine (namesB_any _ _).mono ?_); rintro _ _ ⟨rfl, g, rfl⟩)) | (go_at_call 65; ((with_reducible refine (within_v _ _ _ _ _ _ _ _ _ _).mono ?_); rintro _ _ ⟨rfl, g, rfl⟩)) | (go_at_call 65; ((with_reducible refine (within_t _ _ _ _ _ _ _ _ _ _).mono ?_); rintro _ _ ⟨rfl, g, rfl⟩)) | (go_at_call 65; ((with_reducible refine (within_s _ _ _ _ _ _ _ _ _ _).mono ?_); rintro _ _ ⟨rfl, g, rfl⟩)) | (go_at_call 65; ((with_reducible refine (within_a _ _ _ _ _ _ _ _ _ _).mono ?_); rintro _ _ ⟨rfl, g, rfl⟩)) | (go_at_call 65; ((with_reducible refine (within_c _ _ _ _ _ _ _ _ _ _).mono ?_); rintro _ _ ⟨rfl, g, rfl⟩)) | (go_at_call 65; ((with_reducible refine (within_d _ _ _ _ _ _ _ _ _ _).mono ?_); rintro _ _ ⟨rfl, g, rfl⟩)) | (go_at_call 66; ((with_reducible refine (same13_any _ _ _ _ _ _ _ _ _ _ _ _ _ _ _ _ _ _ lx [] _ HX.out List.length_nil hn (h1.gr (gri)) Row.nil).mono ?_); rintro _ _ ⟨rfl, g, rfl⟩)))
  go_ret
  exact ⟨ret_bool (by simp [sameB, b0, b1, Bool.and_assoc]), gri⟩
set_option maxHeartbeats 2000000 in
theorem mayOp_5 (xv xt xs xa xc : Int) (xD : Option Addr) (xn xq : Nat) (lx : List UInt8) (w : World) (hx : lx.length = xn) (hn : xn ≤ 9223372036854775807) (h1 : Row bv w xD lx) : Calls Tryd.prog 39 #[(Value.agg #[.int .i64 5, .int .u64 xv, .int .u64 xt, .int .i64 xs, .int .i64 xa, .int .i64 xc, .slice xD xn xq])] w fun e w' => e = .returned (.bool (mayOpB 5 xv xt xs xa xc xn lx)) ∧ Gr w w' := by
  have HX := Lib.hid hx; clear hx
  have en : namesB 5 = ⟨#[118, 97, 100]⟩ := rfl
  have E0 : mayOpB 5 xv xt xs xa xc xn lx = (wVol xv && wAt xa && wData xn && (xt == 0) && (xs == 0) && (xc == 0)) := rfl
  rw [E0]; clear E0
  rcases Bool.eq_false_or_eq_true (wVol xv) with b0 | b0
  rotate_left
  · go_enter Tryd.func39, Tryd.ntmps39
    go_wp2_with (first | (go_at_call 64; ((with_reducible refine (namesB_any _ _).mono ?_); rintro _ _ ⟨rfl, g, rfl⟩)) | (go_at_call 65; ((with_reducible refine (within_v _ _ _ _ _ _ _ _ _ _).mono ?_); rintro _ _ ⟨rfl, g, rfl⟩)) | (go_at_call 65; ((with_reducible refine (within_t _ _ _ _ _ _ _ _ _ _).mono ?_); rintro _ _ ⟨rfl, g, rfl⟩)) | (go_at_call 65; ((with_reducible refine (within_s _ _ _ _ _ _ _ _ _ _).mono ?_); rintro _ _ ⟨rfl, g, rfl⟩)) | (go_at_call 65; ((with_reducible refine (within_a _ _ _ _ _ _ _ _ _ _).mono ?_); rintro _ _ ⟨rfl, g, rfl⟩)) | (go_at_call 65; ((with_reducible refine (within_c _ _ _ _ _ _ _ _ _ _).mono ?_); rintro _ _ ⟨rfl, g, rfl⟩)) | (go_at_call 65; ((with_reducible refine (within_d _ _ _ _ _ _ _ _ _ _).mono ?_); rintro _ _ ⟨rfl, g, rfl⟩)) | (go_at_call 66; ((with_reducible refine (same13_any _ _ _ _ _ _ _ _ _ _ _ _ _ _ _ _ _ _ lx lx _ HX.out HX.out hn (h1.gr (gri)) (h1.gr (gri))).mono ?_); rintro _ _ ⟨rfl, g, rfl⟩)))
    refine wp_loop_rounds 1 ?_
    rw [rounds_succ]
    go_wp2_with (first | (go_at_call 64; ((with_reducible refine (namesB_any _ _).mono ?_); rintro _ _ ⟨rfl, g, rfl⟩)) | (go_at_call 65; ((with_reducible refine (within_v _ _ _ _ _ _ _ _ _ _).mono ?_); rintro _ _ ⟨rfl, g, rfl⟩)) | (go_at_call 65; ((with_reducible refine (within_t _ _ _ _ _ _ _ _ _ _).mono ?_); rintro _ _ ⟨rfl, g, rfl⟩)) | (go_at_call 65; ((with_reducible refine (within_s _ _ _ _ _ _ _ _ _ _).mono ?_); rintro _ _ ⟨rfl, g, rfl⟩)) | (go_at_call 65; ((with_reducible refine (within_a _ _ _ _ _ _ _ _ _ _).mono ?_); rintro _ _ ⟨rfl, g, rfl⟩)) | (go_at_call 65; ((with_reducible refine (within_c _ _ _ _ _ _ _ _ _ _).mono ?_); rintro _ _ ⟨rfl, g, rfl⟩)) | (go_at_call 65; ((with_reducible refine (within_d _ _ _ _ _ _ _ _ _ _).mono ?_); rintro _ _ ⟨rfl, g, rfl⟩)) | (go_at_call 66; ((with_reducible refine (same13_any _ _ _ _ _ _ _ _ _ _ _ _ _ _ _ _ _ _ lx lx _ HX.out HX.out hn (h1.gr (gri)) (h1.gr (gri))).mono ?_); rintro _ _ ⟨rfl, g, rfl⟩)))
    go_ret
    exact ⟨ret_bool (by simp [b0]), gri⟩
  rcases Bool.eq_false_or_eq_true (wAt xa) with b1 | b1
  rotate_left
  · go_enter Tryd.func39, Tryd.ntmps39
    go_wp2_with (first | (go_at_call 64; ((with_reducible refine (namesB_any _ _).mono ?_); rintro _ _ ⟨rfl, g, rfl⟩)) | (go_at_call 65; ((with_reducible refine (within_v _ _ _ _ _ _ _ _ _ _).mono ?_); rintro _ _ ⟨rfl, g, rfl⟩)) | (go_at_call 65; ((with_reducible refine (within_t _ _ _ _ _ _ _ _ _ _).mono ?_); rintro _ _ ⟨rfl, g, rfl⟩)) | (go_at_call 65; ((with_reducible refine (within_s _ _ _ _ _ _ _ _ _ _).mono ?_); rintro _ _ ⟨rfl, g, rfl⟩)) | (go_at_call 65; ((with_reducible refine (within_a _ _ _ _ _ _ _ _ _ _).mono ?_); rintro _ _ ⟨rfl, g, rfl⟩)) | (go_at_call 65; ((with_reducible refine (within_c _ _ _ _ _ _ _ _ _ _).mono ?_); rintro _ _ ⟨rfl, g, rfl⟩)) | (go_at_call 65; ((with_reducible refine (within_d _ _ _ _ _ _ _ _ _ _).mono ?_); rintro _ _ ⟨rfl, g, rfl⟩)) | (go_at_call 66; ((with_reducible refine (same13_any _ _ _ _ _ _ _ _ _ _ _ _ _ _ _ _ _ _ lx lx _ HX.out HX.out hn (h1.gr (gri)) (h1.gr (gri))).mono ?_); rintro _ _ ⟨rfl, g, rfl⟩)))
    refine wp_loop_rounds 2 ?_
    iterate 2
      rw [rounds_succ]
      go_wp2_with (first | (go_at_call 64; ((with_reducible refine (namesB_any _ _).mono ?_); rintro _ _ ⟨rfl, g, rfl⟩)) | (go_at_call 65; ((with_reducible refine (within_v _ _ _ _ _ _ _ _ _ _).mono ?_); rintro _ _ ⟨rfl, g, rfl⟩)) | (go_at_call 65; ((with_reducible refine (within_t _ _ _ _ _ _ _ _ _ _).mono ?_); rintro _ _ ⟨rfl, g, rfl⟩)) | (go_at_call 65; ((with_reducible refine (within_s _ _ _ _ _ _ _ _ _ _).mono ?_); rintro _ _ ⟨rfl, g, rfl⟩)) | (go_at_call 65; ((with_reducible refine (within_a _ _ _ _ _ _ _ _ _ _).mono ?_); rintro _ _ ⟨rfl, g, rfl⟩)) | (go_at_call 65; ((with_reducible refine (within_c _ _ _ _ _ _ _ _ _ _).mono ?_); rintro _ _ ⟨rfl, g, rfl⟩)) | (go_at_call 65; ((with_reducible refine (within_d _ _ _ _ _ _ _ _ _ _).mono ?_); rintro _ _ ⟨rfl, g, rfl⟩)) | (go_at_call 66; ((with_reducible refine (same13_any _ _ _ _ _ _ _ _ _ _ _ _ _ _ _ _ _ _ lx lx _ HX.out HX.out hn (h1.gr (gri)) (h1.gr (gri))).mono ?_); rintro _ _ ⟨rfl, g, rfl⟩)))
    go_ret
    exact ⟨ret_bool (by simp [b0, b1]), gri⟩
  rcases Bool.eq_false_or_eq_true (wData xn) with b2 | b2
  rotate_left
  · go_enter Tryd.func39, Tryd.ntmps39
    go_wp2_with (first | (go_at_call 64; ((with_reducible refine (namesB_any _ _).mono ?_); rintro _ _ ⟨rfl, g, rfl⟩)) | (go_at_call 65; ((with_reducible refine (within_v _ _ _ _ _ _ _ _ _ _).mono ?_); rintro _ _ ⟨rfl, g, rfl⟩)) | (go_at_call 65; ((with_reducible refine (within_t _ _ _ _ _ _ _ _ _ _).mono ?_); rintro _ _ ⟨rfl, g, rfl⟩)) | (go_at_call 65; ((with_reducible refine (within_s _ _ _ _ _ _ _ _ _ _).mono ?_); rintro _ _ ⟨rfl, g, rfl⟩)) | (go_at_call 65; ((with_reducible refine (within_a _ _ _ _ _ _ _ _ _ _).mono ?_); rintro _ _ ⟨rfl, g, rfl⟩)) | (go_at_call 65; ((with_reducible refine (within_c _ _ _ _ _ _ _ _ _ _).mono ?_); rintro _ _ ⟨rfl, g, rfl⟩)) | (go_at_call 65; ((with_reducible refine (within_d _ _ _ _ _ _ _ _ _ _).mono ?_); rintro _ _ ⟨rfl, g, rfl⟩)) | (go_at_call 66; ((with_reducible refine (same13_any _ _ _ _ _ _ _ _ _ _ _ _ _ _ _ _ _ _ lx lx _ HX.out HX.out hn (h1.gr (gri)) (h1.gr (gri))).mono ?_); rintro _ _ ⟨rfl, g, rfl⟩)))
    refine wp_loop_rounds 3 ?_
    iterate 3
      rw [rounds_succ]
      go_wp2_with (first | (go_at_call 64; ((with_reducible refine (namesB_any _ _).mono ?_); rintro _ _ ⟨rfl, g, rfl⟩)) | (go_at_call 65; ((with_reducible refine (within_v _ _ _ _ _ _ _ _ _ _).mono ?_); rintro _ _ ⟨rfl, g, rfl⟩)) | (go_at_call 65; ((with_reducible refine (within_t _ _ _ _ _ _ _ _ _ _).mono ?_); rintro _ _ ⟨rfl, g, rfl⟩)) | (go_at_call 65; ((with_reducible refine (within_s _ _ _ _ _ _ _ _ _ _).mono ?_); rintro _ _ ⟨rfl, g, rfl⟩)) | (go_at_call 65; ((with_reducible refine (within_a _ _ _ _ _ _ _ _ _ _).mono ?_); rintro _ _ ⟨rfl, g, rfl⟩)) | (go_at_call 65; ((with_reducible refine (within_c _ _ _ _ _ _ _ _ _ _).mono ?_); rintro _ _ ⟨rfl, g, rfl⟩)) | (go_at_call 65; ((with_reducible refine (within_d _ _ _ _ _ _ _ _ _ _).mono ?_); rintro _ _ ⟨rfl, g, rfl⟩)) | (go_at_call 66; ((with_reducible refine (same13_any _ _ _ _ _ _ _ _ _ _ _ _ _ _ _ _ _ _ lx lx _ HX.out HX.out hn (h1.gr (gri)) (h1.gr (gri))).mono ?_); rintro _ _ ⟨rfl, g, rfl⟩)))
    go_ret
    exact ⟨ret_bool (by simp [b0, b1, b2]), gri⟩
  go_enter Tryd.func39, Tryd.ntmps39
  go_wp2_with (first | (go_at_call 64; ((with_reducible refine (namesB_any _ _).mono ?_); rintro _ _ ⟨rfl, g, rfl⟩)) | (go_at_call 65; ((with_reducible refine (within_v _ _ _ _ _ _ _ _ _ _).mono ?_); rintro _ _ ⟨rfl, g, rfl⟩)) | (go_at_call 65; ((with_reducible refine (within_t _ _ _ _ _ _ _ _ _ _).mono ?_); rintro _ _ ⟨rfl, g, rfl⟩)) | (go_at_call 65; ((with_reducible refine (within_s _ _ _ _ _ _ _ _ _ _).mono ?_); rintro _ _ ⟨rfl, g, rfl⟩)) | (go_at_call 65; ((with_reducible refine (within_a _ _ _ _ _ _ _ _ _ _).mono ?_); rintro _ _ ⟨rfl, g, rfl⟩)) | (go_at_call 65; ((with_reducible refine (within_c _ _ _ _ _ _ _ _ _ _).mono ?_); rintro _ _ ⟨rfl, g, rfl⟩)) | (go_at_call 65; ((with_reducible refine (within_d _ _ _ _ _ _ _ _ _ _).mono ?_); rintro _ _ ⟨rfl, g, rfl⟩)) | (go_at_call 66; ((with_reducible refine (same13_any _ _ _ _ _ _ _ _ _ _ _ _ _ _ _ _ _ _ lx lx _ HX.out HX.out hn (h1.gr (gri)) (h1.gr (gri))).mono ?_); rintro _ _ ⟨rfl, g, rfl⟩)))
  refine wp_loop_rounds 4 ?_
  iterate 4
    rw [rounds_succ]
    go_wp2_with (first | (go_at_call 64; ((with_reducible refine (namesB_any _ _).mono ?_); rintro _ _ ⟨rfl, g, rfl⟩)) | (go_at_call 65; ((with_reducible refine (within_v _ _ _ _ _ _ _ _ _ _).mono ?_); rintro _ _ ⟨rfl, g, rfl⟩)) | (go_at_call 65; ((with_reducible refine (within_t _ _ _ _ _ _ _ _ _ _).mono ?_); rintro _ _ ⟨rfl, g, rfl⟩)) | (go_at_call 65; ((with_reducible refine (within_s _ _ _ _ _ _ _ _ _ _).mono ?_); rintro _ _ ⟨rfl, g, rfl⟩)) | (go_at_call 65; ((with_reducible refine (within_a _ _ _ _ _ _ _ _ _ _).mono ?_); rintro _ _ ⟨rfl, g, rfl⟩)) | (go_at_call 65; ((with_reducible refine (within_c _ _ _ _ _ _ _ _ _ _).mono ?_); rintro _ _ ⟨rfl, g, rfl⟩)) | (go_at_call 65; ((with_reducible refine (within_d _ _ _ _ _ _ _ _ _ _).mono ?_); rintro _ _ ⟨rfl, g, rfl⟩)) | (go_at_call 66; ((with_reducible refine (same13_any _ _ _ _ _ _ _ _ _ _ _ _ _ _ _ _ _ _ lx lx _ HX.out HX.out hn (h1.gr (gri)) (h1.gr (gri))).mono ?_); rintro _ _ ⟨rfl, g, rfl⟩)))
  go_ret
  exact ⟨ret_bool (by simp [sameB, b0, b1, b2, Bool.and_assoc]), gri⟩
set_option maxHeartbeats 2000000 in
theorem mayOp_6 (xv xt xs xa xc : Int) (xD : Option Addr) (xn xq : Nat) (lx : List UInt8) (w : World) (hx : lx.length = xn) (hn : xn ≤ 9223372036854775807) (h1 : Row bv w xD lx) : Calls Tryd.prog 39 #[(Value.agg #[.int .i64 6, .int .u64 xv, .int .u64 xt, .int .i64 xs, .int .i64 xa, .int .i64 xc, .slice xD xn xq])] w fun e w' => e = .returned (.bool (mayOpB 6 xv xt xs xa xc xn lx)) ∧ Gr w w' := by
  have HX := Lib.hid hx; clear hx
  have en : namesB 6 = ⟨#[118, 97, 99]⟩ := rfl
  have E0 : mayOpB 6 xv xt xs xa xc xn lx = (wVol xv && wAt xa && wCount xc && (xt == 0) && (xs == 0) && (lx == [])) := rfl
  rw [E0]; clear E0
  rcases Bool.eq_false_or_eq_true (wVol xv) with b0 | b0
  rotate_left
  · go_enter Tryd.func39, Tryd.ntmps39
    go_wp2_with (first | (go_at_call 64; ((with_reducible refine (namesB_any _ _).mono ?_); rintro _ _ ⟨rfl, g, rfl⟩)) | (go_at_call 65; ((with_reducible refine (within_v _ _ _ _ _ _ _ _ _ _).mono ?_); rintro _ _ ⟨rfl, g, rfl⟩)) | (go_at_call 65; ((with_reducible refine (within_t _ _ _ _ _ _ _ _ _ _).mono ?_); rintro _ _ ⟨rfl, g, rfl⟩)) | (go_at_call 65; ((with_reducible refine (within_s _ _ _ _ _ _ _ _ _ _).mono ?_); rintro _ _ ⟨rfl, g, rfl⟩)) | (go_at_call 65; ((with_reducible refine (within_a _ _ _ _ _ _ _ _ _ _).mono ?_); rintro _ _ ⟨rfl, g, rfl⟩)) | (go_at_call 65; ((with_reducible refine (within_c _ _ _ _ _ _ _ _ _ _).mono ?_); rintro _ _ ⟨rfl, g, rfl⟩)) | (go_at_call 65; ((with_reducible refine (within_d _ _ _ _ _ _ _ _ _ _).mono ?_); rintro _ _ ⟨rfl, g, rfl⟩)) | (go_at_call 66; ((with_reducible refine (same13_any _ _ _ _ _ _ _ _ _ _ _ _ _ _ _ _ _ _ lx [] _ HX.out List.length_nil hn (h1.gr (gri)) Row.nil).mono ?_); rintro _ _ ⟨rfl, g, rfl⟩)))
    refine wp_loop_rounds 1 ?_
    rw [rounds_succ]
    go_wp2_with (first | (go_at_call 64; ((with_reducible refine (namesB_any _ _).mono ?_); rintro _ _ ⟨rfl, g, rfl⟩)) | (go_at_call 65; ((with_reducible refine (within_v _ _ _ _ _ _ _ _ _ _).mono ?_); rintro _ _ ⟨rfl, g, rfl⟩)) | (go_at_call 65; ((with_reducible refine (within_t _ _ _ _ _ _ _ _ _ _).mono ?_); rintro _ _ ⟨rfl, g, rfl⟩)) | (go_at_call 65; ((with_reducible refine (within_s _ _ _ _ _ _ _ _ _ _).mono ?_); rintro _ _ ⟨rfl, g, rfl⟩)) | (go_at_call 65; ((with_reducible refine (within_a _ _ _ _ _ _ _ _ _ _).mono ?_); rintro _ _ ⟨rfl, g, rfl⟩)) | (go_at_call 65; ((with_reducible refine (within_c _ _ _ _ _ _ _ _ _ _).mono ?_); rintro _ _ ⟨rfl, g, rfl⟩)) | (go_at_call 65; ((with_reducible refine (within_d _ _ _ _ _ _ _ _ _ _).mono ?_); rintro _ _ ⟨rfl, g, rfl⟩)) | (go_at_call 66; ((with_reducible refine (same13_any _ _ _ _ _ _ _ _ _ _ _ _ _ _ _ _ _ _ lx [] _ HX.out List.length_nil hn (h1.gr (gri)) Row.nil).mono ?_); rintro _ _ ⟨rfl, g, rfl⟩)))
    go_ret
    exact ⟨ret_bool (by simp [b0]), gri⟩
  rcases Bool.eq_false_or_eq_true (wAt xa) with b1 | b1
  rotate_left
  · go_enter Tryd.func39, Tryd.ntmps39
    go_wp2_with (first | (go_at_call 64; ((with_reducible refine (namesB_any _ _).mono ?_); rintro _ _ ⟨rfl, g, rfl⟩)) | (go_at_call 65; ((with_reducible refine (within_v _ _ _ _ _ _ _ _ _ _).mono ?_); rintro _ _ ⟨rfl, g, rfl⟩)) | (go_at_call 65; ((with_reducible refine (within_t _ _ _ _ _ _ _ _ _ _).mono ?_); rintro _ _ ⟨rfl, g, rfl⟩)) | (go_at_call 65; ((with_reducible refine (within_s _ _ _ _ _ _ _ _ _ _).mono ?_); rintro _ _ ⟨rfl, g, rfl⟩)) | (go_at_call 65; ((with_reducible refine (within_a _ _ _ _ _ _ _ _ _ _).mono ?_); rintro _ _ ⟨rfl, g, rfl⟩)) | (go_at_call 65; ((with_reducible refine (within_c _ _ _ _ _ _ _ _ _ _).mono ?_); rintro _ _ ⟨rfl, g, rfl⟩)) | (go_at_call 65; ((with_reducible refine (within_d _ _ _ _ _ _ _ _ _ _).mono ?_); rintro _ _ ⟨rfl, g, rfl⟩)) | (go_at_call 66; ((with_reducible refine (same13_any _ _ _ _ _ _ _ _ _ _ _ _ _ _ _ _ _ _ lx [] _ HX.out List.length_nil hn (h1.gr (gri)) Row.nil).mono ?_); rintro _ _ ⟨rfl, g, rfl⟩)))
    refine wp_loop_rounds 2 ?_
    iterate 2
      rw [rounds_succ]
      go_wp2_with (first | (go_at_call 64; ((with_reducible refine (namesB_any _ _).mono ?_); rintro _ _ ⟨rfl, g, rfl⟩)) | (go_at_call 65; ((with_reducible refine (within_v _ _ _ _ _ _ _ _ _ _).mono ?_); rintro _ _ ⟨rfl, g, rfl⟩)) | (go_at_call 65; ((with_reducible refine (within_t _ _ _ _ _ _ _ _ _ _).mono ?_); rintro _ _ ⟨rfl, g, rfl⟩)) | (go_at_call 65; ((with_reducible refine (within_s _ _ _ _ _ _ _ _ _ _).mono ?_); rintro _ _ ⟨rfl, g, rfl⟩)) | (go_at_call 65; ((with_reducible refine (within_a _ _ _ _ _ _ _ _ _ _).mono ?_); rintro _ _ ⟨rfl, g, rfl⟩)) | (go_at_call 65; ((with_reducible refine (within_c _ _ _ _ _ _ _ _ _ _).mono ?_); rintro _ _ ⟨rfl, g, rfl⟩)) | (go_at_call 65; ((with_reducible refine (within_d _ _ _ _ _ _ _ _ _ _).mono ?_); rintro _ _ ⟨rfl, g, rfl⟩)) | (go_at_call 66; ((with_reducible refine (same13_any _ _ _ _ _ _ _ _ _ _ _ _ _ _ _ _ _ _ lx [] _ HX.out List.length_nil hn (h1.gr (gri)) Row.nil).mono ?_); rintro _ _ ⟨rfl, g, rfl⟩)))
    go_ret
    exact ⟨ret_bool (by simp [b0, b1]), gri⟩
  rcases Bool.eq_false_or_eq_true (wCount xc) with b2 | b2
  rotate_left
  · go_enter Tryd.func39, Tryd.ntmps39
    go_wp2_with (first | (go_at_call 64; ((with_reducible refine (namesB_any _ _).mono ?_); rintro _ _ ⟨rfl, g, rfl⟩)) | (go_at_call 65; ((with_reducible refine (within_v _ _ _ _ _ _ _ _ _ _).mono ?_); rintro _ _ ⟨rfl, g, rfl⟩)) | (go_at_call 65; ((with_reducible refine (within_t _ _ _ _ _ _ _ _ _ _).mono ?_); rintro _ _ ⟨rfl, g, rfl⟩)) | (go_at_call 65; ((with_reducible refine (within_s _ _ _ _ _ _ _ _ _ _).mono ?_); rintro _ _ ⟨rfl, g, rfl⟩)) | (go_at_call 65; ((with_reducible refine (within_a _ _ _ _ _ _ _ _ _ _).mono ?_); rintro _ _ ⟨rfl, g, rfl⟩)) | (go_at_call 65; ((with_reducible refine (within_c _ _ _ _ _ _ _ _ _ _).mono ?_); rintro _ _ ⟨rfl, g, rfl⟩)) | (go_at_call 65; ((with_reducible refine (within_d _ _ _ _ _ _ _ _ _ _).mono ?_); rintro _ _ ⟨rfl, g, rfl⟩)) | (go_at_call 66; ((with_reducible refine (same13_any _ _ _ _ _ _ _ _ _ _ _ _ _ _ _ _ _ _ lx [] _ HX.out List.length_nil hn (h1.gr (gri)) Row.nil).mono ?_); rintro _ _ ⟨rfl, g, rfl⟩)))
    refine wp_loop_rounds 3 ?_
    iterate 3
      rw [rounds_succ]
      go_wp2_with (first | (go_at_call 64; ((with_reducible refine (namesB_any _ _).mono ?_); rintro _ _ ⟨rfl, g, rfl⟩)) | (go_at_call 65; ((with_reducible refine (within_v _ _ _ _ _ _ _ _ _ _).mono ?_); rintro _ _ ⟨rfl, g, rfl⟩)) | (go_at_call 65; ((with_reducible refine (within_t _ _ _ _ _ _ _ _ _ _).mono ?_); rintro _ _ ⟨rfl, g, rfl⟩)) | (go_at_call 65; ((with_reducible refine (within_s _ _ _ _ _ _ _ _ _ _).mono ?_); rintro _ _ ⟨rfl, g, rfl⟩)) | (go_at_call 65; ((with_reducible refine (within_a _ _ _ _ _ _ _ _ _ _).mono ?_); rintro _ _ ⟨rfl, g, rfl⟩)) | (go_at_call 65; ((with_reducible refine (within_c _ _ _ _ _ _ _ _ _ _).mono ?_); rintro _ _ ⟨rfl, g, rfl⟩)) | (go_at_call 65; ((with_reducible refine (within_d _ _ _ _ _ _ _ _ _ _).mono ?_); rintro _ _ ⟨rfl, g, rfl⟩)) | (go_at_call 66; ((with_reducible refine (same13_any _ _ _ _ _ _ _ _ _ _ _ _ _ _ _ _ _ _ lx [] _ HX.out List.length_nil hn (h1.gr (gri)) Row.nil).mono ?_); rintro _ _ ⟨rfl, g, rfl⟩)))
    go_ret
    exact ⟨ret_bool (by simp [b0, b1, b2]), gri⟩
  go_enter Tryd.func39, Tryd.ntmps39
  go_wp2_with (first | (go_at_call 64; ((with_reducible refine (namesB_any _ _).mono ?_); rintro _ _ ⟨rfl, g, rfl⟩)) | (go_at_call 65; ((with_reducible refine (within_v _ _ _ _ _ _ _ _ _ _).mono ?_); rintro _ _ ⟨rfl, g, rfl⟩)) | (go_at_call 65; ((with_reducible refine (within_t _ _ _ _ _ _ _ _ _ _).mono ?_); rintro _ _ ⟨rfl, g, rfl⟩)) | (go_at_call 65; ((with_reducible refine (within_s _ _ _ _ _ _ _ _ _ _).mono ?_); rintro _ _ ⟨rfl, g, rfl⟩)) | (go_at_call 65; ((with_reducible refine (within_a _ _ _ _ _ _ _ _ _ _).mono ?_); rintro _ _ ⟨rfl, g, rfl⟩)) | (go_at_call 65; ((with_reducible refine (within_c _ _ _ _ _ _ _ _ _ _).mono ?_); rintro _ _ ⟨rfl, g, rfl⟩)) | (go_at_call 65; ((with_reducible refine (within_d _ _ _ _ _ _ _ _ _ _).mono ?_); rintro _ _ ⟨rfl, g, rfl⟩)) | (go_at_call 66; ((with_reducible refine (same13_any _ _ _ _ _ _ _ _ _ _ _ _ _ _ _ _ _ _ lx [] _ HX.out List.length_nil hn (h1.gr (gri)) Row.nil).mono ?_); rintro _ _ ⟨rfl, g, rfl⟩)))
  refine wp_loop_rounds 4 ?_
  iterate 4
    rw [rounds_succ]
    go_wp2_with (first | (go_at_call 64; ((with_reducible refine (namesB_any _ _).mono ?_); rintro _ _ ⟨rfl, g, rfl⟩)) | (go_at_call 65; ((with_reducible refine (within_v _ _ _ _ _ _ _ _ _ _).mono ?_); rintro _ _ ⟨rfl, g, rfl⟩)) | (go_at_call 65; ((with_reducible refine (within_t _ _ _ _ _ _ _ _ _ _).mono ?_); rintro _ _ ⟨rfl, g, rfl⟩)) | (go_at_call 65; ((with_reducible refine (within_s _ _ _ _ _ _ _ _ _ _).mono ?_); rintro _ _ ⟨rfl, g, rfl⟩)) | (go_at_call 65; ((with_reducible refine (within_a _ _ _ _ _ _ _ _ _ _).mono ?_); rintro _ _ ⟨rfl, g, rfl⟩)) | (go_at_call 65; ((with_reducible refine (within_c _ _ _ _ _ _ _ _ _ _).mono ?_); rintro _ _ ⟨rfl, g, rfl⟩)) | (go_at_call 65; ((with_reducible refine (within_d _ _ _ _ _ _ _ _ _ _).mono ?_); rintro _ _ ⟨rfl, g, rfl⟩)) | (go_at_call 66; ((with_reducible refine (same13_any _ _ _ _ _ _ _ _ _ _ _ _ _ _ _ _ _ _ lx [] _ HX.out List.length_nil hn (h1.gr (gri)) Row.nil).mono ?_); rintro _ _ ⟨rfl, g, rfl⟩)))
  go_ret
  exact ⟨ret_bool (by simp [sameB, b0, b1, b2, Bool.and_assoc]), gri⟩
set_option maxHeartbeats 2000000 in
theorem mayOp_7 (xv xt xs xa xc : Int) (xD : Option Addr) (xn xq : Nat) (lx : List UInt8) (w : World) (hx : lx.length = xn) (hn : xn ≤ 9223372036854775807) (h1 : Row bv w xD lx) : Calls Tryd.prog 39 #[(Value.agg #[.int .i64 7, .int .u64 xv, .int .u64 xt, .int .i64 xs, .int .i64 xa, .int .i64 xc, .slice xD xn xq])] w fun e w' => e = .returned (.bool (mayOpB 7 xv xt xs xa xc xn lx)) ∧ Gr w w' := by
  have HX := Lib.hid hx; clear hx
  have en : namesB 7 = ⟨#[118, 97, 99]⟩ := rfl
  have E0 : mayOpB 7 xv xt xs xa xc xn lx = (wVol xv && wAt xa && wCount xc && (xt == 0) && (xs == 0) && (lx == [])) := rfl
  rw [E0]; clear E0
  rcases Bool.eq_false_or_eq_true (wVol xv) with b0 | b0
  rotate_left
  · go_enter Tryd.func39, Tryd.ntmps39
    go_wp2_with (first | (go_at_call 64; ((with_reducible refine (namesB_any _ _).mono ?_); rintro _ _ ⟨rfl, g, rfl⟩)) | (go_at_call 65; ((with_reducible refine (within_v _ _ _ _ _ _ _ _ _ _).mono ?_); rintro _ _ ⟨rfl, g, rfl⟩)) | (go_at_call 65; ((with_reducible refine (within_t _ _ _ _ _ _ _ _ _ _).mono ?_); rintro _ _ ⟨rfl, g, rfl⟩)) | (go_at_call 65; ((with_reducible refine (within_s _ _ _ _ _ _ _ _ _ _).mono ?_); rintro _ _ ⟨rfl, g, rfl⟩)) | (go_at_call 65; ((with_reducible refine (within_a _ _ _ _ _ _ _ _ _ _).mono ?_); rintro _ _ ⟨rfl, g, rfl⟩)) | (go_at_call 65; ((with_reducible refine (within_c _ _ _ _ _ _ _ _ _ _).mono ?_); rintro _ _ ⟨rfl, g, rfl⟩)) | (go_at_call 65; ((with_reducible refine (within_d _ _ _ _ _ _ _ _ _ _).mono ?_); rintro _ _ ⟨rfl, g, rfl⟩)) | (go_at_call 66; ((with_reducible refine (same13_any _ _ _ _ _ _ _ _ _ _ _ _ _ _ _ _ _ _ lx [] _ HX.out List.length_nil hn (h1.gr (gri)) Row.nil).mono ?_); rintro _ _ ⟨rfl, g, rfl⟩)))
    refine wp_loop_rounds 1 ?_
    rw [rounds_succ]
    go_wp2_with (first | (go_at_call 64; ((with_reducible refine (namesB_any _ _).mono ?_); rintro _ _ ⟨rfl, g, rfl⟩)) | (go_at_call 65; ((with_reducible refine (within_v _ _ _ _ _ _ _ _ _ _).mono ?_); rintro _ _ ⟨rfl, g, rfl⟩)) | (go_at_call 65; ((with_reducible refine (within_t _ _ _ _ _ _ _ _ _ _).mono ?_); rintro _ _ ⟨rfl, g, rfl⟩)) | (go_at_call 65; ((with_reducible refine (within_s _ _ _ _ _ _ _ _ _ _).mono ?_); rintro _ _ ⟨rfl, g, rfl⟩)) | (go_at_call 65; ((with_reducible refine (within_a _ _ _ _ _ _ _ _ _ _).mono ?_); rintro _ _ ⟨rfl, g, rfl⟩)) | (go_at_call 65; ((with_reducible refine (within_c _ _ _ _ _ _ _ _ _ _).mono ?_); rintro _ _ ⟨rfl, g, rfl⟩)) | (go_at_call 65; ((with_reducible refine (within_d _ _ _ _ _ _ _ _ _ _).mono ?_); rintro _ _ ⟨rfl, g, rfl⟩)) | (go_at_call 66; ((with_reducible refine (same13_any _ _ _ _ _ _ _ _ _ _ _ _ _ _ _ _ _ _ lx [] _ HX.out List.length_nil hn (h1.gr (gri)) Row.nil).mono ?_); rintro _ _ ⟨rfl, g, rfl⟩)))
    go_ret
    exact ⟨ret_bool (by simp [b0]), gri⟩
  rcases Bool.eq_false_or_eq_true (wAt xa) with b1 | b1
  rotate_left
  · go_enter Tryd.func39, Tryd.ntmps39
    go_wp2_with (first | (go_at_call 64; ((with_reducible refine (namesB_any _ _).mono ?_); rintro _ _ ⟨rfl, g, rfl⟩)) | (go_at_call 65; ((with_reducible refine (within_v _ _ _ _ _ _ _ _ _ _).mono ?_); rintro _ _ ⟨rfl, g, rfl⟩)) | (go_at_call 65; ((with_reducible refine (within_t _ _ _ _ _ _ _ _ _ _).mono ?_); rintro _ _ ⟨rfl, g, rfl⟩)) | (go_at_call 65; ((with_reducible refine (within_s _ _ _ _ _ _ _ _ _ _).mono ?_); rintro _ _ ⟨rfl, g, rfl⟩)) | (go_at_call 65; ((with_reducible refine (within_a _ _ _ _ _ _ _ _ _ _).mono ?_); rintro _ _ ⟨rfl, g, rfl⟩)) | (go_at_call 65; ((with_reducible refine (within_c _ _ _ _ _ _ _ _ _ _).mono ?_); rintro _ _ ⟨rfl, g, rfl⟩)) | (go_at_call 65; ((with_reducible refine (within_d _ _ _ _ _ _ _ _ _ _).mono ?_); rintro _ _ ⟨rfl, g, rfl⟩)) | (go_at_call 66; ((with_reducible refine (same13_any _ _ _ _ _ _ _ _ _ _ _ _ _ _ _ _ _ _ lx [] _ HX.out List.length_nil hn (h1.gr (gri)) Row.nil).mono ?_); rintro _ _ ⟨rfl, g, rfl⟩)))
    refine wp_loop_rounds 2 ?_
    iterate 2
      rw [rounds_succ]
      go_wp2_with (first | (go_at_call 64; ((with_reducible refine (namesB_any _ _).mono ?_); rintro _ _ ⟨rfl, g, rfl⟩)) | (go_at_call 65; ((with_reducible refine (within_v _ _ _ _ _ _ _ _ _ _).mono ?_); rintro _ _ ⟨rfl, g, rfl⟩)) | (go_at_call 65; ((with_reducible refine (within_t _ _ _ _ _ _ _ _ _ _).mono ?_); rintro _ _ ⟨rfl, g, rfl⟩)) | (go_at_call 65; ((with_reducible refine (within_s _ _ _ _ _ _ _ _ _ _).mono ?_); rintro _ _ ⟨rfl, g, rfl⟩)) | (go_at_call 65; ((with_reducible refine (within_a _ _ _ _ _ _ _ _ _ _).mono ?_); rintro _ _ ⟨rfl, g, rfl⟩)) | (go_at_call 65; ((with_reducible refine (within_c _ _ _ _ _ _ _ _ _ _).mono ?_); rintro _ _ ⟨rfl, g, rfl⟩)) | (go_at_call 65; ((with_reducible refine (within_d _ _ _ _ _ _ _ _ _ _).mono ?_); rintro _ _ ⟨rfl, g, rfl⟩)) | (go_at_call 66; ((with_reducible refine (same13_any _ _ _ _ _ _ _ _ _ _ _ _ _ _ _ _ _ _ lx [] _ HX.out List.length_nil hn (h1.gr (gri)) Row.nil).mono ?_); rintro _ _ ⟨rfl, g, rfl⟩)))
    go_ret
    exact ⟨ret_bool (by simp [b0, b1]), gri⟩
  rcases Bool.eq_false_or_eq_true (wCount xc) with b2 | b2
  rotate_left
  · go_enter Tryd.func39, Tryd.ntmps39
    go_wp2_with (first | (go_at_call 64; ((with_reducible refine (namesB_any _ _).mono ?_); rintro _ _ ⟨rfl, g, rfl⟩)) | (go_at_call 65; ((with_reducible refine (within_v _ _ _ _ _ _ _ _ _ _).mono ?_); rintro _ _ ⟨rfl, g, rfl⟩)) | (go_at_call 65; ((with_reducible refine (within_t _ _ _ _ _ _ _ _ _ _).mono ?_); rintro _ _ ⟨rfl, g, rfl⟩)) | (go_at_call 65; ((with_reducible refine (within_s _ _ _ _ _ _ _ _ _ _).mono ?_); rintro _ _ ⟨rfl, g, rfl⟩)) | (go_at_call 65; ((with_reducible refine (within_a _ _ _ _ _ _ _ _ _ _).mono ?_); rintro _ _ ⟨rfl, g, rfl⟩)) | (go_at_call 65; ((with_reducible refine (within_c _ _ _ _ _ _ _ _ _ _).mono ?_); rintro _ _ ⟨rfl, g, rfl⟩)) | (go_at_call 65; ((with_reducible refine (within_d _ _ _ _ _ _ _ _ _ _).mono ?_); rintro _ _ ⟨rfl, g, rfl⟩)) | (go_at_call 66; ((with_reducible refine (same13_any _ _ _ _ _ _ _ _ _ _ _ _ _ _ _ _ _ _ lx [] _ HX.out List.length_nil hn (h1.gr (gri)) Row.nil).mono ?_); rintro _ _ ⟨rfl, g, rfl⟩)))
    refine wp_loop_rounds 3 ?_
    iterate 3
      rw [rounds_succ]
      go_wp2_with (first | (go_at_call 64; ((with_reducible refine (namesB_any _ _).mono ?_); rintro _ _ ⟨rfl, g, rfl⟩)) | (go_at_call 65; ((with_reducible refine (within_v _ _ _ _ _ _ _ _ _ _).mono ?_); rintro _ _ ⟨rfl, g, rfl⟩)) | (go_at_call 65; ((with_reducible refine (within_t _ _ _ _ _ _ _ _ _ _).mono ?_); rintro _ _ ⟨rfl, g, rfl⟩)) | (go_at_call 65; ((with_reducible refine (within_s _ _ _ _ _ _ _ _ _ _).mono ?_); rintro _ _ ⟨rfl, g, rfl⟩)) | (go_at_call 65; ((with_reducible refine (within_a _ _ _ _ _ _ _ _ _ _).mono ?_); rintro _ _ ⟨rfl, g, rfl⟩)) | (go_at_call 65; ((with_reducible refine (within_c _ _ _ _ _ _ _ _ _ _).mono ?_); rintro _ _ ⟨rfl, g, rfl⟩)) | (go_at_call 65; ((with_reducible refine (within_d _ _ _ _ _ _ _ _ _ _).mono ?_); rintro _ _ ⟨rfl, g, rfl⟩)) | (go_at_call 66; ((with_reducible refine (same13_any _ _ _ _ _ _ _ _ _ _ _ _ _ _ _ _ _ _ lx [] _ HX.out List.length_nil hn (h1.gr (gri)) Row.nil).mono ?_); rintro _ _ ⟨rfl, g, rfl⟩)))
    go_ret
    exact ⟨ret_bool (by simp [b0, b1, b2]), gri⟩
  go_enter Tryd.func39, Tryd.ntmps39
  go_wp2_with (first | (go_at_call 64; ((with_reducible refine (namesB_any _ _).mono ?_); rintro _ _ ⟨rfl, g, rfl⟩)) | (go_at_call 65; ((with_reducible refine (within_v _ _ _ _ _ _ _ _ _ _).mono ?_); rintro _ _ ⟨rfl, g, rfl⟩)) | (go_at_call 65; ((with_reducible refine (within_t _ _ _ _ _ _ _ _ _ _).mono ?_); rintro _ _ ⟨rfl, g, rfl⟩)) | (go_at_call 65; ((with_reducible refine (within_s _ _ _ _ _ _ _ _ _ _).mono ?_); rintro _ _ ⟨rfl, g, rfl⟩)) | (go_at_call 65; ((with_reducible refine (within_a _ _ _ _ _ _ _ _ _ _).mono ?_); rintro _ _ ⟨rfl, g, rfl⟩)) | (go_at_call 65; ((with_reducible refine (within_c _ _ _ _ _ _ _ _ _ _).mono ?_); rintro _ _ ⟨rfl, g, rfl⟩)) | (go_at_call 65; ((with_reducible refine (within_d _ _ _ _ _ _ _ _ _ _).mono ?_); rintro _ _ ⟨rfl, g, rfl⟩)) | (go_at_call 66; ((with_reducible refine (same13_any _ _ _ _ _ _ _ _ _ _ _ _ _ _ _ _ _ _ lx [] _ HX.out List.length_nil hn (h1.gr (gri)) Row.nil).mono ?_); rintro _ _ ⟨rfl, g, rfl⟩)))
  refine wp_loop_rounds 4 ?_
  iterate 4
    rw [rounds_succ]
    go_wp2_with (first | (go_at_call 64; ((with_reducible refine (namesB_any _ _).mono ?_); rintro _ _ ⟨rfl, g, rfl⟩)) | (go_at_call 65; ((with_reducible refine (within_v _ _ _ _ _ _ _ _ _ _).mono ?_); rintro _ _ ⟨rfl, g, rfl⟩)) | (go_at_call 65; ((with_reducible refine (within_t _ _ _ _ _ _ _ _ _ _).mono ?_); rintro _ _ ⟨rfl, g, rfl⟩)) | (go_at_call 65; ((with_reducible refine (within_s _ _ _ _ _ _ _ _ _ _).mono ?_); rintro _ _ ⟨rfl, g, rfl⟩)) | (go_at_call 65; ((with_reducible refine (within_a _ _ _ _ _ _ _ _ _ _).mono ?_); rintro _ _ ⟨rfl, g, rfl⟩)) | (go_at_call 65; ((with_reducible refine (within_c _ _ _ _ _ _ _ _ _ _).mono ?_); rintro _ _ ⟨rfl, g, rfl⟩)) | (go_at_call 65; ((with_reducible refine (within_d _ _ _ _ _ _ _ _ _ _).mono ?_); rintro _ _ ⟨rfl, g, rfl⟩)) | (go_at_call 66; ((with_reducible refine (same13_any _ _ _ _ _ _ _ _ _ _ _ _ _ _ _ _ _ _ lx [] _ HX.out List.length_nil hn (h1.gr (gri)) Row.nil).mono ?_); rintro _ _ ⟨rfl, g, rfl⟩)))
  go_ret
  exact ⟨ret_bool (by simp [sameB, b0, b1, b2, Bool.and_assoc]), gri⟩
set_option maxHeartbeats 2000000 in
theorem mayOp_8 (xv xt xs xa xc : Int) (xD : Option Addr) (xn xq : Nat) (lx : List UInt8) (w : World) (hx : lx.length = xn) (hn : xn ≤ 9223372036854775807) (h1 : Row bv w xD lx) : Calls Tryd.prog 39 #[(Value.agg #[.int .i64 8, .int .u64 xv, .int .u64 xt, .int .i64 xs, .int .i64 xa, .int .i64 xc, .slice xD xn xq])] w fun e w' => e = .returned (.bool (mayOpB 8 xv xt xs xa xc xn lx)) ∧ Gr w w' := by
  have HX := Lib.hid hx; clear hx
  have en : namesB 8 = ⟨#[]⟩ := rfl
  have E0 : mayOpB 8 xv xt xs xa xc xn lx = ((xv == 0) && (xt == 0) && (xs == 0) && (xa == 0) && (xc == 0) && (lx == [])) := rfl
  rw [E0]; clear E0
  go_enter Tryd.func39, Tryd.ntmps39
  go_wp2_with (first | (go_at_call 64; ((with_reducible refine (namesB_any _ _).mono ?_); rintro _ _ ⟨rfl, g, rfl⟩)) | (go_at_call 65; ((with_reducible refine (within_v _ _ _ _ _ _ _ _ _ _).mono ?_); rintro _ _ ⟨rfl, g, rfl⟩)) | (go_at_call 65; ((with_reducible refine (within_t _ _ _ _ _ _ _ _ _ _).mono ?_); rintro _ _ ⟨rfl, g, rfl⟩)) | (go_at_call 65; ((with_reducible refine (within_s _ _ _ _ _ _ _ _ _ _).mono ?_); rintro _ _ ⟨rfl, g, rfl⟩)) | (go_at_call 65; ((with_reducible refine (within_a _ _ _ _ _ _ _ _ _ _).mono ?_); rintro _ _ ⟨rfl, g, rfl⟩)) | (go_at_call 65; ((with_reducible refine (within_c _ _ _ _ _ _ _ _ _ _).mono ?_); rintro _ _ ⟨rfl, g, rfl⟩)) | (go_at_call 65; ((with_reducible refine (within_d _ _ _ _ _ _ _ _ _ _).mono ?_); rintro _ _ ⟨rfl, g, rfl⟩)) | (go_at_call 66; ((with_reducible refine (same13_any _ _ _ _ _ _ _ _ _ _ _ _ _ _ _ _ _ _ lx [] _ HX.out List.length_nil hn (h1.gr (gri)) Row.nil).mono ?_); rintro _ _ ⟨rfl, g, rfl⟩)))
  refine wp_loop_rounds 1 ?_
  rw [rounds_succ]
  go_wp2_with (first | (go_at_call 64; ((with_reducible refine (namesB_any _ _).mono ?_); rintro _ _ ⟨rfl, g, rfl⟩)) | (go_at_call 65; ((with_reducible refine (within_v _ _ _ _ _ _ _ _ _ _).mono ?_); rintro _ _ ⟨rfl, g, rfl⟩)) | (go_at_call 65; ((with_reducible refine (within_t _ _ _ _ _ _ _ _ _ _).mono ?_); rintro _ _ ⟨rfl, g, rfl⟩)) | (go_at_call 65; ((with_reducible refine (within_s _ _ _ _ _ _ _ _ _ _).mono ?_); rintro _ _ ⟨rfl, g, rfl⟩)) | (go_at_call 65; ((with_reducible refine (within_a _ _ _ _ _ _ _ _ _ _).mono ?_); rintro _ _ ⟨rfl, g, rfl⟩)) | (go_at_call 65; ((with_reducible refine (within_c _ _ _ _ _ _ _ _ _ _).mono ?_); rintro _ _ ⟨rfl, g, rfl⟩)) | (go_at_call 65; ((with_reducible refine (within_d _ _ _ _ _ _ _ _ _ _).mono ?_); rintro _ _ ⟨rfl, g, rfl⟩)) | (go_at_call 66; ((with_reducible refine (same13_any _ _ _ _ _ _ _ _ _ _ _ _ _ _ _ _ _ _ lx [] _ HX.out List.length_nil hn (h1.gr (gri)) Row.nil).mono ?_); rintro _ _ ⟨rfl, g, rfl⟩)))
  go_ret
  exact ⟨ret_bool (by simp [sameB, Bool.and_assoc]), gri⟩
set_option maxHeartbeats 2000000 in
theorem mayOp_9 (xv xt xs xa xc : Int) (xD : Option Addr) (xn xq : Nat) (lx : List UInt8) (w : World) (hx : lx.length = xn) (hn : xn ≤ 9223372036854775807) (h1 : Row bv w xD lx) : Calls Tryd.prog 39 #[(Value.agg #[.int .i64 9, .int .u64 xv, .int .u64 xt, .int .i64 xs, .int .i64 xa, .int .i64 xc, .slice xD xn xq])] w fun e w' => e = .returned (.bool (mayOpB 9 xv xt xs xa xc xn lx)) ∧ Gr w w' := by
  have HX := Lib.hid hx; clear hx
  have en : namesB 9 = ⟨#[118, 97, 99]⟩ := rfl
  have E0 : mayOpB 9 xv xt xs xa xc xn lx = (wVol xv && wAt xa && wCount xc && (xt == 0) && (xs == 0) && (lx == [])) := rfl
  rw [E0]; clear E0
  rcases Bool.eq_false_or_eq_true (wVol xv) with b0 | b0
  rotate_left
  · go_enter Tryd.func39, Tryd.ntmps39
    go_wp2_with (first | (go_at_call 64; ((with_reducible refine (namesB_any _ _).mono ?_); rintro _ _ ⟨rfl, g, rfl⟩)) | (go_at_call 65; ((with_reducible refine (within_v _ _ _ _ _ _ _ _ _ _).mono ?_); rintro _ _ ⟨rfl, g, rfl⟩)) | (go_at_call 65; ((with_reducible refine (within_t _ _ _ _ _ _ _ _ _ _).mono ?_); rintro _ _ ⟨rfl, g, rfl⟩)) | (go_at_call 65; ((with_reducible refine (within_s _ _ _ _ _ _ _ _ _ _).mono ?_); rintro _ _ ⟨rfl, g, rfl⟩)) | (go_at_call 65; ((with_reducible refine (within_a _ _ _ _ _ _ _ _ _ _).mono ?_); rintro _ _ ⟨rfl, g, rfl⟩)) | (go_at_call 65; ((with_reducible refine (within_c _ _ _ _ _ _ _ _ _ _).mono ?_); rintro _ _ ⟨rfl, g, rfl⟩)) | (go_at_call 65; ((with_reducible refine (within_d _ _ _ _ _ _ _ _ _ _).mono ?_); rintro _ _ ⟨rfl, g, rfl⟩)) | (go_at_call 66; ((with_reducible refine (same13_any _ _ _ _ _ _ _ _ _ _ _ _ _ _ _ _ _ _ lx [] _ HX.out List.length_nil hn (h1.gr (gri)) Row.nil).mono ?_); rintro _ _ ⟨rfl, g, rfl⟩)))
    refine wp_loop_rounds 1 ?_
    rw [rounds_succ]
    go_wp2_with (first | (go_at_call 64; ((with_reducible refine (namesB_any _ _).mono ?_); rintro _ _ ⟨rfl, g, rfl⟩)) | (go_at_call 65; ((with_reducible refine (within_v _ _ _ _ _ _ _ _ _ _).mono ?_); rintro _ _ ⟨rfl, g, rfl⟩)) | (go_at_call 65; ((with_reducible refine (within_t _ _ _ _ _ _ _ _ _ _).mono ?_); rintro _ _ ⟨rfl, g, rfl⟩)) | (go_at_call 65; ((with_reducible refine (within_s _ _ _ _ _ _ _ _ _ _).mono ?_); rintro _ _ ⟨rfl, g, rfl⟩)) | (go_at_call 65; ((with_reducible refine (within_a _ _ _ _ _ _ _ _ _ _).mono ?_); rintro _ _ ⟨rfl, g, rfl⟩)) | (go_at_call 65; ((with_reducible refine (within_c _ _ _ _ _ _ _ _ _ _).mono ?_); rintro _ _ ⟨rfl, g, rfl⟩)) | (go_at_call 65; ((with_reducible refine (within_d _ _ _ _ _ _ _ _ _ _).mono ?_); rintro _ _ ⟨rfl, g, rfl⟩)) | (go_at_call 66; ((with_reducible refine (same13_any _ _ _ _ _ _ _ _ _ _ _ _ _ _ _ _ _ _ lx [] _ HX.out List.length_nil hn (h1.gr (gri)) Row.nil).mono ?_); rintro _ _ ⟨rfl, g, rfl⟩)))
    go_ret
    exact ⟨ret_bool (by simp [b0]), gri⟩
  rcases Bool.eq_false_or_eq_true (wAt xa) with b1 | b1
  rotate_left
  · go_enter Tryd.func39, Tryd.ntmps39
    go_wp2_with (first | (go_at_call 64; ((with_reducible refine (namesB_any _ _).mono ?_); rintro _ _ ⟨rfl, g, rfl⟩)) | (go_at_call 65; ((with_reducible refine (within_v _ _ _ _ _ _ _ _ _ _).mono ?_); rintro _ _ ⟨rfl, g, rfl⟩)) | (go_at_call 65; ((with_reducible refine (within_t _ _ _ _ _ _ _ _ _ _).mono ?_); rintro _ _ ⟨rfl, g, rfl⟩)) | (go_at_call 65; ((with_reducible refine (within_s _ _ _ _ _ _ _ _ _ _).mono ?_); rintro _ _ ⟨rfl, g, rfl⟩)) | (go_at_call 65; ((with_reducible refine (within_a _ _ _ _ _ _ _ _ _ _).mono ?_); rintro _ _ ⟨rfl, g, rfl⟩)) | (go_at_call 65; ((with_reducible refine (within_c _ _ _ _ _ _ _ _ _ _).mono ?_); rintro _ _ ⟨rfl, g, rfl⟩)) | (go_at_call 65; ((with_reducible refine (within_d _ _ _ _ _ _ _ _ _ _).mono ?_); rintro _ _ ⟨rfl, g, rfl⟩)) | (go_at_call 66; ((with_reducible refine (same13_any _ _ _ _ _ _ _ _ _ _ _ _ _ _ _ _ _ _ lx [] _ HX.out List.length_nil hn (h1.gr (gri)) Row.nil).mono ?_); rintro _ _ ⟨rfl, g, rfl⟩)))
    refine wp_loop_rounds 2 ?_
    iterate 2
      rw [rounds_succ]
      go_wp2_with (first | (go_at_call 64; ((with_reducible refine (namesB_any _ _).mono ?_); rintro _ _ ⟨rfl, g, rfl⟩)) | (go_at_call 65; ((with_reducible refine (within_v _ _ _ _ _ _ _ _ _ _).mono ?_); rintro _ _ ⟨rfl, g, rfl⟩)) | (go_at_call 65; ((with_reducible refine (within_t _ _ _ _ _ _ _ _ _ _).mono ?_); rintro _ _ ⟨rfl, g, rfl⟩)) | (go_at_call 65; ((with_reducible refine (within_s _ _ _ _ _ _ _ _ _ _).mono ?_); rintro _ _ ⟨rfl, g, rfl⟩)) | (go_at_call 65; ((with_reducible refine (within_a _ _ _ _ _ _ _ _ _ _).mono ?_); rintro _ _ ⟨rfl, g, rfl⟩)) | (go_at_call 65; ((with_reducible refine (within_c _ _ _ _ _ _ _ _ _ _).mono ?_); rintro _ _ ⟨rfl, g, rfl⟩)) | (go_at_call 65; ((with_reducible refine (within_d _ _ _ _ _ _ _ _ _ _).mono ?_); rintro _ _ ⟨rfl, g, rfl⟩)) | (go_at_call 66; ((with_reducible refine (same13_any _ _ _ _ _ _ _ _ _ _ _ _ _ _ _ _ _ _ lx [] _ HX.out List.length_nil hn (h1.gr (gri)) Row.nil).mono ?_); rintro _ _ ⟨rfl, g, rfl⟩)))
    go_ret
    exact ⟨ret_bool (by simp [b0, b1]), gri⟩
  rcases Bool.eq_false_or_eq_true (wCount xc) with b2 | b2
  rotate_left
  · go_enter Tryd.func39, Tryd.ntmps39
    go_wp2_with (first | (go_at_call 64; ((with_reducible refine (namesB_any _ _).mono ?_); rintro _ _ ⟨rfl, g, rfl⟩)) | (go_at_call 65; ((with_reducible refine (within_v _ _ _ _ _ _ _ _ _ _).mono ?_); rintro _ _ ⟨rfl, g, rfl⟩)) | (go_at_call 65; ((with_reducible refine (within_t _ _ _ _ _ _ _ _ _ _).mono ?_); rintro _ _ ⟨rfl, g, rfl⟩)) | (go_at_call 65; ((with_reducible refine (within_s _ _ _ _ _ _ _ _ _ _).mono ?_); rintro _ _ ⟨rfl, g, rfl⟩)) | (go_at_call 65; ((with_reducible refine (within_a _ _ _ _ _ _ _ _ _ _).mono ?_); rintro _ _ ⟨rfl, g, rfl⟩)) | (go_at_call 65; ((with_reducible refine (within_c _ _ _ _ _ _ _ _ _ _).mono ?_); rintro _ _ ⟨rfl, g, rfl⟩)) | (go_at_call 65; ((with_reducible refine (within_d _ _ _ _ _ _ _ _ _ _).mono ?_); rintro _ _ ⟨rfl, g, rfl⟩)) | (go_at_call 66; ((with_reducible refine (same13_any _ _ _ _ _ _ _ _ _ _ _ _ _ _ _ _ _ _ lx [] _ HX.out List.length_nil hn (h1.gr (gri)) Row.nil).mono ?_); rintro _ _ ⟨rfl, g, rfl⟩)))
    refine wp_loop_rounds 3 ?_
    iterate 3
      rw [rounds_succ]
      go_wp2_with (first | (go_at_call 64; ((with_reducible refine (namesB_any _ _).mono ?_); rintro _ _ ⟨rfl, g, rfl⟩)) | (go_at_call 65; ((with_reducible refine (within_v _ _ _ _ _ _ _ _ _ _).mono ?_); rintro _ _ ⟨rfl, g, rfl⟩)) | (go_at_call 65; ((with_reducible refine (within_t _ _ _ _ _ _ _ _ _ _).mono ?_); rintro _ _ ⟨rfl, g, rfl⟩)) | (go_at_call 65; ((with_reducible refine (within_s _ _ _ _ _ _ _ _ _ _).mono ?_); rintro _ _ ⟨rfl, g, rfl⟩)) | (go_at_call 65; ((with_reducible refine (within_a _ _ _ _ _ _ _ _ _ _).mono ?_); rintro _ _ ⟨rfl, g, rfl⟩)) | (go_at_call 65; ((with_reducible refine (within_c _ _ _ _ _ _ _ _ _ _).mono ?_); rintro _ _ ⟨rfl, g, rfl⟩)) | (go_at_call 65; ((with_reducible refine (within_d _ _ _ _ _ _ _ _ _ _).mono ?_); rintro _ _ ⟨rfl, g, rfl⟩)) | (go_at_call 66; ((with_reducible refine (same13_any _ _ _ _ _ _ _ _ _ _ _ _ _ _ _ _ _ _ lx [] _ HX.out List.length_nil hn (h1.gr (gri)) Row.nil).mono ?_); rintro _ _ ⟨rfl, g, rfl⟩)))
    go_ret
    exact ⟨ret_bool (by simp [b0, b1, b2]), gri⟩
  go_enter Tryd.func39, Tryd.ntmps39
  go_wp2_with (first | (go_at_call 64; ((with_reducible refine (namesB_any _ _).mono ?_); rintro _ _ ⟨rfl, g, rfl⟩)) | (go_at_call 65; ((with_reducible refine (within_v _ _ _ _ _ _ _ _ _ _).mono ?_); rintro _ _ ⟨rfl, g, rfl⟩)) | (go_at_call 65; ((with_reducible refine (within_t _ _ _ _ _ _ _ _ _ _).mono ?_); rintro _ _ ⟨rfl, g, rfl⟩)) | (go_at_call 65; ((with_reducible refine (within_s _ _ _ _ _ _ _ _ _ _).mono ?_); rintro _ _ ⟨rfl, g, rfl⟩)) | (go_at_call 65; ((with_reducible refine (within_a _ _ _ _ _ _ _ _ _ _).mono ?_); rintro _ _ ⟨rfl, g, rfl⟩)) | (go_at_call 65; ((with_reducible refine (within_c _ _ _ _ _ _ _ _ _ _).mono ?_); rintro _ _ ⟨rfl, g, rfl⟩)) | (go_at_call 65; ((with_reducible refine (within_d _ _ _ _ _ _ _ _ _ _).mono ?_); rintro _ _ ⟨rfl, g, rfl⟩)) | (go_at_call 66; ((with_reducible refine (same13_any _ _ _ _ _ _ _ _ _ _ _ _ _ _ _ _ _ _ lx [] _ HX.out List.length_nil hn (h1.gr (gri)) Row.nil).mono ?_); rintro _ _ ⟨rfl, g, rfl⟩)))
  refine wp_loop_rounds 4 ?_
  iterate 4
    rw [rounds_succ]
    go_wp2_with (first | (go_at_call 64; ((with_reducible refine (namesB_any _ _).mono ?_); rintro _ _ ⟨rfl, g, rfl⟩)) | (go_at_call 65; ((with_reducible refine (within_v _ _ _ _ _ _ _ _ _ _).mono ?_); rintro _ _ ⟨rfl, g, rfl⟩)) | (go_at_call 65; ((with_reducible refine (within_t _ _ _ _ _ _ _ _ _ _).mono ?_); rintro _ _ ⟨rfl, g, rfl⟩)) | (go_at_call 65; ((with_reducible refine (within_s _ _ _ _ _ _ _ _ _ _).mono ?_); rintro _ _ ⟨rfl, g, rfl⟩)) | (go_at_call 65; ((with_reducible refine (within_a _ _ _ _ _ _ _ _ _ _).mono ?_); rintro _ _ ⟨rfl, g, rfl⟩)) | (go_at_call 65; ((with_reducible refine (within_c _ _ _ _ _ _ _ _ _ _).mono ?_); rintro _ _ ⟨rfl, g, rfl⟩)) | (go_at_call 65; ((with_reducible refine (within_d _ _ _ _ _ _ _ _ _ _).mono ?_); rintro _ _ ⟨rfl, g, rfl⟩)) | (go_at_call 66; ((with_reducible refine (same13_any _ _ _ _ _ _ _ _ _ _ _ _ _ _ _ _ _ _ lx [] _ HX.out List.length_nil hn (h1.gr (gri)) Row.nil).mono ?_); rintro _ _ ⟨rfl, g, rfl⟩)))
  go_ret
  exact ⟨ret_bool (by simp [sameB, b0, b1, b2, Bool.and_assoc]), gri⟩
set_option maxHeartbeats 2000000 in
theorem mayOp_off (xk xv xt xs xa xc : Int) (xD : Option Addr) (xn xq : Nat) (lx : List UInt8) (w : World) (h : xk < 1 ∨ 9 < xk) : Calls Tryd.prog 39 #[(Value.agg #[.int .i64 xk, .int .u64 xv, .int .u64 xt, .int .i64 xs, .int .i64 xa, .int .i64 xc, .slice xD xn xq])] w fun e w' => e = .returned (.bool (mayOpB xk xv xt xs xa xc xn lx)) ∧ Gr w w' := by
  have en : namesB xk = ⟨#[]⟩ := namesB_off xk (by omega)
  have E0 : mayOpB xk xv xt xs xa xc xn lx = false := by
    unfold mayOpB
    repeat (rw [if_neg (by omega)])
  rw [E0]; clear E0
  rcases h with h | h
  · have h2 : decide (1 ≤ xk) = false := by simpa using h
    go_enter Tryd.func39, Tryd.ntmps39
    go_wp2_with (first | (go_at_call 64; ((with_reducible refine (namesB_any _ _).mono ?_); rintro _ _ ⟨rfl, g, rfl⟩)))
    refine wp_loop_rounds 1 ?_
    rw [rounds_succ]
    go_wp2_with (first | (go_at_call 64; ((with_reducible refine (namesB_any _ _).mono ?_); rintro _ _ ⟨rfl, g, rfl⟩)))
    go_ret
    exact ⟨rfl, gri⟩
  · have h2 : decide (xk ≤ 9) = false := by simpa using h
    have h3 : 1 ≤ xk := by omega
    go_enter Tryd.func39, Tryd.ntmps39
    go_wp2_with (first | (go_at_call 64; ((with_reducible refine (namesB_any _ _).mono ?_); rintro _ _ ⟨rfl, g, rfl⟩)))
    refine wp_loop_rounds 1 ?_
    rw [rounds_succ]
    go_wp2_with (first | (go_at_call 64; ((with_reducible refine (namesB_any _ _).mono ?_); rintro _ _ ⟨rfl, g, rfl⟩)))
    go_ret
    exact ⟨rfl, gri⟩
theorem mayOp_any (xk xv xt xs xa xc : Int) (xD : Option Addr) (xn xq : Nat) (lx : List UInt8) (w : World) (hx : lx.length = xn) (hn : xn ≤ 9223372036854775807) (h1 : Row bv w xD lx) : Calls Tryd.prog 39 #[(Value.agg #[.int .i64 xk, .int .u64 xv, .int .u64 xt, .int .i64 xs, .int .i64 xa, .int .i64 xc, .slice xD xn xq])] w fun e w' => e = .returned (.bool (mayOpB xk xv xt xs xa xc xn lx)) ∧ Gr w w' := by
  by_cases h : xk < 1 ∨ 9 < xk
  · exact mayOp_off xk xv xt xs xa xc xD xn xq lx w h
  · have h3 : xk = 1 ∨ xk = 2 ∨ xk = 3 ∨ xk = 4 ∨ xk = 5 ∨ xk = 6 ∨ xk = 7 ∨ xk = 8 ∨ xk = 9 := by omega
    rcases h3 with rfl | rfl | rfl | rfl | rfl | rfl | rfl | rfl | rfl
    · exact mayOp_1 xv xt xs xa xc xD xn xq lx w hx hn h1
    · exact mayOp_2 xv xt xs xa xc xD xn xq lx w hx hn h1
    · exact mayOp_3 xv xt xs xa xc xD xn xq lx w hx hn h1
    · exact mayOp_4 xv xt xs xa xc xD xn xq lx w hx hn h1
    · exact mayOp_5 xv xt xs xa xc xD xn xq lx w hx hn h1
    · exact mayOp_6 xv xt xs xa xc xD xn xq lx w hx hn h1
    · exact mayOp_7 xv xt xs xa xc xD xn xq lx w hx hn h1
    · exact mayOp_8 xv xt xs xa xc xD xn xq lx w hx hn h1
    · exact mayOp_9 xv xt xs xa xc xD xn xq lx w hx hn h1
end Go.Proofs.YtgjdgafoidppaaaDoor
namespace Go.Proofs.YtgjdgafoidppaaaDoor
open Go.RowKit
set_option linter.unusedVariables false
set_option linter.unusedSimpArgs false
set_option linter.unnecessarySimpa false
def sameActB (xk xn xm xOk xOv xOt xOs xOa xOc yk yn ym yOk yOv yOt yOs yOa yOc : Int) (xf yf : Bool) (lx ly : List UInt8) (px py : List Int) : Bool := xk == yk && xn == yn && xm == ym && sameB xOk xOv xOt xOs xOa xOc yOk yOv yOt yOs yOa yOc lx ly && xf == yf && px == py
set_option maxHeartbeats 4000000 in
theorem sameAct_any (xk xn xm xOk xOv xOt xOs xOa xOc yk yn ym yOk yOv yOt yOs yOa yOc : Int) (xOD yOD xP yP : Option Addr) (xOn xOq yOn yOq xpn xpq ypn ypq : Nat) (xf yf : Bool) (lx ly : List UInt8) (px py : List Int) (w : World) (hx : lx.length = xOn) (hy : ly.length = yOn) (hn : xOn ≤ 9223372036854775807) (h1 : Row bv w xOD lx) (h2 : Row bv w yOD ly) (hpx : px.length = xpn) (hpy : py.length = ypn) (hpn : xpn ≤ 9223372036854775807) (hqn : ypn ≤ 9223372036854775807) (h3 : Row (Value.int .i64) w xP px) (h4 : Row (Value.int .i64) w yP py) :
    Calls Tryd.prog 53 #[(Value.agg #[.int .i64 xk, .int .i64 xn, .int .i64 xm, .int .i64 xOk, .int .u64 xOv, .int .u64 xOt, .int .i64 xOs, .int .i64 xOa, .int .i64 xOc, .slice xOD xOn xOq, .bool xf, .slice xP xpn xpq]), (Value.agg #[.int .i64 yk, .int .i64 yn, .int .i64 ym, .int .i64 yOk, .int .u64 yOv, .int .u64 yOt, .int .i64 yOs, .int .i64 yOa, .int .i64 yOc, .slice yOD yOn yOq, .bool yf, .slice yP ypn ypq])] w fun e w' => e = .returned (.bool (sameActB xk xn xm xOk xOv xOt xOs xOa xOc yk yn ym yOk yOv yOt yOs yOa yOc xf yf lx ly px py)) ∧ Gr w w' := by
  have H1 := Lib.hid h1; clear h1
  have H2 := Lib.hid h2; clear h2
  have H3 := Lib.hid h3; clear h3
  have H4 := Lib.hid h4; clear h4
  have HX := Lib.hid hx; clear hx
  have HY := Lib.hid hy; clear hy
  have HPX := Lib.hid hpx; clear hpx
  have HPY := Lib.hid hpy; clear hpy
  rcases Bool.eq_false_or_eq_true (xk == yk) with k0 | k0
  rotate_left
  · go_enter Tryd.func53, Tryd.ntmps53
    go_wp2
    go_ret
    exact ⟨ret_bool (by simp [sameActB, k0]), gri⟩
  rcases Bool.eq_false_or_eq_true (xn == yn) with k1 | k1
  rotate_left
  · go_enter Tryd.func53, Tryd.ntmps53
    go_wp2
    go_ret
    exact ⟨ret_bool (by simp [sameActB, k1]), gri⟩
  rcases Bool.eq_false_or_eq_true (xm == ym) with k2 | k2
  rotate_left
  · go_enter Tryd.func53, Tryd.ntmps53
    go_wp2
    go_ret
    exact ⟨ret_bool (by simp [sameActB, k2]), gri⟩
  rcases Bool.eq_false_or_eq_true (sameB xOk xOv xOt xOs xOa xOc yOk yOv yOt yOs yOa yOc lx ly) with k3 | k3
  rotate_left
  · go_enter Tryd.func53, Tryd.ntmps53
    go_wp2_with (first | (go_at_call 66; ((with_reducible refine (same13_any _ _ _ _ _ _ _ _ _ _ _ _ _ _ _ _ _ _ lx ly _ HX.out HY.out hn (H1.out.gr (gri)) (H2.out.gr (gri))).mono ?_); rintro _ _ ⟨rfl, g, rfl⟩)))
    go_ret
    exact ⟨ret_bool (by simp [sameActB, k3]), gri⟩
  cases xf <;> cases yf
  all_goals
    go_enter Tryd.func53, Tryd.ntmps53
    go_wp2_with (first | (go_at_call 66; ((with_reducible refine (same13_any _ _ _ _ _ _ _ _ _ _ _ _ _ _ _ _ _ _ lx ly _ HX.out HY.out hn (H1.out.gr (gri)) (H2.out.gr (gri))).mono ?_); rintro _ _ ⟨rfl, g, rfl⟩)) | (go_at_call 76; ((with_reducible refine (equalI_any _ _ _ _ _ _ px py _ HPX.out HPY.out hpn hqn (H3.out.gr (gri)) (H4.out.gr (gri))).mono ?_); rintro _ _ ⟨rfl, g, rfl⟩)))
    go_ret
    exact ⟨ret_bool (by simp [sameActB, k0, k1, k2, k3]), gri⟩
end Go.Proofs.YtgjdgafoidppaaaDoor
namespace Go.Proofs.YtgjdgafoidppaaaDoor
open Go.RowKit
set_option linter.unusedVariables false
set_option linter.unusedSimpArgs false
set_option linter.unnecessarySimpa false
def nodeB (n : Int) : Bool := n == 0 || n == 1
def badP (xs : List Int) : Bool := xs.any fun n => !(mayN n)
def picksB (n : Nat) (xs : List Int) : Bool := decide (n ≤ 100) && !(badP xs)
theorem sameB_refl (a b c d e f : Int) (l : List UInt8) : sameB a b c d e f a b c d e f l l = true := by simp [sameB]
def mayActB (xk xn xm xOk xOv xOt xOs xOa xOc : Int) (xf : Bool) (xOn xpn : Nat) (lx : List UInt8) (px : List Int) : Bool :=
  if xk = 1 then (nodeB xn) && (mayOpB xOk xOv xOt xOs xOa xOc xOn lx) && (xm == 0) && (xf == false) && (px == []) else if xk = 2 then (mayN xm) && (xn == 0) && (sameB xOk xOv xOt xOs xOa xOc 0 0 0 0 0 0 lx []) && (xf == false) && (px == []) else if xk = 3 then (nodeB xn) && (xm == 0) && (sameB xOk xOv xOt xOs xOa xOc 0 0 0 0 0 0 lx []) && (xf == false) && (px == []) else if xk = 4 then (nodeB xn) && (picksB xpn px) && (xm == 0) && (sameB xOk xOv xOt xOs xOa xOc 0 0 0 0 0 0 lx []) && (xf == false) else if xk = 5 then (nodeB xn) && (picksB xpn px) && (xm == 0) && (sameB xOk xOv xOt xOs xOa xOc 0 0 0 0 0 0 lx []) && (xf == false) else if xk = 6 then (nodeB xn) && (mayN xm) && (sameB xOk xOv xOt xOs xOa xOc 0 0 0 0 0 0 lx []) && (xf == false) && (px == []) else if xk = 7 then (nodeB xn) && (xm == 0) && (sameB xOk xOv xOt xOs xOa xOc 0 0 0 0 0 0 lx []) && (px == []) else if xk = 8 then (nodeB xn) && (xm == 0) && (sameB xOk xOv xOt xOs xOa xOc 0 0 0 0 0 0 lx []) && (xf == false) && (px == []) else if xk = 9 then (nodeB xn) && (mayN xm) && (sameB xOk xOv xOt xOs xOa xOc 0 0 0 0 0 0 lx []) && (xf == false) && (px == []) else if xk = 10 then (xn == 0) && (xm == 0) && (sameB xOk xOv xOt xOs xOa xOc 0 0 0 0 0 0 lx []) && (xf == false) && (px == []) else false
end Go.Proofs.YtgjdgafoidppaaaDoor
namespace Go.Proofs.YtgjdgafoidppaaaDoor
open Go.RowKit
set_option linter.unusedVariables false
set_option linter.unusedSimpArgs false
set_option linter.unnecessarySimpa false
set_option maxRecDepth 100000 in
set_option maxHeartbeats 8000000 in
theorem mayAct_1 (xn xm xOk xOv xOt xOs xOa xOc : Int) (xOD xP : Option Addr) (xOn xOq xpn xpq : Nat) (xf : Bool) (lx : List UInt8) (px : List Int) (w : World) (hx : lx.length = xOn) (hn : xOn ≤ 9223372036854775807) (h1 : Row bv w xOD lx) (hpx : px.length = xpn) (hpn : xpn ≤ 9223372036854775807) (h3 : Row (Value.int .i64) w xP px) : Calls Tryd.prog 22 #[(Value.agg #[.int .i64 1, .int .i64 xn, .int .i64 xm, .int .i64 xOk, .int .u64 xOv, .int .u64 xOt, .int .i64 xOs, .int .i64 xOa, .int .i64 xOc, .slice xOD xOn xOq, .bool xf, .slice xP xpn xpq])] w fun e w' => e = .returned (.bool (mayActB 1 xn xm xOk xOv xOt xOs xOa xOc xf xOn xpn lx px)) ∧ Gr w w' := by
  have H1 := Lib.hid h1; clear h1
  have H3 := Lib.hid h3; clear h3
  have HX := Lib.hid hx; clear hx
  have HPX := Lib.hid hpx; clear hpx
  have en : actPartsB 1 = ⟨#[100, 111]⟩ := rfl
  have E0 : mayActB 1 xn xm xOk xOv xOt xOs xOa xOc xf xOn xpn lx px = ((nodeB xn) && (mayOpB xOk xOv xOt xOs xOa xOc xOn lx) && (xm == 0) && (xf == false) && (px == [])) := rfl
  rw [E0]; clear E0
  have HM := Lib.hid (fun W => (may26_any xm W).mono (R' := fun e w' => e = .returned (.bool (mayN xm)) ∧ W = w') fun _ _ h => h)
  have HB := Lib.hid (fun W (h : Row (Value.int .i64) W xP px) => (containsI_any xP xpn xpq px W HPX.out hpn h).mono (R' := fun e w' => e = .returned (.bool (badP px)) ∧ Gr W w') fun _ _ h => h)
  cases xf
  all_goals
    rcases Bool.eq_false_or_eq_true (xn == 0) with z0 | z0
    · have q0 : nodeB xn = true := by simp [nodeB, z0]
      rcases Bool.eq_false_or_eq_true (mayOpB xOk xOv xOt xOs xOa xOc xOn lx) with q1 | q1
      · go_enter Tryd.func22, Tryd.ntmps22
        go_wp2_with (first | (go_at_call 49; ((with_reducible refine (actPartsB_any _ _).mono ?_); rintro _ _ ⟨rfl, g, rfl⟩)) | (go_at_call 50; ((with_reducible refine (HM.out _).mono ?_); rintro _ _ ⟨rfl, rfl⟩)) | (go_at_call 39; ((with_reducible refine (mayOp_any _ _ _ _ _ _ _ _ _ lx _ HX.out hn (H1.out.gr (gri))).mono ?_); rintro _ _ ⟨rfl, g, rfl⟩)) | (go_at_call 51; ((with_reducible refine (HB.out _ (H3.out.gr (gri))).mono ?_); rintro _ _ ⟨rfl, g, rfl⟩)) | (go_at_call 53; ((with_reducible refine (sameAct_any _ _ _ _ _ _ _ _ _ _ _ _ _ _ _ _ _ _ _ _ _ _ _ _ _ _ _ _ _ _ _ _ lx lx px [] _ HX.out HX.out hn (H1.out.gr (gri)) (H1.out.gr (gri)) HPX.out List.length_nil hpn (by omega) (H3.out.gr (gri)) Row.nil).mono ?_); rintro _ _ ⟨rfl, g, rfl⟩)))
        refine wp_loop_rounds 3 ?_
        iterate 3
          rw [rounds_succ]
          go_wp2_with (first | (go_at_call 49; ((with_reducible refine (actPartsB_any _ _).mono ?_); rintro _ _ ⟨rfl, g, rfl⟩)) | (go_at_call 50; ((with_reducible refine (HM.out _).mono ?_); rintro _ _ ⟨rfl, rfl⟩)) | (go_at_call 39; ((with_reducible refine (mayOp_any _ _ _ _ _ _ _ _ _ lx _ HX.out hn (H1.out.gr (gri))).mono ?_); rintro _ _ ⟨rfl, g, rfl⟩)) | (go_at_call 51; ((with_reducible refine (HB.out _ (H3.out.gr (gri))).mono ?_); rintro _ _ ⟨rfl, g, rfl⟩)) | (go_at_call 53; ((with_reducible refine (sameAct_any _ _ _ _ _ _ _ _ _ _ _ _ _ _ _ _ _ _ _ _ _ _ _ _ _ _ _ _ _ _ _ _ lx lx px [] _ HX.out HX.out hn (H1.out.gr (gri)) (H1.out.gr (gri)) HPX.out List.length_nil hpn (by omega) (H3.out.gr (gri)) Row.nil).mono ?_); rintro _ _ ⟨rfl, g, rfl⟩)))
        go_ret
        exact ⟨ret_bool (by simp [sameActB, q0, q1, sameB_refl, Bool.and_assoc]), gri⟩
      · go_enter Tryd.func22, Tryd.ntmps22
        go_wp2_with (first | (go_at_call 49; ((with_reducible refine (actPartsB_any _ _).mono ?_); rintro _ _ ⟨rfl, g, rfl⟩)) | (go_at_call 50; ((with_reducible refine (HM.out _).mono ?_); rintro _ _ ⟨rfl, rfl⟩)) | (go_at_call 39; ((with_reducible refine (mayOp_any _ _ _ _ _ _ _ _ _ lx _ HX.out hn (H1.out.gr (gri))).mono ?_); rintro _ _ ⟨rfl, g, rfl⟩)) | (go_at_call 51; ((with_reducible refine (HB.out _ (H3.out.gr (gri))).mono ?_); rintro _ _ ⟨rfl, g, rfl⟩)) | (go_at_call 53; ((with_reducible refine (sameAct_any _ _ _ _ _ _ _ _ _ _ _ _ _ _ _ _ _ _ _ _ _ _ _ _ _ _ _ _ _ _ _ _ lx lx px [] _ HX.out HX.out hn (H1.out.gr (gri)) (H1.out.gr (gri)) HPX.out List.length_nil hpn (by omega) (H3.out.gr (gri)) Row.nil).mono ?_); rintro _ _ ⟨rfl, g, rfl⟩)))
        refine wp_loop_rounds 3 ?_
        iterate 3
          rw [rounds_succ]
          go_wp2_with (first | (go_at_call 49; ((with_reducible refine (actPartsB_any _ _).mono ?_); rintro _ _ ⟨rfl, g, rfl⟩)) | (go_at_call 50; ((with_reducible refine (HM.out _).mono ?_); rintro _ _ ⟨rfl, rfl⟩)) | (go_at_call 39; ((with_reducible refine (mayOp_any _ _ _ _ _ _ _ _ _ lx _ HX.out hn (H1.out.gr (gri))).mono ?_); rintro _ _ ⟨rfl, g, rfl⟩)) | (go_at_call 51; ((with_reducible refine (HB.out _ (H3.out.gr (gri))).mono ?_); rintro _ _ ⟨rfl, g, rfl⟩)) | (go_at_call 53; ((with_reducible refine (sameAct_any _ _ _ _ _ _ _ _ _ _ _ _ _ _ _ _ _ _ _ _ _ _ _ _ _ _ _ _ _ _ _ _ lx lx px [] _ HX.out HX.out hn (H1.out.gr (gri)) (H1.out.gr (gri)) HPX.out List.length_nil hpn (by omega) (H3.out.gr (gri)) Row.nil).mono ?_); rintro _ _ ⟨rfl, g, rfl⟩)))
        go_ret
        exact ⟨ret_bool (by simp [sameActB, q0, q1, sameB_refl, Bool.and_assoc]), gri⟩
    · rcases Bool.eq_false_or_eq_true (xn == 1) with z1 | z1
      · have q0 : nodeB xn = true := by simp [nodeB, z0, z1]
        rcases Bool.eq_false_or_eq_true (mayOpB xOk xOv xOt xOs xOa xOc xOn lx) with q1 | q1
        · go_enter Tryd.func22, Tryd.ntmps22
          go_wp2_with (first | (go_at_call 49; ((with_reducible refine (actPartsB_any _ _).mono ?_); rintro _ _ ⟨rfl, g, rfl⟩)) | (go_at_call 50; ((with_reducible refine (HM.out _).mono ?_); rintro _ _ ⟨rfl, rfl⟩)) | (go_at_call 39; ((with_reducible refine (mayOp_any _ _ _ _ _ _ _ _ _ lx _ HX.out hn (H1.out.gr (gri))).mono ?_); rintro _ _ ⟨rfl, g, rfl⟩)) | (go_at_call 51; ((with_reducible refine (HB.out _ (H3.out.gr (gri))).mono ?_); rintro _ _ ⟨rfl, g, rfl⟩)) | (go_at_call 53; ((with_reducible refine (sameAct_any _ _ _ _ _ _ _ _ _ _ _ _ _ _ _ _ _ _ _ _ _ _ _ _ _ _ _ _ _ _ _ _ lx lx px [] _ HX.out HX.out hn (H1.out.gr (gri)) (H1.out.gr (gri)) HPX.out List.length_nil hpn (by omega) (H3.out.gr (gri)) Row.nil).mono ?_); rintro _ _ ⟨rfl, g, rfl⟩)))
          refine wp_loop_rounds 3 ?_
          iterate 3
            rw [rounds_succ]
            go_wp2_with (first | (go_at_call 49; ((with_reducible refine (actPartsB_any _ _).mono ?_); rintro _ _ ⟨rfl, g, rfl⟩)) | (go_at_call 50; ((with_reducible refine (HM.out _).mono ?_); rintro _ _ ⟨rfl, rfl⟩)) | (go_at_call 39; ((with_reducible refine (mayOp_any _ _ _ _ _ _ _ _ _ lx _ HX.out hn (H1.out.gr (gri))).mono ?_); rintro _ _ ⟨rfl, g, rfl⟩)) | (go_at_call 51; ((with_reducible refine (HB.out _ (H3.out.gr (gri))).mono ?_); rintro _ _ ⟨rfl, g, rfl⟩)) | (go_at_call 53; ((with_reducible refine (sameAct_any _ _ _ _ _ _ _ _ _ _ _ _ _ _ _ _ _ _ _ _ _ _ _ _ _ _ _ _ _ _ _ _ lx lx px [] _ HX.out HX.out hn (H1.out.gr (gri)) (H1.out.gr (gri)) HPX.out List.length_nil hpn (by omega) (H3.out.gr (gri)) Row.nil).mono ?_); rintro _ _ ⟨rfl, g, rfl⟩)))
          go_ret
          exact ⟨ret_bool (by simp [sameActB, q0, q1, sameB_refl, Bool.and_assoc]), gri⟩
        · go_enter Tryd.func22, Tryd.ntmps22
          go_wp2_with (first | (go_at_call 49; ((with_reducible refine (actPartsB_any _ _).mono ?_); rintro _ _ ⟨rfl, g, rfl⟩)) | (go_at_call 50; ((with_reducible refine (HM.out _).mono ?_); rintro _ _ ⟨rfl, rfl⟩)) | (go_at_call 39; ((with_reducible refine (mayOp_any _ _ _ _ _ _ _ _ _ lx _ HX.out hn (H1.out.gr (gri))).mono ?_); rintro _ _ ⟨rfl, g, rfl⟩)) | (go_at_call 51; ((with_reducible refine (HB.out _ (H3.out.gr (gri))).mono ?_); rintro _ _ ⟨rfl, g, rfl⟩)) | (go_at_call 53; ((with_reducible refine (sameAct_any _ _ _ _ _ _ _ _ _ _ _ _ _ _ _ _ _ _ _ _ _ _ _ _ _ _ _ _ _ _ _ _ lx lx px [] _ HX.out HX.out hn (H1.out.gr (gri)) (H1.out.gr (gri)) HPX.out List.length_nil hpn (by omega) (H3.out.gr (gri)) Row.nil).mono ?_); rintro _ _ ⟨rfl, g, rfl⟩)))
          refine wp_loop_rounds 3 ?_
          iterate 3
            rw [rounds_succ]
            go_wp2_with (first | (go_at_call 49; ((with_reducible refine (actPartsB_any _ _).mono ?_); rintro _ _ ⟨rfl, g, rfl⟩)) | (go_at_call 50; ((with_reducible refine (HM.out _).mono ?_); rintro _ _ ⟨rfl, rfl⟩)) | (go_at_call 39; ((with_reducible refine (mayOp_any _ _ _ _ _ _ _ _ _ lx _ HX.out hn (H1.out.gr (gri))).mono ?_); rintro _ _ ⟨rfl, g, rfl⟩)) | (go_at_call 51; ((with_reducible refine (HB.out _ (H3.out.gr (gri))).mono ?_); rintro _ _ ⟨rfl, g, rfl⟩)) | (go_at_call 53; ((with_reducible refine (sameAct_any _ _ _ _ _ _ _ _ _ _ _ _ _ _ _ _ _ _ _ _ _ _ _ _ _ _ _ _ _ _ _ _ lx lx px [] _ HX.out HX.out hn (H1.out.gr (gri)) (H1.out.gr (gri)) HPX.out List.length_nil hpn (by omega) (H3.out.gr (gri)) Row.nil).mono ?_); rintro _ _ ⟨rfl, g, rfl⟩)))
          go_ret
          exact ⟨ret_bool (by simp [sameActB, q0, q1, sameB_refl, Bool.and_assoc]), gri⟩
      · have q0 : nodeB xn = false := by simp [nodeB, z0, z1]
        go_enter Tryd.func22, Tryd.ntmps22
        go_wp2_with (first | (go_at_call 49; ((with_reducible refine (actPartsB_any _ _).mono ?_); rintro _ _ ⟨rfl, g, rfl⟩)) | (go_at_call 50; ((with_reducible refine (HM.out _).mono ?_); rintro _ _ ⟨rfl, rfl⟩)) | (go_at_call 39; ((with_reducible refine (mayOp_any _ _ _ _ _ _ _ _ _ lx _ HX.out hn (H1.out.gr (gri))).mono ?_); rintro _ _ ⟨rfl, g, rfl⟩)) | (go_at_call 51; ((with_reducible refine (HB.out _ (H3.out.gr (gri))).mono ?_); rintro _ _ ⟨rfl, g, rfl⟩)) | (go_at_call 53; ((with_reducible refine (sameAct_any _ _ _ _ _ _ _ _ _ _ _ _ _ _ _ _ _ _ _ _ _ _ _ _ _ _ _ _ _ _ _ _ lx lx px [] _ HX.out HX.out hn (H1.out.gr (gri)) (H1.out.gr (gri)) HPX.out List.length_nil hpn (by omega) (H3.out.gr (gri)) Row.nil).mono ?_); rintro _ _ ⟨rfl, g, rfl⟩)))
        refine wp_loop_rounds 3 ?_
        iterate 3
          rw [rounds_succ]
          go_wp2_with (first | (go_at_call 49; ((with_reducible refine (actPartsB_any _ _).mono ?_); rintro _ _ ⟨rfl, g, rfl⟩)) | (go_at_call 50; ((with_reducible refine (HM.out _).mono ?_); rintro _ _ ⟨rfl, rfl⟩)) | (go_at_call 39; ((with_reducible refine (mayOp_any _ _ _ _ _ _ _ _ _ lx _ HX.out hn (H1.out.gr (gri))).mono ?_); rintro _ _ ⟨rfl, g, rfl⟩)) | (go_at_call 51; ((with_reducible refine (HB.out _ (H3.out.gr (gri))).mono ?_); rintro _ _ ⟨rfl, g, rfl⟩)) | (go_at_call 53; ((with_reducible refine (sameAct_any _ _ _ _ _ _ _ _ _ _ _ _ _ _ _ _ _ _ _ _ _ _ _ _ _ _ _ _ _ _ _ _ lx lx px [] _ HX.out HX.out hn (H1.out.gr (gri)) (H1.out.gr (gri)) HPX.out List.length_nil hpn (by omega) (H3.out.gr (gri)) Row.nil).mono ?_); rintro _ _ ⟨rfl, g, rfl⟩)))
        go_ret
        exact ⟨ret_bool (by simp [sameActB, q0, sameB_refl, Bool.and_assoc]), gri⟩
end Go.Proofs.YtgjdgafoidppaaaDoor
