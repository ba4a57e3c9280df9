/- command.May. Conditions: what is read stands in memory. Devices, plainly: what an operation does, and why it is refused. Conditions: none. The reference's device, plainly: what its loops come to. Conditions: none. A variable of many cells, written and read whole. Conditions: none. Device.Block: a block, and is it mapped. Conditions: the device stands in memory. -/
import Derived.Test.YtipeblmgochdfaaGreatS01
import Derived.Deep.MidRow
import Derived.Laws.Tables
namespace Go.Proofs.YtipeblmgochdfaaGreat
open Go.RowKit
set_option linter.unusedVariables false
set_option linter.unusedSimpArgs false
set_option linter.unnecessarySimpa false
def mayOpB (xk xv xt xs xa xc : Int) (xn : Nat) (lx : List UInt8) : Bool :=
 if xk = 1 then wVol xv && wSize xs && (xt == 0) && (xa == 0) && (xc == 0) && (lx == []) else if xk = 2 then wVol xv && (xt == 0) && (xs == 0) && (xa == 0) && (xc == 0) && (lx == []) else if xk = 3 then wVol xv && wSize xs && (xt == 0) && (xa == 0) && (xc == 0) && (lx == []) else if xk = 4 then wVol xv && wTo xt xv && (xs == 0) && (xa == 0) && (xc == 0) && (lx == []) else if xk = 5 then wVol xv && wAt xa && wData xn && (xt == 0) && (xs == 0) && (xc == 0) else if xk = 6 then wVol xv && wAt xa && wCount xc && (xt == 0) && (xs == 0) && (lx == []) else if xk = 7 then wVol xv && wAt xa && wCount xc && (xt == 0) && (xs == 0) && (lx == []) else if xk = 8 then (xv == 0) && (xt == 0) && (xs == 0) && (xa == 0) && (xc == 0) && (lx == []) else if xk = 9 then wVol xv && wAt xa && wCount xc && (xt == 0) && (xs == 0) && (lx == []) else false
set_option maxHeartbeats 2000000 in
theorem mayOp_1 (xv xt xs xa xc : Int) (xD : Option Addr) (xn xq : Nat) (lx : List UInt8) (w : World) (hx : lx.length = xn) (hn : xn ≤ 9223372036854775807) (h1 : Row bv w xD lx) : Calls Tryz.prog 59 #[(Value.agg #[.int .i64 1, .int .u64 xv, .int .u64 xt, .int .i64 xs, .int .i64 xa, .int .i64 xc, .slice xD xn xq])] w fun e w' => e = .returned (.bool (mayOpB 1 xv xt xs xa xc xn lx)) ∧ Gr w w' := by
 have HX := Lib.hid hx; clear hx
 have en : namesB 1 = ⟨#[118, 115]⟩ := rfl
 have E0 : mayOpB 1 xv xt xs xa xc xn lx = (wVol xv && wSize xs && (xt == 0) && (xa == 0) && (xc == 0) && (lx == [])) := rfl
 rw [E0]; clear E0
 rcases Bool.eq_false_or_eq_true (wVol xv) with b0 | b0
 rotate_left
 ·go_enter Tryz.func59, Tryz.ntmps59
  iterate 2
   try first | rw [rounds_succ] | (refine wp_loop_rounds 1 ?_; rw [rounds_succ])
   go_wp2_with (((first | (go_at_call 78; with_reducible refine (namesB_any _ _).mono ?_) | (go_at_call 79; with_reducible refine (within_v _ _ _ _ _ _ _ _ _ _).mono ?_) | (go_at_call 79; with_reducible refine (within_s _ _ _ _ _ _ _ _ _ _).mono ?_) | (go_at_call 80; with_reducible refine (same13_any _ _ _ _ _ _ _ _ _ _ _ _ _ _ _ _ _ _ lx [] _ HX.out List.length_nil hn (h1.gr (gri)) Row.nil).mono ?_)); rintro _ _ ⟨rfl, g, rfl⟩))
  go_ret
  exact ⟨ret_bool (by simp [b0]), gri⟩
 rcases Bool.eq_false_or_eq_true (wSize xs) with b1 | b1
 rotate_left
 ·go_enter Tryz.func59, Tryz.ntmps59
  iterate 3
   try first | rw [rounds_succ] | (refine wp_loop_rounds 2 ?_; rw [rounds_succ])
   go_wp2_with (((first | (go_at_call 78; with_reducible refine (namesB_any _ _).mono ?_) | (go_at_call 79; with_reducible refine (within_v _ _ _ _ _ _ _ _ _ _).mono ?_) | (go_at_call 79; with_reducible refine (within_s _ _ _ _ _ _ _ _ _ _).mono ?_) | (go_at_call 80; with_reducible refine (same13_any _ _ _ _ _ _ _ _ _ _ _ _ _ _ _ _ _ _ lx [] _ HX.out List.length_nil hn (h1.gr (gri)) Row.nil).mono ?_)); rintro _ _ ⟨rfl, g, rfl⟩))
  go_ret
  exact ⟨ret_bool (by simp [b0, b1]), gri⟩
 go_enter Tryz.func59, Tryz.ntmps59
 iterate 4
  try first | rw [rounds_succ] | (refine wp_loop_rounds 3 ?_; rw [rounds_succ])
  go_wp2_with (((first | (go_at_call 78; with_reducible refine (namesB_any _ _).mono ?_) | (go_at_call 79; with_reducible refine (within_v _ _ _ _ _ _ _ _ _ _).mono ?_) | (go_at_call 79; with_reducible refine (within_s _ _ _ _ _ _ _ _ _ _).mono ?_) | (go_at_call 80; with_reducible refine (same13_any _ _ _ _ _ _ _ _ _ _ _ _ _ _ _ _ _ _ lx [] _ HX.out List.length_nil hn (h1.gr (gri)) Row.nil).mono ?_)); rintro _ _ ⟨rfl, g, rfl⟩))
 go_ret
 exact ⟨ret_bool (by simp [sameB, b0, b1, Bool.and_assoc]), gri⟩
set_option maxHeartbeats 2000000 in
theorem mayOp_2 (xv xt xs xa xc : Int) (xD : Option Addr) (xn xq : Nat) (lx : List UInt8) (w : World) (hx : lx.length = xn) (hn : xn ≤ 9223372036854775807) (h1 : Row bv w xD lx) : Calls Tryz.prog 59 #[(Value.agg #[.int .i64 2, .int .u64 xv, .int .u64 xt, .int .i64 xs, .int .i64 xa, .int .i64 xc, .slice xD xn xq])] w fun e w' => e = .returned (.bool (mayOpB 2 xv xt xs xa xc xn lx)) ∧ Gr w w' := by
 have HX := Lib.hid hx; clear hx
 have en : namesB 2 = ⟨#[118]⟩ := rfl
 have E0 : mayOpB 2 xv xt xs xa xc xn lx = (wVol xv && (xt == 0) && (xs == 0) && (xa == 0) && (xc == 0) && (lx == [])) := rfl
 rw [E0]; clear E0
 rcases Bool.eq_false_or_eq_true (wVol xv) with b0 | b0
 rotate_left
 ·go_enter Tryz.func59, Tryz.ntmps59
  iterate 2
   try first | rw [rounds_succ] | (refine wp_loop_rounds 1 ?_; rw [rounds_succ])
   go_wp2_with (((first | (go_at_call 78; with_reducible refine (namesB_any _ _).mono ?_) | (go_at_call 79; with_reducible refine (within_v _ _ _ _ _ _ _ _ _ _).mono ?_) | (go_at_call 80; with_reducible refine (same13_any _ _ _ _ _ _ _ _ _ _ _ _ _ _ _ _ _ _ lx [] _ HX.out List.length_nil hn (h1.gr (gri)) Row.nil).mono ?_)); rintro _ _ ⟨rfl, g, rfl⟩))
  go_ret
  exact ⟨ret_bool (by simp [b0]), gri⟩
 go_enter Tryz.func59, Tryz.ntmps59
 iterate 3
  try first | rw [rounds_succ] | (refine wp_loop_rounds 2 ?_; rw [rounds_succ])
  go_wp2_with (((first | (go_at_call 78; with_reducible refine (namesB_any _ _).mono ?_) | (go_at_call 79; with_reducible refine (within_v _ _ _ _ _ _ _ _ _ _).mono ?_) | (go_at_call 80; with_reducible refine (same13_any _ _ _ _ _ _ _ _ _ _ _ _ _ _ _ _ _ _ lx [] _ HX.out List.length_nil hn (h1.gr (gri)) Row.nil).mono ?_)); rintro _ _ ⟨rfl, g, rfl⟩))
 go_ret
 exact ⟨ret_bool (by simp [sameB, b0, Bool.and_assoc]), gri⟩
set_option maxHeartbeats 2000000 in
theorem mayOp_3 (xv xt xs xa xc : Int) (xD : Option Addr) (xn xq : Nat) (lx : List UInt8) (w : World) (hx : lx.length = xn) (hn : xn ≤ 9223372036854775807) (h1 : Row bv w xD lx) : Calls Tryz.prog 59 #[(Value.agg #[.int .i64 3, .int .u64 xv, .int .u64 xt, .int .i64 xs, .int .i64 xa, .int .i64 xc, .slice xD xn xq])] w fun e w' => e = .returned (.bool (mayOpB 3 xv xt xs xa xc xn lx)) ∧ Gr w w' := by
 have HX := Lib.hid hx; clear hx
 have en : namesB 3 = ⟨#[118, 115]⟩ := rfl
 have E0 : mayOpB 3 xv xt xs xa xc xn lx = (wVol xv && wSize xs && (xt == 0) && (xa == 0) && (xc == 0) && (lx == [])) := rfl
 rw [E0]; clear E0
 rcases Bool.eq_false_or_eq_true (wVol xv) with b0 | b0
 rotate_left
 ·go_enter Tryz.func59, Tryz.ntmps59
  iterate 2
   try first | rw [rounds_succ] | (refine wp_loop_rounds 1 ?_; rw [rounds_succ])
   go_wp2_with (((first | (go_at_call 78; with_reducible refine (namesB_any _ _).mono ?_) | (go_at_call 79; with_reducible refine (within_v _ _ _ _ _ _ _ _ _ _).mono ?_) | (go_at_call 79; with_reducible refine (within_s _ _ _ _ _ _ _ _ _ _).mono ?_) | (go_at_call 80; with_reducible refine (same13_any _ _ _ _ _ _ _ _ _ _ _ _ _ _ _ _ _ _ lx [] _ HX.out List.length_nil hn (h1.gr (gri)) Row.nil).mono ?_)); rintro _ _ ⟨rfl, g, rfl⟩))
  go_ret
  exact ⟨ret_bool (by simp [b0]), gri⟩
 rcases Bool.eq_false_or_eq_true (wSize xs) with b1 | b1
 rotate_left
 ·go_enter Tryz.func59, Tryz.ntmps59
  iterate 3
   try first | rw [rounds_succ] | (refine wp_loop_rounds 2 ?_; rw [rounds_succ])
   go_wp2_with (((first | (go_at_call 78; with_reducible refine (namesB_any _ _).mono ?_) | (go_at_call 79; with_reducible refine (within_v _ _ _ _ _ _ _ _ _ _).mono ?_) | (go_at_call 79; with_reducible refine (within_s _ _ _ _ _ _ _ _ _ _).mono ?_) | (go_at_call 80; with_reducible refine (same13_any _ _ _ _ _ _ _ _ _ _ _ _ _ _ _ _ _ _ lx [] _ HX.out List.length_nil hn (h1.gr (gri)) Row.nil).mono ?_)); rintro _ _ ⟨rfl, g, rfl⟩))
  go_ret
  exact ⟨ret_bool (by simp [b0, b1]), gri⟩
 go_enter Tryz.func59, Tryz.ntmps59
 iterate 4
  try first | rw [rounds_succ] | (refine wp_loop_rounds 3 ?_; rw [rounds_succ])
  go_wp2_with (((first | (go_at_call 78; with_reducible refine (namesB_any _ _).mono ?_) | (go_at_call 79; with_reducible refine (within_v _ _ _ _ _ _ _ _ _ _).mono ?_) | (go_at_call 79; with_reducible refine (within_s _ _ _ _ _ _ _ _ _ _).mono ?_) | (go_at_call 80; with_reducible refine (same13_any _ _ _ _ _ _ _ _ _ _ _ _ _ _ _ _ _ _ lx [] _ HX.out List.length_nil hn (h1.gr (gri)) Row.nil).mono ?_)); rintro _ _ ⟨rfl, g, rfl⟩))
 go_ret
 exact ⟨ret_bool (by simp [sameB, b0, b1, Bool.and_assoc]), gri⟩
set_option maxHeartbeats 2000000 in
theorem mayOp_4 (xv xt xs xa xc : Int) (xD : Option Addr) (xn xq : Nat) (lx : List UInt8) (w : World) (hx : lx.length = xn) (hn : xn ≤ 9223372036854775807) (h1 : Row bv w xD lx) : Calls Tryz.prog 59 #[(Value.agg #[.int .i64 4, .int .u64 xv, .int .u64 xt, .int .i64 xs, .int .i64 xa, .int .i64 xc, .slice xD xn xq])] w fun e w' => e = .returned (.bool (mayOpB 4 xv xt xs xa xc xn lx)) ∧ Gr w w' := by
 have HX := Lib.hid hx; clear hx
 have en : namesB 4 = ⟨#[118, 116]⟩ := rfl
 have E0 : mayOpB 4 xv xt xs xa xc xn lx = (wVol xv && wTo xt xv && (xs == 0) && (xa == 0) && (xc == 0) && (lx == [])) := rfl
 rw [E0]; clear E0
 rcases Bool.eq_false_or_eq_true (wVol xv) with b0 | b0
 rotate_left
 ·go_enter Tryz.func59, Tryz.ntmps59
  iterate 2
   try first | rw [rounds_succ] | (refine wp_loop_rounds 1 ?_; rw [rounds_succ])
   go_wp2_with (((first | (go_at_call 78; with_reducible refine (namesB_any _ _).mono ?_) | (go_at_call 79; with_reducible refine (within_v _ _ _ _ _ _ _ _ _ _).mono ?_) | (go_at_call 79; with_reducible refine (within_t _ _ _ _ _ _ _ _ _ _).mono ?_) | (go_at_call 80; with_reducible refine (same13_any _ _ _ _ _ _ _ _ _ _ _ _ _ _ _ _ _ _ lx [] _ HX.out List.length_nil hn (h1.gr (gri)) Row.nil).mono ?_)); rintro _ _ ⟨rfl, g, rfl⟩))
  go_ret
  exact ⟨ret_bool (by simp [b0]), gri⟩
 rcases Bool.eq_false_or_eq_true (wTo xt xv) with b1 | b1
 rotate_left
 ·go_enter Tryz.func59, Tryz.ntmps59
  iterate 3
   try first | rw [rounds_succ] | (refine wp_loop_rounds 2 ?_; rw [rounds_succ])
   go_wp2_with (((first | (go_at_call 78; with_reducible refine (namesB_any _ _).mono ?_) | (go_at_call 79; with_reducible refine (within_v _ _ _ _ _ _ _ _ _ _).mono ?_) | (go_at_call 79; with_reducible refine (within_t _ _ _ _ _ _ _ _ _ _).mono ?_) | (go_at_call 80; with_reducible refine (same13_any _ _ _ _ _ _ _ _ _ _ _ _ _ _ _ _ _ _ lx [] _ HX.out List.length_nil hn (h1.gr (gri)) Row.nil).mono ?_)); rintro _ _ ⟨rfl, g, rfl⟩))
  go_ret
  exact ⟨ret_bool (by simp [b0, b1]), gri⟩
 go_enter Tryz.func59, Tryz.ntmps59
 iterate 4
  try first | rw [rounds_succ] | (refine wp_loop_rounds 3 ?_; rw [rounds_succ])
  go_wp2_with (((first | (go_at_call 78; with_reducible refine (namesB_any _ _).mono ?_) | (go_at_call 79; with_reducible refine (within_v _ _ _ _ _ _ _ _ _ _).mono ?_) | (go_at_call 79; with_reducible refine (within_t _ _ _ _ _ _ _ _ _ _).mono ?_) | (go_at_call 80; with_reducible refine (same13_any _ _ _ _ _ _ _ _ _ _ _ _ _ _ _ _ _ _ lx [] _ HX.out List.length_nil hn (h1.gr (gri)) Row.nil).mono ?_)); rintro _ _ ⟨rfl, g, rfl⟩))
 go_ret
 exact ⟨ret_bool (by simp [sameB, b0, b1, Bool.and_assoc]), gri⟩
set_option maxHeartbeats 2000000 in
theorem mayOp_5 (xv xt xs xa xc : Int) (xD : Option Addr) (xn xq : Nat) (lx : List UInt8) (w : World) (hx : lx.length = xn) (hn : xn ≤ 9223372036854775807) (h1 : Row bv w xD lx) : Calls Tryz.prog 59 #[(Value.agg #[.int .i64 5, .int .u64 xv, .int .u64 xt, .int .i64 xs, .int .i64 xa, .int .i64 xc, .slice xD xn xq])] w fun e w' => e = .returned (.bool (mayOpB 5 xv xt xs xa xc xn lx)) ∧ Gr w w' := by
 have HX := Lib.hid hx; clear hx
 have en : namesB 5 = ⟨#[118, 97, 100]⟩ := rfl
 have E0 : mayOpB 5 xv xt xs xa xc xn lx = (wVol xv && wAt xa && wData xn && (xt == 0) && (xs == 0) && (xc == 0)) := rfl
 rw [E0]; clear E0
 rcases Bool.eq_false_or_eq_true (wVol xv) with b0 | b0
 rotate_left
 ·go_enter Tryz.func59, Tryz.ntmps59
  iterate 2
   try first | rw [rounds_succ] | (refine wp_loop_rounds 1 ?_; rw [rounds_succ])
   go_wp2_with (((first | (go_at_call 78; with_reducible refine (namesB_any _ _).mono ?_) | (go_at_call 79; with_reducible refine (within_v _ _ _ _ _ _ _ _ _ _).mono ?_) | (go_at_call 79; with_reducible refine (within_a _ _ _ _ _ _ _ _ _ _).mono ?_) | (go_at_call 79; with_reducible refine (within_d _ _ _ _ _ _ _ _ _ _).mono ?_) | (go_at_call 80; with_reducible refine (same13_any _ _ _ _ _ _ _ _ _ _ _ _ _ _ _ _ _ _ lx lx _ HX.out HX.out hn (h1.gr (gri)) (h1.gr (gri))).mono ?_)); rintro _ _ ⟨rfl, g, rfl⟩))
  go_ret
  exact ⟨ret_bool (by simp [b0]), gri⟩
 rcases Bool.eq_false_or_eq_true (wAt xa) with b1 | b1
 rotate_left
 ·go_enter Tryz.func59, Tryz.ntmps59
  iterate 3
   try first | rw [rounds_succ] | (refine wp_loop_rounds 2 ?_; rw [rounds_succ])
   go_wp2_with (((first | (go_at_call 78; with_reducible refine (namesB_any _ _).mono ?_) | (go_at_call 79; with_reducible refine (within_v _ _ _ _ _ _ _ _ _ _).mono ?_) | (go_at_call 79; with_reducible refine (within_a _ _ _ _ _ _ _ _ _ _).mono ?_) | (go_at_call 79; with_reducible refine (within_d _ _ _ _ _ _ _ _ _ _).mono ?_) | (go_at_call 80; with_reducible refine (same13_any _ _ _ _ _ _ _ _ _ _ _ _ _ _ _ _ _ _ lx lx _ HX.out HX.out hn (h1.gr (gri)) (h1.gr (gri))).mono ?_)); rintro _ _ ⟨rfl, g, rfl⟩))
  go_ret
  exact ⟨ret_bool (by simp [b0, b1]), gri⟩
 rcases Bool.eq_false_or_eq_true (wData xn) with b2 | b2
 rotate_left
 ·go_enter Tryz.func59, Tryz.ntmps59
  iterate 4
   try first | rw [rounds_succ] | (refine wp_loop_rounds 3 ?_; rw [rounds_succ])
   go_wp2_with (((first | (go_at_call 78; with_reducible refine (namesB_any _ _).mono ?_) | (go_at_call 79; with_reducible refine (within_v _ _ _ _ _ _ _ _ _ _).mono ?_) | (go_at_call 79; with_reducible refine (within_a _ _ _ _ _ _ _ _ _ _).mono ?_) | (go_at_call 79; with_reducible refine (within_d _ _ _ _ _ _ _ _ _ _).mono ?_) | (go_at_call 80; with_reducible refine (same13_any _ _ _ _ _ _ _ _ _ _ _ _ _ _ _ _ _ _ lx lx _ HX.out HX.out hn (h1.gr (gri)) (h1.gr (gri))).mono ?_)); rintro _ _ ⟨rfl, g, rfl⟩))
  go_ret
  exact ⟨ret_bool (by simp [b0, b1, b2]), gri⟩
 go_enter Tryz.func59, Tryz.ntmps59
 iterate 5
  try first | rw [rounds_succ] | (refine wp_loop_rounds 4 ?_; rw [rounds_succ])
  go_wp2_with (((first | (go_at_call 78; with_reducible refine (namesB_any _ _).mono ?_) | (go_at_call 79; with_reducible refine (within_v _ _ _ _ _ _ _ _ _ _).mono ?_) | (go_at_call 79; with_reducible refine (within_a _ _ _ _ _ _ _ _ _ _).mono ?_) | (go_at_call 79; with_reducible refine (within_d _ _ _ _ _ _ _ _ _ _).mono ?_) | (go_at_call 80; with_reducible refine (same13_any _ _ _ _ _ _ _ _ _ _ _ _ _ _ _ _ _ _ lx lx _ HX.out HX.out hn (h1.gr (gri)) (h1.gr (gri))).mono ?_)); rintro _ _ ⟨rfl, g, rfl⟩))
 go_ret
 exact ⟨ret_bool (by simp [sameB, b0, b1, b2, Bool.and_assoc]), gri⟩
set_option maxHeartbeats 2000000 in
theorem mayOp_6 (xv xt xs xa xc : Int) (xD : Option Addr) (xn xq : Nat) (lx : List UInt8) (w : World) (hx : lx.length = xn) (hn : xn ≤ 9223372036854775807) (h1 : Row bv w xD lx) : Calls Tryz.prog 59 #[(Value.agg #[.int .i64 6, .int .u64 xv, .int .u64 xt, .int .i64 xs, .int .i64 xa, .int .i64 xc, .slice xD xn xq])] w fun e w' => e = .returned (.bool (mayOpB 6 xv xt xs xa xc xn lx)) ∧ Gr w w' := by
 have HX := Lib.hid hx; clear hx
 have en : namesB 6 = ⟨#[118, 97, 99]⟩ := rfl
 have E0 : mayOpB 6 xv xt xs xa xc xn lx = (wVol xv && wAt xa && wCount xc && (xt == 0) && (xs == 0) && (lx == [])) := rfl
 rw [E0]; clear E0
 rcases Bool.eq_false_or_eq_true (wVol xv) with b0 | b0
 rotate_left
 ·go_enter Tryz.func59, Tryz.ntmps59
  iterate 2
   try first | rw [rounds_succ] | (refine wp_loop_rounds 1 ?_; rw [rounds_succ])
   go_wp2_with (((first | (go_at_call 78; with_reducible refine (namesB_any _ _).mono ?_) | (go_at_call 79; with_reducible refine (within_v _ _ _ _ _ _ _ _ _ _).mono ?_) | (go_at_call 79; with_reducible refine (within_a _ _ _ _ _ _ _ _ _ _).mono ?_) | (go_at_call 79; with_reducible refine (within_c _ _ _ _ _ _ _ _ _ _).mono ?_) | (go_at_call 80; with_reducible refine (same13_any _ _ _ _ _ _ _ _ _ _ _ _ _ _ _ _ _ _ lx [] _ HX.out List.length_nil hn (h1.gr (gri)) Row.nil).mono ?_)); rintro _ _ ⟨rfl, g, rfl⟩))
  go_ret
  exact ⟨ret_bool (by simp [b0]), gri⟩
 rcases Bool.eq_false_or_eq_true (wAt xa) with b1 | b1
 rotate_left
 ·go_enter Tryz.func59, Tryz.ntmps59
  iterate 3
   try first | rw [rounds_succ] | (refine wp_loop_rounds 2 ?_; rw [rounds_succ])
   go_wp2_with (((first | (go_at_call 78; with_reducible refine (namesB_any _ _).mono ?_) | (go_at_call 79; with_reducible refine (within_v _ _ _ _ _ _ _ _ _ _).mono ?_) | (go_at_call 79; with_reducible refine (within_a _ _ _ _ _ _ _ _ _ _).mono ?_) | (go_at_call 79; with_reducible refine (within_c _ _ _ _ _ _ _ _ _ _).mono ?_) | (go_at_call 80; with_reducible refine (same13_any _ _ _ _ _ _ _ _ _ _ _ _ _ _ _ _ _ _ lx [] _ HX.out List.length_nil hn (h1.gr (gri)) Row.nil).mono ?_)); rintro _ _ ⟨rfl, g, rfl⟩))
  go_ret
  exact ⟨ret_bool (by simp [b0, b1]), gri⟩
 rcases Bool.eq_false_or_eq_true (wCount xc) with b2 | b2
 rotate_left
 ·go_enter Tryz.func59, Tryz.ntmps59
  iterate 4
   try first | rw [rounds_succ] | (refine wp_loop_rounds 3 ?_; rw [rounds_succ])
   go_wp2_with (((first | (go_at_call 78; with_reducible refine (namesB_any _ _).mono ?_) | (go_at_call 79; with_reducible refine (within_v _ _ _ _ _ _ _ _ _ _).mono ?_) | (go_at_call 79; with_reducible refine (within_a _ _ _ _ _ _ _ _ _ _).mono ?_) | (go_at_call 79; with_reducible refine (within_c _ _ _ _ _ _ _ _ _ _).mono ?_) | (go_at_call 80; with_reducible refine (same13_any _ _ _ _ _ _ _ _ _ _ _ _ _ _ _ _ _ _ lx [] _ HX.out List.length_nil hn (h1.gr (gri)) Row.nil).mono ?_)); rintro _ _ ⟨rfl, g, rfl⟩))
  go_ret
  exact ⟨ret_bool (by simp [b0, b1, b2]), gri⟩
 go_enter Tryz.func59, Tryz.ntmps59
 iterate 5
  try first | rw [rounds_succ] | (refine wp_loop_rounds 4 ?_; rw [rounds_succ])
  go_wp2_with (((first | (go_at_call 78; with_reducible refine (namesB_any _ _).mono ?_) | (go_at_call 79; with_reducible refine (within_v _ _ _ _ _ _ _ _ _ _).mono ?_) | (go_at_call 79; with_reducible refine (within_a _ _ _ _ _ _ _ _ _ _).mono ?_) | (go_at_call 79; with_reducible refine (within_c _ _ _ _ _ _ _ _ _ _).mono ?_) | (go_at_call 80; with_reducible refine (same13_any _ _ _ _ _ _ _ _ _ _ _ _ _ _ _ _ _ _ lx [] _ HX.out List.length_nil hn (h1.gr (gri)) Row.nil).mono ?_)); rintro _ _ ⟨rfl, g, rfl⟩))
 go_ret
 exact ⟨ret_bool (by simp [sameB, b0, b1, b2, Bool.and_assoc]), gri⟩
set_option maxHeartbeats 2000000 in
theorem mayOp_7 (xv xt xs xa xc : Int) (xD : Option Addr) (xn xq : Nat) (lx : List UInt8) (w : World) (hx : lx.length = xn) (hn : xn ≤ 9223372036854775807) (h1 : Row bv w xD lx) : Calls Tryz.prog 59 #[(Value.agg #[.int .i64 7, .int .u64 xv, .int .u64 xt, .int .i64 xs, .int .i64 xa, .int .i64 xc, .slice xD xn xq])] w fun e w' => e = .returned (.bool (mayOpB 7 xv xt xs xa xc xn lx)) ∧ Gr w w' := by
 have HX := Lib.hid hx; clear hx
 have en : namesB 7 = ⟨#[118, 97, 99]⟩ := rfl
 have E0 : mayOpB 7 xv xt xs xa xc xn lx = (wVol xv && wAt xa && wCount xc && (xt == 0) && (xs == 0) && (lx == [])) := rfl
 rw [E0]; clear E0
 rcases Bool.eq_false_or_eq_true (wVol xv) with b0 | b0
 rotate_left
 ·go_enter Tryz.func59, Tryz.ntmps59
  iterate 2
   try first | rw [rounds_succ] | (refine wp_loop_rounds 1 ?_; rw [rounds_succ])
   go_wp2_with (((first | (go_at_call 78; with_reducible refine (namesB_any _ _).mono ?_) | (go_at_call 79; with_reducible refine (within_v _ _ _ _ _ _ _ _ _ _).mono ?_) | (go_at_call 79; with_reducible refine (within_a _ _ _ _ _ _ _ _ _ _).mono ?_) | (go_at_call 79; with_reducible refine (within_c _ _ _ _ _ _ _ _ _ _).mono ?_) | (go_at_call 80; with_reducible refine (same13_any _ _ _ _ _ _ _ _ _ _ _ _ _ _ _ _ _ _ lx [] _ HX.out List.length_nil hn (h1.gr (gri)) Row.nil).mono ?_)); rintro _ _ ⟨rfl, g, rfl⟩))
  go_ret
  exact ⟨ret_bool (by simp [b0]), gri⟩
 rcases Bool.eq_false_or_eq_true (wAt xa) with b1 | b1
 rotate_left
 ·go_enter Tryz.func59, Tryz.ntmps59
  iterate 3
   try first | rw [rounds_succ] | (refine wp_loop_rounds 2 ?_; rw [rounds_succ])
   go_wp2_with (((first | (go_at_call 78; with_reducible refine (namesB_any _ _).mono ?_) | (go_at_call 79; with_reducible refine (within_v _ _ _ _ _ _ _ _ _ _).mono ?_) | (go_at_call 79; with_reducible refine (within_a _ _ _ _ _ _ _ _ _ _).mono ?_) | (go_at_call 79; with_reducible refine (within_c _ _ _ _ _ _ _ _ _ _).mono ?_) | (go_at_call 80; with_reducible refine (same13_any _ _ _ _ _ _ _ _ _ _ _ _ _ _ _ _ _ _ lx [] _ HX.out List.length_nil hn (h1.gr (gri)) Row.nil).mono ?_)); rintro _ _ ⟨rfl, g, rfl⟩))
  go_ret
  exact ⟨ret_bool (by simp [b0, b1]), gri⟩
 rcases Bool.eq_false_or_eq_true (wCount xc) with b2 | b2
 rotate_left
 ·go_enter Tryz.func59, Tryz.ntmps59
  iterate 4
   try first | rw [rounds_succ] | (refine wp_loop_rounds 3 ?_; rw [rounds_succ])
   go_wp2_with (((first | (go_at_call 78; with_reducible refine (namesB_any _ _).mono ?_) | (go_at_call 79; with_reducible refine (within_v _ _ _ _ _ _ _ _ _ _).mono ?_) | (go_at_call 79; with_reducible refine (within_a _ _ _ _ _ _ _ _ _ _).mono ?_) | (go_at_call 79; with_reducible refine (within_c _ _ _ _ _ _ _ _ _ _).mono ?_) | (go_at_call 80; with_reducible refine (same13_any _ _ _ _ _ _ _ _ _ _ _ _ _ _ _ _ _ _ lx [] _ HX.out List.length_nil hn (h1.gr (gri)) Row.nil).mono ?_)); rintro _ _ ⟨rfl, g, rfl⟩))
  go_ret
  exact ⟨ret_bool (by simp [b0, b1, b2]), gri⟩
 go_enter Tryz.func59, Tryz.ntmps59
 iterate 5
  try first | rw [rounds_succ] | (refine wp_loop_rounds 4 ?_; rw [rounds_succ])
  go_wp2_with (((first | (go_at_call 78; with_reducible refine (namesB_any _ _).mono ?_) | (go_at_call 79; with_reducible refine (within_v _ _ _ _ _ _ _ _ _ _).mono ?_) | (go_at_call 79; with_reducible refine (within_a _ _ _ _ _ _ _ _ _ _).mono ?_) | (go_at_call 79; with_reducible refine (within_c _ _ _ _ _ _ _ _ _ _).mono ?_) | (go_at_call 80; with_reducible refine (same13_any _ _ _ _ _ _ _ _ _ _ _ _ _ _ _ _ _ _ lx [] _ HX.out List.length_nil hn (h1.gr (gri)) Row.nil).mono ?_)); rintro _ _ ⟨rfl, g, rfl⟩))
 go_ret
 exact ⟨ret_bool (by simp [sameB, b0, b1, b2, Bool.and_assoc]), gri⟩
set_option maxHeartbeats 2000000 in
theorem mayOp_8 (xv xt xs xa xc : Int) (xD : Option Addr) (xn xq : Nat) (lx : List UInt8) (w : World) (hx : lx.length = xn) (hn : xn ≤ 9223372036854775807) (h1 : Row bv w xD lx) : Calls Tryz.prog 59 #[(Value.agg #[.int .i64 8, .int .u64 xv, .int .u64 xt, .int .i64 xs, .int .i64 xa, .int .i64 xc, .slice xD xn xq])] w fun e w' => e = .returned (.bool (mayOpB 8 xv xt xs xa xc xn lx)) ∧ Gr w w' := by
 have HX := Lib.hid hx; clear hx
 have en : namesB 8 = ⟨#[]⟩ := rfl
 have E0 : mayOpB 8 xv xt xs xa xc xn lx = ((xv == 0) && (xt == 0) && (xs == 0) && (xa == 0) && (xc == 0) && (lx == [])) := rfl
 rw [E0]; clear E0
 go_enter Tryz.func59, Tryz.ntmps59
 iterate 2
  try first | rw [rounds_succ] | (refine wp_loop_rounds 1 ?_; rw [rounds_succ])
  go_wp2_with (((first | (go_at_call 78; with_reducible refine (namesB_any _ _).mono ?_) | (go_at_call 80; with_reducible refine (same13_any _ _ _ _ _ _ _ _ _ _ _ _ _ _ _ _ _ _ lx [] _ HX.out List.length_nil hn (h1.gr (gri)) Row.nil).mono ?_)); rintro _ _ ⟨rfl, g, rfl⟩))
 go_ret
 exact ⟨ret_bool (by simp [sameB, Bool.and_assoc]), gri⟩
set_option maxHeartbeats 2000000 in
theorem mayOp_9 (xv xt xs xa xc : Int) (xD : Option Addr) (xn xq : Nat) (lx : List UInt8) (w : World) (hx : lx.length = xn) (hn : xn ≤ 9223372036854775807) (h1 : Row bv w xD lx) : Calls Tryz.prog 59 #[(Value.agg #[.int .i64 9, .int .u64 xv, .int .u64 xt, .int .i64 xs, .int .i64 xa, .int .i64 xc, .slice xD xn xq])] w fun e w' => e = .returned (.bool (mayOpB 9 xv xt xs xa xc xn lx)) ∧ Gr w w' := by
 have HX := Lib.hid hx; clear hx
 have en : namesB 9 = ⟨#[118, 97, 99]⟩ := rfl
 have E0 : mayOpB 9 xv xt xs xa xc xn lx = (wVol xv && wAt xa && wCount xc && (xt == 0) && (xs == 0) && (lx == [])) := rfl
 rw [E0]; clear E0
 rcases Bool.eq_false_or_eq_true (wVol xv) with b0 | b0
 rotate_left
 ·go_enter Tryz.func59, Tryz.ntmps59
  iterate 2
   try first | rw [rounds_succ] | (refine wp_loop_rounds 1 ?_; rw [rounds_succ])
   go_wp2_with (((first | (go_at_call 78; with_reducible refine (namesB_any _ _).mono ?_) | (go_at_call 79; with_reducible refine (within_v _ _ _ _ _ _ _ _ _ _).mono ?_) | (go_at_call 79; with_reducible refine (within_a _ _ _ _ _ _ _ _ _ _).mono ?_) | (go_at_call 79; with_reducible refine (within_c _ _ _ _ _ _ _ _ _ _).mono ?_) | (go_at_call 80; with_reducible refine (same13_any _ _ _ _ _ _ _ _ _ _ _ _ _ _ _ _ _ _ lx [] _ HX.out List.length_nil hn (h1.gr (gri)) Row.nil).mono ?_)); rintro _ _ ⟨rfl, g, rfl⟩))
  go_ret
  exact ⟨ret_bool (by simp [b0]), gri⟩
 rcases Bool.eq_false_or_eq_true (wAt xa) with b1 | b1
 rotate_left
 ·go_enter Tryz.func59, Tryz.ntmps59
  iterate 3
   try first | rw [rounds_succ] | (refine wp_loop_rounds 2 ?_; rw [rounds_succ])
   go_wp2_with (((first | (go_at_call 78; with_reducible refine (namesB_any _ _).mono ?_) | (go_at_call 79; with_reducible refine (within_v _ _ _ _ _ _ _ _ _ _).mono ?_) | (go_at_call 79; with_reducible refine (within_a _ _ _ _ _ _ _ _ _ _).mono ?_) | (go_at_call 79; with_reducible refine (within_c _ _ _ _ _ _ _ _ _ _).mono ?_) | (go_at_call 80; with_reducible refine (same13_any _ _ _ _ _ _ _ _ _ _ _ _ _ _ _ _ _ _ lx [] _ HX.out List.length_nil hn (h1.gr (gri)) Row.nil).mono ?_)); rintro _ _ ⟨rfl, g, rfl⟩))
  go_ret
  exact ⟨ret_bool (by simp [b0, b1]), gri⟩
 rcases Bool.eq_false_or_eq_true (wCount xc) with b2 | b2
 rotate_left
 ·go_enter Tryz.func59, Tryz.ntmps59
  iterate 4
   try first | rw [rounds_succ] | (refine wp_loop_rounds 3 ?_; rw [rounds_succ])
   go_wp2_with (((first | (go_at_call 78; with_reducible refine (namesB_any _ _).mono ?_) | (go_at_call 79; with_reducible refine (within_v _ _ _ _ _ _ _ _ _ _).mono ?_) | (go_at_call 79; with_reducible refine (within_a _ _ _ _ _ _ _ _ _ _).mono ?_) | (go_at_call 79; with_reducible refine (within_c _ _ _ _ _ _ _ _ _ _).mono ?_) | (go_at_call 80; with_reducible refine (same13_any _ _ _ _ _ _ _ _ _ _ _ _ _ _ _ _ _ _ lx [] _ HX.out List.length_nil hn (h1.gr (gri)) Row.nil).mono ?_)); rintro _ _ ⟨rfl, g, rfl⟩))
  go_ret
  exact ⟨ret_bool (by simp [b0, b1, b2]), gri⟩
 go_enter Tryz.func59, Tryz.ntmps59
 iterate 5
  try first | rw [rounds_succ] | (refine wp_loop_rounds 4 ?_; rw [rounds_succ])
  go_wp2_with (((first | (go_at_call 78; with_reducible refine (namesB_any _ _).mono ?_) | (go_at_call 79; with_reducible refine (within_v _ _ _ _ _ _ _ _ _ _).mono ?_) | (go_at_call 79; with_reducible refine (within_a _ _ _ _ _ _ _ _ _ _).mono ?_) | (go_at_call 79; with_reducible refine (within_c _ _ _ _ _ _ _ _ _ _).mono ?_) | (go_at_call 80; with_reducible refine (same13_any _ _ _ _ _ _ _ _ _ _ _ _ _ _ _ _ _ _ lx [] _ HX.out List.length_nil hn (h1.gr (gri)) Row.nil).mono ?_)); rintro _ _ ⟨rfl, g, rfl⟩))
 go_ret
 exact ⟨ret_bool (by simp [sameB, b0, b1, b2, Bool.and_assoc]), gri⟩
set_option maxHeartbeats 2000000 in
theorem mayOp_off (xk xv xt xs xa xc : Int) (xD : Option Addr) (xn xq : Nat) (lx : List UInt8) (w : World) (h : xk < 1 ∨ 9 < xk) : Calls Tryz.prog 59 #[(Value.agg #[.int .i64 xk, .int .u64 xv, .int .u64 xt, .int .i64 xs, .int .i64 xa, .int .i64 xc, .slice xD xn xq])] w fun e w' => e = .returned (.bool (mayOpB xk xv xt xs xa xc xn lx)) ∧ Gr w w' := by
 have en : namesB xk = ⟨#[]⟩ := namesB_off xk (by omega)
 have E0 : mayOpB xk xv xt xs xa xc xn lx = false := by
  unfold mayOpB
  repeat (rw [if_neg (by omega)])
 rw [E0]; clear E0
 rcases h with h | h
 ·have h2 : decide (1 ≤ xk) = false := by simpa using h
  go_enter Tryz.func59, Tryz.ntmps59
  iterate 2
   try first | rw [rounds_succ] | (refine wp_loop_rounds 1 ?_; rw [rounds_succ])
   go_wp2_with ((go_at_call 78; ((with_reducible refine (namesB_any _ _).mono ?_); rintro _ _ ⟨rfl, g, rfl⟩)))
  go_ret
  exact ⟨rfl, gri⟩
 ·have h2 : decide (xk ≤ 9) = false := by simpa using h
  have h3 : 1 ≤ xk := by omega
  go_enter Tryz.func59, Tryz.ntmps59
  iterate 2
   try first | rw [rounds_succ] | (refine wp_loop_rounds 1 ?_; rw [rounds_succ])
   go_wp2_with ((go_at_call 78; ((with_reducible refine (namesB_any _ _).mono ?_); rintro _ _ ⟨rfl, g, rfl⟩)))
  go_ret
  exact ⟨rfl, gri⟩
theorem mayOp_any (xk xv xt xs xa xc : Int) (xD : Option Addr) (xn xq : Nat) (lx : List UInt8) (w : World) (hx : lx.length = xn) (hn : xn ≤ 9223372036854775807) (h1 : Row bv w xD lx) : Calls Tryz.prog 59 #[(Value.agg #[.int .i64 xk, .int .u64 xv, .int .u64 xt, .int .i64 xs, .int .i64 xa, .int .i64 xc, .slice xD xn xq])] w fun e w' => e = .returned (.bool (mayOpB xk xv xt xs xa xc xn lx)) ∧ Gr w w' := by
 by_cases h : xk < 1 ∨ 9 < xk
 ·exact mayOp_off xk xv xt xs xa xc xD xn xq lx w h
 ·have h3 : xk = 1 ∨ xk = 2 ∨ xk = 3 ∨ xk = 4 ∨ xk = 5 ∨ xk = 6 ∨ xk = 7 ∨ xk = 8 ∨ xk = 9 := by omega
  rcases h3 with rfl | rfl | rfl | rfl | rfl | rfl | rfl | rfl | rfl
  ·exact mayOp_1 xv xt xs xa xc xD xn xq lx w hx hn h1
  ·exact mayOp_2 xv xt xs xa xc xD xn xq lx w hx hn h1
  ·exact mayOp_3 xv xt xs xa xc xD xn xq lx w hx hn h1
  ·exact mayOp_4 xv xt xs xa xc xD xn xq lx w hx hn h1
  ·exact mayOp_5 xv xt xs xa xc xD xn xq lx w hx hn h1
  ·exact mayOp_6 xv xt xs xa xc xD xn xq lx w hx hn h1
  ·exact mayOp_7 xv xt xs xa xc xD xn xq lx w hx hn h1
  ·exact mayOp_8 xv xt xs xa xc xD xn xq lx w hx hn h1
  ·exact mayOp_9 xv xt xs xa xc xD xn xq lx w hx hn h1
structure OpM where
 k : Int
 v : Int
 t : Int
 s : Int
 a : Int
 c : Int
 l : Byt
def OpM.may (o : OpM) : Bool := mayOpB o.k o.v o.t o.s o.a o.c o.l.length o.l
structure Spn where
 b : Nat
 f : Nat
 t : Nat
def spansK : Nat → Nat → Nat → List Spn
 | 0, _, _ => []
 | n + 1, a, c => if c = 0 then [] else ⟨a / 4, a % 4, a % 4 + min (4 - a % 4) c⟩ :: spansK n (a + min (4 - a % 4) c) (c - min (4 - a % 4) c)
def spans (a c : Nat) : List Spn := spansK c a c
def mergeB (B : Byt) (f : Nat) (x : Byt) : Byt := B.take (64 * f) ++ x ++ B.drop (64 * f + x.length)
def segK (s : Spn) (a : Nat) (data : Byt) : Byt := (data.drop (64 * (4 * s.b + s.f - a))).take (64 * (s.t - s.f))
def cutK (B : Byt) (s : Spn) : Byt := (B.drop (64 * s.f)).take (64 * (s.t - s.f))
def blkM (m : List (Int × Byt)) (b : Nat) : Byt := (getK m b).getD zB
def putS (a : Nat) (data : Byt) (m : List (Int × Byt)) (s : Spn) : List (Int × Byt) := putK m s.b (mergeB (blkM m s.b) s.f (segK s a data))
def putL (a : Nat) (data : Byt) (m : List (Int × Byt)) (l : List Spn) : List (Int × Byt) := l.foldl (putS a data) m
def errK (d : Dev) (o : OpM) : Int :=
 if o.may = false then 2 else if o.k = 8 then 0 else match getK d o.v with
  | none => if o.k = 1 then 0 else 6
  | some x => if o.k = 1 then 7 else if o.k = 4 then (if (getK d o.t).isSome then 7 else 0) else if o.k = 5 then (if 4 * x.1 < o.a + (o.l.length / 64 : Nat) then 5 else 0)
   else if o.k = 6 ∨ o.k = 9 then (if 4 * x.1 < o.a + o.c then 5 else 0) else if o.k = 7 then (if x.1 < o.a + o.c then 5 else 0) else 0
def volD (d : Dev) (v : Int) : VolM := (getK d v).getD (0, [])
def dataO (o : OpM) : Byt := if o.k = 6 then List.replicate (64 * o.c.toNat) 0 else o.l
def cntO (o : OpM) : Nat := if o.k = 5 then o.l.length / 64 else o.c.toNat
def didK (d : Dev) (o : OpM) (most : Int) : Dev :=
 if o.k = 1 then putK d o.v (o.s, []) else if o.k = 2 then delK d o.v
 else if o.k = 3 then putK d o.v (o.s, (volD d o.v).2.filter fun p => decide (p.1 < o.s))
 else if o.k = 4 then putK d o.t (volD d o.v)
 else if o.k = 5 ∨ o.k = 6 then putK d o.v ((volD d o.v).1, putL o.a.toNat (dataO o) (volD d o.v).2 ((spans o.a.toNat (cntO o)).take most.toNat))
 else if o.k = 7 then putK d o.v ((volD d o.v).1, (volD d o.v).2.filter fun p => decide (p.1 < o.a ∨ o.a + o.c ≤ p.1)) else d
def readK (d : Dev) (o : OpM) : Byt := (spans o.a.toNat o.c.toNat).flatMap fun s => cutK (blkM (volD d o.v).2 s.b) s
def partK (d : Dev) (o : OpM) (most : Int) : Dev := if errK d o = 0 then didK d o most else d
def ansK (d : Dev) (o : OpM) (most : Int) : Int × Int × Byt :=
 if errK d o = 0 then (if (o.k = 5 ∨ o.k = 6) ∧ most < (spans o.a.toNat (cntO o)).length then (8, max most 0, []) else (0, 0, if o.k = 9 then readK d o else [])) else (errK d o, 0, [])
def doK (d : Dev) (o : OpM) : Dev := partK d o 1024
def devOf (l : List OpM) : Dev := l.foldl doK []
/-! Spans. -/
theorem spansK_all : ∀ (n a c : Nat), ∀ s ∈ spansK n a c, s.f < s.t ∧ s.t ≤ 4 ∧ a ≤ 4 * s.b + s.f ∧ 4 * s.b + s.t ≤ a + c
 | 0, _, _, s, h => by simp [spansK] at h
 | n + 1, a, c, s, h => by
  unfold spansK at h
  split at h
  ·simp at h
  ·rcases List.mem_cons.1 h with rfl | h
   ·simp only; omega
   ·have := spansK_all n _ _ s h
    omega
theorem spans_all {a c : Nat} : ∀ s ∈ spans a c, s.f < s.t ∧ s.t ≤ 4 ∧ a ≤ 4 * s.b + s.f ∧ 4 * s.b + s.t ≤ a + c := spansK_all c a c
theorem spansK_len : ∀ (n a c : Nat), (spansK n a c).length ≤ n
 | 0, _, _ => by simp [spansK]
 | n + 1, a, c => by
  unfold spansK
  split
  ·simp
  ·simp only [List.length_cons]; exact Nat.succ_le_succ (spansK_len n _ _)
theorem spans_len (a c : Nat) : (spans a c).length ≤ c := spansK_len c a c
theorem spansK_fuel : ∀ (n m a c : Nat), c ≤ n → c ≤ m → spansK n a c = spansK m a c
 | 0, m, a, c, h1, h2 => by
  have : c = 0 := by omega
  subst this
  cases m with
  | zero => rfl
  | succ m => simp [spansK]
 | n + 1, 0, a, c, h1, h2 => by
  have : c = 0 := by omega
  subst this
  simp [spansK]
 | n + 1, m + 1, a, c, h1, h2 => by
  unfold spansK
  split
  ·rfl
  ·rename_i hc
   rw [spansK_fuel n m _ _ (by omega) (by omega)]
theorem spans_cons (a c : Nat) (h : 0 < c) : spans a c = ⟨a / 4, a % 4, a % 4 + min (4 - a % 4) c⟩ :: spans (a + min (4 - a % 4) c) (c - min (4 - a % 4) c) := by
 unfold spans
 cases c with
 | zero => omega
 | succ c =>
  conv => lhs; unfold spansK
  rw [if_neg (by omega)]
  congr 1
  exact spansK_fuel _ _ _ _ (by omega) (Nat.le_refl _)
theorem spans_zero (a : Nat) : spans a 0 = [] := rfl
/-! What keeps a volume whole. -/
theorem mergeB_len (B : Byt) (f : Nat) (x : Byt) (h : B.length = 256) (hx : 64 * f + x.length ≤ 256) : (mergeB B f x).length = 256 := by
 simp [mergeB, h]; omega
theorem segK_len (s : Spn) (a : Nat) (data : Byt) : (segK s a data).length ≤ 64 * (s.t - s.f) := by simp [segK]; omega
theorem blkM_len {m : List (Int × Byt)} (hs : SortK m) (h : ∀ p ∈ m, p.2.length = 256) (b : Nat) : (blkM m b).length = 256 := by
 unfold blkM
 cases hg : getK m b with
 | none => exact zB_len
 | some B => exact h _ ((getK_mem hs).1 hg)
theorem putS_ok {x : VolM} (hx : VolOk x) {a : Nat} {data : Byt} {s : Spn} (h : s.f < s.t ∧ s.t ≤ 4) (hb : (s.b : Int) < x.1) : VolOk (x.1, putS a data x.2 s) where
 s0 := hx.s0
 s1 := hx.s1
 sort := sort_putK hx.sort
 keys := fun p hp => by
  rcases (mem_putK hx.sort p).1 hp with rfl | ⟨hp, _⟩
  ·exact ⟨by simp, hb⟩
  ·exact hx.keys p hp
 len := fun p hp => by
  rcases (mem_putK hx.sort p).1 hp with rfl | ⟨hp, _⟩
  ·have := segK_len s a data
   exact mergeB_len _ _ _ (blkM_len hx.sort hx.len _) (by omega)
  ·exact hx.len p hp
theorem putL_ok {a : Nat} {data : Byt} : ∀ (l : List Spn) {x : VolM} (hx : VolOk x), (∀ s ∈ l, s.f < s.t ∧ s.t ≤ 4 ∧ (s.b : Int) < x.1) → VolOk (x.1, putL a data x.2 l)
 | [], x, hx, _ => hx
 | s :: l, x, hx, h => by
  have h1 := h s (.head _)
  exact putL_ok l (x := (x.1, putS a data x.2 s)) (putS_ok hx ⟨h1.1, h1.2.1⟩ h1.2.2) (fun s' hs' => h s' (.tail _ hs'))
theorem filter_ok {x : VolM} (hx : VolOk x) (f : Int × Byt → Bool) (n : Int) (h0 : 0 ≤ n) (h1 : n ≤ 256) (hf : ∀ p ∈ x.2, f p = true → p.1 < n) : VolOk (n, x.2.filter f) where
 s0 := h0
 s1 := h1
 sort := hx.sort.filter _
 keys := fun p hp => by
  have := List.mem_filter.1 hp
  exact ⟨(hx.keys p this.1).1, hf p this.1 this.2⟩
 len := fun p hp => hx.len p (List.mem_filter.1 hp).1
theorem put_ok {d : Dev} (h : DevOk d) {v : Int} {x : VolM} (h0 : 1 ≤ v) (h1 : v < 4294967296) (hx : VolOk x) : DevOk (putK d v x) where
 sort := sort_putK h.sort
 keys := fun p hp => by
  rcases (mem_putK h.sort p).1 hp with rfl | ⟨hp, _⟩
  ·exact ⟨h0, h1⟩
  ·exact h.keys p hp
 vols := fun p hp => by
  rcases (mem_putK h.sort p).1 hp with rfl | ⟨hp, _⟩
  ·exact hx
  ·exact h.vols p hp
theorem del_ok {d : Dev} (h : DevOk d) (v : Int) : DevOk (delK d v) where
 sort := sort_delK h.sort
 keys := fun p hp => h.keys p (List.mem_filter.1 hp).1
 vols := fun p hp => h.vols p (List.mem_filter.1 hp).1
theorem volD_ok {d : Dev} (h : DevOk d) (v : Int) : VolOk (volD d v) := by
 unfold volD
 cases hg : getK d v with
 | none => exact ⟨by simp, by simp, List.Pairwise.nil, by simp, by simp⟩
 | some x => exact h.vols _ ((getK_mem h.sort).1 hg)
theorem may_kind {o : OpM} (h : o.may = true) : 1 ≤ o.k ∧ o.k ≤ 9 := by
 rcases Int.lt_or_le o.k 1 with h1 | h1
 ·have : o.may = false := by
   unfold OpM.may mayOpB
   repeat (rw [if_neg (by omega)])
  rw [this] at h; cases h
 rcases Int.lt_or_le 9 o.k with h2 | h2
 ·have : o.may = false := by
   unfold OpM.may mayOpB
   repeat (rw [if_neg (by omega)])
  rw [this] at h; cases h
 exact ⟨h1, h2⟩
structure MayS (o : OpM) : Prop where
 vol : o.k ≠ 8 → 1 ≤ o.v ∧ o.v < 4294967296
 to : o.k = 4 → 1 ≤ o.t ∧ o.t < 4294967296 ∧ o.t ≠ o.v
 size : o.k = 1 ∨ o.k = 3 → 0 ≤ o.s ∧ o.s ≤ 256
 at_ : o.k = 5 ∨ o.k = 6 ∨ o.k = 7 ∨ o.k = 9 → 0 ≤ o.a ∧ o.a ≤ 1048576
 cnt : o.k = 6 ∨ o.k = 7 ∨ o.k = 9 → 1 ≤ o.c ∧ o.c ≤ 1024
 dat : o.k = 5 → 64 ≤ o.l.length ∧ o.l.length % 64 = 0 ∧ o.l.length ≤ 2048
theorem may_s {o : OpM} (h : o.may = true) : MayS o := by
 have hk := may_kind h
 obtain ⟨k, v, t, s, a, c, l⟩ := o
 simp only at hk
 have h9 : k = 1 ∨ k = 2 ∨ k = 3 ∨ k = 4 ∨ k = 5 ∨ k = 6 ∨ k = 7 ∨ k = 8 ∨ k = 9 := by omega
 unfold OpM.may at h
 rcases h9 with rfl | rfl | rfl | rfl | rfl | rfl | rfl | rfl | rfl
 all_goals
  simp [mayOpB, wVol, wTo, wSize, wAt, wCount, wData] at h
  constructor <;> intro hq <;> dsimp only at hq ⊢ <;> simp at hq ⊢ <;> omega
theorem part_ok {d : Dev} (h : DevOk d) (o : OpM) (most : Int) : DevOk (partK d o most) := by
 unfold partK
 split
 rotate_left
 ·exact h
 rename_i he
 have hm : o.may = true := by
  cases hm : o.may with
  | true => rfl
  | false => rw [errK, if_pos hm] at he; cases he
 have hs := may_s hm
 have hx := volD_ok h o.v
 unfold didK
 split
 ·exact put_ok h (hs.vol (by omega)).1 (hs.vol (by omega)).2 ⟨(hs.size (by omega)).1, (hs.size (by omega)).2, List.Pairwise.nil, by simp, by simp⟩
 split
 ·exact del_ok h _
 split
 ·exact put_ok h (hs.vol (by omega)).1 (hs.vol (by omega)).2 (filter_ok hx _ _ (hs.size (by omega)).1 (hs.size (by omega)).2 (fun p _ hp => by simpa using hp))
 split
 ·exact put_ok h (hs.to (by omega)).1 (hs.to (by omega)).2.1 hx
 split
 ·rename_i h1 h2 h3 h4 h5
  refine put_ok h (hs.vol (by omega)).1 (hs.vol (by omega)).2 (putL_ok _ hx fun s hs' => ?_)
  have h6 := spans_all s (List.mem_of_mem_take hs')
  refine ⟨h6.1, h6.2.1, ?_⟩
  rw [errK, if_neg (by rw [hm]; simp), if_neg (by omega)] at he
  have ha := hs.at_ (by omega)
  unfold volD
  cases hg : getK d o.v with
  | none => rw [hg] at he; simp only at he; rw [if_neg h1] at he; cases he
  | some x =>
   rw [hg] at he
   simp only [Option.getD_some]
   simp only [if_neg h1, if_neg h4] at he
   rcases h5 with h5 | h5
   ·rw [if_pos h5] at he
    have hc : cntO o = o.l.length / 64 := by rw [cntO, if_pos h5]
    rw [hc] at h6
    split at he
    ·cases he
    ·omega
   ·rw [if_neg (by omega), if_pos (.inl h5)] at he
    have hc : cntO o = o.c.toNat := by rw [cntO, if_neg (by omega)]
    rw [hc] at h6
    have := hs.cnt (by omega)
    split at he
    ·cases he
    ·omega
 split
 ·exact put_ok h (hs.vol (by omega)).1 (hs.vol (by omega)).2 (filter_ok hx _ _ hx.s0 hx.s1 (fun p hp _ => (hx.keys p hp).2))
 ·exact h
theorem devOf_ok : ∀ (l : List OpM), DevOk (devOf l) := by
 have : ∀ (l : List OpM) (d : Dev), DevOk d → DevOk (l.foldl doK d) := fun l => by
  induction l with
  | nil => exact fun d h => h
  | cons o r ih => exact fun d h => ih _ (part_ok h o 1024)
 exact fun l => this l [] ⟨List.Pairwise.nil, by simp, by simp⟩
section
variable {β : Type}
def findN : List (Int × β) → Int → Option Nat
 | [], _ => none
 | (a, _) :: r, n => if a = n then some 0 else (findN r n).map (· + 1)
def idxK (l : List (Int × β)) (n : Int) : Int := match findN l n with
 | some i => (i : Int)
 | none => -1
theorem findN_append (a b : List (Int × β)) (n : Int) : findN (a ++ b) n = match findN a n with
  | some i => some i
  | none => (findN b n).map (· + a.length) := by
 induction a with
 | nil => simp [findN]
 | cons p r ih =>
  obtain ⟨k, x⟩ := p
  simp only [List.cons_append, findN]
  by_cases h : k = n
  ·simp [h]
  ·simp only [h, if_false, ih]
   cases findN r n with
   | some i => simp
   | none =>
    simp only [Option.map_none, List.length_cons, Option.map_map]
    congr 1
theorem findN_some {l : List (Int × β)} {n : Int} {i : Nat} (h : findN l n = some i) : ∃ x, l[i]? = some (n, x) ∧ getK l n = some x := by
 induction l generalizing i with
 | nil => cases h
 | cons p r ih =>
  obtain ⟨k, x⟩ := p
  unfold findN at h
  unfold getK
  by_cases hk : k = n
  ·subst hk
   simp at h
   subst h
   exact ⟨x, by simp, by simp⟩
  ·rw [if_neg hk] at h
   cases hr : findN r n with
   | none => rw [hr] at h; cases h
   | some j =>
    rw [hr] at h
    simp at h
    subst h
    obtain ⟨y, h1, h2⟩ := ih hr
    exact ⟨y, by simpa using h1, by simp [hk, h2]⟩
theorem findN_none {l : List (Int × β)} {n : Int} : findN l n = none ↔ getK l n = none := by
 induction l with
 | nil => simp [findN, getK]
 | cons p r ih =>
  obtain ⟨k, x⟩ := p
  unfold findN getK
  by_cases hk : k = n
  ·simp [hk]
  ·simp [hk, ih]
theorem findN_hit {l : List (Int × β)} {n : Int} {k : Nat} {x : β} (h : findN (l.take k) n = none) (hk : l[k]? = some (n, x)) : findN l n = some k := by
 have h1 : l = l.take k ++ (n, x) :: l.drop (k + 1) := by
  obtain ⟨hl, he⟩ := List.getElem?_eq_some_iff.1 hk
  rw [← he, List.getElem_cons_drop, List.take_append_drop]
 have hl : k < l.length := (List.getElem?_eq_some_iff.1 hk).1
 rw [h1, findN_append, h]
 simp [findN]
 omega
theorem findN_miss {l : List (Int × β)} {n : Int} {k : Nat} {p : Int × β} (h : findN (l.take k) n = none) (hk : l[k]? = some p) (hp : ¬ p.1 = n) : findN (l.take (k + 1)) n = none := by
 rw [List.take_add_one, hk, findN_append, h]
 obtain ⟨a, x⟩ := p
 simp at hp
 simp [findN, hp]
theorem idx_some {l : List (Int × β)} {n : Int} {i : Nat} (h : findN l n = some i) : idxK l n = i := by rw [idxK, h]
theorem idx_none {l : List (Int × β)} {n : Int} (h : findN l n = none) : idxK l n = -1 := by rw [idxK, h]
theorem sort_low {l : List (Int × β)} (hs : SortK l) {i : Nat} {p : Int × β} (h : l[i]? = some p) : ∀ q ∈ l.take i, q.1 < p.1 := by
 intro q hq
 obtain ⟨j, hj, rfl⟩ := List.mem_iff_getElem.1 hq
 simp at hj
 obtain ⟨hi, rfl⟩ := List.getElem?_eq_some_iff.1 h
 have := List.pairwise_iff_getElem.1 hs j i (by omega) hi (by omega)
 simpa using this
theorem sort_high {l : List (Int × β)} (hs : SortK l) {i : Nat} {p : Int × β} (h : l[i]? = some p) : ∀ q ∈ l.drop (i + 1), p.1 < q.1 := by
 intro q hq
 obtain ⟨j, hj, rfl⟩ := List.mem_iff_getElem.1 hq
 simp at hj
 obtain ⟨hi, rfl⟩ := List.getElem?_eq_some_iff.1 h
 have := List.pairwise_iff_getElem.1 hs i (i + 1 + j) hi (by omega) (by omega)
 simpa using this
theorem cut_at {l : List (Int × β)} {i : Nat} {p : Int × β} (h : l[i]? = some p) : l = l.take i ++ p :: l.drop (i + 1) := by
 obtain ⟨hl, he⟩ := List.getElem?_eq_some_iff.1 h
 rw [← he, List.getElem_cons_drop, List.take_append_drop]
theorem findN_at {l : List (Int × β)} (hs : SortK l) {i : Nat} {n : Int} {x : β} (h : l[i]? = some (n, x)) : findN l n = some i := by
 refine findN_hit (findN_none.2 (getK_none.2 fun p hp => ?_)) h
 have := sort_low hs h p hp
 simp at this
 omega
theorem putK_low {l r : List (Int × β)} {n : Int} {x : β} (h : ∀ p ∈ l, p.1 < n) : putK (l ++ r) n x = l ++ putK r n x := by
 induction l with
 | nil => rfl
 | cons p l ih =>
  obtain ⟨a, y⟩ := p
  have h1 := h (a, y) (.head _)
  simp only at h1
  rw [List.cons_append, putK, if_neg (by omega), if_neg (by omega), ih (fun p hp => h p (.tail _ hp)), List.cons_append]
theorem putK_high {l r : List (Int × β)} {n : Int} {x : β} (h : ∃ p ∈ l, n ≤ p.1) : putK (l ++ r) n x = putK l n x ++ r := by
 induction l with
 | nil => obtain ⟨p, hp, _⟩ := h; cases hp
 | cons p l ih =>
  obtain ⟨a, y⟩ := p
  rw [List.cons_append, putK, putK]
  split
  ·rfl
  split
  ·rfl
  ·obtain ⟨q, hq, hn⟩ := h
   rcases List.mem_cons.1 hq with rfl | hq
   ·simp only at hn; omega
   ·rw [ih ⟨q, hq, hn⟩]; rfl
theorem putK_set {l : List (Int × β)} (hs : SortK l) {i : Nat} {n : Int} {x y : β} (h : l[i]? = some (n, x)) : l.set i (n, y) = putK l n y := by
 have hl : i < l.length := (List.getElem?_eq_some_iff.1 h).1
 have h1 := cut_at h
 have h2 := putK_low (r := (n, x) :: l.drop (i + 1)) (x := y) (n := n) (fun p hp => sort_low hs h p hp)
 rw [← h1] at h2
 rw [h2, putK, if_neg (by omega), if_pos rfl]
 rw [List.set_eq_take_append_cons_drop, if_pos hl]
theorem putK_at {l : List (Int × β)} {i : Nat} {n : Int} {x : β} (h1 : ∀ p ∈ l.take i, p.1 < n) (h2 : ∀ p, l[i]? = some p → n < p.1) : putK l n x = l.take i ++ (n, x) :: l.drop i := by
 have h3 := putK_low (r := l.drop i) (x := x) h1
 rw [List.take_append_drop] at h3
 rw [h3]
 congr 1
 cases hd : l.drop i with
 | nil => rfl
 | cons p r =>
  obtain ⟨a, y⟩ := p
  have : l[i]? = some (a, y) := by rw [← List.head?_drop, hd]; rfl
  have := h2 _ this
  simp only at this
  rw [putK, if_pos this]
theorem delK_at {l : List (Int × β)} (hs : SortK l) {i : Nat} {n : Int} {x : β} (h : l[i]? = some (n, x)) : delK l n = l.take i ++ l.drop (i + 1) := by
 have hlo := sort_low hs h
 have hhi := sort_high hs h
 conv => lhs; rw [cut_at h]
 rw [delK, List.filter_append, List.filter_cons]
 have e1 : (l.take i).filter (fun p => p.1 != n) = l.take i := List.filter_eq_self.2 fun p hp => by
  have := hlo p hp; simp at this; simp; omega
 have e2 : (l.drop (i + 1)).filter (fun p => p.1 != n) = l.drop (i + 1) := List.filter_eq_self.2 fun p hp => by
  have := hhi p hp; simp at this; simp; omega
 rw [e1, e2]
 simp
end
/-! A part, sector by sector. -/
def addP (l : List Spn) (s : Nat) : List Spn := match l.getLast? with
 | some x => if x.b = s / 4 then l.dropLast ++ [⟨x.b, x.f, s % 4 + 1⟩] else l ++ [⟨s / 4, s % 4, s % 4 + 1⟩]
 | none => [⟨s / 4, s % 4, s % 4 + 1⟩]
theorem addP_cons (S : Spn) (L : List Spn) (s : Nat) (h : L ≠ []) : addP (S :: L) s = S :: addP L s := by
 unfold addP
 obtain ⟨y, hy⟩ : ∃ y, L.getLast? = some y := by
  cases hl : L.getLast? with
  | none => exact absurd (List.getLast?_eq_none_iff.1 hl) h
  | some y => exact ⟨y, rfl⟩
 have h2 : (S :: L).getLast? = some y := by rw [List.getLast?_cons, hy]; rfl
 rw [h2, hy]
 simp only
 split
 ·rw [List.dropLast_cons_of_ne_nil h]; rfl
 ·rfl
theorem addP_last (L : List Spn) (x : Spn) (s : Nat) : addP (L ++ [x]) s = if x.b = s / 4 then L ++ [⟨x.b, x.f, s % 4 + 1⟩] else L ++ [x] ++ [⟨s / 4, s % 4, s % 4 + 1⟩] := by
 unfold addP
 simp
theorem spans_ne (a c : Nat) (h : 0 < c) : spans a c ≠ [] := by rw [spans_cons a c h]; simp
theorem spans_snoc : ∀ (k a : Nat), spans a (k + 1) = addP (spans a k) (a + k) := by
 intro k
 induction k using Nat.strongRecOn with
 | ind k ih =>
  intro a
  have ha : a % 4 < 4 := Nat.mod_lt _ (by decide)
  by_cases h0 : k = 0
  ·subst h0
   rw [spans_cons a 1 (by decide), spans_zero]
   have : min (4 - a % 4) 1 = 1 := by omega
   rw [this, show (1 - 1 : Nat) = 0 from rfl, spans_zero]
   simp [addP]
  ·by_cases h1 : k < 4 - a % 4
   ·have m1 : min (4 - a % 4) k = k := by omega
    have m2 : min (4 - a % 4) (k + 1) = k + 1 := by omega
    rw [spans_cons a k (by omega), spans_cons a (k + 1) (by omega), m1, m2, Nat.sub_self, Nat.sub_self, spans_zero, spans_zero]
    have e1 : a / 4 = (a + k) / 4 := by omega
    have e2 : a % 4 + (k + 1) = (a + k) % 4 + 1 := by omega
    simp only [addP, List.getLast?_singleton]
    rw [if_pos e1]
    simp [e2]
   ·have m1 : min (4 - a % 4) k = 4 - a % 4 := by omega
    have m2 : min (4 - a % 4) (k + 1) = 4 - a % 4 := by omega
    rw [spans_cons a k (by omega), spans_cons a (k + 1) (by omega), m1, m2]
    generalize hm : 4 - a % 4 = m at *
    have h3 := ih (k - m) (by omega) (a + m)
    rw [show k + 1 - m = k - m + 1 by omega, h3, show a + m + (k - m) = a + k by omega]
    by_cases hk : k - m = 0
    ·rw [hk, spans_zero]
     have : ¬ a / 4 = (a + k) / 4 := by omega
     simp [addP, this]
    ·rw [addP_cons _ _ _ (spans_ne _ _ (by omega))]
theorem mergeB_zero (B : Byt) (f : Nat) : mergeB B f [] = B := by simp [mergeB]
theorem mergeB_snoc (B : Byt) (f : Nat) (x : Byt) (c : UInt8) (h : 64 * f + x.length < B.length) : mergeB B f (x ++ [c]) = (mergeB B f x).set (64 * f + x.length) c := by
 unfold mergeB
 rw [List.set_append_right _ _ (by simp; omega)]
 have e : 64 * f + x.length - (B.take (64 * f) ++ x).length = 0 := by simp; omega
 have hd : B.drop (64 * f + x.length) = B[64 * f + x.length] :: B.drop (64 * f + x.length + 1) := by rw [List.getElem_cons_drop]
 rw [e, hd, List.set_cons_zero]
 simp [Nat.add_assoc]
/-! Operations. -/
theorem size_filter {x : VolM} (hx : VolOk x) (s : Int) : (x.2.filter fun p => decide (p.1 < s ∨ (1073741824 : Int) ≤ p.1)) = x.2.filter fun p => decide (p.1 < s) := by
 refine List.filter_congr fun p hp => ?_
 have h1 := hx.keys p hp
 have h2 := hx.s1
 have : ¬ (1073741824 : Int) ≤ p.1 := by omega
 simp [this]
instance bne_succ2 (B : Nat) : BNe B (B + 1 + 1) := ⟨by omega⟩
instance bne_succ2' (B : Nat) : BNe (B + 1 + 1) B := ⟨by omega⟩
instance bne_succ3 (B : Nat) : BNe B (B + 1 + 1 + 1) := ⟨by omega⟩
instance bne_succ3' (B : Nat) : BNe (B + 1 + 1 + 1) B := ⟨by omega⟩
instance sizeN_setRow (W : World) (g : Nat) (cs : Array Value) (n : Nat) [h : SizeN W n] : SizeN (W.setRow g cs) n := ⟨by rw [setRow_size]; exact h.eq⟩
instance (b : Nat) (W : World) (g : Nat) (cs : Array Value) [h : Old b W] : Old b (W.setRow g cs) := ⟨by rw [setRow_size]; exact h.lt⟩
instance (a W : World) (g : Nat) (cs : Array Value) [h : From a W] : From a (W.setRow g cs) := ⟨by rw [setRow_size]; exact h.le⟩
theorem below_row {B g : Nat} {a W : World} (h : Below B a W) (hg : B ≤ g) (cs : Array Value) : Below B a (W.setRow g cs) :=
 h.trans ⟨rfl, rfl, rfl, by rw [setRow_size]; exact Nat.le_refl _, fun k hk => setRow_other W g k cs (by omega)⟩
instance (a W : World) (g : Nat) (cs : Array Value) [h : GrC a W] [k : Past a g] : GrC a (W.setRow g cs) := ⟨below_row h.b k.le cs⟩
instance blockAt_row (W : World) (B : Nat) (cs cs' : Array Value) (t : TypeId) [h : BlockAt W B cs t] : BlockAt (W.setRow B cs') B cs' t := ⟨setRow_heap W B cs cs' t (0, 0) h.eq⟩
instance (priority := low) blockAt_row' (W : World) (B C : Nat) (cs cs' : Array Value) (t : TypeId) [h : BlockAt W B cs t] [k : BNe B C] : BlockAt (W.setRow C cs') B cs t := ⟨(setRow_other W C B cs' k.ne).trans h.eq⟩
instance (W : World) (g : Nat) (cs : Array Value) [h : Tb W] [hf : Far g] : Tb (W.setRow g cs) :=
 h.keep (by rw [setRow_size]; exact Nat.le_refl _) (fun b hb => setRow_other W g b cs (by have := hf.le; omega))
section
variable {P : Program} {W : World} {ops : Array Oper} {rest : List Oper} {o : Oper} {a : Act} {Q : Exit → Act → World → Prop}
theorem run_storeRow (B : Nat) (zs cs : Array Value) (t : TypeId) (hB : BlockAt W B zs t) (hi : (P.info? t).map (·.size) = some cs.size) (hs : zs.size = cs.size) (h1 : ∀ v ∈ cs.toList, v.oneCell' = true) :
  (Instr.storeAt t (.pointer (some ⟨B, 0, none⟩)) (.agg cs)).run P W = .ok () (W.setRow B cs) := by
 have h := run_storeCells_from (P := P) B t cs.toList 0 zs W hB.eq (by simp [hs]) h1
 cases hq : P.info? t with
 | none => simp [hq] at hi
 | some i =>
  have hs2 : cs.size = i.size := by simp [hq] at hi; omega
  simp only [List.take_zero, List.nil_append, Array.toArray_toList] at h
  simp [Instr.storeAt, Instr.sureAddr, storeVar, sizeOf, typeInfo, Sem.run_bind, hq, Value.cells, hs2, h]
theorem wpList_storeRow (hgd : o.guard = none) (t : TypeId) (x y : Operand) (ho : o.op = .store t x y) (B : Nat) (zs cs : Array Value) (hx : a.eval x = .pointer (some ⟨B, 0, none⟩)) (hy : a.eval y = .agg cs) (hB : BlockAt W B zs t) (hi : (P.info? t).map (·.size) = some cs.size) (hs : zs.size = cs.size) (h1 : ∀ v ∈ cs.toList, v.oneCell' = true)
  (h : wpList P ops Q rest (a.put o.dst undef) (W.setRow B cs)) : wpList P ops Q (o :: rest) a W := by
 refine wpList_plain hgd fun K' hK' => ?_
 have hrun := run_storeRow (P := P) B zs cs t hB hi hs h1
 unfold Oper.wp
 simp only [execOp, ho, hx, hy, Sem.run_bind, hrun, Result.andThen_ok, Sem.run_pure]
 exact hK' _ _ h
theorem run_loadRow (B : Nat) (cs : Array Value) (t : TypeId) (d : TypeDesc) (hB : BlockAt W B cs t) (hu : P.underlying t = some d) (hd : d.isRow = true) (hi : (P.info? t).map (·.size) = some cs.size) :
  (Instr.loadAt t (.pointer (some ⟨B, 0, none⟩))).run P W = .ok (.agg cs) W := by
 have := run_loadAt_mid (P := P) W B 0 t cs.toList d (fun j v hv => by
  rw [Nat.zero_add]
  rw [Array.getElem?_toList] at hv
  exact (@block_cells W B j cs t hB).trans hv) hu hd (by simpa using hi)
 simpa using this
theorem wpList_loadRow (hgd : o.guard = none) (t : TypeId) (x : Operand) (ho : o.op = .load t x) (B : Nat) (cs : Array Value) (d : TypeDesc) (hx : a.eval x = .pointer (some ⟨B, 0, none⟩)) (hB : BlockAt W B cs t) (hu : P.underlying t = some d) (hd : d.isRow = true) (hi : (P.info? t).map (·.size) = some cs.size)
  (h : wpList P ops Q rest (a.put o.dst (.agg cs)) W) : wpList P ops Q (o :: rest) a W := by
 refine wpList_plain hgd fun K' hK' => ?_
 have hrun := run_loadRow (P := P) B cs t d hB hu hd hi
 unfold Oper.wp
 simp only [execOp, ho, hx, Sem.run_bind, hrun, Result.andThen_ok, Sem.run_pure]
 exact hK' _ _ h
end
theorem run_loadVarRow {P : Program} {W : World} (B : Nat) (cs : Array Value) (t : TypeId) (d : TypeDesc) (hB : BlockAt W B cs t) (hu : P.underlying t = some d) (hd : (match d with | .struct _ | .array _ _ => true | _ => false) = true) (hi : (P.info? t).map (·.size) = some cs.size) :
  (loadVar t ⟨B, 0, none⟩).run P W = .ok (.agg cs) W := run_loadVar_row W B t t cs (0, 0) d hB.eq hu hd hi
theorem run_resCell2 {P : Program} {W : World} {fn : Func} {p s : Tmp} {t : TypeId} (h : fn.results = #[.cell p t, .tmp s]) (tmps : Array Value) (B : Nat) (cs : Array Value) (d : TypeDesc) (hp : tmps.getD p undef = .pointer (some ⟨B, 0, none⟩)) (hB : BlockAt W B cs t) (hu : P.underlying t = some d) (hd : (match d with | .struct _ | .array _ _ => true | _ => false) = true) (hi : (P.info? t).map (·.size) = some cs.size) :
  (results fn tmps).run P W = .ok (.tuple #[.agg cs, tmps.getD s undef]) W := by
 have hp' : tmps[p]?.getD undef = .pointer (some ⟨B, 0, none⟩) := by simpa using hp
 have hl := run_loadVarRow (P := P) B cs t d hB hu hd hi
 simp [results, h, hp', asAddr, hl, Sem.run_bind]
class CellRow (n : outParam Nat) (cs : Array Value) : Prop where
 size : cs.size = n
 one : ∀ v ∈ cs.toList, v.oneCell' = true
def bkC (B : Byt) : Array Value := (B.map bv).toArray
theorem bkC_size (B : Byt) : (bkC B).size = B.length := by simp [bkC]
theorem bkC_one (B : Byt) : ∀ v ∈ (bkC B).toList, v.oneCell' = true := by
 intro v hv
 simp only [bkC, List.toList_toArray, List.mem_map] at hv
 obtain ⟨b, _, rfl⟩ := hv
 rfl
instance zC_row : CellRow 256 Tryz.zeroCells88 := ⟨by kernel_rfl, by
 have h : (Tryz.zeroCells88).toList.all (fun v => v.oneCell') = true := by kernel_rfl
 exact List.all_eq_true.1 h⟩
theorem bkC_row {B : Byt} (h : B.length = 256) : CellRow 256 (bkC B) := ⟨by rw [bkC_size, h], bkC_one B⟩
theorem infoBlk : (Tryz.prog.info? 88).map (·.size) = some 256 := by kernel_rfl
theorem zC_bk : Tryz.zeroCells88 = bkC zB := (Value.agg.inj zB_val).symm
section
variable {W : World} {ops : Array Oper} {rest : List Oper} {o : Oper} {a : Act} {Q : Exit → Act → World → Prop}
theorem wpStoreB (hgd : o.guard = none) (x y : Operand) (ho : o.op = .store 88 x y) (B : Nat) (zs cs : Array Value) (hx : a.eval x = .pointer (some ⟨B, 0, none⟩)) (hy : a.eval y = .agg cs) (hB : BlockAt W B zs 88) (hz : CellRow 256 zs) (hc : CellRow 256 cs)
  (h : wpList Tryz.prog ops Q rest (a.put o.dst undef) (W.setRow B cs)) : wpList Tryz.prog ops Q (o :: rest) a W :=
 wpList_storeRow hgd _ x y ho B zs cs hx hy hB (by rw [hc.size]; exact infoBlk) (by rw [hz.size, hc.size]) hc.one h
theorem wpLoadB (hgd : o.guard = none) (x : Operand) (ho : o.op = .load 88 x) (B : Nat) (cs : Array Value) (hx : a.eval x = .pointer (some ⟨B, 0, none⟩)) (hB : BlockAt W B cs 88) (hc : CellRow 256 cs)
  (h : wpList Tryz.prog ops Q rest (a.put o.dst (.agg cs)) W) : wpList Tryz.prog ops Q (o :: rest) a W :=
 wpList_loadRow hgd _ x ho B cs _ hx hB Tryz.underlying88 rfl (by rw [hc.size]; exact infoBlk) h
theorem run_resB {fn : Func} {p s : Tmp} (h : fn.results = #[.cell p 88, .tmp s]) (tmps : Array Value) (B : Nat) (cs : Array Value) (v : Value) (hp : tmps.getD p undef = .pointer (some ⟨B, 0, none⟩)) (hv : tmps.getD s undef = v) (hB : BlockAt W B cs 88) (hc : CellRow 256 cs) :
  (results fn tmps).run Tryz.prog W = .ok (.tuple #[.agg cs, v]) W := by
 subst hv
 exact run_resCell2 h tmps B cs _ hp hB Tryz.underlying88 rfl (by rw [hc.size]; exact infoBlk)
end
theorem blkK_len {d : Dev} (h : DevOk d) (v b : Int) : ((blkK d v b).getD zB).length = 256 := by
 unfold blkK
 cases hv : getK d v with
 | none => exact zB_len
 | some x =>
  have h1 := h.vols _ ((getK_mem h.sort).1 hv)
  cases hb : getK x.2 b with
  | none => simp only [Option.bind_some, hb]; exact zB_len
  | some B => simpa [hb] using h1.len _ ((getK_mem h1.sort).1 hb)
set_option maxRecDepth 100000 in
set_option maxHeartbeats 1000000 in
theorem block_any (base D : Nat) (d : Dev) (v b : Int) (w : World) (h : DevAt base w D d) : Calls Tryz.prog 41 #[.pointer (some ⟨D, 0, none⟩), .int .u64 v, .int .i64 b] w fun e w' => e = .returned (.tuple #[.agg (bkC ((blkK d v b).getD zB)), .bool (blkK d v b).isSome]) ∧ Gr w w' := by
 obtain ⟨M, mb, h⟩ := h
 have HD := Lib.hid h
 have HT := Lib.hid (fun W (hW : Gr w W) => there_yes D M W (HD.out.blk.gr hW))
 haveI := h.blk
 have x0 : w.cell? ⟨D, 0, none⟩ = some (.map (some M)) := (@block_cells _ _ 0 _ _ h.blk).trans rfl
 haveI : Old D w := h.blk.old
 have hlen := blkK_len h.ok v b
 have hl := getK_vols d mb v
 have EZ := Lib.hid zC_bk
 cases hu : getK d v with
 | none =>
  rw [hu] at hl
  have hB : blkK d v b = none := by rw [blkK, hu]; rfl
  rw [hB]
  have HL := Lib.hid hl
  clear h hl hB hu hlen
  go_enter Tryz.func41, Tryz.ntmps41
  go_wp2_with (first | (go_at_call 50; ((with_reducible refine (HT.out _ gri).mono ?_); rintro _ _ ⟨rfl, g1, rfl⟩)) | (at_lookup; refine wpList_lookupK (q := .u64) (b := M) rfl _ _ rfl v Tryz.underlying99 Tryz.underlying28 (Tryz.zeroValue115 _) (HD.out.all.gr gri) rfl rfl ?_; rw [HL.out]) | (at_lookup; refine wpList_lookupNil (q := .i64) rfl _ _ rfl b Tryz.underlying113 Tryz.underlying3 (Tryz.zeroValue88 _) rfl rfl ?_) | (refine wpStoreB rfl _ _ rfl _ _ _ rfl rfl inferInstance inferInstance inferInstance ?_) | (refine wpLoadB rfl _ rfl _ _ rfl inferInstance inferInstance ?_))
  exact bodyPost_ret (v := .tuple #[.agg Tryz.zeroCells88, .bool false]) (run_resB rfl _ _ _ _ rfl rfl inferInstance inferInstance) rfl ⟨by rw [EZ.out]; rfl, gri⟩
 | some x =>
  rw [hu] at hl
  obtain ⟨u, hb⟩ : ∃ u, getK x.2 b = u := ⟨_, rfl⟩
  have hB : blkK d v b = u := by rw [blkK, hu]; exact hb
  rw [hB] at hlen ⊢
  have hk : getK (encK bkV x.2) b = u.map fun B => Value.agg (bkC B) := by rw [getK_enc, hb]; rfl
  have hm := h.vol _ ((getK_mem h.ok.sort).1 hu)
  have HL := Lib.hid hl
  have HK := Lib.hid hk
  have HM := Lib.hid hm
  clear h hl hB hu hk hb hm
  have HU : ∀ B, u = some B → CellRow 256 (bkC B) := fun B e => by subst e; exact bkC_row hlen
  clear hlen
  cases u
  rotate_left
  all_goals
   first
   | haveI := HU _ rfl
   | skip
   clear HU
   go_enter Tryz.func41, Tryz.ntmps41
   go_wp2_with (first | (go_at_call 50; ((with_reducible refine (HT.out _ gri).mono ?_); rintro _ _ ⟨rfl, g1, rfl⟩)) | (at_lookup; refine wpList_lookupK (q := .u64) (b := M) rfl _ _ rfl v Tryz.underlying99 Tryz.underlying28 (Tryz.zeroValue115 _) (HD.out.all.gr gri) rfl rfl ?_; rw [HL.out]) | (at_lookup; refine wpList_lookupK (q := .i64) (b := mb v) rfl _ _ rfl b Tryz.underlying113 Tryz.underlying3 (Tryz.zeroValue88 _) (HM.out.gr gri) rfl rfl ?_; rw [HK.out]) | (refine wpStoreB rfl _ _ rfl _ _ _ rfl rfl inferInstance inferInstance inferInstance ?_) | (refine wpLoadB rfl _ rfl _ _ rfl inferInstance inferInstance ?_))
   exact bodyPost_ret (run_resB rfl _ _ _ _ rfl rfl inferInstance inferInstance) rfl ⟨by first | rfl | (rw [EZ.out]; rfl), gri⟩
end Go.Proofs.YtipeblmgochdfaaGreat
