/- command.May. Conditions: what is read stands in memory. Devices, plainly: what an operation does, and why it is refused. Conditions: none. Stretches of two volumes, plainly. Conditions: none. A variable of many cells, written and read whole. Conditions: none. Device.Block: a block, and is it mapped. Conditions: the device stands in memory. Slices whose elements have so many cells: what is read, what the call owns, 'l = append(l, ..)'. Conditions: at most 10^8 elements. delta.beside, delta.kind, delta.stretches, delta.Rows. Conditions: the device stands in memory. -/
import Derived.Test.YtipeblmgochdfaaGreatR01
import Derived.Deep.MidRow
import Derived.Laws.Tables
import Derived.Laws.OwnMore
import Derived.Stop.BytesEq
namespace Go.Proofs.YtipeblmgochdfaaGreat
open Go.RowKit
set_option linter.unusedVariables false
set_option linter.unusedSimpArgs false
set_option linter.unnecessarySimpa false
def mayOpB (xk xv xt xs xa xc : Int) (xn : Nat) (lx : List UInt8) : Bool :=
 if xk = 1 then wVol xv && wSize xs && (xt == 0) && (xa == 0) && (xc == 0) && (lx == []) else if xk = 2 then wVol xv && (xt == 0) && (xs == 0) && (xa == 0) && (xc == 0) && (lx == []) else if xk = 3 then wVol xv && wSize xs && (xt == 0) && (xa == 0) && (xc == 0) && (lx == []) else if xk = 4 then wVol xv && wTo xt xv && (xs == 0) && (xa == 0) && (xc == 0) && (lx == []) else if xk = 5 then wVol xv && wAt xa && wData xn && (xt == 0) && (xs == 0) && (xc == 0) else if xk = 6 then wVol xv && wAt xa && wCount xc && (xt == 0) && (xs == 0) && (lx == []) else if xk = 7 then wVol xv && wAt xa && wCount xc && (xt == 0) && (xs == 0) && (lx == []) else if xk = 8 then (xv == 0) && (xt == 0) && (xs == 0) && (xa == 0) && (xc == 0) && (lx == []) else if xk = 9 then wVol xv && wAt xa && wCount xc && (xt == 0) && (xs == 0) && (lx == []) else false
set_option maxHeartbeats 2000000 in
theorem mayOp_1 (xv xt xs xa xc : Int) (xD : Option Addr) (xn xq : Nat) (lx : List UInt8) (w : World) (hx : lx.length = xn) (hn : xn ≤ 9223372036854775807) (h1 : Row bv w xD lx) : Calls Tryz.prog 59 #[(Value.agg #[.int .i64 1, .int .u64 xv, .int .u64 xt, .int .i64 xs, .int .i64 xa, .int .i64 xc, .slice xD xn xq])] w fun e w' => e = .returned (.bool (mayOpB 1 xv xt xs xa xc xn lx)) ∧ Gr w w' := by
 have HX := Lib.hid hx; clear hx
 have en : namesB 1 = ⟨#[118, 115]⟩ := rfl
 have E0 : mayOpB 1 xv xt xs xa xc xn lx = (wVol xv && wSize xs && (xt == 0) && (xa == 0) && (xc == 0) && (lx == [])) := rfl
 rw [E0]; clear E0
 rcases Bool.eq_false_or_eq_true (wVol xv) with b0 | b0
 rotate_left
 ·go_enter Tryz.func59, Tryz.ntmps59
  iterate 2
   try first | rw [rounds_succ] | (refine wp_loop_rounds 1 ?_; rw [rounds_succ])
   go_wp2_with (((first | (go_at_call 78; with_reducible refine (namesB_any _ _).mono ?_) | (go_at_call 79; with_reducible refine (within_v _ _ _ _ _ _ _ _ _ _).mono ?_) | (go_at_call 79; with_reducible refine (within_s _ _ _ _ _ _ _ _ _ _).mono ?_) | (go_at_call 80; with_reducible refine (same13_any _ _ _ _ _ _ _ _ _ _ _ _ _ _ _ _ _ _ lx [] _ HX.out List.length_nil hn (h1.gr (gri)) Row.nil).mono ?_)); rintro _ _ ⟨rfl, g, rfl⟩))
  go_ret
  exact ⟨ret_bool (by simp [b0]), gri⟩
 rcases Bool.eq_false_or_eq_true (wSize xs) with b1 | b1
 rotate_left
 ·go_enter Tryz.func59, Tryz.ntmps59
  iterate 3
   try first | rw [rounds_succ] | (refine wp_loop_rounds 2 ?_; rw [rounds_succ])
   go_wp2_with (((first | (go_at_call 78; with_reducible refine (namesB_any _ _).mono ?_) | (go_at_call 79; with_reducible refine (within_v _ _ _ _ _ _ _ _ _ _).mono ?_) | (go_at_call 79; with_reducible refine (within_s _ _ _ _ _ _ _ _ _ _).mono ?_) | (go_at_call 80; with_reducible refine (same13_any _ _ _ _ _ _ _ _ _ _ _ _ _ _ _ _ _ _ lx [] _ HX.out List.length_nil hn (h1.gr (gri)) Row.nil).mono ?_)); rintro _ _ ⟨rfl, g, rfl⟩))
  go_ret
  exact ⟨ret_bool (by simp [b0, b1]), gri⟩
 go_enter Tryz.func59, Tryz.ntmps59
 iterate 4
  try first | rw [rounds_succ] | (refine wp_loop_rounds 3 ?_; rw [rounds_succ])
  go_wp2_with (((first | (go_at_call 78; with_reducible refine (namesB_any _ _).mono ?_) | (go_at_call 79; with_reducible refine (within_v _ _ _ _ _ _ _ _ _ _).mono ?_) | (go_at_call 79; with_reducible refine (within_s _ _ _ _ _ _ _ _ _ _).mono ?_) | (go_at_call 80; with_reducible refine (same13_any _ _ _ _ _ _ _ _ _ _ _ _ _ _ _ _ _ _ lx [] _ HX.out List.length_nil hn (h1.gr (gri)) Row.nil).mono ?_)); rintro _ _ ⟨rfl, g, rfl⟩))
 go_ret
 exact ⟨ret_bool (by simp [sameB, b0, b1, Bool.and_assoc]), gri⟩
set_option maxHeartbeats 2000000 in
theorem mayOp_2 (xv xt xs xa xc : Int) (xD : Option Addr) (xn xq : Nat) (lx : List UInt8) (w : World) (hx : lx.length = xn) (hn : xn ≤ 9223372036854775807) (h1 : Row bv w xD lx) : Calls Tryz.prog 59 #[(Value.agg #[.int .i64 2, .int .u64 xv, .int .u64 xt, .int .i64 xs, .int .i64 xa, .int .i64 xc, .slice xD xn xq])] w fun e w' => e = .returned (.bool (mayOpB 2 xv xt xs xa xc xn lx)) ∧ Gr w w' := by
 have HX := Lib.hid hx; clear hx
 have en : namesB 2 = ⟨#[118]⟩ := rfl
 have E0 : mayOpB 2 xv xt xs xa xc xn lx = (wVol xv && (xt == 0) && (xs == 0) && (xa == 0) && (xc == 0) && (lx == [])) := rfl
 rw [E0]; clear E0
 rcases Bool.eq_false_or_eq_true (wVol xv) with b0 | b0
 rotate_left
 ·go_enter Tryz.func59, Tryz.ntmps59
  iterate 2
   try first | rw [rounds_succ] | (refine wp_loop_rounds 1 ?_; rw [rounds_succ])
   go_wp2_with (((first | (go_at_call 78; with_reducible refine (namesB_any _ _).mono ?_) | (go_at_call 79; with_reducible refine (within_v _ _ _ _ _ _ _ _ _ _).mono ?_) | (go_at_call 80; with_reducible refine (same13_any _ _ _ _ _ _ _ _ _ _ _ _ _ _ _ _ _ _ lx [] _ HX.out List.length_nil hn (h1.gr (gri)) Row.nil).mono ?_)); rintro _ _ ⟨rfl, g, rfl⟩))
  go_ret
  exact ⟨ret_bool (by simp [b0]), gri⟩
 go_enter Tryz.func59, Tryz.ntmps59
 iterate 3
  try first | rw [rounds_succ] | (refine wp_loop_rounds 2 ?_; rw [rounds_succ])
  go_wp2_with (((first | (go_at_call 78; with_reducible refine (namesB_any _ _).mono ?_) | (go_at_call 79; with_reducible refine (within_v _ _ _ _ _ _ _ _ _ _).mono ?_) | (go_at_call 80; with_reducible refine (same13_any _ _ _ _ _ _ _ _ _ _ _ _ _ _ _ _ _ _ lx [] _ HX.out List.length_nil hn (h1.gr (gri)) Row.nil).mono ?_)); rintro _ _ ⟨rfl, g, rfl⟩))
 go_ret
 exact ⟨ret_bool (by simp [sameB, b0, Bool.and_assoc]), gri⟩
set_option maxHeartbeats 2000000 in
theorem mayOp_3 (xv xt xs xa xc : Int) (xD : Option Addr) (xn xq : Nat) (lx : List UInt8) (w : World) (hx : lx.length = xn) (hn : xn ≤ 9223372036854775807) (h1 : Row bv w xD lx) : Calls Tryz.prog 59 #[(Value.agg #[.int .i64 3, .int .u64 xv, .int .u64 xt, .int .i64 xs, .int .i64 xa, .int .i64 xc, .slice xD xn xq])] w fun e w' => e = .returned (.bool (mayOpB 3 xv xt xs xa xc xn lx)) ∧ Gr w w' := by
 have HX := Lib.hid hx; clear hx
 have en : namesB 3 = ⟨#[118, 115]⟩ := rfl
 have E0 : mayOpB 3 xv xt xs xa xc xn lx = (wVol xv && wSize xs && (xt == 0) && (xa == 0) && (xc == 0) && (lx == [])) := rfl
 rw [E0]; clear E0
 rcases Bool.eq_false_or_eq_true (wVol xv) with b0 | b0
 rotate_left
 ·go_enter Tryz.func59, Tryz.ntmps59
  iterate 2
   try first | rw [rounds_succ] | (refine wp_loop_rounds 1 ?_; rw [rounds_succ])
   go_wp2_with (((first | (go_at_call 78; with_reducible refine (namesB_any _ _).mono ?_) | (go_at_call 79; with_reducible refine (within_v _ _ _ _ _ _ _ _ _ _).mono ?_) | (go_at_call 79; with_reducible refine (within_s _ _ _ _ _ _ _ _ _ _).mono ?_) | (go_at_call 80; with_reducible refine (same13_any _ _ _ _ _ _ _ _ _ _ _ _ _ _ _ _ _ _ lx [] _ HX.out List.length_nil hn (h1.gr (gri)) Row.nil).mono ?_)); rintro _ _ ⟨rfl, g, rfl⟩))
  go_ret
  exact ⟨ret_bool (by simp [b0]), gri⟩
 rcases Bool.eq_false_or_eq_true (wSize xs) with b1 | b1
 rotate_left
 ·go_enter Tryz.func59, Tryz.ntmps59
  iterate 3
   try first | rw [rounds_succ] | (refine wp_loop_rounds 2 ?_; rw [rounds_succ])
   go_wp2_with (((first | (go_at_call 78; with_reducible refine (namesB_any _ _).mono ?_) | (go_at_call 79; with_reducible refine (within_v _ _ _ _ _ _ _ _ _ _).mono ?_) | (go_at_call 79; with_reducible refine (within_s _ _ _ _ _ _ _ _ _ _).mono ?_) | (go_at_call 80; with_reducible refine (same13_any _ _ _ _ _ _ _ _ _ _ _ _ _ _ _ _ _ _ lx [] _ HX.out List.length_nil hn (h1.gr (gri)) Row.nil).mono ?_)); rintro _ _ ⟨rfl, g, rfl⟩))
  go_ret
  exact ⟨ret_bool (by simp [b0, b1]), gri⟩
 go_enter Tryz.func59, Tryz.ntmps59
 iterate 4
  try first | rw [rounds_succ] | (refine wp_loop_rounds 3 ?_; rw [rounds_succ])
  go_wp2_with (((first | (go_at_call 78; with_reducible refine (namesB_any _ _).mono ?_) | (go_at_call 79; with_reducible refine (within_v _ _ _ _ _ _ _ _ _ _).mono ?_) | (go_at_call 79; with_reducible refine (within_s _ _ _ _ _ _ _ _ _ _).mono ?_) | (go_at_call 80; with_reducible refine (same13_any _ _ _ _ _ _ _ _ _ _ _ _ _ _ _ _ _ _ lx [] _ HX.out List.length_nil hn (h1.gr (gri)) Row.nil).mono ?_)); rintro _ _ ⟨rfl, g, rfl⟩))
 go_ret
 exact ⟨ret_bool (by simp [sameB, b0, b1, Bool.and_assoc]), gri⟩
set_option maxHeartbeats 2000000 in
theorem mayOp_4 (xv xt xs xa xc : Int) (xD : Option Addr) (xn xq : Nat) (lx : List UInt8) (w : World) (hx : lx.length = xn) (hn : xn ≤ 9223372036854775807) (h1 : Row bv w xD lx) : Calls Tryz.prog 59 #[(Value.agg #[.int .i64 4, .int .u64 xv, .int .u64 xt, .int .i64 xs, .int .i64 xa, .int .i64 xc, .slice xD xn xq])] w fun e w' => e = .returned (.bool (mayOpB 4 xv xt xs xa xc xn lx)) ∧ Gr w w' := by
 have HX := Lib.hid hx; clear hx
 have en : namesB 4 = ⟨#[118, 116]⟩ := rfl
 have E0 : mayOpB 4 xv xt xs xa xc xn lx = (wVol xv && wTo xt xv && (xs == 0) && (xa == 0) && (xc == 0) && (lx == [])) := rfl
 rw [E0]; clear E0
 rcases Bool.eq_false_or_eq_true (wVol xv) with b0 | b0
 rotate_left
 ·go_enter Tryz.func59, Tryz.ntmps59
  iterate 2
   try first | rw [rounds_succ] | (refine wp_loop_rounds 1 ?_; rw [rounds_succ])
   go_wp2_with (((first | (go_at_call 78; with_reducible refine (namesB_any _ _).mono ?_) | (go_at_call 79; with_reducible refine (within_v _ _ _ _ _ _ _ _ _ _).mono ?_) | (go_at_call 79; with_reducible refine (within_t _ _ _ _ _ _ _ _ _ _).mono ?_) | (go_at_call 80; with_reducible refine (same13_any _ _ _ _ _ _ _ _ _ _ _ _ _ _ _ _ _ _ lx [] _ HX.out List.length_nil hn (h1.gr (gri)) Row.nil).mono ?_)); rintro _ _ ⟨rfl, g, rfl⟩))
  go_ret
  exact ⟨ret_bool (by simp [b0]), gri⟩
 rcases Bool.eq_false_or_eq_true (wTo xt xv) with b1 | b1
 rotate_left
 ·go_enter Tryz.func59, Tryz.ntmps59
  iterate 3
   try first | rw [rounds_succ] | (refine wp_loop_rounds 2 ?_; rw [rounds_succ])
   go_wp2_with (((first | (go_at_call 78; with_reducible refine (namesB_any _ _).mono ?_) | (go_at_call 79; with_reducible refine (within_v _ _ _ _ _ _ _ _ _ _).mono ?_) | (go_at_call 79; with_reducible refine (within_t _ _ _ _ _ _ _ _ _ _).mono ?_) | (go_at_call 80; with_reducible refine (same13_any _ _ _ _ _ _ _ _ _ _ _ _ _ _ _ _ _ _ lx [] _ HX.out List.length_nil hn (h1.gr (gri)) Row.nil).mono ?_)); rintro _ _ ⟨rfl, g, rfl⟩))
  go_ret
  exact ⟨ret_bool (by simp [b0, b1]), gri⟩
 go_enter Tryz.func59, Tryz.ntmps59
 iterate 4
  try first | rw [rounds_succ] | (refine wp_loop_rounds 3 ?_; rw [rounds_succ])
  go_wp2_with (((first | (go_at_call 78; with_reducible refine (namesB_any _ _).mono ?_) | (go_at_call 79; with_reducible refine (within_v _ _ _ _ _ _ _ _ _ _).mono ?_) | (go_at_call 79; with_reducible refine (within_t _ _ _ _ _ _ _ _ _ _).mono ?_) | (go_at_call 80; with_reducible refine (same13_any _ _ _ _ _ _ _ _ _ _ _ _ _ _ _ _ _ _ lx [] _ HX.out List.length_nil hn (h1.gr (gri)) Row.nil).mono ?_)); rintro _ _ ⟨rfl, g, rfl⟩))
 go_ret
 exact ⟨ret_bool (by simp [sameB, b0, b1, Bool.and_assoc]), gri⟩
set_option maxHeartbeats 2000000 in
theorem mayOp_5 (xv xt xs xa xc : Int) (xD : Option Addr) (xn xq : Nat) (lx : List UInt8) (w : World) (hx : lx.length = xn) (hn : xn ≤ 9223372036854775807) (h1 : Row bv w xD lx) : Calls Tryz.prog 59 #[(Value.agg #[.int .i64 5, .int .u64 xv, .int .u64 xt, .int .i64 xs, .int .i64 xa, .int .i64 xc, .slice xD xn xq])] w fun e w' => e = .returned (.bool (mayOpB 5 xv xt xs xa xc xn lx)) ∧ Gr w w' := by
 have HX := Lib.hid hx; clear hx
 have en : namesB 5 = ⟨#[118, 97, 100]⟩ := rfl
 have E0 : mayOpB 5 xv xt xs xa xc xn lx = (wVol xv && wAt xa && wData xn && (xt == 0) && (xs == 0) && (xc == 0)) := rfl
 rw [E0]; clear E0
 rcases Bool.eq_false_or_eq_true (wVol xv) with b0 | b0
 rotate_left
 ·go_enter Tryz.func59, Tryz.ntmps59
  iterate 2
   try first | rw [rounds_succ] | (refine wp_loop_rounds 1 ?_; rw [rounds_succ])
   go_wp2_with (((first | (go_at_call 78; with_reducible refine (namesB_any _ _).mono ?_) | (go_at_call 79; with_reducible refine (within_v _ _ _ _ _ _ _ _ _ _).mono ?_) | (go_at_call 79; with_reducible refine (within_a _ _ _ _ _ _ _ _ _ _).mono ?_) | (go_at_call 79; with_reducible refine (within_d _ _ _ _ _ _ _ _ _ _).mono ?_) | (go_at_call 80; with_reducible refine (same13_any _ _ _ _ _ _ _ _ _ _ _ _ _ _ _ _ _ _ lx lx _ HX.out HX.out hn (h1.gr (gri)) (h1.gr (gri))).mono ?_)); rintro _ _ ⟨rfl, g, rfl⟩))
  go_ret
  exact ⟨ret_bool (by simp [b0]), gri⟩
 rcases Bool.eq_false_or_eq_true (wAt xa) with b1 | b1
 rotate_left
 ·go_enter Tryz.func59, Tryz.ntmps59
  iterate 3
   try first | rw [rounds_succ] | (refine wp_loop_rounds 2 ?_; rw [rounds_succ])
   go_wp2_with (((first | (go_at_call 78; with_reducible refine (namesB_any _ _).mono ?_) | (go_at_call 79; with_reducible refine (within_v _ _ _ _ _ _ _ _ _ _).mono ?_) | (go_at_call 79; with_reducible refine (within_a _ _ _ _ _ _ _ _ _ _).mono ?_) | (go_at_call 79; with_reducible refine (within_d _ _ _ _ _ _ _ _ _ _).mono ?_) | (go_at_call 80; with_reducible refine (same13_any _ _ _ _ _ _ _ _ _ _ _ _ _ _ _ _ _ _ lx lx _ HX.out HX.out hn (h1.gr (gri)) (h1.gr (gri))).mono ?_)); rintro _ _ ⟨rfl, g, rfl⟩))
  go_ret
  exact ⟨ret_bool (by simp [b0, b1]), gri⟩
 rcases Bool.eq_false_or_eq_true (wData xn) with b2 | b2
 rotate_left
 ·go_enter Tryz.func59, Tryz.ntmps59
  iterate 4
   try first | rw [rounds_succ] | (refine wp_loop_rounds 3 ?_; rw [rounds_succ])
   go_wp2_with (((first | (go_at_call 78; with_reducible refine (namesB_any _ _).mono ?_) | (go_at_call 79; with_reducible refine (within_v _ _ _ _ _ _ _ _ _ _).mono ?_) | (go_at_call 79; with_reducible refine (within_a _ _ _ _ _ _ _ _ _ _).mono ?_) | (go_at_call 79; with_reducible refine (within_d _ _ _ _ _ _ _ _ _ _).mono ?_) | (go_at_call 80; with_reducible refine (same13_any _ _ _ _ _ _ _ _ _ _ _ _ _ _ _ _ _ _ lx lx _ HX.out HX.out hn (h1.gr (gri)) (h1.gr (gri))).mono ?_)); rintro _ _ ⟨rfl, g, rfl⟩))
  go_ret
  exact ⟨ret_bool (by simp [b0, b1, b2]), gri⟩
 go_enter Tryz.func59, Tryz.ntmps59
 iterate 5
  try first | rw [rounds_succ] | (refine wp_loop_rounds 4 ?_; rw [rounds_succ])
  go_wp2_with (((first | (go_at_call 78; with_reducible refine (namesB_any _ _).mono ?_) | (go_at_call 79; with_reducible refine (within_v _ _ _ _ _ _ _ _ _ _).mono ?_) | (go_at_call 79; with_reducible refine (within_a _ _ _ _ _ _ _ _ _ _).mono ?_) | (go_at_call 79; with_reducible refine (within_d _ _ _ _ _ _ _ _ _ _).mono ?_) | (go_at_call 80; with_reducible refine (same13_any _ _ _ _ _ _ _ _ _ _ _ _ _ _ _ _ _ _ lx lx _ HX.out HX.out hn (h1.gr (gri)) (h1.gr (gri))).mono ?_)); rintro _ _ ⟨rfl, g, rfl⟩))
 go_ret
 exact ⟨ret_bool (by simp [sameB, b0, b1, b2, Bool.and_assoc]), gri⟩
set_option maxHeartbeats 2000000 in
theorem mayOp_6 (xv xt xs xa xc : Int) (xD : Option Addr) (xn xq : Nat) (lx : List UInt8) (w : World) (hx : lx.length = xn) (hn : xn ≤ 9223372036854775807) (h1 : Row bv w xD lx) : Calls Tryz.prog 59 #[(Value.agg #[.int .i64 6, .int .u64 xv, .int .u64 xt, .int .i64 xs, .int .i64 xa, .int .i64 xc, .slice xD xn xq])] w fun e w' => e = .returned (.bool (mayOpB 6 xv xt xs xa xc xn lx)) ∧ Gr w w' := by
 have HX := Lib.hid hx; clear hx
 have en : namesB 6 = ⟨#[118, 97, 99]⟩ := rfl
 have E0 : mayOpB 6 xv xt xs xa xc xn lx = (wVol xv && wAt xa && wCount xc && (xt == 0) && (xs == 0) && (lx == [])) := rfl
 rw [E0]; clear E0
 rcases Bool.eq_false_or_eq_true (wVol xv) with b0 | b0
 rotate_left
 ·go_enter Tryz.func59, Tryz.ntmps59
  iterate 2
   try first | rw [rounds_succ] | (refine wp_loop_rounds 1 ?_; rw [rounds_succ])
   go_wp2_with (((first | (go_at_call 78; with_reducible refine (namesB_any _ _).mono ?_) | (go_at_call 79; with_reducible refine (within_v _ _ _ _ _ _ _ _ _ _).mono ?_) | (go_at_call 79; with_reducible refine (within_a _ _ _ _ _ _ _ _ _ _).mono ?_) | (go_at_call 79; with_reducible refine (within_c _ _ _ _ _ _ _ _ _ _).mono ?_) | (go_at_call 80; with_reducible refine (same13_any _ _ _ _ _ _ _ _ _ _ _ _ _ _ _ _ _ _ lx [] _ HX.out List.length_nil hn (h1.gr (gri)) Row.nil).mono ?_)); rintro _ _ ⟨rfl, g, rfl⟩))
  go_ret
  exact ⟨ret_bool (by simp [b0]), gri⟩
 rcases Bool.eq_false_or_eq_true (wAt xa) with b1 | b1
 rotate_left
 ·go_enter Tryz.func59, Tryz.ntmps59
  iterate 3
   try first | rw [rounds_succ] | (refine wp_loop_rounds 2 ?_; rw [rounds_succ])
   go_wp2_with (((first | (go_at_call 78; with_reducible refine (namesB_any _ _).mono ?_) | (go_at_call 79; with_reducible refine (within_v _ _ _ _ _ _ _ _ _ _).mono ?_) | (go_at_call 79; with_reducible refine (within_a _ _ _ _ _ _ _ _ _ _).mono ?_) | (go_at_call 79; with_reducible refine (within_c _ _ _ _ _ _ _ _ _ _).mono ?_) | (go_at_call 80; with_reducible refine (same13_any _ _ _ _ _ _ _ _ _ _ _ _ _ _ _ _ _ _ lx [] _ HX.out List.length_nil hn (h1.gr (gri)) Row.nil).mono ?_)); rintro _ _ ⟨rfl, g, rfl⟩))
  go_ret
  exact ⟨ret_bool (by simp [b0, b1]), gri⟩
 rcases Bool.eq_false_or_eq_true (wCount xc) with b2 | b2
 rotate_left
 ·go_enter Tryz.func59, Tryz.ntmps59
  iterate 4
   try first | rw [rounds_succ] | (refine wp_loop_rounds 3 ?_; rw [rounds_succ])
   go_wp2_with (((first | (go_at_call 78; with_reducible refine (namesB_any _ _).mono ?_) | (go_at_call 79; with_reducible refine (within_v _ _ _ _ _ _ _ _ _ _).mono ?_) | (go_at_call 79; with_reducible refine (within_a _ _ _ _ _ _ _ _ _ _).mono ?_) | (go_at_call 79; with_reducible refine (within_c _ _ _ _ _ _ _ _ _ _).mono ?_) | (go_at_call 80; with_reducible refine (same13_any _ _ _ _ _ _ _ _ _ _ _ _ _ _ _ _ _ _ lx [] _ HX.out List.length_nil hn (h1.gr (gri)) Row.nil).mono ?_)); rintro _ _ ⟨rfl, g, rfl⟩))
  go_ret
  exact ⟨ret_bool (by simp [b0, b1, b2]), gri⟩
 go_enter Tryz.func59, Tryz.ntmps59
 iterate 5
  try first | rw [rounds_succ] | (refine wp_loop_rounds 4 ?_; rw [rounds_succ])
  go_wp2_with (((first | (go_at_call 78; with_reducible refine (namesB_any _ _).mono ?_) | (go_at_call 79; with_reducible refine (within_v _ _ _ _ _ _ _ _ _ _).mono ?_) | (go_at_call 79; with_reducible refine (within_a _ _ _ _ _ _ _ _ _ _).mono ?_) | (go_at_call 79; with_reducible refine (within_c _ _ _ _ _ _ _ _ _ _).mono ?_) | (go_at_call 80; with_reducible refine (same13_any _ _ _ _ _ _ _ _ _ _ _ _ _ _ _ _ _ _ lx [] _ HX.out List.length_nil hn (h1.gr (gri)) Row.nil).mono ?_)); rintro _ _ ⟨rfl, g, rfl⟩))
 go_ret
 exact ⟨ret_bool (by simp [sameB, b0, b1, b2, Bool.and_assoc]), gri⟩
set_option maxHeartbeats 2000000 in
theorem mayOp_7 (xv xt xs xa xc : Int) (xD : Option Addr) (xn xq : Nat) (lx : List UInt8) (w : World) (hx : lx.length = xn) (hn : xn ≤ 9223372036854775807) (h1 : Row bv w xD lx) : Calls Tryz.prog 59 #[(Value.agg #[.int .i64 7, .int .u64 xv, .int .u64 xt, .int .i64 xs, .int .i64 xa, .int .i64 xc, .slice xD xn xq])] w fun e w' => e = .returned (.bool (mayOpB 7 xv xt xs xa xc xn lx)) ∧ Gr w w' := by
 have HX := Lib.hid hx; clear hx
 have en : namesB 7 = ⟨#[118, 97, 99]⟩ := rfl
 have E0 : mayOpB 7 xv xt xs xa xc xn lx = (wVol xv && wAt xa && wCount xc && (xt == 0) && (xs == 0) && (lx == [])) := rfl
 rw [E0]; clear E0
 rcases Bool.eq_false_or_eq_true (wVol xv) with b0 | b0
 rotate_left
 ·go_enter Tryz.func59, Tryz.ntmps59
  iterate 2
   try first | rw [rounds_succ] | (refine wp_loop_rounds 1 ?_; rw [rounds_succ])
   go_wp2_with (((first | (go_at_call 78; with_reducible refine (namesB_any _ _).mono ?_) | (go_at_call 79; with_reducible refine (within_v _ _ _ _ _ _ _ _ _ _).mono ?_) | (go_at_call 79; with_reducible refine (within_a _ _ _ _ _ _ _ _ _ _).mono ?_) | (go_at_call 79; with_reducible refine (within_c _ _ _ _ _ _ _ _ _ _).mono ?_) | (go_at_call 80; with_reducible refine (same13_any _ _ _ _ _ _ _ _ _ _ _ _ _ _ _ _ _ _ lx [] _ HX.out List.length_nil hn (h1.gr (gri)) Row.nil).mono ?_)); rintro _ _ ⟨rfl, g, rfl⟩))
  go_ret
  exact ⟨ret_bool (by simp [b0]), gri⟩
 rcases Bool.eq_false_or_eq_true (wAt xa) with b1 | b1
 rotate_left
 ·go_enter Tryz.func59, Tryz.ntmps59
  iterate 3
   try first | rw [rounds_succ] | (refine wp_loop_rounds 2 ?_; rw [rounds_succ])
   go_wp2_with (((first | (go_at_call 78; with_reducible refine (namesB_any _ _).mono ?_) | (go_at_call 79; with_reducible refine (within_v _ _ _ _ _ _ _ _ _ _).mono ?_) | (go_at_call 79; with_reducible refine (within_a _ _ _ _ _ _ _ _ _ _).mono ?_) | (go_at_call 79; with_reducible refine (within_c _ _ _ _ _ _ _ _ _ _).mono ?_) | (go_at_call 80; with_reducible refine (same13_any _ _ _ _ _ _ _ _ _ _ _ _ _ _ _ _ _ _ lx [] _ HX.out List.length_nil hn (h1.gr (gri)) Row.nil).mono ?_)); rintro _ _ ⟨rfl, g, rfl⟩))
  go_ret
  exact ⟨ret_bool (by simp [b0, b1]), gri⟩
 rcases Bool.eq_false_or_eq_true (wCount xc) with b2 | b2
 rotate_left
 ·go_enter Tryz.func59, Tryz.ntmps59
  iterate 4
   try first | rw [rounds_succ] | (refine wp_loop_rounds 3 ?_; rw [rounds_succ])
   go_wp2_with (((first | (go_at_call 78; with_reducible refine (namesB_any _ _).mono ?_) | (go_at_call 79; with_reducible refine (within_v _ _ _ _ _ _ _ _ _ _).mono ?_) | (go_at_call 79; with_reducible refine (within_a _ _ _ _ _ _ _ _ _ _).mono ?_) | (go_at_call 79; with_reducible refine (within_c _ _ _ _ _ _ _ _ _ _).mono ?_) | (go_at_call 80; with_reducible refine (same13_any _ _ _ _ _ _ _ _ _ _ _ _ _ _ _ _ _ _ lx [] _ HX.out List.length_nil hn (h1.gr (gri)) Row.nil).mono ?_)); rintro _ _ ⟨rfl, g, rfl⟩))
  go_ret
  exact ⟨ret_bool (by simp [b0, b1, b2]), gri⟩
 go_enter Tryz.func59, Tryz.ntmps59
 iterate 5
  try first | rw [rounds_succ] | (refine wp_loop_rounds 4 ?_; rw [rounds_succ])
  go_wp2_with (((first | (go_at_call 78; with_reducible refine (namesB_any _ _).mono ?_) | (go_at_call 79; with_reducible refine (within_v _ _ _ _ _ _ _ _ _ _).mono ?_) | (go_at_call 79; with_reducible refine (within_a _ _ _ _ _ _ _ _ _ _).mono ?_) | (go_at_call 79; with_reducible refine (within_c _ _ _ _ _ _ _ _ _ _).mono ?_) | (go_at_call 80; with_reducible refine (same13_any _ _ _ _ _ _ _ _ _ _ _ _ _ _ _ _ _ _ lx [] _ HX.out List.length_nil hn (h1.gr (gri)) Row.nil).mono ?_)); rintro _ _ ⟨rfl, g, rfl⟩))
 go_ret
 exact ⟨ret_bool (by simp [sameB, b0, b1, b2, Bool.and_assoc]), gri⟩
set_option maxHeartbeats 2000000 in
theorem mayOp_8 (xv xt xs xa xc : Int) (xD : Option Addr) (xn xq : Nat) (lx : List UInt8) (w : World) (hx : lx.length = xn) (hn : xn ≤ 9223372036854775807) (h1 : Row bv w xD lx) : Calls Tryz.prog 59 #[(Value.agg #[.int .i64 8, .int .u64 xv, .int .u64 xt, .int .i64 xs, .int .i64 xa, .int .i64 xc, .slice xD xn xq])] w fun e w' => e = .returned (.bool (mayOpB 8 xv xt xs xa xc xn lx)) ∧ Gr w w' := by
 have HX := Lib.hid hx; clear hx
 have en : namesB 8 = ⟨#[]⟩ := rfl
 have E0 : mayOpB 8 xv xt xs xa xc xn lx = ((xv == 0) && (xt == 0) && (xs == 0) && (xa == 0) && (xc == 0) && (lx == [])) := rfl
 rw [E0]; clear E0
 go_enter Tryz.func59, Tryz.ntmps59
 iterate 2
  try first | rw [rounds_succ] | (refine wp_loop_rounds 1 ?_; rw [rounds_succ])
  go_wp2_with (((first | (go_at_call 78; with_reducible refine (namesB_any _ _).mono ?_) | (go_at_call 80; with_reducible refine (same13_any _ _ _ _ _ _ _ _ _ _ _ _ _ _ _ _ _ _ lx [] _ HX.out List.length_nil hn (h1.gr (gri)) Row.nil).mono ?_)); rintro _ _ ⟨rfl, g, rfl⟩))
 go_ret
 exact ⟨ret_bool (by simp [sameB, Bool.and_assoc]), gri⟩
set_option maxHeartbeats 2000000 in
theorem mayOp_9 (xv xt xs xa xc : Int) (xD : Option Addr) (xn xq : Nat) (lx : List UInt8) (w : World) (hx : lx.length = xn) (hn : xn ≤ 9223372036854775807) (h1 : Row bv w xD lx) : Calls Tryz.prog 59 #[(Value.agg #[.int .i64 9, .int .u64 xv, .int .u64 xt, .int .i64 xs, .int .i64 xa, .int .i64 xc, .slice xD xn xq])] w fun e w' => e = .returned (.bool (mayOpB 9 xv xt xs xa xc xn lx)) ∧ Gr w w' := by
 have HX := Lib.hid hx; clear hx
 have en : namesB 9 = ⟨#[118, 97, 99]⟩ := rfl
 have E0 : mayOpB 9 xv xt xs xa xc xn lx = (wVol xv && wAt xa && wCount xc && (xt == 0) && (xs == 0) && (lx == [])) := rfl
 rw [E0]; clear E0
 rcases Bool.eq_false_or_eq_true (wVol xv) with b0 | b0
 rotate_left
 ·go_enter Tryz.func59, Tryz.ntmps59
  iterate 2
   try first | rw [rounds_succ] | (refine wp_loop_rounds 1 ?_; rw [rounds_succ])
   go_wp2_with (((first | (go_at_call 78; with_reducible refine (namesB_any _ _).mono ?_) | (go_at_call 79; with_reducible refine (within_v _ _ _ _ _ _ _ _ _ _).mono ?_) | (go_at_call 79; with_reducible refine (within_a _ _ _ _ _ _ _ _ _ _).mono ?_) | (go_at_call 79; with_reducible refine (within_c _ _ _ _ _ _ _ _ _ _).mono ?_) | (go_at_call 80; with_reducible refine (same13_any _ _ _ _ _ _ _ _ _ _ _ _ _ _ _ _ _ _ lx [] _ HX.out List.length_nil hn (h1.gr (gri)) Row.nil).mono ?_)); rintro _ _ ⟨rfl, g, rfl⟩))
  go_ret
  exact ⟨ret_bool (by simp [b0]), gri⟩
 rcases Bool.eq_false_or_eq_true (wAt xa) with b1 | b1
 rotate_left
 ·go_enter Tryz.func59, Tryz.ntmps59
  iterate 3
   try first | rw [rounds_succ] | (refine wp_loop_rounds 2 ?_; rw [rounds_succ])
   go_wp2_with (((first | (go_at_call 78; with_reducible refine (namesB_any _ _).mono ?_) | (go_at_call 79; with_reducible refine (within_v _ _ _ _ _ _ _ _ _ _).mono ?_) | (go_at_call 79; with_reducible refine (within_a _ _ _ _ _ _ _ _ _ _).mono ?_) | (go_at_call 79; with_reducible refine (within_c _ _ _ _ _ _ _ _ _ _).mono ?_) | (go_at_call 80; with_reducible refine (same13_any _ _ _ _ _ _ _ _ _ _ _ _ _ _ _ _ _ _ lx [] _ HX.out List.length_nil hn (h1.gr (gri)) Row.nil).mono ?_)); rintro _ _ ⟨rfl, g, rfl⟩))
  go_ret
  exact ⟨ret_bool (by simp [b0, b1]), gri⟩
 rcases Bool.eq_false_or_eq_true (wCount xc) with b2 | b2
 rotate_left
 ·go_enter Tryz.func59, Tryz.ntmps59
  iterate 4
   try first | rw [rounds_succ] | (refine wp_loop_rounds 3 ?_; rw [rounds_succ])
   go_wp2_with (((first | (go_at_call 78; with_reducible refine (namesB_any _ _).mono ?_) | (go_at_call 79; with_reducible refine (within_v _ _ _ _ _ _ _ _ _ _).mono ?_) | (go_at_call 79; with_reducible refine (within_a _ _ _ _ _ _ _ _ _ _).mono ?_) | (go_at_call 79; with_reducible refine (within_c _ _ _ _ _ _ _ _ _ _).mono ?_) | (go_at_call 80; with_reducible refine (same13_any _ _ _ _ _ _ _ _ _ _ _ _ _ _ _ _ _ _ lx [] _ HX.out List.length_nil hn (h1.gr (gri)) Row.nil).mono ?_)); rintro _ _ ⟨rfl, g, rfl⟩))
  go_ret
  exact ⟨ret_bool (by simp [b0, b1, b2]), gri⟩
 go_enter Tryz.func59, Tryz.ntmps59
 iterate 5
  try first | rw [rounds_succ] | (refine wp_loop_rounds 4 ?_; rw [rounds_succ])
  go_wp2_with (((first | (go_at_call 78; with_reducible refine (namesB_any _ _).mono ?_) | (go_at_call 79; with_reducible refine (within_v _ _ _ _ _ _ _ _ _ _).mono ?_) | (go_at_call 79; with_reducible refine (within_a _ _ _ _ _ _ _ _ _ _).mono ?_) | (go_at_call 79; with_reducible refine (within_c _ _ _ _ _ _ _ _ _ _).mono ?_) | (go_at_call 80; with_reducible refine (same13_any _ _ _ _ _ _ _ _ _ _ _ _ _ _ _ _ _ _ lx [] _ HX.out List.length_nil hn (h1.gr (gri)) Row.nil).mono ?_)); rintro _ _ ⟨rfl, g, rfl⟩))
 go_ret
 exact ⟨ret_bool (by simp [sameB, b0, b1, b2, Bool.and_assoc]), gri⟩
set_option maxHeartbeats 2000000 in
theorem mayOp_off (xk xv xt xs xa xc : Int) (xD : Option Addr) (xn xq : Nat) (lx : List UInt8) (w : World) (h : xk < 1 ∨ 9 < xk) : Calls Tryz.prog 59 #[(Value.agg #[.int .i64 xk, .int .u64 xv, .int .u64 xt, .int .i64 xs, .int .i64 xa, .int .i64 xc, .slice xD xn xq])] w fun e w' => e = .returned (.bool (mayOpB xk xv xt xs xa xc xn lx)) ∧ Gr w w' := by
 have en : namesB xk = ⟨#[]⟩ := namesB_off xk (by omega)
 have E0 : mayOpB xk xv xt xs xa xc xn lx = false := by
  unfold mayOpB
  repeat (rw [if_neg (by omega)])
 rw [E0]; clear E0
 rcases h with h | h
 ·have h2 : decide (1 ≤ xk) = false := by simpa using h
  go_enter Tryz.func59, Tryz.ntmps59
  iterate 2
   try first | rw [rounds_succ] | (refine wp_loop_rounds 1 ?_; rw [rounds_succ])
   go_wp2_with ((go_at_call 78; ((with_reducible refine (namesB_any _ _).mono ?_); rintro _ _ ⟨rfl, g, rfl⟩)))
  go_ret
  exact ⟨rfl, gri⟩
 ·have h2 : decide (xk ≤ 9) = false := by simpa using h
  have h3 : 1 ≤ xk := by omega
  go_enter Tryz.func59, Tryz.ntmps59
  iterate 2
   try first | rw [rounds_succ] | (refine wp_loop_rounds 1 ?_; rw [rounds_succ])
   go_wp2_with ((go_at_call 78; ((with_reducible refine (namesB_any _ _).mono ?_); rintro _ _ ⟨rfl, g, rfl⟩)))
  go_ret
  exact ⟨rfl, gri⟩
theorem mayOp_any (xk xv xt xs xa xc : Int) (xD : Option Addr) (xn xq : Nat) (lx : List UInt8) (w : World) (hx : lx.length = xn) (hn : xn ≤ 9223372036854775807) (h1 : Row bv w xD lx) : Calls Tryz.prog 59 #[(Value.agg #[.int .i64 xk, .int .u64 xv, .int .u64 xt, .int .i64 xs, .int .i64 xa, .int .i64 xc, .slice xD xn xq])] w fun e w' => e = .returned (.bool (mayOpB xk xv xt xs xa xc xn lx)) ∧ Gr w w' := by
 by_cases h : xk < 1 ∨ 9 < xk
 ·exact mayOp_off xk xv xt xs xa xc xD xn xq lx w h
 ·have h3 : xk = 1 ∨ xk = 2 ∨ xk = 3 ∨ xk = 4 ∨ xk = 5 ∨ xk = 6 ∨ xk = 7 ∨ xk = 8 ∨ xk = 9 := by omega
  rcases h3 with rfl | rfl | rfl | rfl | rfl | rfl | rfl | rfl | rfl
  ·exact mayOp_1 xv xt xs xa xc xD xn xq lx w hx hn h1
  ·exact mayOp_2 xv xt xs xa xc xD xn xq lx w hx hn h1
  ·exact mayOp_3 xv xt xs xa xc xD xn xq lx w hx hn h1
  ·exact mayOp_4 xv xt xs xa xc xD xn xq lx w hx hn h1
  ·exact mayOp_5 xv xt xs xa xc xD xn xq lx w hx hn h1
  ·exact mayOp_6 xv xt xs xa xc xD xn xq lx w hx hn h1
  ·exact mayOp_7 xv xt xs xa xc xD xn xq lx w hx hn h1
  ·exact mayOp_8 xv xt xs xa xc xD xn xq lx w hx hn h1
  ·exact mayOp_9 xv xt xs xa xc xD xn xq lx w hx hn h1
structure OpM where
 k : Int
 v : Int
 t : Int
 s : Int
 a : Int
 c : Int
 l : Byt
def OpM.may (o : OpM) : Bool := mayOpB o.k o.v o.t o.s o.a o.c o.l.length o.l
structure Spn where
 b : Nat
 f : Nat
 t : Nat
def spansK : Nat → Nat → Nat → List Spn
 | 0, _, _ => []
 | n + 1, a, c => if c = 0 then [] else ⟨a / 4, a % 4, a % 4 + min (4 - a % 4) c⟩ :: spansK n (a + min (4 - a % 4) c) (c - min (4 - a % 4) c)
def spans (a c : Nat) : List Spn := spansK c a c
def mergeB (B : Byt) (f : Nat) (x : Byt) : Byt := B.take (64 * f) ++ x ++ B.drop (64 * f + x.length)
def segK (s : Spn) (a : Nat) (data : Byt) : Byt := (data.drop (64 * (4 * s.b + s.f - a))).take (64 * (s.t - s.f))
def cutK (B : Byt) (s : Spn) : Byt := (B.drop (64 * s.f)).take (64 * (s.t - s.f))
def blkM (m : List (Int × Byt)) (b : Nat) : Byt := (getK m b).getD zB
def putS (a : Nat) (data : Byt) (m : List (Int × Byt)) (s : Spn) : List (Int × Byt) := putK m s.b (mergeB (blkM m s.b) s.f (segK s a data))
def putL (a : Nat) (data : Byt) (m : List (Int × Byt)) (l : List Spn) : List (Int × Byt) := l.foldl (putS a data) m
def errK (d : Dev) (o : OpM) : Int :=
 if o.may = false then 2 else if o.k = 8 then 0 else match getK d o.v with
  | none => if o.k = 1 then 0 else 6
  | some x => if o.k = 1 then 7 else if o.k = 4 then (if (getK d o.t).isSome then 7 else 0) else if o.k = 5 then (if 4 * x.1 < o.a + (o.l.length / 64 : Nat) then 5 else 0)
   else if o.k = 6 ∨ o.k = 9 then (if 4 * x.1 < o.a + o.c then 5 else 0) else if o.k = 7 then (if x.1 < o.a + o.c then 5 else 0) else 0
def volD (d : Dev) (v : Int) : VolM := (getK d v).getD (0, [])
def dataO (o : OpM) : Byt := if o.k = 6 then List.replicate (64 * o.c.toNat) 0 else o.l
def cntO (o : OpM) : Nat := if o.k = 5 then o.l.length / 64 else o.c.toNat
def didK (d : Dev) (o : OpM) (most : Int) : Dev :=
 if o.k = 1 then putK d o.v (o.s, []) else if o.k = 2 then delK d o.v
 else if o.k = 3 then putK d o.v (o.s, (volD d o.v).2.filter fun p => decide (p.1 < o.s))
 else if o.k = 4 then putK d o.t (volD d o.v)
 else if o.k = 5 ∨ o.k = 6 then putK d o.v ((volD d o.v).1, putL o.a.toNat (dataO o) (volD d o.v).2 ((spans o.a.toNat (cntO o)).take most.toNat))
 else if o.k = 7 then putK d o.v ((volD d o.v).1, (volD d o.v).2.filter fun p => decide (p.1 < o.a ∨ o.a + o.c ≤ p.1)) else d
def readK (d : Dev) (o : OpM) : Byt := (spans o.a.toNat o.c.toNat).flatMap fun s => cutK (blkM (volD d o.v).2 s.b) s
def partK (d : Dev) (o : OpM) (most : Int) : Dev := if errK d o = 0 then didK d o most else d
def ansK (d : Dev) (o : OpM) (most : Int) : Int × Int × Byt :=
 if errK d o = 0 then (if (o.k = 5 ∨ o.k = 6) ∧ most < (spans o.a.toNat (cntO o)).length then (8, max most 0, []) else (0, 0, if o.k = 9 then readK d o else [])) else (errK d o, 0, [])
def doK (d : Dev) (o : OpM) : Dev := partK d o 1024
def devOf (l : List OpM) : Dev := l.foldl doK []
/-! Spans. -/
theorem spansK_all : ∀ (n a c : Nat), ∀ s ∈ spansK n a c, s.f < s.t ∧ s.t ≤ 4 ∧ a ≤ 4 * s.b + s.f ∧ 4 * s.b + s.t ≤ a + c
 | 0, _, _, s, h => by simp [spansK] at h
 | n + 1, a, c, s, h => by
  unfold spansK at h
  split at h
  ·simp at h
  ·rcases List.mem_cons.1 h with rfl | h
   ·simp only; omega
   ·have := spansK_all n _ _ s h
    omega
theorem spans_all {a c : Nat} : ∀ s ∈ spans a c, s.f < s.t ∧ s.t ≤ 4 ∧ a ≤ 4 * s.b + s.f ∧ 4 * s.b + s.t ≤ a + c := spansK_all c a c
theorem spansK_len : ∀ (n a c : Nat), (spansK n a c).length ≤ n
 | 0, _, _ => by simp [spansK]
 | n + 1, a, c => by
  unfold spansK
  split
  ·simp
  ·simp only [List.length_cons]; exact Nat.succ_le_succ (spansK_len n _ _)
theorem spans_len (a c : Nat) : (spans a c).length ≤ c := spansK_len c a c
theorem spansK_fuel : ∀ (n m a c : Nat), c ≤ n → c ≤ m → spansK n a c = spansK m a c
 | 0, m, a, c, h1, h2 => by
  have : c = 0 := by omega
  subst this
  cases m with
  | zero => rfl
  | succ m => simp [spansK]
 | n + 1, 0, a, c, h1, h2 => by
  have : c = 0 := by omega
  subst this
  simp [spansK]
 | n + 1, m + 1, a, c, h1, h2 => by
  unfold spansK
  split
  ·rfl
  ·rename_i hc
   rw [spansK_fuel n m _ _ (by omega) (by omega)]
theorem spans_cons (a c : Nat) (h : 0 < c) : spans a c = ⟨a / 4, a % 4, a % 4 + min (4 - a % 4) c⟩ :: spans (a + min (4 - a % 4) c) (c - min (4 - a % 4) c) := by
 unfold spans
 cases c with
 | zero => omega
 | succ c =>
  conv => lhs; unfold spansK
  rw [if_neg (by omega)]
  congr 1
  exact spansK_fuel _ _ _ _ (by omega) (Nat.le_refl _)
theorem spans_zero (a : Nat) : spans a 0 = [] := rfl
/-! What keeps a volume whole. -/
theorem mergeB_len (B : Byt) (f : Nat) (x : Byt) (h : B.length = 256) (hx : 64 * f + x.length ≤ 256) : (mergeB B f x).length = 256 := by
 simp [mergeB, h]; omega
theorem segK_len (s : Spn) (a : Nat) (data : Byt) : (segK s a data).length ≤ 64 * (s.t - s.f) := by simp [segK]; omega
theorem blkM_len {m : List (Int × Byt)} (hs : SortK m) (h : ∀ p ∈ m, p.2.length = 256) (b : Nat) : (blkM m b).length = 256 := by
 unfold blkM
 cases hg : getK m b with
 | none => exact zB_len
 | some B => exact h _ ((getK_mem hs).1 hg)
theorem putS_ok {x : VolM} (hx : VolOk x) {a : Nat} {data : Byt} {s : Spn} (h : s.f < s.t ∧ s.t ≤ 4) (hb : (s.b : Int) < x.1) : VolOk (x.1, putS a data x.2 s) where
 s0 := hx.s0
 s1 := hx.s1
 sort := sort_putK hx.sort
 keys := fun p hp => by
  rcases (mem_putK hx.sort p).1 hp with rfl | ⟨hp, _⟩
  ·exact ⟨by simp, hb⟩
  ·exact hx.keys p hp
 len := fun p hp => by
  rcases (mem_putK hx.sort p).1 hp with rfl | ⟨hp, _⟩
  ·have := segK_len s a data
   exact mergeB_len _ _ _ (blkM_len hx.sort hx.len _) (by omega)
  ·exact hx.len p hp
theorem putL_ok {a : Nat} {data : Byt} : ∀ (l : List Spn) {x : VolM} (hx : VolOk x), (∀ s ∈ l, s.f < s.t ∧ s.t ≤ 4 ∧ (s.b : Int) < x.1) → VolOk (x.1, putL a data x.2 l)
 | [], x, hx, _ => hx
 | s :: l, x, hx, h => by
  have h1 := h s (.head _)
  exact putL_ok l (x := (x.1, putS a data x.2 s)) (putS_ok hx ⟨h1.1, h1.2.1⟩ h1.2.2) (fun s' hs' => h s' (.tail _ hs'))
theorem filter_ok {x : VolM} (hx : VolOk x) (f : Int × Byt → Bool) (n : Int) (h0 : 0 ≤ n) (h1 : n ≤ 256) (hf : ∀ p ∈ x.2, f p = true → p.1 < n) : VolOk (n, x.2.filter f) where
 s0 := h0
 s1 := h1
 sort := hx.sort.filter _
 keys := fun p hp => by
  have := List.mem_filter.1 hp
  exact ⟨(hx.keys p this.1).1, hf p this.1 this.2⟩
 len := fun p hp => hx.len p (List.mem_filter.1 hp).1
theorem put_ok {d : Dev} (h : DevOk d) {v : Int} {x : VolM} (h0 : 1 ≤ v) (h1 : v < 4294967296) (hx : VolOk x) : DevOk (putK d v x) where
 sort := sort_putK h.sort
 keys := fun p hp => by
  rcases (mem_putK h.sort p).1 hp with rfl | ⟨hp, _⟩
  ·exact ⟨h0, h1⟩
  ·exact h.keys p hp
 vols := fun p hp => by
  rcases (mem_putK h.sort p).1 hp with rfl | ⟨hp, _⟩
  ·exact hx
  ·exact h.vols p hp
theorem del_ok {d : Dev} (h : DevOk d) (v : Int) : DevOk (delK d v) where
 sort := sort_delK h.sort
 keys := fun p hp => h.keys p (List.mem_filter.1 hp).1
 vols := fun p hp => h.vols p (List.mem_filter.1 hp).1
theorem volD_ok {d : Dev} (h : DevOk d) (v : Int) : VolOk (volD d v) := by
 unfold volD
 cases hg : getK d v with
 | none => exact ⟨by simp, by simp, List.Pairwise.nil, by simp, by simp⟩
 | some x => exact h.vols _ ((getK_mem h.sort).1 hg)
theorem may_kind {o : OpM} (h : o.may = true) : 1 ≤ o.k ∧ o.k ≤ 9 := by
 rcases Int.lt_or_le o.k 1 with h1 | h1
 ·have : o.may = false := by
   unfold OpM.may mayOpB
   repeat (rw [if_neg (by omega)])
  rw [this] at h; cases h
 rcases Int.lt_or_le 9 o.k with h2 | h2
 ·have : o.may = false := by
   unfold OpM.may mayOpB
   repeat (rw [if_neg (by omega)])
  rw [this] at h; cases h
 exact ⟨h1, h2⟩
structure MayS (o : OpM) : Prop where
 vol : o.k ≠ 8 → 1 ≤ o.v ∧ o.v < 4294967296
 to : o.k = 4 → 1 ≤ o.t ∧ o.t < 4294967296 ∧ o.t ≠ o.v
 size : o.k = 1 ∨ o.k = 3 → 0 ≤ o.s ∧ o.s ≤ 256
 at_ : o.k = 5 ∨ o.k = 6 ∨ o.k = 7 ∨ o.k = 9 → 0 ≤ o.a ∧ o.a ≤ 1048576
 cnt : o.k = 6 ∨ o.k = 7 ∨ o.k = 9 → 1 ≤ o.c ∧ o.c ≤ 1024
 dat : o.k = 5 → 64 ≤ o.l.length ∧ o.l.length % 64 = 0 ∧ o.l.length ≤ 2048
theorem may_s {o : OpM} (h : o.may = true) : MayS o := by
 have hk := may_kind h
 obtain ⟨k, v, t, s, a, c, l⟩ := o
 simp only at hk
 have h9 : k = 1 ∨ k = 2 ∨ k = 3 ∨ k = 4 ∨ k = 5 ∨ k = 6 ∨ k = 7 ∨ k = 8 ∨ k = 9 := by omega
 unfold OpM.may at h
 rcases h9 with rfl | rfl | rfl | rfl | rfl | rfl | rfl | rfl | rfl
 all_goals
  simp [mayOpB, wVol, wTo, wSize, wAt, wCount, wData] at h
  constructor <;> intro hq <;> dsimp only at hq ⊢ <;> simp at hq ⊢ <;> omega
theorem part_ok {d : Dev} (h : DevOk d) (o : OpM) (most : Int) : DevOk (partK d o most) := by
 unfold partK
 split
 rotate_left
 ·exact h
 rename_i he
 have hm : o.may = true := by
  cases hm : o.may with
  | true => rfl
  | false => rw [errK, if_pos hm] at he; cases he
 have hs := may_s hm
 have hx := volD_ok h o.v
 unfold didK
 split
 ·exact put_ok h (hs.vol (by omega)).1 (hs.vol (by omega)).2 ⟨(hs.size (by omega)).1, (hs.size (by omega)).2, List.Pairwise.nil, by simp, by simp⟩
 split
 ·exact del_ok h _
 split
 ·exact put_ok h (hs.vol (by omega)).1 (hs.vol (by omega)).2 (filter_ok hx _ _ (hs.size (by omega)).1 (hs.size (by omega)).2 (fun p _ hp => by simpa using hp))
 split
 ·exact put_ok h (hs.to (by omega)).1 (hs.to (by omega)).2.1 hx
 split
 ·rename_i h1 h2 h3 h4 h5
  refine put_ok h (hs.vol (by omega)).1 (hs.vol (by omega)).2 (putL_ok _ hx fun s hs' => ?_)
  have h6 := spans_all s (List.mem_of_mem_take hs')
  refine ⟨h6.1, h6.2.1, ?_⟩
  rw [errK, if_neg (by rw [hm]; simp), if_neg (by omega)] at he
  have ha := hs.at_ (by omega)
  unfold volD
  cases hg : getK d o.v with
  | none => rw [hg] at he; simp only at he; rw [if_neg h1] at he; cases he
  | some x =>
   rw [hg] at he
   simp only [Option.getD_some]
   simp only [if_neg h1, if_neg h4] at he
   rcases h5 with h5 | h5
   ·rw [if_pos h5] at he
    have hc : cntO o = o.l.length / 64 := by rw [cntO, if_pos h5]
    rw [hc] at h6
    split at he
    ·cases he
    ·omega
   ·rw [if_neg (by omega), if_pos (.inl h5)] at he
    have hc : cntO o = o.c.toNat := by rw [cntO, if_neg (by omega)]
    rw [hc] at h6
    have := hs.cnt (by omega)
    split at he
    ·cases he
    ·omega
 split
 ·exact put_ok h (hs.vol (by omega)).1 (hs.vol (by omega)).2 (filter_ok hx _ _ hx.s0 hx.s1 (fun p hp _ => (hx.keys p hp).2))
 ·exact h
theorem devOf_ok : ∀ (l : List OpM), DevOk (devOf l) := by
 have : ∀ (l : List OpM) (d : Dev), DevOk d → DevOk (l.foldl doK d) := fun l => by
  induction l with
  | nil => exact fun d h => h
  | cons o r ih => exact fun d h => ih _ (part_ok h o 1024)
 exact fun l => this l [] ⟨List.Pairwise.nil, by simp, by simp⟩
def besK (x y : Option Byt) : Int := match x, y with
 | none, none => 1
 | some _, none => 5
 | none, some _ => 6
 | some a, some b => if a = b then 3 else 4
def kindK (d : Dev) (l r : Int) (b : Int) : Int := besK (blkK d l b) (blkK d r b)
abbrev Str := Int × Int × Int
def addS (out : List Str) (b : Nat) (k : Int) : List Str := match out.getLast? with
 | some x => if x.2.2 = k then out.dropLast ++ [(x.1, x.2.1 + 1, k)] else out ++ [((b : Int), 1, k)]
 | none => out ++ [((b : Int), 1, k)]
def strK (f : Nat → Int) : Nat → List Str
 | 0 => []
 | n + 1 => addS (strK f n) n (f n)
def chkK (d : Dev) (l : List Int) : Int := if l.Nodup then (if l.all fun v => (getK d v).isSome then 0 else 6) else 2
def maxK (d : Dev) (l r : Int) : Nat := max (sizeK d l).toNat (sizeK d r).toNat
def rowsK (d : Dev) (l r : Int) : List Str := if chkK d [l, r] = 0 then strK (fun b => kindK d l r b) (maxK d l r) else []
def swK (k : Int) : Int := if k = 5 then 6 else if k = 6 then 5 else k
def turnK (x : Str) : Str := (x.1, x.2.1, swK x.2.2)
theorem swK_swK (k : Int) : swK (swK k) = k := by unfold swK; repeat' split <;> omega
theorem swK_inj {j k : Int} (h : swK j = swK k) : j = k := by rw [← swK_swK j, h, swK_swK]
theorem besK_sw (x y : Option Byt) : besK y x = swK (besK x y) := by
 cases x <;> cases y <;> simp only [besK, swK] <;> try rfl
 rename_i a b
 by_cases h : a = b
 ·subst h; simp
 ·have : ¬ b = a := fun e => h e.symm
  simp [h, this]
theorem kindK_sw (d : Dev) (l r b : Int) : kindK d r l b = swK (kindK d l r b) := besK_sw _ _
theorem addS_sw (out : List Str) (b : Nat) (k : Int) : addS (out.map turnK) b (swK k) = (addS out b k).map turnK := by
 unfold addS
 rw [List.getLast?_map]
 cases h : out.getLast? with
 | none => simp [turnK]
 | some x =>
  simp only [Option.map_some]
  by_cases he : x.2.2 = k
  ·subst he
   simp [turnK, List.map_dropLast]
  ·have h2 : ¬ (turnK x).2.2 = swK k := fun e => he (swK_inj e)
   rw [if_neg he, if_neg h2]
   simp [turnK]
theorem strK_sw (f : Nat → Int) (n : Nat) : strK (fun b => swK (f b)) n = (strK f n).map turnK := by
 induction n with
 | zero => rfl
 | succ n ih => rw [strK, ih, addS_sw, strK]
theorem maxK_sw (d : Dev) (l r : Int) : maxK d r l = maxK d l r := by unfold maxK; omega
theorem chkK_sw (d : Dev) (l r : Int) : chkK d [r, l] = chkK d [l, r] := by
 unfold chkK
 by_cases h : l = r
 ·subst h; rfl
 ·have h2 : ¬ r = l := fun e => h e.symm
  have : ([r, l].all fun v => (getK d v).isSome) = [l, r].all fun v => (getK d v).isSome := by simp [Bool.and_comm]
  rw [this]; simp [h, h2]
theorem rowsK_sw (d : Dev) (l r : Int) : rowsK d r l = (rowsK d l r).map turnK := by
 unfold rowsK
 rw [chkK_sw, maxK_sw]
 split
 ·rw [← strK_sw]
  congr 1
  funext b
  exact kindK_sw d l r b
 ·rfl
def wholeK : Int → Option Int → List Str → Bool
 | _, _, [] => true
 | at_, last, x :: r => (x.1 == at_) && decide (1 ≤ x.2.1) && !(last == some x.2.2) && wholeK (at_ + x.2.1) (some x.2.2) r
theorem wholeK_snoc (at_ : Int) (last : Option Int) (l : List Str) (x : Str) : wholeK at_ last (l ++ [x]) = (wholeK at_ last l && (x.1 == at_ + (l.map (·.2.1)).sum) && decide (1 ≤ x.2.1) && !((match l.getLast? with | some y => some y.2.2 | none => last) == some x.2.2)) := by
 induction l generalizing at_ last with
 | nil => simp [wholeK]
 | cons y r ih =>
  simp only [List.cons_append, wholeK, ih]
  cases hr : r.getLast? with
  | none =>
   have : r = [] := List.getLast?_eq_none_iff.1 hr
   subst this
   simp [wholeK, Bool.and_assoc]
  | some z =>
   have h2 : (y :: r).getLast? = some z := by rw [List.getLast?_cons, hr]; rfl
   rw [h2]
   simp [Bool.and_assoc, Int.add_assoc]
theorem addS_sum (out : List Str) (b : Nat) (k : Int) : ((addS out b k).map (·.2.1)).sum = (out.map (·.2.1)).sum + 1 := by
 unfold addS
 cases h : out.getLast? with
 | none => simp
 | some x =>
  have h2 : out = out.dropLast ++ [x] := by
   have hne : out ≠ [] := by rintro rfl; simp at h
   rw [List.getLast?_eq_some_getLast hne, Option.some.injEq] at h
   rw [← h]; exact (List.dropLast_concat_getLast hne).symm
  simp only
  split
  ·conv => rhs; rw [h2]
   simp; omega
  ·simp
theorem strK_sum (f : Nat → Int) (n : Nat) : ((strK f n).map (·.2.1)).sum = n := by
 induction n with
 | zero => rfl
 | succ n ih => rw [strK, addS_sum, ih]; omega
theorem addS_whole (out : List Str) (k : Int) (b : Nat) (hs : (out.map (·.2.1)).sum = (b : Int)) (h : wholeK 0 none out = true) : wholeK 0 none (addS out b k) = true := by
 unfold addS
 cases hl : out.getLast? with
 | none =>
  have : out = [] := List.getLast?_eq_none_iff.1 hl
  subst this
  simp at hs
  simp [wholeK, ← hs]
 | some x =>
  have h2 : out = out.dropLast ++ [x] := by
   have hne : out ≠ [] := by rintro rfl; simp at hl
   rw [List.getLast?_eq_some_getLast hne, Option.some.injEq] at hl
   rw [← hl]; exact (List.dropLast_concat_getLast hne).symm
  simp only
  split
  ·rename_i he
   rw [h2, wholeK_snoc] at h
   rw [wholeK_snoc]
   simp only [Bool.and_eq_true, decide_eq_true_eq] at h ⊢
   refine ⟨⟨⟨h.1.1.1, h.1.1.2⟩, by have := h.1.2; omega⟩, ?_⟩
   rw [← he]; exact h.2
  ·rename_i he
   rw [wholeK_snoc, h, hl, hs]
   simp
   exact he
theorem strK_whole (f : Nat → Int) (n : Nat) : wholeK 0 none (strK f n) = true := by
 induction n with
 | zero => rfl
 | succ n ih => exact addS_whole _ _ _ (strK_sum f n) ih
theorem rowsK_whole (d : Dev) (l r : Int) : wholeK 0 none (rowsK d l r) = true := by
 unfold rowsK
 split
 ·exact strK_whole _ _
 ·rfl
theorem addS_len (out : List Str) (b : Nat) (k : Int) : (addS out b k).length ≤ out.length + 1 := by
 unfold addS
 split
 ·split
  ·simp
  ·simp
 ·simp
theorem strK_len (f : Nat → Int) (n : Nat) : (strK f n).length ≤ n := by
 induction n with
 | zero => simp [strK]
 | succ n ih => have := addS_len (strK f n) n (f n); rw [strK]; omega
theorem addS_mem {out : List Str} {b : Nat} {k : Int} {y : Str} (h : y ∈ addS out b k) : y ∈ out ∨ y = ((b : Int), 1, k) ∨ ∃ x ∈ out, y = (x.1, x.2.1 + 1, k) := by
 unfold addS at h
 cases hl : out.getLast? with
 | none =>
  rw [hl] at h
  rcases List.mem_append.1 h with h | h
  ·exact .inl h
  ·exact .inr (.inl (by simpa using h))
 | some x =>
  rw [hl] at h
  simp only at h
  split at h
  ·rcases List.mem_append.1 h with h | h
   ·exact .inl (List.dropLast_subset _ h)
   ·exact .inr (.inr ⟨x, List.mem_of_getLast? hl, by simpa using h⟩)
  ·rcases List.mem_append.1 h with h | h
   ·exact .inl h
   ·exact .inr (.inl (by simpa using h))
theorem strK_each (f : Nat → Int) (n : Nat) : ∀ x ∈ strK f n, 1 ≤ x.2.1 ∧ x.2.1 ≤ n ∧ 0 ≤ x.1 ∧ x.1 < n := by
 induction n with
 | zero => simp [strK]
 | succ n ih =>
  intro y hy
  rcases addS_mem hy with h | rfl | ⟨x, hx, rfl⟩
  ·have := ih y h; omega
  ·simp only; omega
  ·have := ih x hx; simp only; omega
theorem addS_last (L0 : List Str) (x : Str) (b : Nat) (k : Int) : addS (L0 ++ [x]) b k = if x.2.2 = k then L0 ++ [(x.1, x.2.1 + 1, k)] else L0 ++ [x] ++ [((b : Int), 1, k)] := by
 unfold addS
 simp
instance bne_succ2 (B : Nat) : BNe B (B + 1 + 1) := ⟨by omega⟩
instance bne_succ2' (B : Nat) : BNe (B + 1 + 1) B := ⟨by omega⟩
instance bne_succ3 (B : Nat) : BNe B (B + 1 + 1 + 1) := ⟨by omega⟩
instance bne_succ3' (B : Nat) : BNe (B + 1 + 1 + 1) B := ⟨by omega⟩
instance sizeN_setRow (W : World) (g : Nat) (cs : Array Value) (n : Nat) [h : SizeN W n] : SizeN (W.setRow g cs) n := ⟨by rw [setRow_size]; exact h.eq⟩
instance (b : Nat) (W : World) (g : Nat) (cs : Array Value) [h : Old b W] : Old b (W.setRow g cs) := ⟨by rw [setRow_size]; exact h.lt⟩
instance (a W : World) (g : Nat) (cs : Array Value) [h : From a W] : From a (W.setRow g cs) := ⟨by rw [setRow_size]; exact h.le⟩
theorem below_row {B g : Nat} {a W : World} (h : Below B a W) (hg : B ≤ g) (cs : Array Value) : Below B a (W.setRow g cs) :=
 h.trans ⟨rfl, rfl, rfl, by rw [setRow_size]; exact Nat.le_refl _, fun k hk => setRow_other W g k cs (by omega)⟩
instance (a W : World) (g : Nat) (cs : Array Value) [h : GrC a W] [k : Past a g] : GrC a (W.setRow g cs) := ⟨below_row h.b k.le cs⟩
instance blockAt_row (W : World) (B : Nat) (cs cs' : Array Value) (t : TypeId) [h : BlockAt W B cs t] : BlockAt (W.setRow B cs') B cs' t := ⟨setRow_heap W B cs cs' t (0, 0) h.eq⟩
instance (priority := low) blockAt_row' (W : World) (B C : Nat) (cs cs' : Array Value) (t : TypeId) [h : BlockAt W B cs t] [k : BNe B C] : BlockAt (W.setRow C cs') B cs t := ⟨(setRow_other W C B cs' k.ne).trans h.eq⟩
instance (W : World) (g : Nat) (cs : Array Value) [h : Tb W] [hf : Far g] : Tb (W.setRow g cs) :=
 h.keep (by rw [setRow_size]; exact Nat.le_refl _) (fun b hb => setRow_other W g b cs (by have := hf.le; omega))
section
variable {P : Program} {W : World} {ops : Array Oper} {rest : List Oper} {o : Oper} {a : Act} {Q : Exit → Act → World → Prop}
theorem run_storeRow (B : Nat) (zs cs : Array Value) (t : TypeId) (hB : BlockAt W B zs t) (hi : (P.info? t).map (·.size) = some cs.size) (hs : zs.size = cs.size) (h1 : ∀ v ∈ cs.toList, v.oneCell' = true) :
  (Instr.storeAt t (.pointer (some ⟨B, 0, none⟩)) (.agg cs)).run P W = .ok () (W.setRow B cs) := by
 have h := run_storeCells_from (P := P) B t cs.toList 0 zs W hB.eq (by simp [hs]) h1
 cases hq : P.info? t with
 | none => simp [hq] at hi
 | some i =>
  have hs2 : cs.size = i.size := by simp [hq] at hi; omega
  simp only [List.take_zero, List.nil_append, Array.toArray_toList] at h
  simp [Instr.storeAt, Instr.sureAddr, storeVar, sizeOf, typeInfo, Sem.run_bind, hq, Value.cells, hs2, h]
theorem wpList_storeRow (hgd : o.guard = none) (t : TypeId) (x y : Operand) (ho : o.op = .store t x y) (B : Nat) (zs cs : Array Value) (hx : a.eval x = .pointer (some ⟨B, 0, none⟩)) (hy : a.eval y = .agg cs) (hB : BlockAt W B zs t) (hi : (P.info? t).map (·.size) = some cs.size) (hs : zs.size = cs.size) (h1 : ∀ v ∈ cs.toList, v.oneCell' = true)
  (h : wpList P ops Q rest (a.put o.dst undef) (W.setRow B cs)) : wpList P ops Q (o :: rest) a W := by
 refine wpList_plain hgd fun K' hK' => ?_
 have hrun := run_storeRow (P := P) B zs cs t hB hi hs h1
 unfold Oper.wp
 simp only [execOp, ho, hx, hy, Sem.run_bind, hrun, Result.andThen_ok, Sem.run_pure]
 exact hK' _ _ h
theorem run_loadRow (B : Nat) (cs : Array Value) (t : TypeId) (d : TypeDesc) (hB : BlockAt W B cs t) (hu : P.underlying t = some d) (hd : d.isRow = true) (hi : (P.info? t).map (·.size) = some cs.size) :
  (Instr.loadAt t (.pointer (some ⟨B, 0, none⟩))).run P W = .ok (.agg cs) W := by
 have := run_loadAt_mid (P := P) W B 0 t cs.toList d (fun j v hv => by
  rw [Nat.zero_add]
  rw [Array.getElem?_toList] at hv
  exact (@block_cells W B j cs t hB).trans hv) hu hd (by simpa using hi)
 simpa using this
theorem wpList_loadRow (hgd : o.guard = none) (t : TypeId) (x : Operand) (ho : o.op = .load t x) (B : Nat) (cs : Array Value) (d : TypeDesc) (hx : a.eval x = .pointer (some ⟨B, 0, none⟩)) (hB : BlockAt W B cs t) (hu : P.underlying t = some d) (hd : d.isRow = true) (hi : (P.info? t).map (·.size) = some cs.size)
  (h : wpList P ops Q rest (a.put o.dst (.agg cs)) W) : wpList P ops Q (o :: rest) a W := by
 refine wpList_plain hgd fun K' hK' => ?_
 have hrun := run_loadRow (P := P) B cs t d hB hu hd hi
 unfold Oper.wp
 simp only [execOp, ho, hx, Sem.run_bind, hrun, Result.andThen_ok, Sem.run_pure]
 exact hK' _ _ h
end
theorem run_loadVarRow {P : Program} {W : World} (B : Nat) (cs : Array Value) (t : TypeId) (d : TypeDesc) (hB : BlockAt W B cs t) (hu : P.underlying t = some d) (hd : (match d with | .struct _ | .array _ _ => true | _ => false) = true) (hi : (P.info? t).map (·.size) = some cs.size) :
  (loadVar t ⟨B, 0, none⟩).run P W = .ok (.agg cs) W := run_loadVar_row W B t t cs (0, 0) d hB.eq hu hd hi
theorem run_resCell2 {P : Program} {W : World} {fn : Func} {p s : Tmp} {t : TypeId} (h : fn.results = #[.cell p t, .tmp s]) (tmps : Array Value) (B : Nat) (cs : Array Value) (d : TypeDesc) (hp : tmps.getD p undef = .pointer (some ⟨B, 0, none⟩)) (hB : BlockAt W B cs t) (hu : P.underlying t = some d) (hd : (match d with | .struct _ | .array _ _ => true | _ => false) = true) (hi : (P.info? t).map (·.size) = some cs.size) :
  (results fn tmps).run P W = .ok (.tuple #[.agg cs, tmps.getD s undef]) W := by
 have hp' : tmps[p]?.getD undef = .pointer (some ⟨B, 0, none⟩) := by simpa using hp
 have hl := run_loadVarRow (P := P) B cs t d hB hu hd hi
 simp [results, h, hp', asAddr, hl, Sem.run_bind]
class CellRow (n : outParam Nat) (cs : Array Value) : Prop where
 size : cs.size = n
 one : ∀ v ∈ cs.toList, v.oneCell' = true
def bkC (B : Byt) : Array Value := (B.map bv).toArray
theorem bkC_size (B : Byt) : (bkC B).size = B.length := by simp [bkC]
theorem bkC_one (B : Byt) : ∀ v ∈ (bkC B).toList, v.oneCell' = true := by
 intro v hv
 simp only [bkC, List.toList_toArray, List.mem_map] at hv
 obtain ⟨b, _, rfl⟩ := hv
 rfl
instance zC_row : CellRow 256 Tryz.zeroCells88 := ⟨by kernel_rfl, by
 have h : (Tryz.zeroCells88).toList.all (fun v => v.oneCell') = true := by kernel_rfl
 exact List.all_eq_true.1 h⟩
theorem bkC_row {B : Byt} (h : B.length = 256) : CellRow 256 (bkC B) := ⟨by rw [bkC_size, h], bkC_one B⟩
theorem infoBlk : (Tryz.prog.info? 88).map (·.size) = some 256 := by kernel_rfl
theorem zC_bk : Tryz.zeroCells88 = bkC zB := (Value.agg.inj zB_val).symm
section
variable {W : World} {ops : Array Oper} {rest : List Oper} {o : Oper} {a : Act} {Q : Exit → Act → World → Prop}
theorem wpStoreB (hgd : o.guard = none) (x y : Operand) (ho : o.op = .store 88 x y) (B : Nat) (zs cs : Array Value) (hx : a.eval x = .pointer (some ⟨B, 0, none⟩)) (hy : a.eval y = .agg cs) (hB : BlockAt W B zs 88) (hz : CellRow 256 zs) (hc : CellRow 256 cs)
  (h : wpList Tryz.prog ops Q rest (a.put o.dst undef) (W.setRow B cs)) : wpList Tryz.prog ops Q (o :: rest) a W :=
 wpList_storeRow hgd _ x y ho B zs cs hx hy hB (by rw [hc.size]; exact infoBlk) (by rw [hz.size, hc.size]) hc.one h
theorem wpLoadB (hgd : o.guard = none) (x : Operand) (ho : o.op = .load 88 x) (B : Nat) (cs : Array Value) (hx : a.eval x = .pointer (some ⟨B, 0, none⟩)) (hB : BlockAt W B cs 88) (hc : CellRow 256 cs)
  (h : wpList Tryz.prog ops Q rest (a.put o.dst (.agg cs)) W) : wpList Tryz.prog ops Q (o :: rest) a W :=
 wpList_loadRow hgd _ x ho B cs _ hx hB Tryz.underlying88 rfl (by rw [hc.size]; exact infoBlk) h
theorem run_resB {fn : Func} {p s : Tmp} (h : fn.results = #[.cell p 88, .tmp s]) (tmps : Array Value) (B : Nat) (cs : Array Value) (v : Value) (hp : tmps.getD p undef = .pointer (some ⟨B, 0, none⟩)) (hv : tmps.getD s undef = v) (hB : BlockAt W B cs 88) (hc : CellRow 256 cs) :
  (results fn tmps).run Tryz.prog W = .ok (.tuple #[.agg cs, v]) W := by
 subst hv
 exact run_resCell2 h tmps B cs _ hp hB Tryz.underlying88 rfl (by rw [hc.size]; exact infoBlk)
end
theorem blkK_len {d : Dev} (h : DevOk d) (v b : Int) : ((blkK d v b).getD zB).length = 256 := by
 unfold blkK
 cases hv : getK d v with
 | none => exact zB_len
 | some x =>
  have h1 := h.vols _ ((getK_mem h.sort).1 hv)
  cases hb : getK x.2 b with
  | none => simp only [Option.bind_some, hb]; exact zB_len
  | some B => simpa [hb] using h1.len _ ((getK_mem h1.sort).1 hb)
set_option maxRecDepth 100000 in
set_option maxHeartbeats 1000000 in
theorem block_any (base D : Nat) (d : Dev) (v b : Int) (w : World) (h : DevAt base w D d) : Calls Tryz.prog 41 #[.pointer (some ⟨D, 0, none⟩), .int .u64 v, .int .i64 b] w fun e w' => e = .returned (.tuple #[.agg (bkC ((blkK d v b).getD zB)), .bool (blkK d v b).isSome]) ∧ Gr w w' := by
 obtain ⟨M, mb, h⟩ := h
 have HD := Lib.hid h
 have HT := Lib.hid (fun W (hW : Gr w W) => there_yes D M W (HD.out.blk.gr hW))
 haveI := h.blk
 have x0 : w.cell? ⟨D, 0, none⟩ = some (.map (some M)) := (@block_cells _ _ 0 _ _ h.blk).trans rfl
 haveI : Old D w := h.blk.old
 have hlen := blkK_len h.ok v b
 have hl := getK_vols d mb v
 have EZ := Lib.hid zC_bk
 cases hu : getK d v with
 | none =>
  rw [hu] at hl
  have hB : blkK d v b = none := by rw [blkK, hu]; rfl
  rw [hB]
  have HL := Lib.hid hl
  clear h hl hB hu hlen
  go_enter Tryz.func41, Tryz.ntmps41
  go_wp2_with (first | (go_at_call 50; ((with_reducible refine (HT.out _ gri).mono ?_); rintro _ _ ⟨rfl, g1, rfl⟩)) | (at_lookup; refine wpList_lookupK (q := .u64) (b := M) rfl _ _ rfl v Tryz.underlying99 Tryz.underlying28 (Tryz.zeroValue115 _) (HD.out.all.gr gri) rfl rfl ?_; rw [HL.out]) | (at_lookup; refine wpList_lookupNil (q := .i64) rfl _ _ rfl b Tryz.underlying113 Tryz.underlying3 (Tryz.zeroValue88 _) rfl rfl ?_) | (refine wpStoreB rfl _ _ rfl _ _ _ rfl rfl inferInstance inferInstance inferInstance ?_) | (refine wpLoadB rfl _ rfl _ _ rfl inferInstance inferInstance ?_))
  exact bodyPost_ret (v := .tuple #[.agg Tryz.zeroCells88, .bool false]) (run_resB rfl _ _ _ _ rfl rfl inferInstance inferInstance) rfl ⟨by rw [EZ.out]; rfl, gri⟩
 | some x =>
  rw [hu] at hl
  obtain ⟨u, hb⟩ : ∃ u, getK x.2 b = u := ⟨_, rfl⟩
  have hB : blkK d v b = u := by rw [blkK, hu]; exact hb
  rw [hB] at hlen ⊢
  have hk : getK (encK bkV x.2) b = u.map fun B => Value.agg (bkC B) := by rw [getK_enc, hb]; rfl
  have hm := h.vol _ ((getK_mem h.ok.sort).1 hu)
  have HL := Lib.hid hl
  have HK := Lib.hid hk
  have HM := Lib.hid hm
  clear h hl hB hu hk hb hm
  have HU : ∀ B, u = some B → CellRow 256 (bkC B) := fun B e => by subst e; exact bkC_row hlen
  clear hlen
  cases u
  rotate_left
  all_goals
   first
   | haveI := HU _ rfl
   | skip
   clear HU
   go_enter Tryz.func41, Tryz.ntmps41
   go_wp2_with (first | (go_at_call 50; ((with_reducible refine (HT.out _ gri).mono ?_); rintro _ _ ⟨rfl, g1, rfl⟩)) | (at_lookup; refine wpList_lookupK (q := .u64) (b := M) rfl _ _ rfl v Tryz.underlying99 Tryz.underlying28 (Tryz.zeroValue115 _) (HD.out.all.gr gri) rfl rfl ?_; rw [HL.out]) | (at_lookup; refine wpList_lookupK (q := .i64) (b := mb v) rfl _ _ rfl b Tryz.underlying113 Tryz.underlying3 (Tryz.zeroValue88 _) (HM.out.gr gri) rfl rfl ?_; rw [HK.out]) | (refine wpStoreB rfl _ _ rfl _ _ _ rfl rfl inferInstance inferInstance inferInstance ?_) | (refine wpLoadB rfl _ rfl _ _ rfl inferInstance inferInstance ?_))
   exact bodyPost_ret (run_resB rfl _ _ _ _ rfl rfl inferInstance inferInstance) rfl ⟨by first | rfl | (rw [EZ.out]; rfl), gri⟩
structure EK (α : Type) where
 cs : α → List Value
 k : Nat
 E : TypeId
 T : TypeId
 bytes : Nat
 z : Value
 ok : α → Prop
structure EK.Is {α : Type} (e : EK α) : Prop where
 len : ∀ x, e.ok x → (e.cs x).length = e.k
 one : ∀ x, e.ok x → ∀ v ∈ e.cs x, v.oneCell' = true
 pos : 0 < e.k
 hT : Tryz.prog.underlying e.T = some (.slice e.E)
 hE : (Tryz.prog.info? e.E).map (fun i => (i.zero, i.size, i.bytes)) = some (some e.z, e.k, e.bytes)
 hz : e.z.cells.size = e.k
 hb : e.bytes ≤ 1000
section
variable {α : Type} {e : EK α}
theorem flatN_len (he : e.Is) : ∀ (xs : List α), (∀ x ∈ xs, e.ok x) → (xs.flatMap e.cs).length = xs.length * e.k
 | [], _ => by simp
 | x :: xs, h => by
  rw [List.flatMap_cons, List.length_append, he.len x (h x (.head _)), flatN_len he xs (fun y hy => h y (.tail _ hy)), List.length_cons, Nat.add_mul, Nat.one_mul, Nat.add_comm]
theorem flatN_at (he : e.Is) : ∀ (xs : List α), (∀ x ∈ xs, e.ok x) → ∀ (j i : Nat) (x : α) (v : Value), xs[j]? = some x → (e.cs x)[i]? = some v → (xs.flatMap e.cs)[j * e.k + i]? = some v
 | [], _, j, i, x, v, hj, _ => by simp at hj
 | y :: xs, h, 0, i, x, v, hj, hv => by
  simp only [List.getElem?_cons_zero, Option.some.injEq] at hj
  subst hj
  have hi : i < (e.cs y).length := (List.getElem?_eq_some_iff.1 hv).1
  rw [List.flatMap_cons, Nat.zero_mul, Nat.zero_add, List.getElem?_append_left hi]
  exact hv
 | y :: xs, h, j + 1, i, x, v, hj, hv => by
  rw [List.getElem?_cons_succ] at hj
  have h2 := flatN_at he xs (fun y hy => h y (.tail _ hy)) j i x v hj hv
  have hl := he.len y (h y (.head _))
  rw [List.flatMap_cons, List.getElem?_append_right (by rw [hl, Nat.add_mul]; omega), hl]
  rw [← h2]
  congr 1
  rw [Nat.add_mul]; omega
theorem flatN_of (he : e.Is) : ∀ (xs : List α), (∀ x ∈ xs, e.ok x) → ∀ (j : Nat) (u : Value), (xs.flatMap e.cs)[j]? = some u → ∃ q i x, j = q * e.k + i ∧ xs[q]? = some x ∧ (e.cs x)[i]? = some u
 | [], _, j, u, h => by simp at h
 | x :: xs, hx, j, u, h => by
  rw [List.flatMap_cons] at h
  have hl := he.len x (hx x (.head _))
  by_cases hj : j < (e.cs x).length
  ·rw [List.getElem?_append_left hj] at h
   exact ⟨0, j, x, by omega, rfl, h⟩
  ·rw [List.getElem?_append_right (by omega)] at h
   obtain ⟨q, i, y, h1, h2, h3⟩ := flatN_of he xs (fun y hy => hx y (.tail _ hy)) _ u h
   rw [hl] at h1 hj
   exact ⟨q + 1, i, y, by rw [Nat.add_mul]; omega, by simpa using h2, h3⟩
theorem flatN_one (he : e.Is) (xs : List α) (h : ∀ x ∈ xs, e.ok x) : ∀ u ∈ xs.flatMap e.cs, u.oneCell' = true := by
 intro u hu
 obtain ⟨x, h1, hx⟩ := List.mem_flatMap.1 hu
 exact he.one x (h x h1) u hx
theorem flatN_set (he : e.Is) : ∀ (xs : List α), (∀ x ∈ xs, e.ok x) → ∀ (j i : Nat) (x y : α) (v : Value), xs[j]? = some x → i < e.k → e.cs y = (e.cs x).set i v → (xs.flatMap e.cs).set (j * e.k + i) v = (xs.set j y).flatMap e.cs
 | [], _, j, i, x, y, v, hj, _, _ => by simp at hj
 | z :: xs, h, 0, i, x, y, v, hj, hi, hv => by
  simp only [List.getElem?_cons_zero, Option.some.injEq] at hj
  subst hj
  have hl := he.len z (h z (.head _))
  rw [List.flatMap_cons, Nat.zero_mul, Nat.zero_add, List.set_append_left _ _ (by omega), List.set_cons_zero, List.flatMap_cons, hv]
 | z :: xs, h, j + 1, i, x, y, v, hj, hi, hv => by
  rw [List.getElem?_cons_succ] at hj
  have h2 := flatN_set he xs (fun y hy => h y (.tail _ hy)) j i x y v hj hi hv
  have hl := he.len z (h z (.head _))
  rw [List.flatMap_cons, List.set_append_right _ _ (by rw [hl, Nat.add_mul]; omega), List.set_cons_succ, List.flatMap_cons, ← h2, hl]
  congr 2
  rw [Nat.add_mul]; omega
def CellsN (e : EK α) (W : World) (b p : Nat) (xs : List α) : Prop := ∀ (j : Nat) (x : α), xs[j]? = some x → ∀ (i : Nat) (u : Value), (e.cs x)[i]? = some u → W.cell? ⟨b, p + j * e.k + i, none⟩ = some u
structure RowN (e : EK α) (W : World) (A : Option Addr) (xs : List α) : Prop where
 ok : ∀ x ∈ xs, e.ok x
 at_ : xs ≠ [] → ∃ b p, A = some ⟨b, p, none⟩ ∧ b < W.heap.size ∧ CellsN e W b p xs
theorem CellsN.gr {W W' : World} {b p : Nat} {xs : List α} (h : CellsN e W b p xs) (hb : b < W.heap.size) (g : Gr W W') : CellsN e W' b p xs := fun j x hj i u hu => (g.below.cell (p := ⟨b, p + j * e.k + i, none⟩) hb).trans (h j x hj i u hu)
theorem CellsN.take {W : World} {b p : Nat} {xs : List α} (h : CellsN e W b p xs) (n : Nat) : CellsN e W b p (xs.take n) := fun j x hj => h j x (by
 rw [List.getElem?_take] at hj
 split at hj
 ·exact hj
 ·cases hj)
theorem CellsN.drop {W : World} {b p : Nat} {xs : List α} (h : CellsN e W b p xs) (n : Nat) : CellsN e W b (p + n * e.k) (xs.drop n) := fun j x hj i u hu => by
 rw [List.getElem?_drop] at hj
 have := h (n + j) x hj i u hu
 rw [show p + n * e.k + j * e.k + i = p + (n + j) * e.k + i by rw [Nat.add_mul]; omega]
 exact this
theorem CellsN.block {W : World} {B : Nat} {cs : Array Value} {t : TypeId} (x : α) (h : BlockAt W B cs t) (hx : e.cs x = cs.toList) : CellsN e W B 0 [x] := by
 intro j y hj i u hu
 cases j with
 | succ j => simp at hj
 | zero =>
  simp only [List.getElem?_cons_zero, Option.some.injEq] at hj
  subst hj
  rw [Nat.zero_mul, Nat.zero_add, block_cells W B i cs t]
  rw [hx, Array.getElem?_toList] at hu
  exact hu
theorem RowN.nil {W : World} {A : Option Addr} : RowN e W A [] := ⟨by simp, fun h => absurd rfl h⟩
theorem RowN.gr {W W' : World} {A : Option Addr} {xs : List α} (h : RowN e W A xs) (g : Gr W W') : RowN e W' A xs :=
 ⟨h.ok, fun h0 => by
  obtain ⟨b, p, rfl, hb, hc⟩ := h.at_ h0
  exact ⟨b, p, rfl, Nat.lt_of_lt_of_le hb g.below.size, hc.gr hb g⟩⟩
structure OwnN (e : EK α) (base : Nat) (W : World) (v : Value) (xs : List α) : Prop where
 ok : ∀ x ∈ xs, e.ok x
 own : W.ownsRow base e.E e.k v xs.length (xs.flatMap e.cs)
variable {base : Nat} {W W' : World} {v : Value} {xs : List α}
theorem OwnN.nil (base : Nat) (W : World) : OwnN e base W (.slice none 0 0) [] := ⟨by simp, World.ownsRow_nil _ _ _ _⟩
theorem OwnN.lt (h : OwnN e base W v xs) : ∀ k, v.ownBlock = some k → base ≤ k ∧ k < W.heap.size := World.ownsRow.lt h.own
theorem OwnN.keep (h : OwnN e base W v xs) (hk : ∀ k, v.ownBlock = some k → W'.heap[k]? = W.heap[k]?) : OwnN e base W' v xs := by
 refine ⟨h.ok, h.own.1, ?_⟩
 rcases h.own.2 with h2 | ⟨g, cap, cur, hv, hb, hh, h4⟩
 ·exact .inl h2
 ·exact .inr ⟨g, cap, cur, hv, hb, (hk g (by rw [hv]; rfl)).trans hh, h4⟩
theorem OwnN.gr (h : OwnN e base W v xs) (g : Gr W W') : OwnN e base W' v xs := h.keep fun k hk => g.below.block k (h.lt k hk).2
theorem OwnN.set_ (h : OwnN e base W v xs) (B o : Nat) (u : Value) {cs : Array Value} {T : TypeId} [hB : BlockAt W B cs T] (hT : T ≠ e.E) : OwnN e base (W.setCell ⟨B, o, none⟩ u) v xs := by
 refine ⟨h.ok, h.own.1, ?_⟩
 rcases h.own.2 with h2 | ⟨g, cap, cur, hv, hb, hh, h4⟩
 ·exact .inl h2
 ·refine .inr ⟨g, cap, cur, hv, hb, ?_, h4⟩
  have hne : g ≠ B := by
   rintro rfl
   have := hB.eq
   rw [hh] at this
   cases this
   exact hT rfl
  exact (Below.heap_setCell W ⟨B, o, none⟩ u g hne).trans hh
theorem OwnN.more {base2 : Nat} (h : OwnN e base2 W v xs) (hb : base ≤ base2) : OwnN e base W v xs := by
 refine ⟨h.ok, h.own.1, ?_⟩
 rcases h.own.2 with h2 | ⟨g, cap, cur, hv, hb2, h4⟩
 ·exact .inl h2
 ·exact .inr ⟨g, cap, cur, hv, Nat.le_trans hb hb2, h4⟩
theorem OwnN.cells (he : e.Is) (h : OwnN e base W v xs) (hne : xs ≠ []) : ∃ g c, v = .slice (some ⟨g, 0, none⟩) xs.length c ∧ base ≤ g ∧ g < W.heap.size ∧ xs.length ≤ c ∧ c ≤ maxLen ∧ CellsN e W g 0 xs ∧ ∀ o, W.frozen? ⟨g, o, none⟩ = false := by
 have h0 := h.own
 rcases h.own.2 with ⟨_, hn⟩ | ⟨g, cap, cur, rfl, hb, hh, hnc, hcm, _⟩
 ·exact absurd (List.eq_nil_of_length_eq_zero hn) hne
 ·refine ⟨g, cap, rfl, hb, (Array.getElem?_eq_some_iff.1 hh).1, hnc, hcm, fun j x hj i u hu => ?_, fun o => by simp [World.frozen?, hh]⟩
  have h1 := World.ownsRow.cells h0 (g := g) rfl (j * e.k + i) u (flatN_at he xs h.ok j i x u hj hu)
  rw [Go.WideShapes.add_plain] at h1
  rw [Nat.zero_add] at h1 ⊢
  exact h1
theorem OwnN.form (he : e.Is) (h : OwnN e base W v xs) : ∃ A c, v = .slice A xs.length c ∧ xs.length ≤ c ∧ c ≤ maxLen ∧ RowN e W A xs := by
 by_cases hne : xs = []
 ·subst hne
  rcases h.own.2 with ⟨rfl, _⟩ | ⟨g, cap, cur, rfl, _, _, hnc, hcm, _⟩
  ·exact ⟨none, 0, rfl, Nat.le_refl _, by unfold maxLen; omega, RowN.nil⟩
  ·exact ⟨_, cap, rfl, hnc, hcm, RowN.nil⟩
 ·obtain ⟨g, c, rfl, _, hg, hc, hm, hcl, _⟩ := h.cells he hne
  exact ⟨_, c, rfl, hc, hm, h.ok, fun _ => ⟨g, 0, rfl, hg, hcl⟩⟩
theorem OwnN.store (he : e.Is) {g n c : Nat} (h : OwnN e base W (.slice (some ⟨g, 0, none⟩) n c) xs) (j i : Nat) (x y : α) (u : Value) (hj : xs[j]? = some x) (hi : i < e.k) (hy : e.cs y = (e.cs x).set i u) (hok : e.ok y) : OwnN e base (W.setCell ⟨g, j * e.k + i, none⟩ u) (.slice (some ⟨g, 0, none⟩) n c) (xs.set j y) := by
 have hn : n = xs.length := by
  rcases h.own.2 with ⟨h2, _⟩ | ⟨g', cap, cur, hv, _⟩
  ·cases h2
  ·cases hv; rfl
 subst hn
 refine ⟨fun z hz => ?_, ?_⟩
 ·rcases List.mem_or_eq_of_mem_set hz with hz | rfl
  ·exact h.ok z hz
  ·exact hok
 ·have := (h.own.stored (j * e.k + i) u).1
  rw [flatN_set he xs h.ok j i x y u hj hi hy] at this
  rw [List.length_set]
  exact this
structure AppN (e : EK α) (base : Nat) (W : World) (v : Value) (xs ys : List α) (v' : Value) (W' : World) : Prop where
 own : OwnN e base W' v' (xs ++ ys)
 below : Below base W W'
 size : W.heap.size ≤ W'.heap.size
 keep : ∀ B cs t, BlockAt W B cs t → t ≠ e.E → BlockAt W' B cs t
 block : ∀ k, k < W.heap.size → (∀ cs f, W.heap[k]? ≠ some (.cells cs e.E f)) → W'.heap[k]? = W.heap[k]?
 gb : W.grownBy W' v.ownBlock
 row : ∀ b, v'.ownBlock = some b → v.ownBlock = some b ∨ b = W.heap.size
theorem AppN.from_ {ys : List α} {v' : Value} (h : AppN e base W v xs ys v' W') (a : World) [ht : From a W] : From a W' := ⟨Nat.le_trans ht.le h.size⟩
theorem AppN.old {ys : List α} {v' : Value} (h : AppN e base W v xs ys v' W') (b : Nat) [ht : Old b W] : Old b W' := ⟨Nat.lt_of_lt_of_le ht.lt h.size⟩
theorem AppN.grc {ys : List α} {v' : Value} (h : AppN e base W v xs ys v' W') (a : World) [ht : GrC a W] (hl : a.heap.size ≤ base) : GrC a W' := ⟨ht.b.trans (h.below.mono hl)⟩
theorem grc_of {a W : World} (h : Gr a W) : GrC a W := ⟨h.below⟩
theorem from_of {a W : World} (h : Gr a W) : From a W := ⟨h.below.size⟩
theorem run_append_row (he : e.Is) (ty : TypeId) (hown : OwnN e base W v xs) (b p : Nat) (ys : List α) (c : Nat) (hys : ∀ y ∈ ys, e.ok y) (hc : CellsN e W b p ys) (hlen : xs.length + ys.length ≤ 100000000) {v' : Value} {W' : World}
  (hr : (Builtin.append_ #[e.T, e.T] ty #[v, .slice (some ⟨b, p, none⟩) ys.length c]).run Tryz.prog W = .ok v' W') (h0 : 0 < ys.length) : ∀ q, v'.ownBlock = some q → v.ownBlock = some q ∨ q = W.heap.size := by
 obtain ⟨i0, hi, hz0, hz2, hz3⟩ := info_parts he.hE
 have hlN : (ys.flatMap e.cs).length = ys.length * i0.size := by rw [flatN_len he ys hys, hz2]
 have hnews : ∀ j u, (ys.flatMap e.cs)[j]? = some u → W.cell? ((⟨b, p, none⟩ : Addr).add j) = some u := fun j u hj => by
  obtain ⟨q, i, y, rfl, h1, h2⟩ := flatN_of he ys hys j u hj
  rw [Go.WideShapes.add_plain, ← Nat.add_assoc]
  exact hc q y h1 i u h2
 have hby : (xs.length + ys.length) * i0.bytes ≤ 140737488355328 := by rw [hz3]; have := Nat.mul_le_mul hlen he.hb; omega
 rcases hown.own.2 with ⟨rfl, hx⟩ | ⟨g, cap, cur, rfl, hbg, hg, hnc, hcm, hcs, htake⟩
 ·have h9 := run_append_nil (P := Tryz.prog) W e.T ty e.E i0 e.z he.hT hi hz0 ⟨b, p, none⟩ ys.length c (ys.flatMap e.cs) hlN hnews h0 (by omega) (by rw [Nat.add_mul] at hby; omega)
  rw [h9] at hr
  cases hr
  intro q hq
  exact .inr (by simpa [Value.ownBlock] using hq.symm)
 ·by_cases hroom : xs.length + ys.length ≤ cap
  ·have hfit : xs.length * i0.size + (ys.flatMap e.cs).length ≤ cur.size := by rw [hlN, hcs, ← hz2, ← Nat.add_mul]; exact Nat.mul_le_mul_right _ hroom
   have h9 := run_append_room (P := Tryz.prog) W e.T ty e.E i0 he.hT hi g xs.length cap cur hg ⟨b, p, none⟩ ys.length c (ys.flatMap e.cs) hlN hnews (flatN_one he ys hys) hroom hfit
   rw [h9] at hr
   cases hr
   intro q hq
   exact .inl hq
  ·have h9 := run_append_grow (P := Tryz.prog) W e.T ty e.E i0 e.z he.hT hi hz0 ⟨g, 0, none⟩ xs.length cap (xs.flatMap e.cs) (by rw [hown.own.1, hz2]) (hown.own.cells (g := g) rfl) ⟨b, p, none⟩ ys.length c (ys.flatMap e.cs) hlN hnews (by omega) (by omega) (growslice_fits (by omega) hby)
   rw [h9] at hr
   cases hr
   intro q hq
   exact .inr (by simpa [Value.ownBlock] using hq.symm)
theorem run_append_n (he : e.Is) (ty : TypeId) (hown : OwnN e base W v xs) (b p : Nat) (ys : List α) (c : Nat) (hys : ∀ y ∈ ys, e.ok y) (hc : CellsN e W b p ys) (hlen : xs.length + ys.length ≤ 100000000) (hbase : base ≤ W.heap.size) (hp : 0 < ys.length) :
  ∃ v' W', (Builtin.append_ #[e.T, e.T] ty #[v, .slice (some ⟨b, p, none⟩) ys.length c]).run Tryz.prog W = .ok v' W' ∧ AppN e base W v xs ys v' W' := by
 obtain ⟨i0, hi, hz0, hz2, hz3⟩ := info_parts he.hE
 obtain ⟨v', W', hrun, hown', hgrow, _⟩ := run_append_own (P := Tryz.prog) W base e.T ty e.E i0 e.z e.k e.bytes he.hT hi hz0 hz2 hz3 he.hz he.pos v xs.length (xs.flatMap e.cs) hown.own ⟨b, p, none⟩ ys.length c (ys.flatMap e.cs) (flatN_len he ys hys) (fun j u hj => by
  obtain ⟨q, i, y, rfl, h1, h2⟩ := flatN_of he ys hys j u hj
  rw [Go.WideShapes.add_plain, ← Nat.add_assoc]
  exact hc q y h1 i u h2) (flatN_one he ys hys) (by unfold maxLen; omega) (by have := Nat.mul_le_mul hlen he.hb; omega) hbase
 have hne : ∀ k, some k = v.ownBlock → ∃ cs, W.heap[k]? = some (.cells cs e.E (0, 0)) := fun k hk => by
  rcases hown.own.2 with ⟨rfl, _⟩ | ⟨g, cap, cur, rfl, _, hh, _⟩
  ·simp [Value.ownBlock] at hk
  ·have e2 : k = g := by simpa [Value.ownBlock] using hk
   subst e2
   exact ⟨_, hh⟩
 refine ⟨v', W', hrun, ⟨fun x hx => ?_, ?_⟩, (Below.refl base W).grown hgrow hbase (fun q hq => (World.ownsRow.lt hown.own q hq).1), hgrow.size, fun B cs t hB ht => hB.grown hgrow (fun e2 => ?_), fun k hk hcs => hgrow.block k hk (fun e2 => ?_), hgrow, run_append_row he ty hown b p ys c hys hc hlen hrun hp⟩
 ·rcases List.mem_append.1 hx with h | h
  ·exact hown.ok x h
  ·exact hys x h
 ·rw [List.length_append, List.flatMap_append]; exact hown'
 ·obtain ⟨cs2, h2⟩ := hne B e2
  have := hB.eq
  rw [h2] at this
  cases this
  exact ht rfl
 ·obtain ⟨cs2, h2⟩ := hne k e2
  exact hcs _ _ h2
theorem wp_append_n (he : e.Is) {ops : Array Oper} {rest : List Oper} {o : Oper} {a : Act} {Q : Exit → Act → World → Prop} (hgd : o.guard = none) (s x : Operand)
  (ho : o.op = .call { callee := .builtin .append, args := #[s, x], argTypes := #[e.T, e.T] })
  (hs : a.eval s = v) (hown : OwnN e base W v xs) (b p : Nat) (ys : List α) (m c : Nat) (hm : ys.length = m) (hx : a.eval x = .slice (some ⟨b, p, none⟩) m c)
  (hys : ∀ y ∈ ys, e.ok y) (hc : CellsN e W b p ys) (hlen : xs.length + ys.length ≤ 100000000) (hbase : base ≤ W.heap.size) (hp : 0 < ys.length)
  (h : ∀ v' W', AppN e base W v xs ys v' W' → wpList Tryz.prog ops Q rest (a.put o.dst v') W') : wpList Tryz.prog ops Q (o :: rest) a W := by
 subst hm
 refine wpList_plain hgd fun K' hK' => ?_
 obtain ⟨v', W', hrun, happ⟩ := run_append_n he o.type hown b p ys c hys hc hlen hbase hp
 unfold Oper.wp execOp
 simp only [ho, resolve, invoke, builtin, Sem.run_bind, Sem.run_pure, Result.andThen_ok, List.map_toArray, List.map_cons, List.map_nil, hs, hx, hrun]
 exact hK' _ _ (h v' W' happ)
end
def besB (l r s q : Bool) : Int := if l && !r then 5 else if r && !l then 6 else if !l then 1 else if s then 2 else if q then 3 else 4
theorem beside_any (l r s q : Bool) (w : World) : Calls Tryz.prog 35 #[.bool l, .bool r, .bool s, .bool q] w fun e w' => e = .returned (.int .i64 (besB l r s q)) ∧ Gr w w' := by
 cases l <;> cases r <;> cases s <;> cases q
 all_goals
  go_enter Tryz.func35, Tryz.ntmps35
  go_wp2
  go_ret
  exact ⟨rfl, gri⟩
theorem eqBlk (B C : Byt) (hB : B.length = 256) (hC : C.length = 256) (w : World) : (binOp .eql 88 (.agg (bkC B)) (.agg (bkC C))).run Tryz.prog w = .ok (.bool (B == C)) w :=
 run_eql_bytes w 88 5 256 Tryz.underlying88 Tryz.underlying5 (fun _ => by kernel_rfl) B C hB hC
theorem besB_kind (x y : Option Byt) : besB x.isSome y.isSome false (x.getD zB == y.getD zB) = besK x y := by
 cases x <;> cases y <;> simp [besB, besK]
set_option maxRecDepth 100000 in
set_option maxHeartbeats 1000000 in
theorem kind_any (base D : Nat) (d : Dev) (l r b : Int) (w : World) (h : DevAt base w D d) : Calls Tryz.prog 28 #[.pointer (some ⟨D, 0, none⟩), .int .u64 l, .int .u64 r, .int .i64 b] w fun e w' => e = .returned (.int .i64 (kindK d l r b)) ∧ Gr w w' := by
 have hok : DevOk d := by obtain ⟨M, mb, h⟩ := h; exact h.ok
 have l1 := blkK_len hok l b
 have l2 := blkK_len hok r b
 have H1 := Lib.hid (fun W (hW : Gr w W) => block_any base D d l b W (h.gr hW))
 have H2 := Lib.hid (fun W (hW : Gr w W) => block_any base D d r b W (h.gr hW))
 have HE := fun W => eqBlk _ _ l1 l2 W
 haveI := bkC_row l1
 haveI := bkC_row l2
 have HK := Lib.hid (besB_kind (blkK d l b) (blkK d r b))
 rw [kindK]
 generalize blkK d l b = X at *
 generalize blkK d r b = Y at *
 clear l1 l2 h hok
 go_enter Tryz.func28, Tryz.ntmps28
 go_wp2_with (first | ((first | (go_at_call 41; with_reducible refine (H1.out _ gri).mono ?_) | (go_at_call 41; with_reducible refine (H2.out _ gri).mono ?_) | (go_at_call 35; with_reducible refine (beside_any _ _ _ _ _).mono ?_)); rintro _ _ ⟨rfl, g1, rfl⟩) | (refine wpStoreB rfl _ _ rfl _ _ _ rfl rfl inferInstance inferInstance inferInstance ?_) | (refine wpLoadB rfl _ rfl _ _ rfl inferInstance inferInstance ?_))
 go_ret
 exact ⟨by rw [HK.out]; rfl, gri⟩
def strE : EK Str := ⟨fun x => [.int .i64 x.1, .int .i64 x.2.1, .int .i64 x.2.2], 3, 103, 24, 24, .agg #[.int .i64 0, .int .i64 0, .int .i64 0], fun _ => True⟩
theorem strIs : strE.Is where
 len := fun _ _ => rfl
 one := fun x _ v hv => by
  simp only [strE, List.mem_cons, List.mem_nil_iff, or_false] at hv
  rcases hv with rfl | rfl | rfl <;> rfl
 pos := by decide
 hT := Tryz.underlying24
 hE := by kernel_rfl
 hz := rfl
 hb := by decide
set_option maxRecDepth 100000 in
set_option maxHeartbeats 2000000 in
theorem stretches_any (F : Nat → Int) (n : Nat) (hn : n ≤ 100000) (P1 P2 P3 : Addr) (w : World)
  (hf : ∀ W, Gr w W → ∀ b : Nat, b < n → Calls Tryz.prog 27 #[.int .i64 b, .pointer (some P1), .pointer (some P2), .pointer (some P3)] W fun e w' => e = .returned (.int .i64 (F b)) ∧ Gr W w') :
  Calls Tryz.prog 26 #[.int .i64 n, .func (.func 27) #[] #[.pointer (some P1), .pointer (some P2), .pointer (some P3)]] w fun e w' => ∃ v, e = .returned v ∧ OwnN strE w.heap.size w' v (strK F n) ∧ Gr w w' := by
 have HF := Lib.hid hf; clear hf
 go_enter Tryz.func26, Tryz.ntmps26
 go_wp2
 go_step3
 go_wp2
 go_step3
 go_wp2
 go_loopw [4, 9] (fun v i wr => ∃ k : Nat, k ≤ n ∧ i = .int .i64 k ∧ OwnN strE w.heap.size wr v (strK F k) ∧ Gr w wr) (fun _ i _ => n - (intOf i).toNat)
 case atStart => exact ⟨0, Nat.zero_le _, rfl, OwnN.nil _ _, Gr.refl _⟩
 case round =>
  obtain ⟨k, hk, rfl, hown, hg⟩ := hrel
  have HO := Lib.hid hown; clear hown
  haveI := grc_of hg
  haveI := from_of hg
  have HG := Lib.hid hg; clear hg
  by_cases hlt : k < n
  ·obtain ⟨L, hL⟩ : ∃ L, strK F k = L := ⟨_, rfl⟩
   have hLn : L.length ≤ k := by rw [← hL]; exact strK_len F k
   have hnx : strK F (k + 1) = addS L k (F k) := by rw [← hL]; rfl
   have hbd := strK_each F k
   rw [hL] at hbd
   have ho := HO.out
   rw [hL] at ho
   have HN := Lib.hid hnx
   clear hL hnx HO
   rcases List.eq_nil_or_concat L with rfl | ⟨L0, x, rfl⟩
   ·obtain ⟨A, c, rfl, _, _, _⟩ := ho.form strIs
    have HO := Lib.hid ho
    clear ho hLn hbd
    go_wp2_with (first | ((go_at_call 27; ((with_reducible refine (HF.out _ HG.out k hlt).mono ?_); rintro _ _ ⟨rfl, g1, rfl⟩))) | (at_builtin; refine wp_append_n strIs rfl _ _ rfl rfl (HO.out.gr gri) _ 0 [((k : Int), 1, F k)] 1 1 rfl rfl (fun _ _ => trivial) (CellsN.block _ inferInstance rfl) (by simp) past (by simp) ?_; intro v1 W1 h1; have H1 := Lib.hid h1; clear h1))
    go_roundw
    case rel => exact ⟨k + 1, by omega, by go_num, by rw [HN.out]; exact H1.out.own, by haveI := H1.out.grc w (Nat.le_refl _); exact gri⟩
    case measure => simp [intOf]; omega
   ·rw [List.concat_eq_append] at hLn ho HN
    have hm : (L0 ++ [x]).length = L0.length + 1 := by simp
    obtain ⟨g, c, hv, hbg, hgl, _, hcm, hcl, hfz⟩ := ho.cells strIs (by simp)
    rw [hm] at hv hLn
    subst hv
    have hx := hcl L0.length x (by simp)
    have x1 : wr.cell? ⟨g, L0.length * 3 + 1, none⟩ = some (.int .i64 x.2.1) := by have := hx 1 _ rfl; rwa [Nat.zero_add] at this
    have x2 : wr.cell? ⟨g, L0.length * 3 + 2, none⟩ = some (.int .i64 x.2.2) := by have := hx 2 _ rfl; rwa [Nat.zero_add] at this
    haveI : Old g wr := ⟨hgl⟩
    have u1 := hfz (L0.length * 3 + 1)
    have HO := Lib.hid ho
    have HM := Lib.hid hm
    have hm2 : L0.length + 1 ≤ 100000 := by omega
    have hxb := hbd x (by simp)
    have b1 : 0 ≤ x.2.1 := by omega
    have b2 : x.2.1 ≤ 100000 := by omega
    have HX : Hid ((L0 ++ [x])[L0.length]? = some x) := Lib.hid (by simp)
    have HS : Hid (∀ y, (L0 ++ [x]).set L0.length y = L0 ++ [y]) := Lib.hid (by simp)
    clear hx hfz hcl ho hm hbd hxb
    generalize L0.length = m at *
    by_cases hq : x.2.2 = F k
    ·have hb : (x.2.2 == F k) = true := by simpa using hq
     have HQ := Lib.hid hq; clear hq
     go_wp2_with (first | ((go_at_call 27; ((with_reducible refine (HF.out _ HG.out k hlt).mono ?_); rintro _ _ ⟨rfl, g1, rfl⟩))))
     go_roundw
     case rel => exact ⟨k + 1, by omega, by go_num, by
      rw [HN.out, addS_last, if_pos HQ.out, ← HS.out, ← HQ.out]
      exact (HO.out.gr gri).store strIs m 1 x _ _ HX.out (by decide) rfl trivial, by haveI : Past w g := ⟨hbg⟩; exact gri⟩
     case measure => simp [intOf]; omega
    ·have hb : (x.2.2 == F k) = false := by simpa using hq
     have HQ := Lib.hid hq; clear hq
     go_wp2_with (first | ((go_at_call 27; ((with_reducible refine (HF.out _ HG.out k hlt).mono ?_); rintro _ _ ⟨rfl, g1, rfl⟩))) | (at_builtin; refine wp_append_n strIs rfl _ _ rfl rfl (HO.out.gr gri) _ 0 [((k : Int), 1, F k)] 1 1 rfl rfl (fun _ _ => trivial) (CellsN.block _ inferInstance rfl) (by rw [HM.out, List.length_singleton]; omega) past (by simp) ?_; intro v1 W1 h1; have H1 := Lib.hid h1; clear h1))
     go_roundw
     case rel => exact ⟨k + 1, by omega, by go_num, by rw [HN.out, addS_last, if_neg HQ.out]; exact H1.out.own, by haveI := H1.out.grc w (Nat.le_refl _); exact gri⟩
     case measure => simp [intOf]; omega
  ·have : k = n := by omega
   subst this
   go_wp2
   rw [Exit.noGoto_ret]
   go_ret
   exact ⟨_, rfl, HO.out, HG.out⟩
end Go.Proofs.YtipeblmgochdfaaGreat
