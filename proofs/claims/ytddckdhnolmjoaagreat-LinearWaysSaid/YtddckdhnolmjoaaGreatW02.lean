/- command.May. Conditions: what is read stands in memory. Devices, plainly: what an operation does, and why it is refused. Conditions: .. -/
import Derived.Test.YtddckdhnolmjoaaGreatW01
import Derived.Deep.MidRow
import Derived.Laws.Tables
import Derived.Laws.OwnMore
import Derived.Stop.BytesEq
import Derived.Laws.CopyOwn
set_option linter.unusedVariables false
set_option linter.unusedSimpArgs false
set_option linter.unnecessarySimpa false
set_option maxRecDepth 100000
set_option maxHeartbeats 8000000
namespace Go.Proofs.YtddckdhnolmjoaaGreat
open Go.RowKit
def mayOpB (xk xv xt xs xa xc : Int) (xn : Nat) (lx : List UInt8) : Bool :=
 if xk = 1 then wVol xv && wSize xs && (xt == 0) && (xa == 0) && (xc == 0) && (lx == []) else if xk = 2 then wVol xv && (xt == 0) && (xs == 0) && (xa == 0) && (xc == 0) && (lx == []) else if xk = 3 then wVol xv && wSize xs && (xt == 0) && (xa == 0) && (xc == 0) && (lx == []) else if xk = 4 then wVol xv && wTo xt xv && (xs == 0) && (xa == 0) && (xc == 0) && (lx == []) else if xk = 5 then wVol xv && wAt xa && wData xn && (xt == 0) && (xs == 0) && (xc == 0) else if xk = 6 then wVol xv && wAt xa && wCount xc && (xt == 0) && (xs == 0) && (lx == []) else if xk = 7 then wVol xv && wAt xa && wCount xc && (xt == 0) && (xs == 0) && (lx == []) else if xk = 8 then (xv == 0) && (xt == 0) && (xs == 0) && (xa == 0) && (xc == 0) && (lx == []) else if xk = 9 then wVol xv && wAt xa && wCount xc && (xt == 0) && (xs == 0) && (lx == []) else false
theorem mayOp_1 (xv xt xs xa xc : Int) (xD : Option Addr) (xn xq : Nat) (lx : List UInt8) (w : World) (hx : lx.length = xn) (hn : xn ≤ 9223372036854775807) (h1 : Row bv w xD lx) : Calls Tryz.prog 70 #[(Value.agg #[.int .i64 1, .int .u64 xv, .int .u64 xt, .int .i64 xs, .int .i64 xa, .int .i64 xc, .slice xD xn xq])] w fun e w' => e = .returned (.bool (mayOpB 1 xv xt xs xa xc xn lx)) ∧ Gr w w' := by
 have HX := hd_ hx; clear hx
 have en : namesB 1 = ⟨#[118, 115]⟩ := rfl
 have E0 : mayOpB 1 xv xt xs xa xc xn lx = (wVol xv && wSize xs && (xt == 0) && (xa == 0) && (xc == 0) && (lx == [])) := rfl
 rw [E0]; clear E0
 rcases Bool.eq_false_or_eq_true (wVol xv) with b0 | b0
 rotate_left
 ·go_enter Tryz.func70, Tryz.ntmps70
  iterate 2
   try first | rw [rounds_succ] | (refine wp_loop_rounds 1 ?_; rw [rounds_succ])
   go_wp2_with (((first | (go_at_call 100; with_reducible refine (namesB_any _ _).mono ?_) | (go_at_call 101; with_reducible refine (within_v _ _ _ _ _ _ _ _ _ _).mono ?_) | (go_at_call 101; with_reducible refine (within_s _ _ _ _ _ _ _ _ _ _).mono ?_) | (go_at_call 102; with_reducible refine (same13_any _ _ _ _ _ _ _ _ _ _ _ _ _ _ _ _ _ _ lx [] _ HX.out List.length_nil hn (h1.gr (gri)) Row.nil).mono ?_)); rintro _ _ ⟨rfl, g, rfl⟩))
  go_ret
  exact ⟨ret_bool (by simp [b0]), gri⟩
 rcases Bool.eq_false_or_eq_true (wSize xs) with b1 | b1
 rotate_left
 ·go_enter Tryz.func70, Tryz.ntmps70
  iterate 3
   try first | rw [rounds_succ] | (refine wp_loop_rounds 2 ?_; rw [rounds_succ])
   go_wp2_with (((first | (go_at_call 100; with_reducible refine (namesB_any _ _).mono ?_) | (go_at_call 101; with_reducible refine (within_v _ _ _ _ _ _ _ _ _ _).mono ?_) | (go_at_call 101; with_reducible refine (within_s _ _ _ _ _ _ _ _ _ _).mono ?_) | (go_at_call 102; with_reducible refine (same13_any _ _ _ _ _ _ _ _ _ _ _ _ _ _ _ _ _ _ lx [] _ HX.out List.length_nil hn (h1.gr (gri)) Row.nil).mono ?_)); rintro _ _ ⟨rfl, g, rfl⟩))
  go_ret
  exact ⟨ret_bool (by simp [b0, b1]), gri⟩
 go_enter Tryz.func70, Tryz.ntmps70
 iterate 4
  try first | rw [rounds_succ] | (refine wp_loop_rounds 3 ?_; rw [rounds_succ])
  go_wp2_with (((first | (go_at_call 100; with_reducible refine (namesB_any _ _).mono ?_) | (go_at_call 101; with_reducible refine (within_v _ _ _ _ _ _ _ _ _ _).mono ?_) | (go_at_call 101; with_reducible refine (within_s _ _ _ _ _ _ _ _ _ _).mono ?_) | (go_at_call 102; with_reducible refine (same13_any _ _ _ _ _ _ _ _ _ _ _ _ _ _ _ _ _ _ lx [] _ HX.out List.length_nil hn (h1.gr (gri)) Row.nil).mono ?_)); rintro _ _ ⟨rfl, g, rfl⟩))
 go_ret
 exact ⟨ret_bool (by simp [sameB, b0, b1, Bool.and_assoc]), gri⟩
theorem mayOp_2 (xv xt xs xa xc : Int) (xD : Option Addr) (xn xq : Nat) (lx : List UInt8) (w : World) (hx : lx.length = xn) (hn : xn ≤ 9223372036854775807) (h1 : Row bv w xD lx) : Calls Tryz.prog 70 #[(Value.agg #[.int .i64 2, .int .u64 xv, .int .u64 xt, .int .i64 xs, .int .i64 xa, .int .i64 xc, .slice xD xn xq])] w fun e w' => e = .returned (.bool (mayOpB 2 xv xt xs xa xc xn lx)) ∧ Gr w w' := by
 have HX := hd_ hx; clear hx
 have en : namesB 2 = ⟨#[118]⟩ := rfl
 have E0 : mayOpB 2 xv xt xs xa xc xn lx = (wVol xv && (xt == 0) && (xs == 0) && (xa == 0) && (xc == 0) && (lx == [])) := rfl
 rw [E0]; clear E0
 rcases Bool.eq_false_or_eq_true (wVol xv) with b0 | b0
 rotate_left
 ·go_enter Tryz.func70, Tryz.ntmps70
  iterate 2
   try first | rw [rounds_succ] | (refine wp_loop_rounds 1 ?_; rw [rounds_succ])
   go_wp2_with (((first | (go_at_call 100; with_reducible refine (namesB_any _ _).mono ?_) | (go_at_call 101; with_reducible refine (within_v _ _ _ _ _ _ _ _ _ _).mono ?_) | (go_at_call 102; with_reducible refine (same13_any _ _ _ _ _ _ _ _ _ _ _ _ _ _ _ _ _ _ lx [] _ HX.out List.length_nil hn (h1.gr (gri)) Row.nil).mono ?_)); rintro _ _ ⟨rfl, g, rfl⟩))
  go_ret
  exact ⟨ret_bool (by simp [b0]), gri⟩
 go_enter Tryz.func70, Tryz.ntmps70
 iterate 3
  try first | rw [rounds_succ] | (refine wp_loop_rounds 2 ?_; rw [rounds_succ])
  go_wp2_with (((first | (go_at_call 100; with_reducible refine (namesB_any _ _).mono ?_) | (go_at_call 101; with_reducible refine (within_v _ _ _ _ _ _ _ _ _ _).mono ?_) | (go_at_call 102; with_reducible refine (same13_any _ _ _ _ _ _ _ _ _ _ _ _ _ _ _ _ _ _ lx [] _ HX.out List.length_nil hn (h1.gr (gri)) Row.nil).mono ?_)); rintro _ _ ⟨rfl, g, rfl⟩))
 go_ret
 exact ⟨ret_bool (by simp [sameB, b0, Bool.and_assoc]), gri⟩
theorem mayOp_3 (xv xt xs xa xc : Int) (xD : Option Addr) (xn xq : Nat) (lx : List UInt8) (w : World) (hx : lx.length = xn) (hn : xn ≤ 9223372036854775807) (h1 : Row bv w xD lx) : Calls Tryz.prog 70 #[(Value.agg #[.int .i64 3, .int .u64 xv, .int .u64 xt, .int .i64 xs, .int .i64 xa, .int .i64 xc, .slice xD xn xq])] w fun e w' => e = .returned (.bool (mayOpB 3 xv xt xs xa xc xn lx)) ∧ Gr w w' := by
 have HX := hd_ hx; clear hx
 have en : namesB 3 = ⟨#[118, 115]⟩ := rfl
 have E0 : mayOpB 3 xv xt xs xa xc xn lx = (wVol xv && wSize xs && (xt == 0) && (xa == 0) && (xc == 0) && (lx == [])) := rfl
 rw [E0]; clear E0
 rcases Bool.eq_false_or_eq_true (wVol xv) with b0 | b0
 rotate_left
 ·go_enter Tryz.func70, Tryz.ntmps70
  iterate 2
   try first | rw [rounds_succ] | (refine wp_loop_rounds 1 ?_; rw [rounds_succ])
   go_wp2_with (((first | (go_at_call 100; with_reducible refine (namesB_any _ _).mono ?_) | (go_at_call 101; with_reducible refine (within_v _ _ _ _ _ _ _ _ _ _).mono ?_) | (go_at_call 101; with_reducible refine (within_s _ _ _ _ _ _ _ _ _ _).mono ?_) | (go_at_call 102; with_reducible refine (same13_any _ _ _ _ _ _ _ _ _ _ _ _ _ _ _ _ _ _ lx [] _ HX.out List.length_nil hn (h1.gr (gri)) Row.nil).mono ?_)); rintro _ _ ⟨rfl, g, rfl⟩))
  go_ret
  exact ⟨ret_bool (by simp [b0]), gri⟩
 rcases Bool.eq_false_or_eq_true (wSize xs) with b1 | b1
 rotate_left
 ·go_enter Tryz.func70, Tryz.ntmps70
  iterate 3
   try first | rw [rounds_succ] | (refine wp_loop_rounds 2 ?_; rw [rounds_succ])
   go_wp2_with (((first | (go_at_call 100; with_reducible refine (namesB_any _ _).mono ?_) | (go_at_call 101; with_reducible refine (within_v _ _ _ _ _ _ _ _ _ _).mono ?_) | (go_at_call 101; with_reducible refine (within_s _ _ _ _ _ _ _ _ _ _).mono ?_) | (go_at_call 102; with_reducible refine (same13_any _ _ _ _ _ _ _ _ _ _ _ _ _ _ _ _ _ _ lx [] _ HX.out List.length_nil hn (h1.gr (gri)) Row.nil).mono ?_)); rintro _ _ ⟨rfl, g, rfl⟩))
  go_ret
  exact ⟨ret_bool (by simp [b0, b1]), gri⟩
 go_enter Tryz.func70, Tryz.ntmps70
 iterate 4
  try first | rw [rounds_succ] | (refine wp_loop_rounds 3 ?_; rw [rounds_succ])
  go_wp2_with (((first | (go_at_call 100; with_reducible refine (namesB_any _ _).mono ?_) | (go_at_call 101; with_reducible refine (within_v _ _ _ _ _ _ _ _ _ _).mono ?_) | (go_at_call 101; with_reducible refine (within_s _ _ _ _ _ _ _ _ _ _).mono ?_) | (go_at_call 102; with_reducible refine (same13_any _ _ _ _ _ _ _ _ _ _ _ _ _ _ _ _ _ _ lx [] _ HX.out List.length_nil hn (h1.gr (gri)) Row.nil).mono ?_)); rintro _ _ ⟨rfl, g, rfl⟩))
 go_ret
 exact ⟨ret_bool (by simp [sameB, b0, b1, Bool.and_assoc]), gri⟩
theorem mayOp_4 (xv xt xs xa xc : Int) (xD : Option Addr) (xn xq : Nat) (lx : List UInt8) (w : World) (hx : lx.length = xn) (hn : xn ≤ 9223372036854775807) (h1 : Row bv w xD lx) : Calls Tryz.prog 70 #[(Value.agg #[.int .i64 4, .int .u64 xv, .int .u64 xt, .int .i64 xs, .int .i64 xa, .int .i64 xc, .slice xD xn xq])] w fun e w' => e = .returned (.bool (mayOpB 4 xv xt xs xa xc xn lx)) ∧ Gr w w' := by
 have HX := hd_ hx; clear hx
 have en : namesB 4 = ⟨#[118, 116]⟩ := rfl
 have E0 : mayOpB 4 xv xt xs xa xc xn lx = (wVol xv && wTo xt xv && (xs == 0) && (xa == 0) && (xc == 0) && (lx == [])) := rfl
 rw [E0]; clear E0
 rcases Bool.eq_false_or_eq_true (wVol xv) with b0 | b0
 rotate_left
 ·go_enter Tryz.func70, Tryz.ntmps70
  iterate 2
   try first | rw [rounds_succ] | (refine wp_loop_rounds 1 ?_; rw [rounds_succ])
   go_wp2_with (((first | (go_at_call 100; with_reducible refine (namesB_any _ _).mono ?_) | (go_at_call 101; with_reducible refine (within_v _ _ _ _ _ _ _ _ _ _).mono ?_) | (go_at_call 101; with_reducible refine (within_t _ _ _ _ _ _ _ _ _ _).mono ?_) | (go_at_call 102; with_reducible refine (same13_any _ _ _ _ _ _ _ _ _ _ _ _ _ _ _ _ _ _ lx [] _ HX.out List.length_nil hn (h1.gr (gri)) Row.nil).mono ?_)); rintro _ _ ⟨rfl, g, rfl⟩))
  go_ret
  exact ⟨ret_bool (by simp [b0]), gri⟩
 rcases Bool.eq_false_or_eq_true (wTo xt xv) with b1 | b1
 rotate_left
 ·go_enter Tryz.func70, Tryz.ntmps70
  iterate 3
   try first | rw [rounds_succ] | (refine wp_loop_rounds 2 ?_; rw [rounds_succ])
   go_wp2_with (((first | (go_at_call 100; with_reducible refine (namesB_any _ _).mono ?_) | (go_at_call 101; with_reducible refine (within_v _ _ _ _ _ _ _ _ _ _).mono ?_) | (go_at_call 101; with_reducible refine (within_t _ _ _ _ _ _ _ _ _ _).mono ?_) | (go_at_call 102; with_reducible refine (same13_any _ _ _ _ _ _ _ _ _ _ _ _ _ _ _ _ _ _ lx [] _ HX.out List.length_nil hn (h1.gr (gri)) Row.nil).mono ?_)); rintro _ _ ⟨rfl, g, rfl⟩))
  go_ret
  exact ⟨ret_bool (by simp [b0, b1]), gri⟩
 go_enter Tryz.func70, Tryz.ntmps70
 iterate 4
  try first | rw [rounds_succ] | (refine wp_loop_rounds 3 ?_; rw [rounds_succ])
  go_wp2_with (((first | (go_at_call 100; with_reducible refine (namesB_any _ _).mono ?_) | (go_at_call 101; with_reducible refine (within_v _ _ _ _ _ _ _ _ _ _).mono ?_) | (go_at_call 101; with_reducible refine (within_t _ _ _ _ _ _ _ _ _ _).mono ?_) | (go_at_call 102; with_reducible refine (same13_any _ _ _ _ _ _ _ _ _ _ _ _ _ _ _ _ _ _ lx [] _ HX.out List.length_nil hn (h1.gr (gri)) Row.nil).mono ?_)); rintro _ _ ⟨rfl, g, rfl⟩))
 go_ret
 exact ⟨ret_bool (by simp [sameB, b0, b1, Bool.and_assoc]), gri⟩
theorem mayOp_5 (xv xt xs xa xc : Int) (xD : Option Addr) (xn xq : Nat) (lx : List UInt8) (w : World) (hx : lx.length = xn) (hn : xn ≤ 9223372036854775807) (h1 : Row bv w xD lx) : Calls Tryz.prog 70 #[(Value.agg #[.int .i64 5, .int .u64 xv, .int .u64 xt, .int .i64 xs, .int .i64 xa, .int .i64 xc, .slice xD xn xq])] w fun e w' => e = .returned (.bool (mayOpB 5 xv xt xs xa xc xn lx)) ∧ Gr w w' := by
 have HX := hd_ hx; clear hx
 have en : namesB 5 = ⟨#[118, 97, 100]⟩ := rfl
 have E0 : mayOpB 5 xv xt xs xa xc xn lx = (wVol xv && wAt xa && wData xn && (xt == 0) && (xs == 0) && (xc == 0)) := rfl
 rw [E0]; clear E0
 rcases Bool.eq_false_or_eq_true (wVol xv) with b0 | b0
 rotate_left
 ·go_enter Tryz.func70, Tryz.ntmps70
  iterate 2
   try first | rw [rounds_succ] | (refine wp_loop_rounds 1 ?_; rw [rounds_succ])
   go_wp2_with (((first | (go_at_call 100; with_reducible refine (namesB_any _ _).mono ?_) | (go_at_call 101; with_reducible refine (within_v _ _ _ _ _ _ _ _ _ _).mono ?_) | (go_at_call 101; with_reducible refine (within_a _ _ _ _ _ _ _ _ _ _).mono ?_) | (go_at_call 101; with_reducible refine (within_d _ _ _ _ _ _ _ _ _ _).mono ?_) | (go_at_call 102; with_reducible refine (same13_any _ _ _ _ _ _ _ _ _ _ _ _ _ _ _ _ _ _ lx lx _ HX.out HX.out hn (h1.gr (gri)) (h1.gr (gri))).mono ?_)); rintro _ _ ⟨rfl, g, rfl⟩))
  go_ret
  exact ⟨ret_bool (by simp [b0]), gri⟩
 rcases Bool.eq_false_or_eq_true (wAt xa) with b1 | b1
 rotate_left
 ·go_enter Tryz.func70, Tryz.ntmps70
  iterate 3
   try first | rw [rounds_succ] | (refine wp_loop_rounds 2 ?_; rw [rounds_succ])
   go_wp2_with (((first | (go_at_call 100; with_reducible refine (namesB_any _ _).mono ?_) | (go_at_call 101; with_reducible refine (within_v _ _ _ _ _ _ _ _ _ _).mono ?_) | (go_at_call 101; with_reducible refine (within_a _ _ _ _ _ _ _ _ _ _).mono ?_) | (go_at_call 101; with_reducible refine (within_d _ _ _ _ _ _ _ _ _ _).mono ?_) | (go_at_call 102; with_reducible refine (same13_any _ _ _ _ _ _ _ _ _ _ _ _ _ _ _ _ _ _ lx lx _ HX.out HX.out hn (h1.gr (gri)) (h1.gr (gri))).mono ?_)); rintro _ _ ⟨rfl, g, rfl⟩))
  go_ret
  exact ⟨ret_bool (by simp [b0, b1]), gri⟩
 rcases Bool.eq_false_or_eq_true (wData xn) with b2 | b2
 rotate_left
 ·go_enter Tryz.func70, Tryz.ntmps70
  iterate 4
   try first | rw [rounds_succ] | (refine wp_loop_rounds 3 ?_; rw [rounds_succ])
   go_wp2_with (((first | (go_at_call 100; with_reducible refine (namesB_any _ _).mono ?_) | (go_at_call 101; with_reducible refine (within_v _ _ _ _ _ _ _ _ _ _).mono ?_) | (go_at_call 101; with_reducible refine (within_a _ _ _ _ _ _ _ _ _ _).mono ?_) | (go_at_call 101; with_reducible refine (within_d _ _ _ _ _ _ _ _ _ _).mono ?_) | (go_at_call 102; with_reducible refine (same13_any _ _ _ _ _ _ _ _ _ _ _ _ _ _ _ _ _ _ lx lx _ HX.out HX.out hn (h1.gr (gri)) (h1.gr (gri))).mono ?_)); rintro _ _ ⟨rfl, g, rfl⟩))
  go_ret
  exact ⟨ret_bool (by simp [b0, b1, b2]), gri⟩
 go_enter Tryz.func70, Tryz.ntmps70
 iterate 5
  try first | rw [rounds_succ] | (refine wp_loop_rounds 4 ?_; rw [rounds_succ])
  go_wp2_with (((first | (go_at_call 100; with_reducible refine (namesB_any _ _).mono ?_) | (go_at_call 101; with_reducible refine (within_v _ _ _ _ _ _ _ _ _ _).mono ?_) | (go_at_call 101; with_reducible refine (within_a _ _ _ _ _ _ _ _ _ _).mono ?_) | (go_at_call 101; with_reducible refine (within_d _ _ _ _ _ _ _ _ _ _).mono ?_) | (go_at_call 102; with_reducible refine (same13_any _ _ _ _ _ _ _ _ _ _ _ _ _ _ _ _ _ _ lx lx _ HX.out HX.out hn (h1.gr (gri)) (h1.gr (gri))).mono ?_)); rintro _ _ ⟨rfl, g, rfl⟩))
 go_ret
 exact ⟨ret_bool (by simp [sameB, b0, b1, b2, Bool.and_assoc]), gri⟩
theorem mayOp_6 (xv xt xs xa xc : Int) (xD : Option Addr) (xn xq : Nat) (lx : List UInt8) (w : World) (hx : lx.length = xn) (hn : xn ≤ 9223372036854775807) (h1 : Row bv w xD lx) : Calls Tryz.prog 70 #[(Value.agg #[.int .i64 6, .int .u64 xv, .int .u64 xt, .int .i64 xs, .int .i64 xa, .int .i64 xc, .slice xD xn xq])] w fun e w' => e = .returned (.bool (mayOpB 6 xv xt xs xa xc xn lx)) ∧ Gr w w' := by
 have HX := hd_ hx; clear hx
 have en : namesB 6 = ⟨#[118, 97, 99]⟩ := rfl
 have E0 : mayOpB 6 xv xt xs xa xc xn lx = (wVol xv && wAt xa && wCount xc && (xt == 0) && (xs == 0) && (lx == [])) := rfl
 rw [E0]; clear E0
 rcases Bool.eq_false_or_eq_true (wVol xv) with b0 | b0
 rotate_left
 ·go_enter Tryz.func70, Tryz.ntmps70
  iterate 2
   try first | rw [rounds_succ] | (refine wp_loop_rounds 1 ?_; rw [rounds_succ])
   go_wp2_with (((first | (go_at_call 100; with_reducible refine (namesB_any _ _).mono ?_) | (go_at_call 101; with_reducible refine (within_v _ _ _ _ _ _ _ _ _ _).mono ?_) | (go_at_call 101; with_reducible refine (within_a _ _ _ _ _ _ _ _ _ _).mono ?_) | (go_at_call 101; with_reducible refine (within_c _ _ _ _ _ _ _ _ _ _).mono ?_) | (go_at_call 102; with_reducible refine (same13_any _ _ _ _ _ _ _ _ _ _ _ _ _ _ _ _ _ _ lx [] _ HX.out List.length_nil hn (h1.gr (gri)) Row.nil).mono ?_)); rintro _ _ ⟨rfl, g, rfl⟩))
  go_ret
  exact ⟨ret_bool (by simp [b0]), gri⟩
 rcases Bool.eq_false_or_eq_true (wAt xa) with b1 | b1
 rotate_left
 ·go_enter Tryz.func70, Tryz.ntmps70
  iterate 3
   try first | rw [rounds_succ] | (refine wp_loop_rounds 2 ?_; rw [rounds_succ])
   go_wp2_with (((first | (go_at_call 100; with_reducible refine (namesB_any _ _).mono ?_) | (go_at_call 101; with_reducible refine (within_v _ _ _ _ _ _ _ _ _ _).mono ?_) | (go_at_call 101; with_reducible refine (within_a _ _ _ _ _ _ _ _ _ _).mono ?_) | (go_at_call 101; with_reducible refine (within_c _ _ _ _ _ _ _ _ _ _).mono ?_) | (go_at_call 102; with_reducible refine (same13_any _ _ _ _ _ _ _ _ _ _ _ _ _ _ _ _ _ _ lx [] _ HX.out List.length_nil hn (h1.gr (gri)) Row.nil).mono ?_)); rintro _ _ ⟨rfl, g, rfl⟩))
  go_ret
  exact ⟨ret_bool (by simp [b0, b1]), gri⟩
 rcases Bool.eq_false_or_eq_true (wCount xc) with b2 | b2
 rotate_left
 ·go_enter Tryz.func70, Tryz.ntmps70
  iterate 4
   try first | rw [rounds_succ] | (refine wp_loop_rounds 3 ?_; rw [rounds_succ])
   go_wp2_with (((first | (go_at_call 100; with_reducible refine (namesB_any _ _).mono ?_) | (go_at_call 101; with_reducible refine (within_v _ _ _ _ _ _ _ _ _ _).mono ?_) | (go_at_call 101; with_reducible refine (within_a _ _ _ _ _ _ _ _ _ _).mono ?_) | (go_at_call 101; with_reducible refine (within_c _ _ _ _ _ _ _ _ _ _).mono ?_) | (go_at_call 102; with_reducible refine (same13_any _ _ _ _ _ _ _ _ _ _ _ _ _ _ _ _ _ _ lx [] _ HX.out List.length_nil hn (h1.gr (gri)) Row.nil).mono ?_)); rintro _ _ ⟨rfl, g, rfl⟩))
  go_ret
  exact ⟨ret_bool (by simp [b0, b1, b2]), gri⟩
 go_enter Tryz.func70, Tryz.ntmps70
 iterate 5
  try first | rw [rounds_succ] | (refine wp_loop_rounds 4 ?_; rw [rounds_succ])
  go_wp2_with (((first | (go_at_call 100; with_reducible refine (namesB_any _ _).mono ?_) | (go_at_call 101; with_reducible refine (within_v _ _ _ _ _ _ _ _ _ _).mono ?_) | (go_at_call 101; with_reducible refine (within_a _ _ _ _ _ _ _ _ _ _).mono ?_) | (go_at_call 101; with_reducible refine (within_c _ _ _ _ _ _ _ _ _ _).mono ?_) | (go_at_call 102; with_reducible refine (same13_any _ _ _ _ _ _ _ _ _ _ _ _ _ _ _ _ _ _ lx [] _ HX.out List.length_nil hn (h1.gr (gri)) Row.nil).mono ?_)); rintro _ _ ⟨rfl, g, rfl⟩))
 go_ret
 exact ⟨ret_bool (by simp [sameB, b0, b1, b2, Bool.and_assoc]), gri⟩
theorem mayOp_7 (xv xt xs xa xc : Int) (xD : Option Addr) (xn xq : Nat) (lx : List UInt8) (w : World) (hx : lx.length = xn) (hn : xn ≤ 9223372036854775807) (h1 : Row bv w xD lx) : Calls Tryz.prog 70 #[(Value.agg #[.int .i64 7, .int .u64 xv, .int .u64 xt, .int .i64 xs, .int .i64 xa, .int .i64 xc, .slice xD xn xq])] w fun e w' => e = .returned (.bool (mayOpB 7 xv xt xs xa xc xn lx)) ∧ Gr w w' := by
 have HX := hd_ hx; clear hx
 have en : namesB 7 = ⟨#[118, 97, 99]⟩ := rfl
 have E0 : mayOpB 7 xv xt xs xa xc xn lx = (wVol xv && wAt xa && wCount xc && (xt == 0) && (xs == 0) && (lx == [])) := rfl
 rw [E0]; clear E0
 rcases Bool.eq_false_or_eq_true (wVol xv) with b0 | b0
 rotate_left
 ·go_enter Tryz.func70, Tryz.ntmps70
  iterate 2
   try first | rw [rounds_succ] | (refine wp_loop_rounds 1 ?_; rw [rounds_succ])
   go_wp2_with (((first | (go_at_call 100; with_reducible refine (namesB_any _ _).mono ?_) | (go_at_call 101; with_reducible refine (within_v _ _ _ _ _ _ _ _ _ _).mono ?_) | (go_at_call 101; with_reducible refine (within_a _ _ _ _ _ _ _ _ _ _).mono ?_) | (go_at_call 101; with_reducible refine (within_c _ _ _ _ _ _ _ _ _ _).mono ?_) | (go_at_call 102; with_reducible refine (same13_any _ _ _ _ _ _ _ _ _ _ _ _ _ _ _ _ _ _ lx [] _ HX.out List.length_nil hn (h1.gr (gri)) Row.nil).mono ?_)); rintro _ _ ⟨rfl, g, rfl⟩))
  go_ret
  exact ⟨ret_bool (by simp [b0]), gri⟩
 rcases Bool.eq_false_or_eq_true (wAt xa) with b1 | b1
 rotate_left
 ·go_enter Tryz.func70, Tryz.ntmps70
  iterate 3
   try first | rw [rounds_succ] | (refine wp_loop_rounds 2 ?_; rw [rounds_succ])
   go_wp2_with (((first | (go_at_call 100; with_reducible refine (namesB_any _ _).mono ?_) | (go_at_call 101; with_reducible refine (within_v _ _ _ _ _ _ _ _ _ _).mono ?_) | (go_at_call 101; with_reducible refine (within_a _ _ _ _ _ _ _ _ _ _).mono ?_) | (go_at_call 101; with_reducible refine (within_c _ _ _ _ _ _ _ _ _ _).mono ?_) | (go_at_call 102; with_reducible refine (same13_any _ _ _ _ _ _ _ _ _ _ _ _ _ _ _ _ _ _ lx [] _ HX.out List.length_nil hn (h1.gr (gri)) Row.nil).mono ?_)); rintro _ _ ⟨rfl, g, rfl⟩))
  go_ret
  exact ⟨ret_bool (by simp [b0, b1]), gri⟩
 rcases Bool.eq_false_or_eq_true (wCount xc) with b2 | b2
 rotate_left
 ·go_enter Tryz.func70, Tryz.ntmps70
  iterate 4
   try first | rw [rounds_succ] | (refine wp_loop_rounds 3 ?_; rw [rounds_succ])
   go_wp2_with (((first | (go_at_call 100; with_reducible refine (namesB_any _ _).mono ?_) | (go_at_call 101; with_reducible refine (within_v _ _ _ _ _ _ _ _ _ _).mono ?_) | (go_at_call 101; with_reducible refine (within_a _ _ _ _ _ _ _ _ _ _).mono ?_) | (go_at_call 101; with_reducible refine (within_c _ _ _ _ _ _ _ _ _ _).mono ?_) | (go_at_call 102; with_reducible refine (same13_any _ _ _ _ _ _ _ _ _ _ _ _ _ _ _ _ _ _ lx [] _ HX.out List.length_nil hn (h1.gr (gri)) Row.nil).mono ?_)); rintro _ _ ⟨rfl, g, rfl⟩))
  go_ret
  exact ⟨ret_bool (by simp [b0, b1, b2]), gri⟩
 go_enter Tryz.func70, Tryz.ntmps70
 iterate 5
  try first | rw [rounds_succ] | (refine wp_loop_rounds 4 ?_; rw [rounds_succ])
  go_wp2_with (((first | (go_at_call 100; with_reducible refine (namesB_any _ _).mono ?_) | (go_at_call 101; with_reducible refine (within_v _ _ _ _ _ _ _ _ _ _).mono ?_) | (go_at_call 101; with_reducible refine (within_a _ _ _ _ _ _ _ _ _ _).mono ?_) | (go_at_call 101; with_reducible refine (within_c _ _ _ _ _ _ _ _ _ _).mono ?_) | (go_at_call 102; with_reducible refine (same13_any _ _ _ _ _ _ _ _ _ _ _ _ _ _ _ _ _ _ lx [] _ HX.out List.length_nil hn (h1.gr (gri)) Row.nil).mono ?_)); rintro _ _ ⟨rfl, g, rfl⟩))
 go_ret
 exact ⟨ret_bool (by simp [sameB, b0, b1, b2, Bool.and_assoc]), gri⟩
theorem mayOp_8 (xv xt xs xa xc : Int) (xD : Option Addr) (xn xq : Nat) (lx : List UInt8) (w : World) (hx : lx.length = xn) (hn : xn ≤ 9223372036854775807) (h1 : Row bv w xD lx) : Calls Tryz.prog 70 #[(Value.agg #[.int .i64 8, .int .u64 xv, .int .u64 xt, .int .i64 xs, .int .i64 xa, .int .i64 xc, .slice xD xn xq])] w fun e w' => e = .returned (.bool (mayOpB 8 xv xt xs xa xc xn lx)) ∧ Gr w w' := by
 have HX := hd_ hx; clear hx
 have en : namesB 8 = ⟨#[]⟩ := rfl
 have E0 : mayOpB 8 xv xt xs xa xc xn lx = ((xv == 0) && (xt == 0) && (xs == 0) && (xa == 0) && (xc == 0) && (lx == [])) := rfl
 rw [E0]; clear E0
 go_enter Tryz.func70, Tryz.ntmps70
 iterate 2
  try first | rw [rounds_succ] | (refine wp_loop_rounds 1 ?_; rw [rounds_succ])
  go_wp2_with (((first | (go_at_call 100; with_reducible refine (namesB_any _ _).mono ?_) | (go_at_call 102; with_reducible refine (same13_any _ _ _ _ _ _ _ _ _ _ _ _ _ _ _ _ _ _ lx [] _ HX.out List.length_nil hn (h1.gr (gri)) Row.nil).mono ?_)); rintro _ _ ⟨rfl, g, rfl⟩))
 go_ret
 exact ⟨ret_bool (by simp [sameB, Bool.and_assoc]), gri⟩
theorem mayOp_9 (xv xt xs xa xc : Int) (xD : Option Addr) (xn xq : Nat) (lx : List UInt8) (w : World) (hx : lx.length = xn) (hn : xn ≤ 9223372036854775807) (h1 : Row bv w xD lx) : Calls Tryz.prog 70 #[(Value.agg #[.int .i64 9, .int .u64 xv, .int .u64 xt, .int .i64 xs, .int .i64 xa, .int .i64 xc, .slice xD xn xq])] w fun e w' => e = .returned (.bool (mayOpB 9 xv xt xs xa xc xn lx)) ∧ Gr w w' := by
 have HX := hd_ hx; clear hx
 have en : namesB 9 = ⟨#[118, 97, 99]⟩ := rfl
 have E0 : mayOpB 9 xv xt xs xa xc xn lx = (wVol xv && wAt xa && wCount xc && (xt == 0) && (xs == 0) && (lx == [])) := rfl
 rw [E0]; clear E0
 rcases Bool.eq_false_or_eq_true (wVol xv) with b0 | b0
 rotate_left
 ·go_enter Tryz.func70, Tryz.ntmps70
  iterate 2
   try first | rw [rounds_succ] | (refine wp_loop_rounds 1 ?_; rw [rounds_succ])
   go_wp2_with (((first | (go_at_call 100; with_reducible refine (namesB_any _ _).mono ?_) | (go_at_call 101; with_reducible refine (within_v _ _ _ _ _ _ _ _ _ _).mono ?_) | (go_at_call 101; with_reducible refine (within_a _ _ _ _ _ _ _ _ _ _).mono ?_) | (go_at_call 101; with_reducible refine (within_c _ _ _ _ _ _ _ _ _ _).mono ?_) | (go_at_call 102; with_reducible refine (same13_any _ _ _ _ _ _ _ _ _ _ _ _ _ _ _ _ _ _ lx [] _ HX.out List.length_nil hn (h1.gr (gri)) Row.nil).mono ?_)); rintro _ _ ⟨rfl, g, rfl⟩))
  go_ret
  exact ⟨ret_bool (by simp [b0]), gri⟩
 rcases Bool.eq_false_or_eq_true (wAt xa) with b1 | b1
 rotate_left
 ·go_enter Tryz.func70, Tryz.ntmps70
  iterate 3
   try first | rw [rounds_succ] | (refine wp_loop_rounds 2 ?_; rw [rounds_succ])
   go_wp2_with (((first | (go_at_call 100; with_reducible refine (namesB_any _ _).mono ?_) | (go_at_call 101; with_reducible refine (within_v _ _ _ _ _ _ _ _ _ _).mono ?_) | (go_at_call 101; with_reducible refine (within_a _ _ _ _ _ _ _ _ _ _).mono ?_) | (go_at_call 101; with_reducible refine (within_c _ _ _ _ _ _ _ _ _ _).mono ?_) | (go_at_call 102; with_reducible refine (same13_any _ _ _ _ _ _ _ _ _ _ _ _ _ _ _ _ _ _ lx [] _ HX.out List.length_nil hn (h1.gr (gri)) Row.nil).mono ?_)); rintro _ _ ⟨rfl, g, rfl⟩))
  go_ret
  exact ⟨ret_bool (by simp [b0, b1]), gri⟩
 rcases Bool.eq_false_or_eq_true (wCount xc) with b2 | b2
 rotate_left
 ·go_enter Tryz.func70, Tryz.ntmps70
  iterate 4
   try first | rw [rounds_succ] | (refine wp_loop_rounds 3 ?_; rw [rounds_succ])
   go_wp2_with (((first | (go_at_call 100; with_reducible refine (namesB_any _ _).mono ?_) | (go_at_call 101; with_reducible refine (within_v _ _ _ _ _ _ _ _ _ _).mono ?_) | (go_at_call 101; with_reducible refine (within_a _ _ _ _ _ _ _ _ _ _).mono ?_) | (go_at_call 101; with_reducible refine (within_c _ _ _ _ _ _ _ _ _ _).mono ?_) | (go_at_call 102; with_reducible refine (same13_any _ _ _ _ _ _ _ _ _ _ _ _ _ _ _ _ _ _ lx [] _ HX.out List.length_nil hn (h1.gr (gri)) Row.nil).mono ?_)); rintro _ _ ⟨rfl, g, rfl⟩))
  go_ret
  exact ⟨ret_bool (by simp [b0, b1, b2]), gri⟩
 go_enter Tryz.func70, Tryz.ntmps70
 iterate 5
  try first | rw [rounds_succ] | (refine wp_loop_rounds 4 ?_; rw [rounds_succ])
  go_wp2_with (((first | (go_at_call 100; with_reducible refine (namesB_any _ _).mono ?_) | (go_at_call 101; with_reducible refine (within_v _ _ _ _ _ _ _ _ _ _).mono ?_) | (go_at_call 101; with_reducible refine (within_a _ _ _ _ _ _ _ _ _ _).mono ?_) | (go_at_call 101; with_reducible refine (within_c _ _ _ _ _ _ _ _ _ _).mono ?_) | (go_at_call 102; with_reducible refine (same13_any _ _ _ _ _ _ _ _ _ _ _ _ _ _ _ _ _ _ lx [] _ HX.out List.length_nil hn (h1.gr (gri)) Row.nil).mono ?_)); rintro _ _ ⟨rfl, g, rfl⟩))
 go_ret
 exact ⟨ret_bool (by simp [sameB, b0, b1, b2, Bool.and_assoc]), gri⟩
theorem mayOp_off (xk xv xt xs xa xc : Int) (xD : Option Addr) (xn xq : Nat) (lx : List UInt8) (w : World) (h : xk < 1 ∨ 9 < xk) : Calls Tryz.prog 70 #[(Value.agg #[.int .i64 xk, .int .u64 xv, .int .u64 xt, .int .i64 xs, .int .i64 xa, .int .i64 xc, .slice xD xn xq])] w fun e w' => e = .returned (.bool (mayOpB xk xv xt xs xa xc xn lx)) ∧ Gr w w' := by
 have en : namesB xk = ⟨#[]⟩ := namesB_off xk (by omega)
 have E0 : mayOpB xk xv xt xs xa xc xn lx = false := by
  unfold mayOpB
  repeat (rw [if_neg (by omega)])
 rw [E0]; clear E0
 rcases h with h | h
 ·have h2 : decide (1 ≤ xk) = false := by simpa using h
  go_enter Tryz.func70, Tryz.ntmps70
  iterate 2
   try first | rw [rounds_succ] | (refine wp_loop_rounds 1 ?_; rw [rounds_succ])
   go_wp2_with ((go_at_call 100; ((with_reducible refine (namesB_any _ _).mono ?_); rintro _ _ ⟨rfl, g, rfl⟩)))
  go_ret
  exact ⟨rfl, gri⟩
 ·have h2 : decide (xk ≤ 9) = false := by simpa using h
  have h3 : 1 ≤ xk := by omega
  go_enter Tryz.func70, Tryz.ntmps70
  iterate 2
   try first | rw [rounds_succ] | (refine wp_loop_rounds 1 ?_; rw [rounds_succ])
   go_wp2_with ((go_at_call 100; ((with_reducible refine (namesB_any _ _).mono ?_); rintro _ _ ⟨rfl, g, rfl⟩)))
  go_ret
  exact ⟨rfl, gri⟩
theorem mayOp_any (xk xv xt xs xa xc : Int) (xD : Option Addr) (xn xq : Nat) (lx : List UInt8) (w : World) (hx : lx.length = xn) (hn : xn ≤ 9223372036854775807) (h1 : Row bv w xD lx) : Calls Tryz.prog 70 #[(Value.agg #[.int .i64 xk, .int .u64 xv, .int .u64 xt, .int .i64 xs, .int .i64 xa, .int .i64 xc, .slice xD xn xq])] w fun e w' => e = .returned (.bool (mayOpB xk xv xt xs xa xc xn lx)) ∧ Gr w w' := by
 by_cases h : xk < 1 ∨ 9 < xk
 ·exact mayOp_off xk xv xt xs xa xc xD xn xq lx w h
 ·have h3 : xk = 1 ∨ xk = 2 ∨ xk = 3 ∨ xk = 4 ∨ xk = 5 ∨ xk = 6 ∨ xk = 7 ∨ xk = 8 ∨ xk = 9 := by omega
  rcases h3 with rfl | rfl | rfl | rfl | rfl | rfl | rfl | rfl | rfl
  ·exact mayOp_1 xv xt xs xa xc xD xn xq lx w hx hn h1
  ·exact mayOp_2 xv xt xs xa xc xD xn xq lx w hx hn h1
  ·exact mayOp_3 xv xt xs xa xc xD xn xq lx w hx hn h1
  ·exact mayOp_4 xv xt xs xa xc xD xn xq lx w hx hn h1
  ·exact mayOp_5 xv xt xs xa xc xD xn xq lx w hx hn h1
  ·exact mayOp_6 xv xt xs xa xc xD xn xq lx w hx hn h1
  ·exact mayOp_7 xv xt xs xa xc xD xn xq lx w hx hn h1
  ·exact mayOp_8 xv xt xs xa xc xD xn xq lx w hx hn h1
  ·exact mayOp_9 xv xt xs xa xc xD xn xq lx w hx hn h1
structure OpM where
 k : Int
 v : Int
 t : Int
 s : Int
 a : Int
 c : Int
 l : Byt
def OpM.may (o : OpM) : Bool := mayOpB o.k o.v o.t o.s o.a o.c o.l.length o.l
structure Spn where
 b : Nat
 f : Nat
 t : Nat
def spansK : Nat → Nat → Nat → List Spn
 | 0, _, _ => []
 | n + 1, a, c => if c = 0 then [] else ⟨a / 4, a % 4, a % 4 + min (4 - a % 4) c⟩ :: spansK n (a + min (4 - a % 4) c) (c - min (4 - a % 4) c)
def spans (a c : Nat) : List Spn := spansK c a c
def mergeB (B : Byt) (f : Nat) (x : Byt) : Byt := B.take (64 * f) ++ x ++ B.drop (64 * f + x.length)
def segK (s : Spn) (a : Nat) (data : Byt) : Byt := (data.drop (64 * (4 * s.b + s.f - a))).take (64 * (s.t - s.f))
def cutK (B : Byt) (s : Spn) : Byt := (B.drop (64 * s.f)).take (64 * (s.t - s.f))
def blkM (m : List (Int × Byt)) (b : Nat) : Byt := (getK m b).getD zB
def putS (a : Nat) (data : Byt) (m : List (Int × Byt)) (s : Spn) : List (Int × Byt) := putK m s.b (mergeB (blkM m s.b) s.f (segK s a data))
def putL (a : Nat) (data : Byt) (m : List (Int × Byt)) (l : List Spn) : List (Int × Byt) := l.foldl (putS a data) m
def errK (d : Dev) (o : OpM) : Int :=
 if o.may = false then 2 else if o.k = 8 then 0 else match getK d o.v with
  | none => if o.k = 1 then 0 else 6
  | some x => if o.k = 1 then 7 else if o.k = 4 then (if (getK d o.t).isSome then 7 else 0) else if o.k = 5 then (if 4 * x.1 < o.a + (o.l.length / 64 : Nat) then 5 else 0)
   else if o.k = 6 ∨ o.k = 9 then (if 4 * x.1 < o.a + o.c then 5 else 0) else if o.k = 7 then (if x.1 < o.a + o.c then 5 else 0) else 0
def volD (d : Dev) (v : Int) : VolM := (getK d v).getD (0, [])
def dataO (o : OpM) : Byt := if o.k = 6 then List.replicate (64 * o.c.toNat) 0 else o.l
def cntO (o : OpM) : Nat := if o.k = 5 then o.l.length / 64 else o.c.toNat
def didK (d : Dev) (o : OpM) (most : Int) : Dev :=
 if o.k = 1 then putK d o.v (o.s, []) else if o.k = 2 then delK d o.v
 else if o.k = 3 then putK d o.v (o.s, (volD d o.v).2.filter fun p => decide (p.1 < o.s))
 else if o.k = 4 then putK d o.t (volD d o.v)
 else if o.k = 5 ∨ o.k = 6 then putK d o.v ((volD d o.v).1, putL o.a.toNat (dataO o) (volD d o.v).2 ((spans o.a.toNat (cntO o)).take most.toNat))
 else if o.k = 7 then putK d o.v ((volD d o.v).1, (volD d o.v).2.filter fun p => decide (p.1 < o.a ∨ o.a + o.c ≤ p.1)) else d
def readK (d : Dev) (o : OpM) : Byt := (spans o.a.toNat o.c.toNat).flatMap fun s => cutK (blkM (volD d o.v).2 s.b) s
def partK (d : Dev) (o : OpM) (most : Int) : Dev := if errK d o = 0 then didK d o most else d
def ansK (d : Dev) (o : OpM) (most : Int) : Int × Int × Byt :=
 if errK d o = 0 then (if (o.k = 5 ∨ o.k = 6) ∧ most < (spans o.a.toNat (cntO o)).length then (8, max most 0, []) else (0, 0, if o.k = 9 then readK d o else [])) else (errK d o, 0, [])
def doK (d : Dev) (o : OpM) : Dev := partK d o 1024
def devOf (l : List OpM) : Dev := l.foldl doK []
/-! Spans. -/
theorem spansK_all : ∀ (n a c : Nat), ∀ s ∈ spansK n a c, s.f < s.t ∧ s.t ≤ 4 ∧ a ≤ 4 * s.b + s.f ∧ 4 * s.b + s.t ≤ a + c
 | 0, _, _, s, h => by simp [spansK] at h
 | n + 1, a, c, s, h => by
  unfold spansK at h
  split at h
  ·simp at h
  ·rcases List.mem_cons.1 h with rfl | h
   ·simp only; omega
   ·have := spansK_all n _ _ s h
    omega
theorem spans_all {a c : Nat} : ∀ s ∈ spans a c, s.f < s.t ∧ s.t ≤ 4 ∧ a ≤ 4 * s.b + s.f ∧ 4 * s.b + s.t ≤ a + c := spansK_all c a c
theorem spansK_len : ∀ (n a c : Nat), (spansK n a c).length ≤ n
 | 0, _, _ => by simp [spansK]
 | n + 1, a, c => by
  unfold spansK
  split
  ·simp
  ·simp only [List.length_cons]; exact Nat.succ_le_succ (spansK_len n _ _)
theorem spans_len (a c : Nat) : (spans a c).length ≤ c := spansK_len c a c
theorem spansK_fuel : ∀ (n m a c : Nat), c ≤ n → c ≤ m → spansK n a c = spansK m a c
 | 0, m, a, c, h1, h2 => by
  have : c = 0 := by omega
  subst this
  cases m with
  | zero => rfl
  | succ m => simp [spansK]
 | n + 1, 0, a, c, h1, h2 => by
  have : c = 0 := by omega
  subst this
  simp [spansK]
 | n + 1, m + 1, a, c, h1, h2 => by
  unfold spansK
  split
  ·rfl
  ·rename_i hc
   rw [spansK_fuel n m _ _ (by omega) (by omega)]
theorem spans_cons (a c : Nat) (h : 0 < c) : spans a c = ⟨a / 4, a % 4, a % 4 + min (4 - a % 4) c⟩ :: spans (a + min (4 - a % 4) c) (c - min (4 - a % 4) c) := by
 unfold spans
 cases c with
 | zero => omega
 | succ c =>
  conv => lhs; unfold spansK
  rw [if_neg (by omega)]
  congr 1
  exact spansK_fuel _ _ _ _ (by omega) (Nat.le_refl _)
theorem spans_zero (a : Nat) : spans a 0 = [] := rfl
/-! What keeps a volume whole. -/
theorem mergeB_len (B : Byt) (f : Nat) (x : Byt) (h : B.length = 256) (hx : 64 * f + x.length ≤ 256) : (mergeB B f x).length = 256 := by
 simp [mergeB, h]; omega
theorem segK_len (s : Spn) (a : Nat) (data : Byt) : (segK s a data).length ≤ 64 * (s.t - s.f) := by simp [segK]; omega
theorem blkM_len {m : List (Int × Byt)} (hs : SortK m) (h : ∀ p ∈ m, p.2.length = 256) (b : Nat) : (blkM m b).length = 256 := by
 unfold blkM
 cases hg : getK m b with
 | none => exact zB_len
 | some B => exact h _ ((getK_mem hs).1 hg)
theorem putS_ok {x : VolM} (hx : VolOk x) {a : Nat} {data : Byt} {s : Spn} (h : s.f < s.t ∧ s.t ≤ 4) (hb : (s.b : Int) < x.1) : VolOk (x.1, putS a data x.2 s) where
 s0 := hx.s0
 s1 := hx.s1
 sort := sort_putK hx.sort
 keys := fun p hp => by
  rcases (mem_putK hx.sort p).1 hp with rfl | ⟨hp, _⟩
  ·exact ⟨by simp, hb⟩
  ·exact hx.keys p hp
 len := fun p hp => by
  rcases (mem_putK hx.sort p).1 hp with rfl | ⟨hp, _⟩
  ·have := segK_len s a data
   exact mergeB_len _ _ _ (blkM_len hx.sort hx.len _) (by omega)
  ·exact hx.len p hp
theorem putL_ok {a : Nat} {data : Byt} : ∀ (l : List Spn) {x : VolM} (hx : VolOk x), (∀ s ∈ l, s.f < s.t ∧ s.t ≤ 4 ∧ (s.b : Int) < x.1) → VolOk (x.1, putL a data x.2 l)
 | [], x, hx, _ => hx
 | s :: l, x, hx, h => by
  have h1 := h s (.head _)
  exact putL_ok l (x := (x.1, putS a data x.2 s)) (putS_ok hx ⟨h1.1, h1.2.1⟩ h1.2.2) (fun s' hs' => h s' (.tail _ hs'))
theorem filter_ok {x : VolM} (hx : VolOk x) (f : Int × Byt → Bool) (n : Int) (h0 : 0 ≤ n) (h1 : n ≤ 256) (hf : ∀ p ∈ x.2, f p = true → p.1 < n) : VolOk (n, x.2.filter f) where
 s0 := h0
 s1 := h1
 sort := hx.sort.filter _
 keys := fun p hp => by
  have := List.mem_filter.1 hp
  exact ⟨(hx.keys p this.1).1, hf p this.1 this.2⟩
 len := fun p hp => hx.len p (List.mem_filter.1 hp).1
theorem put_ok {d : Dev} (h : DevOk d) {v : Int} {x : VolM} (h0 : 1 ≤ v) (h1 : v < 4294967296) (hx : VolOk x) : DevOk (putK d v x) where
 sort := sort_putK h.sort
 keys := fun p hp => by
  rcases (mem_putK h.sort p).1 hp with rfl | ⟨hp, _⟩
  ·exact ⟨h0, h1⟩
  ·exact h.keys p hp
 vols := fun p hp => by
  rcases (mem_putK h.sort p).1 hp with rfl | ⟨hp, _⟩
  ·exact hx
  ·exact h.vols p hp
theorem del_ok {d : Dev} (h : DevOk d) (v : Int) : DevOk (delK d v) where
 sort := sort_delK h.sort
 keys := fun p hp => h.keys p (List.mem_filter.1 hp).1
 vols := fun p hp => h.vols p (List.mem_filter.1 hp).1
theorem volD_ok {d : Dev} (h : DevOk d) (v : Int) : VolOk (volD d v) := by
 unfold volD
 cases hg : getK d v with
 | none => exact ⟨by simp, by simp, List.Pairwise.nil, by simp, by simp⟩
 | some x => exact h.vols _ ((getK_mem h.sort).1 hg)
theorem may_kind {o : OpM} (h : o.may = true) : 1 ≤ o.k ∧ o.k ≤ 9 := by
 rcases Int.lt_or_le o.k 1 with h1 | h1
 ·have : o.may = false := by
   unfold OpM.may mayOpB
   repeat (rw [if_neg (by omega)])
  rw [this] at h; cases h
 rcases Int.lt_or_le 9 o.k with h2 | h2
 ·have : o.may = false := by
   unfold OpM.may mayOpB
   repeat (rw [if_neg (by omega)])
  rw [this] at h; cases h
 exact ⟨h1, h2⟩
structure MayS (o : OpM) : Prop where
 vol : o.k ≠ 8 → 1 ≤ o.v ∧ o.v < 4294967296
 to : o.k = 4 → 1 ≤ o.t ∧ o.t < 4294967296 ∧ o.t ≠ o.v
 size : o.k = 1 ∨ o.k = 3 → 0 ≤ o.s ∧ o.s ≤ 256
 at_ : o.k = 5 ∨ o.k = 6 ∨ o.k = 7 ∨ o.k = 9 → 0 ≤ o.a ∧ o.a ≤ 1048576
 cnt : o.k = 6 ∨ o.k = 7 ∨ o.k = 9 → 1 ≤ o.c ∧ o.c ≤ 1024
 dat : o.k = 5 → 64 ≤ o.l.length ∧ o.l.length % 64 = 0 ∧ o.l.length ≤ 2048
theorem may_s {o : OpM} (h : o.may = true) : MayS o := by
 have hk := may_kind h
 obtain ⟨k, v, t, s, a, c, l⟩ := o
 simp only at hk
 have h9 : k = 1 ∨ k = 2 ∨ k = 3 ∨ k = 4 ∨ k = 5 ∨ k = 6 ∨ k = 7 ∨ k = 8 ∨ k = 9 := by omega
 unfold OpM.may at h
 rcases h9 with rfl | rfl | rfl | rfl | rfl | rfl | rfl | rfl | rfl
 all_goals
  simp [mayOpB, wVol, wTo, wSize, wAt, wCount, wData] at h
  constructor <;> intro hq <;> dsimp only at hq ⊢ <;> simp at hq ⊢ <;> omega
theorem part_ok {d : Dev} (h : DevOk d) (o : OpM) (most : Int) : DevOk (partK d o most) := by
 unfold partK
 split
 rotate_left
 ·exact h
 rename_i he
 have hm : o.may = true := by
  cases hm : o.may with
  | true => rfl
  | false => rw [errK, if_pos hm] at he; cases he
 have hs := may_s hm
 have hx := volD_ok h o.v
 unfold didK
 split
 ·exact put_ok h (hs.vol (by omega)).1 (hs.vol (by omega)).2 ⟨(hs.size (by omega)).1, (hs.size (by omega)).2, List.Pairwise.nil, by simp, by simp⟩
 split
 ·exact del_ok h _
 split
 ·exact put_ok h (hs.vol (by omega)).1 (hs.vol (by omega)).2 (filter_ok hx _ _ (hs.size (by omega)).1 (hs.size (by omega)).2 (fun p _ hp => by simpa using hp))
 split
 ·exact put_ok h (hs.to (by omega)).1 (hs.to (by omega)).2.1 hx
 split
 ·rename_i h1 h2 h3 h4 h5
  refine put_ok h (hs.vol (by omega)).1 (hs.vol (by omega)).2 (putL_ok _ hx fun s hs' => ?_)
  have h6 := spans_all s (List.mem_of_mem_take hs')
  refine ⟨h6.1, h6.2.1, ?_⟩
  rw [errK, if_neg (by rw [hm]; simp), if_neg (by omega)] at he
  have ha := hs.at_ (by omega)
  unfold volD
  cases hg : getK d o.v with
  | none => rw [hg] at he; simp only at he; rw [if_neg h1] at he; cases he
  | some x =>
   rw [hg] at he
   simp only [Option.getD_some]
   simp only [if_neg h1, if_neg h4] at he
   rcases h5 with h5 | h5
   ·rw [if_pos h5] at he
    have hc : cntO o = o.l.length / 64 := by rw [cntO, if_pos h5]
    rw [hc] at h6
    split at he
    ·cases he
    ·omega
   ·rw [if_neg (by omega), if_pos (.inl h5)] at he
    have hc : cntO o = o.c.toNat := by rw [cntO, if_neg (by omega)]
    rw [hc] at h6
    have := hs.cnt (by omega)
    split at he
    ·cases he
    ·omega
 split
 ·exact put_ok h (hs.vol (by omega)).1 (hs.vol (by omega)).2 (filter_ok hx _ _ hx.s0 hx.s1 (fun p hp _ => (hx.keys p hp).2))
 ·exact h
instance bne_succ2 (B : Nat) : BNe B (B + 1 + 1) := ⟨by omega⟩
instance bne_succ2' (B : Nat) : BNe (B + 1 + 1) B := ⟨by omega⟩
instance bne_succ3 (B : Nat) : BNe B (B + 1 + 1 + 1) := ⟨by omega⟩
instance bne_succ3' (B : Nat) : BNe (B + 1 + 1 + 1) B := ⟨by omega⟩
instance sizeN_setRow (W : World) (g : Nat) (cs : Array Value) (n : Nat) [h : SizeN W n] : SizeN (W.setRow g cs) n := ⟨by rw [setRow_size]; exact h.eq⟩
instance (b : Nat) (W : World) (g : Nat) (cs : Array Value) [h : Old b W] : Old b (W.setRow g cs) := ⟨by rw [setRow_size]; exact h.lt⟩
instance (a W : World) (g : Nat) (cs : Array Value) [h : From a W] : From a (W.setRow g cs) := ⟨by rw [setRow_size]; exact h.le⟩
theorem below_row {B g : Nat} {a W : World} (h : Below B a W) (hg : B ≤ g) (cs : Array Value) : Below B a (W.setRow g cs) :=
 h.trans ⟨rfl, rfl, rfl, by rw [setRow_size]; exact Nat.le_refl _, fun k hk => setRow_other W g k cs (by omega)⟩
instance (a W : World) (g : Nat) (cs : Array Value) [h : GrC a W] [k : Past a g] : GrC a (W.setRow g cs) := ⟨below_row h.b k.le cs⟩
instance blockAt_row (W : World) (B : Nat) (cs cs' : Array Value) (t : TypeId) [h : BlockAt W B cs t] : BlockAt (W.setRow B cs') B cs' t := ⟨setRow_heap W B cs cs' t (0, 0) h.eq⟩
instance (priority := low) blockAt_row' (W : World) (B C : Nat) (cs cs' : Array Value) (t : TypeId) [h : BlockAt W B cs t] [k : BNe B C] : BlockAt (W.setRow C cs') B cs t := ⟨(setRow_other W C B cs' k.ne).trans h.eq⟩
instance (W : World) (g : Nat) (cs : Array Value) [h : Tb W] [hf : Far g] : Tb (W.setRow g cs) :=
 h.keep (by rw [setRow_size]; exact Nat.le_refl _) (fun b hb => setRow_other W g b cs (by have := hf.le; omega))
section
variable {P : Program} {W : World} {ops : Array Oper} {rest : List Oper} {o : Oper} {a : Act} {Q : Exit → Act → World → Prop}
theorem run_storeRow (B : Nat) (zs cs : Array Value) (t : TypeId) (hB : BlockAt W B zs t) (hi : (P.info? t).map (·.size) = some cs.size) (hs : zs.size = cs.size) (h1 : ∀ v ∈ cs.toList, v.oneCell' = true) :
  (Instr.storeAt t (.pointer (some ⟨B, 0, none⟩)) (.agg cs)).run P W = .ok () (W.setRow B cs) := by
 have h := run_storeCells_from (P := P) B t cs.toList 0 zs W hB.eq (by simp [hs]) h1
 cases hq : P.info? t with
 | none => simp [hq] at hi
 | some i =>
  have hs2 : cs.size = i.size := by simp [hq] at hi; omega
  simp only [List.take_zero, List.nil_append, Array.toArray_toList] at h
  simp [Instr.storeAt, Instr.sureAddr, storeVar, sizeOf, typeInfo, Sem.run_bind, hq, Value.cells, hs2, h]
theorem wpList_storeRow (hgd : o.guard = none) (t : TypeId) (x y : Operand) (ho : o.op = .store t x y) (B : Nat) (zs cs : Array Value) (hx : a.eval x = .pointer (some ⟨B, 0, none⟩)) (hy : a.eval y = .agg cs) (hB : BlockAt W B zs t) (hi : (P.info? t).map (·.size) = some cs.size) (hs : zs.size = cs.size) (h1 : ∀ v ∈ cs.toList, v.oneCell' = true)
  (h : wpList P ops Q rest (a.put o.dst undef) (W.setRow B cs)) : wpList P ops Q (o :: rest) a W := by
 refine wpList_plain hgd fun K' hK' => ?_
 have hrun := run_storeRow (P := P) B zs cs t hB hi hs h1
 unfold Oper.wp
 simp only [execOp, ho, hx, hy, Sem.run_bind, hrun, Result.andThen_ok, Sem.run_pure]
 exact hK' _ _ h
theorem run_loadRow (B : Nat) (cs : Array Value) (t : TypeId) (d : TypeDesc) (hB : BlockAt W B cs t) (hu : P.underlying t = some d) (hd : d.isRow = true) (hi : (P.info? t).map (·.size) = some cs.size) :
  (Instr.loadAt t (.pointer (some ⟨B, 0, none⟩))).run P W = .ok (.agg cs) W := by
 have := run_loadAt_mid (P := P) W B 0 t cs.toList d (fun j v hv => by
  rw [Nat.zero_add]
  rw [Array.getElem?_toList] at hv
  exact (@block_cells W B j cs t hB).trans hv) hu hd (by simpa using hi)
 simpa using this
theorem wpList_loadRow (hgd : o.guard = none) (t : TypeId) (x : Operand) (ho : o.op = .load t x) (B : Nat) (cs : Array Value) (d : TypeDesc) (hx : a.eval x = .pointer (some ⟨B, 0, none⟩)) (hB : BlockAt W B cs t) (hu : P.underlying t = some d) (hd : d.isRow = true) (hi : (P.info? t).map (·.size) = some cs.size)
  (h : wpList P ops Q rest (a.put o.dst (.agg cs)) W) : wpList P ops Q (o :: rest) a W := by
 refine wpList_plain hgd fun K' hK' => ?_
 have hrun := run_loadRow (P := P) B cs t d hB hu hd hi
 unfold Oper.wp
 simp only [execOp, ho, hx, Sem.run_bind, hrun, Result.andThen_ok, Sem.run_pure]
 exact hK' _ _ h
end
theorem run_loadVarRow {P : Program} {W : World} (B : Nat) (cs : Array Value) (t : TypeId) (d : TypeDesc) (hB : BlockAt W B cs t) (hu : P.underlying t = some d) (hd : (match d with | .struct _ | .array _ _ => true | _ => false) = true) (hi : (P.info? t).map (·.size) = some cs.size) :
  (loadVar t ⟨B, 0, none⟩).run P W = .ok (.agg cs) W := run_loadVar_row W B t t cs (0, 0) d hB.eq hu hd hi
theorem run_resCell2 {P : Program} {W : World} {fn : Func} {p s : Tmp} {t : TypeId} (h : fn.results = #[.cell p t, .tmp s]) (tmps : Array Value) (B : Nat) (cs : Array Value) (d : TypeDesc) (hp : tmps.getD p undef = .pointer (some ⟨B, 0, none⟩)) (hB : BlockAt W B cs t) (hu : P.underlying t = some d) (hd : (match d with | .struct _ | .array _ _ => true | _ => false) = true) (hi : (P.info? t).map (·.size) = some cs.size) :
  (results fn tmps).run P W = .ok (.tuple #[.agg cs, tmps.getD s undef]) W := by
 have hp' : tmps[p]?.getD undef = .pointer (some ⟨B, 0, none⟩) := by simpa using hp
 have hl := run_loadVarRow (P := P) B cs t d hB hu hd hi
 simp [results, h, hp', asAddr, hl, Sem.run_bind]
class CellRow (n : outParam Nat) (cs : Array Value) : Prop where
 size : cs.size = n
 one : ∀ v ∈ cs.toList, v.oneCell' = true
def bkC (B : Byt) : Array Value := (B.map bv).toArray
theorem bkC_size (B : Byt) : (bkC B).size = B.length := by simp [bkC]
theorem bkC_one (B : Byt) : ∀ v ∈ (bkC B).toList, v.oneCell' = true := by
 intro v hv
 simp only [bkC, List.toList_toArray, List.mem_map] at hv
 obtain ⟨b, _, rfl⟩ := hv
 rfl
instance zC_row : CellRow 256 Tryz.zeroCells66 := ⟨by kernel_rfl, by
 have h : (Tryz.zeroCells66).toList.all (fun v => v.oneCell') = true := by kernel_rfl
 exact List.all_eq_true.1 h⟩
theorem bkC_row {B : Byt} (h : B.length = 256) : CellRow 256 (bkC B) := ⟨by rw [bkC_size, h], bkC_one B⟩
theorem infoBlk : (Tryz.prog.info? 66).map (·.size) = some 256 := by kernel_rfl
theorem zC_bk : Tryz.zeroCells66 = bkC zB := (Value.agg.inj zB_val).symm
section
variable {W : World} {ops : Array Oper} {rest : List Oper} {o : Oper} {a : Act} {Q : Exit → Act → World → Prop}
theorem wpStoreB (hgd : o.guard = none) (x y : Operand) (ho : o.op = .store 66 x y) (B : Nat) (zs cs : Array Value) (hx : a.eval x = .pointer (some ⟨B, 0, none⟩)) (hy : a.eval y = .agg cs) (hB : BlockAt W B zs 66) (hz : CellRow 256 zs) (hc : CellRow 256 cs)
  (h : wpList Tryz.prog ops Q rest (a.put o.dst undef) (W.setRow B cs)) : wpList Tryz.prog ops Q (o :: rest) a W :=
 wpList_storeRow hgd _ x y ho B zs cs hx hy hB (by rw [hc.size]; exact infoBlk) (by rw [hz.size, hc.size]) hc.one h
theorem wpLoadB (hgd : o.guard = none) (x : Operand) (ho : o.op = .load 66 x) (B : Nat) (cs : Array Value) (hx : a.eval x = .pointer (some ⟨B, 0, none⟩)) (hB : BlockAt W B cs 66) (hc : CellRow 256 cs)
  (h : wpList Tryz.prog ops Q rest (a.put o.dst (.agg cs)) W) : wpList Tryz.prog ops Q (o :: rest) a W :=
 wpList_loadRow hgd _ x ho B cs _ hx hB Tryz.underlying66 rfl (by rw [hc.size]; exact infoBlk) h
theorem run_resB {fn : Func} {p s : Tmp} (h : fn.results = #[.cell p 66, .tmp s]) (tmps : Array Value) (B : Nat) (cs : Array Value) (v : Value) (hp : tmps.getD p undef = .pointer (some ⟨B, 0, none⟩)) (hv : tmps.getD s undef = v) (hB : BlockAt W B cs 66) (hc : CellRow 256 cs) :
  (results fn tmps).run Tryz.prog W = .ok (.tuple #[.agg cs, v]) W := by
 subst hv
 exact run_resCell2 h tmps B cs _ hp hB Tryz.underlying66 rfl (by rw [hc.size]; exact infoBlk)
end
structure EK (α : Type) where
 cs : α → List Value
 k : Nat
 E : TypeId
 T : TypeId
 bytes : Nat
 z : Value
 ok : α → Prop
structure EK.Is {α : Type} (e : EK α) : Prop where
 len : ∀ x, e.ok x → (e.cs x).length = e.k
 one : ∀ x, e.ok x → ∀ v ∈ e.cs x, v.oneCell' = true
 pos : 0 < e.k
 hT : Tryz.prog.underlying e.T = some (.slice e.E)
 hE : (Tryz.prog.info? e.E).map (fun i => (i.zero, i.size, i.bytes)) = some (some e.z, e.k, e.bytes)
 hz : e.z.cells.size = e.k
 hb : e.bytes ≤ 1000
section
variable {α : Type} {e : EK α}
theorem flatN_len (he : e.Is) : ∀ (xs : List α), (∀ x ∈ xs, e.ok x) → (xs.flatMap e.cs).length = xs.length * e.k
 | [], _ => by simp
 | x :: xs, h => by
  rw [List.flatMap_cons, List.length_append, he.len x (h x (.head _)), flatN_len he xs (fun y hy => h y (.tail _ hy)), List.length_cons, Nat.add_mul, Nat.one_mul, Nat.add_comm]
theorem flatN_at (he : e.Is) : ∀ (xs : List α), (∀ x ∈ xs, e.ok x) → ∀ (j i : Nat) (x : α) (v : Value), xs[j]? = some x → (e.cs x)[i]? = some v → (xs.flatMap e.cs)[j * e.k + i]? = some v
 | [], _, j, i, x, v, hj, _ => by simp at hj
 | y :: xs, h, 0, i, x, v, hj, hv => by
  simp only [List.getElem?_cons_zero, Option.some.injEq] at hj
  subst hj
  have hi : i < (e.cs y).length := (List.getElem?_eq_some_iff.1 hv).1
  rw [List.flatMap_cons, Nat.zero_mul, Nat.zero_add, List.getElem?_append_left hi]
  exact hv
 | y :: xs, h, j + 1, i, x, v, hj, hv => by
  rw [List.getElem?_cons_succ] at hj
  have h2 := flatN_at he xs (fun y hy => h y (.tail _ hy)) j i x v hj hv
  have hl := he.len y (h y (.head _))
  rw [List.flatMap_cons, List.getElem?_append_right (by rw [hl, Nat.add_mul]; omega), hl]
  rw [← h2]
  congr 1
  rw [Nat.add_mul]; omega
theorem flatN_of (he : e.Is) : ∀ (xs : List α), (∀ x ∈ xs, e.ok x) → ∀ (j : Nat) (u : Value), (xs.flatMap e.cs)[j]? = some u → ∃ q i x, j = q * e.k + i ∧ xs[q]? = some x ∧ (e.cs x)[i]? = some u
 | [], _, j, u, h => by simp at h
 | x :: xs, hx, j, u, h => by
  rw [List.flatMap_cons] at h
  have hl := he.len x (hx x (.head _))
  by_cases hj : j < (e.cs x).length
  ·rw [List.getElem?_append_left hj] at h
   exact ⟨0, j, x, by omega, rfl, h⟩
  ·rw [List.getElem?_append_right (by omega)] at h
   obtain ⟨q, i, y, h1, h2, h3⟩ := flatN_of he xs (fun y hy => hx y (.tail _ hy)) _ u h
   rw [hl] at h1 hj
   exact ⟨q + 1, i, y, by rw [Nat.add_mul]; omega, by simpa using h2, h3⟩
theorem flatN_one (he : e.Is) (xs : List α) (h : ∀ x ∈ xs, e.ok x) : ∀ u ∈ xs.flatMap e.cs, u.oneCell' = true := by
 intro u hu
 obtain ⟨x, h1, hx⟩ := List.mem_flatMap.1 hu
 exact he.one x (h x h1) u hx
theorem flatN_set (he : e.Is) : ∀ (xs : List α), (∀ x ∈ xs, e.ok x) → ∀ (j i : Nat) (x y : α) (v : Value), xs[j]? = some x → i < e.k → e.cs y = (e.cs x).set i v → (xs.flatMap e.cs).set (j * e.k + i) v = (xs.set j y).flatMap e.cs
 | [], _, j, i, x, y, v, hj, _, _ => by simp at hj
 | z :: xs, h, 0, i, x, y, v, hj, hi, hv => by
  simp only [List.getElem?_cons_zero, Option.some.injEq] at hj
  subst hj
  have hl := he.len z (h z (.head _))
  rw [List.flatMap_cons, Nat.zero_mul, Nat.zero_add, List.set_append_left _ _ (by omega), List.set_cons_zero, List.flatMap_cons, hv]
 | z :: xs, h, j + 1, i, x, y, v, hj, hi, hv => by
  rw [List.getElem?_cons_succ] at hj
  have h2 := flatN_set he xs (fun y hy => h y (.tail _ hy)) j i x y v hj hi hv
  have hl := he.len z (h z (.head _))
  rw [List.flatMap_cons, List.set_append_right _ _ (by rw [hl, Nat.add_mul]; omega), List.set_cons_succ, List.flatMap_cons, ← h2, hl]
  congr 2
  rw [Nat.add_mul]; omega
def CellsN (e : EK α) (W : World) (b p : Nat) (xs : List α) : Prop := ∀ (j : Nat) (x : α), xs[j]? = some x → ∀ (i : Nat) (u : Value), (e.cs x)[i]? = some u → W.cell? ⟨b, p + j * e.k + i, none⟩ = some u
structure RowN (e : EK α) (W : World) (A : Option Addr) (xs : List α) : Prop where
 ok : ∀ x ∈ xs, e.ok x
 at_ : xs ≠ [] → ∃ b p, A = some ⟨b, p, none⟩ ∧ b < W.heap.size ∧ CellsN e W b p xs
theorem CellsN.gr {W W' : World} {b p : Nat} {xs : List α} (h : CellsN e W b p xs) (hb : b < W.heap.size) (g : Gr W W') : CellsN e W' b p xs := fun j x hj i u hu => (g.below.cell (p := ⟨b, p + j * e.k + i, none⟩) hb).trans (h j x hj i u hu)
theorem CellsN.take {W : World} {b p : Nat} {xs : List α} (h : CellsN e W b p xs) (n : Nat) : CellsN e W b p (xs.take n) := fun j x hj => h j x (by
 rw [List.getElem?_take] at hj
 split at hj
 ·exact hj
 ·cases hj)
theorem CellsN.drop {W : World} {b p : Nat} {xs : List α} (h : CellsN e W b p xs) (n : Nat) : CellsN e W b (p + n * e.k) (xs.drop n) := fun j x hj i u hu => by
 rw [List.getElem?_drop] at hj
 have := h (n + j) x hj i u hu
 rw [show p + n * e.k + j * e.k + i = p + (n + j) * e.k + i by rw [Nat.add_mul]; omega]
 exact this
theorem CellsN.block {W : World} {B : Nat} {cs : Array Value} {t : TypeId} (x : α) (h : BlockAt W B cs t) (hx : e.cs x = cs.toList) : CellsN e W B 0 [x] := by
 intro j y hj i u hu
 cases j with
 | succ j => simp at hj
 | zero =>
  simp only [List.getElem?_cons_zero, Option.some.injEq] at hj
  subst hj
  rw [Nat.zero_mul, Nat.zero_add, block_cells W B i cs t]
  rw [hx, Array.getElem?_toList] at hu
  exact hu
theorem RowN.nil {W : World} {A : Option Addr} : RowN e W A [] := ⟨by simp, fun h => absurd rfl h⟩
theorem RowN.gr {W W' : World} {A : Option Addr} {xs : List α} (h : RowN e W A xs) (g : Gr W W') : RowN e W' A xs :=
 ⟨h.ok, fun h0 => by
  obtain ⟨b, p, rfl, hb, hc⟩ := h.at_ h0
  exact ⟨b, p, rfl, Nat.lt_of_lt_of_le hb g.below.size, hc.gr hb g⟩⟩
structure OwnN (e : EK α) (base : Nat) (W : World) (v : Value) (xs : List α) : Prop where
 ok : ∀ x ∈ xs, e.ok x
 own : W.ownsRow base e.E e.k v xs.length (xs.flatMap e.cs)
variable {base : Nat} {W W' : World} {v : Value} {xs : List α}
theorem OwnN.nil (base : Nat) (W : World) : OwnN e base W (.slice none 0 0) [] := ⟨by simp, World.ownsRow_nil _ _ _ _⟩
theorem OwnN.lt (h : OwnN e base W v xs) : ∀ k, v.ownBlock = some k → base ≤ k ∧ k < W.heap.size := World.ownsRow.lt h.own
theorem OwnN.keep (h : OwnN e base W v xs) (hk : ∀ k, v.ownBlock = some k → W'.heap[k]? = W.heap[k]?) : OwnN e base W' v xs := by
 refine ⟨h.ok, h.own.1, ?_⟩
 rcases h.own.2 with h2 | ⟨g, cap, cur, hv, hb, hh, h4⟩
 ·exact .inl h2
 ·exact .inr ⟨g, cap, cur, hv, hb, (hk g (by rw [hv]; rfl)).trans hh, h4⟩
theorem OwnN.gr (h : OwnN e base W v xs) (g : Gr W W') : OwnN e base W' v xs := h.keep fun k hk => g.below.block k (h.lt k hk).2
theorem OwnN.set_ (h : OwnN e base W v xs) (B o : Nat) (u : Value) {cs : Array Value} {T : TypeId} [hB : BlockAt W B cs T] (hT : T ≠ e.E) : OwnN e base (W.setCell ⟨B, o, none⟩ u) v xs := by
 refine ⟨h.ok, h.own.1, ?_⟩
 rcases h.own.2 with h2 | ⟨g, cap, cur, hv, hb, hh, h4⟩
 ·exact .inl h2
 ·refine .inr ⟨g, cap, cur, hv, hb, ?_, h4⟩
  have hne : g ≠ B := by
   rintro rfl
   have := hB.eq
   rw [hh] at this
   cases this
   exact hT rfl
  exact (Below.heap_setCell W ⟨B, o, none⟩ u g hne).trans hh
theorem OwnN.more {base2 : Nat} (h : OwnN e base2 W v xs) (hb : base ≤ base2) : OwnN e base W v xs := by
 refine ⟨h.ok, h.own.1, ?_⟩
 rcases h.own.2 with h2 | ⟨g, cap, cur, hv, hb2, h4⟩
 ·exact .inl h2
 ·exact .inr ⟨g, cap, cur, hv, Nat.le_trans hb hb2, h4⟩
theorem OwnN.cells (he : e.Is) (h : OwnN e base W v xs) (hne : xs ≠ []) : ∃ g c, v = .slice (some ⟨g, 0, none⟩) xs.length c ∧ base ≤ g ∧ g < W.heap.size ∧ xs.length ≤ c ∧ c ≤ maxLen ∧ CellsN e W g 0 xs ∧ ∀ o, W.frozen? ⟨g, o, none⟩ = false := by
 have h0 := h.own
 rcases h.own.2 with ⟨_, hn⟩ | ⟨g, cap, cur, rfl, hb, hh, hnc, hcm, _⟩
 ·exact absurd (List.eq_nil_of_length_eq_zero hn) hne
 ·refine ⟨g, cap, rfl, hb, (Array.getElem?_eq_some_iff.1 hh).1, hnc, hcm, fun j x hj i u hu => ?_, fun o => by simp [World.frozen?, hh]⟩
  have h1 := World.ownsRow.cells h0 (g := g) rfl (j * e.k + i) u (flatN_at he xs h.ok j i x u hj hu)
  rw [Go.WideShapes.add_plain] at h1
  rw [Nat.zero_add] at h1 ⊢
  exact h1
theorem OwnN.form (he : e.Is) (h : OwnN e base W v xs) : ∃ A c, v = .slice A xs.length c ∧ xs.length ≤ c ∧ c ≤ maxLen ∧ RowN e W A xs := by
 by_cases hne : xs = []
 ·subst hne
  rcases h.own.2 with ⟨rfl, _⟩ | ⟨g, cap, cur, rfl, _, _, hnc, hcm, _⟩
  ·exact ⟨none, 0, rfl, Nat.le_refl _, by unfold maxLen; omega, RowN.nil⟩
  ·exact ⟨_, cap, rfl, hnc, hcm, RowN.nil⟩
 ·obtain ⟨g, c, rfl, _, hg, hc, hm, hcl, _⟩ := h.cells he hne
  exact ⟨_, c, rfl, hc, hm, h.ok, fun _ => ⟨g, 0, rfl, hg, hcl⟩⟩
theorem OwnN.store (he : e.Is) {g n c : Nat} (h : OwnN e base W (.slice (some ⟨g, 0, none⟩) n c) xs) (j i : Nat) (x y : α) (u : Value) (hj : xs[j]? = some x) (hi : i < e.k) (hy : e.cs y = (e.cs x).set i u) (hok : e.ok y) : OwnN e base (W.setCell ⟨g, j * e.k + i, none⟩ u) (.slice (some ⟨g, 0, none⟩) n c) (xs.set j y) := by
 have hn : n = xs.length := by
  rcases h.own.2 with ⟨h2, _⟩ | ⟨g', cap, cur, hv, _⟩
  ·cases h2
  ·cases hv; rfl
 subst hn
 refine ⟨fun z hz => ?_, ?_⟩
 ·rcases List.mem_or_eq_of_mem_set hz with hz | rfl
  ·exact h.ok z hz
  ·exact hok
 ·have := (h.own.stored (j * e.k + i) u).1
  rw [flatN_set he xs h.ok j i x y u hj hi hy] at this
  rw [List.length_set]
  exact this
structure AppN (e : EK α) (base : Nat) (W : World) (v : Value) (xs ys : List α) (v' : Value) (W' : World) : Prop where
 own : OwnN e base W' v' (xs ++ ys)
 below : Below base W W'
 size : W.heap.size ≤ W'.heap.size
 keep : ∀ B cs t, BlockAt W B cs t → t ≠ e.E → BlockAt W' B cs t
 block : ∀ k, k < W.heap.size → (∀ cs f, W.heap[k]? ≠ some (.cells cs e.E f)) → W'.heap[k]? = W.heap[k]?
 gb : W.grownBy W' v.ownBlock
 row : ∀ b, v'.ownBlock = some b → v.ownBlock = some b ∨ b = W.heap.size
theorem AppN.from_ {ys : List α} {v' : Value} (h : AppN e base W v xs ys v' W') (a : World) [ht : From a W] : From a W' := ⟨Nat.le_trans ht.le h.size⟩
theorem AppN.old {ys : List α} {v' : Value} (h : AppN e base W v xs ys v' W') (b : Nat) [ht : Old b W] : Old b W' := ⟨Nat.lt_of_lt_of_le ht.lt h.size⟩
theorem AppN.grc {ys : List α} {v' : Value} (h : AppN e base W v xs ys v' W') (a : World) [ht : GrC a W] (hl : a.heap.size ≤ base) : GrC a W' := ⟨ht.b.trans (h.below.mono hl)⟩
theorem grc_of {a W : World} (h : Gr a W) : GrC a W := ⟨h.below⟩
theorem from_of {a W : World} (h : Gr a W) : From a W := ⟨h.below.size⟩
theorem run_append_row (he : e.Is) (ty : TypeId) (hown : OwnN e base W v xs) (b p : Nat) (ys : List α) (c : Nat) (hys : ∀ y ∈ ys, e.ok y) (hc : CellsN e W b p ys) (hlen : xs.length + ys.length ≤ 100000000) {v' : Value} {W' : World}
  (hr : (Builtin.append_ #[e.T, e.T] ty #[v, .slice (some ⟨b, p, none⟩) ys.length c]).run Tryz.prog W = .ok v' W') (h0 : 0 < ys.length) : ∀ q, v'.ownBlock = some q → v.ownBlock = some q ∨ q = W.heap.size := by
 obtain ⟨i0, hi, hz0, hz2, hz3⟩ := info_parts he.hE
 have hlN : (ys.flatMap e.cs).length = ys.length * i0.size := by rw [flatN_len he ys hys, hz2]
 have hnews : ∀ j u, (ys.flatMap e.cs)[j]? = some u → W.cell? ((⟨b, p, none⟩ : Addr).add j) = some u := fun j u hj => by
  obtain ⟨q, i, y, rfl, h1, h2⟩ := flatN_of he ys hys j u hj
  rw [Go.WideShapes.add_plain, ← Nat.add_assoc]
  exact hc q y h1 i u h2
 have hby : (xs.length + ys.length) * i0.bytes ≤ 140737488355328 := by rw [hz3]; have := Nat.mul_le_mul hlen he.hb; omega
 rcases hown.own.2 with ⟨rfl, hx⟩ | ⟨g, cap, cur, rfl, hbg, hg, hnc, hcm, hcs, htake⟩
 ·have h9 := run_append_nil (P := Tryz.prog) W e.T ty e.E i0 e.z he.hT hi hz0 ⟨b, p, none⟩ ys.length c (ys.flatMap e.cs) hlN hnews h0 (by omega) (by rw [Nat.add_mul] at hby; omega)
  rw [h9] at hr
  cases hr
  intro q hq
  exact .inr (by simpa [Value.ownBlock] using hq.symm)
 ·by_cases hroom : xs.length + ys.length ≤ cap
  ·have hfit : xs.length * i0.size + (ys.flatMap e.cs).length ≤ cur.size := by rw [hlN, hcs, ← hz2, ← Nat.add_mul]; exact Nat.mul_le_mul_right _ hroom
   have h9 := run_append_room (P := Tryz.prog) W e.T ty e.E i0 he.hT hi g xs.length cap cur hg ⟨b, p, none⟩ ys.length c (ys.flatMap e.cs) hlN hnews (flatN_one he ys hys) hroom hfit
   rw [h9] at hr
   cases hr
   intro q hq
   exact .inl hq
  ·have h9 := run_append_grow (P := Tryz.prog) W e.T ty e.E i0 e.z he.hT hi hz0 ⟨g, 0, none⟩ xs.length cap (xs.flatMap e.cs) (by rw [hown.own.1, hz2]) (hown.own.cells (g := g) rfl) ⟨b, p, none⟩ ys.length c (ys.flatMap e.cs) hlN hnews (by omega) (by omega) (growslice_fits (by omega) hby)
   rw [h9] at hr
   cases hr
   intro q hq
   exact .inr (by simpa [Value.ownBlock] using hq.symm)
theorem run_append_n (he : e.Is) (ty : TypeId) (hown : OwnN e base W v xs) (b p : Nat) (ys : List α) (c : Nat) (hys : ∀ y ∈ ys, e.ok y) (hc : CellsN e W b p ys) (hlen : xs.length + ys.length ≤ 100000000) (hbase : base ≤ W.heap.size) (hp : 0 < ys.length) :
  ∃ v' W', (Builtin.append_ #[e.T, e.T] ty #[v, .slice (some ⟨b, p, none⟩) ys.length c]).run Tryz.prog W = .ok v' W' ∧ AppN e base W v xs ys v' W' := by
 obtain ⟨i0, hi, hz0, hz2, hz3⟩ := info_parts he.hE
 obtain ⟨v', W', hrun, hown', hgrow, _⟩ := run_append_own (P := Tryz.prog) W base e.T ty e.E i0 e.z e.k e.bytes he.hT hi hz0 hz2 hz3 he.hz he.pos v xs.length (xs.flatMap e.cs) hown.own ⟨b, p, none⟩ ys.length c (ys.flatMap e.cs) (flatN_len he ys hys) (fun j u hj => by
  obtain ⟨q, i, y, rfl, h1, h2⟩ := flatN_of he ys hys j u hj
  rw [Go.WideShapes.add_plain, ← Nat.add_assoc]
  exact hc q y h1 i u h2) (flatN_one he ys hys) (by unfold maxLen; omega) (by have := Nat.mul_le_mul hlen he.hb; omega) hbase
 have hne : ∀ k, some k = v.ownBlock → ∃ cs, W.heap[k]? = some (.cells cs e.E (0, 0)) := fun k hk => by
  rcases hown.own.2 with ⟨rfl, _⟩ | ⟨g, cap, cur, rfl, _, hh, _⟩
  ·simp [Value.ownBlock] at hk
  ·have e2 : k = g := by simpa [Value.ownBlock] using hk
   subst e2
   exact ⟨_, hh⟩
 refine ⟨v', W', hrun, ⟨fun x hx => ?_, ?_⟩, (Below.refl base W).grown hgrow hbase (fun q hq => (World.ownsRow.lt hown.own q hq).1), hgrow.size, fun B cs t hB ht => hB.grown hgrow (fun e2 => ?_), fun k hk hcs => hgrow.block k hk (fun e2 => ?_), hgrow, run_append_row he ty hown b p ys c hys hc hlen hrun hp⟩
 ·rcases List.mem_append.1 hx with h | h
  ·exact hown.ok x h
  ·exact hys x h
 ·rw [List.length_append, List.flatMap_append]; exact hown'
 ·obtain ⟨cs2, h2⟩ := hne B e2
  have := hB.eq
  rw [h2] at this
  cases this
  exact ht rfl
 ·obtain ⟨cs2, h2⟩ := hne k e2
  exact hcs _ _ h2
theorem wp_append_n (he : e.Is) {ops : Array Oper} {rest : List Oper} {o : Oper} {a : Act} {Q : Exit → Act → World → Prop} (hgd : o.guard = none) (s x : Operand)
  (ho : o.op = .call { callee := .builtin .append, args := #[s, x], argTypes := #[e.T, e.T] })
  (hs : a.eval s = v) (hown : OwnN e base W v xs) (b p : Nat) (ys : List α) (m c : Nat) (hm : ys.length = m) (hx : a.eval x = .slice (some ⟨b, p, none⟩) m c)
  (hys : ∀ y ∈ ys, e.ok y) (hc : CellsN e W b p ys) (hlen : xs.length + ys.length ≤ 100000000) (hbase : base ≤ W.heap.size) (hp : 0 < ys.length)
  (h : ∀ v' W', AppN e base W v xs ys v' W' → wpList Tryz.prog ops Q rest (a.put o.dst v') W') : wpList Tryz.prog ops Q (o :: rest) a W := by
 subst hm
 refine wpList_plain hgd fun K' hK' => ?_
 obtain ⟨v', W', hrun, happ⟩ := run_append_n he o.type hown b p ys c hys hc hlen hbase hp
 unfold Oper.wp execOp
 simp only [ho, resolve, invoke, builtin, Sem.run_bind, Sem.run_pure, Result.andThen_ok, List.map_toArray, List.map_cons, List.map_nil, hs, hx, hrun]
 exact hK' _ _ (h v' W' happ)
end
def bE : EK UInt8 := ⟨fun x => [bv x], 1, 5, 25, 1, .int .u8 0, fun _ => True⟩
theorem bIs : bE.Is where
 len := fun _ _ => rfl
 one := fun x _ v hv => by
  simp only [bE, List.mem_cons, List.mem_nil_iff, or_false] at hv
  subst hv; rfl
 pos := by decide
 hT := Tryz.underlying25
 hE := by kernel_rfl
 hz := rfl
 hb := by decide
theorem cellsB {W : World} {b p : Nat} {xs : List UInt8} (h : ∀ (j : Nat) x, xs[j]? = some x → W.cell? ⟨b, p + j, none⟩ = some (bv x)) : CellsN bE W b p xs := by
 intro j x hj i u hu
 cases i with
 | succ i => simp [bE] at hu
 | zero =>
  simp only [bE, List.getElem?_cons_zero, Option.some.injEq] at hu
  subst hu
  have e : p + j * bE.k + 0 = p + j := congrArg (p + ·) (Nat.mul_one j)
  rw [e]
  exact h j x hj
theorem cellsB' {W : World} {b p : Nat} {xs : List UInt8} (h : CellsN bE W b p xs) : ∀ (j : Nat) x, xs[j]? = some x → W.cell? ⟨b, p + j, none⟩ = some (bv x) := by
 intro j x hj
 have := h j x hj 0 _ rfl
 have e : p + j * bE.k + 0 = p + j := congrArg (p + ·) (Nat.mul_one j)
 rw [e] at this
 exact this
theorem rowN_b {W : World} {A : Option Addr} {xs : List UInt8} (h : RowN bE W A xs) : Row bv W A xs := ⟨fun h0 => by
 obtain ⟨b, p, rfl, hb, hc⟩ := h.at_ h0
 exact ⟨b, p, rfl, hb, cellsB' hc⟩⟩
theorem rowB_n {W : World} {A : Option Addr} {xs : List UInt8} (h : Row bv W A xs) : RowN bE W A xs := ⟨fun _ _ => trivial, fun h0 => by
 obtain ⟨b, p, rfl, hb, hc⟩ := h.at_ h0
 exact ⟨b, p, rfl, hb, cellsB hc⟩⟩
theorem Row.part {W : World} {b o : Nat} {l : List UInt8} (hb : b < W.heap.size) (h : ∀ (j : Nat) x, l[j]? = some x → W.cell? ⟨b, o + j, none⟩ = some (bv x)) (p n : Nat) : ∀ (j : Nat) x, ((l.drop p).take n)[j]? = some x → W.cell? ⟨b, o + p + j, none⟩ = some (bv x) := fun j x hj => by
 rw [List.getElem?_take] at hj
 split at hj
 ·rw [List.getElem?_drop] at hj
  rw [show o + p + j = o + (p + j) by omega]
  exact h _ _ hj
 ·cases hj
@[go_sem] theorem eqSliceB (A : Option Addr) (n c : Nat) (w : World) : (binOp .eql 25 (.slice A n c) (.slice none 0 0)).run Tryz.prog w = .ok (.bool A.isNone) w :=
 Lib.run_eql_slice_nil w _ _ A n c 0 0 Tryz.underlying25
theorem clone_any (b p n c : Nat) (xs : List UInt8) (w : World) (hx : xs.length = n) (h0 : 0 < n) (hn : n ≤ 1000000) (hb : b < w.heap.size) (hc : ∀ (j : Nat) x, xs[j]? = some x → w.cell? ⟨b, p + j, none⟩ = some (bv x)) :
  Calls Tryz.prog 99 #[.slice (some ⟨b, p, none⟩) n c] w fun e w' => ∃ v, e = .returned v ∧ OwnN bE w.heap.size w' v xs ∧ Gr w w' := by
 have HC := hd_ hc
 clear hc
 haveI : Old b w := ⟨hb⟩
 have HO := hd_ (show OwnN bE w.heap.size (w.alloc (.cells #[] 5)) (.slice (some ⟨w.heap.size, 0, none⟩) 0 0) [] from ⟨by simp, World.ownsRow_made w #[] 0 (Nat.le_refl _) (by unfold maxLen; omega) rfl⟩)
 go_enter Tryz.func99, Tryz.ntmps99
 go_wp2_with (first | (at_builtin; refine wp_append_n bIs rfl _ _ rfl rfl HO.out b p xs n c hx rfl (fun _ _ => trivial) (cellsB fun j x hj => (Gr.below gri).cell (p := ⟨b, p + j, none⟩) hb |>.trans (HC.out j x hj)) (by simp; omega) past (by omega) ?_; intro v1 W1 h1; have H1 := hd_ h1; clear h1))
 go_ret
 exact ⟨_, rfl, H1.out.own, by haveI := H1.out.grc w (Nat.le_refl _); exact gri⟩
theorem alen : Tryz.prog.arrayLen 66 = 256 := by kernel_rfl
theorem aelem : Tryz.prog.elem 66 = 5 := by kernel_rfl
theorem asize (w : World) : (sizeOf 5).run Tryz.prog w = .ok 1 w := by kernel_rfl
theorem sliceBlk (B f t : Nat) (h1 : f < t) (h2 : t ≤ 4) (w : World) : (Instr.sliceAt 66 (.pointer (some ⟨B, 0, none⟩)) (some (.int .i64 ((f : Int) * 64))) (some (.int .i64 ((t : Int) * 64))) none).run Tryz.prog w = .ok (.slice (some ⟨B, f * 64, none⟩) (t * 64 - f * 64) (256 - f * 64)) w := by
 have h := run_sliceAt_array_lh (P := Tryz.prog) w 66 ⟨B, 0, none⟩ (by rw [alen, aelem]; exact Tryz.underlying66) .i64 .i64 ((f : Int) * 64) ((t : Int) * 64) (by omega) (by omega) (by rw [alen]; omega)
 rw [h, aelem, asize, alen]
 have e1 : ((f : Int) * 64).toNat = f * 64 := by omega
 have e2 : ((t : Int) * 64).toNat = t * 64 := by omega
 rw [e1, e2]
 simp only [Result.andThen_ok, slicedAt]
 rw [if_neg (by omega), Go.WideShapes.add_plain, Nat.mul_one, Nat.zero_add]
theorem sliceBlkL (B f : Nat) (h2 : f < 4) (w : World) : (Instr.sliceAt 66 (.pointer (some ⟨B, 0, none⟩)) (some (.int .i64 ((f : Int) * 64))) none none).run Tryz.prog w = .ok (.slice (some ⟨B, f * 64, none⟩) (256 - f * 64) (256 - f * 64)) w := by
 have h := run_sliceAt_array_l (P := Tryz.prog) w 66 ⟨B, 0, none⟩ (by rw [alen, aelem]; exact Tryz.underlying66) .i64 ((f : Int) * 64) (by omega) (by rw [alen]; omega)
 rw [h, aelem, asize, alen]
 have e1 : ((f : Int) * 64).toNat = f * 64 := by omega
 rw [e1]
 simp only [Result.andThen_ok, slicedAt]
 rw [if_neg (by omega), Go.WideShapes.add_plain, Nat.mul_one, Nat.zero_add]
theorem bkC_at {B : Byt} {j : Nat} {x : UInt8} (h : B[j]? = some x) : (bkC B)[j]? = some (bv x) := by
 simp [bkC, h]
theorem blk_part {W : World} {K : Nat} {B : Byt} {T : TypeId} (h : BlockAt W K (bkC B) T) (p n : Nat) : ∀ (j : Nat) x, ((B.drop p).take n)[j]? = some x → W.cell? ⟨K, p + j, none⟩ = some (bv x) := fun j x hj => by
 have h2 := Row.part (W := W) (b := K) (o := 0) (l := B) h.lt (fun j x hj => by rw [Nat.zero_add, @block_cells W K j _ _ h]; exact bkC_at hj) p n j x hj
 rwa [Nat.zero_add] at h2
theorem cut_any (B : Byt) (b f t : Nat) (hB : B.length = 256) (h1 : f < t) (h2 : t ≤ 4) (w : World) :
  Calls Tryz.prog 78 #[.agg (bkC B), .agg #[.int .i64 (b : Int), .int .i64 (f : Int), .int .i64 (t : Int)]] w fun e w' => ∃ v, e = .returned v ∧ OwnN bE w.heap.size w' v (cutK B ⟨b, f, t⟩) ∧ Gr w w' := by
 have hl : (cutK B ⟨b, f, t⟩).length = t * 64 - f * 64 := by simp [cutK, hB]; omega
 have hp : ∀ (W : World) (K : Nat) (T : TypeId) (h : BlockAt W K (bkC B) T) (j : Nat) x, (cutK B ⟨b, f, t⟩)[j]? = some x → W.cell? ⟨K, f * 64 + j, none⟩ = some (bv x) := fun W K T h j x hj => by
  have := blk_part h (64 * f) (64 * (t - f)) j x hj
  rwa [Nat.mul_comm 64 f] at this
 have HL := hd_ hl
 have HP := hd_ hp
 haveI := bkC_row hB
 have hs := fun B W => sliceBlk B f t h1 h2 W
 clear hl hp
 go_enter Tryz.func78, Tryz.ntmps78
 go_wp2_with ((go_at_call 99; ((with_reducible refine (clone_any w.heap.size (f * 64) (t * 64 - f * 64) _ (cutK B ⟨b, f, t⟩) _ HL.out (by omega) (by omega) (Old.lt (b := w.heap.size)) (HP.out _ _ _ inferInstance)).mono ?_); rintro _ W1 ⟨v1, rfl, ho, ⟨g1, rfl⟩⟩)))
 have HO := hd_ ho
 clear ho hs
 go_wp2
 go_ret
 exact ⟨_, rfl, HO.out.more (by exact past), gri⟩
theorem place_any (b f t at_ s n c : Nat) (A : Option Addr) (P1 P2 P3 : Nat) (w : World) [h1 : BlockAt w P1 #[.int .i64 (b : Int), .int .i64 (f : Int), .int .i64 (t : Int)] 107] [h2 : BlockAt w P2 #[.int .i64 (at_ : Int)] 3] [h3 : BlockAt w P3 #[.slice A n c] 25]
  (hb : b ≤ 1000000) (hs : s ≤ 4) (ha : at_ ≤ 4 * b + s) (hn : 4 * b + s ≤ at_ + n / 64) (hn2 : n ≤ 1000000) :
  Calls Tryz.prog 103 #[.int .i64 (s : Int), .pointer (some ⟨P1, 0, none⟩), .pointer (some ⟨P2, 0, none⟩), .pointer (some ⟨P3, 0, none⟩)] w fun e w' => e = .returned (.int .i64 (((4 * b + s - at_ : Nat) : Int) * 64)) ∧ Gr w w' := by
 have x1 : w.cell? ⟨P1, 0, none⟩ = some (.int .i64 (b : Int)) := (bc 0 h1).trans rfl
 have x2 : w.cell? ⟨P2, 0, none⟩ = some (.int .i64 (at_ : Int)) := (bc 0 h2).trans rfl
 have x3 : w.cell? ⟨P3, 0, none⟩ = some (.slice A n c) := (bc 0 h3).trans rfl
 haveI := h1.old
 haveI := h2.old
 haveI := h3.old
 obtain ⟨q, hq⟩ : ∃ q, 4 * b + s - at_ = q := ⟨_, rfl⟩
 have hqn : q ≤ n / 64 := by omega
 rw [hq]
 have e0 : ((b : Int) * 4 + (s : Int) - (at_ : Int)) = (q : Int) := by omega
 have e1 : ¬ (n / 64 < q) := by omega
 have e2 : q ≤ 1000000 := by omega
 clear hq
 go_enter Tryz.func103, Tryz.ntmps103
 go_wp2
 go_ret
 exact ⟨rfl, gri⟩
theorem elemB : Tryz.prog.elem 25 = 5 := by kernel_rfl
theorem sliceRow (b p n c x y : Nat) (h1 : x < y) (h2 : y * 64 ≤ n) (h3 : n ≤ c) (w : World) : (Instr.slice 25 (.slice (some ⟨b, p, none⟩) n c) (some (.int .i64 ((x : Int) * 64))) (some (.int .i64 ((y : Int) * 64))) none).run Tryz.prog w = .ok (.slice (some ⟨b, p + x * 64, none⟩) (y * 64 - x * 64) (c - x * 64)) w := by
 have h := run_slice_lh (P := Tryz.prog) w 25 (some ⟨b, p, none⟩) n c (by rw [elemB]; exact Tryz.underlying25) .i64 .i64 ((x : Int) * 64) ((y : Int) * 64) (by omega) (by omega) (by omega)
 rw [h, elemB, asize]
 have e1 : ((x : Int) * 64).toNat = x * 64 := by omega
 have e2 : ((y : Int) * 64).toNat = y * 64 := by omega
 rw [e1, e2]
 simp only [Result.andThen_ok, sliced]
 rw [if_neg (by omega)]
 simp [Go.WideShapes.add_plain]
theorem data_any (b f t at_ n c B p : Nat) (D : Byt) (w : World) (hb : b ≤ 1000000) (h1 : f < t) (h2 : t ≤ 4) (ha : at_ ≤ 4 * b + f) (hat : at_ ≤ 1073741824) (hn : 4 * b + t ≤ at_ + n / 64) (hn2 : n ≤ 1000000) (hl : D.length = n) (hnc : n ≤ c) (hB : B < w.heap.size)
  (hc : ∀ (j : Nat) x, D[j]? = some x → w.cell? ⟨B, p + j, none⟩ = some (bv x)) :
  Calls Tryz.prog 76 #[.agg #[.int .i64 (b : Int), .int .i64 (f : Int), .int .i64 (t : Int)], .int .i64 (at_ : Int), .slice (some ⟨B, p, none⟩) n c] w fun e w' => ∃ v, e = .returned v ∧ OwnN bE w.heap.size w' v (segK ⟨b, f, t⟩ at_ D) ∧ Gr w w' := by
 haveI : Old B w := ⟨hB⟩
 have hr := Row.part hB hc (64 * (4 * b + f - at_)) (64 * (t - f))
 have hll : (segK ⟨b, f, t⟩ at_ D).length = (4 * b + t - at_) * 64 - (4 * b + f - at_) * 64 := by simp [segK, hl]; omega
 have HL := hd_ hll
 have HR : Hid (∀ (j : Nat) x, (segK ⟨b, f, t⟩ at_ D)[j]? = some x → w.cell? ⟨B, p + (4 * b + f - at_) * 64 + j, none⟩ = some (bv x)) := hd_ (fun j x hj => by
  have := hr j x hj
  rwa [Nat.mul_comm 64 (4 * b + f - at_)] at this)
 have hs := fun W => sliceRow B p n c (4 * b + f - at_) (4 * b + t - at_) (by omega) (by omega) hnc W
 have hf := fun (W : World) (P1 P2 P3 s : Nat) [BlockAt W P1 #[.int .i64 (b : Int), .int .i64 (f : Int), .int .i64 (t : Int)] 107] [BlockAt W P2 #[.int .i64 (at_ : Int)] 3] [BlockAt W P3 #[.slice (some ⟨B, p, none⟩) n c] 25] (hs : s = f ∨ s = t) => place_any b f t at_ s n c (some ⟨B, p, none⟩) P1 P2 P3 W hb (by omega) (by omega) (by omega) hn2
 have HF := hd_ hf
 have hq : (4 * b + t - at_) * 64 - (4 * b + f - at_) * 64 ≤ 1000000 := by omega
 have hq0 : 0 < (4 * b + t - at_) * 64 - (4 * b + f - at_) * 64 := by omega
 clear hf hr hll hc hl
 go_enter Tryz.func76, Tryz.ntmps76
 go_wp2
 refine wp_region_grow_tail 10 (by kernel_rfl) (by kernel_rfl) ?_
 simp only [List.take_succ_cons, List.take_zero, List.drop_succ_cons, List.drop_zero]
 repeat (go_big_quiet_step ((go_at_call 103; exact grow_call (HF.out _ _ _ _ _ (by first | exact .inl rfl | exact .inr rfl)))))
 refine wpQuiet_nil ?_
 intro g2
 go_wp2_with ((go_at_call 99; ((with_reducible refine (clone_any B (p + (4 * b + f - at_) * 64) _ _ (segK ⟨b, f, t⟩ at_ D) _ HL.out hq0 hq (Old.lt (b := B)) (fun j x hj => ((Gr.below gri).cell (p := ⟨B, p + (4 * b + f - at_) * 64 + j, none⟩) hB).trans (HR.out j x hj))).mono ?_); rintro _ W1 ⟨v1, rfl, ho, ⟨g1, rfl⟩⟩)))
 have HO := hd_ ho
 clear ho hs
 go_wp2
 go_ret
 exact ⟨_, rfl, HO.out.more (by exact past), gri⟩
theorem eqBlk (B C : Byt) (hB : B.length = 256) (hC : C.length = 256) (w : World) : (binOp .eql 66 (.agg (bkC B)) (.agg (bkC C))).run Tryz.prog w = .ok (.bool (B == C)) w :=
 run_eql_bytes w 66 5 256 Tryz.underlying66 Tryz.underlying5 (fun _ => by kernel_rfl) B C hB hC
theorem bkC_splice (X D : Byt) (off : Nat) : ((bkC X).toList.take off ++ (D.map bv ++ (bkC X).toList.drop (off + D.length))).toArray = bkC (X.take off ++ (D ++ X.drop (off + D.length))) := by
 simp [bkC, List.map_take, List.map_drop]
theorem wpCopyB {W : World} {ops : Array Oper} {rest : List Oper} {o : Oper} {a : Act} {Q : Exit → Act → World → Prop} (hgd : o.guard = none) (d s : Operand) (ho : o.op = .call { callee := .builtin .copy, args := #[d, s], argTypes := #[25, 25] })
  (K off dl dc : Nat) (X : Byt) (T : TypeId) (b p m c : Nat) (D : Byt) (hd : a.eval d = .slice (some ⟨K, off, none⟩) dl dc) (hs : a.eval s = .slice (some ⟨b, p, none⟩) m c) (hl : D.length = m) (hle : m ≤ dl) (hK : BlockAt W K (bkC X) T) (hfit : off + m ≤ X.length)
  (hsrc : ∀ (j : Nat) x, D[j]? = some x → W.cell? ⟨b, p + j, none⟩ = some (bv x))
  (h : wpList Tryz.prog ops Q rest (a.put o.dst (goInt m)) (W.setRow K (bkC (X.take off ++ (D ++ X.drop (off + m)))))) : wpList Tryz.prog ops Q (o :: rest) a W := by
 subst hl
 refine wpList_copy_own hgd d s _ _ ho 5 Tryz.underlying25 (by kernel_rfl) K off dl dc ⟨b, p, none⟩ D.length c hd hs (bkC X) T hK.eq (D.map bv) ?_ ?_ ?_ ?_ ?_
 ·rw [List.length_map]; exact (Nat.min_eq_left hle).symm
 ·intro j v hj
  rw [List.getElem?_map] at hj
  cases hx : D[j]? with
  | none => rw [hx] at hj; cases hj
  | some x =>
   rw [hx] at hj
   cases hj
   rw [Go.WideShapes.add_plain]
   exact hsrc j x hx
 ·rw [List.length_map, bkC_size]; exact hfit
 ·intro v hv
  obtain ⟨x, _, rfl⟩ := List.mem_map.1 hv
  rfl
 ·rw [List.length_map, bkC_splice]
  exact h
theorem merge_any (B D : Byt) (f n c b p : Nat) (w : World) (hB : B.length = 256) (hf : f < 4) (hl : D.length = n) (h0 : 0 < n) (h64 : n % 64 = 0) (hn : n ≤ (4 - f) * 64) (hb : b < w.heap.size) (hc : ∀ (j : Nat) x, D[j]? = some x → w.cell? ⟨b, p + j, none⟩ = some (bv x)) :
  Calls Tryz.prog 75 #[.agg (bkC B), .int .i64 (f : Int), .slice (some ⟨b, p, none⟩) n c] w fun e w' => e = .returned (.tuple #[.agg (bkC (mergeB B f D)), .int .i64 0]) ∧ Gr w w' := by
 haveI : Old b w := ⟨hb⟩
 have hm : B.take (f * 64) ++ (D ++ B.drop (f * 64 + n)) = mergeB B f D := by
  rw [mergeB, hl, Nat.mul_comm 64 f, List.append_assoc]
 have hM : (mergeB B f D).length = 256 := mergeB_len B f D hB (by omega)
 have HC := hd_ hc
 have HL := hd_ hl
 have HM := hd_ hm
 haveI := bkC_row hB
 haveI := bkC_row hM
 have HB := hd_ hB
 have hs := fun K W => sliceBlkL K f hf W
 have he := fun W => eqBlk _ _ hM hB W
 have hmod : (n : Int) % 64 = 0 := by omega
 have hle : (n : Int) ≤ (4 - (f : Int)) * 64 := by omega
 clear hc hl hm
 generalize mergeB B f D = M at *
 clear hM hB
 rcases Bool.eq_false_or_eq_true (M == B) with hq | hq
 all_goals
  go_enter Tryz.func75, Tryz.ntmps75
  go_wp2_with (first | (refine wpStoreB rfl _ _ rfl _ _ _ rfl rfl inferInstance inferInstance inferInstance ?_) | (refine wpLoadB rfl _ rfl _ _ rfl inferInstance inferInstance ?_) | (refine wpCopyB rfl _ _ rfl w.heap.size (f * 64) (256 - f * 64) (256 - f * 64) B _ b p n c D rfl rfl HL.out (by omega) inferInstance (by rw [HB.out]; omega) (fun j x hj => ((Gr.below gri).cell (p := ⟨b, p + j, none⟩) hb).trans (HC.out j x hj)) ?_; rw [HM.out]))
  exact bodyPost_ret (run_resB rfl _ _ _ _ rfl rfl inferInstance inferInstance) rfl ⟨by first | rfl | (rw [eq_of_beq hq]; rfl), gri⟩
end Go.Proofs.YtddckdhnolmjoaaGreat
