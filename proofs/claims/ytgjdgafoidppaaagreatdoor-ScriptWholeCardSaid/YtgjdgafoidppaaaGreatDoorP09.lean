/- script.SameAct. Conditions: what is read stands in memory. script.MayAct (what it says). Conditions: what is read stands in memory. script.MayAct (kinds 1). Conditions: what is read stands in memory. script.MayAct (kinds 2, 3, 4). Conditions: what is read stands in memory. script.MayAct (kinds 5, 6). Conditions: what is read stands in memory. script.MayAct (kinds 7, 8, 9, 10). Conditions: what is read stands in memory. script.MayAct (all kinds). Conditions: what is read stands in memory. script.actText, script.ActText. Conditions: what is read stands in memory; strconv's table stands. -/
import Derived.Test.YtgjdgafoidppaaaGreatDoorP07
import Derived.Test.YtgjdgafoidppaaaGreatDoorP08
import Derived.Test.YtgjdgafoidppaaaGreatDoorP03
import Derived.Test.YtgjdgafoidppaaaGreatDoorP02
namespace Go.Proofs.YtgjdgafoidppaaaGreatDoor
open Go.RowKit
set_option linter.unusedVariables false
set_option linter.unusedSimpArgs false
set_option linter.unnecessarySimpa false
def sameActB (xk xn xm xOk xOv xOt xOs xOa xOc yk yn ym yOk yOv yOt yOs yOa yOc : Int) (xf yf : Bool) (lx ly : List UInt8) (px py : List Int) : Bool := xk == yk && xn == yn && xm == ym && sameB xOk xOv xOt xOs xOa xOc yOk yOv yOt yOs yOa yOc lx ly && xf == yf && px == py
set_option maxHeartbeats 4000000 in
theorem sameAct_any (xk xn xm xOk xOv xOt xOs xOa xOc yk yn ym yOk yOv yOt yOs yOa yOc : Int) (xOD yOD xP yP : Option Addr) (xOn xOq yOn yOq xpn xpq ypn ypq : Nat) (xf yf : Bool) (lx ly : List UInt8) (px py : List Int) (w : World) (hx : lx.length = xOn) (hy : ly.length = yOn) (hn : xOn ≤ 9223372036854775807) (h1 : Row bv w xOD lx) (h2 : Row bv w yOD ly) (hpx : px.length = xpn) (hpy : py.length = ypn) (hpn : xpn ≤ 9223372036854775807) (hqn : ypn ≤ 9223372036854775807) (h3 : Row (Value.int .i64) w xP px) (h4 : Row (Value.int .i64) w yP py) :
  Calls Tryz.prog 34 #[(Value.agg #[.int .i64 xk, .int .i64 xn, .int .i64 xm, .int .i64 xOk, .int .u64 xOv, .int .u64 xOt, .int .i64 xOs, .int .i64 xOa, .int .i64 xOc, .slice xOD xOn xOq, .bool xf, .slice xP xpn xpq]), (Value.agg #[.int .i64 yk, .int .i64 yn, .int .i64 ym, .int .i64 yOk, .int .u64 yOv, .int .u64 yOt, .int .i64 yOs, .int .i64 yOa, .int .i64 yOc, .slice yOD yOn yOq, .bool yf, .slice yP ypn ypq])] w fun e w' => e = .returned (.bool (sameActB xk xn xm xOk xOv xOt xOs xOa xOc yk yn ym yOk yOv yOt yOs yOa yOc xf yf lx ly px py)) ∧ Gr w w' := by
 have H1 := Lib.hid h1; clear h1
 have H2 := Lib.hid h2; clear h2
 have H3 := Lib.hid h3; clear h3
 have H4 := Lib.hid h4; clear h4
 have HX := Lib.hid hx; clear hx
 have HY := Lib.hid hy; clear hy
 have HPX := Lib.hid hpx; clear hpx
 have HPY := Lib.hid hpy; clear hpy
 rcases Bool.eq_false_or_eq_true (xk == yk) with k0 | k0
 rotate_left
 ·go_enter Tryz.func34, Tryz.ntmps34
  go_wp2
  go_ret
  exact ⟨ret_bool (by simp [sameActB, k0]), gri⟩
 rcases Bool.eq_false_or_eq_true (xn == yn) with k1 | k1
 rotate_left
 ·go_enter Tryz.func34, Tryz.ntmps34
  go_wp2
  go_ret
  exact ⟨ret_bool (by simp [sameActB, k1]), gri⟩
 rcases Bool.eq_false_or_eq_true (xm == ym) with k2 | k2
 rotate_left
 ·go_enter Tryz.func34, Tryz.ntmps34
  go_wp2
  go_ret
  exact ⟨ret_bool (by simp [sameActB, k2]), gri⟩
 rcases Bool.eq_false_or_eq_true (sameB xOk xOv xOt xOs xOa xOc yOk yOv yOt yOs yOa yOc lx ly) with k3 | k3
 rotate_left
 ·go_enter Tryz.func34, Tryz.ntmps34
  go_wp2_with ((go_at_call 76; ((with_reducible refine (same13_any _ _ _ _ _ _ _ _ _ _ _ _ _ _ _ _ _ _ lx ly _ HX.out HY.out hn (H1.out.gr (gri)) (H2.out.gr (gri))).mono ?_); rintro _ _ ⟨rfl, g, rfl⟩)))
  go_ret
  exact ⟨ret_bool (by simp [sameActB, k3]), gri⟩
 cases xf <;> cases yf
 all_goals
  go_enter Tryz.func34, Tryz.ntmps34
  go_wp2_with (((first | (go_at_call 76; with_reducible refine (same13_any _ _ _ _ _ _ _ _ _ _ _ _ _ _ _ _ _ _ lx ly _ HX.out HY.out hn (H1.out.gr (gri)) (H2.out.gr (gri))).mono ?_) | (go_at_call 77; with_reducible refine (equalI_any _ _ _ _ _ _ px py _ HPX.out HPY.out hpn hqn (H3.out.gr (gri)) (H4.out.gr (gri))).mono ?_)); rintro _ _ ⟨rfl, g, rfl⟩))
  go_ret
  exact ⟨ret_bool (by simp [sameActB, k0, k1, k2, k3]), gri⟩
def nodeB (n : Int) : Bool := n == 0 || n == 1
def badP (xs : List Int) : Bool := xs.any fun n => !(mayN n)
def picksB (n : Nat) (xs : List Int) : Bool := decide (n ≤ 100) && !(badP xs)
theorem sameB_refl (a b c d e f : Int) (l : List UInt8) : sameB a b c d e f a b c d e f l l = true := by simp [sameB]
def mayActB (xk xn xm xOk xOv xOt xOs xOa xOc : Int) (xf : Bool) (xOn xpn : Nat) (lx : List UInt8) (px : List Int) : Bool :=
 if xk = 1 then (nodeB xn) && (mayOpB xOk xOv xOt xOs xOa xOc xOn lx) && (xm == 0) && (xf == false) && (px == []) else if xk = 2 then (mayN xm) && (xn == 0) && (sameB xOk xOv xOt xOs xOa xOc 0 0 0 0 0 0 lx []) && (xf == false) && (px == []) else if xk = 3 then (nodeB xn) && (xm == 0) && (sameB xOk xOv xOt xOs xOa xOc 0 0 0 0 0 0 lx []) && (xf == false) && (px == []) else if xk = 4 then (nodeB xn) && (picksB xpn px) && (xm == 0) && (sameB xOk xOv xOt xOs xOa xOc 0 0 0 0 0 0 lx []) && (xf == false) else if xk = 5 then (nodeB xn) && (picksB xpn px) && (xm == 0) && (sameB xOk xOv xOt xOs xOa xOc 0 0 0 0 0 0 lx []) && (xf == false) else if xk = 6 then (nodeB xn) && (mayN xm) && (sameB xOk xOv xOt xOs xOa xOc 0 0 0 0 0 0 lx []) && (xf == false) && (px == []) else if xk = 7 then (nodeB xn) && (xm == 0) && (sameB xOk xOv xOt xOs xOa xOc 0 0 0 0 0 0 lx []) && (px == []) else if xk = 8 then (nodeB xn) && (xm == 0) && (sameB xOk xOv xOt xOs xOa xOc 0 0 0 0 0 0 lx []) && (xf == false) && (px == []) else if xk = 9 then (nodeB xn) && (mayN xm) && (sameB xOk xOv xOt xOs xOa xOc 0 0 0 0 0 0 lx []) && (xf == false) && (px == []) else if xk = 10 then (xn == 0) && (xm == 0) && (sameB xOk xOv xOt xOs xOa xOc 0 0 0 0 0 0 lx []) && (xf == false) && (px == []) else false
set_option maxRecDepth 100000 in
set_option maxHeartbeats 8000000 in
theorem mayAct_1 (xn xm xOk xOv xOt xOs xOa xOc : Int) (xOD xP : Option Addr) (xOn xOq xpn xpq : Nat) (xf : Bool) (lx : List UInt8) (px : List Int) (w : World) (hx : lx.length = xOn) (hn : xOn ≤ 9223372036854775807) (h1 : Row bv w xOD lx) (hpx : px.length = xpn) (hpn : xpn ≤ 9223372036854775807) (h3 : Row (Value.int .i64) w xP px) : Calls Tryz.prog 22 #[(Value.agg #[.int .i64 1, .int .i64 xn, .int .i64 xm, .int .i64 xOk, .int .u64 xOv, .int .u64 xOt, .int .i64 xOs, .int .i64 xOa, .int .i64 xOc, .slice xOD xOn xOq, .bool xf, .slice xP xpn xpq])] w fun e w' => e = .returned (.bool (mayActB 1 xn xm xOk xOv xOt xOs xOa xOc xf xOn xpn lx px)) ∧ Gr w w' := by
 have H1 := Lib.hid h1; clear h1
 have H3 := Lib.hid h3; clear h3
 have HX := Lib.hid hx; clear hx
 have HPX := Lib.hid hpx; clear hpx
 have en : actPartsB 1 = ⟨#[100, 111]⟩ := rfl
 have E0 : mayActB 1 xn xm xOk xOv xOt xOs xOa xOc xf xOn xpn lx px = ((nodeB xn) && (mayOpB xOk xOv xOt xOs xOa xOc xOn lx) && (xm == 0) && (xf == false) && (px == [])) := rfl
 rw [E0]; clear E0
 have HM := Lib.hid (fun W => (may26_any xm W).mono (R' := fun e w' => e = .returned (.bool (mayN xm)) ∧ W = w') fun _ _ h => h)
 have HB := Lib.hid (fun W (h : Row (Value.int .i64) W xP px) => (containsI_any xP xpn xpq px W HPX.out hpn h).mono (R' := fun e w' => e = .returned (.bool (badP px)) ∧ Gr W w') fun _ _ h => h)
 cases xf
 all_goals
  rcases Bool.eq_false_or_eq_true (xn == 0) with z0 | z0
  ·have q0 : nodeB xn = true := by simp [nodeB, z0]
   rcases Bool.eq_false_or_eq_true (mayOpB xOk xOv xOt xOs xOa xOc xOn lx) with q1 | q1
   ·go_enter Tryz.func22, Tryz.ntmps22
    iterate 4
     try first | rw [rounds_succ] | (refine wp_loop_rounds 3 ?_; rw [rounds_succ])
     go_wp2_with (first | (go_at_call 52; ((with_reducible refine (actPartsB_any _ _).mono ?_); rintro _ _ ⟨rfl, g, rfl⟩)) | (go_at_call 60; ((with_reducible refine (HM.out _).mono ?_); rintro _ _ ⟨rfl, rfl⟩)) | ((first | (go_at_call 38; with_reducible refine (mayOp_any _ _ _ _ _ _ _ _ _ lx _ HX.out hn (H1.out.gr (gri))).mono ?_) | (go_at_call 61; with_reducible refine (HB.out _ (H3.out.gr (gri))).mono ?_) | (go_at_call 34; with_reducible refine (sameAct_any _ _ _ _ _ _ _ _ _ _ _ _ _ _ _ _ _ _ _ _ _ _ _ _ _ _ _ _ _ _ _ _ lx lx px [] _ HX.out HX.out hn (H1.out.gr (gri)) (H1.out.gr (gri)) HPX.out List.length_nil hpn (by omega) (H3.out.gr (gri)) Row.nil).mono ?_)); rintro _ _ ⟨rfl, g, rfl⟩))
    go_ret
    exact ⟨ret_bool (by simp [sameActB, q0, q1, sameB_refl, Bool.and_assoc]), gri⟩
   ·go_enter Tryz.func22, Tryz.ntmps22
    iterate 4
     try first | rw [rounds_succ] | (refine wp_loop_rounds 3 ?_; rw [rounds_succ])
     go_wp2_with (first | (go_at_call 52; ((with_reducible refine (actPartsB_any _ _).mono ?_); rintro _ _ ⟨rfl, g, rfl⟩)) | (go_at_call 60; ((with_reducible refine (HM.out _).mono ?_); rintro _ _ ⟨rfl, rfl⟩)) | ((first | (go_at_call 38; with_reducible refine (mayOp_any _ _ _ _ _ _ _ _ _ lx _ HX.out hn (H1.out.gr (gri))).mono ?_) | (go_at_call 61; with_reducible refine (HB.out _ (H3.out.gr (gri))).mono ?_) | (go_at_call 34; with_reducible refine (sameAct_any _ _ _ _ _ _ _ _ _ _ _ _ _ _ _ _ _ _ _ _ _ _ _ _ _ _ _ _ _ _ _ _ lx lx px [] _ HX.out HX.out hn (H1.out.gr (gri)) (H1.out.gr (gri)) HPX.out List.length_nil hpn (by omega) (H3.out.gr (gri)) Row.nil).mono ?_)); rintro _ _ ⟨rfl, g, rfl⟩))
    go_ret
    exact ⟨ret_bool (by simp [sameActB, q0, q1, sameB_refl, Bool.and_assoc]), gri⟩
  ·rcases Bool.eq_false_or_eq_true (xn == 1) with z1 | z1
   ·have q0 : nodeB xn = true := by simp [nodeB, z0, z1]
    rcases Bool.eq_false_or_eq_true (mayOpB xOk xOv xOt xOs xOa xOc xOn lx) with q1 | q1
    ·go_enter Tryz.func22, Tryz.ntmps22
     iterate 4
      try first | rw [rounds_succ] | (refine wp_loop_rounds 3 ?_; rw [rounds_succ])
      go_wp2_with (first | (go_at_call 52; ((with_reducible refine (actPartsB_any _ _).mono ?_); rintro _ _ ⟨rfl, g, rfl⟩)) | (go_at_call 60; ((with_reducible refine (HM.out _).mono ?_); rintro _ _ ⟨rfl, rfl⟩)) | ((first | (go_at_call 38; with_reducible refine (mayOp_any _ _ _ _ _ _ _ _ _ lx _ HX.out hn (H1.out.gr (gri))).mono ?_) | (go_at_call 61; with_reducible refine (HB.out _ (H3.out.gr (gri))).mono ?_) | (go_at_call 34; with_reducible refine (sameAct_any _ _ _ _ _ _ _ _ _ _ _ _ _ _ _ _ _ _ _ _ _ _ _ _ _ _ _ _ _ _ _ _ lx lx px [] _ HX.out HX.out hn (H1.out.gr (gri)) (H1.out.gr (gri)) HPX.out List.length_nil hpn (by omega) (H3.out.gr (gri)) Row.nil).mono ?_)); rintro _ _ ⟨rfl, g, rfl⟩))
     go_ret
     exact ⟨ret_bool (by simp [sameActB, q0, q1, sameB_refl, Bool.and_assoc]), gri⟩
    ·go_enter Tryz.func22, Tryz.ntmps22
     iterate 4
      try first | rw [rounds_succ] | (refine wp_loop_rounds 3 ?_; rw [rounds_succ])
      go_wp2_with (first | (go_at_call 52; ((with_reducible refine (actPartsB_any _ _).mono ?_); rintro _ _ ⟨rfl, g, rfl⟩)) | (go_at_call 60; ((with_reducible refine (HM.out _).mono ?_); rintro _ _ ⟨rfl, rfl⟩)) | ((first | (go_at_call 38; with_reducible refine (mayOp_any _ _ _ _ _ _ _ _ _ lx _ HX.out hn (H1.out.gr (gri))).mono ?_) | (go_at_call 61; with_reducible refine (HB.out _ (H3.out.gr (gri))).mono ?_) | (go_at_call 34; with_reducible refine (sameAct_any _ _ _ _ _ _ _ _ _ _ _ _ _ _ _ _ _ _ _ _ _ _ _ _ _ _ _ _ _ _ _ _ lx lx px [] _ HX.out HX.out hn (H1.out.gr (gri)) (H1.out.gr (gri)) HPX.out List.length_nil hpn (by omega) (H3.out.gr (gri)) Row.nil).mono ?_)); rintro _ _ ⟨rfl, g, rfl⟩))
     go_ret
     exact ⟨ret_bool (by simp [sameActB, q0, q1, sameB_refl, Bool.and_assoc]), gri⟩
   ·have q0 : nodeB xn = false := by simp [nodeB, z0, z1]
    go_enter Tryz.func22, Tryz.ntmps22
    iterate 4
     try first | rw [rounds_succ] | (refine wp_loop_rounds 3 ?_; rw [rounds_succ])
     go_wp2_with (first | (go_at_call 52; ((with_reducible refine (actPartsB_any _ _).mono ?_); rintro _ _ ⟨rfl, g, rfl⟩)) | (go_at_call 60; ((with_reducible refine (HM.out _).mono ?_); rintro _ _ ⟨rfl, rfl⟩)) | ((first | (go_at_call 38; with_reducible refine (mayOp_any _ _ _ _ _ _ _ _ _ lx _ HX.out hn (H1.out.gr (gri))).mono ?_) | (go_at_call 61; with_reducible refine (HB.out _ (H3.out.gr (gri))).mono ?_) | (go_at_call 34; with_reducible refine (sameAct_any _ _ _ _ _ _ _ _ _ _ _ _ _ _ _ _ _ _ _ _ _ _ _ _ _ _ _ _ _ _ _ _ lx lx px [] _ HX.out HX.out hn (H1.out.gr (gri)) (H1.out.gr (gri)) HPX.out List.length_nil hpn (by omega) (H3.out.gr (gri)) Row.nil).mono ?_)); rintro _ _ ⟨rfl, g, rfl⟩))
    go_ret
    exact ⟨ret_bool (by simp [sameActB, q0, sameB_refl, Bool.and_assoc]), gri⟩
set_option maxRecDepth 100000 in
set_option maxHeartbeats 8000000 in
theorem mayAct_2 (xn xm xOk xOv xOt xOs xOa xOc : Int) (xOD xP : Option Addr) (xOn xOq xpn xpq : Nat) (xf : Bool) (lx : List UInt8) (px : List Int) (w : World) (hx : lx.length = xOn) (hn : xOn ≤ 9223372036854775807) (h1 : Row bv w xOD lx) (hpx : px.length = xpn) (hpn : xpn ≤ 9223372036854775807) (h3 : Row (Value.int .i64) w xP px) : Calls Tryz.prog 22 #[(Value.agg #[.int .i64 2, .int .i64 xn, .int .i64 xm, .int .i64 xOk, .int .u64 xOv, .int .u64 xOt, .int .i64 xOs, .int .i64 xOa, .int .i64 xOc, .slice xOD xOn xOq, .bool xf, .slice xP xpn xpq])] w fun e w' => e = .returned (.bool (mayActB 2 xn xm xOk xOv xOt xOs xOa xOc xf xOn xpn lx px)) ∧ Gr w w' := by
 have H1 := Lib.hid h1; clear h1
 have H3 := Lib.hid h3; clear h3
 have HX := Lib.hid hx; clear hx
 have HPX := Lib.hid hpx; clear hpx
 have en : actPartsB 2 = ⟨#[110]⟩ := rfl
 have E0 : mayActB 2 xn xm xOk xOv xOt xOs xOa xOc xf xOn xpn lx px = ((mayN xm) && (xn == 0) && (sameB xOk xOv xOt xOs xOa xOc 0 0 0 0 0 0 lx []) && (xf == false) && (px == [])) := rfl
 rw [E0]; clear E0
 have HM := Lib.hid (fun W => (may26_any xm W).mono (R' := fun e w' => e = .returned (.bool (mayN xm)) ∧ W = w') fun _ _ h => h)
 have HB := Lib.hid (fun W (h : Row (Value.int .i64) W xP px) => (containsI_any xP xpn xpq px W HPX.out hpn h).mono (R' := fun e w' => e = .returned (.bool (badP px)) ∧ Gr W w') fun _ _ h => h)
 cases xf
 all_goals
  rcases Bool.eq_false_or_eq_true (mayN xm) with q0 | q0
  ·go_enter Tryz.func22, Tryz.ntmps22
   iterate 3
    try first | rw [rounds_succ] | (refine wp_loop_rounds 2 ?_; rw [rounds_succ])
    go_wp2_with (first | (go_at_call 52; ((with_reducible refine (actPartsB_any _ _).mono ?_); rintro _ _ ⟨rfl, g, rfl⟩)) | (go_at_call 60; ((with_reducible refine (HM.out _).mono ?_); rintro _ _ ⟨rfl, rfl⟩)) | ((first | (go_at_call 38; with_reducible refine (mayOp_any _ _ _ _ _ _ _ _ _ lx _ HX.out hn (H1.out.gr (gri))).mono ?_) | (go_at_call 61; with_reducible refine (HB.out _ (H3.out.gr (gri))).mono ?_) | (go_at_call 34; with_reducible refine (sameAct_any _ _ _ _ _ _ _ _ _ _ _ _ _ _ _ _ _ _ _ _ _ _ _ _ _ _ _ _ _ _ _ _ lx [] px [] _ HX.out List.length_nil hn (H1.out.gr (gri)) Row.nil HPX.out List.length_nil hpn (by omega) (H3.out.gr (gri)) Row.nil).mono ?_)); rintro _ _ ⟨rfl, g, rfl⟩))
   go_ret
   exact ⟨ret_bool (by simp [sameActB, q0, sameB_refl, Bool.and_assoc]), gri⟩
  ·go_enter Tryz.func22, Tryz.ntmps22
   iterate 3
    try first | rw [rounds_succ] | (refine wp_loop_rounds 2 ?_; rw [rounds_succ])
    go_wp2_with (first | (go_at_call 52; ((with_reducible refine (actPartsB_any _ _).mono ?_); rintro _ _ ⟨rfl, g, rfl⟩)) | (go_at_call 60; ((with_reducible refine (HM.out _).mono ?_); rintro _ _ ⟨rfl, rfl⟩)) | ((first | (go_at_call 38; with_reducible refine (mayOp_any _ _ _ _ _ _ _ _ _ lx _ HX.out hn (H1.out.gr (gri))).mono ?_) | (go_at_call 61; with_reducible refine (HB.out _ (H3.out.gr (gri))).mono ?_) | (go_at_call 34; with_reducible refine (sameAct_any _ _ _ _ _ _ _ _ _ _ _ _ _ _ _ _ _ _ _ _ _ _ _ _ _ _ _ _ _ _ _ _ lx [] px [] _ HX.out List.length_nil hn (H1.out.gr (gri)) Row.nil HPX.out List.length_nil hpn (by omega) (H3.out.gr (gri)) Row.nil).mono ?_)); rintro _ _ ⟨rfl, g, rfl⟩))
   go_ret
   exact ⟨ret_bool (by simp [sameActB, q0, sameB_refl, Bool.and_assoc]), gri⟩
set_option maxRecDepth 100000 in
set_option maxHeartbeats 8000000 in
theorem mayAct_3 (xn xm xOk xOv xOt xOs xOa xOc : Int) (xOD xP : Option Addr) (xOn xOq xpn xpq : Nat) (xf : Bool) (lx : List UInt8) (px : List Int) (w : World) (hx : lx.length = xOn) (hn : xOn ≤ 9223372036854775807) (h1 : Row bv w xOD lx) (hpx : px.length = xpn) (hpn : xpn ≤ 9223372036854775807) (h3 : Row (Value.int .i64) w xP px) : Calls Tryz.prog 22 #[(Value.agg #[.int .i64 3, .int .i64 xn, .int .i64 xm, .int .i64 xOk, .int .u64 xOv, .int .u64 xOt, .int .i64 xOs, .int .i64 xOa, .int .i64 xOc, .slice xOD xOn xOq, .bool xf, .slice xP xpn xpq])] w fun e w' => e = .returned (.bool (mayActB 3 xn xm xOk xOv xOt xOs xOa xOc xf xOn xpn lx px)) ∧ Gr w w' := by
 have H1 := Lib.hid h1; clear h1
 have H3 := Lib.hid h3; clear h3
 have HX := Lib.hid hx; clear hx
 have HPX := Lib.hid hpx; clear hpx
 have en : actPartsB 3 = ⟨#[100]⟩ := rfl
 have E0 : mayActB 3 xn xm xOk xOv xOt xOs xOa xOc xf xOn xpn lx px = ((nodeB xn) && (xm == 0) && (sameB xOk xOv xOt xOs xOa xOc 0 0 0 0 0 0 lx []) && (xf == false) && (px == [])) := rfl
 rw [E0]; clear E0
 have HM := Lib.hid (fun W => (may26_any xm W).mono (R' := fun e w' => e = .returned (.bool (mayN xm)) ∧ W = w') fun _ _ h => h)
 have HB := Lib.hid (fun W (h : Row (Value.int .i64) W xP px) => (containsI_any xP xpn xpq px W HPX.out hpn h).mono (R' := fun e w' => e = .returned (.bool (badP px)) ∧ Gr W w') fun _ _ h => h)
 cases xf
 all_goals
  rcases Bool.eq_false_or_eq_true (xn == 0) with z0 | z0
  ·have q0 : nodeB xn = true := by simp [nodeB, z0]
   go_enter Tryz.func22, Tryz.ntmps22
   iterate 3
    try first | rw [rounds_succ] | (refine wp_loop_rounds 2 ?_; rw [rounds_succ])
    go_wp2_with (first | (go_at_call 52; ((with_reducible refine (actPartsB_any _ _).mono ?_); rintro _ _ ⟨rfl, g, rfl⟩)) | (go_at_call 60; ((with_reducible refine (HM.out _).mono ?_); rintro _ _ ⟨rfl, rfl⟩)) | ((first | (go_at_call 38; with_reducible refine (mayOp_any _ _ _ _ _ _ _ _ _ lx _ HX.out hn (H1.out.gr (gri))).mono ?_) | (go_at_call 61; with_reducible refine (HB.out _ (H3.out.gr (gri))).mono ?_) | (go_at_call 34; with_reducible refine (sameAct_any _ _ _ _ _ _ _ _ _ _ _ _ _ _ _ _ _ _ _ _ _ _ _ _ _ _ _ _ _ _ _ _ lx [] px [] _ HX.out List.length_nil hn (H1.out.gr (gri)) Row.nil HPX.out List.length_nil hpn (by omega) (H3.out.gr (gri)) Row.nil).mono ?_)); rintro _ _ ⟨rfl, g, rfl⟩))
   go_ret
   exact ⟨ret_bool (by simp [sameActB, q0, sameB_refl, Bool.and_assoc]), gri⟩
  ·rcases Bool.eq_false_or_eq_true (xn == 1) with z1 | z1
   ·have q0 : nodeB xn = true := by simp [nodeB, z0, z1]
    go_enter Tryz.func22, Tryz.ntmps22
    iterate 3
     try first | rw [rounds_succ] | (refine wp_loop_rounds 2 ?_; rw [rounds_succ])
     go_wp2_with (first | (go_at_call 52; ((with_reducible refine (actPartsB_any _ _).mono ?_); rintro _ _ ⟨rfl, g, rfl⟩)) | (go_at_call 60; ((with_reducible refine (HM.out _).mono ?_); rintro _ _ ⟨rfl, rfl⟩)) | ((first | (go_at_call 38; with_reducible refine (mayOp_any _ _ _ _ _ _ _ _ _ lx _ HX.out hn (H1.out.gr (gri))).mono ?_) | (go_at_call 61; with_reducible refine (HB.out _ (H3.out.gr (gri))).mono ?_) | (go_at_call 34; with_reducible refine (sameAct_any _ _ _ _ _ _ _ _ _ _ _ _ _ _ _ _ _ _ _ _ _ _ _ _ _ _ _ _ _ _ _ _ lx [] px [] _ HX.out List.length_nil hn (H1.out.gr (gri)) Row.nil HPX.out List.length_nil hpn (by omega) (H3.out.gr (gri)) Row.nil).mono ?_)); rintro _ _ ⟨rfl, g, rfl⟩))
    go_ret
    exact ⟨ret_bool (by simp [sameActB, q0, sameB_refl, Bool.and_assoc]), gri⟩
   ·have q0 : nodeB xn = false := by simp [nodeB, z0, z1]
    go_enter Tryz.func22, Tryz.ntmps22
    iterate 3
     try first | rw [rounds_succ] | (refine wp_loop_rounds 2 ?_; rw [rounds_succ])
     go_wp2_with (first | (go_at_call 52; ((with_reducible refine (actPartsB_any _ _).mono ?_); rintro _ _ ⟨rfl, g, rfl⟩)) | (go_at_call 60; ((with_reducible refine (HM.out _).mono ?_); rintro _ _ ⟨rfl, rfl⟩)) | ((first | (go_at_call 38; with_reducible refine (mayOp_any _ _ _ _ _ _ _ _ _ lx _ HX.out hn (H1.out.gr (gri))).mono ?_) | (go_at_call 61; with_reducible refine (HB.out _ (H3.out.gr (gri))).mono ?_) | (go_at_call 34; with_reducible refine (sameAct_any _ _ _ _ _ _ _ _ _ _ _ _ _ _ _ _ _ _ _ _ _ _ _ _ _ _ _ _ _ _ _ _ lx [] px [] _ HX.out List.length_nil hn (H1.out.gr (gri)) Row.nil HPX.out List.length_nil hpn (by omega) (H3.out.gr (gri)) Row.nil).mono ?_)); rintro _ _ ⟨rfl, g, rfl⟩))
    go_ret
    exact ⟨ret_bool (by simp [sameActB, q0, sameB_refl, Bool.and_assoc]), gri⟩
set_option maxRecDepth 100000 in
set_option maxHeartbeats 8000000 in
theorem mayAct_4 (xn xm xOk xOv xOt xOs xOa xOc : Int) (xOD xP : Option Addr) (xOn xOq xpn xpq : Nat) (xf : Bool) (lx : List UInt8) (px : List Int) (w : World) (hx : lx.length = xOn) (hn : xOn ≤ 9223372036854775807) (h1 : Row bv w xOD lx) (hpx : px.length = xpn) (hpn : xpn ≤ 9223372036854775807) (h3 : Row (Value.int .i64) w xP px) : Calls Tryz.prog 22 #[(Value.agg #[.int .i64 4, .int .i64 xn, .int .i64 xm, .int .i64 xOk, .int .u64 xOv, .int .u64 xOt, .int .i64 xOs, .int .i64 xOa, .int .i64 xOc, .slice xOD xOn xOq, .bool xf, .slice xP xpn xpq])] w fun e w' => e = .returned (.bool (mayActB 4 xn xm xOk xOv xOt xOs xOa xOc xf xOn xpn lx px)) ∧ Gr w w' := by
 have H1 := Lib.hid h1; clear h1
 have H3 := Lib.hid h3; clear h3
 have HX := Lib.hid hx; clear hx
 have HPX := Lib.hid hpx; clear hpx
 have en : actPartsB 4 = ⟨#[100, 112]⟩ := rfl
 have E0 : mayActB 4 xn xm xOk xOv xOt xOs xOa xOc xf xOn xpn lx px = ((nodeB xn) && (picksB xpn px) && (xm == 0) && (sameB xOk xOv xOt xOs xOa xOc 0 0 0 0 0 0 lx []) && (xf == false)) := rfl
 rw [E0]; clear E0
 have HM := Lib.hid (fun W => (may26_any xm W).mono (R' := fun e w' => e = .returned (.bool (mayN xm)) ∧ W = w') fun _ _ h => h)
 have HB := Lib.hid (fun W (h : Row (Value.int .i64) W xP px) => (containsI_any xP xpn xpq px W HPX.out hpn h).mono (R' := fun e w' => e = .returned (.bool (badP px)) ∧ Gr W w') fun _ _ h => h)
 cases xf
 all_goals
  rcases Bool.eq_false_or_eq_true (xn == 0) with z0 | z0
  ·have q0 : nodeB xn = true := by simp [nodeB, z0]
   by_cases z2 : xpn ≤ 100
   ·rcases Bool.eq_false_or_eq_true (badP px) with z3 | z3
    ·have q1 : picksB xpn px = false := by simp [picksB, z3]
     go_enter Tryz.func22, Tryz.ntmps22
     iterate 4
      try first | rw [rounds_succ] | (refine wp_loop_rounds 3 ?_; rw [rounds_succ])
      go_wp2_with (first | (go_at_call 52; ((with_reducible refine (actPartsB_any _ _).mono ?_); rintro _ _ ⟨rfl, g, rfl⟩)) | (go_at_call 60; ((with_reducible refine (HM.out _).mono ?_); rintro _ _ ⟨rfl, rfl⟩)) | ((first | (go_at_call 38; with_reducible refine (mayOp_any _ _ _ _ _ _ _ _ _ lx _ HX.out hn (H1.out.gr (gri))).mono ?_) | (go_at_call 61; with_reducible refine (HB.out _ (H3.out.gr (gri))).mono ?_) | (go_at_call 34; with_reducible refine (sameAct_any _ _ _ _ _ _ _ _ _ _ _ _ _ _ _ _ _ _ _ _ _ _ _ _ _ _ _ _ _ _ _ _ lx [] px px _ HX.out List.length_nil hn (H1.out.gr (gri)) Row.nil HPX.out HPX.out hpn hpn (H3.out.gr (gri)) (H3.out.gr (gri))).mono ?_)); rintro _ _ ⟨rfl, g, rfl⟩))
     go_ret
     exact ⟨ret_bool (by simp [sameActB, q0, q1, sameB_refl, Bool.and_assoc]), gri⟩
    ·have q1 : picksB xpn px = true := by simp [picksB, z2, z3]
     go_enter Tryz.func22, Tryz.ntmps22
     iterate 4
      try first | rw [rounds_succ] | (refine wp_loop_rounds 3 ?_; rw [rounds_succ])
      go_wp2_with (first | (go_at_call 52; ((with_reducible refine (actPartsB_any _ _).mono ?_); rintro _ _ ⟨rfl, g, rfl⟩)) | (go_at_call 60; ((with_reducible refine (HM.out _).mono ?_); rintro _ _ ⟨rfl, rfl⟩)) | ((first | (go_at_call 38; with_reducible refine (mayOp_any _ _ _ _ _ _ _ _ _ lx _ HX.out hn (H1.out.gr (gri))).mono ?_) | (go_at_call 61; with_reducible refine (HB.out _ (H3.out.gr (gri))).mono ?_) | (go_at_call 34; with_reducible refine (sameAct_any _ _ _ _ _ _ _ _ _ _ _ _ _ _ _ _ _ _ _ _ _ _ _ _ _ _ _ _ _ _ _ _ lx [] px px _ HX.out List.length_nil hn (H1.out.gr (gri)) Row.nil HPX.out HPX.out hpn hpn (H3.out.gr (gri)) (H3.out.gr (gri))).mono ?_)); rintro _ _ ⟨rfl, g, rfl⟩))
     go_ret
     exact ⟨ret_bool (by simp [sameActB, q0, q1, sameB_refl, Bool.and_assoc]), gri⟩
   ·have z4 : decide ((xpn : Int) ≤ 100) = false := by simp; omega
    have q1 : picksB xpn px = false := by simp [picksB, z2]
    go_enter Tryz.func22, Tryz.ntmps22
    iterate 4
     try first | rw [rounds_succ] | (refine wp_loop_rounds 3 ?_; rw [rounds_succ])
     go_wp2_with (first | (go_at_call 52; ((with_reducible refine (actPartsB_any _ _).mono ?_); rintro _ _ ⟨rfl, g, rfl⟩)) | (go_at_call 60; ((with_reducible refine (HM.out _).mono ?_); rintro _ _ ⟨rfl, rfl⟩)) | ((first | (go_at_call 38; with_reducible refine (mayOp_any _ _ _ _ _ _ _ _ _ lx _ HX.out hn (H1.out.gr (gri))).mono ?_) | (go_at_call 61; with_reducible refine (HB.out _ (H3.out.gr (gri))).mono ?_) | (go_at_call 34; with_reducible refine (sameAct_any _ _ _ _ _ _ _ _ _ _ _ _ _ _ _ _ _ _ _ _ _ _ _ _ _ _ _ _ _ _ _ _ lx [] px px _ HX.out List.length_nil hn (H1.out.gr (gri)) Row.nil HPX.out HPX.out hpn hpn (H3.out.gr (gri)) (H3.out.gr (gri))).mono ?_)); rintro _ _ ⟨rfl, g, rfl⟩))
    go_ret
    exact ⟨ret_bool (by simp [sameActB, q0, q1, sameB_refl, Bool.and_assoc]), gri⟩
  ·rcases Bool.eq_false_or_eq_true (xn == 1) with z1 | z1
   ·have q0 : nodeB xn = true := by simp [nodeB, z0, z1]
    by_cases z2 : xpn ≤ 100
    ·rcases Bool.eq_false_or_eq_true (badP px) with z3 | z3
     ·have q1 : picksB xpn px = false := by simp [picksB, z3]
      go_enter Tryz.func22, Tryz.ntmps22
      iterate 4
       try first | rw [rounds_succ] | (refine wp_loop_rounds 3 ?_; rw [rounds_succ])
       go_wp2_with (first | (go_at_call 52; ((with_reducible refine (actPartsB_any _ _).mono ?_); rintro _ _ ⟨rfl, g, rfl⟩)) | (go_at_call 60; ((with_reducible refine (HM.out _).mono ?_); rintro _ _ ⟨rfl, rfl⟩)) | ((first | (go_at_call 38; with_reducible refine (mayOp_any _ _ _ _ _ _ _ _ _ lx _ HX.out hn (H1.out.gr (gri))).mono ?_) | (go_at_call 61; with_reducible refine (HB.out _ (H3.out.gr (gri))).mono ?_) | (go_at_call 34; with_reducible refine (sameAct_any _ _ _ _ _ _ _ _ _ _ _ _ _ _ _ _ _ _ _ _ _ _ _ _ _ _ _ _ _ _ _ _ lx [] px px _ HX.out List.length_nil hn (H1.out.gr (gri)) Row.nil HPX.out HPX.out hpn hpn (H3.out.gr (gri)) (H3.out.gr (gri))).mono ?_)); rintro _ _ ⟨rfl, g, rfl⟩))
      go_ret
      exact ⟨ret_bool (by simp [sameActB, q0, q1, sameB_refl, Bool.and_assoc]), gri⟩
     ·have q1 : picksB xpn px = true := by simp [picksB, z2, z3]
      go_enter Tryz.func22, Tryz.ntmps22
      iterate 4
       try first | rw [rounds_succ] | (refine wp_loop_rounds 3 ?_; rw [rounds_succ])
       go_wp2_with (first | (go_at_call 52; ((with_reducible refine (actPartsB_any _ _).mono ?_); rintro _ _ ⟨rfl, g, rfl⟩)) | (go_at_call 60; ((with_reducible refine (HM.out _).mono ?_); rintro _ _ ⟨rfl, rfl⟩)) | ((first | (go_at_call 38; with_reducible refine (mayOp_any _ _ _ _ _ _ _ _ _ lx _ HX.out hn (H1.out.gr (gri))).mono ?_) | (go_at_call 61; with_reducible refine (HB.out _ (H3.out.gr (gri))).mono ?_) | (go_at_call 34; with_reducible refine (sameAct_any _ _ _ _ _ _ _ _ _ _ _ _ _ _ _ _ _ _ _ _ _ _ _ _ _ _ _ _ _ _ _ _ lx [] px px _ HX.out List.length_nil hn (H1.out.gr (gri)) Row.nil HPX.out HPX.out hpn hpn (H3.out.gr (gri)) (H3.out.gr (gri))).mono ?_)); rintro _ _ ⟨rfl, g, rfl⟩))
      go_ret
      exact ⟨ret_bool (by simp [sameActB, q0, q1, sameB_refl, Bool.and_assoc]), gri⟩
    ·have z4 : decide ((xpn : Int) ≤ 100) = false := by simp; omega
     have q1 : picksB xpn px = false := by simp [picksB, z2]
     go_enter Tryz.func22, Tryz.ntmps22
     iterate 4
      try first | rw [rounds_succ] | (refine wp_loop_rounds 3 ?_; rw [rounds_succ])
      go_wp2_with (first | (go_at_call 52; ((with_reducible refine (actPartsB_any _ _).mono ?_); rintro _ _ ⟨rfl, g, rfl⟩)) | (go_at_call 60; ((with_reducible refine (HM.out _).mono ?_); rintro _ _ ⟨rfl, rfl⟩)) | ((first | (go_at_call 38; with_reducible refine (mayOp_any _ _ _ _ _ _ _ _ _ lx _ HX.out hn (H1.out.gr (gri))).mono ?_) | (go_at_call 61; with_reducible refine (HB.out _ (H3.out.gr (gri))).mono ?_) | (go_at_call 34; with_reducible refine (sameAct_any _ _ _ _ _ _ _ _ _ _ _ _ _ _ _ _ _ _ _ _ _ _ _ _ _ _ _ _ _ _ _ _ lx [] px px _ HX.out List.length_nil hn (H1.out.gr (gri)) Row.nil HPX.out HPX.out hpn hpn (H3.out.gr (gri)) (H3.out.gr (gri))).mono ?_)); rintro _ _ ⟨rfl, g, rfl⟩))
     go_ret
     exact ⟨ret_bool (by simp [sameActB, q0, q1, sameB_refl, Bool.and_assoc]), gri⟩
   ·have q0 : nodeB xn = false := by simp [nodeB, z0, z1]
    go_enter Tryz.func22, Tryz.ntmps22
    iterate 4
     try first | rw [rounds_succ] | (refine wp_loop_rounds 3 ?_; rw [rounds_succ])
     go_wp2_with (first | (go_at_call 52; ((with_reducible refine (actPartsB_any _ _).mono ?_); rintro _ _ ⟨rfl, g, rfl⟩)) | (go_at_call 60; ((with_reducible refine (HM.out _).mono ?_); rintro _ _ ⟨rfl, rfl⟩)) | ((first | (go_at_call 38; with_reducible refine (mayOp_any _ _ _ _ _ _ _ _ _ lx _ HX.out hn (H1.out.gr (gri))).mono ?_) | (go_at_call 61; with_reducible refine (HB.out _ (H3.out.gr (gri))).mono ?_) | (go_at_call 34; with_reducible refine (sameAct_any _ _ _ _ _ _ _ _ _ _ _ _ _ _ _ _ _ _ _ _ _ _ _ _ _ _ _ _ _ _ _ _ lx [] px px _ HX.out List.length_nil hn (H1.out.gr (gri)) Row.nil HPX.out HPX.out hpn hpn (H3.out.gr (gri)) (H3.out.gr (gri))).mono ?_)); rintro _ _ ⟨rfl, g, rfl⟩))
    go_ret
    exact ⟨ret_bool (by simp [sameActB, q0, sameB_refl, Bool.and_assoc]), gri⟩
set_option maxRecDepth 100000 in
set_option maxHeartbeats 8000000 in
theorem mayAct_5 (xn xm xOk xOv xOt xOs xOa xOc : Int) (xOD xP : Option Addr) (xOn xOq xpn xpq : Nat) (xf : Bool) (lx : List UInt8) (px : List Int) (w : World) (hx : lx.length = xOn) (hn : xOn ≤ 9223372036854775807) (h1 : Row bv w xOD lx) (hpx : px.length = xpn) (hpn : xpn ≤ 9223372036854775807) (h3 : Row (Value.int .i64) w xP px) : Calls Tryz.prog 22 #[(Value.agg #[.int .i64 5, .int .i64 xn, .int .i64 xm, .int .i64 xOk, .int .u64 xOv, .int .u64 xOt, .int .i64 xOs, .int .i64 xOa, .int .i64 xOc, .slice xOD xOn xOq, .bool xf, .slice xP xpn xpq])] w fun e w' => e = .returned (.bool (mayActB 5 xn xm xOk xOv xOt xOs xOa xOc xf xOn xpn lx px)) ∧ Gr w w' := by
 have H1 := Lib.hid h1; clear h1
 have H3 := Lib.hid h3; clear h3
 have HX := Lib.hid hx; clear hx
 have HPX := Lib.hid hpx; clear hpx
 have en : actPartsB 5 = ⟨#[100, 112]⟩ := rfl
 have E0 : mayActB 5 xn xm xOk xOv xOt xOs xOa xOc xf xOn xpn lx px = ((nodeB xn) && (picksB xpn px) && (xm == 0) && (sameB xOk xOv xOt xOs xOa xOc 0 0 0 0 0 0 lx []) && (xf == false)) := rfl
 rw [E0]; clear E0
 have HM := Lib.hid (fun W => (may26_any xm W).mono (R' := fun e w' => e = .returned (.bool (mayN xm)) ∧ W = w') fun _ _ h => h)
 have HB := Lib.hid (fun W (h : Row (Value.int .i64) W xP px) => (containsI_any xP xpn xpq px W HPX.out hpn h).mono (R' := fun e w' => e = .returned (.bool (badP px)) ∧ Gr W w') fun _ _ h => h)
 cases xf
 all_goals
  rcases Bool.eq_false_or_eq_true (xn == 0) with z0 | z0
  ·have q0 : nodeB xn = true := by simp [nodeB, z0]
   by_cases z2 : xpn ≤ 100
   ·rcases Bool.eq_false_or_eq_true (badP px) with z3 | z3
    ·have q1 : picksB xpn px = false := by simp [picksB, z3]
     go_enter Tryz.func22, Tryz.ntmps22
     iterate 4
      try first | rw [rounds_succ] | (refine wp_loop_rounds 3 ?_; rw [rounds_succ])
      go_wp2_with (first | (go_at_call 52; ((with_reducible refine (actPartsB_any _ _).mono ?_); rintro _ _ ⟨rfl, g, rfl⟩)) | (go_at_call 60; ((with_reducible refine (HM.out _).mono ?_); rintro _ _ ⟨rfl, rfl⟩)) | ((first | (go_at_call 38; with_reducible refine (mayOp_any _ _ _ _ _ _ _ _ _ lx _ HX.out hn (H1.out.gr (gri))).mono ?_) | (go_at_call 61; with_reducible refine (HB.out _ (H3.out.gr (gri))).mono ?_) | (go_at_call 34; with_reducible refine (sameAct_any _ _ _ _ _ _ _ _ _ _ _ _ _ _ _ _ _ _ _ _ _ _ _ _ _ _ _ _ _ _ _ _ lx [] px px _ HX.out List.length_nil hn (H1.out.gr (gri)) Row.nil HPX.out HPX.out hpn hpn (H3.out.gr (gri)) (H3.out.gr (gri))).mono ?_)); rintro _ _ ⟨rfl, g, rfl⟩))
     go_ret
     exact ⟨ret_bool (by simp [sameActB, q0, q1, sameB_refl, Bool.and_assoc]), gri⟩
    ·have q1 : picksB xpn px = true := by simp [picksB, z2, z3]
     go_enter Tryz.func22, Tryz.ntmps22
     iterate 4
      try first | rw [rounds_succ] | (refine wp_loop_rounds 3 ?_; rw [rounds_succ])
      go_wp2_with (first | (go_at_call 52; ((with_reducible refine (actPartsB_any _ _).mono ?_); rintro _ _ ⟨rfl, g, rfl⟩)) | (go_at_call 60; ((with_reducible refine (HM.out _).mono ?_); rintro _ _ ⟨rfl, rfl⟩)) | ((first | (go_at_call 38; with_reducible refine (mayOp_any _ _ _ _ _ _ _ _ _ lx _ HX.out hn (H1.out.gr (gri))).mono ?_) | (go_at_call 61; with_reducible refine (HB.out _ (H3.out.gr (gri))).mono ?_) | (go_at_call 34; with_reducible refine (sameAct_any _ _ _ _ _ _ _ _ _ _ _ _ _ _ _ _ _ _ _ _ _ _ _ _ _ _ _ _ _ _ _ _ lx [] px px _ HX.out List.length_nil hn (H1.out.gr (gri)) Row.nil HPX.out HPX.out hpn hpn (H3.out.gr (gri)) (H3.out.gr (gri))).mono ?_)); rintro _ _ ⟨rfl, g, rfl⟩))
     go_ret
     exact ⟨ret_bool (by simp [sameActB, q0, q1, sameB_refl, Bool.and_assoc]), gri⟩
   ·have z4 : decide ((xpn : Int) ≤ 100) = false := by simp; omega
    have q1 : picksB xpn px = false := by simp [picksB, z2]
    go_enter Tryz.func22, Tryz.ntmps22
    iterate 4
     try first | rw [rounds_succ] | (refine wp_loop_rounds 3 ?_; rw [rounds_succ])
     go_wp2_with (first | (go_at_call 52; ((with_reducible refine (actPartsB_any _ _).mono ?_); rintro _ _ ⟨rfl, g, rfl⟩)) | (go_at_call 60; ((with_reducible refine (HM.out _).mono ?_); rintro _ _ ⟨rfl, rfl⟩)) | ((first | (go_at_call 38; with_reducible refine (mayOp_any _ _ _ _ _ _ _ _ _ lx _ HX.out hn (H1.out.gr (gri))).mono ?_) | (go_at_call 61; with_reducible refine (HB.out _ (H3.out.gr (gri))).mono ?_) | (go_at_call 34; with_reducible refine (sameAct_any _ _ _ _ _ _ _ _ _ _ _ _ _ _ _ _ _ _ _ _ _ _ _ _ _ _ _ _ _ _ _ _ lx [] px px _ HX.out List.length_nil hn (H1.out.gr (gri)) Row.nil HPX.out HPX.out hpn hpn (H3.out.gr (gri)) (H3.out.gr (gri))).mono ?_)); rintro _ _ ⟨rfl, g, rfl⟩))
    go_ret
    exact ⟨ret_bool (by simp [sameActB, q0, q1, sameB_refl, Bool.and_assoc]), gri⟩
  ·rcases Bool.eq_false_or_eq_true (xn == 1) with z1 | z1
   ·have q0 : nodeB xn = true := by simp [nodeB, z0, z1]
    by_cases z2 : xpn ≤ 100
    ·rcases Bool.eq_false_or_eq_true (badP px) with z3 | z3
     ·have q1 : picksB xpn px = false := by simp [picksB, z3]
      go_enter Tryz.func22, Tryz.ntmps22
      iterate 4
       try first | rw [rounds_succ] | (refine wp_loop_rounds 3 ?_; rw [rounds_succ])
       go_wp2_with (first | (go_at_call 52; ((with_reducible refine (actPartsB_any _ _).mono ?_); rintro _ _ ⟨rfl, g, rfl⟩)) | (go_at_call 60; ((with_reducible refine (HM.out _).mono ?_); rintro _ _ ⟨rfl, rfl⟩)) | ((first | (go_at_call 38; with_reducible refine (mayOp_any _ _ _ _ _ _ _ _ _ lx _ HX.out hn (H1.out.gr (gri))).mono ?_) | (go_at_call 61; with_reducible refine (HB.out _ (H3.out.gr (gri))).mono ?_) | (go_at_call 34; with_reducible refine (sameAct_any _ _ _ _ _ _ _ _ _ _ _ _ _ _ _ _ _ _ _ _ _ _ _ _ _ _ _ _ _ _ _ _ lx [] px px _ HX.out List.length_nil hn (H1.out.gr (gri)) Row.nil HPX.out HPX.out hpn hpn (H3.out.gr (gri)) (H3.out.gr (gri))).mono ?_)); rintro _ _ ⟨rfl, g, rfl⟩))
      go_ret
      exact ⟨ret_bool (by simp [sameActB, q0, q1, sameB_refl, Bool.and_assoc]), gri⟩
     ·have q1 : picksB xpn px = true := by simp [picksB, z2, z3]
      go_enter Tryz.func22, Tryz.ntmps22
      iterate 4
       try first | rw [rounds_succ] | (refine wp_loop_rounds 3 ?_; rw [rounds_succ])
       go_wp2_with (first | (go_at_call 52; ((with_reducible refine (actPartsB_any _ _).mono ?_); rintro _ _ ⟨rfl, g, rfl⟩)) | (go_at_call 60; ((with_reducible refine (HM.out _).mono ?_); rintro _ _ ⟨rfl, rfl⟩)) | ((first | (go_at_call 38; with_reducible refine (mayOp_any _ _ _ _ _ _ _ _ _ lx _ HX.out hn (H1.out.gr (gri))).mono ?_) | (go_at_call 61; with_reducible refine (HB.out _ (H3.out.gr (gri))).mono ?_) | (go_at_call 34; with_reducible refine (sameAct_any _ _ _ _ _ _ _ _ _ _ _ _ _ _ _ _ _ _ _ _ _ _ _ _ _ _ _ _ _ _ _ _ lx [] px px _ HX.out List.length_nil hn (H1.out.gr (gri)) Row.nil HPX.out HPX.out hpn hpn (H3.out.gr (gri)) (H3.out.gr (gri))).mono ?_)); rintro _ _ ⟨rfl, g, rfl⟩))
      go_ret
      exact ⟨ret_bool (by simp [sameActB, q0, q1, sameB_refl, Bool.and_assoc]), gri⟩
    ·have z4 : decide ((xpn : Int) ≤ 100) = false := by simp; omega
     have q1 : picksB xpn px = false := by simp [picksB, z2]
     go_enter Tryz.func22, Tryz.ntmps22
     iterate 4
      try first | rw [rounds_succ] | (refine wp_loop_rounds 3 ?_; rw [rounds_succ])
      go_wp2_with (first | (go_at_call 52; ((with_reducible refine (actPartsB_any _ _).mono ?_); rintro _ _ ⟨rfl, g, rfl⟩)) | (go_at_call 60; ((with_reducible refine (HM.out _).mono ?_); rintro _ _ ⟨rfl, rfl⟩)) | ((first | (go_at_call 38; with_reducible refine (mayOp_any _ _ _ _ _ _ _ _ _ lx _ HX.out hn (H1.out.gr (gri))).mono ?_) | (go_at_call 61; with_reducible refine (HB.out _ (H3.out.gr (gri))).mono ?_) | (go_at_call 34; with_reducible refine (sameAct_any _ _ _ _ _ _ _ _ _ _ _ _ _ _ _ _ _ _ _ _ _ _ _ _ _ _ _ _ _ _ _ _ lx [] px px _ HX.out List.length_nil hn (H1.out.gr (gri)) Row.nil HPX.out HPX.out hpn hpn (H3.out.gr (gri)) (H3.out.gr (gri))).mono ?_)); rintro _ _ ⟨rfl, g, rfl⟩))
     go_ret
     exact ⟨ret_bool (by simp [sameActB, q0, q1, sameB_refl, Bool.and_assoc]), gri⟩
   ·have q0 : nodeB xn = false := by simp [nodeB, z0, z1]
    go_enter Tryz.func22, Tryz.ntmps22
    iterate 4
     try first | rw [rounds_succ] | (refine wp_loop_rounds 3 ?_; rw [rounds_succ])
     go_wp2_with (first | (go_at_call 52; ((with_reducible refine (actPartsB_any _ _).mono ?_); rintro _ _ ⟨rfl, g, rfl⟩)) | (go_at_call 60; ((with_reducible refine (HM.out _).mono ?_); rintro _ _ ⟨rfl, rfl⟩)) | ((first | (go_at_call 38; with_reducible refine (mayOp_any _ _ _ _ _ _ _ _ _ lx _ HX.out hn (H1.out.gr (gri))).mono ?_) | (go_at_call 61; with_reducible refine (HB.out _ (H3.out.gr (gri))).mono ?_) | (go_at_call 34; with_reducible refine (sameAct_any _ _ _ _ _ _ _ _ _ _ _ _ _ _ _ _ _ _ _ _ _ _ _ _ _ _ _ _ _ _ _ _ lx [] px px _ HX.out List.length_nil hn (H1.out.gr (gri)) Row.nil HPX.out HPX.out hpn hpn (H3.out.gr (gri)) (H3.out.gr (gri))).mono ?_)); rintro _ _ ⟨rfl, g, rfl⟩))
    go_ret
    exact ⟨ret_bool (by simp [sameActB, q0, sameB_refl, Bool.and_assoc]), gri⟩
set_option maxRecDepth 100000 in
set_option maxHeartbeats 8000000 in
theorem mayAct_6 (xn xm xOk xOv xOt xOs xOa xOc : Int) (xOD xP : Option Addr) (xOn xOq xpn xpq : Nat) (xf : Bool) (lx : List UInt8) (px : List Int) (w : World) (hx : lx.length = xOn) (hn : xOn ≤ 9223372036854775807) (h1 : Row bv w xOD lx) (hpx : px.length = xpn) (hpn : xpn ≤ 9223372036854775807) (h3 : Row (Value.int .i64) w xP px) : Calls Tryz.prog 22 #[(Value.agg #[.int .i64 6, .int .i64 xn, .int .i64 xm, .int .i64 xOk, .int .u64 xOv, .int .u64 xOt, .int .i64 xOs, .int .i64 xOa, .int .i64 xOc, .slice xOD xOn xOq, .bool xf, .slice xP xpn xpq])] w fun e w' => e = .returned (.bool (mayActB 6 xn xm xOk xOv xOt xOs xOa xOc xf xOn xpn lx px)) ∧ Gr w w' := by
 have H1 := Lib.hid h1; clear h1
 have H3 := Lib.hid h3; clear h3
 have HX := Lib.hid hx; clear hx
 have HPX := Lib.hid hpx; clear hpx
 have en : actPartsB 6 = ⟨#[100, 110]⟩ := rfl
 have E0 : mayActB 6 xn xm xOk xOv xOt xOs xOa xOc xf xOn xpn lx px = ((nodeB xn) && (mayN xm) && (sameB xOk xOv xOt xOs xOa xOc 0 0 0 0 0 0 lx []) && (xf == false) && (px == [])) := rfl
 rw [E0]; clear E0
 have HM := Lib.hid (fun W => (may26_any xm W).mono (R' := fun e w' => e = .returned (.bool (mayN xm)) ∧ W = w') fun _ _ h => h)
 have HB := Lib.hid (fun W (h : Row (Value.int .i64) W xP px) => (containsI_any xP xpn xpq px W HPX.out hpn h).mono (R' := fun e w' => e = .returned (.bool (badP px)) ∧ Gr W w') fun _ _ h => h)
 cases xf
 all_goals
  rcases Bool.eq_false_or_eq_true (xn == 0) with z0 | z0
  ·have q0 : nodeB xn = true := by simp [nodeB, z0]
   rcases Bool.eq_false_or_eq_true (mayN xm) with q1 | q1
   ·go_enter Tryz.func22, Tryz.ntmps22
    iterate 4
     try first | rw [rounds_succ] | (refine wp_loop_rounds 3 ?_; rw [rounds_succ])
     go_wp2_with (first | (go_at_call 52; ((with_reducible refine (actPartsB_any _ _).mono ?_); rintro _ _ ⟨rfl, g, rfl⟩)) | (go_at_call 60; ((with_reducible refine (HM.out _).mono ?_); rintro _ _ ⟨rfl, rfl⟩)) | ((first | (go_at_call 38; with_reducible refine (mayOp_any _ _ _ _ _ _ _ _ _ lx _ HX.out hn (H1.out.gr (gri))).mono ?_) | (go_at_call 61; with_reducible refine (HB.out _ (H3.out.gr (gri))).mono ?_) | (go_at_call 34; with_reducible refine (sameAct_any _ _ _ _ _ _ _ _ _ _ _ _ _ _ _ _ _ _ _ _ _ _ _ _ _ _ _ _ _ _ _ _ lx [] px [] _ HX.out List.length_nil hn (H1.out.gr (gri)) Row.nil HPX.out List.length_nil hpn (by omega) (H3.out.gr (gri)) Row.nil).mono ?_)); rintro _ _ ⟨rfl, g, rfl⟩))
    go_ret
    exact ⟨ret_bool (by simp [sameActB, q0, q1, sameB_refl, Bool.and_assoc]), gri⟩
   ·go_enter Tryz.func22, Tryz.ntmps22
    iterate 4
     try first | rw [rounds_succ] | (refine wp_loop_rounds 3 ?_; rw [rounds_succ])
     go_wp2_with (first | (go_at_call 52; ((with_reducible refine (actPartsB_any _ _).mono ?_); rintro _ _ ⟨rfl, g, rfl⟩)) | (go_at_call 60; ((with_reducible refine (HM.out _).mono ?_); rintro _ _ ⟨rfl, rfl⟩)) | ((first | (go_at_call 38; with_reducible refine (mayOp_any _ _ _ _ _ _ _ _ _ lx _ HX.out hn (H1.out.gr (gri))).mono ?_) | (go_at_call 61; with_reducible refine (HB.out _ (H3.out.gr (gri))).mono ?_) | (go_at_call 34; with_reducible refine (sameAct_any _ _ _ _ _ _ _ _ _ _ _ _ _ _ _ _ _ _ _ _ _ _ _ _ _ _ _ _ _ _ _ _ lx [] px [] _ HX.out List.length_nil hn (H1.out.gr (gri)) Row.nil HPX.out List.length_nil hpn (by omega) (H3.out.gr (gri)) Row.nil).mono ?_)); rintro _ _ ⟨rfl, g, rfl⟩))
    go_ret
    exact ⟨ret_bool (by simp [sameActB, q0, q1, sameB_refl, Bool.and_assoc]), gri⟩
  ·rcases Bool.eq_false_or_eq_true (xn == 1) with z1 | z1
   ·have q0 : nodeB xn = true := by simp [nodeB, z0, z1]
    rcases Bool.eq_false_or_eq_true (mayN xm) with q1 | q1
    ·go_enter Tryz.func22, Tryz.ntmps22
     iterate 4
      try first | rw [rounds_succ] | (refine wp_loop_rounds 3 ?_; rw [rounds_succ])
      go_wp2_with (first | (go_at_call 52; ((with_reducible refine (actPartsB_any _ _).mono ?_); rintro _ _ ⟨rfl, g, rfl⟩)) | (go_at_call 60; ((with_reducible refine (HM.out _).mono ?_); rintro _ _ ⟨rfl, rfl⟩)) | ((first | (go_at_call 38; with_reducible refine (mayOp_any _ _ _ _ _ _ _ _ _ lx _ HX.out hn (H1.out.gr (gri))).mono ?_) | (go_at_call 61; with_reducible refine (HB.out _ (H3.out.gr (gri))).mono ?_) | (go_at_call 34; with_reducible refine (sameAct_any _ _ _ _ _ _ _ _ _ _ _ _ _ _ _ _ _ _ _ _ _ _ _ _ _ _ _ _ _ _ _ _ lx [] px [] _ HX.out List.length_nil hn (H1.out.gr (gri)) Row.nil HPX.out List.length_nil hpn (by omega) (H3.out.gr (gri)) Row.nil).mono ?_)); rintro _ _ ⟨rfl, g, rfl⟩))
     go_ret
     exact ⟨ret_bool (by simp [sameActB, q0, q1, sameB_refl, Bool.and_assoc]), gri⟩
    ·go_enter Tryz.func22, Tryz.ntmps22
     iterate 4
      try first | rw [rounds_succ] | (refine wp_loop_rounds 3 ?_; rw [rounds_succ])
      go_wp2_with (first | (go_at_call 52; ((with_reducible refine (actPartsB_any _ _).mono ?_); rintro _ _ ⟨rfl, g, rfl⟩)) | (go_at_call 60; ((with_reducible refine (HM.out _).mono ?_); rintro _ _ ⟨rfl, rfl⟩)) | ((first | (go_at_call 38; with_reducible refine (mayOp_any _ _ _ _ _ _ _ _ _ lx _ HX.out hn (H1.out.gr (gri))).mono ?_) | (go_at_call 61; with_reducible refine (HB.out _ (H3.out.gr (gri))).mono ?_) | (go_at_call 34; with_reducible refine (sameAct_any _ _ _ _ _ _ _ _ _ _ _ _ _ _ _ _ _ _ _ _ _ _ _ _ _ _ _ _ _ _ _ _ lx [] px [] _ HX.out List.length_nil hn (H1.out.gr (gri)) Row.nil HPX.out List.length_nil hpn (by omega) (H3.out.gr (gri)) Row.nil).mono ?_)); rintro _ _ ⟨rfl, g, rfl⟩))
     go_ret
     exact ⟨ret_bool (by simp [sameActB, q0, q1, sameB_refl, Bool.and_assoc]), gri⟩
   ·have q0 : nodeB xn = false := by simp [nodeB, z0, z1]
    go_enter Tryz.func22, Tryz.ntmps22
    iterate 4
     try first | rw [rounds_succ] | (refine wp_loop_rounds 3 ?_; rw [rounds_succ])
     go_wp2_with (first | (go_at_call 52; ((with_reducible refine (actPartsB_any _ _).mono ?_); rintro _ _ ⟨rfl, g, rfl⟩)) | (go_at_call 60; ((with_reducible refine (HM.out _).mono ?_); rintro _ _ ⟨rfl, rfl⟩)) | ((first | (go_at_call 38; with_reducible refine (mayOp_any _ _ _ _ _ _ _ _ _ lx _ HX.out hn (H1.out.gr (gri))).mono ?_) | (go_at_call 61; with_reducible refine (HB.out _ (H3.out.gr (gri))).mono ?_) | (go_at_call 34; with_reducible refine (sameAct_any _ _ _ _ _ _ _ _ _ _ _ _ _ _ _ _ _ _ _ _ _ _ _ _ _ _ _ _ _ _ _ _ lx [] px [] _ HX.out List.length_nil hn (H1.out.gr (gri)) Row.nil HPX.out List.length_nil hpn (by omega) (H3.out.gr (gri)) Row.nil).mono ?_)); rintro _ _ ⟨rfl, g, rfl⟩))
    go_ret
    exact ⟨ret_bool (by simp [sameActB, q0, sameB_refl, Bool.and_assoc]), gri⟩
set_option maxRecDepth 100000 in
set_option maxHeartbeats 8000000 in
theorem mayAct_7 (xn xm xOk xOv xOt xOs xOa xOc : Int) (xOD xP : Option Addr) (xOn xOq xpn xpq : Nat) (xf : Bool) (lx : List UInt8) (px : List Int) (w : World) (hx : lx.length = xOn) (hn : xOn ≤ 9223372036854775807) (h1 : Row bv w xOD lx) (hpx : px.length = xpn) (hpn : xpn ≤ 9223372036854775807) (h3 : Row (Value.int .i64) w xP px) : Calls Tryz.prog 22 #[(Value.agg #[.int .i64 7, .int .i64 xn, .int .i64 xm, .int .i64 xOk, .int .u64 xOv, .int .u64 xOt, .int .i64 xOs, .int .i64 xOa, .int .i64 xOc, .slice xOD xOn xOq, .bool xf, .slice xP xpn xpq])] w fun e w' => e = .returned (.bool (mayActB 7 xn xm xOk xOv xOt xOs xOa xOc xf xOn xpn lx px)) ∧ Gr w w' := by
 have H1 := Lib.hid h1; clear h1
 have H3 := Lib.hid h3; clear h3
 have HX := Lib.hid hx; clear hx
 have HPX := Lib.hid hpx; clear hpx
 have en : actPartsB 7 = ⟨#[100]⟩ := rfl
 have E0 : mayActB 7 xn xm xOk xOv xOt xOs xOa xOc xf xOn xpn lx px = ((nodeB xn) && (xm == 0) && (sameB xOk xOv xOt xOs xOa xOc 0 0 0 0 0 0 lx []) && (px == [])) := rfl
 rw [E0]; clear E0
 have HM := Lib.hid (fun W => (may26_any xm W).mono (R' := fun e w' => e = .returned (.bool (mayN xm)) ∧ W = w') fun _ _ h => h)
 have HB := Lib.hid (fun W (h : Row (Value.int .i64) W xP px) => (containsI_any xP xpn xpq px W HPX.out hpn h).mono (R' := fun e w' => e = .returned (.bool (badP px)) ∧ Gr W w') fun _ _ h => h)
 cases xf
 all_goals
  rcases Bool.eq_false_or_eq_true (xn == 0) with z0 | z0
  ·have q0 : nodeB xn = true := by simp [nodeB, z0]
   go_enter Tryz.func22, Tryz.ntmps22
   iterate 3
    try first | rw [rounds_succ] | (refine wp_loop_rounds 2 ?_; rw [rounds_succ])
    go_wp2_with (first | (go_at_call 52; ((with_reducible refine (actPartsB_any _ _).mono ?_); rintro _ _ ⟨rfl, g, rfl⟩)) | (go_at_call 60; ((with_reducible refine (HM.out _).mono ?_); rintro _ _ ⟨rfl, rfl⟩)) | ((first | (go_at_call 38; with_reducible refine (mayOp_any _ _ _ _ _ _ _ _ _ lx _ HX.out hn (H1.out.gr (gri))).mono ?_) | (go_at_call 61; with_reducible refine (HB.out _ (H3.out.gr (gri))).mono ?_) | (go_at_call 34; with_reducible refine (sameAct_any _ _ _ _ _ _ _ _ _ _ _ _ _ _ _ _ _ _ _ _ _ _ _ _ _ _ _ _ _ _ _ _ lx [] px [] _ HX.out List.length_nil hn (H1.out.gr (gri)) Row.nil HPX.out List.length_nil hpn (by omega) (H3.out.gr (gri)) Row.nil).mono ?_)); rintro _ _ ⟨rfl, g, rfl⟩))
   go_ret
   exact ⟨ret_bool (by simp [sameActB, q0, sameB_refl, Bool.and_assoc]), gri⟩
  ·rcases Bool.eq_false_or_eq_true (xn == 1) with z1 | z1
   ·have q0 : nodeB xn = true := by simp [nodeB, z0, z1]
    go_enter Tryz.func22, Tryz.ntmps22
    iterate 3
     try first | rw [rounds_succ] | (refine wp_loop_rounds 2 ?_; rw [rounds_succ])
     go_wp2_with (first | (go_at_call 52; ((with_reducible refine (actPartsB_any _ _).mono ?_); rintro _ _ ⟨rfl, g, rfl⟩)) | (go_at_call 60; ((with_reducible refine (HM.out _).mono ?_); rintro _ _ ⟨rfl, rfl⟩)) | ((first | (go_at_call 38; with_reducible refine (mayOp_any _ _ _ _ _ _ _ _ _ lx _ HX.out hn (H1.out.gr (gri))).mono ?_) | (go_at_call 61; with_reducible refine (HB.out _ (H3.out.gr (gri))).mono ?_) | (go_at_call 34; with_reducible refine (sameAct_any _ _ _ _ _ _ _ _ _ _ _ _ _ _ _ _ _ _ _ _ _ _ _ _ _ _ _ _ _ _ _ _ lx [] px [] _ HX.out List.length_nil hn (H1.out.gr (gri)) Row.nil HPX.out List.length_nil hpn (by omega) (H3.out.gr (gri)) Row.nil).mono ?_)); rintro _ _ ⟨rfl, g, rfl⟩))
    go_ret
    exact ⟨ret_bool (by simp [sameActB, q0, sameB_refl, Bool.and_assoc]), gri⟩
   ·have q0 : nodeB xn = false := by simp [nodeB, z0, z1]
    go_enter Tryz.func22, Tryz.ntmps22
    iterate 3
     try first | rw [rounds_succ] | (refine wp_loop_rounds 2 ?_; rw [rounds_succ])
     go_wp2_with (first | (go_at_call 52; ((with_reducible refine (actPartsB_any _ _).mono ?_); rintro _ _ ⟨rfl, g, rfl⟩)) | (go_at_call 60; ((with_reducible refine (HM.out _).mono ?_); rintro _ _ ⟨rfl, rfl⟩)) | ((first | (go_at_call 38; with_reducible refine (mayOp_any _ _ _ _ _ _ _ _ _ lx _ HX.out hn (H1.out.gr (gri))).mono ?_) | (go_at_call 61; with_reducible refine (HB.out _ (H3.out.gr (gri))).mono ?_) | (go_at_call 34; with_reducible refine (sameAct_any _ _ _ _ _ _ _ _ _ _ _ _ _ _ _ _ _ _ _ _ _ _ _ _ _ _ _ _ _ _ _ _ lx [] px [] _ HX.out List.length_nil hn (H1.out.gr (gri)) Row.nil HPX.out List.length_nil hpn (by omega) (H3.out.gr (gri)) Row.nil).mono ?_)); rintro _ _ ⟨rfl, g, rfl⟩))
    go_ret
    exact ⟨ret_bool (by simp [sameActB, q0, sameB_refl, Bool.and_assoc]), gri⟩
set_option maxRecDepth 100000 in
set_option maxHeartbeats 8000000 in
theorem mayAct_8 (xn xm xOk xOv xOt xOs xOa xOc : Int) (xOD xP : Option Addr) (xOn xOq xpn xpq : Nat) (xf : Bool) (lx : List UInt8) (px : List Int) (w : World) (hx : lx.length = xOn) (hn : xOn ≤ 9223372036854775807) (h1 : Row bv w xOD lx) (hpx : px.length = xpn) (hpn : xpn ≤ 9223372036854775807) (h3 : Row (Value.int .i64) w xP px) : Calls Tryz.prog 22 #[(Value.agg #[.int .i64 8, .int .i64 xn, .int .i64 xm, .int .i64 xOk, .int .u64 xOv, .int .u64 xOt, .int .i64 xOs, .int .i64 xOa, .int .i64 xOc, .slice xOD xOn xOq, .bool xf, .slice xP xpn xpq])] w fun e w' => e = .returned (.bool (mayActB 8 xn xm xOk xOv xOt xOs xOa xOc xf xOn xpn lx px)) ∧ Gr w w' := by
 have H1 := Lib.hid h1; clear h1
 have H3 := Lib.hid h3; clear h3
 have HX := Lib.hid hx; clear hx
 have HPX := Lib.hid hpx; clear hpx
 have en : actPartsB 8 = ⟨#[100]⟩ := rfl
 have E0 : mayActB 8 xn xm xOk xOv xOt xOs xOa xOc xf xOn xpn lx px = ((nodeB xn) && (xm == 0) && (sameB xOk xOv xOt xOs xOa xOc 0 0 0 0 0 0 lx []) && (xf == false) && (px == [])) := rfl
 rw [E0]; clear E0
 have HM := Lib.hid (fun W => (may26_any xm W).mono (R' := fun e w' => e = .returned (.bool (mayN xm)) ∧ W = w') fun _ _ h => h)
 have HB := Lib.hid (fun W (h : Row (Value.int .i64) W xP px) => (containsI_any xP xpn xpq px W HPX.out hpn h).mono (R' := fun e w' => e = .returned (.bool (badP px)) ∧ Gr W w') fun _ _ h => h)
 cases xf
 all_goals
  rcases Bool.eq_false_or_eq_true (xn == 0) with z0 | z0
  ·have q0 : nodeB xn = true := by simp [nodeB, z0]
   go_enter Tryz.func22, Tryz.ntmps22
   iterate 3
    try first | rw [rounds_succ] | (refine wp_loop_rounds 2 ?_; rw [rounds_succ])
    go_wp2_with (first | (go_at_call 52; ((with_reducible refine (actPartsB_any _ _).mono ?_); rintro _ _ ⟨rfl, g, rfl⟩)) | (go_at_call 60; ((with_reducible refine (HM.out _).mono ?_); rintro _ _ ⟨rfl, rfl⟩)) | ((first | (go_at_call 38; with_reducible refine (mayOp_any _ _ _ _ _ _ _ _ _ lx _ HX.out hn (H1.out.gr (gri))).mono ?_) | (go_at_call 61; with_reducible refine (HB.out _ (H3.out.gr (gri))).mono ?_) | (go_at_call 34; with_reducible refine (sameAct_any _ _ _ _ _ _ _ _ _ _ _ _ _ _ _ _ _ _ _ _ _ _ _ _ _ _ _ _ _ _ _ _ lx [] px [] _ HX.out List.length_nil hn (H1.out.gr (gri)) Row.nil HPX.out List.length_nil hpn (by omega) (H3.out.gr (gri)) Row.nil).mono ?_)); rintro _ _ ⟨rfl, g, rfl⟩))
   go_ret
   exact ⟨ret_bool (by simp [sameActB, q0, sameB_refl, Bool.and_assoc]), gri⟩
  ·rcases Bool.eq_false_or_eq_true (xn == 1) with z1 | z1
   ·have q0 : nodeB xn = true := by simp [nodeB, z0, z1]
    go_enter Tryz.func22, Tryz.ntmps22
    iterate 3
     try first | rw [rounds_succ] | (refine wp_loop_rounds 2 ?_; rw [rounds_succ])
     go_wp2_with (first | (go_at_call 52; ((with_reducible refine (actPartsB_any _ _).mono ?_); rintro _ _ ⟨rfl, g, rfl⟩)) | (go_at_call 60; ((with_reducible refine (HM.out _).mono ?_); rintro _ _ ⟨rfl, rfl⟩)) | ((first | (go_at_call 38; with_reducible refine (mayOp_any _ _ _ _ _ _ _ _ _ lx _ HX.out hn (H1.out.gr (gri))).mono ?_) | (go_at_call 61; with_reducible refine (HB.out _ (H3.out.gr (gri))).mono ?_) | (go_at_call 34; with_reducible refine (sameAct_any _ _ _ _ _ _ _ _ _ _ _ _ _ _ _ _ _ _ _ _ _ _ _ _ _ _ _ _ _ _ _ _ lx [] px [] _ HX.out List.length_nil hn (H1.out.gr (gri)) Row.nil HPX.out List.length_nil hpn (by omega) (H3.out.gr (gri)) Row.nil).mono ?_)); rintro _ _ ⟨rfl, g, rfl⟩))
    go_ret
    exact ⟨ret_bool (by simp [sameActB, q0, sameB_refl, Bool.and_assoc]), gri⟩
   ·have q0 : nodeB xn = false := by simp [nodeB, z0, z1]
    go_enter Tryz.func22, Tryz.ntmps22
    iterate 3
     try first | rw [rounds_succ] | (refine wp_loop_rounds 2 ?_; rw [rounds_succ])
     go_wp2_with (first | (go_at_call 52; ((with_reducible refine (actPartsB_any _ _).mono ?_); rintro _ _ ⟨rfl, g, rfl⟩)) | (go_at_call 60; ((with_reducible refine (HM.out _).mono ?_); rintro _ _ ⟨rfl, rfl⟩)) | ((first | (go_at_call 38; with_reducible refine (mayOp_any _ _ _ _ _ _ _ _ _ lx _ HX.out hn (H1.out.gr (gri))).mono ?_) | (go_at_call 61; with_reducible refine (HB.out _ (H3.out.gr (gri))).mono ?_) | (go_at_call 34; with_reducible refine (sameAct_any _ _ _ _ _ _ _ _ _ _ _ _ _ _ _ _ _ _ _ _ _ _ _ _ _ _ _ _ _ _ _ _ lx [] px [] _ HX.out List.length_nil hn (H1.out.gr (gri)) Row.nil HPX.out List.length_nil hpn (by omega) (H3.out.gr (gri)) Row.nil).mono ?_)); rintro _ _ ⟨rfl, g, rfl⟩))
    go_ret
    exact ⟨ret_bool (by simp [sameActB, q0, sameB_refl, Bool.and_assoc]), gri⟩
set_option maxRecDepth 100000 in
set_option maxHeartbeats 8000000 in
theorem mayAct_9 (xn xm xOk xOv xOt xOs xOa xOc : Int) (xOD xP : Option Addr) (xOn xOq xpn xpq : Nat) (xf : Bool) (lx : List UInt8) (px : List Int) (w : World) (hx : lx.length = xOn) (hn : xOn ≤ 9223372036854775807) (h1 : Row bv w xOD lx) (hpx : px.length = xpn) (hpn : xpn ≤ 9223372036854775807) (h3 : Row (Value.int .i64) w xP px) : Calls Tryz.prog 22 #[(Value.agg #[.int .i64 9, .int .i64 xn, .int .i64 xm, .int .i64 xOk, .int .u64 xOv, .int .u64 xOt, .int .i64 xOs, .int .i64 xOa, .int .i64 xOc, .slice xOD xOn xOq, .bool xf, .slice xP xpn xpq])] w fun e w' => e = .returned (.bool (mayActB 9 xn xm xOk xOv xOt xOs xOa xOc xf xOn xpn lx px)) ∧ Gr w w' := by
 have H1 := Lib.hid h1; clear h1
 have H3 := Lib.hid h3; clear h3
 have HX := Lib.hid hx; clear hx
 have HPX := Lib.hid hpx; clear hpx
 have en : actPartsB 9 = ⟨#[100, 110]⟩ := rfl
 have E0 : mayActB 9 xn xm xOk xOv xOt xOs xOa xOc xf xOn xpn lx px = ((nodeB xn) && (mayN xm) && (sameB xOk xOv xOt xOs xOa xOc 0 0 0 0 0 0 lx []) && (xf == false) && (px == [])) := rfl
 rw [E0]; clear E0
 have HM := Lib.hid (fun W => (may26_any xm W).mono (R' := fun e w' => e = .returned (.bool (mayN xm)) ∧ W = w') fun _ _ h => h)
 have HB := Lib.hid (fun W (h : Row (Value.int .i64) W xP px) => (containsI_any xP xpn xpq px W HPX.out hpn h).mono (R' := fun e w' => e = .returned (.bool (badP px)) ∧ Gr W w') fun _ _ h => h)
 cases xf
 all_goals
  rcases Bool.eq_false_or_eq_true (xn == 0) with z0 | z0
  ·have q0 : nodeB xn = true := by simp [nodeB, z0]
   rcases Bool.eq_false_or_eq_true (mayN xm) with q1 | q1
   ·go_enter Tryz.func22, Tryz.ntmps22
    iterate 4
     try first | rw [rounds_succ] | (refine wp_loop_rounds 3 ?_; rw [rounds_succ])
     go_wp2_with (first | (go_at_call 52; ((with_reducible refine (actPartsB_any _ _).mono ?_); rintro _ _ ⟨rfl, g, rfl⟩)) | (go_at_call 60; ((with_reducible refine (HM.out _).mono ?_); rintro _ _ ⟨rfl, rfl⟩)) | ((first | (go_at_call 38; with_reducible refine (mayOp_any _ _ _ _ _ _ _ _ _ lx _ HX.out hn (H1.out.gr (gri))).mono ?_) | (go_at_call 61; with_reducible refine (HB.out _ (H3.out.gr (gri))).mono ?_) | (go_at_call 34; with_reducible refine (sameAct_any _ _ _ _ _ _ _ _ _ _ _ _ _ _ _ _ _ _ _ _ _ _ _ _ _ _ _ _ _ _ _ _ lx [] px [] _ HX.out List.length_nil hn (H1.out.gr (gri)) Row.nil HPX.out List.length_nil hpn (by omega) (H3.out.gr (gri)) Row.nil).mono ?_)); rintro _ _ ⟨rfl, g, rfl⟩))
    go_ret
    exact ⟨ret_bool (by simp [sameActB, q0, q1, sameB_refl, Bool.and_assoc]), gri⟩
   ·go_enter Tryz.func22, Tryz.ntmps22
    iterate 4
     try first | rw [rounds_succ] | (refine wp_loop_rounds 3 ?_; rw [rounds_succ])
     go_wp2_with (first | (go_at_call 52; ((with_reducible refine (actPartsB_any _ _).mono ?_); rintro _ _ ⟨rfl, g, rfl⟩)) | (go_at_call 60; ((with_reducible refine (HM.out _).mono ?_); rintro _ _ ⟨rfl, rfl⟩)) | ((first | (go_at_call 38; with_reducible refine (mayOp_any _ _ _ _ _ _ _ _ _ lx _ HX.out hn (H1.out.gr (gri))).mono ?_) | (go_at_call 61; with_reducible refine (HB.out _ (H3.out.gr (gri))).mono ?_) | (go_at_call 34; with_reducible refine (sameAct_any _ _ _ _ _ _ _ _ _ _ _ _ _ _ _ _ _ _ _ _ _ _ _ _ _ _ _ _ _ _ _ _ lx [] px [] _ HX.out List.length_nil hn (H1.out.gr (gri)) Row.nil HPX.out List.length_nil hpn (by omega) (H3.out.gr (gri)) Row.nil).mono ?_)); rintro _ _ ⟨rfl, g, rfl⟩))
    go_ret
    exact ⟨ret_bool (by simp [sameActB, q0, q1, sameB_refl, Bool.and_assoc]), gri⟩
  ·rcases Bool.eq_false_or_eq_true (xn == 1) with z1 | z1
   ·have q0 : nodeB xn = true := by simp [nodeB, z0, z1]
    rcases Bool.eq_false_or_eq_true (mayN xm) with q1 | q1
    ·go_enter Tryz.func22, Tryz.ntmps22
     iterate 4
      try first | rw [rounds_succ] | (refine wp_loop_rounds 3 ?_; rw [rounds_succ])
      go_wp2_with (first | (go_at_call 52; ((with_reducible refine (actPartsB_any _ _).mono ?_); rintro _ _ ⟨rfl, g, rfl⟩)) | (go_at_call 60; ((with_reducible refine (HM.out _).mono ?_); rintro _ _ ⟨rfl, rfl⟩)) | ((first | (go_at_call 38; with_reducible refine (mayOp_any _ _ _ _ _ _ _ _ _ lx _ HX.out hn (H1.out.gr (gri))).mono ?_) | (go_at_call 61; with_reducible refine (HB.out _ (H3.out.gr (gri))).mono ?_) | (go_at_call 34; with_reducible refine (sameAct_any _ _ _ _ _ _ _ _ _ _ _ _ _ _ _ _ _ _ _ _ _ _ _ _ _ _ _ _ _ _ _ _ lx [] px [] _ HX.out List.length_nil hn (H1.out.gr (gri)) Row.nil HPX.out List.length_nil hpn (by omega) (H3.out.gr (gri)) Row.nil).mono ?_)); rintro _ _ ⟨rfl, g, rfl⟩))
     go_ret
     exact ⟨ret_bool (by simp [sameActB, q0, q1, sameB_refl, Bool.and_assoc]), gri⟩
    ·go_enter Tryz.func22, Tryz.ntmps22
     iterate 4
      try first | rw [rounds_succ] | (refine wp_loop_rounds 3 ?_; rw [rounds_succ])
      go_wp2_with (first | (go_at_call 52; ((with_reducible refine (actPartsB_any _ _).mono ?_); rintro _ _ ⟨rfl, g, rfl⟩)) | (go_at_call 60; ((with_reducible refine (HM.out _).mono ?_); rintro _ _ ⟨rfl, rfl⟩)) | ((first | (go_at_call 38; with_reducible refine (mayOp_any _ _ _ _ _ _ _ _ _ lx _ HX.out hn (H1.out.gr (gri))).mono ?_) | (go_at_call 61; with_reducible refine (HB.out _ (H3.out.gr (gri))).mono ?_) | (go_at_call 34; with_reducible refine (sameAct_any _ _ _ _ _ _ _ _ _ _ _ _ _ _ _ _ _ _ _ _ _ _ _ _ _ _ _ _ _ _ _ _ lx [] px [] _ HX.out List.length_nil hn (H1.out.gr (gri)) Row.nil HPX.out List.length_nil hpn (by omega) (H3.out.gr (gri)) Row.nil).mono ?_)); rintro _ _ ⟨rfl, g, rfl⟩))
     go_ret
     exact ⟨ret_bool (by simp [sameActB, q0, q1, sameB_refl, Bool.and_assoc]), gri⟩
   ·have q0 : nodeB xn = false := by simp [nodeB, z0, z1]
    go_enter Tryz.func22, Tryz.ntmps22
    iterate 4
     try first | rw [rounds_succ] | (refine wp_loop_rounds 3 ?_; rw [rounds_succ])
     go_wp2_with (first | (go_at_call 52; ((with_reducible refine (actPartsB_any _ _).mono ?_); rintro _ _ ⟨rfl, g, rfl⟩)) | (go_at_call 60; ((with_reducible refine (HM.out _).mono ?_); rintro _ _ ⟨rfl, rfl⟩)) | ((first | (go_at_call 38; with_reducible refine (mayOp_any _ _ _ _ _ _ _ _ _ lx _ HX.out hn (H1.out.gr (gri))).mono ?_) | (go_at_call 61; with_reducible refine (HB.out _ (H3.out.gr (gri))).mono ?_) | (go_at_call 34; with_reducible refine (sameAct_any _ _ _ _ _ _ _ _ _ _ _ _ _ _ _ _ _ _ _ _ _ _ _ _ _ _ _ _ _ _ _ _ lx [] px [] _ HX.out List.length_nil hn (H1.out.gr (gri)) Row.nil HPX.out List.length_nil hpn (by omega) (H3.out.gr (gri)) Row.nil).mono ?_)); rintro _ _ ⟨rfl, g, rfl⟩))
    go_ret
    exact ⟨ret_bool (by simp [sameActB, q0, sameB_refl, Bool.and_assoc]), gri⟩
set_option maxRecDepth 100000 in
set_option maxHeartbeats 8000000 in
theorem mayAct_10 (xn xm xOk xOv xOt xOs xOa xOc : Int) (xOD xP : Option Addr) (xOn xOq xpn xpq : Nat) (xf : Bool) (lx : List UInt8) (px : List Int) (w : World) (hx : lx.length = xOn) (hn : xOn ≤ 9223372036854775807) (h1 : Row bv w xOD lx) (hpx : px.length = xpn) (hpn : xpn ≤ 9223372036854775807) (h3 : Row (Value.int .i64) w xP px) : Calls Tryz.prog 22 #[(Value.agg #[.int .i64 10, .int .i64 xn, .int .i64 xm, .int .i64 xOk, .int .u64 xOv, .int .u64 xOt, .int .i64 xOs, .int .i64 xOa, .int .i64 xOc, .slice xOD xOn xOq, .bool xf, .slice xP xpn xpq])] w fun e w' => e = .returned (.bool (mayActB 10 xn xm xOk xOv xOt xOs xOa xOc xf xOn xpn lx px)) ∧ Gr w w' := by
 have H1 := Lib.hid h1; clear h1
 have H3 := Lib.hid h3; clear h3
 have HX := Lib.hid hx; clear hx
 have HPX := Lib.hid hpx; clear hpx
 have en : actPartsB 10 = ⟨#[]⟩ := rfl
 have E0 : mayActB 10 xn xm xOk xOv xOt xOs xOa xOc xf xOn xpn lx px = ((xn == 0) && (xm == 0) && (sameB xOk xOv xOt xOs xOa xOc 0 0 0 0 0 0 lx []) && (xf == false) && (px == [])) := rfl
 rw [E0]; clear E0
 have HM := Lib.hid (fun W => (may26_any xm W).mono (R' := fun e w' => e = .returned (.bool (mayN xm)) ∧ W = w') fun _ _ h => h)
 have HB := Lib.hid (fun W (h : Row (Value.int .i64) W xP px) => (containsI_any xP xpn xpq px W HPX.out hpn h).mono (R' := fun e w' => e = .returned (.bool (badP px)) ∧ Gr W w') fun _ _ h => h)
 cases xf
 all_goals
  go_enter Tryz.func22, Tryz.ntmps22
  iterate 2
   try first | rw [rounds_succ] | (refine wp_loop_rounds 1 ?_; rw [rounds_succ])
   go_wp2_with (first | (go_at_call 52; ((with_reducible refine (actPartsB_any _ _).mono ?_); rintro _ _ ⟨rfl, g, rfl⟩)) | (go_at_call 60; ((with_reducible refine (HM.out _).mono ?_); rintro _ _ ⟨rfl, rfl⟩)) | ((first | (go_at_call 38; with_reducible refine (mayOp_any _ _ _ _ _ _ _ _ _ lx _ HX.out hn (H1.out.gr (gri))).mono ?_) | (go_at_call 61; with_reducible refine (HB.out _ (H3.out.gr (gri))).mono ?_) | (go_at_call 34; with_reducible refine (sameAct_any _ _ _ _ _ _ _ _ _ _ _ _ _ _ _ _ _ _ _ _ _ _ _ _ _ _ _ _ _ _ _ _ lx [] px [] _ HX.out List.length_nil hn (H1.out.gr (gri)) Row.nil HPX.out List.length_nil hpn (by omega) (H3.out.gr (gri)) Row.nil).mono ?_)); rintro _ _ ⟨rfl, g, rfl⟩))
  go_ret
  exact ⟨ret_bool (by simp [sameActB, sameB_refl, Bool.and_assoc]), gri⟩
set_option maxRecDepth 100000 in
set_option maxHeartbeats 8000000 in
theorem mayAct_off (xk : Int) (hk : xk < 1 ∨ 10 < xk) (xn xm xOk xOv xOt xOs xOa xOc : Int) (xOD xP : Option Addr) (xOn xOq xpn xpq : Nat) (xf : Bool) (lx : List UInt8) (px : List Int) (w : World) (hx : lx.length = xOn) (hn : xOn ≤ 9223372036854775807) (h1 : Row bv w xOD lx) (hpx : px.length = xpn) (hpn : xpn ≤ 9223372036854775807) (h3 : Row (Value.int .i64) w xP px) : Calls Tryz.prog 22 #[(Value.agg #[.int .i64 xk, .int .i64 xn, .int .i64 xm, .int .i64 xOk, .int .u64 xOv, .int .u64 xOt, .int .i64 xOs, .int .i64 xOa, .int .i64 xOc, .slice xOD xOn xOq, .bool xf, .slice xP xpn xpq])] w fun e w' => e = .returned (.bool (mayActB xk xn xm xOk xOv xOt xOs xOa xOc xf xOn xpn lx px)) ∧ Gr w w' := by
 have en : actPartsB xk = ⟨#[]⟩ := by
  by_cases h0 : xk = 0
  ·subst h0; rfl
  ·exact actPartsB_off xk (by omega)
 have E0 : mayActB xk xn xm xOk xOv xOt xOs xOa xOc xf xOn xpn lx px = false := by
  unfold mayActB
  repeat (rw [if_neg (by omega)])
 rw [E0]; clear E0
 have h7 : (xk == 7) = false := by simp; omega
 rcases hk with hk | hk
 ·have h2 : decide (1 ≤ xk) = false := by simpa using hk
  cases xf
  all_goals
   go_enter Tryz.func22, Tryz.ntmps22
   go_wp2_with (go_at_call 52; ((with_reducible refine (actPartsB_any _ _).mono ?_); rintro _ _ ⟨rfl, g, rfl⟩))
   refine wp_loop_rounds 1 ?_
   rw [rounds_succ]
   go_wp2_with (go_at_call 52; ((with_reducible refine (actPartsB_any _ _).mono ?_); rintro _ _ ⟨rfl, g, rfl⟩))
   go_ret
   exact ⟨rfl, gri⟩
 ·have h2 : decide (xk ≤ 10) = false := by simpa using hk
  have h3 : 1 ≤ xk := by omega
  cases xf
  all_goals
   go_enter Tryz.func22, Tryz.ntmps22
   go_wp2_with (go_at_call 52; ((with_reducible refine (actPartsB_any _ _).mono ?_); rintro _ _ ⟨rfl, g, rfl⟩))
   refine wp_loop_rounds 1 ?_
   rw [rounds_succ]
   go_wp2_with (go_at_call 52; ((with_reducible refine (actPartsB_any _ _).mono ?_); rintro _ _ ⟨rfl, g, rfl⟩))
   go_ret
   exact ⟨rfl, gri⟩
theorem mayAct_any (xk : Int) (xn xm xOk xOv xOt xOs xOa xOc : Int) (xOD xP : Option Addr) (xOn xOq xpn xpq : Nat) (xf : Bool) (lx : List UInt8) (px : List Int) (w : World) (hx : lx.length = xOn) (hn : xOn ≤ 9223372036854775807) (h1 : Row bv w xOD lx) (hpx : px.length = xpn) (hpn : xpn ≤ 9223372036854775807) (h3 : Row (Value.int .i64) w xP px) : Calls Tryz.prog 22 #[(Value.agg #[.int .i64 xk, .int .i64 xn, .int .i64 xm, .int .i64 xOk, .int .u64 xOv, .int .u64 xOt, .int .i64 xOs, .int .i64 xOa, .int .i64 xOc, .slice xOD xOn xOq, .bool xf, .slice xP xpn xpq])] w fun e w' => e = .returned (.bool (mayActB xk xn xm xOk xOv xOt xOs xOa xOc xf xOn xpn lx px)) ∧ Gr w w' := by
 by_cases h : xk < 1 ∨ 10 < xk
 ·exact mayAct_off xk h xn xm xOk xOv xOt xOs xOa xOc xOD xP xOn xOq xpn xpq xf lx px w hx hn h1 hpx hpn h3
 ·have h4 : xk = 1 ∨ xk = 2 ∨ xk = 3 ∨ xk = 4 ∨ xk = 5 ∨ xk = 6 ∨ xk = 7 ∨ xk = 8 ∨ xk = 9 ∨ xk = 10 := by omega
  rcases h4 with rfl | rfl | rfl | rfl | rfl | rfl | rfl | rfl | rfl | rfl
  ·exact mayAct_1 xn xm xOk xOv xOt xOs xOa xOc xOD xP xOn xOq xpn xpq xf lx px w hx hn h1 hpx hpn h3
  ·exact mayAct_2 xn xm xOk xOv xOt xOs xOa xOc xOD xP xOn xOq xpn xpq xf lx px w hx hn h1 hpx hpn h3
  ·exact mayAct_3 xn xm xOk xOv xOt xOs xOa xOc xOD xP xOn xOq xpn xpq xf lx px w hx hn h1 hpx hpn h3
  ·exact mayAct_4 xn xm xOk xOv xOt xOs xOa xOc xOD xP xOn xOq xpn xpq xf lx px w hx hn h1 hpx hpn h3
  ·exact mayAct_5 xn xm xOk xOv xOt xOs xOa xOc xOD xP xOn xOq xpn xpq xf lx px w hx hn h1 hpx hpn h3
  ·exact mayAct_6 xn xm xOk xOv xOt xOs xOa xOc xOD xP xOn xOq xpn xpq xf lx px w hx hn h1 hpx hpn h3
  ·exact mayAct_7 xn xm xOk xOv xOt xOs xOa xOc xOD xP xOn xOq xpn xpq xf lx px w hx hn h1 hpx hpn h3
  ·exact mayAct_8 xn xm xOk xOv xOt xOs xOa xOc xOD xP xOn xOq xpn xpq xf lx px w hx hn h1 hpx hpn h3
  ·exact mayAct_9 xn xm xOk xOv xOt xOs xOa xOc xOD xP xOn xOq xpn xpq xf lx px w hx hn h1 hpx hpn h3
  ·exact mayAct_10 xn xm xOk xOv xOt xOs xOa xOc xOD xP xOn xOq xpn xpq xf lx px w hx hn h1 hpx hpn h3
def actPieces (xk xn xm xOk xOv xOt xOs xOa xOc : Int) (xf : Bool) (lx : List UInt8) (px : List Int) : List ByteArray := if xk = 1 then [⟨#[97, 115, 107]⟩, ⟨(Lib.itoa xn).toArray⟩, ⟨(opTextL xOk xOv xOt xOs xOa xOc lx).toArray⟩] else if xk = 2 then [⟨#[99, 97, 114, 114, 121]⟩, ⟨(Lib.itoa xm).toArray⟩] else if xk = 3 then [⟨#[116, 105, 99, 107]⟩, ⟨(Lib.itoa xn).toArray⟩] else if xk = 4 then [⟨#[111, 102, 102]⟩, ⟨(Lib.itoa xn).toArray⟩, ⟨(rowL (pickT px)).toArray⟩] else if xk = 5 then [⟨#[111, 110]⟩, ⟨(Lib.itoa xn).toArray⟩, ⟨(rowL (pickT px)).toArray⟩] else if xk = 6 then [⟨#[102, 117, 115, 101]⟩, ⟨(Lib.itoa xn).toArray⟩, ⟨(Lib.itoa xm).toArray⟩] else if xk = 7 then [(if xf then ⟨#[102, 111, 114, 99, 101]⟩ else ⟨#[108, 101, 97, 100]⟩), ⟨(Lib.itoa xn).toArray⟩] else if xk = 8 then [⟨#[100, 101, 103, 114, 97, 100, 101]⟩, ⟨(Lib.itoa xn).toArray⟩] else if xk = 9 then [⟨#[103, 114, 111, 119]⟩, ⟨(Lib.itoa xn).toArray⟩, ⟨(Lib.itoa xm).toArray⟩] else if xk = 10 then [⟨#[97, 108, 108]⟩] else []
def actTextL (xk xn xm xOk xOv xOt xOs xOa xOc : Int) (xf : Bool) (lx : List UInt8) (px : List Int) : List UInt8 := Lib.join ((actPieces xk xn xm xOk xOv xOt xOs xOa xOc xf lx px).map (·.data.toList)) [32]
theorem mayOpB_kind {xk xv xt xs xa xc : Int} {xn : Nat} {lx : List UInt8} (h : mayOpB xk xv xt xs xa xc xn lx = true) (hx : lx.length = xn) : 1 ≤ xk ∧ xk ≤ 9 ∧ xn ≤ 2048 := by
 have h1 : 1 ≤ xk ∧ xk ≤ 9 := by
  by_cases h2 : 1 ≤ xk ∧ xk ≤ 9
  ·exact h2
  ·unfold mayOpB at h
   repeat (rw [if_neg (by omega)] at h)
   cases h
 refine ⟨h1.1, h1.2, ?_⟩
 have h3 : xk = 1 ∨ xk = 2 ∨ xk = 3 ∨ xk = 4 ∨ xk = 5 ∨ xk = 6 ∨ xk = 7 ∨ xk = 8 ∨ xk = 9 := by omega
 rcases h3 with rfl | rfl | rfl | rfl | rfl | rfl | rfl | rfl | rfl
 all_goals
  simp [mayOpB, wData] at h
  first
   | omega
   | (have h4 : lx = [] := by simp [h]
      subst h4; simp at hx; omega)
theorem actText_any (xk xn xm xOk xOv xOt xOs xOa xOc : Int) (xOD xP : Option Addr) (xOn xOq xpn xpq : Nat) (xf : Bool) (lx : List UInt8) (px : List Int) (w : World) [hk : Tb w] (n0 : -9223372036854775808 ≤ xn) (n1 : xn ≤ 9223372036854775807) (m0 : -9223372036854775808 ≤ xm) (m1 : xm ≤ 9223372036854775807) (B : Bd xOv xOt xOs xOa xOc) (hx : lx.length = xOn) (hxq : xOn ≤ xOq) (h1 : Row bv w xOD lx) (hpx : px.length = xpn) (hpq : xpn ≤ xpq) (pk : Pk px) (h3 : Row (Value.int .i64) w xP px) (hm : mayActB xk xn xm xOk xOv xOt xOs xOa xOc xf xOn xpn lx px = true) : Calls Tryz.prog 42 #[(Value.agg #[.int .i64 xk, .int .i64 xn, .int .i64 xm, .int .i64 xOk, .int .u64 xOv, .int .u64 xOt, .int .i64 xOs, .int .i64 xOa, .int .i64 xOc, .slice xOD xOn xOq, .bool xf, .slice xP xpn xpq])] w fun e w' => e = .returned (.string ⟨(actTextL xk xn xm xOk xOv xOt xOs xOa xOc xf lx px).toArray⟩) ∧ Gr w w' := by
 have h4 : 1 ≤ xk ∧ xk ≤ 10 := by
  by_cases h2 : 1 ≤ xk ∧ xk ≤ 10
  ·exact h2
  ·unfold mayActB at hm
   repeat (rw [if_neg (by omega)] at hm)
   cases hm
 have h5 : xk = 1 ∨ xk = 2 ∨ xk = 3 ∨ xk = 4 ∨ xk = 5 ∨ xk = 6 ∨ xk = 7 ∨ xk = 8 ∨ xk = 9 ∨ xk = 10 := by omega
 rcases h5 with rfl | rfl | rfl | rfl | rfl | rfl | rfl | rfl | rfl | rfl
 ·have hf : xf = false := by cases xf <;> simp_all [mayActB]
  subst hf
  have ho : mayOpB xOk xOv xOt xOs xOa xOc xOn lx = true := by simp [mayActB] at hm; simp [hm]
  obtain ⟨o1, o9, on⟩ := mayOpB_kind ho hx
  exact actText_1 xn xm xOk xOv xOt xOs xOa xOc xOD xP xOn xOq xpn xpq lx px w n0 n1 m0 m1 B o1 o9 hx hxq (by omega) h1
 ·have hf : xf = false := by cases xf <;> simp_all [mayActB]
  subst hf
  exact actText_2 xn xm xOk xOv xOt xOs xOa xOc xOD xP xOn xOq xpn xpq lx px w n0 n1 m0 m1
 ·have hf : xf = false := by cases xf <;> simp_all [mayActB]
  subst hf
  exact actText_3 xn xm xOk xOv xOt xOs xOa xOc xOD xP xOn xOq xpn xpq lx px w n0 n1 m0 m1
 ·have hf : xf = false := by cases xf <;> simp_all [mayActB]
  subst hf
  have hp : picksB xpn px = true := by simp [mayActB] at hm; simp [hm]
  have hpn : xpn ≤ 1000 := by simp [picksB] at hp; omega
  exact actText_4 xn xm xOk xOv xOt xOs xOa xOc xOD xP xOn xOq xpn xpq lx px w n0 n1 m0 m1 hpx hpq hpn pk h3
 ·have hf : xf = false := by cases xf <;> simp_all [mayActB]
  subst hf
  have hp : picksB xpn px = true := by simp [mayActB] at hm; simp [hm]
  have hpn : xpn ≤ 1000 := by simp [picksB] at hp; omega
  exact actText_5 xn xm xOk xOv xOt xOs xOa xOc xOD xP xOn xOq xpn xpq lx px w n0 n1 m0 m1 hpx hpq hpn pk h3
 ·have hf : xf = false := by cases xf <;> simp_all [mayActB]
  subst hf
  exact actText_6 xn xm xOk xOv xOt xOs xOa xOc xOD xP xOn xOq xpn xpq lx px w n0 n1 m0 m1
 ·cases xf
  ·exact actText_7 xn xm xOk xOv xOt xOs xOa xOc xOD xP xOn xOq xpn xpq lx px w n0 n1 m0 m1
  ·exact actText_7f xn xm xOk xOv xOt xOs xOa xOc xOD xP xOn xOq xpn xpq lx px w n0 n1 m0 m1
 ·have hf : xf = false := by cases xf <;> simp_all [mayActB]
  subst hf
  exact actText_8 xn xm xOk xOv xOt xOs xOa xOc xOD xP xOn xOq xpn xpq lx px w n0 n1 m0 m1
 ·have hf : xf = false := by cases xf <;> simp_all [mayActB]
  subst hf
  exact actText_9 xn xm xOk xOv xOt xOs xOa xOc xOD xP xOn xOq xpn xpq lx px w n0 n1 m0 m1
 ·have hf : xf = false := by cases xf <;> simp_all [mayActB]
  subst hf
  exact actText_10 xn xm xOk xOv xOt xOs xOa xOc xOD xP xOn xOq xpn xpq lx px w n0 n1 m0 m1
theorem ActText_any (xk xn xm xOk xOv xOt xOs xOa xOc : Int) (xOD xP : Option Addr) (xOn xOq xpn xpq : Nat) (xf : Bool) (lx : List UInt8) (px : List Int) (w : World) [hk : Tb w] (n0 : -9223372036854775808 ≤ xn) (n1 : xn ≤ 9223372036854775807) (m0 : -9223372036854775808 ≤ xm) (m1 : xm ≤ 9223372036854775807) (B : Bd xOv xOt xOs xOa xOc) (hx : lx.length = xOn) (hxq : xOn ≤ xOq) (h1 : Row bv w xOD lx) (hpx : px.length = xpn) (hpq : xpn ≤ xpq) (pk : Pk px) (h3 : Row (Value.int .i64) w xP px) (hn9 : xOn ≤ 9223372036854775807) (hp9 : xpn ≤ 9223372036854775807) : Calls Tryz.prog 15 #[(Value.agg #[.int .i64 xk, .int .i64 xn, .int .i64 xm, .int .i64 xOk, .int .u64 xOv, .int .u64 xOt, .int .i64 xOs, .int .i64 xOa, .int .i64 xOc, .slice xOD xOn xOq, .bool xf, .slice xP xpn xpq])] w fun e w' => e = .returned (.tuple #[.string ⟨(if mayActB xk xn xm xOk xOv xOt xOs xOa xOc xf xOn xpn lx px then actTextL xk xn xm xOk xOv xOt xOs xOa xOc xf lx px else []).toArray⟩, .int .i64 (if mayActB xk xn xm xOk xOv xOt xOs xOa xOc xf xOn xpn lx px then 0 else 2)]) ∧ Gr w w' := by
 have HM := Lib.hid (fun W (g1 : Row bv W xOD lx) (g3 : Row (Value.int .i64) W xP px) => mayAct_any xk xn xm xOk xOv xOt xOs xOa xOc xOD xP xOn xOq xpn xpq xf lx px W hx hn9 g1 hpx hp9 g3)
 rcases Bool.eq_false_or_eq_true (mayActB xk xn xm xOk xOv xOt xOs xOa xOc xf xOn xpn lx px) with hm | hm
 ·have HT := Lib.hid (fun W (_ : Tb W) (g1 : Row bv W xOD lx) (g3 : Row (Value.int .i64) W xP px) => actText_any xk xn xm xOk xOv xOt xOs xOa xOc xOD xP xOn xOq xpn xpq xf lx px W n0 n1 m0 m1 B hx hxq g1 hpx hpq pk g3 hm)
  have H1 := Lib.hid h1; clear h1
  have H3 := Lib.hid h3; clear h3
  have HX := Lib.hid hx; clear hx
  have HPX := Lib.hid hpx; clear hpx
  simp only [hm, if_true]
  go_enter Tryz.func15, Tryz.ntmps15
  go_wp2_with (((first | (go_at_call 22; with_reducible refine (HM.out _ (H1.out.gr (gri)) (H3.out.gr (gri))).mono ?_) | (go_at_call 42; with_reducible refine (HT.out _ inferInstance (H1.out.gr (gri)) (H3.out.gr (gri))).mono ?_)); rintro _ _ ⟨rfl, g, rfl⟩))
  go_ret2
  exact ⟨rfl, gri⟩
 ·have H1 := Lib.hid h1; clear h1
  have H3 := Lib.hid h3; clear h3
  have HX := Lib.hid hx; clear hx
  have HPX := Lib.hid hpx; clear hpx
  simp only [hm, Bool.false_eq_true, if_false]
  go_enter Tryz.func15, Tryz.ntmps15
  go_wp2_with ((go_at_call 22; ((with_reducible refine (HM.out _ (H1.out.gr (gri)) (H3.out.gr (gri))).mono ?_); rintro _ _ ⟨rfl, g, rfl⟩)))
  go_ret2
  exact ⟨rfl, gri⟩
end Go.Proofs.YtgjdgafoidppaaaGreatDoor
