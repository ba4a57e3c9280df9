/- script.MayAct (kinds 2, 3, 4). Conditions: what is read stands in memory. script.MayAct (kinds 5, 6). Conditions: what is read stands in memory. script.MayAct (kinds 7, 8, 9, 10). Conditions: what is read stands in memory. script.MayAct (all kinds). Conditions: what is read stands in memory. -/
import Derived.Test.YtgjdgafoidppaaaDoorQ09
import Derived.Test.YtgjdgafoidppaaaDoorQ03
import Derived.Test.YtgjdgafoidppaaaDoorQ02
namespace Go.Proofs.YtgjdgafoidppaaaDoor
open Go.RowKit
set_option linter.unusedVariables false
set_option linter.unusedSimpArgs false
set_option linter.unnecessarySimpa false
set_option maxRecDepth 100000 in
set_option maxHeartbeats 8000000 in
theorem mayAct_2 (xn xm xOk xOv xOt xOs xOa xOc : Int) (xOD xP : Option Addr) (xOn xOq xpn xpq : Nat) (xf : Bool) (lx : List UInt8) (px : List Int) (w : World) (hx : lx.length = xOn) (hn : xOn ≤ 9223372036854775807) (h1 : Row bv w xOD lx) (hpx : px.length = xpn) (hpn : xpn ≤ 9223372036854775807) (h3 : Row (Value.int .i64) w xP px) : Calls Tryd.prog 22 #[(Value.agg #[.int .i64 2, .int .i64 xn, .int .i64 xm, .int .i64 xOk, .int .u64 xOv, .int .u64 xOt, .int .i64 xOs, .int .i64 xOa, .int .i64 xOc, .slice xOD xOn xOq, .bool xf, .slice xP xpn xpq])] w fun e w' => e = .returned (.bool (mayActB 2 xn xm xOk xOv xOt xOs xOa xOc xf xOn xpn lx px)) ∧ Gr w w' := by
  have H1 := Lib.hid h1; clear h1
  have H3 := Lib.hid h3; clear h3
  have HX := Lib.hid hx; clear hx
  have HPX := Lib.hid hpx; clear hpx
  have en : actPartsB 2 = ⟨#[110]⟩ := rfl
  have E0 : mayActB 2 xn xm xOk xOv xOt xOs xOa xOc xf xOn xpn lx px = ((mayN xm) && (xn == 0) && (sameB xOk xOv xOt xOs xOa xOc 0 0 0 0 0 0 lx []) && (xf == false) && (px == [])) := rfl
  rw [E0]; clear E0
  have HM := Lib.hid (fun W => (may26_any xm W).mono (R' := fun e w' => e = .returned (.bool (mayN xm)) ∧ W = w') fun _ _ h => h)
  have HB := Lib.hid (fun W (h : Row (Value.int .i64) W xP px) => (containsI_any xP xpn xpq px W HPX.out hpn h).mono (R' := fun e w' => e = .returned (.bool (badP px)) ∧ Gr W w') fun _ _ h => h)
  cases xf
  all_goals
    rcases Bool.eq_false_or_eq_true (mayN xm) with q0 | q0
    · go_enter Tryd.func22, Tryd.ntmps22
      go_wp2_with (first | (go_at_call 49; ((with_reducible refine (actPartsB_any _ _).mono ?_); rintro _ _ ⟨rfl, g, rfl⟩)) | (go_at_call 50; ((with_reducible refine (HM.out _).mono ?_); rintro _ _ ⟨rfl, rfl⟩)) | (go_at_call 39; ((with_reducible refine (mayOp_any _ _ _ _ _ _ _ _ _ lx _ HX.out hn (H1.out.gr (gri))).mono ?_); rintro _ _ ⟨rfl, g, rfl⟩)) | (go_at_call 51; ((with_reducible refine (HB.out _ (H3.out.gr (gri))).mono ?_); rintro _ _ ⟨rfl, g, rfl⟩)) | (go_at_call 53; ((with_reducible refine (sameAct_any _ _ _ _ _ _ _ _ _ _ _ _ _ _ _ _ _ _ _ _ _ _ _ _ _ _ _ _ _ _ _ _ lx [] px [] _ HX.out List.length_nil hn (H1.out.gr (gri)) Row.nil HPX.out List.length_nil hpn (by omega) (H3.out.gr (gri)) Row.nil).mono ?_); rintro _ _ ⟨rfl, g, rfl⟩)))
      refine wp_loop_rounds 2 ?_
      iterate 2
        rw [rounds_succ]
        go_wp2_with (first | (go_at_call 49; ((with_reducible refine (actPartsB_any _ _).mono ?_); rintro _ _ ⟨rfl, g, rfl⟩)) | (go_at_call 50; ((with_reducible refine (HM.out _).mono ?_); rintro _ _ ⟨rfl, rfl⟩)) | (go_at_call 39; ((with_reducible refine (mayOp_any _ _ _ _ _ _ _ _ _ lx _ HX.out hn (H1.out.gr (gri))).mono ?_); rintro _ _ ⟨rfl, g, rfl⟩)) | (go_at_call 51; ((with_reducible refine (HB.out _ (H3.out.gr (gri))).mono ?_); rintro _ _ ⟨rfl, g, rfl⟩)) | (go_at_call 53; ((with_reducible refine (sameAct_any _ _ _ _ _ _ _ _ _ _ _ _ _ _ _ _ _ _ _ _ _ _ _ _ _ _ _ _ _ _ _ _ lx [] px [] _ HX.out List.length_nil hn (H1.out.gr (gri)) Row.nil HPX.out List.length_nil hpn (by omega) (H3.out.gr (gri)) Row.nil).mono ?_); rintro _ _ ⟨rfl, g, rfl⟩)))
      go_ret
      exact ⟨ret_bool (by simp [sameActB, q0, sameB_refl, Bool.and_assoc]), gri⟩
    · go_enter Tryd.func22, Tryd.ntmps22
      go_wp2_with (first | (go_at_call 49; ((with_reducible refine (actPartsB_any _ _).mono ?_); rintro _ _ ⟨rfl, g, rfl⟩)) | (go_at_call 50; ((with_reducible refine (HM.out _).mono ?_); rintro _ _ ⟨rfl, rfl⟩)) | (go_at_call 39; ((with_reducible refine (mayOp_any _ _ _ _ _ _ _ _ _ lx _ HX.out hn (H1.out.gr (gri))).mono ?_); rintro _ _ ⟨rfl, g, rfl⟩)) | (go_at_call 51; ((with_reducible refine (HB.out _ (H3.out.gr (gri))).mono ?_); rintro _ _ ⟨rfl, g, rfl⟩)) | (go_at_call 53; ((with_reducible refine (sameAct_any _ _ _ _ _ _ _ _ _ _ _ _ _ _ _ _ _ _ _ _ _ _ _ _ _ _ _ _ _ _ _ _ lx [] px [] _ HX.out List.length_nil hn (H1.out.gr (gri)) Row.nil HPX.out List.length_nil hpn (by omega) (H3.out.gr (gri)) Row.nil).mono ?_); rintro _ _ ⟨rfl, g, rfl⟩)))
      refine wp_loop_rounds 2 ?_
      iterate 2
        rw [rounds_succ]
        go_wp2_with (first | (go_at_call 49; ((with_reducible refine (actPartsB_any _ _).mono ?_); rintro _ _ ⟨rfl, g, rfl⟩)) | (go_at_call 50; ((with_reducible refine (HM.out _).mono ?_); rintro _ _ ⟨rfl, rfl⟩)) | (go_at_call 39; ((with_reducible refine (mayOp_any _ _ _ _ _ _ _ _ _ lx _ HX.out hn (H1.out.gr (gri))).mono ?_); rintro _ _ ⟨rfl, g, rfl⟩)) | (go_at_call 51; ((with_reducible refine (HB.out _ (H3.out.gr (gri))).mono ?_); rintro _ _ ⟨rfl, g, rfl⟩)) | (go_at_call 53; ((with_reducible refine (sameAct_any _ _ _ _ _ _ _ _ _ _ _ _ _ _ _ _ _ _ _ _ _ _ _ _ _ _ _ _ _ _ _ _ lx [] px [] _ HX.out List.length_nil hn (H1.out.gr (gri)) Row.nil HPX.out List.length_nil hpn (by omega) (H3.out.gr (gri)) Row.nil).mono ?_); rintro _ _ ⟨rfl, g, rfl⟩)))
      go_ret
      exact ⟨ret_bool (by simp [sameActB, q0, sameB_refl, Bool.and_assoc]), gri⟩
set_option maxRecDepth 100000 in
set_option maxHeartbeats 8000000 in
theorem mayAct_3 (xn xm xOk xOv xOt xOs xOa xOc : Int) (xOD xP : Option Addr) (xOn xOq xpn xpq : Nat) (xf : Bool) (lx : List UInt8) (px : List Int) (w : World) (hx : lx.length = xOn) (hn : xOn ≤ 9223372036854775807) (h1 : Row bv w xOD lx) (hpx : px.length = xpn) (hpn : xpn ≤ 9223372036854775807) (h3 : Row (Value.int .i64) w xP px) : Calls Tryd.prog 22 #[(Value.agg #[.int .i64 3, .int .i64 xn, .int .i64 xm, .int .i64 xOk, .int .u64 xOv, .int .u64 xOt, .int .i64 xOs, .int .i64 xOa, .int .i64 xOc, .slice xOD xOn xOq, .bool xf, .slice xP xpn xpq])] w fun e w' => e = .returned (.bool (mayActB 3 xn xm xOk xOv xOt xOs xOa xOc xf xOn xpn lx px)) ∧ Gr w w' := by
  have H1 := Lib.hid h1; clear h1
  have H3 := Lib.hid h3; clear h3
  have HX := Lib.hid hx; clear hx
  have HPX := Lib.hid hpx; clear hpx
  have en : actPartsB 3 = ⟨#[100]⟩ := rfl
  have E0 : mayActB 3 xn xm xOk xOv xOt xOs xOa xOc xf xOn xpn lx px = ((nodeB xn) && (xm == 0) && (sameB xOk xOv xOt xOs xOa xOc 0 0 0 0 0 0 lx []) && (xf == false) && (px == [])) := rfl
  rw [E0]; clear E0
  have HM := Lib.hid (fun W => (may26_any xm W).mono (R' := fun e w' => e = .returned (.bool (mayN xm)) ∧ W = w') fun _ _ h => h)
  have HB := Lib.hid (fun W (h : Row (Value.int .i64) W xP px) => (containsI_any xP xpn xpq px W HPX.out hpn h).mono (R' := fun e w' => e = .returned (.bool (badP px)) ∧ Gr W w') fun _ _ h => h)
  cases xf
  all_goals
    rcases Bool.eq_false_or_eq_true (xn == 0) with z0 | z0
    · have q0 : nodeB xn = true := by simp [nodeB, z0]
      go_enter Tryd.func22, Tryd.ntmps22
      go_wp2_with (first | (go_at_call 49; ((with_reducible refine (actPartsB_any _ _).mono ?_); rintro _ _ ⟨rfl, g, rfl⟩)) | (go_at_call 50; ((with_reducible refine (HM.out _).mono ?_); rintro _ _ ⟨rfl, rfl⟩)) | (go_at_call 39; ((with_reducible refine (mayOp_any _ _ _ _ _ _ _ _ _ lx _ HX.out hn (H1.out.gr (gri))).mono ?_); rintro _ _ ⟨rfl, g, rfl⟩)) | (go_at_call 51; ((with_reducible refine (HB.out _ (H3.out.gr (gri))).mono ?_); rintro _ _ ⟨rfl, g, rfl⟩)) | (go_at_call 53; ((with_reducible refine (sameAct_any _ _ _ _ _ _ _ _ _ _ _ _ _ _ _ _ _ _ _ _ _ _ _ _ _ _ _ _ _ _ _ _ lx [] px [] _ HX.out List.length_nil hn (H1.out.gr (gri)) Row.nil HPX.out List.length_nil hpn (by omega) (H3.out.gr (gri)) Row.nil).mono ?_); rintro _ _ ⟨rfl, g, rfl⟩)))
      refine wp_loop_rounds 2 ?_
      iterate 2
        rw [rounds_succ]
        go_wp2_with (first | (go_at_call 49; ((with_reducible refine (actPartsB_any _ _).mono ?_); rintro _ _ ⟨rfl, g, rfl⟩)) | (go_at_call 50; ((with_reducible refine (HM.out _).mono ?_); rintro _ _ ⟨rfl, rfl⟩)) | (go_at_call 39; ((with_reducible refine (mayOp_any _ _ _ _ _ _ _ _ _ lx _ HX.out hn (H1.out.gr (gri))).mono ?_); rintro _ _ ⟨rfl, g, rfl⟩)) | (go_at_call 51; ((with_reducible refine (HB.out _ (H3.out.gr (gri))).mono ?_); rintro _ _ ⟨rfl, g, rfl⟩)) | (go_at_call 53; ((with_reducible refine (sameAct_any _ _ _ _ _ _ _ _ _ _ _ _ _ _ _ _ _ _ _ _ _ _ _ _ _ _ _ _ _ _ _ _ lx [] px [] _ HX.out List.length_nil hn (H1.out.gr (gri)) Row.nil HPX.out List.length_nil hpn (by omega) (H3.out.gr (gri)) Row.nil).mono ?_); rintro _ _ ⟨rfl, g, rfl⟩)))
      go_ret
      exact ⟨ret_bool (by simp [sameActB, q0, sameB_refl, Bool.and_assoc]), gri⟩
    · rcases Bool.eq_false_or_eq_true (xn == 1) with z1 | z1
      · have q0 : nodeB xn = true := by simp [nodeB, z0, z1]
        go_enter Tryd.func22, Tryd.ntmps22
        go_wp2_with (first | (go_at_call 49; ((with_reducible refine (actPartsB_any _ _).mono ?_); rintro _ _ ⟨rfl, g, rfl⟩)) | (go_at_call 50; ((with_reducible refine (HM.out _).mono ?_); rintro _ _ ⟨rfl, rfl⟩)) | (go_at_call 39; ((with_reducible refine (mayOp_any _ _ _ _ _ _ _ _ _ lx _ HX.out hn (H1.out.gr (gri))).mono ?_); rintro _ _ ⟨rfl, g, rfl⟩)) | (go_at_call 51; ((with_reducible refine (HB.out _ (H3.out.gr (gri))).mono ?_); rintro _ _ ⟨rfl, g, rfl⟩)) | (go_at_call 53; ((with_reducible refine (sameAct_any _ _ _ _ _ _ _ _ _ _ _ _ _ _ _ _ _ _ _ _ _ _ _ _ _ _ _ _ _ _ _ _ lx [] px [] _ HX.out List.length_nil hn (H1.out.gr (gri)) Row.nil HPX.out List.length_nil hpn (by omega) (H3.out.gr (gri)) Row.nil).mono ?_); rintro _ _ ⟨rfl, g, rfl⟩)))
        refine wp_loop_rounds 2 ?_
        iterate 2
          rw [rounds_succ]
          go_wp2_with (first | (go_at_call 49; ((with_reducible refine (actPartsB_any _ _).mono ?_); rintro _ _ ⟨rfl, g, rfl⟩)) | (go_at_call 50; ((with_reducible refine (HM.out _).mono ?_); rintro _ _ ⟨rfl, rfl⟩)) | (go_at_call 39; ((with_reducible refine (mayOp_any _ _ _ _ _ _ _ _ _ lx _ HX.out hn (H1.out.gr (gri))).mono ?_); rintro _ _ ⟨rfl, g, rfl⟩)) | (go_at_call 51; ((with_reducible refine (HB.out _ (H3.out.gr (gri))).mono ?_); rintro _ _ ⟨rfl, g, rfl⟩)) | (go_at_call 53; ((with_reducible refine (sameAct_any _ _ _ _ _ _ _ _ _ _ _ _ _ _ _ _ _ _ _ _ _ _ _ _ _ _ _ _ _ _ _ _ lx [] px [] _ HX.out List.length_nil hn (H1.out.gr (gri)) Row.nil HPX.out List.length_nil hpn (by omega) (H3.out.gr (gri)) Row.nil).mono ?_); rintro _ _ ⟨rfl, g, rfl⟩)))
        go_ret
        exact ⟨ret_bool (by simp [sameActB, q0, sameB_refl, Bool.and_assoc]), gri⟩
      · have q0 : nodeB xn = false := by simp [nodeB, z0, z1]
        go_enter Tryd.func22, Tryd.ntmps22
        go_wp2_with (first | (go_at_call 49; ((with_reducible refine (actPartsB_any _ _).mono ?_); rintro _ _ ⟨rfl, g, rfl⟩)) | (go_at_call 50; ((with_reducible refine (HM.out _).mono ?_); rintro _ _ ⟨rfl, rfl⟩)) | (go_at_call 39; ((with_reducible refine (mayOp_any _ _ _ _ _ _ _ _ _ lx _ HX.out hn (H1.out.gr (gri))).mono ?_); rintro _ _ ⟨rfl, g, rfl⟩)) | (go_at_call 51; ((with_reducible refine (HB.out _ (H3.out.gr (gri))).mono ?_); rintro _ _ ⟨rfl, g, rfl⟩)) | (go_at_call 53; ((with_reducible refine (sameAct_any _ _ _ _ _ _ _ _ _ _ _ _ _ _ _ _ _ _ _ _ _ _ _ _ _ _ _ _ _ _ _ _ lx [] px [] _ HX.out List.length_nil hn (H1.out.gr (gri)) Row.nil HPX.out List.length_nil hpn (by omega) (H3.out.gr (gri)) Row.nil).mono ?_); rintro _ _ ⟨rfl, g, rfl⟩)))
        refine wp_loop_rounds 2 ?_
        iterate 2
          rw [rounds_succ]
          go_wp2_with (first | (go_at_call 49; ((with_reducible refine (actPartsB_any _ _).mono ?_); rintro _ _ ⟨rfl, g, rfl⟩)) | (go_at_call 50; ((with_reducible refine (HM.out _).mono ?_); rintro _ _ ⟨rfl, rfl⟩)) | (go_at_call 39; ((with_reducible refine (mayOp_any _ _ _ _ _ _ _ _ _ lx _ HX.out hn (H1.out.gr (gri))).mono ?_); rintro _ _ ⟨rfl, g, rfl⟩)) | (go_at_call 51; ((with_reducible refine (HB.out _ (H3.out.gr (gri))).mono ?_); rintro _ _ ⟨rfl, g, rfl⟩)) | (go_at_call 53; ((with_reducible refine (sameAct_any _ _ _ _ _ _ _ _ _ _ _ _ _ _ _ _ _ _ _ _ _ _ _ _ _ _ _ _ _ _ _ _ lx [] px [] _ HX.out List.length_nil hn (H1.out.gr (gri)) Row.nil HPX.out List.length_nil hpn (by omega) (H3.out.gr (gri)) Row.nil).mono ?_); rintro _ _ ⟨rfl, g, rfl⟩)))
        go_ret
        exact ⟨ret_bool (by simp [sameActB, q0, sameB_refl, Bool.and_assoc]), gri⟩
set_option maxRecDepth 100000 in
set_option maxHeartbeats 8000000 in
theorem mayAct_4 (xn xm xOk xOv xOt xOs xOa xOc : Int) (xOD xP : Option Addr) (xOn xOq xpn xpq : Nat) (xf : Bool) (lx : List UInt8) (px : List Int) (w : World) (hx : lx.length = xOn) (hn : xOn ≤ 9223372036854775807) (h1 : Row bv w xOD lx) (hpx : px.length = xpn) (hpn : xpn ≤ 9223372036854775807) (h3 : Row (Value.int .i64) w xP px) : Calls Tryd.prog 22 #[(Value.agg #[.int .i64 4, .int .i64 xn, .int .i64 xm, .int .i64 xOk, .int .u64 xOv, .int .u64 xOt, .int .i64 xOs, .int .i64 xOa, .int .i64 xOc, .slice xOD xOn xOq, .bool xf, .slice xP xpn xpq])] w fun e w' => e = .returned (.bool (mayActB 4 xn xm xOk xOv xOt xOs xOa xOc xf xOn xpn lx px)) ∧ Gr w w' := by
  have H1 := Lib.hid h1; clear h1
  have H3 := Lib.hid h3; clear h3
  have HX := Lib.hid hx; clear hx
  have HPX := Lib.hid hpx; clear hpx
  have en : actPartsB 4 = ⟨#[100, 112]⟩ := rfl
  have E0 : mayActB 4 xn xm xOk xOv xOt xOs xOa xOc xf xOn xpn lx px = ((nodeB xn) && (picksB xpn px) && (xm == 0) && (sameB xOk xOv xOt xOs xOa xOc 0 0 0 0 0 0 lx []) && (xf == false)) := rfl
  rw [E0]; clear E0
  have HM := Lib.hid (fun W => (may26_any xm W).mono (R' := fun e w' => e = .returned (.bool (mayN xm)) ∧ W = w') fun _ _ h => h)
  have HB := Lib.hid (fun W (h : Row (Value.int .i64) W xP px) => (containsI_any xP xpn xpq px W HPX.out hpn h).mono (R' := fun e w' => e = .returned (.bool (badP px)) ∧ Gr W w') fun _ _ h => h)
  cases xf
  all_goals
    rcases Bool.eq_false_or_eq_true (xn == 0) with z0 | z0
    · have q0 : nodeB xn = true := by simp [nodeB, z0]
      by_cases z2 : xpn ≤ 100
      · rcases Bool.eq_false_or_eq_true (badP px) with z3 | z3
        · have q1 : picksB xpn px = false := by simp [picksB, z3]
          go_enter Tryd.func22, Tryd.ntmps22
          go_wp2_with (first | (go_at_call 49; ((with_reducible refine (actPartsB_any _ _).mono ?_); rintro _ _ ⟨rfl, g, rfl⟩)) | (go_at_call 50; ((with_reducible refine (HM.out _).mono ?_); rintro _ _ ⟨rfl, rfl⟩)) | (go_at_call 39; ((with_reducible refine (mayOp_any _ _ _ _ _ _ _ _ _ lx _ HX.out hn (H1.out.gr (gri))).mono ?_); rintro _ _ ⟨rfl, g, rfl⟩)) | (go_at_call 51; ((with_reducible refine (HB.out _ (H3.out.gr (gri))).mono ?_); rintro _ _ ⟨rfl, g, rfl⟩)) | (go_at_call 53; ((with_reducible refine (sameAct_any _ _ _ _ _ _ _ _ _ _ _ _ _ _ _ _ _ _ _ _ _ _ _ _ _ _ _ _ _ _ _ _ lx [] px px _ HX.out List.length_nil hn (H1.out.gr (gri)) Row.nil HPX.out HPX.out hpn hpn (H3.out.gr (gri)) (H3.out.gr (gri))).mono ?_); rintro _ _ ⟨rfl, g, rfl⟩)))
          refine wp_loop_rounds 3 ?_
          iterate 3
            rw [rounds_succ]
            go_wp2_with (first | (go_at_call 49; ((with_reducible refine (actPartsB_any _ _).mono ?_); rintro _ _ ⟨rfl, g, rfl⟩)) | (go_at_call 50; ((with_reducible refine (HM.out _).mono ?_); rintro _ _ ⟨rfl, rfl⟩)) | (go_at_call 39; ((with_reducible refine (mayOp_any _ _ _ _ _ _ _ _ _ lx _ HX.out hn (H1.out.gr (gri))).mono ?_); rintro _ _ ⟨rfl, g, rfl⟩)) | (go_at_call 51; ((with_reducible refine (HB.out _ (H3.out.gr (gri))).mono ?_); rintro _ _ ⟨rfl, g, rfl⟩)) | (go_at_call 53; ((with_reducible refine (sameAct_any _ _ _ _ _ _ _ _ _ _ _ _ _ _ _ _ _ _ _ _ _ _ _ _ _ _ _ _ _ _ _ _ lx [] px px _ HX.out List.length_nil hn (H1.out.gr (gri)) Row.nil HPX.out HPX.out hpn hpn (H3.out.gr (gri)) (H3.out.gr (gri))).mono ?_); rintro _ _ ⟨rfl, g, rfl⟩)))
          go_ret
          exact ⟨ret_bool (by simp [sameActB, q0, q1, sameB_refl, Bool.and_assoc]), gri⟩
        · have q1 : picksB xpn px = true := by simp [picksB, z2, z3]
          go_enter Tryd.func22, Tryd.ntmps22
          go_wp2_with (first | (go_at_call 49; ((with_reducible refine (actPartsB_any _ _).mono ?_); rintro _ _ ⟨rfl, g, rfl⟩)) | (go_at_call 50; ((with_reducible refine (HM.out _).mono ?_); rintro _ _ ⟨rfl, rfl⟩)) | (go_at_call 39; ((with_reducible refine (mayOp_any _ _ _ _ _ _ _ _ _ lx _ HX.out hn (H1.out.gr (gri))).mono ?_); rintro _ _ ⟨rfl, g, rfl⟩)) | (go_at_call 51; ((with_reducible refine (HB.out _ (H3.out.gr (gri))).mono ?_); rintro _ _ ⟨rfl, g, rfl⟩)) | (go_at_call 53; ((with_reducible refine (sameAct_any _ _ _ _ _ _ _ _ _ _ _ _ _ _ _ _ _ _ _ _ _ _ _ _ _ _ _ _ _ _ _ _ lx [] px px _ HX.out List.length_nil hn (H1.out.gr (gri)) Row.nil HPX.out HPX.out hpn hpn (H3.out.gr (gri)) (H3.out.gr (gri))).mono ?_); rintro _ _ ⟨rfl, g, rfl⟩)))
          refine wp_loop_rounds 3 ?_
          iterate 3
            rw [rounds_succ]
            go_wp2_with (first | (go_at_call 49; ((with_reducible refine (actPartsB_any _ _).mono ?_); rintro _ _ ⟨rfl, g, rfl⟩)) | (go_at_call 50; ((with_reducible refine (HM.out _).mono ?_); rintro _ _ ⟨rfl, rfl⟩)) | (go_at_call 39; ((with_reducible refine (mayOp_any _ _ _ _ _ _ _ _ _ lx _ HX.out hn (H1.out.gr (gri))).mono ?_); rintro _ _ ⟨rfl, g, rfl⟩)) | (go_at_call 51; ((with_reducible refine (HB.out _ (H3.out.gr (gri))).mono ?_); rintro _ _ ⟨rfl, g, rfl⟩)) | (go_at_call 53; ((with_reducible refine (sameAct_any _ _ _ _ _ _ _ _ _ _ _ _ _ _ _ _ _ _ _ _ _ _ _ _ _ _ _ _ _ _ _ _ lx [] px px _ HX.out List.length_nil hn (H1.out.gr (gri)) Row.nil HPX.out HPX.out hpn hpn (H3.out.gr (gri)) (H3.out.gr (gri))).mono ?_); rintro _ _ ⟨rfl, g, rfl⟩)))
          go_ret
          exact ⟨ret_bool (by simp [sameActB, q0, q1, sameB_refl, Bool.and_assoc]), gri⟩
      · have z4 : decide ((xpn : Int) ≤ 100) = false := by simp; omega
        have q1 : picksB xpn px = false := by simp [picksB, z2]
        go_enter Tryd.func22, Tryd.ntmps22
        go_wp2_with (first | (go_at_call 49; ((with_reducible refine (actPartsB_any _ _).mono ?_); rintro _ _ ⟨rfl, g, rfl⟩)) | (go_at_call 50; ((with_reducible refine (HM.out _).mono ?_); rintro _ _ ⟨rfl, rfl⟩)) | (go_at_call 39; ((with_reducible refine (mayOp_any _ _ _ _ _ _ _ _ _ lx _ HX.out hn (H1.out.gr (gri))).mono ?_); rintro _ _ ⟨rfl, g, rfl⟩)) | (go_at_call 51; ((with_reducible refine (HB.out _ (H3.out.gr (gri))).mono ?_); rintro _ _ ⟨rfl, g, rfl⟩)) | (go_at_call 53; ((with_reducible refine (sameAct_any _ _ _ _ _ _ _ _ _ _ _ _ _ _ _ _ _ _ _ _ _ _ _ _ _ _ _ _ _ _ _ _ lx [] px px _ HX.out List.length_nil hn (H1.out.gr (gri)) Row.nil HPX.out HPX.out hpn hpn (H3.out.gr (gri)) (H3.out.gr (gri))).mono ?_); rintro _ _ ⟨rfl, g, rfl⟩)))
        refine wp_loop_rounds 3 ?_
        iterate 3
          rw [rounds_succ]
          go_wp2_with (first | (go_at_call 49; ((with_reducible refine (actPartsB_any _ _).mono ?_); rintro _ _ ⟨rfl, g, rfl⟩)) | (go_at_call 50; ((with_reducible refine (HM.out _).mono ?_); rintro _ _ ⟨rfl, rfl⟩)) | (go_at_call 39; ((with_reducible refine (mayOp_any _ _ _ _ _ _ _ _ _ lx _ HX.out hn (H1.out.gr (gri))).mono ?_); rintro _ _ ⟨rfl, g, rfl⟩)) | (go_at_call 51; ((with_reducible refine (HB.out _ (H3.out.gr (gri))).mono ?_); rintro _ _ ⟨rfl, g, rfl⟩)) | (go_at_call 53; ((with_reducible refine (sameAct_any _ _ _ _ _ _ _ _ _ _ _ _ _ _ _ _ _ _ _ _ _ _ _ _ _ _ _ _ _ _ _ _ lx [] px px _ HX.out List.length_nil hn (H1.out.gr (gri)) Row.nil HPX.out HPX.out hpn hpn (H3.out.gr (gri)) (H3.out.gr (gri))).mono ?_); rintro _ _ ⟨rfl, g, rfl⟩)))
        go_ret
        exact ⟨ret_bool (by simp [sameActB, q0, q1, sameB_refl, Bool.and_assoc]), gri⟩
    · rcases Bool.eq_false_or_eq_true (xn == 1) with z1 | z1
      · have q0 : nodeB xn = true := by simp [nodeB, z0, z1]
        by_cases z2 : xpn ≤ 100
        · rcases Bool.eq_false_or_eq_true (badP px) with z3 | z3
          · have q1 : picksB xpn px = false := by simp [picksB, z3]
            go_enter Tryd.func22, Tryd.ntmps22
            go_wp2_with (first | (go_at_call 49; ((with_reducible refine (actPartsB_any _ _).mono ?_); rintro _ _ ⟨rfl, g, rfl⟩)) | (go_at_call 50; ((with_reducible refine (HM.out _).mono ?_); rintro _ _ ⟨rfl, rfl⟩)) | (go_at_call 39; ((with_reducible refine (mayOp_any _ _ _ _ _ _ _ _ _ lx _ HX.out hn (H1.out.gr (gri))).mono ?_); rintro _ _ ⟨rfl, g, rfl⟩)) | (go_at_call 51; ((with_reducible refine (HB.out _ (H3.out.gr (gri))).mono ?_); rintro _ _ ⟨rfl, g, rfl⟩)) | (go_at_call 53; ((with_reducible refine (sameAct_any _ _ _ _ _ _ _ _ _ _ _ _ _ _ _ _ _ _ _ _ _ _ _ _ _ _ _ _ _ _ _ _ lx [] px px _ HX.out List.length_nil hn (H1.out.gr (gri)) Row.nil HPX.out HPX.out hpn hpn (H3.out.gr (gri)) (H3.out.gr (gri))).mono ?_); rintro _ _ ⟨rfl, g, rfl⟩)))
            refine wp_loop_rounds 3 ?_
            iterate 3
              rw [rounds_succ]
              go_wp2_with (first | (go_at_call 49; ((with_reducible refine (actPartsB_any _ _).mono ?_); rintro _ _ ⟨rfl, g, rfl⟩)) | (go_at_call 50; ((with_reducible refine (HM.out _).mono ?_); rintro _ _ ⟨rfl, rfl⟩)) | (go_at_call 39; ((with_reducible refine (mayOp_any _ _ _ _ _ _ _ _ _ lx _ HX.out hn (H1.out.gr (gri))).mono ?_); rintro _ _ ⟨rfl, g, rfl⟩)) | (go_at_call 51; ((with_reducible refine (HB.out _ (H3.out.gr (gri))).mono ?_); rintro _ _ ⟨rfl, g, rfl⟩)) | (go_at_call 53; ((with_reducible refine (sameAct_any _ _ _ _ _ _ _ _ _ _ _ _ _ _ _ _ _ _ _ _ _ _ _ _ _ _ _ _ _ _ _ _ lx [] px px _ HX.out List.length_nil hn (H1.out.gr (gri)) Row.nil HPX.out HPX.out hpn hpn (H3.out.gr (gri)) (H3.out.gr (gri))).mono ?_); rintro _ _ ⟨rfl, g, rfl⟩)))
            go_ret
            exact ⟨ret_bool (by simp [sameActB, q0, q1, sameB_refl, Bool.and_assoc]), gri⟩
          · have q1 : picksB xpn px = true := by simp [picksB, z2, z3]
            go_enter Tryd.func22, Tryd.ntmps22
            go_wp2_with (first | (go_at_call 49; ((with_reducible refine (actPartsB_any _ _).mono ?_); rintro _ _ ⟨rfl, g, rfl⟩)) | (go_at_call 50; ((with_reducible refine (HM.out _).mono ?_); rintro _ _ ⟨rfl, rfl⟩)) | (go_at_call 39; ((with_reducible refine (mayOp_any _ _ _ _ _ _ _ _ _ lx _ HX.out hn (H1.out.gr (gri))).mono ?_); rintro _ _ ⟨rfl, g, rfl⟩)) | (go_at_call 51; ((with_reducible refine (HB.out _ (H3.out.gr (gri))).mono ?_); rintro _ _ ⟨rfl, g, rfl⟩)) | (go_at_call 53; ((with_reducible refine (sameAct_any _ _ _ _ _ _ _ _ _ _ _ _ _ _ _ _ _ _ _ _ _ _ _ _ _ _ _ _ _ _ _ _ lx [] px px _ HX.out List.length_nil hn (H1.out.gr (gri)) Row.nil HPX.out HPX.out hpn hpn (H3.out.gr (gri)) (H3.out.gr (gri))).mono ?_); rintro _ _ ⟨rfl, g, rfl⟩)))
            refine wp_loop_rounds 3 ?_
            iterate 3
              rw [rounds_succ]
              go_wp2_with (first | (go_at_call 49; ((with_reducible refine (actPartsB_any _ _).mono ?_); rintro _ _ ⟨rfl, g, rfl⟩)) | (go_at_call 50; ((with_reducible refine (HM.out _).mono ?_); rintro _ _ ⟨rfl, rfl⟩)) | (go_at_call 39; ((with_reducible refine (mayOp_any _ _ _ _ _ _ _ _ _ lx _ HX.out hn (H1.out.gr (gri))).mono ?_); rintro _ _ ⟨rfl, g, rfl⟩)) | (go_at_call 51; ((with_reducible refine (HB.out _ (H3.out.gr (gri))).mono ?_); rintro _ _ ⟨rfl, g, rfl⟩)) | (go_at_call 53; ((with_reducible refine (sameAct_any _ _ _ _ _ _ _ _ _ _ _ _ _ _ _ _ _ _ _ _ _ _ _ _ _ _ _ _ _ _ _ _ lx [] px px _ HX.out List.length_nil hn (H1.out.gr (gri)) Row.nil HPX.out HPX.out hpn hpn (H3.out.gr (gri)) (H3.out.gr (gri))).mono ?_); rintro _ _ ⟨rfl, g, rfl⟩)))
            go_ret
            exact ⟨ret_bool (by simp [sameActB, q0, q1, sameB_refl, Bool.and_assoc]), gri⟩
        · have z4 : decide ((xpn : Int) ≤ 100) = false := by simp; omega
          have q1 : picksB xpn px = false := by simp [picksB, z2]
          go_enter Tryd.func22, Tryd.ntmps22
          go_wp2_with (first | (go_at_call 49; ((with_reducible refine (actPartsB_any _ _).mono ?_); rintro _ _ ⟨rfl, g, rfl⟩)) | (go_at_call 50; ((with_reducible refine (HM.out _).mono ?_); rintro _ _ ⟨rfl, rfl⟩)) | (go_at_call 39; ((with_reducible refine (mayOp_any _ _ _ _ _ _ _ _ _ lx _ HX.out hn (H1.out.gr (gri))).mono ?_); rintro _ _ ⟨rfl, g, rfl⟩)) | (go_at_call 51; ((with_reducible refine (HB.out _ (H3.out.gr (gri))).mono ?_); rintro _ _ ⟨rfl, g, rfl⟩)) | (go_at_call 53; ((with_reducible refine (sameAct_any _ _ _ _ _ _ _ _ _ _ _ _ _ _ _ _ _ _ _ _ _ _ _ _ _ _ _ _ _ _ _ _ lx [] px px _ HX.out List.length_nil hn (H1.out.gr (gri)) Row.nil HPX.out HPX.out hpn hpn (H3.out.gr (gri)) (H3.out.gr (gri))).mono ?_); rintro _ _ ⟨rfl, g, rfl⟩)))
          refine wp_loop_rounds 3 ?_
          iterate 3
            rw [rounds_succ]
            go_wp2_with (first | (go_at_call 49; ((with_reducible refine (actPartsB_any _ _).mono ?_); rintro _ _ ⟨rfl, g, rfl⟩)) | (go_at_call 50; ((with_reducible refine (HM.out _).mono ?_); rintro _ _ ⟨rfl, rfl⟩)) | (go_at_call 39; ((with_reducible refine (mayOp_any _ _ _ _ _ _ _ _ _ lx _ HX.out hn (H1.out.gr (gri))).mono ?_); rintro _ _ ⟨rfl, g, rfl⟩)) | (go_at_call 51; ((with_reducible refine (HB.out _ (H3.out.gr (gri))).mono ?_); rintro _ _ ⟨rfl, g, rfl⟩)) | (go_at_call 53; ((with_reducible refine (sameAct_any _ _ _ _ _ _ _ _ _ _ _ _ _ _ _ _ _ _ _ _ _ _ _ _ _ _ _ _ _ _ _ _ lx [] px px _ HX.out List.length_nil hn (H1.out.gr (gri)) Row.nil HPX.out HPX.out hpn hpn (H3.out.gr (gri)) (H3.out.gr (gri))).mono ?_); rintro _ _ ⟨rfl, g, rfl⟩)))
          go_ret
          exact ⟨ret_bool (by simp [sameActB, q0, q1, sameB_refl, Bool.and_assoc]), gri⟩
      · have q0 : nodeB xn = false := by simp [nodeB, z0, z1]
        go_enter Tryd.func22, Tryd.ntmps22
        go_wp2_with (first | (go_at_call 49; ((with_reducible refine (actPartsB_any _ _).mono ?_); rintro _ _ ⟨rfl, g, rfl⟩)) | (go_at_call 50; ((with_reducible refine (HM.out _).mono ?_); rintro _ _ ⟨rfl, rfl⟩)) | (go_at_call 39; ((with_reducible refine (mayOp_any _ _ _ _ _ _ _ _ _ lx _ HX.out hn (H1.out.gr (gri))).mono ?_); rintro _ _ ⟨rfl, g, rfl⟩)) | (go_at_call 51; ((with_reducible refine (HB.out _ (H3.out.gr (gri))).mono ?_); rintro _ _ ⟨rfl, g, rfl⟩)) | (go_at_call 53; ((with_reducible refine (sameAct_any _ _ _ _ _ _ _ _ _ _ _ _ _ _ _ _ _ _ _ _ _ _ _ _ _ _ _ _ _ _ _ _ lx [] px px _ HX.out List.length_nil hn (H1.out.gr (gri)) Row.nil HPX.out HPX.out hpn hpn (H3.out.gr (gri)) (H3.out.gr (gri))).mono ?_); rintro _ _ ⟨rfl, g, rfl⟩)))
        refine wp_loop_rounds 3 ?_
        iterate 3
          rw [rounds_succ]
          go_wp2_with (first | (go_at_call 49; ((with_reducible refine (actPartsB_any _ _).mono ?_); rintro _ _ ⟨rfl, g, rfl⟩)) | (go_at_call 50; ((with_reducible refine (HM.out _).mono ?_); rintro _ _ ⟨rfl, rfl⟩)) | (go_at_call 39; ((with_reducible refine (mayOp_any _ _ _ _ _ _ _ _ _ lx _ HX.out hn (H1.out.gr (gri))).mono ?_); rintro _ _ ⟨rfl, g, rfl⟩)) | (go_at_call 51; ((with_reducible refine (HB.out _ (H3.out.gr (gri))).mono ?_); rintro _ _ ⟨rfl, g, rfl⟩)) | (go_at_call 53; ((with_reducible refine (sameAct_any _ _ _ _ _ _ _ _ _ _ _ _ _ _ _ _ _ _ _ _ _ _ _ _ _ _ _ _ _ _ _ _ lx [] px px _ HX.out List.length_nil hn (H1.out.gr (gri)) Row.nil HPX.out HPX.out hpn hpn (H3.out.gr (gri)) (H3.out.gr (gri))).mono ?_); rintro _ _ ⟨rfl, g, rfl⟩)))
        go_ret
        exact ⟨ret_bool (by simp [sameActB, q0, sameB_refl, Bool.and_assoc]), gri⟩
end Go.Proofs.YtgjdgafoidppaaaDoor
namespace Go.Proofs.YtgjdgafoidppaaaDoor
open Go.RowKit
set_option linter.unusedVariables false
set_option linter.unusedSimpArgs false
set_option linter.unnecessarySimpa false
set_option maxRecDepth 100000 in
set_option maxHeartbeats 8000000 in
theorem mayAct_5 (xn xm xOk xOv xOt xOs xOa xOc : Int) (xOD xP : Option Addr) (xOn xOq xpn xpq : Nat) (xf : Bool) (lx : List UInt8) (px : List Int) (w : World) (hx : lx.length = xOn) (hn : xOn ≤ 9223372036854775807) (h1 : Row bv w xOD lx) (hpx : px.length = xpn) (hpn : xpn ≤ 9223372036854775807) (h3 : Row (Value.int .i64) w xP px) : Calls Tryd.prog 22 #[(Value.agg #[.int .i64 5, .int .i64 xn, .int .i64 xm, .int .i64 xOk, .int .u64 xOv, .int .u64 xOt, .int .i64 xOs, .int .i64 xOa, .int .i64 xOc, .slice xOD xOn xOq, .bool xf, .slice xP xpn xpq])] w fun e w' => e = .returned (.bool (mayActB 5 xn xm xOk xOv xOt xOs xOa xOc xf xOn xpn lx px)) ∧ Gr w w' := by
  have H1 := Lib.hid h1; clear h1
  have H3 := Lib.hid h3; clear h3
  have HX := Lib.hid hx; clear hx
  have HPX := Lib.hid hpx; clear hpx
  have en : actPartsB 5 = ⟨#[100, 112]⟩ := rfl
  have E0 : mayActB 5 xn xm xOk xOv xOt xOs xOa xOc xf xOn xpn lx px = ((nodeB xn) && (picksB xpn px) && (xm == 0) && (sameB xOk xOv xOt xOs xOa xOc 0 0 0 0 0 0 lx []) && (xf == false)) := rfl
  rw [E0]; clear E0
  have HM := Lib.hid (fun W => (may26_any xm W).mono (R' := fun e w' => e = .returned (.bool (mayN xm)) ∧ W = w') fun _ _ h => h)
  have HB := Lib.hid (fun W (h : Row (Value.int .i64) W xP px) => (containsI_any xP xpn xpq px W HPX.out hpn h).mono (R' := fun e w' => e = .returned (.bool (badP px)) ∧ Gr W w') fun _ _ h => h)
  cases xf
  all_goals
    rcases Bool.eq_false_or_eq_true (xn == 0) with z0 | z0
    · have q0 : nodeB xn = true := by simp [nodeB, z0]
      by_cases z2 : xpn ≤ 100
      · rcases Bool.eq_false_or_eq_true (badP px) with z3 | z3
        · have q1 : picksB xpn px = false := by simp [picksB, z3]
          go_enter Tryd.func22, Tryd.ntmps22
          go_wp2_with (first | (go_at_call 49; ((with_reducible refine (actPartsB_any _ _).mono ?_); rintro _ _ ⟨rfl, g, rfl⟩)) | (go_at_call 50; ((with_reducible refine (HM.out _).mono ?_); rintro _ _ ⟨rfl, rfl⟩)) | (go_at_call 39; ((with_reducible refine (mayOp_any _ _ _ _ _ _ _ _ _ lx _ HX.out hn (H1.out.gr (gri))).mono ?_); rintro _ _ ⟨rfl, g, rfl⟩)) | (go_at_call 51; ((with_reducible refine (HB.out _ (H3.out.gr (gri))).mono ?_); rintro _ _ ⟨rfl, g, rfl⟩)) | (go_at_call 53; ((with_reducible refine (sameAct_any _ _ _ _ _ _ _ _ _ _ _ _ _ _ _ _ _ _ _ _ _ _ _ _ _ _ _ _ _ _ _ _ lx [] px px _ HX.out List.length_nil hn (H1.out.gr (gri)) Row.nil HPX.out HPX.out hpn hpn (H3.out.gr (gri)) (H3.out.gr (gri))).mono ?_); rintro _ _ ⟨rfl, g, rfl⟩)))
          refine wp_loop_rounds 3 ?_
          iterate 3
            rw [rounds_succ]
            go_wp2_with (first | (go_at_call 49; ((with_reducible refine (actPartsB_any _ _).mono ?_); rintro _ _ ⟨rfl, g, rfl⟩)) | (go_at_call 50; ((with_reducible refine (HM.out _).mono ?_); rintro _ _ ⟨rfl, rfl⟩)) | (go_at_call 39; ((with_reducible refine (mayOp_any _ _ _ _ _ _ _ _ _ lx _ HX.out hn (H1.out.gr (gri))).mono ?_); rintro _ _ ⟨rfl, g, rfl⟩)) | (go_at_call 51; ((with_reducible refine (HB.out _ (H3.out.gr (gri))).mono ?_); rintro _ _ ⟨rfl, g, rfl⟩)) | (go_at_call 53; ((with_reducible refine (sameAct_any _ _ _ _ _ _ _ _ _ _ _ _ _ _ _ _ _ _ _ _ _ _ _ _ _ _ _ _ _ _ _ _ lx [] px px _ HX.out List.length_nil hn (H1.out.gr (gri)) Row.nil HPX.out HPX.out hpn hpn (H3.out.gr (gri)) (H3.out.gr (gri))).mono ?_); rintro _ _ ⟨rfl, g, rfl⟩)))
          go_ret
          exact ⟨ret_bool (by simp [sameActB, q0, q1, sameB_refl, Bool.and_assoc]), gri⟩
        · have q1 : picksB xpn px = true := by simp [picksB, z2, z3]
          go_enter Tryd.func22, Tryd.ntmps22
          go_wp2_with (first | (go_at_call 49; ((with_reducible refine (actPartsB_any _ _).mono ?_); rintro _ _ ⟨rfl, g, rfl⟩)) | (go_at_call 50; ((with_reducible refine (HM.out _).mono ?_); rintro _ _ ⟨rfl, rfl⟩)) | (go_at_call 39; ((with_reducible refine (mayOp_any _ _ _ _ _ _ _ _ _ lx _ HX.out hn (H1.out.gr (gri))).mono ?_); rintro _ _ ⟨rfl, g, rfl⟩)) | (go_at_call 51; ((with_reducible refine (HB.out _ (H3.out.gr (gri))).mono ?_); rintro _ _ ⟨rfl, g, rfl⟩)) | (go_at_call 53; ((with_reducible refine (sameAct_any _ _ _ _ _ _ _ _ _ _ _ _ _ _ _ _ _ _ _ _ _ _ _ _ _ _ _ _ _ _ _ _ lx [] px px _ HX.out List.length_nil hn (H1.out.gr (gri)) Row.nil HPX.out HPX.out hpn hpn (H3.out.gr (gri)) (H3.out.gr (gri))).mono ?_); rintro _ _ ⟨rfl, g, rfl⟩)))
          refine wp_loop_rounds 3 ?_
          iterate 3
            rw [rounds_succ]
            go_wp2_with (first | (go_at_call 49; ((with_reducible refine (actPartsB_any _ _).mono ?_); rintro _ _ ⟨rfl, g, rfl⟩)) | (go_at_call 50; ((with_reducible refine (HM.out _).mono ?_); rintro _ _ ⟨rfl, rfl⟩)) | (go_at_call 39; ((with_reducible refine (mayOp_any _ _ _ _ _ _ _ _ _ lx _ HX.out hn (H1.out.gr (gri))).mono ?_); rintro _ _ ⟨rfl, g, rfl⟩)) | (go_at_call 51; ((with_reducible refine (HB.out _ (H3.out.gr (gri))).mono ?_); rintro _ _ ⟨rfl, g, rfl⟩)) | (go_at_call 53; ((with_reducible refine (sameAct_any _ _ _ _ _ _ _ _ _ _ _ _ _ _ _ _ _ _ _ _ _ _ _ _ _ _ _ _ _ _ _ _ lx [] px px _ HX.out List.length_nil hn (H1.out.gr (gri)) Row.nil HPX.out HPX.out hpn hpn (H3.out.gr (gri)) (H3.out.gr (gri))).mono ?_); rintro _ _ ⟨rfl, g, rfl⟩)))
          go_ret
          exact ⟨ret_bool (by simp [sameActB, q0, q1, sameB_refl, Bool.and_assoc]), gri⟩
      · have z4 : decide ((xpn : Int) ≤ 100) = false := by simp; omega
        have q1 : picksB xpn px = false := by simp [picksB, z2]
        go_enter Tryd.func22, Tryd.ntmps22
        go_wp2_with (first | (go_at_call 49; ((with_reducible refine (actPartsB_any _ _).mono ?_); rintro _ _ ⟨rfl, g, rfl⟩)) | (go_at_call 50; ((with_reducible refine (HM.out _).mono ?_); rintro _ _ ⟨rfl, rfl⟩)) | (go_at_call 39; ((with_reducible refine (mayOp_any _ _ _ _ _ _ _ _ _ lx _ HX.out hn (H1.out.gr (gri))).mono ?_); rintro _ _ ⟨rfl, g, rfl⟩)) | (go_at_call 51; ((with_reducible refine (HB.out _ (H3.out.gr (gri))).mono ?_); rintro _ _ ⟨rfl, g, rfl⟩)) | (go_at_call 53; ((with_reducible refine (sameAct_any _ _ _ _ _ _ _ _ _ _ _ _ _ _ _ _ _ _ _ _ _ _ _ _ _ _ _ _ _ _ _ _ lx [] px px _ HX.out List.length_nil hn (H1.out.gr (gri)) Row.nil HPX.out HPX.out hpn hpn (H3.out.gr (gri)) (H3.out.gr (gri))).mono ?_); rintro _ _ ⟨rfl, g, rfl⟩)))
        refine wp_loop_rounds 3 ?_
        iterate 3
          rw [rounds_succ]
          go_wp2_with (first | (go_at_call 49; ((with_reducible refine (actPartsB_any _ _).mono ?_); rintro _ _ ⟨rfl, g, rfl⟩)) | (go_at_call 50; ((with_reducible refine (HM.out _).mono ?_); rintro _ _ ⟨rfl, rfl⟩)) | (go_at_call 39; ((with_reducible refine (mayOp_any _ _ _ _ _ _ _ _ _ lx _ HX.out hn (H1.out.gr (gri))).mono ?_); rintro _ _ ⟨rfl, g, rfl⟩)) | (go_at_call 51; ((with_reducible refine (HB.out _ (H3.out.gr (gri))).mono ?_); rintro _ _ ⟨rfl, g, rfl⟩)) | (go_at_call 53; ((with_reducible refine (sameAct_any _ _ _ _ _ _ _ _ _ _ _ _ _ _ _ _ _ _ _ _ _ _ _ _ _ _ _ _ _ _ _ _ lx [] px px _ HX.out List.length_nil hn (H1.out.gr (gri)) Row.nil HPX.out HPX.out hpn hpn (H3.out.gr (gri)) (H3.out.gr (gri))).mono ?_); rintro _ _ ⟨rfl, g, rfl⟩)))
        go_ret
        exact ⟨ret_bool (by simp [sameActB, q0, q1, sameB_refl, Bool.and_assoc]), gri⟩
    · rcases Bool.eq_false_or_eq_true (xn == 1) with z1 | z1
      · have q0 : nodeB xn = true := by simp [nodeB, z0, z1]
        by_cases z2 : xpn ≤ 100
        · rcases Bool.eq_false_or_eq_true (badP px) with z3 | z3
          · have q1 : picksB xpn px = false := by simp [picksB, z3]
            go_enter Tryd.func22, Tryd.ntmps22
            go_wp2_with (first | (go_at_call 49; ((with_reducible refine (actPartsB_any _ _).mono ?_); rintro _ _ ⟨rfl, g, rfl⟩)) | (go_at_call 50; ((with_reducible refine (HM.out _).mono ?_); rintro _ _ ⟨rfl, rfl⟩)) | (go_at_call 39; ((with_reducible refine (mayOp_any _ _ _ _ _ _ _ _ _ lx _ HX.out hn (H1.out.gr (gri))).mono ?_); rintro _ _ ⟨rfl, g, rfl⟩)) | (go_at_call 51; ((with_reducible refine (HB.out _ (H3.out.gr (gri))).mono ?_); rintro _ _ ⟨rfl, g, rfl⟩)) | (go_at_call 53; ((with_reducible refine (sameAct_any _ _ _ _ _ _ _ _ _ _ _ _ _ _ _ _ _ _ _ _ _ _ _ _ _ _ _ _ _ _ _ _ lx [] px px _ HX.out List.length_nil hn (H1.out.gr (gri)) Row.nil HPX.out HPX.out hpn hpn (H3.out.gr (gri)) (H3.out.gr (gri))).mono ?_); rintro _ _ ⟨rfl, g, rfl⟩)))
            refine wp_loop_rounds 3 ?_
            iterate 3
              rw [rounds_succ]
              go_wp2_with (first | (go_at_call 49; ((with_reducible refine (actPartsB_any _ _).mono ?_); rintro _ _ ⟨rfl, g, rfl⟩)) | (go_at_call 50; ((with_reducible refine (HM.out _).mono ?_); rintro _ _ ⟨rfl, rfl⟩)) | (go_at_call 39; ((with_reducible refine (mayOp_any _ _ _ _ _ _ _ _ _ lx _ HX.out hn (H1.out.gr (gri))).mono ?_); rintro _ _ ⟨rfl, g, rfl⟩)) | (go_at_call 51; ((with_reducible refine (HB.out _ (H3.out.gr (gri))).mono ?_); rintro _ _ ⟨rfl, g, rfl⟩)) | (go_at_call 53; ((with_reducible refine (sameAct_any _ _ _ _ _ _ _ _ _ _ _ _ _ _ _ _ _ _ _ _ _ _ _ _ _ _ _ _ _ _ _ _ lx [] px px _ HX.out List.length_nil hn (H1.out.gr (gri)) Row.nil HPX.out HPX.out hpn hpn (H3.out.gr (gri)) (H3.out.gr (gri))).mono ?_); rintro _ _ ⟨rfl, g, rfl⟩)))
            go_ret
            exact ⟨ret_bool (by simp [sameActB, q0, q1, sameB_refl, Bool.and_assoc]), gri⟩
          · have q1 : picksB xpn px = true := by simp [picksB, z2, z3]
            go_enter Tryd.func22, Tryd.ntmps22
            go_wp2_with (first | (go_at_call 49; ((with_reducible refine (actPartsB_any _ _).mono ?_); rintro _ _ ⟨rfl, g, rfl⟩)) | (go_at_call 50; ((with_reducible refine (HM.out _).mono ?_); rintro _ _ ⟨rfl, rfl⟩)) | (go_at_call 39; ((with_reducible refine (mayOp_any _ _ _ _ _ _ _ _ _ lx _ HX.out hn (H1.out.gr (gri))).mono ?_); rintro _ _ ⟨rfl, g, rfl⟩)) | (go_at_call 51; ((with_reducible refine (HB.out _ (H3.out.gr (gri))).mono ?_); rintro _ _ ⟨rfl, g, rfl⟩)) | (go_at_call 53; ((with_reducible refine (sameAct_any _ _ _ _ _ _ _ _ _ _ _ _ _ _ _ _ _ _ _ _ _ _ _ _ _ _ _ _ _ _ _ _ lx [] px px _ HX.out List.length_nil hn (H1.out.gr (gri)) Row.nil HPX.out HPX.out hpn hpn (H3.out.gr (gri)) (H3.out.gr (gri))).mono ?_); rintro _ _ ⟨rfl, g, rfl⟩)))
            refine wp_loop_rounds 3 ?_
            iterate 3
              rw [rounds_succ]
              go_wp2_with (first | (go_at_call 49; ((with_reducible refine (actPartsB_any _ _).mono ?_); rintro _ _ ⟨rfl, g, rfl⟩)) | (go_at_call 50; ((with_reducible refine (HM.out _).mono ?_); rintro _ _ ⟨rfl, rfl⟩)) | (go_at_call 39; ((with_reducible refine (mayOp_any _ _ _ _ _ _ _ _ _ lx _ HX.out hn (H1.out.gr (gri))).mono ?_); rintro _ _ ⟨rfl, g, rfl⟩)) | (go_at_call 51; ((with_reducible refine (HB.out _ (H3.out.gr (gri))).mono ?_); rintro _ _ ⟨rfl, g, rfl⟩)) | (go_at_call 53; ((with_reducible refine (sameAct_any _ _ _ _ _ _ _ _ _ _ _ _ _ _ _ _ _ _ _ _ _ _ _ _ _ _ _ _ _ _ _ _ lx [] px px _ HX.out List.length_nil hn (H1.out.gr (gri)) Row.nil HPX.out HPX.out hpn hpn (H3.out.gr (gri)) (H3.out.gr (gri))).mono ?_); rintro _ _ ⟨rfl, g, rfl⟩)))
            go_ret
            exact ⟨ret_bool (by simp [sameActB, q0, q1, sameB_refl, Bool.and_assoc]), gri⟩
        · have z4 : decide ((xpn : Int) ≤ 100) = false := by simp; omega
          have q1 : picksB xpn px = false := by simp [picksB, z2]
          go_enter Tryd.func22, Tryd.ntmps22
          go_wp2_with (first | (go_at_call 49; ((with_reducible refine (actPartsB_any _ _).mono ?_); rintro _ _ ⟨rfl, g, rfl⟩)) | (go_at_call 50; ((with_reducible refine (HM.out _).mono ?_); rintro _ _ ⟨rfl, rfl⟩)) | (go_at_call 39; ((with_reducible refine (mayOp_any _ _ _ _ _ _ _ _ _ lx _ HX.out hn (H1.out.gr (gri))).mono ?_); rintro _ _ ⟨rfl, g, rfl⟩)) | (go_at_call 51; ((with_reducible refine (HB.out _ (H3.out.gr (gri))).mono ?_); rintro _ _ ⟨rfl, g, rfl⟩)) | (go_at_call 53; ((with_reducible refine (sameAct_any _ _ _ _ _ _ _ _ _ _ _ _ _ _ _ _ _ _ _ _ _ _ _ _ _ _ _ _ _ _ _ _ lx [] px px _ HX.out List.length_nil hn (H1.out.gr (gri)) Row.nil HPX.out HPX.out hpn hpn (H3.out.gr (gri)) (H3.out.gr (gri))).mono ?_); rintro _ _ ⟨rfl, g, rfl⟩)))
          refine wp_loop_rounds 3 ?_
          iterate 3
            rw [rounds_succ]
            go_wp2_with (first | (go_at_call 49; ((with_reducible refine (actPartsB_any _ _).mono ?_); rintro _ _ ⟨rfl, g, rfl⟩)) | (go_at_call 50; ((with_reducible refine (HM.out _).mono ?_); rintro _ _ ⟨rfl, rfl⟩)) | (go_at_call 39; ((with_reducible refine (mayOp_any _ _ _ _ _ _ _ _ _ lx _ HX.out hn (H1.out.gr (gri))).mono ?_); rintro _ _ ⟨rfl, g, rfl⟩)) | (go_at_call 51; ((with_reducible refine (HB.out _ (H3.out.gr (gri))).mono ?_); rintro _ _ ⟨rfl, g, rfl⟩)) | (go_at_call 53; ((with_reducible refine (sameAct_any _ _ _ _ _ _ _ _ _ _ _ _ _ _ _ _ _ _ _ _ _ _ _ _ _ _ _ _ _ _ _ _ lx [] px px _ HX.out List.length_nil hn (H1.out.gr (gri)) Row.nil HPX.out HPX.out hpn hpn (H3.out.gr (gri)) (H3.out.gr (gri))).mono ?_); rintro _ _ ⟨rfl, g, rfl⟩)))
          go_ret
          exact ⟨ret_bool (by simp [sameActB, q0, q1, sameB_refl, Bool.and_assoc]), gri⟩
      · have q0 : nodeB xn = false := by simp [nodeB, z0, z1]
        go_enter Tryd.func22, Tryd.ntmps22
        go_wp2_with (first | (go_at_call 49; ((with_reducible refine (actPartsB_any _ _).mono ?_); rintro _ _ ⟨rfl, g, rfl⟩)) | (go_at_call 50; ((with_reducible refine (HM.out _).mono ?_); rintro _ _ ⟨rfl, rfl⟩)) | (go_at_call 39; ((with_reducible refine (mayOp_any _ _ _ _ _ _ _ _ _ lx _ HX.out hn (H1.out.gr (gri))).mono ?_); rintro _ _ ⟨rfl, g, rfl⟩)) | (go_at_call 51; ((with_reducible refine (HB.out _ (H3.out.gr (gri))).mono ?_); rintro _ _ ⟨rfl, g, rfl⟩)) | (go_at_call 53; ((with_reducible refine (sameAct_any _ _ _ _ _ _ _ _ _ _ _ _ _ _ _ _ _ _ _ _ _ _ _ _ _ _ _ _ _ _ _ _ lx [] px px _ HX.out List.length_nil hn (H1.out.gr (gri)) Row.nil HPX.out HPX.out hpn hpn (H3.out.gr (gri)) (H3.out.gr (gri))).mono ?_); rintro _ _ ⟨rfl, g, rfl⟩)))
        refine wp_loop_rounds 3 ?_
        iterate 3
          rw [rounds_succ]
          go_wp2_with (first | (go_at_call 49; ((with_reducible refine (actPartsB_any _ _).mono ?_); rintro _ _ ⟨rfl, g, rfl⟩)) | (go_at_call 50; ((with_reducible refine (HM.out _).mono ?_); rintro _ _ ⟨rfl, rfl⟩)) | (go_at_call 39; ((with_reducible refine (mayOp_any _ _ _ _ _ _ _ _ _ lx _ HX.out hn (H1.out.gr (gri))).mono ?_); rintro _ _ ⟨rfl, g, rfl⟩)) | (go_at_call 51; ((with_reducible refine (HB.out _ (H3.out.gr (gri))).mono ?_); rintro _ _ ⟨rfl, g, rfl⟩)) | (go_at_call 53; ((with_reducible refine (sameAct_any _ _ _ _ _ _ _ _ _ _ _ _ _ _ _ _ _ _ _ _ _ _ _ _ _ _ _ _ _ _ _ _ lx [] px px _ HX.out List.length_nil hn (H1.out.gr (gri)) Row.nil HPX.out HPX.out hpn hpn (H3.out.gr (gri)) (H3.out.gr (gri))).mono ?_); rintro _ _ ⟨rfl, g, rfl⟩)))
        go_ret
        exact ⟨ret_bool (by simp [sameActB, q0, sameB_refl, Bool.and_assoc]), gri⟩
set_option maxRecDepth 100000 in
set_option maxHeartbeats 8000000 in
theorem mayAct_6 (xn xm xOk xOv xOt xOs xOa xOc : Int) (xOD xP : Option Addr) (xOn xOq xpn xpq : Nat) (xf : Bool) (lx : List UInt8) (px : List Int) (w : World) (hx : lx.length = xOn) (hn : xOn ≤ 9223372036854775807) (h1 : Row bv w xOD lx) (hpx : px.length = xpn) (hpn : xpn ≤ 9223372036854775807) (h3 : Row (Value.int .i64) w xP px) : Calls Tryd.prog 22 #[(Value.agg #[.int .i64 6, .int .i64 xn, .int .i64 xm, .int .i64 xOk, .int .u64 xOv, .int .u64 xOt, .int .i64 xOs, .int .i64 xOa, .int .i64 xOc, .slice xOD xOn xOq, .bool xf, .slice xP xpn xpq])] w fun e w' => e = .returned (.bool (mayActB 6 xn xm xOk xOv xOt xOs xOa xOc xf xOn xpn lx px)) ∧ Gr w w' := by
  have H1 := Lib.hid h1; clear h1
  have H3 := Lib.hid h3; clear h3
  have HX := Lib.hid hx; clear hx
  have HPX := Lib.hid hpx; clear hpx
  have en : actPartsB 6 = ⟨#[100, 110]⟩ := rfl
  have E0 : mayActB 6 xn xm xOk xOv xOt xOs xOa xOc xf xOn xpn lx px = ((nodeB xn) && (mayN xm) && (sameB xOk xOv xOt xOs xOa xOc 0 0 0 0 0 0 lx []) && (xf == false) && (px == [])) := rfl
  rw [E0]; clear E0
  have HM := Lib.hid (fun W => (may26_any xm W).mono (R' := fun e w' => e = .returned (.bool (mayN xm)) ∧ W = w') fun _ _ h => h)
  have HB := Lib.hid (fun W (h : Row (Value.int .i64) W xP px) => (containsI_any xP xpn xpq px W HPX.out hpn h).mono (R' := fun e w' => e = .returned (.bool (badP px)) ∧ Gr W w') fun _ _ h => h)
  cases xf
  all_goals
    rcases Bool.eq_false_or_eq_true (xn == 0) with z0 | z0
    · have q0 : nodeB xn = true := by simp [nodeB, z0]
      rcases Bool.eq_false_or_eq_true (mayN xm) with q1 | q1
      · go_enter Tryd.func22, Tryd.ntmps22
        go_wp2_with (first | (go_at_call 49; ((with_reducible refine (actPartsB_any _ _).mono ?_); rintro _ _ ⟨rfl, g, rfl⟩)) | (go_at_call 50; ((with_reducible refine (HM.out _).mono ?_); rintro _ _ ⟨rfl, rfl⟩)) | (go_at_call 39; ((with_reducible refine (mayOp_any _ _ _ _ _ _ _ _ _ lx _ HX.out hn (H1.out.gr (gri))).mono ?_); rintro _ _ ⟨rfl, g, rfl⟩)) | (go_at_call 51; ((with_reducible refine (HB.out _ (H3.out.gr (gri))).mono ?_); rintro _ _ ⟨rfl, g, rfl⟩)) | (go_at_call 53; ((with_reducible refine (sameAct_any _ _ _ _ _ _ _ _ _ _ _ _ _ _ _ _ _ _ _ _ _ _ _ _ _ _ _ _ _ _ _ _ lx [] px [] _ HX.out List.length_nil hn (H1.out.gr (gri)) Row.nil HPX.out List.length_nil hpn (by omega) (H3.out.gr (gri)) Row.nil).mono ?_); rintro _ _ ⟨rfl, g, rfl⟩)))
        refine wp_loop_rounds 3 ?_
        iterate 3
          rw [rounds_succ]
          go_wp2_with (first | (go_at_call 49; ((with_reducible refine (actPartsB_any _ _).mono ?_); rintro _ _ ⟨rfl, g, rfl⟩)) | (go_at_call 50; ((with_reducible refine (HM.out _).mono ?_); rintro _ _ ⟨rfl, rfl⟩)) | (go_at_call 39; ((with_reducible refine (mayOp_any _ _ _ _ _ _ _ _ _ lx _ HX.out hn (H1.out.gr (gri))).mono ?_); rintro _ _ ⟨rfl, g, rfl⟩)) | (go_at_call 51; ((with_reducible refine (HB.out _ (H3.out.gr (gri))).mono ?_); rintro _ _ ⟨rfl, g, rfl⟩)) | (go_at_call 53; ((with_reducible refine (sameAct_any _ _ _ _ _ _ _ _ _ _ _ _ _ _ _ _ _ _ _ _ _ _ _ _ _ _ _ _ _ _ _ _ lx [] px [] _ HX.out List.length_nil hn (H1.out.gr (gri)) Row.nil HPX.out List.length_nil hpn (by omega) (H3.out.gr (gri)) Row.nil).mono ?_); rintro _ _ ⟨rfl, g, rfl⟩)))
        go_ret
        exact ⟨ret_bool (by simp [sameActB, q0, q1, sameB_refl, Bool.and_assoc]), gri⟩
      · go_enter Tryd.func22, Tryd.ntmps22
        go_wp2_with (first | (go_at_call 49; ((with_reducible refine (actPartsB_any _ _).mono ?_); rintro _ _ ⟨rfl, g, rfl⟩)) | (go_at_call 50; ((with_reducible refine (HM.out _).mono ?_); rintro _ _ ⟨rfl, rfl⟩)) | (go_at_call 39; ((with_reducible refine (mayOp_any _ _ _ _ _ _ _ _ _ lx _ HX.out hn (H1.out.gr (gri))).mono ?_); rintro _ _ ⟨rfl, g, rfl⟩)) | (go_at_call 51; ((with_reducible refine (HB.out _ (H3.out.gr (gri))).mono ?_); rintro _ _ ⟨rfl, g, rfl⟩)) | (go_at_call 53; ((with_reducible refine (sameAct_any _ _ _ _ _ _ _ _ _ _ _ _ _ _ _ _ _ _ _ _ _ _ _ _ _ _ _ _ _ _ _ _ lx [] px [] _ HX.out List.length_nil hn (H1.out.gr (gri)) Row.nil HPX.out List.length_nil hpn (by omega) (H3.out.gr (gri)) Row.nil).mono ?_); rintro _ _ ⟨rfl, g, rfl⟩)))
        refine wp_loop_rounds 3 ?_
        iterate 3
          rw [rounds_succ]
          go_wp2_with (first | (go_at_call 49; ((with_reducible refine (actPartsB_any _ _).mono ?_); rintro _ _ ⟨rfl, g, rfl⟩)) | (go_at_call 50; ((with_reducible refine (HM.out _).mono ?_); rintro _ _ ⟨rfl, rfl⟩)) | (go_at_call 39; ((with_reducible refine (mayOp_any _ _ _ _ _ _ _ _ _ lx _ HX.out hn (H1.out.gr (gri))).mono ?_); rintro _ _ ⟨rfl, g, rfl⟩)) | (go_at_call 51; ((with_reducible refine (HB.out _ (H3.out.gr (gri))).mono ?_); rintro _ _ ⟨rfl, g, rfl⟩)) | (go_at_call 53; ((with_reducible refine (sameAct_any _ _ _ _ _ _ _ _ _ _ _ _ _ _ _ _ _ _ _ _ _ _ _ _ _ _ _ _ _ _ _ _ lx [] px [] _ HX.out List.length_nil hn (H1.out.gr (gri)) Row.nil HPX.out List.length_nil hpn (by omega) (H3.out.gr (gri)) Row.nil).mono ?_); rintro _ _ ⟨rfl, g, rfl⟩)))
        go_ret
        exact ⟨ret_bool (by simp [sameActB, q0, q1, sameB_refl, Bool.and_assoc]), gri⟩
    · rcases Bool.eq_false_or_eq_true (xn == 1) with z1 | z1
      · have q0 : nodeB xn = true := by simp [nodeB, z0, z1]
        rcases Bool.eq_false_or_eq_true (mayN xm) with q1 | q1
        · go_enter Tryd.func22, Tryd.ntmps22
          go_wp2_with (first | (go_at_call 49; ((with_reducible refine (actPartsB_any _ _).mono ?_); rintro _ _ ⟨rfl, g, rfl⟩)) | (go_at_call 50; ((with_reducible refine (HM.out _).mono ?_); rintro _ _ ⟨rfl, rfl⟩)) | (go_at_call 39; ((with_reducible refine (mayOp_any _ _ _ _ _ _ _ _ _ lx _ HX.out hn (H1.out.gr (gri))).mono ?_); rintro _ _ ⟨rfl, g, rfl⟩)) | (go_at_call 51; ((with_reducible refine (HB.out _ (H3.out.gr (gri))).mono ?_); rintro _ _ ⟨rfl, g, rfl⟩)) | (go_at_call 53; ((with_reducible refine (sameAct_any _ _ _ _ _ _ _ _ _ _ _ _ _ _ _ _ _ _ _ _ _ _ _ _ _ _ _ _ _ _ _ _ lx [] px [] _ HX.out List.length_nil hn (H1.out.gr (gri)) Row.nil HPX.out List.length_nil hpn (by omega) (H3.out.gr (gri)) Row.nil).mono ?_); rintro _ _ ⟨rfl, g, rfl⟩)))
          refine wp_loop_rounds 3 ?_
          iterate 3
            rw [rounds_succ]
            go_wp2_with (first | (go_at_call 49; ((with_reducible refine (actPartsB_any _ _).mono ?_); rintro _ _ ⟨rfl, g, rfl⟩)) | (go_at_call 50; ((with_reducible refine (HM.out _).mono ?_); rintro _ _ ⟨rfl, rfl⟩)) | (go_at_call 39; ((with_reducible refine (mayOp_any _ _ _ _ _ _ _ _ _ lx _ HX.out hn (H1.out.gr (gri))).mono ?_); rintro _ _ ⟨rfl, g, rfl⟩)) | (go_at_call 51; ((with_reducible refine (HB.out _ (H3.out.gr (gri))).mono ?_); rintro _ _ ⟨rfl, g, rfl⟩)) | (go_at_call 53; ((with_reducible refine (sameAct_any _ _ _ _ _ _ _ _ _ _ _ _ _ _ _ _ _ _ _ _ _ _ _ _ _ _ _ _ _ _ _ _ lx [] px [] _ HX.out List.length_nil hn (H1.out.gr (gri)) Row.nil HPX.out List.length_nil hpn (by omega) (H3.out.gr (gri)) Row.nil).mono ?_); rintro _ _ ⟨rfl, g, rfl⟩)))
          go_ret
          exact ⟨ret_bool (by simp [sameActB, q0, q1, sameB_refl, Bool.and_assoc]), gri⟩
        · go_enter Tryd.func22, Tryd.ntmps22
          go_wp2_with (first | (go_at_call 49; ((with_reducible refine (actPartsB_any _ _).mono ?_); rintro _ _ ⟨rfl, g, rfl⟩)) | (go_at_call 50; ((with_reducible refine (HM.out _).mono ?_); rintro _ _ ⟨rfl, rfl⟩)) | (go_at_call 39; ((with_reducible refine (mayOp_any _ _ _ _ _ _ _ _ _ lx _ HX.out hn (H1.out.gr (gri))).mono ?_); rintro _ _ ⟨rfl, g, rfl⟩)) | (go_at_call 51; ((with_reducible refine (HB.out _ (H3.out.gr (gri))).mono ?_); rintro _ _ ⟨rfl, g, rfl⟩)) | (go_at_call 53; ((with_reducible refine (sameAct_any _ _ _ _ _ _ _ _ _ _ _ _ _ _ _ _ _ _ _ _ _ _ _ _ _ _ _ _ _ _ _ _ lx [] px [] _ HX.out List.length_nil hn (H1.out.gr (gri)) Row.nil HPX.out List.length_nil hpn (by omega) (H3.out.gr (gri)) Row.nil).mono ?_); rintro _ _ ⟨rfl, g, rfl⟩)))
          refine wp_loop_rounds 3 ?_
          iterate 3
            rw [rounds_succ]
            go_wp2_with (first | (go_at_call 49; ((with_reducible refine (actPartsB_any _ _).mono ?_); rintro _ _ ⟨rfl, g, rfl⟩)) | (go_at_call 50; ((with_reducible refine (HM.out _).mono ?_); rintro _ _ ⟨rfl, rfl⟩)) | (go_at_call 39; ((with_reducible refine (mayOp_any _ _ _ _ _ _ _ _ _ lx _ HX.out hn (H1.out.gr (gri))).mono ?_); rintro _ _ ⟨rfl, g, rfl⟩)) | (go_at_call 51; ((with_reducible refine (HB.out _ (H3.out.gr (gri))).mono ?_); rintro _ _ ⟨rfl, g, rfl⟩)) | (go_at_call 53; ((with_reducible refine (sameAct_any _ _ _ _ _ _ _ _ _ _ _ _ _ _ _ _ _ _ _ _ _ _ _ _ _ _ _ _ _ _ _ _ lx [] px [] _ HX.out List.length_nil hn (H1.out.gr (gri)) Row.nil HPX.out List.length_nil hpn (by omega) (H3.out.gr (gri)) Row.nil).mono ?_); rintro _ _ ⟨rfl, g, rfl⟩)))
          go_ret
          exact ⟨ret_bool (by simp [sameActB, q0, q1, sameB_refl, Bool.and_assoc]), gri⟩
      · have q0 : nodeB xn = false := by simp [nodeB, z0, z1]
        go_enter Tryd.func22, Tryd.ntmps22
        go_wp2_with (first | (go_at_call 49; ((with_reducible refine (actPartsB_any _ _).mono ?_); rintro _ _ ⟨rfl, g, rfl⟩)) | (go_at_call 50; ((with_reducible refine (HM.out _).mono ?_); rintro _ _ ⟨rfl, rfl⟩)) | (go_at_call 39; ((with_reducible refine (mayOp_any _ _ _ _ _ _ _ _ _ lx _ HX.out hn (H1.out.gr (gri))).mono ?_); rintro _ _ ⟨rfl, g, rfl⟩)) | (go_at_call 51; ((with_reducible refine (HB.out _ (H3.out.gr (gri))).mono ?_); rintro _ _ ⟨rfl, g, rfl⟩)) | (go_at_call 53; ((with_reducible refine (sameAct_any _ _ _ _ _ _ _ _ _ _ _ _ _ _ _ _ _ _ _ _ _ _ _ _ _ _ _ _ _ _ _ _ lx [] px [] _ HX.out List.length_nil hn (H1.out.gr (gri)) Row.nil HPX.out List.length_nil hpn (by omega) (H3.out.gr (gri)) Row.nil).mono ?_); rintro _ _ ⟨rfl, g, rfl⟩)))
        refine wp_loop_rounds 3 ?_
        iterate 3
          rw [rounds_succ]
          go_wp2_with (first | (go_at_call 49; ((with_reducible refine (actPartsB_any _ _).mono ?_); rintro _ _ ⟨rfl, g, rfl⟩)) | (go_at_call 50; ((with_reducible refine (HM.out _).mono ?_); rintro _ _ ⟨rfl, rfl⟩)) | (go_at_call 39; ((with_reducible refine (mayOp_any _ _ _ _ _ _ _ _ _ lx _ HX.out hn (H1.out.gr (gri))).mono ?_); rintro _ _ ⟨rfl, g, rfl⟩)) | (go_at_call 51; ((with_reducible refine (HB.out _ (H3.out.gr (gri))).mono ?_); rintro _ _ ⟨rfl, g, rfl⟩)) | (go_at_call 53; ((with_reducible refine (sameAct_any _ _ _ _ _ _ _ _ _ _ _ _ _ _ _ _ _ _ _ _ _ _ _ _ _ _ _ _ _ _ _ _ lx [] px [] _ HX.out List.length_nil hn (H1.out.gr (gri)) Row.nil HPX.out List.length_nil hpn (by omega) (H3.out.gr (gri)) Row.nil).mono ?_); rintro _ _ ⟨rfl, g, rfl⟩)))
        go_ret
        exact ⟨ret_bool (by simp [sameActB, q0, sameB_refl, Bool.and_assoc]), gri⟩
end Go.Proofs.YtgjdgafoidppaaaDoor
namespace Go.Proofs.YtgjdgafoidppaaaDoor
open Go.RowKit
set_option linter.unusedVariables false
set_option linter.unusedSimpArgs false
set_option linter.unnecessarySimpa false
set_option maxRecDepth 100000 in
set_option maxHeartbeats 8000000 in
theorem mayAct_7 (xn xm xOk xOv xOt xOs xOa xOc : Int) (xOD xP : Option Addr) (xOn xOq xpn xpq : Nat) (xf : Bool) (lx : List UInt8) (px : List Int) (w : World) (hx : lx.length = xOn) (hn : xOn ≤ 9223372036854775807) (h1 : Row bv w xOD lx) (hpx : px.length = xpn) (hpn : xpn ≤ 9223372036854775807) (h3 : Row (Value.int .i64) w xP px) : Calls Tryd.prog 22 #[(Value.agg #[.int .i64 7, .int .i64 xn, .int .i64 xm, .int .i64 xOk, .int .u64 xOv, .int .u64 xOt, .int .i64 xOs, .int .i64 xOa, .int .i64 xOc, .slice xOD xOn xOq, .bool xf, .slice xP xpn xpq])] w fun e w' => e = .returned (.bool (mayActB 7 xn xm xOk xOv xOt xOs xOa xOc xf xOn xpn lx px)) ∧ Gr w w' := by
  have H1 := Lib.hid h1; clear h1
  have H3 := Lib.hid h3; clear h3
  have HX := Lib.hid hx; clear hx
  have HPX := Lib.hid hpx; clear hpx
  have en : actPartsB 7 = ⟨#[100]⟩ := rfl
  have E0 : mayActB 7 xn xm xOk xOv xOt xOs xOa xOc xf xOn xpn lx px = ((nodeB xn) && (xm == 0) && (sameB xOk xOv xOt xOs xOa xOc 0 0 0 0 0 0 lx []) && (px == [])) := rfl
  rw [E0]; clear E0
  have HM := Lib.hid (fun W => (may26_any xm W).mono (R' := fun e w' => e = .returned (.bool (mayN xm)) ∧ W = w') fun _ _ h => h)
  have HB := Lib.hid (fun W (h : Row (Value.int .i64) W xP px) => (containsI_any xP xpn xpq px W HPX.out hpn h).mono (R' := fun e w' => e = .returned (.bool (badP px)) ∧ Gr W w') fun _ _ h => h)
  cases xf
  all_goals
    rcases Bool.eq_false_or_eq_true (xn == 0) with z0 | z0
    · have q0 : nodeB xn = true := by simp [nodeB, z0]
      go_enter Tryd.func22, Tryd.ntmps22
      go_wp2_with (first | (go_at_call 49; ((with_reducible refine (actPartsB_any _ _).mono ?_); rintro _ _ ⟨rfl, g, rfl⟩)) | (go_at_call 50; ((with_reducible refine (HM.out _).mono ?_); rintro _ _ ⟨rfl, rfl⟩)) | (go_at_call 39; ((with_reducible refine (mayOp_any _ _ _ _ _ _ _ _ _ lx _ HX.out hn (H1.out.gr (gri))).mono ?_); rintro _ _ ⟨rfl, g, rfl⟩)) | (go_at_call 51; ((with_reducible refine (HB.out _ (H3.out.gr (gri))).mono ?_); rintro _ _ ⟨rfl, g, rfl⟩)) | (go_at_call 53; ((with_reducible refine (sameAct_any _ _ _ _ _ _ _ _ _ _ _ _ _ _ _ _ _ _ _ _ _ _ _ _ _ _ _ _ _ _ _ _ lx [] px [] _ HX.out List.length_nil hn (H1.out.gr (gri)) Row.nil HPX.out List.length_nil hpn (by omega) (H3.out.gr (gri)) Row.nil).mono ?_); rintro _ _ ⟨rfl, g, rfl⟩)))
      refine wp_loop_rounds 2 ?_
      iterate 2
        rw [rounds_succ]
        go_wp2_with (first | (go_at_call 49; ((with_reducible refine (actPartsB_any _ _).mono ?_); rintro _ _ ⟨rfl, g, rfl⟩)) | (go_at_call 50; ((with_reducible refine (HM.out _).mono ?_); rintro _ _ ⟨rfl, rfl⟩)) | (go_at_call 39; ((with_reducible refine (mayOp_any _ _ _ _ _ _ _ _ _ lx _ HX.out hn (H1.out.gr (gri))).mono ?_); rintro _ _ ⟨rfl, g, rfl⟩)) | (go_at_call 51; ((with_reducible refine (HB.out _ (H3.out.gr (gri))).mono ?_); rintro _ _ ⟨rfl, g, rfl⟩)) | (go_at_call 53; ((with_reducible refine (sameAct_any _ _ _ _ _ _ _ _ _ _ _ _ _ _ _ _ _ _ _ _ _ _ _ _ _ _ _ _ _ _ _ _ lx [] px [] _ HX.out List.length_nil hn (H1.out.gr (gri)) Row.nil HPX.out List.length_nil hpn (by omega) (H3.out.gr (gri)) Row.nil).mono ?_); rintro _ _ ⟨rfl, g, rfl⟩)))
      go_ret
      exact ⟨ret_bool (by simp [sameActB, q0, sameB_refl, Bool.and_assoc]), gri⟩
    · rcases Bool.eq_false_or_eq_true (xn == 1) with z1 | z1
      · have q0 : nodeB xn = true := by simp [nodeB, z0, z1]
        go_enter Tryd.func22, Tryd.ntmps22
        go_wp2_with (first | (go_at_call 49; ((with_reducible refine (actPartsB_any _ _).mono ?_); rintro _ _ ⟨rfl, g, rfl⟩)) | (go_at_call 50; ((with_reducible refine (HM.out _).mono ?_); rintro _ _ ⟨rfl, rfl⟩)) | (go_at_call 39; ((with_reducible refine (mayOp_any _ _ _ _ _ _ _ _ _ lx _ HX.out hn (H1.out.gr (gri))).mono ?_); rintro _ _ ⟨rfl, g, rfl⟩)) | (go_at_call 51; ((with_reducible refine (HB.out _ (H3.out.gr (gri))).mono ?_); rintro _ _ ⟨rfl, g, rfl⟩)) | (go_at_call 53; ((with_reducible refine (sameAct_any _ _ _ _ _ _ _ _ _ _ _ _ _ _ _ _ _ _ _ _ _ _ _ _ _ _ _ _ _ _ _ _ lx [] px [] _ HX.out List.length_nil hn (H1.out.gr (gri)) Row.nil HPX.out List.length_nil hpn (by omega) (H3.out.gr (gri)) Row.nil).mono ?_); rintro _ _ ⟨rfl, g, rfl⟩)))
        refine wp_loop_rounds 2 ?_
        iterate 2
          rw [rounds_succ]
          go_wp2_with (first | (go_at_call 49; ((with_reducible refine (actPartsB_any _ _).mono ?_); rintro _ _ ⟨rfl, g, rfl⟩)) | (go_at_call 50; ((with_reducible refine (HM.out _).mono ?_); rintro _ _ ⟨rfl, rfl⟩)) | (go_at_call 39; ((with_reducible refine (mayOp_any _ _ _ _ _ _ _ _ _ lx _ HX.out hn (H1.out.gr (gri))).mono ?_); rintro _ _ ⟨rfl, g, rfl⟩)) | (go_at_call 51; ((with_reducible refine (HB.out _ (H3.out.gr (gri))).mono ?_); rintro _ _ ⟨rfl, g, rfl⟩)) | (go_at_call 53; ((with_reducible refine (sameAct_any _ _ _ _ _ _ _ _ _ _ _ _ _ _ _ _ _ _ _ _ _ _ _ _ _ _ _ _ _ _ _ _ lx [] px [] _ HX.out List.length_nil hn (H1.out.gr (gri)) Row.nil HPX.out List.length_nil hpn (by omega) (H3.out.gr (gri)) Row.nil).mono ?_); rintro _ _ ⟨rfl, g, rfl⟩)))
        go_ret
        exact ⟨ret_bool (by simp [sameActB, q0, sameB_refl, Bool.and_assoc]), gri⟩
      · have q0 : nodeB xn = false := by simp [nodeB, z0, z1]
        go_enter Tryd.func22, Tryd.ntmps22
        go_wp2_with (first | (go_at_call 49; ((with_reducible refine (actPartsB_any _ _).mono ?_); rintro _ _ ⟨rfl, g, rfl⟩)) | (go_at_call 50; ((with_reducible refine (HM.out _).mono ?_); rintro _ _ ⟨rfl, rfl⟩)) | (go_at_call 39; ((with_reducible refine (mayOp_any _ _ _ _ _ _ _ _ _ lx _ HX.out hn (H1.out.gr (gri))).mono ?_); rintro _ _ ⟨rfl, g, rfl⟩)) | (go_at_call 51; ((with_reducible refine (HB.out _ (H3.out.gr (gri))).mono ?_); rintro _ _ ⟨rfl, g, rfl⟩)) | (go_at_call 53; ((with_reducible refine (sameAct_any _ _ _ _ _ _ _ _ _ _ _ _ _ _ _ _ _ _ _ _ _ _ _ _ _ _ _ _ _ _ _ _ lx [] px [] _ HX.out List.length_nil hn (H1.out.gr (gri)) Row.nil HPX.out List.length_nil hpn (by omega) (H3.out.gr (gri)) Row.nil).mono ?_); rintro _ _ ⟨rfl, g, rfl⟩)))
        refine wp_loop_rounds 2 ?_
        iterate 2
          rw [rounds_succ]
          go_wp2_with (first | (go_at_call 49; ((with_reducible refine (actPartsB_any _ _).mono ?_); rintro _ _ ⟨rfl, g, rfl⟩)) | (go_at_call 50; ((with_reducible refine (HM.out _).mono ?_); rintro _ _ ⟨rfl, rfl⟩)) | (go_at_call 39; ((with_reducible refine (mayOp_any _ _ _ _ _ _ _ _ _ lx _ HX.out hn (H1.out.gr (gri))).mono ?_); rintro _ _ ⟨rfl, g, rfl⟩)) | (go_at_call 51; ((with_reducible refine (HB.out _ (H3.out.gr (gri))).mono ?_); rintro _ _ ⟨rfl, g, rfl⟩)) | (go_at_call 53; ((with_reducible refine (sameAct_any _ _ _ _ _ _ _ _ _ _ _ _ _ _ _ _ _ _ _ _ _ _ _ _ _ _ _ _ _ _ _ _ lx [] px [] _ HX.out List.length_nil hn (H1.out.gr (gri)) Row.nil HPX.out List.length_nil hpn (by omega) (H3.out.gr (gri)) Row.nil).mono ?_); rintro _ _ ⟨rfl, g, rfl⟩)))
        go_ret
        exact ⟨ret_bool (by simp [sameActB, q0, sameB_refl, Bool.and_assoc]), gri⟩
set_option maxRecDepth 100000 in
set_option maxHeartbeats 8000000 in
theorem mayAct_8 (xn xm xOk xOv xOt xOs xOa xOc : Int) (xOD xP : Option Addr) (xOn xOq xpn xpq : Nat) (xf : Bool) (lx : List UInt8) (px : List Int) (w : World) (hx : lx.length = xOn) (hn : xOn ≤ 9223372036854775807) (h1 : Row bv w xOD lx) (hpx : px.length = xpn) (hpn : xpn ≤ 9223372036854775807) (h3 : Row (Value.int .i64) w xP px) : Calls Tryd.prog 22 #[(Value.agg #[.int .i64 8, .int .i64 xn, .int .i64 xm, .int .i64 xOk, .int .u64 xOv, .int .u64 xOt, .int .i64 xOs, .int .i64 xOa, .int .i64 xOc, .slice xOD xOn xOq, .bool xf, .slice xP xpn xpq])] w fun e w' => e = .returned (.bool (mayActB 8 xn xm xOk xOv xOt xOs xOa xOc xf xOn xpn lx px)) ∧ Gr w w' := by
  have H1 := Lib.hid h1; clear h1
  have H3 := Lib.hid h3; clear h3
  have HX := Lib.hid hx; clear hx
  have HPX := Lib.hid hpx; clear hpx
  have en : actPartsB 8 = ⟨#[100]⟩ := rfl
  have E0 : mayActB 8 xn xm xOk xOv xOt xOs xOa xOc xf xOn xpn lx px = ((nodeB xn) && (xm == 0) && (sameB xOk xOv xOt xOs xOa xOc 0 0 0 0 0 0 lx []) && (xf == false) && (px == [])) := rfl
  rw [E0]; clear E0
  have HM := Lib.hid (fun W => (may26_any xm W).mono (R' := fun e w' => e = .returned (.bool (mayN xm)) ∧ W = w') fun _ _ h => h)
  have HB := Lib.hid (fun W (h : Row (Value.int .i64) W xP px) => (containsI_any xP xpn xpq px W HPX.out hpn h).mono (R' := fun e w' => e = .returned (.bool (badP px)) ∧ Gr W w') fun _ _ h => h)
  cases xf
  all_goals
    rcases Bool.eq_false_or_eq_true (xn == 0) with z0 | z0
    · have q0 : nodeB xn = true := by simp [nodeB, z0]
      go_enter Tryd.func22, Tryd.ntmps22
      go_wp2_with (first | (go_at_call 49; ((with_reducible refine (actPartsB_any _ _).mono ?_); rintro _ _ ⟨rfl, g, rfl⟩)) | (go_at_call 50; ((with_reducible refine (HM.out _).mono ?_); rintro _ _ ⟨rfl, rfl⟩)) | (go_at_call 39; ((with_reducible refine (mayOp_any _ _ _ _ _ _ _ _ _ lx _ HX.out hn (H1.out.gr (gri))).mono ?_); rintro _ _ ⟨rfl, g, rfl⟩)) | (go_at_call 51; ((with_reducible refine (HB.out _ (H3.out.gr (gri))).mono ?_); rintro _ _ ⟨rfl, g, rfl⟩)) | (go_at_call 53; ((with_reducible refine (sameAct_any _ _ _ _ _ _ _ _ _ _ _ _ _ _ _ _ _ _ _ _ _ _ _ _ _ _ _ _ _ _ _ _ lx [] px [] _ HX.out List.length_nil hn (H1.out.gr (gri)) Row.nil HPX.out List.length_nil hpn (by omega) (H3.out.gr (gri)) Row.nil).mono ?_); rintro _ _ ⟨rfl, g, rfl⟩)))
      refine wp_loop_rounds 2 ?_
      iterate 2
        rw [rounds_succ]
        go_wp2_with (first | (go_at_call 49; ((with_reducible refine (actPartsB_any _ _).mono ?_); rintro _ _ ⟨rfl, g, rfl⟩)) | (go_at_call 50; ((with_reducible refine (HM.out _).mono ?_); rintro _ _ ⟨rfl, rfl⟩)) | (go_at_call 39; ((with_reducible refine (mayOp_any _ _ _ _ _ _ _ _ _ lx _ HX.out hn (H1.out.gr (gri))).mono ?_); rintro _ _ ⟨rfl, g, rfl⟩)) | (go_at_call 51; ((with_reducible refine (HB.out _ (H3.out.gr (gri))).mono ?_); rintro _ _ ⟨rfl, g, rfl⟩)) | (go_at_call 53; ((with_reducible refine (sameAct_any _ _ _ _ _ _ _ _ _ _ _ _ _ _ _ _ _ _ _ _ _ _ _ _ _ _ _ _ _ _ _ _ lx [] px [] _ HX.out List.length_nil hn (H1.out.gr (gri)) Row.nil HPX.out List.length_nil hpn (by omega) (H3.out.gr (gri)) Row.nil).mono ?_); rintro _ _ ⟨rfl, g, rfl⟩)))
      go_ret
      exact ⟨ret_bool (by simp [sameActB, q0, sameB_refl, Bool.and_assoc]), gri⟩
    · rcases Bool.eq_false_or_eq_true (xn == 1) with z1 | z1
      · have q0 : nodeB xn = true := by simp [nodeB, z0, z1]
        go_enter Tryd.func22, Tryd.ntmps22
        go_wp2_with (first | (go_at_call 49; ((with_reducible refine (actPartsB_any _ _).mono ?_); rintro _ _ ⟨rfl, g, rfl⟩)) | (go_at_call 50; ((with_reducible refine (HM.out _).mono ?_); rintro _ _ ⟨rfl, rfl⟩)) | (go_at_call 39; ((with_reducible refine (mayOp_any _ _ _ _ _ _ _ _ _ lx _ HX.out hn (H1.out.gr (gri))).mono ?_); rintro _ _ ⟨rfl, g, rfl⟩)) | (go_at_call 51; ((with_reducible refine (HB.out _ (H3.out.gr (gri))).mono ?_); rintro _ _ ⟨rfl, g, rfl⟩)) | (go_at_call 53; ((with_reducible refine (sameAct_any _ _ _ _ _ _ _ _ _ _ _ _ _ _ _ _ _ _ _ _ _ _ _ _ _ _ _ _ _ _ _ _ lx [] px [] _ HX.out List.length_nil hn (H1.out.gr (gri)) Row.nil HPX.out List.length_nil hpn (by omega) (H3.out.gr (gri)) Row.nil).mono ?_); rintro _ _ ⟨rfl, g, rfl⟩)))
        refine wp_loop_rounds 2 ?_
        iterate 2
          rw [rounds_succ]
          go_wp2_with (first | (go_at_call 49; ((with_reducible refine (actPartsB_any _ _).mono ?_); rintro _ _ ⟨rfl, g, rfl⟩)) | (go_at_call 50; ((with_reducible refine (HM.out _).mono ?_); rintro _ _ ⟨rfl, rfl⟩)) | (go_at_call 39; ((with_reducible refine (mayOp_any _ _ _ _ _ _ _ _ _ lx _ HX.out hn (H1.out.gr (gri))).mono ?_); rintro _ _ ⟨rfl, g, rfl⟩)) | (go_at_call 51; ((with_reducible refine (HB.out _ (H3.out.gr (gri))).mono ?_); rintro _ _ ⟨rfl, g, rfl⟩)) | (go_at_call 53; ((with_reducible refine (sameAct_any _ _ _ _ _ _ _ _ _ _ _ _ _ _ _ _ _ _ _ _ _ _ _ _ _ _ _ _ _ _ _ _ lx [] px [] _ HX.out List.length_nil hn (H1.out.gr (gri)) Row.nil HPX.out List.length_nil hpn (by omega) (H3.out.gr (gri)) Row.nil).mono ?_); rintro _ _ ⟨rfl, g, rfl⟩)))
        go_ret
        exact ⟨ret_bool (by simp [sameActB, q0, sameB_refl, Bool.and_assoc]), gri⟩
      · have q0 : nodeB xn = false := by simp [nodeB, z0, z1]
        go_enter Tryd.func22, Tryd.ntmps22
        go_wp2_with (first | (go_at_call 49; ((with_reducible refine (actPartsB_any _ _).mono ?_); rintro _ _ ⟨rfl, g, rfl⟩)) | (go_at_call 50; ((with_reducible refine (HM.out _).mono ?_); rintro _ _ ⟨rfl, rfl⟩)) | (go_at_call 39; ((with_reducible refine (mayOp_any _ _ _ _ _ _ _ _ _ lx _ HX.out hn (H1.out.gr (gri))).mono ?_); rintro _ _ ⟨rfl, g, rfl⟩)) | (go_at_call 51; ((with_reducible refine (HB.out _ (H3.out.gr (gri))).mono ?_); rintro _ _ ⟨rfl, g, rfl⟩)) | (go_at_call 53; ((with_reducible refine (sameAct_any _ _ _ _ _ _ _ _ _ _ _ _ _ _ _ _ _ _ _ _ _ _ _ _ _ _ _ _ _ _ _ _ lx [] px [] _ HX.out List.length_nil hn (H1.out.gr (gri)) Row.nil HPX.out List.length_nil hpn (by omega) (H3.out.gr (gri)) Row.nil).mono ?_); rintro _ _ ⟨rfl, g, rfl⟩)))
        refine wp_loop_rounds 2 ?_
        iterate 2
          rw [rounds_succ]
          go_wp2_with (first | (go_at_call 49; ((with_reducible refine (actPartsB_any _ _).mono ?_); rintro _ _ ⟨rfl, g, rfl⟩)) | (go_at_call 50; ((with_reducible refine (HM.out _).mono ?_); rintro _ _ ⟨rfl, rfl⟩)) | (go_at_call 39; ((with_reducible refine (mayOp_any _ _ _ _ _ _ _ _ _ lx _ HX.out hn (H1.out.gr (gri))).mono ?_); rintro _ _ ⟨rfl, g, rfl⟩)) | (go_at_call 51; ((with_reducible refine (HB.out _ (H3.out.gr (gri))).mono ?_); rintro _ _ ⟨rfl, g, rfl⟩)) | (go_at_call 53; ((with_reducible refine (sameAct_any _ _ _ _ _ _ _ _ _ _ _ _ _ _ _ _ _ _ _ _ _ _ _ _ _ _ _ _ _ _ _ _ lx [] px [] _ HX.out List.length_nil hn (H1.out.gr (gri)) Row.nil HPX.out List.length_nil hpn (by omega) (H3.out.gr (gri)) Row.nil).mono ?_); rintro _ _ ⟨rfl, g, rfl⟩)))
        go_ret
        exact ⟨ret_bool (by simp [sameActB, q0, sameB_refl, Bool.and_assoc]), gri⟩
set_option maxRecDepth 100000 in
set_option maxHeartbeats 8000000 in
theorem mayAct_9 (xn xm xOk xOv xOt xOs xOa xOc : Int) (xOD xP : Option Addr) (xOn xOq xpn xpq : Nat) (xf : Bool) (lx : List UInt8) (px : List Int) (w : World) (hx : lx.length = xOn) (hn : xOn ≤ 9223372036854775807) (h1 : Row bv w xOD lx) (hpx : px.length = xpn) (hpn : xpn ≤ 9223372036854775807) (h3 : Row (Value.int .i64) w xP px) : Calls Tryd.prog 22 #[(Value.agg #[.int .i64 9, .int .i64 xn, .int .i64 xm, .int .i64 xOk, .int .u64 xOv, .int .u64 xOt, .int .i64 xOs, .int .i64 xOa, .int .i64 xOc, .slice xOD xOn xOq, .bool xf, .slice xP xpn xpq])] w fun e w' => e = .returned (.bool (mayActB 9 xn xm xOk xOv xOt xOs xOa xOc xf xOn xpn lx px)) ∧ Gr w w' := by
  have H1 := Lib.hid h1; clear h1
  have H3 := Lib.hid h3; clear h3
  have HX := Lib.hid hx; clear hx
  have HPX := Lib.hid hpx; clear hpx
  have en : actPartsB 9 = ⟨#[100, 110]⟩ := rfl
  have E0 : mayActB 9 xn xm xOk xOv xOt xOs xOa xOc xf xOn xpn lx px = ((nodeB xn) && (mayN xm) && (sameB xOk xOv xOt xOs xOa xOc 0 0 0 0 0 0 lx []) && (xf == false) && (px == [])) := rfl
  rw [E0]; clear E0
  have HM := Lib.hid (fun W => (may26_any xm W).mono (R' := fun e w' => e = .returned (.bool (mayN xm)) ∧ W = w') fun _ _ h => h)
  have HB := Lib.hid (fun W (h : Row (Value.int .i64) W xP px) => (containsI_any xP xpn xpq px W HPX.out hpn h).mono (R' := fun e w' => e = .returned (.bool (badP px)) ∧ Gr W w') fun _ _ h => h)
  cases xf
  all_goals
    rcases Bool.eq_false_or_eq_true (xn == 0) with z0 | z0
    · have q0 : nodeB xn = true := by simp [nodeB, z0]
      rcases Bool.eq_false_or_eq_true (mayN xm) with q1 | q1
      · go_enter Tryd.func22, Tryd.ntmps22
        go_wp2_with (first | (go_at_call 49; ((with_reducible refine (actPartsB_any _ _).mono ?_); rintro _ _ ⟨rfl, g, rfl⟩)) | (go_at_call 50; ((with_reducible refine (HM.out _).mono ?_); rintro _ _ ⟨rfl, rfl⟩)) | (go_at_call 39; ((with_reducible refine (mayOp_any _ _ _ _ _ _ _ _ _ lx _ HX.out hn (H1.out.gr (gri))).mono ?_); rintro _ _ ⟨rfl, g, rfl⟩)) | (go_at_call 51; ((with_reducible refine (HB.out _ (H3.out.gr (gri))).mono ?_); rintro _ _ ⟨rfl, g, rfl⟩)) | (go_at_call 53; ((with_reducible refine (sameAct_any _ _ _ _ _ _ _ _ _ _ _ _ _ _ _ _ _ _ _ _ _ _ _ _ _ _ _ _ _ _ _ _ lx [] px [] _ HX.out List.length_nil hn (H1.out.gr (gri)) Row.nil HPX.out List.length_nil hpn (by omega) (H3.out.gr (gri)) Row.nil).mono ?_); rintro _ _ ⟨rfl, g, rfl⟩)))
        refine wp_loop_rounds 3 ?_
        iterate 3
          rw [rounds_succ]
          go_wp2_with (first | (go_at_call 49; ((with_reducible refine (actPartsB_any _ _).mono ?_); rintro _ _ ⟨rfl, g, rfl⟩)) | (go_at_call 50; ((with_reducible refine (HM.out _).mono ?_); rintro _ _ ⟨rfl, rfl⟩)) | (go_at_call 39; ((with_reducible refine (mayOp_any _ _ _ _ _ _ _ _ _ lx _ HX.out hn (H1.out.gr (gri))).mono ?_); rintro _ _ ⟨rfl, g, rfl⟩)) | (go_at_call 51; ((with_reducible refine (HB.out _ (H3.out.gr (gri))).mono ?_); rintro _ _ ⟨rfl, g, rfl⟩)) | (go_at_call 53; ((with_reducible refine (sameAct_any _ _ _ _ _ _ _ _ _ _ _ _ _ _ _ _ _ _ _ _ _ _ _ _ _ _ _ _ _ _ _ _ lx [] px [] _ HX.out List.length_nil hn (H1.out.gr (gri)) Row.nil HPX.out List.length_nil hpn (by omega) (H3.out.gr (gri)) Row.nil).mono ?_); rintro _ _ ⟨rfl, g, rfl⟩)))
        go_ret
        exact ⟨ret_bool (by simp [sameActB, q0, q1, sameB_refl, Bool.and_assoc]), gri⟩
      · go_enter Tryd.func22, Tryd.ntmps22
        go_wp2_with (first | (go_at_call 49; ((with_reducible refine (actPartsB_any _ _).mono ?_); rintro _ _ ⟨rfl, g, rfl⟩)) | (go_at_call 50; ((with_reducible refine (HM.out _).mono ?_); rintro _ _ ⟨rfl, rfl⟩)) | (go_at_call 39; ((with_reducible refine (mayOp_any _ _ _ _ _ _ _ _ _ lx _ HX.out hn (H1.out.gr (gri))).mono ?_); rintro _ _ ⟨rfl, g, rfl⟩)) | (go_at_call 51; ((with_reducible refine (HB.out _ (H3.out.gr (gri))).mono ?_); rintro _ _ ⟨rfl, g, rfl⟩)) | (go_at_call 53; ((with_reducible refine (sameAct_any _ _ _ _ _ _ _ _ _ _ _ _ _ _ _ _ _ _ _ _ _ _ _ _ _ _ _ _ _ _ _ _ lx [] px [] _ HX.out List.length_nil hn (H1.out.gr (gri)) Row.nil HPX.out List.length_nil hpn (by omega) (H3.out.gr (gri)) Row.nil).mono ?_); rintro _ _ ⟨rfl, g, rfl⟩)))
        refine wp_loop_rounds 3 ?_
        iterate 3
          rw [rounds_succ]
          go_wp2_with (first | (go_at_call 49; ((with_reducible refine (actPartsB_any _ _).mono ?_); rintro _ _ ⟨rfl, g, rfl⟩)) | (go_at_call 50; ((with_reducible refine (HM.out _).mono ?_); rintro _ _ ⟨rfl, rfl⟩)) | (go_at_call 39; ((with_reducible refine (mayOp_any _ _ _ _ _ _ _ _ _ lx _ HX.out hn (H1.out.gr (gri))).mono ?_); rintro _ _ ⟨rfl, g, rfl⟩)) | (go_at_call 51; ((with_reducible refine (HB.out _ (H3.out.gr (gri))).mono ?_); rintro _ _ ⟨rfl, g, rfl⟩)) | (go_at_call 53; ((with_reducible refine (sameAct_any _ _ _ _ _ _ _ _ _ _ _ _ _ _ _ _ _ _ _ _ _ _ _ _ _ _ _ _ _ _ _ _ lx [] px [] _ HX.out List.length_nil hn (H1.out.gr (gri)) Row.nil HPX.out List.length_nil hpn (by omega) (H3.out.gr (gri)) Row.nil).mono ?_); rintro _ _ ⟨rfl, g, rfl⟩)))
        go_ret
        exact ⟨ret_bool (by simp [sameActB, q0, q1, sameB_refl, Bool.and_assoc]), gri⟩
    · rcases Bool.eq_false_or_eq_true (xn == 1) with z1 | z1
      · have q0 : nodeB xn = true := by simp [nodeB, z0, z1]
        rcases Bool.eq_false_or_eq_true (mayN xm) with q1 | q1
        · go_enter Tryd.func22, Tryd.ntmps22
          go_wp2_with (first | (go_at_call 49; ((with_reducible refine (actPartsB_any _ _).mono ?_); rintro _ _ ⟨rfl, g, rfl⟩)) | (go_at_call 50; ((with_reducible refine (HM.out _).mono ?_); rintro _ _ ⟨rfl, rfl⟩)) | (go_at_call 39; ((with_reducible refine (mayOp_any _ _ _ _ _ _ _ _ _ lx _ HX.out hn (H1.out.gr (gri))).mono ?_); rintro _ _ ⟨rfl, g, rfl⟩)) | (go_at_call 51; ((with_reducible refine (HB.out _ (H3.out.gr (gri))).mono ?_); rintro _ _ ⟨rfl, g, rfl⟩)) | (go_at_call 53; ((with_reducible refine (sameAct_any _ _ _ _ _ _ _ _ _ _ _ _ _ _ _ _ _ _ _ _ _ _ _ _ _ _ _ _ _ _ _ _ lx [] px [] _ HX.out List.length_nil hn (H1.out.gr (gri)) Row.nil HPX.out List.length_nil hpn (by omega) (H3.out.gr (gri)) Row.nil).mono ?_); rintro _ _ ⟨rfl, g, rfl⟩)))
          refine wp_loop_rounds 3 ?_
          iterate 3
            rw [rounds_succ]
            go_wp2_with (first | (go_at_call 49; ((with_reducible refine (actPartsB_any _ _).mono ?_); rintro _ _ ⟨rfl, g, rfl⟩)) | (go_at_call 50; ((with_reducible refine (HM.out _).mono ?_); rintro _ _ ⟨rfl, rfl⟩)) | (go_at_call 39; ((with_reducible refine (mayOp_any _ _ _ _ _ _ _ _ _ lx _ HX.out hn (H1.out.gr (gri))).mono ?_); rintro _ _ ⟨rfl, g, rfl⟩)) | (go_at_call 51; ((with_reducible refine (HB.out _ (H3.out.gr (gri))).mono ?_); rintro _ _ ⟨rfl, g, rfl⟩)) | (go_at_call 53; ((with_reducible refine (sameAct_any _ _ _ _ _ _ _ _ _ _ _ _ _ _ _ _ _ _ _ _ _ _ _ _ _ _ _ _ _ _ _ _ lx [] px [] _ HX.out List.length_nil hn (H1.out.gr (gri)) Row.nil HPX.out List.length_nil hpn (by omega) (H3.out.gr (gri)) Row.nil).mono ?_); rintro _ _ ⟨rfl, g, rfl⟩)))
          go_ret
          exact ⟨ret_bool (by simp [sameActB, q0, q1, sameB_refl, Bool.and_assoc]), gri⟩
        · go_enter Tryd.func22, Tryd.ntmps22
          go_wp2_with (first | (go_at_call 49; ((with_reducible refine (actPartsB_any _ _).mono ?_); rintro _ _ ⟨rfl, g, rfl⟩)) | (go_at_call 50; ((with_reducible refine (HM.out _).mono ?_); rintro _ _ ⟨rfl, rfl⟩)) | (go_at_call 39; ((with_reducible refine (mayOp_any _ _ _ _ _ _ _ _ _ lx _ HX.out hn (H1.out.gr (gri))).mono ?_); rintro _ _ ⟨rfl, g, rfl⟩)) | (go_at_call 51; ((with_reducible refine (HB.out _ (H3.out.gr (gri))).mono ?_); rintro _ _ ⟨rfl, g, rfl⟩)) | (go_at_call 53; ((with_reducible refine (sameAct_any _ _ _ _ _ _ _ _ _ _ _ _ _ _ _ _ _ _ _ _ _ _ _ _ _ _ _ _ _ _ _ _ lx [] px [] _ HX.out List.length_nil hn (H1.out.gr (gri)) Row.nil HPX.out List.length_nil hpn (by omega) (H3.out.gr (gri)) Row.nil).mono ?_); rintro _ _ ⟨rfl, g, rfl⟩)))
          refine wp_loop_rounds 3 ?_
          iterate 3
            rw [rounds_succ]
            go_wp2_with (first | (go_at_call 49; ((with_reducible refine (actPartsB_any _ _).mono ?_); rintro _ _ ⟨rfl, g, rfl⟩)) | (go_at_call 50; ((with_reducible refine (HM.out _).mono ?_); rintro _ _ ⟨rfl, rfl⟩)) | (go_at_call 39; ((with_reducible refine (mayOp_any _ _ _ _ _ _ _ _ _ lx _ HX.out hn (H1.out.gr (gri))).mono ?_); rintro _ _ ⟨rfl, g, rfl⟩)) | (go_at_call 51; ((with_reducible refine (HB.out _ (H3.out.gr (gri))).mono ?_); rintro _ _ ⟨rfl, g, rfl⟩)) | (go_at_call 53; ((with_reducible refine (sameAct_any _ _ _ _ _ _ _ _ _ _ _ _ _ _ _ _ _ _ _ _ _ _ _ _ _ _ _ _ _ _ _ _ lx [] px [] _ HX.out List.length_nil hn (H1.out.gr (gri)) Row.nil HPX.out List.length_nil hpn (by omega) (H3.out.gr (gri)) Row.nil).mono ?_); rintro _ _ ⟨rfl, g, rfl⟩)))
          go_ret
          exact ⟨ret_bool (by simp [sameActB, q0, q1, sameB_refl, Bool.and_assoc]), gri⟩
      · have q0 : nodeB xn = false := by simp [nodeB, z0, z1]
        go_enter Tryd.func22, Tryd.ntmps22
        go_wp2_with (first | (go_at_call 49; ((with_reducible refine (actPartsB_any _ _).mono ?_); rintro _ _ ⟨rfl, g, rfl⟩)) | (go_at_call 50; ((with_reducible refine (HM.out _).mono ?_); rintro _ _ ⟨rfl, rfl⟩)) | (go_at_call 39; ((with_reducible refine (mayOp_any _ _ _ _ _ _ _ _ _ lx _ HX.out hn (H1.out.gr (gri))).mono ?_); rintro _ _ ⟨rfl, g, rfl⟩)) | (go_at_call 51; ((with_reducible refine (HB.out _ (H3.out.gr (gri))).mono ?_); rintro _ _ ⟨rfl, g, rfl⟩)) | (go_at_call 53; ((with_reducible refine (sameAct_any _ _ _ _ _ _ _ _ _ _ _ _ _ _ _ _ _ _ _ _ _ _ _ _ _ _ _ _ _ _ _ _ lx [] px [] _ HX.out List.length_nil hn (H1.out.gr (gri)) Row.nil HPX.out List.length_nil hpn (by omega) (H3.out.gr (gri)) Row.nil).mono ?_); rintro _ _ ⟨rfl, g, rfl⟩)))
        refine wp_loop_rounds 3 ?_
        iterate 3
          rw [rounds_succ]
          go_wp2_with (first | (go_at_call 49; ((with_reducible refine (actPartsB_any _ _).mono ?_); rintro _ _ ⟨rfl, g, rfl⟩)) | (go_at_call 50; ((with_reducible refine (HM.out _).mono ?_); rintro _ _ ⟨rfl, rfl⟩)) | (go_at_call 39; ((with_reducible refine (mayOp_any _ _ _ _ _ _ _ _ _ lx _ HX.out hn (H1.out.gr (gri))).mono ?_); rintro _ _ ⟨rfl, g, rfl⟩)) | (go_at_call 51; ((with_reducible refine (HB.out _ (H3.out.gr (gri))).mono ?_); rintro _ _ ⟨rfl, g, rfl⟩)) | (go_at_call 53; ((with_reducible refine (sameAct_any _ _ _ _ _ _ _ _ _ _ _ _ _ _ _ _ _ _ _ _ _ _ _ _ _ _ _ _ _ _ _ _ lx [] px [] _ HX.out List.length_nil hn (H1.out.gr (gri)) Row.nil HPX.out List.length_nil hpn (by omega) (H3.out.gr (gri)) Row.nil).mono ?_); rintro _ _ ⟨rfl, g, rfl⟩)))
        go_ret
        exact ⟨ret_bool (by simp [sameActB, q0, sameB_refl, Bool.and_assoc]), gri⟩
set_option maxRecDepth 100000 in
set_option maxHeartbeats 8000000 in
theorem mayAct_10 (xn xm xOk xOv xOt xOs xOa xOc : Int) (xOD xP : Option Addr) (xOn xOq xpn xpq : Nat) (xf : Bool) (lx : List UInt8) (px : List Int) (w : World) (hx : lx.length = xOn) (hn : xOn ≤ 9223372036854775807) (h1 : Row bv w xOD lx) (hpx : px.length = xpn) (hpn : xpn ≤ 9223372036854775807) (h3 : Row (Value.int .i64) w xP px) : Calls Tryd.prog 22 #[(Value.agg #[.int .i64 10, .int .i64 xn, .int .i64 xm, .int .i64 xOk, .int .u64 xOv, .int .u64 xOt, .int .i64 xOs, .int .i64 xOa, .int .i64 xOc, .slice xOD xOn xOq, .bool xf, .slice xP xpn xpq])] w fun e w' => e = .returned (.bool (mayActB 10 xn xm xOk xOv xOt xOs xOa xOc xf xOn xpn lx px)) ∧ Gr w w' := by
  have H1 := Lib.hid h1; clear h1
  have H3 := Lib.hid h3; clear h3
  have HX := Lib.hid hx; clear hx
  have HPX := Lib.hid hpx; clear hpx
  have en : actPartsB 10 = ⟨#[]⟩ := rfl
  have E0 : mayActB 10 xn xm xOk xOv xOt xOs xOa xOc xf xOn xpn lx px = ((xn == 0) && (xm == 0) && (sameB xOk xOv xOt xOs xOa xOc 0 0 0 0 0 0 lx []) && (xf == false) && (px == [])) := rfl
  rw [E0]; clear E0
  have HM := Lib.hid (fun W => (may26_any xm W).mono (R' := fun e w' => e = .returned (.bool (mayN xm)) ∧ W = w') fun _ _ h => h)
  have HB := Lib.hid (fun W (h : Row (Value.int .i64) W xP px) => (containsI_any xP xpn xpq px W HPX.out hpn h).mono (R' := fun e w' => e = .returned (.bool (badP px)) ∧ Gr W w') fun _ _ h => h)
  cases xf
  all_goals
    go_enter Tryd.func22, Tryd.ntmps22
    go_wp2_with (first | (go_at_call 49; ((with_reducible refine (actPartsB_any _ _).mono ?_); rintro _ _ ⟨rfl, g, rfl⟩)) | (go_at_call 50; ((with_reducible refine (HM.out _).mono ?_); rintro _ _ ⟨rfl, rfl⟩)) | (go_at_call 39; ((with_reducible refine (mayOp_any _ _ _ _ _ _ _ _ _ lx _ HX.out hn (H1.out.gr (gri))).mono ?_); rintro _ _ ⟨rfl, g, rfl⟩)) | (go_at_call 51; ((with_reducible refine (HB.out _ (H3.out.gr (gri))).mono ?_); rintro _ _ ⟨rfl, g, rfl⟩)) | (go_at_call 53; ((with_reducible refine (sameAct_any _ _ _ _ _ _ _ _ _ _ _ _ _ _ _ _ _ _ _ _ _ _ _ _ _ _ _ _ _ _ _ _ lx [] px [] _ HX.out List.length_nil hn (H1.out.gr (gri)) Row.nil HPX.out List.length_nil hpn (by omega) (H3.out.gr (gri)) Row.nil).mono ?_); rintro _ _ ⟨rfl, g, rfl⟩)))
    refine wp_loop_rounds 1 ?_
    rw [rounds_succ]
    go_wp2_with (first | (go_at_call 49; ((with_reducible refine (actPartsB_any _ _).mono ?_); rintro _ _ ⟨rfl, g, rfl⟩)) | (go_at_call 50; ((with_reducible refine (HM.out _).mono ?_); rintro _ _ ⟨rfl, rfl⟩)) | (go_at_call 39; ((with_reducible refine (mayOp_any _ _ _ _ _ _ _ _ _ lx _ HX.out hn (H1.out.gr (gri))).mono ?_); rintro _ _ ⟨rfl, g, rfl⟩)) | (go_at_call 51; ((with_reducible refine (HB.out _ (H3.out.gr (gri))).mono ?_); rintro _ _ ⟨rfl, g, rfl⟩)) | (go_at_call 53; ((with_reducible refine (sameAct_any _ _ _ _ _ _ _ _ _ _ _ _ _ _ _ _ _ _ _ _ _ _ _ _ _ _ _ _ _ _ _ _ lx [] px [] _ HX.out List.length_nil hn (H1.out.gr (gri)) Row.nil HPX.out List.length_nil hpn (by omega) (H3.out.gr (gri)) Row.nil).mono ?_); rintro _ _ ⟨rfl, g, rfl⟩)))
    go_ret
    exact ⟨ret_bool (by simp [sameActB, sameB_refl, Bool.and_assoc]), gri⟩
end Go.Proofs.YtgjdgafoidppaaaDoor
namespace Go.Proofs.YtgjdgafoidppaaaDoor
open Go.RowKit
set_option linter.unusedVariables false
set_option linter.unusedSimpArgs false
set_option linter.unnecessarySimpa false
set_option maxRecDepth 100000 in
set_option maxHeartbeats 8000000 in
theorem mayAct_off (xk : Int) (hk : xk < 1 ∨ 10 < xk) (xn xm xOk xOv xOt xOs xOa xOc : Int) (xOD xP : Option Addr) (xOn xOq xpn xpq : Nat) (xf : Bool) (lx : List UInt8) (px : List Int) (w : World) (hx : lx.length = xOn) (hn : xOn ≤ 9223372036854775807) (h1 : Row bv w xOD lx) (hpx : px.length = xpn) (hpn : xpn ≤ 9223372036854775807) (h3 : Row (Value.int .i64) w xP px) : Calls Tryd.prog 22 #[(Value.agg #[.int .i64 xk, .int .i64 xn, .int .i64 xm, .int .i64 xOk, .int .u64 xOv, .int .u64 xOt, .int .i64 xOs, .int .i64 xOa, .int .i64 xOc, .slice xOD xOn xOq, .bool xf, .slice xP xpn xpq])] w fun e w' => e = .returned (.bool (mayActB xk xn xm xOk xOv xOt xOs xOa xOc xf xOn xpn lx px)) ∧ Gr w w' := by
  have en : actPartsB xk = ⟨#[]⟩ := by
    by_cases h0 : xk = 0
    · subst h0; rfl
    · exact actPartsB_off xk (by omega)
  have E0 : mayActB xk xn xm xOk xOv xOt xOs xOa xOc xf xOn xpn lx px = false := by
    unfold mayActB
    repeat (rw [if_neg (by omega)])
  rw [E0]; clear E0
  have h7 : (xk == 7) = false := by simp; omega
  rcases hk with hk | hk
  · have h2 : decide (1 ≤ xk) = false := by simpa using hk
    cases xf
    all_goals
      go_enter Tryd.func22, Tryd.ntmps22
      go_wp2_with (go_at_call 49; ((with_reducible refine (actPartsB_any _ _).mono ?_); rintro _ _ ⟨rfl, g, rfl⟩))
      refine wp_loop_rounds 1 ?_
      rw [rounds_succ]
      go_wp2_with (go_at_call 49; ((with_reducible refine (actPartsB_any _ _).mono ?_); rintro _ _ ⟨rfl, g, rfl⟩))
      go_ret
      exact ⟨rfl, gri⟩
  · have h2 : decide (xk ≤ 10) = false := by simpa using hk
    have h3 : 1 ≤ xk := by omega
    cases xf
    all_goals
      go_enter Tryd.func22, Tryd.ntmps22
      go_wp2_with (go_at_call 49; ((with_reducible refine (actPartsB_any _ _).mono ?_); rintro _ _ ⟨rfl, g, rfl⟩))
      refine wp_loop_rounds 1 ?_
      rw [rounds_succ]
      go_wp2_with (go_at_call 49; ((with_reducible refine (actPartsB_any _ _).mono ?_); rintro _ _ ⟨rfl, g, rfl⟩))
      go_ret
      exact ⟨rfl, gri⟩
theorem mayAct_any (xk : Int) (xn xm xOk xOv xOt xOs xOa xOc : Int) (xOD xP : Option Addr) (xOn xOq xpn xpq : Nat) (xf : Bool) (lx : List UInt8) (px : List Int) (w : World) (hx : lx.length = xOn) (hn : xOn ≤ 9223372036854775807) (h1 : Row bv w xOD lx) (hpx : px.length = xpn) (hpn : xpn ≤ 9223372036854775807) (h3 : Row (Value.int .i64) w xP px) : Calls Tryd.prog 22 #[(Value.agg #[.int .i64 xk, .int .i64 xn, .int .i64 xm, .int .i64 xOk, .int .u64 xOv, .int .u64 xOt, .int .i64 xOs, .int .i64 xOa, .int .i64 xOc, .slice xOD xOn xOq, .bool xf, .slice xP xpn xpq])] w fun e w' => e = .returned (.bool (mayActB xk xn xm xOk xOv xOt xOs xOa xOc xf xOn xpn lx px)) ∧ Gr w w' := by
  by_cases h : xk < 1 ∨ 10 < xk
  · exact mayAct_off xk h xn xm xOk xOv xOt xOs xOa xOc xOD xP xOn xOq xpn xpq xf lx px w hx hn h1 hpx hpn h3
  · have h4 : xk = 1 ∨ xk = 2 ∨ xk = 3 ∨ xk = 4 ∨ xk = 5 ∨ xk = 6 ∨ xk = 7 ∨ xk = 8 ∨ xk = 9 ∨ xk = 10 := by omega
    rcases h4 with rfl | rfl | rfl | rfl | rfl | rfl | rfl | rfl | rfl | rfl
    · exact mayAct_1 xn xm xOk xOv xOt xOs xOa xOc xOD xP xOn xOq xpn xpq xf lx px w hx hn h1 hpx hpn h3
    · exact mayAct_2 xn xm xOk xOv xOt xOs xOa xOc xOD xP xOn xOq xpn xpq xf lx px w hx hn h1 hpx hpn h3
    · exact mayAct_3 xn xm xOk xOv xOt xOs xOa xOc xOD xP xOn xOq xpn xpq xf lx px w hx hn h1 hpx hpn h3
    · exact mayAct_4 xn xm xOk xOv xOt xOs xOa xOc xOD xP xOn xOq xpn xpq xf lx px w hx hn h1 hpx hpn h3
    · exact mayAct_5 xn xm xOk xOv xOt xOs xOa xOc xOD xP xOn xOq xpn xpq xf lx px w hx hn h1 hpx hpn h3
    · exact mayAct_6 xn xm xOk xOv xOt xOs xOa xOc xOD xP xOn xOq xpn xpq xf lx px w hx hn h1 hpx hpn h3
    · exact mayAct_7 xn xm xOk xOv xOt xOs xOa xOc xOD xP xOn xOq xpn xpq xf lx px w hx hn h1 hpx hpn h3
    · exact mayAct_8 xn xm xOk xOv xOt xOs xOa xOc xOD xP xOn xOq xpn xpq xf lx px w hx hn h1 hpx hpn h3
    · exact mayAct_9 xn xm xOk xOv xOt xOs xOa xOc xOD xP xOn xOq xpn xpq xf lx px w hx hn h1 hpx hpn h3
    · exact mayAct_10 xn xm xOk xOv xOt xOs xOa xOc xOD xP xOn xOq xpn xpq xf lx px w hx hn h1 hpx hpn h3
end Go.Proofs.YtgjdgafoidppaaaDoor
