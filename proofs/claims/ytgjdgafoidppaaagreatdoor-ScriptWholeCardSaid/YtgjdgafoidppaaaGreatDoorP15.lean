/- The reference's MayAct. Conditions: what is read stands in memory. A region that draws its order, among whose operations are some that read, compute, or call functions that only make new memory and hand back one value whatever the world, and some others, one forced behind the other, of any effect: one walk, the others last. Conditions: each step of the others is known. The reference's opOf. Conditions: the words, four at least, stand in memory; words of at most 200000 bytes. -/
import Derived.Test.YtgjdgafoidppaaaGreatDoorP14
import Derived.Test.YtgjdgafoidppaaaGreatDoorP09
import Derived.Test.YtgjdgafoidppaaaGreatDoorP12
namespace Go.Proofs.YtgjdgafoidppaaaGreatDoor
open Go.RowKit
set_option linter.unusedVariables false
set_option linter.unusedSimpArgs false
set_option linter.unnecessarySimpa false
set_option maxRecDepth 100000 in
set_option maxHeartbeats 4000000 in
theorem mayAct26_early (xk xn xm xOk xOv xOt xOs xOa xOc : Int) (xOD xP : Option Addr) (xOn xOq xpn xpq : Nat) (xf : Bool) (lx : List UInt8) (px : List Int) (w : World) (h : xk < 1 ∨ 10 < xk ∨ xn < 0 ∨ 1 < xn ∨ xm < 0 ∨ 1000000 < xm ∨ 100 < xpn) : Calls Tryz.prog 23 #[(Value.agg #[.int .i64 xk, .int .i64 xn, .int .i64 xm, .int .i64 xOk, .int .u64 xOv, .int .u64 xOt, .int .i64 xOs, .int .i64 xOa, .int .i64 xOc, .slice xOD xOn xOq, .bool xf, .slice xP xpn xpq])] w fun e w' => e = .returned (.bool false) ∧ Gr w w' := by
 by_cases h0 : xk < 1
 ·clear h
  go_enter Tryz.func23, Tryz.ntmps23
  go_wp2
  go_ret
  exact ⟨rfl, gri⟩
 have b0 : decide (xk < 1) = false := by simpa using h0
 by_cases h1 : 10 < xk
 ·clear h
  go_enter Tryz.func23, Tryz.ntmps23
  go_wp2
  go_ret
  exact ⟨rfl, gri⟩
 have b1 : decide (10 < xk) = false := by simpa using h1
 by_cases h2 : xn < 0
 ·clear h
  go_enter Tryz.func23, Tryz.ntmps23
  go_wp2
  go_ret
  exact ⟨rfl, gri⟩
 have b2 : decide (xn < 0) = false := by simpa using h2
 by_cases h3 : 1 < xn
 ·clear h
  go_enter Tryz.func23, Tryz.ntmps23
  go_wp2
  go_ret
  exact ⟨rfl, gri⟩
 have b3 : decide (1 < xn) = false := by simpa using h3
 by_cases h4 : xm < 0
 ·clear h
  go_enter Tryz.func23, Tryz.ntmps23
  go_wp2
  go_ret
  exact ⟨rfl, gri⟩
 have b4 : decide (xm < 0) = false := by simpa using h4
 by_cases h5 : 1000000 < xm
 ·clear h
  go_enter Tryz.func23, Tryz.ntmps23
  go_wp2
  go_ret
  exact ⟨rfl, gri⟩
 have b5 : decide (1000000 < xm) = false := by simpa using h5
 have h9 : (100 : Int) < (xpn : Int) := by omega
 clear h
 go_enter Tryz.func23, Tryz.ntmps23
 go_wp2
 go_ret
 exact ⟨rfl, gri⟩
set_option maxRecDepth 100000 in
set_option maxHeartbeats 8000000 in
theorem mayAct26_1 (xn xm xOk xOv xOt xOs xOa xOc : Int) (xOD xP : Option Addr) (xOn xOq xpn xpq : Nat) (xf : Bool) (lx : List UInt8) (px : List Int) (w : World) (hx : lx.length = xOn) (hn : xOn ≤ 9223372036854775807) (h1 : Row bv w xOD lx) (hpx : px.length = xpn) (h3 : Row (Value.int .i64) w xP px) (v0 : 0 ≤ xOv) (t0 : 0 ≤ xOt) (a1 : 0 ≤ xn) (a2 : xn ≤ 1) (a3 : 0 ≤ xm) (a4 : xm ≤ 1000000) (a5 : xpn ≤ 100) : Calls Tryz.prog 23 #[(Value.agg #[.int .i64 1, .int .i64 xn, .int .i64 xm, .int .i64 xOk, .int .u64 xOv, .int .u64 xOt, .int .i64 xOs, .int .i64 xOa, .int .i64 xOc, .slice xOD xOn xOq, .bool xf, .slice xP xpn xpq])] w fun e w' => e = .returned (.bool (mayActB 1 xn xm xOk xOv xOt xOs xOa xOc xf xOn xpn lx px)) ∧ Gr w w' := by
 have c1 : decide (xn < 0) = false := by simp; omega
 have c2 : decide (1 < xn) = false := by simp; omega
 have c3 : decide (xm < 0) = false := by simp; omega
 have c4 : decide (1000000 < xm) = false := by simp; omega
 have c5 : ¬ (100 : Int) < (xpn : Int) := by omega
 have hnode : nodeB xn = true := by simp [nodeB]; omega
 have hmm : mayN xm = true := by simp [mayN]; omega
 have HNODE := Lib.hid hnode; have HMM := Lib.hid hmm; have HX := Lib.hid hx; have HPX := Lib.hid hpx; have H1 := Lib.hid h1; have H3 := Lib.hid h3; clear hnode hmm hx hpx h1 h3
 have hall : mayActB 1 xn xm xOk xOv xOt xOs xOa xOc xf xOn xpn lx px = (nodeB xn && mayOpB xOk xOv xOt xOs xOa xOc xOn lx && (xm == 0) && (xf == false) && (px == [])) := rfl
 have HALL := Lib.hid hall; clear hall
 by_cases hy : xm = 0
 rotate_left
 ·have q1 : (xm != 0) = true := by simpa using hy
  have hq : (xm == 0) = false := by simpa using hy
  have HQ := Lib.hid hq; clear hy hq
  go_enter Tryz.func23, Tryz.ntmps23
  go_wp2
  go_ret
  exact ⟨ret_bool (by rw [HALL.out, HQ.out]; simp), gri⟩
 subst hy
 by_cases hp : 0 < xpn
 ·have q1 : (0 : Int) < (xpn : Int) := by omega
  have hq : (px == []) = false := by
   cases px with
   | nil => have := HPX.out; simp at this; omega
   | cons y r => rfl
  have HQ := Lib.hid hq; clear hp hq
  go_enter Tryz.func23, Tryz.ntmps23
  go_wp2
  go_ret
  exact ⟨ret_bool (by rw [HALL.out, HQ.out]; simp), gri⟩
 obtain rfl : xpn = 0 := by omega
 have hpe : px = [] := List.eq_nil_of_length_eq_zero HPX.out
 have HPE := Lib.hid hpe; clear hpe hp
 cases xf
 rotate_left
 ·go_enter Tryz.func23, Tryz.ntmps23
  go_wp2
  go_ret
  exact ⟨ret_bool (by rw [HALL.out]; simp), gri⟩
 skip
 all_goals
  go_enter Tryz.func23, Tryz.ntmps23
  go_wp2
  refine wp_loop_rounds 1 ?_
  rw [rounds_succ]
  go_wp2_with ((go_at_call 16; ((with_reducible refine (may13_any xOk xOv xOt xOs xOa xOc xOD xOn xOq lx _ HX.out hn v0 t0).mono ?_); rintro _ _ ⟨rfl, g, rfl⟩)))
  go_ret
  exact ⟨ret_bool (by rw [HALL.out, HPE.out]; simp [HNODE.out, HMM.out]), gri⟩
set_option maxRecDepth 100000 in
set_option maxHeartbeats 8000000 in
theorem mayAct26_2 (xn xm xOk xOv xOt xOs xOa xOc : Int) (xOD xP : Option Addr) (xOn xOq xpn xpq : Nat) (xf : Bool) (lx : List UInt8) (px : List Int) (w : World) (hx : lx.length = xOn) (hn : xOn ≤ 9223372036854775807) (h1 : Row bv w xOD lx) (hpx : px.length = xpn) (h3 : Row (Value.int .i64) w xP px) (v0 : 0 ≤ xOv) (t0 : 0 ≤ xOt) (a1 : 0 ≤ xn) (a2 : xn ≤ 1) (a3 : 0 ≤ xm) (a4 : xm ≤ 1000000) (a5 : xpn ≤ 100) : Calls Tryz.prog 23 #[(Value.agg #[.int .i64 2, .int .i64 xn, .int .i64 xm, .int .i64 xOk, .int .u64 xOv, .int .u64 xOt, .int .i64 xOs, .int .i64 xOa, .int .i64 xOc, .slice xOD xOn xOq, .bool xf, .slice xP xpn xpq])] w fun e w' => e = .returned (.bool (mayActB 2 xn xm xOk xOv xOt xOs xOa xOc xf xOn xpn lx px)) ∧ Gr w w' := by
 have c1 : decide (xn < 0) = false := by simp; omega
 have c2 : decide (1 < xn) = false := by simp; omega
 have c3 : decide (xm < 0) = false := by simp; omega
 have c4 : decide (1000000 < xm) = false := by simp; omega
 have c5 : ¬ (100 : Int) < (xpn : Int) := by omega
 have hnode : nodeB xn = true := by simp [nodeB]; omega
 have hmm : mayN xm = true := by simp [mayN]; omega
 have HNODE := Lib.hid hnode; have HMM := Lib.hid hmm; have HX := Lib.hid hx; have HPX := Lib.hid hpx; have H1 := Lib.hid h1; have H3 := Lib.hid h3; clear hnode hmm hx hpx h1 h3
 have hall : mayActB 2 xn xm xOk xOv xOt xOs xOa xOc xf xOn xpn lx px = (mayN xm && (xn == 0) && sameB xOk xOv xOt xOs xOa xOc 0 0 0 0 0 0 lx [] && (xf == false) && (px == [])) := rfl
 have HALL := Lib.hid hall; clear hall
 by_cases hz : xn = 0
 rotate_left
 ·have q1 : (xn != 0) = true := by simpa using hz
  have hq : (xn == 0) = false := by simpa using hz
  have HQ := Lib.hid hq; clear hz hq
  go_enter Tryz.func23, Tryz.ntmps23
  go_wp2
  go_ret
  exact ⟨ret_bool (by rw [HALL.out, HQ.out]; simp), gri⟩
 subst hz
 by_cases hp : 0 < xpn
 ·have q1 : (0 : Int) < (xpn : Int) := by omega
  have hq : (px == []) = false := by
   cases px with
   | nil => have := HPX.out; simp at this; omega
   | cons y r => rfl
  have HQ := Lib.hid hq; clear hp hq
  go_enter Tryz.func23, Tryz.ntmps23
  go_wp2
  go_ret
  exact ⟨ret_bool (by rw [HALL.out, HQ.out]; simp), gri⟩
 obtain rfl : xpn = 0 := by omega
 have hpe : px = [] := List.eq_nil_of_length_eq_zero HPX.out
 have HPE := Lib.hid hpe; clear hpe hp
 cases xf
 rotate_left
 ·go_enter Tryz.func23, Tryz.ntmps23
  go_wp2
  go_ret
  exact ⟨ret_bool (by rw [HALL.out]; simp), gri⟩
 skip
 all_goals
  go_enter Tryz.func23, Tryz.ntmps23
  go_wp2
  refine wp_loop_rounds 1 ?_
  rw [rounds_succ]
  go_wp2_with ((go_at_call 12; ((with_reducible refine (same13r_any xOk xOv xOt xOs xOa xOc 0 0 0 0 0 0 xOD none xOn xOq 0 0 lx [] _ HX.out rfl (H1.out.gr gri) Row.nil).mono ?_); rintro _ _ ⟨rfl, g, rfl⟩)))
  go_ret
  exact ⟨ret_bool (by rw [HALL.out, HPE.out]; simp [HNODE.out, HMM.out]), gri⟩
set_option maxRecDepth 100000 in
set_option maxHeartbeats 8000000 in
theorem mayAct26_3 (xn xm xOk xOv xOt xOs xOa xOc : Int) (xOD xP : Option Addr) (xOn xOq xpn xpq : Nat) (xf : Bool) (lx : List UInt8) (px : List Int) (w : World) (hx : lx.length = xOn) (hn : xOn ≤ 9223372036854775807) (h1 : Row bv w xOD lx) (hpx : px.length = xpn) (h3 : Row (Value.int .i64) w xP px) (v0 : 0 ≤ xOv) (t0 : 0 ≤ xOt) (a1 : 0 ≤ xn) (a2 : xn ≤ 1) (a3 : 0 ≤ xm) (a4 : xm ≤ 1000000) (a5 : xpn ≤ 100) : Calls Tryz.prog 23 #[(Value.agg #[.int .i64 3, .int .i64 xn, .int .i64 xm, .int .i64 xOk, .int .u64 xOv, .int .u64 xOt, .int .i64 xOs, .int .i64 xOa, .int .i64 xOc, .slice xOD xOn xOq, .bool xf, .slice xP xpn xpq])] w fun e w' => e = .returned (.bool (mayActB 3 xn xm xOk xOv xOt xOs xOa xOc xf xOn xpn lx px)) ∧ Gr w w' := by
 have c1 : decide (xn < 0) = false := by simp; omega
 have c2 : decide (1 < xn) = false := by simp; omega
 have c3 : decide (xm < 0) = false := by simp; omega
 have c4 : decide (1000000 < xm) = false := by simp; omega
 have c5 : ¬ (100 : Int) < (xpn : Int) := by omega
 have hnode : nodeB xn = true := by simp [nodeB]; omega
 have hmm : mayN xm = true := by simp [mayN]; omega
 have HNODE := Lib.hid hnode; have HMM := Lib.hid hmm; have HX := Lib.hid hx; have HPX := Lib.hid hpx; have H1 := Lib.hid h1; have H3 := Lib.hid h3; clear hnode hmm hx hpx h1 h3
 have hall : mayActB 3 xn xm xOk xOv xOt xOs xOa xOc xf xOn xpn lx px = (nodeB xn && (xm == 0) && sameB xOk xOv xOt xOs xOa xOc 0 0 0 0 0 0 lx [] && (xf == false) && (px == [])) := rfl
 have HALL := Lib.hid hall; clear hall
 by_cases hy : xm = 0
 rotate_left
 ·have q1 : (xm != 0) = true := by simpa using hy
  have hq : (xm == 0) = false := by simpa using hy
  have HQ := Lib.hid hq; clear hy hq
  go_enter Tryz.func23, Tryz.ntmps23
  go_wp2
  go_ret
  exact ⟨ret_bool (by rw [HALL.out, HQ.out]; simp), gri⟩
 subst hy
 by_cases hp : 0 < xpn
 ·have q1 : (0 : Int) < (xpn : Int) := by omega
  have hq : (px == []) = false := by
   cases px with
   | nil => have := HPX.out; simp at this; omega
   | cons y r => rfl
  have HQ := Lib.hid hq; clear hp hq
  go_enter Tryz.func23, Tryz.ntmps23
  go_wp2
  go_ret
  exact ⟨ret_bool (by rw [HALL.out, HQ.out]; simp), gri⟩
 obtain rfl : xpn = 0 := by omega
 have hpe : px = [] := List.eq_nil_of_length_eq_zero HPX.out
 have HPE := Lib.hid hpe; clear hpe hp
 cases xf
 rotate_left
 ·go_enter Tryz.func23, Tryz.ntmps23
  go_wp2
  go_ret
  exact ⟨ret_bool (by rw [HALL.out]; simp), gri⟩
 skip
 all_goals
  go_enter Tryz.func23, Tryz.ntmps23
  go_wp2
  refine wp_loop_rounds 1 ?_
  rw [rounds_succ]
  go_wp2_with ((go_at_call 12; ((with_reducible refine (same13r_any xOk xOv xOt xOs xOa xOc 0 0 0 0 0 0 xOD none xOn xOq 0 0 lx [] _ HX.out rfl (H1.out.gr gri) Row.nil).mono ?_); rintro _ _ ⟨rfl, g, rfl⟩)))
  go_ret
  exact ⟨ret_bool (by rw [HALL.out, HPE.out]; simp [HNODE.out, HMM.out]), gri⟩
set_option maxRecDepth 100000 in
set_option maxHeartbeats 8000000 in
theorem mayAct26_4 (xn xm xOk xOv xOt xOs xOa xOc : Int) (xOD xP : Option Addr) (xOn xOq xpn xpq : Nat) (xf : Bool) (lx : List UInt8) (px : List Int) (w : World) (hx : lx.length = xOn) (hn : xOn ≤ 9223372036854775807) (h1 : Row bv w xOD lx) (hpx : px.length = xpn) (h3 : Row (Value.int .i64) w xP px) (v0 : 0 ≤ xOv) (t0 : 0 ≤ xOt) (a1 : 0 ≤ xn) (a2 : xn ≤ 1) (a3 : 0 ≤ xm) (a4 : xm ≤ 1000000) (a5 : xpn ≤ 100) : Calls Tryz.prog 23 #[(Value.agg #[.int .i64 4, .int .i64 xn, .int .i64 xm, .int .i64 xOk, .int .u64 xOv, .int .u64 xOt, .int .i64 xOs, .int .i64 xOa, .int .i64 xOc, .slice xOD xOn xOq, .bool xf, .slice xP xpn xpq])] w fun e w' => e = .returned (.bool (mayActB 4 xn xm xOk xOv xOt xOs xOa xOc xf xOn xpn lx px)) ∧ Gr w w' := by
 have c1 : decide (xn < 0) = false := by simp; omega
 have c2 : decide (1 < xn) = false := by simp; omega
 have c3 : decide (xm < 0) = false := by simp; omega
 have c4 : decide (1000000 < xm) = false := by simp; omega
 have c5 : ¬ (100 : Int) < (xpn : Int) := by omega
 have hnode : nodeB xn = true := by simp [nodeB]; omega
 have hmm : mayN xm = true := by simp [mayN]; omega
 have HNODE := Lib.hid hnode; have HMM := Lib.hid hmm; have HX := Lib.hid hx; have HPX := Lib.hid hpx; have H1 := Lib.hid h1; have H3 := Lib.hid h3; clear hnode hmm hx hpx h1 h3
 have hall : mayActB 4 xn xm xOk xOv xOt xOs xOa xOc xf xOn xpn lx px = (nodeB xn && picksB xpn px && (xm == 0) && sameB xOk xOv xOt xOs xOa xOc 0 0 0 0 0 0 lx [] && (xf == false)) := rfl
 have HALL := Lib.hid hall; clear hall
 by_cases hy : xm = 0
 rotate_left
 ·have q1 : (xm != 0) = true := by simpa using hy
  have hq : (xm == 0) = false := by simpa using hy
  have HQ := Lib.hid hq; clear hy hq
  go_enter Tryz.func23, Tryz.ntmps23
  go_wp2
  go_ret
  exact ⟨ret_bool (by rw [HALL.out, HQ.out]; simp), gri⟩
 subst hy
 cases xf
 rotate_left
 ·go_enter Tryz.func23, Tryz.ntmps23
  go_wp2
  go_ret
  exact ⟨ret_bool (by rw [HALL.out]; simp), gri⟩
 go_enter Tryz.func23, Tryz.ntmps23
 go_wp2
 go_loopw [4] (fun i wr => ∃ j : Nat, i = .int .i64 j ∧ j ≤ xpn ∧ Hid (∀ i x, i < j → px[i]? = some x → mayN x = true) ∧ wr = w.alloc (.cells #[.int .i64 4, .int .i64 xn, .int .i64 0, .int .i64 xOk, .int .u64 xOv, .int .u64 xOt, .int .i64 xOs, .int .i64 xOa, .int .i64 xOc, .slice xOD xOn xOq, .bool false, .slice xP xpn xpq] 42)) (fun i _ => xpn - (intOf i).toNat)
 case atStart => exact ⟨0, rfl, Nat.zero_le _, Lib.hid (fun i x h => by omega), rfl⟩
 case round =>
  obtain ⟨j, rfl, hj, ht, rfl⟩ := hrel
  by_cases hlt : j < xpn
  ·have hjx : j < px.length := by have := HPX.out; omega
   obtain ⟨bx, ox, rfl, hbx, hcx⟩ := H3.out.at_ (by rintro rfl; simp at hjx)
   have ex := hcx j px[j] (List.getElem?_eq_getElem hjx)
   haveI : Old bx w := ⟨hbx⟩
   have hjl : (j : Int) < (xpn : Int) := by omega
   have hgj := List.getElem?_eq_getElem hjx
   clear hcx hbx
   generalize px[j] = u at *
   have HGJ := Lib.hid hgj; clear hgj
   by_cases hu : 0 ≤ u ∧ u ≤ 1000000
   ·have q1 : decide (u < 0) = false := by simp; omega
    have q2 : decide (1000000 < u) = false := by simp; omega
    have HU := Lib.hid hu; clear hu
    go_wp2
    go_roundw
    case rel => exact ⟨j + 1, by go_num, by omega, Lib.hid (fun i x hi hx => by
     rcases Nat.lt_or_ge i j with h | h
     ·exact ht.out i x h hx
     ·obtain rfl : i = j := by omega
      rw [HGJ.out] at hx
      cases hx
      have := HU.out
      simp [mayN]; omega), by first | rfl | trivial⟩
    case measure => simp [intOf]; omega
   ·have hbp : badP px = true := by
     rw [badP, List.any_eq_true]
     exact ⟨u, List.mem_of_getElem? HGJ.out, by simp [mayN]; omega⟩
    have hpb : picksB xpn px = false := by rw [picksB, hbp]; simp
    have HPB := Lib.hid hpb; clear hbp hpb
    by_cases hu0 : u < 0
    ·clear hu
     go_wp2
     go_ret
     exact ⟨ret_bool (by rw [HALL.out, HPB.out]; simp), gri⟩
    ·have q1 : decide (u < 0) = false := by simpa using hu0
     have q2 : 1000000 < u := by omega
     clear hu hu0
     go_wp2
     go_ret
     exact ⟨ret_bool (by rw [HALL.out, HPB.out]; simp), gri⟩
  ·obtain rfl : j = xpn := by omega
   have hbp : badP px = false := by
    rw [badP, List.any_eq_false]
    intro x hx
    obtain ⟨i, hi, rfl⟩ := List.mem_iff_getElem.1 hx
    have := ht.out i px[i] (by have := HPX.out; omega) (List.getElem?_eq_getElem hi)
    simp [this]
   have hpb : picksB j px = true := by rw [picksB, hbp]; simp; omega
   have HPB := Lib.hid hpb; clear hbp hpb
   go_wp2_with ((go_at_call 12; ((with_reducible refine (same13r_any xOk xOv xOt xOs xOa xOc 0 0 0 0 0 0 xOD none xOn xOq 0 0 lx [] _ HX.out rfl (H1.out.gr gri) Row.nil).mono ?_); rintro _ _ ⟨rfl, g, rfl⟩)))
   go_ret
   exact ⟨ret_bool (by rw [HALL.out, HPB.out]; simp [HNODE.out, HMM.out]), gri⟩
set_option maxRecDepth 100000 in
set_option maxHeartbeats 8000000 in
theorem mayAct26_5 (xn xm xOk xOv xOt xOs xOa xOc : Int) (xOD xP : Option Addr) (xOn xOq xpn xpq : Nat) (xf : Bool) (lx : List UInt8) (px : List Int) (w : World) (hx : lx.length = xOn) (hn : xOn ≤ 9223372036854775807) (h1 : Row bv w xOD lx) (hpx : px.length = xpn) (h3 : Row (Value.int .i64) w xP px) (v0 : 0 ≤ xOv) (t0 : 0 ≤ xOt) (a1 : 0 ≤ xn) (a2 : xn ≤ 1) (a3 : 0 ≤ xm) (a4 : xm ≤ 1000000) (a5 : xpn ≤ 100) : Calls Tryz.prog 23 #[(Value.agg #[.int .i64 5, .int .i64 xn, .int .i64 xm, .int .i64 xOk, .int .u64 xOv, .int .u64 xOt, .int .i64 xOs, .int .i64 xOa, .int .i64 xOc, .slice xOD xOn xOq, .bool xf, .slice xP xpn xpq])] w fun e w' => e = .returned (.bool (mayActB 5 xn xm xOk xOv xOt xOs xOa xOc xf xOn xpn lx px)) ∧ Gr w w' := by
 have c1 : decide (xn < 0) = false := by simp; omega
 have c2 : decide (1 < xn) = false := by simp; omega
 have c3 : decide (xm < 0) = false := by simp; omega
 have c4 : decide (1000000 < xm) = false := by simp; omega
 have c5 : ¬ (100 : Int) < (xpn : Int) := by omega
 have hnode : nodeB xn = true := by simp [nodeB]; omega
 have hmm : mayN xm = true := by simp [mayN]; omega
 have HNODE := Lib.hid hnode; have HMM := Lib.hid hmm; have HX := Lib.hid hx; have HPX := Lib.hid hpx; have H1 := Lib.hid h1; have H3 := Lib.hid h3; clear hnode hmm hx hpx h1 h3
 have hall : mayActB 5 xn xm xOk xOv xOt xOs xOa xOc xf xOn xpn lx px = (nodeB xn && picksB xpn px && (xm == 0) && sameB xOk xOv xOt xOs xOa xOc 0 0 0 0 0 0 lx [] && (xf == false)) := rfl
 have HALL := Lib.hid hall; clear hall
 by_cases hy : xm = 0
 rotate_left
 ·have q1 : (xm != 0) = true := by simpa using hy
  have hq : (xm == 0) = false := by simpa using hy
  have HQ := Lib.hid hq; clear hy hq
  go_enter Tryz.func23, Tryz.ntmps23
  go_wp2
  go_ret
  exact ⟨ret_bool (by rw [HALL.out, HQ.out]; simp), gri⟩
 subst hy
 cases xf
 rotate_left
 ·go_enter Tryz.func23, Tryz.ntmps23
  go_wp2
  go_ret
  exact ⟨ret_bool (by rw [HALL.out]; simp), gri⟩
 go_enter Tryz.func23, Tryz.ntmps23
 go_wp2
 go_loopw [4] (fun i wr => ∃ j : Nat, i = .int .i64 j ∧ j ≤ xpn ∧ Hid (∀ i x, i < j → px[i]? = some x → mayN x = true) ∧ wr = w.alloc (.cells #[.int .i64 5, .int .i64 xn, .int .i64 0, .int .i64 xOk, .int .u64 xOv, .int .u64 xOt, .int .i64 xOs, .int .i64 xOa, .int .i64 xOc, .slice xOD xOn xOq, .bool false, .slice xP xpn xpq] 42)) (fun i _ => xpn - (intOf i).toNat)
 case atStart => exact ⟨0, rfl, Nat.zero_le _, Lib.hid (fun i x h => by omega), rfl⟩
 case round =>
  obtain ⟨j, rfl, hj, ht, rfl⟩ := hrel
  by_cases hlt : j < xpn
  ·have hjx : j < px.length := by have := HPX.out; omega
   obtain ⟨bx, ox, rfl, hbx, hcx⟩ := H3.out.at_ (by rintro rfl; simp at hjx)
   have ex := hcx j px[j] (List.getElem?_eq_getElem hjx)
   haveI : Old bx w := ⟨hbx⟩
   have hjl : (j : Int) < (xpn : Int) := by omega
   have hgj := List.getElem?_eq_getElem hjx
   clear hcx hbx
   generalize px[j] = u at *
   have HGJ := Lib.hid hgj; clear hgj
   by_cases hu : 0 ≤ u ∧ u ≤ 1000000
   ·have q1 : decide (u < 0) = false := by simp; omega
    have q2 : decide (1000000 < u) = false := by simp; omega
    have HU := Lib.hid hu; clear hu
    go_wp2
    go_roundw
    case rel => exact ⟨j + 1, by go_num, by omega, Lib.hid (fun i x hi hx => by
     rcases Nat.lt_or_ge i j with h | h
     ·exact ht.out i x h hx
     ·obtain rfl : i = j := by omega
      rw [HGJ.out] at hx
      cases hx
      have := HU.out
      simp [mayN]; omega), by first | rfl | trivial⟩
    case measure => simp [intOf]; omega
   ·have hbp : badP px = true := by
     rw [badP, List.any_eq_true]
     exact ⟨u, List.mem_of_getElem? HGJ.out, by simp [mayN]; omega⟩
    have hpb : picksB xpn px = false := by rw [picksB, hbp]; simp
    have HPB := Lib.hid hpb; clear hbp hpb
    by_cases hu0 : u < 0
    ·clear hu
     go_wp2
     go_ret
     exact ⟨ret_bool (by rw [HALL.out, HPB.out]; simp), gri⟩
    ·have q1 : decide (u < 0) = false := by simpa using hu0
     have q2 : 1000000 < u := by omega
     clear hu hu0
     go_wp2
     go_ret
     exact ⟨ret_bool (by rw [HALL.out, HPB.out]; simp), gri⟩
  ·obtain rfl : j = xpn := by omega
   have hbp : badP px = false := by
    rw [badP, List.any_eq_false]
    intro x hx
    obtain ⟨i, hi, rfl⟩ := List.mem_iff_getElem.1 hx
    have := ht.out i px[i] (by have := HPX.out; omega) (List.getElem?_eq_getElem hi)
    simp [this]
   have hpb : picksB j px = true := by rw [picksB, hbp]; simp; omega
   have HPB := Lib.hid hpb; clear hbp hpb
   go_wp2_with ((go_at_call 12; ((with_reducible refine (same13r_any xOk xOv xOt xOs xOa xOc 0 0 0 0 0 0 xOD none xOn xOq 0 0 lx [] _ HX.out rfl (H1.out.gr gri) Row.nil).mono ?_); rintro _ _ ⟨rfl, g, rfl⟩)))
   go_ret
   exact ⟨ret_bool (by rw [HALL.out, HPB.out]; simp [HNODE.out, HMM.out]), gri⟩
set_option maxRecDepth 100000 in
set_option maxHeartbeats 8000000 in
theorem mayAct26_6 (xn xm xOk xOv xOt xOs xOa xOc : Int) (xOD xP : Option Addr) (xOn xOq xpn xpq : Nat) (xf : Bool) (lx : List UInt8) (px : List Int) (w : World) (hx : lx.length = xOn) (hn : xOn ≤ 9223372036854775807) (h1 : Row bv w xOD lx) (hpx : px.length = xpn) (h3 : Row (Value.int .i64) w xP px) (v0 : 0 ≤ xOv) (t0 : 0 ≤ xOt) (a1 : 0 ≤ xn) (a2 : xn ≤ 1) (a3 : 0 ≤ xm) (a4 : xm ≤ 1000000) (a5 : xpn ≤ 100) : Calls Tryz.prog 23 #[(Value.agg #[.int .i64 6, .int .i64 xn, .int .i64 xm, .int .i64 xOk, .int .u64 xOv, .int .u64 xOt, .int .i64 xOs, .int .i64 xOa, .int .i64 xOc, .slice xOD xOn xOq, .bool xf, .slice xP xpn xpq])] w fun e w' => e = .returned (.bool (mayActB 6 xn xm xOk xOv xOt xOs xOa xOc xf xOn xpn lx px)) ∧ Gr w w' := by
 have c1 : decide (xn < 0) = false := by simp; omega
 have c2 : decide (1 < xn) = false := by simp; omega
 have c3 : decide (xm < 0) = false := by simp; omega
 have c4 : decide (1000000 < xm) = false := by simp; omega
 have c5 : ¬ (100 : Int) < (xpn : Int) := by omega
 have hnode : nodeB xn = true := by simp [nodeB]; omega
 have hmm : mayN xm = true := by simp [mayN]; omega
 have HNODE := Lib.hid hnode; have HMM := Lib.hid hmm; have HX := Lib.hid hx; have HPX := Lib.hid hpx; have H1 := Lib.hid h1; have H3 := Lib.hid h3; clear hnode hmm hx hpx h1 h3
 have hall : mayActB 6 xn xm xOk xOv xOt xOs xOa xOc xf xOn xpn lx px = (nodeB xn && mayN xm && sameB xOk xOv xOt xOs xOa xOc 0 0 0 0 0 0 lx [] && (xf == false) && (px == [])) := rfl
 have HALL := Lib.hid hall; clear hall
 by_cases hp : 0 < xpn
 ·have q1 : (0 : Int) < (xpn : Int) := by omega
  have hq : (px == []) = false := by
   cases px with
   | nil => have := HPX.out; simp at this; omega
   | cons y r => rfl
  have HQ := Lib.hid hq; clear hp hq
  go_enter Tryz.func23, Tryz.ntmps23
  go_wp2
  go_ret
  exact ⟨ret_bool (by rw [HALL.out, HQ.out]; simp), gri⟩
 obtain rfl : xpn = 0 := by omega
 have hpe : px = [] := List.eq_nil_of_length_eq_zero HPX.out
 have HPE := Lib.hid hpe; clear hpe hp
 cases xf
 rotate_left
 ·go_enter Tryz.func23, Tryz.ntmps23
  go_wp2
  go_ret
  exact ⟨ret_bool (by rw [HALL.out]; simp), gri⟩
 skip
 all_goals
  go_enter Tryz.func23, Tryz.ntmps23
  go_wp2
  refine wp_loop_rounds 1 ?_
  rw [rounds_succ]
  go_wp2_with ((go_at_call 12; ((with_reducible refine (same13r_any xOk xOv xOt xOs xOa xOc 0 0 0 0 0 0 xOD none xOn xOq 0 0 lx [] _ HX.out rfl (H1.out.gr gri) Row.nil).mono ?_); rintro _ _ ⟨rfl, g, rfl⟩)))
  go_ret
  exact ⟨ret_bool (by rw [HALL.out, HPE.out]; simp [HNODE.out, HMM.out]), gri⟩
set_option maxRecDepth 100000 in
set_option maxHeartbeats 8000000 in
theorem mayAct26_7 (xn xm xOk xOv xOt xOs xOa xOc : Int) (xOD xP : Option Addr) (xOn xOq xpn xpq : Nat) (xf : Bool) (lx : List UInt8) (px : List Int) (w : World) (hx : lx.length = xOn) (hn : xOn ≤ 9223372036854775807) (h1 : Row bv w xOD lx) (hpx : px.length = xpn) (h3 : Row (Value.int .i64) w xP px) (v0 : 0 ≤ xOv) (t0 : 0 ≤ xOt) (a1 : 0 ≤ xn) (a2 : xn ≤ 1) (a3 : 0 ≤ xm) (a4 : xm ≤ 1000000) (a5 : xpn ≤ 100) : Calls Tryz.prog 23 #[(Value.agg #[.int .i64 7, .int .i64 xn, .int .i64 xm, .int .i64 xOk, .int .u64 xOv, .int .u64 xOt, .int .i64 xOs, .int .i64 xOa, .int .i64 xOc, .slice xOD xOn xOq, .bool xf, .slice xP xpn xpq])] w fun e w' => e = .returned (.bool (mayActB 7 xn xm xOk xOv xOt xOs xOa xOc xf xOn xpn lx px)) ∧ Gr w w' := by
 have c1 : decide (xn < 0) = false := by simp; omega
 have c2 : decide (1 < xn) = false := by simp; omega
 have c3 : decide (xm < 0) = false := by simp; omega
 have c4 : decide (1000000 < xm) = false := by simp; omega
 have c5 : ¬ (100 : Int) < (xpn : Int) := by omega
 have hnode : nodeB xn = true := by simp [nodeB]; omega
 have hmm : mayN xm = true := by simp [mayN]; omega
 have HNODE := Lib.hid hnode; have HMM := Lib.hid hmm; have HX := Lib.hid hx; have HPX := Lib.hid hpx; have H1 := Lib.hid h1; have H3 := Lib.hid h3; clear hnode hmm hx hpx h1 h3
 have hall : mayActB 7 xn xm xOk xOv xOt xOs xOa xOc xf xOn xpn lx px = (nodeB xn && (xm == 0) && sameB xOk xOv xOt xOs xOa xOc 0 0 0 0 0 0 lx [] && (px == [])) := rfl
 have HALL := Lib.hid hall; clear hall
 by_cases hy : xm = 0
 rotate_left
 ·have q1 : (xm != 0) = true := by simpa using hy
  have hq : (xm == 0) = false := by simpa using hy
  have HQ := Lib.hid hq; clear hy hq
  go_enter Tryz.func23, Tryz.ntmps23
  go_wp2
  go_ret
  exact ⟨ret_bool (by rw [HALL.out, HQ.out]; simp), gri⟩
 subst hy
 by_cases hp : 0 < xpn
 ·have q1 : (0 : Int) < (xpn : Int) := by omega
  have hq : (px == []) = false := by
   cases px with
   | nil => have := HPX.out; simp at this; omega
   | cons y r => rfl
  have HQ := Lib.hid hq; clear hp hq
  go_enter Tryz.func23, Tryz.ntmps23
  go_wp2
  go_ret
  exact ⟨ret_bool (by rw [HALL.out, HQ.out]; simp), gri⟩
 obtain rfl : xpn = 0 := by omega
 have hpe : px = [] := List.eq_nil_of_length_eq_zero HPX.out
 have HPE := Lib.hid hpe; clear hpe hp
 cases xf
 all_goals
  go_enter Tryz.func23, Tryz.ntmps23
  go_wp2
  refine wp_loop_rounds 1 ?_
  rw [rounds_succ]
  go_wp2_with ((go_at_call 12; ((with_reducible refine (same13r_any xOk xOv xOt xOs xOa xOc 0 0 0 0 0 0 xOD none xOn xOq 0 0 lx [] _ HX.out rfl (H1.out.gr gri) Row.nil).mono ?_); rintro _ _ ⟨rfl, g, rfl⟩)))
  go_ret
  exact ⟨ret_bool (by rw [HALL.out, HPE.out]; simp [HNODE.out, HMM.out]), gri⟩
set_option maxRecDepth 100000 in
set_option maxHeartbeats 8000000 in
theorem mayAct26_8 (xn xm xOk xOv xOt xOs xOa xOc : Int) (xOD xP : Option Addr) (xOn xOq xpn xpq : Nat) (xf : Bool) (lx : List UInt8) (px : List Int) (w : World) (hx : lx.length = xOn) (hn : xOn ≤ 9223372036854775807) (h1 : Row bv w xOD lx) (hpx : px.length = xpn) (h3 : Row (Value.int .i64) w xP px) (v0 : 0 ≤ xOv) (t0 : 0 ≤ xOt) (a1 : 0 ≤ xn) (a2 : xn ≤ 1) (a3 : 0 ≤ xm) (a4 : xm ≤ 1000000) (a5 : xpn ≤ 100) : Calls Tryz.prog 23 #[(Value.agg #[.int .i64 8, .int .i64 xn, .int .i64 xm, .int .i64 xOk, .int .u64 xOv, .int .u64 xOt, .int .i64 xOs, .int .i64 xOa, .int .i64 xOc, .slice xOD xOn xOq, .bool xf, .slice xP xpn xpq])] w fun e w' => e = .returned (.bool (mayActB 8 xn xm xOk xOv xOt xOs xOa xOc xf xOn xpn lx px)) ∧ Gr w w' := by
 have c1 : decide (xn < 0) = false := by simp; omega
 have c2 : decide (1 < xn) = false := by simp; omega
 have c3 : decide (xm < 0) = false := by simp; omega
 have c4 : decide (1000000 < xm) = false := by simp; omega
 have c5 : ¬ (100 : Int) < (xpn : Int) := by omega
 have hnode : nodeB xn = true := by simp [nodeB]; omega
 have hmm : mayN xm = true := by simp [mayN]; omega
 have HNODE := Lib.hid hnode; have HMM := Lib.hid hmm; have HX := Lib.hid hx; have HPX := Lib.hid hpx; have H1 := Lib.hid h1; have H3 := Lib.hid h3; clear hnode hmm hx hpx h1 h3
 have hall : mayActB 8 xn xm xOk xOv xOt xOs xOa xOc xf xOn xpn lx px = (nodeB xn && (xm == 0) && sameB xOk xOv xOt xOs xOa xOc 0 0 0 0 0 0 lx [] && (xf == false) && (px == [])) := rfl
 have HALL := Lib.hid hall; clear hall
 by_cases hy : xm = 0
 rotate_left
 ·have q1 : (xm != 0) = true := by simpa using hy
  have hq : (xm == 0) = false := by simpa using hy
  have HQ := Lib.hid hq; clear hy hq
  go_enter Tryz.func23, Tryz.ntmps23
  go_wp2
  go_ret
  exact ⟨ret_bool (by rw [HALL.out, HQ.out]; simp), gri⟩
 subst hy
 by_cases hp : 0 < xpn
 ·have q1 : (0 : Int) < (xpn : Int) := by omega
  have hq : (px == []) = false := by
   cases px with
   | nil => have := HPX.out; simp at this; omega
   | cons y r => rfl
  have HQ := Lib.hid hq; clear hp hq
  go_enter Tryz.func23, Tryz.ntmps23
  go_wp2
  go_ret
  exact ⟨ret_bool (by rw [HALL.out, HQ.out]; simp), gri⟩
 obtain rfl : xpn = 0 := by omega
 have hpe : px = [] := List.eq_nil_of_length_eq_zero HPX.out
 have HPE := Lib.hid hpe; clear hpe hp
 cases xf
 rotate_left
 ·go_enter Tryz.func23, Tryz.ntmps23
  go_wp2
  go_ret
  exact ⟨ret_bool (by rw [HALL.out]; simp), gri⟩
 skip
 all_goals
  go_enter Tryz.func23, Tryz.ntmps23
  go_wp2
  refine wp_loop_rounds 1 ?_
  rw [rounds_succ]
  go_wp2_with ((go_at_call 12; ((with_reducible refine (same13r_any xOk xOv xOt xOs xOa xOc 0 0 0 0 0 0 xOD none xOn xOq 0 0 lx [] _ HX.out rfl (H1.out.gr gri) Row.nil).mono ?_); rintro _ _ ⟨rfl, g, rfl⟩)))
  go_ret
  exact ⟨ret_bool (by rw [HALL.out, HPE.out]; simp [HNODE.out, HMM.out]), gri⟩
set_option maxRecDepth 100000 in
set_option maxHeartbeats 8000000 in
theorem mayAct26_9 (xn xm xOk xOv xOt xOs xOa xOc : Int) (xOD xP : Option Addr) (xOn xOq xpn xpq : Nat) (xf : Bool) (lx : List UInt8) (px : List Int) (w : World) (hx : lx.length = xOn) (hn : xOn ≤ 9223372036854775807) (h1 : Row bv w xOD lx) (hpx : px.length = xpn) (h3 : Row (Value.int .i64) w xP px) (v0 : 0 ≤ xOv) (t0 : 0 ≤ xOt) (a1 : 0 ≤ xn) (a2 : xn ≤ 1) (a3 : 0 ≤ xm) (a4 : xm ≤ 1000000) (a5 : xpn ≤ 100) : Calls Tryz.prog 23 #[(Value.agg #[.int .i64 9, .int .i64 xn, .int .i64 xm, .int .i64 xOk, .int .u64 xOv, .int .u64 xOt, .int .i64 xOs, .int .i64 xOa, .int .i64 xOc, .slice xOD xOn xOq, .bool xf, .slice xP xpn xpq])] w fun e w' => e = .returned (.bool (mayActB 9 xn xm xOk xOv xOt xOs xOa xOc xf xOn xpn lx px)) ∧ Gr w w' := by
 have c1 : decide (xn < 0) = false := by simp; omega
 have c2 : decide (1 < xn) = false := by simp; omega
 have c3 : decide (xm < 0) = false := by simp; omega
 have c4 : decide (1000000 < xm) = false := by simp; omega
 have c5 : ¬ (100 : Int) < (xpn : Int) := by omega
 have hnode : nodeB xn = true := by simp [nodeB]; omega
 have hmm : mayN xm = true := by simp [mayN]; omega
 have HNODE := Lib.hid hnode; have HMM := Lib.hid hmm; have HX := Lib.hid hx; have HPX := Lib.hid hpx; have H1 := Lib.hid h1; have H3 := Lib.hid h3; clear hnode hmm hx hpx h1 h3
 have hall : mayActB 9 xn xm xOk xOv xOt xOs xOa xOc xf xOn xpn lx px = (nodeB xn && mayN xm && sameB xOk xOv xOt xOs xOa xOc 0 0 0 0 0 0 lx [] && (xf == false) && (px == [])) := rfl
 have HALL := Lib.hid hall; clear hall
 by_cases hp : 0 < xpn
 ·have q1 : (0 : Int) < (xpn : Int) := by omega
  have hq : (px == []) = false := by
   cases px with
   | nil => have := HPX.out; simp at this; omega
   | cons y r => rfl
  have HQ := Lib.hid hq; clear hp hq
  go_enter Tryz.func23, Tryz.ntmps23
  go_wp2
  go_ret
  exact ⟨ret_bool (by rw [HALL.out, HQ.out]; simp), gri⟩
 obtain rfl : xpn = 0 := by omega
 have hpe : px = [] := List.eq_nil_of_length_eq_zero HPX.out
 have HPE := Lib.hid hpe; clear hpe hp
 cases xf
 rotate_left
 ·go_enter Tryz.func23, Tryz.ntmps23
  go_wp2
  go_ret
  exact ⟨ret_bool (by rw [HALL.out]; simp), gri⟩
 skip
 all_goals
  go_enter Tryz.func23, Tryz.ntmps23
  go_wp2
  refine wp_loop_rounds 1 ?_
  rw [rounds_succ]
  go_wp2_with ((go_at_call 12; ((with_reducible refine (same13r_any xOk xOv xOt xOs xOa xOc 0 0 0 0 0 0 xOD none xOn xOq 0 0 lx [] _ HX.out rfl (H1.out.gr gri) Row.nil).mono ?_); rintro _ _ ⟨rfl, g, rfl⟩)))
  go_ret
  exact ⟨ret_bool (by rw [HALL.out, HPE.out]; simp [HNODE.out, HMM.out]), gri⟩
set_option maxRecDepth 100000 in
set_option maxHeartbeats 8000000 in
theorem mayAct26_10 (xn xm xOk xOv xOt xOs xOa xOc : Int) (xOD xP : Option Addr) (xOn xOq xpn xpq : Nat) (xf : Bool) (lx : List UInt8) (px : List Int) (w : World) (hx : lx.length = xOn) (hn : xOn ≤ 9223372036854775807) (h1 : Row bv w xOD lx) (hpx : px.length = xpn) (h3 : Row (Value.int .i64) w xP px) (v0 : 0 ≤ xOv) (t0 : 0 ≤ xOt) (a1 : 0 ≤ xn) (a2 : xn ≤ 1) (a3 : 0 ≤ xm) (a4 : xm ≤ 1000000) (a5 : xpn ≤ 100) : Calls Tryz.prog 23 #[(Value.agg #[.int .i64 10, .int .i64 xn, .int .i64 xm, .int .i64 xOk, .int .u64 xOv, .int .u64 xOt, .int .i64 xOs, .int .i64 xOa, .int .i64 xOc, .slice xOD xOn xOq, .bool xf, .slice xP xpn xpq])] w fun e w' => e = .returned (.bool (mayActB 10 xn xm xOk xOv xOt xOs xOa xOc xf xOn xpn lx px)) ∧ Gr w w' := by
 have c1 : decide (xn < 0) = false := by simp; omega
 have c2 : decide (1 < xn) = false := by simp; omega
 have c3 : decide (xm < 0) = false := by simp; omega
 have c4 : decide (1000000 < xm) = false := by simp; omega
 have c5 : ¬ (100 : Int) < (xpn : Int) := by omega
 have hnode : nodeB xn = true := by simp [nodeB]; omega
 have hmm : mayN xm = true := by simp [mayN]; omega
 have HNODE := Lib.hid hnode; have HMM := Lib.hid hmm; have HX := Lib.hid hx; have HPX := Lib.hid hpx; have H1 := Lib.hid h1; have H3 := Lib.hid h3; clear hnode hmm hx hpx h1 h3
 have hall : mayActB 10 xn xm xOk xOv xOt xOs xOa xOc xf xOn xpn lx px = ((xn == 0) && (xm == 0) && sameB xOk xOv xOt xOs xOa xOc 0 0 0 0 0 0 lx [] && (xf == false) && (px == [])) := rfl
 have HALL := Lib.hid hall; clear hall
 by_cases hz : xn = 0
 rotate_left
 ·have q1 : (xn != 0) = true := by simpa using hz
  have hq : (xn == 0) = false := by simpa using hz
  have HQ := Lib.hid hq; clear hz hq
  go_enter Tryz.func23, Tryz.ntmps23
  go_wp2
  go_ret
  exact ⟨ret_bool (by rw [HALL.out, HQ.out]; simp), gri⟩
 subst hz
 by_cases hy : xm = 0
 rotate_left
 ·have q1 : (xm != 0) = true := by simpa using hy
  have hq : (xm == 0) = false := by simpa using hy
  have HQ := Lib.hid hq; clear hy hq
  go_enter Tryz.func23, Tryz.ntmps23
  go_wp2
  go_ret
  exact ⟨ret_bool (by rw [HALL.out, HQ.out]; simp), gri⟩
 subst hy
 by_cases hp : 0 < xpn
 ·have q1 : (0 : Int) < (xpn : Int) := by omega
  have hq : (px == []) = false := by
   cases px with
   | nil => have := HPX.out; simp at this; omega
   | cons y r => rfl
  have HQ := Lib.hid hq; clear hp hq
  go_enter Tryz.func23, Tryz.ntmps23
  go_wp2
  go_ret
  exact ⟨ret_bool (by rw [HALL.out, HQ.out]; simp), gri⟩
 obtain rfl : xpn = 0 := by omega
 have hpe : px = [] := List.eq_nil_of_length_eq_zero HPX.out
 have HPE := Lib.hid hpe; clear hpe hp
 cases xf
 rotate_left
 ·go_enter Tryz.func23, Tryz.ntmps23
  go_wp2
  go_ret
  exact ⟨ret_bool (by rw [HALL.out]; simp), gri⟩
 skip
 all_goals
  go_enter Tryz.func23, Tryz.ntmps23
  go_wp2
  refine wp_loop_rounds 1 ?_
  rw [rounds_succ]
  go_wp2_with ((go_at_call 12; ((with_reducible refine (same13r_any xOk xOv xOt xOs xOa xOc 0 0 0 0 0 0 xOD none xOn xOq 0 0 lx [] _ HX.out rfl (H1.out.gr gri) Row.nil).mono ?_); rintro _ _ ⟨rfl, g, rfl⟩)))
  go_ret
  exact ⟨ret_bool (by rw [HALL.out, HPE.out]; simp [HNODE.out, HMM.out]), gri⟩
theorem mayAct26_any (xk xn xm xOk xOv xOt xOs xOa xOc : Int) (xOD xP : Option Addr) (xOn xOq xpn xpq : Nat) (xf : Bool) (lx : List UInt8) (px : List Int) (w : World) (hx : lx.length = xOn) (hn : xOn ≤ 9223372036854775807) (h1 : Row bv w xOD lx) (hpx : px.length = xpn) (h3 : Row (Value.int .i64) w xP px) (v0 : 0 ≤ xOv) (t0 : 0 ≤ xOt) : Calls Tryz.prog 23 #[(Value.agg #[.int .i64 xk, .int .i64 xn, .int .i64 xm, .int .i64 xOk, .int .u64 xOv, .int .u64 xOt, .int .i64 xOs, .int .i64 xOa, .int .i64 xOc, .slice xOD xOn xOq, .bool xf, .slice xP xpn xpq])] w fun e w' => e = .returned (.bool (mayActB xk xn xm xOk xOv xOt xOs xOa xOc xf xOn xpn lx px)) ∧ Gr w w' := by
 by_cases h : xk < 1 ∨ 10 < xk ∨ xn < 0 ∨ 1 < xn ∨ xm < 0 ∨ 1000000 < xm ∨ 100 < xpn
 ·have e : mayActB xk xn xm xOk xOv xOt xOs xOa xOc xf xOn xpn lx px = false := by
   by_cases hk : xk < 1 ∨ 10 < xk
   ·unfold mayActB
    repeat (rw [if_neg (by omega)])
   ·have hk3 : xk = 1 ∨ xk = 2 ∨ xk = 3 ∨ xk = 4 ∨ xk = 5 ∨ xk = 6 ∨ xk = 7 ∨ xk = 8 ∨ xk = 9 ∨ xk = 10 := by omega
    have hpl : 100 < xpn → px ≠ [] := fun h e => by subst e; simp at hpx; omega
    have hpick : 100 < xpn → picksB xpn px = false := fun h => by simp [picksB]; intro h2; omega
    rcases hk3 with rfl | rfl | rfl | rfl | rfl | rfl | rfl | rfl | rfl | rfl
    all_goals
     cases hm : mayActB _ xn xm xOk xOv xOt xOs xOa xOc xf xOn xpn lx px with
     | false => rfl
     | true =>
      exfalso
      simp [mayActB, nodeB, mayN, picksB] at hm
      first | omega | (rcases h with h | h | h | h | h | h | h <;> first | omega | exact hpl h (by simp_all))
  rw [e]
  exact mayAct26_early xk xn xm xOk xOv xOt xOs xOa xOc xOD xP xOn xOq xpn xpq xf lx px w h
 ·have hk3 : xk = 1 ∨ xk = 2 ∨ xk = 3 ∨ xk = 4 ∨ xk = 5 ∨ xk = 6 ∨ xk = 7 ∨ xk = 8 ∨ xk = 9 ∨ xk = 10 := by omega
  rcases hk3 with rfl | rfl | rfl | rfl | rfl | rfl | rfl | rfl | rfl | rfl
  ·exact mayAct26_1 xn xm xOk xOv xOt xOs xOa xOc xOD xP xOn xOq xpn xpq xf lx px w hx hn h1 hpx h3 v0 t0 (by omega) (by omega) (by omega) (by omega) (by omega)
  ·exact mayAct26_2 xn xm xOk xOv xOt xOs xOa xOc xOD xP xOn xOq xpn xpq xf lx px w hx hn h1 hpx h3 v0 t0 (by omega) (by omega) (by omega) (by omega) (by omega)
  ·exact mayAct26_3 xn xm xOk xOv xOt xOs xOa xOc xOD xP xOn xOq xpn xpq xf lx px w hx hn h1 hpx h3 v0 t0 (by omega) (by omega) (by omega) (by omega) (by omega)
  ·exact mayAct26_4 xn xm xOk xOv xOt xOs xOa xOc xOD xP xOn xOq xpn xpq xf lx px w hx hn h1 hpx h3 v0 t0 (by omega) (by omega) (by omega) (by omega) (by omega)
  ·exact mayAct26_5 xn xm xOk xOv xOt xOs xOa xOc xOD xP xOn xOq xpn xpq xf lx px w hx hn h1 hpx h3 v0 t0 (by omega) (by omega) (by omega) (by omega) (by omega)
  ·exact mayAct26_6 xn xm xOk xOv xOt xOs xOa xOc xOD xP xOn xOq xpn xpq xf lx px w hx hn h1 hpx h3 v0 t0 (by omega) (by omega) (by omega) (by omega) (by omega)
  ·exact mayAct26_7 xn xm xOk xOv xOt xOs xOa xOc xOD xP xOn xOq xpn xpq xf lx px w hx hn h1 hpx h3 v0 t0 (by omega) (by omega) (by omega) (by omega) (by omega)
  ·exact mayAct26_8 xn xm xOk xOv xOt xOs xOa xOc xOD xP xOn xOq xpn xpq xf lx px w hx hn h1 hpx h3 v0 t0 (by omega) (by omega) (by omega) (by omega) (by omega)
  ·exact mayAct26_9 xn xm xOk xOv xOt xOs xOa xOc xOD xP xOn xOq xpn xpq xf lx px w hx hn h1 hpx h3 v0 t0 (by omega) (by omega) (by omega) (by omega) (by omega)
  ·exact mayAct26_10 xn xm xOk xOv xOt xOs xOa xOc xOD xP xOn xOq xpn xpq xf lx px w hx hn h1 hpx h3 v0 t0 (by omega) (by omega) (by omega) (by omega) (by omega)
section
variable {P : Program} {ops : Array Oper} {md : Region.Mode} {W : World} {S : Type} {I : S → World → Prop}
def effUpon (P : Program) (R : Value → World → Prop) : Result Next → Prop
 | .ok (.value v) w' => R v w'
 | .ok .skip w' => R undef w'
 | .ok (.enter f args) w' => Calls P f args w' (fun e w'' => ∃ v, e = .returned v ∧ R v w'')
 | _ => False
theorem effUpon_mono {R R' : Value → World → Prop} (h : ∀ v w, R v w → R' v w) (r : Result Next) (hr : effUpon P R r) : effUpon P R' r := by
 cases r with
 | ok nx w' =>
  cases nx <;> simp only [effUpon] at hr ⊢
  case value v => exact h _ _ hr
  case skip => exact h _ _ hr
  case enter f args => exact hr.mono (fun e w'' ⟨v, he, hv⟩ => ⟨v, he, h _ _ hv⟩)
 | halt x w' => exact hr.elim
def EffAt (P : Program) (o : Oper) (a : Act) (w : World) (R : Value → World → Prop) : Prop := effUpon P R ((execOp a.eval o).run P w)
def efOp (P : Program) (ops : Array Oper) (I : S → World → Prop) (i : Nat) (K : S → Act → Prop) (s : S) (a : Act) : Prop :=
 ∃ o, ops[i]? = some o ∧ Region.wanted o (yielded ops a.tmps) = true ∧ ∀ w, I s w → EffAt P o a w (fun v w' => ∃ s', I s' w' ∧ K s' (a.put o.dst v))
def feOp (P : Program) (ops : Array Oper) (W : World) (I : S → World → Prop) (i : Nat) (K : S → Act → Prop) (s : S) (a : Act) : Prop := clOp P ops W i K s a ∨ efOp P ops I i K s a
theorem feOp_mono {i : Nat} {K K' : S → Act → Prop} {s : S} {a : Act} (h : ∀ s a, K s a → K' s a) (hh : feOp P ops W I i K s a) : feOp P ops W I i K' s a :=
 hh.imp (fun ⟨o, ho, v, hv, hk⟩ => ⟨o, ho, v, hv, h _ _ hk⟩) (fun ⟨o, ho, hg, hs⟩ => ⟨o, ho, hg, fun w hw => effUpon_mono (fun v w' ⟨s', h1, h2⟩ => ⟨s', h1, h _ _ h2⟩) _ (hs w hw)⟩)
def feAny (P : Program) (md : Region.Mode) (ops : Array Oper) (W : World) (I : S → World → Prop) (L : S → Act → Prop) : Nat → Array Bool → S → Act → Prop
 | 0, listed, s, a => Region.ready md ops listed = [] ∧ L s a
 | f + 1, listed, s, a => (Region.ready md ops listed = [] → L s a) ∧ ∀ i ∈ Region.ready md ops listed, feOp P ops W I i (feAny P md ops W I L f (listed.setIfInBounds i true)) s a
theorem feAny_any (G : Ghost W I) {L : S → Act → Prop} {Q' : Exit → Act → World → Prop} (hL : ∀ s a w, I s w → L s a → Q' .normal a w) :
  ∀ (f : Nat) (listed : Array Bool) (s : S) (a : Act) (w : World), I s w → feAny P md ops W I L f listed s a → wpAny P md ops Q' f listed a w
 | 0, listed, s, a, w, hw, h => ⟨h.1, hL _ _ _ hw h.2⟩
 | f + 1, listed, s, a, w, hw, h => by
  refine ⟨fun h0 => hL _ _ _ hw (h.1 h0), fun i hi => ?_⟩
  unfold wpOp
  rcases h.2 i hi with ⟨o, ho, v, hv, hk⟩ | ⟨o, ho, hg, hs⟩
  ·simp only [ho]
   rcases hv with ⟨hw1, hc⟩ | ⟨hw1, rfl⟩
   ·simp only [hw1, if_true]
    refine .inl ?_
    obtain ⟨gw, rfl⟩ := G.out _ _ hw
    have h3 := hc gw
    unfold calmAt at h3
    unfold Oper.wp
    generalize (execOp a.eval o).run P (grown W gw) = r at *
    cases r with
    | ok nx w' =>
     cases nx <;> simp only [calmUpon] at h3 <;> simp only [Oper.upon]
     case value u => obtain ⟨e1, e2⟩ := h3; rw [e1, e2]; exact feAny_any G hL f _ _ _ _ hw hk
     case skip => obtain ⟨e1, e2⟩ := h3; rw [e1, ← e2]; exact feAny_any G hL f _ _ _ _ hw hk
     case enter f' args =>
      obtain ⟨e1, hc'⟩ := h3
      rw [e1]
      exact hc'.mono fun e w'' ⟨he, hw''⟩ => by subst he; exact feAny_any G hL f _ _ _ _ (G.grow _ _ _ hw hw'') hk
    | halt x w' => simp only [calmUpon] at h3
   ·simp only [hw1, Bool.false_eq_true, if_false]; exact feAny_any G hL f _ _ _ _ hw hk
  ·simp only [ho, hg, if_true]
   refine .inl ?_
   have h3 := hs w hw
   unfold EffAt at h3
   unfold Oper.wp
   generalize (execOp a.eval o).run P w = r at *
   cases r with
   | ok nx w' =>
    cases nx <;> simp only [effUpon] at h3 <;> simp only [Oper.upon]
    case value u => obtain ⟨s', hi', hk⟩ := h3; exact feAny_any G hL f _ _ _ _ hi' hk
    case skip => obtain ⟨s', hi', hk⟩ := h3; exact feAny_any G hL f _ _ _ _ hi' hk
    case enter f' args => exact h3.mono fun e w'' ⟨v, he, s', hi', hk⟩ => by subst he; exact feAny_any G hL f _ _ _ _ hi' hk
   | halt x w' => simp only [effUpon] at h3
theorem feOp_put {j : Nat} {oi oj : Oper} {v : Value} (hj : ops[j]? = some oj) (hap : oi.apart ops oj = true)
  (hsi : ∀ cs b, oi.op ≠ .select cs b) (hsj : ∀ cs b, oj.op ≠ .select cs b) {K : S → Act → Prop} {s : S} {a : Act}
  (hy : CalmOp P ops W oi v a) (h : feOp P ops W I j K s (a.put oi.dst v)) :
  feOp P ops W I j (fun s' a' => CalmOp P ops W oi v a' ∧ K s' (a'.put oi.dst v)) s a := by
 obtain ⟨p1, p2, p3⟩ := Oper.apart_spec hap
 rcases h with ⟨o, ho, u, hu, hk⟩ | ⟨o, ho, hg, hs⟩
 ·obtain rfl : o = oj := Option.some.inj (ho.symm.trans hj)
  exact .inl ⟨o, hj, u, hu.unput hsj p1, hy.put hsi p3, by rw [← Act.put_comm a v u p2]; exact hk⟩
 ·obtain rfl : o = oj := Option.some.inj (ho.symm.trans hj)
  refine .inr ⟨o, hj, by rw [wanted_put o a oi.dst v p1] at hg; exact hg, fun w hw => ?_⟩
  have h3 := hs w hw
  unfold EffAt at *
  rw [execOp_put o hsj a oi.dst v p1] at h3
  exact effUpon_mono (fun u w' ⟨s', h1, h2⟩ => ⟨s', h1, hy.put hsi p3, by rw [← Act.put_comm a v u p2]; exact h2⟩) _ h3
theorem feAny_first {i : Nat} {oi : Oper} {v : Value} {L : S → Act → Prop} (hi : ops[i]? = some oi) (hsel : ∀ (j : Nat) (o : Oper) cs b, ops[j]? = some o → o.op ≠ .select cs b) :
  ∀ (f : Nat) (listed : Array Bool) (s : S) (a : Act),
   (∀ j oj, ops[j]? = some oj → j ≠ i → listed.getD j true = false → (∀ e ∈ oj.after, Region.binds md e = true → e.on ≠ i) → oi.apart ops oj = true) →
   i ∈ Region.ready md ops listed → CalmOp P ops W oi v a →
   feAny P md ops W I L f (listed.setIfInBounds i true) s (a.put oi.dst v) → feAny P md ops W I L (f + 1) listed s a := by
 intro f
 induction f with
 | zero =>
  intro listed s a _ hr hy H
  refine ⟨(fun h => by rw [h] at hr; cases hr), fun j hj => ?_⟩
  by_cases hji : j = i
  ·subst hji; exact .inl ⟨oi, hi, v, hy, H⟩
  ·have := ready_mono hj hji
   rw [H.1] at this
   cases this
 | succ f ih =>
  intro listed s a hfree hr hy H
  have hun := (mem_ready.1 hr).1
  refine ⟨(fun h => by rw [h] at hr; cases hr), fun j hj => ?_⟩
  by_cases hji : j = i
  ·subst hji; exact .inl ⟨oi, hi, v, hy, H⟩
  have h1 := H.2 j (ready_mono hj hji)
  obtain ⟨hjun, oj, hoj, hall⟩ := mem_ready.1 hj
  have hnot : ∀ e ∈ oj.after, Region.binds md e = true → e.on ≠ i := fun e he hb heq => by
   have h1 := hall e he hb
   rw [heq, getD_both hun] at h1
   cases h1
  have h2 := feOp_put hoj (hfree j oj hoj hji hjun hnot) (fun cs b => hsel i oi cs b hi) (fun cs b => hsel j oj cs b hoj) hy h1
  have hfree' : ∀ k ok, ops[k]? = some ok → k ≠ i → (listed.setIfInBounds j true).getD k true = false →
    (∀ e ∈ ok.after, Region.binds md e = true → e.on ≠ i) → oi.apart ops ok = true := fun k ok hk hki hu hno => by
   refine hfree k ok hk hki ?_ hno
   by_cases hjk : j = k
   ·subst hjk; exact hjun
   ·rw [getD_set_ne true hjk] at hu; exact hu
  refine feOp_mono (fun s' a' h3 => ih (listed.setIfInBounds j true) s' a' hfree' (ready_mono hr (Ne.symm hji)) h3.1 ?_) h2
  rw [Array.setIfInBounds_comm _ _ hji]
  exact h3.2
end
section
variable {P : Program} {md : Region.Mode} {W : World} {S : Type} {I : S → World → Prop} {l : List Oper} {Lq : S → Act → Prop}
def wpEfs (P : Program) (ops : Array Oper) (W : World) (I : S → World → Prop) (Q : S → Act → Prop) : List Oper → S → Act → Prop
 | [], s, a => Q s a
 | o :: r, s, a => (∃ v, CalmOp P ops W o v a ∧ wpEfs P ops W I Q r s (a.put o.dst v)) ∨ (Region.wanted o (yielded ops a.tmps) = true ∧ ∀ w, I s w → EffAt P o a w (fun v w' => ∃ s', I s' w' ∧ wpEfs P ops W I Q r s' (a.put o.dst v)))
theorem wpEfs_nil {ops : Array Oper} {Q : S → Act → Prop} {s : S} {a : Act} (h : Q s a) : wpEfs P ops W I Q [] s a := h
theorem wpEfs_calm {ops : Array Oper} {Q : S → Act → Prop} {s : S} {a : Act} {o : Oper} {r : List Oper} (v : Value) (hg : o.guard = none) (hc : ∀ g : Growth W, calmAt P o a (grown W g) v) (h : wpEfs P ops W I Q r s (a.put o.dst v)) : wpEfs P ops W I Q (o :: r) s a :=
 .inl ⟨v, .inl ⟨by simp [Region.wanted, hg], hc⟩, h⟩
theorem wpEfs_eff {ops : Array Oper} {Q : S → Act → Prop} {s : S} {a : Act} {o : Oper} {r : List Oper} (hg : o.guard = none) (h : ∀ w, I s w → EffAt P o a w (fun v w' => ∃ s', I s' w' ∧ wpEfs P ops W I Q r s' (a.put o.dst v))) : wpEfs P ops W I Q (o :: r) s a :=
 .inr ⟨by simp [Region.wanted, hg], h⟩
theorem feAny_seq : ∀ (ss : List Nat) (listed : Array Bool) (s : S) (a : Act), seqOne md l.toArray ss listed = true → wpEfs P l.toArray W I Lq (pick l ss) s a → feAny P md l.toArray W I Lq ss.length listed s a
 | [], listed, s, a, hB, h => ⟨by simpa [seqOne] using hB, h⟩
 | k :: r, listed, s, a, hB, h => by
  simp only [seqOne, Bool.and_eq_true, decide_eq_true_eq] at hB
  refine ⟨(fun h0 => by rw [hB.1] at h0; cases h0), fun i hi => ?_⟩
  have hk : k ∈ Region.ready md l.toArray listed := by rw [hB.1]; simp
  obtain ⟨_, o, ho, _⟩ := mem_ready.1 hk
  have ho' : l[k]? = some o := by simpa using ho
  rw [hB.1] at hi
  obtain rfl : i = k := by simpa using hi
  rw [pick_cons ho'] at h
  rcases h with ⟨v, hv, hr⟩ | ⟨hg, hs⟩
  ·exact .inl ⟨o, ho, v, hv, feAny_seq r _ _ _ hB.2 hr⟩
  exact .inr ⟨o, ho, hg, fun w hw => effUpon_mono (fun v w' ⟨s', h1, h2⟩ => ⟨s', h1, feAny_seq r _ _ _ hB.2 h2⟩) _ (hs w hw)⟩
theorem feAny_lex (hsel : Region.noSelect l.toArray = true) (ss : List Nat) :
  ∀ (qs : List Nat) (listed : Array Bool) (s : S) (a : Act), seqFree md l.toArray ss qs listed = true → wpCalm P l.toArray W (fun a' => wpEfs P l.toArray W I Lq (pick l ss) s a') (pick l qs) a →
   feAny P md l.toArray W I Lq (qs.length + ss.length) listed s a
 | [], listed, s, a, hB, h => by
  rw [List.length_nil, Nat.zero_add]
  exact feAny_seq ss listed s a hB h
 | k :: r, listed, s, a, hB, h => by
  simp only [seqFree, Bool.and_eq_true] at hB
  obtain ⟨⟨hr, hf⟩, hB'⟩ := hB
  have hr' : k ∈ Region.ready md l.toArray listed := by simpa using hr
  obtain ⟨_, o, ho, _⟩ := mem_ready.1 hr'
  have ho' : l[k]? = some o := by simpa using ho
  rw [pick_cons ho'] at h
  rw [show (k :: r).length + ss.length = (r.length + ss.length) + 1 by simp; omega]
  unfold wpCalm at h
  by_cases hw : Region.wanted o (yielded l.toArray a.tmps) = true
  ·simp only [hw, if_true] at h
   obtain ⟨v, hv, hk⟩ := h
   exact feAny_first ho (Region.noSelect_spec hsel) _ listed s a (Region.free_spec ho hf) hr' (.inl ⟨hw, hv⟩) (feAny_lex hsel ss r _ _ _ hB' hk)
  ·simp only [hw] at h
   exact feAny_first ho (Region.noSelect_spec hsel) _ listed s a (Region.free_spec ho hf) hr' (.inr ⟨by simpa using hw, rfl⟩) (feAny_lex hsel ss r _ _ _ hB' h)
theorem wp_region_eff {id : Nat} {Q : Exit → Act → World → Prop} {a : Act} {w : World} (G : Ghost W I) (s : S) (hw : I s w.drew) (qs ss : List Nat) (hm : P.follows .mixedOrders = true) (hB : lateB .any l.toArray qs ss = true)
  (h : wpCalm P l.toArray W (fun a' => wpEfs P l.toArray W I (fun s a3 => ∀ w', I s w' → Q .normal a3 w') (pick l ss) s a') (pick l qs) a) : (Code.region id l.toArray true).wp P Q a w := by
 simp only [lateB, Bool.and_eq_true, decide_eq_true_eq] at hB
 obtain ⟨⟨hsel, hlen⟩, hlex⟩ := hB
 have H := feAny_lex (md := .any) (P := P) (W := W) (I := I) hsel ss qs _ s a hlex h
 refine wp_region_any hm ?_
 have := feAny_any (Q' := Q) G (fun s a' w' hw' (hL : ∀ w', I s w' → Q .normal a' w') => hL w' hw') _ _ _ _ _ hw H
 rw [hlen] at this
 exact this
end
structure Blk1 (W : World) (X : Nat) (T : TypeId) where
 cs : Array Value
 e : World → Prop
 grow : ∀ w w', e w → Gr w w' → e w'
 set : ∀ w o v cs, BlockAt w X cs T → e w → e (w.setCell ⟨X, o, none⟩ v)
def InBlk1 (W : World) (X : Nat) (T : TypeId) (s : Blk1 W X T) (w : World) : Prop := Gr W w ∧ BlockAt w X s.cs T ∧ s.e w
theorem inBlk1_ghost (W : World) (X : Nat) (T : TypeId) : Ghost W (InBlk1 W X T) := ⟨fun s w w' h g => ⟨h.1.trans g, h.2.1.gr g, s.grow _ _ h.2.2 g⟩, fun s w h => h.1⟩
def Blk1.other {W : World} {X : Nat} {T : TypeId} (s : Blk1 W X T) (R : Nat) (zs : Array Value) (U : TypeId) (hne : R ≠ X) : Blk1 W X T :=
 ⟨s.cs, fun w => BlockAt w R zs U ∧ s.e w, fun w w' h g => ⟨h.1.gr g, s.grow _ _ h.2 g⟩, fun w o v cs hb h => ⟨by haveI := h.1; haveI : BNe R X := ⟨hne⟩; infer_instance, s.set _ _ _ _ hb h.2⟩⟩
def Blk1.one (W : World) (X : Nat) (T : TypeId) (cs : Array Value) : Blk1 W X T := ⟨cs, fun _ => True, fun _ _ _ _ => trivial, fun _ _ _ _ _ _ => trivial⟩
def Blk1.put {W : World} {X : Nat} {T : TypeId} (s : Blk1 W X T) (o : Nat) (v : Value) : Blk1 W X T := ⟨s.cs.setIfInBounds o v, s.e, s.grow, s.set⟩
def Blk1.and {W : World} {X : Nat} {T : TypeId} (s : Blk1 W X T) (e : World → Prop) (hg : ∀ w w', e w → Gr w w' → e w') (hs : ∀ w o v cs, BlockAt w X cs T → e w → e (w.setCell ⟨X, o, none⟩ v)) : Blk1 W X T :=
 ⟨s.cs, fun w => e w ∧ s.e w, fun w w' h g => ⟨hg _ _ h.1 g, s.grow _ _ h.2 g⟩, fun w o v cs hb h => ⟨hs _ _ _ _ hb h.1, s.set _ _ _ _ hb h.2⟩⟩
theorem wpEfs_put {P : Program} {ops : Array Oper} {W : World} {X : Nat} {T ty : TypeId} {Q : Blk1 W X T → Act → Prop} {s : Blk1 W X T} {a : Act} {o : Oper} {r : List Oper} {x y : Operand} (k : Nat) (ho : o.op = .store ty x y) (hg : o.guard = none)
  (hx : a.eval x = .pointer (some ⟨X, k, none⟩)) (hX : W.heap.size ≤ X) (hk : k < s.cs.size)
  (h1 : ∀ w : World, w.cell? ⟨X, k, none⟩ = some s.cs[k] → w.frozen? ⟨X, k, none⟩ = false → (storeVar ty ⟨X, k, none⟩ (a.eval y)).run P w = .ok () (w.setCell ⟨X, k, none⟩ (a.eval y)))
  (h : wpEfs P ops W (InBlk1 W X T) Q r (s.put k (a.eval y)) (a.put o.dst undef)) : wpEfs P ops W (InBlk1 W X T) Q (o :: r) s a := by
 refine wpEfs_eff hg (fun w hw => ?_)
 obtain ⟨hgr, hb, he⟩ := hw
 have hrun := h1 w (by rw [block_cells w X k s.cs T]; simp) (block_frozen w X k s.cs T)
 have e : EffAt P o a w = fun R => R undef (w.setCell ⟨X, k, none⟩ (a.eval y)) := by
  funext R
  unfold EffAt execOp
  simp only [ho, hx, Instr.storeAt, Instr.sureAddr, Sem.run_bind, Sem.run_pure, Result.andThen_ok, hrun]
  rfl
 rw [e]
 exact ⟨s.put k (a.eval y), ⟨Gr.of (below_set hgr.below hX _), (inferInstance : BlockAt (w.setCell ⟨X, k, none⟩ (a.eval y)) X (s.cs.setIfInBounds k (a.eval y)) T), s.set _ _ _ _ hb he⟩, h⟩
theorem wpEfs_call {P : Program} {ops : Array Oper} {W : World} {S : Type} {I : S → World → Prop} {Q : S → Act → Prop} {s : S} {a : Act} {o : Oper} {r : List Oper} (f : FuncId) (args : Array Value) (hg : o.guard = none)
  (he : ∀ w, (execOp a.eval o).run P w = .ok (.enter f args) w)
  (h : ∀ w, I s w → Calls P f args w (fun e w' => ∃ v, e = .returned v ∧ ∃ s', I s' w' ∧ wpEfs P ops W I Q r s' (a.put o.dst v))) : wpEfs P ops W I Q (o :: r) s a := by
 refine wpEfs_eff hg (fun w hw => ?_)
 unfold EffAt
 rw [he w]
 exact h w hw
def kdL : List ByteArray := [⟨#[99, 114, 101, 97, 116, 101]⟩, ⟨#[100, 101, 108, 101, 116, 101]⟩, ⟨#[114, 101, 115, 105, 122, 101]⟩, ⟨#[115, 110, 97, 112]⟩, ⟨#[119, 114, 105, 116, 101]⟩, ⟨#[122, 101, 114, 111]⟩, ⟨#[100, 105, 115, 99, 97, 114, 100]⟩, ⟨#[102, 108, 117, 115, 104]⟩, ⟨#[114, 101, 97, 100]⟩]
theorem place_kd (b : Nat) (y : ByteArray) (w : World) (kk : Int) (hk : Lib.idxOfS kdL y + 1 = kk) [hB : BlockAt w b (kdL.map Value.string).toArray 9] :
  Calls Tryz.prog 57 #[.slice (some ⟨b, 0, none⟩) 9 9, .string y] w fun e w' => e = .returned (.int .i64 kk) ∧ w = w' := by
 subst hk
 refine place_any b 0 9 kdL 9 rfl y w (by omega) (fun j z hj => ?_)
 rw [Nat.zero_add, block_cells]
 simp [hj]
theorem st_i64 {w : World} {X o : Nat} {u : Value} {z : Int} (hc : w.cell? ⟨X, o, none⟩ = some u) (hf : w.frozen? ⟨X, o, none⟩ = false) : (storeVar 3 ⟨X, o, none⟩ (.int .i64 z)).run Tryz.prog w = .ok () (w.setCell ⟨X, o, none⟩ (.int .i64 z)) := by
 go_simp
theorem st_sl {w : World} {X o : Nat} {u : Value} {A : Option Addr} {n q : Nat} (hc : w.cell? ⟨X, o, none⟩ = some u) (hf : w.frozen? ⟨X, o, none⟩ = false) : (storeVar 24 ⟨X, o, none⟩ (.slice A n q)).run Tryz.prog w = .ok () (w.setCell ⟨X, o, none⟩ (.slice A n q)) := by
 go_simp
structure NumOf (d : ByteArray) (most : Int) (v : Nat) : Prop where
 c : ∀ W, Calls Tryz.prog 90 #[.string d, .int .u64 most] W fun e w' => e = .returned (.int .u64 v) ∧ Gr W w'
structure SmallOf (d : ByteArray) (most : Int) (v : Nat) : Prop where
 c : ∀ W, Calls Tryz.prog 59 #[.string d, .int .i64 most] W fun e w' => e = .returned (.int .i64 v) ∧ Gr W w'
structure DataOf (d : ByteArray) (l : List UInt8) : Prop where
 c : ∀ W, Calls Tryz.prog 91 #[.string d] W fun e W' => ∃ v, e = .returned v ∧ OwnR bv 5 W.heap.size W' v l ∧ Below W.heap.size W W'
structure Rd (d1 d2 d3 : ByteArray) (v1 v2 s2 a2 c3 : Nat) (l3 : List UInt8) : Prop where
 n1 : NumOf d1 4294967295 v1
 n2 : NumOf d2 4294967295 v2
 z2 : SmallOf d2 256 s2
 a2 : SmallOf d2 1048576 a2
 c3 : SmallOf d3 1024 c3
 l3 : DataOf d3 l3
def rV (k : Int) (v1 v2 s2 a2 c3 : Nat) (l3 : List UInt8) : OpV := if k = 1 then ⟨1, v1, 0, s2, 0, 0, []⟩ else if k = 2 then ⟨2, v1, 0, 0, 0, 0, []⟩ else if k = 3 then ⟨3, v1, 0, s2, 0, 0, []⟩ else if k = 4 then ⟨4, v1, v2, 0, 0, 0, []⟩ else if k = 5 then ⟨5, v1, 0, 0, a2, 0, l3⟩ else if k = 6 then ⟨6, v1, 0, 0, a2, c3, []⟩ else if k = 7 then ⟨7, v1, 0, 0, a2, c3, []⟩ else if k = 8 then ⟨8, 0, 0, 0, 0, 0, []⟩ else if k = 9 then ⟨9, v1, 0, 0, a2, c3, []⟩ else ⟨0, v1, 0, 0, 0, 0, []⟩
set_option maxRecDepth 100000 in
set_option maxHeartbeats 8000000 in
theorem ropOf_any (b o n c : Nat) (d0 d1 d2 d3 : ByteArray) (v1 v2 s2 a2 c3 : Nat) (l3 : List UInt8) (H : Rd d1 d2 d3 v1 v2 s2 a2 c3 l3) (w : World) [hk : Tb w] (h4 : 4 ≤ n) (hb : b < w.heap.size) (kk : Int) (hkk : Lib.idxOfS kdL d0 + 1 = kk) (k0 : 0 ≤ kk) (k9 : kk ≤ 9)
  (hc0 : w.cell? ⟨b, o, none⟩ = some (.string d0)) (hc1 : w.cell? ⟨b, o + 1, none⟩ = some (.string d1)) (hc2 : w.cell? ⟨b, o + 2, none⟩ = some (.string d2)) (hc3 : w.cell? ⟨b, o + 3, none⟩ = some (.string d3)) :
  Calls Tryz.prog 40 #[.slice (some ⟨b, o, none⟩) n c] w fun e w' => ∃ dv, e = .returned ((rV kk v1 v2 s2 a2 c3 l3).agg dv) ∧ OwnR bv 5 w.heap.size w' dv (rV kk v1 v2 s2 a2 c3 l3).d ∧ Below w.heap.size w w' := by
 have HKK := Lib.hid hkk; clear hkk
 have HH := Lib.hid H; clear H
 haveI : Old b w := ⟨hb⟩
 have i0 : (0 : Int) < (n : Int) := by omega
 have i1 : (1 : Int) < (n : Int) := by omega
 have i2 : (2 : Int) < (n : Int) := by omega
 have i3 : (3 : Int) < (n : Int) := by omega
 go_enter Tryz.func40, Tryz.ntmps40
 go_upto_region 1 with fail
 go_cut [3] (fun u wx => ∃ g, u = .pointer (some ⟨g, 0, none⟩) ∧ w.heap.size < g ∧ BlockAt wx g #[.int .i64 kk, .int .u64 0, .int .u64 0, .int .i64 0, .int .i64 0, .int .i64 0, .slice none 0 0] 26 ∧ BlockAt wx w.heap.size #[.int .i64 0, .int .u64 0, .int .u64 0, .int .i64 0, .int .i64 0, .int .i64 0, .slice none 0 0] 26 ∧ Below w.heap.size w wx)
 case first =>
  haveI : NeZero n := ⟨by omega⟩
  go_region_with (first | (go_at_call 45; refine (kinds_any _).mono ?_; rintro e w' ⟨rfl, rfl⟩) | (go_at_call 57; refine (@place_kd _ _ _ _ HKK.out (by first | exact inferInstanceAs (BlockAt (World.alloc _ _) _ _ _) | infer_instance)).mono ?_; rintro e w' ⟨rfl, rfl⟩))
  all_goals
   go_wp2_with fail
   go_meet
   case rel => exact ⟨_, rfl, by omega, inferInstance, inferInstance, by (with_reducible repeat (first | exact Below.refl _ _ | apply below_alloc | refine below_set_le ?_ (by simp) _ | apply Below.drew))⟩
 case rest =>
  obtain ⟨X, rfl, hX, bX, bR, hbw⟩ := hcut
  have hHR : w.heap.size < wc.heap.size := bR.lt
  haveI : BNe w.heap.size X := ⟨by omega⟩
  haveI : BNe X w.heap.size := ⟨by omega⟩
  haveI : Old X wc := bX.old
  haveI : Old w.heap.size wc := bR.old
  haveI : Old b wc := ⟨by omega⟩
  have e1 : (w.heap.size = X) = False := by simp; omega
  have e2 : (X = w.heap.size) = False := by simp; omega
  have e3 : (b = X) = False := by simp; omega
  have e4 : (X = b) = False := by simp; omega
  have e5 : (b = w.heap.size) = False := by simp; omega
  have e6 : (w.heap.size = b) = False := by simp; omega
  have y1 : wc.cell? ⟨b, o + 1, none⟩ = some (.string d1) := (hbw.cell (p := ⟨b, o + 1, none⟩) hb).trans hc1
  have y2 : wc.cell? ⟨b, o + 2, none⟩ = some (.string d2) := (hbw.cell (p := ⟨b, o + 2, none⟩) hb).trans hc2
  have y3 : wc.cell? ⟨b, o + 3, none⟩ = some (.string d3) := (hbw.cell (p := ⟨b, o + 3, none⟩) hb).trans hc3
  have x0 : wc.cell? ⟨X, 0, none⟩ = some (.int .i64 kk) := (block_cells _ _ _ _ _).trans rfl
  have x1 : wc.cell? ⟨X, 1, none⟩ = some (.int .u64 0) := (block_cells _ _ _ _ _).trans rfl
  have x2 : wc.cell? ⟨X, 2, none⟩ = some (.int .u64 0) := (block_cells _ _ _ _ _).trans rfl
  have x3 : wc.cell? ⟨X, 3, none⟩ = some (.int .i64 0) := (block_cells _ _ _ _ _).trans rfl
  have x4 : wc.cell? ⟨X, 4, none⟩ = some (.int .i64 0) := (block_cells _ _ _ _ _).trans rfl
  have x5 : wc.cell? ⟨X, 5, none⟩ = some (.int .i64 0) := (block_cells _ _ _ _ _).trans rfl
  have x6 : wc.cell? ⟨X, 6, none⟩ = some (.slice none 0 0) := (block_cells _ _ _ _ _).trans rfl
  have u1 : wc.frozen? ⟨X, 1, none⟩ = false := block_frozen _ _ _ _ _
  have u2 : wc.frozen? ⟨X, 2, none⟩ = false := block_frozen _ _ _ _ _
  have u3 : wc.frozen? ⟨X, 3, none⟩ = false := block_frozen _ _ _ _ _
  have r0 : wc.cell? ⟨w.heap.size, 0, none⟩ = some (.int .i64 0) := (block_cells _ _ _ _ _).trans rfl
  have r1 : wc.cell? ⟨w.heap.size, 1, none⟩ = some (.int .u64 0) := (block_cells _ _ _ _ _).trans rfl
  have r2 : wc.cell? ⟨w.heap.size, 2, none⟩ = some (.int .u64 0) := (block_cells _ _ _ _ _).trans rfl
  have r3 : wc.cell? ⟨w.heap.size, 3, none⟩ = some (.int .i64 0) := (block_cells _ _ _ _ _).trans rfl
  have r4 : wc.cell? ⟨w.heap.size, 4, none⟩ = some (.int .i64 0) := (block_cells _ _ _ _ _).trans rfl
  have r5 : wc.cell? ⟨w.heap.size, 5, none⟩ = some (.int .i64 0) := (block_cells _ _ _ _ _).trans rfl
  have r6 : wc.cell? ⟨w.heap.size, 6, none⟩ = some (.slice none 0 0) := (block_cells _ _ _ _ _).trans rfl
  have z0 : wc.frozen? ⟨w.heap.size, 0, none⟩ = false := block_frozen _ _ _ _ _
  have z1 : wc.frozen? ⟨w.heap.size, 1, none⟩ = false := block_frozen _ _ _ _ _
  have z2 : wc.frozen? ⟨w.heap.size, 2, none⟩ = false := block_frozen _ _ _ _ _
  have z3 : wc.frozen? ⟨w.heap.size, 3, none⟩ = false := block_frozen _ _ _ _ _
  have z4 : wc.frozen? ⟨w.heap.size, 4, none⟩ = false := block_frozen _ _ _ _ _
  have z5 : wc.frozen? ⟨w.heap.size, 5, none⟩ = false := block_frozen _ _ _ _ _
  have z6 : wc.frozen? ⟨w.heap.size, 6, none⟩ = false := block_frozen _ _ _ _ _
  have HBW := Lib.hid hbw; clear hbw
  have HX := Lib.hid hX; clear hX
  have hk3 : kk = 0 ∨ kk = 1 ∨ kk = 2 ∨ kk = 3 ∨ kk = 4 ∨ kk = 5 ∨ kk = 6 ∨ kk = 7 ∨ kk = 8 ∨ kk = 9 := by omega
  clear k0 k9
  rcases hk3 with rfl | rfl | rfl | rfl | rfl | rfl | rfl | rfl | rfl | rfl
  ·-- 0
   go_wp2_with ((go_at_call 90; ((with_reducible refine (HH.out.n1.c _).mono ?_); rintro _ _ ⟨rfl, g, rfl⟩)))
   exact bodyPost_ret (v := .agg #[.int .i64 0, .int .u64 v1, .int .u64 0, .int .i64 0, .int .i64 0, .int .i64 0, .slice none 0 0]) (by simp [results, Tryz.results40, go_sem, e1, e2, e3, e4, e5, e6, x0, x1, x2, x3, x4, x5, x6, r0, r1, r2, r3, r4, r5, r6, z0, z1, z2, z3, z4, z5, z6]) rfl ⟨.slice none 0 0, rfl, OwnR.nil _ _, by (with_reducible repeat (first | exact HBW.out | refine below_set_le ?_ (by have := HX.out; omega) _ | refine below_trans ?_ (grown_below _ _) | apply Below.drew))⟩
  ·-- 1
   go_wp2_with (((first | (go_at_call 90; with_reducible refine (HH.out.n1.c _).mono ?_) | (go_at_call 59; with_reducible refine (HH.out.z2.c _).mono ?_)); rintro _ _ ⟨rfl, g, rfl⟩))
   exact bodyPost_ret (v := .agg #[.int .i64 1, .int .u64 v1, .int .u64 0, .int .i64 s2, .int .i64 0, .int .i64 0, .slice none 0 0]) (by simp [results, Tryz.results40, go_sem, e1, e2, e3, e4, e5, e6, x0, x1, x2, x3, x4, x5, x6, r0, r1, r2, r3, r4, r5, r6, z0, z1, z2, z3, z4, z5, z6]) rfl ⟨.slice none 0 0, rfl, OwnR.nil _ _, by (with_reducible repeat (first | exact HBW.out | refine below_set_le ?_ (by have := HX.out; omega) _ | refine below_trans ?_ (grown_below _ _) | apply Below.drew))⟩
  ·-- 2
   go_wp2_with ((go_at_call 90; ((with_reducible refine (HH.out.n1.c _).mono ?_); rintro _ _ ⟨rfl, g, rfl⟩)))
   exact bodyPost_ret (v := .agg #[.int .i64 2, .int .u64 v1, .int .u64 0, .int .i64 0, .int .i64 0, .int .i64 0, .slice none 0 0]) (by simp [results, Tryz.results40, go_sem, e1, e2, e3, e4, e5, e6, x0, x1, x2, x3, x4, x5, x6, r0, r1, r2, r3, r4, r5, r6, z0, z1, z2, z3, z4, z5, z6]) rfl ⟨.slice none 0 0, rfl, OwnR.nil _ _, by (with_reducible repeat (first | exact HBW.out | refine below_set_le ?_ (by have := HX.out; omega) _ | refine below_trans ?_ (grown_below _ _) | apply Below.drew))⟩
  ·-- 3
   go_wp2_with (((first | (go_at_call 90; with_reducible refine (HH.out.n1.c _).mono ?_) | (go_at_call 59; with_reducible refine (HH.out.z2.c _).mono ?_)); rintro _ _ ⟨rfl, g, rfl⟩))
   exact bodyPost_ret (v := .agg #[.int .i64 3, .int .u64 v1, .int .u64 0, .int .i64 s2, .int .i64 0, .int .i64 0, .slice none 0 0]) (by simp [results, Tryz.results40, go_sem, e1, e2, e3, e4, e5, e6, x0, x1, x2, x3, x4, x5, x6, r0, r1, r2, r3, r4, r5, r6, z0, z1, z2, z3, z4, z5, z6]) rfl ⟨.slice none 0 0, rfl, OwnR.nil _ _, by (with_reducible repeat (first | exact HBW.out | refine below_set_le ?_ (by have := HX.out; omega) _ | refine below_trans ?_ (grown_below _ _) | apply Below.drew))⟩
  ·-- 4
   go_wp2_with (((first | (go_at_call 90; with_reducible refine (HH.out.n1.c _).mono ?_) | (go_at_call 90; with_reducible refine (HH.out.n2.c _).mono ?_)); rintro _ _ ⟨rfl, g, rfl⟩))
   exact bodyPost_ret (v := .agg #[.int .i64 4, .int .u64 v1, .int .u64 v2, .int .i64 0, .int .i64 0, .int .i64 0, .slice none 0 0]) (by simp [results, Tryz.results40, go_sem, e1, e2, e3, e4, e5, e6, x0, x1, x2, x3, x4, x5, x6, r0, r1, r2, r3, r4, r5, r6, z0, z1, z2, z3, z4, z5, z6]) rfl ⟨.slice none 0 0, rfl, OwnR.nil _ _, by (with_reducible repeat (first | exact HBW.out | refine below_set_le ?_ (by have := HX.out; omega) _ | refine below_trans ?_ (grown_below _ _) | apply Below.drew))⟩
  ·-- 5
   go_wp2_with ((go_at_call 90; ((with_reducible refine (HH.out.n1.c _).mono ?_); rintro _ _ ⟨rfl, g, rfl⟩)))
   refine wp_region_eff (W := w) (I := InBlk1 w X 26) (inBlk1_ghost _ _ _) ((Blk1.one w X 26 #[.int .i64 5, .int .u64 v1, .int .u64 0, .int .i64 0, .int .i64 0, .int .i64 0, .slice none 0 0]).other w.heap.size #[.int .i64 0, .int .u64 0, .int .u64 0, .int .i64 0, .int .i64 0, .int .i64 0, .slice none 0 0] 26 (by have := HX.out; omega)) ?hst [0, 1, 2, 3, 4, 5, 6, 8] [7, 9, 10, 11] (by kernel_rfl) (by kernel_rfl) ?_
   case hst => exact ⟨Gr.of (by (with_reducible repeat (first | exact HBW.out | refine below_set_le ?_ (by have := HX.out; omega) _ | refine below_trans ?_ (grown_below _ _) | apply Below.drew))), inferInstance, inferInstance, trivial⟩
   simp only [pick, List.drop_succ_cons, List.drop_zero, List.take_succ_cons, List.take_zero, List.nil_append, List.cons_append]
   repeat (refine wpCalm_step (fun K hK => ?_); go_simp; first | (refine hK _ ?_; clear hK K) | (apply Exists.intro; refine ⟨fun _ => ?_, hK _ ?_⟩; ((first | (go_at_call 59; exact HH.out.a2.c _) | (go_at_call 59; exact HH.out.c3.c _))); clear hK K))
   refine wpCalm_nil ?_
   refine wpEfs_call 91 #[.string d3] rfl (fun _ => by go_simp) (fun w5 hw5 => ?_)
   have HW5 := Lib.hid hw5; clear hw5
   refine (HH.out.l3.c w5).mono ?_
   rintro _ w6 ⟨dv, rfl, ho6, hb6⟩
   obtain ⟨dA, dq, rfl, hq, _⟩ := ho6.form
   refine ⟨_, rfl, Blk1.and ((Blk1.one w X 26 #[.int .i64 5, .int .u64 v1, .int .u64 0, .int .i64 0, .int .i64 0, .int .i64 0, .slice none 0 0]).other w.heap.size #[.int .i64 0, .int .u64 0, .int .u64 0, .int .i64 0, .int .i64 0, .int .i64 0, .slice none 0 0] 26 (by have := HX.out; omega)) (fun w7 => OwnR bv 5 w.heap.size w7 (.slice dA l3.length dq) l3) (fun _ _ h g => h.gr g) (fun w7 o7 v7 cs7 hb7 h => OwnR.set_ h X o7 v7 (by decide)), ?hin, ?_⟩
   case hin => exact ⟨HW5.out.1.trans (Gr.of hb6), HW5.out.2.1.gr (Gr.of hb6), ho6.more HW5.out.1.below.size, HW5.out.2.2.1.gr (Gr.of hb6), trivial⟩
   refine wpEfs_put 4 rfl rfl rfl (Nat.le_of_lt HX.out) (by simp [Blk1.and, Blk1.other, Blk1.one]) (fun _ hc hf => st_i64 hc hf) ?_
   refine wpEfs_calm (.pointer (some ⟨X, 6, none⟩)) rfl (fun g => by go_simp) ?_
   refine wpEfs_put 6 rfl rfl rfl (Nat.le_of_lt HX.out) (by simp [Blk1.put, Blk1.and, Blk1.other, Blk1.one]) (fun _ hc hf => st_sl hc hf) ?_
   refine wpEfs_nil ?_
   rintro w8 ⟨hg8, bX8, ho8, bR8, _⟩
   have HG8 := Lib.hid hg8; clear hg8
   haveI : Old X w8 := bX8.old
   haveI : Old w.heap.size w8 := bR8.old
   have xx0 : w8.cell? ⟨X, 0, none⟩ = some (.int .i64 5) := (@block_cells _ _ 0 _ _ bX8).trans rfl
   have xx1 : w8.cell? ⟨X, 1, none⟩ = some (.int .u64 v1) := (@block_cells _ _ 1 _ _ bX8).trans rfl
   have xx2 : w8.cell? ⟨X, 2, none⟩ = some (.int .u64 0) := (@block_cells _ _ 2 _ _ bX8).trans rfl
   have xx3 : w8.cell? ⟨X, 3, none⟩ = some (.int .i64 0) := (@block_cells _ _ 3 _ _ bX8).trans rfl
   have xx4 : w8.cell? ⟨X, 4, none⟩ = some (.int .i64 a2) := (@block_cells _ _ 4 _ _ bX8).trans rfl
   have xx5 : w8.cell? ⟨X, 5, none⟩ = some (.int .i64 0) := (@block_cells _ _ 5 _ _ bX8).trans rfl
   have xx6 : w8.cell? ⟨X, 6, none⟩ = some (.slice dA l3.length dq) := (@block_cells _ _ 6 _ _ bX8).trans rfl
   have rr0 : w8.cell? ⟨w.heap.size, 0, none⟩ = some (.int .i64 0) := (@block_cells _ _ 0 _ _ bR8).trans rfl
   have rr1 : w8.cell? ⟨w.heap.size, 1, none⟩ = some (.int .u64 0) := (@block_cells _ _ 1 _ _ bR8).trans rfl
   have rr2 : w8.cell? ⟨w.heap.size, 2, none⟩ = some (.int .u64 0) := (@block_cells _ _ 2 _ _ bR8).trans rfl
   have rr3 : w8.cell? ⟨w.heap.size, 3, none⟩ = some (.int .i64 0) := (@block_cells _ _ 3 _ _ bR8).trans rfl
   have rr4 : w8.cell? ⟨w.heap.size, 4, none⟩ = some (.int .i64 0) := (@block_cells _ _ 4 _ _ bR8).trans rfl
   have rr5 : w8.cell? ⟨w.heap.size, 5, none⟩ = some (.int .i64 0) := (@block_cells _ _ 5 _ _ bR8).trans rfl
   have rr6 : w8.cell? ⟨w.heap.size, 6, none⟩ = some (.slice none 0 0) := (@block_cells _ _ 6 _ _ bR8).trans rfl
   have zz0 : w8.frozen? ⟨w.heap.size, 0, none⟩ = false := @block_frozen _ _ 0 _ _ bR8
   have zz1 : w8.frozen? ⟨w.heap.size, 1, none⟩ = false := @block_frozen _ _ 1 _ _ bR8
   have zz2 : w8.frozen? ⟨w.heap.size, 2, none⟩ = false := @block_frozen _ _ 2 _ _ bR8
   have zz3 : w8.frozen? ⟨w.heap.size, 3, none⟩ = false := @block_frozen _ _ 3 _ _ bR8
   have zz4 : w8.frozen? ⟨w.heap.size, 4, none⟩ = false := @block_frozen _ _ 4 _ _ bR8
   have zz5 : w8.frozen? ⟨w.heap.size, 5, none⟩ = false := @block_frozen _ _ 5 _ _ bR8
   have zz6 : w8.frozen? ⟨w.heap.size, 6, none⟩ = false := @block_frozen _ _ 6 _ _ bR8
   go_wp2
   exact bodyPost_ret (v := .agg #[.int .i64 5, .int .u64 v1, .int .u64 0, .int .i64 0, .int .i64 a2, .int .i64 0, .slice dA l3.length dq]) (by simp [results, Tryz.results40, go_sem, e1, e2, xx0, xx1, xx2, xx3, xx4, xx5, xx6, rr0, rr1, rr2, rr3, rr4, rr5, rr6, zz0, zz1, zz2, zz3, zz4, zz5, zz6]) rfl ⟨.slice dA l3.length dq, rfl, (by show OwnR bv 5 w.heap.size _ _ l3; (with_reducible repeat (first | exact ho8 | refine OwnR.set_ ?_ _ _ _ (by decide)))), by (with_reducible repeat (first | exact HG8.out.below | refine below_set_le ?_ (by omega) _))⟩
  ·-- 6
   go_wp2_with ((go_at_call 90; ((with_reducible refine (HH.out.n1.c _).mono ?_); rintro _ _ ⟨rfl, g, rfl⟩)))
   refine wp_region_eff (W := w) (I := InBlk1 w X 26) (inBlk1_ghost _ _ _) ((Blk1.one w X 26 #[.int .i64 6, .int .u64 v1, .int .u64 0, .int .i64 0, .int .i64 0, .int .i64 0, .slice none 0 0]).other w.heap.size #[.int .i64 0, .int .u64 0, .int .u64 0, .int .i64 0, .int .i64 0, .int .i64 0, .slice none 0 0] 26 (by have := HX.out; omega)) ?hst [0, 1, 2, 3, 4, 5, 6, 7, 8] [9, 10, 11] (by kernel_rfl) (by kernel_rfl) ?_
   case hst => exact ⟨Gr.of (by (with_reducible repeat (first | exact HBW.out | refine below_set_le ?_ (by have := HX.out; omega) _ | refine below_trans ?_ (grown_below _ _) | apply Below.drew))), inferInstance, inferInstance, trivial⟩
   simp only [pick, List.drop_succ_cons, List.drop_zero, List.take_succ_cons, List.take_zero, List.nil_append, List.cons_append]
   repeat (refine wpCalm_step (fun K hK => ?_); go_simp; first | (refine hK _ ?_; clear hK K) | (apply Exists.intro; refine ⟨fun _ => ?_, hK _ ?_⟩; ((first | (go_at_call 59; exact HH.out.a2.c _) | (go_at_call 59; exact HH.out.c3.c _))); clear hK K))
   refine wpCalm_nil ?_
   refine wpEfs_put 4 rfl rfl rfl (Nat.le_of_lt HX.out) (by simp [Blk1.other, Blk1.one]) (fun _ hc hf => st_i64 hc hf) ?_
   refine wpEfs_calm (.pointer (some ⟨X, 5, none⟩)) rfl (fun g => by go_simp) ?_
   refine wpEfs_put 5 rfl rfl rfl (Nat.le_of_lt HX.out) (by simp [Blk1.put, Blk1.other, Blk1.one]) (fun _ hc hf => st_i64 hc hf) ?_
   refine wpEfs_nil ?_
   rintro w8 ⟨hg8, bX8, bR8, _⟩
   have HG8 := Lib.hid hg8; clear hg8
   haveI : Old X w8 := bX8.old
   haveI : Old w.heap.size w8 := bR8.old
   have xx0 : w8.cell? ⟨X, 0, none⟩ = some (.int .i64 6) := (@block_cells _ _ 0 _ _ bX8).trans rfl
   have xx1 : w8.cell? ⟨X, 1, none⟩ = some (.int .u64 v1) := (@block_cells _ _ 1 _ _ bX8).trans rfl
   have xx2 : w8.cell? ⟨X, 2, none⟩ = some (.int .u64 0) := (@block_cells _ _ 2 _ _ bX8).trans rfl
   have xx3 : w8.cell? ⟨X, 3, none⟩ = some (.int .i64 0) := (@block_cells _ _ 3 _ _ bX8).trans rfl
   have xx4 : w8.cell? ⟨X, 4, none⟩ = some (.int .i64 a2) := (@block_cells _ _ 4 _ _ bX8).trans rfl
   have xx5 : w8.cell? ⟨X, 5, none⟩ = some (.int .i64 c3) := (@block_cells _ _ 5 _ _ bX8).trans rfl
   have xx6 : w8.cell? ⟨X, 6, none⟩ = some (.slice none 0 0) := (@block_cells _ _ 6 _ _ bX8).trans rfl
   have rr0 : w8.cell? ⟨w.heap.size, 0, none⟩ = some (.int .i64 0) := (@block_cells _ _ 0 _ _ bR8).trans rfl
   have rr1 : w8.cell? ⟨w.heap.size, 1, none⟩ = some (.int .u64 0) := (@block_cells _ _ 1 _ _ bR8).trans rfl
   have rr2 : w8.cell? ⟨w.heap.size, 2, none⟩ = some (.int .u64 0) := (@block_cells _ _ 2 _ _ bR8).trans rfl
   have rr3 : w8.cell? ⟨w.heap.size, 3, none⟩ = some (.int .i64 0) := (@block_cells _ _ 3 _ _ bR8).trans rfl
   have rr4 : w8.cell? ⟨w.heap.size, 4, none⟩ = some (.int .i64 0) := (@block_cells _ _ 4 _ _ bR8).trans rfl
   have rr5 : w8.cell? ⟨w.heap.size, 5, none⟩ = some (.int .i64 0) := (@block_cells _ _ 5 _ _ bR8).trans rfl
   have rr6 : w8.cell? ⟨w.heap.size, 6, none⟩ = some (.slice none 0 0) := (@block_cells _ _ 6 _ _ bR8).trans rfl
   have zz0 : w8.frozen? ⟨w.heap.size, 0, none⟩ = false := @block_frozen _ _ 0 _ _ bR8
   have zz1 : w8.frozen? ⟨w.heap.size, 1, none⟩ = false := @block_frozen _ _ 1 _ _ bR8
   have zz2 : w8.frozen? ⟨w.heap.size, 2, none⟩ = false := @block_frozen _ _ 2 _ _ bR8
   have zz3 : w8.frozen? ⟨w.heap.size, 3, none⟩ = false := @block_frozen _ _ 3 _ _ bR8
   have zz4 : w8.frozen? ⟨w.heap.size, 4, none⟩ = false := @block_frozen _ _ 4 _ _ bR8
   have zz5 : w8.frozen? ⟨w.heap.size, 5, none⟩ = false := @block_frozen _ _ 5 _ _ bR8
   have zz6 : w8.frozen? ⟨w.heap.size, 6, none⟩ = false := @block_frozen _ _ 6 _ _ bR8
   go_wp2
   exact bodyPost_ret (v := .agg #[.int .i64 6, .int .u64 v1, .int .u64 0, .int .i64 0, .int .i64 a2, .int .i64 c3, .slice none 0 0]) (by simp [results, Tryz.results40, go_sem, e1, e2, xx0, xx1, xx2, xx3, xx4, xx5, xx6, rr0, rr1, rr2, rr3, rr4, rr5, rr6, zz0, zz1, zz2, zz3, zz4, zz5, zz6]) rfl ⟨.slice none 0 0, rfl, OwnR.nil _ _, by (with_reducible repeat (first | exact HG8.out.below | refine below_set_le ?_ (by omega) _))⟩
  ·-- 7
   go_wp2_with ((go_at_call 90; ((with_reducible refine (HH.out.n1.c _).mono ?_); rintro _ _ ⟨rfl, g, rfl⟩)))
   refine wp_region_eff (W := w) (I := InBlk1 w X 26) (inBlk1_ghost _ _ _) ((Blk1.one w X 26 #[.int .i64 7, .int .u64 v1, .int .u64 0, .int .i64 0, .int .i64 0, .int .i64 0, .slice none 0 0]).other w.heap.size #[.int .i64 0, .int .u64 0, .int .u64 0, .int .i64 0, .int .i64 0, .int .i64 0, .slice none 0 0] 26 (by have := HX.out; omega)) ?hst [0, 1, 2, 3, 4, 5, 6, 7, 8] [9, 10, 11] (by kernel_rfl) (by kernel_rfl) ?_
   case hst => exact ⟨Gr.of (by (with_reducible repeat (first | exact HBW.out | refine below_set_le ?_ (by have := HX.out; omega) _ | refine below_trans ?_ (grown_below _ _) | apply Below.drew))), inferInstance, inferInstance, trivial⟩
   simp only [pick, List.drop_succ_cons, List.drop_zero, List.take_succ_cons, List.take_zero, List.nil_append, List.cons_append]
   repeat (refine wpCalm_step (fun K hK => ?_); go_simp; first | (refine hK _ ?_; clear hK K) | (apply Exists.intro; refine ⟨fun _ => ?_, hK _ ?_⟩; ((first | (go_at_call 59; exact HH.out.a2.c _) | (go_at_call 59; exact HH.out.c3.c _))); clear hK K))
   refine wpCalm_nil ?_
   refine wpEfs_put 4 rfl rfl rfl (Nat.le_of_lt HX.out) (by simp [Blk1.other, Blk1.one]) (fun _ hc hf => st_i64 hc hf) ?_
   refine wpEfs_calm (.pointer (some ⟨X, 5, none⟩)) rfl (fun g => by go_simp) ?_
   refine wpEfs_put 5 rfl rfl rfl (Nat.le_of_lt HX.out) (by simp [Blk1.put, Blk1.other, Blk1.one]) (fun _ hc hf => st_i64 hc hf) ?_
   refine wpEfs_nil ?_
   rintro w8 ⟨hg8, bX8, bR8, _⟩
   have HG8 := Lib.hid hg8; clear hg8
   haveI : Old X w8 := bX8.old
   haveI : Old w.heap.size w8 := bR8.old
   have xx0 : w8.cell? ⟨X, 0, none⟩ = some (.int .i64 7) := (@block_cells _ _ 0 _ _ bX8).trans rfl
   have xx1 : w8.cell? ⟨X, 1, none⟩ = some (.int .u64 v1) := (@block_cells _ _ 1 _ _ bX8).trans rfl
   have xx2 : w8.cell? ⟨X, 2, none⟩ = some (.int .u64 0) := (@block_cells _ _ 2 _ _ bX8).trans rfl
   have xx3 : w8.cell? ⟨X, 3, none⟩ = some (.int .i64 0) := (@block_cells _ _ 3 _ _ bX8).trans rfl
   have xx4 : w8.cell? ⟨X, 4, none⟩ = some (.int .i64 a2) := (@block_cells _ _ 4 _ _ bX8).trans rfl
   have xx5 : w8.cell? ⟨X, 5, none⟩ = some (.int .i64 c3) := (@block_cells _ _ 5 _ _ bX8).trans rfl
   have xx6 : w8.cell? ⟨X, 6, none⟩ = some (.slice none 0 0) := (@block_cells _ _ 6 _ _ bX8).trans rfl
   have rr0 : w8.cell? ⟨w.heap.size, 0, none⟩ = some (.int .i64 0) := (@block_cells _ _ 0 _ _ bR8).trans rfl
   have rr1 : w8.cell? ⟨w.heap.size, 1, none⟩ = some (.int .u64 0) := (@block_cells _ _ 1 _ _ bR8).trans rfl
   have rr2 : w8.cell? ⟨w.heap.size, 2, none⟩ = some (.int .u64 0) := (@block_cells _ _ 2 _ _ bR8).trans rfl
   have rr3 : w8.cell? ⟨w.heap.size, 3, none⟩ = some (.int .i64 0) := (@block_cells _ _ 3 _ _ bR8).trans rfl
   have rr4 : w8.cell? ⟨w.heap.size, 4, none⟩ = some (.int .i64 0) := (@block_cells _ _ 4 _ _ bR8).trans rfl
   have rr5 : w8.cell? ⟨w.heap.size, 5, none⟩ = some (.int .i64 0) := (@block_cells _ _ 5 _ _ bR8).trans rfl
   have rr6 : w8.cell? ⟨w.heap.size, 6, none⟩ = some (.slice none 0 0) := (@block_cells _ _ 6 _ _ bR8).trans rfl
   have zz0 : w8.frozen? ⟨w.heap.size, 0, none⟩ = false := @block_frozen _ _ 0 _ _ bR8
   have zz1 : w8.frozen? ⟨w.heap.size, 1, none⟩ = false := @block_frozen _ _ 1 _ _ bR8
   have zz2 : w8.frozen? ⟨w.heap.size, 2, none⟩ = false := @block_frozen _ _ 2 _ _ bR8
   have zz3 : w8.frozen? ⟨w.heap.size, 3, none⟩ = false := @block_frozen _ _ 3 _ _ bR8
   have zz4 : w8.frozen? ⟨w.heap.size, 4, none⟩ = false := @block_frozen _ _ 4 _ _ bR8
   have zz5 : w8.frozen? ⟨w.heap.size, 5, none⟩ = false := @block_frozen _ _ 5 _ _ bR8
   have zz6 : w8.frozen? ⟨w.heap.size, 6, none⟩ = false := @block_frozen _ _ 6 _ _ bR8
   go_wp2
   exact bodyPost_ret (v := .agg #[.int .i64 7, .int .u64 v1, .int .u64 0, .int .i64 0, .int .i64 a2, .int .i64 c3, .slice none 0 0]) (by simp [results, Tryz.results40, go_sem, e1, e2, xx0, xx1, xx2, xx3, xx4, xx5, xx6, rr0, rr1, rr2, rr3, rr4, rr5, rr6, zz0, zz1, zz2, zz3, zz4, zz5, zz6]) rfl ⟨.slice none 0 0, rfl, OwnR.nil _ _, by (with_reducible repeat (first | exact HG8.out.below | refine below_set_le ?_ (by omega) _))⟩
  ·-- 8
   go_wp2
   exact bodyPost_ret (v := .agg #[.int .i64 8, .int .u64 0, .int .u64 0, .int .i64 0, .int .i64 0, .int .i64 0, .slice none 0 0]) (by simp [results, Tryz.results40, go_sem, e1, e2, e3, e4, e5, e6, x0, x1, x2, x3, x4, x5, x6, r0, r1, r2, r3, r4, r5, r6, z0, z1, z2, z3, z4, z5, z6]) rfl ⟨.slice none 0 0, rfl, OwnR.nil _ _, by (with_reducible repeat (first | exact HBW.out | refine below_set_le ?_ (by have := HX.out; omega) _ | refine below_trans ?_ (grown_below _ _) | apply Below.drew))⟩
  ·-- 9
   go_wp2_with ((go_at_call 90; ((with_reducible refine (HH.out.n1.c _).mono ?_); rintro _ _ ⟨rfl, g, rfl⟩)))
   refine wp_region_eff (W := w) (I := InBlk1 w X 26) (inBlk1_ghost _ _ _) ((Blk1.one w X 26 #[.int .i64 9, .int .u64 v1, .int .u64 0, .int .i64 0, .int .i64 0, .int .i64 0, .slice none 0 0]).other w.heap.size #[.int .i64 0, .int .u64 0, .int .u64 0, .int .i64 0, .int .i64 0, .int .i64 0, .slice none 0 0] 26 (by have := HX.out; omega)) ?hst [0, 1, 2, 3, 4, 5, 6, 7, 8] [9, 10, 11] (by kernel_rfl) (by kernel_rfl) ?_
   case hst => exact ⟨Gr.of (by (with_reducible repeat (first | exact HBW.out | refine below_set_le ?_ (by have := HX.out; omega) _ | refine below_trans ?_ (grown_below _ _) | apply Below.drew))), inferInstance, inferInstance, trivial⟩
   simp only [pick, List.drop_succ_cons, List.drop_zero, List.take_succ_cons, List.take_zero, List.nil_append, List.cons_append]
   repeat (refine wpCalm_step (fun K hK => ?_); go_simp; first | (refine hK _ ?_; clear hK K) | (apply Exists.intro; refine ⟨fun _ => ?_, hK _ ?_⟩; ((first | (go_at_call 59; exact HH.out.a2.c _) | (go_at_call 59; exact HH.out.c3.c _))); clear hK K))
   refine wpCalm_nil ?_
   refine wpEfs_put 4 rfl rfl rfl (Nat.le_of_lt HX.out) (by simp [Blk1.other, Blk1.one]) (fun _ hc hf => st_i64 hc hf) ?_
   refine wpEfs_calm (.pointer (some ⟨X, 5, none⟩)) rfl (fun g => by go_simp) ?_
   refine wpEfs_put 5 rfl rfl rfl (Nat.le_of_lt HX.out) (by simp [Blk1.put, Blk1.other, Blk1.one]) (fun _ hc hf => st_i64 hc hf) ?_
   refine wpEfs_nil ?_
   rintro w8 ⟨hg8, bX8, bR8, _⟩
   have HG8 := Lib.hid hg8; clear hg8
   haveI : Old X w8 := bX8.old
   haveI : Old w.heap.size w8 := bR8.old
   have xx0 : w8.cell? ⟨X, 0, none⟩ = some (.int .i64 9) := (@block_cells _ _ 0 _ _ bX8).trans rfl
   have xx1 : w8.cell? ⟨X, 1, none⟩ = some (.int .u64 v1) := (@block_cells _ _ 1 _ _ bX8).trans rfl
   have xx2 : w8.cell? ⟨X, 2, none⟩ = some (.int .u64 0) := (@block_cells _ _ 2 _ _ bX8).trans rfl
   have xx3 : w8.cell? ⟨X, 3, none⟩ = some (.int .i64 0) := (@block_cells _ _ 3 _ _ bX8).trans rfl
   have xx4 : w8.cell? ⟨X, 4, none⟩ = some (.int .i64 a2) := (@block_cells _ _ 4 _ _ bX8).trans rfl
   have xx5 : w8.cell? ⟨X, 5, none⟩ = some (.int .i64 c3) := (@block_cells _ _ 5 _ _ bX8).trans rfl
   have xx6 : w8.cell? ⟨X, 6, none⟩ = some (.slice none 0 0) := (@block_cells _ _ 6 _ _ bX8).trans rfl
   have rr0 : w8.cell? ⟨w.heap.size, 0, none⟩ = some (.int .i64 0) := (@block_cells _ _ 0 _ _ bR8).trans rfl
   have rr1 : w8.cell? ⟨w.heap.size, 1, none⟩ = some (.int .u64 0) := (@block_cells _ _ 1 _ _ bR8).trans rfl
   have rr2 : w8.cell? ⟨w.heap.size, 2, none⟩ = some (.int .u64 0) := (@block_cells _ _ 2 _ _ bR8).trans rfl
   have rr3 : w8.cell? ⟨w.heap.size, 3, none⟩ = some (.int .i64 0) := (@block_cells _ _ 3 _ _ bR8).trans rfl
   have rr4 : w8.cell? ⟨w.heap.size, 4, none⟩ = some (.int .i64 0) := (@block_cells _ _ 4 _ _ bR8).trans rfl
   have rr5 : w8.cell? ⟨w.heap.size, 5, none⟩ = some (.int .i64 0) := (@block_cells _ _ 5 _ _ bR8).trans rfl
   have rr6 : w8.cell? ⟨w.heap.size, 6, none⟩ = some (.slice none 0 0) := (@block_cells _ _ 6 _ _ bR8).trans rfl
   have zz0 : w8.frozen? ⟨w.heap.size, 0, none⟩ = false := @block_frozen _ _ 0 _ _ bR8
   have zz1 : w8.frozen? ⟨w.heap.size, 1, none⟩ = false := @block_frozen _ _ 1 _ _ bR8
   have zz2 : w8.frozen? ⟨w.heap.size, 2, none⟩ = false := @block_frozen _ _ 2 _ _ bR8
   have zz3 : w8.frozen? ⟨w.heap.size, 3, none⟩ = false := @block_frozen _ _ 3 _ _ bR8
   have zz4 : w8.frozen? ⟨w.heap.size, 4, none⟩ = false := @block_frozen _ _ 4 _ _ bR8
   have zz5 : w8.frozen? ⟨w.heap.size, 5, none⟩ = false := @block_frozen _ _ 5 _ _ bR8
   have zz6 : w8.frozen? ⟨w.heap.size, 6, none⟩ = false := @block_frozen _ _ 6 _ _ bR8
   go_wp2
   exact bodyPost_ret (v := .agg #[.int .i64 9, .int .u64 v1, .int .u64 0, .int .i64 0, .int .i64 a2, .int .i64 c3, .slice none 0 0]) (by simp [results, Tryz.results40, go_sem, e1, e2, xx0, xx1, xx2, xx3, xx4, xx5, xx6, rr0, rr1, rr2, rr3, rr4, rr5, rr6, zz0, zz1, zz2, zz3, zz4, zz5, zz6]) rfl ⟨.slice none 0 0, rfl, OwnR.nil _ _, by (with_reducible repeat (first | exact HG8.out.below | refine below_set_le ?_ (by omega) _))⟩
end Go.Proofs.YtgjdgafoidppaaaGreatDoor
