/- The reference's MayAct. Conditions: what is read stands in memory. A region that draws its order, among whose operations are some that read, compute, or call functions that only make new memory, some that lay a new block, and, behind them all, some that come one behind the other: one walk, with the new blocks' numbers as variables. A region that draws its order, among whose operations are some that read, compute, or call functions that only make new memory, and stores, one behind the other, into memory that none of the others reads: one walk, the stores last. Conditions: each store's step is known. A region that draws its order, among whose operations are some that read, compute, or call functions that only make new memory and hand back one value whatever the world, and some others, one forced behind the other, of any effect: one walk, the others last. Conditions: each step of the others is known. -/
import Derived.Test.YtgjdgafoidppaaaGreatDoorQ14
import Derived.Test.YtgjdgafoidppaaaGreatDoorQ09
import Derived.Test.YtgjdgafoidppaaaGreatDoorQ01
import Derived.Test.YtgjdgafoidppaaaGreatDoorQ02
namespace Go.Proofs.YtgjdgafoidppaaaGreatDoor
open Go.RowKit
set_option linter.unusedVariables false
set_option linter.unusedSimpArgs false
set_option linter.unnecessarySimpa false
set_option maxRecDepth 100000 in
set_option maxHeartbeats 4000000 in
theorem mayAct26_early (xk xn xm xOk xOv xOt xOs xOa xOc : Int) (xOD xP : Option Addr) (xOn xOq xpn xpq : Nat) (xf : Bool) (lx : List UInt8) (px : List Int) (w : World) (h : xk < 1 ∨ 10 < xk ∨ xn < 0 ∨ 1 < xn ∨ xm < 0 ∨ 1000000 < xm ∨ 100 < xpn) : Calls Tryz.prog 23 #[(Value.agg #[.int .i64 xk, .int .i64 xn, .int .i64 xm, .int .i64 xOk, .int .u64 xOv, .int .u64 xOt, .int .i64 xOs, .int .i64 xOa, .int .i64 xOc, .slice xOD xOn xOq, .bool xf, .slice xP xpn xpq])] w fun e w' => e = .returned (.bool false) ∧ Gr w w' := by
  by_cases h0 : xk < 1
  · clear h
    go_enter Tryz.func23, Tryz.ntmps23
    go_wp2
    go_ret
    exact ⟨rfl, gri⟩
  have b0 : decide (xk < 1) = false := by simpa using h0
  by_cases h1 : 10 < xk
  · clear h
    go_enter Tryz.func23, Tryz.ntmps23
    go_wp2
    go_ret
    exact ⟨rfl, gri⟩
  have b1 : decide (10 < xk) = false := by simpa using h1
  by_cases h2 : xn < 0
  · clear h
    go_enter Tryz.func23, Tryz.ntmps23
    go_wp2
    go_ret
    exact ⟨rfl, gri⟩
  have b2 : decide (xn < 0) = false := by simpa using h2
  by_cases h3 : 1 < xn
  · clear h
    go_enter Tryz.func23, Tryz.ntmps23
    go_wp2
    go_ret
    exact ⟨rfl, gri⟩
  have b3 : decide (1 < xn) = false := by simpa using h3
  by_cases h4 : xm < 0
  · clear h
    go_enter Tryz.func23, Tryz.ntmps23
    go_wp2
    go_ret
    exact ⟨rfl, gri⟩
  have b4 : decide (xm < 0) = false := by simpa using h4
  by_cases h5 : 1000000 < xm
  · clear h
    go_enter Tryz.func23, Tryz.ntmps23
    go_wp2
    go_ret
    exact ⟨rfl, gri⟩
  have b5 : decide (1000000 < xm) = false := by simpa using h5
  have h9 : (100 : Int) < (xpn : Int) := by omega
  clear h
  go_enter Tryz.func23, Tryz.ntmps23
  go_wp2
  go_ret
  exact ⟨rfl, gri⟩
set_option maxRecDepth 100000 in
set_option maxHeartbeats 8000000 in
theorem mayAct26_1 (xn xm xOk xOv xOt xOs xOa xOc : Int) (xOD xP : Option Addr) (xOn xOq xpn xpq : Nat) (xf : Bool) (lx : List UInt8) (px : List Int) (w : World) (hx : lx.length = xOn) (hn : xOn ≤ 9223372036854775807) (h1 : Row bv w xOD lx) (hpx : px.length = xpn) (h3 : Row (Value.int .i64) w xP px) (v0 : 0 ≤ xOv) (t0 : 0 ≤ xOt) (a1 : 0 ≤ xn) (a2 : xn ≤ 1) (a3 : 0 ≤ xm) (a4 : xm ≤ 1000000) (a5 : xpn ≤ 100) : Calls Tryz.prog 23 #[(Value.agg #[.int .i64 1, .int .i64 xn, .int .i64 xm, .int .i64 xOk, .int .u64 xOv, .int .u64 xOt, .int .i64 xOs, .int .i64 xOa, .int .i64 xOc, .slice xOD xOn xOq, .bool xf, .slice xP xpn xpq])] w fun e w' => e = .returned (.bool (mayActB 1 xn xm xOk xOv xOt xOs xOa xOc xf xOn xpn lx px)) ∧ Gr w w' := by
  have c1 : decide (xn < 0) = false := by simp; omega
  have c2 : decide (1 < xn) = false := by simp; omega
  have c3 : decide (xm < 0) = false := by simp; omega
  have c4 : decide (1000000 < xm) = false := by simp; omega
  have c5 : ¬ (100 : Int) < (xpn : Int) := by omega
  have hnode : nodeB xn = true := by simp [nodeB]; omega
  have hmm : mayN xm = true := by simp [mayN]; omega
  have HNODE := Lib.hid hnode; have HMM := Lib.hid hmm; have HX := Lib.hid hx; have HPX := Lib.hid hpx; have H1 := Lib.hid h1; have H3 := Lib.hid h3; clear hnode hmm hx hpx h1 h3
  have hall : mayActB 1 xn xm xOk xOv xOt xOs xOa xOc xf xOn xpn lx px = (nodeB xn && mayOpB xOk xOv xOt xOs xOa xOc xOn lx && (xm == 0) && (xf == false) && (px == [])) := rfl
  have HALL := Lib.hid hall; clear hall
  by_cases hy : xm = 0
  rotate_left
  · have q1 : (xm != 0) = true := by simpa using hy
    have hq : (xm == 0) = false := by simpa using hy
    have HQ := Lib.hid hq; clear hy hq
    go_enter Tryz.func23, Tryz.ntmps23
    go_wp2
    go_ret
    exact ⟨ret_bool (by rw [HALL.out, HQ.out]; simp), gri⟩
  subst hy
  by_cases hp : 0 < xpn
  · have q1 : (0 : Int) < (xpn : Int) := by omega
    have hq : (px == []) = false := by
      cases px with
      | nil => have := HPX.out; simp at this; omega
      | cons y r => rfl
    have HQ := Lib.hid hq; clear hp hq
    go_enter Tryz.func23, Tryz.ntmps23
    go_wp2
    go_ret
    exact ⟨ret_bool (by rw [HALL.out, HQ.out]; simp), gri⟩
  obtain rfl : xpn = 0 := by omega
  have hpe : px = [] := List.eq_nil_of_length_eq_zero HPX.out
  have HPE := Lib.hid hpe; clear hpe hp
  cases xf
  rotate_left
  · go_enter Tryz.func23, Tryz.ntmps23
    go_wp2
    go_ret
    exact ⟨ret_bool (by rw [HALL.out]; simp), gri⟩
  skip
  all_goals
    go_enter Tryz.func23, Tryz.ntmps23
    go_wp2
    refine wp_loop_rounds 1 ?_
    rw [rounds_succ]
    go_wp2_with ((go_at_call 16; ((with_reducible refine (may13_any xOk xOv xOt xOs xOa xOc xOD xOn xOq lx _ HX.out hn v0 t0).mono ?_); rintro _ _ ⟨rfl, g, rfl⟩)))
    go_ret
    exact ⟨ret_bool (by rw [HALL.out, HPE.out]; simp [HNODE.out, HMM.out]), gri⟩
set_option maxRecDepth 100000 in
set_option maxHeartbeats 8000000 in
theorem mayAct26_2 (xn xm xOk xOv xOt xOs xOa xOc : Int) (xOD xP : Option Addr) (xOn xOq xpn xpq : Nat) (xf : Bool) (lx : List UInt8) (px : List Int) (w : World) (hx : lx.length = xOn) (hn : xOn ≤ 9223372036854775807) (h1 : Row bv w xOD lx) (hpx : px.length = xpn) (h3 : Row (Value.int .i64) w xP px) (v0 : 0 ≤ xOv) (t0 : 0 ≤ xOt) (a1 : 0 ≤ xn) (a2 : xn ≤ 1) (a3 : 0 ≤ xm) (a4 : xm ≤ 1000000) (a5 : xpn ≤ 100) : Calls Tryz.prog 23 #[(Value.agg #[.int .i64 2, .int .i64 xn, .int .i64 xm, .int .i64 xOk, .int .u64 xOv, .int .u64 xOt, .int .i64 xOs, .int .i64 xOa, .int .i64 xOc, .slice xOD xOn xOq, .bool xf, .slice xP xpn xpq])] w fun e w' => e = .returned (.bool (mayActB 2 xn xm xOk xOv xOt xOs xOa xOc xf xOn xpn lx px)) ∧ Gr w w' := by
  have c1 : decide (xn < 0) = false := by simp; omega
  have c2 : decide (1 < xn) = false := by simp; omega
  have c3 : decide (xm < 0) = false := by simp; omega
  have c4 : decide (1000000 < xm) = false := by simp; omega
  have c5 : ¬ (100 : Int) < (xpn : Int) := by omega
  have hnode : nodeB xn = true := by simp [nodeB]; omega
  have hmm : mayN xm = true := by simp [mayN]; omega
  have HNODE := Lib.hid hnode; have HMM := Lib.hid hmm; have HX := Lib.hid hx; have HPX := Lib.hid hpx; have H1 := Lib.hid h1; have H3 := Lib.hid h3; clear hnode hmm hx hpx h1 h3
  have hall : mayActB 2 xn xm xOk xOv xOt xOs xOa xOc xf xOn xpn lx px = (mayN xm && (xn == 0) && sameB xOk xOv xOt xOs xOa xOc 0 0 0 0 0 0 lx [] && (xf == false) && (px == [])) := rfl
  have HALL := Lib.hid hall; clear hall
  by_cases hz : xn = 0
  rotate_left
  · have q1 : (xn != 0) = true := by simpa using hz
    have hq : (xn == 0) = false := by simpa using hz
    have HQ := Lib.hid hq; clear hz hq
    go_enter Tryz.func23, Tryz.ntmps23
    go_wp2
    go_ret
    exact ⟨ret_bool (by rw [HALL.out, HQ.out]; simp), gri⟩
  subst hz
  by_cases hp : 0 < xpn
  · have q1 : (0 : Int) < (xpn : Int) := by omega
    have hq : (px == []) = false := by
      cases px with
      | nil => have := HPX.out; simp at this; omega
      | cons y r => rfl
    have HQ := Lib.hid hq; clear hp hq
    go_enter Tryz.func23, Tryz.ntmps23
    go_wp2
    go_ret
    exact ⟨ret_bool (by rw [HALL.out, HQ.out]; simp), gri⟩
  obtain rfl : xpn = 0 := by omega
  have hpe : px = [] := List.eq_nil_of_length_eq_zero HPX.out
  have HPE := Lib.hid hpe; clear hpe hp
  cases xf
  rotate_left
  · go_enter Tryz.func23, Tryz.ntmps23
    go_wp2
    go_ret
    exact ⟨ret_bool (by rw [HALL.out]; simp), gri⟩
  skip
  all_goals
    go_enter Tryz.func23, Tryz.ntmps23
    go_wp2
    refine wp_loop_rounds 1 ?_
    rw [rounds_succ]
    go_wp2_with ((go_at_call 12; ((with_reducible refine (same13r_any xOk xOv xOt xOs xOa xOc 0 0 0 0 0 0 xOD none xOn xOq 0 0 lx [] _ HX.out rfl (H1.out.gr gri) Row.nil).mono ?_); rintro _ _ ⟨rfl, g, rfl⟩)))
    go_ret
    exact ⟨ret_bool (by rw [HALL.out, HPE.out]; simp [HNODE.out, HMM.out]), gri⟩
set_option maxRecDepth 100000 in
set_option maxHeartbeats 8000000 in
theorem mayAct26_3 (xn xm xOk xOv xOt xOs xOa xOc : Int) (xOD xP : Option Addr) (xOn xOq xpn xpq : Nat) (xf : Bool) (lx : List UInt8) (px : List Int) (w : World) (hx : lx.length = xOn) (hn : xOn ≤ 9223372036854775807) (h1 : Row bv w xOD lx) (hpx : px.length = xpn) (h3 : Row (Value.int .i64) w xP px) (v0 : 0 ≤ xOv) (t0 : 0 ≤ xOt) (a1 : 0 ≤ xn) (a2 : xn ≤ 1) (a3 : 0 ≤ xm) (a4 : xm ≤ 1000000) (a5 : xpn ≤ 100) : Calls Tryz.prog 23 #[(Value.agg #[.int .i64 3, .int .i64 xn, .int .i64 xm, .int .i64 xOk, .int .u64 xOv, .int .u64 xOt, .int .i64 xOs, .int .i64 xOa, .int .i64 xOc, .slice xOD xOn xOq, .bool xf, .slice xP xpn xpq])] w fun e w' => e = .returned (.bool (mayActB 3 xn xm xOk xOv xOt xOs xOa xOc xf xOn xpn lx px)) ∧ Gr w w' := by
  have c1 : decide (xn < 0) = false := by simp; omega
  have c2 : decide (1 < xn) = false := by simp; omega
  have c3 : decide (xm < 0) = false := by simp; omega
  have c4 : decide (1000000 < xm) = false := by simp; omega
  have c5 : ¬ (100 : Int) < (xpn : Int) := by omega
  have hnode : nodeB xn = true := by simp [nodeB]; omega
  have hmm : mayN xm = true := by simp [mayN]; omega
  have HNODE := Lib.hid hnode; have HMM := Lib.hid hmm; have HX := Lib.hid hx; have HPX := Lib.hid hpx; have H1 := Lib.hid h1; have H3 := Lib.hid h3; clear hnode hmm hx hpx h1 h3
  have hall : mayActB 3 xn xm xOk xOv xOt xOs xOa xOc xf xOn xpn lx px = (nodeB xn && (xm == 0) && sameB xOk xOv xOt xOs xOa xOc 0 0 0 0 0 0 lx [] && (xf == false) && (px == [])) := rfl
  have HALL := Lib.hid hall; clear hall
  by_cases hy : xm = 0
  rotate_left
  · have q1 : (xm != 0) = true := by simpa using hy
    have hq : (xm == 0) = false := by simpa using hy
    have HQ := Lib.hid hq; clear hy hq
    go_enter Tryz.func23, Tryz.ntmps23
    go_wp2
    go_ret
    exact ⟨ret_bool (by rw [HALL.out, HQ.out]; simp), gri⟩
  subst hy
  by_cases hp : 0 < xpn
  · have q1 : (0 : Int) < (xpn : Int) := by omega
    have hq : (px == []) = false := by
      cases px with
      | nil => have := HPX.out; simp at this; omega
      | cons y r => rfl
    have HQ := Lib.hid hq; clear hp hq
    go_enter Tryz.func23, Tryz.ntmps23
    go_wp2
    go_ret
    exact ⟨ret_bool (by rw [HALL.out, HQ.out]; simp), gri⟩
  obtain rfl : xpn = 0 := by omega
  have hpe : px = [] := List.eq_nil_of_length_eq_zero HPX.out
  have HPE := Lib.hid hpe; clear hpe hp
  cases xf
  rotate_left
  · go_enter Tryz.func23, Tryz.ntmps23
    go_wp2
    go_ret
    exact ⟨ret_bool (by rw [HALL.out]; simp), gri⟩
  skip
  all_goals
    go_enter Tryz.func23, Tryz.ntmps23
    go_wp2
    refine wp_loop_rounds 1 ?_
    rw [rounds_succ]
    go_wp2_with ((go_at_call 12; ((with_reducible refine (same13r_any xOk xOv xOt xOs xOa xOc 0 0 0 0 0 0 xOD none xOn xOq 0 0 lx [] _ HX.out rfl (H1.out.gr gri) Row.nil).mono ?_); rintro _ _ ⟨rfl, g, rfl⟩)))
    go_ret
    exact ⟨ret_bool (by rw [HALL.out, HPE.out]; simp [HNODE.out, HMM.out]), gri⟩
set_option maxRecDepth 100000 in
set_option maxHeartbeats 8000000 in
theorem mayAct26_4 (xn xm xOk xOv xOt xOs xOa xOc : Int) (xOD xP : Option Addr) (xOn xOq xpn xpq : Nat) (xf : Bool) (lx : List UInt8) (px : List Int) (w : World) (hx : lx.length = xOn) (hn : xOn ≤ 9223372036854775807) (h1 : Row bv w xOD lx) (hpx : px.length = xpn) (h3 : Row (Value.int .i64) w xP px) (v0 : 0 ≤ xOv) (t0 : 0 ≤ xOt) (a1 : 0 ≤ xn) (a2 : xn ≤ 1) (a3 : 0 ≤ xm) (a4 : xm ≤ 1000000) (a5 : xpn ≤ 100) : Calls Tryz.prog 23 #[(Value.agg #[.int .i64 4, .int .i64 xn, .int .i64 xm, .int .i64 xOk, .int .u64 xOv, .int .u64 xOt, .int .i64 xOs, .int .i64 xOa, .int .i64 xOc, .slice xOD xOn xOq, .bool xf, .slice xP xpn xpq])] w fun e w' => e = .returned (.bool (mayActB 4 xn xm xOk xOv xOt xOs xOa xOc xf xOn xpn lx px)) ∧ Gr w w' := by
  have c1 : decide (xn < 0) = false := by simp; omega
  have c2 : decide (1 < xn) = false := by simp; omega
  have c3 : decide (xm < 0) = false := by simp; omega
  have c4 : decide (1000000 < xm) = false := by simp; omega
  have c5 : ¬ (100 : Int) < (xpn : Int) := by omega
  have hnode : nodeB xn = true := by simp [nodeB]; omega
  have hmm : mayN xm = true := by simp [mayN]; omega
  have HNODE := Lib.hid hnode; have HMM := Lib.hid hmm; have HX := Lib.hid hx; have HPX := Lib.hid hpx; have H1 := Lib.hid h1; have H3 := Lib.hid h3; clear hnode hmm hx hpx h1 h3
  have hall : mayActB 4 xn xm xOk xOv xOt xOs xOa xOc xf xOn xpn lx px = (nodeB xn && picksB xpn px && (xm == 0) && sameB xOk xOv xOt xOs xOa xOc 0 0 0 0 0 0 lx [] && (xf == false)) := rfl
  have HALL := Lib.hid hall; clear hall
  by_cases hy : xm = 0
  rotate_left
  · have q1 : (xm != 0) = true := by simpa using hy
    have hq : (xm == 0) = false := by simpa using hy
    have HQ := Lib.hid hq; clear hy hq
    go_enter Tryz.func23, Tryz.ntmps23
    go_wp2
    go_ret
    exact ⟨ret_bool (by rw [HALL.out, HQ.out]; simp), gri⟩
  subst hy
  cases xf
  rotate_left
  · go_enter Tryz.func23, Tryz.ntmps23
    go_wp2
    go_ret
    exact ⟨ret_bool (by rw [HALL.out]; simp), gri⟩
  go_enter Tryz.func23, Tryz.ntmps23
  go_wp2
  go_loopw [4] (fun i wr => ∃ j : Nat, i = .int .i64 j ∧ j ≤ xpn ∧ Hid (∀ i x, i < j → px[i]? = some x → mayN x = true) ∧ wr = w.alloc (.cells #[.int .i64 4, .int .i64 xn, .int .i64 0, .int .i64 xOk, .int .u64 xOv, .int .u64 xOt, .int .i64 xOs, .int .i64 xOa, .int .i64 xOc, .slice xOD xOn xOq, .bool false, .slice xP xpn xpq] 42)) (fun i _ => xpn - (intOf i).toNat)
  case atStart => exact ⟨0, rfl, Nat.zero_le _, Lib.hid (fun i x h => by omega), rfl⟩
  case round =>
    obtain ⟨j, rfl, hj, ht, rfl⟩ := hrel
    by_cases hlt : j < xpn
    · have hjx : j < px.length := by have := HPX.out; omega
      obtain ⟨bx, ox, rfl, hbx, hcx⟩ := H3.out.at_ (by rintro rfl; simp at hjx)
      have ex := hcx j px[j] (List.getElem?_eq_getElem hjx)
      haveI : Old bx w := ⟨hbx⟩
      have hjl : (j : Int) < (xpn : Int) := by omega
      have hgj := List.getElem?_eq_getElem hjx
      clear hcx hbx
      generalize px[j] = u at *
      have HGJ := Lib.hid hgj; clear hgj
      by_cases hu : 0 ≤ u ∧ u ≤ 1000000
      · have q1 : decide (u < 0) = false := by simp; omega
        have q2 : decide (1000000 < u) = false := by simp; omega
        have HU := Lib.hid hu; clear hu
        go_wp2
        go_roundw
        case rel => exact ⟨j + 1, by go_num, by omega, Lib.hid (fun i x hi hx => by
          rcases Nat.lt_or_ge i j with h | h
          · exact ht.out i x h hx
          · obtain rfl : i = j := by omega
            rw [HGJ.out] at hx
            cases hx
            have := HU.out
            simp [mayN]; omega), by first | rfl | trivial⟩
        case measure => simp [intOf]; omega
      · have hbp : badP px = true := by
          rw [badP, List.any_eq_true]
          exact ⟨u, List.mem_of_getElem? HGJ.out, by simp [mayN]; omega⟩
        have hpb : picksB xpn px = false := by rw [picksB, hbp]; simp
        have HPB := Lib.hid hpb; clear hbp hpb
        by_cases hu0 : u < 0
        · clear hu
          go_wp2
          go_ret
          exact ⟨ret_bool (by rw [HALL.out, HPB.out]; simp), gri⟩
        · have q1 : decide (u < 0) = false := by simpa using hu0
          have q2 : 1000000 < u := by omega
          clear hu hu0
          go_wp2
          go_ret
          exact ⟨ret_bool (by rw [HALL.out, HPB.out]; simp), gri⟩
    · obtain rfl : j = xpn := by omega
      have hbp : badP px = false := by
        rw [badP, List.any_eq_false]
        intro x hx
        obtain ⟨i, hi, rfl⟩ := List.mem_iff_getElem.1 hx
        have := ht.out i px[i] (by have := HPX.out; omega) (List.getElem?_eq_getElem hi)
        simp [this]
      have hpb : picksB j px = true := by rw [picksB, hbp]; simp; omega
      have HPB := Lib.hid hpb; clear hbp hpb
      go_wp2_with ((go_at_call 12; ((with_reducible refine (same13r_any xOk xOv xOt xOs xOa xOc 0 0 0 0 0 0 xOD none xOn xOq 0 0 lx [] _ HX.out rfl (H1.out.gr gri) Row.nil).mono ?_); rintro _ _ ⟨rfl, g, rfl⟩)))
      go_ret
      exact ⟨ret_bool (by rw [HALL.out, HPB.out]; simp [HNODE.out, HMM.out]), gri⟩
set_option maxRecDepth 100000 in
set_option maxHeartbeats 8000000 in
theorem mayAct26_5 (xn xm xOk xOv xOt xOs xOa xOc : Int) (xOD xP : Option Addr) (xOn xOq xpn xpq : Nat) (xf : Bool) (lx : List UInt8) (px : List Int) (w : World) (hx : lx.length = xOn) (hn : xOn ≤ 9223372036854775807) (h1 : Row bv w xOD lx) (hpx : px.length = xpn) (h3 : Row (Value.int .i64) w xP px) (v0 : 0 ≤ xOv) (t0 : 0 ≤ xOt) (a1 : 0 ≤ xn) (a2 : xn ≤ 1) (a3 : 0 ≤ xm) (a4 : xm ≤ 1000000) (a5 : xpn ≤ 100) : Calls Tryz.prog 23 #[(Value.agg #[.int .i64 5, .int .i64 xn, .int .i64 xm, .int .i64 xOk, .int .u64 xOv, .int .u64 xOt, .int .i64 xOs, .int .i64 xOa, .int .i64 xOc, .slice xOD xOn xOq, .bool xf, .slice xP xpn xpq])] w fun e w' => e = .returned (.bool (mayActB 5 xn xm xOk xOv xOt xOs xOa xOc xf xOn xpn lx px)) ∧ Gr w w' := by
  have c1 : decide (xn < 0) = false := by simp; omega
  have c2 : decide (1 < xn) = false := by simp; omega
  have c3 : decide (xm < 0) = false := by simp; omega
  have c4 : decide (1000000 < xm) = false := by simp; omega
  have c5 : ¬ (100 : Int) < (xpn : Int) := by omega
  have hnode : nodeB xn = true := by simp [nodeB]; omega
  have hmm : mayN xm = true := by simp [mayN]; omega
  have HNODE := Lib.hid hnode; have HMM := Lib.hid hmm; have HX := Lib.hid hx; have HPX := Lib.hid hpx; have H1 := Lib.hid h1; have H3 := Lib.hid h3; clear hnode hmm hx hpx h1 h3
  have hall : mayActB 5 xn xm xOk xOv xOt xOs xOa xOc xf xOn xpn lx px = (nodeB xn && picksB xpn px && (xm == 0) && sameB xOk xOv xOt xOs xOa xOc 0 0 0 0 0 0 lx [] && (xf == false)) := rfl
  have HALL := Lib.hid hall; clear hall
  by_cases hy : xm = 0
  rotate_left
  · have q1 : (xm != 0) = true := by simpa using hy
    have hq : (xm == 0) = false := by simpa using hy
    have HQ := Lib.hid hq; clear hy hq
    go_enter Tryz.func23, Tryz.ntmps23
    go_wp2
    go_ret
    exact ⟨ret_bool (by rw [HALL.out, HQ.out]; simp), gri⟩
  subst hy
  cases xf
  rotate_left
  · go_enter Tryz.func23, Tryz.ntmps23
    go_wp2
    go_ret
    exact ⟨ret_bool (by rw [HALL.out]; simp), gri⟩
  go_enter Tryz.func23, Tryz.ntmps23
  go_wp2
  go_loopw [4] (fun i wr => ∃ j : Nat, i = .int .i64 j ∧ j ≤ xpn ∧ Hid (∀ i x, i < j → px[i]? = some x → mayN x = true) ∧ wr = w.alloc (.cells #[.int .i64 5, .int .i64 xn, .int .i64 0, .int .i64 xOk, .int .u64 xOv, .int .u64 xOt, .int .i64 xOs, .int .i64 xOa, .int .i64 xOc, .slice xOD xOn xOq, .bool false, .slice xP xpn xpq] 42)) (fun i _ => xpn - (intOf i).toNat)
  case atStart => exact ⟨0, rfl, Nat.zero_le _, Lib.hid (fun i x h => by omega), rfl⟩
  case round =>
    obtain ⟨j, rfl, hj, ht, rfl⟩ := hrel
    by_cases hlt : j < xpn
    · have hjx : j < px.length := by have := HPX.out; omega
      obtain ⟨bx, ox, rfl, hbx, hcx⟩ := H3.out.at_ (by rintro rfl; simp at hjx)
      have ex := hcx j px[j] (List.getElem?_eq_getElem hjx)
      haveI : Old bx w := ⟨hbx⟩
      have hjl : (j : Int) < (xpn : Int) := by omega
      have hgj := List.getElem?_eq_getElem hjx
      clear hcx hbx
      generalize px[j] = u at *
      have HGJ := Lib.hid hgj; clear hgj
      by_cases hu : 0 ≤ u ∧ u ≤ 1000000
      · have q1 : decide (u < 0) = false := by simp; omega
        have q2 : decide (1000000 < u) = false := by simp; omega
        have HU := Lib.hid hu; clear hu
        go_wp2
        go_roundw
        case rel => exact ⟨j + 1, by go_num, by omega, Lib.hid (fun i x hi hx => by
          rcases Nat.lt_or_ge i j with h | h
          · exact ht.out i x h hx
          · obtain rfl : i = j := by omega
            rw [HGJ.out] at hx
            cases hx
            have := HU.out
            simp [mayN]; omega), by first | rfl | trivial⟩
        case measure => simp [intOf]; omega
      · have hbp : badP px = true := by
          rw [badP, List.any_eq_true]
          exact ⟨u, List.mem_of_getElem? HGJ.out, by simp [mayN]; omega⟩
        have hpb : picksB xpn px = false := by rw [picksB, hbp]; simp
        have HPB := Lib.hid hpb; clear hbp hpb
        by_cases hu0 : u < 0
        · clear hu
          go_wp2
          go_ret
          exact ⟨ret_bool (by rw [HALL.out, HPB.out]; simp), gri⟩
        · have q1 : decide (u < 0) = false := by simpa using hu0
          have q2 : 1000000 < u := by omega
          clear hu hu0
          go_wp2
          go_ret
          exact ⟨ret_bool (by rw [HALL.out, HPB.out]; simp), gri⟩
    · obtain rfl : j = xpn := by omega
      have hbp : badP px = false := by
        rw [badP, List.any_eq_false]
        intro x hx
        obtain ⟨i, hi, rfl⟩ := List.mem_iff_getElem.1 hx
        have := ht.out i px[i] (by have := HPX.out; omega) (List.getElem?_eq_getElem hi)
        simp [this]
      have hpb : picksB j px = true := by rw [picksB, hbp]; simp; omega
      have HPB := Lib.hid hpb; clear hbp hpb
      go_wp2_with ((go_at_call 12; ((with_reducible refine (same13r_any xOk xOv xOt xOs xOa xOc 0 0 0 0 0 0 xOD none xOn xOq 0 0 lx [] _ HX.out rfl (H1.out.gr gri) Row.nil).mono ?_); rintro _ _ ⟨rfl, g, rfl⟩)))
      go_ret
      exact ⟨ret_bool (by rw [HALL.out, HPB.out]; simp [HNODE.out, HMM.out]), gri⟩
set_option maxRecDepth 100000 in
set_option maxHeartbeats 8000000 in
theorem mayAct26_6 (xn xm xOk xOv xOt xOs xOa xOc : Int) (xOD xP : Option Addr) (xOn xOq xpn xpq : Nat) (xf : Bool) (lx : List UInt8) (px : List Int) (w : World) (hx : lx.length = xOn) (hn : xOn ≤ 9223372036854775807) (h1 : Row bv w xOD lx) (hpx : px.length = xpn) (h3 : Row (Value.int .i64) w xP px) (v0 : 0 ≤ xOv) (t0 : 0 ≤ xOt) (a1 : 0 ≤ xn) (a2 : xn ≤ 1) (a3 : 0 ≤ xm) (a4 : xm ≤ 1000000) (a5 : xpn ≤ 100) : Calls Tryz.prog 23 #[(Value.agg #[.int .i64 6, .int .i64 xn, .int .i64 xm, .int .i64 xOk, .int .u64 xOv, .int .u64 xOt, .int .i64 xOs, .int .i64 xOa, .int .i64 xOc, .slice xOD xOn xOq, .bool xf, .slice xP xpn xpq])] w fun e w' => e = .returned (.bool (mayActB 6 xn xm xOk xOv xOt xOs xOa xOc xf xOn xpn lx px)) ∧ Gr w w' := by
  have c1 : decide (xn < 0) = false := by simp; omega
  have c2 : decide (1 < xn) = false := by simp; omega
  have c3 : decide (xm < 0) = false := by simp; omega
  have c4 : decide (1000000 < xm) = false := by simp; omega
  have c5 : ¬ (100 : Int) < (xpn : Int) := by omega
  have hnode : nodeB xn = true := by simp [nodeB]; omega
  have hmm : mayN xm = true := by simp [mayN]; omega
  have HNODE := Lib.hid hnode; have HMM := Lib.hid hmm; have HX := Lib.hid hx; have HPX := Lib.hid hpx; have H1 := Lib.hid h1; have H3 := Lib.hid h3; clear hnode hmm hx hpx h1 h3
  have hall : mayActB 6 xn xm xOk xOv xOt xOs xOa xOc xf xOn xpn lx px = (nodeB xn && mayN xm && sameB xOk xOv xOt xOs xOa xOc 0 0 0 0 0 0 lx [] && (xf == false) && (px == [])) := rfl
  have HALL := Lib.hid hall; clear hall
  by_cases hp : 0 < xpn
  · have q1 : (0 : Int) < (xpn : Int) := by omega
    have hq : (px == []) = false := by
      cases px with
      | nil => have := HPX.out; simp at this; omega
      | cons y r => rfl
    have HQ := Lib.hid hq; clear hp hq
    go_enter Tryz.func23, Tryz.ntmps23
    go_wp2
    go_ret
    exact ⟨ret_bool (by rw [HALL.out, HQ.out]; simp), gri⟩
  obtain rfl : xpn = 0 := by omega
  have hpe : px = [] := List.eq_nil_of_length_eq_zero HPX.out
  have HPE := Lib.hid hpe; clear hpe hp
  cases xf
  rotate_left
  · go_enter Tryz.func23, Tryz.ntmps23
    go_wp2
    go_ret
    exact ⟨ret_bool (by rw [HALL.out]; simp), gri⟩
  skip
  all_goals
    go_enter Tryz.func23, Tryz.ntmps23
    go_wp2
    refine wp_loop_rounds 1 ?_
    rw [rounds_succ]
    go_wp2_with ((go_at_call 12; ((with_reducible refine (same13r_any xOk xOv xOt xOs xOa xOc 0 0 0 0 0 0 xOD none xOn xOq 0 0 lx [] _ HX.out rfl (H1.out.gr gri) Row.nil).mono ?_); rintro _ _ ⟨rfl, g, rfl⟩)))
    go_ret
    exact ⟨ret_bool (by rw [HALL.out, HPE.out]; simp [HNODE.out, HMM.out]), gri⟩
set_option maxRecDepth 100000 in
set_option maxHeartbeats 8000000 in
theorem mayAct26_7 (xn xm xOk xOv xOt xOs xOa xOc : Int) (xOD xP : Option Addr) (xOn xOq xpn xpq : Nat) (xf : Bool) (lx : List UInt8) (px : List Int) (w : World) (hx : lx.length = xOn) (hn : xOn ≤ 9223372036854775807) (h1 : Row bv w xOD lx) (hpx : px.length = xpn) (h3 : Row (Value.int .i64) w xP px) (v0 : 0 ≤ xOv) (t0 : 0 ≤ xOt) (a1 : 0 ≤ xn) (a2 : xn ≤ 1) (a3 : 0 ≤ xm) (a4 : xm ≤ 1000000) (a5 : xpn ≤ 100) : Calls Tryz.prog 23 #[(Value.agg #[.int .i64 7, .int .i64 xn, .int .i64 xm, .int .i64 xOk, .int .u64 xOv, .int .u64 xOt, .int .i64 xOs, .int .i64 xOa, .int .i64 xOc, .slice xOD xOn xOq, .bool xf, .slice xP xpn xpq])] w fun e w' => e = .returned (.bool (mayActB 7 xn xm xOk xOv xOt xOs xOa xOc xf xOn xpn lx px)) ∧ Gr w w' := by
  have c1 : decide (xn < 0) = false := by simp; omega
  have c2 : decide (1 < xn) = false := by simp; omega
  have c3 : decide (xm < 0) = false := by simp; omega
  have c4 : decide (1000000 < xm) = false := by simp; omega
  have c5 : ¬ (100 : Int) < (xpn : Int) := by omega
  have hnode : nodeB xn = true := by simp [nodeB]; omega
  have hmm : mayN xm = true := by simp [mayN]; omega
  have HNODE := Lib.hid hnode; have HMM := Lib.hid hmm; have HX := Lib.hid hx; have HPX := Lib.hid hpx; have H1 := Lib.hid h1; have H3 := Lib.hid h3; clear hnode hmm hx hpx h1 h3
  have hall : mayActB 7 xn xm xOk xOv xOt xOs xOa xOc xf xOn xpn lx px = (nodeB xn && (xm == 0) && sameB xOk xOv xOt xOs xOa xOc 0 0 0 0 0 0 lx [] && (px == [])) := rfl
  have HALL := Lib.hid hall; clear hall
  by_cases hy : xm = 0
  rotate_left
  · have q1 : (xm != 0) = true := by simpa using hy
    have hq : (xm == 0) = false := by simpa using hy
    have HQ := Lib.hid hq; clear hy hq
    go_enter Tryz.func23, Tryz.ntmps23
    go_wp2
    go_ret
    exact ⟨ret_bool (by rw [HALL.out, HQ.out]; simp), gri⟩
  subst hy
  by_cases hp : 0 < xpn
  · have q1 : (0 : Int) < (xpn : Int) := by omega
    have hq : (px == []) = false := by
      cases px with
      | nil => have := HPX.out; simp at this; omega
      | cons y r => rfl
    have HQ := Lib.hid hq; clear hp hq
    go_enter Tryz.func23, Tryz.ntmps23
    go_wp2
    go_ret
    exact ⟨ret_bool (by rw [HALL.out, HQ.out]; simp), gri⟩
  obtain rfl : xpn = 0 := by omega
  have hpe : px = [] := List.eq_nil_of_length_eq_zero HPX.out
  have HPE := Lib.hid hpe; clear hpe hp
  cases xf
  all_goals
    go_enter Tryz.func23, Tryz.ntmps23
    go_wp2
    refine wp_loop_rounds 1 ?_
    rw [rounds_succ]
    go_wp2_with ((go_at_call 12; ((with_reducible refine (same13r_any xOk xOv xOt xOs xOa xOc 0 0 0 0 0 0 xOD none xOn xOq 0 0 lx [] _ HX.out rfl (H1.out.gr gri) Row.nil).mono ?_); rintro _ _ ⟨rfl, g, rfl⟩)))
    go_ret
    exact ⟨ret_bool (by rw [HALL.out, HPE.out]; simp [HNODE.out, HMM.out]), gri⟩
set_option maxRecDepth 100000 in
set_option maxHeartbeats 8000000 in
theorem mayAct26_8 (xn xm xOk xOv xOt xOs xOa xOc : Int) (xOD xP : Option Addr) (xOn xOq xpn xpq : Nat) (xf : Bool) (lx : List UInt8) (px : List Int) (w : World) (hx : lx.length = xOn) (hn : xOn ≤ 9223372036854775807) (h1 : Row bv w xOD lx) (hpx : px.length = xpn) (h3 : Row (Value.int .i64) w xP px) (v0 : 0 ≤ xOv) (t0 : 0 ≤ xOt) (a1 : 0 ≤ xn) (a2 : xn ≤ 1) (a3 : 0 ≤ xm) (a4 : xm ≤ 1000000) (a5 : xpn ≤ 100) : Calls Tryz.prog 23 #[(Value.agg #[.int .i64 8, .int .i64 xn, .int .i64 xm, .int .i64 xOk, .int .u64 xOv, .int .u64 xOt, .int .i64 xOs, .int .i64 xOa, .int .i64 xOc, .slice xOD xOn xOq, .bool xf, .slice xP xpn xpq])] w fun e w' => e = .returned (.bool (mayActB 8 xn xm xOk xOv xOt xOs xOa xOc xf xOn xpn lx px)) ∧ Gr w w' := by
  have c1 : decide (xn < 0) = false := by simp; omega
  have c2 : decide (1 < xn) = false := by simp; omega
  have c3 : decide (xm < 0) = false := by simp; omega
  have c4 : decide (1000000 < xm) = false := by simp; omega
  have c5 : ¬ (100 : Int) < (xpn : Int) := by omega
  have hnode : nodeB xn = true := by simp [nodeB]; omega
  have hmm : mayN xm = true := by simp [mayN]; omega
  have HNODE := Lib.hid hnode; have HMM := Lib.hid hmm; have HX := Lib.hid hx; have HPX := Lib.hid hpx; have H1 := Lib.hid h1; have H3 := Lib.hid h3; clear hnode hmm hx hpx h1 h3
  have hall : mayActB 8 xn xm xOk xOv xOt xOs xOa xOc xf xOn xpn lx px = (nodeB xn && (xm == 0) && sameB xOk xOv xOt xOs xOa xOc 0 0 0 0 0 0 lx [] && (xf == false) && (px == [])) := rfl
  have HALL := Lib.hid hall; clear hall
  by_cases hy : xm = 0
  rotate_left
  · have q1 : (xm != 0) = true := by simpa using hy
    have hq : (xm == 0) = false := by simpa using hy
    have HQ := Lib.hid hq; clear hy hq
    go_enter Tryz.func23, Tryz.ntmps23
    go_wp2
    go_ret
    exact ⟨ret_bool (by rw [HALL.out, HQ.out]; simp), gri⟩
  subst hy
  by_cases hp : 0 < xpn
  · have q1 : (0 : Int) < (xpn : Int) := by omega
    have hq : (px == []) = false := by
      cases px with
      | nil => have := HPX.out; simp at this; omega
      | cons y r => rfl
    have HQ := Lib.hid hq; clear hp hq
    go_enter Tryz.func23, Tryz.ntmps23
    go_wp2
    go_ret
    exact ⟨ret_bool (by rw [HALL.out, HQ.out]; simp), gri⟩
  obtain rfl : xpn = 0 := by omega
  have hpe : px = [] := List.eq_nil_of_length_eq_zero HPX.out
  have HPE := Lib.hid hpe; clear hpe hp
  cases xf
  rotate_left
  · go_enter Tryz.func23, Tryz.ntmps23
    go_wp2
    go_ret
    exact ⟨ret_bool (by rw [HALL.out]; simp), gri⟩
  skip
  all_goals
    go_enter Tryz.func23, Tryz.ntmps23
    go_wp2
    refine wp_loop_rounds 1 ?_
    rw [rounds_succ]
    go_wp2_with ((go_at_call 12; ((with_reducible refine (same13r_any xOk xOv xOt xOs xOa xOc 0 0 0 0 0 0 xOD none xOn xOq 0 0 lx [] _ HX.out rfl (H1.out.gr gri) Row.nil).mono ?_); rintro _ _ ⟨rfl, g, rfl⟩)))
    go_ret
    exact ⟨ret_bool (by rw [HALL.out, HPE.out]; simp [HNODE.out, HMM.out]), gri⟩
set_option maxRecDepth 100000 in
set_option maxHeartbeats 8000000 in
theorem mayAct26_9 (xn xm xOk xOv xOt xOs xOa xOc : Int) (xOD xP : Option Addr) (xOn xOq xpn xpq : Nat) (xf : Bool) (lx : List UInt8) (px : List Int) (w : World) (hx : lx.length = xOn) (hn : xOn ≤ 9223372036854775807) (h1 : Row bv w xOD lx) (hpx : px.length = xpn) (h3 : Row (Value.int .i64) w xP px) (v0 : 0 ≤ xOv) (t0 : 0 ≤ xOt) (a1 : 0 ≤ xn) (a2 : xn ≤ 1) (a3 : 0 ≤ xm) (a4 : xm ≤ 1000000) (a5 : xpn ≤ 100) : Calls Tryz.prog 23 #[(Value.agg #[.int .i64 9, .int .i64 xn, .int .i64 xm, .int .i64 xOk, .int .u64 xOv, .int .u64 xOt, .int .i64 xOs, .int .i64 xOa, .int .i64 xOc, .slice xOD xOn xOq, .bool xf, .slice xP xpn xpq])] w fun e w' => e = .returned (.bool (mayActB 9 xn xm xOk xOv xOt xOs xOa xOc xf xOn xpn lx px)) ∧ Gr w w' := by
  have c1 : decide (xn < 0) = false := by simp; omega
  have c2 : decide (1 < xn) = false := by simp; omega
  have c3 : decide (xm < 0) = false := by simp; omega
  have c4 : decide (1000000 < xm) = false := by simp; omega
  have c5 : ¬ (100 : Int) < (xpn : Int) := by omega
  have hnode : nodeB xn = true := by simp [nodeB]; omega
  have hmm : mayN xm = true := by simp [mayN]; omega
  have HNODE := Lib.hid hnode; have HMM := Lib.hid hmm; have HX := Lib.hid hx; have HPX := Lib.hid hpx; have H1 := Lib.hid h1; have H3 := Lib.hid h3; clear hnode hmm hx hpx h1 h3
  have hall : mayActB 9 xn xm xOk xOv xOt xOs xOa xOc xf xOn xpn lx px = (nodeB xn && mayN xm && sameB xOk xOv xOt xOs xOa xOc 0 0 0 0 0 0 lx [] && (xf == false) && (px == [])) := rfl
  have HALL := Lib.hid hall; clear hall
  by_cases hp : 0 < xpn
  · have q1 : (0 : Int) < (xpn : Int) := by omega
    have hq : (px == []) = false := by
      cases px with
      | nil => have := HPX.out; simp at this; omega
      | cons y r => rfl
    have HQ := Lib.hid hq; clear hp hq
    go_enter Tryz.func23, Tryz.ntmps23
    go_wp2
    go_ret
    exact ⟨ret_bool (by rw [HALL.out, HQ.out]; simp), gri⟩
  obtain rfl : xpn = 0 := by omega
  have hpe : px = [] := List.eq_nil_of_length_eq_zero HPX.out
  have HPE := Lib.hid hpe; clear hpe hp
  cases xf
  rotate_left
  · go_enter Tryz.func23, Tryz.ntmps23
    go_wp2
    go_ret
    exact ⟨ret_bool (by rw [HALL.out]; simp), gri⟩
  skip
  all_goals
    go_enter Tryz.func23, Tryz.ntmps23
    go_wp2
    refine wp_loop_rounds 1 ?_
    rw [rounds_succ]
    go_wp2_with ((go_at_call 12; ((with_reducible refine (same13r_any xOk xOv xOt xOs xOa xOc 0 0 0 0 0 0 xOD none xOn xOq 0 0 lx [] _ HX.out rfl (H1.out.gr gri) Row.nil).mono ?_); rintro _ _ ⟨rfl, g, rfl⟩)))
    go_ret
    exact ⟨ret_bool (by rw [HALL.out, HPE.out]; simp [HNODE.out, HMM.out]), gri⟩
set_option maxRecDepth 100000 in
set_option maxHeartbeats 8000000 in
theorem mayAct26_10 (xn xm xOk xOv xOt xOs xOa xOc : Int) (xOD xP : Option Addr) (xOn xOq xpn xpq : Nat) (xf : Bool) (lx : List UInt8) (px : List Int) (w : World) (hx : lx.length = xOn) (hn : xOn ≤ 9223372036854775807) (h1 : Row bv w xOD lx) (hpx : px.length = xpn) (h3 : Row (Value.int .i64) w xP px) (v0 : 0 ≤ xOv) (t0 : 0 ≤ xOt) (a1 : 0 ≤ xn) (a2 : xn ≤ 1) (a3 : 0 ≤ xm) (a4 : xm ≤ 1000000) (a5 : xpn ≤ 100) : Calls Tryz.prog 23 #[(Value.agg #[.int .i64 10, .int .i64 xn, .int .i64 xm, .int .i64 xOk, .int .u64 xOv, .int .u64 xOt, .int .i64 xOs, .int .i64 xOa, .int .i64 xOc, .slice xOD xOn xOq, .bool xf, .slice xP xpn xpq])] w fun e w' => e = .returned (.bool (mayActB 10 xn xm xOk xOv xOt xOs xOa xOc xf xOn xpn lx px)) ∧ Gr w w' := by
  have c1 : decide (xn < 0) = false := by simp; omega
  have c2 : decide (1 < xn) = false := by simp; omega
  have c3 : decide (xm < 0) = false := by simp; omega
  have c4 : decide (1000000 < xm) = false := by simp; omega
  have c5 : ¬ (100 : Int) < (xpn : Int) := by omega
  have hnode : nodeB xn = true := by simp [nodeB]; omega
  have hmm : mayN xm = true := by simp [mayN]; omega
  have HNODE := Lib.hid hnode; have HMM := Lib.hid hmm; have HX := Lib.hid hx; have HPX := Lib.hid hpx; have H1 := Lib.hid h1; have H3 := Lib.hid h3; clear hnode hmm hx hpx h1 h3
  have hall : mayActB 10 xn xm xOk xOv xOt xOs xOa xOc xf xOn xpn lx px = ((xn == 0) && (xm == 0) && sameB xOk xOv xOt xOs xOa xOc 0 0 0 0 0 0 lx [] && (xf == false) && (px == [])) := rfl
  have HALL := Lib.hid hall; clear hall
  by_cases hz : xn = 0
  rotate_left
  · have q1 : (xn != 0) = true := by simpa using hz
    have hq : (xn == 0) = false := by simpa using hz
    have HQ := Lib.hid hq; clear hz hq
    go_enter Tryz.func23, Tryz.ntmps23
    go_wp2
    go_ret
    exact ⟨ret_bool (by rw [HALL.out, HQ.out]; simp), gri⟩
  subst hz
  by_cases hy : xm = 0
  rotate_left
  · have q1 : (xm != 0) = true := by simpa using hy
    have hq : (xm == 0) = false := by simpa using hy
    have HQ := Lib.hid hq; clear hy hq
    go_enter Tryz.func23, Tryz.ntmps23
    go_wp2
    go_ret
    exact ⟨ret_bool (by rw [HALL.out, HQ.out]; simp), gri⟩
  subst hy
  by_cases hp : 0 < xpn
  · have q1 : (0 : Int) < (xpn : Int) := by omega
    have hq : (px == []) = false := by
      cases px with
      | nil => have := HPX.out; simp at this; omega
      | cons y r => rfl
    have HQ := Lib.hid hq; clear hp hq
    go_enter Tryz.func23, Tryz.ntmps23
    go_wp2
    go_ret
    exact ⟨ret_bool (by rw [HALL.out, HQ.out]; simp), gri⟩
  obtain rfl : xpn = 0 := by omega
  have hpe : px = [] := List.eq_nil_of_length_eq_zero HPX.out
  have HPE := Lib.hid hpe; clear hpe hp
  cases xf
  rotate_left
  · go_enter Tryz.func23, Tryz.ntmps23
    go_wp2
    go_ret
    exact ⟨ret_bool (by rw [HALL.out]; simp), gri⟩
  skip
  all_goals
    go_enter Tryz.func23, Tryz.ntmps23
    go_wp2
    refine wp_loop_rounds 1 ?_
    rw [rounds_succ]
    go_wp2_with ((go_at_call 12; ((with_reducible refine (same13r_any xOk xOv xOt xOs xOa xOc 0 0 0 0 0 0 xOD none xOn xOq 0 0 lx [] _ HX.out rfl (H1.out.gr gri) Row.nil).mono ?_); rintro _ _ ⟨rfl, g, rfl⟩)))
    go_ret
    exact ⟨ret_bool (by rw [HALL.out, HPE.out]; simp [HNODE.out, HMM.out]), gri⟩
theorem mayAct26_any (xk xn xm xOk xOv xOt xOs xOa xOc : Int) (xOD xP : Option Addr) (xOn xOq xpn xpq : Nat) (xf : Bool) (lx : List UInt8) (px : List Int) (w : World) (hx : lx.length = xOn) (hn : xOn ≤ 9223372036854775807) (h1 : Row bv w xOD lx) (hpx : px.length = xpn) (h3 : Row (Value.int .i64) w xP px) (v0 : 0 ≤ xOv) (t0 : 0 ≤ xOt) : Calls Tryz.prog 23 #[(Value.agg #[.int .i64 xk, .int .i64 xn, .int .i64 xm, .int .i64 xOk, .int .u64 xOv, .int .u64 xOt, .int .i64 xOs, .int .i64 xOa, .int .i64 xOc, .slice xOD xOn xOq, .bool xf, .slice xP xpn xpq])] w fun e w' => e = .returned (.bool (mayActB xk xn xm xOk xOv xOt xOs xOa xOc xf xOn xpn lx px)) ∧ Gr w w' := by
  by_cases h : xk < 1 ∨ 10 < xk ∨ xn < 0 ∨ 1 < xn ∨ xm < 0 ∨ 1000000 < xm ∨ 100 < xpn
  · have e : mayActB xk xn xm xOk xOv xOt xOs xOa xOc xf xOn xpn lx px = false := by
      by_cases hk : xk < 1 ∨ 10 < xk
      · unfold mayActB
        repeat (rw [if_neg (by omega)])
      · have hk3 : xk = 1 ∨ xk = 2 ∨ xk = 3 ∨ xk = 4 ∨ xk = 5 ∨ xk = 6 ∨ xk = 7 ∨ xk = 8 ∨ xk = 9 ∨ xk = 10 := by omega
        have hpl : 100 < xpn → px ≠ [] := fun h e => by subst e; simp at hpx; omega
        have hpick : 100 < xpn → picksB xpn px = false := fun h => by simp [picksB]; intro h2; omega
        rcases hk3 with rfl | rfl | rfl | rfl | rfl | rfl | rfl | rfl | rfl | rfl
        all_goals
          cases hm : mayActB _ xn xm xOk xOv xOt xOs xOa xOc xf xOn xpn lx px with
          | false => rfl
          | true =>
            exfalso
            simp [mayActB, nodeB, mayN, picksB] at hm
            first | omega | (rcases h with h | h | h | h | h | h | h <;> first | omega | exact hpl h (by simp_all))
    rw [e]
    exact mayAct26_early xk xn xm xOk xOv xOt xOs xOa xOc xOD xP xOn xOq xpn xpq xf lx px w h
  · have hk3 : xk = 1 ∨ xk = 2 ∨ xk = 3 ∨ xk = 4 ∨ xk = 5 ∨ xk = 6 ∨ xk = 7 ∨ xk = 8 ∨ xk = 9 ∨ xk = 10 := by omega
    rcases hk3 with rfl | rfl | rfl | rfl | rfl | rfl | rfl | rfl | rfl | rfl
    · exact mayAct26_1 xn xm xOk xOv xOt xOs xOa xOc xOD xP xOn xOq xpn xpq xf lx px w hx hn h1 hpx h3 v0 t0 (by omega) (by omega) (by omega) (by omega) (by omega)
    · exact mayAct26_2 xn xm xOk xOv xOt xOs xOa xOc xOD xP xOn xOq xpn xpq xf lx px w hx hn h1 hpx h3 v0 t0 (by omega) (by omega) (by omega) (by omega) (by omega)
    · exact mayAct26_3 xn xm xOk xOv xOt xOs xOa xOc xOD xP xOn xOq xpn xpq xf lx px w hx hn h1 hpx h3 v0 t0 (by omega) (by omega) (by omega) (by omega) (by omega)
    · exact mayAct26_4 xn xm xOk xOv xOt xOs xOa xOc xOD xP xOn xOq xpn xpq xf lx px w hx hn h1 hpx h3 v0 t0 (by omega) (by omega) (by omega) (by omega) (by omega)
    · exact mayAct26_5 xn xm xOk xOv xOt xOs xOa xOc xOD xP xOn xOq xpn xpq xf lx px w hx hn h1 hpx h3 v0 t0 (by omega) (by omega) (by omega) (by omega) (by omega)
    · exact mayAct26_6 xn xm xOk xOv xOt xOs xOa xOc xOD xP xOn xOq xpn xpq xf lx px w hx hn h1 hpx h3 v0 t0 (by omega) (by omega) (by omega) (by omega) (by omega)
    · exact mayAct26_7 xn xm xOk xOv xOt xOs xOa xOc xOD xP xOn xOq xpn xpq xf lx px w hx hn h1 hpx h3 v0 t0 (by omega) (by omega) (by omega) (by omega) (by omega)
    · exact mayAct26_8 xn xm xOk xOv xOt xOs xOa xOc xOD xP xOn xOq xpn xpq xf lx px w hx hn h1 hpx h3 v0 t0 (by omega) (by omega) (by omega) (by omega) (by omega)
    · exact mayAct26_9 xn xm xOk xOv xOt xOs xOa xOc xOD xP xOn xOq xpn xpq xf lx px w hx hn h1 hpx h3 v0 t0 (by omega) (by omega) (by omega) (by omega) (by omega)
    · exact mayAct26_10 xn xm xOk xOv xOt xOs xOa xOc xOD xP xOn xOq xpn xpq xf lx px w hx hn h1 hpx h3 v0 t0 (by omega) (by omega) (by omega) (by omega) (by omega)
end Go.Proofs.YtgjdgafoidppaaaGreatDoor
namespace Go.Proofs.YtgjdgafoidppaaaGreatDoor
open Go.RowKit
section
variable {P : Program} {ops : Array Oper} {md : Region.Mode} {W : World}
/-- What an operation has yielded: v, in the world that it got; or a call that hands back v, in a world that has grown. -/
def calmUpon (P : Program) (w : World) (v : Value) : Result Next → Prop
  | .ok (.value u) w' => w' = w ∧ u = v
  | .ok .skip w' => w' = w ∧ v = undef
  | .ok (.enter f args) w' => w' = w ∧ Calls P f args w (fun e w'' => e = .returned v ∧ Gr w w'')
  | _ => False
def calmAt (P : Program) (o : Oper) (a : Act) (w : World) (v : Value) : Prop := calmUpon P w v ((execOp a.eval o).run P w)
def calm (P : Program) (o : Oper) (a : Act) (W : World) (next : Act → Prop) : Prop := ∃ v, (∀ g : Growth W, calmAt P o a (grown W g) v) ∧ next (a.put o.dst v)
attribute [go_sem] calmUpon calmAt calm
def wpCalm (P : Program) (ops : Array Oper) (W : World) (Q : Act → Prop) : List Oper → Act → Prop
  | [], a => Q a
  | o :: rest, a => if Region.wanted o (yielded ops a.tmps) then calm P o a W (wpCalm P ops W Q rest) else wpCalm P ops W Q rest (a.put o.dst undef)
theorem wpCalm_nil {Q : Act → Prop} {a : Act} (h : Q a) : wpCalm P ops W Q [] a := h
theorem wpCalm_step {Q : Act → Prop} {a : Act} {o : Oper} {rest : List Oper}
    (h : ∀ K : Act → Prop, (∀ a, wpCalm P ops W Q rest a → K a) → if Region.wanted o (yielded ops a.tmps) then calm P o a W K else K (a.put o.dst undef)) : wpCalm P ops W Q (o :: rest) a :=
  h _ (fun _ h => h)
def CalmOp (P : Program) (ops : Array Oper) (W : World) (o : Oper) (v : Value) (a : Act) : Prop :=
  (Region.wanted o (yielded ops a.tmps) = true ∧ ∀ g : Growth W, calmAt P o a (grown W g) v) ∨ (Region.wanted o (yielded ops a.tmps) = false ∧ v = undef)
def AllocOp (P : Program) (ops : Array Oper) (o : Oper) (mk : Nat → Value) (zs : Array Value) (T : TypeId) (a : Act) : Prop :=
  Region.wanted o (yielded ops a.tmps) = true ∧ ∀ w, (execOp a.eval o).run P w = .ok (.value (mk w.heap.size)) (w.alloc (.cells zs T))
abbrev Blocks := List (Nat × Array Value × TypeId)
def aOp (P : Program) (ops : Array Oper) (W : World) (i : Nat) (K : Blocks → Act → Prop) (bs : Blocks) (a : Act) : Prop :=
  ∃ o, ops[i]? = some o ∧ ∃ mk zs T, AllocOp P ops o mk zs T a ∧ ∀ b, W.heap.size ≤ b → (∀ x ∈ bs, x.1 ≠ b) → K ((b, zs, T) :: bs) (a.put o.dst (mk b))
def mOp (P : Program) (ops : Array Oper) (W : World) (i : Nat) (K : Blocks → Act → Prop) (bs : Blocks) (a : Act) : Prop :=
  (∃ o, ops[i]? = some o ∧ ∃ v, CalmOp P ops W o v a ∧ K bs (a.put o.dst v)) ∨ aOp P ops W i K bs a
theorem aOp_mono {i : Nat} {K K' : Blocks → Act → Prop} {bs : Blocks} {a : Act} (h : ∀ bs a, K bs a → K' bs a) (hh : aOp P ops W i K bs a) : aOp P ops W i K' bs a :=
  let ⟨o, ho, mk, zs, T, hA, hk⟩ := hh; ⟨o, ho, mk, zs, T, hA, fun b h1 h2 => h _ _ (hk b h1 h2)⟩
theorem mOp_mono {i : Nat} {K K' : Blocks → Act → Prop} {bs : Blocks} {a : Act} (h : ∀ bs a, K bs a → K' bs a) (hh : mOp P ops W i K bs a) : mOp P ops W i K' bs a :=
  hh.imp (fun ⟨o, ho, v, hv, hk⟩ => ⟨o, ho, v, hv, h _ _ hk⟩) (aOp_mono h)
theorem CalmOp.put {o oj : Oper} {v u : Value} {a : Act} (hs : ∀ cs b, o.op ≠ .select cs b) (h3 : ∀ d, oj.dst = some d → d ∉ o.looksAt ops) (h : CalmOp P ops W o v a) : CalmOp P ops W o v (a.put oj.dst u) := by
  unfold CalmOp calmAt at *
  rw [execOp_put o hs a oj.dst u h3, wanted_put o a oj.dst u h3]
  exact h
theorem CalmOp.unput {o oj : Oper} {v u : Value} {a : Act} (hs : ∀ cs b, o.op ≠ .select cs b) (h3 : ∀ d, oj.dst = some d → d ∉ o.looksAt ops) (h : CalmOp P ops W o v (a.put oj.dst u)) : CalmOp P ops W o v a := by
  unfold CalmOp calmAt at *
  rw [execOp_put o hs a oj.dst u h3, wanted_put o a oj.dst u h3] at h
  exact h
theorem AllocOp.put {o oj : Oper} {mk : Nat → Value} {zs : Array Value} {T : TypeId} {u : Value} {a : Act} (hs : ∀ cs b, o.op ≠ .select cs b) (h3 : ∀ d, oj.dst = some d → d ∉ o.looksAt ops) (h : AllocOp P ops o mk zs T a) : AllocOp P ops o mk zs T (a.put oj.dst u) := by
  unfold AllocOp at *
  rw [execOp_put o hs a oj.dst u h3, wanted_put o a oj.dst u h3]
  exact h
theorem AllocOp.unput {o oj : Oper} {mk : Nat → Value} {zs : Array Value} {T : TypeId} {u : Value} {a : Act} (hs : ∀ cs b, o.op ≠ .select cs b) (h3 : ∀ d, oj.dst = some d → d ∉ o.looksAt ops) (h : AllocOp P ops o mk zs T (a.put oj.dst u)) : AllocOp P ops o mk zs T a := by
  unfold AllocOp at *
  rw [execOp_put o hs a oj.dst u h3, wanted_put o a oj.dst u h3] at h
  exact h
/-- The first n operations, in whatever order; behind them L. -/
def mixAny (P : Program) (md : Region.Mode) (ops : Array Oper) (W : World) (n : Nat) (L : Blocks → Array Bool → Act → Prop) : Nat → Array Bool → Blocks → Act → Prop
  | 0, listed, bs, a => L bs listed a
  | f + 1, listed, bs, a => Region.ready md ops listed ≠ [] ∧ ∀ i ∈ Region.ready md ops listed, i < n ∧ mOp P ops W i (mixAny P md ops W n L f (listed.setIfInBounds i true)) bs a
def layAny (P : Program) (md : Region.Mode) (ops : Array Oper) (W : World) (n : Nat) (L : Blocks → Array Bool → Act → Prop) : Nat → Array Bool → Blocks → Act → Prop
  | 0, listed, bs, a => L bs listed a
  | f + 1, listed, bs, a => Region.ready md ops listed ≠ [] ∧ ∀ i ∈ Region.ready md ops listed, i < n ∧ aOp P ops W i (layAny P md ops W n L f (listed.setIfInBounds i true)) bs a
theorem mix_of_lay {n : Nat} {L : Blocks → Array Bool → Act → Prop} : ∀ (f : Nat) (listed : Array Bool) (bs : Blocks) (a : Act), layAny P md ops W n L f listed bs a → mixAny P md ops W n L f listed bs a
  | 0, _, _, _, h => h
  | f + 1, _, _, _, h => ⟨h.1, fun i hi => ⟨(h.2 i hi).1, .inr (aOp_mono (fun bs a => mix_of_lay f _ bs a) (h.2 i hi).2)⟩⟩
/-- The world of a region under way: nothing that stood has turned; the new blocks stand as they were laid. -/
def MixWorld (W : World) (bs : Blocks) (w : World) : Prop := Gr W w ∧ ∀ x ∈ bs, w.heap[x.1]? = some (.cells x.2.1 x.2.2)
theorem MixWorld.grow {bs : Blocks} {w w' : World} (h : MixWorld W bs w) (hg : Gr w w') : MixWorld W bs w' :=
  ⟨h.1.trans hg, fun x hx => by
    have h1 := h.2 x hx
    have hlt : x.1 < w.heap.size := (Array.getElem?_eq_some_iff.1 h1).1
    rw [hg.below.block x.1 hlt]; exact h1⟩
theorem mixAny_any {n g : Nat} {L : Blocks → Array Bool → Act → Prop} {Q' : Exit → Act → World → Prop} (hL : ∀ listed bs a w, MixWorld W bs w → L bs listed a → wpAny P md ops Q' g listed a w) :
    ∀ (f : Nat) (listed : Array Bool) (bs : Blocks) (a : Act) (w : World), MixWorld W bs w → mixAny P md ops W n L f listed bs a → wpAny P md ops Q' (f + g) listed a w
  | 0, listed, bs, a, w, hw, h => by rw [Nat.zero_add]; exact hL _ _ _ _ hw h
  | f + 1, listed, bs, a, w, hw, h => by
    rw [show f + 1 + g = (f + g) + 1 by omega]
    refine ⟨fun h0 => absurd h0 h.1, fun i hi => ?_⟩
    unfold wpOp
    rcases (h.2 i hi).2 with ⟨o, ho, v, hv, hk⟩ | ⟨o, ho, mk, zs, T, ⟨hw1, hrun⟩, hk⟩
    · simp only [ho]
      rcases hv with ⟨hw1, hc⟩ | ⟨hw1, rfl⟩
      · simp only [hw1, if_true]
        refine .inl ?_
        obtain ⟨gw, rfl⟩ := hw.1
        have h3 := hc gw
        unfold calmAt at h3
        unfold Oper.wp
        generalize (execOp a.eval o).run P (grown W gw) = r at *
        cases r with
        | ok nx w' =>
          cases nx <;> simp only [calmUpon] at h3 <;> simp only [Oper.upon]
          case value u => obtain ⟨e1, e2⟩ := h3; rw [e1, e2]; exact mixAny_any hL f _ _ _ _ hw hk
          case skip => obtain ⟨e1, e2⟩ := h3; rw [e1, ← e2]; exact mixAny_any hL f _ _ _ _ hw hk
          case enter f' args =>
            obtain ⟨e1, hc'⟩ := h3
            rw [e1]
            exact hc'.mono fun e w'' ⟨he, hw''⟩ => by subst he; exact mixAny_any hL f _ _ _ _ (hw.grow hw'') hk
        | halt x w' => simp only [calmUpon] at h3
      · simp only [hw1, Bool.false_eq_true, if_false]; exact mixAny_any hL f _ _ _ _ hw hk
    · simp only [ho, hw1, if_true]
      refine .inl ?_
      unfold Oper.wp
      rw [hrun w]
      simp only [Oper.upon]
      refine mixAny_any hL f _ _ _ _ ⟨hw.1.trans (Gr.of (below_alloc (Below.refl _ _) _)), fun x hx => ?_⟩ (hk w.heap.size hw.1.below.size fun x hx e => ?_)
      · rcases List.mem_cons.1 hx with rfl | hx
        · show (w.heap.push _)[w.heap.size]? = _
          simp
        · have h1 := hw.2 x hx
          have hlt : x.1 < w.heap.size := (Array.getElem?_eq_some_iff.1 h1).1
          rw [Below.heap_alloc w _ x.1 hlt]; exact h1
      · have hlt : x.1 < w.heap.size := (Array.getElem?_eq_some_iff.1 (hw.2 x hx)).1
        omega
/-- Another operation, apart from a calm one. -/
theorem mOp_put {j : Nat} {oi oj : Oper} {v : Value} (hj : ops[j]? = some oj) (hap : oi.apart ops oj = true)
    (hsi : ∀ cs b, oi.op ≠ .select cs b) (hsj : ∀ cs b, oj.op ≠ .select cs b) {K : Blocks → Act → Prop} {bs : Blocks} {a : Act}
    (hy : CalmOp P ops W oi v a) (h : mOp P ops W j K bs (a.put oi.dst v)) :
    mOp P ops W j (fun bs' a' => CalmOp P ops W oi v a' ∧ K bs' (a'.put oi.dst v)) bs a := by
  obtain ⟨h1, h2, h3⟩ := Oper.apart_spec hap
  rcases h with ⟨o, ho, u, hu, hk⟩ | ⟨o, ho, mk, zs, T, hA, hk⟩
  · obtain rfl : o = oj := Option.some.inj (ho.symm.trans hj)
    exact .inl ⟨o, hj, u, hu.unput hsj h1, hy.put hsi h3, by rw [← Act.put_comm a v u h2]; exact hk⟩
  · obtain rfl : o = oj := Option.some.inj (ho.symm.trans hj)
    exact .inr ⟨o, hj, mk, zs, T, hA.unput hsj h1, fun b hb hn => ⟨hy.put hsi h3, by rw [← Act.put_comm a v _ h2]; exact hk b hb hn⟩⟩
theorem mixAny_first {n i : Nat} {oi : Oper} {v : Value} {L : Blocks → Array Bool → Act → Prop} (hi : ops[i]? = some oi) (hsel : ∀ (j : Nat) (o : Oper) cs b, ops[j]? = some o → o.op ≠ .select cs b)
    (hs : Region.sinkB md ops n = true) (hc : Region.chainB md ops n = true) (hn : n < ops.size) (hin : i < n)
    (hdone : ∀ bs listed a, L bs listed a → ∀ j ∈ Region.ready md ops listed, n ≤ j) :
    ∀ (f : Nat) (listed : Array Bool) (bs : Blocks) (a : Act), HeadInv md ops n listed →
      (∀ j oj, ops[j]? = some oj → j ≠ i → listed.getD j true = false → (∀ e ∈ oj.after, Region.binds md e = true → e.on ≠ i) → oi.apart ops oj = true) →
      i ∈ Region.ready md ops listed → CalmOp P ops W oi v a →
      mixAny P md ops W n L f (listed.setIfInBounds i true) bs (a.put oi.dst v) → mixAny P md ops W n L (f + 1) listed bs a := by
  intro f
  induction f with
  | zero =>
    intro listed bs a inv _ hr hy H
    refine ⟨(fun h => by rw [h] at hr; cases hr), fun j hj => ?_⟩
    have hjn : j < n := (Nat.lt_or_ge j n).elim id fun h => absurd hj (tail_waits hs hc hn inv _ i rfl hin (mem_ready.1 hr).1 j h)
    by_cases hji : j = i
    · subst hji; exact ⟨hjn, .inl ⟨oi, hi, v, hy, H⟩⟩
    · have := hdone _ _ _ H j (ready_mono hj hji)
      omega
  | succ f ih =>
    intro listed bs a inv hfree hr hy H
    have hun := (mem_ready.1 hr).1
    refine ⟨(fun h => by rw [h] at hr; cases hr), fun j hj => ?_⟩
    have hjn : j < n := (Nat.lt_or_ge j n).elim id fun h => absurd hj (tail_waits hs hc hn inv _ i rfl hin hun j h)
    refine ⟨hjn, ?_⟩
    by_cases hji : j = i
    · subst hji; exact .inl ⟨oi, hi, v, hy, H⟩
    have h1 := (H.2 j (ready_mono hj hji)).2
    obtain ⟨hjun, oj, hoj, hall⟩ := mem_ready.1 hj
    have hnot : ∀ e ∈ oj.after, Region.binds md e = true → e.on ≠ i := fun e he hb heq => by
      have h1 := hall e he hb
      rw [heq, getD_both hun] at h1
      cases h1
    have h2 := mOp_put hoj (hfree j oj hoj hji hjun hnot) (fun cs b => hsel i oi cs b hi) (fun cs b => hsel j oj cs b hoj) hy h1
    have hfree' : ∀ k ok, ops[k]? = some ok → k ≠ i → (listed.setIfInBounds j true).getD k true = false →
        (∀ e ∈ ok.after, Region.binds md e = true → e.on ≠ i) → oi.apart ops ok = true := fun k ok hk hki hu hno => by
      refine hfree k ok hk hki ?_ hno
      by_cases hjk : j = k
      · subst hjk; exact hjun
      · rw [getD_set_ne true hjk] at hu; exact hu
    refine mOp_mono (fun bs' a' h3 => ih (listed.setIfInBounds j true) bs' a' (inv.set hj hjn) hfree' (ready_mono hr (Ne.symm hji)) h3.1 ?_) h2
    rw [Array.setIfInBounds_comm _ _ hji]
    exact h3.2
theorem layAny_perm {n : Nat} {L : Blocks → Array Bool → Act → Prop} (hP : ∀ bs bs' l a, bs.Perm bs' → L bs l a → L bs' l a) : ∀ (f : Nat) (listed : Array Bool) (bs bs' : Blocks) (a : Act), bs.Perm bs' → layAny P md ops W n L f listed bs a → layAny P md ops W n L f listed bs' a
  | 0, _, _, _, _, hp, h => hP _ _ _ _ hp h
  | f + 1, _, _, _, _, hp, h => ⟨h.1, fun i hi => ⟨(h.2 i hi).1, by
      obtain ⟨o, ho, mk, zs, T, hA, hk⟩ := (h.2 i hi).2
      exact ⟨o, ho, mk, zs, T, hA, fun b hb hn => layAny_perm hP f _ _ _ _ (hp.cons _) (hk b hb fun x hx => hn x (hp.mem_iff.1 hx))⟩⟩⟩
theorem layAny_first {n i : Nat} {oi : Oper} {mk : Nat → Value} {zs : Array Value} {T : TypeId} {L : Blocks → Array Bool → Act → Prop} (hP : ∀ bs bs' l a, bs.Perm bs' → L bs l a → L bs' l a) (hi : ops[i]? = some oi) (hsel : ∀ (j : Nat) (o : Oper) cs b, ops[j]? = some o → o.op ≠ .select cs b)
    (hs : Region.sinkB md ops n = true) (hc : Region.chainB md ops n = true) (hn : n < ops.size) (hin : i < n)
    (hdone : ∀ bs listed a, L bs listed a → ∀ j ∈ Region.ready md ops listed, n ≤ j) :
    ∀ (f : Nat) (listed : Array Bool) (bs : Blocks) (a : Act), HeadInv md ops n listed →
      (∀ j oj, ops[j]? = some oj → j ≠ i → listed.getD j true = false → (∀ e ∈ oj.after, Region.binds md e = true → e.on ≠ i) → oi.apart ops oj = true) →
      i ∈ Region.ready md ops listed → AllocOp P ops oi mk zs T a →
      (∀ b, W.heap.size ≤ b → (∀ x ∈ bs, x.1 ≠ b) → layAny P md ops W n L f (listed.setIfInBounds i true) ((b, zs, T) :: bs) (a.put oi.dst (mk b))) → layAny P md ops W n L (f + 1) listed bs a := by
  have fresh : ∀ bs : Blocks, ∃ b, W.heap.size ≤ b ∧ ∀ x ∈ bs, x.1 ≠ b := by
    intro bs
    have : ∃ m, W.heap.size ≤ m ∧ ∀ x ∈ bs, x.1 < m := by
      induction bs with
      | nil => exact ⟨W.heap.size, Nat.le_refl _, fun x hx => by cases hx⟩
      | cons y r ih =>
        obtain ⟨m, h1, h2⟩ := ih
        refine ⟨max m (y.1 + 1), by omega, fun x hx => ?_⟩
        rcases List.mem_cons.1 hx with rfl | hx
        · omega
        · have := h2 x hx; omega
    obtain ⟨m, h1, h2⟩ := this
    exact ⟨m, h1, fun x hx e => by have := h2 x hx; omega⟩
  intro f
  induction f with
  | zero =>
    intro listed bs a inv _ hr hy H
    refine ⟨(fun h => by rw [h] at hr; cases hr), fun j hj => ?_⟩
    have hjn : j < n := (Nat.lt_or_ge j n).elim id fun h => absurd hj (tail_waits hs hc hn inv _ i rfl hin (mem_ready.1 hr).1 j h)
    by_cases hji : j = i
    · subst hji; exact ⟨hjn, oi, hi, mk, zs, T, hy, H⟩
    · obtain ⟨b, hb, hnb⟩ := fresh bs
      have := hdone _ _ _ (H b hb hnb) j (ready_mono hj hji)
      omega
  | succ f ih =>
    intro listed bs a inv hfree hr hy H
    have hun := (mem_ready.1 hr).1
    refine ⟨(fun h => by rw [h] at hr; cases hr), fun j hj => ?_⟩
    have hjn : j < n := (Nat.lt_or_ge j n).elim id fun h => absurd hj (tail_waits hs hc hn inv _ i rfl hin hun j h)
    refine ⟨hjn, ?_⟩
    by_cases hji : j = i
    · subst hji; exact ⟨oi, hi, mk, zs, T, hy, H⟩
    obtain ⟨hjun, oj, hoj, hall⟩ := mem_ready.1 hj
    have hnot : ∀ e ∈ oj.after, Region.binds md e = true → e.on ≠ i := fun e he hb heq => by
      have h1 := hall e he hb
      rw [heq, getD_both hun] at h1
      cases h1
    obtain ⟨p1, p2, p3⟩ := Oper.apart_spec (hfree j oj hoj hji hjun hnot)
    have hfree' : ∀ k ok, ops[k]? = some ok → k ≠ i → (listed.setIfInBounds j true).getD k true = false →
        (∀ e ∈ ok.after, Region.binds md e = true → e.on ≠ i) → oi.apart ops ok = true := fun k ok hk hki hu hno => by
      refine hfree k ok hk hki ?_ hno
      by_cases hjk : j = k
      · subst hjk; exact hjun
      · rw [getD_set_ne true hjk] at hu; exact hu
    -- what j lays, whatever i's block
    obtain ⟨b0, hb0, hnb0⟩ := fresh bs
    obtain ⟨o', ho', mk', zs', T', hA', _⟩ := ((H b0 hb0 hnb0).2 j (ready_mono hj hji)).2
    obtain rfl : o' = oj := Option.some.inj (ho'.symm.trans hoj)
    have hAj := hA'.unput (oj := oi) (fun cs b => hsel j o' cs b hoj) p1
    refine ⟨o', hoj, mk', zs', T', hAj, fun b' hb' hnb' => ?_⟩
    refine ih (listed.setIfInBounds j true) _ _ (inv.set hj hjn) hfree' (ready_mono hr (Ne.symm hji)) (hy.put (fun cs b => hsel i oi cs b hi) p3) fun b hb hnb => ?_
    have hbs : ∀ x ∈ bs, x.1 ≠ b := fun x hx => hnb x (List.mem_cons_of_mem _ hx)
    obtain ⟨o2, ho2, mk2, zs2, T2, hA2, hk2⟩ := ((H b hb hbs).2 j (ready_mono hj hji)).2
    obtain rfl : o2 = o' := Option.some.inj (ho2.symm.trans hoj)
    have hAj2 := hA2.unput (oj := oi) (fun cs b => hsel j o2 cs b hoj) p1
    have e := (hAj.2 W).symm.trans (hAj2.2 W)
    have ez : zs' = zs2 ∧ T' = T2 := by
      have e2 : W.alloc (.cells zs' T') = W.alloc (.cells zs2 T2) := by injection e
      have e3 : (W.alloc (.cells zs' T')).heap[W.heap.size]? = (W.alloc (.cells zs2 T2)).heap[W.heap.size]? := by rw [e2]
      have e4 : some (Obj.cells zs' T') = some (Obj.cells zs2 T2) := by
        have q : ∀ ob : Obj, (W.alloc ob).heap[W.heap.size]? = some ob := fun ob => by show (W.heap.push ob)[W.heap.size]? = _; simp
        rw [q, q] at e3; exact e3
      injection e4 with e5
      injection e5 with e6 e7
      exact ⟨e6, e7⟩
    obtain ⟨rfl, rfl⟩ := ez
    have em : mk' = mk2 := by
      funext m
      have e1 := (hAj.2 { W with heap := Array.replicate m default }).symm.trans (hAj2.2 { W with heap := Array.replicate m default })
      have e2 : Next.value (mk' (Array.replicate m (default : Obj)).size) = Next.value (mk2 (Array.replicate m (default : Obj)).size) := by injection e1
      rw [Array.size_replicate] at e2
      injection e2
    subst em
    have hne : b ≠ b' := fun e => hnb _ (List.mem_cons_self) e.symm
    have h4 := hk2 b' hb' (fun x hx => by
      rcases List.mem_cons.1 hx with rfl | hx
      · exact hne
      · exact hnb' x hx)
    rw [Array.setIfInBounds_comm _ _ hji, ← Act.put_comm a _ _ p2]
    exact layAny_perm hP f _ _ _ _ (List.Perm.swap _ _ _) h4
def wpLay (P : Program) (ops : Array Oper) (W : World) (Q : Blocks → Act → Prop) : List Oper → Blocks → Act → Prop
  | [], bs, a => Q bs a
  | o :: r, bs, a => ∃ mk zs T, AllocOp P ops o mk zs T a ∧ ∀ b, W.heap.size ≤ b → (∀ x ∈ bs, x.1 ≠ b) → wpLay P ops W Q r ((b, zs, T) :: bs) (a.put o.dst (mk b))
def pick (l : List Oper) : List Nat → List Oper
  | [] => []
  | k :: r => (l.drop k).take 1 ++ pick l r
def mixSeq (md : Region.Mode) (ops : Array Oper) (g n : Nat) : List Nat → Array Bool → Bool
  | [], listed => Region.seqB md ops g n listed
  | k :: r, listed => decide (k < n) && (Region.ready md ops listed).contains k && Region.free md ops listed k && mixSeq md ops g n r (listed.setIfInBounds k true)
def mixB (md : Region.Mode) (ops : Array Oper) (qs asx : List Nat) (n : Nat) : Bool :=
  Region.noSelect ops && decide (n < ops.size) && Region.sinkB md ops n && Region.chainB md ops n && decide (qs.length + asx.length = n) && mixSeq md ops (ops.size - n) n (qs ++ asx) (Array.replicate ops.size false)
theorem pick_cons {l : List Oper} {k : Nat} {r : List Nat} {o : Oper} (h : l[k]? = some o) : pick l (k :: r) = o :: pick l r := by
  obtain ⟨hl, hv⟩ := List.getElem?_eq_some_iff.1 h
  simp [pick, List.drop_eq_getElem_cons hl, hv]
section
variable {l : List Oper} {n g : Nat} {Lq : Blocks → Act → Prop}
theorem layAny_lex (hP : ∀ bs bs' a, bs.Perm bs' → Lq bs a → Lq bs' a) (hsel : Region.noSelect l.toArray = true) (hs : Region.sinkB md l.toArray n = true) (hc : Region.chainB md l.toArray n = true) (hn : n < l.toArray.size) :
    ∀ (asx : List Nat) (listed : Array Bool) (bs : Blocks) (a : Act), HeadInv md l.toArray n listed → mixSeq md l.toArray g n asx listed = true → wpLay P l.toArray W Lq (pick l asx) bs a →
      layAny P md l.toArray W n (fun bs' listed' a' => Region.seqB md l.toArray g n listed' = true ∧ Lq bs' a') asx.length listed bs a
  | [], listed, bs, a, _, hB, h => ⟨hB, h⟩
  | k :: r, listed, bs, a, inv, hB, h => by
    simp only [mixSeq, Bool.and_eq_true, decide_eq_true_eq] at hB
    obtain ⟨⟨⟨hkn, hr⟩, hf⟩, hB'⟩ := hB
    have hr' : k ∈ Region.ready md l.toArray listed := by simpa using hr
    obtain ⟨_, o, ho, _⟩ := mem_ready.1 hr'
    have ho' : l[k]? = some o := by simpa using ho
    rw [pick_cons ho'] at h
    obtain ⟨mk, zs, T, hA, hk⟩ := h
    exact layAny_first (fun bs bs' l' a hp hL => ⟨hL.1, hP _ _ _ hp hL.2⟩) ho (Region.noSelect_spec hsel) hs hc hn hkn (fun bs' listed' a' hL => seqB_ready hL.1) r.length listed bs a inv (Region.free_spec ho hf) hr' hA
      fun b hb hnb => layAny_lex hP hsel hs hc hn r _ _ _ (inv.set hr' hkn) hB' (hk b hb hnb)
theorem mixAny_lex (hP : ∀ bs bs' a, bs.Perm bs' → Lq bs a → Lq bs' a) (hsel : Region.noSelect l.toArray = true) (hs : Region.sinkB md l.toArray n = true) (hc : Region.chainB md l.toArray n = true) (hn : n < l.toArray.size) (asx : List Nat) :
    ∀ (qs : List Nat) (listed : Array Bool) (a : Act), HeadInv md l.toArray n listed → mixSeq md l.toArray g n (qs ++ asx) listed = true → wpCalm P l.toArray W (fun a' => wpLay P l.toArray W Lq (pick l asx) [] a') (pick l qs) a →
      mixAny P md l.toArray W n (fun bs' listed' a' => Region.seqB md l.toArray g n listed' = true ∧ Lq bs' a') (qs.length + asx.length) listed [] a
  | [], listed, a, inv, hB, h => by
    rw [List.length_nil, Nat.zero_add]
    exact mix_of_lay _ _ _ _ (layAny_lex hP hsel hs hc hn asx listed [] a inv hB h)
  | k :: r, listed, a, inv, hB, h => by
    simp only [List.cons_append, mixSeq, Bool.and_eq_true, decide_eq_true_eq] at hB
    obtain ⟨⟨⟨hkn, hr⟩, hf⟩, hB'⟩ := hB
    have hr' : k ∈ Region.ready md l.toArray listed := by simpa using hr
    obtain ⟨_, o, ho, _⟩ := mem_ready.1 hr'
    have ho' : l[k]? = some o := by simpa using ho
    rw [pick_cons ho'] at h
    rw [show (k :: r).length + asx.length = (r.length + asx.length) + 1 by simp; omega]
    unfold wpCalm at h
    by_cases hw : Region.wanted o (yielded l.toArray a.tmps) = true
    · simp only [hw, if_true] at h
      obtain ⟨v, hv, hk⟩ := h
      exact mixAny_first ho (Region.noSelect_spec hsel) hs hc hn hkn (fun bs' listed' a' hL => seqB_ready hL.1) _ listed [] a inv (Region.free_spec ho hf) hr' (.inl ⟨hw, hv⟩)
        (mixAny_lex hP hsel hs hc hn asx r _ _ (inv.set hr' hkn) hB' hk)
    · simp only [hw] at h
      exact mixAny_first ho (Region.noSelect_spec hsel) hs hc hn hkn (fun bs' listed' a' hL => seqB_ready hL.1) _ listed [] a inv (Region.free_spec ho hf) hr' (.inr ⟨by simpa using hw, rfl⟩)
        (mixAny_lex hP hsel hs hc hn asx r _ _ (inv.set hr' hkn) hB' h)
end
/-- ONE WALK: the calm operations 'qs', then the blocks that 'as' lay, with their numbers as variables, then the others, one behind the other, in a world of which that is known. -/
theorem wp_region_mix {id : Nat} {Q : Exit → Act → World → Prop} {a : Act} {l : List Oper} (qs asx : List Nat) (n : Nat) (hm : P.follows .mixedOrders = true) (hB : mixB .any l.toArray qs asx n = true)
    (h : wpCalm P l.toArray W (fun a' => wpLay P l.toArray W (fun bs a'' => ∀ w', MixWorld W bs w' → wpList P l.toArray Q (l.drop n) a'' w') (pick l asx) [] a') (pick l qs) a) : (Code.region id l.toArray true).wp P Q a W := by
  simp only [mixB, Bool.and_eq_true, decide_eq_true_eq] at hB
  obtain ⟨⟨⟨⟨⟨hsel, hn⟩, hs⟩, hc⟩, hlen⟩, hlex⟩ := hB
  have hdl : (l.drop n).length = l.toArray.size - n := by simp
  have inv0 : HeadInv .any l.toArray n (Array.replicate l.toArray.size false) :=
    ⟨by simp, (fun j oj _ hl => by rw [getD_replicate_false] at hl; cases hl), fun t _ ht => getD_in (by simpa using ht) (getD_replicate_false _ _)⟩
  have H := mixAny_lex (md := .any) (g := l.toArray.size - n) (P := P) (W := W) (fun bs bs' a hp (hL : ∀ w', MixWorld W bs w' → wpList P l.toArray Q (l.drop n) a w') w' hw' => hL w' ⟨hw'.1, fun x hx => hw'.2 x (hp.mem_iff.1 hx)⟩) hsel hs hc hn asx qs _ a inv0 hlex h
  refine wp_region_any hm ?_
  have := mixAny_any (Q' := Q) (g := l.toArray.size - n) (fun listed bs a' w' hw' hL => by
    have := wpAny_of_seq (md := .any) (Q' := Q) (l.drop n) n listed a' w' (fun j => by simp [List.getElem?_drop]) (by rw [hdl]; exact hL.1) (hL.2 w' hw')
    rwa [hdl] at this) _ _ _ _ _ ⟨Gr.of ((Below.refl _ _).drew), fun x hx => by cases hx⟩ H
  rw [hlen, show n + (l.toArray.size - n) = l.toArray.size by simp at hn ⊢; omega] at this
  exact this
/-! A region all of whose operations read, compute, call functions that only make new memory, lay a new block, or store into one laid here, whole. -/
section
end
section
end
section
variable {l : List Oper} {Lq : Blocks → Act → Prop}
def seqOne (md : Region.Mode) (ops : Array Oper) : List Nat → Array Bool → Bool
  | [], listed => decide (Region.ready md ops listed = [])
  | k :: r, listed => decide (Region.ready md ops listed = [k]) && seqOne md ops r (listed.setIfInBounds k true)
def seqFree (md : Region.Mode) (ops : Array Oper) (ss : List Nat) : List Nat → Array Bool → Bool
  | [], listed => seqOne md ops ss listed
  | k :: r, listed => (Region.ready md ops listed).contains k && Region.free md ops listed k && seqFree md ops ss r (listed.setIfInBounds k true)
end
end
end Go.Proofs.YtgjdgafoidppaaaGreatDoor
namespace Go.Proofs.YtgjdgafoidppaaaGreatDoor
open Go.RowKit
set_option linter.unusedVariables false
section
variable {P : Program} {ops : Array Oper} {md : Region.Mode} {W : World} {S : Type} {I : S → World → Prop}
/-- What is known of the world of a region under way: it grows out of W, whatever was stored. -/
structure Ghost (W : World) (I : S → World → Prop) : Prop where
  grow : ∀ s w w', I s w → Gr w w' → I s w'
  out : ∀ s w, I s w → Gr W w
def clOp (P : Program) (ops : Array Oper) (W : World) (i : Nat) (K : S → Act → Prop) (s : S) (a : Act) : Prop := ∃ o, ops[i]? = some o ∧ ∃ v, CalmOp P ops W o v a ∧ K s (a.put o.dst v)
end
section
variable {P : Program} {md : Region.Mode} {W : World} {S : Type} {I : S → World → Prop} {l : List Oper} {Lq : S → Act → Prop}
def lateB (md : Region.Mode) (ops : Array Oper) (qs ss : List Nat) : Bool :=
  Region.noSelect ops && decide (qs.length + ss.length = ops.size) && seqFree md ops ss qs (Array.replicate ops.size false)
end
section
variable {P : Program} {W : World}
end
end Go.Proofs.YtgjdgafoidppaaaGreatDoor
namespace Go.Proofs.YtgjdgafoidppaaaGreatDoor
open Go.RowKit
set_option linter.unusedVariables false
section
variable {P : Program} {ops : Array Oper} {md : Region.Mode} {W : World} {S : Type} {I : S → World → Prop}
def effUpon (P : Program) (R : Value → World → Prop) : Result Next → Prop
  | .ok (.value v) w' => R v w'
  | .ok .skip w' => R undef w'
  | .ok (.enter f args) w' => Calls P f args w' (fun e w'' => ∃ v, e = .returned v ∧ R v w'')
  | _ => False
theorem effUpon_mono {R R' : Value → World → Prop} (h : ∀ v w, R v w → R' v w) (r : Result Next) (hr : effUpon P R r) : effUpon P R' r := by
  cases r with
  | ok nx w' =>
    cases nx <;> simp only [effUpon] at hr ⊢
    case value v => exact h _ _ hr
    case skip => exact h _ _ hr
    case enter f args => exact hr.mono (fun e w'' ⟨v, he, hv⟩ => ⟨v, he, h _ _ hv⟩)
  | halt x w' => exact hr.elim
def EffAt (P : Program) (o : Oper) (a : Act) (w : World) (R : Value → World → Prop) : Prop := effUpon P R ((execOp a.eval o).run P w)
def efOp (P : Program) (ops : Array Oper) (I : S → World → Prop) (i : Nat) (K : S → Act → Prop) (s : S) (a : Act) : Prop :=
  ∃ o, ops[i]? = some o ∧ Region.wanted o (yielded ops a.tmps) = true ∧ ∀ w, I s w → EffAt P o a w (fun v w' => ∃ s', I s' w' ∧ K s' (a.put o.dst v))
def feOp (P : Program) (ops : Array Oper) (W : World) (I : S → World → Prop) (i : Nat) (K : S → Act → Prop) (s : S) (a : Act) : Prop := clOp P ops W i K s a ∨ efOp P ops I i K s a
theorem feOp_mono {i : Nat} {K K' : S → Act → Prop} {s : S} {a : Act} (h : ∀ s a, K s a → K' s a) (hh : feOp P ops W I i K s a) : feOp P ops W I i K' s a :=
  hh.imp (fun ⟨o, ho, v, hv, hk⟩ => ⟨o, ho, v, hv, h _ _ hk⟩) (fun ⟨o, ho, hg, hs⟩ => ⟨o, ho, hg, fun w hw => effUpon_mono (fun v w' ⟨s', h1, h2⟩ => ⟨s', h1, h _ _ h2⟩) _ (hs w hw)⟩)
def feAny (P : Program) (md : Region.Mode) (ops : Array Oper) (W : World) (I : S → World → Prop) (L : S → Act → Prop) : Nat → Array Bool → S → Act → Prop
  | 0, listed, s, a => Region.ready md ops listed = [] ∧ L s a
  | f + 1, listed, s, a => (Region.ready md ops listed = [] → L s a) ∧ ∀ i ∈ Region.ready md ops listed, feOp P ops W I i (feAny P md ops W I L f (listed.setIfInBounds i true)) s a
theorem feAny_any (G : Ghost W I) {L : S → Act → Prop} {Q' : Exit → Act → World → Prop} (hL : ∀ s a w, I s w → L s a → Q' .normal a w) :
    ∀ (f : Nat) (listed : Array Bool) (s : S) (a : Act) (w : World), I s w → feAny P md ops W I L f listed s a → wpAny P md ops Q' f listed a w
  | 0, listed, s, a, w, hw, h => ⟨h.1, hL _ _ _ hw h.2⟩
  | f + 1, listed, s, a, w, hw, h => by
    refine ⟨fun h0 => hL _ _ _ hw (h.1 h0), fun i hi => ?_⟩
    unfold wpOp
    rcases h.2 i hi with ⟨o, ho, v, hv, hk⟩ | ⟨o, ho, hg, hs⟩
    · simp only [ho]
      rcases hv with ⟨hw1, hc⟩ | ⟨hw1, rfl⟩
      · simp only [hw1, if_true]
        refine .inl ?_
        obtain ⟨gw, rfl⟩ := G.out _ _ hw
        have h3 := hc gw
        unfold calmAt at h3
        unfold Oper.wp
        generalize (execOp a.eval o).run P (grown W gw) = r at *
        cases r with
        | ok nx w' =>
          cases nx <;> simp only [calmUpon] at h3 <;> simp only [Oper.upon]
          case value u => obtain ⟨e1, e2⟩ := h3; rw [e1, e2]; exact feAny_any G hL f _ _ _ _ hw hk
          case skip => obtain ⟨e1, e2⟩ := h3; rw [e1, ← e2]; exact feAny_any G hL f _ _ _ _ hw hk
          case enter f' args =>
            obtain ⟨e1, hc'⟩ := h3
            rw [e1]
            exact hc'.mono fun e w'' ⟨he, hw''⟩ => by subst he; exact feAny_any G hL f _ _ _ _ (G.grow _ _ _ hw hw'') hk
        | halt x w' => simp only [calmUpon] at h3
      · simp only [hw1, Bool.false_eq_true, if_false]; exact feAny_any G hL f _ _ _ _ hw hk
    · simp only [ho, hg, if_true]
      refine .inl ?_
      have h3 := hs w hw
      unfold EffAt at h3
      unfold Oper.wp
      generalize (execOp a.eval o).run P w = r at *
      cases r with
      | ok nx w' =>
        cases nx <;> simp only [effUpon] at h3 <;> simp only [Oper.upon]
        case value u => obtain ⟨s', hi', hk⟩ := h3; exact feAny_any G hL f _ _ _ _ hi' hk
        case skip => obtain ⟨s', hi', hk⟩ := h3; exact feAny_any G hL f _ _ _ _ hi' hk
        case enter f' args => exact h3.mono fun e w'' ⟨v, he, s', hi', hk⟩ => by subst he; exact feAny_any G hL f _ _ _ _ hi' hk
      | halt x w' => simp only [effUpon] at h3
theorem feOp_put {j : Nat} {oi oj : Oper} {v : Value} (hj : ops[j]? = some oj) (hap : oi.apart ops oj = true)
    (hsi : ∀ cs b, oi.op ≠ .select cs b) (hsj : ∀ cs b, oj.op ≠ .select cs b) {K : S → Act → Prop} {s : S} {a : Act}
    (hy : CalmOp P ops W oi v a) (h : feOp P ops W I j K s (a.put oi.dst v)) :
    feOp P ops W I j (fun s' a' => CalmOp P ops W oi v a' ∧ K s' (a'.put oi.dst v)) s a := by
  obtain ⟨p1, p2, p3⟩ := Oper.apart_spec hap
  rcases h with ⟨o, ho, u, hu, hk⟩ | ⟨o, ho, hg, hs⟩
  · obtain rfl : o = oj := Option.some.inj (ho.symm.trans hj)
    exact .inl ⟨o, hj, u, hu.unput hsj p1, hy.put hsi p3, by rw [← Act.put_comm a v u p2]; exact hk⟩
  · obtain rfl : o = oj := Option.some.inj (ho.symm.trans hj)
    refine .inr ⟨o, hj, by rw [wanted_put o a oi.dst v p1] at hg; exact hg, fun w hw => ?_⟩
    have h3 := hs w hw
    unfold EffAt at *
    rw [execOp_put o hsj a oi.dst v p1] at h3
    exact effUpon_mono (fun u w' ⟨s', h1, h2⟩ => ⟨s', h1, hy.put hsi p3, by rw [← Act.put_comm a v u p2]; exact h2⟩) _ h3
theorem feAny_first {i : Nat} {oi : Oper} {v : Value} {L : S → Act → Prop} (hi : ops[i]? = some oi) (hsel : ∀ (j : Nat) (o : Oper) cs b, ops[j]? = some o → o.op ≠ .select cs b) :
    ∀ (f : Nat) (listed : Array Bool) (s : S) (a : Act),
      (∀ j oj, ops[j]? = some oj → j ≠ i → listed.getD j true = false → (∀ e ∈ oj.after, Region.binds md e = true → e.on ≠ i) → oi.apart ops oj = true) →
      i ∈ Region.ready md ops listed → CalmOp P ops W oi v a →
      feAny P md ops W I L f (listed.setIfInBounds i true) s (a.put oi.dst v) → feAny P md ops W I L (f + 1) listed s a := by
  intro f
  induction f with
  | zero =>
    intro listed s a _ hr hy H
    refine ⟨(fun h => by rw [h] at hr; cases hr), fun j hj => ?_⟩
    by_cases hji : j = i
    · subst hji; exact .inl ⟨oi, hi, v, hy, H⟩
    · have := ready_mono hj hji
      rw [H.1] at this
      cases this
  | succ f ih =>
    intro listed s a hfree hr hy H
    have hun := (mem_ready.1 hr).1
    refine ⟨(fun h => by rw [h] at hr; cases hr), fun j hj => ?_⟩
    by_cases hji : j = i
    · subst hji; exact .inl ⟨oi, hi, v, hy, H⟩
    have h1 := H.2 j (ready_mono hj hji)
    obtain ⟨hjun, oj, hoj, hall⟩ := mem_ready.1 hj
    have hnot : ∀ e ∈ oj.after, Region.binds md e = true → e.on ≠ i := fun e he hb heq => by
      have h1 := hall e he hb
      rw [heq, getD_both hun] at h1
      cases h1
    have h2 := feOp_put hoj (hfree j oj hoj hji hjun hnot) (fun cs b => hsel i oi cs b hi) (fun cs b => hsel j oj cs b hoj) hy h1
    have hfree' : ∀ k ok, ops[k]? = some ok → k ≠ i → (listed.setIfInBounds j true).getD k true = false →
        (∀ e ∈ ok.after, Region.binds md e = true → e.on ≠ i) → oi.apart ops ok = true := fun k ok hk hki hu hno => by
      refine hfree k ok hk hki ?_ hno
      by_cases hjk : j = k
      · subst hjk; exact hjun
      · rw [getD_set_ne true hjk] at hu; exact hu
    refine feOp_mono (fun s' a' h3 => ih (listed.setIfInBounds j true) s' a' hfree' (ready_mono hr (Ne.symm hji)) h3.1 ?_) h2
    rw [Array.setIfInBounds_comm _ _ hji]
    exact h3.2
end
section
variable {P : Program} {md : Region.Mode} {W : World} {S : Type} {I : S → World → Prop} {l : List Oper} {Lq : S → Act → Prop}
/-- The others, one behind the other, with calm operations among them. -/
def wpEfs (P : Program) (ops : Array Oper) (W : World) (I : S → World → Prop) (Q : S → Act → Prop) : List Oper → S → Act → Prop
  | [], s, a => Q s a
  | o :: r, s, a => (∃ v, CalmOp P ops W o v a ∧ wpEfs P ops W I Q r s (a.put o.dst v)) ∨ (Region.wanted o (yielded ops a.tmps) = true ∧ ∀ w, I s w → EffAt P o a w (fun v w' => ∃ s', I s' w' ∧ wpEfs P ops W I Q r s' (a.put o.dst v)))
theorem wpEfs_nil {ops : Array Oper} {Q : S → Act → Prop} {s : S} {a : Act} (h : Q s a) : wpEfs P ops W I Q [] s a := h
theorem wpEfs_calm {ops : Array Oper} {Q : S → Act → Prop} {s : S} {a : Act} {o : Oper} {r : List Oper} (v : Value) (hg : o.guard = none) (hc : ∀ g : Growth W, calmAt P o a (grown W g) v) (h : wpEfs P ops W I Q r s (a.put o.dst v)) : wpEfs P ops W I Q (o :: r) s a :=
  .inl ⟨v, .inl ⟨by simp [Region.wanted, hg], hc⟩, h⟩
theorem wpEfs_eff {ops : Array Oper} {Q : S → Act → Prop} {s : S} {a : Act} {o : Oper} {r : List Oper} (hg : o.guard = none) (h : ∀ w, I s w → EffAt P o a w (fun v w' => ∃ s', I s' w' ∧ wpEfs P ops W I Q r s' (a.put o.dst v))) : wpEfs P ops W I Q (o :: r) s a :=
  .inr ⟨by simp [Region.wanted, hg], h⟩
theorem feAny_seq : ∀ (ss : List Nat) (listed : Array Bool) (s : S) (a : Act), seqOne md l.toArray ss listed = true → wpEfs P l.toArray W I Lq (pick l ss) s a → feAny P md l.toArray W I Lq ss.length listed s a
  | [], listed, s, a, hB, h => ⟨by simpa [seqOne] using hB, h⟩
  | k :: r, listed, s, a, hB, h => by
    simp only [seqOne, Bool.and_eq_true, decide_eq_true_eq] at hB
    refine ⟨(fun h0 => by rw [hB.1] at h0; cases h0), fun i hi => ?_⟩
    have hk : k ∈ Region.ready md l.toArray listed := by rw [hB.1]; simp
    obtain ⟨_, o, ho, _⟩ := mem_ready.1 hk
    have ho' : l[k]? = some o := by simpa using ho
    rw [hB.1] at hi
    obtain rfl : i = k := by simpa using hi
    rw [pick_cons ho'] at h
    rcases h with ⟨v, hv, hr⟩ | ⟨hg, hs⟩
    · exact .inl ⟨o, ho, v, hv, feAny_seq r _ _ _ hB.2 hr⟩
    exact .inr ⟨o, ho, hg, fun w hw => effUpon_mono (fun v w' ⟨s', h1, h2⟩ => ⟨s', h1, feAny_seq r _ _ _ hB.2 h2⟩) _ (hs w hw)⟩
theorem feAny_lex (hsel : Region.noSelect l.toArray = true) (ss : List Nat) :
    ∀ (qs : List Nat) (listed : Array Bool) (s : S) (a : Act), seqFree md l.toArray ss qs listed = true → wpCalm P l.toArray W (fun a' => wpEfs P l.toArray W I Lq (pick l ss) s a') (pick l qs) a →
      feAny P md l.toArray W I Lq (qs.length + ss.length) listed s a
  | [], listed, s, a, hB, h => by
    rw [List.length_nil, Nat.zero_add]
    exact feAny_seq ss listed s a hB h
  | k :: r, listed, s, a, hB, h => by
    simp only [seqFree, Bool.and_eq_true] at hB
    obtain ⟨⟨hr, hf⟩, hB'⟩ := hB
    have hr' : k ∈ Region.ready md l.toArray listed := by simpa using hr
    obtain ⟨_, o, ho, _⟩ := mem_ready.1 hr'
    have ho' : l[k]? = some o := by simpa using ho
    rw [pick_cons ho'] at h
    rw [show (k :: r).length + ss.length = (r.length + ss.length) + 1 by simp; omega]
    unfold wpCalm at h
    by_cases hw : Region.wanted o (yielded l.toArray a.tmps) = true
    · simp only [hw, if_true] at h
      obtain ⟨v, hv, hk⟩ := h
      exact feAny_first ho (Region.noSelect_spec hsel) _ listed s a (Region.free_spec ho hf) hr' (.inl ⟨hw, hv⟩) (feAny_lex hsel ss r _ _ _ hB' hk)
    · simp only [hw] at h
      exact feAny_first ho (Region.noSelect_spec hsel) _ listed s a (Region.free_spec ho hf) hr' (.inr ⟨by simpa using hw, rfl⟩) (feAny_lex hsel ss r _ _ _ hB' h)
/-- ONE WALK: the calm operations 'qs' in a world that has grown out of W, then the others 'ss'. -/
theorem wp_region_eff {id : Nat} {Q : Exit → Act → World → Prop} {a : Act} {w : World} (G : Ghost W I) (s : S) (hw : I s w.drew) (qs ss : List Nat) (hm : P.follows .mixedOrders = true) (hB : lateB .any l.toArray qs ss = true)
    (h : wpCalm P l.toArray W (fun a' => wpEfs P l.toArray W I (fun s a3 => ∀ w', I s w' → Q .normal a3 w') (pick l ss) s a') (pick l qs) a) : (Code.region id l.toArray true).wp P Q a w := by
  simp only [lateB, Bool.and_eq_true, decide_eq_true_eq] at hB
  obtain ⟨⟨hsel, hlen⟩, hlex⟩ := hB
  have H := feAny_lex (md := .any) (P := P) (W := W) (I := I) hsel ss qs _ s a hlex h
  refine wp_region_any hm ?_
  have := feAny_any (Q' := Q) G (fun s a' w' hw' (hL : ∀ w', I s w' → Q .normal a' w') => hL w' hw') _ _ _ _ _ hw H
  rw [hlen] at this
  exact this
end
/-- What is known of a world under way: it has grown out of W; block X has these cells; and what more is said stays as it grows, and as X is written. -/
structure Blk1 (W : World) (X : Nat) (T : TypeId) where
  cs : Array Value
  e : World → Prop
  grow : ∀ w w', e w → Gr w w' → e w'
  set : ∀ w o v cs, BlockAt w X cs T → e w → e (w.setCell ⟨X, o, none⟩ v)
def InBlk1 (W : World) (X : Nat) (T : TypeId) (s : Blk1 W X T) (w : World) : Prop := Gr W w ∧ BlockAt w X s.cs T ∧ s.e w
theorem inBlk1_ghost (W : World) (X : Nat) (T : TypeId) : Ghost W (InBlk1 W X T) := ⟨fun s w w' h g => ⟨h.1.trans g, h.2.1.gr g, s.grow _ _ h.2.2 g⟩, fun s w h => h.1⟩
/-- Another block's cells. -/
def Blk1.other {W : World} {X : Nat} {T : TypeId} (s : Blk1 W X T) (R : Nat) (zs : Array Value) (U : TypeId) (hne : R ≠ X) : Blk1 W X T :=
  ⟨s.cs, fun w => BlockAt w R zs U ∧ s.e w, fun w w' h g => ⟨h.1.gr g, s.grow _ _ h.2 g⟩, fun w o v cs hb h => ⟨by haveI := h.1; haveI : BNe R X := ⟨hne⟩; infer_instance, s.set _ _ _ _ hb h.2⟩⟩
def Blk1.one (W : World) (X : Nat) (T : TypeId) (cs : Array Value) : Blk1 W X T := ⟨cs, fun _ => True, fun _ _ _ _ => trivial, fun _ _ _ _ _ _ => trivial⟩
def Blk1.put {W : World} {X : Nat} {T : TypeId} (s : Blk1 W X T) (o : Nat) (v : Value) : Blk1 W X T := ⟨s.cs.setIfInBounds o v, s.e, s.grow, s.set⟩
def Blk1.and {W : World} {X : Nat} {T : TypeId} (s : Blk1 W X T) (e : World → Prop) (hg : ∀ w w', e w → Gr w w' → e w') (hs : ∀ w o v cs, BlockAt w X cs T → e w → e (w.setCell ⟨X, o, none⟩ v)) : Blk1 W X T :=
  ⟨s.cs, fun w => e w ∧ s.e w, fun w w' h g => ⟨hg _ _ h.1 g, s.grow _ _ h.2 g⟩, fun w o v cs hb h => ⟨hs _ _ _ _ hb h.1, s.set _ _ _ _ hb h.2⟩⟩
theorem wpEfs_put {P : Program} {ops : Array Oper} {W : World} {X : Nat} {T ty : TypeId} {Q : Blk1 W X T → Act → Prop} {s : Blk1 W X T} {a : Act} {o : Oper} {r : List Oper} {x y : Operand} (k : Nat) (ho : o.op = .store ty x y) (hg : o.guard = none)
    (hx : a.eval x = .pointer (some ⟨X, k, none⟩)) (hX : W.heap.size ≤ X) (hk : k < s.cs.size)
    (h1 : ∀ w : World, w.cell? ⟨X, k, none⟩ = some s.cs[k] → w.frozen? ⟨X, k, none⟩ = false → (storeVar ty ⟨X, k, none⟩ (a.eval y)).run P w = .ok () (w.setCell ⟨X, k, none⟩ (a.eval y)))
    (h : wpEfs P ops W (InBlk1 W X T) Q r (s.put k (a.eval y)) (a.put o.dst undef)) : wpEfs P ops W (InBlk1 W X T) Q (o :: r) s a := by
  refine wpEfs_eff hg (fun w hw => ?_)
  obtain ⟨hgr, hb, he⟩ := hw
  have hrun := h1 w (by rw [block_cells w X k s.cs T]; simp) (block_frozen w X k s.cs T)
  have e : EffAt P o a w = fun R => R undef (w.setCell ⟨X, k, none⟩ (a.eval y)) := by
    funext R
    unfold EffAt execOp
    simp only [ho, hx, Instr.storeAt, Instr.sureAddr, Sem.run_bind, Sem.run_pure, Result.andThen_ok, hrun]
    rfl
  rw [e]
  exact ⟨s.put k (a.eval y), ⟨Gr.of (below_set hgr.below hX _), (inferInstance : BlockAt (w.setCell ⟨X, k, none⟩ (a.eval y)) X (s.cs.setIfInBounds k (a.eval y)) T), s.set _ _ _ _ hb he⟩, h⟩
theorem wpEfs_call {P : Program} {ops : Array Oper} {W : World} {S : Type} {I : S → World → Prop} {Q : S → Act → Prop} {s : S} {a : Act} {o : Oper} {r : List Oper} (f : FuncId) (args : Array Value) (hg : o.guard = none)
    (he : ∀ w, (execOp a.eval o).run P w = .ok (.enter f args) w)
    (h : ∀ w, I s w → Calls P f args w (fun e w' => ∃ v, e = .returned v ∧ ∃ s', I s' w' ∧ wpEfs P ops W I Q r s' (a.put o.dst v))) : wpEfs P ops W I Q (o :: r) s a := by
  refine wpEfs_eff hg (fun w hw => ?_)
  unfold EffAt
  rw [he w]
  exact h w hw
end Go.Proofs.YtgjdgafoidppaaaGreatDoor
