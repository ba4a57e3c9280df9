/- script.MayAct (all kinds). Conditions: what is read stands in memory. -/
import Derived.Test.YtgjdgafoidppaaaDoorSMA1
import Derived.Test.YtgjdgafoidppaaaDoorSMA2
import Derived.Test.YtgjdgafoidppaaaDoorSMA3
import Derived.Test.YtgjdgafoidppaaaDoorSMA4
import Derived.Test.YtgjdgafoidppaaaDoorSTab
import Derived.Test.YtgjdgafoidppaaaDoorSDec
namespace Go.Proofs.YtgjdgafoidppaaaDoor
open Go.RowKit
set_option linter.unusedVariables false
set_option linter.unusedSimpArgs false
set_option linter.unnecessarySimpa false
set_option maxRecDepth 100000 in
set_option maxHeartbeats 8000000 in
theorem mayAct_off (xk : Int) (hk : xk < 1 ∨ 10 < xk) (xn xm xOk xOv xOt xOs xOa xOc : Int) (xOD xP : Option Addr) (xOn xOq xpn xpq : Nat) (xf : Bool) (lx : List UInt8) (px : List Int) (w : World) (hx : lx.length = xOn) (hn : xOn ≤ 9223372036854775807) (h1 : Row bv w xOD lx) (hpx : px.length = xpn) (hpn : xpn ≤ 9223372036854775807) (h3 : Row (Value.int .i64) w xP px) : Calls Tryd.prog 22 #[(Value.agg #[.int .i64 xk, .int .i64 xn, .int .i64 xm, .int .i64 xOk, .int .u64 xOv, .int .u64 xOt, .int .i64 xOs, .int .i64 xOa, .int .i64 xOc, .slice xOD xOn xOq, .bool xf, .slice xP xpn xpq])] w fun e w' => e = .returned (.bool (mayActB xk xn xm xOk xOv xOt xOs xOa xOc xf xOn xpn lx px)) ∧ Gr w w' := by
  have en : actPartsB xk = ⟨#[]⟩ := by
    by_cases h0 : xk = 0
    · subst h0; rfl
    · exact actPartsB_off xk (by omega)
  have E0 : mayActB xk xn xm xOk xOv xOt xOs xOa xOc xf xOn xpn lx px = false := by
    unfold mayActB
    repeat (rw [if_neg (by omega)])
  rw [E0]; clear E0
  have h7 : (xk == 7) = false := by simp; omega
  rcases hk with hk | hk
  · have h2 : decide (1 ≤ xk) = false := by simpa using hk
    cases xf
    all_goals
      go_enter Tryd.func22, Tryd.ntmps22
      go_wp2_with (go_at_call 49; ((with_reducible refine (actPartsB_any _ _).mono ?_); rintro _ _ ⟨rfl, g, rfl⟩))
      refine wp_loop_rounds 1 ?_
      rw [rounds_succ]
      go_wp2_with (go_at_call 49; ((with_reducible refine (actPartsB_any _ _).mono ?_); rintro _ _ ⟨rfl, g, rfl⟩))
      go_ret
      exact ⟨rfl, by (refine Gr.of ?_; repeat (first | with_reducible exact Below.refl _ _ | with_reducible apply below_alloc | with_reducible refine below_set' ?_ _ | with_reducible refine below_trans ?_ (grown_below _ _) | with_reducible refine below_iter' ?_ _ _ | with_reducible apply Below.drew | with_reducible refine below_trans ?_ (by assumption)))⟩
  · have h2 : decide (xk ≤ 10) = false := by simpa using hk
    have h3 : 1 ≤ xk := by omega
    cases xf
    all_goals
      go_enter Tryd.func22, Tryd.ntmps22
      go_wp2_with (go_at_call 49; ((with_reducible refine (actPartsB_any _ _).mono ?_); rintro _ _ ⟨rfl, g, rfl⟩))
      refine wp_loop_rounds 1 ?_
      rw [rounds_succ]
      go_wp2_with (go_at_call 49; ((with_reducible refine (actPartsB_any _ _).mono ?_); rintro _ _ ⟨rfl, g, rfl⟩))
      go_ret
      exact ⟨rfl, by (refine Gr.of ?_; repeat (first | with_reducible exact Below.refl _ _ | with_reducible apply below_alloc | with_reducible refine below_set' ?_ _ | with_reducible refine below_trans ?_ (grown_below _ _) | with_reducible refine below_iter' ?_ _ _ | with_reducible apply Below.drew | with_reducible refine below_trans ?_ (by assumption)))⟩
theorem mayAct_any (xk : Int) (xn xm xOk xOv xOt xOs xOa xOc : Int) (xOD xP : Option Addr) (xOn xOq xpn xpq : Nat) (xf : Bool) (lx : List UInt8) (px : List Int) (w : World) (hx : lx.length = xOn) (hn : xOn ≤ 9223372036854775807) (h1 : Row bv w xOD lx) (hpx : px.length = xpn) (hpn : xpn ≤ 9223372036854775807) (h3 : Row (Value.int .i64) w xP px) : Calls Tryd.prog 22 #[(Value.agg #[.int .i64 xk, .int .i64 xn, .int .i64 xm, .int .i64 xOk, .int .u64 xOv, .int .u64 xOt, .int .i64 xOs, .int .i64 xOa, .int .i64 xOc, .slice xOD xOn xOq, .bool xf, .slice xP xpn xpq])] w fun e w' => e = .returned (.bool (mayActB xk xn xm xOk xOv xOt xOs xOa xOc xf xOn xpn lx px)) ∧ Gr w w' := by
  by_cases h : xk < 1 ∨ 10 < xk
  · exact mayAct_off xk h xn xm xOk xOv xOt xOs xOa xOc xOD xP xOn xOq xpn xpq xf lx px w hx hn h1 hpx hpn h3
  · have h4 : xk = 1 ∨ xk = 2 ∨ xk = 3 ∨ xk = 4 ∨ xk = 5 ∨ xk = 6 ∨ xk = 7 ∨ xk = 8 ∨ xk = 9 ∨ xk = 10 := by omega
    rcases h4 with rfl | rfl | rfl | rfl | rfl | rfl | rfl | rfl | rfl | rfl
    · exact mayAct_1 xn xm xOk xOv xOt xOs xOa xOc xOD xP xOn xOq xpn xpq xf lx px w hx hn h1 hpx hpn h3
    · exact mayAct_2 xn xm xOk xOv xOt xOs xOa xOc xOD xP xOn xOq xpn xpq xf lx px w hx hn h1 hpx hpn h3
    · exact mayAct_3 xn xm xOk xOv xOt xOs xOa xOc xOD xP xOn xOq xpn xpq xf lx px w hx hn h1 hpx hpn h3
    · exact mayAct_4 xn xm xOk xOv xOt xOs xOa xOc xOD xP xOn xOq xpn xpq xf lx px w hx hn h1 hpx hpn h3
    · exact mayAct_5 xn xm xOk xOv xOt xOs xOa xOc xOD xP xOn xOq xpn xpq xf lx px w hx hn h1 hpx hpn h3
    · exact mayAct_6 xn xm xOk xOv xOt xOs xOa xOc xOD xP xOn xOq xpn xpq xf lx px w hx hn h1 hpx hpn h3
    · exact mayAct_7 xn xm xOk xOv xOt xOs xOa xOc xOD xP xOn xOq xpn xpq xf lx px w hx hn h1 hpx hpn h3
    · exact mayAct_8 xn xm xOk xOv xOt xOs xOa xOc xOD xP xOn xOq xpn xpq xf lx px w hx hn h1 hpx hpn h3
    · exact mayAct_9 xn xm xOk xOv xOt xOs xOa xOc xOD xP xOn xOq xpn xpq xf lx px w hx hn h1 hpx hpn h3
    · exact mayAct_10 xn xm xOk xOv xOt xOs xOa xOc xOD xP xOn xOq xpn xpq xf lx px w hx hn h1 hpx hpn h3
end Go.Proofs.YtgjdgafoidppaaaDoor
