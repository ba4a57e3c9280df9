/- script.SameAct. Conditions: what is read stands in memory. -/
import Derived.Test.YtgjdgafoidppaaaDoorSPick
import Derived.Test.YtgjdgafoidppaaaDoorSMay
namespace Go.Proofs.YtgjdgafoidppaaaDoor
open Go.RowKit
set_option linter.unusedVariables false
set_option linter.unusedSimpArgs false
set_option linter.unnecessarySimpa false
def sameActB (xk xn xm xOk xOv xOt xOs xOa xOc yk yn ym yOk yOv yOt yOs yOa yOc : Int) (xf yf : Bool) (lx ly : List UInt8) (px py : List Int) : Bool := xk == yk && xn == yn && xm == ym && sameB xOk xOv xOt xOs xOa xOc yOk yOv yOt yOs yOa yOc lx ly && xf == yf && px == py
set_option maxHeartbeats 4000000 in
theorem sameAct_any (xk xn xm xOk xOv xOt xOs xOa xOc yk yn ym yOk yOv yOt yOs yOa yOc : Int) (xOD yOD xP yP : Option Addr) (xOn xOq yOn yOq xpn xpq ypn ypq : Nat) (xf yf : Bool) (lx ly : List UInt8) (px py : List Int) (w : World) (hx : lx.length = xOn) (hy : ly.length = yOn) (hn : xOn ≤ 9223372036854775807) (h1 : Row bv w xOD lx) (h2 : Row bv w yOD ly) (hpx : px.length = xpn) (hpy : py.length = ypn) (hpn : xpn ≤ 9223372036854775807) (hqn : ypn ≤ 9223372036854775807) (h3 : Row (Value.int .i64) w xP px) (h4 : Row (Value.int .i64) w yP py) :
    Calls Tryd.prog 53 #[(Value.agg #[.int .i64 xk, .int .i64 xn, .int .i64 xm, .int .i64 xOk, .int .u64 xOv, .int .u64 xOt, .int .i64 xOs, .int .i64 xOa, .int .i64 xOc, .slice xOD xOn xOq, .bool xf, .slice xP xpn xpq]), (Value.agg #[.int .i64 yk, .int .i64 yn, .int .i64 ym, .int .i64 yOk, .int .u64 yOv, .int .u64 yOt, .int .i64 yOs, .int .i64 yOa, .int .i64 yOc, .slice yOD yOn yOq, .bool yf, .slice yP ypn ypq])] w fun e w' => e = .returned (.bool (sameActB xk xn xm xOk xOv xOt xOs xOa xOc yk yn ym yOk yOv yOt yOs yOa yOc xf yf lx ly px py)) ∧ Gr w w' := by
  have H1 := Lib.hid h1; clear h1
  have H2 := Lib.hid h2; clear h2
  have H3 := Lib.hid h3; clear h3
  have H4 := Lib.hid h4; clear h4
  have HX := Lib.hid hx; clear hx
  have HY := Lib.hid hy; clear hy
  have HPX := Lib.hid hpx; clear hpx
  have HPY := Lib.hid hpy; clear hpy
  rcases Bool.eq_false_or_eq_true (xk == yk) with k0 | k0
  rotate_left
  · go_enter Tryd.func53, Tryd.ntmps53
    go_wp2
    go_ret
    exact ⟨ret_bool (by simp [sameActB, k0]), by (refine Gr.of ?_; repeat (first | with_reducible exact Below.refl _ _ | with_reducible apply below_alloc | with_reducible refine below_set' ?_ _ | with_reducible refine below_trans ?_ (grown_below _ _) | with_reducible refine below_iter' ?_ _ _ | with_reducible apply Below.drew | with_reducible refine below_trans ?_ (by assumption)))⟩
  rcases Bool.eq_false_or_eq_true (xn == yn) with k1 | k1
  rotate_left
  · go_enter Tryd.func53, Tryd.ntmps53
    go_wp2
    go_ret
    exact ⟨ret_bool (by simp [sameActB, k1]), by (refine Gr.of ?_; repeat (first | with_reducible exact Below.refl _ _ | with_reducible apply below_alloc | with_reducible refine below_set' ?_ _ | with_reducible refine below_trans ?_ (grown_below _ _) | with_reducible refine below_iter' ?_ _ _ | with_reducible apply Below.drew | with_reducible refine below_trans ?_ (by assumption)))⟩
  rcases Bool.eq_false_or_eq_true (xm == ym) with k2 | k2
  rotate_left
  · go_enter Tryd.func53, Tryd.ntmps53
    go_wp2
    go_ret
    exact ⟨ret_bool (by simp [sameActB, k2]), by (refine Gr.of ?_; repeat (first | with_reducible exact Below.refl _ _ | with_reducible apply below_alloc | with_reducible refine below_set' ?_ _ | with_reducible refine below_trans ?_ (grown_below _ _) | with_reducible refine below_iter' ?_ _ _ | with_reducible apply Below.drew | with_reducible refine below_trans ?_ (by assumption)))⟩
  rcases Bool.eq_false_or_eq_true (sameB xOk xOv xOt xOs xOa xOc yOk yOv yOt yOs yOa yOc lx ly) with k3 | k3
  rotate_left
  · go_enter Tryd.func53, Tryd.ntmps53
    go_wp2_with (first | (go_at_call 66; ((with_reducible refine (same13_any _ _ _ _ _ _ _ _ _ _ _ _ _ _ _ _ _ _ lx ly _ HX.out HY.out hn (H1.out.gr (by (refine Gr.of ?_; repeat (first | with_reducible exact Below.refl _ _ | with_reducible apply below_alloc | with_reducible refine below_set' ?_ _ | with_reducible refine below_trans ?_ (grown_below _ _) | with_reducible refine below_iter' ?_ _ _ | with_reducible apply Below.drew | with_reducible refine below_trans ?_ (by assumption))))) (H2.out.gr (by (refine Gr.of ?_; repeat (first | with_reducible exact Below.refl _ _ | with_reducible apply below_alloc | with_reducible refine below_set' ?_ _ | with_reducible refine below_trans ?_ (grown_below _ _) | with_reducible refine below_iter' ?_ _ _ | with_reducible apply Below.drew | with_reducible refine below_trans ?_ (by assumption)))))).mono ?_); rintro _ _ ⟨rfl, g, rfl⟩)))
    go_ret
    exact ⟨ret_bool (by simp [sameActB, k3]), by (refine Gr.of ?_; repeat (first | with_reducible exact Below.refl _ _ | with_reducible apply below_alloc | with_reducible refine below_set' ?_ _ | with_reducible refine below_trans ?_ (grown_below _ _) | with_reducible refine below_iter' ?_ _ _ | with_reducible apply Below.drew | with_reducible refine below_trans ?_ (by assumption)))⟩
  cases xf <;> cases yf
  all_goals
    go_enter Tryd.func53, Tryd.ntmps53
    go_wp2_with (first | (go_at_call 66; ((with_reducible refine (same13_any _ _ _ _ _ _ _ _ _ _ _ _ _ _ _ _ _ _ lx ly _ HX.out HY.out hn (H1.out.gr (by (refine Gr.of ?_; repeat (first | with_reducible exact Below.refl _ _ | with_reducible apply below_alloc | with_reducible refine below_set' ?_ _ | with_reducible refine below_trans ?_ (grown_below _ _) | with_reducible refine below_iter' ?_ _ _ | with_reducible apply Below.drew | with_reducible refine below_trans ?_ (by assumption))))) (H2.out.gr (by (refine Gr.of ?_; repeat (first | with_reducible exact Below.refl _ _ | with_reducible apply below_alloc | with_reducible refine below_set' ?_ _ | with_reducible refine below_trans ?_ (grown_below _ _) | with_reducible refine below_iter' ?_ _ _ | with_reducible apply Below.drew | with_reducible refine below_trans ?_ (by assumption)))))).mono ?_); rintro _ _ ⟨rfl, g, rfl⟩)) | (go_at_call 76; ((with_reducible refine (equalI_any _ _ _ _ _ _ px py _ HPX.out HPY.out hpn hqn (H3.out.gr (by (refine Gr.of ?_; repeat (first | with_reducible exact Below.refl _ _ | with_reducible apply below_alloc | with_reducible refine below_set' ?_ _ | with_reducible refine below_trans ?_ (grown_below _ _) | with_reducible refine below_iter' ?_ _ _ | with_reducible apply Below.drew | with_reducible refine below_trans ?_ (by assumption))))) (H4.out.gr (by (refine Gr.of ?_; repeat (first | with_reducible exact Below.refl _ _ | with_reducible apply below_alloc | with_reducible refine below_set' ?_ _ | with_reducible refine below_trans ?_ (grown_below _ _) | with_reducible refine below_iter' ?_ _ _ | with_reducible apply Below.drew | with_reducible refine below_trans ?_ (by assumption)))))).mono ?_); rintro _ _ ⟨rfl, g, rfl⟩)))
    go_ret
    exact ⟨ret_bool (by simp [sameActB, k0, k1, k2, k3]), by (refine Gr.of ?_; repeat (first | with_reducible exact Below.refl _ _ | with_reducible apply below_alloc | with_reducible refine below_set' ?_ _ | with_reducible refine below_trans ?_ (grown_below _ _) | with_reducible refine below_iter' ?_ _ _ | with_reducible apply Below.drew | with_reducible refine below_trans ?_ (by assumption)))⟩
end Go.Proofs.YtgjdgafoidppaaaDoor
