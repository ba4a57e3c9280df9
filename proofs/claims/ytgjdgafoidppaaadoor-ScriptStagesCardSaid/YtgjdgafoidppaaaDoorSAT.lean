/- script.actText, script.ActText. Conditions: what is read stands in memory; strconv's table stands. -/
import Derived.Test.YtgjdgafoidppaaaDoorSAT1
import Derived.Test.YtgjdgafoidppaaaDoorSAT2
import Derived.Test.YtgjdgafoidppaaaDoorSMA
namespace Go.Proofs.YtgjdgafoidppaaaDoor
open Go.RowKit
set_option linter.unusedVariables false
set_option linter.unusedSimpArgs false
set_option linter.unnecessarySimpa false
def actPieces (xk xn xm xOk xOv xOt xOs xOa xOc : Int) (xf : Bool) (lx : List UInt8) (px : List Int) : List ByteArray := if xk = 1 then [⟨#[97, 115, 107]⟩, ⟨(Lib.itoa xn).toArray⟩, ⟨(opTextL xOk xOv xOt xOs xOa xOc lx).toArray⟩] else if xk = 2 then [⟨#[99, 97, 114, 114, 121]⟩, ⟨(Lib.itoa xm).toArray⟩] else if xk = 3 then [⟨#[116, 105, 99, 107]⟩, ⟨(Lib.itoa xn).toArray⟩] else if xk = 4 then [⟨#[111, 102, 102]⟩, ⟨(Lib.itoa xn).toArray⟩, ⟨(rowL (pickT px)).toArray⟩] else if xk = 5 then [⟨#[111, 110]⟩, ⟨(Lib.itoa xn).toArray⟩, ⟨(rowL (pickT px)).toArray⟩] else if xk = 6 then [⟨#[102, 117, 115, 101]⟩, ⟨(Lib.itoa xn).toArray⟩, ⟨(Lib.itoa xm).toArray⟩] else if xk = 7 then [(if xf then ⟨#[102, 111, 114, 99, 101]⟩ else ⟨#[108, 101, 97, 100]⟩), ⟨(Lib.itoa xn).toArray⟩] else if xk = 8 then [⟨#[100, 101, 103, 114, 97, 100, 101]⟩, ⟨(Lib.itoa xn).toArray⟩] else if xk = 9 then [⟨#[103, 114, 111, 119]⟩, ⟨(Lib.itoa xn).toArray⟩, ⟨(Lib.itoa xm).toArray⟩] else if xk = 10 then [⟨#[97, 108, 108]⟩] else []
def actTextL (xk xn xm xOk xOv xOt xOs xOa xOc : Int) (xf : Bool) (lx : List UInt8) (px : List Int) : List UInt8 := Lib.join ((actPieces xk xn xm xOk xOv xOt xOs xOa xOc xf lx px).map (·.data.toList)) [32]
theorem mayOpB_kind {xk xv xt xs xa xc : Int} {xn : Nat} {lx : List UInt8} (h : mayOpB xk xv xt xs xa xc xn lx = true) (hx : lx.length = xn) : 1 ≤ xk ∧ xk ≤ 9 ∧ xn ≤ 2048 := by
  have h1 : 1 ≤ xk ∧ xk ≤ 9 := by
    by_cases h2 : 1 ≤ xk ∧ xk ≤ 9
    · exact h2
    · unfold mayOpB at h
      repeat (rw [if_neg (by omega)] at h)
      cases h
  refine ⟨h1.1, h1.2, ?_⟩
  have h3 : xk = 1 ∨ xk = 2 ∨ xk = 3 ∨ xk = 4 ∨ xk = 5 ∨ xk = 6 ∨ xk = 7 ∨ xk = 8 ∨ xk = 9 := by omega
  rcases h3 with rfl | rfl | rfl | rfl | rfl | rfl | rfl | rfl | rfl
  all_goals
    simp [mayOpB, wData] at h
    first
      | omega
      | (have h4 : lx = [] := by simp [h]
         subst h4; simp at hx; omega)
theorem actText_any (xk xn xm xOk xOv xOt xOs xOa xOc : Int) (xOD xP : Option Addr) (xOn xOq xpn xpq : Nat) (xf : Bool) (lx : List UInt8) (px : List Int) (w : World) [hk : Tb w] (n0 : -9223372036854775808 ≤ xn) (n1 : xn ≤ 9223372036854775807) (m0 : -9223372036854775808 ≤ xm) (m1 : xm ≤ 9223372036854775807) (B : Bd xOv xOt xOs xOa xOc) (hx : lx.length = xOn) (hxq : xOn ≤ xOq) (h1 : Row bv w xOD lx) (hpx : px.length = xpn) (hpq : xpn ≤ xpq) (pk : Pk px) (h3 : Row (Value.int .i64) w xP px) (hm : mayActB xk xn xm xOk xOv xOt xOs xOa xOc xf xOn xpn lx px = true) : Calls Tryd.prog 45 #[(Value.agg #[.int .i64 xk, .int .i64 xn, .int .i64 xm, .int .i64 xOk, .int .u64 xOv, .int .u64 xOt, .int .i64 xOs, .int .i64 xOa, .int .i64 xOc, .slice xOD xOn xOq, .bool xf, .slice xP xpn xpq])] w fun e w' => e = .returned (.string ⟨(actTextL xk xn xm xOk xOv xOt xOs xOa xOc xf lx px).toArray⟩) ∧ Gr w w' := by
  have h4 : 1 ≤ xk ∧ xk ≤ 10 := by
    by_cases h2 : 1 ≤ xk ∧ xk ≤ 10
    · exact h2
    · unfold mayActB at hm
      repeat (rw [if_neg (by omega)] at hm)
      cases hm
  have h5 : xk = 1 ∨ xk = 2 ∨ xk = 3 ∨ xk = 4 ∨ xk = 5 ∨ xk = 6 ∨ xk = 7 ∨ xk = 8 ∨ xk = 9 ∨ xk = 10 := by omega
  rcases h5 with rfl | rfl | rfl | rfl | rfl | rfl | rfl | rfl | rfl | rfl
  · have hf : xf = false := by cases xf <;> simp_all [mayActB]
    subst hf
    have ho : mayOpB xOk xOv xOt xOs xOa xOc xOn lx = true := by simp [mayActB] at hm; simp [hm]
    obtain ⟨o1, o9, on⟩ := mayOpB_kind ho hx
    exact actText_1 xn xm xOk xOv xOt xOs xOa xOc xOD xP xOn xOq xpn xpq lx px w n0 n1 m0 m1 B o1 o9 hx hxq (by omega) h1
  · have hf : xf = false := by cases xf <;> simp_all [mayActB]
    subst hf
    exact actText_2 xn xm xOk xOv xOt xOs xOa xOc xOD xP xOn xOq xpn xpq lx px w n0 n1 m0 m1
  · have hf : xf = false := by cases xf <;> simp_all [mayActB]
    subst hf
    exact actText_3 xn xm xOk xOv xOt xOs xOa xOc xOD xP xOn xOq xpn xpq lx px w n0 n1 m0 m1
  · have hf : xf = false := by cases xf <;> simp_all [mayActB]
    subst hf
    have hp : picksB xpn px = true := by simp [mayActB] at hm; simp [hm]
    have hpn : xpn ≤ 1000 := by simp [picksB] at hp; omega
    exact actText_4 xn xm xOk xOv xOt xOs xOa xOc xOD xP xOn xOq xpn xpq lx px w n0 n1 m0 m1 hpx hpq hpn pk h3
  · have hf : xf = false := by cases xf <;> simp_all [mayActB]
    subst hf
    have hp : picksB xpn px = true := by simp [mayActB] at hm; simp [hm]
    have hpn : xpn ≤ 1000 := by simp [picksB] at hp; omega
    exact actText_5 xn xm xOk xOv xOt xOs xOa xOc xOD xP xOn xOq xpn xpq lx px w n0 n1 m0 m1 hpx hpq hpn pk h3
  · have hf : xf = false := by cases xf <;> simp_all [mayActB]
    subst hf
    exact actText_6 xn xm xOk xOv xOt xOs xOa xOc xOD xP xOn xOq xpn xpq lx px w n0 n1 m0 m1
  · cases xf
    · exact actText_7 xn xm xOk xOv xOt xOs xOa xOc xOD xP xOn xOq xpn xpq lx px w n0 n1 m0 m1
    · exact actText_7f xn xm xOk xOv xOt xOs xOa xOc xOD xP xOn xOq xpn xpq lx px w n0 n1 m0 m1
  · have hf : xf = false := by cases xf <;> simp_all [mayActB]
    subst hf
    exact actText_8 xn xm xOk xOv xOt xOs xOa xOc xOD xP xOn xOq xpn xpq lx px w n0 n1 m0 m1
  · have hf : xf = false := by cases xf <;> simp_all [mayActB]
    subst hf
    exact actText_9 xn xm xOk xOv xOt xOs xOa xOc xOD xP xOn xOq xpn xpq lx px w n0 n1 m0 m1
  · have hf : xf = false := by cases xf <;> simp_all [mayActB]
    subst hf
    exact actText_10 xn xm xOk xOv xOt xOs xOa xOc xOD xP xOn xOq xpn xpq lx px w n0 n1 m0 m1
theorem ActText_any (xk xn xm xOk xOv xOt xOs xOa xOc : Int) (xOD xP : Option Addr) (xOn xOq xpn xpq : Nat) (xf : Bool) (lx : List UInt8) (px : List Int) (w : World) [hk : Tb w] (n0 : -9223372036854775808 ≤ xn) (n1 : xn ≤ 9223372036854775807) (m0 : -9223372036854775808 ≤ xm) (m1 : xm ≤ 9223372036854775807) (B : Bd xOv xOt xOs xOa xOc) (hx : lx.length = xOn) (hxq : xOn ≤ xOq) (h1 : Row bv w xOD lx) (hpx : px.length = xpn) (hpq : xpn ≤ xpq) (pk : Pk px) (h3 : Row (Value.int .i64) w xP px) (hn9 : xOn ≤ 9223372036854775807) (hp9 : xpn ≤ 9223372036854775807) : Calls Tryd.prog 26 #[(Value.agg #[.int .i64 xk, .int .i64 xn, .int .i64 xm, .int .i64 xOk, .int .u64 xOv, .int .u64 xOt, .int .i64 xOs, .int .i64 xOa, .int .i64 xOc, .slice xOD xOn xOq, .bool xf, .slice xP xpn xpq])] w fun e w' => e = .returned (.tuple #[.string ⟨(if mayActB xk xn xm xOk xOv xOt xOs xOa xOc xf xOn xpn lx px then actTextL xk xn xm xOk xOv xOt xOs xOa xOc xf lx px else []).toArray⟩, .int .i64 (if mayActB xk xn xm xOk xOv xOt xOs xOa xOc xf xOn xpn lx px then 0 else 2)]) ∧ Gr w w' := by
  have HM := Lib.hid (fun W (g1 : Row bv W xOD lx) (g3 : Row (Value.int .i64) W xP px) => mayAct_any xk xn xm xOk xOv xOt xOs xOa xOc xOD xP xOn xOq xpn xpq xf lx px W hx hn9 g1 hpx hp9 g3)
  rcases Bool.eq_false_or_eq_true (mayActB xk xn xm xOk xOv xOt xOs xOa xOc xf xOn xpn lx px) with hm | hm
  · have HT := Lib.hid (fun W (_ : Tb W) (g1 : Row bv W xOD lx) (g3 : Row (Value.int .i64) W xP px) => actText_any xk xn xm xOk xOv xOt xOs xOa xOc xOD xP xOn xOq xpn xpq xf lx px W n0 n1 m0 m1 B hx hxq g1 hpx hpq pk g3 hm)
    have H1 := Lib.hid h1; clear h1
    have H3 := Lib.hid h3; clear h3
    have HX := Lib.hid hx; clear hx
    have HPX := Lib.hid hpx; clear hpx
    simp only [hm, if_true]
    go_enter Tryd.func26, Tryd.ntmps26
    go_wp2_with (first | (go_at_call 22; ((with_reducible refine (HM.out _ (H1.out.gr (by (refine Gr.of ?_; repeat (first | with_reducible exact Below.refl _ _ | with_reducible apply below_alloc | with_reducible refine below_set' ?_ _ | with_reducible refine below_trans ?_ (grown_below _ _) | with_reducible refine below_iter' ?_ _ _ | with_reducible apply Below.drew | with_reducible refine below_trans ?_ (by assumption))))) (H3.out.gr (by (refine Gr.of ?_; repeat (first | with_reducible exact Below.refl _ _ | with_reducible apply below_alloc | with_reducible refine below_set' ?_ _ | with_reducible refine below_trans ?_ (grown_below _ _) | with_reducible refine below_iter' ?_ _ _ | with_reducible apply Below.drew | with_reducible refine below_trans ?_ (by assumption)))))).mono ?_); rintro _ _ ⟨rfl, g, rfl⟩)) | (go_at_call 45; ((with_reducible refine (HT.out _ inferInstance (H1.out.gr (by (refine Gr.of ?_; repeat (first | with_reducible exact Below.refl _ _ | with_reducible apply below_alloc | with_reducible refine below_set' ?_ _ | with_reducible refine below_trans ?_ (grown_below _ _) | with_reducible refine below_iter' ?_ _ _ | with_reducible apply Below.drew | with_reducible refine below_trans ?_ (by assumption))))) (H3.out.gr (by (refine Gr.of ?_; repeat (first | with_reducible exact Below.refl _ _ | with_reducible apply below_alloc | with_reducible refine below_set' ?_ _ | with_reducible refine below_trans ?_ (grown_below _ _) | with_reducible refine below_iter' ?_ _ _ | with_reducible apply Below.drew | with_reducible refine below_trans ?_ (by assumption)))))).mono ?_); rintro _ _ ⟨rfl, g, rfl⟩)))
    go_ret2
    exact ⟨rfl, by (refine Gr.of ?_; repeat (first | with_reducible exact Below.refl _ _ | with_reducible apply below_alloc | with_reducible refine below_set' ?_ _ | with_reducible refine below_trans ?_ (grown_below _ _) | with_reducible refine below_iter' ?_ _ _ | with_reducible apply Below.drew | with_reducible refine below_trans ?_ (by assumption)))⟩
  · have H1 := Lib.hid h1; clear h1
    have H3 := Lib.hid h3; clear h3
    have HX := Lib.hid hx; clear hx
    have HPX := Lib.hid hpx; clear hpx
    simp only [hm, Bool.false_eq_true, if_false]
    go_enter Tryd.func26, Tryd.ntmps26
    go_wp2_with (first | (go_at_call 22; ((with_reducible refine (HM.out _ (H1.out.gr (by (refine Gr.of ?_; repeat (first | with_reducible exact Below.refl _ _ | with_reducible apply below_alloc | with_reducible refine below_set' ?_ _ | with_reducible refine below_trans ?_ (grown_below _ _) | with_reducible refine below_iter' ?_ _ _ | with_reducible apply Below.drew | with_reducible refine below_trans ?_ (by assumption))))) (H3.out.gr (by (refine Gr.of ?_; repeat (first | with_reducible exact Below.refl _ _ | with_reducible apply below_alloc | with_reducible refine below_set' ?_ _ | with_reducible refine below_trans ?_ (grown_below _ _) | with_reducible refine below_iter' ?_ _ _ | with_reducible apply Below.drew | with_reducible refine below_trans ?_ (by assumption)))))).mono ?_); rintro _ _ ⟨rfl, g, rfl⟩)))
    go_ret2
    exact ⟨rfl, by (refine Gr.of ?_; repeat (first | with_reducible exact Below.refl _ _ | with_reducible apply below_alloc | with_reducible refine below_set' ?_ _ | with_reducible refine below_trans ?_ (grown_below _ _) | with_reducible refine below_iter' ?_ _ _ | with_reducible apply Below.drew | with_reducible refine below_trans ?_ (by assumption)))⟩
end Go.Proofs.YtgjdgafoidppaaaDoor
