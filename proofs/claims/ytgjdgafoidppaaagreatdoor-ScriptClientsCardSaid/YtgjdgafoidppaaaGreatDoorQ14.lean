/- script.MayAct (all kinds). Conditions: what is read stands in memory. script.actText, script.ActText. Conditions: what is read stands in memory; strconv's table stands. An operation's text, cut and read again. Plain Lean, no program in sight. script.OpOf: the operation of a text. Conditions: a text of at most 200000 bytes; the tables stand. The reference's Hex, digit, Unhex, row, DataText, data. Conditions: what is read stands in memory; at most 10^6 bytes. The reference's DataText. Conditions: what is read stands in memory; at most 60000 bytes. The reference's digit, Unhex. Conditions: a text of at most 10^6 bytes. The reference's place, Kinds. Conditions: the words stand in memory. -/
import Derived.Test.YtgjdgafoidppaaaGreatDoorQ12
import Derived.Test.YtgjdgafoidppaaaGreatDoorQ13
import Derived.Test.YtgjdgafoidppaaaGreatDoorQ04
import Derived.Test.YtgjdgafoidppaaaGreatDoorQ03
import Derived.Test.YtgjdgafoidppaaaGreatDoorQ09
import Derived.Test.YtgjdgafoidppaaaGreatDoorQ10
namespace Go.Proofs.YtgjdgafoidppaaaGreatDoor
open Go.RowKit
set_option linter.unusedVariables false
set_option linter.unusedSimpArgs false
set_option linter.unnecessarySimpa false
set_option maxRecDepth 100000 in
set_option maxHeartbeats 8000000 in
theorem mayAct_off (xk : Int) (hk : xk < 1 ∨ 10 < xk) (xn xm xOk xOv xOt xOs xOa xOc : Int) (xOD xP : Option Addr) (xOn xOq xpn xpq : Nat) (xf : Bool) (lx : List UInt8) (px : List Int) (w : World) (hx : lx.length = xOn) (hn : xOn ≤ 9223372036854775807) (h1 : Row bv w xOD lx) (hpx : px.length = xpn) (hpn : xpn ≤ 9223372036854775807) (h3 : Row (Value.int .i64) w xP px) : Calls Tryz.prog 22 #[(Value.agg #[.int .i64 xk, .int .i64 xn, .int .i64 xm, .int .i64 xOk, .int .u64 xOv, .int .u64 xOt, .int .i64 xOs, .int .i64 xOa, .int .i64 xOc, .slice xOD xOn xOq, .bool xf, .slice xP xpn xpq])] w fun e w' => e = .returned (.bool (mayActB xk xn xm xOk xOv xOt xOs xOa xOc xf xOn xpn lx px)) ∧ Gr w w' := by
  have en : actPartsB xk = ⟨#[]⟩ := by
    by_cases h0 : xk = 0
    · subst h0; rfl
    · exact actPartsB_off xk (by omega)
  have E0 : mayActB xk xn xm xOk xOv xOt xOs xOa xOc xf xOn xpn lx px = false := by
    unfold mayActB
    repeat (rw [if_neg (by omega)])
  rw [E0]; clear E0
  have h7 : (xk == 7) = false := by simp; omega
  rcases hk with hk | hk
  · have h2 : decide (1 ≤ xk) = false := by simpa using hk
    cases xf
    all_goals
      go_enter Tryz.func22, Tryz.ntmps22
      go_wp2_with (go_at_call 52; ((with_reducible refine (actPartsB_any _ _).mono ?_); rintro _ _ ⟨rfl, g, rfl⟩))
      refine wp_loop_rounds 1 ?_
      rw [rounds_succ]
      go_wp2_with (go_at_call 52; ((with_reducible refine (actPartsB_any _ _).mono ?_); rintro _ _ ⟨rfl, g, rfl⟩))
      go_ret
      exact ⟨rfl, gri⟩
  · have h2 : decide (xk ≤ 10) = false := by simpa using hk
    have h3 : 1 ≤ xk := by omega
    cases xf
    all_goals
      go_enter Tryz.func22, Tryz.ntmps22
      go_wp2_with (go_at_call 52; ((with_reducible refine (actPartsB_any _ _).mono ?_); rintro _ _ ⟨rfl, g, rfl⟩))
      refine wp_loop_rounds 1 ?_
      rw [rounds_succ]
      go_wp2_with (go_at_call 52; ((with_reducible refine (actPartsB_any _ _).mono ?_); rintro _ _ ⟨rfl, g, rfl⟩))
      go_ret
      exact ⟨rfl, gri⟩
theorem mayAct_any (xk : Int) (xn xm xOk xOv xOt xOs xOa xOc : Int) (xOD xP : Option Addr) (xOn xOq xpn xpq : Nat) (xf : Bool) (lx : List UInt8) (px : List Int) (w : World) (hx : lx.length = xOn) (hn : xOn ≤ 9223372036854775807) (h1 : Row bv w xOD lx) (hpx : px.length = xpn) (hpn : xpn ≤ 9223372036854775807) (h3 : Row (Value.int .i64) w xP px) : Calls Tryz.prog 22 #[(Value.agg #[.int .i64 xk, .int .i64 xn, .int .i64 xm, .int .i64 xOk, .int .u64 xOv, .int .u64 xOt, .int .i64 xOs, .int .i64 xOa, .int .i64 xOc, .slice xOD xOn xOq, .bool xf, .slice xP xpn xpq])] w fun e w' => e = .returned (.bool (mayActB xk xn xm xOk xOv xOt xOs xOa xOc xf xOn xpn lx px)) ∧ Gr w w' := by
  by_cases h : xk < 1 ∨ 10 < xk
  · exact mayAct_off xk h xn xm xOk xOv xOt xOs xOa xOc xOD xP xOn xOq xpn xpq xf lx px w hx hn h1 hpx hpn h3
  · have h4 : xk = 1 ∨ xk = 2 ∨ xk = 3 ∨ xk = 4 ∨ xk = 5 ∨ xk = 6 ∨ xk = 7 ∨ xk = 8 ∨ xk = 9 ∨ xk = 10 := by omega
    rcases h4 with rfl | rfl | rfl | rfl | rfl | rfl | rfl | rfl | rfl | rfl
    · exact mayAct_1 xn xm xOk xOv xOt xOs xOa xOc xOD xP xOn xOq xpn xpq xf lx px w hx hn h1 hpx hpn h3
    · exact mayAct_2 xn xm xOk xOv xOt xOs xOa xOc xOD xP xOn xOq xpn xpq xf lx px w hx hn h1 hpx hpn h3
    · exact mayAct_3 xn xm xOk xOv xOt xOs xOa xOc xOD xP xOn xOq xpn xpq xf lx px w hx hn h1 hpx hpn h3
    · exact mayAct_4 xn xm xOk xOv xOt xOs xOa xOc xOD xP xOn xOq xpn xpq xf lx px w hx hn h1 hpx hpn h3
    · exact mayAct_5 xn xm xOk xOv xOt xOs xOa xOc xOD xP xOn xOq xpn xpq xf lx px w hx hn h1 hpx hpn h3
    · exact mayAct_6 xn xm xOk xOv xOt xOs xOa xOc xOD xP xOn xOq xpn xpq xf lx px w hx hn h1 hpx hpn h3
    · exact mayAct_7 xn xm xOk xOv xOt xOs xOa xOc xOD xP xOn xOq xpn xpq xf lx px w hx hn h1 hpx hpn h3
    · exact mayAct_8 xn xm xOk xOv xOt xOs xOa xOc xOD xP xOn xOq xpn xpq xf lx px w hx hn h1 hpx hpn h3
    · exact mayAct_9 xn xm xOk xOv xOt xOs xOa xOc xOD xP xOn xOq xpn xpq xf lx px w hx hn h1 hpx hpn h3
    · exact mayAct_10 xn xm xOk xOv xOt xOs xOa xOc xOD xP xOn xOq xpn xpq xf lx px w hx hn h1 hpx hpn h3
end Go.Proofs.YtgjdgafoidppaaaGreatDoor
namespace Go.Proofs.YtgjdgafoidppaaaGreatDoor
open Go.RowKit
set_option linter.unusedVariables false
set_option linter.unusedSimpArgs false
set_option linter.unnecessarySimpa false
def actPieces (xk xn xm xOk xOv xOt xOs xOa xOc : Int) (xf : Bool) (lx : List UInt8) (px : List Int) : List ByteArray := if xk = 1 then [⟨#[97, 115, 107]⟩, ⟨(Lib.itoa xn).toArray⟩, ⟨(opTextL xOk xOv xOt xOs xOa xOc lx).toArray⟩] else if xk = 2 then [⟨#[99, 97, 114, 114, 121]⟩, ⟨(Lib.itoa xm).toArray⟩] else if xk = 3 then [⟨#[116, 105, 99, 107]⟩, ⟨(Lib.itoa xn).toArray⟩] else if xk = 4 then [⟨#[111, 102, 102]⟩, ⟨(Lib.itoa xn).toArray⟩, ⟨(rowL (pickT px)).toArray⟩] else if xk = 5 then [⟨#[111, 110]⟩, ⟨(Lib.itoa xn).toArray⟩, ⟨(rowL (pickT px)).toArray⟩] else if xk = 6 then [⟨#[102, 117, 115, 101]⟩, ⟨(Lib.itoa xn).toArray⟩, ⟨(Lib.itoa xm).toArray⟩] else if xk = 7 then [(if xf then ⟨#[102, 111, 114, 99, 101]⟩ else ⟨#[108, 101, 97, 100]⟩), ⟨(Lib.itoa xn).toArray⟩] else if xk = 8 then [⟨#[100, 101, 103, 114, 97, 100, 101]⟩, ⟨(Lib.itoa xn).toArray⟩] else if xk = 9 then [⟨#[103, 114, 111, 119]⟩, ⟨(Lib.itoa xn).toArray⟩, ⟨(Lib.itoa xm).toArray⟩] else if xk = 10 then [⟨#[97, 108, 108]⟩] else []
def actTextL (xk xn xm xOk xOv xOt xOs xOa xOc : Int) (xf : Bool) (lx : List UInt8) (px : List Int) : List UInt8 := Lib.join ((actPieces xk xn xm xOk xOv xOt xOs xOa xOc xf lx px).map (·.data.toList)) [32]
theorem mayOpB_kind {xk xv xt xs xa xc : Int} {xn : Nat} {lx : List UInt8} (h : mayOpB xk xv xt xs xa xc xn lx = true) (hx : lx.length = xn) : 1 ≤ xk ∧ xk ≤ 9 ∧ xn ≤ 2048 := by
  have h1 : 1 ≤ xk ∧ xk ≤ 9 := by
    by_cases h2 : 1 ≤ xk ∧ xk ≤ 9
    · exact h2
    · unfold mayOpB at h
      repeat (rw [if_neg (by omega)] at h)
      cases h
  refine ⟨h1.1, h1.2, ?_⟩
  have h3 : xk = 1 ∨ xk = 2 ∨ xk = 3 ∨ xk = 4 ∨ xk = 5 ∨ xk = 6 ∨ xk = 7 ∨ xk = 8 ∨ xk = 9 := by omega
  rcases h3 with rfl | rfl | rfl | rfl | rfl | rfl | rfl | rfl | rfl
  all_goals
    simp [mayOpB, wData] at h
    first
      | omega
      | (have h4 : lx = [] := by simp [h]
         subst h4; simp at hx; omega)
theorem actText_any (xk xn xm xOk xOv xOt xOs xOa xOc : Int) (xOD xP : Option Addr) (xOn xOq xpn xpq : Nat) (xf : Bool) (lx : List UInt8) (px : List Int) (w : World) [hk : Tb w] (n0 : -9223372036854775808 ≤ xn) (n1 : xn ≤ 9223372036854775807) (m0 : -9223372036854775808 ≤ xm) (m1 : xm ≤ 9223372036854775807) (B : Bd xOv xOt xOs xOa xOc) (hx : lx.length = xOn) (hxq : xOn ≤ xOq) (h1 : Row bv w xOD lx) (hpx : px.length = xpn) (hpq : xpn ≤ xpq) (pk : Pk px) (h3 : Row (Value.int .i64) w xP px) (hm : mayActB xk xn xm xOk xOv xOt xOs xOa xOc xf xOn xpn lx px = true) : Calls Tryz.prog 42 #[(Value.agg #[.int .i64 xk, .int .i64 xn, .int .i64 xm, .int .i64 xOk, .int .u64 xOv, .int .u64 xOt, .int .i64 xOs, .int .i64 xOa, .int .i64 xOc, .slice xOD xOn xOq, .bool xf, .slice xP xpn xpq])] w fun e w' => e = .returned (.string ⟨(actTextL xk xn xm xOk xOv xOt xOs xOa xOc xf lx px).toArray⟩) ∧ Gr w w' := by
  have h4 : 1 ≤ xk ∧ xk ≤ 10 := by
    by_cases h2 : 1 ≤ xk ∧ xk ≤ 10
    · exact h2
    · unfold mayActB at hm
      repeat (rw [if_neg (by omega)] at hm)
      cases hm
  have h5 : xk = 1 ∨ xk = 2 ∨ xk = 3 ∨ xk = 4 ∨ xk = 5 ∨ xk = 6 ∨ xk = 7 ∨ xk = 8 ∨ xk = 9 ∨ xk = 10 := by omega
  rcases h5 with rfl | rfl | rfl | rfl | rfl | rfl | rfl | rfl | rfl | rfl
  · have hf : xf = false := by cases xf <;> simp_all [mayActB]
    subst hf
    have ho : mayOpB xOk xOv xOt xOs xOa xOc xOn lx = true := by simp [mayActB] at hm; simp [hm]
    obtain ⟨o1, o9, on⟩ := mayOpB_kind ho hx
    exact actText_1 xn xm xOk xOv xOt xOs xOa xOc xOD xP xOn xOq xpn xpq lx px w n0 n1 m0 m1 B o1 o9 hx hxq (by omega) h1
  · have hf : xf = false := by cases xf <;> simp_all [mayActB]
    subst hf
    exact actText_2 xn xm xOk xOv xOt xOs xOa xOc xOD xP xOn xOq xpn xpq lx px w n0 n1 m0 m1
  · have hf : xf = false := by cases xf <;> simp_all [mayActB]
    subst hf
    exact actText_3 xn xm xOk xOv xOt xOs xOa xOc xOD xP xOn xOq xpn xpq lx px w n0 n1 m0 m1
  · have hf : xf = false := by cases xf <;> simp_all [mayActB]
    subst hf
    have hp : picksB xpn px = true := by simp [mayActB] at hm; simp [hm]
    have hpn : xpn ≤ 1000 := by simp [picksB] at hp; omega
    exact actText_4 xn xm xOk xOv xOt xOs xOa xOc xOD xP xOn xOq xpn xpq lx px w n0 n1 m0 m1 hpx hpq hpn pk h3
  · have hf : xf = false := by cases xf <;> simp_all [mayActB]
    subst hf
    have hp : picksB xpn px = true := by simp [mayActB] at hm; simp [hm]
    have hpn : xpn ≤ 1000 := by simp [picksB] at hp; omega
    exact actText_5 xn xm xOk xOv xOt xOs xOa xOc xOD xP xOn xOq xpn xpq lx px w n0 n1 m0 m1 hpx hpq hpn pk h3
  · have hf : xf = false := by cases xf <;> simp_all [mayActB]
    subst hf
    exact actText_6 xn xm xOk xOv xOt xOs xOa xOc xOD xP xOn xOq xpn xpq lx px w n0 n1 m0 m1
  · cases xf
    · exact actText_7 xn xm xOk xOv xOt xOs xOa xOc xOD xP xOn xOq xpn xpq lx px w n0 n1 m0 m1
    · exact actText_7f xn xm xOk xOv xOt xOs xOa xOc xOD xP xOn xOq xpn xpq lx px w n0 n1 m0 m1
  · have hf : xf = false := by cases xf <;> simp_all [mayActB]
    subst hf
    exact actText_8 xn xm xOk xOv xOt xOs xOa xOc xOD xP xOn xOq xpn xpq lx px w n0 n1 m0 m1
  · have hf : xf = false := by cases xf <;> simp_all [mayActB]
    subst hf
    exact actText_9 xn xm xOk xOv xOt xOs xOa xOc xOD xP xOn xOq xpn xpq lx px w n0 n1 m0 m1
  · have hf : xf = false := by cases xf <;> simp_all [mayActB]
    subst hf
    exact actText_10 xn xm xOk xOv xOt xOs xOa xOc xOD xP xOn xOq xpn xpq lx px w n0 n1 m0 m1
theorem ActText_any (xk xn xm xOk xOv xOt xOs xOa xOc : Int) (xOD xP : Option Addr) (xOn xOq xpn xpq : Nat) (xf : Bool) (lx : List UInt8) (px : List Int) (w : World) [hk : Tb w] (n0 : -9223372036854775808 ≤ xn) (n1 : xn ≤ 9223372036854775807) (m0 : -9223372036854775808 ≤ xm) (m1 : xm ≤ 9223372036854775807) (B : Bd xOv xOt xOs xOa xOc) (hx : lx.length = xOn) (hxq : xOn ≤ xOq) (h1 : Row bv w xOD lx) (hpx : px.length = xpn) (hpq : xpn ≤ xpq) (pk : Pk px) (h3 : Row (Value.int .i64) w xP px) (hn9 : xOn ≤ 9223372036854775807) (hp9 : xpn ≤ 9223372036854775807) : Calls Tryz.prog 15 #[(Value.agg #[.int .i64 xk, .int .i64 xn, .int .i64 xm, .int .i64 xOk, .int .u64 xOv, .int .u64 xOt, .int .i64 xOs, .int .i64 xOa, .int .i64 xOc, .slice xOD xOn xOq, .bool xf, .slice xP xpn xpq])] w fun e w' => e = .returned (.tuple #[.string ⟨(if mayActB xk xn xm xOk xOv xOt xOs xOa xOc xf xOn xpn lx px then actTextL xk xn xm xOk xOv xOt xOs xOa xOc xf lx px else []).toArray⟩, .int .i64 (if mayActB xk xn xm xOk xOv xOt xOs xOa xOc xf xOn xpn lx px then 0 else 2)]) ∧ Gr w w' := by
  have HM := Lib.hid (fun W (g1 : Row bv W xOD lx) (g3 : Row (Value.int .i64) W xP px) => mayAct_any xk xn xm xOk xOv xOt xOs xOa xOc xOD xP xOn xOq xpn xpq xf lx px W hx hn9 g1 hpx hp9 g3)
  rcases Bool.eq_false_or_eq_true (mayActB xk xn xm xOk xOv xOt xOs xOa xOc xf xOn xpn lx px) with hm | hm
  · have HT := Lib.hid (fun W (_ : Tb W) (g1 : Row bv W xOD lx) (g3 : Row (Value.int .i64) W xP px) => actText_any xk xn xm xOk xOv xOt xOs xOa xOc xOD xP xOn xOq xpn xpq xf lx px W n0 n1 m0 m1 B hx hxq g1 hpx hpq pk g3 hm)
    have H1 := Lib.hid h1; clear h1
    have H3 := Lib.hid h3; clear h3
    have HX := Lib.hid hx; clear hx
    have HPX := Lib.hid hpx; clear hpx
    simp only [hm, if_true]
    go_enter Tryz.func15, Tryz.ntmps15
    go_wp2_with (first | (go_at_call 22; ((with_reducible refine (HM.out _ (H1.out.gr (gri)) (H3.out.gr (gri))).mono ?_); rintro _ _ ⟨rfl, g, rfl⟩)) | (go_at_call 42; ((with_reducible refine (HT.out _ inferInstance (H1.out.gr (gri)) (H3.out.gr (gri))).mono ?_); rintro _ _ ⟨rfl, g, rfl⟩)))
    go_ret2
    exact ⟨rfl, gri⟩
  · have H1 := Lib.hid h1; clear h1
    have H3 := Lib.hid h3; clear h3
    have HX := Lib.hid hx; clear hx
    have HPX := Lib.hid hpx; clear hpx
    simp only [hm, Bool.false_eq_true, if_false]
    go_enter Tryz.func15, Tryz.ntmps15
    go_wp2_with (first | (go_at_call 22; ((with_reducible refine (HM.out _ (H1.out.gr (gri)) (H3.out.gr (gri))).mono ?_); rintro _ _ ⟨rfl, g, rfl⟩)))
    go_ret2
    exact ⟨rfl, gri⟩
end Go.Proofs.YtgjdgafoidppaaaGreatDoor
namespace Go.Proofs.YtgjdgafoidppaaaGreatDoor
set_option linter.unusedVariables false
set_option linter.unusedSimpArgs false
set_option linter.unnecessarySimpa false
theorem dec_no32 (n : Nat) : (32 : UInt8) ∉ Lib.decDigits n := by
  have := itoa_no32 (n : Int) (by omega)
  rwa [Lib.itoa_nonneg] at this
theorem num_back (n most : Nat) (h : n ≤ most) : decV (Lib.decDigits n) most = n ∧ (!decOk (Lib.decDigits n) most) = false := ⟨decV_digits n most h, by rw [decOk_digits n most h]; rfl⟩
def OpV.may (o : OpV) : Bool := mayOpB o.k o.v o.t o.s o.a o.c o.d.length o.d
def OpV.text (o : OpV) : List UInt8 := opTextL o.k o.v o.t o.s o.a o.c o.d
theorem opRound_1 (v t s a c : Int) (d : List UInt8) (x : ByteArray) (h : mayOpB 1 v t s a c d.length d = true) (hx : opTextL 1 v t s a c d = x.data.toList) :
    kOf (hdW (wordsB 32 x)) = 1 ∧ opValK 1 (wordsB 32 x) = ⟨1, v, t, s, a, c, d⟩ ∧ opBadK 1 (wordsB 32 x) false = false ∧ (wordsB 32 x).drop (opLenK 1) = [] := by
  have E0 : mayOpB 1 v t s a c d.length d = (wVol v && wSize s && (t == 0) && (a == 0) && (c == 0) && (d == [])) := rfl
  rw [E0] at h
  simp only [Bool.and_eq_true, beq_iff_eq, wVol, wTo, wSize, wAt, wCount, wData, decide_eq_true_eq, bne_iff_ne] at h
  have hp : opPieces 1 v t s a c d = [⟨#[99, 114, 101, 97, 116, 101]⟩, ⟨(Lib.decDigits v.toNat).toArray⟩, ⟨(Lib.itoa s).toArray⟩] := rfl
  obtain ⟨v, rfl⟩ := Int.eq_ofNat_of_zero_le (show 0 ≤ v by omega)
  obtain ⟨s, rfl⟩ := Int.eq_ofNat_of_zero_le (show 0 ≤ s by omega)
  have ht : t = 0 := by first | omega | simp_all
  subst ht
  have ha : a = 0 := by first | omega | simp_all
  subst ha
  have hc : c = 0 := by first | omega | simp_all
  subst hc
  have hd : d = [] := by simp_all
  subst hd
  have hw : wordsB 32 x = [⟨#[99, 114, 101, 97, 116, 101]⟩, ⟨(Lib.decDigits (v : Int).toNat).toArray⟩, ⟨(Lib.itoa (s : Int)).toArray⟩] := by
    have h1 : cutL 32 x.data.toList = ([⟨#[99, 114, 101, 97, 116, 101]⟩, ⟨(Lib.decDigits (v : Int).toNat).toArray⟩, ⟨(Lib.itoa (s : Int)).toArray⟩] : List ByteArray).map (·.data.toList) := by
      rw [← hx, opTextL, hp]
      refine cutL_join 32 _ (by simp) (fun y hy => ?_)
      simp only [List.map_cons, List.map_nil, List.mem_cons, List.mem_nil_iff, or_false] at hy
      rcases hy with rfl | rfl | rfl
      · decide
      · exact dec_no32 _
      · exact itoa_no32 _ (by omega)
    rw [wordsB, h1, List.map_map]
    simp [Function.comp_def]
  rw [hw]
  have nv := num_back v 4294967295 (by omega)
  have ns := num_back s 256 (by omega)
  refine ⟨(show kOf ⟨#[99, 114, 101, 97, 116, 101]⟩ = 1 by decide), ?_, ?_, rfl⟩
  · show (⟨1, ((decV (Lib.decDigits ((v : Nat) : Int).toNat) 4294967295 : Nat) : Int), 0, ((decV (Lib.itoa ((s : Nat) : Int)) 256 : Nat) : Int), 0, 0, []⟩ : OpV) = ⟨1, ((v : Nat) : Int), 0, ((s : Nat) : Int), 0, 0, []⟩
    simp only [Int.toNat_natCast, Lib.itoa_nonneg, nv.1, ns.1]
  · show (((false || false) || !decOk (Lib.decDigits ((v : Nat) : Int).toNat) 4294967295) || !decOk (Lib.itoa ((s : Nat) : Int)) 256) = false
    simp only [Int.toNat_natCast, Lib.itoa_nonneg, nv.2, ns.2, Bool.or_false]
theorem opRound_2 (v t s a c : Int) (d : List UInt8) (x : ByteArray) (h : mayOpB 2 v t s a c d.length d = true) (hx : opTextL 2 v t s a c d = x.data.toList) :
    kOf (hdW (wordsB 32 x)) = 2 ∧ opValK 2 (wordsB 32 x) = ⟨2, v, t, s, a, c, d⟩ ∧ opBadK 2 (wordsB 32 x) false = false ∧ (wordsB 32 x).drop (opLenK 2) = [] := by
  have E0 : mayOpB 2 v t s a c d.length d = (wVol v && (t == 0) && (s == 0) && (a == 0) && (c == 0) && (d == [])) := rfl
  rw [E0] at h
  simp only [Bool.and_eq_true, beq_iff_eq, wVol, wTo, wSize, wAt, wCount, wData, decide_eq_true_eq, bne_iff_ne] at h
  have hp : opPieces 2 v t s a c d = [⟨#[100, 101, 108, 101, 116, 101]⟩, ⟨(Lib.decDigits v.toNat).toArray⟩] := rfl
  obtain ⟨v, rfl⟩ := Int.eq_ofNat_of_zero_le (show 0 ≤ v by omega)
  have ht : t = 0 := by first | omega | simp_all
  subst ht
  have hs : s = 0 := by first | omega | simp_all
  subst hs
  have ha : a = 0 := by first | omega | simp_all
  subst ha
  have hc : c = 0 := by first | omega | simp_all
  subst hc
  have hd : d = [] := by simp_all
  subst hd
  have hw : wordsB 32 x = [⟨#[100, 101, 108, 101, 116, 101]⟩, ⟨(Lib.decDigits (v : Int).toNat).toArray⟩] := by
    have h1 : cutL 32 x.data.toList = ([⟨#[100, 101, 108, 101, 116, 101]⟩, ⟨(Lib.decDigits (v : Int).toNat).toArray⟩] : List ByteArray).map (·.data.toList) := by
      rw [← hx, opTextL, hp]
      refine cutL_join 32 _ (by simp) (fun y hy => ?_)
      simp only [List.map_cons, List.map_nil, List.mem_cons, List.mem_nil_iff, or_false] at hy
      rcases hy with rfl | rfl
      · decide
      · exact dec_no32 _
    rw [wordsB, h1, List.map_map]
    simp [Function.comp_def]
  rw [hw]
  have nv := num_back v 4294967295 (by omega)
  refine ⟨(show kOf ⟨#[100, 101, 108, 101, 116, 101]⟩ = 2 by decide), ?_, ?_, rfl⟩
  · show (⟨2, ((decV (Lib.decDigits ((v : Nat) : Int).toNat) 4294967295 : Nat) : Int), 0, 0, 0, 0, []⟩ : OpV) = ⟨2, ((v : Nat) : Int), 0, 0, 0, 0, []⟩
    simp only [Int.toNat_natCast, Lib.itoa_nonneg, nv.1]
  · show ((false || false) || !decOk (Lib.decDigits ((v : Nat) : Int).toNat) 4294967295) = false
    simp only [Int.toNat_natCast, Lib.itoa_nonneg, nv.2, Bool.or_false]
theorem opRound_3 (v t s a c : Int) (d : List UInt8) (x : ByteArray) (h : mayOpB 3 v t s a c d.length d = true) (hx : opTextL 3 v t s a c d = x.data.toList) :
    kOf (hdW (wordsB 32 x)) = 3 ∧ opValK 3 (wordsB 32 x) = ⟨3, v, t, s, a, c, d⟩ ∧ opBadK 3 (wordsB 32 x) false = false ∧ (wordsB 32 x).drop (opLenK 3) = [] := by
  have E0 : mayOpB 3 v t s a c d.length d = (wVol v && wSize s && (t == 0) && (a == 0) && (c == 0) && (d == [])) := rfl
  rw [E0] at h
  simp only [Bool.and_eq_true, beq_iff_eq, wVol, wTo, wSize, wAt, wCount, wData, decide_eq_true_eq, bne_iff_ne] at h
  have hp : opPieces 3 v t s a c d = [⟨#[114, 101, 115, 105, 122, 101]⟩, ⟨(Lib.decDigits v.toNat).toArray⟩, ⟨(Lib.itoa s).toArray⟩] := rfl
  obtain ⟨v, rfl⟩ := Int.eq_ofNat_of_zero_le (show 0 ≤ v by omega)
  obtain ⟨s, rfl⟩ := Int.eq_ofNat_of_zero_le (show 0 ≤ s by omega)
  have ht : t = 0 := by first | omega | simp_all
  subst ht
  have ha : a = 0 := by first | omega | simp_all
  subst ha
  have hc : c = 0 := by first | omega | simp_all
  subst hc
  have hd : d = [] := by simp_all
  subst hd
  have hw : wordsB 32 x = [⟨#[114, 101, 115, 105, 122, 101]⟩, ⟨(Lib.decDigits (v : Int).toNat).toArray⟩, ⟨(Lib.itoa (s : Int)).toArray⟩] := by
    have h1 : cutL 32 x.data.toList = ([⟨#[114, 101, 115, 105, 122, 101]⟩, ⟨(Lib.decDigits (v : Int).toNat).toArray⟩, ⟨(Lib.itoa (s : Int)).toArray⟩] : List ByteArray).map (·.data.toList) := by
      rw [← hx, opTextL, hp]
      refine cutL_join 32 _ (by simp) (fun y hy => ?_)
      simp only [List.map_cons, List.map_nil, List.mem_cons, List.mem_nil_iff, or_false] at hy
      rcases hy with rfl | rfl | rfl
      · decide
      · exact dec_no32 _
      · exact itoa_no32 _ (by omega)
    rw [wordsB, h1, List.map_map]
    simp [Function.comp_def]
  rw [hw]
  have nv := num_back v 4294967295 (by omega)
  have ns := num_back s 256 (by omega)
  refine ⟨(show kOf ⟨#[114, 101, 115, 105, 122, 101]⟩ = 3 by decide), ?_, ?_, rfl⟩
  · show (⟨3, ((decV (Lib.decDigits ((v : Nat) : Int).toNat) 4294967295 : Nat) : Int), 0, ((decV (Lib.itoa ((s : Nat) : Int)) 256 : Nat) : Int), 0, 0, []⟩ : OpV) = ⟨3, ((v : Nat) : Int), 0, ((s : Nat) : Int), 0, 0, []⟩
    simp only [Int.toNat_natCast, Lib.itoa_nonneg, nv.1, ns.1]
  · show (((false || false) || !decOk (Lib.decDigits ((v : Nat) : Int).toNat) 4294967295) || !decOk (Lib.itoa ((s : Nat) : Int)) 256) = false
    simp only [Int.toNat_natCast, Lib.itoa_nonneg, nv.2, ns.2, Bool.or_false]
theorem opRound_4 (v t s a c : Int) (d : List UInt8) (x : ByteArray) (h : mayOpB 4 v t s a c d.length d = true) (hx : opTextL 4 v t s a c d = x.data.toList) :
    kOf (hdW (wordsB 32 x)) = 4 ∧ opValK 4 (wordsB 32 x) = ⟨4, v, t, s, a, c, d⟩ ∧ opBadK 4 (wordsB 32 x) false = false ∧ (wordsB 32 x).drop (opLenK 4) = [] := by
  have E0 : mayOpB 4 v t s a c d.length d = (wVol v && wTo t v && (s == 0) && (a == 0) && (c == 0) && (d == [])) := rfl
  rw [E0] at h
  simp only [Bool.and_eq_true, beq_iff_eq, wVol, wTo, wSize, wAt, wCount, wData, decide_eq_true_eq, bne_iff_ne] at h
  have hp : opPieces 4 v t s a c d = [⟨#[115, 110, 97, 112]⟩, ⟨(Lib.decDigits v.toNat).toArray⟩, ⟨(Lib.decDigits t.toNat).toArray⟩] := rfl
  obtain ⟨v, rfl⟩ := Int.eq_ofNat_of_zero_le (show 0 ≤ v by omega)
  obtain ⟨t, rfl⟩ := Int.eq_ofNat_of_zero_le (show 0 ≤ t by omega)
  have hs : s = 0 := by first | omega | simp_all
  subst hs
  have ha : a = 0 := by first | omega | simp_all
  subst ha
  have hc : c = 0 := by first | omega | simp_all
  subst hc
  have hd : d = [] := by simp_all
  subst hd
  have hw : wordsB 32 x = [⟨#[115, 110, 97, 112]⟩, ⟨(Lib.decDigits (v : Int).toNat).toArray⟩, ⟨(Lib.decDigits (t : Int).toNat).toArray⟩] := by
    have h1 : cutL 32 x.data.toList = ([⟨#[115, 110, 97, 112]⟩, ⟨(Lib.decDigits (v : Int).toNat).toArray⟩, ⟨(Lib.decDigits (t : Int).toNat).toArray⟩] : List ByteArray).map (·.data.toList) := by
      rw [← hx, opTextL, hp]
      refine cutL_join 32 _ (by simp) (fun y hy => ?_)
      simp only [List.map_cons, List.map_nil, List.mem_cons, List.mem_nil_iff, or_false] at hy
      rcases hy with rfl | rfl | rfl
      · decide
      · exact dec_no32 _
      · exact dec_no32 _
    rw [wordsB, h1, List.map_map]
    simp [Function.comp_def]
  rw [hw]
  have nv := num_back v 4294967295 (by omega)
  have nt := num_back t 4294967295 (by omega)
  refine ⟨(show kOf ⟨#[115, 110, 97, 112]⟩ = 4 by decide), ?_, ?_, rfl⟩
  · show (⟨4, ((decV (Lib.decDigits ((v : Nat) : Int).toNat) 4294967295 : Nat) : Int), ((decV (Lib.decDigits ((t : Nat) : Int).toNat) 4294967295 : Nat) : Int), 0, 0, 0, []⟩ : OpV) = ⟨4, ((v : Nat) : Int), ((t : Nat) : Int), 0, 0, 0, []⟩
    simp only [Int.toNat_natCast, Lib.itoa_nonneg, nv.1, nt.1]
  · show (((false || false) || !decOk (Lib.decDigits ((v : Nat) : Int).toNat) 4294967295) || !decOk (Lib.decDigits ((t : Nat) : Int).toNat) 4294967295) = false
    simp only [Int.toNat_natCast, Lib.itoa_nonneg, nv.2, nt.2, Bool.or_false]
theorem opRound_5 (v t s a c : Int) (d : List UInt8) (x : ByteArray) (h : mayOpB 5 v t s a c d.length d = true) (hx : opTextL 5 v t s a c d = x.data.toList) :
    kOf (hdW (wordsB 32 x)) = 5 ∧ opValK 5 (wordsB 32 x) = ⟨5, v, t, s, a, c, d⟩ ∧ opBadK 5 (wordsB 32 x) false = false ∧ (wordsB 32 x).drop (opLenK 5) = [] := by
  have E0 : mayOpB 5 v t s a c d.length d = (wVol v && wAt a && wData d.length && (t == 0) && (s == 0) && (c == 0)) := rfl
  rw [E0] at h
  simp only [Bool.and_eq_true, beq_iff_eq, wVol, wTo, wSize, wAt, wCount, wData, decide_eq_true_eq, bne_iff_ne] at h
  have hp : opPieces 5 v t s a c d = [⟨#[119, 114, 105, 116, 101]⟩, ⟨(Lib.decDigits v.toNat).toArray⟩, ⟨(Lib.itoa a).toArray⟩, ⟨(dataL d).toArray⟩] := rfl
  obtain ⟨v, rfl⟩ := Int.eq_ofNat_of_zero_le (show 0 ≤ v by omega)
  obtain ⟨a, rfl⟩ := Int.eq_ofNat_of_zero_le (show 0 ≤ a by omega)
  have ht : t = 0 := by first | omega | simp_all
  subst ht
  have hs : s = 0 := by first | omega | simp_all
  subst hs
  have hc : c = 0 := by first | omega | simp_all
  subst hc
  have hw : wordsB 32 x = [⟨#[119, 114, 105, 116, 101]⟩, ⟨(Lib.decDigits (v : Int).toNat).toArray⟩, ⟨(Lib.itoa (a : Int)).toArray⟩, ⟨(dataL d).toArray⟩] := by
    have h1 : cutL 32 x.data.toList = ([⟨#[119, 114, 105, 116, 101]⟩, ⟨(Lib.decDigits (v : Int).toNat).toArray⟩, ⟨(Lib.itoa (a : Int)).toArray⟩, ⟨(dataL d).toArray⟩] : List ByteArray).map (·.data.toList) := by
      rw [← hx, opTextL, hp]
      refine cutL_join 32 _ (by simp) (fun y hy => ?_)
      simp only [List.map_cons, List.map_nil, List.mem_cons, List.mem_nil_iff, or_false] at hy
      rcases hy with rfl | rfl | rfl | rfl
      · decide
      · exact dec_no32 _
      · exact itoa_no32 _ (by omega)
      · exact dataL_no _
    rw [wordsB, h1, List.map_map]
    simp [Function.comp_def]
  rw [hw]
  have nv := num_back v 4294967295 (by omega)
  have na := num_back a 1048576 (by omega)
  have hdo := data_ok d (by omega)
  have hdt : d.take (64 * (d.length / 64)) = d := List.take_of_length_le (by omega)
  rw [hdt] at hdo
  refine ⟨(show kOf ⟨#[119, 114, 105, 116, 101]⟩ = 5 by decide), ?_, ?_, rfl⟩
  · show (⟨5, ((decV (Lib.decDigits ((v : Nat) : Int).toNat) 4294967295 : Nat) : Int), 0, 0, ((decV (Lib.itoa ((a : Nat) : Int)) 1048576 : Nat) : Int), 0, (dataOf ⟨(dataL d).toArray⟩)⟩ : OpV) = ⟨5, ((v : Nat) : Int), 0, 0, ((a : Nat) : Int), 0, d⟩
    simp only [Int.toNat_natCast, Lib.itoa_nonneg, nv.1, na.1, hdo.1]
  · show (((((false || false) || !decOk (Lib.decDigits ((v : Nat) : Int).toNat) 4294967295) || !decOk (Lib.itoa ((a : Nat) : Int)) 1048576) || false) || dataBad ⟨(dataL d).toArray⟩) = false
    simp only [Int.toNat_natCast, Lib.itoa_nonneg, nv.2, na.2, hdo.2, Bool.or_false]
theorem opRound_6 (v t s a c : Int) (d : List UInt8) (x : ByteArray) (h : mayOpB 6 v t s a c d.length d = true) (hx : opTextL 6 v t s a c d = x.data.toList) :
    kOf (hdW (wordsB 32 x)) = 6 ∧ opValK 6 (wordsB 32 x) = ⟨6, v, t, s, a, c, d⟩ ∧ opBadK 6 (wordsB 32 x) false = false ∧ (wordsB 32 x).drop (opLenK 6) = [] := by
  have E0 : mayOpB 6 v t s a c d.length d = (wVol v && wAt a && wCount c && (t == 0) && (s == 0) && (d == [])) := rfl
  rw [E0] at h
  simp only [Bool.and_eq_true, beq_iff_eq, wVol, wTo, wSize, wAt, wCount, wData, decide_eq_true_eq, bne_iff_ne] at h
  have hp : opPieces 6 v t s a c d = [⟨#[122, 101, 114, 111]⟩, ⟨(Lib.decDigits v.toNat).toArray⟩, ⟨(Lib.itoa a).toArray⟩, ⟨(Lib.itoa c).toArray⟩] := rfl
  obtain ⟨v, rfl⟩ := Int.eq_ofNat_of_zero_le (show 0 ≤ v by omega)
  obtain ⟨a, rfl⟩ := Int.eq_ofNat_of_zero_le (show 0 ≤ a by omega)
  obtain ⟨c, rfl⟩ := Int.eq_ofNat_of_zero_le (show 0 ≤ c by omega)
  have ht : t = 0 := by first | omega | simp_all
  subst ht
  have hs : s = 0 := by first | omega | simp_all
  subst hs
  have hd : d = [] := by simp_all
  subst hd
  have hw : wordsB 32 x = [⟨#[122, 101, 114, 111]⟩, ⟨(Lib.decDigits (v : Int).toNat).toArray⟩, ⟨(Lib.itoa (a : Int)).toArray⟩, ⟨(Lib.itoa (c : Int)).toArray⟩] := by
    have h1 : cutL 32 x.data.toList = ([⟨#[122, 101, 114, 111]⟩, ⟨(Lib.decDigits (v : Int).toNat).toArray⟩, ⟨(Lib.itoa (a : Int)).toArray⟩, ⟨(Lib.itoa (c : Int)).toArray⟩] : List ByteArray).map (·.data.toList) := by
      rw [← hx, opTextL, hp]
      refine cutL_join 32 _ (by simp) (fun y hy => ?_)
      simp only [List.map_cons, List.map_nil, List.mem_cons, List.mem_nil_iff, or_false] at hy
      rcases hy with rfl | rfl | rfl | rfl
      · decide
      · exact dec_no32 _
      · exact itoa_no32 _ (by omega)
      · exact itoa_no32 _ (by omega)
    rw [wordsB, h1, List.map_map]
    simp [Function.comp_def]
  rw [hw]
  have nv := num_back v 4294967295 (by omega)
  have na := num_back a 1048576 (by omega)
  have nc := num_back c 1024 (by omega)
  refine ⟨(show kOf ⟨#[122, 101, 114, 111]⟩ = 6 by decide), ?_, ?_, rfl⟩
  · show (⟨6, ((decV (Lib.decDigits ((v : Nat) : Int).toNat) 4294967295 : Nat) : Int), 0, 0, ((decV (Lib.itoa ((a : Nat) : Int)) 1048576 : Nat) : Int), ((decV (Lib.itoa ((c : Nat) : Int)) 1024 : Nat) : Int), []⟩ : OpV) = ⟨6, ((v : Nat) : Int), 0, 0, ((a : Nat) : Int), ((c : Nat) : Int), []⟩
    simp only [Int.toNat_natCast, Lib.itoa_nonneg, nv.1, na.1, nc.1]
  · show ((((false || false) || !decOk (Lib.decDigits ((v : Nat) : Int).toNat) 4294967295) || !decOk (Lib.itoa ((a : Nat) : Int)) 1048576) || !decOk (Lib.itoa ((c : Nat) : Int)) 1024) = false
    simp only [Int.toNat_natCast, Lib.itoa_nonneg, nv.2, na.2, nc.2, Bool.or_false]
theorem opRound_7 (v t s a c : Int) (d : List UInt8) (x : ByteArray) (h : mayOpB 7 v t s a c d.length d = true) (hx : opTextL 7 v t s a c d = x.data.toList) :
    kOf (hdW (wordsB 32 x)) = 7 ∧ opValK 7 (wordsB 32 x) = ⟨7, v, t, s, a, c, d⟩ ∧ opBadK 7 (wordsB 32 x) false = false ∧ (wordsB 32 x).drop (opLenK 7) = [] := by
  have E0 : mayOpB 7 v t s a c d.length d = (wVol v && wAt a && wCount c && (t == 0) && (s == 0) && (d == [])) := rfl
  rw [E0] at h
  simp only [Bool.and_eq_true, beq_iff_eq, wVol, wTo, wSize, wAt, wCount, wData, decide_eq_true_eq, bne_iff_ne] at h
  have hp : opPieces 7 v t s a c d = [⟨#[100, 105, 115, 99, 97, 114, 100]⟩, ⟨(Lib.decDigits v.toNat).toArray⟩, ⟨(Lib.itoa a).toArray⟩, ⟨(Lib.itoa c).toArray⟩] := rfl
  obtain ⟨v, rfl⟩ := Int.eq_ofNat_of_zero_le (show 0 ≤ v by omega)
  obtain ⟨a, rfl⟩ := Int.eq_ofNat_of_zero_le (show 0 ≤ a by omega)
  obtain ⟨c, rfl⟩ := Int.eq_ofNat_of_zero_le (show 0 ≤ c by omega)
  have ht : t = 0 := by first | omega | simp_all
  subst ht
  have hs : s = 0 := by first | omega | simp_all
  subst hs
  have hd : d = [] := by simp_all
  subst hd
  have hw : wordsB 32 x = [⟨#[100, 105, 115, 99, 97, 114, 100]⟩, ⟨(Lib.decDigits (v : Int).toNat).toArray⟩, ⟨(Lib.itoa (a : Int)).toArray⟩, ⟨(Lib.itoa (c : Int)).toArray⟩] := by
    have h1 : cutL 32 x.data.toList = ([⟨#[100, 105, 115, 99, 97, 114, 100]⟩, ⟨(Lib.decDigits (v : Int).toNat).toArray⟩, ⟨(Lib.itoa (a : Int)).toArray⟩, ⟨(Lib.itoa (c : Int)).toArray⟩] : List ByteArray).map (·.data.toList) := by
      rw [← hx, opTextL, hp]
      refine cutL_join 32 _ (by simp) (fun y hy => ?_)
      simp only [List.map_cons, List.map_nil, List.mem_cons, List.mem_nil_iff, or_false] at hy
      rcases hy with rfl | rfl | rfl | rfl
      · decide
      · exact dec_no32 _
      · exact itoa_no32 _ (by omega)
      · exact itoa_no32 _ (by omega)
    rw [wordsB, h1, List.map_map]
    simp [Function.comp_def]
  rw [hw]
  have nv := num_back v 4294967295 (by omega)
  have na := num_back a 1048576 (by omega)
  have nc := num_back c 1024 (by omega)
  refine ⟨(show kOf ⟨#[100, 105, 115, 99, 97, 114, 100]⟩ = 7 by decide), ?_, ?_, rfl⟩
  · show (⟨7, ((decV (Lib.decDigits ((v : Nat) : Int).toNat) 4294967295 : Nat) : Int), 0, 0, ((decV (Lib.itoa ((a : Nat) : Int)) 1048576 : Nat) : Int), ((decV (Lib.itoa ((c : Nat) : Int)) 1024 : Nat) : Int), []⟩ : OpV) = ⟨7, ((v : Nat) : Int), 0, 0, ((a : Nat) : Int), ((c : Nat) : Int), []⟩
    simp only [Int.toNat_natCast, Lib.itoa_nonneg, nv.1, na.1, nc.1]
  · show ((((false || false) || !decOk (Lib.decDigits ((v : Nat) : Int).toNat) 4294967295) || !decOk (Lib.itoa ((a : Nat) : Int)) 1048576) || !decOk (Lib.itoa ((c : Nat) : Int)) 1024) = false
    simp only [Int.toNat_natCast, Lib.itoa_nonneg, nv.2, na.2, nc.2, Bool.or_false]
theorem opRound_8 (v t s a c : Int) (d : List UInt8) (x : ByteArray) (h : mayOpB 8 v t s a c d.length d = true) (hx : opTextL 8 v t s a c d = x.data.toList) :
    kOf (hdW (wordsB 32 x)) = 8 ∧ opValK 8 (wordsB 32 x) = ⟨8, v, t, s, a, c, d⟩ ∧ opBadK 8 (wordsB 32 x) false = false ∧ (wordsB 32 x).drop (opLenK 8) = [] := by
  have E0 : mayOpB 8 v t s a c d.length d = ((v == 0) && (t == 0) && (s == 0) && (a == 0) && (c == 0) && (d == [])) := rfl
  rw [E0] at h
  simp only [Bool.and_eq_true, beq_iff_eq, wVol, wTo, wSize, wAt, wCount, wData, decide_eq_true_eq, bne_iff_ne] at h
  have hp : opPieces 8 v t s a c d = [⟨#[102, 108, 117, 115, 104]⟩] := rfl
  have hv : v = 0 := by first | omega | simp_all
  subst hv
  have ht : t = 0 := by first | omega | simp_all
  subst ht
  have hs : s = 0 := by first | omega | simp_all
  subst hs
  have ha : a = 0 := by first | omega | simp_all
  subst ha
  have hc : c = 0 := by first | omega | simp_all
  subst hc
  have hd : d = [] := by simp_all
  subst hd
  have hw : wordsB 32 x = [⟨#[102, 108, 117, 115, 104]⟩] := by
    have h1 : cutL 32 x.data.toList = ([⟨#[102, 108, 117, 115, 104]⟩] : List ByteArray).map (·.data.toList) := by
      rw [← hx, opTextL, hp]
      refine cutL_join 32 _ (by simp) (fun y hy => ?_)
      simp only [List.map_cons, List.map_nil, List.mem_cons, List.mem_nil_iff, or_false] at hy
      rcases hy with rfl
      · decide
    rw [wordsB, h1, List.map_map]
    simp [Function.comp_def]
  rw [hw]
  refine ⟨(show kOf ⟨#[102, 108, 117, 115, 104]⟩ = 8 by decide), ?_, ?_, rfl⟩
  · show (⟨8, 0, 0, 0, 0, 0, []⟩ : OpV) = ⟨8, 0, 0, 0, 0, 0, []⟩
    simp only [Int.toNat_natCast, Lib.itoa_nonneg]
  · show (false || false) = false
    simp only [Int.toNat_natCast, Lib.itoa_nonneg, Bool.or_false]
theorem opRound_9 (v t s a c : Int) (d : List UInt8) (x : ByteArray) (h : mayOpB 9 v t s a c d.length d = true) (hx : opTextL 9 v t s a c d = x.data.toList) :
    kOf (hdW (wordsB 32 x)) = 9 ∧ opValK 9 (wordsB 32 x) = ⟨9, v, t, s, a, c, d⟩ ∧ opBadK 9 (wordsB 32 x) false = false ∧ (wordsB 32 x).drop (opLenK 9) = [] := by
  have E0 : mayOpB 9 v t s a c d.length d = (wVol v && wAt a && wCount c && (t == 0) && (s == 0) && (d == [])) := rfl
  rw [E0] at h
  simp only [Bool.and_eq_true, beq_iff_eq, wVol, wTo, wSize, wAt, wCount, wData, decide_eq_true_eq, bne_iff_ne] at h
  have hp : opPieces 9 v t s a c d = [⟨#[114, 101, 97, 100]⟩, ⟨(Lib.decDigits v.toNat).toArray⟩, ⟨(Lib.itoa a).toArray⟩, ⟨(Lib.itoa c).toArray⟩] := rfl
  obtain ⟨v, rfl⟩ := Int.eq_ofNat_of_zero_le (show 0 ≤ v by omega)
  obtain ⟨a, rfl⟩ := Int.eq_ofNat_of_zero_le (show 0 ≤ a by omega)
  obtain ⟨c, rfl⟩ := Int.eq_ofNat_of_zero_le (show 0 ≤ c by omega)
  have ht : t = 0 := by first | omega | simp_all
  subst ht
  have hs : s = 0 := by first | omega | simp_all
  subst hs
  have hd : d = [] := by simp_all
  subst hd
  have hw : wordsB 32 x = [⟨#[114, 101, 97, 100]⟩, ⟨(Lib.decDigits (v : Int).toNat).toArray⟩, ⟨(Lib.itoa (a : Int)).toArray⟩, ⟨(Lib.itoa (c : Int)).toArray⟩] := by
    have h1 : cutL 32 x.data.toList = ([⟨#[114, 101, 97, 100]⟩, ⟨(Lib.decDigits (v : Int).toNat).toArray⟩, ⟨(Lib.itoa (a : Int)).toArray⟩, ⟨(Lib.itoa (c : Int)).toArray⟩] : List ByteArray).map (·.data.toList) := by
      rw [← hx, opTextL, hp]
      refine cutL_join 32 _ (by simp) (fun y hy => ?_)
      simp only [List.map_cons, List.map_nil, List.mem_cons, List.mem_nil_iff, or_false] at hy
      rcases hy with rfl | rfl | rfl | rfl
      · decide
      · exact dec_no32 _
      · exact itoa_no32 _ (by omega)
      · exact itoa_no32 _ (by omega)
    rw [wordsB, h1, List.map_map]
    simp [Function.comp_def]
  rw [hw]
  have nv := num_back v 4294967295 (by omega)
  have na := num_back a 1048576 (by omega)
  have nc := num_back c 1024 (by omega)
  refine ⟨(show kOf ⟨#[114, 101, 97, 100]⟩ = 9 by decide), ?_, ?_, rfl⟩
  · show (⟨9, ((decV (Lib.decDigits ((v : Nat) : Int).toNat) 4294967295 : Nat) : Int), 0, 0, ((decV (Lib.itoa ((a : Nat) : Int)) 1048576 : Nat) : Int), ((decV (Lib.itoa ((c : Nat) : Int)) 1024 : Nat) : Int), []⟩ : OpV) = ⟨9, ((v : Nat) : Int), 0, 0, ((a : Nat) : Int), ((c : Nat) : Int), []⟩
    simp only [Int.toNat_natCast, Lib.itoa_nonneg, nv.1, na.1, nc.1]
  · show ((((false || false) || !decOk (Lib.decDigits ((v : Nat) : Int).toNat) 4294967295) || !decOk (Lib.itoa ((a : Nat) : Int)) 1048576) || !decOk (Lib.itoa ((c : Nat) : Int)) 1024) = false
    simp only [Int.toNat_natCast, Lib.itoa_nonneg, nv.2, na.2, nc.2, Bool.or_false]
theorem opRound (o : OpV) (x : ByteArray) (h : o.may = true) (hx : o.text = x.data.toList) :
    kOf (hdW (wordsB 32 x)) = o.k ∧ opValK o.k (wordsB 32 x) = o ∧ opBadK o.k (wordsB 32 x) false = false ∧ (wordsB 32 x).drop (opLenK o.k) = [] := by
  obtain ⟨k, v, t, s, a, c, d⟩ := o
  simp only [OpV.may, OpV.text] at h hx ⊢
  have hk := mayOpB_kind h rfl
  have h3 : k = 1 ∨ k = 2 ∨ k = 3 ∨ k = 4 ∨ k = 5 ∨ k = 6 ∨ k = 7 ∨ k = 8 ∨ k = 9 := by omega
  rcases h3 with rfl | rfl | rfl | rfl | rfl | rfl | rfl | rfl | rfl
  · exact opRound_1 v t s a c d x h hx
  · exact opRound_2 v t s a c d x h hx
  · exact opRound_3 v t s a c d x h hx
  · exact opRound_4 v t s a c d x h hx
  · exact opRound_5 v t s a c d x h hx
  · exact opRound_6 v t s a c d x h hx
  · exact opRound_7 v t s a c d x h hx
  · exact opRound_8 v t s a c d x h hx
  · exact opRound_9 v t s a c d x h hx
/-- What is read of a text, good or not. -/
def opV (x : ByteArray) : OpV := opValK (kOf (hdW (wordsB 32 x))) (wordsB 32 x)
def goodOp (x : ByteArray) : Bool := (opV x).may && ((opV x).text == x.data.toList)
theorem goodOp_words {x : ByteArray} (h : goodOp x = true) : opBadK (kOf (hdW (wordsB 32 x))) (wordsB 32 x) false = false ∧ (wordsB 32 x).drop (opLenK (kOf (hdW (wordsB 32 x)))) = [] := by
  simp only [goodOp, Bool.and_eq_true, beq_iff_eq] at h
  obtain ⟨h1, _, h3, h4⟩ := opRound _ x h.1 h.2
  rw [h1]
  exact ⟨h3, h4⟩
/-- A text of an operation that may be is good, and is read as it. -/
theorem goodOp_text (o : OpV) (x : ByteArray) (h : o.may = true) (hx : o.text = x.data.toList) : goodOp x = true ∧ opV x = o := by
  obtain ⟨h1, h2, _, _⟩ := opRound o x h hx
  have e : opV x = o := by rw [opV, h1, h2]
  exact ⟨by rw [goodOp, e, h, hx]; simp, e⟩
end Go.Proofs.YtgjdgafoidppaaaGreatDoor
namespace Go.Proofs.YtgjdgafoidppaaaGreatDoor
open Go.RowKit
set_option linter.unusedVariables false
set_option linter.unusedSimpArgs false
set_option linter.unnecessarySimpa false
theorem opValK_bd (k : Int) (ws : List ByteArray) : Bd (opValK k ws).v (opValK k ws).t (opValK k ws).s (opValK k ws).a (opValK k ws).c := by
  have h1 := nD_le ws 1 4294967295
  have h2 := nD_le ws 2 4294967295
  have h3 := nD_le ws 2 256
  have h4 := nD_le ws 2 1048576
  have h5 := nD_le ws 3 1024
  unfold opValK
  repeat' split
  all_goals exact ⟨by simp only [zOp]; omega, by simp only [zOp]; omega, by simp only [zOp]; omega, by simp only [zOp]; omega, by simp only [zOp]; omega, by simp only [zOp]; omega, by simp only [zOp]; omega, by simp only [zOp]; omega, by simp only [zOp]; omega, by simp only [zOp]; omega⟩
theorem opValK_d (k : Int) (ws : List ByteArray) (hw : ∀ y ∈ ws, y.size ≤ 200000) : (opValK k ws).d.length ≤ 64000000 := by
  have h : (dD ws 3).length ≤ 64000000 := by
    have h1 : (hdW (ws.drop 3)).size ≤ 200000 := by
      unfold hdW
      cases hd : ws.drop 3 with
      | nil => exact Nat.zero_le _
      | cons y r => exact hw y (List.mem_of_mem_drop (i := 3) (by rw [hd]; simp))
    have h2 := wordsB_le 44 (hdW (ws.drop 3))
    rw [dD, dataOf, flat_len]
    omega
  unfold opValK
  repeat' split
  all_goals first | exact h | exact Nat.zero_le _
def opLeft (x : ByteArray) : List ByteArray := (wordsB 32 x).drop (opLenK (kOf (hdW (wordsB 32 x))))
def opBadX (x : ByteArray) : Bool := opBadK (kOf (hdW (wordsB 32 x))) (wordsB 32 x) false
theorem op_at (x : ByteArray) (hx : x.size ≤ 200000) (p : Nat) (W : World) [hm : Ml W] [htb : Tb W] [hfp : Far p] (k v t s a c : Int) (d : List UInt8) (hO : opV x = ⟨k, v, t, s, a, c, d⟩) (h : WS p W (wordsB 32 x) false) :
    Calls Tryz.prog 37 #[.pointer (some ⟨p, 0, none⟩)] W fun e W' => ∃ A q, e = .returned (.agg #[.int .i64 k, .int .u64 v, .int .u64 t, .int .i64 s, .int .i64 a, .int .i64 c, .slice A d.length q]) ∧ d.length ≤ q ∧ OwnR bv 5 W.heap.size W' (.slice A d.length q) d ∧ WS p W' (opLeft x) (opBadX x) ∧ Wrd p W W' := by
  have hw : ∀ y ∈ wordsB 32 x, y.size ≤ 200000 := fun y hy => Nat.le_trans (wordsB_each 32 x y hy) hx
  refine (op_any p W (wordsB 32 x) false h hw).mono ?_
  rintro e W' ⟨dv, rfl, ho, h1, r1⟩
  have e2 : opValK (kOf (hdW (wordsB 32 x))) (wordsB 32 x) = ⟨k, v, t, s, a, c, d⟩ := hO
  rw [e2] at ho ⊢
  obtain ⟨A, q, rfl, hq, _⟩ := ho.form
  exact ⟨A, q, rfl, hq, ho, h1, r1⟩
def opRes (x : ByteArray) : OpV := if goodOp x then opV x else zOp
def opE (x : ByteArray) : Int := if goodOp x then 0 else 4
set_option maxRecDepth 100000 in
set_option maxHeartbeats 4000000 in
theorem opOf_any (x : ByteArray) (hx : x.size ≤ 200000) (w : World) [hk : Tb w] [hm : Ml w] : Calls Tryz.prog 10 #[.string x] w fun e w' => ∃ dv, e = .returned (.tuple #[(opRes x).agg dv, .int .i64 (opE x)]) ∧ OwnR bv 5 w.heap.size w' dv (opRes x).d ∧ Gr w w' := by
  have few : (wordsB 32 x).length ≤ 1000000 := by have := wordsB_le 32 x; omega
  have short : ∀ y ∈ wordsB 32 x, y.size ≤ 1000000000 := fun y hy => by have := wordsB_each 32 x y hy; omega
  have FEW := Lib.hid few; clear few
  have SHORT := Lib.hid short; clear short
  obtain ⟨o, hO⟩ : ∃ o, opV x = o := ⟨_, rfl⟩
  obtain ⟨k, v, t, s, a, c, d⟩ := o
  have hgo : goodOp x = (mayOpB k v t s a c d.length d && (opTextL k v t s a c d == x.data.toList)) := by rw [goodOp, hO]; rfl
  have hbd : Bd v t s a c := by
    have h := opValK_bd (kOf (hdW (wordsB 32 x))) (wordsB 32 x)
    have e : opValK (kOf (hdW (wordsB 32 x))) (wordsB 32 x) = ⟨k, v, t, s, a, c, d⟩ := hO
    rw [e] at h
    exact h
  have HBD := Lib.hid hbd; clear hbd
  have HGO := Lib.hid hgo; clear hgo
  have hdl : d.length ≤ 9223372036854775807 := by
    have h := opValK_d (kOf (hdW (wordsB 32 x))) (wordsB 32 x) (fun y hy => Nat.le_trans (wordsB_each 32 x y hy) hx)
    have e : opValK (kOf (hdW (wordsB 32 x))) (wordsB 32 x) = ⟨k, v, t, s, a, c, d⟩ := hO
    rw [e] at h
    simp only at h
    omega
  have HDL := Lib.hid hdl; clear hdl
  have hno : goodOp x = false → opRes x = zOp ∧ opE x = 4 := fun h => by simp [opRes, opE, h]
  have hyes : goodOp x = true → opRes x = ⟨k, v, t, s, a, c, d⟩ ∧ opE x = 0 := fun h => by rw [opRes, opE, if_pos h, if_pos h]; exact ⟨hO, rfl⟩
  have hbg : goodOp x = true → opBadX x = false ∧ opLeft x = [] := fun h => goodOp_words h
  have HO := Lib.hid hO; have HNO := Lib.hid hno; have HYES := Lib.hid hyes; have HBG := Lib.hid hbg; clear hO hno hyes hbg
  go_enter Tryz.func10, Tryz.ntmps10
  go_wp2_with ((go_at_call 36; ((with_reducible refine (split_any x 32 _ (by omega)).mono ?_))))
  rintro _ _ ⟨rfl, rfl⟩
  haveI : Far (w.heap.size + 1 + 1) := ⟨by have := hk.size; omega⟩
  go_wp2_with ((go_at_call 37; ((with_reducible refine (op_at x hx (w.heap.size + 1 + 1) _ k v t s a c d HO.out ?ws0).mono ?_))))
  case ws0 => exact WS.start _ _ _ (w.heap.size + 1) _ 79 rfl (by omega) FEW.out SHORT.out
  rintro _ W1 ⟨Ad, cd, rfl, hcd, ho, h1, r1⟩
  haveI : Tb W1 := r1.tb
  haveI : Ml W1 := r1.ml
  haveI bR1 : BlockAt W1 w.heap.size #[.int .i64 0, .int .u64 0, .int .u64 0, .int .i64 0, .int .i64 0, .int .i64 0, .slice none 0 0] 26 := r1.blockAt inferInstance (by omega)
  have hb1 : Below w.heap.size w W1 := Below.trans (by (repeat (first | with_reducible exact Below.refl _ _ | with_reducible apply below_alloc))) (r1.below (by omega) (by simp; omega))
  haveI : GrC w W1 := ⟨hb1⟩
  have ho2 : OwnR bv 5 w.heap.size W1 (.slice Ad d.length cd) d := ho.more (by simp; omega)
  have hP1 : w.heap.size + 1 + 1 < W1.heap.size := h1.old.lt
  have hrow : Row bv W1 Ad d := by
    obtain ⟨A', c', e, _, hr⟩ := ho.form
    cases e
    exact hr
  have p1 := h1.c1
  obtain ⟨A6, n6, p0, hn6, _, _⟩ := h1.c0
  have H1 := Lib.hid h1; clear h1 r1 ho
  have HO2 := Lib.hid ho2; clear ho2
  have HROW := Lib.hid hrow; clear hrow
  have HB1 := Lib.hid hb1; clear hb1
  haveI : BNe w.heap.size W1.heap.size := ⟨by omega⟩
  have y0 : W1.cell? ⟨w.heap.size, 0, none⟩ = some (.int .i64 0) := (block_cells _ _ _ _ _).trans rfl
  have y1 : W1.cell? ⟨w.heap.size, 1, none⟩ = some (.int .u64 0) := (block_cells _ _ _ _ _).trans rfl
  have y2 : W1.cell? ⟨w.heap.size, 2, none⟩ = some (.int .u64 0) := (block_cells _ _ _ _ _).trans rfl
  have y3 : W1.cell? ⟨w.heap.size, 3, none⟩ = some (.int .i64 0) := (block_cells _ _ _ _ _).trans rfl
  have y4 : W1.cell? ⟨w.heap.size, 4, none⟩ = some (.int .i64 0) := (block_cells _ _ _ _ _).trans rfl
  have y5 : W1.cell? ⟨w.heap.size, 5, none⟩ = some (.int .i64 0) := (block_cells _ _ _ _ _).trans rfl
  have y6 : W1.cell? ⟨w.heap.size, 6, none⟩ = some (.slice none 0 0) := (block_cells _ _ _ _ _).trans rfl
  have z0 : W1.frozen? ⟨w.heap.size, 0, none⟩ = false := block_frozen _ _ _ _ _
  have z1 : W1.frozen? ⟨w.heap.size, 1, none⟩ = false := block_frozen _ _ _ _ _
  have z2 : W1.frozen? ⟨w.heap.size, 2, none⟩ = false := block_frozen _ _ _ _ _
  have z3 : W1.frozen? ⟨w.heap.size, 3, none⟩ = false := block_frozen _ _ _ _ _
  have z4 : W1.frozen? ⟨w.heap.size, 4, none⟩ = false := block_frozen _ _ _ _ _
  have z5 : W1.frozen? ⟨w.heap.size, 5, none⟩ = false := block_frozen _ _ _ _ _
  have z6 : W1.frozen? ⟨w.heap.size, 6, none⟩ = false := block_frozen _ _ _ _ _
  have e1 : (w.heap.size + 1 + 1 = W1.heap.size) = False := by simp; omega
  have e2 : (W1.heap.size = w.heap.size + 1 + 1) = False := by simp; omega
  have e3 : (w.heap.size = W1.heap.size) = False := by simp; omega
  have e4 : (W1.heap.size = w.heap.size) = False := by simp; omega
  haveI : Old w.heap.size W1 := bR1.old
  haveI : Old (w.heap.size + 1 + 1) W1 := H1.out.old
  rcases Bool.eq_false_or_eq_true (opBadX x) with hB | hB
  · rw [hB] at p1
    have hg : goodOp x = false := by
      cases h : goodOp x with
      | false => rfl
      | true => rw [(HBG.out h).1] at hB; cases hB
    have HG := Lib.hid (HNO.out hg); clear hg hB
    go_wp2
    exact bodyPost_ret (v := .tuple #[.agg #[.int .i64 0, .int .u64 0, .int .u64 0, .int .i64 0, .int .i64 0, .int .i64 0, .slice none 0 0], .int .i64 4]) (by simp [results, Tryz.results10, go_sem, e1, e2, e3, e4, y0, y1, y2, y3, y4, y5, y6, z0, z1, z2, z3, z4, z5, z6]) rfl ⟨.slice none 0 0, by rw [HG.out.1, HG.out.2]; rfl, by rw [HG.out.1]; exact OwnR.nil _ _, Gr.of (by repeat (first | with_reducible exact HB1.out | with_reducible apply below_alloc | with_reducible refine below_set_le ?_ (by omega) _ | with_reducible refine below_trans ?_ (grown_below _ _)))⟩
  · rw [hB] at p1
    clear hB
    rcases Nat.eq_zero_or_pos (opLeft x).length with hL | hL
    · rw [hL] at p0
      clear hL
      have HM := Lib.hid (fun W (hW : GrC W1 W) => mayOp_any k v t s a c Ad d.length cd d W rfl HDL.out (HROW.out.gr (Gr.of hW.b)))
      rcases Bool.eq_false_or_eq_true (mayOpB k v t s a c d.length d) with hM | hM
      · have hkk := mayOpB_kind hM rfl
        have HT := Lib.hid (fun W (_ : Tb W) (hW : GrC W1 W) => opText_any k v t s a c Ad d.length cd d W hkk.1 hkk.2.1 HBD.out rfl hcd (by omega) (HROW.out.gr (Gr.of hW.b)))
        rw [hM] at HM
        rcases Bool.eq_false_or_eq_true (opTextL k v t s a c d == x.data.toList) with hS | hS
        · have hg : goodOp x = true := by rw [HGO.out, hM, hS]; rfl
          have HG := Lib.hid (HYES.out hg); clear hg
          have hne : (opTextL k v t s a c d == x.toList) = true := by rw [Lib.toList_data]; exact hS
          clear hS hM
          go_wp2_with (first | (go_at_call 38; ((with_reducible refine (HM.out _ inferInstance).mono ?_); rintro _ _ ⟨rfl, g1, rfl⟩)) | (go_at_call 39; ((with_reducible refine (HT.out _ inferInstance inferInstance).mono ?_); rintro _ _ ⟨rfl, g2, rfl⟩)))
          exact bodyPost_ret (v := .tuple #[.agg #[.int .i64 k, .int .u64 v, .int .u64 t, .int .i64 s, .int .i64 a, .int .i64 c, .slice Ad d.length cd], .int .i64 0]) (by simp [results, Tryz.results10, go_sem, e1, e2, e3, e4, y0, y1, y2, y3, y4, y5, y6, z0, z1, z2, z3, z4, z5, z6]) rfl ⟨.slice Ad d.length cd, by rw [HG.out.1, HG.out.2]; rfl, by rw [HG.out.1]; exact (by repeat (first | with_reducible exact HO2.out | with_reducible refine OwnR.alloc_ ?_ _ | with_reducible refine OwnR.grown_ ?_ _ | with_reducible refine OwnR.set_ ?_ _ _ _ (by decide))), Gr.of (by repeat (first | with_reducible exact HB1.out | with_reducible apply below_alloc | with_reducible refine below_set_le ?_ (by omega) _ | with_reducible refine below_trans ?_ (grown_below _ _)))⟩
        · have hg : goodOp x = false := by rw [HGO.out, hM, hS]; rfl
          have HG := Lib.hid (HNO.out hg); clear hg
          have hne : (opTextL k v t s a c d == x.toList) = false := by rw [Lib.toList_data]; exact hS
          clear hS hM
          go_wp2_with (first | (go_at_call 38; ((with_reducible refine (HM.out _ inferInstance).mono ?_); rintro _ _ ⟨rfl, g1, rfl⟩)) | (go_at_call 39; ((with_reducible refine (HT.out _ inferInstance inferInstance).mono ?_); rintro _ _ ⟨rfl, g2, rfl⟩)))
          exact bodyPost_ret (v := .tuple #[.agg #[.int .i64 0, .int .u64 0, .int .u64 0, .int .i64 0, .int .i64 0, .int .i64 0, .slice none 0 0], .int .i64 4]) (by simp [results, Tryz.results10, go_sem, e1, e2, e3, e4, y0, y1, y2, y3, y4, y5, y6, z0, z1, z2, z3, z4, z5, z6]) rfl ⟨.slice none 0 0, by rw [HG.out.1, HG.out.2]; rfl, by rw [HG.out.1]; exact OwnR.nil _ _, Gr.of (by repeat (first | with_reducible exact HB1.out | with_reducible apply below_alloc | with_reducible refine below_set_le ?_ (by omega) _ | with_reducible refine below_trans ?_ (grown_below _ _)))⟩
      · rw [hM] at HM
        have hg : goodOp x = false := by rw [HGO.out, hM]; rfl
        have HG := Lib.hid (HNO.out hg); clear hg hM
        go_wp2_with ((go_at_call 38; ((with_reducible refine (HM.out _ inferInstance).mono ?_); rintro _ _ ⟨rfl, g1, rfl⟩)))
        exact bodyPost_ret (v := .tuple #[.agg #[.int .i64 0, .int .u64 0, .int .u64 0, .int .i64 0, .int .i64 0, .int .i64 0, .slice none 0 0], .int .i64 4]) (by simp [results, Tryz.results10, go_sem, e1, e2, e3, e4, y0, y1, y2, y3, y4, y5, y6, z0, z1, z2, z3, z4, z5, z6]) rfl ⟨.slice none 0 0, by rw [HG.out.1, HG.out.2]; rfl, by rw [HG.out.1]; exact OwnR.nil _ _, Gr.of (by repeat (first | with_reducible exact HB1.out | with_reducible apply below_alloc | with_reducible refine below_set_le ?_ (by omega) _ | with_reducible refine below_trans ?_ (grown_below _ _)))⟩
    · have hg : goodOp x = false := by
        cases h : goodOp x with
        | false => rfl
        | true => rw [(HBG.out h).2] at hL; simp at hL
      have HG := Lib.hid (HNO.out hg); clear hg
      generalize (opLeft x).length = q at *
      go_wp2
      exact bodyPost_ret (v := .tuple #[.agg #[.int .i64 0, .int .u64 0, .int .u64 0, .int .i64 0, .int .i64 0, .int .i64 0, .slice none 0 0], .int .i64 4]) (by simp [results, Tryz.results10, go_sem, e1, e2, e3, e4, y0, y1, y2, y3, y4, y5, y6, z0, z1, z2, z3, z4, z5, z6]) rfl ⟨.slice none 0 0, by rw [HG.out.1, HG.out.2]; rfl, by rw [HG.out.1]; exact OwnR.nil _ _, Gr.of (by repeat (first | with_reducible exact HB1.out | with_reducible apply below_alloc | with_reducible refine below_set_le ?_ (by omega) _ | with_reducible refine below_trans ?_ (grown_below _ _)))⟩
end Go.Proofs.YtgjdgafoidppaaaGreatDoor
namespace Go.Proofs.YtgjdgafoidppaaaGreatDoor
open Go.RowKit
set_option linter.unusedVariables false
set_option linter.unusedSimpArgs false
set_option linter.unnecessarySimpa false
theorem hexcut_fin : ∀ i : Fin 16, (⟨#[48, 49, 50, 51, 52, 53, 54, 55, 56, 57, 97, 98, 99, 100, 101, 102]⟩ : ByteArray).extract i.val (i.val + 1) = ⟨#[hexd i.val]⟩ := by decide +kernel
theorem hexcut (i : Nat) (h : i < 16) : (⟨#[48, 49, 50, 51, 52, 53, 54, 55, 56, 57, 97, 98, 99, 100, 101, 102]⟩ : ByteArray).extract i (i + 1) = ⟨#[hexd i]⟩ := hexcut_fin ⟨i, h⟩
theorem u8_wrap (n : Int) : IntKind.u8.wrap n = n % 256 := by simp [IntKind.wrap, IntKind.bits, IntKind.signed]
set_option maxRecDepth 100000 in
set_option maxHeartbeats 2000000 in
theorem rhex_any (A : Option Addr) (n c : Nat) (l : List UInt8) (w : World) (hl : l.length = n) (hnc : n ≤ c) (hn : n ≤ 1000000) (h : Row bv w A l) :
    Calls Tryz.prog 94 #[.slice A n c] w fun e w' => e = .returned (.string ⟨(hexL l).toArray⟩) ∧ Gr w w' := by
  have HL := Lib.hid hl; clear hl
  have H := Lib.hid h; clear h
  go_enter Tryz.func94, Tryz.ntmps94
  go_wp2
  go_loopw [4, 5] (fun v i wr => ∃ k : Nat, i = .int .i64 k ∧ k ≤ n ∧ v = .string ⟨(hexL (l.take k)).toArray⟩ ∧ Gr w wr) (fun _ i _ => n - (intOf i).toNat)
  case atStart => exact ⟨0, rfl, Nat.zero_le _, rfl, Gr.refl _⟩
  case round =>
    obtain ⟨k, rfl, hk, rfl, hg⟩ := hrel
    have HG := Lib.hid hg; clear hg
    by_cases hlt : k < n
    · have hkx : k < l.length := by have := HL.out; omega
      obtain ⟨x, hx⟩ : ∃ x, l[k]? = some x := ⟨l[k], List.getElem?_eq_getElem hkx⟩
      obtain ⟨b, o, rfl, hb, hc⟩ := (H.out.gr HG.out).at_ (by intro e; subst e; simp at hkx)
      have c1 := hc k x hx
      clear hc
      simp only [bv] at c1
      have HX := Lib.hid hx; clear hx hkx
      have hu := x.toNat_lt
      generalize hxu : x.toNat = u at c1 hu
      have HU := Lib.hid hxu; clear hxu
      have hu2 : u < 256 := by omega
      have hsl : (hexL (l.take k)).length ≤ 2000000 := by rw [hexL_len, List.length_take]; omega
      generalize hhs : hexL (l.take k) = hs at *
      have HHS := Lib.hid hhs; clear hhs
      have q1 : IntKind.u8.wrap ((u : Int) / 16) = ((u / 16 : Nat) : Int) := by rw [u8_wrap]; omega
      have q2 : IntKind.u8.wrap (((u / 16 : Nat) : Int) + 1) = ((u / 16 + 1 : Nat) : Int) := by rw [u8_wrap]; omega
      have r1 : IntKind.u8.wrap ((u : Int) % 16) = ((u % 16 : Nat) : Int) := by rw [u8_wrap]; omega
      have r2 : IntKind.u8.wrap (((u % 16 : Nat) : Int) + 1) = ((u % 16 + 1 : Nat) : Int) := by rw [u8_wrap]; omega
      have x1 := hexcut (u / 16) (by omega)
      have x2 := hexcut (u % 16) (by omega)
      have d1 : u / 16 < 16 := by omega
      have d2 : u % 16 < 16 := by omega
      generalize hua : u / 16 = ua at *
      have HUA := Lib.hid hua; clear hua
      have X2 := Lib.hid x2
      go_wp2
      go_region
      go_wp2
      go_roundw
      case rel =>
        refine ⟨k + 1, by go_num, by omega, ?_, HG.out.trans (Gr.of (Below.refl _ _).drew)⟩
        have e1 : l.take (k + 1) = l.take k ++ [x] := by rw [List.take_add_one, HX.out]; rfl
        rw [e1, hexL_snoc, HHS.out, HU.out, HUA.out]
        have := X2.out
        try simp only [this]
        apply congrArg
        apply ByteArray.ext
        simp
      case measure => simp [intOf]; omega
    · have hkn : k = n := by omega
      have e1 : l.take k = l := List.take_of_length_le (by have := HL.out; omega)
      rw [e1]
      go_wp2
      go_ret
      exact ⟨rfl, HG.out⟩
theorem join_snoc44 (ls : List (List UInt8)) (hne : ls ≠ []) (x : List UInt8) : Lib.join (ls ++ [x]) [44] = Lib.join ls [44] ++ [44] ++ x := by
  induction ls with
  | nil => exact absurd rfl hne
  | cons a ls ih =>
    cases ls with
    | nil => simp [join_one, join_two]
    | cons b ls =>
      have := ih (by simp)
      rw [List.cons_append, List.cons_append, join_two, ← List.cons_append, this, join_two]
      simp [List.append_assoc]
theorem join_take_le (ls : List (List UInt8)) (k : Nat) : (Lib.join (ls.take k) [44]).length ≤ (Lib.join ls [44]).length := by
  induction ls generalizing k with
  | nil => simp
  | cons a ls ih =>
    cases k with
    | zero => simp [Lib.join]
    | succ k =>
      cases ls with
      | nil => simp
      | cons b ls =>
        cases k with
        | zero => simp [join_one, join_two]
        | succ k =>
          have := ih (k + 1)
          rw [List.take_succ_cons, List.take_succ_cons, join_two, join_two, ← List.take_succ_cons]
          simp only [List.length_append]
          omega
set_option maxRecDepth 100000 in
set_option maxHeartbeats 2000000 in
theorem rrow_any (A : Option Addr) (n c : Nat) (xs : List ByteArray) (w : World) (hl : xs.length = n) (hnc : n ≤ c) (hn : n ≤ 1000000) (hj : (Lib.join (xs.map (·.data.toList)) [44]).length ≤ 1000000000) (h : Row Value.string w A xs) :
    Calls Tryz.prog 63 #[.slice A n c] w fun e w' => e = .returned (.string ⟨(rowL xs).toArray⟩) ∧ Gr w w' := by
  rcases Nat.eq_zero_or_pos n with h0 | h0
  · subst h0
    obtain rfl : xs = [] := List.eq_nil_of_length_eq_zero hl
    go_enter Tryz.func63, Tryz.ntmps63
    go_wp2
    go_ret
    exact ⟨rfl, Gr.refl _⟩
  · have hx0 : xs ≠ [] := by rintro rfl; simp at hl; omega
    obtain ⟨b, o, rfl, hb, hc⟩ := h.at_ hx0
    obtain ⟨x0, hx⟩ : ∃ x, xs[0]? = some x := ⟨xs[0]'(by omega), List.getElem?_eq_getElem _⟩
    have c0 : w.cell? ⟨b, o, none⟩ = some (.string x0) := hc 0 x0 hx
    have HC := Lib.hid hc; have HL := Lib.hid hl; have HJ := Lib.hid hj; have HX0 := Lib.hid hx; have HNE := Lib.hid hx0
    clear hc hl hj h hx hx0
    have f0 : ((n : Int) == 0) = false := by simp; omega
    have f1 : (0 : Int) < (n : Int) := by omega
    go_enter Tryz.func63, Tryz.ntmps63
    go_wp2
    go_loopw [3, 4] (fun v i wr => ∃ k : Nat, i = .int .i64 k ∧ 1 ≤ k ∧ k ≤ n ∧ v = .string ⟨(Lib.join ((xs.take k).map (·.data.toList)) [44]).toArray⟩ ∧ Gr w wr) (fun _ i _ => n - (intOf i).toNat)
    case atStart =>
      refine ⟨1, rfl, Nat.le_refl _, h0, ?_, Gr.refl _⟩
      have : xs.take 1 = [x0] := by
        have := HX0.out
        cases xs with
        | nil => cases this
        | cons y r => simp at this; subst this; rfl
      rw [this]
      simp [join_one]
    case round =>
      obtain ⟨k, rfl, hk1, hk, rfl, hg⟩ := hrel
      by_cases hlt : k < n
      · have hkx : k < xs.length := by have := HL.out; omega
        obtain ⟨x, hx⟩ : ∃ x, xs[k]? = some x := ⟨xs[k], List.getElem?_eq_getElem hkx⟩
        have c1 := (hg.below.cell (p := ⟨b, o + k, none⟩) hb).trans (HC.out k x hx)
        have e1 : (xs.take (k + 1)).map (·.data.toList) = (xs.take k).map (·.data.toList) ++ [x.data.toList] := by rw [List.take_add_one, hx]; simp
        have hne : (xs.take k).map (·.data.toList) ≠ [] := by
          intro e
          have := congrArg List.length e
          rw [List.length_map, List.length_take, List.length_nil] at this
          omega
        have e2 := join_snoc44 _ hne x.data.toList
        rw [← e1] at e2
        have hle := join_take_le (xs.map (·.data.toList)) (k + 1)
        rw [← List.map_take, e2] at hle
        have hj2 := HJ.out
        simp only [List.length_append, List.length_singleton] at hle
        have E2 := Lib.hid e2; clear e2 e1 hne hx hkx
        have hxs : x.data.toList.length = x.size := (Lib.size_eq x).symm
        rw [hxs] at hle
        have HG := Lib.hid hg; clear hg
        generalize hJ : Lib.join ((xs.take k).map (·.data.toList)) [44] = js at *
        have hjs : js.length ≤ 1000000000 := by omega
        have hxz : x.size ≤ 1000000000 := by omega
        clear hle hj2 hxs
        go_wp2
        go_roundw
        case rel =>
          refine ⟨k + 1, by go_num, by omega, by omega, ?_, HG.out⟩
          rw [E2.out]
          apply congrArg
          apply ByteArray.ext
          simp
        case measure => simp [intOf]; omega
      · have hkn : k = n := by omega
        have e1 : xs.take k = xs := List.take_of_length_le (by have := HL.out; omega)
        rw [e1]
        have HG := Lib.hid hg; clear hg
        go_wp2
        go_ret
        exact ⟨by rw [rowL, if_neg HNE.out]; rfl, HG.out⟩
end Go.Proofs.YtgjdgafoidppaaaGreatDoor
namespace Go.Proofs.YtgjdgafoidppaaaGreatDoor
open Go.RowKit
set_option linter.unusedVariables false
set_option linter.unusedSimpArgs false
set_option linter.unnecessarySimpa false
set_option maxRecDepth 100000 in
set_option maxHeartbeats 4000000 in
theorem rdata_any (A : Option Addr) (n c : Nat) (l : List UInt8) (w : World) (hl : l.length = n) (hnc : n ≤ c) (hn : n ≤ 60000) (hr : Row bv w A l) :
    Calls Tryz.prog 48 #[.slice A n c] w fun e w' => e = .returned (.string ⟨(dataL l).toArray⟩) ∧ Gr w w' := by
  have HR := Lib.hid hr; clear hr
  have HL := Lib.hid hl; clear hl
  go_enter Tryz.func48, Tryz.ntmps48
  go_wp2
  go_loopw [3, 4] (fun v i wr => ∃ k : Nat, i = .int .i64 k ∧ k ≤ n / 64 ∧ OwnS w.heap.size wr v (secs l k) ∧ Below w.heap.size w wr) (fun _ i _ => n - (intOf i).toNat)
  case atStart => exact ⟨0, rfl, Nat.zero_le _, OwnS.nil _ _, Below.refl _ _⟩
  case round =>
    obtain ⟨k, rfl, hk, hown, hbw⟩ := hrel
    have hq0 : Int.tdiv (n : Int) 64 = ((n / 64 : Nat) : Int) := by rw [Int.tdiv_eq_ediv_of_nonneg (by omega)]; omega
    have HOWN := Lib.hid hown; have HB := Lib.hid hbw; clear hown hbw
    have hszw := HB.out.size
    generalize hqq : n / 64 = q at *
    by_cases hlt : k < q
    · have hlen : ((l.drop (64 * k)).take 64).length = 64 := by
        have := HL.out; rw [List.length_take, List.length_drop]; omega
      have hcut : Row bv w (A.map (·.add (64 * k))) ((l.drop (64 * k)).take 64) := HR.out.cut _ _
      obtain ⟨b, o, hA, hb, hc⟩ := HR.out.at_ (by intro e; have := HL.out; rw [e] at this; simp at this; omega)
      subst hA
      have hcell : ∀ (j : Nat) (x : UInt8), ((l.drop (64 * k)).take 64)[j]? = some x → w.cell? ⟨b, o + (64 * k + j), none⟩ = some (bv x) := by
        intro j x hj
        rw [List.getElem?_take] at hj
        split at hj
        · rw [List.getElem?_drop] at hj
          exact hc _ _ hj
        · cases hj
      have hcut2 : ∀ m, Row bv w (some ⟨b, o + 64 * k, none⟩) (((l.drop (64 * k)).take 64).take m) := fun m => by
        have := hcut.cut 0 m
        rw [List.drop_zero] at this
        simpa only [Option.map_some, Go.WideShapes.add_plain, Nat.add_zero] using this
      have hsec : secs l (k + 1) = secs l k ++ [⟨(secL ((l.drop (64 * k)).take 64)).toArray⟩] := secs_succ l k
      have HSEC := Lib.hid hsec; clear hsec
      generalize (l.drop (64 * k)).take 64 = sl at *
      have HC := Lib.hid hcell; have HCUT := Lib.hid hcut2; have HLEN := Lib.hid hlen
      clear hcell hcut2 hlen hcut hc
      go_wp2
      go_loopw [5] (fun i wx => ∃ m : Nat, i = .int .i64 m ∧ m ≤ 64 ∧ Hid (trimZ (sl.take m) = trimZ sl) ∧ wx = wr) (fun i _ => (intOf i).toNat)
      case atStart => exact ⟨64, rfl, Nat.le_refl _, by rw [List.take_of_length_le (by have := HLEN.out; omega)]; exact Lib.hid rfl, rfl⟩
      case round =>
        obtain ⟨m, rfl, hm, hT, rfl⟩ := hrel
        rcases Nat.eq_zero_or_pos m with h0 | h0
        · subst h0
          have e0 : (⟨(secL sl).toArray⟩ : ByteArray) = ⟨#[45]⟩ := by
            have := hT.out
            have e1 : trimZ sl = [] := by rw [← this]; rfl
            simp [secL, e1]
          have E := Lib.hid e0; clear e0
          go_wp2_with (at_builtin; refine wp_append_str rfl _ _ rfl w.heap.size ?vv1 (secs l k) ?hs1 ?own1 _ ⟨#[45]⟩ rfl ?hc1 (by rw [secs_len]; omega) ?hb1 ?_)
          case hs1 => rfl
          case own1 => first | exact HOWN.out.alloc_ _ | exact (HOWN.out.grown_ _).alloc_ _
          case hc1 => simp [go_sem]
          case hb1 => simp; omega
          intro v2 W2 a2
          have hown2 := a2.own
          have hb2 := Below.trans (by repeat (first | with_reducible exact HB.out | with_reducible apply below_alloc | with_reducible refine below_trans ?_ (grown_below _ _))) a2.below
          clear a2
          go_wp2
          go_roundw
          case rel =>
            refine ⟨k + 1, by go_num, by omega, ?_, hb2⟩
            rw [HSEC.out, E.out]
            exact hown2
          case measure => simp [intOf]; omega
        · obtain ⟨q2, rfl⟩ : ∃ q, m = q + 1 := ⟨m - 1, by omega⟩
          have hqx : q2 < sl.length := by have := HLEN.out; omega
          obtain ⟨x, hx⟩ : ∃ x, sl[q2]? = some x := ⟨sl[q2], List.getElem?_eq_getElem hqx⟩
          have c1 := (HB.out.cell (p := ⟨b, o + (64 * k + q2), none⟩) hb).trans (HC.out q2 x hx)
          simp only [bv] at c1
          have HX := Lib.hid hx; clear hx hqx h0
          have i1 : 64 * (k : Int) + ((q2 + 1 : Nat) : Int) - 1 = ((64 * k + q2 : Nat) : Int) := by omega
          by_cases hz : x = 0
          · have hxu : x.toNat = 0 := by rw [hz]; rfl
            have hb0 : ((x.toNat : Int) == 0) = true := by simp [hxu]
            have HZ := Lib.hid hz; clear hz hxu
            go_wp2
            go_roundw
            case rel => exact ⟨q2, by go_num, by omega, by
              have := hT.out
              rw [take_snoc1 HX.out, HZ.out, trimZ_zero] at this
              exact Lib.hid this, trivial⟩
            case measure => simp [intOf]
          · have hxu : x.toNat ≠ 0 := fun h => hz (UInt8.toNat_inj.1 (by simpa using h))
            have hb0 : ((x.toNat : Int) == 0) = false := by simp; omega
            have e1 : trimZ sl = sl.take (q2 + 1) := by
              have := hT.out
              rw [take_snoc1 HX.out, trimZ_ne _ _ hz] at this
              rw [take_snoc1 HX.out]; exact this.symm
            have e2 : (⟨(secL sl).toArray⟩ : ByteArray) = ⟨(hexL (sl.take (q2 + 1))).toArray⟩ := by
              have hne : sl.take (q2 + 1) ≠ [] := by rw [take_snoc1 HX.out]; simp
              rw [secL, e1, if_neg hne]
            have E := Lib.hid e2; clear e2 e1 hz hxu hT
            have hlt2 : (sl.take (q2 + 1)).length = q2 + 1 := by
              have := HLEN.out; rw [List.length_take]; omega
            have HT := Lib.hid hlt2; clear hlt2
            have hHX : ∀ c', q2 + 1 ≤ c' → Calls Tryz.prog 94 #[.slice (some ⟨b, o + 64 * k, none⟩) (q2 + 1) c'] wr fun e w' => e = .returned (.string ⟨(hexL (sl.take (q2 + 1))).toArray⟩) ∧ Gr wr w' :=
              fun c' hc' => rhex_any _ _ _ _ wr HT.out hc' (by omega) ((HCUT.out (q2 + 1)).gr (Gr.of HB.out))
            have HHX := Lib.hid (hHX (c - 64 * k) (by omega)); clear hHX
            go_wp2_with ((go_at_call 94; ((with_reducible refine HHX.out.mono ?_))))
            rintro _ W1 ⟨rfl, hg⟩
            have hg1 := hg.below.size
            go_wp2_with (at_builtin; refine wp_append_str rfl _ _ rfl w.heap.size ?vv2 (secs l k) ?hs2 ?own2 _ ⟨(hexL (sl.take (q2 + 1))).toArray⟩ rfl ?hc2 (by rw [secs_len]; omega) ?hb2 ?_)
            case hs2 => rfl
            case own2 => first | exact HOWN.out.alloc_ _ | exact (HOWN.out.gr hg).alloc_ _
            case hc2 => simp [go_sem]
            case hb2 => simp; omega
            intro v2 W2 a2
            have hown2 := a2.own
            have hb2 := Below.trans (below_alloc (below_trans HB.out hg.below) _) a2.below
            clear a2
            go_wp2
            go_roundw
            case rel =>
              refine ⟨k + 1, by go_num, by omega, ?_, hb2⟩
              rw [HSEC.out, E.out]
              exact hown2
            case measure => simp [intOf]; omega
    · obtain rfl : k = q := by omega
      have e0 : dataL l = rowL (secs l k) := by rw [dataL, HL.out, hqq]
      have E := Lib.hid e0; clear e0
      have hJ := Lib.hid (secs_join l k)
      have hSL := Lib.hid (secs_len l k)
      obtain ⟨VA, vc, hv, hvc, hrow⟩ := HOWN.out.form
      rw [secs_len] at hvc hv
      subst hv
      have HROW := Lib.hid hrow; clear hrow
      have HRW := Lib.hid (rrow_any VA k vc (secs l k) wr hSL.out hvc (by omega) (by have := hJ.out; omega) HROW.out)
      go_wp2_with ((go_at_call 63; ((with_reducible refine HRW.out.mono ?_))))
      rintro _ W1 ⟨rfl, hg⟩
      go_wp2
      go_ret
      exact ⟨by rw [E.out]; rfl, Gr.of (below_trans HB.out hg.below)⟩
end Go.Proofs.YtgjdgafoidppaaaGreatDoor
namespace Go.Proofs.YtgjdgafoidppaaaGreatDoor
open Go.RowKit
set_option linter.unusedVariables false
set_option linter.unusedSimpArgs false
set_option linter.unnecessarySimpa false
def hexw (u : Nat) : Int := if hexv u < 0 then 16 else hexv u
theorem digit_any (u : Nat) (hu : u < 256) (w : World) : Calls Tryz.prog 123 #[.int .u8 u] w fun e w' => e = .returned (.int .i64 (hexw u)) ∧ Gr w w' := by
  by_cases h1 : 48 ≤ u
  · by_cases h2 : u ≤ 57
    · have e : hexw u = (u : Int) - 48 := by have hv : hexv u = (u : Int) - 48 := by { unfold hexv; rw [if_pos ⟨h1, h2⟩] }; rw [hexw, hv, if_neg (by omega)]
      rw [e]
      have d1 : decide ((48 : Int) ≤ (u : Int)) = true := decide_eq_true (by omega)
      have d2 : decide ((u : Int) ≤ 57) = true := decide_eq_true (by omega)
      have q1 : IntKind.u8.wrap ((u : Int) - 48) = (u : Int) - 48 := by rw [u8_wrap]; omega
      have q2 : IntKind.i64.wrap ((u : Int) - 48) = (u : Int) - 48 := by rw [IntKind.wrap_i64]; omega
      go_enter Tryz.func123, Tryz.ntmps123
      go_wp2
      go_ret
      exact ⟨rfl, Gr.refl _⟩
    · have d1 : decide ((48 : Int) ≤ (u : Int)) = true := decide_eq_true (by omega)
      have d2 : decide ((u : Int) ≤ 57) = false := decide_eq_false (by omega)
      by_cases h3 : 97 ≤ u
      · have d3 : decide ((97 : Int) ≤ (u : Int)) = true := decide_eq_true (by omega)
        by_cases h4 : u ≤ 102
        · have d4 : decide ((u : Int) ≤ 102) = true := decide_eq_true (by omega)
          have e : hexw u = (u : Int) - 87 := by have hv : hexv u = (u : Int) - 87 := by { unfold hexv; rw [if_neg (by omega), if_pos ⟨h3, h4⟩] }; rw [hexw, hv, if_neg (by omega)]
          rw [e]
          have q1 : IntKind.u8.wrap ((u : Int) - 97) = (u : Int) - 97 := by rw [u8_wrap]; omega
          have q2 : IntKind.i64.wrap ((u : Int) - 97) = (u : Int) - 97 := by rw [IntKind.wrap_i64]; omega
          have q3 : (u : Int) - 97 + 10 = (u : Int) - 87 := by omega
          go_enter Tryz.func123, Tryz.ntmps123
          go_wp2
          go_ret
          exact ⟨by rw [← q3]; rfl, Gr.refl _⟩
        · have d4 : decide ((u : Int) ≤ 102) = false := decide_eq_false (by omega)
          have e : hexw u = 16 := by have hv : hexv u = -1 := by { unfold hexv; rw [if_neg (by omega), if_neg (by omega)] }; rw [hexw, hv, if_pos (by omega)]
          rw [e]
          go_enter Tryz.func123, Tryz.ntmps123
          go_wp2
          go_ret
          exact ⟨rfl, Gr.refl _⟩
      · have d3 : decide ((97 : Int) ≤ (u : Int)) = false := decide_eq_false (by omega)
        have e : hexw u = 16 := by have hv : hexv u = -1 := by { unfold hexv; rw [if_neg (by omega), if_neg (by omega)] }; rw [hexw, hv, if_pos (by omega)]
        rw [e]
        go_enter Tryz.func123, Tryz.ntmps123
        go_wp2
        go_ret
        exact ⟨rfl, Gr.refl _⟩
  · have d1 : decide ((48 : Int) ≤ (u : Int)) = false := decide_eq_false (by omega)
    have d3 : decide ((97 : Int) ≤ (u : Int)) = false := decide_eq_false (by omega)
    have e : hexw u = 16 := by have hv : hexv u = -1 := by { unfold hexv; rw [if_neg (by omega), if_neg (by omega)] }; rw [hexw, hv, if_pos (by omega)]
    rw [e]
    go_enter Tryz.func123, Tryz.ntmps123
    go_wp2
    go_ret
    exact ⟨rfl, Gr.refl _⟩
theorem getD_none_nil : (none : Option (List UInt8)).getD [] = [] := rfl
set_option maxRecDepth 100000 in
set_option maxHeartbeats 4000000 in
theorem runhex_any (x : ByteArray) (hx : x.size ≤ 1000000) (w : World) :
    Calls Tryz.prog 109 #[.string x] w fun e w' => ∃ v, e = .returned (.tuple #[v, .bool (unhexL x.data.toList).isSome]) ∧ OwnR bv 5 w.heap.size w' v ((unhexL x.data.toList).getD []) ∧ Below w.heap.size w w' := by
  have hL : x.data.toList.length = x.size := (Lib.size_eq x).symm
  by_cases ho : x.size % 2 = 1
  · have d1 : (((x.size : Int) % 2) == 1) = true := by simp; omega
    have hn := unhexL_odd x.data.toList (by omega)
    have HN := Lib.hid hn; clear hn
    go_enter Tryz.func109, Tryz.ntmps109
    go_wp2
    go_ret2
    exact ⟨.slice none 0 0, by rw [HN.out]; rfl, by rw [HN.out]; exact OwnR.nil _ _, Below.refl _ _⟩
  · have d1 : (((x.size : Int) % 2) == 1) = false := by simp; omega
    go_enter Tryz.func109, Tryz.ntmps109
    go_wp2
    go_loopw [4, 5] (fun v i wr => ∃ (k : Nat) (out : List UInt8), i = .int .i64 (2 * k : Nat) ∧ 2 * k ≤ x.size ∧ OwnR bv 5 w.heap.size wr v out ∧ unhexL (x.data.toList.take (2 * k)) = some out ∧ out.length ≤ k ∧ Below w.heap.size w wr) (fun _ i _ => x.size - (intOf i).toNat)
    case atStart => exact ⟨0, [], rfl, Nat.zero_le _, OwnR.nil _ _, rfl, Nat.le_refl _, Below.refl _ _⟩
    case round =>
      obtain ⟨k, out, rfl, hk, hown, hun, hol, hbw⟩ := hrel
      have hsz := hbw.size
      have HUN := Lib.hid hun; clear hun
      have HOL := Lib.hid hol
      generalize h2k : 2 * k = i at *
      have H2K := Lib.hid h2k; clear h2k
      by_cases hlt : i < x.size
      · have hlt2 : i + 1 < x.size := by have := H2K.out; omega
        have hA : (x[i]'hlt).toNat < 256 := (x[i]'hlt).toNat_lt
        have hB : (x[i + 1]'hlt2).toNat < 256 := (x[i + 1]'hlt2).toNat_lt
        -- ROUNDS
        have hj0 : (0 : Int) ≤ (i : Int) + 1 := by omega
        have hj1 : (i : Int) + 1 < (x.size : Int) := by omega
        have hj2 : ((i : Int) + 1).toNat = i + 1 := by omega
        have hl1 : i < x.data.toList.length := by omega
        have hl2 : i + 1 < x.data.toList.length := by omega
        have ea : x.data.toList[i] = x[i]'hlt := rfl
        have eb : x.data.toList[i + 1] = x[i + 1]'hlt2 := rfl
        have ra := hexv_range (x[i]'hlt).toNat
        have rb := hexv_range (x[i + 1]'hlt2).toNat
        have HB1 := Lib.hid (fun (h : hexv (x.data.toList[i]).toNat < 0) => unhexL_bad x.data.toList (x.data.toList[i]) (List.getElem_mem hl1) h)
        have HB2 := Lib.hid (fun (h : hexv (x.data.toList[i + 1]).toNat < 0) => unhexL_bad x.data.toList (x.data.toList[i + 1]) (List.getElem_mem hl2) h)
        have HS0 := Lib.hid (unhexL_snoc (x.data.toList.take (i)) out (x.data.toList[i]) (x.data.toList[i + 1]) HUN.out)
        have htk : x.data.toList.take (i + 2) = x.data.toList.take (i) ++ [x.data.toList[i], x.data.toList[i + 1]] := by
          rw [show i + 2 = i + 1 + 1 by omega, List.take_succ_eq_append_getElem hl2, List.take_succ_eq_append_getElem hl1, List.append_assoc]; rfl
        rw [← htk, ea, eb] at HS0
        rw [ea] at HB1
        rw [eb] at HB2
        clear htk ea eb
        rcases Int.lt_or_le (hexv (x[i]'hlt).toNat) 0 with hna | hna
        · have HN := Lib.hid (HB1.out hna)
          have HP := Lib.hid (show hexw (x[i]'hlt).toNat = 16 by rw [hexw, if_pos hna])
          obtain ⟨q, hq⟩ : ∃ q, hexw (x[i + 1]'hlt2).toNat = q := ⟨_, rfl⟩
          have HQ := Lib.hid hq; clear hq hna ra rb
          have HD1 := Lib.hid (fun W => digit_any (x[i]'hlt).toNat hA W)
          have HD2 := Lib.hid (fun W => digit_any (x[i + 1]'hlt2).toNat hB W)
          rw [HP.out] at HD1
          rw [HQ.out] at HD2
          go_wp2
          refine wp_region_grow (by kernel_rfl) (by kernel_rfl) ?_
          repeat (go_big_quiet_step ((first | (go_at_call 123; with_reducible exact grow_call (HD1.out _)) | (go_at_call 123; with_reducible exact grow_call (HD2.out _)))))
          refine wpQuiet_nil ?_
          intro g
          go_wp2
          go_ret2
          exact ⟨.slice none 0 0, by rw [HN.out]; rfl, by rw [HN.out]; exact OwnR.nil _ _, below_trans hbw (grown_below _ _)⟩
        · obtain ⟨p, hp⟩ : ∃ p, hexv (x[i]'hlt).toNat = p := ⟨_, rfl⟩
          have HP := Lib.hid (show hexw (x[i]'hlt).toNat = p by rw [hexw, if_neg (by omega), hp])
          have d1 : decide ((15 : Int) < p) = false := decide_eq_false (by omega)
          have hp0 : 0 ≤ p ∧ p ≤ 15 := by omega
          rcases Int.lt_or_le (hexv (x[i + 1]'hlt2).toNat) 0 with hnb | hnb
          · have HN := Lib.hid (HB2.out hnb)
            have HQ := Lib.hid (show hexw (x[i + 1]'hlt2).toNat = 16 by rw [hexw, if_pos hnb])
            clear hnb hna ra rb hp
            have HD1 := Lib.hid (fun W => digit_any (x[i]'hlt).toNat hA W)
            have HD2 := Lib.hid (fun W => digit_any (x[i + 1]'hlt2).toNat hB W)
            rw [HP.out] at HD1
            rw [HQ.out] at HD2
            go_wp2
            refine wp_region_grow (by kernel_rfl) (by kernel_rfl) ?_
            repeat (go_big_quiet_step ((first | (go_at_call 123; with_reducible exact grow_call (HD1.out _)) | (go_at_call 123; with_reducible exact grow_call (HD2.out _)))))
            refine wpQuiet_nil ?_
            intro g
            go_wp2
            go_ret2
            exact ⟨.slice none 0 0, by rw [HN.out]; rfl, by rw [HN.out]; exact OwnR.nil _ _, below_trans hbw (grown_below _ _)⟩
          · obtain ⟨q, hq⟩ : ∃ q, hexv (x[i + 1]'hlt2).toNat = q := ⟨_, rfl⟩
            have HQ := Lib.hid (show hexw (x[i + 1]'hlt2).toNat = q by rw [hexw, if_neg (by omega), hq])
            have d2 : decide ((15 : Int) < q) = false := decide_eq_false (by omega)
            have hq0 : 0 ≤ q ∧ q ≤ 15 := by omega
            have hS := HS0.out hna hnb
            rw [hp, hq] at hS
            have HS := Lib.hid hS
            have hwr : IntKind.u8.wrap (16 * p + q) = 16 * p + q := by rw [u8_wrap]; omega
            have hwi : IntKind.i64.wrap (16 * p) = 16 * p := by rw [IntKind.wrap_i64]; omega
            have hwj : IntKind.i64.wrap (16 * p + q) = 16 * p + q := by rw [IntKind.wrap_i64]; omega
            clear hS hnb hna ra rb hp hq
            have HD1 := Lib.hid (fun W => digit_any (x[i]'hlt).toNat hA W)
            have HD2 := Lib.hid (fun W => digit_any (x[i + 1]'hlt2).toNat hB W)
            rw [HP.out] at HD1
            rw [HQ.out] at HD2
            go_wp2
            refine wp_region_grow (by kernel_rfl) (by kernel_rfl) ?_
            repeat (go_big_quiet_step ((first | (go_at_call 123; with_reducible exact grow_call (HD1.out _)) | (go_at_call 123; with_reducible exact grow_call (HD2.out _)))))
            refine wpQuiet_nil ?_
            intro g
            go_wp2_with (at_builtin; refine wp_append_byte rfl _ _ rfl w.heap.size ?vv out ?hs1 ?own1 _ 0 1 [UInt8.ofNat (16 * p + q).toNat] 1 rfl rfl ?hc1 ?hl1 ?hb1 ?_)
            case hs1 => rfl
            case own1 => exact (hown.grown_ g).alloc_ _
            case hc1 =>
              intro j y hj
              match j, hj with
              | 0, hj =>
                simp only [List.getElem?_cons_zero, Option.some.injEq] at hj
                subst hj
                have e8 : ((UInt8.ofNat (16 * p + q).toNat).toNat : Int) = 16 * p + q := by
                  rw [UInt8.toNat_ofNat', Nat.mod_eq_of_lt (by omega)]; omega
                simp only [bv, e8]
                simp [go_sem]
            case hl1 =>
              have h9 := HOL.out
              have h7 := H2K.out
              have h8 : out.length + 1 ≤ 100000000 := by omega
              exact h8
            case hb1 => exact Nat.le_trans hsz (Nat.le_trans (grown_below _ g).size (by simp))
            intro v2 w2 a2
            have hown3 := a2.own
            have hbw3 : Below w.heap.size w w2 := Below.trans ((below_trans hbw (grown_below _ g)).alloc (Nat.le_trans hsz (grown_below _ g).size) _) a2.below
            clear a2
            go_wp2
            go_roundw
            case rel =>
              have e9 := H2K.out
              have e8 : 2 * (k + 1) = i + 2 := by omega
              refine ⟨k + 1, _, by rw [e8]; go_num, by omega, hown3, ?_, by have h9 := HOL.out; simp only [List.length_append, List.length_singleton]; omega, hbw3⟩
              rw [e8]; exact HS.out
            case measure => simp [intOf]; omega
      · have hkn : x.data.toList.take (i) = x.data.toList := List.take_of_length_le (by omega)
        have hun := HUN.out
        rw [hkn] at hun
        have HN := Lib.hid hun; clear hun hkn
        go_wp2
        go_ret2
        exact ⟨_, by rw [HN.out]; rfl, by rw [HN.out]; exact hown, hbw⟩
end Go.Proofs.YtgjdgafoidppaaaGreatDoor
namespace Go.Proofs.YtgjdgafoidppaaaGreatDoor
open Go.RowKit
set_option linter.unusedVariables false
set_option linter.unusedSimpArgs false
set_option linter.unnecessarySimpa false
theorem kinds_any (w : World) : Calls Tryz.prog 45 #[] w fun e w' => e = .returned (.slice (some ⟨w.heap.size, 0, none⟩) 9 9) ∧ w' = w.alloc (.cells #[.string ⟨#[99, 114, 101, 97, 116, 101]⟩, .string ⟨#[100, 101, 108, 101, 116, 101]⟩, .string ⟨#[114, 101, 115, 105, 122, 101]⟩, .string ⟨#[115, 110, 97, 112]⟩, .string ⟨#[119, 114, 105, 116, 101]⟩, .string ⟨#[122, 101, 114, 111]⟩, .string ⟨#[100, 105, 115, 99, 97, 114, 100]⟩, .string ⟨#[102, 108, 117, 115, 104]⟩, .string ⟨#[114, 101, 97, 100]⟩] 9) := by
  go_enter Tryz.func45, Tryz.ntmps45
  go_wp2
  go_ret
  exact ⟨rfl, rfl⟩
set_option maxHeartbeats 2000000 in
theorem place_any (b o c : Nat) (xs : List ByteArray) (n : Nat) (hn : xs.length = n) (y : ByteArray) (w : World) (hbig : n ≤ 1000000) (hc : ∀ j z, xs[j]? = some z → w.cell? ⟨b, o + j, none⟩ = some (.string z)) :
    Calls Tryz.prog 57 #[.slice (some ⟨b, o, none⟩) n c, .string y] w fun e w' => e = .returned (.int .i64 (Lib.idxOfS xs y + 1)) ∧ w = w' := by
  have HC := Lib.hid hc; clear hc
  have HN := Lib.hid hn; clear hn
  go_enter Tryz.func57, Tryz.ntmps57
  go_wp2
  go_loopw [5] (fun i wr => ∃ k : Nat, i = .int .i64 k ∧ k ≤ n ∧ Hid (∀ j, j < k → xs.getD j ByteArray.empty ≠ y) ∧ wr = w) (fun i _ => n - (intOf i).toNat)
  case atStart => exact ⟨0, rfl, Nat.zero_le _, Lib.hid (fun j hj => by omega), rfl⟩
  case round =>
    obtain ⟨k, rfl, hk, hne, rfl⟩ := hrel
    by_cases hlt : k < n
    · have hkx : k < xs.length := by have := HN.out; omega
      obtain ⟨z, hz⟩ : ∃ z, xs[k]? = some z := ⟨xs[k], List.getElem?_eq_getElem hkx⟩
      have c1 := HC.out k z hz
      have hzd : xs.getD k ByteArray.empty = z := by rw [List.getD_eq_getElem?_getD, hz]; rfl
      have HZ := Lib.hid hzd; clear hzd hz hkx
      rcases Bool.eq_false_or_eq_true (z.toList == y.toList) with hb | hb
      · have hzy : z = y := by
          have := eq_of_beq hb
          rw [Lib.toList_data, Lib.toList_data] at this
          exact ByteArray.ext (Array.ext' this)
        have e : Lib.idxOfS (xs.take n) y = k := Lib.idxOfS_hit xs n k y hlt (by have := HN.out; omega) (by rw [HZ.out, hzy]) hne.out
        rw [List.take_of_length_le (by have := HN.out; omega)] at e
        have E := Lib.hid e; clear e hzy
        go_wp2
        go_ret
        exact ⟨by rw [E.out]; rfl, rfl⟩
      · have hzy : z ≠ y := fun h => by rw [h] at hb; simp at hb
        have HZY := Lib.hid hzy; clear hzy
        go_wp2
        go_roundw
        case rel => exact ⟨k + 1, by go_num, by omega, Lib.hid (fun j hj => by
          rcases Nat.lt_or_ge j k with h | h
          · exact hne.out j h
          · obtain rfl : j = k := by omega
            rw [HZ.out]; exact HZY.out), trivial⟩
        case measure => simp [intOf]; omega
    · obtain rfl : k = n := by omega
      have e : Lib.idxOfS (xs.take k) y = -1 := Lib.idxOfS_miss xs k y hne.out
      rw [List.take_of_length_le (by have := HN.out; omega)] at e
      have E := Lib.hid e; clear e
      go_wp2
      go_ret
      exact ⟨by rw [E.out]; rfl, rfl⟩
end Go.Proofs.YtgjdgafoidppaaaGreatDoor
