/- script.MayAct (all kinds). Conditions: what is read stands in memory. script.actText, script.ActText. Conditions: what is read stands in memory; strconv's table stands. An operation's text, cut and read again. Plain Lean, no program in sight. script.OpOf: the operation of a text. Conditions: a text of at most 200000 bytes; the tables stand. The reference's Hex, digit, Unhex, row, DataText, data. Conditions: what is read stands in memory; at most 10^6 bytes. The reference's DataText. Conditions: what is read stands in memory; at most 60000 bytes. 'known' of layer 26: the chapter's rows. Conditions: strconv's table stands. A row of bytes appended to one of the call's own, be the source empty or not. Conditions: what is read stands in memory. A row of bytes as a string. Conditions: what is read stands in memory. Arguments that hold slices, opened: an operation, an act. Conditions: none. -/
import Derived.Test.YtgjdgafoidppaaaDoorQ12
import Derived.Test.YtgjdgafoidppaaaDoorQ13
import Derived.Test.YtgjdgafoidppaaaDoorQ04
import Derived.Test.YtgjdgafoidppaaaDoorQ03
import Derived.Test.YtgjdgafoidppaaaDoorQ09
import Derived.Test.YtgjdgafoidppaaaDoorQ10
import Derived.Laws.AppendOwnNone
import Derived.Laws.BytesArg
import Derived.ChangeSlices
namespace Go.Proofs.YtgjdgafoidppaaaDoor
open Go.RowKit
set_option linter.unusedVariables false
set_option linter.unusedSimpArgs false
set_option linter.unnecessarySimpa false
set_option maxRecDepth 100000 in
set_option maxHeartbeats 8000000 in
theorem mayAct_off (xk : Int) (hk : xk < 1 ∨ 10 < xk) (xn xm xOk xOv xOt xOs xOa xOc : Int) (xOD xP : Option Addr) (xOn xOq xpn xpq : Nat) (xf : Bool) (lx : List UInt8) (px : List Int) (w : World) (hx : lx.length = xOn) (hn : xOn ≤ 9223372036854775807) (h1 : Row bv w xOD lx) (hpx : px.length = xpn) (hpn : xpn ≤ 9223372036854775807) (h3 : Row (Value.int .i64) w xP px) : Calls Tryd.prog 22 #[(Value.agg #[.int .i64 xk, .int .i64 xn, .int .i64 xm, .int .i64 xOk, .int .u64 xOv, .int .u64 xOt, .int .i64 xOs, .int .i64 xOa, .int .i64 xOc, .slice xOD xOn xOq, .bool xf, .slice xP xpn xpq])] w fun e w' => e = .returned (.bool (mayActB xk xn xm xOk xOv xOt xOs xOa xOc xf xOn xpn lx px)) ∧ Gr w w' := by
  have en : actPartsB xk = ⟨#[]⟩ := by
    by_cases h0 : xk = 0
    · subst h0; rfl
    · exact actPartsB_off xk (by omega)
  have E0 : mayActB xk xn xm xOk xOv xOt xOs xOa xOc xf xOn xpn lx px = false := by
    unfold mayActB
    repeat (rw [if_neg (by omega)])
  rw [E0]; clear E0
  have h7 : (xk == 7) = false := by simp; omega
  rcases hk with hk | hk
  · have h2 : decide (1 ≤ xk) = false := by simpa using hk
    cases xf
    all_goals
      go_enter Tryd.func22, Tryd.ntmps22
      go_wp2_with (go_at_call 49; ((with_reducible refine (actPartsB_any _ _).mono ?_); rintro _ _ ⟨rfl, g, rfl⟩))
      refine wp_loop_rounds 1 ?_
      rw [rounds_succ]
      go_wp2_with (go_at_call 49; ((with_reducible refine (actPartsB_any _ _).mono ?_); rintro _ _ ⟨rfl, g, rfl⟩))
      go_ret
      exact ⟨rfl, gri⟩
  · have h2 : decide (xk ≤ 10) = false := by simpa using hk
    have h3 : 1 ≤ xk := by omega
    cases xf
    all_goals
      go_enter Tryd.func22, Tryd.ntmps22
      go_wp2_with (go_at_call 49; ((with_reducible refine (actPartsB_any _ _).mono ?_); rintro _ _ ⟨rfl, g, rfl⟩))
      refine wp_loop_rounds 1 ?_
      rw [rounds_succ]
      go_wp2_with (go_at_call 49; ((with_reducible refine (actPartsB_any _ _).mono ?_); rintro _ _ ⟨rfl, g, rfl⟩))
      go_ret
      exact ⟨rfl, gri⟩
theorem mayAct_any (xk : Int) (xn xm xOk xOv xOt xOs xOa xOc : Int) (xOD xP : Option Addr) (xOn xOq xpn xpq : Nat) (xf : Bool) (lx : List UInt8) (px : List Int) (w : World) (hx : lx.length = xOn) (hn : xOn ≤ 9223372036854775807) (h1 : Row bv w xOD lx) (hpx : px.length = xpn) (hpn : xpn ≤ 9223372036854775807) (h3 : Row (Value.int .i64) w xP px) : Calls Tryd.prog 22 #[(Value.agg #[.int .i64 xk, .int .i64 xn, .int .i64 xm, .int .i64 xOk, .int .u64 xOv, .int .u64 xOt, .int .i64 xOs, .int .i64 xOa, .int .i64 xOc, .slice xOD xOn xOq, .bool xf, .slice xP xpn xpq])] w fun e w' => e = .returned (.bool (mayActB xk xn xm xOk xOv xOt xOs xOa xOc xf xOn xpn lx px)) ∧ Gr w w' := by
  by_cases h : xk < 1 ∨ 10 < xk
  · exact mayAct_off xk h xn xm xOk xOv xOt xOs xOa xOc xOD xP xOn xOq xpn xpq xf lx px w hx hn h1 hpx hpn h3
  · have h4 : xk = 1 ∨ xk = 2 ∨ xk = 3 ∨ xk = 4 ∨ xk = 5 ∨ xk = 6 ∨ xk = 7 ∨ xk = 8 ∨ xk = 9 ∨ xk = 10 := by omega
    rcases h4 with rfl | rfl | rfl | rfl | rfl | rfl | rfl | rfl | rfl | rfl
    · exact mayAct_1 xn xm xOk xOv xOt xOs xOa xOc xOD xP xOn xOq xpn xpq xf lx px w hx hn h1 hpx hpn h3
    · exact mayAct_2 xn xm xOk xOv xOt xOs xOa xOc xOD xP xOn xOq xpn xpq xf lx px w hx hn h1 hpx hpn h3
    · exact mayAct_3 xn xm xOk xOv xOt xOs xOa xOc xOD xP xOn xOq xpn xpq xf lx px w hx hn h1 hpx hpn h3
    · exact mayAct_4 xn xm xOk xOv xOt xOs xOa xOc xOD xP xOn xOq xpn xpq xf lx px w hx hn h1 hpx hpn h3
    · exact mayAct_5 xn xm xOk xOv xOt xOs xOa xOc xOD xP xOn xOq xpn xpq xf lx px w hx hn h1 hpx hpn h3
    · exact mayAct_6 xn xm xOk xOv xOt xOs xOa xOc xOD xP xOn xOq xpn xpq xf lx px w hx hn h1 hpx hpn h3
    · exact mayAct_7 xn xm xOk xOv xOt xOs xOa xOc xOD xP xOn xOq xpn xpq xf lx px w hx hn h1 hpx hpn h3
    · exact mayAct_8 xn xm xOk xOv xOt xOs xOa xOc xOD xP xOn xOq xpn xpq xf lx px w hx hn h1 hpx hpn h3
    · exact mayAct_9 xn xm xOk xOv xOt xOs xOa xOc xOD xP xOn xOq xpn xpq xf lx px w hx hn h1 hpx hpn h3
    · exact mayAct_10 xn xm xOk xOv xOt xOs xOa xOc xOD xP xOn xOq xpn xpq xf lx px w hx hn h1 hpx hpn h3
end Go.Proofs.YtgjdgafoidppaaaDoor
namespace Go.Proofs.YtgjdgafoidppaaaDoor
open Go.RowKit
set_option linter.unusedVariables false
set_option linter.unusedSimpArgs false
set_option linter.unnecessarySimpa false
def actPieces (xk xn xm xOk xOv xOt xOs xOa xOc : Int) (xf : Bool) (lx : List UInt8) (px : List Int) : List ByteArray := if xk = 1 then [⟨#[97, 115, 107]⟩, ⟨(Lib.itoa xn).toArray⟩, ⟨(opTextL xOk xOv xOt xOs xOa xOc lx).toArray⟩] else if xk = 2 then [⟨#[99, 97, 114, 114, 121]⟩, ⟨(Lib.itoa xm).toArray⟩] else if xk = 3 then [⟨#[116, 105, 99, 107]⟩, ⟨(Lib.itoa xn).toArray⟩] else if xk = 4 then [⟨#[111, 102, 102]⟩, ⟨(Lib.itoa xn).toArray⟩, ⟨(rowL (pickT px)).toArray⟩] else if xk = 5 then [⟨#[111, 110]⟩, ⟨(Lib.itoa xn).toArray⟩, ⟨(rowL (pickT px)).toArray⟩] else if xk = 6 then [⟨#[102, 117, 115, 101]⟩, ⟨(Lib.itoa xn).toArray⟩, ⟨(Lib.itoa xm).toArray⟩] else if xk = 7 then [(if xf then ⟨#[102, 111, 114, 99, 101]⟩ else ⟨#[108, 101, 97, 100]⟩), ⟨(Lib.itoa xn).toArray⟩] else if xk = 8 then [⟨#[100, 101, 103, 114, 97, 100, 101]⟩, ⟨(Lib.itoa xn).toArray⟩] else if xk = 9 then [⟨#[103, 114, 111, 119]⟩, ⟨(Lib.itoa xn).toArray⟩, ⟨(Lib.itoa xm).toArray⟩] else if xk = 10 then [⟨#[97, 108, 108]⟩] else []
def actTextL (xk xn xm xOk xOv xOt xOs xOa xOc : Int) (xf : Bool) (lx : List UInt8) (px : List Int) : List UInt8 := Lib.join ((actPieces xk xn xm xOk xOv xOt xOs xOa xOc xf lx px).map (·.data.toList)) [32]
theorem mayOpB_kind {xk xv xt xs xa xc : Int} {xn : Nat} {lx : List UInt8} (h : mayOpB xk xv xt xs xa xc xn lx = true) (hx : lx.length = xn) : 1 ≤ xk ∧ xk ≤ 9 ∧ xn ≤ 2048 := by
  have h1 : 1 ≤ xk ∧ xk ≤ 9 := by
    by_cases h2 : 1 ≤ xk ∧ xk ≤ 9
    · exact h2
    · unfold mayOpB at h
      repeat (rw [if_neg (by omega)] at h)
      cases h
  refine ⟨h1.1, h1.2, ?_⟩
  have h3 : xk = 1 ∨ xk = 2 ∨ xk = 3 ∨ xk = 4 ∨ xk = 5 ∨ xk = 6 ∨ xk = 7 ∨ xk = 8 ∨ xk = 9 := by omega
  rcases h3 with rfl | rfl | rfl | rfl | rfl | rfl | rfl | rfl | rfl
  all_goals
    simp [mayOpB, wData] at h
    first
      | omega
      | (have h4 : lx = [] := by simp [h]
         subst h4; simp at hx; omega)
theorem actText_any (xk xn xm xOk xOv xOt xOs xOa xOc : Int) (xOD xP : Option Addr) (xOn xOq xpn xpq : Nat) (xf : Bool) (lx : List UInt8) (px : List Int) (w : World) [hk : Tb w] (n0 : -9223372036854775808 ≤ xn) (n1 : xn ≤ 9223372036854775807) (m0 : -9223372036854775808 ≤ xm) (m1 : xm ≤ 9223372036854775807) (B : Bd xOv xOt xOs xOa xOc) (hx : lx.length = xOn) (hxq : xOn ≤ xOq) (h1 : Row bv w xOD lx) (hpx : px.length = xpn) (hpq : xpn ≤ xpq) (pk : Pk px) (h3 : Row (Value.int .i64) w xP px) (hm : mayActB xk xn xm xOk xOv xOt xOs xOa xOc xf xOn xpn lx px = true) : Calls Tryd.prog 45 #[(Value.agg #[.int .i64 xk, .int .i64 xn, .int .i64 xm, .int .i64 xOk, .int .u64 xOv, .int .u64 xOt, .int .i64 xOs, .int .i64 xOa, .int .i64 xOc, .slice xOD xOn xOq, .bool xf, .slice xP xpn xpq])] w fun e w' => e = .returned (.string ⟨(actTextL xk xn xm xOk xOv xOt xOs xOa xOc xf lx px).toArray⟩) ∧ Gr w w' := by
  have h4 : 1 ≤ xk ∧ xk ≤ 10 := by
    by_cases h2 : 1 ≤ xk ∧ xk ≤ 10
    · exact h2
    · unfold mayActB at hm
      repeat (rw [if_neg (by omega)] at hm)
      cases hm
  have h5 : xk = 1 ∨ xk = 2 ∨ xk = 3 ∨ xk = 4 ∨ xk = 5 ∨ xk = 6 ∨ xk = 7 ∨ xk = 8 ∨ xk = 9 ∨ xk = 10 := by omega
  rcases h5 with rfl | rfl | rfl | rfl | rfl | rfl | rfl | rfl | rfl | rfl
  · have hf : xf = false := by cases xf <;> simp_all [mayActB]
    subst hf
    have ho : mayOpB xOk xOv xOt xOs xOa xOc xOn lx = true := by simp [mayActB] at hm; simp [hm]
    obtain ⟨o1, o9, on⟩ := mayOpB_kind ho hx
    exact actText_1 xn xm xOk xOv xOt xOs xOa xOc xOD xP xOn xOq xpn xpq lx px w n0 n1 m0 m1 B o1 o9 hx hxq (by omega) h1
  · have hf : xf = false := by cases xf <;> simp_all [mayActB]
    subst hf
    exact actText_2 xn xm xOk xOv xOt xOs xOa xOc xOD xP xOn xOq xpn xpq lx px w n0 n1 m0 m1
  · have hf : xf = false := by cases xf <;> simp_all [mayActB]
    subst hf
    exact actText_3 xn xm xOk xOv xOt xOs xOa xOc xOD xP xOn xOq xpn xpq lx px w n0 n1 m0 m1
  · have hf : xf = false := by cases xf <;> simp_all [mayActB]
    subst hf
    have hp : picksB xpn px = true := by simp [mayActB] at hm; simp [hm]
    have hpn : xpn ≤ 1000 := by simp [picksB] at hp; omega
    exact actText_4 xn xm xOk xOv xOt xOs xOa xOc xOD xP xOn xOq xpn xpq lx px w n0 n1 m0 m1 hpx hpq hpn pk h3
  · have hf : xf = false := by cases xf <;> simp_all [mayActB]
    subst hf
    have hp : picksB xpn px = true := by simp [mayActB] at hm; simp [hm]
    have hpn : xpn ≤ 1000 := by simp [picksB] at hp; omega
    exact actText_5 xn xm xOk xOv xOt xOs xOa xOc xOD xP xOn xOq xpn xpq lx px w n0 n1 m0 m1 hpx hpq hpn pk h3
  · have hf : xf = false := by cases xf <;> simp_all [mayActB]
    subst hf
    exact actText_6 xn xm xOk xOv xOt xOs xOa xOc xOD xP xOn xOq xpn xpq lx px w n0 n1 m0 m1
  · cases xf
    · exact actText_7 xn xm xOk xOv xOt xOs xOa xOc xOD xP xOn xOq xpn xpq lx px w n0 n1 m0 m1
    · exact actText_7f xn xm xOk xOv xOt xOs xOa xOc xOD xP xOn xOq xpn xpq lx px w n0 n1 m0 m1
  · have hf : xf = false := by cases xf <;> simp_all [mayActB]
    subst hf
    exact actText_8 xn xm xOk xOv xOt xOs xOa xOc xOD xP xOn xOq xpn xpq lx px w n0 n1 m0 m1
  · have hf : xf = false := by cases xf <;> simp_all [mayActB]
    subst hf
    exact actText_9 xn xm xOk xOv xOt xOs xOa xOc xOD xP xOn xOq xpn xpq lx px w n0 n1 m0 m1
  · have hf : xf = false := by cases xf <;> simp_all [mayActB]
    subst hf
    exact actText_10 xn xm xOk xOv xOt xOs xOa xOc xOD xP xOn xOq xpn xpq lx px w n0 n1 m0 m1
theorem ActText_any (xk xn xm xOk xOv xOt xOs xOa xOc : Int) (xOD xP : Option Addr) (xOn xOq xpn xpq : Nat) (xf : Bool) (lx : List UInt8) (px : List Int) (w : World) [hk : Tb w] (n0 : -9223372036854775808 ≤ xn) (n1 : xn ≤ 9223372036854775807) (m0 : -9223372036854775808 ≤ xm) (m1 : xm ≤ 9223372036854775807) (B : Bd xOv xOt xOs xOa xOc) (hx : lx.length = xOn) (hxq : xOn ≤ xOq) (h1 : Row bv w xOD lx) (hpx : px.length = xpn) (hpq : xpn ≤ xpq) (pk : Pk px) (h3 : Row (Value.int .i64) w xP px) (hn9 : xOn ≤ 9223372036854775807) (hp9 : xpn ≤ 9223372036854775807) : Calls Tryd.prog 26 #[(Value.agg #[.int .i64 xk, .int .i64 xn, .int .i64 xm, .int .i64 xOk, .int .u64 xOv, .int .u64 xOt, .int .i64 xOs, .int .i64 xOa, .int .i64 xOc, .slice xOD xOn xOq, .bool xf, .slice xP xpn xpq])] w fun e w' => e = .returned (.tuple #[.string ⟨(if mayActB xk xn xm xOk xOv xOt xOs xOa xOc xf xOn xpn lx px then actTextL xk xn xm xOk xOv xOt xOs xOa xOc xf lx px else []).toArray⟩, .int .i64 (if mayActB xk xn xm xOk xOv xOt xOs xOa xOc xf xOn xpn lx px then 0 else 2)]) ∧ Gr w w' := by
  have HM := Lib.hid (fun W (g1 : Row bv W xOD lx) (g3 : Row (Value.int .i64) W xP px) => mayAct_any xk xn xm xOk xOv xOt xOs xOa xOc xOD xP xOn xOq xpn xpq xf lx px W hx hn9 g1 hpx hp9 g3)
  rcases Bool.eq_false_or_eq_true (mayActB xk xn xm xOk xOv xOt xOs xOa xOc xf xOn xpn lx px) with hm | hm
  · have HT := Lib.hid (fun W (_ : Tb W) (g1 : Row bv W xOD lx) (g3 : Row (Value.int .i64) W xP px) => actText_any xk xn xm xOk xOv xOt xOs xOa xOc xOD xP xOn xOq xpn xpq xf lx px W n0 n1 m0 m1 B hx hxq g1 hpx hpq pk g3 hm)
    have H1 := Lib.hid h1; clear h1
    have H3 := Lib.hid h3; clear h3
    have HX := Lib.hid hx; clear hx
    have HPX := Lib.hid hpx; clear hpx
    simp only [hm, if_true]
    go_enter Tryd.func26, Tryd.ntmps26
    go_wp2_with (first | (go_at_call 22; ((with_reducible refine (HM.out _ (H1.out.gr (gri)) (H3.out.gr (gri))).mono ?_); rintro _ _ ⟨rfl, g, rfl⟩)) | (go_at_call 45; ((with_reducible refine (HT.out _ inferInstance (H1.out.gr (gri)) (H3.out.gr (gri))).mono ?_); rintro _ _ ⟨rfl, g, rfl⟩)))
    go_ret2
    exact ⟨rfl, gri⟩
  · have H1 := Lib.hid h1; clear h1
    have H3 := Lib.hid h3; clear h3
    have HX := Lib.hid hx; clear hx
    have HPX := Lib.hid hpx; clear hpx
    simp only [hm, Bool.false_eq_true, if_false]
    go_enter Tryd.func26, Tryd.ntmps26
    go_wp2_with (first | (go_at_call 22; ((with_reducible refine (HM.out _ (H1.out.gr (gri)) (H3.out.gr (gri))).mono ?_); rintro _ _ ⟨rfl, g, rfl⟩)))
    go_ret2
    exact ⟨rfl, gri⟩
end Go.Proofs.YtgjdgafoidppaaaDoor
namespace Go.Proofs.YtgjdgafoidppaaaDoor
set_option linter.unusedVariables false
set_option linter.unusedSimpArgs false
set_option linter.unnecessarySimpa false
theorem dec_no32 (n : Nat) : (32 : UInt8) ∉ Lib.decDigits n := by
  have := itoa_no32 (n : Int) (by omega)
  rwa [Lib.itoa_nonneg] at this
theorem num_back (n most : Nat) (h : n ≤ most) : decV (Lib.decDigits n) most = n ∧ (!decOk (Lib.decDigits n) most) = false := ⟨decV_digits n most h, by rw [decOk_digits n most h]; rfl⟩
def OpV.may (o : OpV) : Bool := mayOpB o.k o.v o.t o.s o.a o.c o.d.length o.d
def OpV.text (o : OpV) : List UInt8 := opTextL o.k o.v o.t o.s o.a o.c o.d
theorem opRound_1 (v t s a c : Int) (d : List UInt8) (x : ByteArray) (h : mayOpB 1 v t s a c d.length d = true) (hx : opTextL 1 v t s a c d = x.data.toList) :
    kOf (hdW (wordsB 32 x)) = 1 ∧ opValK 1 (wordsB 32 x) = ⟨1, v, t, s, a, c, d⟩ ∧ opBadK 1 (wordsB 32 x) false = false ∧ (wordsB 32 x).drop (opLenK 1) = [] := by
  have E0 : mayOpB 1 v t s a c d.length d = (wVol v && wSize s && (t == 0) && (a == 0) && (c == 0) && (d == [])) := rfl
  rw [E0] at h
  simp only [Bool.and_eq_true, beq_iff_eq, wVol, wTo, wSize, wAt, wCount, wData, decide_eq_true_eq, bne_iff_ne] at h
  have hp : opPieces 1 v t s a c d = [⟨#[99, 114, 101, 97, 116, 101]⟩, ⟨(Lib.decDigits v.toNat).toArray⟩, ⟨(Lib.itoa s).toArray⟩] := rfl
  obtain ⟨v, rfl⟩ := Int.eq_ofNat_of_zero_le (show 0 ≤ v by omega)
  obtain ⟨s, rfl⟩ := Int.eq_ofNat_of_zero_le (show 0 ≤ s by omega)
  have ht : t = 0 := by first | omega | simp_all
  subst ht
  have ha : a = 0 := by first | omega | simp_all
  subst ha
  have hc : c = 0 := by first | omega | simp_all
  subst hc
  have hd : d = [] := by simp_all
  subst hd
  have hw : wordsB 32 x = [⟨#[99, 114, 101, 97, 116, 101]⟩, ⟨(Lib.decDigits (v : Int).toNat).toArray⟩, ⟨(Lib.itoa (s : Int)).toArray⟩] := by
    have h1 : cutL 32 x.data.toList = ([⟨#[99, 114, 101, 97, 116, 101]⟩, ⟨(Lib.decDigits (v : Int).toNat).toArray⟩, ⟨(Lib.itoa (s : Int)).toArray⟩] : List ByteArray).map (·.data.toList) := by
      rw [← hx, opTextL, hp]
      refine cutL_join 32 _ (by simp) (fun y hy => ?_)
      simp only [List.map_cons, List.map_nil, List.mem_cons, List.mem_nil_iff, or_false] at hy
      rcases hy with rfl | rfl | rfl
      · decide
      · exact dec_no32 _
      · exact itoa_no32 _ (by omega)
    rw [wordsB, h1, List.map_map]
    simp [Function.comp_def]
  rw [hw]
  have nv := num_back v 4294967295 (by omega)
  have ns := num_back s 256 (by omega)
  refine ⟨(show kOf ⟨#[99, 114, 101, 97, 116, 101]⟩ = 1 by decide), ?_, ?_, rfl⟩
  · show (⟨1, ((decV (Lib.decDigits ((v : Nat) : Int).toNat) 4294967295 : Nat) : Int), 0, ((decV (Lib.itoa ((s : Nat) : Int)) 256 : Nat) : Int), 0, 0, []⟩ : OpV) = ⟨1, ((v : Nat) : Int), 0, ((s : Nat) : Int), 0, 0, []⟩
    simp only [Int.toNat_natCast, Lib.itoa_nonneg, nv.1, ns.1]
  · show (((false || false) || !decOk (Lib.decDigits ((v : Nat) : Int).toNat) 4294967295) || !decOk (Lib.itoa ((s : Nat) : Int)) 256) = false
    simp only [Int.toNat_natCast, Lib.itoa_nonneg, nv.2, ns.2, Bool.or_false]
theorem opRound_2 (v t s a c : Int) (d : List UInt8) (x : ByteArray) (h : mayOpB 2 v t s a c d.length d = true) (hx : opTextL 2 v t s a c d = x.data.toList) :
    kOf (hdW (wordsB 32 x)) = 2 ∧ opValK 2 (wordsB 32 x) = ⟨2, v, t, s, a, c, d⟩ ∧ opBadK 2 (wordsB 32 x) false = false ∧ (wordsB 32 x).drop (opLenK 2) = [] := by
  have E0 : mayOpB 2 v t s a c d.length d = (wVol v && (t == 0) && (s == 0) && (a == 0) && (c == 0) && (d == [])) := rfl
  rw [E0] at h
  simp only [Bool.and_eq_true, beq_iff_eq, wVol, wTo, wSize, wAt, wCount, wData, decide_eq_true_eq, bne_iff_ne] at h
  have hp : opPieces 2 v t s a c d = [⟨#[100, 101, 108, 101, 116, 101]⟩, ⟨(Lib.decDigits v.toNat).toArray⟩] := rfl
  obtain ⟨v, rfl⟩ := Int.eq_ofNat_of_zero_le (show 0 ≤ v by omega)
  have ht : t = 0 := by first | omega | simp_all
  subst ht
  have hs : s = 0 := by first | omega | simp_all
  subst hs
  have ha : a = 0 := by first | omega | simp_all
  subst ha
  have hc : c = 0 := by first | omega | simp_all
  subst hc
  have hd : d = [] := by simp_all
  subst hd
  have hw : wordsB 32 x = [⟨#[100, 101, 108, 101, 116, 101]⟩, ⟨(Lib.decDigits (v : Int).toNat).toArray⟩] := by
    have h1 : cutL 32 x.data.toList = ([⟨#[100, 101, 108, 101, 116, 101]⟩, ⟨(Lib.decDigits (v : Int).toNat).toArray⟩] : List ByteArray).map (·.data.toList) := by
      rw [← hx, opTextL, hp]
      refine cutL_join 32 _ (by simp) (fun y hy => ?_)
      simp only [List.map_cons, List.map_nil, List.mem_cons, List.mem_nil_iff, or_false] at hy
      rcases hy with rfl | rfl
      · decide
      · exact dec_no32 _
    rw [wordsB, h1, List.map_map]
    simp [Function.comp_def]
  rw [hw]
  have nv := num_back v 4294967295 (by omega)
  refine ⟨(show kOf ⟨#[100, 101, 108, 101, 116, 101]⟩ = 2 by decide), ?_, ?_, rfl⟩
  · show (⟨2, ((decV (Lib.decDigits ((v : Nat) : Int).toNat) 4294967295 : Nat) : Int), 0, 0, 0, 0, []⟩ : OpV) = ⟨2, ((v : Nat) : Int), 0, 0, 0, 0, []⟩
    simp only [Int.toNat_natCast, Lib.itoa_nonneg, nv.1]
  · show ((false || false) || !decOk (Lib.decDigits ((v : Nat) : Int).toNat) 4294967295) = false
    simp only [Int.toNat_natCast, Lib.itoa_nonneg, nv.2, Bool.or_false]
theorem opRound_3 (v t s a c : Int) (d : List UInt8) (x : ByteArray) (h : mayOpB 3 v t s a c d.length d = true) (hx : opTextL 3 v t s a c d = x.data.toList) :
    kOf (hdW (wordsB 32 x)) = 3 ∧ opValK 3 (wordsB 32 x) = ⟨3, v, t, s, a, c, d⟩ ∧ opBadK 3 (wordsB 32 x) false = false ∧ (wordsB 32 x).drop (opLenK 3) = [] := by
  have E0 : mayOpB 3 v t s a c d.length d = (wVol v && wSize s && (t == 0) && (a == 0) && (c == 0) && (d == [])) := rfl
  rw [E0] at h
  simp only [Bool.and_eq_true, beq_iff_eq, wVol, wTo, wSize, wAt, wCount, wData, decide_eq_true_eq, bne_iff_ne] at h
  have hp : opPieces 3 v t s a c d = [⟨#[114, 101, 115, 105, 122, 101]⟩, ⟨(Lib.decDigits v.toNat).toArray⟩, ⟨(Lib.itoa s).toArray⟩] := rfl
  obtain ⟨v, rfl⟩ := Int.eq_ofNat_of_zero_le (show 0 ≤ v by omega)
  obtain ⟨s, rfl⟩ := Int.eq_ofNat_of_zero_le (show 0 ≤ s by omega)
  have ht : t = 0 := by first | omega | simp_all
  subst ht
  have ha : a = 0 := by first | omega | simp_all
  subst ha
  have hc : c = 0 := by first | omega | simp_all
  subst hc
  have hd : d = [] := by simp_all
  subst hd
  have hw : wordsB 32 x = [⟨#[114, 101, 115, 105, 122, 101]⟩, ⟨(Lib.decDigits (v : Int).toNat).toArray⟩, ⟨(Lib.itoa (s : Int)).toArray⟩] := by
    have h1 : cutL 32 x.data.toList = ([⟨#[114, 101, 115, 105, 122, 101]⟩, ⟨(Lib.decDigits (v : Int).toNat).toArray⟩, ⟨(Lib.itoa (s : Int)).toArray⟩] : List ByteArray).map (·.data.toList) := by
      rw [← hx, opTextL, hp]
      refine cutL_join 32 _ (by simp) (fun y hy => ?_)
      simp only [List.map_cons, List.map_nil, List.mem_cons, List.mem_nil_iff, or_false] at hy
      rcases hy with rfl | rfl | rfl
      · decide
      · exact dec_no32 _
      · exact itoa_no32 _ (by omega)
    rw [wordsB, h1, List.map_map]
    simp [Function.comp_def]
  rw [hw]
  have nv := num_back v 4294967295 (by omega)
  have ns := num_back s 256 (by omega)
  refine ⟨(show kOf ⟨#[114, 101, 115, 105, 122, 101]⟩ = 3 by decide), ?_, ?_, rfl⟩
  · show (⟨3, ((decV (Lib.decDigits ((v : Nat) : Int).toNat) 4294967295 : Nat) : Int), 0, ((decV (Lib.itoa ((s : Nat) : Int)) 256 : Nat) : Int), 0, 0, []⟩ : OpV) = ⟨3, ((v : Nat) : Int), 0, ((s : Nat) : Int), 0, 0, []⟩
    simp only [Int.toNat_natCast, Lib.itoa_nonneg, nv.1, ns.1]
  · show (((false || false) || !decOk (Lib.decDigits ((v : Nat) : Int).toNat) 4294967295) || !decOk (Lib.itoa ((s : Nat) : Int)) 256) = false
    simp only [Int.toNat_natCast, Lib.itoa_nonneg, nv.2, ns.2, Bool.or_false]
theorem opRound_4 (v t s a c : Int) (d : List UInt8) (x : ByteArray) (h : mayOpB 4 v t s a c d.length d = true) (hx : opTextL 4 v t s a c d = x.data.toList) :
    kOf (hdW (wordsB 32 x)) = 4 ∧ opValK 4 (wordsB 32 x) = ⟨4, v, t, s, a, c, d⟩ ∧ opBadK 4 (wordsB 32 x) false = false ∧ (wordsB 32 x).drop (opLenK 4) = [] := by
  have E0 : mayOpB 4 v t s a c d.length d = (wVol v && wTo t v && (s == 0) && (a == 0) && (c == 0) && (d == [])) := rfl
  rw [E0] at h
  simp only [Bool.and_eq_true, beq_iff_eq, wVol, wTo, wSize, wAt, wCount, wData, decide_eq_true_eq, bne_iff_ne] at h
  have hp : opPieces 4 v t s a c d = [⟨#[115, 110, 97, 112]⟩, ⟨(Lib.decDigits v.toNat).toArray⟩, ⟨(Lib.decDigits t.toNat).toArray⟩] := rfl
  obtain ⟨v, rfl⟩ := Int.eq_ofNat_of_zero_le (show 0 ≤ v by omega)
  obtain ⟨t, rfl⟩ := Int.eq_ofNat_of_zero_le (show 0 ≤ t by omega)
  have hs : s = 0 := by first | omega | simp_all
  subst hs
  have ha : a = 0 := by first | omega | simp_all
  subst ha
  have hc : c = 0 := by first | omega | simp_all
  subst hc
  have hd : d = [] := by simp_all
  subst hd
  have hw : wordsB 32 x = [⟨#[115, 110, 97, 112]⟩, ⟨(Lib.decDigits (v : Int).toNat).toArray⟩, ⟨(Lib.decDigits (t : Int).toNat).toArray⟩] := by
    have h1 : cutL 32 x.data.toList = ([⟨#[115, 110, 97, 112]⟩, ⟨(Lib.decDigits (v : Int).toNat).toArray⟩, ⟨(Lib.decDigits (t : Int).toNat).toArray⟩] : List ByteArray).map (·.data.toList) := by
      rw [← hx, opTextL, hp]
      refine cutL_join 32 _ (by simp) (fun y hy => ?_)
      simp only [List.map_cons, List.map_nil, List.mem_cons, List.mem_nil_iff, or_false] at hy
      rcases hy with rfl | rfl | rfl
      · decide
      · exact dec_no32 _
      · exact dec_no32 _
    rw [wordsB, h1, List.map_map]
    simp [Function.comp_def]
  rw [hw]
  have nv := num_back v 4294967295 (by omega)
  have nt := num_back t 4294967295 (by omega)
  refine ⟨(show kOf ⟨#[115, 110, 97, 112]⟩ = 4 by decide), ?_, ?_, rfl⟩
  · show (⟨4, ((decV (Lib.decDigits ((v : Nat) : Int).toNat) 4294967295 : Nat) : Int), ((decV (Lib.decDigits ((t : Nat) : Int).toNat) 4294967295 : Nat) : Int), 0, 0, 0, []⟩ : OpV) = ⟨4, ((v : Nat) : Int), ((t : Nat) : Int), 0, 0, 0, []⟩
    simp only [Int.toNat_natCast, Lib.itoa_nonneg, nv.1, nt.1]
  · show (((false || false) || !decOk (Lib.decDigits ((v : Nat) : Int).toNat) 4294967295) || !decOk (Lib.decDigits ((t : Nat) : Int).toNat) 4294967295) = false
    simp only [Int.toNat_natCast, Lib.itoa_nonneg, nv.2, nt.2, Bool.or_false]
theorem opRound_5 (v t s a c : Int) (d : List UInt8) (x : ByteArray) (h : mayOpB 5 v t s a c d.length d = true) (hx : opTextL 5 v t s a c d = x.data.toList) :
    kOf (hdW (wordsB 32 x)) = 5 ∧ opValK 5 (wordsB 32 x) = ⟨5, v, t, s, a, c, d⟩ ∧ opBadK 5 (wordsB 32 x) false = false ∧ (wordsB 32 x).drop (opLenK 5) = [] := by
  have E0 : mayOpB 5 v t s a c d.length d = (wVol v && wAt a && wData d.length && (t == 0) && (s == 0) && (c == 0)) := rfl
  rw [E0] at h
  simp only [Bool.and_eq_true, beq_iff_eq, wVol, wTo, wSize, wAt, wCount, wData, decide_eq_true_eq, bne_iff_ne] at h
  have hp : opPieces 5 v t s a c d = [⟨#[119, 114, 105, 116, 101]⟩, ⟨(Lib.decDigits v.toNat).toArray⟩, ⟨(Lib.itoa a).toArray⟩, ⟨(dataL d).toArray⟩] := rfl
  obtain ⟨v, rfl⟩ := Int.eq_ofNat_of_zero_le (show 0 ≤ v by omega)
  obtain ⟨a, rfl⟩ := Int.eq_ofNat_of_zero_le (show 0 ≤ a by omega)
  have ht : t = 0 := by first | omega | simp_all
  subst ht
  have hs : s = 0 := by first | omega | simp_all
  subst hs
  have hc : c = 0 := by first | omega | simp_all
  subst hc
  have hw : wordsB 32 x = [⟨#[119, 114, 105, 116, 101]⟩, ⟨(Lib.decDigits (v : Int).toNat).toArray⟩, ⟨(Lib.itoa (a : Int)).toArray⟩, ⟨(dataL d).toArray⟩] := by
    have h1 : cutL 32 x.data.toList = ([⟨#[119, 114, 105, 116, 101]⟩, ⟨(Lib.decDigits (v : Int).toNat).toArray⟩, ⟨(Lib.itoa (a : Int)).toArray⟩, ⟨(dataL d).toArray⟩] : List ByteArray).map (·.data.toList) := by
      rw [← hx, opTextL, hp]
      refine cutL_join 32 _ (by simp) (fun y hy => ?_)
      simp only [List.map_cons, List.map_nil, List.mem_cons, List.mem_nil_iff, or_false] at hy
      rcases hy with rfl | rfl | rfl | rfl
      · decide
      · exact dec_no32 _
      · exact itoa_no32 _ (by omega)
      · exact dataL_no _
    rw [wordsB, h1, List.map_map]
    simp [Function.comp_def]
  rw [hw]
  have nv := num_back v 4294967295 (by omega)
  have na := num_back a 1048576 (by omega)
  have hdo := data_ok d (by omega)
  have hdt : d.take (64 * (d.length / 64)) = d := List.take_of_length_le (by omega)
  rw [hdt] at hdo
  refine ⟨(show kOf ⟨#[119, 114, 105, 116, 101]⟩ = 5 by decide), ?_, ?_, rfl⟩
  · show (⟨5, ((decV (Lib.decDigits ((v : Nat) : Int).toNat) 4294967295 : Nat) : Int), 0, 0, ((decV (Lib.itoa ((a : Nat) : Int)) 1048576 : Nat) : Int), 0, (dataOf ⟨(dataL d).toArray⟩)⟩ : OpV) = ⟨5, ((v : Nat) : Int), 0, 0, ((a : Nat) : Int), 0, d⟩
    simp only [Int.toNat_natCast, Lib.itoa_nonneg, nv.1, na.1, hdo.1]
  · show (((((false || false) || !decOk (Lib.decDigits ((v : Nat) : Int).toNat) 4294967295) || !decOk (Lib.itoa ((a : Nat) : Int)) 1048576) || false) || dataBad ⟨(dataL d).toArray⟩) = false
    simp only [Int.toNat_natCast, Lib.itoa_nonneg, nv.2, na.2, hdo.2, Bool.or_false]
theorem opRound_6 (v t s a c : Int) (d : List UInt8) (x : ByteArray) (h : mayOpB 6 v t s a c d.length d = true) (hx : opTextL 6 v t s a c d = x.data.toList) :
    kOf (hdW (wordsB 32 x)) = 6 ∧ opValK 6 (wordsB 32 x) = ⟨6, v, t, s, a, c, d⟩ ∧ opBadK 6 (wordsB 32 x) false = false ∧ (wordsB 32 x).drop (opLenK 6) = [] := by
  have E0 : mayOpB 6 v t s a c d.length d = (wVol v && wAt a && wCount c && (t == 0) && (s == 0) && (d == [])) := rfl
  rw [E0] at h
  simp only [Bool.and_eq_true, beq_iff_eq, wVol, wTo, wSize, wAt, wCount, wData, decide_eq_true_eq, bne_iff_ne] at h
  have hp : opPieces 6 v t s a c d = [⟨#[122, 101, 114, 111]⟩, ⟨(Lib.decDigits v.toNat).toArray⟩, ⟨(Lib.itoa a).toArray⟩, ⟨(Lib.itoa c).toArray⟩] := rfl
  obtain ⟨v, rfl⟩ := Int.eq_ofNat_of_zero_le (show 0 ≤ v by omega)
  obtain ⟨a, rfl⟩ := Int.eq_ofNat_of_zero_le (show 0 ≤ a by omega)
  obtain ⟨c, rfl⟩ := Int.eq_ofNat_of_zero_le (show 0 ≤ c by omega)
  have ht : t = 0 := by first | omega | simp_all
  subst ht
  have hs : s = 0 := by first | omega | simp_all
  subst hs
  have hd : d = [] := by simp_all
  subst hd
  have hw : wordsB 32 x = [⟨#[122, 101, 114, 111]⟩, ⟨(Lib.decDigits (v : Int).toNat).toArray⟩, ⟨(Lib.itoa (a : Int)).toArray⟩, ⟨(Lib.itoa (c : Int)).toArray⟩] := by
    have h1 : cutL 32 x.data.toList = ([⟨#[122, 101, 114, 111]⟩, ⟨(Lib.decDigits (v : Int).toNat).toArray⟩, ⟨(Lib.itoa (a : Int)).toArray⟩, ⟨(Lib.itoa (c : Int)).toArray⟩] : List ByteArray).map (·.data.toList) := by
      rw [← hx, opTextL, hp]
      refine cutL_join 32 _ (by simp) (fun y hy => ?_)
      simp only [List.map_cons, List.map_nil, List.mem_cons, List.mem_nil_iff, or_false] at hy
      rcases hy with rfl | rfl | rfl | rfl
      · decide
      · exact dec_no32 _
      · exact itoa_no32 _ (by omega)
      · exact itoa_no32 _ (by omega)
    rw [wordsB, h1, List.map_map]
    simp [Function.comp_def]
  rw [hw]
  have nv := num_back v 4294967295 (by omega)
  have na := num_back a 1048576 (by omega)
  have nc := num_back c 1024 (by omega)
  refine ⟨(show kOf ⟨#[122, 101, 114, 111]⟩ = 6 by decide), ?_, ?_, rfl⟩
  · show (⟨6, ((decV (Lib.decDigits ((v : Nat) : Int).toNat) 4294967295 : Nat) : Int), 0, 0, ((decV (Lib.itoa ((a : Nat) : Int)) 1048576 : Nat) : Int), ((decV (Lib.itoa ((c : Nat) : Int)) 1024 : Nat) : Int), []⟩ : OpV) = ⟨6, ((v : Nat) : Int), 0, 0, ((a : Nat) : Int), ((c : Nat) : Int), []⟩
    simp only [Int.toNat_natCast, Lib.itoa_nonneg, nv.1, na.1, nc.1]
  · show ((((false || false) || !decOk (Lib.decDigits ((v : Nat) : Int).toNat) 4294967295) || !decOk (Lib.itoa ((a : Nat) : Int)) 1048576) || !decOk (Lib.itoa ((c : Nat) : Int)) 1024) = false
    simp only [Int.toNat_natCast, Lib.itoa_nonneg, nv.2, na.2, nc.2, Bool.or_false]
theorem opRound_7 (v t s a c : Int) (d : List UInt8) (x : ByteArray) (h : mayOpB 7 v t s a c d.length d = true) (hx : opTextL 7 v t s a c d = x.data.toList) :
    kOf (hdW (wordsB 32 x)) = 7 ∧ opValK 7 (wordsB 32 x) = ⟨7, v, t, s, a, c, d⟩ ∧ opBadK 7 (wordsB 32 x) false = false ∧ (wordsB 32 x).drop (opLenK 7) = [] := by
  have E0 : mayOpB 7 v t s a c d.length d = (wVol v && wAt a && wCount c && (t == 0) && (s == 0) && (d == [])) := rfl
  rw [E0] at h
  simp only [Bool.and_eq_true, beq_iff_eq, wVol, wTo, wSize, wAt, wCount, wData, decide_eq_true_eq, bne_iff_ne] at h
  have hp : opPieces 7 v t s a c d = [⟨#[100, 105, 115, 99, 97, 114, 100]⟩, ⟨(Lib.decDigits v.toNat).toArray⟩, ⟨(Lib.itoa a).toArray⟩, ⟨(Lib.itoa c).toArray⟩] := rfl
  obtain ⟨v, rfl⟩ := Int.eq_ofNat_of_zero_le (show 0 ≤ v by omega)
  obtain ⟨a, rfl⟩ := Int.eq_ofNat_of_zero_le (show 0 ≤ a by omega)
  obtain ⟨c, rfl⟩ := Int.eq_ofNat_of_zero_le (show 0 ≤ c by omega)
  have ht : t = 0 := by first | omega | simp_all
  subst ht
  have hs : s = 0 := by first | omega | simp_all
  subst hs
  have hd : d = [] := by simp_all
  subst hd
  have hw : wordsB 32 x = [⟨#[100, 105, 115, 99, 97, 114, 100]⟩, ⟨(Lib.decDigits (v : Int).toNat).toArray⟩, ⟨(Lib.itoa (a : Int)).toArray⟩, ⟨(Lib.itoa (c : Int)).toArray⟩] := by
    have h1 : cutL 32 x.data.toList = ([⟨#[100, 105, 115, 99, 97, 114, 100]⟩, ⟨(Lib.decDigits (v : Int).toNat).toArray⟩, ⟨(Lib.itoa (a : Int)).toArray⟩, ⟨(Lib.itoa (c : Int)).toArray⟩] : List ByteArray).map (·.data.toList) := by
      rw [← hx, opTextL, hp]
      refine cutL_join 32 _ (by simp) (fun y hy => ?_)
      simp only [List.map_cons, List.map_nil, List.mem_cons, List.mem_nil_iff, or_false] at hy
      rcases hy with rfl | rfl | rfl | rfl
      · decide
      · exact dec_no32 _
      · exact itoa_no32 _ (by omega)
      · exact itoa_no32 _ (by omega)
    rw [wordsB, h1, List.map_map]
    simp [Function.comp_def]
  rw [hw]
  have nv := num_back v 4294967295 (by omega)
  have na := num_back a 1048576 (by omega)
  have nc := num_back c 1024 (by omega)
  refine ⟨(show kOf ⟨#[100, 105, 115, 99, 97, 114, 100]⟩ = 7 by decide), ?_, ?_, rfl⟩
  · show (⟨7, ((decV (Lib.decDigits ((v : Nat) : Int).toNat) 4294967295 : Nat) : Int), 0, 0, ((decV (Lib.itoa ((a : Nat) : Int)) 1048576 : Nat) : Int), ((decV (Lib.itoa ((c : Nat) : Int)) 1024 : Nat) : Int), []⟩ : OpV) = ⟨7, ((v : Nat) : Int), 0, 0, ((a : Nat) : Int), ((c : Nat) : Int), []⟩
    simp only [Int.toNat_natCast, Lib.itoa_nonneg, nv.1, na.1, nc.1]
  · show ((((false || false) || !decOk (Lib.decDigits ((v : Nat) : Int).toNat) 4294967295) || !decOk (Lib.itoa ((a : Nat) : Int)) 1048576) || !decOk (Lib.itoa ((c : Nat) : Int)) 1024) = false
    simp only [Int.toNat_natCast, Lib.itoa_nonneg, nv.2, na.2, nc.2, Bool.or_false]
theorem opRound_8 (v t s a c : Int) (d : List UInt8) (x : ByteArray) (h : mayOpB 8 v t s a c d.length d = true) (hx : opTextL 8 v t s a c d = x.data.toList) :
    kOf (hdW (wordsB 32 x)) = 8 ∧ opValK 8 (wordsB 32 x) = ⟨8, v, t, s, a, c, d⟩ ∧ opBadK 8 (wordsB 32 x) false = false ∧ (wordsB 32 x).drop (opLenK 8) = [] := by
  have E0 : mayOpB 8 v t s a c d.length d = ((v == 0) && (t == 0) && (s == 0) && (a == 0) && (c == 0) && (d == [])) := rfl
  rw [E0] at h
  simp only [Bool.and_eq_true, beq_iff_eq, wVol, wTo, wSize, wAt, wCount, wData, decide_eq_true_eq, bne_iff_ne] at h
  have hp : opPieces 8 v t s a c d = [⟨#[102, 108, 117, 115, 104]⟩] := rfl
  have hv : v = 0 := by first | omega | simp_all
  subst hv
  have ht : t = 0 := by first | omega | simp_all
  subst ht
  have hs : s = 0 := by first | omega | simp_all
  subst hs
  have ha : a = 0 := by first | omega | simp_all
  subst ha
  have hc : c = 0 := by first | omega | simp_all
  subst hc
  have hd : d = [] := by simp_all
  subst hd
  have hw : wordsB 32 x = [⟨#[102, 108, 117, 115, 104]⟩] := by
    have h1 : cutL 32 x.data.toList = ([⟨#[102, 108, 117, 115, 104]⟩] : List ByteArray).map (·.data.toList) := by
      rw [← hx, opTextL, hp]
      refine cutL_join 32 _ (by simp) (fun y hy => ?_)
      simp only [List.map_cons, List.map_nil, List.mem_cons, List.mem_nil_iff, or_false] at hy
      rcases hy with rfl
      · decide
    rw [wordsB, h1, List.map_map]
    simp [Function.comp_def]
  rw [hw]
  refine ⟨(show kOf ⟨#[102, 108, 117, 115, 104]⟩ = 8 by decide), ?_, ?_, rfl⟩
  · show (⟨8, 0, 0, 0, 0, 0, []⟩ : OpV) = ⟨8, 0, 0, 0, 0, 0, []⟩
    simp only [Int.toNat_natCast, Lib.itoa_nonneg]
  · show (false || false) = false
    simp only [Int.toNat_natCast, Lib.itoa_nonneg, Bool.or_false]
theorem opRound_9 (v t s a c : Int) (d : List UInt8) (x : ByteArray) (h : mayOpB 9 v t s a c d.length d = true) (hx : opTextL 9 v t s a c d = x.data.toList) :
    kOf (hdW (wordsB 32 x)) = 9 ∧ opValK 9 (wordsB 32 x) = ⟨9, v, t, s, a, c, d⟩ ∧ opBadK 9 (wordsB 32 x) false = false ∧ (wordsB 32 x).drop (opLenK 9) = [] := by
  have E0 : mayOpB 9 v t s a c d.length d = (wVol v && wAt a && wCount c && (t == 0) && (s == 0) && (d == [])) := rfl
  rw [E0] at h
  simp only [Bool.and_eq_true, beq_iff_eq, wVol, wTo, wSize, wAt, wCount, wData, decide_eq_true_eq, bne_iff_ne] at h
  have hp : opPieces 9 v t s a c d = [⟨#[114, 101, 97, 100]⟩, ⟨(Lib.decDigits v.toNat).toArray⟩, ⟨(Lib.itoa a).toArray⟩, ⟨(Lib.itoa c).toArray⟩] := rfl
  obtain ⟨v, rfl⟩ := Int.eq_ofNat_of_zero_le (show 0 ≤ v by omega)
  obtain ⟨a, rfl⟩ := Int.eq_ofNat_of_zero_le (show 0 ≤ a by omega)
  obtain ⟨c, rfl⟩ := Int.eq_ofNat_of_zero_le (show 0 ≤ c by omega)
  have ht : t = 0 := by first | omega | simp_all
  subst ht
  have hs : s = 0 := by first | omega | simp_all
  subst hs
  have hd : d = [] := by simp_all
  subst hd
  have hw : wordsB 32 x = [⟨#[114, 101, 97, 100]⟩, ⟨(Lib.decDigits (v : Int).toNat).toArray⟩, ⟨(Lib.itoa (a : Int)).toArray⟩, ⟨(Lib.itoa (c : Int)).toArray⟩] := by
    have h1 : cutL 32 x.data.toList = ([⟨#[114, 101, 97, 100]⟩, ⟨(Lib.decDigits (v : Int).toNat).toArray⟩, ⟨(Lib.itoa (a : Int)).toArray⟩, ⟨(Lib.itoa (c : Int)).toArray⟩] : List ByteArray).map (·.data.toList) := by
      rw [← hx, opTextL, hp]
      refine cutL_join 32 _ (by simp) (fun y hy => ?_)
      simp only [List.map_cons, List.map_nil, List.mem_cons, List.mem_nil_iff, or_false] at hy
      rcases hy with rfl | rfl | rfl | rfl
      · decide
      · exact dec_no32 _
      · exact itoa_no32 _ (by omega)
      · exact itoa_no32 _ (by omega)
    rw [wordsB, h1, List.map_map]
    simp [Function.comp_def]
  rw [hw]
  have nv := num_back v 4294967295 (by omega)
  have na := num_back a 1048576 (by omega)
  have nc := num_back c 1024 (by omega)
  refine ⟨(show kOf ⟨#[114, 101, 97, 100]⟩ = 9 by decide), ?_, ?_, rfl⟩
  · show (⟨9, ((decV (Lib.decDigits ((v : Nat) : Int).toNat) 4294967295 : Nat) : Int), 0, 0, ((decV (Lib.itoa ((a : Nat) : Int)) 1048576 : Nat) : Int), ((decV (Lib.itoa ((c : Nat) : Int)) 1024 : Nat) : Int), []⟩ : OpV) = ⟨9, ((v : Nat) : Int), 0, 0, ((a : Nat) : Int), ((c : Nat) : Int), []⟩
    simp only [Int.toNat_natCast, Lib.itoa_nonneg, nv.1, na.1, nc.1]
  · show ((((false || false) || !decOk (Lib.decDigits ((v : Nat) : Int).toNat) 4294967295) || !decOk (Lib.itoa ((a : Nat) : Int)) 1048576) || !decOk (Lib.itoa ((c : Nat) : Int)) 1024) = false
    simp only [Int.toNat_natCast, Lib.itoa_nonneg, nv.2, na.2, nc.2, Bool.or_false]
theorem opRound (o : OpV) (x : ByteArray) (h : o.may = true) (hx : o.text = x.data.toList) :
    kOf (hdW (wordsB 32 x)) = o.k ∧ opValK o.k (wordsB 32 x) = o ∧ opBadK o.k (wordsB 32 x) false = false ∧ (wordsB 32 x).drop (opLenK o.k) = [] := by
  obtain ⟨k, v, t, s, a, c, d⟩ := o
  simp only [OpV.may, OpV.text] at h hx ⊢
  have hk := mayOpB_kind h rfl
  have h3 : k = 1 ∨ k = 2 ∨ k = 3 ∨ k = 4 ∨ k = 5 ∨ k = 6 ∨ k = 7 ∨ k = 8 ∨ k = 9 := by omega
  rcases h3 with rfl | rfl | rfl | rfl | rfl | rfl | rfl | rfl | rfl
  · exact opRound_1 v t s a c d x h hx
  · exact opRound_2 v t s a c d x h hx
  · exact opRound_3 v t s a c d x h hx
  · exact opRound_4 v t s a c d x h hx
  · exact opRound_5 v t s a c d x h hx
  · exact opRound_6 v t s a c d x h hx
  · exact opRound_7 v t s a c d x h hx
  · exact opRound_8 v t s a c d x h hx
  · exact opRound_9 v t s a c d x h hx
/-- What is read of a text, good or not. -/
def opV (x : ByteArray) : OpV := opValK (kOf (hdW (wordsB 32 x))) (wordsB 32 x)
def goodOp (x : ByteArray) : Bool := (opV x).may && ((opV x).text == x.data.toList)
theorem goodOp_words {x : ByteArray} (h : goodOp x = true) : opBadK (kOf (hdW (wordsB 32 x))) (wordsB 32 x) false = false ∧ (wordsB 32 x).drop (opLenK (kOf (hdW (wordsB 32 x)))) = [] := by
  simp only [goodOp, Bool.and_eq_true, beq_iff_eq] at h
  obtain ⟨h1, _, h3, h4⟩ := opRound _ x h.1 h.2
  rw [h1]
  exact ⟨h3, h4⟩
/-- A text of an operation that may be is good, and is read as it. -/
theorem goodOp_text (o : OpV) (x : ByteArray) (h : o.may = true) (hx : o.text = x.data.toList) : goodOp x = true ∧ opV x = o := by
  obtain ⟨h1, h2, _, _⟩ := opRound o x h hx
  have e : opV x = o := by rw [opV, h1, h2]
  exact ⟨by rw [goodOp, e, h, hx]; simp, e⟩
end Go.Proofs.YtgjdgafoidppaaaDoor
namespace Go.Proofs.YtgjdgafoidppaaaDoor
open Go.RowKit
set_option linter.unusedVariables false
set_option linter.unusedSimpArgs false
set_option linter.unnecessarySimpa false
theorem opValK_bd (k : Int) (ws : List ByteArray) : Bd (opValK k ws).v (opValK k ws).t (opValK k ws).s (opValK k ws).a (opValK k ws).c := by
  have h1 := nD_le ws 1 4294967295
  have h2 := nD_le ws 2 4294967295
  have h3 := nD_le ws 2 256
  have h4 := nD_le ws 2 1048576
  have h5 := nD_le ws 3 1024
  unfold opValK
  repeat' split
  all_goals exact ⟨by simp only [zOp]; omega, by simp only [zOp]; omega, by simp only [zOp]; omega, by simp only [zOp]; omega, by simp only [zOp]; omega, by simp only [zOp]; omega, by simp only [zOp]; omega, by simp only [zOp]; omega, by simp only [zOp]; omega, by simp only [zOp]; omega⟩
theorem opValK_d (k : Int) (ws : List ByteArray) (hw : ∀ y ∈ ws, y.size ≤ 200000) : (opValK k ws).d.length ≤ 64000000 := by
  have h : (dD ws 3).length ≤ 64000000 := by
    have h1 : (hdW (ws.drop 3)).size ≤ 200000 := by
      unfold hdW
      cases hd : ws.drop 3 with
      | nil => exact Nat.zero_le _
      | cons y r => exact hw y (List.mem_of_mem_drop (i := 3) (by rw [hd]; simp))
    have h2 := wordsB_le 44 (hdW (ws.drop 3))
    rw [dD, dataOf, flat_len]
    omega
  unfold opValK
  repeat' split
  all_goals first | exact h | exact Nat.zero_le _
def opLeft (x : ByteArray) : List ByteArray := (wordsB 32 x).drop (opLenK (kOf (hdW (wordsB 32 x))))
def opBadX (x : ByteArray) : Bool := opBadK (kOf (hdW (wordsB 32 x))) (wordsB 32 x) false
theorem op_at (x : ByteArray) (hx : x.size ≤ 200000) (p : Nat) (W : World) [hm : Ml W] [htb : Tb W] [hfp : Far p] (k v t s a c : Int) (d : List UInt8) (hO : opV x = ⟨k, v, t, s, a, c, d⟩) (h : WS p W (wordsB 32 x) false) :
    Calls Tryd.prog 38 #[.pointer (some ⟨p, 0, none⟩)] W fun e W' => ∃ A q, e = .returned (.agg #[.int .i64 k, .int .u64 v, .int .u64 t, .int .i64 s, .int .i64 a, .int .i64 c, .slice A d.length q]) ∧ d.length ≤ q ∧ OwnR bv 5 W.heap.size W' (.slice A d.length q) d ∧ WS p W' (opLeft x) (opBadX x) ∧ Wrd p W W' := by
  have hw : ∀ y ∈ wordsB 32 x, y.size ≤ 200000 := fun y hy => Nat.le_trans (wordsB_each 32 x y hy) hx
  refine (op_any p W (wordsB 32 x) false h hw).mono ?_
  rintro e W' ⟨dv, rfl, ho, h1, r1⟩
  have e2 : opValK (kOf (hdW (wordsB 32 x))) (wordsB 32 x) = ⟨k, v, t, s, a, c, d⟩ := hO
  rw [e2] at ho ⊢
  obtain ⟨A, q, rfl, hq, _⟩ := ho.form
  exact ⟨A, q, rfl, hq, ho, h1, r1⟩
def opRes (x : ByteArray) : OpV := if goodOp x then opV x else zOp
def opE (x : ByteArray) : Int := if goodOp x then 0 else 4
set_option maxRecDepth 100000 in
set_option maxHeartbeats 4000000 in
theorem opOf_any (x : ByteArray) (hx : x.size ≤ 200000) (w : World) [hk : Tb w] [hm : Ml w] : Calls Tryd.prog 19 #[.string x] w fun e w' => ∃ dv, e = .returned (.tuple #[(opRes x).agg dv, .int .i64 (opE x)]) ∧ OwnR bv 5 w.heap.size w' dv (opRes x).d ∧ Gr w w' := by
  have few : (wordsB 32 x).length ≤ 1000000 := by have := wordsB_le 32 x; omega
  have short : ∀ y ∈ wordsB 32 x, y.size ≤ 1000000000 := fun y hy => by have := wordsB_each 32 x y hy; omega
  have FEW := Lib.hid few; clear few
  have SHORT := Lib.hid short; clear short
  obtain ⟨o, hO⟩ : ∃ o, opV x = o := ⟨_, rfl⟩
  obtain ⟨k, v, t, s, a, c, d⟩ := o
  have hgo : goodOp x = (mayOpB k v t s a c d.length d && (opTextL k v t s a c d == x.data.toList)) := by rw [goodOp, hO]; rfl
  have hbd : Bd v t s a c := by
    have h := opValK_bd (kOf (hdW (wordsB 32 x))) (wordsB 32 x)
    have e : opValK (kOf (hdW (wordsB 32 x))) (wordsB 32 x) = ⟨k, v, t, s, a, c, d⟩ := hO
    rw [e] at h
    exact h
  have HBD := Lib.hid hbd; clear hbd
  have HGO := Lib.hid hgo; clear hgo
  have hdl : d.length ≤ 9223372036854775807 := by
    have h := opValK_d (kOf (hdW (wordsB 32 x))) (wordsB 32 x) (fun y hy => Nat.le_trans (wordsB_each 32 x y hy) hx)
    have e : opValK (kOf (hdW (wordsB 32 x))) (wordsB 32 x) = ⟨k, v, t, s, a, c, d⟩ := hO
    rw [e] at h
    simp only at h
    omega
  have HDL := Lib.hid hdl; clear hdl
  have hno : goodOp x = false → opRes x = zOp ∧ opE x = 4 := fun h => by simp [opRes, opE, h]
  have hyes : goodOp x = true → opRes x = ⟨k, v, t, s, a, c, d⟩ ∧ opE x = 0 := fun h => by rw [opRes, opE, if_pos h, if_pos h]; exact ⟨hO, rfl⟩
  have hbg : goodOp x = true → opBadX x = false ∧ opLeft x = [] := fun h => goodOp_words h
  have HO := Lib.hid hO; have HNO := Lib.hid hno; have HYES := Lib.hid hyes; have HBG := Lib.hid hbg; clear hO hno hyes hbg
  go_enter Tryd.func19, Tryd.ntmps19
  go_wp2_with ((go_at_call 27; ((with_reducible refine (split_any x 32 _ (by omega)).mono ?_))))
  rintro _ _ ⟨rfl, rfl⟩
  haveI : Far (w.heap.size + 1 + 1) := ⟨by have := hk.size; omega⟩
  go_wp2_with ((go_at_call 38; ((with_reducible refine (op_at x hx (w.heap.size + 1 + 1) _ k v t s a c d HO.out ?ws0).mono ?_))))
  case ws0 => exact WS.start _ _ _ (w.heap.size + 1) _ 68 rfl (by omega) FEW.out SHORT.out
  rintro _ W1 ⟨Ad, cd, rfl, hcd, ho, h1, r1⟩
  haveI : Tb W1 := r1.tb
  haveI : Ml W1 := r1.ml
  haveI bR1 : BlockAt W1 w.heap.size #[.int .i64 0, .int .u64 0, .int .u64 0, .int .i64 0, .int .i64 0, .int .i64 0, .slice none 0 0] 46 := r1.blockAt inferInstance (by omega)
  have hb1 : Below w.heap.size w W1 := Below.trans (by (repeat (first | with_reducible exact Below.refl _ _ | with_reducible apply below_alloc))) (r1.below (by omega) (by simp; omega))
  haveI : GrC w W1 := ⟨hb1⟩
  have ho2 : OwnR bv 5 w.heap.size W1 (.slice Ad d.length cd) d := ho.more (by simp; omega)
  have hP1 : w.heap.size + 1 + 1 < W1.heap.size := h1.old.lt
  have hrow : Row bv W1 Ad d := by
    obtain ⟨A', c', e, _, hr⟩ := ho.form
    cases e
    exact hr
  have p1 := h1.c1
  obtain ⟨A6, n6, p0, hn6, _, _⟩ := h1.c0
  have H1 := Lib.hid h1; clear h1 r1 ho
  have HO2 := Lib.hid ho2; clear ho2
  have HROW := Lib.hid hrow; clear hrow
  have HB1 := Lib.hid hb1; clear hb1
  haveI : BNe w.heap.size W1.heap.size := ⟨by omega⟩
  have y0 : W1.cell? ⟨w.heap.size, 0, none⟩ = some (.int .i64 0) := (block_cells _ _ _ _ _).trans rfl
  have y1 : W1.cell? ⟨w.heap.size, 1, none⟩ = some (.int .u64 0) := (block_cells _ _ _ _ _).trans rfl
  have y2 : W1.cell? ⟨w.heap.size, 2, none⟩ = some (.int .u64 0) := (block_cells _ _ _ _ _).trans rfl
  have y3 : W1.cell? ⟨w.heap.size, 3, none⟩ = some (.int .i64 0) := (block_cells _ _ _ _ _).trans rfl
  have y4 : W1.cell? ⟨w.heap.size, 4, none⟩ = some (.int .i64 0) := (block_cells _ _ _ _ _).trans rfl
  have y5 : W1.cell? ⟨w.heap.size, 5, none⟩ = some (.int .i64 0) := (block_cells _ _ _ _ _).trans rfl
  have y6 : W1.cell? ⟨w.heap.size, 6, none⟩ = some (.slice none 0 0) := (block_cells _ _ _ _ _).trans rfl
  have z0 : W1.frozen? ⟨w.heap.size, 0, none⟩ = false := block_frozen _ _ _ _ _
  have z1 : W1.frozen? ⟨w.heap.size, 1, none⟩ = false := block_frozen _ _ _ _ _
  have z2 : W1.frozen? ⟨w.heap.size, 2, none⟩ = false := block_frozen _ _ _ _ _
  have z3 : W1.frozen? ⟨w.heap.size, 3, none⟩ = false := block_frozen _ _ _ _ _
  have z4 : W1.frozen? ⟨w.heap.size, 4, none⟩ = false := block_frozen _ _ _ _ _
  have z5 : W1.frozen? ⟨w.heap.size, 5, none⟩ = false := block_frozen _ _ _ _ _
  have z6 : W1.frozen? ⟨w.heap.size, 6, none⟩ = false := block_frozen _ _ _ _ _
  have e1 : (w.heap.size + 1 + 1 = W1.heap.size) = False := by simp; omega
  have e2 : (W1.heap.size = w.heap.size + 1 + 1) = False := by simp; omega
  have e3 : (w.heap.size = W1.heap.size) = False := by simp; omega
  have e4 : (W1.heap.size = w.heap.size) = False := by simp; omega
  haveI : Old w.heap.size W1 := bR1.old
  haveI : Old (w.heap.size + 1 + 1) W1 := H1.out.old
  rcases Bool.eq_false_or_eq_true (opBadX x) with hB | hB
  · rw [hB] at p1
    have hg : goodOp x = false := by
      cases h : goodOp x with
      | false => rfl
      | true => rw [(HBG.out h).1] at hB; cases hB
    have HG := Lib.hid (HNO.out hg); clear hg hB
    go_wp2
    exact bodyPost_ret (v := .tuple #[.agg #[.int .i64 0, .int .u64 0, .int .u64 0, .int .i64 0, .int .i64 0, .int .i64 0, .slice none 0 0], .int .i64 4]) (by simp [results, Tryd.results19, go_sem, e1, e2, e3, e4, y0, y1, y2, y3, y4, y5, y6, z0, z1, z2, z3, z4, z5, z6]) rfl ⟨.slice none 0 0, by rw [HG.out.1, HG.out.2]; rfl, by rw [HG.out.1]; exact OwnR.nil _ _, Gr.of (by repeat (first | with_reducible exact HB1.out | with_reducible apply below_alloc | with_reducible refine below_set_le ?_ (by omega) _ | with_reducible refine below_trans ?_ (grown_below _ _)))⟩
  · rw [hB] at p1
    clear hB
    rcases Nat.eq_zero_or_pos (opLeft x).length with hL | hL
    · rw [hL] at p0
      clear hL
      have HM := Lib.hid (fun W (hW : GrC W1 W) => mayOp_any k v t s a c Ad d.length cd d W rfl HDL.out (HROW.out.gr (Gr.of hW.b)))
      rcases Bool.eq_false_or_eq_true (mayOpB k v t s a c d.length d) with hM | hM
      · have hkk := mayOpB_kind hM rfl
        have HT := Lib.hid (fun W (_ : Tb W) (hW : GrC W1 W) => opText_any k v t s a c Ad d.length cd d W hkk.1 hkk.2.1 HBD.out rfl hcd (by omega) (HROW.out.gr (Gr.of hW.b)))
        rw [hM] at HM
        rcases Bool.eq_false_or_eq_true (opTextL k v t s a c d == x.data.toList) with hS | hS
        · have hg : goodOp x = true := by rw [HGO.out, hM, hS]; rfl
          have HG := Lib.hid (HYES.out hg); clear hg
          have hne : (opTextL k v t s a c d == x.toList) = true := by rw [Lib.toList_data]; exact hS
          clear hS hM
          go_wp2_with (first | (go_at_call 39; ((with_reducible refine (HM.out _ inferInstance).mono ?_); rintro _ _ ⟨rfl, g1, rfl⟩)) | (go_at_call 40; ((with_reducible refine (HT.out _ inferInstance inferInstance).mono ?_); rintro _ _ ⟨rfl, g2, rfl⟩)))
          exact bodyPost_ret (v := .tuple #[.agg #[.int .i64 k, .int .u64 v, .int .u64 t, .int .i64 s, .int .i64 a, .int .i64 c, .slice Ad d.length cd], .int .i64 0]) (by simp [results, Tryd.results19, go_sem, e1, e2, e3, e4, y0, y1, y2, y3, y4, y5, y6, z0, z1, z2, z3, z4, z5, z6]) rfl ⟨.slice Ad d.length cd, by rw [HG.out.1, HG.out.2]; rfl, by rw [HG.out.1]; exact (by repeat (first | with_reducible exact HO2.out | with_reducible refine OwnR.alloc_ ?_ _ | with_reducible refine OwnR.grown_ ?_ _ | with_reducible refine OwnR.set_ ?_ _ _ _ (by decide))), Gr.of (by repeat (first | with_reducible exact HB1.out | with_reducible apply below_alloc | with_reducible refine below_set_le ?_ (by omega) _ | with_reducible refine below_trans ?_ (grown_below _ _)))⟩
        · have hg : goodOp x = false := by rw [HGO.out, hM, hS]; rfl
          have HG := Lib.hid (HNO.out hg); clear hg
          have hne : (opTextL k v t s a c d == x.toList) = false := by rw [Lib.toList_data]; exact hS
          clear hS hM
          go_wp2_with (first | (go_at_call 39; ((with_reducible refine (HM.out _ inferInstance).mono ?_); rintro _ _ ⟨rfl, g1, rfl⟩)) | (go_at_call 40; ((with_reducible refine (HT.out _ inferInstance inferInstance).mono ?_); rintro _ _ ⟨rfl, g2, rfl⟩)))
          exact bodyPost_ret (v := .tuple #[.agg #[.int .i64 0, .int .u64 0, .int .u64 0, .int .i64 0, .int .i64 0, .int .i64 0, .slice none 0 0], .int .i64 4]) (by simp [results, Tryd.results19, go_sem, e1, e2, e3, e4, y0, y1, y2, y3, y4, y5, y6, z0, z1, z2, z3, z4, z5, z6]) rfl ⟨.slice none 0 0, by rw [HG.out.1, HG.out.2]; rfl, by rw [HG.out.1]; exact OwnR.nil _ _, Gr.of (by repeat (first | with_reducible exact HB1.out | with_reducible apply below_alloc | with_reducible refine below_set_le ?_ (by omega) _ | with_reducible refine below_trans ?_ (grown_below _ _)))⟩
      · rw [hM] at HM
        have hg : goodOp x = false := by rw [HGO.out, hM]; rfl
        have HG := Lib.hid (HNO.out hg); clear hg hM
        go_wp2_with ((go_at_call 39; ((with_reducible refine (HM.out _ inferInstance).mono ?_); rintro _ _ ⟨rfl, g1, rfl⟩)))
        exact bodyPost_ret (v := .tuple #[.agg #[.int .i64 0, .int .u64 0, .int .u64 0, .int .i64 0, .int .i64 0, .int .i64 0, .slice none 0 0], .int .i64 4]) (by simp [results, Tryd.results19, go_sem, e1, e2, e3, e4, y0, y1, y2, y3, y4, y5, y6, z0, z1, z2, z3, z4, z5, z6]) rfl ⟨.slice none 0 0, by rw [HG.out.1, HG.out.2]; rfl, by rw [HG.out.1]; exact OwnR.nil _ _, Gr.of (by repeat (first | with_reducible exact HB1.out | with_reducible apply below_alloc | with_reducible refine below_set_le ?_ (by omega) _ | with_reducible refine below_trans ?_ (grown_below _ _)))⟩
    · have hg : goodOp x = false := by
        cases h : goodOp x with
        | false => rfl
        | true => rw [(HBG.out h).2] at hL; simp at hL
      have HG := Lib.hid (HNO.out hg); clear hg
      generalize (opLeft x).length = q at *
      go_wp2
      exact bodyPost_ret (v := .tuple #[.agg #[.int .i64 0, .int .u64 0, .int .u64 0, .int .i64 0, .int .i64 0, .int .i64 0, .slice none 0 0], .int .i64 4]) (by simp [results, Tryd.results19, go_sem, e1, e2, e3, e4, y0, y1, y2, y3, y4, y5, y6, z0, z1, z2, z3, z4, z5, z6]) rfl ⟨.slice none 0 0, by rw [HG.out.1, HG.out.2]; rfl, by rw [HG.out.1]; exact OwnR.nil _ _, Gr.of (by repeat (first | with_reducible exact HB1.out | with_reducible apply below_alloc | with_reducible refine below_set_le ?_ (by omega) _ | with_reducible refine below_trans ?_ (grown_below _ _)))⟩
end Go.Proofs.YtgjdgafoidppaaaDoor
namespace Go.Proofs.YtgjdgafoidppaaaDoor
open Go.RowKit
set_option linter.unusedVariables false
set_option linter.unusedSimpArgs false
set_option linter.unnecessarySimpa false
theorem hexcut_fin : ∀ i : Fin 16, (⟨#[48, 49, 50, 51, 52, 53, 54, 55, 56, 57, 97, 98, 99, 100, 101, 102]⟩ : ByteArray).extract i.val (i.val + 1) = ⟨#[hexd i.val]⟩ := by decide +kernel
theorem hexcut (i : Nat) (h : i < 16) : (⟨#[48, 49, 50, 51, 52, 53, 54, 55, 56, 57, 97, 98, 99, 100, 101, 102]⟩ : ByteArray).extract i (i + 1) = ⟨#[hexd i]⟩ := hexcut_fin ⟨i, h⟩
theorem u8_wrap (n : Int) : IntKind.u8.wrap n = n % 256 := by simp [IntKind.wrap, IntKind.bits, IntKind.signed]
set_option maxRecDepth 100000 in
set_option maxHeartbeats 2000000 in
theorem rhex_any (A : Option Addr) (n c : Nat) (l : List UInt8) (w : World) (hl : l.length = n) (hnc : n ≤ c) (hn : n ≤ 1000000) (h : Row bv w A l) :
    Calls Tryd.prog 36 #[.slice A n c] w fun e w' => e = .returned (.string ⟨(hexL l).toArray⟩) ∧ Gr w w' := by
  have HL := Lib.hid hl; clear hl
  have H := Lib.hid h; clear h
  go_enter Tryd.func36, Tryd.ntmps36
  go_wp2
  go_loopw [4, 5] (fun v i wr => ∃ k : Nat, i = .int .i64 k ∧ k ≤ n ∧ v = .string ⟨(hexL (l.take k)).toArray⟩ ∧ Gr w wr) (fun _ i _ => n - (intOf i).toNat)
  case atStart => exact ⟨0, rfl, Nat.zero_le _, rfl, Gr.refl _⟩
  case round =>
    obtain ⟨k, rfl, hk, rfl, hg⟩ := hrel
    have HG := Lib.hid hg; clear hg
    by_cases hlt : k < n
    · have hkx : k < l.length := by have := HL.out; omega
      obtain ⟨x, hx⟩ : ∃ x, l[k]? = some x := ⟨l[k], List.getElem?_eq_getElem hkx⟩
      obtain ⟨b, o, rfl, hb, hc⟩ := (H.out.gr HG.out).at_ (by intro e; subst e; simp at hkx)
      have c1 := hc k x hx
      clear hc
      simp only [bv] at c1
      have HX := Lib.hid hx; clear hx hkx
      have hu := x.toNat_lt
      generalize hxu : x.toNat = u at c1 hu
      have HU := Lib.hid hxu; clear hxu
      have hu2 : u < 256 := by omega
      have hsl : (hexL (l.take k)).length ≤ 2000000 := by rw [hexL_len, List.length_take]; omega
      generalize hhs : hexL (l.take k) = hs at *
      have HHS := Lib.hid hhs; clear hhs
      have q1 : IntKind.u8.wrap ((u : Int) / 16) = ((u / 16 : Nat) : Int) := by rw [u8_wrap]; omega
      have q2 : IntKind.u8.wrap (((u / 16 : Nat) : Int) + 1) = ((u / 16 + 1 : Nat) : Int) := by rw [u8_wrap]; omega
      have r1 : IntKind.u8.wrap ((u : Int) % 16) = ((u % 16 : Nat) : Int) := by rw [u8_wrap]; omega
      have r2 : IntKind.u8.wrap (((u % 16 : Nat) : Int) + 1) = ((u % 16 + 1 : Nat) : Int) := by rw [u8_wrap]; omega
      have x1 := hexcut (u / 16) (by omega)
      have x2 := hexcut (u % 16) (by omega)
      have d1 : u / 16 < 16 := by omega
      have d2 : u % 16 < 16 := by omega
      generalize hua : u / 16 = ua at *
      have HUA := Lib.hid hua; clear hua
      have X2 := Lib.hid x2
      go_wp2
      go_region
      go_wp2
      go_roundw
      case rel =>
        refine ⟨k + 1, by go_num, by omega, ?_, HG.out.trans (Gr.of (Below.refl _ _).drew)⟩
        have e1 : l.take (k + 1) = l.take k ++ [x] := by rw [List.take_add_one, HX.out]; rfl
        rw [e1, hexL_snoc, HHS.out, HU.out, HUA.out]
        have := X2.out
        try simp only [this]
        apply congrArg
        apply ByteArray.ext
        simp
      case measure => simp [intOf]; omega
    · have hkn : k = n := by omega
      have e1 : l.take k = l := List.take_of_length_le (by have := HL.out; omega)
      rw [e1]
      go_wp2
      go_ret
      exact ⟨rfl, HG.out⟩
theorem join_snoc44 (ls : List (List UInt8)) (hne : ls ≠ []) (x : List UInt8) : Lib.join (ls ++ [x]) [44] = Lib.join ls [44] ++ [44] ++ x := by
  induction ls with
  | nil => exact absurd rfl hne
  | cons a ls ih =>
    cases ls with
    | nil => simp [join_one, join_two]
    | cons b ls =>
      have := ih (by simp)
      rw [List.cons_append, List.cons_append, join_two, ← List.cons_append, this, join_two]
      simp [List.append_assoc]
theorem join_take_le (ls : List (List UInt8)) (k : Nat) : (Lib.join (ls.take k) [44]).length ≤ (Lib.join ls [44]).length := by
  induction ls generalizing k with
  | nil => simp
  | cons a ls ih =>
    cases k with
    | zero => simp [Lib.join]
    | succ k =>
      cases ls with
      | nil => simp
      | cons b ls =>
        cases k with
        | zero => simp [join_one, join_two]
        | succ k =>
          have := ih (k + 1)
          rw [List.take_succ_cons, List.take_succ_cons, join_two, join_two, ← List.take_succ_cons]
          simp only [List.length_append]
          omega
set_option maxRecDepth 100000 in
set_option maxHeartbeats 2000000 in
theorem rrow_any (A : Option Addr) (n c : Nat) (xs : List ByteArray) (w : World) (hl : xs.length = n) (hnc : n ≤ c) (hn : n ≤ 1000000) (hj : (Lib.join (xs.map (·.data.toList)) [44]).length ≤ 1000000000) (h : Row Value.string w A xs) :
    Calls Tryd.prog 37 #[.slice A n c] w fun e w' => e = .returned (.string ⟨(rowL xs).toArray⟩) ∧ Gr w w' := by
  rcases Nat.eq_zero_or_pos n with h0 | h0
  · subst h0
    obtain rfl : xs = [] := List.eq_nil_of_length_eq_zero hl
    go_enter Tryd.func37, Tryd.ntmps37
    go_wp2
    go_ret
    exact ⟨rfl, Gr.refl _⟩
  · have hx0 : xs ≠ [] := by rintro rfl; simp at hl; omega
    obtain ⟨b, o, rfl, hb, hc⟩ := h.at_ hx0
    obtain ⟨x0, hx⟩ : ∃ x, xs[0]? = some x := ⟨xs[0]'(by omega), List.getElem?_eq_getElem _⟩
    have c0 : w.cell? ⟨b, o, none⟩ = some (.string x0) := hc 0 x0 hx
    have HC := Lib.hid hc; have HL := Lib.hid hl; have HJ := Lib.hid hj; have HX0 := Lib.hid hx; have HNE := Lib.hid hx0
    clear hc hl hj h hx hx0
    have f0 : ((n : Int) == 0) = false := by simp; omega
    have f1 : (0 : Int) < (n : Int) := by omega
    go_enter Tryd.func37, Tryd.ntmps37
    go_wp2
    go_loopw [3, 4] (fun v i wr => ∃ k : Nat, i = .int .i64 k ∧ 1 ≤ k ∧ k ≤ n ∧ v = .string ⟨(Lib.join ((xs.take k).map (·.data.toList)) [44]).toArray⟩ ∧ Gr w wr) (fun _ i _ => n - (intOf i).toNat)
    case atStart =>
      refine ⟨1, rfl, Nat.le_refl _, h0, ?_, Gr.refl _⟩
      have : xs.take 1 = [x0] := by
        have := HX0.out
        cases xs with
        | nil => cases this
        | cons y r => simp at this; subst this; rfl
      rw [this]
      simp [join_one]
    case round =>
      obtain ⟨k, rfl, hk1, hk, rfl, hg⟩ := hrel
      by_cases hlt : k < n
      · have hkx : k < xs.length := by have := HL.out; omega
        obtain ⟨x, hx⟩ : ∃ x, xs[k]? = some x := ⟨xs[k], List.getElem?_eq_getElem hkx⟩
        have c1 := (hg.below.cell (p := ⟨b, o + k, none⟩) hb).trans (HC.out k x hx)
        have e1 : (xs.take (k + 1)).map (·.data.toList) = (xs.take k).map (·.data.toList) ++ [x.data.toList] := by rw [List.take_add_one, hx]; simp
        have hne : (xs.take k).map (·.data.toList) ≠ [] := by
          intro e
          have := congrArg List.length e
          rw [List.length_map, List.length_take, List.length_nil] at this
          omega
        have e2 := join_snoc44 _ hne x.data.toList
        rw [← e1] at e2
        have hle := join_take_le (xs.map (·.data.toList)) (k + 1)
        rw [← List.map_take, e2] at hle
        have hj2 := HJ.out
        simp only [List.length_append, List.length_singleton] at hle
        have E2 := Lib.hid e2; clear e2 e1 hne hx hkx
        have hxs : x.data.toList.length = x.size := (Lib.size_eq x).symm
        rw [hxs] at hle
        have HG := Lib.hid hg; clear hg
        generalize hJ : Lib.join ((xs.take k).map (·.data.toList)) [44] = js at *
        have hjs : js.length ≤ 1000000000 := by omega
        have hxz : x.size ≤ 1000000000 := by omega
        clear hle hj2 hxs
        go_wp2
        go_roundw
        case rel =>
          refine ⟨k + 1, by go_num, by omega, by omega, ?_, HG.out⟩
          rw [E2.out]
          apply congrArg
          apply ByteArray.ext
          simp
        case measure => simp [intOf]; omega
      · have hkn : k = n := by omega
        have e1 : xs.take k = xs := List.take_of_length_le (by have := HL.out; omega)
        rw [e1]
        have HG := Lib.hid hg; clear hg
        go_wp2
        go_ret
        exact ⟨by rw [rowL, if_neg HNE.out]; rfl, HG.out⟩
end Go.Proofs.YtgjdgafoidppaaaDoor
namespace Go.Proofs.YtgjdgafoidppaaaDoor
open Go.RowKit
set_option linter.unusedVariables false
set_option linter.unusedSimpArgs false
set_option linter.unnecessarySimpa false
set_option maxRecDepth 100000 in
set_option maxHeartbeats 4000000 in
theorem rdata_any (A : Option Addr) (n c : Nat) (l : List UInt8) (w : World) (hl : l.length = n) (hnc : n ≤ c) (hn : n ≤ 60000) (hr : Row bv w A l) :
    Calls Tryd.prog 18 #[.slice A n c] w fun e w' => e = .returned (.string ⟨(dataL l).toArray⟩) ∧ Gr w w' := by
  have HR := Lib.hid hr; clear hr
  have HL := Lib.hid hl; clear hl
  go_enter Tryd.func18, Tryd.ntmps18
  go_wp2
  go_loopw [3, 4] (fun v i wr => ∃ k : Nat, i = .int .i64 k ∧ k ≤ n / 64 ∧ OwnS w.heap.size wr v (secs l k) ∧ Below w.heap.size w wr) (fun _ i _ => n - (intOf i).toNat)
  case atStart => exact ⟨0, rfl, Nat.zero_le _, OwnS.nil _ _, Below.refl _ _⟩
  case round =>
    obtain ⟨k, rfl, hk, hown, hbw⟩ := hrel
    have hq0 : Int.tdiv (n : Int) 64 = ((n / 64 : Nat) : Int) := by rw [Int.tdiv_eq_ediv_of_nonneg (by omega)]; omega
    have HOWN := Lib.hid hown; have HB := Lib.hid hbw; clear hown hbw
    have hszw := HB.out.size
    generalize hqq : n / 64 = q at *
    by_cases hlt : k < q
    · have hlen : ((l.drop (64 * k)).take 64).length = 64 := by
        have := HL.out; rw [List.length_take, List.length_drop]; omega
      have hcut : Row bv w (A.map (·.add (64 * k))) ((l.drop (64 * k)).take 64) := HR.out.cut _ _
      obtain ⟨b, o, hA, hb, hc⟩ := HR.out.at_ (by intro e; have := HL.out; rw [e] at this; simp at this; omega)
      subst hA
      have hcell : ∀ (j : Nat) (x : UInt8), ((l.drop (64 * k)).take 64)[j]? = some x → w.cell? ⟨b, o + (64 * k + j), none⟩ = some (bv x) := by
        intro j x hj
        rw [List.getElem?_take] at hj
        split at hj
        · rw [List.getElem?_drop] at hj
          exact hc _ _ hj
        · cases hj
      have hcut2 : ∀ m, Row bv w (some ⟨b, o + 64 * k, none⟩) (((l.drop (64 * k)).take 64).take m) := fun m => by
        have := hcut.cut 0 m
        rw [List.drop_zero] at this
        simpa only [Option.map_some, Go.WideShapes.add_plain, Nat.add_zero] using this
      have hsec : secs l (k + 1) = secs l k ++ [⟨(secL ((l.drop (64 * k)).take 64)).toArray⟩] := secs_succ l k
      have HSEC := Lib.hid hsec; clear hsec
      generalize (l.drop (64 * k)).take 64 = sl at *
      have HC := Lib.hid hcell; have HCUT := Lib.hid hcut2; have HLEN := Lib.hid hlen
      clear hcell hcut2 hlen hcut hc
      go_wp2
      go_loopw [5] (fun i wx => ∃ m : Nat, i = .int .i64 m ∧ m ≤ 64 ∧ Hid (trimZ (sl.take m) = trimZ sl) ∧ wx = wr) (fun i _ => (intOf i).toNat)
      case atStart => exact ⟨64, rfl, Nat.le_refl _, by rw [List.take_of_length_le (by have := HLEN.out; omega)]; exact Lib.hid rfl, rfl⟩
      case round =>
        obtain ⟨m, rfl, hm, hT, rfl⟩ := hrel
        rcases Nat.eq_zero_or_pos m with h0 | h0
        · subst h0
          have e0 : (⟨(secL sl).toArray⟩ : ByteArray) = ⟨#[45]⟩ := by
            have := hT.out
            have e1 : trimZ sl = [] := by rw [← this]; rfl
            simp [secL, e1]
          have E := Lib.hid e0; clear e0
          go_wp2_with (at_builtin; refine wp_append_str rfl _ _ rfl w.heap.size ?vv1 (secs l k) ?hs1 ?own1 _ ⟨#[45]⟩ rfl ?hc1 (by rw [secs_len]; omega) ?hb1 ?_)
          case hs1 => rfl
          case own1 => first | exact HOWN.out.alloc_ _ | exact (HOWN.out.grown_ _).alloc_ _
          case hc1 => simp [go_sem]
          case hb1 => simp; omega
          intro v2 W2 a2
          have hown2 := a2.own
          have hb2 := Below.trans (by repeat (first | with_reducible exact HB.out | with_reducible apply below_alloc | with_reducible refine below_trans ?_ (grown_below _ _))) a2.below
          clear a2
          go_wp2
          go_roundw
          case rel =>
            refine ⟨k + 1, by go_num, by omega, ?_, hb2⟩
            rw [HSEC.out, E.out]
            exact hown2
          case measure => simp [intOf]; omega
        · obtain ⟨q2, rfl⟩ : ∃ q, m = q + 1 := ⟨m - 1, by omega⟩
          have hqx : q2 < sl.length := by have := HLEN.out; omega
          obtain ⟨x, hx⟩ : ∃ x, sl[q2]? = some x := ⟨sl[q2], List.getElem?_eq_getElem hqx⟩
          have c1 := (HB.out.cell (p := ⟨b, o + (64 * k + q2), none⟩) hb).trans (HC.out q2 x hx)
          simp only [bv] at c1
          have HX := Lib.hid hx; clear hx hqx h0
          have i1 : 64 * (k : Int) + ((q2 + 1 : Nat) : Int) - 1 = ((64 * k + q2 : Nat) : Int) := by omega
          by_cases hz : x = 0
          · have hxu : x.toNat = 0 := by rw [hz]; rfl
            have hb0 : ((x.toNat : Int) == 0) = true := by simp [hxu]
            have HZ := Lib.hid hz; clear hz hxu
            go_wp2
            go_roundw
            case rel => exact ⟨q2, by go_num, by omega, by
              have := hT.out
              rw [take_snoc1 HX.out, HZ.out, trimZ_zero] at this
              exact Lib.hid this, trivial⟩
            case measure => simp [intOf]
          · have hxu : x.toNat ≠ 0 := fun h => hz (UInt8.toNat_inj.1 (by simpa using h))
            have hb0 : ((x.toNat : Int) == 0) = false := by simp; omega
            have e1 : trimZ sl = sl.take (q2 + 1) := by
              have := hT.out
              rw [take_snoc1 HX.out, trimZ_ne _ _ hz] at this
              rw [take_snoc1 HX.out]; exact this.symm
            have e2 : (⟨(secL sl).toArray⟩ : ByteArray) = ⟨(hexL (sl.take (q2 + 1))).toArray⟩ := by
              have hne : sl.take (q2 + 1) ≠ [] := by rw [take_snoc1 HX.out]; simp
              rw [secL, e1, if_neg hne]
            have E := Lib.hid e2; clear e2 e1 hz hxu hT
            have hlt2 : (sl.take (q2 + 1)).length = q2 + 1 := by
              have := HLEN.out; rw [List.length_take]; omega
            have HT := Lib.hid hlt2; clear hlt2
            have hHX : ∀ c', q2 + 1 ≤ c' → Calls Tryd.prog 36 #[.slice (some ⟨b, o + 64 * k, none⟩) (q2 + 1) c'] wr fun e w' => e = .returned (.string ⟨(hexL (sl.take (q2 + 1))).toArray⟩) ∧ Gr wr w' :=
              fun c' hc' => rhex_any _ _ _ _ wr HT.out hc' (by omega) ((HCUT.out (q2 + 1)).gr (Gr.of HB.out))
            have HHX := Lib.hid (hHX (c - 64 * k) (by omega)); clear hHX
            go_wp2_with ((go_at_call 36; ((with_reducible refine HHX.out.mono ?_))))
            rintro _ W1 ⟨rfl, hg⟩
            have hg1 := hg.below.size
            go_wp2_with (at_builtin; refine wp_append_str rfl _ _ rfl w.heap.size ?vv2 (secs l k) ?hs2 ?own2 _ ⟨(hexL (sl.take (q2 + 1))).toArray⟩ rfl ?hc2 (by rw [secs_len]; omega) ?hb2 ?_)
            case hs2 => rfl
            case own2 => first | exact HOWN.out.alloc_ _ | exact (HOWN.out.gr hg).alloc_ _
            case hc2 => simp [go_sem]
            case hb2 => simp; omega
            intro v2 W2 a2
            have hown2 := a2.own
            have hb2 := Below.trans (below_alloc (below_trans HB.out hg.below) _) a2.below
            clear a2
            go_wp2
            go_roundw
            case rel =>
              refine ⟨k + 1, by go_num, by omega, ?_, hb2⟩
              rw [HSEC.out, E.out]
              exact hown2
            case measure => simp [intOf]; omega
    · obtain rfl : k = q := by omega
      have e0 : dataL l = rowL (secs l k) := by rw [dataL, HL.out, hqq]
      have E := Lib.hid e0; clear e0
      have hJ := Lib.hid (secs_join l k)
      have hSL := Lib.hid (secs_len l k)
      obtain ⟨VA, vc, hv, hvc, hrow⟩ := HOWN.out.form
      rw [secs_len] at hvc hv
      subst hv
      have HROW := Lib.hid hrow; clear hrow
      have HRW := Lib.hid (rrow_any VA k vc (secs l k) wr hSL.out hvc (by omega) (by have := hJ.out; omega) HROW.out)
      go_wp2_with ((go_at_call 37; ((with_reducible refine HRW.out.mono ?_))))
      rintro _ W1 ⟨rfl, hg⟩
      go_wp2
      go_ret
      exact ⟨by rw [E.out]; rfl, Gr.of (below_trans HB.out hg.below)⟩
end Go.Proofs.YtgjdgafoidppaaaDoor
namespace Go.Proofs.YtgjdgafoidppaaaDoor
open Go.RowKit
set_option linter.unusedVariables false
set_option linter.unusedSimpArgs false
set_option linter.unnecessarySimpa false
theorem num26_any (n : Int) (w : World) : Calls Tryd.prog 12 #[.int .i64 n] w fun e w' => e = .returned (.int .i64 n) ∧ w = w' := by
  go_enter Tryd.func12, Tryd.ntmps12
  go_wp2
  go_ret
  exact ⟨rfl, rfl⟩
theorem dec_small (u : Nat) (h : u < 10) : Lib.decDigits u = [UInt8.ofNat (48 + u)] := by rw [Lib.decDigits, dif_pos h]
theorem itoa_small (u : Nat) (h : u < 10) : Lib.itoa (u : Int) = [UInt8.ofNat (48 + u)] := by rw [Lib.itoa_nonneg, dec_small u h]
theorem known_text1 : actTextL 4 1 0 0 0 0 0 0 0 false [] [0, 2] = [111, 102, 102, 32, 49, 32, 48, 44, 50] := by
  have e0 : Lib.itoa 0 = [48] := itoa_small 0 (by omega)
  have e1 : Lib.itoa 1 = [49] := itoa_small 1 (by omega)
  have e2 : Lib.itoa 2 = [50] := itoa_small 2 (by omega)
  simp [actTextL, actPieces, rowL, pickT, e0, e1, e2, Lib.join, List.intercalate]
def blk7 : List UInt8 := 7 :: List.replicate 127 0
theorem known_data : dataL blk7 = [48, 55, 44, 45] := by decide +kernel
theorem known_text2 : actTextL 1 0 0 5 3 0 0 5 0 false blk7 [] = [97, 115, 107, 32, 48, 32, 119, 114, 105, 116, 101, 32, 51, 32, 53, 32, 48, 55, 44, 45] := by
  have e0 : Lib.itoa 0 = [48] := itoa_small 0 (by omega)
  have e5 : Lib.itoa 5 = [53] := itoa_small 5 (by omega)
  have e3 : Lib.decDigits 3 = [51] := dec_small 3 (by omega)
  simp [actTextL, actPieces, opTextL, opPieces, known_data, e0, e3, e5, Lib.join, List.intercalate]
theorem known_may1 : mayActB 4 1 0 0 0 0 0 0 0 false 0 2 [] [0, 2] = true := by decide
theorem known_may2 : mayActB 1 0 0 5 3 0 0 5 0 false 128 0 blk7 [] = true := by decide +kernel
theorem bd0 : Bd 0 0 0 0 0 := ⟨by omega, by omega, by omega, by omega, by omega, by omega, by omega, by omega, by omega, by omega⟩
theorem bd1 : Bd 3 0 0 5 0 := ⟨by omega, by omega, by omega, by omega, by omega, by omega, by omega, by omega, by omega, by omega⟩
theorem known_call1 (b : Nat) (W : World) [hk : Tb W] (hb : b < W.heap.size) (c0 : W.cell? ⟨b, 0, none⟩ = some (.int .i64 0)) (c1 : W.cell? ⟨b, 1, none⟩ = some (.int .i64 2)) :
    Calls Tryd.prog 26 #[(Value.agg #[.int .i64 4, .int .i64 1, .int .i64 0, .int .i64 0, .int .u64 0, .int .u64 0, .int .i64 0, .int .i64 0, .int .i64 0, .slice none 0 0, .bool false, .slice (some ⟨b, 0, none⟩) 2 2])] W fun e w' => e = .returned (.tuple #[.string ⟨#[111, 102, 102, 32, 49, 32, 48, 44, 50]⟩, .int .i64 0]) ∧ Gr W w' := by
  have h := ActText_any 4 1 0 0 0 0 0 0 0 none (some ⟨b, 0, none⟩) 0 0 2 2 false [] [0, 2] W (by omega) (by omega) (by omega) (by omega) bd0 rfl (by omega) Row.nil rfl (by omega) ⟨by intro n hn; simp at hn; omega, by intro n hn; simp at hn; omega⟩ ⟨fun _ => ⟨b, 0, rfl, hb, fun j x hx => by
    match j, hx with
    | 0, hx => simp at hx; subst hx; exact c0
    | 1, hx => simp at hx; subst hx; exact c1⟩⟩ (by omega) (by omega)
  rw [known_may1, known_text1] at h
  exact h
theorem known_call2 (b : Nat) (W : World) [hk : Tb W] (hr : Row bv W (some ⟨b, 0, none⟩) blk7) :
    Calls Tryd.prog 26 #[(Value.agg #[.int .i64 1, .int .i64 0, .int .i64 0, .int .i64 5, .int .u64 3, .int .u64 0, .int .i64 0, .int .i64 5, .int .i64 0, .slice (some ⟨b, 0, none⟩) 128 128, .bool false, .slice none 0 0])] W fun e w' => e = .returned (.tuple #[.string ⟨#[97, 115, 107, 32, 48, 32, 119, 114, 105, 116, 101, 32, 51, 32, 53, 32, 48, 55, 44, 45]⟩, .int .i64 0]) ∧ Gr W w' := by
  have h := ActText_any 1 0 0 5 3 0 0 5 0 (some ⟨b, 0, none⟩) none 128 128 0 0 false blk7 [] W (by omega) (by omega) (by omega) (by omega) bd1 rfl (by omega) hr rfl (by omega) ⟨by intro n hn; simp at hn, by intro n hn; simp at hn⟩ Row.nil (by omega) (by omega)
  rw [known_may2, known_text2] at h
  exact h
def zeros128 : Array Value := Array.replicate 128 (.int .u8 0)
theorem make128 (W : World) : (Instr.makeSlice 41 (.int .i64 128) (.int .i64 128)).run Tryd.prog W = .ok (.slice (some ⟨W.heap.size, 0, none⟩) 128 128) (W.alloc (.cells zeros128 5)) := by kernel_rfl
theorem zeros128_at (j : Nat) (h : j < 128) : zeros128[j]? = some (.int .u8 0) := by
  unfold zeros128; rw [Array.getElem?_replicate, if_pos h]
theorem blk7_at (j : Nat) (x : UInt8) (h : blk7[j]? = some x) : j < 128 ∧ (j = 0 ∧ x = 7 ∨ j ≠ 0 ∧ x = 0) := by
  have hl : j < 128 := by
    have := (List.getElem?_eq_some_iff.1 h).1
    simpa [blk7] using this
  refine ⟨hl, ?_⟩
  cases j with
  | zero => left; simp [blk7] at h; exact ⟨rfl, h.symm⟩
  | succ j =>
    right
    have h2 : j < 127 := by omega
    have h3 : (List.replicate 127 (0 : UInt8))[j]? = some x := h
    rw [List.getElem?_replicate, if_pos h2] at h3
    exact ⟨by omega, (Option.some.inj h3).symm⟩
set_option maxRecDepth 100000 in
set_option maxHeartbeats 2000000 in
theorem known26_any (w : World) [hk : Tb w] : Calls Tryd.prog 9 #[] w fun e w' => e = .returned (.bool true) ∧ Gr w w' := by
  have C1 := Lib.hid (fun b W (_ : Tb W) hb c0 c1 => known_call1 b W hb c0 c1)
  have C2 := Lib.hid (fun b W (_ : Tb W) hr => known_call2 b W hr)
  go_enter Tryd.func9, Tryd.ntmps9
  go_wp2_with (go_at_call 26; ((with_reducible refine (C1.out w.heap.size _ inferInstance ?h1 ?h2 ?h3).mono ?_)))
  case h1 => exact (inferInstance : Old _ _).lt
  case h2 => simp [go_sem]
  case h3 => simp [go_sem]
  rintro _ _ ⟨rfl, g, rfl⟩
  clear C1
  have hmk := fun W => make128 W
  have z0 : ∀ W : World, (W.alloc (.cells zeros128 5)).cell? ⟨W.heap.size, 0, none⟩ = some (.int .u8 0) := fun W => by rw [World.cell?_alloc_new]; exact zeros128_at 0 (by omega)
  go_wp2_with (go_at_call 26; ((with_reducible refine (C2.out _ _ inferInstance ?h4).mono ?_)))
  case h4 =>
    refine ⟨fun _ => ⟨_, 0, rfl, (inferInstance : Old _ _).lt, fun j x hx => ?_⟩⟩
    obtain ⟨hj, h5⟩ := blk7_at j x hx
    have hs : zeros128.size = 128 := by unfold zeros128; simp
    rw [Nat.zero_add, World.cell?_alloc_new, Array.getElem?_setIfInBounds]
    rcases h5 with ⟨rfl, rfl⟩ | ⟨h6, rfl⟩
    · simp [hs]; rfl
    · rw [if_neg (fun e => h6 e.symm)]
      exact zeros128_at j hj
  rintro _ _ ⟨rfl, g2, rfl⟩
  go_wp2_with (go_at_call 12; ((with_reducible refine (num26_any _ _).mono ?_); rintro _ _ ⟨rfl, rfl⟩))
  go_ret
  exact ⟨rfl, gri⟩
end Go.Proofs.YtgjdgafoidppaaaDoor
namespace Go.Proofs.YtgjdgafoidppaaaDoor
open Go.RowKit
set_option linter.unusedVariables false
set_option linter.unusedSimpArgs false
set_option linter.unnecessarySimpa false
theorem wp_append_at {ops : Array Oper} {rest : List Oper} {o : Oper} {a : Act} {Q : Exit → Act → World → Prop} (hgd : o.guard = none) (s x : Operand)
    (ho : o.op = .call { callee := .builtin .append, args := #[s, x], argTypes := #[41, 41] })
    (base : Nat) {W : World} (v : Value) (xs : List UInt8) (hs : a.eval s = v) (hown : OwnR bv 5 base W v xs) (ad : Addr) (c : Nat) (ys : List UInt8) (m : Nat) (hm : ys.length = m) (hx : a.eval x = .slice (some ad) m c)
    (hc : ∀ j y, ys[j]? = some y → W.cell? (ad.add j) = some (bv y)) (hlen : xs.length + ys.length ≤ 100000000) (hbase : base ≤ W.heap.size)
    (h : ∀ v' W', AppR bv 5 base W xs ys v' W' → wpList Tryd.prog ops Q rest (a.put o.dst v') W') : wpList Tryd.prog ops Q (o :: rest) a W := by
  subst hm
  obtain ⟨i0, hi, hz0, hz2, hz3⟩ := info_parts infoU8
  refine wpList_append_own W hgd s x 41 ho base 5 i0 (.int .u8 0) 1 1 Tryd.underlying41 hi hz0 hz2 hz3 rfl (by decide) v xs.length (xs.map bv) hs hown ad ys.length c (ys.map bv) hx (by simp) ?_ ?_ ?_ ?_ hbase ?_
  · intro j u hj
    rw [List.getElem?_map] at hj
    cases hy : ys[j]? with
    | none => rw [hy] at hj; cases hj
    | some y =>
      rw [hy] at hj
      cases hj
      exact hc j y hy
  · intro u hu
    simp only [List.mem_map] at hu
    obtain ⟨y, _, rfl⟩ := hu
    rfl
  · unfold maxLen; omega
  · omega
  · intro v' W' hown' hgrow _
    refine h v' W' ⟨by simpa [OwnR] using hown', (Below.refl base W).grown hgrow hbase (fun q hq => (hown.lt q hq).1), hgrow.size, fun B cs t hB ht => hB.grown hgrow (fun e => ?_), fun k st pos hk => (hgrow.block k (Array.getElem?_eq_some_iff.1 hk).1 (fun e => ?_)).trans hk⟩
    · rcases hown.2 with ⟨rfl, _⟩ | ⟨g, cap, cur, rfl, _, hh, _⟩
      · simp [Value.ownBlock] at e
      · have : B = g := by simpa [Value.ownBlock] using e
        subst this
        have := hB.eq
        rw [hh] at this
        cases this
        exact ht rfl
    · rcases hown.2 with ⟨rfl, _⟩ | ⟨g, cap, cur, rfl, _, hh, _⟩
      · simp [Value.ownBlock] at e
      · have : k = g := by simpa [Value.ownBlock] using e
        subst this
        rw [hh] at hk
        cases hk
theorem row_at {W : World} {ad : Addr} {ys : List UInt8} (hr : Row bv W (some ad) ys) : ∀ j y, ys[j]? = some y → W.cell? (ad.add j) = some (bv y) := by
  intro j y hj
  obtain ⟨b, o, e, _, hc⟩ := hr.at_ (by rintro rfl; simp at hj)
  cases e
  have hadd : (⟨b, o, none⟩ : Addr).add j = ⟨b, o + j, none⟩ := by unfold Addr.add; split <;> simp_all
  rw [hadd]
  exact hc j y hj
/-- The one law: the source stands in memory, or it is nil. -/
theorem wp_append_src {ops : Array Oper} {rest : List Oper} {o : Oper} {a : Act} {Q : Exit → Act → World → Prop} (hgd : o.guard = none) (s x : Operand)
    (ho : o.op = .call { callee := .builtin .append, args := #[s, x], argTypes := #[41, 41] })
    (base : Nat) {W : World} (v : Value) (xs : List UInt8) (hs : a.eval s = v) (hown : OwnR bv 5 base W v xs) (D : Option Addr) (m c : Nat) (ys : List UInt8) (hm : ys.length = m) (hx : a.eval x = .slice D m c) (hnil : D = none → c = 0)
    (hr : Row bv W D ys) (hlen : xs.length + ys.length ≤ 100000000) (hbase : base ≤ W.heap.size)
    (h : ∀ v' W', AppR bv 5 base W xs ys v' W' → wpList Tryd.prog ops Q rest (a.put o.dst v') W') : wpList Tryd.prog ops Q (o :: rest) a W := by
  cases D with
  | some ad => exact wp_append_at hgd s x ho base v xs hs hown ad c ys m hm hx (row_at hr) hlen hbase h
  | none =>
    have e : ys = [] := by
      cases ys with
      | nil => rfl
      | cons y r => obtain ⟨_, _, e, _⟩ := hr.at_ (by simp); cases e
    subst e
    obtain rfl : m = 0 := by simpa using hm.symm
    obtain rfl := hnil rfl
    obtain ⟨i0, hi, hz0, hz2, hz3⟩ := info_parts infoU8
    exact wpList_append_own_none hgd s x 41 ho base 5 i0 1 Tryd.underlying41 hi v xs.length (xs.map bv) hs hown hx (h v W ⟨by simpa using hown, Below.refl _ _, Nat.le_refl _, fun _ _ _ hB _ => hB, fun _ _ _ hk => hk⟩)
end Go.Proofs.YtgjdgafoidppaaaDoor
namespace Go.Proofs.YtgjdgafoidppaaaDoor
open Go.RowKit
set_option linter.unusedVariables false
set_option linter.unusedSimpArgs false
set_option linter.unnecessarySimpa false
theorem strOf_bytes (l : List UInt8) : strOfNums (l.map fun b => ((b.toNat : Nat) : Int)) = ⟨l.toArray⟩ := by
  unfold strOfNums
  congr 2
  rw [List.map_map]
  conv => rhs; rw [← List.map_id l]
  refine List.map_congr_left (fun b _ => ?_)
  show UInt8.ofNat b.toNat = b
  simp
theorem conv_row (A : Option Addr) (n q : Nat) (l : List UInt8) (W : World) (hl : l.length = n) (hr : Row bv W A l) : (convert 41 9 (.slice A n q)).run Tryd.prog W = .ok (.string ⟨l.toArray⟩) W := by
  by_cases h0 : l = []
  · subst h0
    obtain rfl : n = 0 := by simpa using hl.symm
    cases A with
    | none => exact run_convert_bytes_nil W 41 5 Tryd.underlying41 Tryd.underlying5 0 q 9 Tryd.underlying9
    | some a =>
      rw [run_convert_bytes_string W 41 9 5 (some a) 0 q Tryd.underlying41 Tryd.underlying5 Tryd.underlying9]
      rw [run_bytesToString W a 0 q [] (by simpa using run_loadCells_list (P := Tryd.prog) W a [] (fun j v hj => by simp at hj))]
      rfl
  · obtain ⟨b, o, rfl, hb, hc⟩ := hr.at_ h0
    rw [run_convert_bytes_arg W 41 5 Tryd.underlying41 Tryd.underlying5 b o n q (l.map fun b => ((b.toNat : Nat) : Int)) (by simpa using hl) (fun i hi => ?_) 9 Tryd.underlying9, strOf_bytes]
    have hil : i < l.length := by omega
    rw [hc i l[i] (List.getElem?_eq_getElem hil)]
    simp [bv, List.getD, List.getElem?_map, List.getElem?_eq_getElem hil]
end Go.Proofs.YtgjdgafoidppaaaDoor
namespace Go.Proofs.YtgjdgafoidppaaaDoor
open Go.RowKit Go.ChangeShapes Go.WideShapes
set_option linter.unusedVariables false
set_option linter.unusedSimpArgs false
set_option linter.unnecessarySimpa false
/-- An operation that came in. -/
structure Came (W : World) (k v t s a c : Int) (D : Option Addr) (n q : Nat) (l : List UInt8) : Prop where
  b : Bd v t s a c
  len : l.length = n
  cap : n ≤ q
  big : n ≤ 9223372036854775807
  row : Row bv W D l
theorem has_i64 {n : Int} (h : IntKind.i64.has n) : -9223372036854775808 ≤ n ∧ n ≤ 9223372036854775807 := by
  simp [IntKind.has, IntKind.min, IntKind.max, IntKind.bits, IntKind.signed] at h; omega
theorem has_u64 {n : Int} (h : IntKind.u64.has n) : 0 ≤ n ∧ n ≤ 18446744073709551615 := by
  simp [IntKind.has, IntKind.min, IntKind.max, IntKind.bits, IntKind.signed] at h; omega
section
variable {H : Type} {enc : TypeId × Value → H}
set_option maxRecDepth 100000 in
/-- A slice of numbers. -/
theorem open_nums {α : Type} {W : World} {fuel : Nat} {t e : TypeId} {k : IntKind} (en : α → Value) (f : Int → α) (ht : Tryd.prog.underlying t = some (.slice e)) (he : Tryd.prog.underlying e = some (.int k)) (hc1 : Tryd.prog.cellsOf e = 1) (hf : ∀ z, (Lit.int k z).wf = true → en (f z) = .int k z) {c : Value} {x : DataW H × List MemPlace}
    (h : DataW.trod enc Tryd.prog W 0 (fun _ => true) true fuel t [c] = some x) : ∃ (D : Option Addr) (q : Nat) (l : List α) (zs : List Int), c = .slice D l.length q ∧ l.length ≤ q ∧ q ≤ maxLen ∧ Row en W D l ∧ l = zs.map f ∧ (∀ z ∈ zs, (Lit.int k z).wf = true) ∧ (D = none → q = 0) := by
  rcases open_ints ht he hc1 h with ⟨h0, _⟩ | ⟨a, len, cap, zs, h0, _, hl, hm, hz, _, hcell, hw⟩
  · obtain rfl : c = .slice none 0 0 := by simpa using h0
    exact ⟨none, 0, [], [], rfl, Nat.le_refl _, Nat.zero_le _, Row.nil, rfl, fun z hz => by simp at hz, fun _ => rfl⟩
  · obtain rfl : c = .slice (some a) len cap := by simpa using h0
    rw [if_pos rfl] at hz
    have hlen : ((zs.take len).map f).length = len := by rw [List.length_map, List.length_take]; omega
    refine ⟨some a, cap, (zs.take len).map f, zs.take len, by rw [hlen], by rw [hlen]; exact hl, hm, ⟨fun hne => ?_⟩, rfl, fun z hz => hw z (List.mem_of_mem_take hz), fun h => by cases h⟩
    have hpos : 0 < len := by
      rcases Nat.eq_zero_or_pos len with h | h
      · subst h; simp at hne
      · exact h
    obtain ⟨b, o, sp⟩ := a
    have h1 := hcell 0 (by omega)
    have hsp : sp = none := by
      cases sp with
      | none => rfl
      | some y => simp [Addr.add, World.cell?] at h1; split at h1 <;> simp at h1
    subst hsp
    have hadd : ∀ i, (⟨b, o, none⟩ : Addr).add i = ⟨b, o + i, none⟩ := fun i => by unfold Addr.add; split <;> simp_all
    refine ⟨b, o, rfl, ?_, fun j y hj => ?_⟩
    · rcases Nat.lt_or_ge b W.heap.size with h | h
      · exact h
      · rw [hadd] at h1
        simp [World.cell?, Array.getElem?_eq_none h] at h1
    · rw [List.getElem?_map] at hj
      have hjl : j < len := by
        rcases Nat.lt_or_ge j len with h | h
        · exact h
        · rw [List.getElem?_eq_none (by rw [List.length_take]; omega)] at hj; simp at hj
      rw [List.getElem?_take, if_pos hjl, List.getElem?_eq_getElem (by omega)] at hj
      simp only [Option.map_some, Option.some.injEq] at hj
      subst hj
      have h2 := hcell j (by omega)
      rw [hadd] at h2
      rw [h2, List.getD_eq_getElem?_getD, List.getElem?_eq_getElem (by omega)]
      simp only [Option.getD_some]
      rw [hf _ (hw _ (List.getElem_mem _))]
theorem u8_of {z : Int} (h : (Lit.int .u8 z).wf = true) : bv (UInt8.ofNat z.toNat) = .int .u8 z := by
  simp [Lit.wf, IntKind.min, IntKind.max, IntKind.bits, IntKind.signed] at h
  unfold bv
  have e : (UInt8.ofNat z.toNat).toNat = z.toNat := by rw [UInt8.toNat_ofNat', Nat.mod_eq_of_lt (by omega)]
  rw [e, Int.toNat_of_nonneg (by omega)]
set_option maxRecDepth 100000 in
theorem open_op_cells {W : World} {base : Nat} {cs : List Value} {fuel : Nat} {x : DataW H × List MemPlace} (hl : cs.length = 7) (hc : ∀ (i : Nat) c u, cs[i]? = some c → ([43, 44, 44, 3, 3, 3, 41] : List TypeId)[i]? = some u → Cell.okWide Tryd.prog W .any base u c)
    (h : DataW.trod enc Tryd.prog W 0 (fun _ => true) true fuel 46 cs = some x) :
    ∃ k v t s a c D n q l, cs = [.int .i64 k, .int .u64 v, .int .u64 t, .int .i64 s, .int .i64 a, .int .i64 c, .slice D n q] ∧ Came W k v t s a c D n q l := by
  match cs, hl with
  | [c0, c1, c2, c3, c4, c5, c6], _ =>
    obtain ⟨k, rfl, _⟩ := cell_int Tryd.underlying43 (hc 0 c0 _ rfl rfl)
    obtain ⟨v, rfl, hv⟩ := cell_int Tryd.underlying44 (hc 1 c1 _ rfl rfl)
    obtain ⟨t, rfl, ht⟩ := cell_int Tryd.underlying44 (hc 2 c2 _ rfl rfl)
    obtain ⟨s, rfl, hs⟩ := cell_int Tryd.underlying3 (hc 3 c3 _ rfl rfl)
    obtain ⟨a, rfl, ha⟩ := cell_int Tryd.underlying3 (hc 4 c4 _ rfl rfl)
    obtain ⟨c, rfl, hcc⟩ := cell_int Tryd.underlying3 (hc 5 c5 _ rfl rfl)
    obtain ⟨xs, n0, _, _, _, hlen, hf⟩ := DataW.trod_struct Tryd.underlying46 h
    obtain ⟨y6, hy⟩ : ∃ y, xs[6]? = some y := ⟨xs[6]'(by rw [hlen]; decide), List.getElem?_eq_getElem _⟩
    have h6 := hf 6 _ rfl
    rw [hy] at h6
    obtain ⟨D, q, l, zs, rfl, hq, hm, hr, _, _, _⟩ := open_nums bv (fun z => UInt8.ofNat z.toNat) Tryd.underlying41 Tryd.underlying5 (by kernel_rfl) (fun z hz => u8_of hz) (c := c6) h6
    have := has_u64 hv; have := has_u64 ht; have := has_i64 hs; have := has_i64 ha; have := has_i64 hcc
    unfold maxLen at hm
    exact ⟨k, v, t, s, a, c, D, l.length, q, l, rfl, ⟨⟨by omega, by omega, by omega, by omega, by omega, by omega, by omega, by omega, by omega, by omega⟩, rfl, hq, by omega, hr⟩⟩
set_option maxRecDepth 100000 in
theorem open_op {W : World} {base : Nat} {v : Value} {d : DataW H} {p : List MemPlace} (hv : Value.okWide Tryd.prog W .any base 46 v) (h : DataW.Trod enc Tryd.prog W 0 (fun _ => true) true 46 v d p) :
    ∃ k u t s a c D n q l, v = .agg #[.int .i64 k, .int .u64 u, .int .u64 t, .int .i64 s, .int .i64 a, .int .i64 c, .slice D n q] ∧ Came W k u t s a c D n q l := by
  obtain ⟨cs, rfl, hl, hc⟩ := open_cells [43, 44, 44, 3, 3, 3, 41] Tryd.underlying46 (by kernel_rfl) (by kernel_rfl) hv
  obtain ⟨fuel, hd⟩ := h
  obtain ⟨k, u, t, s, a, c, D, n, q, l, rfl, hC⟩ := open_op_cells (cs := cs) hl hc (by simpa [Value.cells] using hd)
  exact ⟨k, u, t, s, a, c, D, n, q, l, rfl, hC⟩
set_option maxRecDepth 100000 in
theorem open_int' {W : World} {base : Nat} {v : Value} (hv : Value.okWide Tryd.prog W .any base 3 v) : ∃ n : Int, v = .int .i64 n ∧ -9223372036854775808 ≤ n ∧ n ≤ 9223372036854775807 := by
  simp only [Value.okWide, Tryd.underlying3] at hv
  obtain ⟨n, rfl, hn⟩ := cell_int Tryd.underlying3 hv
  exact ⟨n, rfl, (has_i64 hn).1, (has_i64 hn).2⟩
/-- Bytes that came in. -/
structure CameB (W : World) (D : Option Addr) (n q : Nat) (l : List UInt8) : Prop where
  len : l.length = n
  cap : n ≤ q
  nil : D = none → q = 0
  row : Row bv W D l
set_option maxRecDepth 100000 in
theorem open_bytes {W : World} {base : Nat} {v : Value} {d : DataW H} {p : List MemPlace} (hv : Value.okWide Tryd.prog W .any base 41 v) (h : DataW.Trod enc Tryd.prog W 0 (fun _ => true) true 41 v d p) :
    ∃ D n q l, v = .slice D n q ∧ CameB W D n q l := by
  simp only [Value.okWide, Tryd.underlying41, Cell.okWide] at hv
  obtain ⟨fuel, hd⟩ := h
  have hv2 : v.cells.toList = [v] := by cases v <;> simp_all [Cell.ok, Value.cells]
  rw [hv2] at hd
  obtain ⟨D, q, l, zs, rfl, hq, hm, hr, _, _, hn⟩ := open_nums bv (fun z => UInt8.ofNat z.toNat) Tryd.underlying41 Tryd.underlying5 (by kernel_rfl) (fun z hz => u8_of hz) hd
  exact ⟨D, l.length, q, l, rfl, rfl, hq, hn, hr⟩
end
end Go.Proofs.YtgjdgafoidppaaaDoor
