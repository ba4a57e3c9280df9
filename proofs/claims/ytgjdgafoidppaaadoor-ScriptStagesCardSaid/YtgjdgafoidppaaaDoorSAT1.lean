/- script.actText (some kinds). Conditions: what is read stands in memory; strconv's table stands. -/
import Derived.Test.YtgjdgafoidppaaaDoorSATP
namespace Go.Proofs.YtgjdgafoidppaaaDoor
open Go.RowKit
set_option linter.unusedVariables false
set_option linter.unusedSimpArgs false
set_option linter.unnecessarySimpa false
set_option maxRecDepth 100000 in
set_option maxHeartbeats 8000000 in
theorem actText_1 (xn xm xOk xOv xOt xOs xOa xOc : Int) (xOD xP : Option Addr) (xOn xOq xpn xpq : Nat) (lx : List UInt8) (px : List Int) (w : World) [hk : Tb w] (n0 : -9223372036854775808 ≤ xn) (n1 : xn ≤ 9223372036854775807) (m0 : -9223372036854775808 ≤ xm) (m1 : xm ≤ 9223372036854775807) (B : Bd xOv xOt xOs xOa xOc) (ok : 1 ≤ xOk) (ok9 : xOk ≤ 9) (hx : lx.length = xOn) (hxq : xOn ≤ xOq) (hn : xOn ≤ 100000) (h1 : Row bv w xOD lx) : Calls Tryd.prog 45 #[(Value.agg #[.int .i64 1, .int .i64 xn, .int .i64 xm, .int .i64 xOk, .int .u64 xOv, .int .u64 xOt, .int .i64 xOs, .int .i64 xOa, .int .i64 xOc, .slice xOD xOn xOq, .bool false, .slice xP xpn xpq])] w fun e w' => e = .returned (.string ⟨(Lib.join (([⟨#[97, 115, 107]⟩, ⟨(Lib.itoa xn).toArray⟩, ⟨(opTextL xOk xOv xOt xOs xOa xOc lx).toArray⟩] : List ByteArray).map (·.data.toList)) [32]).toArray⟩) ∧ Gr w w' := by
  have H1 := Lib.hid h1; clear h1
  have HX := Lib.hid hx; clear hx
  have en : actPartsB 1 = ⟨#[100, 111]⟩ := rfl
  go_enter Tryd.func45, Tryd.ntmps45
  go_upto_region 1 with fail
  go_cut [3] (fun v wx => (∃ b : Nat, v = .slice (some ⟨b, 0, none⟩) 1 1 ∧ w.heap.size + 1 ≤ b ∧ b < wx.heap.size ∧ OwnS (w.heap.size + 1) wx v [⟨#[97, 115, 107]⟩]) ∧ Below w.heap.size w wx ∧ From w wx ∧ Tb wx ∧ (wx.cell? ⟨w.heap.size, 0, none⟩ = some (.int .i64 1) ∧ wx.cell? ⟨w.heap.size, 1, none⟩ = some (.int .i64 xn) ∧ wx.cell? ⟨w.heap.size, 2, none⟩ = some (.int .i64 xm) ∧ wx.cell? ⟨w.heap.size, 3, none⟩ = some (.int .i64 xOk) ∧ wx.cell? ⟨w.heap.size, 4, none⟩ = some (.int .u64 xOv) ∧ wx.cell? ⟨w.heap.size, 5, none⟩ = some (.int .u64 xOt) ∧ wx.cell? ⟨w.heap.size, 6, none⟩ = some (.int .i64 xOs) ∧ wx.cell? ⟨w.heap.size, 7, none⟩ = some (.int .i64 xOa) ∧ wx.cell? ⟨w.heap.size, 8, none⟩ = some (.int .i64 xOc) ∧ wx.cell? ⟨w.heap.size, 9, none⟩ = some (.slice xOD xOn xOq) ∧ wx.cell? ⟨w.heap.size, 10, none⟩ = some (.bool false) ∧ wx.cell? ⟨w.heap.size, 11, none⟩ = some (.slice xP xpn xpq)))
  case first =>
    go_region_with ((go_at_call 70; refine (actWords_any _).mono ?_; rintro e w' ⟨rfl, rfl⟩))
    all_goals
      go_wp2_with fail
      go_meet
      case rel =>
        refine ⟨?_, (by (refine Gr.of ?_; repeat (first | with_reducible exact Below.refl _ _ | with_reducible apply below_alloc | with_reducible refine below_set' ?_ _ | with_reducible refine below_trans ?_ (grown_below _ _) | with_reducible refine below_iter' ?_ _ _ | with_reducible apply Below.drew | with_reducible refine below_trans ?_ (by assumption))) : Gr w _).below, inferInstance, inferInstance, by simp [go_sem], by simp [go_sem], by simp [go_sem], by simp [go_sem], by simp [go_sem], by simp [go_sem], by simp [go_sem], by simp [go_sem], by simp [go_sem], by simp [go_sem], by simp [go_sem], by simp [go_sem]⟩
        refine ⟨_, rfl, by omega, (inferInstance : Old _ _).lt, ?_⟩
        first
          | exact OwnS.new _ _ _ (by omega)
          | exact (OwnS.new _ _ _ (by omega)).drew_
  case rest =>
    obtain ⟨⟨b0, rfl, hb0, hb1, hown⟩, hbw, hfr, htb, c0, c1, c2, c3, c4, c5, c6, c7, c8, c9, c10, c11⟩ := hcut
    have hle6 : 6 ≤ w.heap.size + 1 := Nat.le_succ_of_le hk.size
    haveI io : Old w.heap.size wc := old_of_cell c0
    haveI ib : Old b0 wc := ⟨hb1⟩
    go_wp2_with (go_at_call 49; ((with_reducible refine (actPartsB_any _ _).mono ?_); rintro _ _ ⟨rfl, g, rfl⟩))
    refine wp_loop_rounds 3 ?_
    rw [rounds_succ]
    go_wp2_with (go_at_call 56; ((with_reducible refine (itoa_any _ n0 n1 _).mono ?_)))
    rintro _ _ ⟨rfl, g0, rfl⟩
    go_wp2_with (at_builtin; refine wp_append_str rfl _ _ rfl (w.heap.size + 1) ?vv0 ([⟨#[97, 115, 107]⟩] : List ByteArray) ?hs0 ?own0 _ ⟨(Lib.itoa xn).toArray⟩ rfl ?hc0 (by simp) ?hb0 ?_)
    case own0 => repeat (first | with_reducible exact hown | with_reducible refine OwnS.alloc_ ?_ _ | with_reducible refine OwnS.grown_ ?_ _ | with_reducible refine OwnS.iter_ ?_ _ _ _ | with_reducible refine OwnS.drew_ ?_)
    case hs0 => rfl
    case hc0 => simp [go_sem]
    case hb0 => exact Nat.succ_le_of_lt (inferInstance : Old w.heap.size _).lt
    intro v0 w0 a0
    haveI : Tb w0 := a0.tb hle6
    haveI : From w w0 := a0.from_ w
    haveI : Old w.heap.size w0 := a0.old _
    haveI : IterAt w0 (grown wc g).heap.size ⟨#[100, 111]⟩ 1 := a0.iter _ _ _ inferInstance
    have c0 := a0.cell (Nat.lt_succ_self w.heap.size) (show World.cell? _ ⟨w.heap.size, 0, none⟩ = some (.int .i64 1) by simp [go_sem, c0])
    have c1 := a0.cell (Nat.lt_succ_self w.heap.size) (show World.cell? _ ⟨w.heap.size, 1, none⟩ = some (.int .i64 xn) by simp [go_sem, c1])
    have c2 := a0.cell (Nat.lt_succ_self w.heap.size) (show World.cell? _ ⟨w.heap.size, 2, none⟩ = some (.int .i64 xm) by simp [go_sem, c2])
    have c3 := a0.cell (Nat.lt_succ_self w.heap.size) (show World.cell? _ ⟨w.heap.size, 3, none⟩ = some (.int .i64 xOk) by simp [go_sem, c3])
    have c4 := a0.cell (Nat.lt_succ_self w.heap.size) (show World.cell? _ ⟨w.heap.size, 4, none⟩ = some (.int .u64 xOv) by simp [go_sem, c4])
    have c5 := a0.cell (Nat.lt_succ_self w.heap.size) (show World.cell? _ ⟨w.heap.size, 5, none⟩ = some (.int .u64 xOt) by simp [go_sem, c5])
    have c6 := a0.cell (Nat.lt_succ_self w.heap.size) (show World.cell? _ ⟨w.heap.size, 6, none⟩ = some (.int .i64 xOs) by simp [go_sem, c6])
    have c7 := a0.cell (Nat.lt_succ_self w.heap.size) (show World.cell? _ ⟨w.heap.size, 7, none⟩ = some (.int .i64 xOa) by simp [go_sem, c7])
    have c8 := a0.cell (Nat.lt_succ_self w.heap.size) (show World.cell? _ ⟨w.heap.size, 8, none⟩ = some (.int .i64 xOc) by simp [go_sem, c8])
    have c9 := a0.cell (Nat.lt_succ_self w.heap.size) (show World.cell? _ ⟨w.heap.size, 9, none⟩ = some (.slice xOD xOn xOq) by simp [go_sem, c9])
    have c10 := a0.cell (Nat.lt_succ_self w.heap.size) (show World.cell? _ ⟨w.heap.size, 10, none⟩ = some (.bool false) by simp [go_sem, c10])
    have c11 := a0.cell (Nat.lt_succ_self w.heap.size) (show World.cell? _ ⟨w.heap.size, 11, none⟩ = some (.slice xP xpn xpq) by simp [go_sem, c11])
    have hown := a0.own
    have hbw := a0.chain (a := w) (by (repeat (first | with_reducible exact hbw | with_reducible exact Below.refl _ _ | with_reducible apply below_alloc | with_reducible refine below_set' ?_ _ | with_reducible refine below_trans ?_ (grown_below _ _) | with_reducible refine below_iter' ?_ _ _ | with_reducible apply Below.drew))) (Nat.le_succ _)
    clear a0
    simp only [List.cons_append, List.nil_append] at hown
    go_wp2
    rw [rounds_succ]
    go_wp2_with (go_at_call 40; ((with_reducible refine (opText_any _ _ _ _ _ _ _ _ _ lx _ ok ok9 B HX.out hxq hn (H1.out.gr (by (refine Gr.of ?_; repeat (first | with_reducible exact hbw | with_reducible exact Below.refl _ _ | with_reducible apply below_alloc | with_reducible refine below_set' ?_ _ | with_reducible refine below_trans ?_ (grown_below _ _) | with_reducible refine below_iter' ?_ _ _ | with_reducible apply Below.drew))))).mono ?_)))
    rintro _ _ ⟨rfl, g1, rfl⟩
    go_wp2_with (at_builtin; refine wp_append_str rfl _ _ rfl (w.heap.size + 1) ?vv1 ([⟨#[97, 115, 107]⟩, ⟨(Lib.itoa xn).toArray⟩] : List ByteArray) ?hs1 ?own1 _ ⟨(opTextL xOk xOv xOt xOs xOa xOc lx).toArray⟩ rfl ?hc1 (by simp) ?hb1 ?_)
    case own1 => repeat (first | with_reducible exact hown | with_reducible refine OwnS.alloc_ ?_ _ | with_reducible refine OwnS.grown_ ?_ _ | with_reducible refine OwnS.iter_ ?_ _ _ _ | with_reducible refine OwnS.drew_ ?_)
    case hs1 => rfl
    case hc1 => simp [go_sem]
    case hb1 => exact Nat.succ_le_of_lt (inferInstance : Old w.heap.size _).lt
    intro v1 w1 a1
    haveI : Tb w1 := a1.tb hle6
    haveI : From w w1 := a1.from_ w
    haveI : Old w.heap.size w1 := a1.old _
    haveI : IterAt w1 (grown wc g).heap.size ⟨#[100, 111]⟩ 2 := a1.iter _ _ _ inferInstance
    have c0 := a1.cell (Nat.lt_succ_self w.heap.size) (show World.cell? _ ⟨w.heap.size, 0, none⟩ = some (.int .i64 1) by simp [go_sem, c0])
    have c1 := a1.cell (Nat.lt_succ_self w.heap.size) (show World.cell? _ ⟨w.heap.size, 1, none⟩ = some (.int .i64 xn) by simp [go_sem, c1])
    have c2 := a1.cell (Nat.lt_succ_self w.heap.size) (show World.cell? _ ⟨w.heap.size, 2, none⟩ = some (.int .i64 xm) by simp [go_sem, c2])
    have c3 := a1.cell (Nat.lt_succ_self w.heap.size) (show World.cell? _ ⟨w.heap.size, 3, none⟩ = some (.int .i64 xOk) by simp [go_sem, c3])
    have c4 := a1.cell (Nat.lt_succ_self w.heap.size) (show World.cell? _ ⟨w.heap.size, 4, none⟩ = some (.int .u64 xOv) by simp [go_sem, c4])
    have c5 := a1.cell (Nat.lt_succ_self w.heap.size) (show World.cell? _ ⟨w.heap.size, 5, none⟩ = some (.int .u64 xOt) by simp [go_sem, c5])
    have c6 := a1.cell (Nat.lt_succ_self w.heap.size) (show World.cell? _ ⟨w.heap.size, 6, none⟩ = some (.int .i64 xOs) by simp [go_sem, c6])
    have c7 := a1.cell (Nat.lt_succ_self w.heap.size) (show World.cell? _ ⟨w.heap.size, 7, none⟩ = some (.int .i64 xOa) by simp [go_sem, c7])
    have c8 := a1.cell (Nat.lt_succ_self w.heap.size) (show World.cell? _ ⟨w.heap.size, 8, none⟩ = some (.int .i64 xOc) by simp [go_sem, c8])
    have c9 := a1.cell (Nat.lt_succ_self w.heap.size) (show World.cell? _ ⟨w.heap.size, 9, none⟩ = some (.slice xOD xOn xOq) by simp [go_sem, c9])
    have c10 := a1.cell (Nat.lt_succ_self w.heap.size) (show World.cell? _ ⟨w.heap.size, 10, none⟩ = some (.bool false) by simp [go_sem, c10])
    have c11 := a1.cell (Nat.lt_succ_self w.heap.size) (show World.cell? _ ⟨w.heap.size, 11, none⟩ = some (.slice xP xpn xpq) by simp [go_sem, c11])
    have hown := a1.own
    have hbw := a1.chain (a := w) (by (repeat (first | with_reducible exact hbw | with_reducible exact Below.refl _ _ | with_reducible apply below_alloc | with_reducible refine below_set' ?_ _ | with_reducible refine below_trans ?_ (grown_below _ _) | with_reducible refine below_iter' ?_ _ _ | with_reducible apply Below.drew))) (Nat.le_succ _)
    clear a1
    simp only [List.cons_append, List.nil_append] at hown
    go_wp2
    obtain ⟨VA, vc, hv, hvc, hrow⟩ := hown.form
    have hv2 : v1 = .slice VA 3 vc := hv
    clear hv
    subst hv2
    have hvc2 : 3 ≤ vc := hvc
    clear hvc
    have hJ : (Lib.join (([⟨#[97, 115, 107]⟩, ⟨(Lib.itoa xn).toArray⟩, ⟨(opTextL xOk xOv xOt xOs xOa xOc lx).toArray⟩] : List ByteArray).map (·.data.toList)) [32]).length ≤ 140737488355328 := by
      refine Nat.le_trans (join_len [32] rfl 2000000 _ ?_) (by simp)
      intro x hx
      simp only [List.map_cons, List.map_nil, List.mem_cons, List.mem_nil_iff, or_false] at hx
      rcases hx with rfl | rfl | rfl
      · simp
      · have := itoa_len _ n0 n1; simp; omega
      · have := opTextL_len xOk xOv xOt xOs xOa xOc lx B (by have := HX.out; omega); simp; omega
    have HJ := Lib.hid hJ; clear hJ
    have HROW := Lib.hid hrow; clear hrow hown
    have HLN : Hid (([⟨#[97, 115, 107]⟩, ⟨(Lib.itoa xn).toArray⟩, ⟨(opTextL xOk xOv xOt xOs xOa xOc lx).toArray⟩] : List ByteArray).length = 3) := Lib.hid rfl
    rw [rounds_succ]
    go_wp2_with (go_at_call 57; ((with_reducible refine (join_any _ _ _ ([⟨#[97, 115, 107]⟩, ⟨(Lib.itoa xn).toArray⟩, ⟨(opTextL xOk xOv xOt xOs xOa xOc lx).toArray⟩] : List ByteArray) ⟨#[32]⟩ _ HLN.out hvc2 HJ.out (by omega) (HROW.out.gr (by (refine Gr.of ?_; repeat (first | with_reducible exact Below.refl _ _ | with_reducible apply below_alloc | with_reducible refine below_set' ?_ _ | with_reducible refine below_trans ?_ (grown_below _ _) | with_reducible refine below_iter' ?_ _ _ | with_reducible apply Below.drew | with_reducible refine below_trans ?_ (by assumption)))))).mono ?_); rintro _ _ ⟨rfl, gz, rfl⟩))
    go_ret
    exact ⟨rfl, Gr.of (by (repeat (first | with_reducible exact hbw | with_reducible exact Below.refl _ _ | with_reducible apply below_alloc | with_reducible refine below_set' ?_ _ | with_reducible refine below_trans ?_ (grown_below _ _) | with_reducible refine below_iter' ?_ _ _ | with_reducible apply Below.drew)))⟩
set_option maxRecDepth 100000 in
set_option maxHeartbeats 8000000 in
theorem actText_2 (xn xm xOk xOv xOt xOs xOa xOc : Int) (xOD xP : Option Addr) (xOn xOq xpn xpq : Nat) (lx : List UInt8) (px : List Int) (w : World) [hk : Tb w] (n0 : -9223372036854775808 ≤ xn) (n1 : xn ≤ 9223372036854775807) (m0 : -9223372036854775808 ≤ xm) (m1 : xm ≤ 9223372036854775807) : Calls Tryd.prog 45 #[(Value.agg #[.int .i64 2, .int .i64 xn, .int .i64 xm, .int .i64 xOk, .int .u64 xOv, .int .u64 xOt, .int .i64 xOs, .int .i64 xOa, .int .i64 xOc, .slice xOD xOn xOq, .bool false, .slice xP xpn xpq])] w fun e w' => e = .returned (.string ⟨(Lib.join (([⟨#[99, 97, 114, 114, 121]⟩, ⟨(Lib.itoa xm).toArray⟩] : List ByteArray).map (·.data.toList)) [32]).toArray⟩) ∧ Gr w w' := by
  have en : actPartsB 2 = ⟨#[110]⟩ := rfl
  go_enter Tryd.func45, Tryd.ntmps45
  go_upto_region 1 with fail
  go_cut [3] (fun v wx => (∃ b : Nat, v = .slice (some ⟨b, 0, none⟩) 1 1 ∧ w.heap.size + 1 ≤ b ∧ b < wx.heap.size ∧ OwnS (w.heap.size + 1) wx v [⟨#[99, 97, 114, 114, 121]⟩]) ∧ Below w.heap.size w wx ∧ From w wx ∧ Tb wx ∧ (wx.cell? ⟨w.heap.size, 0, none⟩ = some (.int .i64 2) ∧ wx.cell? ⟨w.heap.size, 1, none⟩ = some (.int .i64 xn) ∧ wx.cell? ⟨w.heap.size, 2, none⟩ = some (.int .i64 xm) ∧ wx.cell? ⟨w.heap.size, 3, none⟩ = some (.int .i64 xOk) ∧ wx.cell? ⟨w.heap.size, 4, none⟩ = some (.int .u64 xOv) ∧ wx.cell? ⟨w.heap.size, 5, none⟩ = some (.int .u64 xOt) ∧ wx.cell? ⟨w.heap.size, 6, none⟩ = some (.int .i64 xOs) ∧ wx.cell? ⟨w.heap.size, 7, none⟩ = some (.int .i64 xOa) ∧ wx.cell? ⟨w.heap.size, 8, none⟩ = some (.int .i64 xOc) ∧ wx.cell? ⟨w.heap.size, 9, none⟩ = some (.slice xOD xOn xOq) ∧ wx.cell? ⟨w.heap.size, 10, none⟩ = some (.bool false) ∧ wx.cell? ⟨w.heap.size, 11, none⟩ = some (.slice xP xpn xpq)))
  case first =>
    go_region_with ((go_at_call 70; refine (actWords_any _).mono ?_; rintro e w' ⟨rfl, rfl⟩))
    all_goals
      go_wp2_with fail
      go_meet
      case rel =>
        refine ⟨?_, (by (refine Gr.of ?_; repeat (first | with_reducible exact Below.refl _ _ | with_reducible apply below_alloc | with_reducible refine below_set' ?_ _ | with_reducible refine below_trans ?_ (grown_below _ _) | with_reducible refine below_iter' ?_ _ _ | with_reducible apply Below.drew | with_reducible refine below_trans ?_ (by assumption))) : Gr w _).below, inferInstance, inferInstance, by simp [go_sem], by simp [go_sem], by simp [go_sem], by simp [go_sem], by simp [go_sem], by simp [go_sem], by simp [go_sem], by simp [go_sem], by simp [go_sem], by simp [go_sem], by simp [go_sem], by simp [go_sem]⟩
        refine ⟨_, rfl, by omega, (inferInstance : Old _ _).lt, ?_⟩
        first
          | exact OwnS.new _ _ _ (by omega)
          | exact (OwnS.new _ _ _ (by omega)).drew_
  case rest =>
    obtain ⟨⟨b0, rfl, hb0, hb1, hown⟩, hbw, hfr, htb, c0, c1, c2, c3, c4, c5, c6, c7, c8, c9, c10, c11⟩ := hcut
    have hle6 : 6 ≤ w.heap.size + 1 := Nat.le_succ_of_le hk.size
    haveI io : Old w.heap.size wc := old_of_cell c0
    haveI ib : Old b0 wc := ⟨hb1⟩
    go_wp2_with (go_at_call 49; ((with_reducible refine (actPartsB_any _ _).mono ?_); rintro _ _ ⟨rfl, g, rfl⟩))
    refine wp_loop_rounds 2 ?_
    rw [rounds_succ]
    go_wp2_with (go_at_call 56; ((with_reducible refine (itoa_any _ m0 m1 _).mono ?_)))
    rintro _ _ ⟨rfl, g0, rfl⟩
    go_wp2_with (at_builtin; refine wp_append_str rfl _ _ rfl (w.heap.size + 1) ?vv0 ([⟨#[99, 97, 114, 114, 121]⟩] : List ByteArray) ?hs0 ?own0 _ ⟨(Lib.itoa xm).toArray⟩ rfl ?hc0 (by simp) ?hb0 ?_)
    case own0 => repeat (first | with_reducible exact hown | with_reducible refine OwnS.alloc_ ?_ _ | with_reducible refine OwnS.grown_ ?_ _ | with_reducible refine OwnS.iter_ ?_ _ _ _ | with_reducible refine OwnS.drew_ ?_)
    case hs0 => rfl
    case hc0 => simp [go_sem]
    case hb0 => exact Nat.succ_le_of_lt (inferInstance : Old w.heap.size _).lt
    intro v0 w0 a0
    haveI : Tb w0 := a0.tb hle6
    haveI : From w w0 := a0.from_ w
    haveI : Old w.heap.size w0 := a0.old _
    haveI : IterAt w0 (grown wc g).heap.size ⟨#[110]⟩ 1 := a0.iter _ _ _ inferInstance
    have c0 := a0.cell (Nat.lt_succ_self w.heap.size) (show World.cell? _ ⟨w.heap.size, 0, none⟩ = some (.int .i64 2) by simp [go_sem, c0])
    have c1 := a0.cell (Nat.lt_succ_self w.heap.size) (show World.cell? _ ⟨w.heap.size, 1, none⟩ = some (.int .i64 xn) by simp [go_sem, c1])
    have c2 := a0.cell (Nat.lt_succ_self w.heap.size) (show World.cell? _ ⟨w.heap.size, 2, none⟩ = some (.int .i64 xm) by simp [go_sem, c2])
    have c3 := a0.cell (Nat.lt_succ_self w.heap.size) (show World.cell? _ ⟨w.heap.size, 3, none⟩ = some (.int .i64 xOk) by simp [go_sem, c3])
    have c4 := a0.cell (Nat.lt_succ_self w.heap.size) (show World.cell? _ ⟨w.heap.size, 4, none⟩ = some (.int .u64 xOv) by simp [go_sem, c4])
    have c5 := a0.cell (Nat.lt_succ_self w.heap.size) (show World.cell? _ ⟨w.heap.size, 5, none⟩ = some (.int .u64 xOt) by simp [go_sem, c5])
    have c6 := a0.cell (Nat.lt_succ_self w.heap.size) (show World.cell? _ ⟨w.heap.size, 6, none⟩ = some (.int .i64 xOs) by simp [go_sem, c6])
    have c7 := a0.cell (Nat.lt_succ_self w.heap.size) (show World.cell? _ ⟨w.heap.size, 7, none⟩ = some (.int .i64 xOa) by simp [go_sem, c7])
    have c8 := a0.cell (Nat.lt_succ_self w.heap.size) (show World.cell? _ ⟨w.heap.size, 8, none⟩ = some (.int .i64 xOc) by simp [go_sem, c8])
    have c9 := a0.cell (Nat.lt_succ_self w.heap.size) (show World.cell? _ ⟨w.heap.size, 9, none⟩ = some (.slice xOD xOn xOq) by simp [go_sem, c9])
    have c10 := a0.cell (Nat.lt_succ_self w.heap.size) (show World.cell? _ ⟨w.heap.size, 10, none⟩ = some (.bool false) by simp [go_sem, c10])
    have c11 := a0.cell (Nat.lt_succ_self w.heap.size) (show World.cell? _ ⟨w.heap.size, 11, none⟩ = some (.slice xP xpn xpq) by simp [go_sem, c11])
    have hown := a0.own
    have hbw := a0.chain (a := w) (by (repeat (first | with_reducible exact hbw | with_reducible exact Below.refl _ _ | with_reducible apply below_alloc | with_reducible refine below_set' ?_ _ | with_reducible refine below_trans ?_ (grown_below _ _) | with_reducible refine below_iter' ?_ _ _ | with_reducible apply Below.drew))) (Nat.le_succ _)
    clear a0
    simp only [List.cons_append, List.nil_append] at hown
    go_wp2
    obtain ⟨VA, vc, hv, hvc, hrow⟩ := hown.form
    have hv2 : v0 = .slice VA 2 vc := hv
    clear hv
    subst hv2
    have hvc2 : 2 ≤ vc := hvc
    clear hvc
    have hJ : (Lib.join (([⟨#[99, 97, 114, 114, 121]⟩, ⟨(Lib.itoa xm).toArray⟩] : List ByteArray).map (·.data.toList)) [32]).length ≤ 140737488355328 := by
      refine Nat.le_trans (join_len [32] rfl 2000000 _ ?_) (by simp)
      intro x hx
      simp only [List.map_cons, List.map_nil, List.mem_cons, List.mem_nil_iff, or_false] at hx
      rcases hx with rfl | rfl
      · simp
      · have := itoa_len _ m0 m1; simp; omega
    have HJ := Lib.hid hJ; clear hJ
    have HROW := Lib.hid hrow; clear hrow hown
    have HLN : Hid (([⟨#[99, 97, 114, 114, 121]⟩, ⟨(Lib.itoa xm).toArray⟩] : List ByteArray).length = 2) := Lib.hid rfl
    rw [rounds_succ]
    go_wp2_with (go_at_call 57; ((with_reducible refine (join_any _ _ _ ([⟨#[99, 97, 114, 114, 121]⟩, ⟨(Lib.itoa xm).toArray⟩] : List ByteArray) ⟨#[32]⟩ _ HLN.out hvc2 HJ.out (by omega) (HROW.out.gr (by (refine Gr.of ?_; repeat (first | with_reducible exact Below.refl _ _ | with_reducible apply below_alloc | with_reducible refine below_set' ?_ _ | with_reducible refine below_trans ?_ (grown_below _ _) | with_reducible refine below_iter' ?_ _ _ | with_reducible apply Below.drew | with_reducible refine below_trans ?_ (by assumption)))))).mono ?_); rintro _ _ ⟨rfl, gz, rfl⟩))
    go_ret
    exact ⟨rfl, Gr.of (by (repeat (first | with_reducible exact hbw | with_reducible exact Below.refl _ _ | with_reducible apply below_alloc | with_reducible refine below_set' ?_ _ | with_reducible refine below_trans ?_ (grown_below _ _) | with_reducible refine below_iter' ?_ _ _ | with_reducible apply Below.drew)))⟩
set_option maxRecDepth 100000 in
set_option maxHeartbeats 8000000 in
theorem actText_3 (xn xm xOk xOv xOt xOs xOa xOc : Int) (xOD xP : Option Addr) (xOn xOq xpn xpq : Nat) (lx : List UInt8) (px : List Int) (w : World) [hk : Tb w] (n0 : -9223372036854775808 ≤ xn) (n1 : xn ≤ 9223372036854775807) (m0 : -9223372036854775808 ≤ xm) (m1 : xm ≤ 9223372036854775807) : Calls Tryd.prog 45 #[(Value.agg #[.int .i64 3, .int .i64 xn, .int .i64 xm, .int .i64 xOk, .int .u64 xOv, .int .u64 xOt, .int .i64 xOs, .int .i64 xOa, .int .i64 xOc, .slice xOD xOn xOq, .bool false, .slice xP xpn xpq])] w fun e w' => e = .returned (.string ⟨(Lib.join (([⟨#[116, 105, 99, 107]⟩, ⟨(Lib.itoa xn).toArray⟩] : List ByteArray).map (·.data.toList)) [32]).toArray⟩) ∧ Gr w w' := by
  have en : actPartsB 3 = ⟨#[100]⟩ := rfl
  go_enter Tryd.func45, Tryd.ntmps45
  go_upto_region 1 with fail
  go_cut [3] (fun v wx => (∃ b : Nat, v = .slice (some ⟨b, 0, none⟩) 1 1 ∧ w.heap.size + 1 ≤ b ∧ b < wx.heap.size ∧ OwnS (w.heap.size + 1) wx v [⟨#[116, 105, 99, 107]⟩]) ∧ Below w.heap.size w wx ∧ From w wx ∧ Tb wx ∧ (wx.cell? ⟨w.heap.size, 0, none⟩ = some (.int .i64 3) ∧ wx.cell? ⟨w.heap.size, 1, none⟩ = some (.int .i64 xn) ∧ wx.cell? ⟨w.heap.size, 2, none⟩ = some (.int .i64 xm) ∧ wx.cell? ⟨w.heap.size, 3, none⟩ = some (.int .i64 xOk) ∧ wx.cell? ⟨w.heap.size, 4, none⟩ = some (.int .u64 xOv) ∧ wx.cell? ⟨w.heap.size, 5, none⟩ = some (.int .u64 xOt) ∧ wx.cell? ⟨w.heap.size, 6, none⟩ = some (.int .i64 xOs) ∧ wx.cell? ⟨w.heap.size, 7, none⟩ = some (.int .i64 xOa) ∧ wx.cell? ⟨w.heap.size, 8, none⟩ = some (.int .i64 xOc) ∧ wx.cell? ⟨w.heap.size, 9, none⟩ = some (.slice xOD xOn xOq) ∧ wx.cell? ⟨w.heap.size, 10, none⟩ = some (.bool false) ∧ wx.cell? ⟨w.heap.size, 11, none⟩ = some (.slice xP xpn xpq)))
  case first =>
    go_region_with ((go_at_call 70; refine (actWords_any _).mono ?_; rintro e w' ⟨rfl, rfl⟩))
    all_goals
      go_wp2_with fail
      go_meet
      case rel =>
        refine ⟨?_, (by (refine Gr.of ?_; repeat (first | with_reducible exact Below.refl _ _ | with_reducible apply below_alloc | with_reducible refine below_set' ?_ _ | with_reducible refine below_trans ?_ (grown_below _ _) | with_reducible refine below_iter' ?_ _ _ | with_reducible apply Below.drew | with_reducible refine below_trans ?_ (by assumption))) : Gr w _).below, inferInstance, inferInstance, by simp [go_sem], by simp [go_sem], by simp [go_sem], by simp [go_sem], by simp [go_sem], by simp [go_sem], by simp [go_sem], by simp [go_sem], by simp [go_sem], by simp [go_sem], by simp [go_sem], by simp [go_sem]⟩
        refine ⟨_, rfl, by omega, (inferInstance : Old _ _).lt, ?_⟩
        first
          | exact OwnS.new _ _ _ (by omega)
          | exact (OwnS.new _ _ _ (by omega)).drew_
  case rest =>
    obtain ⟨⟨b0, rfl, hb0, hb1, hown⟩, hbw, hfr, htb, c0, c1, c2, c3, c4, c5, c6, c7, c8, c9, c10, c11⟩ := hcut
    have hle6 : 6 ≤ w.heap.size + 1 := Nat.le_succ_of_le hk.size
    haveI io : Old w.heap.size wc := old_of_cell c0
    haveI ib : Old b0 wc := ⟨hb1⟩
    go_wp2_with (go_at_call 49; ((with_reducible refine (actPartsB_any _ _).mono ?_); rintro _ _ ⟨rfl, g, rfl⟩))
    refine wp_loop_rounds 2 ?_
    rw [rounds_succ]
    go_wp2_with (go_at_call 56; ((with_reducible refine (itoa_any _ n0 n1 _).mono ?_)))
    rintro _ _ ⟨rfl, g0, rfl⟩
    go_wp2_with (at_builtin; refine wp_append_str rfl _ _ rfl (w.heap.size + 1) ?vv0 ([⟨#[116, 105, 99, 107]⟩] : List ByteArray) ?hs0 ?own0 _ ⟨(Lib.itoa xn).toArray⟩ rfl ?hc0 (by simp) ?hb0 ?_)
    case own0 => repeat (first | with_reducible exact hown | with_reducible refine OwnS.alloc_ ?_ _ | with_reducible refine OwnS.grown_ ?_ _ | with_reducible refine OwnS.iter_ ?_ _ _ _ | with_reducible refine OwnS.drew_ ?_)
    case hs0 => rfl
    case hc0 => simp [go_sem]
    case hb0 => exact Nat.succ_le_of_lt (inferInstance : Old w.heap.size _).lt
    intro v0 w0 a0
    haveI : Tb w0 := a0.tb hle6
    haveI : From w w0 := a0.from_ w
    haveI : Old w.heap.size w0 := a0.old _
    haveI : IterAt w0 (grown wc g).heap.size ⟨#[100]⟩ 1 := a0.iter _ _ _ inferInstance
    have c0 := a0.cell (Nat.lt_succ_self w.heap.size) (show World.cell? _ ⟨w.heap.size, 0, none⟩ = some (.int .i64 3) by simp [go_sem, c0])
    have c1 := a0.cell (Nat.lt_succ_self w.heap.size) (show World.cell? _ ⟨w.heap.size, 1, none⟩ = some (.int .i64 xn) by simp [go_sem, c1])
    have c2 := a0.cell (Nat.lt_succ_self w.heap.size) (show World.cell? _ ⟨w.heap.size, 2, none⟩ = some (.int .i64 xm) by simp [go_sem, c2])
    have c3 := a0.cell (Nat.lt_succ_self w.heap.size) (show World.cell? _ ⟨w.heap.size, 3, none⟩ = some (.int .i64 xOk) by simp [go_sem, c3])
    have c4 := a0.cell (Nat.lt_succ_self w.heap.size) (show World.cell? _ ⟨w.heap.size, 4, none⟩ = some (.int .u64 xOv) by simp [go_sem, c4])
    have c5 := a0.cell (Nat.lt_succ_self w.heap.size) (show World.cell? _ ⟨w.heap.size, 5, none⟩ = some (.int .u64 xOt) by simp [go_sem, c5])
    have c6 := a0.cell (Nat.lt_succ_self w.heap.size) (show World.cell? _ ⟨w.heap.size, 6, none⟩ = some (.int .i64 xOs) by simp [go_sem, c6])
    have c7 := a0.cell (Nat.lt_succ_self w.heap.size) (show World.cell? _ ⟨w.heap.size, 7, none⟩ = some (.int .i64 xOa) by simp [go_sem, c7])
    have c8 := a0.cell (Nat.lt_succ_self w.heap.size) (show World.cell? _ ⟨w.heap.size, 8, none⟩ = some (.int .i64 xOc) by simp [go_sem, c8])
    have c9 := a0.cell (Nat.lt_succ_self w.heap.size) (show World.cell? _ ⟨w.heap.size, 9, none⟩ = some (.slice xOD xOn xOq) by simp [go_sem, c9])
    have c10 := a0.cell (Nat.lt_succ_self w.heap.size) (show World.cell? _ ⟨w.heap.size, 10, none⟩ = some (.bool false) by simp [go_sem, c10])
    have c11 := a0.cell (Nat.lt_succ_self w.heap.size) (show World.cell? _ ⟨w.heap.size, 11, none⟩ = some (.slice xP xpn xpq) by simp [go_sem, c11])
    have hown := a0.own
    have hbw := a0.chain (a := w) (by (repeat (first | with_reducible exact hbw | with_reducible exact Below.refl _ _ | with_reducible apply below_alloc | with_reducible refine below_set' ?_ _ | with_reducible refine below_trans ?_ (grown_below _ _) | with_reducible refine below_iter' ?_ _ _ | with_reducible apply Below.drew))) (Nat.le_succ _)
    clear a0
    simp only [List.cons_append, List.nil_append] at hown
    go_wp2
    obtain ⟨VA, vc, hv, hvc, hrow⟩ := hown.form
    have hv2 : v0 = .slice VA 2 vc := hv
    clear hv
    subst hv2
    have hvc2 : 2 ≤ vc := hvc
    clear hvc
    have hJ : (Lib.join (([⟨#[116, 105, 99, 107]⟩, ⟨(Lib.itoa xn).toArray⟩] : List ByteArray).map (·.data.toList)) [32]).length ≤ 140737488355328 := by
      refine Nat.le_trans (join_len [32] rfl 2000000 _ ?_) (by simp)
      intro x hx
      simp only [List.map_cons, List.map_nil, List.mem_cons, List.mem_nil_iff, or_false] at hx
      rcases hx with rfl | rfl
      · simp
      · have := itoa_len _ n0 n1; simp; omega
    have HJ := Lib.hid hJ; clear hJ
    have HROW := Lib.hid hrow; clear hrow hown
    have HLN : Hid (([⟨#[116, 105, 99, 107]⟩, ⟨(Lib.itoa xn).toArray⟩] : List ByteArray).length = 2) := Lib.hid rfl
    rw [rounds_succ]
    go_wp2_with (go_at_call 57; ((with_reducible refine (join_any _ _ _ ([⟨#[116, 105, 99, 107]⟩, ⟨(Lib.itoa xn).toArray⟩] : List ByteArray) ⟨#[32]⟩ _ HLN.out hvc2 HJ.out (by omega) (HROW.out.gr (by (refine Gr.of ?_; repeat (first | with_reducible exact Below.refl _ _ | with_reducible apply below_alloc | with_reducible refine below_set' ?_ _ | with_reducible refine below_trans ?_ (grown_below _ _) | with_reducible refine below_iter' ?_ _ _ | with_reducible apply Below.drew | with_reducible refine below_trans ?_ (by assumption)))))).mono ?_); rintro _ _ ⟨rfl, gz, rfl⟩))
    go_ret
    exact ⟨rfl, Gr.of (by (repeat (first | with_reducible exact hbw | with_reducible exact Below.refl _ _ | with_reducible apply below_alloc | with_reducible refine below_set' ?_ _ | with_reducible refine below_trans ?_ (grown_below _ _) | with_reducible refine below_iter' ?_ _ _ | with_reducible apply Below.drew)))⟩
set_option maxRecDepth 100000 in
set_option maxHeartbeats 8000000 in
theorem actText_7 (xn xm xOk xOv xOt xOs xOa xOc : Int) (xOD xP : Option Addr) (xOn xOq xpn xpq : Nat) (lx : List UInt8) (px : List Int) (w : World) [hk : Tb w] (n0 : -9223372036854775808 ≤ xn) (n1 : xn ≤ 9223372036854775807) (m0 : -9223372036854775808 ≤ xm) (m1 : xm ≤ 9223372036854775807) : Calls Tryd.prog 45 #[(Value.agg #[.int .i64 7, .int .i64 xn, .int .i64 xm, .int .i64 xOk, .int .u64 xOv, .int .u64 xOt, .int .i64 xOs, .int .i64 xOa, .int .i64 xOc, .slice xOD xOn xOq, .bool false, .slice xP xpn xpq])] w fun e w' => e = .returned (.string ⟨(Lib.join (([⟨#[108, 101, 97, 100]⟩, ⟨(Lib.itoa xn).toArray⟩] : List ByteArray).map (·.data.toList)) [32]).toArray⟩) ∧ Gr w w' := by
  have en : actPartsB 7 = ⟨#[100]⟩ := rfl
  go_enter Tryd.func45, Tryd.ntmps45
  go_upto_region 1 with fail
  go_cut [3] (fun v wx => (∃ b : Nat, v = .slice (some ⟨b, 0, none⟩) 1 1 ∧ w.heap.size + 1 ≤ b ∧ b < wx.heap.size ∧ OwnS (w.heap.size + 1) wx v [⟨#[108, 101, 97, 100]⟩]) ∧ Below w.heap.size w wx ∧ From w wx ∧ Tb wx ∧ (wx.cell? ⟨w.heap.size, 0, none⟩ = some (.int .i64 7) ∧ wx.cell? ⟨w.heap.size, 1, none⟩ = some (.int .i64 xn) ∧ wx.cell? ⟨w.heap.size, 2, none⟩ = some (.int .i64 xm) ∧ wx.cell? ⟨w.heap.size, 3, none⟩ = some (.int .i64 xOk) ∧ wx.cell? ⟨w.heap.size, 4, none⟩ = some (.int .u64 xOv) ∧ wx.cell? ⟨w.heap.size, 5, none⟩ = some (.int .u64 xOt) ∧ wx.cell? ⟨w.heap.size, 6, none⟩ = some (.int .i64 xOs) ∧ wx.cell? ⟨w.heap.size, 7, none⟩ = some (.int .i64 xOa) ∧ wx.cell? ⟨w.heap.size, 8, none⟩ = some (.int .i64 xOc) ∧ wx.cell? ⟨w.heap.size, 9, none⟩ = some (.slice xOD xOn xOq) ∧ wx.cell? ⟨w.heap.size, 10, none⟩ = some (.bool false) ∧ wx.cell? ⟨w.heap.size, 11, none⟩ = some (.slice xP xpn xpq)))
  case first =>
    go_region_with ((go_at_call 70; refine (actWords_any _).mono ?_; rintro e w' ⟨rfl, rfl⟩))
    all_goals
      go_wp2_with fail
      go_meet
      case rel =>
        refine ⟨?_, (by (refine Gr.of ?_; repeat (first | with_reducible exact Below.refl _ _ | with_reducible apply below_alloc | with_reducible refine below_set' ?_ _ | with_reducible refine below_trans ?_ (grown_below _ _) | with_reducible refine below_iter' ?_ _ _ | with_reducible apply Below.drew | with_reducible refine below_trans ?_ (by assumption))) : Gr w _).below, inferInstance, inferInstance, by simp [go_sem], by simp [go_sem], by simp [go_sem], by simp [go_sem], by simp [go_sem], by simp [go_sem], by simp [go_sem], by simp [go_sem], by simp [go_sem], by simp [go_sem], by simp [go_sem], by simp [go_sem]⟩
        refine ⟨_, rfl, by omega, (inferInstance : Old _ _).lt, ?_⟩
        first
          | exact OwnS.new _ _ _ (by omega)
          | exact (OwnS.new _ _ _ (by omega)).drew_
  case rest =>
    obtain ⟨⟨b0, rfl, hb0, hb1, hown⟩, hbw, hfr, htb, c0, c1, c2, c3, c4, c5, c6, c7, c8, c9, c10, c11⟩ := hcut
    have hle6 : 6 ≤ w.heap.size + 1 := Nat.le_succ_of_le hk.size
    haveI io : Old w.heap.size wc := old_of_cell c0
    haveI ib : Old b0 wc := ⟨hb1⟩
    go_wp2_with (go_at_call 49; ((with_reducible refine (actPartsB_any _ _).mono ?_); rintro _ _ ⟨rfl, g, rfl⟩))
    refine wp_loop_rounds 2 ?_
    rw [rounds_succ]
    go_wp2_with (go_at_call 56; ((with_reducible refine (itoa_any _ n0 n1 _).mono ?_)))
    rintro _ _ ⟨rfl, g0, rfl⟩
    go_wp2_with (at_builtin; refine wp_append_str rfl _ _ rfl (w.heap.size + 1) ?vv0 ([⟨#[108, 101, 97, 100]⟩] : List ByteArray) ?hs0 ?own0 _ ⟨(Lib.itoa xn).toArray⟩ rfl ?hc0 (by simp) ?hb0 ?_)
    case own0 => repeat (first | with_reducible exact hown | with_reducible refine OwnS.alloc_ ?_ _ | with_reducible refine OwnS.grown_ ?_ _ | with_reducible refine OwnS.iter_ ?_ _ _ _ | with_reducible refine OwnS.drew_ ?_)
    case hs0 => rfl
    case hc0 => simp [go_sem]
    case hb0 => exact Nat.succ_le_of_lt (inferInstance : Old w.heap.size _).lt
    intro v0 w0 a0
    haveI : Tb w0 := a0.tb hle6
    haveI : From w w0 := a0.from_ w
    haveI : Old w.heap.size w0 := a0.old _
    haveI : IterAt w0 (grown wc g).heap.size ⟨#[100]⟩ 1 := a0.iter _ _ _ inferInstance
    have c0 := a0.cell (Nat.lt_succ_self w.heap.size) (show World.cell? _ ⟨w.heap.size, 0, none⟩ = some (.int .i64 7) by simp [go_sem, c0])
    have c1 := a0.cell (Nat.lt_succ_self w.heap.size) (show World.cell? _ ⟨w.heap.size, 1, none⟩ = some (.int .i64 xn) by simp [go_sem, c1])
    have c2 := a0.cell (Nat.lt_succ_self w.heap.size) (show World.cell? _ ⟨w.heap.size, 2, none⟩ = some (.int .i64 xm) by simp [go_sem, c2])
    have c3 := a0.cell (Nat.lt_succ_self w.heap.size) (show World.cell? _ ⟨w.heap.size, 3, none⟩ = some (.int .i64 xOk) by simp [go_sem, c3])
    have c4 := a0.cell (Nat.lt_succ_self w.heap.size) (show World.cell? _ ⟨w.heap.size, 4, none⟩ = some (.int .u64 xOv) by simp [go_sem, c4])
    have c5 := a0.cell (Nat.lt_succ_self w.heap.size) (show World.cell? _ ⟨w.heap.size, 5, none⟩ = some (.int .u64 xOt) by simp [go_sem, c5])
    have c6 := a0.cell (Nat.lt_succ_self w.heap.size) (show World.cell? _ ⟨w.heap.size, 6, none⟩ = some (.int .i64 xOs) by simp [go_sem, c6])
    have c7 := a0.cell (Nat.lt_succ_self w.heap.size) (show World.cell? _ ⟨w.heap.size, 7, none⟩ = some (.int .i64 xOa) by simp [go_sem, c7])
    have c8 := a0.cell (Nat.lt_succ_self w.heap.size) (show World.cell? _ ⟨w.heap.size, 8, none⟩ = some (.int .i64 xOc) by simp [go_sem, c8])
    have c9 := a0.cell (Nat.lt_succ_self w.heap.size) (show World.cell? _ ⟨w.heap.size, 9, none⟩ = some (.slice xOD xOn xOq) by simp [go_sem, c9])
    have c10 := a0.cell (Nat.lt_succ_self w.heap.size) (show World.cell? _ ⟨w.heap.size, 10, none⟩ = some (.bool false) by simp [go_sem, c10])
    have c11 := a0.cell (Nat.lt_succ_self w.heap.size) (show World.cell? _ ⟨w.heap.size, 11, none⟩ = some (.slice xP xpn xpq) by simp [go_sem, c11])
    have hown := a0.own
    have hbw := a0.chain (a := w) (by (repeat (first | with_reducible exact hbw | with_reducible exact Below.refl _ _ | with_reducible apply below_alloc | with_reducible refine below_set' ?_ _ | with_reducible refine below_trans ?_ (grown_below _ _) | with_reducible refine below_iter' ?_ _ _ | with_reducible apply Below.drew))) (Nat.le_succ _)
    clear a0
    simp only [List.cons_append, List.nil_append] at hown
    go_wp2
    obtain ⟨VA, vc, hv, hvc, hrow⟩ := hown.form
    have hv2 : v0 = .slice VA 2 vc := hv
    clear hv
    subst hv2
    have hvc2 : 2 ≤ vc := hvc
    clear hvc
    have hJ : (Lib.join (([⟨#[108, 101, 97, 100]⟩, ⟨(Lib.itoa xn).toArray⟩] : List ByteArray).map (·.data.toList)) [32]).length ≤ 140737488355328 := by
      refine Nat.le_trans (join_len [32] rfl 2000000 _ ?_) (by simp)
      intro x hx
      simp only [List.map_cons, List.map_nil, List.mem_cons, List.mem_nil_iff, or_false] at hx
      rcases hx with rfl | rfl
      · simp
      · have := itoa_len _ n0 n1; simp; omega
    have HJ := Lib.hid hJ; clear hJ
    have HROW := Lib.hid hrow; clear hrow hown
    have HLN : Hid (([⟨#[108, 101, 97, 100]⟩, ⟨(Lib.itoa xn).toArray⟩] : List ByteArray).length = 2) := Lib.hid rfl
    rw [rounds_succ]
    go_wp2_with (go_at_call 57; ((with_reducible refine (join_any _ _ _ ([⟨#[108, 101, 97, 100]⟩, ⟨(Lib.itoa xn).toArray⟩] : List ByteArray) ⟨#[32]⟩ _ HLN.out hvc2 HJ.out (by omega) (HROW.out.gr (by (refine Gr.of ?_; repeat (first | with_reducible exact Below.refl _ _ | with_reducible apply below_alloc | with_reducible refine below_set' ?_ _ | with_reducible refine below_trans ?_ (grown_below _ _) | with_reducible refine below_iter' ?_ _ _ | with_reducible apply Below.drew | with_reducible refine below_trans ?_ (by assumption)))))).mono ?_); rintro _ _ ⟨rfl, gz, rfl⟩))
    go_ret
    exact ⟨rfl, Gr.of (by (repeat (first | with_reducible exact hbw | with_reducible exact Below.refl _ _ | with_reducible apply below_alloc | with_reducible refine below_set' ?_ _ | with_reducible refine below_trans ?_ (grown_below _ _) | with_reducible refine below_iter' ?_ _ _ | with_reducible apply Below.drew)))⟩
set_option maxRecDepth 100000 in
set_option maxHeartbeats 8000000 in
theorem actText_7f (xn xm xOk xOv xOt xOs xOa xOc : Int) (xOD xP : Option Addr) (xOn xOq xpn xpq : Nat) (lx : List UInt8) (px : List Int) (w : World) [hk : Tb w] (n0 : -9223372036854775808 ≤ xn) (n1 : xn ≤ 9223372036854775807) (m0 : -9223372036854775808 ≤ xm) (m1 : xm ≤ 9223372036854775807) : Calls Tryd.prog 45 #[(Value.agg #[.int .i64 7, .int .i64 xn, .int .i64 xm, .int .i64 xOk, .int .u64 xOv, .int .u64 xOt, .int .i64 xOs, .int .i64 xOa, .int .i64 xOc, .slice xOD xOn xOq, .bool true, .slice xP xpn xpq])] w fun e w' => e = .returned (.string ⟨(Lib.join (([⟨#[102, 111, 114, 99, 101]⟩, ⟨(Lib.itoa xn).toArray⟩] : List ByteArray).map (·.data.toList)) [32]).toArray⟩) ∧ Gr w w' := by
  have en : actPartsB 7 = ⟨#[100]⟩ := rfl
  go_enter Tryd.func45, Tryd.ntmps45
  go_upto_region 1 with fail
  go_cut [3] (fun v wx => (∃ b : Nat, v = .slice (some ⟨b, 0, none⟩) 1 1 ∧ w.heap.size + 1 ≤ b ∧ b < wx.heap.size ∧ OwnS (w.heap.size + 1) wx v [⟨#[108, 101, 97, 100]⟩]) ∧ Below w.heap.size w wx ∧ From w wx ∧ Tb wx ∧ (wx.cell? ⟨w.heap.size, 0, none⟩ = some (.int .i64 7) ∧ wx.cell? ⟨w.heap.size, 1, none⟩ = some (.int .i64 xn) ∧ wx.cell? ⟨w.heap.size, 2, none⟩ = some (.int .i64 xm) ∧ wx.cell? ⟨w.heap.size, 3, none⟩ = some (.int .i64 xOk) ∧ wx.cell? ⟨w.heap.size, 4, none⟩ = some (.int .u64 xOv) ∧ wx.cell? ⟨w.heap.size, 5, none⟩ = some (.int .u64 xOt) ∧ wx.cell? ⟨w.heap.size, 6, none⟩ = some (.int .i64 xOs) ∧ wx.cell? ⟨w.heap.size, 7, none⟩ = some (.int .i64 xOa) ∧ wx.cell? ⟨w.heap.size, 8, none⟩ = some (.int .i64 xOc) ∧ wx.cell? ⟨w.heap.size, 9, none⟩ = some (.slice xOD xOn xOq) ∧ wx.cell? ⟨w.heap.size, 10, none⟩ = some (.bool true) ∧ wx.cell? ⟨w.heap.size, 11, none⟩ = some (.slice xP xpn xpq)))
  case first =>
    go_region_with ((go_at_call 70; refine (actWords_any _).mono ?_; rintro e w' ⟨rfl, rfl⟩))
    all_goals
      go_wp2_with fail
      go_meet
      case rel =>
        refine ⟨?_, (by (refine Gr.of ?_; repeat (first | with_reducible exact Below.refl _ _ | with_reducible apply below_alloc | with_reducible refine below_set' ?_ _ | with_reducible refine below_trans ?_ (grown_below _ _) | with_reducible refine below_iter' ?_ _ _ | with_reducible apply Below.drew | with_reducible refine below_trans ?_ (by assumption))) : Gr w _).below, inferInstance, inferInstance, by simp [go_sem], by simp [go_sem], by simp [go_sem], by simp [go_sem], by simp [go_sem], by simp [go_sem], by simp [go_sem], by simp [go_sem], by simp [go_sem], by simp [go_sem], by simp [go_sem], by simp [go_sem]⟩
        refine ⟨_, rfl, by omega, (inferInstance : Old _ _).lt, ?_⟩
        first
          | exact OwnS.new _ _ _ (by omega)
          | exact (OwnS.new _ _ _ (by omega)).drew_
  case rest =>
    obtain ⟨⟨b0, rfl, hb0, hb1, hown⟩, hbw, hfr, htb, c0, c1, c2, c3, c4, c5, c6, c7, c8, c9, c10, c11⟩ := hcut
    have hle6 : 6 ≤ w.heap.size + 1 := Nat.le_succ_of_le hk.size
    haveI io : Old w.heap.size wc := old_of_cell c0
    haveI ib : Old b0 wc := ⟨hb1⟩
    have hcb : wc.cell? ⟨b0, 0, none⟩ = some (.string ⟨#[108, 101, 97, 100]⟩) := by have := World.ownsRow.cells hown (g := b0) rfl 0 _ rfl; simpa [Addr.add] using this
    have hfb : wc.frozen? ⟨b0, 0, none⟩ = false := World.ownsRow.frozenAt hown 0
    have hown := OwnS.first (z := ⟨#[102, 111, 114, 99, 101]⟩) hown
    have hne : (w.heap.size = b0) = False := by simp; omega
    have hen : (b0 = w.heap.size) = False := by simp; omega
    haveI pb : Past w b0 := ⟨by omega⟩
    haveI fb : Far b0 := ⟨by omega⟩
    go_wp2_with (go_at_call 49; ((with_reducible refine (actPartsB_any _ _).mono ?_); rintro _ _ ⟨rfl, g, rfl⟩))
    refine wp_loop_rounds 2 ?_
    rw [rounds_succ]
    go_wp2_with (go_at_call 56; ((with_reducible refine (itoa_any _ n0 n1 _).mono ?_)))
    rintro _ _ ⟨rfl, g0, rfl⟩
    go_wp2_with (at_builtin; refine wp_append_str rfl _ _ rfl (w.heap.size + 1) ?vv0 ([⟨#[102, 111, 114, 99, 101]⟩] : List ByteArray) ?hs0 ?own0 _ ⟨(Lib.itoa xn).toArray⟩ rfl ?hc0 (by simp) ?hb0 ?_)
    case own0 => repeat (first | with_reducible exact hown | with_reducible refine OwnS.alloc_ ?_ _ | with_reducible refine OwnS.grown_ ?_ _ | with_reducible refine OwnS.iter_ ?_ _ _ _ | with_reducible refine OwnS.drew_ ?_)
    case hs0 => rfl
    case hc0 => simp [go_sem]
    case hb0 => exact Nat.succ_le_of_lt (inferInstance : Old w.heap.size _).lt
    intro v0 w0 a0
    haveI : Tb w0 := a0.tb hle6
    haveI : From w w0 := a0.from_ w
    haveI : Old w.heap.size w0 := a0.old _
    haveI : IterAt w0 (grown (wc.setCell ⟨b0, 0, none⟩ (.string ⟨#[102, 111, 114, 99, 101]⟩)) g).heap.size ⟨#[100]⟩ 1 := a0.iter _ _ _ inferInstance
    have c0 := a0.cell (Nat.lt_succ_self w.heap.size) (show World.cell? _ ⟨w.heap.size, 0, none⟩ = some (.int .i64 7) by simp [go_sem, c0])
    have c1 := a0.cell (Nat.lt_succ_self w.heap.size) (show World.cell? _ ⟨w.heap.size, 1, none⟩ = some (.int .i64 xn) by simp [go_sem, c1])
    have c2 := a0.cell (Nat.lt_succ_self w.heap.size) (show World.cell? _ ⟨w.heap.size, 2, none⟩ = some (.int .i64 xm) by simp [go_sem, c2])
    have c3 := a0.cell (Nat.lt_succ_self w.heap.size) (show World.cell? _ ⟨w.heap.size, 3, none⟩ = some (.int .i64 xOk) by simp [go_sem, c3])
    have c4 := a0.cell (Nat.lt_succ_self w.heap.size) (show World.cell? _ ⟨w.heap.size, 4, none⟩ = some (.int .u64 xOv) by simp [go_sem, c4])
    have c5 := a0.cell (Nat.lt_succ_self w.heap.size) (show World.cell? _ ⟨w.heap.size, 5, none⟩ = some (.int .u64 xOt) by simp [go_sem, c5])
    have c6 := a0.cell (Nat.lt_succ_self w.heap.size) (show World.cell? _ ⟨w.heap.size, 6, none⟩ = some (.int .i64 xOs) by simp [go_sem, c6])
    have c7 := a0.cell (Nat.lt_succ_self w.heap.size) (show World.cell? _ ⟨w.heap.size, 7, none⟩ = some (.int .i64 xOa) by simp [go_sem, c7])
    have c8 := a0.cell (Nat.lt_succ_self w.heap.size) (show World.cell? _ ⟨w.heap.size, 8, none⟩ = some (.int .i64 xOc) by simp [go_sem, c8])
    have c9 := a0.cell (Nat.lt_succ_self w.heap.size) (show World.cell? _ ⟨w.heap.size, 9, none⟩ = some (.slice xOD xOn xOq) by simp [go_sem, c9])
    have c10 := a0.cell (Nat.lt_succ_self w.heap.size) (show World.cell? _ ⟨w.heap.size, 10, none⟩ = some (.bool true) by simp [go_sem, c10])
    have c11 := a0.cell (Nat.lt_succ_self w.heap.size) (show World.cell? _ ⟨w.heap.size, 11, none⟩ = some (.slice xP xpn xpq) by simp [go_sem, c11])
    have hown := a0.own
    have hbw := a0.chain (a := w) (by (repeat (first | with_reducible exact hbw | with_reducible exact Below.refl _ _ | with_reducible apply below_alloc | with_reducible refine below_set' ?_ _ | with_reducible refine below_trans ?_ (grown_below _ _) | with_reducible refine below_iter' ?_ _ _ | with_reducible apply Below.drew))) (Nat.le_succ _)
    clear a0
    simp only [List.cons_append, List.nil_append] at hown
    go_wp2
    obtain ⟨VA, vc, hv, hvc, hrow⟩ := hown.form
    have hv2 : v0 = .slice VA 2 vc := hv
    clear hv
    subst hv2
    have hvc2 : 2 ≤ vc := hvc
    clear hvc
    have hJ : (Lib.join (([⟨#[102, 111, 114, 99, 101]⟩, ⟨(Lib.itoa xn).toArray⟩] : List ByteArray).map (·.data.toList)) [32]).length ≤ 140737488355328 := by
      refine Nat.le_trans (join_len [32] rfl 2000000 _ ?_) (by simp)
      intro x hx
      simp only [List.map_cons, List.map_nil, List.mem_cons, List.mem_nil_iff, or_false] at hx
      rcases hx with rfl | rfl
      · simp
      · have := itoa_len _ n0 n1; simp; omega
    have HJ := Lib.hid hJ; clear hJ
    have HROW := Lib.hid hrow; clear hrow hown
    have HLN : Hid (([⟨#[102, 111, 114, 99, 101]⟩, ⟨(Lib.itoa xn).toArray⟩] : List ByteArray).length = 2) := Lib.hid rfl
    rw [rounds_succ]
    go_wp2_with (go_at_call 57; ((with_reducible refine (join_any _ _ _ ([⟨#[102, 111, 114, 99, 101]⟩, ⟨(Lib.itoa xn).toArray⟩] : List ByteArray) ⟨#[32]⟩ _ HLN.out hvc2 HJ.out (by omega) (HROW.out.gr (by (refine Gr.of ?_; repeat (first | with_reducible exact Below.refl _ _ | with_reducible apply below_alloc | with_reducible refine below_set' ?_ _ | with_reducible refine below_trans ?_ (grown_below _ _) | with_reducible refine below_iter' ?_ _ _ | with_reducible apply Below.drew | with_reducible refine below_trans ?_ (by assumption)))))).mono ?_); rintro _ _ ⟨rfl, gz, rfl⟩))
    go_ret
    exact ⟨rfl, Gr.of (by (repeat (first | with_reducible exact hbw | with_reducible exact Below.refl _ _ | with_reducible apply below_alloc | with_reducible refine below_set' ?_ _ | with_reducible refine below_trans ?_ (grown_below _ _) | with_reducible refine below_iter' ?_ _ _ | with_reducible apply Below.drew)))⟩
end Go.Proofs.YtgjdgafoidppaaaDoor
