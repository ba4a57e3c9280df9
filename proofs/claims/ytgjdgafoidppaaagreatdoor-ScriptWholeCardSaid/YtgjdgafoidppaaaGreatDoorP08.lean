/- script.actText (the other kinds). Conditions: what is read stands in memory; strconv's table stands. command.May. Conditions: what is read stands in memory. -/
import Derived.Test.YtgjdgafoidppaaaGreatDoorP07
import Derived.Test.YtgjdgafoidppaaaGreatDoorP03
import Derived.Test.YtgjdgafoidppaaaGreatDoorP02
namespace Go.Proofs.YtgjdgafoidppaaaGreatDoor
open Go.RowKit
set_option linter.unusedVariables false
set_option linter.unusedSimpArgs false
set_option linter.unnecessarySimpa false
set_option maxRecDepth 100000 in
set_option maxHeartbeats 8000000 in
theorem actText_4 (xn xm xOk xOv xOt xOs xOa xOc : Int) (xOD xP : Option Addr) (xOn xOq xpn xpq : Nat) (lx : List UInt8) (px : List Int) (w : World) [hk : Tb w] (n0 : -9223372036854775808 ≤ xn) (n1 : xn ≤ 9223372036854775807) (m0 : -9223372036854775808 ≤ xm) (m1 : xm ≤ 9223372036854775807) (hpx : px.length = xpn) (hpq : xpn ≤ xpq) (hpn : xpn ≤ 1000) (pk : Pk px) (h3 : Row (Value.int .i64) w xP px) : Calls Tryz.prog 42 #[(Value.agg #[.int .i64 4, .int .i64 xn, .int .i64 xm, .int .i64 xOk, .int .u64 xOv, .int .u64 xOt, .int .i64 xOs, .int .i64 xOa, .int .i64 xOc, .slice xOD xOn xOq, .bool false, .slice xP xpn xpq])] w fun e w' => e = .returned (.string ⟨(Lib.join (([⟨#[111, 102, 102]⟩, ⟨(Lib.itoa xn).toArray⟩, ⟨(rowL (pickT px)).toArray⟩] : List ByteArray).map (·.data.toList)) [32]).toArray⟩) ∧ Gr w w' := by
 have H3 := Lib.hid h3; clear h3
 have HPX := Lib.hid hpx; clear hpx
 have en : actPartsB 4 = ⟨#[100, 112]⟩ := rfl
 go_enter Tryz.func42, Tryz.ntmps42
 go_upto_region 1 with fail
 go_cut [3] (fun v wx => (∃ b : Nat, v = .slice (some ⟨b, 0, none⟩) 1 1 ∧ w.heap.size + 1 ≤ b ∧ b < wx.heap.size ∧ OwnS (w.heap.size + 1) wx v [⟨#[111, 102, 102]⟩]) ∧ Below w.heap.size w wx ∧ From w wx ∧ Tb wx ∧ (wx.cell? ⟨w.heap.size, 0, none⟩ = some (.int .i64 4) ∧ wx.cell? ⟨w.heap.size, 1, none⟩ = some (.int .i64 xn) ∧ wx.cell? ⟨w.heap.size, 2, none⟩ = some (.int .i64 xm) ∧ wx.cell? ⟨w.heap.size, 3, none⟩ = some (.int .i64 xOk) ∧ wx.cell? ⟨w.heap.size, 4, none⟩ = some (.int .u64 xOv) ∧ wx.cell? ⟨w.heap.size, 5, none⟩ = some (.int .u64 xOt) ∧ wx.cell? ⟨w.heap.size, 6, none⟩ = some (.int .i64 xOs) ∧ wx.cell? ⟨w.heap.size, 7, none⟩ = some (.int .i64 xOa) ∧ wx.cell? ⟨w.heap.size, 8, none⟩ = some (.int .i64 xOc) ∧ wx.cell? ⟨w.heap.size, 9, none⟩ = some (.slice xOD xOn xOq) ∧ wx.cell? ⟨w.heap.size, 10, none⟩ = some (.bool false) ∧ wx.cell? ⟨w.heap.size, 11, none⟩ = some (.slice xP xpn xpq)))
 case first =>
  go_region_with ((go_at_call 51; refine (actWords_any _).mono ?_; rintro e w' ⟨rfl, rfl⟩))
  all_goals
   go_wp2_with fail
   go_meet
   case rel =>
    refine ⟨?_, (gri : Gr w _).below, inferInstance, inferInstance, by simp [go_sem], by simp [go_sem], by simp [go_sem], by simp [go_sem], by simp [go_sem], by simp [go_sem], by simp [go_sem], by simp [go_sem], by simp [go_sem], by simp [go_sem], by simp [go_sem], by simp [go_sem]⟩
    refine ⟨_, rfl, by omega, (inferInstance : Old _ _).lt, ?_⟩
    first
     | exact OwnS.new _ _ _ (by omega)
     | exact (OwnS.new _ _ _ (by omega)).drew_
 case rest =>
  obtain ⟨⟨b0, rfl, hb0, hb1, hown⟩, hbw, hfr, htb, c0, c1, c2, c3, c4, c5, c6, c7, c8, c9, c10, c11⟩ := hcut
  have hle6 : 6 ≤ w.heap.size + 1 := Nat.le_succ_of_le hk.size
  haveI io : Old w.heap.size wc := old_of_cell c0
  haveI ib : Old b0 wc := ⟨hb1⟩
  go_wp2_with (go_at_call 52; ((with_reducible refine (actPartsB_any _ _).mono ?_); rintro _ _ ⟨rfl, g, rfl⟩))
  refine wp_loop_rounds 3 ?_
  rw [rounds_succ]
  go_wp2_with (go_at_call 87; ((with_reducible refine (itoa_any _ n0 n1 _).mono ?_)))
  rintro _ _ ⟨rfl, g0, rfl⟩
  go_wp2_with (at_builtin; refine wp_append_str rfl _ _ rfl (w.heap.size + 1) ?vv0 ([⟨#[111, 102, 102]⟩] : List ByteArray) ?hs0 ?own0 _ ⟨(Lib.itoa xn).toArray⟩ rfl ?hc0 (by simp) ?hb0 ?_)
  case own0 => (with_reducible repeat (first | exact hown | refine OwnS.alloc_ ?_ _ | refine OwnS.grown_ ?_ _ | refine OwnS.iter_ ?_ _ _ _ | refine OwnS.drew_ ?_))
  case hs0 => rfl
  case hc0 => simp [go_sem]
  case hb0 => exact Nat.succ_le_of_lt (inferInstance : Old w.heap.size _).lt
  intro v0 w0 a0
  haveI : Tb w0 := a0.tb hle6
  haveI : From w w0 := a0.from_ w
  haveI : Old w.heap.size w0 := a0.old _
  haveI : IterAt w0 (grown wc g).heap.size ⟨#[100, 112]⟩ 1 := a0.iter _ _ _ inferInstance
  have c0 := a0.cell (Nat.lt_succ_self w.heap.size) (show World.cell? _ ⟨w.heap.size, 0, none⟩ = some (.int .i64 4) by simp [go_sem, c0])
  have c1 := a0.cell (Nat.lt_succ_self w.heap.size) (show World.cell? _ ⟨w.heap.size, 1, none⟩ = some (.int .i64 xn) by simp [go_sem, c1])
  have c2 := a0.cell (Nat.lt_succ_self w.heap.size) (show World.cell? _ ⟨w.heap.size, 2, none⟩ = some (.int .i64 xm) by simp [go_sem, c2])
  have c3 := a0.cell (Nat.lt_succ_self w.heap.size) (show World.cell? _ ⟨w.heap.size, 3, none⟩ = some (.int .i64 xOk) by simp [go_sem, c3])
  have c4 := a0.cell (Nat.lt_succ_self w.heap.size) (show World.cell? _ ⟨w.heap.size, 4, none⟩ = some (.int .u64 xOv) by simp [go_sem, c4])
  have c5 := a0.cell (Nat.lt_succ_self w.heap.size) (show World.cell? _ ⟨w.heap.size, 5, none⟩ = some (.int .u64 xOt) by simp [go_sem, c5])
  have c6 := a0.cell (Nat.lt_succ_self w.heap.size) (show World.cell? _ ⟨w.heap.size, 6, none⟩ = some (.int .i64 xOs) by simp [go_sem, c6])
  have c7 := a0.cell (Nat.lt_succ_self w.heap.size) (show World.cell? _ ⟨w.heap.size, 7, none⟩ = some (.int .i64 xOa) by simp [go_sem, c7])
  have c8 := a0.cell (Nat.lt_succ_self w.heap.size) (show World.cell? _ ⟨w.heap.size, 8, none⟩ = some (.int .i64 xOc) by simp [go_sem, c8])
  have c9 := a0.cell (Nat.lt_succ_self w.heap.size) (show World.cell? _ ⟨w.heap.size, 9, none⟩ = some (.slice xOD xOn xOq) by simp [go_sem, c9])
  have c10 := a0.cell (Nat.lt_succ_self w.heap.size) (show World.cell? _ ⟨w.heap.size, 10, none⟩ = some (.bool false) by simp [go_sem, c10])
  have c11 := a0.cell (Nat.lt_succ_self w.heap.size) (show World.cell? _ ⟨w.heap.size, 11, none⟩ = some (.slice xP xpn xpq) by simp [go_sem, c11])
  have hown := a0.own
  have hbw := a0.chain (a := w) (by ((with_reducible repeat (first | exact hbw | exact Below.refl _ _ | apply below_alloc | refine below_set' ?_ _ | refine below_trans ?_ (grown_below _ _) | refine below_iter' ?_ _ _ | apply Below.drew)))) (Nat.le_succ _)
  clear a0
  simp only [List.cons_append, List.nil_append] at hown
  go_wp2
  rw [rounds_succ]
  go_wp2_with fail
  go_loopw [6, 30] (fun v iv wr => ∃ j : Nat, iv = .int .i64 j ∧ j ≤ xpn ∧ OwnS w0.heap.size wr v (pickT (px.take j)) ∧ Gr (w0.iterAt ((grown wc g).heap.size) ⟨#[100, 112]⟩ 2) wr) (fun _ iv _ => xpn - (intOf iv).toNat)
  case atStart => exact ⟨0, rfl, Nat.zero_le _, OwnS.nil _ _, Gr.refl _⟩
  case round =>
   obtain ⟨j, rfl, hj, hrow0, hgr⟩ := hrel
   obtain ⟨gj, rfl⟩ := hgr
   by_cases hlt : j < xpn
   ·have hjx : j < px.length := by have := HPX.out; omega
    obtain ⟨x, hxj⟩ : ∃ x, px[j]? = some x := ⟨px[j], List.getElem?_eq_getElem hjx⟩
    have hmem := List.mem_of_getElem? hxj
    obtain ⟨pb, po, hpe, hpb, hpc⟩ := H3.out.at_ (by rintro rfl; simp at hjx)
    subst hpe
    haveI ip : Old pb w := ⟨hpb⟩
    have hcx : (grown (w0.iterAt ((grown wc g).heap.size) ⟨#[100, 112]⟩ 2) gj).cell? ⟨pb, po + j, none⟩ = some (.int .i64 x) := by
     have hq := hbw.cell (p := ⟨pb, po + j, none⟩) hpb
     haveI : Old pb w0 := ⟨Nat.lt_of_lt_of_le hpb hbw.size⟩
     simp only [grown_cells, iterAt_cells]
     exact hq.trans (hpc j x hxj)
    have HXJ := Lib.hid hxj; clear hxj hjx
    have hlo := pk.lo x hmem
    have hhi := pk.hi x hmem
    clear hpc hmem
    have hpl : (pickT (px.take j)).length ≤ 1000 := by
     have := HPX.out; simp only [pickT, List.length_map, List.length_take]; omega
    have HPL2 := Lib.hid hpl; clear hpl
    go_wp2_with (go_at_call 87; ((with_reducible refine (itoa_any _ hlo hhi _).mono ?_)))
    rintro _ _ ⟨rfl, gk, rfl⟩
    go_wp2_with (at_builtin; refine wp_append_str rfl _ _ rfl w0.heap.size ?vvp (pickT (px.take j)) ?hsp ?ownp _ ⟨(Lib.itoa x).toArray⟩ rfl ?hcp HPL2.out ?hbp ?_)
    case ownp => (with_reducible repeat (first | exact hrow0 | refine OwnS.alloc_ ?_ _ | refine OwnS.grown_ ?_ _ | refine OwnS.iter_ ?_ _ _ _ | refine OwnS.drew_ ?_))
    case hsp => rfl
    case hcp => simp [go_sem]
    case hbp => exact (inferInstance : From w0 _).le
    intro vp wp ap
    have hgp : Gr (w0.iterAt ((grown wc g).heap.size) ⟨#[100, 112]⟩ 2) wp := Gr.of (by
     have h0 := ap.below
     have e0 : (w0.iterAt ((grown wc g).heap.size) ⟨#[100, 112]⟩ 2).heap.size = w0.heap.size := iterAt_size _ _ _ _
     rw [e0]
     refine Below.trans ?_ h0
     have h9 : Below (w0.iterAt ((grown wc g).heap.size) ⟨#[100, 112]⟩ 2).heap.size (w0.iterAt ((grown wc g).heap.size) ⟨#[100, 112]⟩ 2) ((grown (grown (w0.iterAt ((grown wc g).heap.size) ⟨#[100, 112]⟩ 2) gj) gk).alloc (.cells #[.string ⟨(Lib.itoa x).toArray⟩] 9)) := (gri : Gr _ _).below
     rw [e0] at h9
     exact h9)
    have hownp := ap.own
    clear ap
    go_wp2
    go_roundw
    case rel => exact ⟨j + 1, by go_num, by omega, by rw [pickT_snoc px j x HXJ.out]; exact hownp, hgp⟩
    case measure => simp [intOf]; omega
   ·have hje : px.take j = px := List.take_of_length_le (by have := HPX.out; omega)
    rw [hje] at hrow0
    obtain ⟨RA, rc, rfl, hrc0, hrr⟩ := hrow0.form
    have hpl : (pickT px).length = xpn := by have := HPX.out; simp [pickT, this]
    have hrc : xpn ≤ rc := by omega
    rw [hpl]
    have HPL := Lib.hid hpl; clear hpl hje hrc0
    have HRR := Lib.hid hrr; clear hrr hrow0
    have HJ2 := Lib.hid (pk.join (by have := HPX.out; omega))
    go_wp2_with (go_at_call 92; ((with_reducible refine (rowText_any _ _ _ (pickT px) _ HPL.out hrc (by omega) (by have := HJ2.out; omega) HRR.out).mono ?_)))
    rintro _ _ ⟨rfl, g1, rfl⟩
    go_wp2_with (at_builtin; refine wp_append_str rfl _ _ rfl (w.heap.size + 1) ?vv1 ([⟨#[111, 102, 102]⟩, ⟨(Lib.itoa xn).toArray⟩] : List ByteArray) ?hs1 ?own1 _ ⟨(rowL (pickT px)).toArray⟩ rfl ?hc1 (by simp) ?hb1 ?_)
    case own1 => (with_reducible repeat (first | exact hown | refine OwnS.alloc_ ?_ _ | refine OwnS.grown_ ?_ _ | refine OwnS.iter_ ?_ _ _ _ | refine OwnS.drew_ ?_))
    case hs1 => rfl
    case hc1 => simp [go_sem]
    case hb1 => exact Nat.succ_le_of_lt (inferInstance : Old w.heap.size _).lt
    intro v1 w1 a1
    haveI : Tb w1 := a1.tb hle6
    haveI : From w w1 := a1.from_ w
    haveI : Old w.heap.size w1 := a1.old _
    haveI : IterAt w1 (grown wc g).heap.size ⟨#[100, 112]⟩ 2 := a1.iter _ _ _ inferInstance
    have c0 := a1.cell (Nat.lt_succ_self w.heap.size) (show World.cell? _ ⟨w.heap.size, 0, none⟩ = some (.int .i64 4) by simp [go_sem, c0])
    have c1 := a1.cell (Nat.lt_succ_self w.heap.size) (show World.cell? _ ⟨w.heap.size, 1, none⟩ = some (.int .i64 xn) by simp [go_sem, c1])
    have c2 := a1.cell (Nat.lt_succ_self w.heap.size) (show World.cell? _ ⟨w.heap.size, 2, none⟩ = some (.int .i64 xm) by simp [go_sem, c2])
    have c3 := a1.cell (Nat.lt_succ_self w.heap.size) (show World.cell? _ ⟨w.heap.size, 3, none⟩ = some (.int .i64 xOk) by simp [go_sem, c3])
    have c4 := a1.cell (Nat.lt_succ_self w.heap.size) (show World.cell? _ ⟨w.heap.size, 4, none⟩ = some (.int .u64 xOv) by simp [go_sem, c4])
    have c5 := a1.cell (Nat.lt_succ_self w.heap.size) (show World.cell? _ ⟨w.heap.size, 5, none⟩ = some (.int .u64 xOt) by simp [go_sem, c5])
    have c6 := a1.cell (Nat.lt_succ_self w.heap.size) (show World.cell? _ ⟨w.heap.size, 6, none⟩ = some (.int .i64 xOs) by simp [go_sem, c6])
    have c7 := a1.cell (Nat.lt_succ_self w.heap.size) (show World.cell? _ ⟨w.heap.size, 7, none⟩ = some (.int .i64 xOa) by simp [go_sem, c7])
    have c8 := a1.cell (Nat.lt_succ_self w.heap.size) (show World.cell? _ ⟨w.heap.size, 8, none⟩ = some (.int .i64 xOc) by simp [go_sem, c8])
    have c9 := a1.cell (Nat.lt_succ_self w.heap.size) (show World.cell? _ ⟨w.heap.size, 9, none⟩ = some (.slice xOD xOn xOq) by simp [go_sem, c9])
    have c10 := a1.cell (Nat.lt_succ_self w.heap.size) (show World.cell? _ ⟨w.heap.size, 10, none⟩ = some (.bool false) by simp [go_sem, c10])
    have c11 := a1.cell (Nat.lt_succ_self w.heap.size) (show World.cell? _ ⟨w.heap.size, 11, none⟩ = some (.slice xP xpn xpq) by simp [go_sem, c11])
    have hown := a1.own
    have hbw := a1.chain (a := w) (by ((with_reducible repeat (first | exact hbw | exact Below.refl _ _ | apply below_alloc | refine below_set' ?_ _ | refine below_trans ?_ (grown_below _ _) | refine below_iter' ?_ _ _ | apply Below.drew)))) (Nat.le_succ _)
    clear a1
    simp only [List.cons_append, List.nil_append] at hown
    go_wp2
    obtain ⟨VA, vc, hv, hvc, hrow⟩ := hown.form
    have hv2 : v1 = .slice VA 3 vc := hv
    clear hv
    subst hv2
    have hvc2 : 3 ≤ vc := hvc
    clear hvc
    have hJ : (Lib.join (([⟨#[111, 102, 102]⟩, ⟨(Lib.itoa xn).toArray⟩, ⟨(rowL (pickT px)).toArray⟩] : List ByteArray).map (·.data.toList)) [32]).length ≤ 140737488355328 := by
     refine Nat.le_trans (join_len [32] rfl 2000000 _ ?_) (by simp)
     intro x hx
     simp only [List.map_cons, List.map_nil, List.mem_cons, List.mem_nil_iff, or_false] at hx
     rcases hx with rfl | rfl | rfl
     ·simp
     ·have := itoa_len _ n0 n1; simp; omega
     ·have := pk.row (by have := HPX.out; omega); simp; omega
    have HJ := Lib.hid hJ; clear hJ
    have HROW := Lib.hid hrow; clear hrow hown
    have HLN : Hid (([⟨#[111, 102, 102]⟩, ⟨(Lib.itoa xn).toArray⟩, ⟨(rowL (pickT px)).toArray⟩] : List ByteArray).length = 3) := Lib.hid rfl
    rw [rounds_succ]
    go_wp2_with (go_at_call 89; ((with_reducible refine (join_any _ _ _ ([⟨#[111, 102, 102]⟩, ⟨(Lib.itoa xn).toArray⟩, ⟨(rowL (pickT px)).toArray⟩] : List ByteArray) ⟨#[32]⟩ _ HLN.out hvc2 HJ.out (by omega) (HROW.out.gr (gri))).mono ?_); rintro _ _ ⟨rfl, gz, rfl⟩))
    go_ret
    exact ⟨rfl, Gr.of (by ((with_reducible repeat (first | exact hbw | exact Below.refl _ _ | apply below_alloc | refine below_set' ?_ _ | refine below_trans ?_ (grown_below _ _) | refine below_iter' ?_ _ _ | apply Below.drew))))⟩
set_option maxRecDepth 100000 in
set_option maxHeartbeats 8000000 in
theorem actText_5 (xn xm xOk xOv xOt xOs xOa xOc : Int) (xOD xP : Option Addr) (xOn xOq xpn xpq : Nat) (lx : List UInt8) (px : List Int) (w : World) [hk : Tb w] (n0 : -9223372036854775808 ≤ xn) (n1 : xn ≤ 9223372036854775807) (m0 : -9223372036854775808 ≤ xm) (m1 : xm ≤ 9223372036854775807) (hpx : px.length = xpn) (hpq : xpn ≤ xpq) (hpn : xpn ≤ 1000) (pk : Pk px) (h3 : Row (Value.int .i64) w xP px) : Calls Tryz.prog 42 #[(Value.agg #[.int .i64 5, .int .i64 xn, .int .i64 xm, .int .i64 xOk, .int .u64 xOv, .int .u64 xOt, .int .i64 xOs, .int .i64 xOa, .int .i64 xOc, .slice xOD xOn xOq, .bool false, .slice xP xpn xpq])] w fun e w' => e = .returned (.string ⟨(Lib.join (([⟨#[111, 110]⟩, ⟨(Lib.itoa xn).toArray⟩, ⟨(rowL (pickT px)).toArray⟩] : List ByteArray).map (·.data.toList)) [32]).toArray⟩) ∧ Gr w w' := by
 have H3 := Lib.hid h3; clear h3
 have HPX := Lib.hid hpx; clear hpx
 have en : actPartsB 5 = ⟨#[100, 112]⟩ := rfl
 go_enter Tryz.func42, Tryz.ntmps42
 go_upto_region 1 with fail
 go_cut [3] (fun v wx => (∃ b : Nat, v = .slice (some ⟨b, 0, none⟩) 1 1 ∧ w.heap.size + 1 ≤ b ∧ b < wx.heap.size ∧ OwnS (w.heap.size + 1) wx v [⟨#[111, 110]⟩]) ∧ Below w.heap.size w wx ∧ From w wx ∧ Tb wx ∧ (wx.cell? ⟨w.heap.size, 0, none⟩ = some (.int .i64 5) ∧ wx.cell? ⟨w.heap.size, 1, none⟩ = some (.int .i64 xn) ∧ wx.cell? ⟨w.heap.size, 2, none⟩ = some (.int .i64 xm) ∧ wx.cell? ⟨w.heap.size, 3, none⟩ = some (.int .i64 xOk) ∧ wx.cell? ⟨w.heap.size, 4, none⟩ = some (.int .u64 xOv) ∧ wx.cell? ⟨w.heap.size, 5, none⟩ = some (.int .u64 xOt) ∧ wx.cell? ⟨w.heap.size, 6, none⟩ = some (.int .i64 xOs) ∧ wx.cell? ⟨w.heap.size, 7, none⟩ = some (.int .i64 xOa) ∧ wx.cell? ⟨w.heap.size, 8, none⟩ = some (.int .i64 xOc) ∧ wx.cell? ⟨w.heap.size, 9, none⟩ = some (.slice xOD xOn xOq) ∧ wx.cell? ⟨w.heap.size, 10, none⟩ = some (.bool false) ∧ wx.cell? ⟨w.heap.size, 11, none⟩ = some (.slice xP xpn xpq)))
 case first =>
  go_region_with ((go_at_call 51; refine (actWords_any _).mono ?_; rintro e w' ⟨rfl, rfl⟩))
  all_goals
   go_wp2_with fail
   go_meet
   case rel =>
    refine ⟨?_, (gri : Gr w _).below, inferInstance, inferInstance, by simp [go_sem], by simp [go_sem], by simp [go_sem], by simp [go_sem], by simp [go_sem], by simp [go_sem], by simp [go_sem], by simp [go_sem], by simp [go_sem], by simp [go_sem], by simp [go_sem], by simp [go_sem]⟩
    refine ⟨_, rfl, by omega, (inferInstance : Old _ _).lt, ?_⟩
    first
     | exact OwnS.new _ _ _ (by omega)
     | exact (OwnS.new _ _ _ (by omega)).drew_
 case rest =>
  obtain ⟨⟨b0, rfl, hb0, hb1, hown⟩, hbw, hfr, htb, c0, c1, c2, c3, c4, c5, c6, c7, c8, c9, c10, c11⟩ := hcut
  have hle6 : 6 ≤ w.heap.size + 1 := Nat.le_succ_of_le hk.size
  haveI io : Old w.heap.size wc := old_of_cell c0
  haveI ib : Old b0 wc := ⟨hb1⟩
  go_wp2_with (go_at_call 52; ((with_reducible refine (actPartsB_any _ _).mono ?_); rintro _ _ ⟨rfl, g, rfl⟩))
  refine wp_loop_rounds 3 ?_
  rw [rounds_succ]
  go_wp2_with (go_at_call 87; ((with_reducible refine (itoa_any _ n0 n1 _).mono ?_)))
  rintro _ _ ⟨rfl, g0, rfl⟩
  go_wp2_with (at_builtin; refine wp_append_str rfl _ _ rfl (w.heap.size + 1) ?vv0 ([⟨#[111, 110]⟩] : List ByteArray) ?hs0 ?own0 _ ⟨(Lib.itoa xn).toArray⟩ rfl ?hc0 (by simp) ?hb0 ?_)
  case own0 => (with_reducible repeat (first | exact hown | refine OwnS.alloc_ ?_ _ | refine OwnS.grown_ ?_ _ | refine OwnS.iter_ ?_ _ _ _ | refine OwnS.drew_ ?_))
  case hs0 => rfl
  case hc0 => simp [go_sem]
  case hb0 => exact Nat.succ_le_of_lt (inferInstance : Old w.heap.size _).lt
  intro v0 w0 a0
  haveI : Tb w0 := a0.tb hle6
  haveI : From w w0 := a0.from_ w
  haveI : Old w.heap.size w0 := a0.old _
  haveI : IterAt w0 (grown wc g).heap.size ⟨#[100, 112]⟩ 1 := a0.iter _ _ _ inferInstance
  have c0 := a0.cell (Nat.lt_succ_self w.heap.size) (show World.cell? _ ⟨w.heap.size, 0, none⟩ = some (.int .i64 5) by simp [go_sem, c0])
  have c1 := a0.cell (Nat.lt_succ_self w.heap.size) (show World.cell? _ ⟨w.heap.size, 1, none⟩ = some (.int .i64 xn) by simp [go_sem, c1])
  have c2 := a0.cell (Nat.lt_succ_self w.heap.size) (show World.cell? _ ⟨w.heap.size, 2, none⟩ = some (.int .i64 xm) by simp [go_sem, c2])
  have c3 := a0.cell (Nat.lt_succ_self w.heap.size) (show World.cell? _ ⟨w.heap.size, 3, none⟩ = some (.int .i64 xOk) by simp [go_sem, c3])
  have c4 := a0.cell (Nat.lt_succ_self w.heap.size) (show World.cell? _ ⟨w.heap.size, 4, none⟩ = some (.int .u64 xOv) by simp [go_sem, c4])
  have c5 := a0.cell (Nat.lt_succ_self w.heap.size) (show World.cell? _ ⟨w.heap.size, 5, none⟩ = some (.int .u64 xOt) by simp [go_sem, c5])
  have c6 := a0.cell (Nat.lt_succ_self w.heap.size) (show World.cell? _ ⟨w.heap.size, 6, none⟩ = some (.int .i64 xOs) by simp [go_sem, c6])
  have c7 := a0.cell (Nat.lt_succ_self w.heap.size) (show World.cell? _ ⟨w.heap.size, 7, none⟩ = some (.int .i64 xOa) by simp [go_sem, c7])
  have c8 := a0.cell (Nat.lt_succ_self w.heap.size) (show World.cell? _ ⟨w.heap.size, 8, none⟩ = some (.int .i64 xOc) by simp [go_sem, c8])
  have c9 := a0.cell (Nat.lt_succ_self w.heap.size) (show World.cell? _ ⟨w.heap.size, 9, none⟩ = some (.slice xOD xOn xOq) by simp [go_sem, c9])
  have c10 := a0.cell (Nat.lt_succ_self w.heap.size) (show World.cell? _ ⟨w.heap.size, 10, none⟩ = some (.bool false) by simp [go_sem, c10])
  have c11 := a0.cell (Nat.lt_succ_self w.heap.size) (show World.cell? _ ⟨w.heap.size, 11, none⟩ = some (.slice xP xpn xpq) by simp [go_sem, c11])
  have hown := a0.own
  have hbw := a0.chain (a := w) (by ((with_reducible repeat (first | exact hbw | exact Below.refl _ _ | apply below_alloc | refine below_set' ?_ _ | refine below_trans ?_ (grown_below _ _) | refine below_iter' ?_ _ _ | apply Below.drew)))) (Nat.le_succ _)
  clear a0
  simp only [List.cons_append, List.nil_append] at hown
  go_wp2
  rw [rounds_succ]
  go_wp2_with fail
  go_loopw [6, 30] (fun v iv wr => ∃ j : Nat, iv = .int .i64 j ∧ j ≤ xpn ∧ OwnS w0.heap.size wr v (pickT (px.take j)) ∧ Gr (w0.iterAt ((grown wc g).heap.size) ⟨#[100, 112]⟩ 2) wr) (fun _ iv _ => xpn - (intOf iv).toNat)
  case atStart => exact ⟨0, rfl, Nat.zero_le _, OwnS.nil _ _, Gr.refl _⟩
  case round =>
   obtain ⟨j, rfl, hj, hrow0, hgr⟩ := hrel
   obtain ⟨gj, rfl⟩ := hgr
   by_cases hlt : j < xpn
   ·have hjx : j < px.length := by have := HPX.out; omega
    obtain ⟨x, hxj⟩ : ∃ x, px[j]? = some x := ⟨px[j], List.getElem?_eq_getElem hjx⟩
    have hmem := List.mem_of_getElem? hxj
    obtain ⟨pb, po, hpe, hpb, hpc⟩ := H3.out.at_ (by rintro rfl; simp at hjx)
    subst hpe
    haveI ip : Old pb w := ⟨hpb⟩
    have hcx : (grown (w0.iterAt ((grown wc g).heap.size) ⟨#[100, 112]⟩ 2) gj).cell? ⟨pb, po + j, none⟩ = some (.int .i64 x) := by
     have hq := hbw.cell (p := ⟨pb, po + j, none⟩) hpb
     haveI : Old pb w0 := ⟨Nat.lt_of_lt_of_le hpb hbw.size⟩
     simp only [grown_cells, iterAt_cells]
     exact hq.trans (hpc j x hxj)
    have HXJ := Lib.hid hxj; clear hxj hjx
    have hlo := pk.lo x hmem
    have hhi := pk.hi x hmem
    clear hpc hmem
    have hpl : (pickT (px.take j)).length ≤ 1000 := by
     have := HPX.out; simp only [pickT, List.length_map, List.length_take]; omega
    have HPL2 := Lib.hid hpl; clear hpl
    go_wp2_with (go_at_call 87; ((with_reducible refine (itoa_any _ hlo hhi _).mono ?_)))
    rintro _ _ ⟨rfl, gk, rfl⟩
    go_wp2_with (at_builtin; refine wp_append_str rfl _ _ rfl w0.heap.size ?vvp (pickT (px.take j)) ?hsp ?ownp _ ⟨(Lib.itoa x).toArray⟩ rfl ?hcp HPL2.out ?hbp ?_)
    case ownp => (with_reducible repeat (first | exact hrow0 | refine OwnS.alloc_ ?_ _ | refine OwnS.grown_ ?_ _ | refine OwnS.iter_ ?_ _ _ _ | refine OwnS.drew_ ?_))
    case hsp => rfl
    case hcp => simp [go_sem]
    case hbp => exact (inferInstance : From w0 _).le
    intro vp wp ap
    have hgp : Gr (w0.iterAt ((grown wc g).heap.size) ⟨#[100, 112]⟩ 2) wp := Gr.of (by
     have h0 := ap.below
     have e0 : (w0.iterAt ((grown wc g).heap.size) ⟨#[100, 112]⟩ 2).heap.size = w0.heap.size := iterAt_size _ _ _ _
     rw [e0]
     refine Below.trans ?_ h0
     have h9 : Below (w0.iterAt ((grown wc g).heap.size) ⟨#[100, 112]⟩ 2).heap.size (w0.iterAt ((grown wc g).heap.size) ⟨#[100, 112]⟩ 2) ((grown (grown (w0.iterAt ((grown wc g).heap.size) ⟨#[100, 112]⟩ 2) gj) gk).alloc (.cells #[.string ⟨(Lib.itoa x).toArray⟩] 9)) := (gri : Gr _ _).below
     rw [e0] at h9
     exact h9)
    have hownp := ap.own
    clear ap
    go_wp2
    go_roundw
    case rel => exact ⟨j + 1, by go_num, by omega, by rw [pickT_snoc px j x HXJ.out]; exact hownp, hgp⟩
    case measure => simp [intOf]; omega
   ·have hje : px.take j = px := List.take_of_length_le (by have := HPX.out; omega)
    rw [hje] at hrow0
    obtain ⟨RA, rc, rfl, hrc0, hrr⟩ := hrow0.form
    have hpl : (pickT px).length = xpn := by have := HPX.out; simp [pickT, this]
    have hrc : xpn ≤ rc := by omega
    rw [hpl]
    have HPL := Lib.hid hpl; clear hpl hje hrc0
    have HRR := Lib.hid hrr; clear hrr hrow0
    have HJ2 := Lib.hid (pk.join (by have := HPX.out; omega))
    go_wp2_with (go_at_call 92; ((with_reducible refine (rowText_any _ _ _ (pickT px) _ HPL.out hrc (by omega) (by have := HJ2.out; omega) HRR.out).mono ?_)))
    rintro _ _ ⟨rfl, g1, rfl⟩
    go_wp2_with (at_builtin; refine wp_append_str rfl _ _ rfl (w.heap.size + 1) ?vv1 ([⟨#[111, 110]⟩, ⟨(Lib.itoa xn).toArray⟩] : List ByteArray) ?hs1 ?own1 _ ⟨(rowL (pickT px)).toArray⟩ rfl ?hc1 (by simp) ?hb1 ?_)
    case own1 => (with_reducible repeat (first | exact hown | refine OwnS.alloc_ ?_ _ | refine OwnS.grown_ ?_ _ | refine OwnS.iter_ ?_ _ _ _ | refine OwnS.drew_ ?_))
    case hs1 => rfl
    case hc1 => simp [go_sem]
    case hb1 => exact Nat.succ_le_of_lt (inferInstance : Old w.heap.size _).lt
    intro v1 w1 a1
    haveI : Tb w1 := a1.tb hle6
    haveI : From w w1 := a1.from_ w
    haveI : Old w.heap.size w1 := a1.old _
    haveI : IterAt w1 (grown wc g).heap.size ⟨#[100, 112]⟩ 2 := a1.iter _ _ _ inferInstance
    have c0 := a1.cell (Nat.lt_succ_self w.heap.size) (show World.cell? _ ⟨w.heap.size, 0, none⟩ = some (.int .i64 5) by simp [go_sem, c0])
    have c1 := a1.cell (Nat.lt_succ_self w.heap.size) (show World.cell? _ ⟨w.heap.size, 1, none⟩ = some (.int .i64 xn) by simp [go_sem, c1])
    have c2 := a1.cell (Nat.lt_succ_self w.heap.size) (show World.cell? _ ⟨w.heap.size, 2, none⟩ = some (.int .i64 xm) by simp [go_sem, c2])
    have c3 := a1.cell (Nat.lt_succ_self w.heap.size) (show World.cell? _ ⟨w.heap.size, 3, none⟩ = some (.int .i64 xOk) by simp [go_sem, c3])
    have c4 := a1.cell (Nat.lt_succ_self w.heap.size) (show World.cell? _ ⟨w.heap.size, 4, none⟩ = some (.int .u64 xOv) by simp [go_sem, c4])
    have c5 := a1.cell (Nat.lt_succ_self w.heap.size) (show World.cell? _ ⟨w.heap.size, 5, none⟩ = some (.int .u64 xOt) by simp [go_sem, c5])
    have c6 := a1.cell (Nat.lt_succ_self w.heap.size) (show World.cell? _ ⟨w.heap.size, 6, none⟩ = some (.int .i64 xOs) by simp [go_sem, c6])
    have c7 := a1.cell (Nat.lt_succ_self w.heap.size) (show World.cell? _ ⟨w.heap.size, 7, none⟩ = some (.int .i64 xOa) by simp [go_sem, c7])
    have c8 := a1.cell (Nat.lt_succ_self w.heap.size) (show World.cell? _ ⟨w.heap.size, 8, none⟩ = some (.int .i64 xOc) by simp [go_sem, c8])
    have c9 := a1.cell (Nat.lt_succ_self w.heap.size) (show World.cell? _ ⟨w.heap.size, 9, none⟩ = some (.slice xOD xOn xOq) by simp [go_sem, c9])
    have c10 := a1.cell (Nat.lt_succ_self w.heap.size) (show World.cell? _ ⟨w.heap.size, 10, none⟩ = some (.bool false) by simp [go_sem, c10])
    have c11 := a1.cell (Nat.lt_succ_self w.heap.size) (show World.cell? _ ⟨w.heap.size, 11, none⟩ = some (.slice xP xpn xpq) by simp [go_sem, c11])
    have hown := a1.own
    have hbw := a1.chain (a := w) (by ((with_reducible repeat (first | exact hbw | exact Below.refl _ _ | apply below_alloc | refine below_set' ?_ _ | refine below_trans ?_ (grown_below _ _) | refine below_iter' ?_ _ _ | apply Below.drew)))) (Nat.le_succ _)
    clear a1
    simp only [List.cons_append, List.nil_append] at hown
    go_wp2
    obtain ⟨VA, vc, hv, hvc, hrow⟩ := hown.form
    have hv2 : v1 = .slice VA 3 vc := hv
    clear hv
    subst hv2
    have hvc2 : 3 ≤ vc := hvc
    clear hvc
    have hJ : (Lib.join (([⟨#[111, 110]⟩, ⟨(Lib.itoa xn).toArray⟩, ⟨(rowL (pickT px)).toArray⟩] : List ByteArray).map (·.data.toList)) [32]).length ≤ 140737488355328 := by
     refine Nat.le_trans (join_len [32] rfl 2000000 _ ?_) (by simp)
     intro x hx
     simp only [List.map_cons, List.map_nil, List.mem_cons, List.mem_nil_iff, or_false] at hx
     rcases hx with rfl | rfl | rfl
     ·simp
     ·have := itoa_len _ n0 n1; simp; omega
     ·have := pk.row (by have := HPX.out; omega); simp; omega
    have HJ := Lib.hid hJ; clear hJ
    have HROW := Lib.hid hrow; clear hrow hown
    have HLN : Hid (([⟨#[111, 110]⟩, ⟨(Lib.itoa xn).toArray⟩, ⟨(rowL (pickT px)).toArray⟩] : List ByteArray).length = 3) := Lib.hid rfl
    rw [rounds_succ]
    go_wp2_with (go_at_call 89; ((with_reducible refine (join_any _ _ _ ([⟨#[111, 110]⟩, ⟨(Lib.itoa xn).toArray⟩, ⟨(rowL (pickT px)).toArray⟩] : List ByteArray) ⟨#[32]⟩ _ HLN.out hvc2 HJ.out (by omega) (HROW.out.gr (gri))).mono ?_); rintro _ _ ⟨rfl, gz, rfl⟩))
    go_ret
    exact ⟨rfl, Gr.of (by ((with_reducible repeat (first | exact hbw | exact Below.refl _ _ | apply below_alloc | refine below_set' ?_ _ | refine below_trans ?_ (grown_below _ _) | refine below_iter' ?_ _ _ | apply Below.drew))))⟩
set_option maxRecDepth 100000 in
set_option maxHeartbeats 8000000 in
theorem actText_6 (xn xm xOk xOv xOt xOs xOa xOc : Int) (xOD xP : Option Addr) (xOn xOq xpn xpq : Nat) (lx : List UInt8) (px : List Int) (w : World) [hk : Tb w] (n0 : -9223372036854775808 ≤ xn) (n1 : xn ≤ 9223372036854775807) (m0 : -9223372036854775808 ≤ xm) (m1 : xm ≤ 9223372036854775807) : Calls Tryz.prog 42 #[(Value.agg #[.int .i64 6, .int .i64 xn, .int .i64 xm, .int .i64 xOk, .int .u64 xOv, .int .u64 xOt, .int .i64 xOs, .int .i64 xOa, .int .i64 xOc, .slice xOD xOn xOq, .bool false, .slice xP xpn xpq])] w fun e w' => e = .returned (.string ⟨(Lib.join (([⟨#[102, 117, 115, 101]⟩, ⟨(Lib.itoa xn).toArray⟩, ⟨(Lib.itoa xm).toArray⟩] : List ByteArray).map (·.data.toList)) [32]).toArray⟩) ∧ Gr w w' := by
 have en : actPartsB 6 = ⟨#[100, 110]⟩ := rfl
 go_enter Tryz.func42, Tryz.ntmps42
 go_upto_region 1 with fail
 go_cut [3] (fun v wx => (∃ b : Nat, v = .slice (some ⟨b, 0, none⟩) 1 1 ∧ w.heap.size + 1 ≤ b ∧ b < wx.heap.size ∧ OwnS (w.heap.size + 1) wx v [⟨#[102, 117, 115, 101]⟩]) ∧ Below w.heap.size w wx ∧ From w wx ∧ Tb wx ∧ (wx.cell? ⟨w.heap.size, 0, none⟩ = some (.int .i64 6) ∧ wx.cell? ⟨w.heap.size, 1, none⟩ = some (.int .i64 xn) ∧ wx.cell? ⟨w.heap.size, 2, none⟩ = some (.int .i64 xm) ∧ wx.cell? ⟨w.heap.size, 3, none⟩ = some (.int .i64 xOk) ∧ wx.cell? ⟨w.heap.size, 4, none⟩ = some (.int .u64 xOv) ∧ wx.cell? ⟨w.heap.size, 5, none⟩ = some (.int .u64 xOt) ∧ wx.cell? ⟨w.heap.size, 6, none⟩ = some (.int .i64 xOs) ∧ wx.cell? ⟨w.heap.size, 7, none⟩ = some (.int .i64 xOa) ∧ wx.cell? ⟨w.heap.size, 8, none⟩ = some (.int .i64 xOc) ∧ wx.cell? ⟨w.heap.size, 9, none⟩ = some (.slice xOD xOn xOq) ∧ wx.cell? ⟨w.heap.size, 10, none⟩ = some (.bool false) ∧ wx.cell? ⟨w.heap.size, 11, none⟩ = some (.slice xP xpn xpq)))
 case first =>
  go_region_with ((go_at_call 51; refine (actWords_any _).mono ?_; rintro e w' ⟨rfl, rfl⟩))
  all_goals
   go_wp2_with fail
   go_meet
   case rel =>
    refine ⟨?_, (gri : Gr w _).below, inferInstance, inferInstance, by simp [go_sem], by simp [go_sem], by simp [go_sem], by simp [go_sem], by simp [go_sem], by simp [go_sem], by simp [go_sem], by simp [go_sem], by simp [go_sem], by simp [go_sem], by simp [go_sem], by simp [go_sem]⟩
    refine ⟨_, rfl, by omega, (inferInstance : Old _ _).lt, ?_⟩
    first
     | exact OwnS.new _ _ _ (by omega)
     | exact (OwnS.new _ _ _ (by omega)).drew_
 case rest =>
  obtain ⟨⟨b0, rfl, hb0, hb1, hown⟩, hbw, hfr, htb, c0, c1, c2, c3, c4, c5, c6, c7, c8, c9, c10, c11⟩ := hcut
  have hle6 : 6 ≤ w.heap.size + 1 := Nat.le_succ_of_le hk.size
  haveI io : Old w.heap.size wc := old_of_cell c0
  haveI ib : Old b0 wc := ⟨hb1⟩
  go_wp2_with (go_at_call 52; ((with_reducible refine (actPartsB_any _ _).mono ?_); rintro _ _ ⟨rfl, g, rfl⟩))
  refine wp_loop_rounds 3 ?_
  rw [rounds_succ]
  go_wp2_with (go_at_call 87; ((with_reducible refine (itoa_any _ n0 n1 _).mono ?_)))
  rintro _ _ ⟨rfl, g0, rfl⟩
  go_wp2_with (at_builtin; refine wp_append_str rfl _ _ rfl (w.heap.size + 1) ?vv0 ([⟨#[102, 117, 115, 101]⟩] : List ByteArray) ?hs0 ?own0 _ ⟨(Lib.itoa xn).toArray⟩ rfl ?hc0 (by simp) ?hb0 ?_)
  case own0 => (with_reducible repeat (first | exact hown | refine OwnS.alloc_ ?_ _ | refine OwnS.grown_ ?_ _ | refine OwnS.iter_ ?_ _ _ _ | refine OwnS.drew_ ?_))
  case hs0 => rfl
  case hc0 => simp [go_sem]
  case hb0 => exact Nat.succ_le_of_lt (inferInstance : Old w.heap.size _).lt
  intro v0 w0 a0
  haveI : Tb w0 := a0.tb hle6
  haveI : From w w0 := a0.from_ w
  haveI : Old w.heap.size w0 := a0.old _
  haveI : IterAt w0 (grown wc g).heap.size ⟨#[100, 110]⟩ 1 := a0.iter _ _ _ inferInstance
  have c0 := a0.cell (Nat.lt_succ_self w.heap.size) (show World.cell? _ ⟨w.heap.size, 0, none⟩ = some (.int .i64 6) by simp [go_sem, c0])
  have c1 := a0.cell (Nat.lt_succ_self w.heap.size) (show World.cell? _ ⟨w.heap.size, 1, none⟩ = some (.int .i64 xn) by simp [go_sem, c1])
  have c2 := a0.cell (Nat.lt_succ_self w.heap.size) (show World.cell? _ ⟨w.heap.size, 2, none⟩ = some (.int .i64 xm) by simp [go_sem, c2])
  have c3 := a0.cell (Nat.lt_succ_self w.heap.size) (show World.cell? _ ⟨w.heap.size, 3, none⟩ = some (.int .i64 xOk) by simp [go_sem, c3])
  have c4 := a0.cell (Nat.lt_succ_self w.heap.size) (show World.cell? _ ⟨w.heap.size, 4, none⟩ = some (.int .u64 xOv) by simp [go_sem, c4])
  have c5 := a0.cell (Nat.lt_succ_self w.heap.size) (show World.cell? _ ⟨w.heap.size, 5, none⟩ = some (.int .u64 xOt) by simp [go_sem, c5])
  have c6 := a0.cell (Nat.lt_succ_self w.heap.size) (show World.cell? _ ⟨w.heap.size, 6, none⟩ = some (.int .i64 xOs) by simp [go_sem, c6])
  have c7 := a0.cell (Nat.lt_succ_self w.heap.size) (show World.cell? _ ⟨w.heap.size, 7, none⟩ = some (.int .i64 xOa) by simp [go_sem, c7])
  have c8 := a0.cell (Nat.lt_succ_self w.heap.size) (show World.cell? _ ⟨w.heap.size, 8, none⟩ = some (.int .i64 xOc) by simp [go_sem, c8])
  have c9 := a0.cell (Nat.lt_succ_self w.heap.size) (show World.cell? _ ⟨w.heap.size, 9, none⟩ = some (.slice xOD xOn xOq) by simp [go_sem, c9])
  have c10 := a0.cell (Nat.lt_succ_self w.heap.size) (show World.cell? _ ⟨w.heap.size, 10, none⟩ = some (.bool false) by simp [go_sem, c10])
  have c11 := a0.cell (Nat.lt_succ_self w.heap.size) (show World.cell? _ ⟨w.heap.size, 11, none⟩ = some (.slice xP xpn xpq) by simp [go_sem, c11])
  have hown := a0.own
  have hbw := a0.chain (a := w) (by ((with_reducible repeat (first | exact hbw | exact Below.refl _ _ | apply below_alloc | refine below_set' ?_ _ | refine below_trans ?_ (grown_below _ _) | refine below_iter' ?_ _ _ | apply Below.drew)))) (Nat.le_succ _)
  clear a0
  simp only [List.cons_append, List.nil_append] at hown
  go_wp2
  rw [rounds_succ]
  go_wp2_with (go_at_call 87; ((with_reducible refine (itoa_any _ m0 m1 _).mono ?_)))
  rintro _ _ ⟨rfl, g1, rfl⟩
  go_wp2_with (at_builtin; refine wp_append_str rfl _ _ rfl (w.heap.size + 1) ?vv1 ([⟨#[102, 117, 115, 101]⟩, ⟨(Lib.itoa xn).toArray⟩] : List ByteArray) ?hs1 ?own1 _ ⟨(Lib.itoa xm).toArray⟩ rfl ?hc1 (by simp) ?hb1 ?_)
  case own1 => (with_reducible repeat (first | exact hown | refine OwnS.alloc_ ?_ _ | refine OwnS.grown_ ?_ _ | refine OwnS.iter_ ?_ _ _ _ | refine OwnS.drew_ ?_))
  case hs1 => rfl
  case hc1 => simp [go_sem]
  case hb1 => exact Nat.succ_le_of_lt (inferInstance : Old w.heap.size _).lt
  intro v1 w1 a1
  haveI : Tb w1 := a1.tb hle6
  haveI : From w w1 := a1.from_ w
  haveI : Old w.heap.size w1 := a1.old _
  haveI : IterAt w1 (grown wc g).heap.size ⟨#[100, 110]⟩ 2 := a1.iter _ _ _ inferInstance
  have c0 := a1.cell (Nat.lt_succ_self w.heap.size) (show World.cell? _ ⟨w.heap.size, 0, none⟩ = some (.int .i64 6) by simp [go_sem, c0])
  have c1 := a1.cell (Nat.lt_succ_self w.heap.size) (show World.cell? _ ⟨w.heap.size, 1, none⟩ = some (.int .i64 xn) by simp [go_sem, c1])
  have c2 := a1.cell (Nat.lt_succ_self w.heap.size) (show World.cell? _ ⟨w.heap.size, 2, none⟩ = some (.int .i64 xm) by simp [go_sem, c2])
  have c3 := a1.cell (Nat.lt_succ_self w.heap.size) (show World.cell? _ ⟨w.heap.size, 3, none⟩ = some (.int .i64 xOk) by simp [go_sem, c3])
  have c4 := a1.cell (Nat.lt_succ_self w.heap.size) (show World.cell? _ ⟨w.heap.size, 4, none⟩ = some (.int .u64 xOv) by simp [go_sem, c4])
  have c5 := a1.cell (Nat.lt_succ_self w.heap.size) (show World.cell? _ ⟨w.heap.size, 5, none⟩ = some (.int .u64 xOt) by simp [go_sem, c5])
  have c6 := a1.cell (Nat.lt_succ_self w.heap.size) (show World.cell? _ ⟨w.heap.size, 6, none⟩ = some (.int .i64 xOs) by simp [go_sem, c6])
  have c7 := a1.cell (Nat.lt_succ_self w.heap.size) (show World.cell? _ ⟨w.heap.size, 7, none⟩ = some (.int .i64 xOa) by simp [go_sem, c7])
  have c8 := a1.cell (Nat.lt_succ_self w.heap.size) (show World.cell? _ ⟨w.heap.size, 8, none⟩ = some (.int .i64 xOc) by simp [go_sem, c8])
  have c9 := a1.cell (Nat.lt_succ_self w.heap.size) (show World.cell? _ ⟨w.heap.size, 9, none⟩ = some (.slice xOD xOn xOq) by simp [go_sem, c9])
  have c10 := a1.cell (Nat.lt_succ_self w.heap.size) (show World.cell? _ ⟨w.heap.size, 10, none⟩ = some (.bool false) by simp [go_sem, c10])
  have c11 := a1.cell (Nat.lt_succ_self w.heap.size) (show World.cell? _ ⟨w.heap.size, 11, none⟩ = some (.slice xP xpn xpq) by simp [go_sem, c11])
  have hown := a1.own
  have hbw := a1.chain (a := w) (by ((with_reducible repeat (first | exact hbw | exact Below.refl _ _ | apply below_alloc | refine below_set' ?_ _ | refine below_trans ?_ (grown_below _ _) | refine below_iter' ?_ _ _ | apply Below.drew)))) (Nat.le_succ _)
  clear a1
  simp only [List.cons_append, List.nil_append] at hown
  go_wp2
  obtain ⟨VA, vc, hv, hvc, hrow⟩ := hown.form
  have hv2 : v1 = .slice VA 3 vc := hv
  clear hv
  subst hv2
  have hvc2 : 3 ≤ vc := hvc
  clear hvc
  have hJ : (Lib.join (([⟨#[102, 117, 115, 101]⟩, ⟨(Lib.itoa xn).toArray⟩, ⟨(Lib.itoa xm).toArray⟩] : List ByteArray).map (·.data.toList)) [32]).length ≤ 140737488355328 := by
   refine Nat.le_trans (join_len [32] rfl 2000000 _ ?_) (by simp)
   intro x hx
   simp only [List.map_cons, List.map_nil, List.mem_cons, List.mem_nil_iff, or_false] at hx
   rcases hx with rfl | rfl | rfl
   ·simp
   ·have := itoa_len _ n0 n1; simp; omega
   ·have := itoa_len _ m0 m1; simp; omega
  have HJ := Lib.hid hJ; clear hJ
  have HROW := Lib.hid hrow; clear hrow hown
  have HLN : Hid (([⟨#[102, 117, 115, 101]⟩, ⟨(Lib.itoa xn).toArray⟩, ⟨(Lib.itoa xm).toArray⟩] : List ByteArray).length = 3) := Lib.hid rfl
  rw [rounds_succ]
  go_wp2_with (go_at_call 89; ((with_reducible refine (join_any _ _ _ ([⟨#[102, 117, 115, 101]⟩, ⟨(Lib.itoa xn).toArray⟩, ⟨(Lib.itoa xm).toArray⟩] : List ByteArray) ⟨#[32]⟩ _ HLN.out hvc2 HJ.out (by omega) (HROW.out.gr (gri))).mono ?_); rintro _ _ ⟨rfl, gz, rfl⟩))
  go_ret
  exact ⟨rfl, Gr.of (by ((with_reducible repeat (first | exact hbw | exact Below.refl _ _ | apply below_alloc | refine below_set' ?_ _ | refine below_trans ?_ (grown_below _ _) | refine below_iter' ?_ _ _ | apply Below.drew))))⟩
set_option maxRecDepth 100000 in
set_option maxHeartbeats 8000000 in
theorem actText_8 (xn xm xOk xOv xOt xOs xOa xOc : Int) (xOD xP : Option Addr) (xOn xOq xpn xpq : Nat) (lx : List UInt8) (px : List Int) (w : World) [hk : Tb w] (n0 : -9223372036854775808 ≤ xn) (n1 : xn ≤ 9223372036854775807) (m0 : -9223372036854775808 ≤ xm) (m1 : xm ≤ 9223372036854775807) : Calls Tryz.prog 42 #[(Value.agg #[.int .i64 8, .int .i64 xn, .int .i64 xm, .int .i64 xOk, .int .u64 xOv, .int .u64 xOt, .int .i64 xOs, .int .i64 xOa, .int .i64 xOc, .slice xOD xOn xOq, .bool false, .slice xP xpn xpq])] w fun e w' => e = .returned (.string ⟨(Lib.join (([⟨#[100, 101, 103, 114, 97, 100, 101]⟩, ⟨(Lib.itoa xn).toArray⟩] : List ByteArray).map (·.data.toList)) [32]).toArray⟩) ∧ Gr w w' := by
 have en : actPartsB 8 = ⟨#[100]⟩ := rfl
 go_enter Tryz.func42, Tryz.ntmps42
 go_upto_region 1 with fail
 go_cut [3] (fun v wx => (∃ b : Nat, v = .slice (some ⟨b, 0, none⟩) 1 1 ∧ w.heap.size + 1 ≤ b ∧ b < wx.heap.size ∧ OwnS (w.heap.size + 1) wx v [⟨#[100, 101, 103, 114, 97, 100, 101]⟩]) ∧ Below w.heap.size w wx ∧ From w wx ∧ Tb wx ∧ (wx.cell? ⟨w.heap.size, 0, none⟩ = some (.int .i64 8) ∧ wx.cell? ⟨w.heap.size, 1, none⟩ = some (.int .i64 xn) ∧ wx.cell? ⟨w.heap.size, 2, none⟩ = some (.int .i64 xm) ∧ wx.cell? ⟨w.heap.size, 3, none⟩ = some (.int .i64 xOk) ∧ wx.cell? ⟨w.heap.size, 4, none⟩ = some (.int .u64 xOv) ∧ wx.cell? ⟨w.heap.size, 5, none⟩ = some (.int .u64 xOt) ∧ wx.cell? ⟨w.heap.size, 6, none⟩ = some (.int .i64 xOs) ∧ wx.cell? ⟨w.heap.size, 7, none⟩ = some (.int .i64 xOa) ∧ wx.cell? ⟨w.heap.size, 8, none⟩ = some (.int .i64 xOc) ∧ wx.cell? ⟨w.heap.size, 9, none⟩ = some (.slice xOD xOn xOq) ∧ wx.cell? ⟨w.heap.size, 10, none⟩ = some (.bool false) ∧ wx.cell? ⟨w.heap.size, 11, none⟩ = some (.slice xP xpn xpq)))
 case first =>
  go_region_with ((go_at_call 51; refine (actWords_any _).mono ?_; rintro e w' ⟨rfl, rfl⟩))
  all_goals
   go_wp2_with fail
   go_meet
   case rel =>
    refine ⟨?_, (gri : Gr w _).below, inferInstance, inferInstance, by simp [go_sem], by simp [go_sem], by simp [go_sem], by simp [go_sem], by simp [go_sem], by simp [go_sem], by simp [go_sem], by simp [go_sem], by simp [go_sem], by simp [go_sem], by simp [go_sem], by simp [go_sem]⟩
    refine ⟨_, rfl, by omega, (inferInstance : Old _ _).lt, ?_⟩
    first
     | exact OwnS.new _ _ _ (by omega)
     | exact (OwnS.new _ _ _ (by omega)).drew_
 case rest =>
  obtain ⟨⟨b0, rfl, hb0, hb1, hown⟩, hbw, hfr, htb, c0, c1, c2, c3, c4, c5, c6, c7, c8, c9, c10, c11⟩ := hcut
  have hle6 : 6 ≤ w.heap.size + 1 := Nat.le_succ_of_le hk.size
  haveI io : Old w.heap.size wc := old_of_cell c0
  haveI ib : Old b0 wc := ⟨hb1⟩
  go_wp2_with (go_at_call 52; ((with_reducible refine (actPartsB_any _ _).mono ?_); rintro _ _ ⟨rfl, g, rfl⟩))
  refine wp_loop_rounds 2 ?_
  rw [rounds_succ]
  go_wp2_with (go_at_call 87; ((with_reducible refine (itoa_any _ n0 n1 _).mono ?_)))
  rintro _ _ ⟨rfl, g0, rfl⟩
  go_wp2_with (at_builtin; refine wp_append_str rfl _ _ rfl (w.heap.size + 1) ?vv0 ([⟨#[100, 101, 103, 114, 97, 100, 101]⟩] : List ByteArray) ?hs0 ?own0 _ ⟨(Lib.itoa xn).toArray⟩ rfl ?hc0 (by simp) ?hb0 ?_)
  case own0 => (with_reducible repeat (first | exact hown | refine OwnS.alloc_ ?_ _ | refine OwnS.grown_ ?_ _ | refine OwnS.iter_ ?_ _ _ _ | refine OwnS.drew_ ?_))
  case hs0 => rfl
  case hc0 => simp [go_sem]
  case hb0 => exact Nat.succ_le_of_lt (inferInstance : Old w.heap.size _).lt
  intro v0 w0 a0
  haveI : Tb w0 := a0.tb hle6
  haveI : From w w0 := a0.from_ w
  haveI : Old w.heap.size w0 := a0.old _
  haveI : IterAt w0 (grown wc g).heap.size ⟨#[100]⟩ 1 := a0.iter _ _ _ inferInstance
  have c0 := a0.cell (Nat.lt_succ_self w.heap.size) (show World.cell? _ ⟨w.heap.size, 0, none⟩ = some (.int .i64 8) by simp [go_sem, c0])
  have c1 := a0.cell (Nat.lt_succ_self w.heap.size) (show World.cell? _ ⟨w.heap.size, 1, none⟩ = some (.int .i64 xn) by simp [go_sem, c1])
  have c2 := a0.cell (Nat.lt_succ_self w.heap.size) (show World.cell? _ ⟨w.heap.size, 2, none⟩ = some (.int .i64 xm) by simp [go_sem, c2])
  have c3 := a0.cell (Nat.lt_succ_self w.heap.size) (show World.cell? _ ⟨w.heap.size, 3, none⟩ = some (.int .i64 xOk) by simp [go_sem, c3])
  have c4 := a0.cell (Nat.lt_succ_self w.heap.size) (show World.cell? _ ⟨w.heap.size, 4, none⟩ = some (.int .u64 xOv) by simp [go_sem, c4])
  have c5 := a0.cell (Nat.lt_succ_self w.heap.size) (show World.cell? _ ⟨w.heap.size, 5, none⟩ = some (.int .u64 xOt) by simp [go_sem, c5])
  have c6 := a0.cell (Nat.lt_succ_self w.heap.size) (show World.cell? _ ⟨w.heap.size, 6, none⟩ = some (.int .i64 xOs) by simp [go_sem, c6])
  have c7 := a0.cell (Nat.lt_succ_self w.heap.size) (show World.cell? _ ⟨w.heap.size, 7, none⟩ = some (.int .i64 xOa) by simp [go_sem, c7])
  have c8 := a0.cell (Nat.lt_succ_self w.heap.size) (show World.cell? _ ⟨w.heap.size, 8, none⟩ = some (.int .i64 xOc) by simp [go_sem, c8])
  have c9 := a0.cell (Nat.lt_succ_self w.heap.size) (show World.cell? _ ⟨w.heap.size, 9, none⟩ = some (.slice xOD xOn xOq) by simp [go_sem, c9])
  have c10 := a0.cell (Nat.lt_succ_self w.heap.size) (show World.cell? _ ⟨w.heap.size, 10, none⟩ = some (.bool false) by simp [go_sem, c10])
  have c11 := a0.cell (Nat.lt_succ_self w.heap.size) (show World.cell? _ ⟨w.heap.size, 11, none⟩ = some (.slice xP xpn xpq) by simp [go_sem, c11])
  have hown := a0.own
  have hbw := a0.chain (a := w) (by ((with_reducible repeat (first | exact hbw | exact Below.refl _ _ | apply below_alloc | refine below_set' ?_ _ | refine below_trans ?_ (grown_below _ _) | refine below_iter' ?_ _ _ | apply Below.drew)))) (Nat.le_succ _)
  clear a0
  simp only [List.cons_append, List.nil_append] at hown
  go_wp2
  obtain ⟨VA, vc, hv, hvc, hrow⟩ := hown.form
  have hv2 : v0 = .slice VA 2 vc := hv
  clear hv
  subst hv2
  have hvc2 : 2 ≤ vc := hvc
  clear hvc
  have hJ : (Lib.join (([⟨#[100, 101, 103, 114, 97, 100, 101]⟩, ⟨(Lib.itoa xn).toArray⟩] : List ByteArray).map (·.data.toList)) [32]).length ≤ 140737488355328 := by
   refine Nat.le_trans (join_len [32] rfl 2000000 _ ?_) (by simp)
   intro x hx
   simp only [List.map_cons, List.map_nil, List.mem_cons, List.mem_nil_iff, or_false] at hx
   rcases hx with rfl | rfl
   ·simp
   ·have := itoa_len _ n0 n1; simp; omega
  have HJ := Lib.hid hJ; clear hJ
  have HROW := Lib.hid hrow; clear hrow hown
  have HLN : Hid (([⟨#[100, 101, 103, 114, 97, 100, 101]⟩, ⟨(Lib.itoa xn).toArray⟩] : List ByteArray).length = 2) := Lib.hid rfl
  rw [rounds_succ]
  go_wp2_with (go_at_call 89; ((with_reducible refine (join_any _ _ _ ([⟨#[100, 101, 103, 114, 97, 100, 101]⟩, ⟨(Lib.itoa xn).toArray⟩] : List ByteArray) ⟨#[32]⟩ _ HLN.out hvc2 HJ.out (by omega) (HROW.out.gr (gri))).mono ?_); rintro _ _ ⟨rfl, gz, rfl⟩))
  go_ret
  exact ⟨rfl, Gr.of (by ((with_reducible repeat (first | exact hbw | exact Below.refl _ _ | apply below_alloc | refine below_set' ?_ _ | refine below_trans ?_ (grown_below _ _) | refine below_iter' ?_ _ _ | apply Below.drew))))⟩
set_option maxRecDepth 100000 in
set_option maxHeartbeats 8000000 in
theorem actText_9 (xn xm xOk xOv xOt xOs xOa xOc : Int) (xOD xP : Option Addr) (xOn xOq xpn xpq : Nat) (lx : List UInt8) (px : List Int) (w : World) [hk : Tb w] (n0 : -9223372036854775808 ≤ xn) (n1 : xn ≤ 9223372036854775807) (m0 : -9223372036854775808 ≤ xm) (m1 : xm ≤ 9223372036854775807) : Calls Tryz.prog 42 #[(Value.agg #[.int .i64 9, .int .i64 xn, .int .i64 xm, .int .i64 xOk, .int .u64 xOv, .int .u64 xOt, .int .i64 xOs, .int .i64 xOa, .int .i64 xOc, .slice xOD xOn xOq, .bool false, .slice xP xpn xpq])] w fun e w' => e = .returned (.string ⟨(Lib.join (([⟨#[103, 114, 111, 119]⟩, ⟨(Lib.itoa xn).toArray⟩, ⟨(Lib.itoa xm).toArray⟩] : List ByteArray).map (·.data.toList)) [32]).toArray⟩) ∧ Gr w w' := by
 have en : actPartsB 9 = ⟨#[100, 110]⟩ := rfl
 go_enter Tryz.func42, Tryz.ntmps42
 go_upto_region 1 with fail
 go_cut [3] (fun v wx => (∃ b : Nat, v = .slice (some ⟨b, 0, none⟩) 1 1 ∧ w.heap.size + 1 ≤ b ∧ b < wx.heap.size ∧ OwnS (w.heap.size + 1) wx v [⟨#[103, 114, 111, 119]⟩]) ∧ Below w.heap.size w wx ∧ From w wx ∧ Tb wx ∧ (wx.cell? ⟨w.heap.size, 0, none⟩ = some (.int .i64 9) ∧ wx.cell? ⟨w.heap.size, 1, none⟩ = some (.int .i64 xn) ∧ wx.cell? ⟨w.heap.size, 2, none⟩ = some (.int .i64 xm) ∧ wx.cell? ⟨w.heap.size, 3, none⟩ = some (.int .i64 xOk) ∧ wx.cell? ⟨w.heap.size, 4, none⟩ = some (.int .u64 xOv) ∧ wx.cell? ⟨w.heap.size, 5, none⟩ = some (.int .u64 xOt) ∧ wx.cell? ⟨w.heap.size, 6, none⟩ = some (.int .i64 xOs) ∧ wx.cell? ⟨w.heap.size, 7, none⟩ = some (.int .i64 xOa) ∧ wx.cell? ⟨w.heap.size, 8, none⟩ = some (.int .i64 xOc) ∧ wx.cell? ⟨w.heap.size, 9, none⟩ = some (.slice xOD xOn xOq) ∧ wx.cell? ⟨w.heap.size, 10, none⟩ = some (.bool false) ∧ wx.cell? ⟨w.heap.size, 11, none⟩ = some (.slice xP xpn xpq)))
 case first =>
  go_region_with ((go_at_call 51; refine (actWords_any _).mono ?_; rintro e w' ⟨rfl, rfl⟩))
  all_goals
   go_wp2_with fail
   go_meet
   case rel =>
    refine ⟨?_, (gri : Gr w _).below, inferInstance, inferInstance, by simp [go_sem], by simp [go_sem], by simp [go_sem], by simp [go_sem], by simp [go_sem], by simp [go_sem], by simp [go_sem], by simp [go_sem], by simp [go_sem], by simp [go_sem], by simp [go_sem], by simp [go_sem]⟩
    refine ⟨_, rfl, by omega, (inferInstance : Old _ _).lt, ?_⟩
    first
     | exact OwnS.new _ _ _ (by omega)
     | exact (OwnS.new _ _ _ (by omega)).drew_
 case rest =>
  obtain ⟨⟨b0, rfl, hb0, hb1, hown⟩, hbw, hfr, htb, c0, c1, c2, c3, c4, c5, c6, c7, c8, c9, c10, c11⟩ := hcut
  have hle6 : 6 ≤ w.heap.size + 1 := Nat.le_succ_of_le hk.size
  haveI io : Old w.heap.size wc := old_of_cell c0
  haveI ib : Old b0 wc := ⟨hb1⟩
  go_wp2_with (go_at_call 52; ((with_reducible refine (actPartsB_any _ _).mono ?_); rintro _ _ ⟨rfl, g, rfl⟩))
  refine wp_loop_rounds 3 ?_
  rw [rounds_succ]
  go_wp2_with (go_at_call 87; ((with_reducible refine (itoa_any _ n0 n1 _).mono ?_)))
  rintro _ _ ⟨rfl, g0, rfl⟩
  go_wp2_with (at_builtin; refine wp_append_str rfl _ _ rfl (w.heap.size + 1) ?vv0 ([⟨#[103, 114, 111, 119]⟩] : List ByteArray) ?hs0 ?own0 _ ⟨(Lib.itoa xn).toArray⟩ rfl ?hc0 (by simp) ?hb0 ?_)
  case own0 => (with_reducible repeat (first | exact hown | refine OwnS.alloc_ ?_ _ | refine OwnS.grown_ ?_ _ | refine OwnS.iter_ ?_ _ _ _ | refine OwnS.drew_ ?_))
  case hs0 => rfl
  case hc0 => simp [go_sem]
  case hb0 => exact Nat.succ_le_of_lt (inferInstance : Old w.heap.size _).lt
  intro v0 w0 a0
  haveI : Tb w0 := a0.tb hle6
  haveI : From w w0 := a0.from_ w
  haveI : Old w.heap.size w0 := a0.old _
  haveI : IterAt w0 (grown wc g).heap.size ⟨#[100, 110]⟩ 1 := a0.iter _ _ _ inferInstance
  have c0 := a0.cell (Nat.lt_succ_self w.heap.size) (show World.cell? _ ⟨w.heap.size, 0, none⟩ = some (.int .i64 9) by simp [go_sem, c0])
  have c1 := a0.cell (Nat.lt_succ_self w.heap.size) (show World.cell? _ ⟨w.heap.size, 1, none⟩ = some (.int .i64 xn) by simp [go_sem, c1])
  have c2 := a0.cell (Nat.lt_succ_self w.heap.size) (show World.cell? _ ⟨w.heap.size, 2, none⟩ = some (.int .i64 xm) by simp [go_sem, c2])
  have c3 := a0.cell (Nat.lt_succ_self w.heap.size) (show World.cell? _ ⟨w.heap.size, 3, none⟩ = some (.int .i64 xOk) by simp [go_sem, c3])
  have c4 := a0.cell (Nat.lt_succ_self w.heap.size) (show World.cell? _ ⟨w.heap.size, 4, none⟩ = some (.int .u64 xOv) by simp [go_sem, c4])
  have c5 := a0.cell (Nat.lt_succ_self w.heap.size) (show World.cell? _ ⟨w.heap.size, 5, none⟩ = some (.int .u64 xOt) by simp [go_sem, c5])
  have c6 := a0.cell (Nat.lt_succ_self w.heap.size) (show World.cell? _ ⟨w.heap.size, 6, none⟩ = some (.int .i64 xOs) by simp [go_sem, c6])
  have c7 := a0.cell (Nat.lt_succ_self w.heap.size) (show World.cell? _ ⟨w.heap.size, 7, none⟩ = some (.int .i64 xOa) by simp [go_sem, c7])
  have c8 := a0.cell (Nat.lt_succ_self w.heap.size) (show World.cell? _ ⟨w.heap.size, 8, none⟩ = some (.int .i64 xOc) by simp [go_sem, c8])
  have c9 := a0.cell (Nat.lt_succ_self w.heap.size) (show World.cell? _ ⟨w.heap.size, 9, none⟩ = some (.slice xOD xOn xOq) by simp [go_sem, c9])
  have c10 := a0.cell (Nat.lt_succ_self w.heap.size) (show World.cell? _ ⟨w.heap.size, 10, none⟩ = some (.bool false) by simp [go_sem, c10])
  have c11 := a0.cell (Nat.lt_succ_self w.heap.size) (show World.cell? _ ⟨w.heap.size, 11, none⟩ = some (.slice xP xpn xpq) by simp [go_sem, c11])
  have hown := a0.own
  have hbw := a0.chain (a := w) (by ((with_reducible repeat (first | exact hbw | exact Below.refl _ _ | apply below_alloc | refine below_set' ?_ _ | refine below_trans ?_ (grown_below _ _) | refine below_iter' ?_ _ _ | apply Below.drew)))) (Nat.le_succ _)
  clear a0
  simp only [List.cons_append, List.nil_append] at hown
  go_wp2
  rw [rounds_succ]
  go_wp2_with (go_at_call 87; ((with_reducible refine (itoa_any _ m0 m1 _).mono ?_)))
  rintro _ _ ⟨rfl, g1, rfl⟩
  go_wp2_with (at_builtin; refine wp_append_str rfl _ _ rfl (w.heap.size + 1) ?vv1 ([⟨#[103, 114, 111, 119]⟩, ⟨(Lib.itoa xn).toArray⟩] : List ByteArray) ?hs1 ?own1 _ ⟨(Lib.itoa xm).toArray⟩ rfl ?hc1 (by simp) ?hb1 ?_)
  case own1 => (with_reducible repeat (first | exact hown | refine OwnS.alloc_ ?_ _ | refine OwnS.grown_ ?_ _ | refine OwnS.iter_ ?_ _ _ _ | refine OwnS.drew_ ?_))
  case hs1 => rfl
  case hc1 => simp [go_sem]
  case hb1 => exact Nat.succ_le_of_lt (inferInstance : Old w.heap.size _).lt
  intro v1 w1 a1
  haveI : Tb w1 := a1.tb hle6
  haveI : From w w1 := a1.from_ w
  haveI : Old w.heap.size w1 := a1.old _
  haveI : IterAt w1 (grown wc g).heap.size ⟨#[100, 110]⟩ 2 := a1.iter _ _ _ inferInstance
  have c0 := a1.cell (Nat.lt_succ_self w.heap.size) (show World.cell? _ ⟨w.heap.size, 0, none⟩ = some (.int .i64 9) by simp [go_sem, c0])
  have c1 := a1.cell (Nat.lt_succ_self w.heap.size) (show World.cell? _ ⟨w.heap.size, 1, none⟩ = some (.int .i64 xn) by simp [go_sem, c1])
  have c2 := a1.cell (Nat.lt_succ_self w.heap.size) (show World.cell? _ ⟨w.heap.size, 2, none⟩ = some (.int .i64 xm) by simp [go_sem, c2])
  have c3 := a1.cell (Nat.lt_succ_self w.heap.size) (show World.cell? _ ⟨w.heap.size, 3, none⟩ = some (.int .i64 xOk) by simp [go_sem, c3])
  have c4 := a1.cell (Nat.lt_succ_self w.heap.size) (show World.cell? _ ⟨w.heap.size, 4, none⟩ = some (.int .u64 xOv) by simp [go_sem, c4])
  have c5 := a1.cell (Nat.lt_succ_self w.heap.size) (show World.cell? _ ⟨w.heap.size, 5, none⟩ = some (.int .u64 xOt) by simp [go_sem, c5])
  have c6 := a1.cell (Nat.lt_succ_self w.heap.size) (show World.cell? _ ⟨w.heap.size, 6, none⟩ = some (.int .i64 xOs) by simp [go_sem, c6])
  have c7 := a1.cell (Nat.lt_succ_self w.heap.size) (show World.cell? _ ⟨w.heap.size, 7, none⟩ = some (.int .i64 xOa) by simp [go_sem, c7])
  have c8 := a1.cell (Nat.lt_succ_self w.heap.size) (show World.cell? _ ⟨w.heap.size, 8, none⟩ = some (.int .i64 xOc) by simp [go_sem, c8])
  have c9 := a1.cell (Nat.lt_succ_self w.heap.size) (show World.cell? _ ⟨w.heap.size, 9, none⟩ = some (.slice xOD xOn xOq) by simp [go_sem, c9])
  have c10 := a1.cell (Nat.lt_succ_self w.heap.size) (show World.cell? _ ⟨w.heap.size, 10, none⟩ = some (.bool false) by simp [go_sem, c10])
  have c11 := a1.cell (Nat.lt_succ_self w.heap.size) (show World.cell? _ ⟨w.heap.size, 11, none⟩ = some (.slice xP xpn xpq) by simp [go_sem, c11])
  have hown := a1.own
  have hbw := a1.chain (a := w) (by ((with_reducible repeat (first | exact hbw | exact Below.refl _ _ | apply below_alloc | refine below_set' ?_ _ | refine below_trans ?_ (grown_below _ _) | refine below_iter' ?_ _ _ | apply Below.drew)))) (Nat.le_succ _)
  clear a1
  simp only [List.cons_append, List.nil_append] at hown
  go_wp2
  obtain ⟨VA, vc, hv, hvc, hrow⟩ := hown.form
  have hv2 : v1 = .slice VA 3 vc := hv
  clear hv
  subst hv2
  have hvc2 : 3 ≤ vc := hvc
  clear hvc
  have hJ : (Lib.join (([⟨#[103, 114, 111, 119]⟩, ⟨(Lib.itoa xn).toArray⟩, ⟨(Lib.itoa xm).toArray⟩] : List ByteArray).map (·.data.toList)) [32]).length ≤ 140737488355328 := by
   refine Nat.le_trans (join_len [32] rfl 2000000 _ ?_) (by simp)
   intro x hx
   simp only [List.map_cons, List.map_nil, List.mem_cons, List.mem_nil_iff, or_false] at hx
   rcases hx with rfl | rfl | rfl
   ·simp
   ·have := itoa_len _ n0 n1; simp; omega
   ·have := itoa_len _ m0 m1; simp; omega
  have HJ := Lib.hid hJ; clear hJ
  have HROW := Lib.hid hrow; clear hrow hown
  have HLN : Hid (([⟨#[103, 114, 111, 119]⟩, ⟨(Lib.itoa xn).toArray⟩, ⟨(Lib.itoa xm).toArray⟩] : List ByteArray).length = 3) := Lib.hid rfl
  rw [rounds_succ]
  go_wp2_with (go_at_call 89; ((with_reducible refine (join_any _ _ _ ([⟨#[103, 114, 111, 119]⟩, ⟨(Lib.itoa xn).toArray⟩, ⟨(Lib.itoa xm).toArray⟩] : List ByteArray) ⟨#[32]⟩ _ HLN.out hvc2 HJ.out (by omega) (HROW.out.gr (gri))).mono ?_); rintro _ _ ⟨rfl, gz, rfl⟩))
  go_ret
  exact ⟨rfl, Gr.of (by ((with_reducible repeat (first | exact hbw | exact Below.refl _ _ | apply below_alloc | refine below_set' ?_ _ | refine below_trans ?_ (grown_below _ _) | refine below_iter' ?_ _ _ | apply Below.drew))))⟩
set_option maxRecDepth 100000 in
set_option maxHeartbeats 8000000 in
theorem actText_10 (xn xm xOk xOv xOt xOs xOa xOc : Int) (xOD xP : Option Addr) (xOn xOq xpn xpq : Nat) (lx : List UInt8) (px : List Int) (w : World) [hk : Tb w] (n0 : -9223372036854775808 ≤ xn) (n1 : xn ≤ 9223372036854775807) (m0 : -9223372036854775808 ≤ xm) (m1 : xm ≤ 9223372036854775807) : Calls Tryz.prog 42 #[(Value.agg #[.int .i64 10, .int .i64 xn, .int .i64 xm, .int .i64 xOk, .int .u64 xOv, .int .u64 xOt, .int .i64 xOs, .int .i64 xOa, .int .i64 xOc, .slice xOD xOn xOq, .bool false, .slice xP xpn xpq])] w fun e w' => e = .returned (.string ⟨(Lib.join (([⟨#[97, 108, 108]⟩] : List ByteArray).map (·.data.toList)) [32]).toArray⟩) ∧ Gr w w' := by
 have en : actPartsB 10 = ⟨#[]⟩ := rfl
 go_enter Tryz.func42, Tryz.ntmps42
 go_upto_region 1 with fail
 go_cut [3] (fun v wx => (∃ b : Nat, v = .slice (some ⟨b, 0, none⟩) 1 1 ∧ w.heap.size + 1 ≤ b ∧ b < wx.heap.size ∧ OwnS (w.heap.size + 1) wx v [⟨#[97, 108, 108]⟩]) ∧ Below w.heap.size w wx ∧ From w wx ∧ Tb wx ∧ (wx.cell? ⟨w.heap.size, 0, none⟩ = some (.int .i64 10) ∧ wx.cell? ⟨w.heap.size, 1, none⟩ = some (.int .i64 xn) ∧ wx.cell? ⟨w.heap.size, 2, none⟩ = some (.int .i64 xm) ∧ wx.cell? ⟨w.heap.size, 3, none⟩ = some (.int .i64 xOk) ∧ wx.cell? ⟨w.heap.size, 4, none⟩ = some (.int .u64 xOv) ∧ wx.cell? ⟨w.heap.size, 5, none⟩ = some (.int .u64 xOt) ∧ wx.cell? ⟨w.heap.size, 6, none⟩ = some (.int .i64 xOs) ∧ wx.cell? ⟨w.heap.size, 7, none⟩ = some (.int .i64 xOa) ∧ wx.cell? ⟨w.heap.size, 8, none⟩ = some (.int .i64 xOc) ∧ wx.cell? ⟨w.heap.size, 9, none⟩ = some (.slice xOD xOn xOq) ∧ wx.cell? ⟨w.heap.size, 10, none⟩ = some (.bool false) ∧ wx.cell? ⟨w.heap.size, 11, none⟩ = some (.slice xP xpn xpq)))
 case first =>
  go_region_with ((go_at_call 51; refine (actWords_any _).mono ?_; rintro e w' ⟨rfl, rfl⟩))
  all_goals
   go_wp2_with fail
   go_meet
   case rel =>
    refine ⟨?_, (gri : Gr w _).below, inferInstance, inferInstance, by simp [go_sem], by simp [go_sem], by simp [go_sem], by simp [go_sem], by simp [go_sem], by simp [go_sem], by simp [go_sem], by simp [go_sem], by simp [go_sem], by simp [go_sem], by simp [go_sem], by simp [go_sem]⟩
    refine ⟨_, rfl, by omega, (inferInstance : Old _ _).lt, ?_⟩
    first
     | exact OwnS.new _ _ _ (by omega)
     | exact (OwnS.new _ _ _ (by omega)).drew_
 case rest =>
  obtain ⟨⟨b0, rfl, hb0, hb1, hown⟩, hbw, hfr, htb, c0, c1, c2, c3, c4, c5, c6, c7, c8, c9, c10, c11⟩ := hcut
  have hle6 : 6 ≤ w.heap.size + 1 := Nat.le_succ_of_le hk.size
  haveI io : Old w.heap.size wc := old_of_cell c0
  haveI ib : Old b0 wc := ⟨hb1⟩
  go_wp2_with (go_at_call 52; ((with_reducible refine (actPartsB_any _ _).mono ?_); rintro _ _ ⟨rfl, g, rfl⟩))
  refine wp_loop_rounds 1 ?_
  obtain ⟨VA, vc, hv, hvc, hrow⟩ := hown.form
  obtain ⟨rfl, rfl⟩ : VA = some ⟨b0, 0, none⟩ ∧ vc = 1 := by simp only [Value.slice.injEq] at hv; exact ⟨hv.1.symm, hv.2.2.symm⟩
  clear hv
  have hvc2 : 1 ≤ 1 := hvc
  clear hvc
  have hJ : (Lib.join (([⟨#[97, 108, 108]⟩] : List ByteArray).map (·.data.toList)) [32]).length ≤ 140737488355328 := by
   refine Nat.le_trans (join_len [32] rfl 2000000 _ ?_) (by simp)
   intro x hx
   simp only [List.map_cons, List.map_nil, List.mem_cons, List.mem_nil_iff, or_false] at hx
   rcases hx with rfl
   ·simp
  have HJ := Lib.hid hJ; clear hJ
  have HROW := Lib.hid hrow; clear hrow hown
  have HLN : Hid (([⟨#[97, 108, 108]⟩] : List ByteArray).length = 1) := Lib.hid rfl
  rw [rounds_succ]
  go_wp2_with (go_at_call 89; ((with_reducible refine (join_any _ _ _ ([⟨#[97, 108, 108]⟩] : List ByteArray) ⟨#[32]⟩ _ HLN.out hvc2 HJ.out (by omega) (HROW.out.gr (gri))).mono ?_); rintro _ _ ⟨rfl, gz, rfl⟩))
  go_ret
  exact ⟨rfl, Gr.of (by ((with_reducible repeat (first | exact hbw | exact Below.refl _ _ | apply below_alloc | refine below_set' ?_ _ | refine below_trans ?_ (grown_below _ _) | refine below_iter' ?_ _ _ | apply Below.drew))))⟩
def mayOpB (xk xv xt xs xa xc : Int) (xn : Nat) (lx : List UInt8) : Bool :=
 if xk = 1 then wVol xv && wSize xs && (xt == 0) && (xa == 0) && (xc == 0) && (lx == []) else if xk = 2 then wVol xv && (xt == 0) && (xs == 0) && (xa == 0) && (xc == 0) && (lx == []) else if xk = 3 then wVol xv && wSize xs && (xt == 0) && (xa == 0) && (xc == 0) && (lx == []) else if xk = 4 then wVol xv && wTo xt xv && (xs == 0) && (xa == 0) && (xc == 0) && (lx == []) else if xk = 5 then wVol xv && wAt xa && wData xn && (xt == 0) && (xs == 0) && (xc == 0) else if xk = 6 then wVol xv && wAt xa && wCount xc && (xt == 0) && (xs == 0) && (lx == []) else if xk = 7 then wVol xv && wAt xa && wCount xc && (xt == 0) && (xs == 0) && (lx == []) else if xk = 8 then (xv == 0) && (xt == 0) && (xs == 0) && (xa == 0) && (xc == 0) && (lx == []) else if xk = 9 then wVol xv && wAt xa && wCount xc && (xt == 0) && (xs == 0) && (lx == []) else false
set_option maxHeartbeats 2000000 in
theorem mayOp_1 (xv xt xs xa xc : Int) (xD : Option Addr) (xn xq : Nat) (lx : List UInt8) (w : World) (hx : lx.length = xn) (hn : xn ≤ 9223372036854775807) (h1 : Row bv w xD lx) : Calls Tryz.prog 38 #[(Value.agg #[.int .i64 1, .int .u64 xv, .int .u64 xt, .int .i64 xs, .int .i64 xa, .int .i64 xc, .slice xD xn xq])] w fun e w' => e = .returned (.bool (mayOpB 1 xv xt xs xa xc xn lx)) ∧ Gr w w' := by
 have HX := Lib.hid hx; clear hx
 have en : namesB 1 = ⟨#[118, 115]⟩ := rfl
 have E0 : mayOpB 1 xv xt xs xa xc xn lx = (wVol xv && wSize xs && (xt == 0) && (xa == 0) && (xc == 0) && (lx == [])) := rfl
 rw [E0]; clear E0
 rcases Bool.eq_false_or_eq_true (wVol xv) with b0 | b0
 rotate_left
 ·go_enter Tryz.func38, Tryz.ntmps38
  iterate 2
   try first | rw [rounds_succ] | (refine wp_loop_rounds 1 ?_; rw [rounds_succ])
   go_wp2_with (((first | (go_at_call 84; with_reducible refine (namesB_any _ _).mono ?_) | (go_at_call 85; with_reducible refine (within_v _ _ _ _ _ _ _ _ _ _).mono ?_) | (go_at_call 85; with_reducible refine (within_s _ _ _ _ _ _ _ _ _ _).mono ?_) | (go_at_call 76; with_reducible refine (same13_any _ _ _ _ _ _ _ _ _ _ _ _ _ _ _ _ _ _ lx [] _ HX.out List.length_nil hn (h1.gr (gri)) Row.nil).mono ?_)); rintro _ _ ⟨rfl, g, rfl⟩))
  go_ret
  exact ⟨ret_bool (by simp [b0]), gri⟩
 rcases Bool.eq_false_or_eq_true (wSize xs) with b1 | b1
 rotate_left
 ·go_enter Tryz.func38, Tryz.ntmps38
  iterate 3
   try first | rw [rounds_succ] | (refine wp_loop_rounds 2 ?_; rw [rounds_succ])
   go_wp2_with (((first | (go_at_call 84; with_reducible refine (namesB_any _ _).mono ?_) | (go_at_call 85; with_reducible refine (within_v _ _ _ _ _ _ _ _ _ _).mono ?_) | (go_at_call 85; with_reducible refine (within_s _ _ _ _ _ _ _ _ _ _).mono ?_) | (go_at_call 76; with_reducible refine (same13_any _ _ _ _ _ _ _ _ _ _ _ _ _ _ _ _ _ _ lx [] _ HX.out List.length_nil hn (h1.gr (gri)) Row.nil).mono ?_)); rintro _ _ ⟨rfl, g, rfl⟩))
  go_ret
  exact ⟨ret_bool (by simp [b0, b1]), gri⟩
 go_enter Tryz.func38, Tryz.ntmps38
 iterate 4
  try first | rw [rounds_succ] | (refine wp_loop_rounds 3 ?_; rw [rounds_succ])
  go_wp2_with (((first | (go_at_call 84; with_reducible refine (namesB_any _ _).mono ?_) | (go_at_call 85; with_reducible refine (within_v _ _ _ _ _ _ _ _ _ _).mono ?_) | (go_at_call 85; with_reducible refine (within_s _ _ _ _ _ _ _ _ _ _).mono ?_) | (go_at_call 76; with_reducible refine (same13_any _ _ _ _ _ _ _ _ _ _ _ _ _ _ _ _ _ _ lx [] _ HX.out List.length_nil hn (h1.gr (gri)) Row.nil).mono ?_)); rintro _ _ ⟨rfl, g, rfl⟩))
 go_ret
 exact ⟨ret_bool (by simp [sameB, b0, b1, Bool.and_assoc]), gri⟩
set_option maxHeartbeats 2000000 in
theorem mayOp_2 (xv xt xs xa xc : Int) (xD : Option Addr) (xn xq : Nat) (lx : List UInt8) (w : World) (hx : lx.length = xn) (hn : xn ≤ 9223372036854775807) (h1 : Row bv w xD lx) : Calls Tryz.prog 38 #[(Value.agg #[.int .i64 2, .int .u64 xv, .int .u64 xt, .int .i64 xs, .int .i64 xa, .int .i64 xc, .slice xD xn xq])] w fun e w' => e = .returned (.bool (mayOpB 2 xv xt xs xa xc xn lx)) ∧ Gr w w' := by
 have HX := Lib.hid hx; clear hx
 have en : namesB 2 = ⟨#[118]⟩ := rfl
 have E0 : mayOpB 2 xv xt xs xa xc xn lx = (wVol xv && (xt == 0) && (xs == 0) && (xa == 0) && (xc == 0) && (lx == [])) := rfl
 rw [E0]; clear E0
 rcases Bool.eq_false_or_eq_true (wVol xv) with b0 | b0
 rotate_left
 ·go_enter Tryz.func38, Tryz.ntmps38
  iterate 2
   try first | rw [rounds_succ] | (refine wp_loop_rounds 1 ?_; rw [rounds_succ])
   go_wp2_with (((first | (go_at_call 84; with_reducible refine (namesB_any _ _).mono ?_) | (go_at_call 85; with_reducible refine (within_v _ _ _ _ _ _ _ _ _ _).mono ?_) | (go_at_call 76; with_reducible refine (same13_any _ _ _ _ _ _ _ _ _ _ _ _ _ _ _ _ _ _ lx [] _ HX.out List.length_nil hn (h1.gr (gri)) Row.nil).mono ?_)); rintro _ _ ⟨rfl, g, rfl⟩))
  go_ret
  exact ⟨ret_bool (by simp [b0]), gri⟩
 go_enter Tryz.func38, Tryz.ntmps38
 iterate 3
  try first | rw [rounds_succ] | (refine wp_loop_rounds 2 ?_; rw [rounds_succ])
  go_wp2_with (((first | (go_at_call 84; with_reducible refine (namesB_any _ _).mono ?_) | (go_at_call 85; with_reducible refine (within_v _ _ _ _ _ _ _ _ _ _).mono ?_) | (go_at_call 76; with_reducible refine (same13_any _ _ _ _ _ _ _ _ _ _ _ _ _ _ _ _ _ _ lx [] _ HX.out List.length_nil hn (h1.gr (gri)) Row.nil).mono ?_)); rintro _ _ ⟨rfl, g, rfl⟩))
 go_ret
 exact ⟨ret_bool (by simp [sameB, b0, Bool.and_assoc]), gri⟩
set_option maxHeartbeats 2000000 in
theorem mayOp_3 (xv xt xs xa xc : Int) (xD : Option Addr) (xn xq : Nat) (lx : List UInt8) (w : World) (hx : lx.length = xn) (hn : xn ≤ 9223372036854775807) (h1 : Row bv w xD lx) : Calls Tryz.prog 38 #[(Value.agg #[.int .i64 3, .int .u64 xv, .int .u64 xt, .int .i64 xs, .int .i64 xa, .int .i64 xc, .slice xD xn xq])] w fun e w' => e = .returned (.bool (mayOpB 3 xv xt xs xa xc xn lx)) ∧ Gr w w' := by
 have HX := Lib.hid hx; clear hx
 have en : namesB 3 = ⟨#[118, 115]⟩ := rfl
 have E0 : mayOpB 3 xv xt xs xa xc xn lx = (wVol xv && wSize xs && (xt == 0) && (xa == 0) && (xc == 0) && (lx == [])) := rfl
 rw [E0]; clear E0
 rcases Bool.eq_false_or_eq_true (wVol xv) with b0 | b0
 rotate_left
 ·go_enter Tryz.func38, Tryz.ntmps38
  iterate 2
   try first | rw [rounds_succ] | (refine wp_loop_rounds 1 ?_; rw [rounds_succ])
   go_wp2_with (((first | (go_at_call 84; with_reducible refine (namesB_any _ _).mono ?_) | (go_at_call 85; with_reducible refine (within_v _ _ _ _ _ _ _ _ _ _).mono ?_) | (go_at_call 85; with_reducible refine (within_s _ _ _ _ _ _ _ _ _ _).mono ?_) | (go_at_call 76; with_reducible refine (same13_any _ _ _ _ _ _ _ _ _ _ _ _ _ _ _ _ _ _ lx [] _ HX.out List.length_nil hn (h1.gr (gri)) Row.nil).mono ?_)); rintro _ _ ⟨rfl, g, rfl⟩))
  go_ret
  exact ⟨ret_bool (by simp [b0]), gri⟩
 rcases Bool.eq_false_or_eq_true (wSize xs) with b1 | b1
 rotate_left
 ·go_enter Tryz.func38, Tryz.ntmps38
  iterate 3
   try first | rw [rounds_succ] | (refine wp_loop_rounds 2 ?_; rw [rounds_succ])
   go_wp2_with (((first | (go_at_call 84; with_reducible refine (namesB_any _ _).mono ?_) | (go_at_call 85; with_reducible refine (within_v _ _ _ _ _ _ _ _ _ _).mono ?_) | (go_at_call 85; with_reducible refine (within_s _ _ _ _ _ _ _ _ _ _).mono ?_) | (go_at_call 76; with_reducible refine (same13_any _ _ _ _ _ _ _ _ _ _ _ _ _ _ _ _ _ _ lx [] _ HX.out List.length_nil hn (h1.gr (gri)) Row.nil).mono ?_)); rintro _ _ ⟨rfl, g, rfl⟩))
  go_ret
  exact ⟨ret_bool (by simp [b0, b1]), gri⟩
 go_enter Tryz.func38, Tryz.ntmps38
 iterate 4
  try first | rw [rounds_succ] | (refine wp_loop_rounds 3 ?_; rw [rounds_succ])
  go_wp2_with (((first | (go_at_call 84; with_reducible refine (namesB_any _ _).mono ?_) | (go_at_call 85; with_reducible refine (within_v _ _ _ _ _ _ _ _ _ _).mono ?_) | (go_at_call 85; with_reducible refine (within_s _ _ _ _ _ _ _ _ _ _).mono ?_) | (go_at_call 76; with_reducible refine (same13_any _ _ _ _ _ _ _ _ _ _ _ _ _ _ _ _ _ _ lx [] _ HX.out List.length_nil hn (h1.gr (gri)) Row.nil).mono ?_)); rintro _ _ ⟨rfl, g, rfl⟩))
 go_ret
 exact ⟨ret_bool (by simp [sameB, b0, b1, Bool.and_assoc]), gri⟩
set_option maxHeartbeats 2000000 in
theorem mayOp_4 (xv xt xs xa xc : Int) (xD : Option Addr) (xn xq : Nat) (lx : List UInt8) (w : World) (hx : lx.length = xn) (hn : xn ≤ 9223372036854775807) (h1 : Row bv w xD lx) : Calls Tryz.prog 38 #[(Value.agg #[.int .i64 4, .int .u64 xv, .int .u64 xt, .int .i64 xs, .int .i64 xa, .int .i64 xc, .slice xD xn xq])] w fun e w' => e = .returned (.bool (mayOpB 4 xv xt xs xa xc xn lx)) ∧ Gr w w' := by
 have HX := Lib.hid hx; clear hx
 have en : namesB 4 = ⟨#[118, 116]⟩ := rfl
 have E0 : mayOpB 4 xv xt xs xa xc xn lx = (wVol xv && wTo xt xv && (xs == 0) && (xa == 0) && (xc == 0) && (lx == [])) := rfl
 rw [E0]; clear E0
 rcases Bool.eq_false_or_eq_true (wVol xv) with b0 | b0
 rotate_left
 ·go_enter Tryz.func38, Tryz.ntmps38
  iterate 2
   try first | rw [rounds_succ] | (refine wp_loop_rounds 1 ?_; rw [rounds_succ])
   go_wp2_with (((first | (go_at_call 84; with_reducible refine (namesB_any _ _).mono ?_) | (go_at_call 85; with_reducible refine (within_v _ _ _ _ _ _ _ _ _ _).mono ?_) | (go_at_call 85; with_reducible refine (within_t _ _ _ _ _ _ _ _ _ _).mono ?_) | (go_at_call 76; with_reducible refine (same13_any _ _ _ _ _ _ _ _ _ _ _ _ _ _ _ _ _ _ lx [] _ HX.out List.length_nil hn (h1.gr (gri)) Row.nil).mono ?_)); rintro _ _ ⟨rfl, g, rfl⟩))
  go_ret
  exact ⟨ret_bool (by simp [b0]), gri⟩
 rcases Bool.eq_false_or_eq_true (wTo xt xv) with b1 | b1
 rotate_left
 ·go_enter Tryz.func38, Tryz.ntmps38
  iterate 3
   try first | rw [rounds_succ] | (refine wp_loop_rounds 2 ?_; rw [rounds_succ])
   go_wp2_with (((first | (go_at_call 84; with_reducible refine (namesB_any _ _).mono ?_) | (go_at_call 85; with_reducible refine (within_v _ _ _ _ _ _ _ _ _ _).mono ?_) | (go_at_call 85; with_reducible refine (within_t _ _ _ _ _ _ _ _ _ _).mono ?_) | (go_at_call 76; with_reducible refine (same13_any _ _ _ _ _ _ _ _ _ _ _ _ _ _ _ _ _ _ lx [] _ HX.out List.length_nil hn (h1.gr (gri)) Row.nil).mono ?_)); rintro _ _ ⟨rfl, g, rfl⟩))
  go_ret
  exact ⟨ret_bool (by simp [b0, b1]), gri⟩
 go_enter Tryz.func38, Tryz.ntmps38
 iterate 4
  try first | rw [rounds_succ] | (refine wp_loop_rounds 3 ?_; rw [rounds_succ])
  go_wp2_with (((first | (go_at_call 84; with_reducible refine (namesB_any _ _).mono ?_) | (go_at_call 85; with_reducible refine (within_v _ _ _ _ _ _ _ _ _ _).mono ?_) | (go_at_call 85; with_reducible refine (within_t _ _ _ _ _ _ _ _ _ _).mono ?_) | (go_at_call 76; with_reducible refine (same13_any _ _ _ _ _ _ _ _ _ _ _ _ _ _ _ _ _ _ lx [] _ HX.out List.length_nil hn (h1.gr (gri)) Row.nil).mono ?_)); rintro _ _ ⟨rfl, g, rfl⟩))
 go_ret
 exact ⟨ret_bool (by simp [sameB, b0, b1, Bool.and_assoc]), gri⟩
set_option maxHeartbeats 2000000 in
theorem mayOp_5 (xv xt xs xa xc : Int) (xD : Option Addr) (xn xq : Nat) (lx : List UInt8) (w : World) (hx : lx.length = xn) (hn : xn ≤ 9223372036854775807) (h1 : Row bv w xD lx) : Calls Tryz.prog 38 #[(Value.agg #[.int .i64 5, .int .u64 xv, .int .u64 xt, .int .i64 xs, .int .i64 xa, .int .i64 xc, .slice xD xn xq])] w fun e w' => e = .returned (.bool (mayOpB 5 xv xt xs xa xc xn lx)) ∧ Gr w w' := by
 have HX := Lib.hid hx; clear hx
 have en : namesB 5 = ⟨#[118, 97, 100]⟩ := rfl
 have E0 : mayOpB 5 xv xt xs xa xc xn lx = (wVol xv && wAt xa && wData xn && (xt == 0) && (xs == 0) && (xc == 0)) := rfl
 rw [E0]; clear E0
 rcases Bool.eq_false_or_eq_true (wVol xv) with b0 | b0
 rotate_left
 ·go_enter Tryz.func38, Tryz.ntmps38
  iterate 2
   try first | rw [rounds_succ] | (refine wp_loop_rounds 1 ?_; rw [rounds_succ])
   go_wp2_with (((first | (go_at_call 84; with_reducible refine (namesB_any _ _).mono ?_) | (go_at_call 85; with_reducible refine (within_v _ _ _ _ _ _ _ _ _ _).mono ?_) | (go_at_call 85; with_reducible refine (within_a _ _ _ _ _ _ _ _ _ _).mono ?_) | (go_at_call 85; with_reducible refine (within_d _ _ _ _ _ _ _ _ _ _).mono ?_) | (go_at_call 76; with_reducible refine (same13_any _ _ _ _ _ _ _ _ _ _ _ _ _ _ _ _ _ _ lx lx _ HX.out HX.out hn (h1.gr (gri)) (h1.gr (gri))).mono ?_)); rintro _ _ ⟨rfl, g, rfl⟩))
  go_ret
  exact ⟨ret_bool (by simp [b0]), gri⟩
 rcases Bool.eq_false_or_eq_true (wAt xa) with b1 | b1
 rotate_left
 ·go_enter Tryz.func38, Tryz.ntmps38
  iterate 3
   try first | rw [rounds_succ] | (refine wp_loop_rounds 2 ?_; rw [rounds_succ])
   go_wp2_with (((first | (go_at_call 84; with_reducible refine (namesB_any _ _).mono ?_) | (go_at_call 85; with_reducible refine (within_v _ _ _ _ _ _ _ _ _ _).mono ?_) | (go_at_call 85; with_reducible refine (within_a _ _ _ _ _ _ _ _ _ _).mono ?_) | (go_at_call 85; with_reducible refine (within_d _ _ _ _ _ _ _ _ _ _).mono ?_) | (go_at_call 76; with_reducible refine (same13_any _ _ _ _ _ _ _ _ _ _ _ _ _ _ _ _ _ _ lx lx _ HX.out HX.out hn (h1.gr (gri)) (h1.gr (gri))).mono ?_)); rintro _ _ ⟨rfl, g, rfl⟩))
  go_ret
  exact ⟨ret_bool (by simp [b0, b1]), gri⟩
 rcases Bool.eq_false_or_eq_true (wData xn) with b2 | b2
 rotate_left
 ·go_enter Tryz.func38, Tryz.ntmps38
  iterate 4
   try first | rw [rounds_succ] | (refine wp_loop_rounds 3 ?_; rw [rounds_succ])
   go_wp2_with (((first | (go_at_call 84; with_reducible refine (namesB_any _ _).mono ?_) | (go_at_call 85; with_reducible refine (within_v _ _ _ _ _ _ _ _ _ _).mono ?_) | (go_at_call 85; with_reducible refine (within_a _ _ _ _ _ _ _ _ _ _).mono ?_) | (go_at_call 85; with_reducible refine (within_d _ _ _ _ _ _ _ _ _ _).mono ?_) | (go_at_call 76; with_reducible refine (same13_any _ _ _ _ _ _ _ _ _ _ _ _ _ _ _ _ _ _ lx lx _ HX.out HX.out hn (h1.gr (gri)) (h1.gr (gri))).mono ?_)); rintro _ _ ⟨rfl, g, rfl⟩))
  go_ret
  exact ⟨ret_bool (by simp [b0, b1, b2]), gri⟩
 go_enter Tryz.func38, Tryz.ntmps38
 iterate 5
  try first | rw [rounds_succ] | (refine wp_loop_rounds 4 ?_; rw [rounds_succ])
  go_wp2_with (((first | (go_at_call 84; with_reducible refine (namesB_any _ _).mono ?_) | (go_at_call 85; with_reducible refine (within_v _ _ _ _ _ _ _ _ _ _).mono ?_) | (go_at_call 85; with_reducible refine (within_a _ _ _ _ _ _ _ _ _ _).mono ?_) | (go_at_call 85; with_reducible refine (within_d _ _ _ _ _ _ _ _ _ _).mono ?_) | (go_at_call 76; with_reducible refine (same13_any _ _ _ _ _ _ _ _ _ _ _ _ _ _ _ _ _ _ lx lx _ HX.out HX.out hn (h1.gr (gri)) (h1.gr (gri))).mono ?_)); rintro _ _ ⟨rfl, g, rfl⟩))
 go_ret
 exact ⟨ret_bool (by simp [sameB, b0, b1, b2, Bool.and_assoc]), gri⟩
set_option maxHeartbeats 2000000 in
theorem mayOp_6 (xv xt xs xa xc : Int) (xD : Option Addr) (xn xq : Nat) (lx : List UInt8) (w : World) (hx : lx.length = xn) (hn : xn ≤ 9223372036854775807) (h1 : Row bv w xD lx) : Calls Tryz.prog 38 #[(Value.agg #[.int .i64 6, .int .u64 xv, .int .u64 xt, .int .i64 xs, .int .i64 xa, .int .i64 xc, .slice xD xn xq])] w fun e w' => e = .returned (.bool (mayOpB 6 xv xt xs xa xc xn lx)) ∧ Gr w w' := by
 have HX := Lib.hid hx; clear hx
 have en : namesB 6 = ⟨#[118, 97, 99]⟩ := rfl
 have E0 : mayOpB 6 xv xt xs xa xc xn lx = (wVol xv && wAt xa && wCount xc && (xt == 0) && (xs == 0) && (lx == [])) := rfl
 rw [E0]; clear E0
 rcases Bool.eq_false_or_eq_true (wVol xv) with b0 | b0
 rotate_left
 ·go_enter Tryz.func38, Tryz.ntmps38
  iterate 2
   try first | rw [rounds_succ] | (refine wp_loop_rounds 1 ?_; rw [rounds_succ])
   go_wp2_with (((first | (go_at_call 84; with_reducible refine (namesB_any _ _).mono ?_) | (go_at_call 85; with_reducible refine (within_v _ _ _ _ _ _ _ _ _ _).mono ?_) | (go_at_call 85; with_reducible refine (within_a _ _ _ _ _ _ _ _ _ _).mono ?_) | (go_at_call 85; with_reducible refine (within_c _ _ _ _ _ _ _ _ _ _).mono ?_) | (go_at_call 76; with_reducible refine (same13_any _ _ _ _ _ _ _ _ _ _ _ _ _ _ _ _ _ _ lx [] _ HX.out List.length_nil hn (h1.gr (gri)) Row.nil).mono ?_)); rintro _ _ ⟨rfl, g, rfl⟩))
  go_ret
  exact ⟨ret_bool (by simp [b0]), gri⟩
 rcases Bool.eq_false_or_eq_true (wAt xa) with b1 | b1
 rotate_left
 ·go_enter Tryz.func38, Tryz.ntmps38
  iterate 3
   try first | rw [rounds_succ] | (refine wp_loop_rounds 2 ?_; rw [rounds_succ])
   go_wp2_with (((first | (go_at_call 84; with_reducible refine (namesB_any _ _).mono ?_) | (go_at_call 85; with_reducible refine (within_v _ _ _ _ _ _ _ _ _ _).mono ?_) | (go_at_call 85; with_reducible refine (within_a _ _ _ _ _ _ _ _ _ _).mono ?_) | (go_at_call 85; with_reducible refine (within_c _ _ _ _ _ _ _ _ _ _).mono ?_) | (go_at_call 76; with_reducible refine (same13_any _ _ _ _ _ _ _ _ _ _ _ _ _ _ _ _ _ _ lx [] _ HX.out List.length_nil hn (h1.gr (gri)) Row.nil).mono ?_)); rintro _ _ ⟨rfl, g, rfl⟩))
  go_ret
  exact ⟨ret_bool (by simp [b0, b1]), gri⟩
 rcases Bool.eq_false_or_eq_true (wCount xc) with b2 | b2
 rotate_left
 ·go_enter Tryz.func38, Tryz.ntmps38
  iterate 4
   try first | rw [rounds_succ] | (refine wp_loop_rounds 3 ?_; rw [rounds_succ])
   go_wp2_with (((first | (go_at_call 84; with_reducible refine (namesB_any _ _).mono ?_) | (go_at_call 85; with_reducible refine (within_v _ _ _ _ _ _ _ _ _ _).mono ?_) | (go_at_call 85; with_reducible refine (within_a _ _ _ _ _ _ _ _ _ _).mono ?_) | (go_at_call 85; with_reducible refine (within_c _ _ _ _ _ _ _ _ _ _).mono ?_) | (go_at_call 76; with_reducible refine (same13_any _ _ _ _ _ _ _ _ _ _ _ _ _ _ _ _ _ _ lx [] _ HX.out List.length_nil hn (h1.gr (gri)) Row.nil).mono ?_)); rintro _ _ ⟨rfl, g, rfl⟩))
  go_ret
  exact ⟨ret_bool (by simp [b0, b1, b2]), gri⟩
 go_enter Tryz.func38, Tryz.ntmps38
 iterate 5
  try first | rw [rounds_succ] | (refine wp_loop_rounds 4 ?_; rw [rounds_succ])
  go_wp2_with (((first | (go_at_call 84; with_reducible refine (namesB_any _ _).mono ?_) | (go_at_call 85; with_reducible refine (within_v _ _ _ _ _ _ _ _ _ _).mono ?_) | (go_at_call 85; with_reducible refine (within_a _ _ _ _ _ _ _ _ _ _).mono ?_) | (go_at_call 85; with_reducible refine (within_c _ _ _ _ _ _ _ _ _ _).mono ?_) | (go_at_call 76; with_reducible refine (same13_any _ _ _ _ _ _ _ _ _ _ _ _ _ _ _ _ _ _ lx [] _ HX.out List.length_nil hn (h1.gr (gri)) Row.nil).mono ?_)); rintro _ _ ⟨rfl, g, rfl⟩))
 go_ret
 exact ⟨ret_bool (by simp [sameB, b0, b1, b2, Bool.and_assoc]), gri⟩
set_option maxHeartbeats 2000000 in
theorem mayOp_7 (xv xt xs xa xc : Int) (xD : Option Addr) (xn xq : Nat) (lx : List UInt8) (w : World) (hx : lx.length = xn) (hn : xn ≤ 9223372036854775807) (h1 : Row bv w xD lx) : Calls Tryz.prog 38 #[(Value.agg #[.int .i64 7, .int .u64 xv, .int .u64 xt, .int .i64 xs, .int .i64 xa, .int .i64 xc, .slice xD xn xq])] w fun e w' => e = .returned (.bool (mayOpB 7 xv xt xs xa xc xn lx)) ∧ Gr w w' := by
 have HX := Lib.hid hx; clear hx
 have en : namesB 7 = ⟨#[118, 97, 99]⟩ := rfl
 have E0 : mayOpB 7 xv xt xs xa xc xn lx = (wVol xv && wAt xa && wCount xc && (xt == 0) && (xs == 0) && (lx == [])) := rfl
 rw [E0]; clear E0
 rcases Bool.eq_false_or_eq_true (wVol xv) with b0 | b0
 rotate_left
 ·go_enter Tryz.func38, Tryz.ntmps38
  iterate 2
   try first | rw [rounds_succ] | (refine wp_loop_rounds 1 ?_; rw [rounds_succ])
   go_wp2_with (((first | (go_at_call 84; with_reducible refine (namesB_any _ _).mono ?_) | (go_at_call 85; with_reducible refine (within_v _ _ _ _ _ _ _ _ _ _).mono ?_) | (go_at_call 85; with_reducible refine (within_a _ _ _ _ _ _ _ _ _ _).mono ?_) | (go_at_call 85; with_reducible refine (within_c _ _ _ _ _ _ _ _ _ _).mono ?_) | (go_at_call 76; with_reducible refine (same13_any _ _ _ _ _ _ _ _ _ _ _ _ _ _ _ _ _ _ lx [] _ HX.out List.length_nil hn (h1.gr (gri)) Row.nil).mono ?_)); rintro _ _ ⟨rfl, g, rfl⟩))
  go_ret
  exact ⟨ret_bool (by simp [b0]), gri⟩
 rcases Bool.eq_false_or_eq_true (wAt xa) with b1 | b1
 rotate_left
 ·go_enter Tryz.func38, Tryz.ntmps38
  iterate 3
   try first | rw [rounds_succ] | (refine wp_loop_rounds 2 ?_; rw [rounds_succ])
   go_wp2_with (((first | (go_at_call 84; with_reducible refine (namesB_any _ _).mono ?_) | (go_at_call 85; with_reducible refine (within_v _ _ _ _ _ _ _ _ _ _).mono ?_) | (go_at_call 85; with_reducible refine (within_a _ _ _ _ _ _ _ _ _ _).mono ?_) | (go_at_call 85; with_reducible refine (within_c _ _ _ _ _ _ _ _ _ _).mono ?_) | (go_at_call 76; with_reducible refine (same13_any _ _ _ _ _ _ _ _ _ _ _ _ _ _ _ _ _ _ lx [] _ HX.out List.length_nil hn (h1.gr (gri)) Row.nil).mono ?_)); rintro _ _ ⟨rfl, g, rfl⟩))
  go_ret
  exact ⟨ret_bool (by simp [b0, b1]), gri⟩
 rcases Bool.eq_false_or_eq_true (wCount xc) with b2 | b2
 rotate_left
 ·go_enter Tryz.func38, Tryz.ntmps38
  iterate 4
   try first | rw [rounds_succ] | (refine wp_loop_rounds 3 ?_; rw [rounds_succ])
   go_wp2_with (((first | (go_at_call 84; with_reducible refine (namesB_any _ _).mono ?_) | (go_at_call 85; with_reducible refine (within_v _ _ _ _ _ _ _ _ _ _).mono ?_) | (go_at_call 85; with_reducible refine (within_a _ _ _ _ _ _ _ _ _ _).mono ?_) | (go_at_call 85; with_reducible refine (within_c _ _ _ _ _ _ _ _ _ _).mono ?_) | (go_at_call 76; with_reducible refine (same13_any _ _ _ _ _ _ _ _ _ _ _ _ _ _ _ _ _ _ lx [] _ HX.out List.length_nil hn (h1.gr (gri)) Row.nil).mono ?_)); rintro _ _ ⟨rfl, g, rfl⟩))
  go_ret
  exact ⟨ret_bool (by simp [b0, b1, b2]), gri⟩
 go_enter Tryz.func38, Tryz.ntmps38
 iterate 5
  try first | rw [rounds_succ] | (refine wp_loop_rounds 4 ?_; rw [rounds_succ])
  go_wp2_with (((first | (go_at_call 84; with_reducible refine (namesB_any _ _).mono ?_) | (go_at_call 85; with_reducible refine (within_v _ _ _ _ _ _ _ _ _ _).mono ?_) | (go_at_call 85; with_reducible refine (within_a _ _ _ _ _ _ _ _ _ _).mono ?_) | (go_at_call 85; with_reducible refine (within_c _ _ _ _ _ _ _ _ _ _).mono ?_) | (go_at_call 76; with_reducible refine (same13_any _ _ _ _ _ _ _ _ _ _ _ _ _ _ _ _ _ _ lx [] _ HX.out List.length_nil hn (h1.gr (gri)) Row.nil).mono ?_)); rintro _ _ ⟨rfl, g, rfl⟩))
 go_ret
 exact ⟨ret_bool (by simp [sameB, b0, b1, b2, Bool.and_assoc]), gri⟩
set_option maxHeartbeats 2000000 in
theorem mayOp_8 (xv xt xs xa xc : Int) (xD : Option Addr) (xn xq : Nat) (lx : List UInt8) (w : World) (hx : lx.length = xn) (hn : xn ≤ 9223372036854775807) (h1 : Row bv w xD lx) : Calls Tryz.prog 38 #[(Value.agg #[.int .i64 8, .int .u64 xv, .int .u64 xt, .int .i64 xs, .int .i64 xa, .int .i64 xc, .slice xD xn xq])] w fun e w' => e = .returned (.bool (mayOpB 8 xv xt xs xa xc xn lx)) ∧ Gr w w' := by
 have HX := Lib.hid hx; clear hx
 have en : namesB 8 = ⟨#[]⟩ := rfl
 have E0 : mayOpB 8 xv xt xs xa xc xn lx = ((xv == 0) && (xt == 0) && (xs == 0) && (xa == 0) && (xc == 0) && (lx == [])) := rfl
 rw [E0]; clear E0
 go_enter Tryz.func38, Tryz.ntmps38
 iterate 2
  try first | rw [rounds_succ] | (refine wp_loop_rounds 1 ?_; rw [rounds_succ])
  go_wp2_with (((first | (go_at_call 84; with_reducible refine (namesB_any _ _).mono ?_) | (go_at_call 76; with_reducible refine (same13_any _ _ _ _ _ _ _ _ _ _ _ _ _ _ _ _ _ _ lx [] _ HX.out List.length_nil hn (h1.gr (gri)) Row.nil).mono ?_)); rintro _ _ ⟨rfl, g, rfl⟩))
 go_ret
 exact ⟨ret_bool (by simp [sameB, Bool.and_assoc]), gri⟩
set_option maxHeartbeats 2000000 in
theorem mayOp_9 (xv xt xs xa xc : Int) (xD : Option Addr) (xn xq : Nat) (lx : List UInt8) (w : World) (hx : lx.length = xn) (hn : xn ≤ 9223372036854775807) (h1 : Row bv w xD lx) : Calls Tryz.prog 38 #[(Value.agg #[.int .i64 9, .int .u64 xv, .int .u64 xt, .int .i64 xs, .int .i64 xa, .int .i64 xc, .slice xD xn xq])] w fun e w' => e = .returned (.bool (mayOpB 9 xv xt xs xa xc xn lx)) ∧ Gr w w' := by
 have HX := Lib.hid hx; clear hx
 have en : namesB 9 = ⟨#[118, 97, 99]⟩ := rfl
 have E0 : mayOpB 9 xv xt xs xa xc xn lx = (wVol xv && wAt xa && wCount xc && (xt == 0) && (xs == 0) && (lx == [])) := rfl
 rw [E0]; clear E0
 rcases Bool.eq_false_or_eq_true (wVol xv) with b0 | b0
 rotate_left
 ·go_enter Tryz.func38, Tryz.ntmps38
  iterate 2
   try first | rw [rounds_succ] | (refine wp_loop_rounds 1 ?_; rw [rounds_succ])
   go_wp2_with (((first | (go_at_call 84; with_reducible refine (namesB_any _ _).mono ?_) | (go_at_call 85; with_reducible refine (within_v _ _ _ _ _ _ _ _ _ _).mono ?_) | (go_at_call 85; with_reducible refine (within_a _ _ _ _ _ _ _ _ _ _).mono ?_) | (go_at_call 85; with_reducible refine (within_c _ _ _ _ _ _ _ _ _ _).mono ?_) | (go_at_call 76; with_reducible refine (same13_any _ _ _ _ _ _ _ _ _ _ _ _ _ _ _ _ _ _ lx [] _ HX.out List.length_nil hn (h1.gr (gri)) Row.nil).mono ?_)); rintro _ _ ⟨rfl, g, rfl⟩))
  go_ret
  exact ⟨ret_bool (by simp [b0]), gri⟩
 rcases Bool.eq_false_or_eq_true (wAt xa) with b1 | b1
 rotate_left
 ·go_enter Tryz.func38, Tryz.ntmps38
  iterate 3
   try first | rw [rounds_succ] | (refine wp_loop_rounds 2 ?_; rw [rounds_succ])
   go_wp2_with (((first | (go_at_call 84; with_reducible refine (namesB_any _ _).mono ?_) | (go_at_call 85; with_reducible refine (within_v _ _ _ _ _ _ _ _ _ _).mono ?_) | (go_at_call 85; with_reducible refine (within_a _ _ _ _ _ _ _ _ _ _).mono ?_) | (go_at_call 85; with_reducible refine (within_c _ _ _ _ _ _ _ _ _ _).mono ?_) | (go_at_call 76; with_reducible refine (same13_any _ _ _ _ _ _ _ _ _ _ _ _ _ _ _ _ _ _ lx [] _ HX.out List.length_nil hn (h1.gr (gri)) Row.nil).mono ?_)); rintro _ _ ⟨rfl, g, rfl⟩))
  go_ret
  exact ⟨ret_bool (by simp [b0, b1]), gri⟩
 rcases Bool.eq_false_or_eq_true (wCount xc) with b2 | b2
 rotate_left
 ·go_enter Tryz.func38, Tryz.ntmps38
  iterate 4
   try first | rw [rounds_succ] | (refine wp_loop_rounds 3 ?_; rw [rounds_succ])
   go_wp2_with (((first | (go_at_call 84; with_reducible refine (namesB_any _ _).mono ?_) | (go_at_call 85; with_reducible refine (within_v _ _ _ _ _ _ _ _ _ _).mono ?_) | (go_at_call 85; with_reducible refine (within_a _ _ _ _ _ _ _ _ _ _).mono ?_) | (go_at_call 85; with_reducible refine (within_c _ _ _ _ _ _ _ _ _ _).mono ?_) | (go_at_call 76; with_reducible refine (same13_any _ _ _ _ _ _ _ _ _ _ _ _ _ _ _ _ _ _ lx [] _ HX.out List.length_nil hn (h1.gr (gri)) Row.nil).mono ?_)); rintro _ _ ⟨rfl, g, rfl⟩))
  go_ret
  exact ⟨ret_bool (by simp [b0, b1, b2]), gri⟩
 go_enter Tryz.func38, Tryz.ntmps38
 iterate 5
  try first | rw [rounds_succ] | (refine wp_loop_rounds 4 ?_; rw [rounds_succ])
  go_wp2_with (((first | (go_at_call 84; with_reducible refine (namesB_any _ _).mono ?_) | (go_at_call 85; with_reducible refine (within_v _ _ _ _ _ _ _ _ _ _).mono ?_) | (go_at_call 85; with_reducible refine (within_a _ _ _ _ _ _ _ _ _ _).mono ?_) | (go_at_call 85; with_reducible refine (within_c _ _ _ _ _ _ _ _ _ _).mono ?_) | (go_at_call 76; with_reducible refine (same13_any _ _ _ _ _ _ _ _ _ _ _ _ _ _ _ _ _ _ lx [] _ HX.out List.length_nil hn (h1.gr (gri)) Row.nil).mono ?_)); rintro _ _ ⟨rfl, g, rfl⟩))
 go_ret
 exact ⟨ret_bool (by simp [sameB, b0, b1, b2, Bool.and_assoc]), gri⟩
set_option maxHeartbeats 2000000 in
theorem mayOp_off (xk xv xt xs xa xc : Int) (xD : Option Addr) (xn xq : Nat) (lx : List UInt8) (w : World) (h : xk < 1 ∨ 9 < xk) : Calls Tryz.prog 38 #[(Value.agg #[.int .i64 xk, .int .u64 xv, .int .u64 xt, .int .i64 xs, .int .i64 xa, .int .i64 xc, .slice xD xn xq])] w fun e w' => e = .returned (.bool (mayOpB xk xv xt xs xa xc xn lx)) ∧ Gr w w' := by
 have en : namesB xk = ⟨#[]⟩ := namesB_off xk (by omega)
 have E0 : mayOpB xk xv xt xs xa xc xn lx = false := by
  unfold mayOpB
  repeat (rw [if_neg (by omega)])
 rw [E0]; clear E0
 rcases h with h | h
 ·have h2 : decide (1 ≤ xk) = false := by simpa using h
  go_enter Tryz.func38, Tryz.ntmps38
  iterate 2
   try first | rw [rounds_succ] | (refine wp_loop_rounds 1 ?_; rw [rounds_succ])
   go_wp2_with ((go_at_call 84; ((with_reducible refine (namesB_any _ _).mono ?_); rintro _ _ ⟨rfl, g, rfl⟩)))
  go_ret
  exact ⟨rfl, gri⟩
 ·have h2 : decide (xk ≤ 9) = false := by simpa using h
  have h3 : 1 ≤ xk := by omega
  go_enter Tryz.func38, Tryz.ntmps38
  iterate 2
   try first | rw [rounds_succ] | (refine wp_loop_rounds 1 ?_; rw [rounds_succ])
   go_wp2_with ((go_at_call 84; ((with_reducible refine (namesB_any _ _).mono ?_); rintro _ _ ⟨rfl, g, rfl⟩)))
  go_ret
  exact ⟨rfl, gri⟩
theorem mayOp_any (xk xv xt xs xa xc : Int) (xD : Option Addr) (xn xq : Nat) (lx : List UInt8) (w : World) (hx : lx.length = xn) (hn : xn ≤ 9223372036854775807) (h1 : Row bv w xD lx) : Calls Tryz.prog 38 #[(Value.agg #[.int .i64 xk, .int .u64 xv, .int .u64 xt, .int .i64 xs, .int .i64 xa, .int .i64 xc, .slice xD xn xq])] w fun e w' => e = .returned (.bool (mayOpB xk xv xt xs xa xc xn lx)) ∧ Gr w w' := by
 by_cases h : xk < 1 ∨ 9 < xk
 ·exact mayOp_off xk xv xt xs xa xc xD xn xq lx w h
 ·have h3 : xk = 1 ∨ xk = 2 ∨ xk = 3 ∨ xk = 4 ∨ xk = 5 ∨ xk = 6 ∨ xk = 7 ∨ xk = 8 ∨ xk = 9 := by omega
  rcases h3 with rfl | rfl | rfl | rfl | rfl | rfl | rfl | rfl | rfl
  ·exact mayOp_1 xv xt xs xa xc xD xn xq lx w hx hn h1
  ·exact mayOp_2 xv xt xs xa xc xD xn xq lx w hx hn h1
  ·exact mayOp_3 xv xt xs xa xc xD xn xq lx w hx hn h1
  ·exact mayOp_4 xv xt xs xa xc xD xn xq lx w hx hn h1
  ·exact mayOp_5 xv xt xs xa xc xD xn xq lx w hx hn h1
  ·exact mayOp_6 xv xt xs xa xc xD xn xq lx w hx hn h1
  ·exact mayOp_7 xv xt xs xa xc xD xn xq lx w hx hn h1
  ·exact mayOp_8 xv xt xs xa xc xD xn xq lx w hx hn h1
  ·exact mayOp_9 xv xt xs xa xc xD xn xq lx w hx hn h1
end Go.Proofs.YtgjdgafoidppaaaGreatDoor
