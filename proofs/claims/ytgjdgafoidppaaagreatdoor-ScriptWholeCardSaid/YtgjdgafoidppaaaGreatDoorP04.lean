/- script.opText (first part). Conditions: what is read stands in memory; strconv's table stands. -/
import Derived.Test.YtgjdgafoidppaaaGreatDoorP03
import Derived.Test.YtgjdgafoidppaaaGreatDoorP02
import Derived.Deep.DeepCutAuto
import Derived.Deep.RegionWith
namespace Go.Proofs.YtgjdgafoidppaaaGreatDoor
open Go.RowKit
set_option linter.unusedVariables false
set_option linter.unusedSimpArgs false
set_option linter.unnecessarySimpa false
theorem opWords_any (w : World) : Calls Tryz.prog 80 #[] w fun e w' => e = .returned (.slice (some ⟨w.heap.size, 0, none⟩) 10 10) ∧ w' = w.alloc (.cells #[.string ⟨#[]⟩, .string ⟨#[99, 114, 101, 97, 116, 101]⟩, .string ⟨#[100, 101, 108, 101, 116, 101]⟩, .string ⟨#[114, 101, 115, 105, 122, 101]⟩, .string ⟨#[115, 110, 97, 112]⟩, .string ⟨#[119, 114, 105, 116, 101]⟩, .string ⟨#[122, 101, 114, 111]⟩, .string ⟨#[100, 105, 115, 99, 97, 114, 100]⟩, .string ⟨#[102, 108, 117, 115, 104]⟩, .string ⟨#[114, 101, 97, 100]⟩] 9) := by
 go_enter Tryz.func80, Tryz.ntmps80
 go_wp2
 go_ret
 exact ⟨rfl, rfl⟩
theorem actWords_any (w : World) : Calls Tryz.prog 51 #[] w fun e w' => e = .returned (.slice (some ⟨w.heap.size, 0, none⟩) 11 11) ∧ w' = w.alloc (.cells #[.string ⟨#[]⟩, .string ⟨#[97, 115, 107]⟩, .string ⟨#[99, 97, 114, 114, 121]⟩, .string ⟨#[116, 105, 99, 107]⟩, .string ⟨#[111, 102, 102]⟩, .string ⟨#[111, 110]⟩, .string ⟨#[102, 117, 115, 101]⟩, .string ⟨#[108, 101, 97, 100]⟩, .string ⟨#[100, 101, 103, 114, 97, 100, 101]⟩, .string ⟨#[103, 114, 111, 119]⟩, .string ⟨#[97, 108, 108]⟩] 9) := by
 go_enter Tryz.func51, Tryz.ntmps51
 go_wp2
 go_ret
 exact ⟨rfl, rfl⟩
theorem OwnS.new {base : Nat} (W : World) (n : Nat) [h : SizeN W n] (y : ByteArray) (hb : base ≤ n) : OwnS base (W.alloc (.cells #[.string y] 9)) (.slice (some ⟨n, 0, none⟩) 1 1) [y] := by
 have e := h.eq
 subst e
 exact ⟨rfl, .inr ⟨W.heap.size, 1, #[.string y], rfl, hb, heap_alloc_new W _, Nat.le_refl _, by unfold maxLen; omega, rfl, rfl⟩⟩
theorem join_any (A : Option Addr) (n c : Nat) (xs : List ByteArray) (sep : ByteArray) (w : World) (hl : xs.length = n) (hnc : n ≤ c) (hj : (Lib.join (xs.map (·.data.toList)) sep.data.toList).length ≤ 140737488355328) (hn : n ≤ 1000) (h : Row Value.string w A xs) :
  Calls Tryz.prog 89 #[.slice A n c, .string sep] w fun e w' => e = .returned (.string ⟨(Lib.join (xs.map (·.data.toList)) sep.data.toList).toArray⟩) ∧ Gr w w' := by
 subst hl
 by_cases h0 : xs = []
 ·subst h0
  exact (Tryz.strings_Join_none A c sep w).mono fun _ _ ⟨he, hw⟩ => ⟨he, hw ▸ Gr.refl _⟩
 ·obtain ⟨b, o, rfl, hb, hc⟩ := h.at_ h0
  exact (Tryz.strings_Join b o c xs sep w hc hb (by omega) hnc hj).mono fun _ _ ⟨he, hw⟩ => ⟨he, Gr.of hw⟩
theorem dec_len (u : Nat) (h : u < 18446744073709551616) : (Lib.decDigits u).length ≤ 20 := by
 rw [Lib.decDigits_length]
 rcases Nat.eq_zero_or_pos u with h0 | h0
 ·subst h0; rw [Lib.nDigits_small (by omega)]; omega
 ·have := Lib.numDigits_eq u h0 h; split at this <;> omega
theorem itoa_len (n : Int) (h0 : -9223372036854775808 ≤ n) (h1 : n ≤ 9223372036854775807) : (Lib.itoa n).length ≤ 21 := by
 by_cases h : n < 0
 ·obtain ⟨u, rfl⟩ : ∃ u : Nat, n = -(u : Int) := ⟨n.natAbs, by omega⟩
  rw [Lib.itoa_neg u (by omega)]
  have := dec_len u (by omega)
  simp; omega
 ·obtain ⟨u, rfl⟩ : ∃ u : Nat, n = u := ⟨n.toNat, by omega⟩
  rw [Lib.itoa_nonneg]
  have := dec_len u (by omega)
  omega
theorem dataL_len (l : List UInt8) (h : l.length ≤ 100000) : (dataL l).length ≤ 300000 := by
 unfold dataL rowL
 split
 ·simp
 ·have := secs_join l (l.length / 64); omega
structure Bd (v t s a c : Int) : Prop where
 v0 : 0 ≤ v
 v1 : v ≤ 18446744073709551615
 t0 : 0 ≤ t
 t1 : t ≤ 18446744073709551615
 s0 : -9223372036854775808 ≤ s
 s1 : s ≤ 9223372036854775807
 a0 : -9223372036854775808 ≤ a
 a1 : a ≤ 9223372036854775807
 c0 : -9223372036854775808 ≤ c
 c1 : c ≤ 9223372036854775807
set_option maxRecDepth 100000 in
set_option maxHeartbeats 4000000 in
theorem opText_1 (xv xt xs xa xc : Int) (xD : Option Addr) (xn xq : Nat) (lx : List UInt8) (w : World) [hk : Tb w] (B : Bd xv xt xs xa xc) (hx : lx.length = xn) (hxq : xn ≤ xq) (hn : xn ≤ 100000) (h1 : Row bv w xD lx) : Calls Tryz.prog 39 #[(Value.agg #[.int .i64 1, .int .u64 xv, .int .u64 xt, .int .i64 xs, .int .i64 xa, .int .i64 xc, .slice xD xn xq])] w fun e w' => e = .returned (.string ⟨(Lib.join (([⟨#[99, 114, 101, 97, 116, 101]⟩, ⟨(Lib.decDigits xv.toNat).toArray⟩, ⟨(Lib.itoa xs).toArray⟩] : List ByteArray).map (·.data.toList)) [32]).toArray⟩) ∧ Gr w w' := by
 have H1 := Lib.hid h1; clear h1
 have HX := Lib.hid hx; clear hx
 have en : opPartsB 1 = ⟨#[118, 115]⟩ := rfl
 go_enter Tryz.func39, Tryz.ntmps39
 go_upto_region 1 with fail
 go_cut [3] (fun v wx => OwnS (w.heap.size + 1) wx v [⟨#[99, 114, 101, 97, 116, 101]⟩] ∧ Below w.heap.size w wx ∧ From w wx ∧ Tb wx ∧ (wx.cell? ⟨w.heap.size, 0, none⟩ = some (.int .i64 1) ∧ wx.cell? ⟨w.heap.size, 1, none⟩ = some (.int .u64 xv) ∧ wx.cell? ⟨w.heap.size, 2, none⟩ = some (.int .u64 xt) ∧ wx.cell? ⟨w.heap.size, 3, none⟩ = some (.int .i64 xs) ∧ wx.cell? ⟨w.heap.size, 4, none⟩ = some (.int .i64 xa) ∧ wx.cell? ⟨w.heap.size, 5, none⟩ = some (.int .i64 xc) ∧ wx.cell? ⟨w.heap.size, 6, none⟩ = some (.slice xD xn xq)))
 case first =>
  go_region_with ((go_at_call 80; refine (opWords_any _).mono ?_; rintro e w' ⟨rfl, rfl⟩))
  all_goals
   go_wp2_with fail
   go_meet
   case rel =>
    refine ⟨?_, (gri : Gr w _).below, inferInstance, inferInstance, by simp [go_sem], by simp [go_sem], by simp [go_sem], by simp [go_sem], by simp [go_sem], by simp [go_sem], by simp [go_sem]⟩
    first
     | exact OwnS.new _ _ _ (by omega)
     | exact (OwnS.new _ _ _ (by omega)).drew_
 case rest =>
  obtain ⟨hown, hbw, hfr, htb, c0, c1, c2, c3, c4, c5, c6⟩ := hcut
  have hle6 : 6 ≤ w.heap.size + 1 := Nat.le_succ_of_le hk.size
  haveI io : Old w.heap.size wc := old_of_cell c0
  have hg0 := hbw
  go_wp2_with (go_at_call 81; ((with_reducible refine (opPartsB_any _ _).mono ?_); rintro _ _ ⟨rfl, g, rfl⟩))
  refine wp_loop_rounds 3 ?_
  rw [rounds_succ]
  go_wp2_with (go_at_call 86; ((with_reducible refine (formatUint_any _ B.v0 B.v1 _).mono ?_)))
  rintro _ _ ⟨rfl, g0, rfl⟩
  go_wp2_with (at_builtin; refine wp_append_str rfl _ _ rfl (w.heap.size + 1) ?vv0 ([⟨#[99, 114, 101, 97, 116, 101]⟩] : List ByteArray) ?hs0 ?own0 _ ⟨(Lib.decDigits xv.toNat).toArray⟩ rfl ?hc0 (by simp) ?hb0 ?_)
  case own0 => (with_reducible repeat (first | exact hown | refine OwnS.alloc_ ?_ _ | refine OwnS.grown_ ?_ _ | refine OwnS.iter_ ?_ _ _ _ | refine OwnS.drew_ ?_))
  case hs0 => rfl
  case hc0 => simp [go_sem]
  case hb0 => exact Nat.succ_le_of_lt (inferInstance : Old w.heap.size _).lt
  intro v0 w0 a0
  haveI : Tb w0 := a0.tb hle6
  haveI : From w w0 := a0.from_ w
  haveI : Old w.heap.size w0 := a0.old _
  haveI : IterAt w0 (grown wc g).heap.size ⟨#[118, 115]⟩ 1 := a0.iter _ _ _ inferInstance
  have c0 := a0.cell (Nat.lt_succ_self w.heap.size) (show World.cell? _ ⟨w.heap.size, 0, none⟩ = some (.int .i64 1) by simp [go_sem, c0])
  have c1 := a0.cell (Nat.lt_succ_self w.heap.size) (show World.cell? _ ⟨w.heap.size, 1, none⟩ = some (.int .u64 xv) by simp [go_sem, c1])
  have c2 := a0.cell (Nat.lt_succ_self w.heap.size) (show World.cell? _ ⟨w.heap.size, 2, none⟩ = some (.int .u64 xt) by simp [go_sem, c2])
  have c3 := a0.cell (Nat.lt_succ_self w.heap.size) (show World.cell? _ ⟨w.heap.size, 3, none⟩ = some (.int .i64 xs) by simp [go_sem, c3])
  have c4 := a0.cell (Nat.lt_succ_self w.heap.size) (show World.cell? _ ⟨w.heap.size, 4, none⟩ = some (.int .i64 xa) by simp [go_sem, c4])
  have c5 := a0.cell (Nat.lt_succ_self w.heap.size) (show World.cell? _ ⟨w.heap.size, 5, none⟩ = some (.int .i64 xc) by simp [go_sem, c5])
  have c6 := a0.cell (Nat.lt_succ_self w.heap.size) (show World.cell? _ ⟨w.heap.size, 6, none⟩ = some (.slice xD xn xq) by simp [go_sem, c6])
  have hown := a0.own
  have hbw := a0.chain (a := w) (by ((with_reducible repeat (first | exact hbw | exact Below.refl _ _ | apply below_alloc | refine below_set' ?_ _ | refine below_trans ?_ (grown_below _ _) | refine below_iter' ?_ _ _ | apply Below.drew)))) (Nat.le_succ _)
  clear a0
  simp only [List.cons_append, List.nil_append] at hown
  go_wp2
  rw [rounds_succ]
  go_wp2_with (go_at_call 87; ((with_reducible refine (itoa_any _ B.s0 B.s1 _).mono ?_)))
  rintro _ _ ⟨rfl, g1, rfl⟩
  go_wp2_with (at_builtin; refine wp_append_str rfl _ _ rfl (w.heap.size + 1) ?vv1 ([⟨#[99, 114, 101, 97, 116, 101]⟩, ⟨(Lib.decDigits xv.toNat).toArray⟩] : List ByteArray) ?hs1 ?own1 _ ⟨(Lib.itoa xs).toArray⟩ rfl ?hc1 (by simp) ?hb1 ?_)
  case own1 => (with_reducible repeat (first | exact hown | refine OwnS.alloc_ ?_ _ | refine OwnS.grown_ ?_ _ | refine OwnS.iter_ ?_ _ _ _ | refine OwnS.drew_ ?_))
  case hs1 => rfl
  case hc1 => simp [go_sem]
  case hb1 => exact Nat.succ_le_of_lt (inferInstance : Old w.heap.size _).lt
  intro v1 w1 a1
  haveI : Tb w1 := a1.tb hle6
  haveI : From w w1 := a1.from_ w
  haveI : Old w.heap.size w1 := a1.old _
  haveI : IterAt w1 (grown wc g).heap.size ⟨#[118, 115]⟩ 2 := a1.iter _ _ _ inferInstance
  have c0 := a1.cell (Nat.lt_succ_self w.heap.size) (show World.cell? _ ⟨w.heap.size, 0, none⟩ = some (.int .i64 1) by simp [go_sem, c0])
  have c1 := a1.cell (Nat.lt_succ_self w.heap.size) (show World.cell? _ ⟨w.heap.size, 1, none⟩ = some (.int .u64 xv) by simp [go_sem, c1])
  have c2 := a1.cell (Nat.lt_succ_self w.heap.size) (show World.cell? _ ⟨w.heap.size, 2, none⟩ = some (.int .u64 xt) by simp [go_sem, c2])
  have c3 := a1.cell (Nat.lt_succ_self w.heap.size) (show World.cell? _ ⟨w.heap.size, 3, none⟩ = some (.int .i64 xs) by simp [go_sem, c3])
  have c4 := a1.cell (Nat.lt_succ_self w.heap.size) (show World.cell? _ ⟨w.heap.size, 4, none⟩ = some (.int .i64 xa) by simp [go_sem, c4])
  have c5 := a1.cell (Nat.lt_succ_self w.heap.size) (show World.cell? _ ⟨w.heap.size, 5, none⟩ = some (.int .i64 xc) by simp [go_sem, c5])
  have c6 := a1.cell (Nat.lt_succ_self w.heap.size) (show World.cell? _ ⟨w.heap.size, 6, none⟩ = some (.slice xD xn xq) by simp [go_sem, c6])
  have hown := a1.own
  have hbw := a1.chain (a := w) (by ((with_reducible repeat (first | exact hbw | exact Below.refl _ _ | apply below_alloc | refine below_set' ?_ _ | refine below_trans ?_ (grown_below _ _) | refine below_iter' ?_ _ _ | apply Below.drew)))) (Nat.le_succ _)
  clear a1
  simp only [List.cons_append, List.nil_append] at hown
  go_wp2
  obtain ⟨VA, vc, hv, hvc, hrow⟩ := hown.form
  have hv2 : v1 = .slice VA 3 vc := hv
  clear hv
  subst hv2
  have hvc2 : 3 ≤ vc := hvc
  clear hvc
  have hJ : (Lib.join (([⟨#[99, 114, 101, 97, 116, 101]⟩, ⟨(Lib.decDigits xv.toNat).toArray⟩, ⟨(Lib.itoa xs).toArray⟩] : List ByteArray).map (·.data.toList)) [32]).length ≤ 140737488355328 := by
   refine Nat.le_trans (join_len [32] rfl 300000 _ ?_) (by simp)
   intro x hx
   simp only [List.map_cons, List.map_nil, List.mem_cons, List.mem_nil_iff, or_false] at hx
   rcases hx with rfl | rfl | rfl
   ·simp
   ·have := dec_len xv.toNat (by have := B.v1; omega); simp; omega
   ·have := itoa_len _ B.s0 B.s1; simp; omega
  have HJ := Lib.hid hJ; clear hJ
  have HROW := Lib.hid hrow; clear hrow hown
  have HLN : Hid (([⟨#[99, 114, 101, 97, 116, 101]⟩, ⟨(Lib.decDigits xv.toNat).toArray⟩, ⟨(Lib.itoa xs).toArray⟩] : List ByteArray).length = 3) := Lib.hid rfl
  rw [rounds_succ]
  go_wp2_with (go_at_call 89; ((with_reducible refine (join_any _ _ _ ([⟨#[99, 114, 101, 97, 116, 101]⟩, ⟨(Lib.decDigits xv.toNat).toArray⟩, ⟨(Lib.itoa xs).toArray⟩] : List ByteArray) ⟨#[32]⟩ _ HLN.out hvc2 HJ.out (by omega) (HROW.out.gr (gri))).mono ?_); rintro _ _ ⟨rfl, gz, rfl⟩))
  go_ret
  exact ⟨rfl, Gr.of (by ((with_reducible repeat (first | exact hbw | exact Below.refl _ _ | apply below_alloc | refine below_set' ?_ _ | refine below_trans ?_ (grown_below _ _) | refine below_iter' ?_ _ _ | apply Below.drew))))⟩
set_option maxRecDepth 100000 in
set_option maxHeartbeats 4000000 in
theorem opText_2 (xv xt xs xa xc : Int) (xD : Option Addr) (xn xq : Nat) (lx : List UInt8) (w : World) [hk : Tb w] (B : Bd xv xt xs xa xc) (hx : lx.length = xn) (hxq : xn ≤ xq) (hn : xn ≤ 100000) (h1 : Row bv w xD lx) : Calls Tryz.prog 39 #[(Value.agg #[.int .i64 2, .int .u64 xv, .int .u64 xt, .int .i64 xs, .int .i64 xa, .int .i64 xc, .slice xD xn xq])] w fun e w' => e = .returned (.string ⟨(Lib.join (([⟨#[100, 101, 108, 101, 116, 101]⟩, ⟨(Lib.decDigits xv.toNat).toArray⟩] : List ByteArray).map (·.data.toList)) [32]).toArray⟩) ∧ Gr w w' := by
 have H1 := Lib.hid h1; clear h1
 have HX := Lib.hid hx; clear hx
 have en : opPartsB 2 = ⟨#[118]⟩ := rfl
 go_enter Tryz.func39, Tryz.ntmps39
 go_upto_region 1 with fail
 go_cut [3] (fun v wx => OwnS (w.heap.size + 1) wx v [⟨#[100, 101, 108, 101, 116, 101]⟩] ∧ Below w.heap.size w wx ∧ From w wx ∧ Tb wx ∧ (wx.cell? ⟨w.heap.size, 0, none⟩ = some (.int .i64 2) ∧ wx.cell? ⟨w.heap.size, 1, none⟩ = some (.int .u64 xv) ∧ wx.cell? ⟨w.heap.size, 2, none⟩ = some (.int .u64 xt) ∧ wx.cell? ⟨w.heap.size, 3, none⟩ = some (.int .i64 xs) ∧ wx.cell? ⟨w.heap.size, 4, none⟩ = some (.int .i64 xa) ∧ wx.cell? ⟨w.heap.size, 5, none⟩ = some (.int .i64 xc) ∧ wx.cell? ⟨w.heap.size, 6, none⟩ = some (.slice xD xn xq)))
 case first =>
  go_region_with ((go_at_call 80; refine (opWords_any _).mono ?_; rintro e w' ⟨rfl, rfl⟩))
  all_goals
   go_wp2_with fail
   go_meet
   case rel =>
    refine ⟨?_, (gri : Gr w _).below, inferInstance, inferInstance, by simp [go_sem], by simp [go_sem], by simp [go_sem], by simp [go_sem], by simp [go_sem], by simp [go_sem], by simp [go_sem]⟩
    first
     | exact OwnS.new _ _ _ (by omega)
     | exact (OwnS.new _ _ _ (by omega)).drew_
 case rest =>
  obtain ⟨hown, hbw, hfr, htb, c0, c1, c2, c3, c4, c5, c6⟩ := hcut
  have hle6 : 6 ≤ w.heap.size + 1 := Nat.le_succ_of_le hk.size
  haveI io : Old w.heap.size wc := old_of_cell c0
  have hg0 := hbw
  go_wp2_with (go_at_call 81; ((with_reducible refine (opPartsB_any _ _).mono ?_); rintro _ _ ⟨rfl, g, rfl⟩))
  refine wp_loop_rounds 2 ?_
  rw [rounds_succ]
  go_wp2_with (go_at_call 86; ((with_reducible refine (formatUint_any _ B.v0 B.v1 _).mono ?_)))
  rintro _ _ ⟨rfl, g0, rfl⟩
  go_wp2_with (at_builtin; refine wp_append_str rfl _ _ rfl (w.heap.size + 1) ?vv0 ([⟨#[100, 101, 108, 101, 116, 101]⟩] : List ByteArray) ?hs0 ?own0 _ ⟨(Lib.decDigits xv.toNat).toArray⟩ rfl ?hc0 (by simp) ?hb0 ?_)
  case own0 => (with_reducible repeat (first | exact hown | refine OwnS.alloc_ ?_ _ | refine OwnS.grown_ ?_ _ | refine OwnS.iter_ ?_ _ _ _ | refine OwnS.drew_ ?_))
  case hs0 => rfl
  case hc0 => simp [go_sem]
  case hb0 => exact Nat.succ_le_of_lt (inferInstance : Old w.heap.size _).lt
  intro v0 w0 a0
  haveI : Tb w0 := a0.tb hle6
  haveI : From w w0 := a0.from_ w
  haveI : Old w.heap.size w0 := a0.old _
  haveI : IterAt w0 (grown wc g).heap.size ⟨#[118]⟩ 1 := a0.iter _ _ _ inferInstance
  have c0 := a0.cell (Nat.lt_succ_self w.heap.size) (show World.cell? _ ⟨w.heap.size, 0, none⟩ = some (.int .i64 2) by simp [go_sem, c0])
  have c1 := a0.cell (Nat.lt_succ_self w.heap.size) (show World.cell? _ ⟨w.heap.size, 1, none⟩ = some (.int .u64 xv) by simp [go_sem, c1])
  have c2 := a0.cell (Nat.lt_succ_self w.heap.size) (show World.cell? _ ⟨w.heap.size, 2, none⟩ = some (.int .u64 xt) by simp [go_sem, c2])
  have c3 := a0.cell (Nat.lt_succ_self w.heap.size) (show World.cell? _ ⟨w.heap.size, 3, none⟩ = some (.int .i64 xs) by simp [go_sem, c3])
  have c4 := a0.cell (Nat.lt_succ_self w.heap.size) (show World.cell? _ ⟨w.heap.size, 4, none⟩ = some (.int .i64 xa) by simp [go_sem, c4])
  have c5 := a0.cell (Nat.lt_succ_self w.heap.size) (show World.cell? _ ⟨w.heap.size, 5, none⟩ = some (.int .i64 xc) by simp [go_sem, c5])
  have c6 := a0.cell (Nat.lt_succ_self w.heap.size) (show World.cell? _ ⟨w.heap.size, 6, none⟩ = some (.slice xD xn xq) by simp [go_sem, c6])
  have hown := a0.own
  have hbw := a0.chain (a := w) (by ((with_reducible repeat (first | exact hbw | exact Below.refl _ _ | apply below_alloc | refine below_set' ?_ _ | refine below_trans ?_ (grown_below _ _) | refine below_iter' ?_ _ _ | apply Below.drew)))) (Nat.le_succ _)
  clear a0
  simp only [List.cons_append, List.nil_append] at hown
  go_wp2
  obtain ⟨VA, vc, hv, hvc, hrow⟩ := hown.form
  have hv2 : v0 = .slice VA 2 vc := hv
  clear hv
  subst hv2
  have hvc2 : 2 ≤ vc := hvc
  clear hvc
  have hJ : (Lib.join (([⟨#[100, 101, 108, 101, 116, 101]⟩, ⟨(Lib.decDigits xv.toNat).toArray⟩] : List ByteArray).map (·.data.toList)) [32]).length ≤ 140737488355328 := by
   refine Nat.le_trans (join_len [32] rfl 300000 _ ?_) (by simp)
   intro x hx
   simp only [List.map_cons, List.map_nil, List.mem_cons, List.mem_nil_iff, or_false] at hx
   rcases hx with rfl | rfl
   ·simp
   ·have := dec_len xv.toNat (by have := B.v1; omega); simp; omega
  have HJ := Lib.hid hJ; clear hJ
  have HROW := Lib.hid hrow; clear hrow hown
  have HLN : Hid (([⟨#[100, 101, 108, 101, 116, 101]⟩, ⟨(Lib.decDigits xv.toNat).toArray⟩] : List ByteArray).length = 2) := Lib.hid rfl
  rw [rounds_succ]
  go_wp2_with (go_at_call 89; ((with_reducible refine (join_any _ _ _ ([⟨#[100, 101, 108, 101, 116, 101]⟩, ⟨(Lib.decDigits xv.toNat).toArray⟩] : List ByteArray) ⟨#[32]⟩ _ HLN.out hvc2 HJ.out (by omega) (HROW.out.gr (gri))).mono ?_); rintro _ _ ⟨rfl, gz, rfl⟩))
  go_ret
  exact ⟨rfl, Gr.of (by ((with_reducible repeat (first | exact hbw | exact Below.refl _ _ | apply below_alloc | refine below_set' ?_ _ | refine below_trans ?_ (grown_below _ _) | refine below_iter' ?_ _ _ | apply Below.drew))))⟩
set_option maxRecDepth 100000 in
set_option maxHeartbeats 4000000 in
theorem opText_3 (xv xt xs xa xc : Int) (xD : Option Addr) (xn xq : Nat) (lx : List UInt8) (w : World) [hk : Tb w] (B : Bd xv xt xs xa xc) (hx : lx.length = xn) (hxq : xn ≤ xq) (hn : xn ≤ 100000) (h1 : Row bv w xD lx) : Calls Tryz.prog 39 #[(Value.agg #[.int .i64 3, .int .u64 xv, .int .u64 xt, .int .i64 xs, .int .i64 xa, .int .i64 xc, .slice xD xn xq])] w fun e w' => e = .returned (.string ⟨(Lib.join (([⟨#[114, 101, 115, 105, 122, 101]⟩, ⟨(Lib.decDigits xv.toNat).toArray⟩, ⟨(Lib.itoa xs).toArray⟩] : List ByteArray).map (·.data.toList)) [32]).toArray⟩) ∧ Gr w w' := by
 have H1 := Lib.hid h1; clear h1
 have HX := Lib.hid hx; clear hx
 have en : opPartsB 3 = ⟨#[118, 115]⟩ := rfl
 go_enter Tryz.func39, Tryz.ntmps39
 go_upto_region 1 with fail
 go_cut [3] (fun v wx => OwnS (w.heap.size + 1) wx v [⟨#[114, 101, 115, 105, 122, 101]⟩] ∧ Below w.heap.size w wx ∧ From w wx ∧ Tb wx ∧ (wx.cell? ⟨w.heap.size, 0, none⟩ = some (.int .i64 3) ∧ wx.cell? ⟨w.heap.size, 1, none⟩ = some (.int .u64 xv) ∧ wx.cell? ⟨w.heap.size, 2, none⟩ = some (.int .u64 xt) ∧ wx.cell? ⟨w.heap.size, 3, none⟩ = some (.int .i64 xs) ∧ wx.cell? ⟨w.heap.size, 4, none⟩ = some (.int .i64 xa) ∧ wx.cell? ⟨w.heap.size, 5, none⟩ = some (.int .i64 xc) ∧ wx.cell? ⟨w.heap.size, 6, none⟩ = some (.slice xD xn xq)))
 case first =>
  go_region_with ((go_at_call 80; refine (opWords_any _).mono ?_; rintro e w' ⟨rfl, rfl⟩))
  all_goals
   go_wp2_with fail
   go_meet
   case rel =>
    refine ⟨?_, (gri : Gr w _).below, inferInstance, inferInstance, by simp [go_sem], by simp [go_sem], by simp [go_sem], by simp [go_sem], by simp [go_sem], by simp [go_sem], by simp [go_sem]⟩
    first
     | exact OwnS.new _ _ _ (by omega)
     | exact (OwnS.new _ _ _ (by omega)).drew_
 case rest =>
  obtain ⟨hown, hbw, hfr, htb, c0, c1, c2, c3, c4, c5, c6⟩ := hcut
  have hle6 : 6 ≤ w.heap.size + 1 := Nat.le_succ_of_le hk.size
  haveI io : Old w.heap.size wc := old_of_cell c0
  have hg0 := hbw
  go_wp2_with (go_at_call 81; ((with_reducible refine (opPartsB_any _ _).mono ?_); rintro _ _ ⟨rfl, g, rfl⟩))
  refine wp_loop_rounds 3 ?_
  rw [rounds_succ]
  go_wp2_with (go_at_call 86; ((with_reducible refine (formatUint_any _ B.v0 B.v1 _).mono ?_)))
  rintro _ _ ⟨rfl, g0, rfl⟩
  go_wp2_with (at_builtin; refine wp_append_str rfl _ _ rfl (w.heap.size + 1) ?vv0 ([⟨#[114, 101, 115, 105, 122, 101]⟩] : List ByteArray) ?hs0 ?own0 _ ⟨(Lib.decDigits xv.toNat).toArray⟩ rfl ?hc0 (by simp) ?hb0 ?_)
  case own0 => (with_reducible repeat (first | exact hown | refine OwnS.alloc_ ?_ _ | refine OwnS.grown_ ?_ _ | refine OwnS.iter_ ?_ _ _ _ | refine OwnS.drew_ ?_))
  case hs0 => rfl
  case hc0 => simp [go_sem]
  case hb0 => exact Nat.succ_le_of_lt (inferInstance : Old w.heap.size _).lt
  intro v0 w0 a0
  haveI : Tb w0 := a0.tb hle6
  haveI : From w w0 := a0.from_ w
  haveI : Old w.heap.size w0 := a0.old _
  haveI : IterAt w0 (grown wc g).heap.size ⟨#[118, 115]⟩ 1 := a0.iter _ _ _ inferInstance
  have c0 := a0.cell (Nat.lt_succ_self w.heap.size) (show World.cell? _ ⟨w.heap.size, 0, none⟩ = some (.int .i64 3) by simp [go_sem, c0])
  have c1 := a0.cell (Nat.lt_succ_self w.heap.size) (show World.cell? _ ⟨w.heap.size, 1, none⟩ = some (.int .u64 xv) by simp [go_sem, c1])
  have c2 := a0.cell (Nat.lt_succ_self w.heap.size) (show World.cell? _ ⟨w.heap.size, 2, none⟩ = some (.int .u64 xt) by simp [go_sem, c2])
  have c3 := a0.cell (Nat.lt_succ_self w.heap.size) (show World.cell? _ ⟨w.heap.size, 3, none⟩ = some (.int .i64 xs) by simp [go_sem, c3])
  have c4 := a0.cell (Nat.lt_succ_self w.heap.size) (show World.cell? _ ⟨w.heap.size, 4, none⟩ = some (.int .i64 xa) by simp [go_sem, c4])
  have c5 := a0.cell (Nat.lt_succ_self w.heap.size) (show World.cell? _ ⟨w.heap.size, 5, none⟩ = some (.int .i64 xc) by simp [go_sem, c5])
  have c6 := a0.cell (Nat.lt_succ_self w.heap.size) (show World.cell? _ ⟨w.heap.size, 6, none⟩ = some (.slice xD xn xq) by simp [go_sem, c6])
  have hown := a0.own
  have hbw := a0.chain (a := w) (by ((with_reducible repeat (first | exact hbw | exact Below.refl _ _ | apply below_alloc | refine below_set' ?_ _ | refine below_trans ?_ (grown_below _ _) | refine below_iter' ?_ _ _ | apply Below.drew)))) (Nat.le_succ _)
  clear a0
  simp only [List.cons_append, List.nil_append] at hown
  go_wp2
  rw [rounds_succ]
  go_wp2_with (go_at_call 87; ((with_reducible refine (itoa_any _ B.s0 B.s1 _).mono ?_)))
  rintro _ _ ⟨rfl, g1, rfl⟩
  go_wp2_with (at_builtin; refine wp_append_str rfl _ _ rfl (w.heap.size + 1) ?vv1 ([⟨#[114, 101, 115, 105, 122, 101]⟩, ⟨(Lib.decDigits xv.toNat).toArray⟩] : List ByteArray) ?hs1 ?own1 _ ⟨(Lib.itoa xs).toArray⟩ rfl ?hc1 (by simp) ?hb1 ?_)
  case own1 => (with_reducible repeat (first | exact hown | refine OwnS.alloc_ ?_ _ | refine OwnS.grown_ ?_ _ | refine OwnS.iter_ ?_ _ _ _ | refine OwnS.drew_ ?_))
  case hs1 => rfl
  case hc1 => simp [go_sem]
  case hb1 => exact Nat.succ_le_of_lt (inferInstance : Old w.heap.size _).lt
  intro v1 w1 a1
  haveI : Tb w1 := a1.tb hle6
  haveI : From w w1 := a1.from_ w
  haveI : Old w.heap.size w1 := a1.old _
  haveI : IterAt w1 (grown wc g).heap.size ⟨#[118, 115]⟩ 2 := a1.iter _ _ _ inferInstance
  have c0 := a1.cell (Nat.lt_succ_self w.heap.size) (show World.cell? _ ⟨w.heap.size, 0, none⟩ = some (.int .i64 3) by simp [go_sem, c0])
  have c1 := a1.cell (Nat.lt_succ_self w.heap.size) (show World.cell? _ ⟨w.heap.size, 1, none⟩ = some (.int .u64 xv) by simp [go_sem, c1])
  have c2 := a1.cell (Nat.lt_succ_self w.heap.size) (show World.cell? _ ⟨w.heap.size, 2, none⟩ = some (.int .u64 xt) by simp [go_sem, c2])
  have c3 := a1.cell (Nat.lt_succ_self w.heap.size) (show World.cell? _ ⟨w.heap.size, 3, none⟩ = some (.int .i64 xs) by simp [go_sem, c3])
  have c4 := a1.cell (Nat.lt_succ_self w.heap.size) (show World.cell? _ ⟨w.heap.size, 4, none⟩ = some (.int .i64 xa) by simp [go_sem, c4])
  have c5 := a1.cell (Nat.lt_succ_self w.heap.size) (show World.cell? _ ⟨w.heap.size, 5, none⟩ = some (.int .i64 xc) by simp [go_sem, c5])
  have c6 := a1.cell (Nat.lt_succ_self w.heap.size) (show World.cell? _ ⟨w.heap.size, 6, none⟩ = some (.slice xD xn xq) by simp [go_sem, c6])
  have hown := a1.own
  have hbw := a1.chain (a := w) (by ((with_reducible repeat (first | exact hbw | exact Below.refl _ _ | apply below_alloc | refine below_set' ?_ _ | refine below_trans ?_ (grown_below _ _) | refine below_iter' ?_ _ _ | apply Below.drew)))) (Nat.le_succ _)
  clear a1
  simp only [List.cons_append, List.nil_append] at hown
  go_wp2
  obtain ⟨VA, vc, hv, hvc, hrow⟩ := hown.form
  have hv2 : v1 = .slice VA 3 vc := hv
  clear hv
  subst hv2
  have hvc2 : 3 ≤ vc := hvc
  clear hvc
  have hJ : (Lib.join (([⟨#[114, 101, 115, 105, 122, 101]⟩, ⟨(Lib.decDigits xv.toNat).toArray⟩, ⟨(Lib.itoa xs).toArray⟩] : List ByteArray).map (·.data.toList)) [32]).length ≤ 140737488355328 := by
   refine Nat.le_trans (join_len [32] rfl 300000 _ ?_) (by simp)
   intro x hx
   simp only [List.map_cons, List.map_nil, List.mem_cons, List.mem_nil_iff, or_false] at hx
   rcases hx with rfl | rfl | rfl
   ·simp
   ·have := dec_len xv.toNat (by have := B.v1; omega); simp; omega
   ·have := itoa_len _ B.s0 B.s1; simp; omega
  have HJ := Lib.hid hJ; clear hJ
  have HROW := Lib.hid hrow; clear hrow hown
  have HLN : Hid (([⟨#[114, 101, 115, 105, 122, 101]⟩, ⟨(Lib.decDigits xv.toNat).toArray⟩, ⟨(Lib.itoa xs).toArray⟩] : List ByteArray).length = 3) := Lib.hid rfl
  rw [rounds_succ]
  go_wp2_with (go_at_call 89; ((with_reducible refine (join_any _ _ _ ([⟨#[114, 101, 115, 105, 122, 101]⟩, ⟨(Lib.decDigits xv.toNat).toArray⟩, ⟨(Lib.itoa xs).toArray⟩] : List ByteArray) ⟨#[32]⟩ _ HLN.out hvc2 HJ.out (by omega) (HROW.out.gr (gri))).mono ?_); rintro _ _ ⟨rfl, gz, rfl⟩))
  go_ret
  exact ⟨rfl, Gr.of (by ((with_reducible repeat (first | exact hbw | exact Below.refl _ _ | apply below_alloc | refine below_set' ?_ _ | refine below_trans ?_ (grown_below _ _) | refine below_iter' ?_ _ _ | apply Below.drew))))⟩
set_option maxRecDepth 100000 in
set_option maxHeartbeats 4000000 in
theorem opText_4 (xv xt xs xa xc : Int) (xD : Option Addr) (xn xq : Nat) (lx : List UInt8) (w : World) [hk : Tb w] (B : Bd xv xt xs xa xc) (hx : lx.length = xn) (hxq : xn ≤ xq) (hn : xn ≤ 100000) (h1 : Row bv w xD lx) : Calls Tryz.prog 39 #[(Value.agg #[.int .i64 4, .int .u64 xv, .int .u64 xt, .int .i64 xs, .int .i64 xa, .int .i64 xc, .slice xD xn xq])] w fun e w' => e = .returned (.string ⟨(Lib.join (([⟨#[115, 110, 97, 112]⟩, ⟨(Lib.decDigits xv.toNat).toArray⟩, ⟨(Lib.decDigits xt.toNat).toArray⟩] : List ByteArray).map (·.data.toList)) [32]).toArray⟩) ∧ Gr w w' := by
 have H1 := Lib.hid h1; clear h1
 have HX := Lib.hid hx; clear hx
 have en : opPartsB 4 = ⟨#[118, 116]⟩ := rfl
 go_enter Tryz.func39, Tryz.ntmps39
 go_upto_region 1 with fail
 go_cut [3] (fun v wx => OwnS (w.heap.size + 1) wx v [⟨#[115, 110, 97, 112]⟩] ∧ Below w.heap.size w wx ∧ From w wx ∧ Tb wx ∧ (wx.cell? ⟨w.heap.size, 0, none⟩ = some (.int .i64 4) ∧ wx.cell? ⟨w.heap.size, 1, none⟩ = some (.int .u64 xv) ∧ wx.cell? ⟨w.heap.size, 2, none⟩ = some (.int .u64 xt) ∧ wx.cell? ⟨w.heap.size, 3, none⟩ = some (.int .i64 xs) ∧ wx.cell? ⟨w.heap.size, 4, none⟩ = some (.int .i64 xa) ∧ wx.cell? ⟨w.heap.size, 5, none⟩ = some (.int .i64 xc) ∧ wx.cell? ⟨w.heap.size, 6, none⟩ = some (.slice xD xn xq)))
 case first =>
  go_region_with ((go_at_call 80; refine (opWords_any _).mono ?_; rintro e w' ⟨rfl, rfl⟩))
  all_goals
   go_wp2_with fail
   go_meet
   case rel =>
    refine ⟨?_, (gri : Gr w _).below, inferInstance, inferInstance, by simp [go_sem], by simp [go_sem], by simp [go_sem], by simp [go_sem], by simp [go_sem], by simp [go_sem], by simp [go_sem]⟩
    first
     | exact OwnS.new _ _ _ (by omega)
     | exact (OwnS.new _ _ _ (by omega)).drew_
 case rest =>
  obtain ⟨hown, hbw, hfr, htb, c0, c1, c2, c3, c4, c5, c6⟩ := hcut
  have hle6 : 6 ≤ w.heap.size + 1 := Nat.le_succ_of_le hk.size
  haveI io : Old w.heap.size wc := old_of_cell c0
  have hg0 := hbw
  go_wp2_with (go_at_call 81; ((with_reducible refine (opPartsB_any _ _).mono ?_); rintro _ _ ⟨rfl, g, rfl⟩))
  refine wp_loop_rounds 3 ?_
  rw [rounds_succ]
  go_wp2_with (go_at_call 86; ((with_reducible refine (formatUint_any _ B.v0 B.v1 _).mono ?_)))
  rintro _ _ ⟨rfl, g0, rfl⟩
  go_wp2_with (at_builtin; refine wp_append_str rfl _ _ rfl (w.heap.size + 1) ?vv0 ([⟨#[115, 110, 97, 112]⟩] : List ByteArray) ?hs0 ?own0 _ ⟨(Lib.decDigits xv.toNat).toArray⟩ rfl ?hc0 (by simp) ?hb0 ?_)
  case own0 => (with_reducible repeat (first | exact hown | refine OwnS.alloc_ ?_ _ | refine OwnS.grown_ ?_ _ | refine OwnS.iter_ ?_ _ _ _ | refine OwnS.drew_ ?_))
  case hs0 => rfl
  case hc0 => simp [go_sem]
  case hb0 => exact Nat.succ_le_of_lt (inferInstance : Old w.heap.size _).lt
  intro v0 w0 a0
  haveI : Tb w0 := a0.tb hle6
  haveI : From w w0 := a0.from_ w
  haveI : Old w.heap.size w0 := a0.old _
  haveI : IterAt w0 (grown wc g).heap.size ⟨#[118, 116]⟩ 1 := a0.iter _ _ _ inferInstance
  have c0 := a0.cell (Nat.lt_succ_self w.heap.size) (show World.cell? _ ⟨w.heap.size, 0, none⟩ = some (.int .i64 4) by simp [go_sem, c0])
  have c1 := a0.cell (Nat.lt_succ_self w.heap.size) (show World.cell? _ ⟨w.heap.size, 1, none⟩ = some (.int .u64 xv) by simp [go_sem, c1])
  have c2 := a0.cell (Nat.lt_succ_self w.heap.size) (show World.cell? _ ⟨w.heap.size, 2, none⟩ = some (.int .u64 xt) by simp [go_sem, c2])
  have c3 := a0.cell (Nat.lt_succ_self w.heap.size) (show World.cell? _ ⟨w.heap.size, 3, none⟩ = some (.int .i64 xs) by simp [go_sem, c3])
  have c4 := a0.cell (Nat.lt_succ_self w.heap.size) (show World.cell? _ ⟨w.heap.size, 4, none⟩ = some (.int .i64 xa) by simp [go_sem, c4])
  have c5 := a0.cell (Nat.lt_succ_self w.heap.size) (show World.cell? _ ⟨w.heap.size, 5, none⟩ = some (.int .i64 xc) by simp [go_sem, c5])
  have c6 := a0.cell (Nat.lt_succ_self w.heap.size) (show World.cell? _ ⟨w.heap.size, 6, none⟩ = some (.slice xD xn xq) by simp [go_sem, c6])
  have hown := a0.own
  have hbw := a0.chain (a := w) (by ((with_reducible repeat (first | exact hbw | exact Below.refl _ _ | apply below_alloc | refine below_set' ?_ _ | refine below_trans ?_ (grown_below _ _) | refine below_iter' ?_ _ _ | apply Below.drew)))) (Nat.le_succ _)
  clear a0
  simp only [List.cons_append, List.nil_append] at hown
  go_wp2
  rw [rounds_succ]
  go_wp2_with (go_at_call 86; ((with_reducible refine (formatUint_any _ B.t0 B.t1 _).mono ?_)))
  rintro _ _ ⟨rfl, g1, rfl⟩
  go_wp2_with (at_builtin; refine wp_append_str rfl _ _ rfl (w.heap.size + 1) ?vv1 ([⟨#[115, 110, 97, 112]⟩, ⟨(Lib.decDigits xv.toNat).toArray⟩] : List ByteArray) ?hs1 ?own1 _ ⟨(Lib.decDigits xt.toNat).toArray⟩ rfl ?hc1 (by simp) ?hb1 ?_)
  case own1 => (with_reducible repeat (first | exact hown | refine OwnS.alloc_ ?_ _ | refine OwnS.grown_ ?_ _ | refine OwnS.iter_ ?_ _ _ _ | refine OwnS.drew_ ?_))
  case hs1 => rfl
  case hc1 => simp [go_sem]
  case hb1 => exact Nat.succ_le_of_lt (inferInstance : Old w.heap.size _).lt
  intro v1 w1 a1
  haveI : Tb w1 := a1.tb hle6
  haveI : From w w1 := a1.from_ w
  haveI : Old w.heap.size w1 := a1.old _
  haveI : IterAt w1 (grown wc g).heap.size ⟨#[118, 116]⟩ 2 := a1.iter _ _ _ inferInstance
  have c0 := a1.cell (Nat.lt_succ_self w.heap.size) (show World.cell? _ ⟨w.heap.size, 0, none⟩ = some (.int .i64 4) by simp [go_sem, c0])
  have c1 := a1.cell (Nat.lt_succ_self w.heap.size) (show World.cell? _ ⟨w.heap.size, 1, none⟩ = some (.int .u64 xv) by simp [go_sem, c1])
  have c2 := a1.cell (Nat.lt_succ_self w.heap.size) (show World.cell? _ ⟨w.heap.size, 2, none⟩ = some (.int .u64 xt) by simp [go_sem, c2])
  have c3 := a1.cell (Nat.lt_succ_self w.heap.size) (show World.cell? _ ⟨w.heap.size, 3, none⟩ = some (.int .i64 xs) by simp [go_sem, c3])
  have c4 := a1.cell (Nat.lt_succ_self w.heap.size) (show World.cell? _ ⟨w.heap.size, 4, none⟩ = some (.int .i64 xa) by simp [go_sem, c4])
  have c5 := a1.cell (Nat.lt_succ_self w.heap.size) (show World.cell? _ ⟨w.heap.size, 5, none⟩ = some (.int .i64 xc) by simp [go_sem, c5])
  have c6 := a1.cell (Nat.lt_succ_self w.heap.size) (show World.cell? _ ⟨w.heap.size, 6, none⟩ = some (.slice xD xn xq) by simp [go_sem, c6])
  have hown := a1.own
  have hbw := a1.chain (a := w) (by ((with_reducible repeat (first | exact hbw | exact Below.refl _ _ | apply below_alloc | refine below_set' ?_ _ | refine below_trans ?_ (grown_below _ _) | refine below_iter' ?_ _ _ | apply Below.drew)))) (Nat.le_succ _)
  clear a1
  simp only [List.cons_append, List.nil_append] at hown
  go_wp2
  obtain ⟨VA, vc, hv, hvc, hrow⟩ := hown.form
  have hv2 : v1 = .slice VA 3 vc := hv
  clear hv
  subst hv2
  have hvc2 : 3 ≤ vc := hvc
  clear hvc
  have hJ : (Lib.join (([⟨#[115, 110, 97, 112]⟩, ⟨(Lib.decDigits xv.toNat).toArray⟩, ⟨(Lib.decDigits xt.toNat).toArray⟩] : List ByteArray).map (·.data.toList)) [32]).length ≤ 140737488355328 := by
   refine Nat.le_trans (join_len [32] rfl 300000 _ ?_) (by simp)
   intro x hx
   simp only [List.map_cons, List.map_nil, List.mem_cons, List.mem_nil_iff, or_false] at hx
   rcases hx with rfl | rfl | rfl
   ·simp
   ·have := dec_len xv.toNat (by have := B.v1; omega); simp; omega
   ·have := dec_len xt.toNat (by have := B.t1; omega); simp; omega
  have HJ := Lib.hid hJ; clear hJ
  have HROW := Lib.hid hrow; clear hrow hown
  have HLN : Hid (([⟨#[115, 110, 97, 112]⟩, ⟨(Lib.decDigits xv.toNat).toArray⟩, ⟨(Lib.decDigits xt.toNat).toArray⟩] : List ByteArray).length = 3) := Lib.hid rfl
  rw [rounds_succ]
  go_wp2_with (go_at_call 89; ((with_reducible refine (join_any _ _ _ ([⟨#[115, 110, 97, 112]⟩, ⟨(Lib.decDigits xv.toNat).toArray⟩, ⟨(Lib.decDigits xt.toNat).toArray⟩] : List ByteArray) ⟨#[32]⟩ _ HLN.out hvc2 HJ.out (by omega) (HROW.out.gr (gri))).mono ?_); rintro _ _ ⟨rfl, gz, rfl⟩))
  go_ret
  exact ⟨rfl, Gr.of (by ((with_reducible repeat (first | exact hbw | exact Below.refl _ _ | apply below_alloc | refine below_set' ?_ _ | refine below_trans ?_ (grown_below _ _) | refine below_iter' ?_ _ _ | apply Below.drew))))⟩
set_option maxRecDepth 100000 in
set_option maxHeartbeats 4000000 in
theorem opText_5 (xv xt xs xa xc : Int) (xD : Option Addr) (xn xq : Nat) (lx : List UInt8) (w : World) [hk : Tb w] (B : Bd xv xt xs xa xc) (hx : lx.length = xn) (hxq : xn ≤ xq) (hn : xn ≤ 100000) (h1 : Row bv w xD lx) : Calls Tryz.prog 39 #[(Value.agg #[.int .i64 5, .int .u64 xv, .int .u64 xt, .int .i64 xs, .int .i64 xa, .int .i64 xc, .slice xD xn xq])] w fun e w' => e = .returned (.string ⟨(Lib.join (([⟨#[119, 114, 105, 116, 101]⟩, ⟨(Lib.decDigits xv.toNat).toArray⟩, ⟨(Lib.itoa xa).toArray⟩, ⟨(dataL lx).toArray⟩] : List ByteArray).map (·.data.toList)) [32]).toArray⟩) ∧ Gr w w' := by
 have H1 := Lib.hid h1; clear h1
 have HX := Lib.hid hx; clear hx
 have en : opPartsB 5 = ⟨#[118, 97, 100]⟩ := rfl
 go_enter Tryz.func39, Tryz.ntmps39
 go_upto_region 1 with fail
 go_cut [3] (fun v wx => OwnS (w.heap.size + 1) wx v [⟨#[119, 114, 105, 116, 101]⟩] ∧ Below w.heap.size w wx ∧ From w wx ∧ Tb wx ∧ (wx.cell? ⟨w.heap.size, 0, none⟩ = some (.int .i64 5) ∧ wx.cell? ⟨w.heap.size, 1, none⟩ = some (.int .u64 xv) ∧ wx.cell? ⟨w.heap.size, 2, none⟩ = some (.int .u64 xt) ∧ wx.cell? ⟨w.heap.size, 3, none⟩ = some (.int .i64 xs) ∧ wx.cell? ⟨w.heap.size, 4, none⟩ = some (.int .i64 xa) ∧ wx.cell? ⟨w.heap.size, 5, none⟩ = some (.int .i64 xc) ∧ wx.cell? ⟨w.heap.size, 6, none⟩ = some (.slice xD xn xq)))
 case first =>
  go_region_with ((go_at_call 80; refine (opWords_any _).mono ?_; rintro e w' ⟨rfl, rfl⟩))
  all_goals
   go_wp2_with fail
   go_meet
   case rel =>
    refine ⟨?_, (gri : Gr w _).below, inferInstance, inferInstance, by simp [go_sem], by simp [go_sem], by simp [go_sem], by simp [go_sem], by simp [go_sem], by simp [go_sem], by simp [go_sem]⟩
    first
     | exact OwnS.new _ _ _ (by omega)
     | exact (OwnS.new _ _ _ (by omega)).drew_
 case rest =>
  obtain ⟨hown, hbw, hfr, htb, c0, c1, c2, c3, c4, c5, c6⟩ := hcut
  have hle6 : 6 ≤ w.heap.size + 1 := Nat.le_succ_of_le hk.size
  haveI io : Old w.heap.size wc := old_of_cell c0
  have hg0 := hbw
  go_wp2_with (go_at_call 81; ((with_reducible refine (opPartsB_any _ _).mono ?_); rintro _ _ ⟨rfl, g, rfl⟩))
  refine wp_loop_rounds 4 ?_
  rw [rounds_succ]
  go_wp2_with (go_at_call 86; ((with_reducible refine (formatUint_any _ B.v0 B.v1 _).mono ?_)))
  rintro _ _ ⟨rfl, g0, rfl⟩
  go_wp2_with (at_builtin; refine wp_append_str rfl _ _ rfl (w.heap.size + 1) ?vv0 ([⟨#[119, 114, 105, 116, 101]⟩] : List ByteArray) ?hs0 ?own0 _ ⟨(Lib.decDigits xv.toNat).toArray⟩ rfl ?hc0 (by simp) ?hb0 ?_)
  case own0 => (with_reducible repeat (first | exact hown | refine OwnS.alloc_ ?_ _ | refine OwnS.grown_ ?_ _ | refine OwnS.iter_ ?_ _ _ _ | refine OwnS.drew_ ?_))
  case hs0 => rfl
  case hc0 => simp [go_sem]
  case hb0 => exact Nat.succ_le_of_lt (inferInstance : Old w.heap.size _).lt
  intro v0 w0 a0
  haveI : Tb w0 := a0.tb hle6
  haveI : From w w0 := a0.from_ w
  haveI : Old w.heap.size w0 := a0.old _
  haveI : IterAt w0 (grown wc g).heap.size ⟨#[118, 97, 100]⟩ 1 := a0.iter _ _ _ inferInstance
  have c0 := a0.cell (Nat.lt_succ_self w.heap.size) (show World.cell? _ ⟨w.heap.size, 0, none⟩ = some (.int .i64 5) by simp [go_sem, c0])
  have c1 := a0.cell (Nat.lt_succ_self w.heap.size) (show World.cell? _ ⟨w.heap.size, 1, none⟩ = some (.int .u64 xv) by simp [go_sem, c1])
  have c2 := a0.cell (Nat.lt_succ_self w.heap.size) (show World.cell? _ ⟨w.heap.size, 2, none⟩ = some (.int .u64 xt) by simp [go_sem, c2])
  have c3 := a0.cell (Nat.lt_succ_self w.heap.size) (show World.cell? _ ⟨w.heap.size, 3, none⟩ = some (.int .i64 xs) by simp [go_sem, c3])
  have c4 := a0.cell (Nat.lt_succ_self w.heap.size) (show World.cell? _ ⟨w.heap.size, 4, none⟩ = some (.int .i64 xa) by simp [go_sem, c4])
  have c5 := a0.cell (Nat.lt_succ_self w.heap.size) (show World.cell? _ ⟨w.heap.size, 5, none⟩ = some (.int .i64 xc) by simp [go_sem, c5])
  have c6 := a0.cell (Nat.lt_succ_self w.heap.size) (show World.cell? _ ⟨w.heap.size, 6, none⟩ = some (.slice xD xn xq) by simp [go_sem, c6])
  have hown := a0.own
  have hbw := a0.chain (a := w) (by ((with_reducible repeat (first | exact hbw | exact Below.refl _ _ | apply below_alloc | refine below_set' ?_ _ | refine below_trans ?_ (grown_below _ _) | refine below_iter' ?_ _ _ | apply Below.drew)))) (Nat.le_succ _)
  clear a0
  simp only [List.cons_append, List.nil_append] at hown
  go_wp2
  rw [rounds_succ]
  go_wp2_with (go_at_call 87; ((with_reducible refine (itoa_any _ B.a0 B.a1 _).mono ?_)))
  rintro _ _ ⟨rfl, g1, rfl⟩
  go_wp2_with (at_builtin; refine wp_append_str rfl _ _ rfl (w.heap.size + 1) ?vv1 ([⟨#[119, 114, 105, 116, 101]⟩, ⟨(Lib.decDigits xv.toNat).toArray⟩] : List ByteArray) ?hs1 ?own1 _ ⟨(Lib.itoa xa).toArray⟩ rfl ?hc1 (by simp) ?hb1 ?_)
  case own1 => (with_reducible repeat (first | exact hown | refine OwnS.alloc_ ?_ _ | refine OwnS.grown_ ?_ _ | refine OwnS.iter_ ?_ _ _ _ | refine OwnS.drew_ ?_))
  case hs1 => rfl
  case hc1 => simp [go_sem]
  case hb1 => exact Nat.succ_le_of_lt (inferInstance : Old w.heap.size _).lt
  intro v1 w1 a1
  haveI : Tb w1 := a1.tb hle6
  haveI : From w w1 := a1.from_ w
  haveI : Old w.heap.size w1 := a1.old _
  haveI : IterAt w1 (grown wc g).heap.size ⟨#[118, 97, 100]⟩ 2 := a1.iter _ _ _ inferInstance
  have c0 := a1.cell (Nat.lt_succ_self w.heap.size) (show World.cell? _ ⟨w.heap.size, 0, none⟩ = some (.int .i64 5) by simp [go_sem, c0])
  have c1 := a1.cell (Nat.lt_succ_self w.heap.size) (show World.cell? _ ⟨w.heap.size, 1, none⟩ = some (.int .u64 xv) by simp [go_sem, c1])
  have c2 := a1.cell (Nat.lt_succ_self w.heap.size) (show World.cell? _ ⟨w.heap.size, 2, none⟩ = some (.int .u64 xt) by simp [go_sem, c2])
  have c3 := a1.cell (Nat.lt_succ_self w.heap.size) (show World.cell? _ ⟨w.heap.size, 3, none⟩ = some (.int .i64 xs) by simp [go_sem, c3])
  have c4 := a1.cell (Nat.lt_succ_self w.heap.size) (show World.cell? _ ⟨w.heap.size, 4, none⟩ = some (.int .i64 xa) by simp [go_sem, c4])
  have c5 := a1.cell (Nat.lt_succ_self w.heap.size) (show World.cell? _ ⟨w.heap.size, 5, none⟩ = some (.int .i64 xc) by simp [go_sem, c5])
  have c6 := a1.cell (Nat.lt_succ_self w.heap.size) (show World.cell? _ ⟨w.heap.size, 6, none⟩ = some (.slice xD xn xq) by simp [go_sem, c6])
  have hown := a1.own
  have hbw := a1.chain (a := w) (by ((with_reducible repeat (first | exact hbw | exact Below.refl _ _ | apply below_alloc | refine below_set' ?_ _ | refine below_trans ?_ (grown_below _ _) | refine below_iter' ?_ _ _ | apply Below.drew)))) (Nat.le_succ _)
  clear a1
  simp only [List.cons_append, List.nil_append] at hown
  go_wp2
  rw [rounds_succ]
  go_wp2_with (go_at_call 88; ((with_reducible refine (dataText_any _ _ _ lx _ HX.out hxq hn (H1.out.gr (by (refine Gr.of ?_; (with_reducible repeat (first | exact hbw | exact Below.refl _ _ | apply below_alloc | refine below_set' ?_ _ | refine below_trans ?_ (grown_below _ _) | refine below_iter' ?_ _ _ | apply Below.drew)))))).mono ?_)))
  rintro _ _ ⟨rfl, g2, rfl⟩
  go_wp2_with (at_builtin; refine wp_append_str rfl _ _ rfl (w.heap.size + 1) ?vv2 ([⟨#[119, 114, 105, 116, 101]⟩, ⟨(Lib.decDigits xv.toNat).toArray⟩, ⟨(Lib.itoa xa).toArray⟩] : List ByteArray) ?hs2 ?own2 _ ⟨(dataL lx).toArray⟩ rfl ?hc2 (by simp) ?hb2 ?_)
  case own2 => (with_reducible repeat (first | exact hown | refine OwnS.alloc_ ?_ _ | refine OwnS.grown_ ?_ _ | refine OwnS.iter_ ?_ _ _ _ | refine OwnS.drew_ ?_))
  case hs2 => rfl
  case hc2 => simp [go_sem]
  case hb2 => exact Nat.succ_le_of_lt (inferInstance : Old w.heap.size _).lt
  intro v2 w2 a2
  haveI : Tb w2 := a2.tb hle6
  haveI : From w w2 := a2.from_ w
  haveI : Old w.heap.size w2 := a2.old _
  haveI : IterAt w2 (grown wc g).heap.size ⟨#[118, 97, 100]⟩ 3 := a2.iter _ _ _ inferInstance
  have c0 := a2.cell (Nat.lt_succ_self w.heap.size) (show World.cell? _ ⟨w.heap.size, 0, none⟩ = some (.int .i64 5) by simp [go_sem, c0])
  have c1 := a2.cell (Nat.lt_succ_self w.heap.size) (show World.cell? _ ⟨w.heap.size, 1, none⟩ = some (.int .u64 xv) by simp [go_sem, c1])
  have c2 := a2.cell (Nat.lt_succ_self w.heap.size) (show World.cell? _ ⟨w.heap.size, 2, none⟩ = some (.int .u64 xt) by simp [go_sem, c2])
  have c3 := a2.cell (Nat.lt_succ_self w.heap.size) (show World.cell? _ ⟨w.heap.size, 3, none⟩ = some (.int .i64 xs) by simp [go_sem, c3])
  have c4 := a2.cell (Nat.lt_succ_self w.heap.size) (show World.cell? _ ⟨w.heap.size, 4, none⟩ = some (.int .i64 xa) by simp [go_sem, c4])
  have c5 := a2.cell (Nat.lt_succ_self w.heap.size) (show World.cell? _ ⟨w.heap.size, 5, none⟩ = some (.int .i64 xc) by simp [go_sem, c5])
  have c6 := a2.cell (Nat.lt_succ_self w.heap.size) (show World.cell? _ ⟨w.heap.size, 6, none⟩ = some (.slice xD xn xq) by simp [go_sem, c6])
  have hown := a2.own
  have hbw := a2.chain (a := w) (by ((with_reducible repeat (first | exact hbw | exact Below.refl _ _ | apply below_alloc | refine below_set' ?_ _ | refine below_trans ?_ (grown_below _ _) | refine below_iter' ?_ _ _ | apply Below.drew)))) (Nat.le_succ _)
  clear a2
  simp only [List.cons_append, List.nil_append] at hown
  go_wp2
  obtain ⟨VA, vc, hv, hvc, hrow⟩ := hown.form
  have hv2 : v2 = .slice VA 4 vc := hv
  clear hv
  subst hv2
  have hvc2 : 4 ≤ vc := hvc
  clear hvc
  have hJ : (Lib.join (([⟨#[119, 114, 105, 116, 101]⟩, ⟨(Lib.decDigits xv.toNat).toArray⟩, ⟨(Lib.itoa xa).toArray⟩, ⟨(dataL lx).toArray⟩] : List ByteArray).map (·.data.toList)) [32]).length ≤ 140737488355328 := by
   refine Nat.le_trans (join_len [32] rfl 300000 _ ?_) (by simp)
   intro x hx
   simp only [List.map_cons, List.map_nil, List.mem_cons, List.mem_nil_iff, or_false] at hx
   rcases hx with rfl | rfl | rfl | rfl
   ·simp
   ·have := dec_len xv.toNat (by have := B.v1; omega); simp; omega
   ·have := itoa_len _ B.a0 B.a1; simp; omega
   ·have := dataL_len lx (by have := HX.out; omega); simp; omega
  have HJ := Lib.hid hJ; clear hJ
  have HROW := Lib.hid hrow; clear hrow hown
  have HLN : Hid (([⟨#[119, 114, 105, 116, 101]⟩, ⟨(Lib.decDigits xv.toNat).toArray⟩, ⟨(Lib.itoa xa).toArray⟩, ⟨(dataL lx).toArray⟩] : List ByteArray).length = 4) := Lib.hid rfl
  rw [rounds_succ]
  go_wp2_with (go_at_call 89; ((with_reducible refine (join_any _ _ _ ([⟨#[119, 114, 105, 116, 101]⟩, ⟨(Lib.decDigits xv.toNat).toArray⟩, ⟨(Lib.itoa xa).toArray⟩, ⟨(dataL lx).toArray⟩] : List ByteArray) ⟨#[32]⟩ _ HLN.out hvc2 HJ.out (by omega) (HROW.out.gr (gri))).mono ?_); rintro _ _ ⟨rfl, gz, rfl⟩))
  go_ret
  exact ⟨rfl, Gr.of (by ((with_reducible repeat (first | exact hbw | exact Below.refl _ _ | apply below_alloc | refine below_set' ?_ _ | refine below_trans ?_ (grown_below _ _) | refine below_iter' ?_ _ _ | apply Below.drew))))⟩
set_option maxRecDepth 100000 in
set_option maxHeartbeats 4000000 in
theorem opText_6 (xv xt xs xa xc : Int) (xD : Option Addr) (xn xq : Nat) (lx : List UInt8) (w : World) [hk : Tb w] (B : Bd xv xt xs xa xc) (hx : lx.length = xn) (hxq : xn ≤ xq) (hn : xn ≤ 100000) (h1 : Row bv w xD lx) : Calls Tryz.prog 39 #[(Value.agg #[.int .i64 6, .int .u64 xv, .int .u64 xt, .int .i64 xs, .int .i64 xa, .int .i64 xc, .slice xD xn xq])] w fun e w' => e = .returned (.string ⟨(Lib.join (([⟨#[122, 101, 114, 111]⟩, ⟨(Lib.decDigits xv.toNat).toArray⟩, ⟨(Lib.itoa xa).toArray⟩, ⟨(Lib.itoa xc).toArray⟩] : List ByteArray).map (·.data.toList)) [32]).toArray⟩) ∧ Gr w w' := by
 have H1 := Lib.hid h1; clear h1
 have HX := Lib.hid hx; clear hx
 have en : opPartsB 6 = ⟨#[118, 97, 99]⟩ := rfl
 go_enter Tryz.func39, Tryz.ntmps39
 go_upto_region 1 with fail
 go_cut [3] (fun v wx => OwnS (w.heap.size + 1) wx v [⟨#[122, 101, 114, 111]⟩] ∧ Below w.heap.size w wx ∧ From w wx ∧ Tb wx ∧ (wx.cell? ⟨w.heap.size, 0, none⟩ = some (.int .i64 6) ∧ wx.cell? ⟨w.heap.size, 1, none⟩ = some (.int .u64 xv) ∧ wx.cell? ⟨w.heap.size, 2, none⟩ = some (.int .u64 xt) ∧ wx.cell? ⟨w.heap.size, 3, none⟩ = some (.int .i64 xs) ∧ wx.cell? ⟨w.heap.size, 4, none⟩ = some (.int .i64 xa) ∧ wx.cell? ⟨w.heap.size, 5, none⟩ = some (.int .i64 xc) ∧ wx.cell? ⟨w.heap.size, 6, none⟩ = some (.slice xD xn xq)))
 case first =>
  go_region_with ((go_at_call 80; refine (opWords_any _).mono ?_; rintro e w' ⟨rfl, rfl⟩))
  all_goals
   go_wp2_with fail
   go_meet
   case rel =>
    refine ⟨?_, (gri : Gr w _).below, inferInstance, inferInstance, by simp [go_sem], by simp [go_sem], by simp [go_sem], by simp [go_sem], by simp [go_sem], by simp [go_sem], by simp [go_sem]⟩
    first
     | exact OwnS.new _ _ _ (by omega)
     | exact (OwnS.new _ _ _ (by omega)).drew_
 case rest =>
  obtain ⟨hown, hbw, hfr, htb, c0, c1, c2, c3, c4, c5, c6⟩ := hcut
  have hle6 : 6 ≤ w.heap.size + 1 := Nat.le_succ_of_le hk.size
  haveI io : Old w.heap.size wc := old_of_cell c0
  have hg0 := hbw
  go_wp2_with (go_at_call 81; ((with_reducible refine (opPartsB_any _ _).mono ?_); rintro _ _ ⟨rfl, g, rfl⟩))
  refine wp_loop_rounds 4 ?_
  rw [rounds_succ]
  go_wp2_with (go_at_call 86; ((with_reducible refine (formatUint_any _ B.v0 B.v1 _).mono ?_)))
  rintro _ _ ⟨rfl, g0, rfl⟩
  go_wp2_with (at_builtin; refine wp_append_str rfl _ _ rfl (w.heap.size + 1) ?vv0 ([⟨#[122, 101, 114, 111]⟩] : List ByteArray) ?hs0 ?own0 _ ⟨(Lib.decDigits xv.toNat).toArray⟩ rfl ?hc0 (by simp) ?hb0 ?_)
  case own0 => (with_reducible repeat (first | exact hown | refine OwnS.alloc_ ?_ _ | refine OwnS.grown_ ?_ _ | refine OwnS.iter_ ?_ _ _ _ | refine OwnS.drew_ ?_))
  case hs0 => rfl
  case hc0 => simp [go_sem]
  case hb0 => exact Nat.succ_le_of_lt (inferInstance : Old w.heap.size _).lt
  intro v0 w0 a0
  haveI : Tb w0 := a0.tb hle6
  haveI : From w w0 := a0.from_ w
  haveI : Old w.heap.size w0 := a0.old _
  haveI : IterAt w0 (grown wc g).heap.size ⟨#[118, 97, 99]⟩ 1 := a0.iter _ _ _ inferInstance
  have c0 := a0.cell (Nat.lt_succ_self w.heap.size) (show World.cell? _ ⟨w.heap.size, 0, none⟩ = some (.int .i64 6) by simp [go_sem, c0])
  have c1 := a0.cell (Nat.lt_succ_self w.heap.size) (show World.cell? _ ⟨w.heap.size, 1, none⟩ = some (.int .u64 xv) by simp [go_sem, c1])
  have c2 := a0.cell (Nat.lt_succ_self w.heap.size) (show World.cell? _ ⟨w.heap.size, 2, none⟩ = some (.int .u64 xt) by simp [go_sem, c2])
  have c3 := a0.cell (Nat.lt_succ_self w.heap.size) (show World.cell? _ ⟨w.heap.size, 3, none⟩ = some (.int .i64 xs) by simp [go_sem, c3])
  have c4 := a0.cell (Nat.lt_succ_self w.heap.size) (show World.cell? _ ⟨w.heap.size, 4, none⟩ = some (.int .i64 xa) by simp [go_sem, c4])
  have c5 := a0.cell (Nat.lt_succ_self w.heap.size) (show World.cell? _ ⟨w.heap.size, 5, none⟩ = some (.int .i64 xc) by simp [go_sem, c5])
  have c6 := a0.cell (Nat.lt_succ_self w.heap.size) (show World.cell? _ ⟨w.heap.size, 6, none⟩ = some (.slice xD xn xq) by simp [go_sem, c6])
  have hown := a0.own
  have hbw := a0.chain (a := w) (by ((with_reducible repeat (first | exact hbw | exact Below.refl _ _ | apply below_alloc | refine below_set' ?_ _ | refine below_trans ?_ (grown_below _ _) | refine below_iter' ?_ _ _ | apply Below.drew)))) (Nat.le_succ _)
  clear a0
  simp only [List.cons_append, List.nil_append] at hown
  go_wp2
  rw [rounds_succ]
  go_wp2_with (go_at_call 87; ((with_reducible refine (itoa_any _ B.a0 B.a1 _).mono ?_)))
  rintro _ _ ⟨rfl, g1, rfl⟩
  go_wp2_with (at_builtin; refine wp_append_str rfl _ _ rfl (w.heap.size + 1) ?vv1 ([⟨#[122, 101, 114, 111]⟩, ⟨(Lib.decDigits xv.toNat).toArray⟩] : List ByteArray) ?hs1 ?own1 _ ⟨(Lib.itoa xa).toArray⟩ rfl ?hc1 (by simp) ?hb1 ?_)
  case own1 => (with_reducible repeat (first | exact hown | refine OwnS.alloc_ ?_ _ | refine OwnS.grown_ ?_ _ | refine OwnS.iter_ ?_ _ _ _ | refine OwnS.drew_ ?_))
  case hs1 => rfl
  case hc1 => simp [go_sem]
  case hb1 => exact Nat.succ_le_of_lt (inferInstance : Old w.heap.size _).lt
  intro v1 w1 a1
  haveI : Tb w1 := a1.tb hle6
  haveI : From w w1 := a1.from_ w
  haveI : Old w.heap.size w1 := a1.old _
  haveI : IterAt w1 (grown wc g).heap.size ⟨#[118, 97, 99]⟩ 2 := a1.iter _ _ _ inferInstance
  have c0 := a1.cell (Nat.lt_succ_self w.heap.size) (show World.cell? _ ⟨w.heap.size, 0, none⟩ = some (.int .i64 6) by simp [go_sem, c0])
  have c1 := a1.cell (Nat.lt_succ_self w.heap.size) (show World.cell? _ ⟨w.heap.size, 1, none⟩ = some (.int .u64 xv) by simp [go_sem, c1])
  have c2 := a1.cell (Nat.lt_succ_self w.heap.size) (show World.cell? _ ⟨w.heap.size, 2, none⟩ = some (.int .u64 xt) by simp [go_sem, c2])
  have c3 := a1.cell (Nat.lt_succ_self w.heap.size) (show World.cell? _ ⟨w.heap.size, 3, none⟩ = some (.int .i64 xs) by simp [go_sem, c3])
  have c4 := a1.cell (Nat.lt_succ_self w.heap.size) (show World.cell? _ ⟨w.heap.size, 4, none⟩ = some (.int .i64 xa) by simp [go_sem, c4])
  have c5 := a1.cell (Nat.lt_succ_self w.heap.size) (show World.cell? _ ⟨w.heap.size, 5, none⟩ = some (.int .i64 xc) by simp [go_sem, c5])
  have c6 := a1.cell (Nat.lt_succ_self w.heap.size) (show World.cell? _ ⟨w.heap.size, 6, none⟩ = some (.slice xD xn xq) by simp [go_sem, c6])
  have hown := a1.own
  have hbw := a1.chain (a := w) (by ((with_reducible repeat (first | exact hbw | exact Below.refl _ _ | apply below_alloc | refine below_set' ?_ _ | refine below_trans ?_ (grown_below _ _) | refine below_iter' ?_ _ _ | apply Below.drew)))) (Nat.le_succ _)
  clear a1
  simp only [List.cons_append, List.nil_append] at hown
  go_wp2
  rw [rounds_succ]
  go_wp2_with (go_at_call 87; ((with_reducible refine (itoa_any _ B.c0 B.c1 _).mono ?_)))
  rintro _ _ ⟨rfl, g2, rfl⟩
  go_wp2_with (at_builtin; refine wp_append_str rfl _ _ rfl (w.heap.size + 1) ?vv2 ([⟨#[122, 101, 114, 111]⟩, ⟨(Lib.decDigits xv.toNat).toArray⟩, ⟨(Lib.itoa xa).toArray⟩] : List ByteArray) ?hs2 ?own2 _ ⟨(Lib.itoa xc).toArray⟩ rfl ?hc2 (by simp) ?hb2 ?_)
  case own2 => (with_reducible repeat (first | exact hown | refine OwnS.alloc_ ?_ _ | refine OwnS.grown_ ?_ _ | refine OwnS.iter_ ?_ _ _ _ | refine OwnS.drew_ ?_))
  case hs2 => rfl
  case hc2 => simp [go_sem]
  case hb2 => exact Nat.succ_le_of_lt (inferInstance : Old w.heap.size _).lt
  intro v2 w2 a2
  haveI : Tb w2 := a2.tb hle6
  haveI : From w w2 := a2.from_ w
  haveI : Old w.heap.size w2 := a2.old _
  haveI : IterAt w2 (grown wc g).heap.size ⟨#[118, 97, 99]⟩ 3 := a2.iter _ _ _ inferInstance
  have c0 := a2.cell (Nat.lt_succ_self w.heap.size) (show World.cell? _ ⟨w.heap.size, 0, none⟩ = some (.int .i64 6) by simp [go_sem, c0])
  have c1 := a2.cell (Nat.lt_succ_self w.heap.size) (show World.cell? _ ⟨w.heap.size, 1, none⟩ = some (.int .u64 xv) by simp [go_sem, c1])
  have c2 := a2.cell (Nat.lt_succ_self w.heap.size) (show World.cell? _ ⟨w.heap.size, 2, none⟩ = some (.int .u64 xt) by simp [go_sem, c2])
  have c3 := a2.cell (Nat.lt_succ_self w.heap.size) (show World.cell? _ ⟨w.heap.size, 3, none⟩ = some (.int .i64 xs) by simp [go_sem, c3])
  have c4 := a2.cell (Nat.lt_succ_self w.heap.size) (show World.cell? _ ⟨w.heap.size, 4, none⟩ = some (.int .i64 xa) by simp [go_sem, c4])
  have c5 := a2.cell (Nat.lt_succ_self w.heap.size) (show World.cell? _ ⟨w.heap.size, 5, none⟩ = some (.int .i64 xc) by simp [go_sem, c5])
  have c6 := a2.cell (Nat.lt_succ_self w.heap.size) (show World.cell? _ ⟨w.heap.size, 6, none⟩ = some (.slice xD xn xq) by simp [go_sem, c6])
  have hown := a2.own
  have hbw := a2.chain (a := w) (by ((with_reducible repeat (first | exact hbw | exact Below.refl _ _ | apply below_alloc | refine below_set' ?_ _ | refine below_trans ?_ (grown_below _ _) | refine below_iter' ?_ _ _ | apply Below.drew)))) (Nat.le_succ _)
  clear a2
  simp only [List.cons_append, List.nil_append] at hown
  go_wp2
  obtain ⟨VA, vc, hv, hvc, hrow⟩ := hown.form
  have hv2 : v2 = .slice VA 4 vc := hv
  clear hv
  subst hv2
  have hvc2 : 4 ≤ vc := hvc
  clear hvc
  have hJ : (Lib.join (([⟨#[122, 101, 114, 111]⟩, ⟨(Lib.decDigits xv.toNat).toArray⟩, ⟨(Lib.itoa xa).toArray⟩, ⟨(Lib.itoa xc).toArray⟩] : List ByteArray).map (·.data.toList)) [32]).length ≤ 140737488355328 := by
   refine Nat.le_trans (join_len [32] rfl 300000 _ ?_) (by simp)
   intro x hx
   simp only [List.map_cons, List.map_nil, List.mem_cons, List.mem_nil_iff, or_false] at hx
   rcases hx with rfl | rfl | rfl | rfl
   ·simp
   ·have := dec_len xv.toNat (by have := B.v1; omega); simp; omega
   ·have := itoa_len _ B.a0 B.a1; simp; omega
   ·have := itoa_len _ B.c0 B.c1; simp; omega
  have HJ := Lib.hid hJ; clear hJ
  have HROW := Lib.hid hrow; clear hrow hown
  have HLN : Hid (([⟨#[122, 101, 114, 111]⟩, ⟨(Lib.decDigits xv.toNat).toArray⟩, ⟨(Lib.itoa xa).toArray⟩, ⟨(Lib.itoa xc).toArray⟩] : List ByteArray).length = 4) := Lib.hid rfl
  rw [rounds_succ]
  go_wp2_with (go_at_call 89; ((with_reducible refine (join_any _ _ _ ([⟨#[122, 101, 114, 111]⟩, ⟨(Lib.decDigits xv.toNat).toArray⟩, ⟨(Lib.itoa xa).toArray⟩, ⟨(Lib.itoa xc).toArray⟩] : List ByteArray) ⟨#[32]⟩ _ HLN.out hvc2 HJ.out (by omega) (HROW.out.gr (gri))).mono ?_); rintro _ _ ⟨rfl, gz, rfl⟩))
  go_ret
  exact ⟨rfl, Gr.of (by ((with_reducible repeat (first | exact hbw | exact Below.refl _ _ | apply below_alloc | refine below_set' ?_ _ | refine below_trans ?_ (grown_below _ _) | refine below_iter' ?_ _ _ | apply Below.drew))))⟩
set_option maxRecDepth 100000 in
set_option maxHeartbeats 4000000 in
theorem opText_7 (xv xt xs xa xc : Int) (xD : Option Addr) (xn xq : Nat) (lx : List UInt8) (w : World) [hk : Tb w] (B : Bd xv xt xs xa xc) (hx : lx.length = xn) (hxq : xn ≤ xq) (hn : xn ≤ 100000) (h1 : Row bv w xD lx) : Calls Tryz.prog 39 #[(Value.agg #[.int .i64 7, .int .u64 xv, .int .u64 xt, .int .i64 xs, .int .i64 xa, .int .i64 xc, .slice xD xn xq])] w fun e w' => e = .returned (.string ⟨(Lib.join (([⟨#[100, 105, 115, 99, 97, 114, 100]⟩, ⟨(Lib.decDigits xv.toNat).toArray⟩, ⟨(Lib.itoa xa).toArray⟩, ⟨(Lib.itoa xc).toArray⟩] : List ByteArray).map (·.data.toList)) [32]).toArray⟩) ∧ Gr w w' := by
 have H1 := Lib.hid h1; clear h1
 have HX := Lib.hid hx; clear hx
 have en : opPartsB 7 = ⟨#[118, 97, 99]⟩ := rfl
 go_enter Tryz.func39, Tryz.ntmps39
 go_upto_region 1 with fail
 go_cut [3] (fun v wx => OwnS (w.heap.size + 1) wx v [⟨#[100, 105, 115, 99, 97, 114, 100]⟩] ∧ Below w.heap.size w wx ∧ From w wx ∧ Tb wx ∧ (wx.cell? ⟨w.heap.size, 0, none⟩ = some (.int .i64 7) ∧ wx.cell? ⟨w.heap.size, 1, none⟩ = some (.int .u64 xv) ∧ wx.cell? ⟨w.heap.size, 2, none⟩ = some (.int .u64 xt) ∧ wx.cell? ⟨w.heap.size, 3, none⟩ = some (.int .i64 xs) ∧ wx.cell? ⟨w.heap.size, 4, none⟩ = some (.int .i64 xa) ∧ wx.cell? ⟨w.heap.size, 5, none⟩ = some (.int .i64 xc) ∧ wx.cell? ⟨w.heap.size, 6, none⟩ = some (.slice xD xn xq)))
 case first =>
  go_region_with ((go_at_call 80; refine (opWords_any _).mono ?_; rintro e w' ⟨rfl, rfl⟩))
  all_goals
   go_wp2_with fail
   go_meet
   case rel =>
    refine ⟨?_, (gri : Gr w _).below, inferInstance, inferInstance, by simp [go_sem], by simp [go_sem], by simp [go_sem], by simp [go_sem], by simp [go_sem], by simp [go_sem], by simp [go_sem]⟩
    first
     | exact OwnS.new _ _ _ (by omega)
     | exact (OwnS.new _ _ _ (by omega)).drew_
 case rest =>
  obtain ⟨hown, hbw, hfr, htb, c0, c1, c2, c3, c4, c5, c6⟩ := hcut
  have hle6 : 6 ≤ w.heap.size + 1 := Nat.le_succ_of_le hk.size
  haveI io : Old w.heap.size wc := old_of_cell c0
  have hg0 := hbw
  go_wp2_with (go_at_call 81; ((with_reducible refine (opPartsB_any _ _).mono ?_); rintro _ _ ⟨rfl, g, rfl⟩))
  refine wp_loop_rounds 4 ?_
  rw [rounds_succ]
  go_wp2_with (go_at_call 86; ((with_reducible refine (formatUint_any _ B.v0 B.v1 _).mono ?_)))
  rintro _ _ ⟨rfl, g0, rfl⟩
  go_wp2_with (at_builtin; refine wp_append_str rfl _ _ rfl (w.heap.size + 1) ?vv0 ([⟨#[100, 105, 115, 99, 97, 114, 100]⟩] : List ByteArray) ?hs0 ?own0 _ ⟨(Lib.decDigits xv.toNat).toArray⟩ rfl ?hc0 (by simp) ?hb0 ?_)
  case own0 => (with_reducible repeat (first | exact hown | refine OwnS.alloc_ ?_ _ | refine OwnS.grown_ ?_ _ | refine OwnS.iter_ ?_ _ _ _ | refine OwnS.drew_ ?_))
  case hs0 => rfl
  case hc0 => simp [go_sem]
  case hb0 => exact Nat.succ_le_of_lt (inferInstance : Old w.heap.size _).lt
  intro v0 w0 a0
  haveI : Tb w0 := a0.tb hle6
  haveI : From w w0 := a0.from_ w
  haveI : Old w.heap.size w0 := a0.old _
  haveI : IterAt w0 (grown wc g).heap.size ⟨#[118, 97, 99]⟩ 1 := a0.iter _ _ _ inferInstance
  have c0 := a0.cell (Nat.lt_succ_self w.heap.size) (show World.cell? _ ⟨w.heap.size, 0, none⟩ = some (.int .i64 7) by simp [go_sem, c0])
  have c1 := a0.cell (Nat.lt_succ_self w.heap.size) (show World.cell? _ ⟨w.heap.size, 1, none⟩ = some (.int .u64 xv) by simp [go_sem, c1])
  have c2 := a0.cell (Nat.lt_succ_self w.heap.size) (show World.cell? _ ⟨w.heap.size, 2, none⟩ = some (.int .u64 xt) by simp [go_sem, c2])
  have c3 := a0.cell (Nat.lt_succ_self w.heap.size) (show World.cell? _ ⟨w.heap.size, 3, none⟩ = some (.int .i64 xs) by simp [go_sem, c3])
  have c4 := a0.cell (Nat.lt_succ_self w.heap.size) (show World.cell? _ ⟨w.heap.size, 4, none⟩ = some (.int .i64 xa) by simp [go_sem, c4])
  have c5 := a0.cell (Nat.lt_succ_self w.heap.size) (show World.cell? _ ⟨w.heap.size, 5, none⟩ = some (.int .i64 xc) by simp [go_sem, c5])
  have c6 := a0.cell (Nat.lt_succ_self w.heap.size) (show World.cell? _ ⟨w.heap.size, 6, none⟩ = some (.slice xD xn xq) by simp [go_sem, c6])
  have hown := a0.own
  have hbw := a0.chain (a := w) (by ((with_reducible repeat (first | exact hbw | exact Below.refl _ _ | apply below_alloc | refine below_set' ?_ _ | refine below_trans ?_ (grown_below _ _) | refine below_iter' ?_ _ _ | apply Below.drew)))) (Nat.le_succ _)
  clear a0
  simp only [List.cons_append, List.nil_append] at hown
  go_wp2
  rw [rounds_succ]
  go_wp2_with (go_at_call 87; ((with_reducible refine (itoa_any _ B.a0 B.a1 _).mono ?_)))
  rintro _ _ ⟨rfl, g1, rfl⟩
  go_wp2_with (at_builtin; refine wp_append_str rfl _ _ rfl (w.heap.size + 1) ?vv1 ([⟨#[100, 105, 115, 99, 97, 114, 100]⟩, ⟨(Lib.decDigits xv.toNat).toArray⟩] : List ByteArray) ?hs1 ?own1 _ ⟨(Lib.itoa xa).toArray⟩ rfl ?hc1 (by simp) ?hb1 ?_)
  case own1 => (with_reducible repeat (first | exact hown | refine OwnS.alloc_ ?_ _ | refine OwnS.grown_ ?_ _ | refine OwnS.iter_ ?_ _ _ _ | refine OwnS.drew_ ?_))
  case hs1 => rfl
  case hc1 => simp [go_sem]
  case hb1 => exact Nat.succ_le_of_lt (inferInstance : Old w.heap.size _).lt
  intro v1 w1 a1
  haveI : Tb w1 := a1.tb hle6
  haveI : From w w1 := a1.from_ w
  haveI : Old w.heap.size w1 := a1.old _
  haveI : IterAt w1 (grown wc g).heap.size ⟨#[118, 97, 99]⟩ 2 := a1.iter _ _ _ inferInstance
  have c0 := a1.cell (Nat.lt_succ_self w.heap.size) (show World.cell? _ ⟨w.heap.size, 0, none⟩ = some (.int .i64 7) by simp [go_sem, c0])
  have c1 := a1.cell (Nat.lt_succ_self w.heap.size) (show World.cell? _ ⟨w.heap.size, 1, none⟩ = some (.int .u64 xv) by simp [go_sem, c1])
  have c2 := a1.cell (Nat.lt_succ_self w.heap.size) (show World.cell? _ ⟨w.heap.size, 2, none⟩ = some (.int .u64 xt) by simp [go_sem, c2])
  have c3 := a1.cell (Nat.lt_succ_self w.heap.size) (show World.cell? _ ⟨w.heap.size, 3, none⟩ = some (.int .i64 xs) by simp [go_sem, c3])
  have c4 := a1.cell (Nat.lt_succ_self w.heap.size) (show World.cell? _ ⟨w.heap.size, 4, none⟩ = some (.int .i64 xa) by simp [go_sem, c4])
  have c5 := a1.cell (Nat.lt_succ_self w.heap.size) (show World.cell? _ ⟨w.heap.size, 5, none⟩ = some (.int .i64 xc) by simp [go_sem, c5])
  have c6 := a1.cell (Nat.lt_succ_self w.heap.size) (show World.cell? _ ⟨w.heap.size, 6, none⟩ = some (.slice xD xn xq) by simp [go_sem, c6])
  have hown := a1.own
  have hbw := a1.chain (a := w) (by ((with_reducible repeat (first | exact hbw | exact Below.refl _ _ | apply below_alloc | refine below_set' ?_ _ | refine below_trans ?_ (grown_below _ _) | refine below_iter' ?_ _ _ | apply Below.drew)))) (Nat.le_succ _)
  clear a1
  simp only [List.cons_append, List.nil_append] at hown
  go_wp2
  rw [rounds_succ]
  go_wp2_with (go_at_call 87; ((with_reducible refine (itoa_any _ B.c0 B.c1 _).mono ?_)))
  rintro _ _ ⟨rfl, g2, rfl⟩
  go_wp2_with (at_builtin; refine wp_append_str rfl _ _ rfl (w.heap.size + 1) ?vv2 ([⟨#[100, 105, 115, 99, 97, 114, 100]⟩, ⟨(Lib.decDigits xv.toNat).toArray⟩, ⟨(Lib.itoa xa).toArray⟩] : List ByteArray) ?hs2 ?own2 _ ⟨(Lib.itoa xc).toArray⟩ rfl ?hc2 (by simp) ?hb2 ?_)
  case own2 => (with_reducible repeat (first | exact hown | refine OwnS.alloc_ ?_ _ | refine OwnS.grown_ ?_ _ | refine OwnS.iter_ ?_ _ _ _ | refine OwnS.drew_ ?_))
  case hs2 => rfl
  case hc2 => simp [go_sem]
  case hb2 => exact Nat.succ_le_of_lt (inferInstance : Old w.heap.size _).lt
  intro v2 w2 a2
  haveI : Tb w2 := a2.tb hle6
  haveI : From w w2 := a2.from_ w
  haveI : Old w.heap.size w2 := a2.old _
  haveI : IterAt w2 (grown wc g).heap.size ⟨#[118, 97, 99]⟩ 3 := a2.iter _ _ _ inferInstance
  have c0 := a2.cell (Nat.lt_succ_self w.heap.size) (show World.cell? _ ⟨w.heap.size, 0, none⟩ = some (.int .i64 7) by simp [go_sem, c0])
  have c1 := a2.cell (Nat.lt_succ_self w.heap.size) (show World.cell? _ ⟨w.heap.size, 1, none⟩ = some (.int .u64 xv) by simp [go_sem, c1])
  have c2 := a2.cell (Nat.lt_succ_self w.heap.size) (show World.cell? _ ⟨w.heap.size, 2, none⟩ = some (.int .u64 xt) by simp [go_sem, c2])
  have c3 := a2.cell (Nat.lt_succ_self w.heap.size) (show World.cell? _ ⟨w.heap.size, 3, none⟩ = some (.int .i64 xs) by simp [go_sem, c3])
  have c4 := a2.cell (Nat.lt_succ_self w.heap.size) (show World.cell? _ ⟨w.heap.size, 4, none⟩ = some (.int .i64 xa) by simp [go_sem, c4])
  have c5 := a2.cell (Nat.lt_succ_self w.heap.size) (show World.cell? _ ⟨w.heap.size, 5, none⟩ = some (.int .i64 xc) by simp [go_sem, c5])
  have c6 := a2.cell (Nat.lt_succ_self w.heap.size) (show World.cell? _ ⟨w.heap.size, 6, none⟩ = some (.slice xD xn xq) by simp [go_sem, c6])
  have hown := a2.own
  have hbw := a2.chain (a := w) (by ((with_reducible repeat (first | exact hbw | exact Below.refl _ _ | apply below_alloc | refine below_set' ?_ _ | refine below_trans ?_ (grown_below _ _) | refine below_iter' ?_ _ _ | apply Below.drew)))) (Nat.le_succ _)
  clear a2
  simp only [List.cons_append, List.nil_append] at hown
  go_wp2
  obtain ⟨VA, vc, hv, hvc, hrow⟩ := hown.form
  have hv2 : v2 = .slice VA 4 vc := hv
  clear hv
  subst hv2
  have hvc2 : 4 ≤ vc := hvc
  clear hvc
  have hJ : (Lib.join (([⟨#[100, 105, 115, 99, 97, 114, 100]⟩, ⟨(Lib.decDigits xv.toNat).toArray⟩, ⟨(Lib.itoa xa).toArray⟩, ⟨(Lib.itoa xc).toArray⟩] : List ByteArray).map (·.data.toList)) [32]).length ≤ 140737488355328 := by
   refine Nat.le_trans (join_len [32] rfl 300000 _ ?_) (by simp)
   intro x hx
   simp only [List.map_cons, List.map_nil, List.mem_cons, List.mem_nil_iff, or_false] at hx
   rcases hx with rfl | rfl | rfl | rfl
   ·simp
   ·have := dec_len xv.toNat (by have := B.v1; omega); simp; omega
   ·have := itoa_len _ B.a0 B.a1; simp; omega
   ·have := itoa_len _ B.c0 B.c1; simp; omega
  have HJ := Lib.hid hJ; clear hJ
  have HROW := Lib.hid hrow; clear hrow hown
  have HLN : Hid (([⟨#[100, 105, 115, 99, 97, 114, 100]⟩, ⟨(Lib.decDigits xv.toNat).toArray⟩, ⟨(Lib.itoa xa).toArray⟩, ⟨(Lib.itoa xc).toArray⟩] : List ByteArray).length = 4) := Lib.hid rfl
  rw [rounds_succ]
  go_wp2_with (go_at_call 89; ((with_reducible refine (join_any _ _ _ ([⟨#[100, 105, 115, 99, 97, 114, 100]⟩, ⟨(Lib.decDigits xv.toNat).toArray⟩, ⟨(Lib.itoa xa).toArray⟩, ⟨(Lib.itoa xc).toArray⟩] : List ByteArray) ⟨#[32]⟩ _ HLN.out hvc2 HJ.out (by omega) (HROW.out.gr (gri))).mono ?_); rintro _ _ ⟨rfl, gz, rfl⟩))
  go_ret
  exact ⟨rfl, Gr.of (by ((with_reducible repeat (first | exact hbw | exact Below.refl _ _ | apply below_alloc | refine below_set' ?_ _ | refine below_trans ?_ (grown_below _ _) | refine below_iter' ?_ _ _ | apply Below.drew))))⟩
set_option maxRecDepth 100000 in
set_option maxHeartbeats 4000000 in
theorem opText_8 (xv xt xs xa xc : Int) (xD : Option Addr) (xn xq : Nat) (lx : List UInt8) (w : World) [hk : Tb w] (B : Bd xv xt xs xa xc) (hx : lx.length = xn) (hxq : xn ≤ xq) (hn : xn ≤ 100000) (h1 : Row bv w xD lx) : Calls Tryz.prog 39 #[(Value.agg #[.int .i64 8, .int .u64 xv, .int .u64 xt, .int .i64 xs, .int .i64 xa, .int .i64 xc, .slice xD xn xq])] w fun e w' => e = .returned (.string ⟨(Lib.join (([⟨#[102, 108, 117, 115, 104]⟩] : List ByteArray).map (·.data.toList)) [32]).toArray⟩) ∧ Gr w w' := by
 have H1 := Lib.hid h1; clear h1
 have HX := Lib.hid hx; clear hx
 have en : opPartsB 8 = ⟨#[]⟩ := rfl
 go_enter Tryz.func39, Tryz.ntmps39
 go_upto_region 1 with fail
 go_cut [3] (fun v wx => OwnS (w.heap.size + 1) wx v [⟨#[102, 108, 117, 115, 104]⟩] ∧ Below w.heap.size w wx ∧ From w wx ∧ Tb wx ∧ (wx.cell? ⟨w.heap.size, 0, none⟩ = some (.int .i64 8) ∧ wx.cell? ⟨w.heap.size, 1, none⟩ = some (.int .u64 xv) ∧ wx.cell? ⟨w.heap.size, 2, none⟩ = some (.int .u64 xt) ∧ wx.cell? ⟨w.heap.size, 3, none⟩ = some (.int .i64 xs) ∧ wx.cell? ⟨w.heap.size, 4, none⟩ = some (.int .i64 xa) ∧ wx.cell? ⟨w.heap.size, 5, none⟩ = some (.int .i64 xc) ∧ wx.cell? ⟨w.heap.size, 6, none⟩ = some (.slice xD xn xq)))
 case first =>
  go_region_with ((go_at_call 80; refine (opWords_any _).mono ?_; rintro e w' ⟨rfl, rfl⟩))
  all_goals
   go_wp2_with fail
   go_meet
   case rel =>
    refine ⟨?_, (gri : Gr w _).below, inferInstance, inferInstance, by simp [go_sem], by simp [go_sem], by simp [go_sem], by simp [go_sem], by simp [go_sem], by simp [go_sem], by simp [go_sem]⟩
    first
     | exact OwnS.new _ _ _ (by omega)
     | exact (OwnS.new _ _ _ (by omega)).drew_
 case rest =>
  obtain ⟨hown, hbw, hfr, htb, c0, c1, c2, c3, c4, c5, c6⟩ := hcut
  have hle6 : 6 ≤ w.heap.size + 1 := Nat.le_succ_of_le hk.size
  haveI io : Old w.heap.size wc := old_of_cell c0
  have hg0 := hbw
  go_wp2_with (go_at_call 81; ((with_reducible refine (opPartsB_any _ _).mono ?_); rintro _ _ ⟨rfl, g, rfl⟩))
  refine wp_loop_rounds 1 ?_
  obtain ⟨VA, vc, hv, hvc, hrow⟩ := hown.form
  have hv2 : _ = Value.slice VA 1 vc := hv
  clear hv
  subst hv2
  have hvc2 : 1 ≤ vc := hvc
  clear hvc
  have hJ : (Lib.join (([⟨#[102, 108, 117, 115, 104]⟩] : List ByteArray).map (·.data.toList)) [32]).length ≤ 140737488355328 := by
   refine Nat.le_trans (join_len [32] rfl 300000 _ ?_) (by simp)
   intro x hx
   simp only [List.map_cons, List.map_nil, List.mem_cons, List.mem_nil_iff, or_false] at hx
   rcases hx with rfl
   ·simp
  have HJ := Lib.hid hJ; clear hJ
  have HROW := Lib.hid hrow; clear hrow hown
  have HLN : Hid (([⟨#[102, 108, 117, 115, 104]⟩] : List ByteArray).length = 1) := Lib.hid rfl
  rw [rounds_succ]
  go_wp2_with (go_at_call 89; ((with_reducible refine (join_any _ _ _ ([⟨#[102, 108, 117, 115, 104]⟩] : List ByteArray) ⟨#[32]⟩ _ HLN.out hvc2 HJ.out (by omega) (HROW.out.gr (gri))).mono ?_); rintro _ _ ⟨rfl, gz, rfl⟩))
  go_ret
  exact ⟨rfl, Gr.of (by ((with_reducible repeat (first | exact hbw | exact Below.refl _ _ | apply below_alloc | refine below_set' ?_ _ | refine below_trans ?_ (grown_below _ _) | refine below_iter' ?_ _ _ | apply Below.drew))))⟩
set_option maxRecDepth 100000 in
set_option maxHeartbeats 4000000 in
theorem opText_9 (xv xt xs xa xc : Int) (xD : Option Addr) (xn xq : Nat) (lx : List UInt8) (w : World) [hk : Tb w] (B : Bd xv xt xs xa xc) (hx : lx.length = xn) (hxq : xn ≤ xq) (hn : xn ≤ 100000) (h1 : Row bv w xD lx) : Calls Tryz.prog 39 #[(Value.agg #[.int .i64 9, .int .u64 xv, .int .u64 xt, .int .i64 xs, .int .i64 xa, .int .i64 xc, .slice xD xn xq])] w fun e w' => e = .returned (.string ⟨(Lib.join (([⟨#[114, 101, 97, 100]⟩, ⟨(Lib.decDigits xv.toNat).toArray⟩, ⟨(Lib.itoa xa).toArray⟩, ⟨(Lib.itoa xc).toArray⟩] : List ByteArray).map (·.data.toList)) [32]).toArray⟩) ∧ Gr w w' := by
 have H1 := Lib.hid h1; clear h1
 have HX := Lib.hid hx; clear hx
 have en : opPartsB 9 = ⟨#[118, 97, 99]⟩ := rfl
 go_enter Tryz.func39, Tryz.ntmps39
 go_upto_region 1 with fail
 go_cut [3] (fun v wx => OwnS (w.heap.size + 1) wx v [⟨#[114, 101, 97, 100]⟩] ∧ Below w.heap.size w wx ∧ From w wx ∧ Tb wx ∧ (wx.cell? ⟨w.heap.size, 0, none⟩ = some (.int .i64 9) ∧ wx.cell? ⟨w.heap.size, 1, none⟩ = some (.int .u64 xv) ∧ wx.cell? ⟨w.heap.size, 2, none⟩ = some (.int .u64 xt) ∧ wx.cell? ⟨w.heap.size, 3, none⟩ = some (.int .i64 xs) ∧ wx.cell? ⟨w.heap.size, 4, none⟩ = some (.int .i64 xa) ∧ wx.cell? ⟨w.heap.size, 5, none⟩ = some (.int .i64 xc) ∧ wx.cell? ⟨w.heap.size, 6, none⟩ = some (.slice xD xn xq)))
 case first =>
  go_region_with ((go_at_call 80; refine (opWords_any _).mono ?_; rintro e w' ⟨rfl, rfl⟩))
  all_goals
   go_wp2_with fail
   go_meet
   case rel =>
    refine ⟨?_, (gri : Gr w _).below, inferInstance, inferInstance, by simp [go_sem], by simp [go_sem], by simp [go_sem], by simp [go_sem], by simp [go_sem], by simp [go_sem], by simp [go_sem]⟩
    first
     | exact OwnS.new _ _ _ (by omega)
     | exact (OwnS.new _ _ _ (by omega)).drew_
 case rest =>
  obtain ⟨hown, hbw, hfr, htb, c0, c1, c2, c3, c4, c5, c6⟩ := hcut
  have hle6 : 6 ≤ w.heap.size + 1 := Nat.le_succ_of_le hk.size
  haveI io : Old w.heap.size wc := old_of_cell c0
  have hg0 := hbw
  go_wp2_with (go_at_call 81; ((with_reducible refine (opPartsB_any _ _).mono ?_); rintro _ _ ⟨rfl, g, rfl⟩))
  refine wp_loop_rounds 4 ?_
  rw [rounds_succ]
  go_wp2_with (go_at_call 86; ((with_reducible refine (formatUint_any _ B.v0 B.v1 _).mono ?_)))
  rintro _ _ ⟨rfl, g0, rfl⟩
  go_wp2_with (at_builtin; refine wp_append_str rfl _ _ rfl (w.heap.size + 1) ?vv0 ([⟨#[114, 101, 97, 100]⟩] : List ByteArray) ?hs0 ?own0 _ ⟨(Lib.decDigits xv.toNat).toArray⟩ rfl ?hc0 (by simp) ?hb0 ?_)
  case own0 => (with_reducible repeat (first | exact hown | refine OwnS.alloc_ ?_ _ | refine OwnS.grown_ ?_ _ | refine OwnS.iter_ ?_ _ _ _ | refine OwnS.drew_ ?_))
  case hs0 => rfl
  case hc0 => simp [go_sem]
  case hb0 => exact Nat.succ_le_of_lt (inferInstance : Old w.heap.size _).lt
  intro v0 w0 a0
  haveI : Tb w0 := a0.tb hle6
  haveI : From w w0 := a0.from_ w
  haveI : Old w.heap.size w0 := a0.old _
  haveI : IterAt w0 (grown wc g).heap.size ⟨#[118, 97, 99]⟩ 1 := a0.iter _ _ _ inferInstance
  have c0 := a0.cell (Nat.lt_succ_self w.heap.size) (show World.cell? _ ⟨w.heap.size, 0, none⟩ = some (.int .i64 9) by simp [go_sem, c0])
  have c1 := a0.cell (Nat.lt_succ_self w.heap.size) (show World.cell? _ ⟨w.heap.size, 1, none⟩ = some (.int .u64 xv) by simp [go_sem, c1])
  have c2 := a0.cell (Nat.lt_succ_self w.heap.size) (show World.cell? _ ⟨w.heap.size, 2, none⟩ = some (.int .u64 xt) by simp [go_sem, c2])
  have c3 := a0.cell (Nat.lt_succ_self w.heap.size) (show World.cell? _ ⟨w.heap.size, 3, none⟩ = some (.int .i64 xs) by simp [go_sem, c3])
  have c4 := a0.cell (Nat.lt_succ_self w.heap.size) (show World.cell? _ ⟨w.heap.size, 4, none⟩ = some (.int .i64 xa) by simp [go_sem, c4])
  have c5 := a0.cell (Nat.lt_succ_self w.heap.size) (show World.cell? _ ⟨w.heap.size, 5, none⟩ = some (.int .i64 xc) by simp [go_sem, c5])
  have c6 := a0.cell (Nat.lt_succ_self w.heap.size) (show World.cell? _ ⟨w.heap.size, 6, none⟩ = some (.slice xD xn xq) by simp [go_sem, c6])
  have hown := a0.own
  have hbw := a0.chain (a := w) (by ((with_reducible repeat (first | exact hbw | exact Below.refl _ _ | apply below_alloc | refine below_set' ?_ _ | refine below_trans ?_ (grown_below _ _) | refine below_iter' ?_ _ _ | apply Below.drew)))) (Nat.le_succ _)
  clear a0
  simp only [List.cons_append, List.nil_append] at hown
  go_wp2
  rw [rounds_succ]
  go_wp2_with (go_at_call 87; ((with_reducible refine (itoa_any _ B.a0 B.a1 _).mono ?_)))
  rintro _ _ ⟨rfl, g1, rfl⟩
  go_wp2_with (at_builtin; refine wp_append_str rfl _ _ rfl (w.heap.size + 1) ?vv1 ([⟨#[114, 101, 97, 100]⟩, ⟨(Lib.decDigits xv.toNat).toArray⟩] : List ByteArray) ?hs1 ?own1 _ ⟨(Lib.itoa xa).toArray⟩ rfl ?hc1 (by simp) ?hb1 ?_)
  case own1 => (with_reducible repeat (first | exact hown | refine OwnS.alloc_ ?_ _ | refine OwnS.grown_ ?_ _ | refine OwnS.iter_ ?_ _ _ _ | refine OwnS.drew_ ?_))
  case hs1 => rfl
  case hc1 => simp [go_sem]
  case hb1 => exact Nat.succ_le_of_lt (inferInstance : Old w.heap.size _).lt
  intro v1 w1 a1
  haveI : Tb w1 := a1.tb hle6
  haveI : From w w1 := a1.from_ w
  haveI : Old w.heap.size w1 := a1.old _
  haveI : IterAt w1 (grown wc g).heap.size ⟨#[118, 97, 99]⟩ 2 := a1.iter _ _ _ inferInstance
  have c0 := a1.cell (Nat.lt_succ_self w.heap.size) (show World.cell? _ ⟨w.heap.size, 0, none⟩ = some (.int .i64 9) by simp [go_sem, c0])
  have c1 := a1.cell (Nat.lt_succ_self w.heap.size) (show World.cell? _ ⟨w.heap.size, 1, none⟩ = some (.int .u64 xv) by simp [go_sem, c1])
  have c2 := a1.cell (Nat.lt_succ_self w.heap.size) (show World.cell? _ ⟨w.heap.size, 2, none⟩ = some (.int .u64 xt) by simp [go_sem, c2])
  have c3 := a1.cell (Nat.lt_succ_self w.heap.size) (show World.cell? _ ⟨w.heap.size, 3, none⟩ = some (.int .i64 xs) by simp [go_sem, c3])
  have c4 := a1.cell (Nat.lt_succ_self w.heap.size) (show World.cell? _ ⟨w.heap.size, 4, none⟩ = some (.int .i64 xa) by simp [go_sem, c4])
  have c5 := a1.cell (Nat.lt_succ_self w.heap.size) (show World.cell? _ ⟨w.heap.size, 5, none⟩ = some (.int .i64 xc) by simp [go_sem, c5])
  have c6 := a1.cell (Nat.lt_succ_self w.heap.size) (show World.cell? _ ⟨w.heap.size, 6, none⟩ = some (.slice xD xn xq) by simp [go_sem, c6])
  have hown := a1.own
  have hbw := a1.chain (a := w) (by ((with_reducible repeat (first | exact hbw | exact Below.refl _ _ | apply below_alloc | refine below_set' ?_ _ | refine below_trans ?_ (grown_below _ _) | refine below_iter' ?_ _ _ | apply Below.drew)))) (Nat.le_succ _)
  clear a1
  simp only [List.cons_append, List.nil_append] at hown
  go_wp2
  rw [rounds_succ]
  go_wp2_with (go_at_call 87; ((with_reducible refine (itoa_any _ B.c0 B.c1 _).mono ?_)))
  rintro _ _ ⟨rfl, g2, rfl⟩
  go_wp2_with (at_builtin; refine wp_append_str rfl _ _ rfl (w.heap.size + 1) ?vv2 ([⟨#[114, 101, 97, 100]⟩, ⟨(Lib.decDigits xv.toNat).toArray⟩, ⟨(Lib.itoa xa).toArray⟩] : List ByteArray) ?hs2 ?own2 _ ⟨(Lib.itoa xc).toArray⟩ rfl ?hc2 (by simp) ?hb2 ?_)
  case own2 => (with_reducible repeat (first | exact hown | refine OwnS.alloc_ ?_ _ | refine OwnS.grown_ ?_ _ | refine OwnS.iter_ ?_ _ _ _ | refine OwnS.drew_ ?_))
  case hs2 => rfl
  case hc2 => simp [go_sem]
  case hb2 => exact Nat.succ_le_of_lt (inferInstance : Old w.heap.size _).lt
  intro v2 w2 a2
  haveI : Tb w2 := a2.tb hle6
  haveI : From w w2 := a2.from_ w
  haveI : Old w.heap.size w2 := a2.old _
  haveI : IterAt w2 (grown wc g).heap.size ⟨#[118, 97, 99]⟩ 3 := a2.iter _ _ _ inferInstance
  have c0 := a2.cell (Nat.lt_succ_self w.heap.size) (show World.cell? _ ⟨w.heap.size, 0, none⟩ = some (.int .i64 9) by simp [go_sem, c0])
  have c1 := a2.cell (Nat.lt_succ_self w.heap.size) (show World.cell? _ ⟨w.heap.size, 1, none⟩ = some (.int .u64 xv) by simp [go_sem, c1])
  have c2 := a2.cell (Nat.lt_succ_self w.heap.size) (show World.cell? _ ⟨w.heap.size, 2, none⟩ = some (.int .u64 xt) by simp [go_sem, c2])
  have c3 := a2.cell (Nat.lt_succ_self w.heap.size) (show World.cell? _ ⟨w.heap.size, 3, none⟩ = some (.int .i64 xs) by simp [go_sem, c3])
  have c4 := a2.cell (Nat.lt_succ_self w.heap.size) (show World.cell? _ ⟨w.heap.size, 4, none⟩ = some (.int .i64 xa) by simp [go_sem, c4])
  have c5 := a2.cell (Nat.lt_succ_self w.heap.size) (show World.cell? _ ⟨w.heap.size, 5, none⟩ = some (.int .i64 xc) by simp [go_sem, c5])
  have c6 := a2.cell (Nat.lt_succ_self w.heap.size) (show World.cell? _ ⟨w.heap.size, 6, none⟩ = some (.slice xD xn xq) by simp [go_sem, c6])
  have hown := a2.own
  have hbw := a2.chain (a := w) (by ((with_reducible repeat (first | exact hbw | exact Below.refl _ _ | apply below_alloc | refine below_set' ?_ _ | refine below_trans ?_ (grown_below _ _) | refine below_iter' ?_ _ _ | apply Below.drew)))) (Nat.le_succ _)
  clear a2
  simp only [List.cons_append, List.nil_append] at hown
  go_wp2
  obtain ⟨VA, vc, hv, hvc, hrow⟩ := hown.form
  have hv2 : v2 = .slice VA 4 vc := hv
  clear hv
  subst hv2
  have hvc2 : 4 ≤ vc := hvc
  clear hvc
  have hJ : (Lib.join (([⟨#[114, 101, 97, 100]⟩, ⟨(Lib.decDigits xv.toNat).toArray⟩, ⟨(Lib.itoa xa).toArray⟩, ⟨(Lib.itoa xc).toArray⟩] : List ByteArray).map (·.data.toList)) [32]).length ≤ 140737488355328 := by
   refine Nat.le_trans (join_len [32] rfl 300000 _ ?_) (by simp)
   intro x hx
   simp only [List.map_cons, List.map_nil, List.mem_cons, List.mem_nil_iff, or_false] at hx
   rcases hx with rfl | rfl | rfl | rfl
   ·simp
   ·have := dec_len xv.toNat (by have := B.v1; omega); simp; omega
   ·have := itoa_len _ B.a0 B.a1; simp; omega
   ·have := itoa_len _ B.c0 B.c1; simp; omega
  have HJ := Lib.hid hJ; clear hJ
  have HROW := Lib.hid hrow; clear hrow hown
  have HLN : Hid (([⟨#[114, 101, 97, 100]⟩, ⟨(Lib.decDigits xv.toNat).toArray⟩, ⟨(Lib.itoa xa).toArray⟩, ⟨(Lib.itoa xc).toArray⟩] : List ByteArray).length = 4) := Lib.hid rfl
  rw [rounds_succ]
  go_wp2_with (go_at_call 89; ((with_reducible refine (join_any _ _ _ ([⟨#[114, 101, 97, 100]⟩, ⟨(Lib.decDigits xv.toNat).toArray⟩, ⟨(Lib.itoa xa).toArray⟩, ⟨(Lib.itoa xc).toArray⟩] : List ByteArray) ⟨#[32]⟩ _ HLN.out hvc2 HJ.out (by omega) (HROW.out.gr (gri))).mono ?_); rintro _ _ ⟨rfl, gz, rfl⟩))
  go_ret
  exact ⟨rfl, Gr.of (by ((with_reducible repeat (first | exact hbw | exact Below.refl _ _ | apply below_alloc | refine below_set' ?_ _ | refine below_trans ?_ (grown_below _ _) | refine below_iter' ?_ _ _ | apply Below.drew))))⟩
def opPieces (xk xv xt xs xa xc : Int) (lx : List UInt8) : List ByteArray := if xk = 1 then [⟨#[99, 114, 101, 97, 116, 101]⟩, ⟨(Lib.decDigits xv.toNat).toArray⟩, ⟨(Lib.itoa xs).toArray⟩] else if xk = 2 then [⟨#[100, 101, 108, 101, 116, 101]⟩, ⟨(Lib.decDigits xv.toNat).toArray⟩] else if xk = 3 then [⟨#[114, 101, 115, 105, 122, 101]⟩, ⟨(Lib.decDigits xv.toNat).toArray⟩, ⟨(Lib.itoa xs).toArray⟩] else if xk = 4 then [⟨#[115, 110, 97, 112]⟩, ⟨(Lib.decDigits xv.toNat).toArray⟩, ⟨(Lib.decDigits xt.toNat).toArray⟩] else if xk = 5 then [⟨#[119, 114, 105, 116, 101]⟩, ⟨(Lib.decDigits xv.toNat).toArray⟩, ⟨(Lib.itoa xa).toArray⟩, ⟨(dataL lx).toArray⟩] else if xk = 6 then [⟨#[122, 101, 114, 111]⟩, ⟨(Lib.decDigits xv.toNat).toArray⟩, ⟨(Lib.itoa xa).toArray⟩, ⟨(Lib.itoa xc).toArray⟩] else if xk = 7 then [⟨#[100, 105, 115, 99, 97, 114, 100]⟩, ⟨(Lib.decDigits xv.toNat).toArray⟩, ⟨(Lib.itoa xa).toArray⟩, ⟨(Lib.itoa xc).toArray⟩] else if xk = 8 then [⟨#[102, 108, 117, 115, 104]⟩] else if xk = 9 then [⟨#[114, 101, 97, 100]⟩, ⟨(Lib.decDigits xv.toNat).toArray⟩, ⟨(Lib.itoa xa).toArray⟩, ⟨(Lib.itoa xc).toArray⟩] else []
def opTextL (xk xv xt xs xa xc : Int) (lx : List UInt8) : List UInt8 := Lib.join ((opPieces xk xv xt xs xa xc lx).map (·.data.toList)) [32]
theorem opText_any (xk xv xt xs xa xc : Int) (xD : Option Addr) (xn xq : Nat) (lx : List UInt8) (w : World) [hk : Tb w] (k1 : 1 ≤ xk) (k9 : xk ≤ 9) (B : Bd xv xt xs xa xc) (hx : lx.length = xn) (hxq : xn ≤ xq) (hn : xn ≤ 100000) (h1 : Row bv w xD lx) : Calls Tryz.prog 39 #[(Value.agg #[.int .i64 xk, .int .u64 xv, .int .u64 xt, .int .i64 xs, .int .i64 xa, .int .i64 xc, .slice xD xn xq])] w fun e w' => e = .returned (.string ⟨(opTextL xk xv xt xs xa xc lx).toArray⟩) ∧ Gr w w' := by
 have h3 : xk = 1 ∨ xk = 2 ∨ xk = 3 ∨ xk = 4 ∨ xk = 5 ∨ xk = 6 ∨ xk = 7 ∨ xk = 8 ∨ xk = 9 := by omega
 rcases h3 with rfl | rfl | rfl | rfl | rfl | rfl | rfl | rfl | rfl
 ·exact opText_1 xv xt xs xa xc xD xn xq lx w B hx hxq hn h1
 ·exact opText_2 xv xt xs xa xc xD xn xq lx w B hx hxq hn h1
 ·exact opText_3 xv xt xs xa xc xD xn xq lx w B hx hxq hn h1
 ·exact opText_4 xv xt xs xa xc xD xn xq lx w B hx hxq hn h1
 ·exact opText_5 xv xt xs xa xc xD xn xq lx w B hx hxq hn h1
 ·exact opText_6 xv xt xs xa xc xD xn xq lx w B hx hxq hn h1
 ·exact opText_7 xv xt xs xa xc xD xn xq lx w B hx hxq hn h1
 ·exact opText_8 xv xt xs xa xc xD xn xq lx w B hx hxq hn h1
 ·exact opText_9 xv xt xs xa xc xD xn xq lx w B hx hxq hn h1
end Go.Proofs.YtgjdgafoidppaaaGreatDoor
