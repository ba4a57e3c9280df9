/- slices.insertionSortOrdered. Conditions: the row stands in memory, at most 10^6 elements. slices.siftDownOrdered. Conditions: the row stands in memory, at most 10^6 elements. slices.heapSortOrdered. Conditions: the row stands in memory, at most 10^6 elements. slices.partitionOrdered. Conditions: the row stands in memory, at most 10^6 elements. slices.reverseRangeOrdered. Conditions: the row stands in memory, at most 10^6 elements. -/
import Derived.Test.YtddckdhnolmjoaaGreatV09
import Derived.Deep.CutBlock
namespace Go.Proofs.YtddckdhnolmjoaaGreat
open Go.RowKit
set_option linter.unusedVariables false
set_option linter.unusedSimpArgs false
set_option linter.unnecessarySimpa false
set_option maxRecDepth 100000
set_option maxHeartbeats 4000000

theorem insertion_any {F : Nat} (base : Bs) (g n c : Nat) (xs : List Int) (a b : Nat) (w : World) (h : SA base w g n c xs) (hn : n ≤ 1000000) (hab : a ≤ b) (hb : b ≤ n) (hq : base.is 118 129 F := by first | exact .inl ⟨by assumption, by assumption, rfl⟩ | exact .inr ⟨by assumption, by assumption, rfl⟩) :
  Calls Tryz.prog F #[.slice (some ⟨g, 0, none⟩) n c, .int .i64 (a : Int), .int .i64 (b : Int)] w fun e w' => e = .returned (.tuple #[]) ∧ ∃ ys, SA base w' g n c ys ∧ RP a b xs ys ∧ Srt ys a b ∧ Onl w w' g := by
 rcases hq with ⟨kq, tq, rfl⟩ | ⟨kq, tq, rfl⟩
 all_goals
  have H := Lib.hid h
  clear h
  first | go_enter Tryz.func118, Tryz.ntmps118 | go_enter Tryz.func129, Tryz.ntmps129
  go_wp2
  go_loopw [6] (fun v6 wr => ∃ (i : Nat) (ys : List Int), a + 1 ≤ i ∧ (i ≤ b ∨ i = a + 1) ∧ v6 = .int .i64 (i : Int) ∧ SA base wr g n c ys ∧ RP a b xs ys ∧ Srt ys a i ∧ Onl w wr g) (fun v _ => b - (intOf v).toNat)
  case atStart => exact ⟨a + 1, xs, Nat.le_refl _, .inr rfl, by go_num, H.out.gr gri, .refl, fun i j h1 h2 h3 => by omega, Onl.of_gr gri g⟩
  case round =>
   obtain ⟨i, ys, hi1, hi2, rfl, hsa, hrp, hs, ho⟩ := hrel
   have HSA := Lib.hid hsa
   have HRP := Lib.hid hrp
   have HS := Lib.hid hs
   have HO := Lib.hid ho
   have hyl := hsa.len
   clear hsa hrp hs ho hi2
   obtain ⟨wo, rfl⟩ : ∃ wo : World, wo = wr := ⟨_, rfl⟩
   by_cases hib : i < b
   ·go_wp2
    go_loopw [7] (fun v7 wr => ∃ (j : Nat) (zs : List Int), a ≤ j ∧ j ≤ i ∧ v7 = .int .i64 (j : Int) ∧ SA base wr g n c zs ∧ RP a b xs zs ∧ Ins zs a i j ∧ Onl w wr g) (fun v _ => (intOf v).toNat)
    case atStart => exact ⟨i, ys, by omega, Nat.le_refl _, rfl, HSA.out.gr gri, HRP.out, ins_start HS.out, HO.out.trans (Onl.of_gr gri g)⟩
    case round =>
     obtain ⟨j, zs, hj1, hj2, rfl, hsa, hrp, hin, ho⟩ := hrel
     have HSA2 := Lib.hid hsa
     have HRP2 := Lib.hid hrp
     have HIN := Lib.hid hin
     have HO2 := Lib.hid ho
     have hzl := hsa.len
     haveI : Old g wr := ⟨hsa.lt⟩
     by_cases hja : a < j
     ·obtain ⟨m, hmj⟩ : ∃ m, m + 1 = j := ⟨j - 1, by omega⟩
      have c0 := hsa.cell kq j (by omega)
      have c1 := hsa.cell kq m (by omega)
      have hja2 : (a : Int) < (j : Int) := by omega
      have hjm : (j : Int) - 1 = (m : Int) := by omega
      have hw1 : IntKind.i64.wrap (m : Int) = (m : Int) := wrapS m (by omega)
      have hm1 : (m : Int) < (n : Int) := by omega
      have hm2 : (j : Int) < (n : Int) := by omega
      clear hsa hrp hin ho
      by_cases hlt : at0 zs j < at0 zs m
      ·have HL := Lib.hid (fun W => less_yes kq hlt W)
       have HLT := Lib.hid hlt
       clear hlt
       go_wp2
       refine wp_region_grow (by kernel_rfl) (by kernel_rfl) ?_
       repeat (go_big_quiet_step ((first | ((first | go_at_call 124 | go_at_call 135); exact grow_call (HL.out _)))))
       refine wpQuiet_nil ?_
       intro g1
       go_wp2
       have HSA3 := HSA2.out.gr (gri : Gr wr (grown wr g1))
       refine wp_region_treeJ ⟨fun w' => Gr (grown wr g1) w', true, fun _ _ h => h, fun _ _ _ h g => h.trans g⟩ rfl (Gr.of ((Below.refl _ _).drew)) [2, 3, 4] [0, 1, 5, 6, 7, 8, 9, 10, 11, 12, 13] 4 15 (by kernel_rfl) (by kernel_rfl) ?_
       simp only [pick, List.drop, List.take, List.nil_append, List.cons_append]
       refine wpPure_step (.slice (some ⟨g, 0, none⟩) n c) rfl (fun w => by go_simp) ?_
       simp only [Act.put, List.setIfInBounds_toArray, List.set]
       refine wpPure_step (.int .i64 (j : Int)) rfl (fun w => by go_simp) ?_
       simp only [Act.put, List.setIfInBounds_toArray, List.set]
       refine wpPure_step (.int .i64 (m : Int)) rfl (fun w => by go_simp) ?_
       simp only [Act.put, List.setIfInBounds_toArray, List.set]
       show wpCalm _ _ _ _ _ _
       repeat (refine wpCalm_step (fun K hK => ?_); go_simp; first | (refine hK _ ?_; clear hK K) | (apply Exists.intro; refine ⟨fun _ => ?_, hK _ ?_⟩; (skip); clear hK K))
       refine wpCalm_nil ?_
       refine fg_one 14 (by kernel_rfl) ?_
       refine fg_pure (.pointer (some ⟨g, j, none⟩)) rfl rfl rfl (fun w => by go_simp) ?_
       simp only [Act.put, List.setIfInBounds_toArray, List.set]
       refine fg_one 15 (by kernel_rfl) ?_
       refine fg_effN rfl rfl rfl (fun w1 hw1 => ?_)
       have sa1 := SA.gr HSA3 hw1
       have t0 := sa1.cell kq j (by have := hzl; omega)
       have t1 := sa1.frozen j
       haveI oG : Old g w1 := ⟨sa1.lt⟩
       have hrun := st_run kq tq g j w1 ((at0 zs m)) (by assumption) (by assumption)
       refine effAt_stS rfl rfl rfl hrun ⟨⟨fun w2 => SA base w2 g n c (zs.set j (at0 zs m)) ∧ Onl (grown wr g1) w2 g, false, fun e => Bool.noConfusion e, fun e => Bool.noConfusion e⟩, ⟨sa1.put kq j _ (by have := hzl; omega), (Onl.of_gr hw1 g).trans (Onl.set _ g j _)⟩, fun e => absurd rfl e, ?_⟩
       clear oG sa1 t0 t1 hrun hw1 w1
       try simp only [Act.put, List.setIfInBounds_toArray, List.set]
       refine fg_one 16 (by kernel_rfl) ?_
       refine fg_pure (.pointer (some ⟨g, m, none⟩)) rfl rfl rfl (fun w => by go_simp) ?_
       simp only [Act.put, List.setIfInBounds_toArray, List.set]
       refine fg_one 17 (by kernel_rfl) ?_
       refine fg_effN rfl rfl rfl (fun w1 hw1 => ?_)
       have t0 := hw1.1.cell kq m (by rw [List.length_set]; have := hzl; omega)
       have t1 := hw1.1.frozen m
       haveI oG : Old g w1 := ⟨hw1.1.lt⟩
       have hrun := st_run kq tq g m w1 ((at0 zs j)) (by assumption) (by assumption)
       refine effAt_stS rfl rfl rfl hrun ⟨⟨fun w2 => SA base w2 g n c (swp zs j m) ∧ Onl (grown wr g1) w2 g, false, fun e => Bool.noConfusion e, fun e => Bool.noConfusion e⟩, ⟨hw1.1.put kq m _ (by rw [List.length_set]; have := hzl; omega), hw1.2.trans (Onl.set _ g m _)⟩, fun _ e => Bool.noConfusion e, ?_⟩
       clear oG t0 t1 hrun hw1 w1
       refine fg_end (by kernel_rfl) (fun w5 hw5 => ?_)
       try simp only [Act.put]
       have HF := Lib.hid hw5
       clear hw5
       go_wp2
       go_roundw
       case rel =>
        have e : m = j - 1 := by omega
        subst e
        exact ⟨j - 1, swp zs j (j - 1), by omega, by omega, by first | rfl | go_num, HF.out.1.gr gri, .swap HRP2.out j (j - 1) (by omega) (by omega) (by omega) (by omega) (by omega), ins_step HIN.out (by omega) hj2 (by omega) HLT.out, (HO2.out.trans (Onl.of_gr gri g)).trans (HF.out.2.trans (Onl.of_gr gri g))⟩
       case measure => simp [intOf] <;> omega
      ·have HL := Lib.hid (fun W => less_no kq hlt W)
       have HLT := Lib.hid hlt
       clear hlt
       go_wp2
       refine wp_region_grow (by kernel_rfl) (by kernel_rfl) ?_
       repeat (go_big_quiet_step ((first | ((first | go_at_call 124 | go_at_call 135); exact grow_call (HL.out _)))))
       refine wpQuiet_nil ?_
       intro g1
       go_wp2
       go_roundw
       case rel => exact ⟨i + 1, zs, by omega, .inl (by omega), by go_num, HSA2.out.gr gri, HRP2.out, ins_end HIN.out hj2 (.inr (by rw [← hmj, Nat.add_sub_cancel, hmj]; exact Int.not_lt.2 HLT.out)), HO2.out.trans (Onl.of_gr gri g)⟩
       case measure => simp [intOf] <;> omega
     ·have e : j = a := by omega
      have hja2 : ¬ (a : Int) < (j : Int) := by omega
      clear hsa hrp hin ho
      go_wp2
      refine wp_region_grow (by kernel_rfl) (by kernel_rfl) ?_
      repeat (go_big_quiet_step (fail))
      refine wpQuiet_nil ?_
      intro g1
      go_wp2
      go_roundw
      case rel => exact ⟨i + 1, zs, by omega, .inl (by omega), by go_num, HSA2.out.gr gri, HRP2.out, ins_end HIN.out hj2 (.inl e), HO2.out.trans (Onl.of_gr gri g)⟩
      case measure => simp [intOf] <;> omega
   ·go_wp2
    exact ⟨rfl, .tuple #[], by simp [results, go_sem], ⟨rfl, ys, HSA.out.gr gri, HRP.out, fun p q h1 h2 h3 => HS.out p q h1 h2 (by omega), HO.out.trans (Onl.of_gr gri g)⟩⟩
set_option maxRecDepth 100000
set_option maxHeartbeats 4000000

theorem sift_any {F : Nat} (base : Bs) (g n c : Nat) (xs : List Int) (lo hi f : Nat) (w : World) (h : SA base w g n c xs) (hn : n ≤ 1000000) (hlo : lo ≤ hi) (hfn : f + hi ≤ n) (hp : Hp xs f (lo + 1) hi) (hq : base.is 144 150 F := by first | exact .inl ⟨by assumption, by assumption, rfl⟩ | exact .inr ⟨by assumption, by assumption, rfl⟩) :
  Calls Tryz.prog F #[.slice (some ⟨g, 0, none⟩) n c, .int .i64 (lo : Int), .int .i64 (hi : Int), .int .i64 (f : Int)] w fun e w' => e = .returned (.tuple #[]) ∧ ∃ ys, SA base w' g n c ys ∧ RP f (f + hi) xs ys ∧ Hp ys f lo hi ∧ Onl w w' g := by
 rcases hq with ⟨kq, tq, rfl⟩ | ⟨kq, tq, rfl⟩
 all_goals
  have H := Lib.hid h
  have HP := Lib.hid hp
  clear h hp
  first | go_enter Tryz.func144, Tryz.ntmps144 | go_enter Tryz.func150, Tryz.ntmps150
  go_wp2
  go_loopw [8] (fun v8 wr => ∃ (r : Nat) (ys : List Int), lo ≤ r ∧ (r < hi ∨ r = lo) ∧ v8 = .int .i64 (r : Int) ∧ SA base wr g n c ys ∧ RP f (f + hi) xs ys ∧ Hq ys f lo hi r ∧ Onl w wr g) (fun v _ => hi - (intOf v).toNat)
  case atStart => exact ⟨lo, xs, Nat.le_refl _, .inr rfl, rfl, H.out.gr gri, .refl, hq_start HP.out, Onl.of_gr gri g⟩
  case round =>
   obtain ⟨r, ys, hr1, hr2, rfl, hsa, hrp, hq, ho⟩ := hrel
   have HSA := Lib.hid hsa
   have HRP := Lib.hid hrp
   have HQ := Lib.hid hq
   have HO := Lib.hid ho
   have hyl := hsa.len
   haveI : Old g wr := ⟨hsa.lt⟩
   obtain ⟨q, hq⟩ : ∃ q, 2 * r = q := ⟨_, rfl⟩
   have rq : (2 : Int) * (r : Int) = (q : Int) := by omega
   have wq : IntKind.i64.wrap (q : Int) = (q : Int) := wrapS q (by omega)
   obtain ⟨e, he⟩ : ∃ e, q + 1 = e := ⟨_, rfl⟩
   have re : (q : Int) + 1 = (e : Int) := by omega
   have we : IntKind.i64.wrap (e : Int) = (e : Int) := wrapS e (by omega)
   by_cases hch : e < hi
   ·have hch2 : ¬ (hi : Int) ≤ (e : Int) := by omega
    obtain ⟨e1, he1⟩ : ∃ e1, e + 1 = e1 := ⟨_, rfl⟩
    have re1 : (e : Int) + 1 = (e1 : Int) := by omega
    have we1 : IntKind.i64.wrap (e1 : Int) = (e1 : Int) := wrapS e1 (by omega)
    obtain ⟨fe, hfe⟩ : ∃ fe, f + e = fe := ⟨_, rfl⟩
    have rfe : (f : Int) + (e : Int) = (fe : Int) := by omega
    have wfe : IntKind.i64.wrap (fe : Int) = (fe : Int) := wrapS fe (by omega)
    have bfe : (fe : Int) < (n : Int) := by omega
    obtain ⟨fr, hfr⟩ : ∃ fr, f + r = fr := ⟨_, rfl⟩
    have rfr : (f : Int) + (r : Int) = (fr : Int) := by omega
    have wfr : IntKind.i64.wrap (fr : Int) = (fr : Int) := wrapS fr (by omega)
    have bfr : (fr : Int) < (n : Int) := by omega
    have c0 := hsa.cell kq fe (by omega)
    have c1 := hsa.cell kq fr (by omega)
    by_cases hc2 : e1 < hi
    ·have hc3 : (e1 : Int) < (hi : Int) := by omega
     obtain ⟨fe1, hfe1⟩ : ∃ fe1, fe + 1 = fe1 := ⟨_, rfl⟩
     have rfe1 : (fe : Int) + 1 = (fe1 : Int) := by omega
     have wfe1 : IntKind.i64.wrap (fe1 : Int) = (fe1 : Int) := wrapS fe1 (by omega)
     have bfe1 : (fe1 : Int) < (n : Int) := by omega
     have rfe2 : (f : Int) + (e1 : Int) = (fe1 : Int) := by omega
     have c2 := hsa.cell kq fe1 (by omega)
     clear hsa hrp hq ho
     by_cases hl1 : at0 ys fe < at0 ys fe1
     ·have HL1 := Lib.hid (fun W => less_yes kq hl1 W)
      have HMAX := Lib.hid (show ∀ k, k = 2 * r + 1 ∨ k = 2 * r + 2 → k < hi → at0 ys (f + k) ≤ at0 ys (f + e1) from fun k hk1 hk2 => by
       rcases hk1 with rfl | rfl
       ·rw [show f + (2 * r + 1) = fe by omega, show f + e1 = fe1 by omega]; omega
       ·rw [show f + (2 * r + 2) = f + e1 by omega]; exact Int.le_refl _)
      clear hl1
      go_wp2
      refine wp_region_grow (by kernel_rfl) (by kernel_rfl) ?_
      repeat (go_big_quiet_step ((first | ((first | go_at_call 124 | go_at_call 135); exact grow_call (HL1.out _)))))
      refine wpQuiet_nil ?_
      intro g1
      go_wp2
      by_cases hl2 : at0 ys fr < at0 ys fe1
      ·have HL2 := Lib.hid (fun W => less_yes kq hl2 W)
       have HLT := Lib.hid hl2
       clear hl2
       go_wp2
       refine wp_region_grow (by kernel_rfl) (by kernel_rfl) ?_
       repeat (go_big_quiet_step ((first | ((first | go_at_call 124 | go_at_call 135); exact grow_call (HL2.out _)))))
       refine wpQuiet_nil ?_
       intro g2
       go_wp2
       have HSA3 := HSA.out.gr (gri : Gr wr (grown (grown wr g1) g2))
       refine wp_region_treeJ ⟨fun w' => Gr (grown (grown wr g1) g2) w', true, fun _ _ h => h, fun _ _ _ h g => h.trans g⟩ rfl (Gr.of ((Below.refl _ _).drew)) [4, 5, 6, 7] [0, 1, 2, 3, 8, 9, 10, 11, 12, 13, 14, 15, 16, 17, 18, 19] 4 21 (by kernel_rfl) (by kernel_rfl) ?_
       simp only [pick, List.drop, List.take, List.nil_append, List.cons_append]
       refine wpPure_step (.slice (some ⟨g, 0, none⟩) n c) rfl (fun w => by go_simp) ?_
       simp only [Act.put, List.setIfInBounds_toArray, List.set]
       refine wpPure_step (.int .i64 (f : Int)) rfl (fun w => by go_simp) ?_
       simp only [Act.put, List.setIfInBounds_toArray, List.set]
       refine wpPure_step (.int .i64 (e1 : Int)) rfl (fun w => by go_simp) ?_
       simp only [Act.put, List.setIfInBounds_toArray, List.set]
       refine wpPure_step (.int .i64 (fe1 : Int)) rfl (fun w => by go_simp) ?_
       simp only [Act.put, List.setIfInBounds_toArray, List.set]
       show wpCalm _ _ _ _ _ _
       repeat (refine wpCalm_step (fun K hK => ?_); go_simp; first | (refine hK _ ?_; clear hK K) | (apply Exists.intro; refine ⟨fun _ => ?_, hK _ ?_⟩; (skip); clear hK K))
       refine wpCalm_nil ?_
       refine fg_one 20 (by kernel_rfl) ?_
       refine fg_pure (.pointer (some ⟨g, fr, none⟩)) rfl rfl rfl (fun w => by go_simp) ?_
       simp only [Act.put, List.setIfInBounds_toArray, List.set]
       refine fg_one 21 (by kernel_rfl) ?_
       refine fg_effN rfl rfl rfl (fun w1 hw1 => ?_)
       have sa1 := SA.gr HSA3 hw1
       have t0 := sa1.cell kq fr (by have := hyl; omega)
       have t1 := sa1.frozen fr
       haveI oG : Old g w1 := ⟨sa1.lt⟩
       have hrun := st_run kq tq g fr w1 ((at0 ys fe1)) (by assumption) (by assumption)
       refine effAt_stS rfl rfl rfl hrun ⟨⟨fun w2 => SA base w2 g n c (ys.set fr (at0 ys fe1)) ∧ Onl (grown (grown wr g1) g2) w2 g, false, fun e => Bool.noConfusion e, fun e => Bool.noConfusion e⟩, ⟨sa1.put kq fr _ (by have := hyl; omega), (Onl.of_gr hw1 g).trans (Onl.set _ g fr _)⟩, fun e => absurd rfl e, ?_⟩
       clear oG sa1 t0 t1 hrun hw1 w1
       try simp only [Act.put, List.setIfInBounds_toArray, List.set]
       refine fg_one 22 (by kernel_rfl) ?_
       refine fg_pure (.pointer (some ⟨g, fe1, none⟩)) rfl rfl rfl (fun w => by go_simp) ?_
       simp only [Act.put, List.setIfInBounds_toArray, List.set]
       refine fg_one 23 (by kernel_rfl) ?_
       refine fg_effN rfl rfl rfl (fun w1 hw1 => ?_)
       have t0 := hw1.1.cell kq fe1 (by rw [List.length_set]; have := hyl; omega)
       have t1 := hw1.1.frozen fe1
       haveI oG : Old g w1 := ⟨hw1.1.lt⟩
       have hrun := st_run kq tq g fe1 w1 ((at0 ys fr)) (by assumption) (by assumption)
       refine effAt_stS rfl rfl rfl hrun ⟨⟨fun w2 => SA base w2 g n c (swp ys fr fe1) ∧ Onl (grown (grown wr g1) g2) w2 g, false, fun e => Bool.noConfusion e, fun e => Bool.noConfusion e⟩, ⟨hw1.1.put kq fe1 _ (by rw [List.length_set]; have := hyl; omega), hw1.2.trans (Onl.set _ g fe1 _)⟩, fun _ e => Bool.noConfusion e, ?_⟩
       clear oG t0 t1 hrun hw1 w1
       refine fg_end (by kernel_rfl) (fun w5 hw5 => ?_)
       try simp only [Act.put]
       have HF := Lib.hid hw5
       clear hw5
       go_wp2
       go_roundw
       case rel =>
        subst hfr
        have e9 : f + e1 = fe1 := by omega
        subst e9
        exact ⟨e1, swp ys (f + r) (f + e1), by omega, by omega, rfl, HF.out.1.gr gri, .swap HRP.out (f + r) (f + e1) (by omega) (by omega) (by omega) (by omega) (by omega), hq_step HQ.out hr1 (by omega) (by omega) (by omega) HMAX.out HLT.out, (HO.out.trans (Onl.of_gr gri g)).trans (HF.out.2.trans (Onl.of_gr gri g))⟩
       case measure => simp [intOf] <;> omega
      ·have HL2 := Lib.hid (fun W => less_no kq hl2 W)
       have HLT := Lib.hid hl2
       clear hl2
       go_wp2
       refine wp_region_grow (by kernel_rfl) (by kernel_rfl) ?_
       repeat (go_big_quiet_step ((first | ((first | go_at_call 124 | go_at_call 135); exact grow_call (HL2.out _)))))
       refine wpQuiet_nil ?_
       intro g2
       go_wp2
       refine bodyPost_ret (v := .tuple #[]) (by simp [results, go_sem]) rfl ⟨rfl, ys, HSA.out.gr gri, HRP.out, hq_end HQ.out fun k9 h1 h2 => (by
        have e9 : f + e1 = fe1 := by omega
        have h3 := HMAX.out k9 h1 h2
        have h4 := Int.not_lt.2 HLT.out
        subst hfr
        rw [e9] at h3
        omega), HO.out.trans (Onl.of_gr gri g)⟩
     ·have HL1 := Lib.hid (fun W => less_no kq hl1 W)
      have HMAX := Lib.hid (show ∀ k, k = 2 * r + 1 ∨ k = 2 * r + 2 → k < hi → at0 ys (f + k) ≤ at0 ys (f + e) from fun k hk1 hk2 => by
       rcases hk1 with rfl | rfl
       ·rw [show f + (2 * r + 1) = f + e by omega]; exact Int.le_refl _
       ·rw [show f + (2 * r + 2) = fe1 by omega, show f + e = fe by omega]; omega)
      clear hl1
      go_wp2
      refine wp_region_grow (by kernel_rfl) (by kernel_rfl) ?_
      repeat (go_big_quiet_step ((first | ((first | go_at_call 124 | go_at_call 135); exact grow_call (HL1.out _)))))
      refine wpQuiet_nil ?_
      intro g1
      go_wp2
      by_cases hl2 : at0 ys fr < at0 ys fe
      ·have HL2 := Lib.hid (fun W => less_yes kq hl2 W)
       have HLT := Lib.hid hl2
       clear hl2
       go_wp2
       refine wp_region_grow (by kernel_rfl) (by kernel_rfl) ?_
       repeat (go_big_quiet_step ((first | ((first | go_at_call 124 | go_at_call 135); exact grow_call (HL2.out _)))))
       refine wpQuiet_nil ?_
       intro g2
       go_wp2
       have HSA3 := HSA.out.gr (gri : Gr wr (grown (grown wr g1) g2))
       refine wp_region_treeJ ⟨fun w' => Gr (grown (grown wr g1) g2) w', true, fun _ _ h => h, fun _ _ _ h g => h.trans g⟩ rfl (Gr.of ((Below.refl _ _).drew)) [4, 5, 6, 7] [0, 1, 2, 3, 8, 9, 10, 11, 12, 13, 14, 15, 16, 17, 18, 19] 4 21 (by kernel_rfl) (by kernel_rfl) ?_
       simp only [pick, List.drop, List.take, List.nil_append, List.cons_append]
       refine wpPure_step (.slice (some ⟨g, 0, none⟩) n c) rfl (fun w => by go_simp) ?_
       simp only [Act.put, List.setIfInBounds_toArray, List.set]
       refine wpPure_step (.int .i64 (f : Int)) rfl (fun w => by go_simp) ?_
       simp only [Act.put, List.setIfInBounds_toArray, List.set]
       refine wpPure_step (.int .i64 (e : Int)) rfl (fun w => by go_simp) ?_
       simp only [Act.put, List.setIfInBounds_toArray, List.set]
       refine wpPure_step (.int .i64 (fe : Int)) rfl (fun w => by go_simp) ?_
       simp only [Act.put, List.setIfInBounds_toArray, List.set]
       show wpCalm _ _ _ _ _ _
       repeat (refine wpCalm_step (fun K hK => ?_); go_simp; first | (refine hK _ ?_; clear hK K) | (apply Exists.intro; refine ⟨fun _ => ?_, hK _ ?_⟩; (skip); clear hK K))
       refine wpCalm_nil ?_
       refine fg_one 20 (by kernel_rfl) ?_
       refine fg_pure (.pointer (some ⟨g, fr, none⟩)) rfl rfl rfl (fun w => by go_simp) ?_
       simp only [Act.put, List.setIfInBounds_toArray, List.set]
       refine fg_one 21 (by kernel_rfl) ?_
       refine fg_effN rfl rfl rfl (fun w1 hw1 => ?_)
       have sa1 := SA.gr HSA3 hw1
       have t0 := sa1.cell kq fr (by have := hyl; omega)
       have t1 := sa1.frozen fr
       haveI oG : Old g w1 := ⟨sa1.lt⟩
       have hrun := st_run kq tq g fr w1 ((at0 ys fe)) (by assumption) (by assumption)
       refine effAt_stS rfl rfl rfl hrun ⟨⟨fun w2 => SA base w2 g n c (ys.set fr (at0 ys fe)) ∧ Onl (grown (grown wr g1) g2) w2 g, false, fun e => Bool.noConfusion e, fun e => Bool.noConfusion e⟩, ⟨sa1.put kq fr _ (by have := hyl; omega), (Onl.of_gr hw1 g).trans (Onl.set _ g fr _)⟩, fun e => absurd rfl e, ?_⟩
       clear oG sa1 t0 t1 hrun hw1 w1
       try simp only [Act.put, List.setIfInBounds_toArray, List.set]
       refine fg_one 22 (by kernel_rfl) ?_
       refine fg_pure (.pointer (some ⟨g, fe, none⟩)) rfl rfl rfl (fun w => by go_simp) ?_
       simp only [Act.put, List.setIfInBounds_toArray, List.set]
       refine fg_one 23 (by kernel_rfl) ?_
       refine fg_effN rfl rfl rfl (fun w1 hw1 => ?_)
       have t0 := hw1.1.cell kq fe (by rw [List.length_set]; have := hyl; omega)
       have t1 := hw1.1.frozen fe
       haveI oG : Old g w1 := ⟨hw1.1.lt⟩
       have hrun := st_run kq tq g fe w1 ((at0 ys fr)) (by assumption) (by assumption)
       refine effAt_stS rfl rfl rfl hrun ⟨⟨fun w2 => SA base w2 g n c (swp ys fr fe) ∧ Onl (grown (grown wr g1) g2) w2 g, false, fun e => Bool.noConfusion e, fun e => Bool.noConfusion e⟩, ⟨hw1.1.put kq fe _ (by rw [List.length_set]; have := hyl; omega), hw1.2.trans (Onl.set _ g fe _)⟩, fun _ e => Bool.noConfusion e, ?_⟩
       clear oG t0 t1 hrun hw1 w1
       refine fg_end (by kernel_rfl) (fun w5 hw5 => ?_)
       try simp only [Act.put]
       have HF := Lib.hid hw5
       clear hw5
       go_wp2
       go_roundw
       case rel =>
        subst hfr
        have e9 : f + e = fe := by omega
        subst e9
        exact ⟨e, swp ys (f + r) (f + e), by omega, by omega, rfl, HF.out.1.gr gri, .swap HRP.out (f + r) (f + e) (by omega) (by omega) (by omega) (by omega) (by omega), hq_step HQ.out hr1 (by omega) (by omega) (by omega) HMAX.out HLT.out, (HO.out.trans (Onl.of_gr gri g)).trans (HF.out.2.trans (Onl.of_gr gri g))⟩
       case measure => simp [intOf] <;> omega
      ·have HL2 := Lib.hid (fun W => less_no kq hl2 W)
       have HLT := Lib.hid hl2
       clear hl2
       go_wp2
       refine wp_region_grow (by kernel_rfl) (by kernel_rfl) ?_
       repeat (go_big_quiet_step ((first | ((first | go_at_call 124 | go_at_call 135); exact grow_call (HL2.out _)))))
       refine wpQuiet_nil ?_
       intro g2
       go_wp2
       refine bodyPost_ret (v := .tuple #[]) (by simp [results, go_sem]) rfl ⟨rfl, ys, HSA.out.gr gri, HRP.out, hq_end HQ.out fun k9 h1 h2 => (by
        have e9 : f + e = fe := by omega
        have h3 := HMAX.out k9 h1 h2
        have h4 := Int.not_lt.2 HLT.out
        subst hfr
        rw [e9] at h3
        omega), HO.out.trans (Onl.of_gr gri g)⟩
    ·have hc3 : ¬ (e1 : Int) < (hi : Int) := by omega
     have HMAX := Lib.hid (show ∀ k, k = 2 * r + 1 ∨ k = 2 * r + 2 → k < hi → at0 ys (f + k) ≤ at0 ys (f + e) from fun k hk1 hk2 => by
      rcases hk1 with rfl | rfl
      ·rw [show f + (2 * r + 1) = f + e by omega]; exact Int.le_refl _
      ·omega)
     clear hsa hrp hq ho
     go_wp2
     refine wp_region_grow (by kernel_rfl) (by kernel_rfl) ?_
     repeat (go_big_quiet_step (fail))
     refine wpQuiet_nil ?_
     intro g1
     go_wp2
     by_cases hl2 : at0 ys fr < at0 ys fe
     ·have HL2 := Lib.hid (fun W => less_yes kq hl2 W)
      have HLT := Lib.hid hl2
      clear hl2
      go_wp2
      refine wp_region_grow (by kernel_rfl) (by kernel_rfl) ?_
      repeat (go_big_quiet_step ((first | ((first | go_at_call 124 | go_at_call 135); exact grow_call (HL2.out _)))))
      refine wpQuiet_nil ?_
      intro g2
      go_wp2
      have HSA3 := HSA.out.gr (gri : Gr wr (grown (grown wr g1) g2))
      refine wp_region_treeJ ⟨fun w' => Gr (grown (grown wr g1) g2) w', true, fun _ _ h => h, fun _ _ _ h g => h.trans g⟩ rfl (Gr.of ((Below.refl _ _).drew)) [4, 5, 6, 7] [0, 1, 2, 3, 8, 9, 10, 11, 12, 13, 14, 15, 16, 17, 18, 19] 4 21 (by kernel_rfl) (by kernel_rfl) ?_
      simp only [pick, List.drop, List.take, List.nil_append, List.cons_append]
      refine wpPure_step (.slice (some ⟨g, 0, none⟩) n c) rfl (fun w => by go_simp) ?_
      simp only [Act.put, List.setIfInBounds_toArray, List.set]
      refine wpPure_step (.int .i64 (f : Int)) rfl (fun w => by go_simp) ?_
      simp only [Act.put, List.setIfInBounds_toArray, List.set]
      refine wpPure_step (.int .i64 (e : Int)) rfl (fun w => by go_simp) ?_
      simp only [Act.put, List.setIfInBounds_toArray, List.set]
      refine wpPure_step (.int .i64 (fe : Int)) rfl (fun w => by go_simp) ?_
      simp only [Act.put, List.setIfInBounds_toArray, List.set]
      show wpCalm _ _ _ _ _ _
      repeat (refine wpCalm_step (fun K hK => ?_); go_simp; first | (refine hK _ ?_; clear hK K) | (apply Exists.intro; refine ⟨fun _ => ?_, hK _ ?_⟩; (skip); clear hK K))
      refine wpCalm_nil ?_
      refine fg_one 20 (by kernel_rfl) ?_
      refine fg_pure (.pointer (some ⟨g, fr, none⟩)) rfl rfl rfl (fun w => by go_simp) ?_
      simp only [Act.put, List.setIfInBounds_toArray, List.set]
      refine fg_one 21 (by kernel_rfl) ?_
      refine fg_effN rfl rfl rfl (fun w1 hw1 => ?_)
      have sa1 := SA.gr HSA3 hw1
      have t0 := sa1.cell kq fr (by have := hyl; omega)
      have t1 := sa1.frozen fr
      haveI oG : Old g w1 := ⟨sa1.lt⟩
      have hrun := st_run kq tq g fr w1 ((at0 ys fe)) (by assumption) (by assumption)
      refine effAt_stS rfl rfl rfl hrun ⟨⟨fun w2 => SA base w2 g n c (ys.set fr (at0 ys fe)) ∧ Onl (grown (grown wr g1) g2) w2 g, false, fun e => Bool.noConfusion e, fun e => Bool.noConfusion e⟩, ⟨sa1.put kq fr _ (by have := hyl; omega), (Onl.of_gr hw1 g).trans (Onl.set _ g fr _)⟩, fun e => absurd rfl e, ?_⟩
      clear oG sa1 t0 t1 hrun hw1 w1
      try simp only [Act.put, List.setIfInBounds_toArray, List.set]
      refine fg_one 22 (by kernel_rfl) ?_
      refine fg_pure (.pointer (some ⟨g, fe, none⟩)) rfl rfl rfl (fun w => by go_simp) ?_
      simp only [Act.put, List.setIfInBounds_toArray, List.set]
      refine fg_one 23 (by kernel_rfl) ?_
      refine fg_effN rfl rfl rfl (fun w1 hw1 => ?_)
      have t0 := hw1.1.cell kq fe (by rw [List.length_set]; have := hyl; omega)
      have t1 := hw1.1.frozen fe
      haveI oG : Old g w1 := ⟨hw1.1.lt⟩
      have hrun := st_run kq tq g fe w1 ((at0 ys fr)) (by assumption) (by assumption)
      refine effAt_stS rfl rfl rfl hrun ⟨⟨fun w2 => SA base w2 g n c (swp ys fr fe) ∧ Onl (grown (grown wr g1) g2) w2 g, false, fun e => Bool.noConfusion e, fun e => Bool.noConfusion e⟩, ⟨hw1.1.put kq fe _ (by rw [List.length_set]; have := hyl; omega), hw1.2.trans (Onl.set _ g fe _)⟩, fun _ e => Bool.noConfusion e, ?_⟩
      clear oG t0 t1 hrun hw1 w1
      refine fg_end (by kernel_rfl) (fun w5 hw5 => ?_)
      try simp only [Act.put]
      have HF := Lib.hid hw5
      clear hw5
      go_wp2
      go_roundw
      case rel =>
       subst hfr
       have e9 : f + e = fe := by omega
       subst e9
       exact ⟨e, swp ys (f + r) (f + e), by omega, by omega, rfl, HF.out.1.gr gri, .swap HRP.out (f + r) (f + e) (by omega) (by omega) (by omega) (by omega) (by omega), hq_step HQ.out hr1 (by omega) (by omega) (by omega) HMAX.out HLT.out, (HO.out.trans (Onl.of_gr gri g)).trans (HF.out.2.trans (Onl.of_gr gri g))⟩
      case measure => simp [intOf] <;> omega
     ·have HL2 := Lib.hid (fun W => less_no kq hl2 W)
      have HLT := Lib.hid hl2
      clear hl2
      go_wp2
      refine wp_region_grow (by kernel_rfl) (by kernel_rfl) ?_
      repeat (go_big_quiet_step ((first | ((first | go_at_call 124 | go_at_call 135); exact grow_call (HL2.out _)))))
      refine wpQuiet_nil ?_
      intro g2
      go_wp2
      refine bodyPost_ret (v := .tuple #[]) (by simp [results, go_sem]) rfl ⟨rfl, ys, HSA.out.gr gri, HRP.out, hq_end HQ.out fun k9 h1 h2 => (by
       have e9 : f + e = fe := by omega
       have h3 := HMAX.out k9 h1 h2
       have h4 := Int.not_lt.2 HLT.out
       subst hfr
       rw [e9] at h3
       omega), HO.out.trans (Onl.of_gr gri g)⟩
   ·have hch2 : (hi : Int) ≤ (e : Int) := by omega
    clear hsa hrp hq ho
    go_wp2
    exact ⟨rfl, .tuple #[], by simp [results, go_sem], ⟨rfl, ys, HSA.out.gr gri, HRP.out, hq_end HQ.out (fun k h1 h2 => by omega), HO.out.trans (Onl.of_gr gri g)⟩⟩
theorem sift0_any {F : Nat} (base : Bs) (g n c : Nat) (xs : List Int) (hi f : Nat) (w : World) (h : SA base w g n c xs) (hn : n ≤ 1000000) (hfn : f + hi ≤ n) (hp : Hp xs f 1 hi) (hq : base.is 144 150 F := by first | exact .inl ⟨by assumption, by assumption, rfl⟩ | exact .inr ⟨by assumption, by assumption, rfl⟩) :
  Calls Tryz.prog F #[.slice (some ⟨g, 0, none⟩) n c, .int .i64 0, .int .i64 (hi : Int), .int .i64 (f : Int)] w fun e w' => e = .returned (.tuple #[]) ∧ ∃ ys, SA base w' g n c ys ∧ RP f (f + hi) xs ys ∧ Hp ys f 0 hi ∧ Onl w w' g :=
 sift_any base g n c xs 0 hi f w h hn (Nat.zero_le _) hfn hp (hq := hq)
set_option maxRecDepth 100000
set_option maxHeartbeats 4000000

theorem heap_any {F : Nat} (base : Bs) (g n c : Nat) (xs : List Int) (a b : Nat) (w : World) (h : SA base w g n c xs) (hn : n ≤ 1000000) (hab : a < b) (hb : b ≤ n) (hq : base.is 119 130 F := by first | exact .inl ⟨by assumption, by assumption, rfl⟩ | exact .inr ⟨by assumption, by assumption, rfl⟩) :
  Calls Tryz.prog F #[.slice (some ⟨g, 0, none⟩) n c, .int .i64 (a : Int), .int .i64 (b : Int)] w fun e w' => e = .returned (.tuple #[]) ∧ ∃ ys, SA base w' g n c ys ∧ RP a b xs ys ∧ Srt ys a b ∧ Onl w w' g := by
 rcases hq with ⟨kq, tq, rfl⟩ | ⟨kq, tq, rfl⟩
 all_goals
  have H := Lib.hid h
  have hxl := h.len
  clear h
  obtain ⟨m, hm⟩ : ∃ m, b - a = m := ⟨_, rfl⟩
  have rm : (b : Int) - (a : Int) = (m : Int) := by omega
  have wm : IntKind.i64.wrap (m : Int) = (m : Int) := wrapS m (by omega)
  obtain ⟨m1, hm1⟩ : ∃ m1, m - 1 = m1 := ⟨_, rfl⟩
  have rm1 : (m : Int) - 1 = (m1 : Int) := by omega
  have wm1 : IntKind.i64.wrap (m1 : Int) = (m1 : Int) := wrapS m1 (by omega)
  obtain ⟨m2, hm2⟩ : ∃ m2, m1 / 2 = m2 := ⟨_, rfl⟩
  have rt : (m1 : Int) / 2 = (m2 : Int) := by omega
  have w2 : IntKind.i64.wrap (m2 : Int) = (m2 : Int) := wrapS m2 (by omega)
  have hmab : a + m = b := by omega
  first | go_enter Tryz.func119, Tryz.ntmps119 | go_enter Tryz.func130, Tryz.ntmps130
  go_wp2
  go_loopw [9] (fun v9 wr => ∃ (z : Int) (ys : List Int), -1 ≤ z ∧ z ≤ m2 ∧ v9 = .int .i64 z ∧ SA base wr g n c ys ∧ RP a b xs ys ∧ Hp ys a (z + 1).toNat m ∧ Onl w wr g) (fun v _ => (intOf v + 1).toNat)
  case atStart => exact ⟨m2, xs, by omega, Int.le_refl _, rfl, H.out.gr gri, .refl, hp_leaf _ _ _ _ (by omega), Onl.of_gr gri g⟩
  case round =>
   obtain ⟨z, ys, hz1, hz2, rfl, hsa, hrp, hp, ho⟩ := hrel
   have HSA := Lib.hid hsa
   have HRP := Lib.hid hrp
   have HP := Lib.hid hp
   have HO := Lib.hid ho
   have hyl := hsa.len
   haveI : Old g wr := ⟨hsa.lt⟩
   clear hsa hrp hp ho
   by_cases hz : 0 ≤ z
   ·obtain ⟨j, rfl⟩ : ∃ j : Nat, z = (j : Int) := ⟨z.toNat, by omega⟩
    have wj : IntKind.i64.wrap ((j : Int) - 1) = (j : Int) - 1 := by rw [IntKind.wrap_i64]; omega
    have HC := Lib.hid (fun W (hW : Gr wr W) => sift_any base g n c ys j m a W (HSA.out.gr hW) hn (by omega) (by omega) (by have := HP.out; rwa [show ((j : Int) + 1).toNat = j + 1 by omega] at this))
    go_wp2_with (first | ((first | go_at_call 144 | go_at_call 150); ((with_reducible refine (HC.out _ gri).mono ?_))))
    rintro _ W2 ⟨rfl, zs, hsa2, hrp2, hp2, ho2⟩
    have ho3 : Onl w W2 g := (HO.out.trans (Onl.of_gr gri g)).trans ho2
    go_wp2
    go_roundw
    case rel => exact ⟨(j : Int) - 1, zs, by omega, by omega, rfl, hsa2.gr gri, HRP.out.trans (by rw [← hmab]; exact hrp2), by rw [show ((j : Int) - 1 + 1).toNat = j by omega]; exact hp2, ho3.trans (Onl.of_gr gri g)⟩
    case measure => simp [intOf] <;> omega
   ·obtain rfl : z = -1 := by omega
    go_wp2
    go_loopw [10] (fun v10 wr => ∃ (z : Int) (ys : List Int), -1 ≤ z ∧ z < m ∧ v10 = .int .i64 z ∧ SA base wr g n c ys ∧ RP a b xs ys ∧ Hp ys a 0 (z + 1).toNat ∧ Tl ys a (z + 1).toNat m ∧ Onl w wr g) (fun v _ => (intOf v + 1).toNat)
    case atStart => exact ⟨m1, ys, by omega, by omega, rfl, HSA.out.gr gri, HRP.out, by rw [show ((m1 : Int) + 1).toNat = m by omega]; exact HP.out, by rw [show ((m1 : Int) + 1).toNat = m by omega]; exact tl_start _ _ _, HO.out.trans (Onl.of_gr gri g)⟩
    case round =>
     clear HSA HRP HP HO hyl hz hz1 hz2 ys
     obtain ⟨z, ys, hz1, hz2, rfl, hsa, hrp, hp, ht, ho⟩ := hrel
     have HSA := Lib.hid hsa
     have HRP := Lib.hid hrp
     have HP := Lib.hid hp
     have HT := Lib.hid ht
     have HO := Lib.hid ho
     have hyl := hsa.len
     haveI : Old g wr := ⟨hsa.lt⟩
     by_cases hz : 0 ≤ z
     ·obtain ⟨j, rfl⟩ : ∃ j : Nat, z = (j : Int) := ⟨z.toNat, by omega⟩
      have wj : IntKind.i64.wrap ((j : Int) - 1) = (j : Int) - 1 := by rw [IntKind.wrap_i64]; omega
      obtain ⟨aj, haj⟩ : ∃ aj, a + j = aj := ⟨_, rfl⟩
      have raj : (a : Int) + (j : Int) = (aj : Int) := by omega
      have waj : IntKind.i64.wrap (aj : Int) = (aj : Int) := wrapS aj (by omega)
      have baj : (aj : Int) < (n : Int) := by omega
      have c0 := hsa.cell kq aj (by omega)
      have c1 := hsa.cell kq a (by omega)
      have ba : (a : Int) < (n : Int) := by omega
      have HJ1 := Lib.hid (show ((j : Int) + 1).toNat = j + 1 by omega)
      clear hsa hrp hp ht ho
      go_wp2
      have HSA3 := HSA.out.gr (gri : Gr wr wr)
      refine wp_region_treeJ ⟨fun w' => Gr wr w', true, fun _ _ h => h, fun _ _ _ h g => h.trans g⟩ rfl (Gr.of ((Below.refl _ _).drew)) [2, 3, 4, 5] [0, 1, 6, 7, 8, 9, 10, 11, 12, 13, 14, 15] 4 17 (by kernel_rfl) (by kernel_rfl) ?_
      simp only [pick, List.drop, List.take, List.nil_append, List.cons_append]
      refine wpPure_step (.slice (some ⟨g, 0, none⟩) n c) rfl (fun w => by go_simp) ?_
      simp only [Act.put, List.setIfInBounds_toArray, List.set]
      refine wpPure_step (.int .i64 (a : Int)) rfl (fun w => by go_simp) ?_
      simp only [Act.put, List.setIfInBounds_toArray, List.set]
      refine wpPure_step (.int .i64 (j : Int)) rfl (fun w => by go_simp) ?_
      simp only [Act.put, List.setIfInBounds_toArray, List.set]
      refine wpPure_step (.int .i64 (aj : Int)) rfl (fun w => by go_simp) ?_
      simp only [Act.put, List.setIfInBounds_toArray, List.set]
      show wpCalm _ _ _ _ _ _
      repeat (refine wpCalm_step (fun K hK => ?_); go_simp; first | (refine hK _ ?_; clear hK K) | (apply Exists.intro; refine ⟨fun _ => ?_, hK _ ?_⟩; (skip); clear hK K))
      refine wpCalm_nil ?_
      refine fg_one 16 (by kernel_rfl) ?_
      refine fg_pure (.pointer (some ⟨g, a, none⟩)) rfl rfl rfl (fun w => by go_simp) ?_
      simp only [Act.put, List.setIfInBounds_toArray, List.set]
      refine fg_one 17 (by kernel_rfl) ?_
      refine fg_effN rfl rfl rfl (fun w1 hw1 => ?_)
      have sa1 := SA.gr HSA3 hw1
      have t0 := sa1.cell kq a (by have := hyl; omega)
      have t1 := sa1.frozen a
      haveI oG : Old g w1 := ⟨sa1.lt⟩
      have hrun := st_run kq tq g a w1 ((at0 ys aj)) (by assumption) (by assumption)
      refine effAt_stS rfl rfl rfl hrun ⟨⟨fun w2 => SA base w2 g n c (ys.set a (at0 ys aj)) ∧ Onl wr w2 g, false, fun e => Bool.noConfusion e, fun e => Bool.noConfusion e⟩, ⟨sa1.put kq a _ (by have := hyl; omega), (Onl.of_gr hw1 g).trans (Onl.set _ g a _)⟩, fun e => absurd rfl e, ?_⟩
      clear oG sa1 t0 t1 hrun hw1 w1
      try simp only [Act.put, List.setIfInBounds_toArray, List.set]
      refine fg_one 18 (by kernel_rfl) ?_
      refine fg_pure (.pointer (some ⟨g, aj, none⟩)) rfl rfl rfl (fun w => by go_simp) ?_
      simp only [Act.put, List.setIfInBounds_toArray, List.set]
      refine fg_one 19 (by kernel_rfl) ?_
      refine fg_effN rfl rfl rfl (fun w1 hw1 => ?_)
      have t0 := hw1.1.cell kq aj (by rw [List.length_set]; have := hyl; omega)
      have t1 := hw1.1.frozen aj
      haveI oG : Old g w1 := ⟨hw1.1.lt⟩
      have hrun := st_run kq tq g aj w1 ((at0 ys a)) (by assumption) (by assumption)
      refine effAt_stS rfl rfl rfl hrun ⟨⟨fun w2 => SA base w2 g n c (swp ys a aj) ∧ Onl wr w2 g, false, fun e => Bool.noConfusion e, fun e => Bool.noConfusion e⟩, ⟨hw1.1.put kq aj _ (by rw [List.length_set]; have := hyl; omega), hw1.2.trans (Onl.set _ g aj _)⟩, fun _ e => Bool.noConfusion e, ?_⟩
      clear oG t0 t1 hrun hw1 w1
      refine fg_end (by kernel_rfl) (fun w5 hw5 => ?_)
      try simp only [Act.put]
      have HF := Lib.hid hw5
      have HO5 := Lib.hid (HO.out.trans hw5.2)
      have hp5 : Hp (swp ys a aj) a 1 j := by
       have := HP.out
       rw [HJ1.out] at this
       rw [show aj = a + j by omega]
       exact hs_heap (m := m) (by omega) (by omega) this
      have HC := Lib.hid (fun W (hW : Gr w5 W) => sift0_any base g n c (swp ys a aj) j a W (HF.out.1.gr hW) hn (by omega) hp5)
      haveI : Old g w5 := ⟨hw5.1.lt⟩
      clear hw5 hp5
      go_wp2_with (first | ((first | go_at_call 144 | go_at_call 150); ((with_reducible refine (HC.out _ gri).mono ?_); rintro _ W2 ⟨rfl, zs, hsa2, hrp2, hp2, ho2⟩)))
      have ho3 : Onl w W2 g := (HO5.out.trans (Onl.of_gr gri g)).trans ho2
      have ht2 : Tl zs a j m := by
       have h1 := HP.out
       have h2 := HT.out
       rw [HJ1.out] at h1 h2
       rw [show aj = a + j by omega] at hrp2
       exact hs_step (by omega) (by omega) h1 h2 hrp2
      have hr2 : RP a b xs zs := (HRP.out.swap a aj (Nat.le_refl _) hab (by omega) (by omega) (by omega)).trans (hrp2.mono (Nat.le_refl _) (by omega) (by rw [swp_len]; omega))
      go_roundw
      case rel => exact ⟨(j : Int) - 1, zs, by omega, by omega, rfl, hsa2.gr gri, hr2, by rw [show ((j : Int) - 1 + 1).toNat = j by omega]; exact hp2, by rw [show ((j : Int) - 1 + 1).toNat = j by omega]; exact ht2, ho3.trans (Onl.of_gr gri g)⟩
      case measure => simp [intOf] <;> omega
     ·obtain rfl : z = -1 := by omega
      clear hsa hrp hp ht ho
      go_wp2
      exact ⟨rfl, .tuple #[], by simp [results, go_sem], ⟨rfl, ys, HSA.out.gr gri, HRP.out, tl_end (by omega) (by rw [show b - a = m by omega]; exact HT.out), HO.out.trans (Onl.of_gr gri g)⟩⟩
set_option maxRecDepth 100000
set_option maxHeartbeats 4000000

def Parted (xs ys : List Int) (a b mid : Nat) : Prop := a ≤ mid ∧ mid < b ∧ RP a b xs ys ∧ (∀ k, a ≤ k → k < mid → at0 ys k ≤ at0 ys mid) ∧ ∀ k, mid < k → k < b → at0 ys mid ≤ at0 ys k
def PrtPost (base : Bs) (g n c : Nat) (xs : List Int) (a b : Nat) (w : World) (e : Ending) (w' : World) : Prop := ∃ (mid : Nat) (done : Bool) (ys : List Int), e = .returned (.tuple #[.int .i64 (mid : Int), .bool done]) ∧ SA base w' g n c ys ∧ Parted xs ys a b mid ∧ Onl w w' g
theorem partition_any {F : Nat} (base : Bs) (g n c : Nat) (xs : List Int) (a b pv : Nat) (w : World) (h : SA base w g n c xs) (hn : n ≤ 1000000) (hab : a < b) (hb : b ≤ n) (hp1 : a ≤ pv) (hp2 : pv < b) (hq : base.is 126 137 F := by first | exact .inl ⟨by assumption, by assumption, rfl⟩ | exact .inr ⟨by assumption, by assumption, rfl⟩) :
  Calls Tryz.prog F #[.slice (some ⟨g, 0, none⟩) n c, .int .i64 (a : Int), .int .i64 (b : Int), .int .i64 (pv : Int)] w (PrtPost base g n c xs a b w) := by
 rcases hq with ⟨kq, tq, rfl⟩ | ⟨kq, tq, rfl⟩
 all_goals as_aux_lemma =>
  have H := Lib.hid h
  have hxl := h.len
  have c0 := h.cell kq a (by omega)
  have c1 := h.cell kq pv (by omega)
  have ba : (a : Int) < (n : Int) := by omega
  have bp : (pv : Int) < (n : Int) := by omega
  haveI : Old g w := ⟨h.lt⟩
  clear h
  obtain ⟨bj, hbj⟩ : ∃ bj, b - 1 = bj := ⟨_, rfl⟩
  have rbj : (b : Int) - 1 = (bj : Int) := by omega
  have wbj : IntKind.i64.wrap (bj : Int) = (bj : Int) := wrapS bj (by omega)
  obtain ⟨a1, ha1⟩ : ∃ a1, a + 1 = a1 := ⟨_, rfl⟩
  have ra1 : (a : Int) + 1 = (a1 : Int) := by omega
  have wa1 : IntKind.i64.wrap (a1 : Int) = (a1 : Int) := wrapS a1 (by omega)
  first | go_enter Tryz.func126, Tryz.ntmps126 | go_enter Tryz.func137, Tryz.ntmps137
  go_wp2
  have HSA3 := H.out.gr (gri : Gr w w)
  refine wp_region_treeJ ⟨fun w' => Gr w w', true, fun _ _ h => h, fun _ _ _ h g => h.trans g⟩ rfl (Gr.of ((Below.refl _ _).drew)) [2, 3] [0, 1, 4, 5, 6, 7, 8, 9, 10, 11] 4 13 (by kernel_rfl) (by kernel_rfl) ?_
  simp only [pick, List.drop, List.take, List.nil_append, List.cons_append]
  refine wpPure_step (.slice (some ⟨g, 0, none⟩) n c) rfl (fun w => by go_simp) ?_
  simp only [Act.put, List.setIfInBounds_toArray, List.set]
  refine wpPure_step (.int .i64 (pv : Int)) rfl (fun w => by go_simp) ?_
  simp only [Act.put, List.setIfInBounds_toArray, List.set]
  show wpCalm _ _ _ _ _ _
  repeat (refine wpCalm_step (fun K hK => ?_); go_simp; first | (refine hK _ ?_; clear hK K) | (apply Exists.intro; refine ⟨fun _ => ?_, hK _ ?_⟩; (skip); clear hK K))
  refine wpCalm_nil ?_
  refine fg_one 12 (by kernel_rfl) ?_
  refine fg_pure (.pointer (some ⟨g, a, none⟩)) rfl rfl rfl (fun w => by go_simp) ?_
  simp only [Act.put, List.setIfInBounds_toArray, List.set]
  refine fg_one 13 (by kernel_rfl) ?_
  refine fg_effN rfl rfl rfl (fun w1 hw1 => ?_)
  have sa1 := SA.gr HSA3 hw1
  have t0 := sa1.cell kq a (by have := hxl; omega)
  have t1 := sa1.frozen a
  haveI oG : Old g w1 := ⟨sa1.lt⟩
  have hrun := st_run kq tq g a w1 ((at0 xs pv)) (by assumption) (by assumption)
  refine effAt_stS rfl rfl rfl hrun ⟨⟨fun w2 => SA base w2 g n c (xs.set a (at0 xs pv)) ∧ Onl w w2 g, false, fun e => Bool.noConfusion e, fun e => Bool.noConfusion e⟩, ⟨sa1.put kq a _ (by have := hxl; omega), (Onl.of_gr hw1 g).trans (Onl.set _ g a _)⟩, fun e => absurd rfl e, ?_⟩
  clear oG sa1 t0 t1 hrun hw1 w1
  try simp only [Act.put, List.setIfInBounds_toArray, List.set]
  refine fg_one 14 (by kernel_rfl) ?_
  refine fg_pure (.pointer (some ⟨g, pv, none⟩)) rfl rfl rfl (fun w => by go_simp) ?_
  simp only [Act.put, List.setIfInBounds_toArray, List.set]
  refine fg_one 15 (by kernel_rfl) ?_
  refine fg_effN rfl rfl rfl (fun w1 hw1 => ?_)
  have t0 := hw1.1.cell kq pv (by rw [List.length_set]; have := hxl; omega)
  have t1 := hw1.1.frozen pv
  haveI oG : Old g w1 := ⟨hw1.1.lt⟩
  have hrun := st_run kq tq g pv w1 ((at0 xs a)) (by assumption) (by assumption)
  refine effAt_stS rfl rfl rfl hrun ⟨⟨fun w2 => SA base w2 g n c (swp xs a pv) ∧ Onl w w2 g, false, fun e => Bool.noConfusion e, fun e => Bool.noConfusion e⟩, ⟨hw1.1.put kq pv _ (by rw [List.length_set]; have := hxl; omega), hw1.2.trans (Onl.set _ g pv _)⟩, fun _ e => Bool.noConfusion e, ?_⟩
  clear oG t0 t1 hrun hw1 w1
  refine fg_end (by kernel_rfl) (fun w5 hw5 => ?_)
  try simp only [Act.put]
  obtain ⟨Y, hY⟩ : ∃ Y, Y = swp xs a pv := ⟨_, rfl⟩
  rw [← hY] at hw5
  have hyl : Y.length = n := by rw [hY, swp_len, hxl]
  have HRP := Lib.hid (show RP a b xs Y from by rw [hY]; exact .swap .refl a pv (Nat.le_refl _) hab hp1 hp2 (by omega))
  have HSAW := Lib.hid hw5.1
  have HO := Lib.hid hw5.2
  haveI : Old g w5 := ⟨hw5.1.lt⟩
  have HI0 := Lib.hid (show ∀ k, a < k → k < a1 → at0 Y k < at0 Y a from fun k k1 k2 => by omega)
  have HJ0 := Lib.hid (show ∀ k, bj < k → k < b → at0 Y a ≤ at0 Y k from fun k k1 k2 => by omega)
  clear hw5 hY c0 c1
  go_upto_block 0 with fail
  go_cut [10] from 12 to 167 (fun vS wx => ∃ x : Nat, a1 ≤ x ∧ x ≤ bj + 1 ∧ a < x ∧ vS = .int .i64 (x : Int) ∧ (∀ k, a < k → k < x → at0 Y k < at0 Y a) ∧ (x ≤ bj → at0 Y a ≤ at0 Y x) ∧ Gr w5 wx)
  case first =>
   go_wp2_with fail
   go_loopw [10] (fun vS wr => ∃ x : Nat, a1 ≤ x ∧ x ≤ bj + 1 ∧ a < x ∧ vS = .int .i64 (x : Int) ∧ (∀ k, a < k → k < x → at0 Y k < at0 Y a) ∧ Gr w5 wr) (fun v _ => bj + 1 - (intOf v).toNat)
   case atStart => exact ⟨a1, Nat.le_refl _, by omega, by omega, rfl, HI0.out, gri⟩
   case round =>
    obtain ⟨x, q1, q2, q3, rfl, hP, hg⟩ := hrel
    have HP := Lib.hid hP
    have HG := Lib.hid hg
    have hsa := HSAW.out.gr hg
    haveI := grc_of hg
    haveI : Old g wr := ⟨hsa.lt⟩
    by_cases hij : x ≤ bj
    ·have c0 := hsa.cell kq x (by omega)
     have c1 := hsa.cell kq a (by omega)
     have e1 : (x : Int) ≤ (bj : Int) := by omega
     have b0 : (x : Int) < (n : Int) := by omega
     have b1 : (a : Int) < (n : Int) := by omega
     clear hP hsa hg
     by_cases hlt : at0 Y x < at0 Y a
     ·have HL := Lib.hid (fun W => less_yes kq hlt W)
      have HLT := Lib.hid hlt
      clear hlt
      go_wp2
      refine wp_region_grow (by kernel_rfl) (by kernel_rfl) ?_
      repeat (go_big_quiet_step ((first | ((first | go_at_call 124 | go_at_call 135); exact grow_call (HL.out _)))))
      refine wpQuiet_nil ?_
      intro g1
      go_wp2
      go_roundw
      case rel => exact ⟨x + 1, by omega, by omega, by omega, by go_num, fun k k1 k2 => (by
       by_cases e : k = x
       ·subst e; exact HLT.out
       ·exact HP.out k (by omega) (by omega)), HG.out.trans gri⟩
      case measure => simp [intOf] <;> omega
     ·have HL := Lib.hid (fun W => less_no kq hlt W)
      have HLT := Lib.hid hlt
      clear hlt
      go_wp2
      refine wp_region_grow (by kernel_rfl) (by kernel_rfl) ?_
      repeat (go_big_quiet_step ((first | ((first | go_at_call 124 | go_at_call 135); exact grow_call (HL.out _)))))
      refine wpQuiet_nil ?_
      intro g1
      go_wp2
      go_meet
      case rel => exact ⟨x, q1, q2, q3, rfl, HP.out, fun _ => (by have := HLT.out; omega), HG.out.trans gri⟩
    ·have e1 : ¬ (x : Int) ≤ (bj : Int) := by omega
     clear hP hsa hg
     go_wp2
     refine wp_region_grow (by kernel_rfl) (by kernel_rfl) ?_
     repeat (go_big_quiet_step (fail))
     refine wpQuiet_nil ?_
     intro g1
     go_wp2
     go_meet
     case rel => exact ⟨x, q1, q2, q3, rfl, HP.out, fun h => absurd h hij, HG.out.trans gri⟩
  case rest =>
   obtain ⟨i, i1, i2, i3, rfl, hP1, hX1, hg1⟩ := hcut
   have HP1 := Lib.hid hP1
   have HX1 := Lib.hid hX1
   haveI := grc_of hg1
   have HG1 := Lib.hid hg1
   clear hP1 hX1 hg1
   go_upto_block 2 with fail
   go_cut [11] from 12 to 167 (fun vS wx => ∃ x : Nat, i ≤ x + 1 ∧ x ≤ bj ∧ a ≤ x ∧ vS = .int .i64 (x : Int) ∧ (∀ k, x < k → k < b → at0 Y a ≤ at0 Y k) ∧ (i ≤ x → at0 Y x < at0 Y a) ∧ Gr w5 wx)
   case first =>
    go_wp2_with fail
    go_loopw [11] (fun vS wr => ∃ x : Nat, i ≤ x + 1 ∧ x ≤ bj ∧ a ≤ x ∧ vS = .int .i64 (x : Int) ∧ (∀ k, x < k → k < b → at0 Y a ≤ at0 Y k) ∧ Gr w5 wr) (fun v _ => (intOf v).toNat)
    case atStart => exact ⟨bj, by omega, Nat.le_refl _, by omega, rfl, HJ0.out, gri⟩
    case round =>
     obtain ⟨x, q1, q2, q3, rfl, hP, hg⟩ := hrel
     have HP := Lib.hid hP
     have HG := Lib.hid hg
     have hsa := HSAW.out.gr hg
     haveI := grc_of hg
     haveI : Old g wr := ⟨hsa.lt⟩
     by_cases hij : i ≤ x
     ·have c0 := hsa.cell kq x (by omega)
      have c1 := hsa.cell kq a (by omega)
      have e1 : (i : Int) ≤ (x : Int) := by omega
      have b0 : (x : Int) < (n : Int) := by omega
      have b1 : (a : Int) < (n : Int) := by omega
      obtain ⟨x1, hx1⟩ : ∃ x1, x1 + 1 = x := ⟨x - 1, by omega⟩
      have rx1 : (x : Int) - 1 = (x1 : Int) := by omega
      have wx1 : IntKind.i64.wrap (x1 : Int) = (x1 : Int) := wrapS x1 (by omega)
      clear hP hsa hg
      by_cases hlt : at0 Y x < at0 Y a
      ·have HL := Lib.hid (fun W => less_yes kq hlt W)
       have HLT := Lib.hid hlt
       clear hlt
       go_wp2
       refine wp_region_grow (by kernel_rfl) (by kernel_rfl) ?_
       repeat (go_big_quiet_step ((first | ((first | go_at_call 124 | go_at_call 135); exact grow_call (HL.out _)))))
       refine wpQuiet_nil ?_
       intro g1
       go_wp2
       go_meet
       case rel => exact ⟨x, q1, q2, q3, rfl, HP.out, fun _ => HLT.out, HG.out.trans gri⟩
      ·have HL := Lib.hid (fun W => less_no kq hlt W)
       have HLT := Lib.hid hlt
       clear hlt
       go_wp2
       refine wp_region_grow (by kernel_rfl) (by kernel_rfl) ?_
       repeat (go_big_quiet_step ((first | ((first | go_at_call 124 | go_at_call 135); exact grow_call (HL.out _)))))
       refine wpQuiet_nil ?_
       intro g1
       go_wp2
       go_roundw
       case rel => exact ⟨x1, by omega, by omega, by omega, rfl, fun k k1 k2 => (by
        by_cases e : k = x
        ·subst e; exact (by have := HLT.out; omega)
        ·exact HP.out k (by omega) (by omega)), HG.out.trans gri⟩
       case measure => simp [intOf] <;> omega
     ·have e1 : ¬ (i : Int) ≤ (x : Int) := by omega
      clear hP hsa hg
      go_wp2
      refine wp_region_grow (by kernel_rfl) (by kernel_rfl) ?_
      repeat (go_big_quiet_step (fail))
      refine wpQuiet_nil ?_
      intro g1
      go_wp2
      go_meet
      case rel => exact ⟨x, q1, q2, q3, rfl, HP.out, fun h => absurd h hij, HG.out.trans gri⟩
   case rest =>
    obtain ⟨j, j1, j2, j3, rfl, hP2, hX2, hg2⟩ := hcut
    have HP2 := Lib.hid hP2
    have HX2 := Lib.hid hX2
    haveI := grc_of hg2
    have hsa := HSAW.out.gr hg2
    haveI : Old g wc := ⟨hsa.lt⟩
    have c0 := hsa.cell kq j (by omega)
    have c1 := hsa.cell kq a (by omega)
    have bj9 : (j : Int) < (n : Int) := by omega
    have HSA3 := hsa
    have HG2 := Lib.hid hg2
    clear hP2 hX2 hg2 hsa
    by_cases hij : j < i
    ·have e1 : (j : Int) < (i : Int) := by omega
     go_wp2
     refine wp_region_treeJ ⟨fun w' => Gr wc w', true, fun _ _ h => h, fun _ _ _ h g => h.trans g⟩ rfl (Gr.of ((Below.refl _ _).drew)) [2, 3] [0, 1, 4, 5, 6, 7, 8, 9, 10, 11] 4 13 (by kernel_rfl) (by kernel_rfl) ?_
     simp only [pick, List.drop, List.take, List.nil_append, List.cons_append]
     refine wpPure_step (.slice (some ⟨g, 0, none⟩) n c) rfl (fun w => by go_simp) ?_
     simp only [Act.put, List.setIfInBounds_toArray, List.set]
     refine wpPure_step (.int .i64 (a : Int)) rfl (fun w => by go_simp) ?_
     simp only [Act.put, List.setIfInBounds_toArray, List.set]
     show wpCalm _ _ _ _ _ _
     repeat (refine wpCalm_step (fun K hK => ?_); go_simp; first | (refine hK _ ?_; clear hK K) | (apply Exists.intro; refine ⟨fun _ => ?_, hK _ ?_⟩; (skip); clear hK K))
     refine wpCalm_nil ?_
     refine fg_one 12 (by kernel_rfl) ?_
     refine fg_pure (.pointer (some ⟨g, j, none⟩)) rfl rfl rfl (fun w => by go_simp) ?_
     simp only [Act.put, List.setIfInBounds_toArray, List.set]
     refine fg_one 13 (by kernel_rfl) ?_
     refine fg_effN rfl rfl rfl (fun w1 hw1 => ?_)
     have sa1 := SA.gr HSA3 hw1
     have t0 := sa1.cell kq j (by have := hyl; omega)
     have t1 := sa1.frozen j
     haveI oG : Old g w1 := ⟨sa1.lt⟩
     have hrun := st_run kq tq g j w1 ((at0 Y a)) (by assumption) (by assumption)
     refine effAt_stS rfl rfl rfl hrun ⟨⟨fun w2 => SA base w2 g n c (Y.set j (at0 Y a)) ∧ Onl wc w2 g, false, fun e => Bool.noConfusion e, fun e => Bool.noConfusion e⟩, ⟨sa1.put kq j _ (by have := hyl; omega), (Onl.of_gr hw1 g).trans (Onl.set _ g j _)⟩, fun e => absurd rfl e, ?_⟩
     clear oG sa1 t0 t1 hrun hw1 w1
     try simp only [Act.put, List.setIfInBounds_toArray, List.set]
     refine fg_one 14 (by kernel_rfl) ?_
     refine fg_pure (.pointer (some ⟨g, a, none⟩)) rfl rfl rfl (fun w => by go_simp) ?_
     simp only [Act.put, List.setIfInBounds_toArray, List.set]
     refine fg_one 15 (by kernel_rfl) ?_
     refine fg_effN rfl rfl rfl (fun w1 hw1 => ?_)
     have t0 := hw1.1.cell kq a (by rw [List.length_set]; have := hyl; omega)
     have t1 := hw1.1.frozen a
     haveI oG : Old g w1 := ⟨hw1.1.lt⟩
     have hrun := st_run kq tq g a w1 ((at0 Y j)) (by assumption) (by assumption)
     refine effAt_stS rfl rfl rfl hrun ⟨⟨fun w2 => SA base w2 g n c (swp Y j a) ∧ Onl wc w2 g, false, fun e => Bool.noConfusion e, fun e => Bool.noConfusion e⟩, ⟨hw1.1.put kq a _ (by rw [List.length_set]; have := hyl; omega), hw1.2.trans (Onl.set _ g a _)⟩, fun _ e => Bool.noConfusion e, ?_⟩
     clear oG t0 t1 hrun hw1 w1
     refine fg_end (by kernel_rfl) (fun w5 hw5 => ?_)
     try simp only [Act.put]
     have HF := Lib.hid hw5
     clear hw5
     go_wp2
     go_ret2
     have h9 := prt_end (xs := Y) (a := a) (b := b) (i := i) (j := j) ⟨fun k k1 k2 => HP1.out k k1 k2, fun k k1 k2 => HP2.out k k1 k2⟩ j3 (by omega) (by omega) (by omega)
     exact ⟨j, true, swp Y j a, rfl, HF.out.1.gr gri, ⟨j3, by omega, .swap HRP.out j a j3 (by omega) (Nat.le_refl _) hab (by omega), h9.1, h9.2⟩, HO.out.trans ((Onl.of_gr HG2.out g).trans (HF.out.2.trans (Onl.of_gr gri g)))⟩
    ·have e1 : ¬ (j : Int) < (i : Int) := by omega
     have hx1 := HX1.out (by omega)
     have hx2 := HX2.out (by omega)
     have hne : i ≠ j := fun e => by subst e; omega
     have c2 := HSA3.cell kq i (by omega)
     have bi9 : (i : Int) < (n : Int) := by omega
     have HPS := Lib.hid (prt_swap (xs := Y) (a := a) (b := b) (i := i) (j := j) ⟨fun k k1 k2 => HP1.out k k1 k2, fun k k1 k2 => HP2.out k k1 k2⟩ i3 (by omega) (by omega) (by omega) hx1 hx2)
     have HR2 := Lib.hid (RP.swap HRP.out i j (by omega) (by omega) (by omega) (by omega) (by omega))
     obtain ⟨jm, hjm⟩ : ∃ jm, j - 1 = jm := ⟨_, rfl⟩
     have rjm : (j : Int) - 1 = (jm : Int) := by omega
     have wjm : IntKind.i64.wrap (jm : Int) = (jm : Int) := wrapS jm (by omega)
     clear hx1 hx2 c1
     go_wp2
     refine wp_region_treeJ ⟨fun w' => Gr wc w', true, fun _ _ h => h, fun _ _ _ h g => h.trans g⟩ rfl (Gr.of ((Below.refl _ _).drew)) [2, 3] [0, 1, 4, 5, 6, 7, 8, 9, 10, 11] 4 13 (by kernel_rfl) (by kernel_rfl) ?_
     simp only [pick, List.drop, List.take, List.nil_append, List.cons_append]
     refine wpPure_step (.slice (some ⟨g, 0, none⟩) n c) rfl (fun w => by go_simp) ?_
     simp only [Act.put, List.setIfInBounds_toArray, List.set]
     refine wpPure_step (.int .i64 (j : Int)) rfl (fun w => by go_simp) ?_
     simp only [Act.put, List.setIfInBounds_toArray, List.set]
     show wpCalm _ _ _ _ _ _
     repeat (refine wpCalm_step (fun K hK => ?_); go_simp; first | (refine hK _ ?_; clear hK K) | (apply Exists.intro; refine ⟨fun _ => ?_, hK _ ?_⟩; (skip); clear hK K))
     refine wpCalm_nil ?_
     refine fg_one 12 (by kernel_rfl) ?_
     refine fg_pure (.pointer (some ⟨g, i, none⟩)) rfl rfl rfl (fun w => by go_simp) ?_
     simp only [Act.put, List.setIfInBounds_toArray, List.set]
     refine fg_one 13 (by kernel_rfl) ?_
     refine fg_effN rfl rfl rfl (fun w1 hw1 => ?_)
     have sa1 := SA.gr HSA3 hw1
     have t0 := sa1.cell kq i (by have := hyl; omega)
     have t1 := sa1.frozen i
     haveI oG : Old g w1 := ⟨sa1.lt⟩
     have hrun := st_run kq tq g i w1 ((at0 Y j)) (by assumption) (by assumption)
     refine effAt_stS rfl rfl rfl hrun ⟨⟨fun w2 => SA base w2 g n c (Y.set i (at0 Y j)) ∧ Onl wc w2 g, false, fun e => Bool.noConfusion e, fun e => Bool.noConfusion e⟩, ⟨sa1.put kq i _ (by have := hyl; omega), (Onl.of_gr hw1 g).trans (Onl.set _ g i _)⟩, fun e => absurd rfl e, ?_⟩
     clear oG sa1 t0 t1 hrun hw1 w1
     try simp only [Act.put, List.setIfInBounds_toArray, List.set]
     refine fg_one 14 (by kernel_rfl) ?_
     refine fg_pure (.pointer (some ⟨g, j, none⟩)) rfl rfl rfl (fun w => by go_simp) ?_
     simp only [Act.put, List.setIfInBounds_toArray, List.set]
     refine fg_one 15 (by kernel_rfl) ?_
     refine fg_effN rfl rfl rfl (fun w1 hw1 => ?_)
     have t0 := hw1.1.cell kq j (by rw [List.length_set]; have := hyl; omega)
     have t1 := hw1.1.frozen j
     haveI oG : Old g w1 := ⟨hw1.1.lt⟩
     have hrun := st_run kq tq g j w1 ((at0 Y i)) (by assumption) (by assumption)
     refine effAt_stS rfl rfl rfl hrun ⟨⟨fun w2 => SA base w2 g n c (swp Y i j) ∧ Onl wc w2 g, false, fun e => Bool.noConfusion e, fun e => Bool.noConfusion e⟩, ⟨hw1.1.put kq j _ (by rw [List.length_set]; have := hyl; omega), hw1.2.trans (Onl.set _ g j _)⟩, fun _ e => Bool.noConfusion e, ?_⟩
     clear oG t0 t1 hrun hw1 w1
     refine fg_end (by kernel_rfl) (fun w5 hw5 => ?_)
     try simp only [Act.put]
     have HF := Lib.hid hw5
     haveI : Old g w5 := ⟨hw5.1.lt⟩
     clear hw5
     go_wp2
     go_loopw [10, 11] (fun v10 v11 wr => ∃ (i j : Nat) (ys : List Int), a < i ∧ i ≤ j + 1 ∧ a ≤ j ∧ j < b ∧ v10 = .int .i64 (i : Int) ∧ v11 = .int .i64 (j : Int) ∧ SA base wr g n c ys ∧ RP a b xs ys ∧ Prt ys a b i j ∧ Onl w wr g) (fun v10 v11 _ => (intOf v11 + 1 - intOf v10).toNat)
     case atStart => exact ⟨i + 1, jm, swp Y i j, by omega, by omega, by omega, by omega, by go_num, rfl, HF.out.1.gr gri, HR2.out, by rw [show jm = j - 1 by omega]; exact HPS.out, HO.out.trans ((Onl.of_gr HG2.out g).trans (HF.out.2.trans (Onl.of_gr gri g)))⟩
     case round =>
      clear HF HR2 HPS HP1 HP2 HX1 HX2 HSA3 HSAW HRP HG1 HG2 HO hyl HI0 HJ0
      obtain ⟨i, j0, Z, i3, i2, j3, j4, rfl, rfl, hsa, hrp, hpt, ho⟩ := hrel
      have HSAW := Lib.hid hsa
      have HRP := Lib.hid hrp
      have HI0 := Lib.hid hpt.1
      have HJ0 := Lib.hid hpt.2
      have HO := Lib.hid ho
      have hyl := hsa.len
      haveI : Old g wr := ⟨hsa.lt⟩
      clear hsa hrp hpt ho
      obtain ⟨wo, rfl⟩ : ∃ wo : World, wo = wr := ⟨_, rfl⟩
      obtain ⟨i0, hi0⟩ : ∃ i0, i0 = i := ⟨_, rfl⟩
      rw [← hi0]
      rw [← hi0] at HI0 i2 i3
      clear hi0
      go_upto_block 6 with fail
      go_cut [10] from 99 to 152 (fun vS wx => ∃ x : Nat, i0 ≤ x ∧ x ≤ j0 + 1 ∧ a < x ∧ vS = .int .i64 (x : Int) ∧ (∀ k, a < k → k < x → at0 Z k < at0 Z a) ∧ (x ≤ j0 → at0 Z a ≤ at0 Z x) ∧ Gr wo wx)
      case first =>
       go_wp2_with fail
       go_loopw [10] (fun vS wr => ∃ x : Nat, i0 ≤ x ∧ x ≤ j0 + 1 ∧ a < x ∧ vS = .int .i64 (x : Int) ∧ (∀ k, a < k → k < x → at0 Z k < at0 Z a) ∧ Gr wo wr) (fun v _ => j0 + 1 - (intOf v).toNat)
       case atStart => exact ⟨i0, Nat.le_refl _, by omega, by omega, rfl, HI0.out, gri⟩
       case round =>
        obtain ⟨x, q1, q2, q3, rfl, hP, hg⟩ := hrel
        have HP := Lib.hid hP
        have HG := Lib.hid hg
        have hsa := HSAW.out.gr hg
        haveI := grc_of hg
        haveI : Old g wr := ⟨hsa.lt⟩
        by_cases hij : x ≤ j0
        ·have c0 := hsa.cell kq x (by omega)
         have c1 := hsa.cell kq a (by omega)
         have e1 : (x : Int) ≤ (j0 : Int) := by omega
         have b0 : (x : Int) < (n : Int) := by omega
         have b1 : (a : Int) < (n : Int) := by omega
         clear hP hsa hg
         by_cases hlt : at0 Z x < at0 Z a
         ·have HL := Lib.hid (fun W => less_yes kq hlt W)
          have HLT := Lib.hid hlt
          clear hlt
          go_wp2
          refine wp_region_grow (by kernel_rfl) (by kernel_rfl) ?_
          repeat (go_big_quiet_step ((first | ((first | go_at_call 124 | go_at_call 135); exact grow_call (HL.out _)))))
          refine wpQuiet_nil ?_
          intro g1
          go_wp2
          go_roundw
          case rel => exact ⟨x + 1, by omega, by omega, by omega, by go_num, fun k k1 k2 => (by
           by_cases e : k = x
           ·subst e; exact HLT.out
           ·exact HP.out k (by omega) (by omega)), HG.out.trans gri⟩
          case measure => simp [intOf] <;> omega
         ·have HL := Lib.hid (fun W => less_no kq hlt W)
          have HLT := Lib.hid hlt
          clear hlt
          go_wp2
          refine wp_region_grow (by kernel_rfl) (by kernel_rfl) ?_
          repeat (go_big_quiet_step ((first | ((first | go_at_call 124 | go_at_call 135); exact grow_call (HL.out _)))))
          refine wpQuiet_nil ?_
          intro g1
          go_wp2
          go_meet
          case rel => exact ⟨x, q1, q2, q3, rfl, HP.out, fun _ => (by have := HLT.out; omega), HG.out.trans gri⟩
        ·have e1 : ¬ (x : Int) ≤ (j0 : Int) := by omega
         clear hP hsa hg
         go_wp2
         refine wp_region_grow (by kernel_rfl) (by kernel_rfl) ?_
         repeat (go_big_quiet_step (fail))
         refine wpQuiet_nil ?_
         intro g1
         go_wp2
         go_meet
         case rel => exact ⟨x, q1, q2, q3, rfl, HP.out, fun h => absurd h hij, HG.out.trans gri⟩
      case rest =>
       obtain ⟨i, i1, i2, i3, rfl, hP1, hX1, hg1⟩ := hcut
       have HP1 := Lib.hid hP1
       have HX1 := Lib.hid hX1
       haveI := grc_of hg1
       have HG1 := Lib.hid hg1
       clear hP1 hX1 hg1
       go_upto_block 8 with fail
       go_cut [11] from 99 to 152 (fun vS wx => ∃ x : Nat, i ≤ x + 1 ∧ x ≤ j0 ∧ a ≤ x ∧ vS = .int .i64 (x : Int) ∧ (∀ k, x < k → k < b → at0 Z a ≤ at0 Z k) ∧ (i ≤ x → at0 Z x < at0 Z a) ∧ Gr wo wx)
       case first =>
        go_wp2_with fail
        go_loopw [11] (fun vS wr => ∃ x : Nat, i ≤ x + 1 ∧ x ≤ j0 ∧ a ≤ x ∧ vS = .int .i64 (x : Int) ∧ (∀ k, x < k → k < b → at0 Z a ≤ at0 Z k) ∧ Gr wo wr) (fun v _ => (intOf v).toNat)
        case atStart => exact ⟨j0, by omega, Nat.le_refl _, by omega, rfl, HJ0.out, gri⟩
        case round =>
         obtain ⟨x, q1, q2, q3, rfl, hP, hg⟩ := hrel
         have HP := Lib.hid hP
         have HG := Lib.hid hg
         have hsa := HSAW.out.gr hg
         haveI := grc_of hg
         haveI : Old g wr := ⟨hsa.lt⟩
         by_cases hij : i ≤ x
         ·have c0 := hsa.cell kq x (by omega)
          have c1 := hsa.cell kq a (by omega)
          have e1 : (i : Int) ≤ (x : Int) := by omega
          have b0 : (x : Int) < (n : Int) := by omega
          have b1 : (a : Int) < (n : Int) := by omega
          obtain ⟨x1, hx1⟩ : ∃ x1, x1 + 1 = x := ⟨x - 1, by omega⟩
          have rx1 : (x : Int) - 1 = (x1 : Int) := by omega
          have wx1 : IntKind.i64.wrap (x1 : Int) = (x1 : Int) := wrapS x1 (by omega)
          clear hP hsa hg
          by_cases hlt : at0 Z x < at0 Z a
          ·have HL := Lib.hid (fun W => less_yes kq hlt W)
           have HLT := Lib.hid hlt
           clear hlt
           go_wp2
           refine wp_region_grow (by kernel_rfl) (by kernel_rfl) ?_
           repeat (go_big_quiet_step ((first | ((first | go_at_call 124 | go_at_call 135); exact grow_call (HL.out _)))))
           refine wpQuiet_nil ?_
           intro g1
           go_wp2
           go_meet
           case rel => exact ⟨x, q1, q2, q3, rfl, HP.out, fun _ => HLT.out, HG.out.trans gri⟩
          ·have HL := Lib.hid (fun W => less_no kq hlt W)
           have HLT := Lib.hid hlt
           clear hlt
           go_wp2
           refine wp_region_grow (by kernel_rfl) (by kernel_rfl) ?_
           repeat (go_big_quiet_step ((first | ((first | go_at_call 124 | go_at_call 135); exact grow_call (HL.out _)))))
           refine wpQuiet_nil ?_
           intro g1
           go_wp2
           go_roundw
           case rel => exact ⟨x1, by omega, by omega, by omega, rfl, fun k k1 k2 => (by
            by_cases e : k = x
            ·subst e; exact (by have := HLT.out; omega)
            ·exact HP.out k (by omega) (by omega)), HG.out.trans gri⟩
           case measure => simp [intOf] <;> omega
         ·have e1 : ¬ (i : Int) ≤ (x : Int) := by omega
          clear hP hsa hg
          go_wp2
          refine wp_region_grow (by kernel_rfl) (by kernel_rfl) ?_
          repeat (go_big_quiet_step (fail))
          refine wpQuiet_nil ?_
          intro g1
          go_wp2
          go_meet
          case rel => exact ⟨x, q1, q2, q3, rfl, HP.out, fun h => absurd h hij, HG.out.trans gri⟩
       case rest =>
        obtain ⟨j, j1, j2, j3, rfl, hP2, hX2, hg2⟩ := hcut
        have HP2 := Lib.hid hP2
        have HX2 := Lib.hid hX2
        haveI := grc_of hg2
        have hsa := HSAW.out.gr hg2
        haveI : Old g wc := ⟨hsa.lt⟩
        have c0 := hsa.cell kq j (by omega)
        have bj9 : (j : Int) < (n : Int) := by omega
        have HSA3 := hsa
        have HG2 := Lib.hid hg2
        clear hP2 hX2 hg2 hsa
        by_cases hij : j < i
        ·have e1 : (j : Int) < (i : Int) := by omega
         have c1 := HSA3.cell kq a (by omega)
         go_wp2
         refine wp_region_treeJ ⟨fun w' => Gr wc w', true, fun _ _ h => h, fun _ _ _ h g => h.trans g⟩ rfl (Gr.of ((Below.refl _ _).drew)) [2, 3] [0, 1, 4, 5, 6, 7, 8, 9, 10, 11] 4 13 (by kernel_rfl) (by kernel_rfl) ?_
         simp only [pick, List.drop, List.take, List.nil_append, List.cons_append]
         refine wpPure_step (.slice (some ⟨g, 0, none⟩) n c) rfl (fun w => by go_simp) ?_
         simp only [Act.put, List.setIfInBounds_toArray, List.set]
         refine wpPure_step (.int .i64 (a : Int)) rfl (fun w => by go_simp) ?_
         simp only [Act.put, List.setIfInBounds_toArray, List.set]
         show wpCalm _ _ _ _ _ _
         repeat (refine wpCalm_step (fun K hK => ?_); go_simp; first | (refine hK _ ?_; clear hK K) | (apply Exists.intro; refine ⟨fun _ => ?_, hK _ ?_⟩; (skip); clear hK K))
         refine wpCalm_nil ?_
         refine fg_one 12 (by kernel_rfl) ?_
         refine fg_pure (.pointer (some ⟨g, j, none⟩)) rfl rfl rfl (fun w => by go_simp) ?_
         simp only [Act.put, List.setIfInBounds_toArray, List.set]
         refine fg_one 13 (by kernel_rfl) ?_
         refine fg_effN rfl rfl rfl (fun w1 hw1 => ?_)
         have sa1 := SA.gr HSA3 hw1
         have t0 := sa1.cell kq j (by have := hyl; omega)
         have t1 := sa1.frozen j
         haveI oG : Old g w1 := ⟨sa1.lt⟩
         have hrun := st_run kq tq g j w1 ((at0 Z a)) (by assumption) (by assumption)
         refine effAt_stS rfl rfl rfl hrun ⟨⟨fun w2 => SA base w2 g n c (Z.set j (at0 Z a)) ∧ Onl wc w2 g, false, fun e => Bool.noConfusion e, fun e => Bool.noConfusion e⟩, ⟨sa1.put kq j _ (by have := hyl; omega), (Onl.of_gr hw1 g).trans (Onl.set _ g j _)⟩, fun e => absurd rfl e, ?_⟩
         clear oG sa1 t0 t1 hrun hw1 w1
         try simp only [Act.put, List.setIfInBounds_toArray, List.set]
         refine fg_one 14 (by kernel_rfl) ?_
         refine fg_pure (.pointer (some ⟨g, a, none⟩)) rfl rfl rfl (fun w => by go_simp) ?_
         simp only [Act.put, List.setIfInBounds_toArray, List.set]
         refine fg_one 15 (by kernel_rfl) ?_
         refine fg_effN rfl rfl rfl (fun w1 hw1 => ?_)
         have t0 := hw1.1.cell kq a (by rw [List.length_set]; have := hyl; omega)
         have t1 := hw1.1.frozen a
         haveI oG : Old g w1 := ⟨hw1.1.lt⟩
         have hrun := st_run kq tq g a w1 ((at0 Z j)) (by assumption) (by assumption)
         refine effAt_stS rfl rfl rfl hrun ⟨⟨fun w2 => SA base w2 g n c (swp Z j a) ∧ Onl wc w2 g, false, fun e => Bool.noConfusion e, fun e => Bool.noConfusion e⟩, ⟨hw1.1.put kq a _ (by rw [List.length_set]; have := hyl; omega), hw1.2.trans (Onl.set _ g a _)⟩, fun _ e => Bool.noConfusion e, ?_⟩
         clear oG t0 t1 hrun hw1 w1
         refine fg_end (by kernel_rfl) (fun w5 hw5 => ?_)
         try simp only [Act.put]
         have HF := Lib.hid hw5
         clear hw5
         go_wp2
         go_ret2
         have h9 := prt_end (xs := Z) (a := a) (b := b) (i := i) (j := j) ⟨fun k k1 k2 => HP1.out k k1 k2, fun k k1 k2 => HP2.out k k1 k2⟩ j3 (by omega) (by omega) (by omega)
         exact ⟨j, false, swp Z j a, rfl, HF.out.1.gr gri, ⟨j3, by omega, .swap HRP.out j a j3 (by omega) (Nat.le_refl _) hab (by omega), h9.1, h9.2⟩, HO.out.trans ((Onl.of_gr HG2.out g).trans (HF.out.2.trans (Onl.of_gr gri g)))⟩
        ·have e1 : ¬ (j : Int) < (i : Int) := by omega
         have hx1 := HX1.out (by omega)
         have hx2 := HX2.out (by omega)
         have hne : i ≠ j := fun e => by subst e; omega
         have c2 := HSA3.cell kq i (by omega)
         have bi9 : (i : Int) < (n : Int) := by omega
         have HPS := Lib.hid (prt_swap (xs := Z) (a := a) (b := b) (i := i) (j := j) ⟨fun k k1 k2 => HP1.out k k1 k2, fun k k1 k2 => HP2.out k k1 k2⟩ i3 (by omega) (by omega) (by omega) hx1 hx2)
         have HR2 := Lib.hid (RP.swap HRP.out i j (by omega) (by omega) (by omega) (by omega) (by omega))
         obtain ⟨jm, hjm⟩ : ∃ jm, j - 1 = jm := ⟨_, rfl⟩
         have rjm : (j : Int) - 1 = (jm : Int) := by omega
         have wjm : IntKind.i64.wrap (jm : Int) = (jm : Int) := wrapS jm (by omega)
         clear hx1 hx2
         go_wp2
         refine wp_region_treeJ ⟨fun w' => Gr wc w', true, fun _ _ h => h, fun _ _ _ h g => h.trans g⟩ rfl (Gr.of ((Below.refl _ _).drew)) [2, 3] [0, 1, 4, 5, 6, 7, 8, 9, 10, 11] 4 13 (by kernel_rfl) (by kernel_rfl) ?_
         simp only [pick, List.drop, List.take, List.nil_append, List.cons_append]
         refine wpPure_step (.slice (some ⟨g, 0, none⟩) n c) rfl (fun w => by go_simp) ?_
         simp only [Act.put, List.setIfInBounds_toArray, List.set]
         refine wpPure_step (.int .i64 (j : Int)) rfl (fun w => by go_simp) ?_
         simp only [Act.put, List.setIfInBounds_toArray, List.set]
         show wpCalm _ _ _ _ _ _
         repeat (refine wpCalm_step (fun K hK => ?_); go_simp; first | (refine hK _ ?_; clear hK K) | (apply Exists.intro; refine ⟨fun _ => ?_, hK _ ?_⟩; (skip); clear hK K))
         refine wpCalm_nil ?_
         refine fg_one 12 (by kernel_rfl) ?_
         refine fg_pure (.pointer (some ⟨g, i, none⟩)) rfl rfl rfl (fun w => by go_simp) ?_
         simp only [Act.put, List.setIfInBounds_toArray, List.set]
         refine fg_one 13 (by kernel_rfl) ?_
         refine fg_effN rfl rfl rfl (fun w1 hw1 => ?_)
         have sa1 := SA.gr HSA3 hw1
         have t0 := sa1.cell kq i (by have := hyl; omega)
         have t1 := sa1.frozen i
         haveI oG : Old g w1 := ⟨sa1.lt⟩
         have hrun := st_run kq tq g i w1 ((at0 Z j)) (by assumption) (by assumption)
         refine effAt_stS rfl rfl rfl hrun ⟨⟨fun w2 => SA base w2 g n c (Z.set i (at0 Z j)) ∧ Onl wc w2 g, false, fun e => Bool.noConfusion e, fun e => Bool.noConfusion e⟩, ⟨sa1.put kq i _ (by have := hyl; omega), (Onl.of_gr hw1 g).trans (Onl.set _ g i _)⟩, fun e => absurd rfl e, ?_⟩
         clear oG sa1 t0 t1 hrun hw1 w1
         try simp only [Act.put, List.setIfInBounds_toArray, List.set]
         refine fg_one 14 (by kernel_rfl) ?_
         refine fg_pure (.pointer (some ⟨g, j, none⟩)) rfl rfl rfl (fun w => by go_simp) ?_
         simp only [Act.put, List.setIfInBounds_toArray, List.set]
         refine fg_one 15 (by kernel_rfl) ?_
         refine fg_effN rfl rfl rfl (fun w1 hw1 => ?_)
         have t0 := hw1.1.cell kq j (by rw [List.length_set]; have := hyl; omega)
         have t1 := hw1.1.frozen j
         haveI oG : Old g w1 := ⟨hw1.1.lt⟩
         have hrun := st_run kq tq g j w1 ((at0 Z i)) (by assumption) (by assumption)
         refine effAt_stS rfl rfl rfl hrun ⟨⟨fun w2 => SA base w2 g n c (swp Z i j) ∧ Onl wc w2 g, false, fun e => Bool.noConfusion e, fun e => Bool.noConfusion e⟩, ⟨hw1.1.put kq j _ (by rw [List.length_set]; have := hyl; omega), hw1.2.trans (Onl.set _ g j _)⟩, fun _ e => Bool.noConfusion e, ?_⟩
         clear oG t0 t1 hrun hw1 w1
         refine fg_end (by kernel_rfl) (fun w5 hw5 => ?_)
         try simp only [Act.put]
         have HF := Lib.hid hw5
         haveI : Old g w5 := ⟨hw5.1.lt⟩
         clear hw5
         go_wp2
         go_roundw
         case rel => exact ⟨i + 1, jm, swp Z i j, by omega, by omega, by omega, by omega, by go_num, rfl, HF.out.1.gr gri, HR2.out, by rw [show jm = j - 1 by omega]; exact HPS.out, HO.out.trans ((Onl.of_gr HG2.out g).trans (HF.out.2.trans (Onl.of_gr gri g)))⟩
         case measure => simp [intOf] <;> omega
set_option maxRecDepth 100000
set_option maxHeartbeats 4000000

theorem reverse_any {F : Nat} (base : Bs) (g n c : Nat) (xs : List Int) (a b : Nat) (w : World) (h : SA base w g n c xs) (hn : n ≤ 1000000) (hab : a < b) (hb : b ≤ n) (hq : base.is 122 133 F := by first | exact .inl ⟨by assumption, by assumption, rfl⟩ | exact .inr ⟨by assumption, by assumption, rfl⟩) :
  Calls Tryz.prog F #[.slice (some ⟨g, 0, none⟩) n c, .int .i64 (a : Int), .int .i64 (b : Int)] w fun e w' => e = .returned (.tuple #[]) ∧ ∃ ys, SA base w' g n c ys ∧ RP a b xs ys ∧ Onl w w' g := by
 rcases hq with ⟨kq, tq, rfl⟩ | ⟨kq, tq, rfl⟩
 all_goals
  have H := Lib.hid h
  clear h
  obtain ⟨bj, hbj⟩ : ∃ bj, b - 1 = bj := ⟨_, rfl⟩
  have rbj : (b : Int) - 1 = (bj : Int) := by omega
  have wbj : IntKind.i64.wrap (bj : Int) = (bj : Int) := wrapS bj (by omega)
  first | go_enter Tryz.func122, Tryz.ntmps122 | go_enter Tryz.func133, Tryz.ntmps133
  go_wp2
  go_loopw [6, 7] (fun v6 v7 wr => ∃ (i j : Nat) (ys : List Int), a ≤ i ∧ j < b ∧ v6 = .int .i64 (i : Int) ∧ v7 = .int .i64 (j : Int) ∧ SA base wr g n c ys ∧ RP a b xs ys ∧ Onl w wr g) (fun v6 v7 _ => (intOf v7 - intOf v6).toNat)
  case atStart => exact ⟨a, bj, xs, Nat.le_refl _, by omega, rfl, rfl, H.out.gr gri, .refl, Onl.of_gr gri g⟩
  case round =>
   obtain ⟨i, j, ys, hi, hj, rfl, rfl, hsa, hrp, ho⟩ := hrel
   have HSA := Lib.hid hsa
   have HRP := Lib.hid hrp
   have HO := Lib.hid ho
   have hyl := hsa.len
   haveI : Old g wr := ⟨hsa.lt⟩
   by_cases hij : i < j
   ·have e1 : (i : Int) < (j : Int) := by omega
    have c0 := hsa.cell kq i (by omega)
    have c1 := hsa.cell kq j (by omega)
    have b0 : (i : Int) < (n : Int) := by omega
    have b1 : (j : Int) < (n : Int) := by omega
    obtain ⟨jm, hjm⟩ : ∃ jm, j - 1 = jm := ⟨_, rfl⟩
    have rjm : (j : Int) - 1 = (jm : Int) := by omega
    have wjm : IntKind.i64.wrap (jm : Int) = (jm : Int) := wrapS jm (by omega)
    have HSA3 := hsa
    clear hsa hrp ho
    go_wp2
    refine wp_region_treeJ ⟨fun w' => Gr wr w', true, fun _ _ h => h, fun _ _ _ h g => h.trans g⟩ rfl (Gr.of ((Below.refl _ _).drew)) [2, 3] [0, 1, 4, 5, 6, 7, 8, 9, 10, 11] 4 13 (by kernel_rfl) (by kernel_rfl) ?_
    simp only [pick, List.drop, List.take, List.nil_append, List.cons_append]
    refine wpPure_step (.slice (some ⟨g, 0, none⟩) n c) rfl (fun w => by go_simp) ?_
    simp only [Act.put, List.setIfInBounds_toArray, List.set]
    refine wpPure_step (.int .i64 (j : Int)) rfl (fun w => by go_simp) ?_
    simp only [Act.put, List.setIfInBounds_toArray, List.set]
    show wpCalm _ _ _ _ _ _
    repeat (refine wpCalm_step (fun K hK => ?_); go_simp; first | (refine hK _ ?_; clear hK K) | (apply Exists.intro; refine ⟨fun _ => ?_, hK _ ?_⟩; (skip); clear hK K))
    refine wpCalm_nil ?_
    refine fg_one 12 (by kernel_rfl) ?_
    refine fg_pure (.pointer (some ⟨g, i, none⟩)) rfl rfl rfl (fun w => by go_simp) ?_
    simp only [Act.put, List.setIfInBounds_toArray, List.set]
    refine fg_one 13 (by kernel_rfl) ?_
    refine fg_effN rfl rfl rfl (fun w1 hw1 => ?_)
    have sa1 := SA.gr HSA3 hw1
    have t0 := sa1.cell kq i (by have := hyl; omega)
    have t1 := sa1.frozen i
    haveI oG : Old g w1 := ⟨sa1.lt⟩
    have hrun := st_run kq tq g i w1 ((at0 ys j)) (by assumption) (by assumption)
    refine effAt_stS rfl rfl rfl hrun ⟨⟨fun w2 => SA base w2 g n c (ys.set i (at0 ys j)) ∧ Onl wr w2 g, false, fun e => Bool.noConfusion e, fun e => Bool.noConfusion e⟩, ⟨sa1.put kq i _ (by have := hyl; omega), (Onl.of_gr hw1 g).trans (Onl.set _ g i _)⟩, fun e => absurd rfl e, ?_⟩
    clear oG sa1 t0 t1 hrun hw1 w1
    try simp only [Act.put, List.setIfInBounds_toArray, List.set]
    refine fg_one 14 (by kernel_rfl) ?_
    refine fg_pure (.pointer (some ⟨g, j, none⟩)) rfl rfl rfl (fun w => by go_simp) ?_
    simp only [Act.put, List.setIfInBounds_toArray, List.set]
    refine fg_one 15 (by kernel_rfl) ?_
    refine fg_effN rfl rfl rfl (fun w1 hw1 => ?_)
    have t0 := hw1.1.cell kq j (by rw [List.length_set]; have := hyl; omega)
    have t1 := hw1.1.frozen j
    haveI oG : Old g w1 := ⟨hw1.1.lt⟩
    have hrun := st_run kq tq g j w1 ((at0 ys i)) (by assumption) (by assumption)
    refine effAt_stS rfl rfl rfl hrun ⟨⟨fun w2 => SA base w2 g n c (swp ys i j) ∧ Onl wr w2 g, false, fun e => Bool.noConfusion e, fun e => Bool.noConfusion e⟩, ⟨hw1.1.put kq j _ (by rw [List.length_set]; have := hyl; omega), hw1.2.trans (Onl.set _ g j _)⟩, fun _ e => Bool.noConfusion e, ?_⟩
    clear oG t0 t1 hrun hw1 w1
    refine fg_end (by kernel_rfl) (fun w5 hw5 => ?_)
    try simp only [Act.put]
    have HF := Lib.hid hw5
    clear hw5
    go_wp2
    go_roundw
    case rel => exact ⟨i + 1, jm, swp ys i j, by omega, by omega, by go_num, rfl, HF.out.1.gr gri, .swap HRP.out i j hi (by omega) (by omega) hj (by omega), HO.out.trans (HF.out.2.trans (Onl.of_gr gri g))⟩
    case measure => simp [intOf] <;> omega
   ·have e1 : ¬ (i : Int) < (j : Int) := by omega
    clear hsa hrp ho
    go_wp2
    exact ⟨rfl, .tuple #[], by simp [results, go_sem], ⟨rfl, ys, HSA.out.gr gri, HRP.out, HO.out.trans (Onl.of_gr gri g)⟩⟩
end Go.Proofs.YtddckdhnolmjoaaGreat
