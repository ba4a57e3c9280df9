/- slices.partitionOrdered. Conditions: the row stands in memory, at most 10^6 elements. .. -/
import Derived.Test.YtddckdhnolmjoaaGreatW11
import Derived.Deep.CutBlock
import Derived.Test.YtddckdhnolmjoaaGreatW01
set_option linter.unusedVariables false
set_option linter.unusedSimpArgs false
set_option linter.unnecessarySimpa false
set_option maxRecDepth 100000
set_option maxHeartbeats 8000000
namespace Go.Proofs.YtddckdhnolmjoaaGreat
open Go.RowKit
def Parted (xs ys : List Int) (a b mid : Nat) : Prop := a ≤ mid ∧ mid < b ∧ RP a b xs ys ∧ (∀ k, a ≤ k → k < mid → at0 ys k ≤ at0 ys mid) ∧ ∀ k, mid < k → k < b → at0 ys mid ≤ at0 ys k
def PrtPost (base : Bs) (g n c : Nat) (xs : List Int) (a b : Nat) (w : World) (e : Ending) (w' : World) : Prop := ∃ (mid : Nat) (done : Bool) (ys : List Int), e = .returned (.tuple #[.int .i64 (mid : Int), .bool done]) ∧ SA base w' g n c ys ∧ Parted xs ys a b mid ∧ Onl w w' g
theorem partition_any {F : Nat} (base : Bs) (g n c : Nat) (xs : List Int) (a b pv : Nat) (w : World) (h : SA base w g n c xs) (hn : n ≤ 1000000) (hab : a < b) (hb : b ≤ n) (hp1 : a ≤ pv) (hp2 : pv < b) (hq : base.is 126 137 F := by first | exact .inl ⟨by assumption, by assumption, rfl⟩ | exact .inr ⟨by assumption, by assumption, rfl⟩) :
  Calls Tryz.prog F #[.slice (some ⟨g, 0, none⟩) n c, .int .i64 (a : Int), .int .i64 (b : Int), .int .i64 (pv : Int)] w (PrtPost base g n c xs a b w) := by
 rcases hq with ⟨kq, tq, rfl⟩ | ⟨kq, tq, rfl⟩
 all_goals as_aux_lemma =>
  have H := hd_ h
  have hxl := h.len
  have c0 := h.cell kq a (by omega)
  have c1 := h.cell kq pv (by omega)
  have ba : (a : Int) < (n : Int) := by omega
  have bp : (pv : Int) < (n : Int) := by omega
  haveI : Old g w := ⟨h.lt⟩
  clear h
  obtain ⟨bj, hbj⟩ : ∃ bj, b - 1 = bj := ⟨_, rfl⟩
  have rbj : (b : Int) - 1 = (bj : Int) := by omega
  have wbj : IntKind.i64.wrap (bj : Int) = (bj : Int) := wrapS bj (by omega)
  obtain ⟨a1, ha1⟩ : ∃ a1, a + 1 = a1 := ⟨_, rfl⟩
  have ra1 : (a : Int) + 1 = (a1 : Int) := by omega
  have wa1 : IntKind.i64.wrap (a1 : Int) = (a1 : Int) := wrapS a1 (by omega)
  first | go_enter Tryz.func126, Tryz.ntmps126 | go_enter Tryz.func137, Tryz.ntmps137
  go_wp2
  have HSA3 := H.out.gr (gri : Gr w w)
  refine wp_region_treeJ ⟨fun w' => Gr w w', true, fun _ _ h => h, fun _ _ _ h g => h.trans g⟩ rfl (Gr.of ((Below.refl _ _).drew)) [2, 3] [0, 1, 4, 5, 6, 7, 8, 9, 10, 11] 4 13 (by kernel_rfl) (by kernel_rfl) ?_
  simp only [pick, List.drop, List.take, List.nil_append, List.cons_append]
  refine wpPure_step (.slice (some ⟨g, 0, none⟩) n c) rfl (fun w => by go_simp) ?_
  simp only [Act.put, stA, List.set]
  refine wpPure_step (.int .i64 (pv : Int)) rfl (fun w => by go_simp) ?_
  simp only [Act.put, stA, List.set]
  show wpCalm _ _ _ _ _ _
  repeat (refine wpCalm_step (fun K hK => ?_); go_simp; first | (refine hK _ ?_; clear hK K) | (apply Exists.intro; refine ⟨fun _ => ?_, hK _ ?_⟩; (skip); clear hK K))
  refine wpCalm_nil ?_
  refine fg_one 12 (by kernel_rfl) ?_
  refine fg_pure (.pointer (some ⟨g, a, none⟩)) rfl rfl rfl (fun w => by go_simp) ?_
  simp only [Act.put, stA, List.set]
  refine fg_one 13 (by kernel_rfl) ?_
  refine fg_effN rfl rfl rfl (fun w1 hw1 => ?_)
  have sa1 := SA.gr HSA3 hw1
  have t0 := sa1.cell kq a (by have := hxl; omega)
  have t1 := sa1.frozen a
  haveI oG : Old g w1 := ⟨sa1.lt⟩
  have hrun := st_run kq tq g a w1 ((at0 xs pv)) (by assumption) (by assumption)
  refine effAt_stS rfl rfl rfl hrun ⟨⟨fun w2 => SA base w2 g n c (xs.set a (at0 xs pv)) ∧ Onl w w2 g, false, fun e => Bool.noConfusion e, fun e => Bool.noConfusion e⟩, ⟨sa1.put kq a _ (by have := hxl; omega), (Onl.of_gr hw1 g).trans (Onl.set _ g a _)⟩, fun e => absurd rfl e, ?_⟩
  clear oG sa1 t0 t1 hrun hw1 w1
  try simp only [Act.put, stA, List.set]
  refine fg_one 14 (by kernel_rfl) ?_
  refine fg_pure (.pointer (some ⟨g, pv, none⟩)) rfl rfl rfl (fun w => by go_simp) ?_
  simp only [Act.put, stA, List.set]
  refine fg_one 15 (by kernel_rfl) ?_
  refine fg_effN rfl rfl rfl (fun w1 hw1 => ?_)
  have t0 := hw1.1.cell kq pv (by rw [List.length_set]; have := hxl; omega)
  have t1 := hw1.1.frozen pv
  haveI oG : Old g w1 := ⟨hw1.1.lt⟩
  have hrun := st_run kq tq g pv w1 ((at0 xs a)) (by assumption) (by assumption)
  refine effAt_stS rfl rfl rfl hrun ⟨⟨fun w2 => SA base w2 g n c (swp xs a pv) ∧ Onl w w2 g, false, fun e => Bool.noConfusion e, fun e => Bool.noConfusion e⟩, ⟨hw1.1.put kq pv _ (by rw [List.length_set]; have := hxl; omega), hw1.2.trans (Onl.set _ g pv _)⟩, fun _ e => Bool.noConfusion e, ?_⟩
  clear oG t0 t1 hrun hw1 w1
  refine fg_end (by kernel_rfl) (fun w5 hw5 => ?_)
  try simp only [Act.put]
  obtain ⟨Y, hY⟩ : ∃ Y, Y = swp xs a pv := ⟨_, rfl⟩
  rw [← hY] at hw5
  have hyl : Y.length = n := by rw [hY, swp_len, hxl]
  have HRP := hd_ (show RP a b xs Y from by rw [hY]; exact .swap .refl a pv (Nat.le_refl _) hab hp1 hp2 (by omega))
  have HSAW := hd_ hw5.1
  have HO := hd_ hw5.2
  haveI : Old g w5 := ⟨hw5.1.lt⟩
  have HI0 := hd_ (show ∀ k, a < k → k < a1 → at0 Y k < at0 Y a from fun k k1 k2 => by omega)
  have HJ0 := hd_ (show ∀ k, bj < k → k < b → at0 Y a ≤ at0 Y k from fun k k1 k2 => by omega)
  clear hw5 hY c0 c1
  go_upto_block 0 with fail
  go_cut [10] from 12 to 167 (fun vS wx => ∃ x : Nat, a1 ≤ x ∧ x ≤ bj + 1 ∧ a < x ∧ vS = .int .i64 (x : Int) ∧ (∀ k, a < k → k < x → at0 Y k < at0 Y a) ∧ (x ≤ bj → at0 Y a ≤ at0 Y x) ∧ Gr w5 wx)
  case first =>
   go_wp2_with fail
   go_loopw [10] (fun vS wr => ∃ x : Nat, a1 ≤ x ∧ x ≤ bj + 1 ∧ a < x ∧ vS = .int .i64 (x : Int) ∧ (∀ k, a < k → k < x → at0 Y k < at0 Y a) ∧ Gr w5 wr) (fun v _ => bj + 1 - (intOf v).toNat)
   case atStart => exact ⟨a1, Nat.le_refl _, by omega, by omega, rfl, HI0.out, gri⟩
   case round =>
    obtain ⟨x, q1, q2, q3, rfl, hP, hg⟩ := hrel
    have HP := hd_ hP
    have HG := hd_ hg
    have hsa := HSAW.out.gr hg
    haveI := grc_of hg
    haveI : Old g wr := ⟨hsa.lt⟩
    by_cases hij : x ≤ bj
    ·have c0 := hsa.cell kq x (by omega)
     have c1 := hsa.cell kq a (by omega)
     have e1 : (x : Int) ≤ (bj : Int) := by omega
     have b0 : (x : Int) < (n : Int) := by omega
     have b1 : (a : Int) < (n : Int) := by omega
     clear hP hsa hg
     by_cases hlt : at0 Y x < at0 Y a
     ·have HL := hd_ (fun W => less_yes kq hlt W)
      have HLT := hd_ hlt
      clear hlt
      go_wp2
      refine wp_region_grow (by kernel_rfl) (by kernel_rfl) ?_
      repeat (go_big_quiet_step ((first | ((first | go_at_call 124 | go_at_call 135); exact grow_call (HL.out _)))))
      refine wpQuiet_nil ?_
      intro g1
      go_wp2
      go_roundw
      case rel => exact ⟨x + 1, by omega, by omega, by omega, by go_num, fun k k1 k2 => (by
       by_cases e : k = x
       ·subst e; exact HLT.out
       ·exact HP.out k (by omega) (by omega)), HG.out.trans gri⟩
      case measure => simp [intOf] <;> omega
     ·have HL := hd_ (fun W => less_no kq hlt W)
      have HLT := hd_ hlt
      clear hlt
      go_wp2
      refine wp_region_grow (by kernel_rfl) (by kernel_rfl) ?_
      repeat (go_big_quiet_step ((first | ((first | go_at_call 124 | go_at_call 135); exact grow_call (HL.out _)))))
      refine wpQuiet_nil ?_
      intro g1
      go_wp2
      go_meet
      case rel => exact ⟨x, q1, q2, q3, rfl, HP.out, fun _ => (by have := HLT.out; omega), HG.out.trans gri⟩
    ·have e1 : ¬ (x : Int) ≤ (bj : Int) := by omega
     clear hP hsa hg
     go_wp2
     refine wp_region_grow (by kernel_rfl) (by kernel_rfl) ?_
     repeat (go_big_quiet_step (fail))
     refine wpQuiet_nil ?_
     intro g1
     go_wp2
     go_meet
     case rel => exact ⟨x, q1, q2, q3, rfl, HP.out, fun h => absurd h hij, HG.out.trans gri⟩
  case rest =>
   obtain ⟨i, i1, i2, i3, rfl, hP1, hX1, hg1⟩ := hcut
   have HP1 := hd_ hP1
   have HX1 := hd_ hX1
   haveI := grc_of hg1
   have HG1 := hd_ hg1
   clear hP1 hX1 hg1
   go_upto_block 2 with fail
   go_cut [11] from 12 to 167 (fun vS wx => ∃ x : Nat, i ≤ x + 1 ∧ x ≤ bj ∧ a ≤ x ∧ vS = .int .i64 (x : Int) ∧ (∀ k, x < k → k < b → at0 Y a ≤ at0 Y k) ∧ (i ≤ x → at0 Y x < at0 Y a) ∧ Gr w5 wx)
   case first =>
    go_wp2_with fail
    go_loopw [11] (fun vS wr => ∃ x : Nat, i ≤ x + 1 ∧ x ≤ bj ∧ a ≤ x ∧ vS = .int .i64 (x : Int) ∧ (∀ k, x < k → k < b → at0 Y a ≤ at0 Y k) ∧ Gr w5 wr) (fun v _ => (intOf v).toNat)
    case atStart => exact ⟨bj, by omega, Nat.le_refl _, by omega, rfl, HJ0.out, gri⟩
    case round =>
     obtain ⟨x, q1, q2, q3, rfl, hP, hg⟩ := hrel
     have HP := hd_ hP
     have HG := hd_ hg
     have hsa := HSAW.out.gr hg
     haveI := grc_of hg
     haveI : Old g wr := ⟨hsa.lt⟩
     by_cases hij : i ≤ x
     ·have c0 := hsa.cell kq x (by omega)
      have c1 := hsa.cell kq a (by omega)
      have e1 : (i : Int) ≤ (x : Int) := by omega
      have b0 : (x : Int) < (n : Int) := by omega
      have b1 : (a : Int) < (n : Int) := by omega
      obtain ⟨x1, hx1⟩ : ∃ x1, x1 + 1 = x := ⟨x - 1, by omega⟩
      have rx1 : (x : Int) - 1 = (x1 : Int) := by omega
      have wx1 : IntKind.i64.wrap (x1 : Int) = (x1 : Int) := wrapS x1 (by omega)
      clear hP hsa hg
      by_cases hlt : at0 Y x < at0 Y a
      ·have HL := hd_ (fun W => less_yes kq hlt W)
       have HLT := hd_ hlt
       clear hlt
       go_wp2
       refine wp_region_grow (by kernel_rfl) (by kernel_rfl) ?_
       repeat (go_big_quiet_step ((first | ((first | go_at_call 124 | go_at_call 135); exact grow_call (HL.out _)))))
       refine wpQuiet_nil ?_
       intro g1
       go_wp2
       go_meet
       case rel => exact ⟨x, q1, q2, q3, rfl, HP.out, fun _ => HLT.out, HG.out.trans gri⟩
      ·have HL := hd_ (fun W => less_no kq hlt W)
       have HLT := hd_ hlt
       clear hlt
       go_wp2
       refine wp_region_grow (by kernel_rfl) (by kernel_rfl) ?_
       repeat (go_big_quiet_step ((first | ((first | go_at_call 124 | go_at_call 135); exact grow_call (HL.out _)))))
       refine wpQuiet_nil ?_
       intro g1
       go_wp2
       go_roundw
       case rel => exact ⟨x1, by omega, by omega, by omega, rfl, fun k k1 k2 => (by
        by_cases e : k = x
        ·subst e; exact (by have := HLT.out; omega)
        ·exact HP.out k (by omega) (by omega)), HG.out.trans gri⟩
       case measure => simp [intOf] <;> omega
     ·have e1 : ¬ (i : Int) ≤ (x : Int) := by omega
      clear hP hsa hg
      go_wp2
      refine wp_region_grow (by kernel_rfl) (by kernel_rfl) ?_
      repeat (go_big_quiet_step (fail))
      refine wpQuiet_nil ?_
      intro g1
      go_wp2
      go_meet
      case rel => exact ⟨x, q1, q2, q3, rfl, HP.out, fun h => absurd h hij, HG.out.trans gri⟩
   case rest =>
    obtain ⟨j, j1, j2, j3, rfl, hP2, hX2, hg2⟩ := hcut
    have HP2 := hd_ hP2
    have HX2 := hd_ hX2
    haveI := grc_of hg2
    have hsa := HSAW.out.gr hg2
    haveI : Old g wc := ⟨hsa.lt⟩
    have c0 := hsa.cell kq j (by omega)
    have c1 := hsa.cell kq a (by omega)
    have bj9 : (j : Int) < (n : Int) := by omega
    have HSA3 := hsa
    have HG2 := hd_ hg2
    clear hP2 hX2 hg2 hsa
    by_cases hij : j < i
    ·have e1 : (j : Int) < (i : Int) := by omega
     go_wp2
     refine wp_region_treeJ ⟨fun w' => Gr wc w', true, fun _ _ h => h, fun _ _ _ h g => h.trans g⟩ rfl (Gr.of ((Below.refl _ _).drew)) [2, 3] [0, 1, 4, 5, 6, 7, 8, 9, 10, 11] 4 13 (by kernel_rfl) (by kernel_rfl) ?_
     simp only [pick, List.drop, List.take, List.nil_append, List.cons_append]
     refine wpPure_step (.slice (some ⟨g, 0, none⟩) n c) rfl (fun w => by go_simp) ?_
     simp only [Act.put, stA, List.set]
     refine wpPure_step (.int .i64 (a : Int)) rfl (fun w => by go_simp) ?_
     simp only [Act.put, stA, List.set]
     show wpCalm _ _ _ _ _ _
     repeat (refine wpCalm_step (fun K hK => ?_); go_simp; first | (refine hK _ ?_; clear hK K) | (apply Exists.intro; refine ⟨fun _ => ?_, hK _ ?_⟩; (skip); clear hK K))
     refine wpCalm_nil ?_
     refine fg_one 12 (by kernel_rfl) ?_
     refine fg_pure (.pointer (some ⟨g, j, none⟩)) rfl rfl rfl (fun w => by go_simp) ?_
     simp only [Act.put, stA, List.set]
     refine fg_one 13 (by kernel_rfl) ?_
     refine fg_effN rfl rfl rfl (fun w1 hw1 => ?_)
     have sa1 := SA.gr HSA3 hw1
     have t0 := sa1.cell kq j (by have := hyl; omega)
     have t1 := sa1.frozen j
     haveI oG : Old g w1 := ⟨sa1.lt⟩
     have hrun := st_run kq tq g j w1 ((at0 Y a)) (by assumption) (by assumption)
     refine effAt_stS rfl rfl rfl hrun ⟨⟨fun w2 => SA base w2 g n c (Y.set j (at0 Y a)) ∧ Onl wc w2 g, false, fun e => Bool.noConfusion e, fun e => Bool.noConfusion e⟩, ⟨sa1.put kq j _ (by have := hyl; omega), (Onl.of_gr hw1 g).trans (Onl.set _ g j _)⟩, fun e => absurd rfl e, ?_⟩
     clear oG sa1 t0 t1 hrun hw1 w1
     try simp only [Act.put, stA, List.set]
     refine fg_one 14 (by kernel_rfl) ?_
     refine fg_pure (.pointer (some ⟨g, a, none⟩)) rfl rfl rfl (fun w => by go_simp) ?_
     simp only [Act.put, stA, List.set]
     refine fg_one 15 (by kernel_rfl) ?_
     refine fg_effN rfl rfl rfl (fun w1 hw1 => ?_)
     have t0 := hw1.1.cell kq a (by rw [List.length_set]; have := hyl; omega)
     have t1 := hw1.1.frozen a
     haveI oG : Old g w1 := ⟨hw1.1.lt⟩
     have hrun := st_run kq tq g a w1 ((at0 Y j)) (by assumption) (by assumption)
     refine effAt_stS rfl rfl rfl hrun ⟨⟨fun w2 => SA base w2 g n c (swp Y j a) ∧ Onl wc w2 g, false, fun e => Bool.noConfusion e, fun e => Bool.noConfusion e⟩, ⟨hw1.1.put kq a _ (by rw [List.length_set]; have := hyl; omega), hw1.2.trans (Onl.set _ g a _)⟩, fun _ e => Bool.noConfusion e, ?_⟩
     clear oG t0 t1 hrun hw1 w1
     refine fg_end (by kernel_rfl) (fun w5 hw5 => ?_)
     try simp only [Act.put]
     have HF := hd_ hw5
     clear hw5
     go_wp2
     go_ret2
     have h9 := prt_end (xs := Y) (a := a) (b := b) (i := i) (j := j) ⟨fun k k1 k2 => HP1.out k k1 k2, fun k k1 k2 => HP2.out k k1 k2⟩ j3 (by omega) (by omega) (by omega)
     exact ⟨j, true, swp Y j a, rfl, HF.out.1.gr gri, ⟨j3, by omega, .swap HRP.out j a j3 (by omega) (Nat.le_refl _) hab (by omega), h9.1, h9.2⟩, HO.out.trans ((Onl.of_gr HG2.out g).trans (HF.out.2.trans (Onl.of_gr gri g)))⟩
    ·have e1 : ¬ (j : Int) < (i : Int) := by omega
     have hx1 := HX1.out (by omega)
     have hx2 := HX2.out (by omega)
     have hne : i ≠ j := fun e => by subst e; omega
     have c2 := HSA3.cell kq i (by omega)
     have bi9 : (i : Int) < (n : Int) := by omega
     have HPS := hd_ (prt_swap (xs := Y) (a := a) (b := b) (i := i) (j := j) ⟨fun k k1 k2 => HP1.out k k1 k2, fun k k1 k2 => HP2.out k k1 k2⟩ i3 (by omega) (by omega) (by omega) hx1 hx2)
     have HR2 := hd_ (RP.swap HRP.out i j (by omega) (by omega) (by omega) (by omega) (by omega))
     obtain ⟨jm, hjm⟩ : ∃ jm, j - 1 = jm := ⟨_, rfl⟩
     have rjm : (j : Int) - 1 = (jm : Int) := by omega
     have wjm : IntKind.i64.wrap (jm : Int) = (jm : Int) := wrapS jm (by omega)
     clear hx1 hx2 c1
     go_wp2
     refine wp_region_treeJ ⟨fun w' => Gr wc w', true, fun _ _ h => h, fun _ _ _ h g => h.trans g⟩ rfl (Gr.of ((Below.refl _ _).drew)) [2, 3] [0, 1, 4, 5, 6, 7, 8, 9, 10, 11] 4 13 (by kernel_rfl) (by kernel_rfl) ?_
     simp only [pick, List.drop, List.take, List.nil_append, List.cons_append]
     refine wpPure_step (.slice (some ⟨g, 0, none⟩) n c) rfl (fun w => by go_simp) ?_
     simp only [Act.put, stA, List.set]
     refine wpPure_step (.int .i64 (j : Int)) rfl (fun w => by go_simp) ?_
     simp only [Act.put, stA, List.set]
     show wpCalm _ _ _ _ _ _
     repeat (refine wpCalm_step (fun K hK => ?_); go_simp; first | (refine hK _ ?_; clear hK K) | (apply Exists.intro; refine ⟨fun _ => ?_, hK _ ?_⟩; (skip); clear hK K))
     refine wpCalm_nil ?_
     refine fg_one 12 (by kernel_rfl) ?_
     refine fg_pure (.pointer (some ⟨g, i, none⟩)) rfl rfl rfl (fun w => by go_simp) ?_
     simp only [Act.put, stA, List.set]
     refine fg_one 13 (by kernel_rfl) ?_
     refine fg_effN rfl rfl rfl (fun w1 hw1 => ?_)
     have sa1 := SA.gr HSA3 hw1
     have t0 := sa1.cell kq i (by have := hyl; omega)
     have t1 := sa1.frozen i
     haveI oG : Old g w1 := ⟨sa1.lt⟩
     have hrun := st_run kq tq g i w1 ((at0 Y j)) (by assumption) (by assumption)
     refine effAt_stS rfl rfl rfl hrun ⟨⟨fun w2 => SA base w2 g n c (Y.set i (at0 Y j)) ∧ Onl wc w2 g, false, fun e => Bool.noConfusion e, fun e => Bool.noConfusion e⟩, ⟨sa1.put kq i _ (by have := hyl; omega), (Onl.of_gr hw1 g).trans (Onl.set _ g i _)⟩, fun e => absurd rfl e, ?_⟩
     clear oG sa1 t0 t1 hrun hw1 w1
     try simp only [Act.put, stA, List.set]
     refine fg_one 14 (by kernel_rfl) ?_
     refine fg_pure (.pointer (some ⟨g, j, none⟩)) rfl rfl rfl (fun w => by go_simp) ?_
     simp only [Act.put, stA, List.set]
     refine fg_one 15 (by kernel_rfl) ?_
     refine fg_effN rfl rfl rfl (fun w1 hw1 => ?_)
     have t0 := hw1.1.cell kq j (by rw [List.length_set]; have := hyl; omega)
     have t1 := hw1.1.frozen j
     haveI oG : Old g w1 := ⟨hw1.1.lt⟩
     have hrun := st_run kq tq g j w1 ((at0 Y i)) (by assumption) (by assumption)
     refine effAt_stS rfl rfl rfl hrun ⟨⟨fun w2 => SA base w2 g n c (swp Y i j) ∧ Onl wc w2 g, false, fun e => Bool.noConfusion e, fun e => Bool.noConfusion e⟩, ⟨hw1.1.put kq j _ (by rw [List.length_set]; have := hyl; omega), hw1.2.trans (Onl.set _ g j _)⟩, fun _ e => Bool.noConfusion e, ?_⟩
     clear oG t0 t1 hrun hw1 w1
     refine fg_end (by kernel_rfl) (fun w5 hw5 => ?_)
     try simp only [Act.put]
     have HF := hd_ hw5
     haveI : Old g w5 := ⟨hw5.1.lt⟩
     clear hw5
     go_wp2
     go_loopw [10, 11] (fun v10 v11 wr => ∃ (i j : Nat) (ys : List Int), a < i ∧ i ≤ j + 1 ∧ a ≤ j ∧ j < b ∧ v10 = .int .i64 (i : Int) ∧ v11 = .int .i64 (j : Int) ∧ SA base wr g n c ys ∧ RP a b xs ys ∧ Prt ys a b i j ∧ Onl w wr g) (fun v10 v11 _ => (intOf v11 + 1 - intOf v10).toNat)
     case atStart => exact ⟨i + 1, jm, swp Y i j, by omega, by omega, by omega, by omega, by go_num, rfl, HF.out.1.gr gri, HR2.out, by rw [show jm = j - 1 by omega]; exact HPS.out, HO.out.trans ((Onl.of_gr HG2.out g).trans (HF.out.2.trans (Onl.of_gr gri g)))⟩
     case round =>
      clear HF HR2 HPS HP1 HP2 HX1 HX2 HSA3 HSAW HRP HG1 HG2 HO hyl HI0 HJ0
      obtain ⟨i, j0, Z, i3, i2, j3, j4, rfl, rfl, hsa, hrp, hpt, ho⟩ := hrel
      have HSAW := hd_ hsa
      have HRP := hd_ hrp
      have HI0 := hd_ hpt.1
      have HJ0 := hd_ hpt.2
      have HO := hd_ ho
      have hyl := hsa.len
      haveI : Old g wr := ⟨hsa.lt⟩
      clear hsa hrp hpt ho
      obtain ⟨wo, rfl⟩ : ∃ wo : World, wo = wr := ⟨_, rfl⟩
      obtain ⟨i0, hi0⟩ : ∃ i0, i0 = i := ⟨_, rfl⟩
      rw [← hi0]
      rw [← hi0] at HI0 i2 i3
      clear hi0
      go_upto_block 6 with fail
      go_cut [10] from 99 to 152 (fun vS wx => ∃ x : Nat, i0 ≤ x ∧ x ≤ j0 + 1 ∧ a < x ∧ vS = .int .i64 (x : Int) ∧ (∀ k, a < k → k < x → at0 Z k < at0 Z a) ∧ (x ≤ j0 → at0 Z a ≤ at0 Z x) ∧ Gr wo wx)
      case first =>
       go_wp2_with fail
       go_loopw [10] (fun vS wr => ∃ x : Nat, i0 ≤ x ∧ x ≤ j0 + 1 ∧ a < x ∧ vS = .int .i64 (x : Int) ∧ (∀ k, a < k → k < x → at0 Z k < at0 Z a) ∧ Gr wo wr) (fun v _ => j0 + 1 - (intOf v).toNat)
       case atStart => exact ⟨i0, Nat.le_refl _, by omega, by omega, rfl, HI0.out, gri⟩
       case round =>
        obtain ⟨x, q1, q2, q3, rfl, hP, hg⟩ := hrel
        have HP := hd_ hP
        have HG := hd_ hg
        have hsa := HSAW.out.gr hg
        haveI := grc_of hg
        haveI : Old g wr := ⟨hsa.lt⟩
        by_cases hij : x ≤ j0
        ·have c0 := hsa.cell kq x (by omega)
         have c1 := hsa.cell kq a (by omega)
         have e1 : (x : Int) ≤ (j0 : Int) := by omega
         have b0 : (x : Int) < (n : Int) := by omega
         have b1 : (a : Int) < (n : Int) := by omega
         clear hP hsa hg
         by_cases hlt : at0 Z x < at0 Z a
         ·have HL := hd_ (fun W => less_yes kq hlt W)
          have HLT := hd_ hlt
          clear hlt
          go_wp2
          refine wp_region_grow (by kernel_rfl) (by kernel_rfl) ?_
          repeat (go_big_quiet_step ((first | ((first | go_at_call 124 | go_at_call 135); exact grow_call (HL.out _)))))
          refine wpQuiet_nil ?_
          intro g1
          go_wp2
          go_roundw
          case rel => exact ⟨x + 1, by omega, by omega, by omega, by go_num, fun k k1 k2 => (by
           by_cases e : k = x
           ·subst e; exact HLT.out
           ·exact HP.out k (by omega) (by omega)), HG.out.trans gri⟩
          case measure => simp [intOf] <;> omega
         ·have HL := hd_ (fun W => less_no kq hlt W)
          have HLT := hd_ hlt
          clear hlt
          go_wp2
          refine wp_region_grow (by kernel_rfl) (by kernel_rfl) ?_
          repeat (go_big_quiet_step ((first | ((first | go_at_call 124 | go_at_call 135); exact grow_call (HL.out _)))))
          refine wpQuiet_nil ?_
          intro g1
          go_wp2
          go_meet
          case rel => exact ⟨x, q1, q2, q3, rfl, HP.out, fun _ => (by have := HLT.out; omega), HG.out.trans gri⟩
        ·have e1 : ¬ (x : Int) ≤ (j0 : Int) := by omega
         clear hP hsa hg
         go_wp2
         refine wp_region_grow (by kernel_rfl) (by kernel_rfl) ?_
         repeat (go_big_quiet_step (fail))
         refine wpQuiet_nil ?_
         intro g1
         go_wp2
         go_meet
         case rel => exact ⟨x, q1, q2, q3, rfl, HP.out, fun h => absurd h hij, HG.out.trans gri⟩
      case rest =>
       obtain ⟨i, i1, i2, i3, rfl, hP1, hX1, hg1⟩ := hcut
       have HP1 := hd_ hP1
       have HX1 := hd_ hX1
       haveI := grc_of hg1
       have HG1 := hd_ hg1
       clear hP1 hX1 hg1
       go_upto_block 8 with fail
       go_cut [11] from 99 to 152 (fun vS wx => ∃ x : Nat, i ≤ x + 1 ∧ x ≤ j0 ∧ a ≤ x ∧ vS = .int .i64 (x : Int) ∧ (∀ k, x < k → k < b → at0 Z a ≤ at0 Z k) ∧ (i ≤ x → at0 Z x < at0 Z a) ∧ Gr wo wx)
       case first =>
        go_wp2_with fail
        go_loopw [11] (fun vS wr => ∃ x : Nat, i ≤ x + 1 ∧ x ≤ j0 ∧ a ≤ x ∧ vS = .int .i64 (x : Int) ∧ (∀ k, x < k → k < b → at0 Z a ≤ at0 Z k) ∧ Gr wo wr) (fun v _ => (intOf v).toNat)
        case atStart => exact ⟨j0, by omega, Nat.le_refl _, by omega, rfl, HJ0.out, gri⟩
        case round =>
         obtain ⟨x, q1, q2, q3, rfl, hP, hg⟩ := hrel
         have HP := hd_ hP
         have HG := hd_ hg
         have hsa := HSAW.out.gr hg
         haveI := grc_of hg
         haveI : Old g wr := ⟨hsa.lt⟩
         by_cases hij : i ≤ x
         ·have c0 := hsa.cell kq x (by omega)
          have c1 := hsa.cell kq a (by omega)
          have e1 : (i : Int) ≤ (x : Int) := by omega
          have b0 : (x : Int) < (n : Int) := by omega
          have b1 : (a : Int) < (n : Int) := by omega
          obtain ⟨x1, hx1⟩ : ∃ x1, x1 + 1 = x := ⟨x - 1, by omega⟩
          have rx1 : (x : Int) - 1 = (x1 : Int) := by omega
          have wx1 : IntKind.i64.wrap (x1 : Int) = (x1 : Int) := wrapS x1 (by omega)
          clear hP hsa hg
          by_cases hlt : at0 Z x < at0 Z a
          ·have HL := hd_ (fun W => less_yes kq hlt W)
           have HLT := hd_ hlt
           clear hlt
           go_wp2
           refine wp_region_grow (by kernel_rfl) (by kernel_rfl) ?_
           repeat (go_big_quiet_step ((first | ((first | go_at_call 124 | go_at_call 135); exact grow_call (HL.out _)))))
           refine wpQuiet_nil ?_
           intro g1
           go_wp2
           go_meet
           case rel => exact ⟨x, q1, q2, q3, rfl, HP.out, fun _ => HLT.out, HG.out.trans gri⟩
          ·have HL := hd_ (fun W => less_no kq hlt W)
           have HLT := hd_ hlt
           clear hlt
           go_wp2
           refine wp_region_grow (by kernel_rfl) (by kernel_rfl) ?_
           repeat (go_big_quiet_step ((first | ((first | go_at_call 124 | go_at_call 135); exact grow_call (HL.out _)))))
           refine wpQuiet_nil ?_
           intro g1
           go_wp2
           go_roundw
           case rel => exact ⟨x1, by omega, by omega, by omega, rfl, fun k k1 k2 => (by
            by_cases e : k = x
            ·subst e; exact (by have := HLT.out; omega)
            ·exact HP.out k (by omega) (by omega)), HG.out.trans gri⟩
           case measure => simp [intOf] <;> omega
         ·have e1 : ¬ (i : Int) ≤ (x : Int) := by omega
          clear hP hsa hg
          go_wp2
          refine wp_region_grow (by kernel_rfl) (by kernel_rfl) ?_
          repeat (go_big_quiet_step (fail))
          refine wpQuiet_nil ?_
          intro g1
          go_wp2
          go_meet
          case rel => exact ⟨x, q1, q2, q3, rfl, HP.out, fun h => absurd h hij, HG.out.trans gri⟩
       case rest =>
        obtain ⟨j, j1, j2, j3, rfl, hP2, hX2, hg2⟩ := hcut
        have HP2 := hd_ hP2
        have HX2 := hd_ hX2
        haveI := grc_of hg2
        have hsa := HSAW.out.gr hg2
        haveI : Old g wc := ⟨hsa.lt⟩
        have c0 := hsa.cell kq j (by omega)
        have bj9 : (j : Int) < (n : Int) := by omega
        have HSA3 := hsa
        have HG2 := hd_ hg2
        clear hP2 hX2 hg2 hsa
        by_cases hij : j < i
        ·have e1 : (j : Int) < (i : Int) := by omega
         have c1 := HSA3.cell kq a (by omega)
         go_wp2
         refine wp_region_treeJ ⟨fun w' => Gr wc w', true, fun _ _ h => h, fun _ _ _ h g => h.trans g⟩ rfl (Gr.of ((Below.refl _ _).drew)) [2, 3] [0, 1, 4, 5, 6, 7, 8, 9, 10, 11] 4 13 (by kernel_rfl) (by kernel_rfl) ?_
         simp only [pick, List.drop, List.take, List.nil_append, List.cons_append]
         refine wpPure_step (.slice (some ⟨g, 0, none⟩) n c) rfl (fun w => by go_simp) ?_
         simp only [Act.put, stA, List.set]
         refine wpPure_step (.int .i64 (a : Int)) rfl (fun w => by go_simp) ?_
         simp only [Act.put, stA, List.set]
         show wpCalm _ _ _ _ _ _
         repeat (refine wpCalm_step (fun K hK => ?_); go_simp; first | (refine hK _ ?_; clear hK K) | (apply Exists.intro; refine ⟨fun _ => ?_, hK _ ?_⟩; (skip); clear hK K))
         refine wpCalm_nil ?_
         refine fg_one 12 (by kernel_rfl) ?_
         refine fg_pure (.pointer (some ⟨g, j, none⟩)) rfl rfl rfl (fun w => by go_simp) ?_
         simp only [Act.put, stA, List.set]
         refine fg_one 13 (by kernel_rfl) ?_
         refine fg_effN rfl rfl rfl (fun w1 hw1 => ?_)
         have sa1 := SA.gr HSA3 hw1
         have t0 := sa1.cell kq j (by have := hyl; omega)
         have t1 := sa1.frozen j
         haveI oG : Old g w1 := ⟨sa1.lt⟩
         have hrun := st_run kq tq g j w1 ((at0 Z a)) (by assumption) (by assumption)
         refine effAt_stS rfl rfl rfl hrun ⟨⟨fun w2 => SA base w2 g n c (Z.set j (at0 Z a)) ∧ Onl wc w2 g, false, fun e => Bool.noConfusion e, fun e => Bool.noConfusion e⟩, ⟨sa1.put kq j _ (by have := hyl; omega), (Onl.of_gr hw1 g).trans (Onl.set _ g j _)⟩, fun e => absurd rfl e, ?_⟩
         clear oG sa1 t0 t1 hrun hw1 w1
         try simp only [Act.put, stA, List.set]
         refine fg_one 14 (by kernel_rfl) ?_
         refine fg_pure (.pointer (some ⟨g, a, none⟩)) rfl rfl rfl (fun w => by go_simp) ?_
         simp only [Act.put, stA, List.set]
         refine fg_one 15 (by kernel_rfl) ?_
         refine fg_effN rfl rfl rfl (fun w1 hw1 => ?_)
         have t0 := hw1.1.cell kq a (by rw [List.length_set]; have := hyl; omega)
         have t1 := hw1.1.frozen a
         haveI oG : Old g w1 := ⟨hw1.1.lt⟩
         have hrun := st_run kq tq g a w1 ((at0 Z j)) (by assumption) (by assumption)
         refine effAt_stS rfl rfl rfl hrun ⟨⟨fun w2 => SA base w2 g n c (swp Z j a) ∧ Onl wc w2 g, false, fun e => Bool.noConfusion e, fun e => Bool.noConfusion e⟩, ⟨hw1.1.put kq a _ (by rw [List.length_set]; have := hyl; omega), hw1.2.trans (Onl.set _ g a _)⟩, fun _ e => Bool.noConfusion e, ?_⟩
         clear oG t0 t1 hrun hw1 w1
         refine fg_end (by kernel_rfl) (fun w5 hw5 => ?_)
         try simp only [Act.put]
         have HF := hd_ hw5
         clear hw5
         go_wp2
         go_ret2
         have h9 := prt_end (xs := Z) (a := a) (b := b) (i := i) (j := j) ⟨fun k k1 k2 => HP1.out k k1 k2, fun k k1 k2 => HP2.out k k1 k2⟩ j3 (by omega) (by omega) (by omega)
         exact ⟨j, false, swp Z j a, rfl, HF.out.1.gr gri, ⟨j3, by omega, .swap HRP.out j a j3 (by omega) (Nat.le_refl _) hab (by omega), h9.1, h9.2⟩, HO.out.trans ((Onl.of_gr HG2.out g).trans (HF.out.2.trans (Onl.of_gr gri g)))⟩
        ·have e1 : ¬ (j : Int) < (i : Int) := by omega
         have hx1 := HX1.out (by omega)
         have hx2 := HX2.out (by omega)
         have hne : i ≠ j := fun e => by subst e; omega
         have c2 := HSA3.cell kq i (by omega)
         have bi9 : (i : Int) < (n : Int) := by omega
         have HPS := hd_ (prt_swap (xs := Z) (a := a) (b := b) (i := i) (j := j) ⟨fun k k1 k2 => HP1.out k k1 k2, fun k k1 k2 => HP2.out k k1 k2⟩ i3 (by omega) (by omega) (by omega) hx1 hx2)
         have HR2 := hd_ (RP.swap HRP.out i j (by omega) (by omega) (by omega) (by omega) (by omega))
         obtain ⟨jm, hjm⟩ : ∃ jm, j - 1 = jm := ⟨_, rfl⟩
         have rjm : (j : Int) - 1 = (jm : Int) := by omega
         have wjm : IntKind.i64.wrap (jm : Int) = (jm : Int) := wrapS jm (by omega)
         clear hx1 hx2
         go_wp2
         refine wp_region_treeJ ⟨fun w' => Gr wc w', true, fun _ _ h => h, fun _ _ _ h g => h.trans g⟩ rfl (Gr.of ((Below.refl _ _).drew)) [2, 3] [0, 1, 4, 5, 6, 7, 8, 9, 10, 11] 4 13 (by kernel_rfl) (by kernel_rfl) ?_
         simp only [pick, List.drop, List.take, List.nil_append, List.cons_append]
         refine wpPure_step (.slice (some ⟨g, 0, none⟩) n c) rfl (fun w => by go_simp) ?_
         simp only [Act.put, stA, List.set]
         refine wpPure_step (.int .i64 (j : Int)) rfl (fun w => by go_simp) ?_
         simp only [Act.put, stA, List.set]
         show wpCalm _ _ _ _ _ _
         repeat (refine wpCalm_step (fun K hK => ?_); go_simp; first | (refine hK _ ?_; clear hK K) | (apply Exists.intro; refine ⟨fun _ => ?_, hK _ ?_⟩; (skip); clear hK K))
         refine wpCalm_nil ?_
         refine fg_one 12 (by kernel_rfl) ?_
         refine fg_pure (.pointer (some ⟨g, i, none⟩)) rfl rfl rfl (fun w => by go_simp) ?_
         simp only [Act.put, stA, List.set]
         refine fg_one 13 (by kernel_rfl) ?_
         refine fg_effN rfl rfl rfl (fun w1 hw1 => ?_)
         have sa1 := SA.gr HSA3 hw1
         have t0 := sa1.cell kq i (by have := hyl; omega)
         have t1 := sa1.frozen i
         haveI oG : Old g w1 := ⟨sa1.lt⟩
         have hrun := st_run kq tq g i w1 ((at0 Z j)) (by assumption) (by assumption)
         refine effAt_stS rfl rfl rfl hrun ⟨⟨fun w2 => SA base w2 g n c (Z.set i (at0 Z j)) ∧ Onl wc w2 g, false, fun e => Bool.noConfusion e, fun e => Bool.noConfusion e⟩, ⟨sa1.put kq i _ (by have := hyl; omega), (Onl.of_gr hw1 g).trans (Onl.set _ g i _)⟩, fun e => absurd rfl e, ?_⟩
         clear oG sa1 t0 t1 hrun hw1 w1
         try simp only [Act.put, stA, List.set]
         refine fg_one 14 (by kernel_rfl) ?_
         refine fg_pure (.pointer (some ⟨g, j, none⟩)) rfl rfl rfl (fun w => by go_simp) ?_
         simp only [Act.put, stA, List.set]
         refine fg_one 15 (by kernel_rfl) ?_
         refine fg_effN rfl rfl rfl (fun w1 hw1 => ?_)
         have t0 := hw1.1.cell kq j (by rw [List.length_set]; have := hyl; omega)
         have t1 := hw1.1.frozen j
         haveI oG : Old g w1 := ⟨hw1.1.lt⟩
         have hrun := st_run kq tq g j w1 ((at0 Z i)) (by assumption) (by assumption)
         refine effAt_stS rfl rfl rfl hrun ⟨⟨fun w2 => SA base w2 g n c (swp Z i j) ∧ Onl wc w2 g, false, fun e => Bool.noConfusion e, fun e => Bool.noConfusion e⟩, ⟨hw1.1.put kq j _ (by rw [List.length_set]; have := hyl; omega), hw1.2.trans (Onl.set _ g j _)⟩, fun _ e => Bool.noConfusion e, ?_⟩
         clear oG t0 t1 hrun hw1 w1
         refine fg_end (by kernel_rfl) (fun w5 hw5 => ?_)
         try simp only [Act.put]
         have HF := hd_ hw5
         haveI : Old g w5 := ⟨hw5.1.lt⟩
         clear hw5
         go_wp2
         go_roundw
         case rel => exact ⟨i + 1, jm, swp Z i j, by omega, by omega, by omega, by omega, by go_num, rfl, HF.out.1.gr gri, HR2.out, by rw [show jm = j - 1 by omega]; exact HPS.out, HO.out.trans ((Onl.of_gr HG2.out g).trans (HF.out.2.trans (Onl.of_gr gri g)))⟩
         case measure => simp [intOf] <;> omega
theorem reverse_any {F : Nat} (base : Bs) (g n c : Nat) (xs : List Int) (a b : Nat) (w : World) (h : SA base w g n c xs) (hn : n ≤ 1000000) (hab : a < b) (hb : b ≤ n) (hq : base.is 122 133 F := by first | exact .inl ⟨by assumption, by assumption, rfl⟩ | exact .inr ⟨by assumption, by assumption, rfl⟩) :
  Calls Tryz.prog F #[.slice (some ⟨g, 0, none⟩) n c, .int .i64 (a : Int), .int .i64 (b : Int)] w fun e w' => e = .returned (.tuple #[]) ∧ ∃ ys, SA base w' g n c ys ∧ RP a b xs ys ∧ Onl w w' g := by
 rcases hq with ⟨kq, tq, rfl⟩ | ⟨kq, tq, rfl⟩
 all_goals
  have H := hd_ h
  clear h
  obtain ⟨bj, hbj⟩ : ∃ bj, b - 1 = bj := ⟨_, rfl⟩
  have rbj : (b : Int) - 1 = (bj : Int) := by omega
  have wbj : IntKind.i64.wrap (bj : Int) = (bj : Int) := wrapS bj (by omega)
  first | go_enter Tryz.func122, Tryz.ntmps122 | go_enter Tryz.func133, Tryz.ntmps133
  go_wp2
  go_loopw [6, 7] (fun v6 v7 wr => ∃ (i j : Nat) (ys : List Int), a ≤ i ∧ j < b ∧ v6 = .int .i64 (i : Int) ∧ v7 = .int .i64 (j : Int) ∧ SA base wr g n c ys ∧ RP a b xs ys ∧ Onl w wr g) (fun v6 v7 _ => (intOf v7 - intOf v6).toNat)
  case atStart => exact ⟨a, bj, xs, Nat.le_refl _, by omega, rfl, rfl, H.out.gr gri, .refl, Onl.of_gr gri g⟩
  case round =>
   obtain ⟨i, j, ys, hi, hj, rfl, rfl, hsa, hrp, ho⟩ := hrel
   have HSA := hd_ hsa
   have HRP := hd_ hrp
   have HO := hd_ ho
   have hyl := hsa.len
   haveI : Old g wr := ⟨hsa.lt⟩
   by_cases hij : i < j
   ·have e1 : (i : Int) < (j : Int) := by omega
    have c0 := hsa.cell kq i (by omega)
    have c1 := hsa.cell kq j (by omega)
    have b0 : (i : Int) < (n : Int) := by omega
    have b1 : (j : Int) < (n : Int) := by omega
    obtain ⟨jm, hjm⟩ : ∃ jm, j - 1 = jm := ⟨_, rfl⟩
    have rjm : (j : Int) - 1 = (jm : Int) := by omega
    have wjm : IntKind.i64.wrap (jm : Int) = (jm : Int) := wrapS jm (by omega)
    have HSA3 := hsa
    clear hsa hrp ho
    go_wp2
    refine wp_region_treeJ ⟨fun w' => Gr wr w', true, fun _ _ h => h, fun _ _ _ h g => h.trans g⟩ rfl (Gr.of ((Below.refl _ _).drew)) [2, 3] [0, 1, 4, 5, 6, 7, 8, 9, 10, 11] 4 13 (by kernel_rfl) (by kernel_rfl) ?_
    simp only [pick, List.drop, List.take, List.nil_append, List.cons_append]
    refine wpPure_step (.slice (some ⟨g, 0, none⟩) n c) rfl (fun w => by go_simp) ?_
    simp only [Act.put, stA, List.set]
    refine wpPure_step (.int .i64 (j : Int)) rfl (fun w => by go_simp) ?_
    simp only [Act.put, stA, List.set]
    show wpCalm _ _ _ _ _ _
    repeat (refine wpCalm_step (fun K hK => ?_); go_simp; first | (refine hK _ ?_; clear hK K) | (apply Exists.intro; refine ⟨fun _ => ?_, hK _ ?_⟩; (skip); clear hK K))
    refine wpCalm_nil ?_
    refine fg_one 12 (by kernel_rfl) ?_
    refine fg_pure (.pointer (some ⟨g, i, none⟩)) rfl rfl rfl (fun w => by go_simp) ?_
    simp only [Act.put, stA, List.set]
    refine fg_one 13 (by kernel_rfl) ?_
    refine fg_effN rfl rfl rfl (fun w1 hw1 => ?_)
    have sa1 := SA.gr HSA3 hw1
    have t0 := sa1.cell kq i (by have := hyl; omega)
    have t1 := sa1.frozen i
    haveI oG : Old g w1 := ⟨sa1.lt⟩
    have hrun := st_run kq tq g i w1 ((at0 ys j)) (by assumption) (by assumption)
    refine effAt_stS rfl rfl rfl hrun ⟨⟨fun w2 => SA base w2 g n c (ys.set i (at0 ys j)) ∧ Onl wr w2 g, false, fun e => Bool.noConfusion e, fun e => Bool.noConfusion e⟩, ⟨sa1.put kq i _ (by have := hyl; omega), (Onl.of_gr hw1 g).trans (Onl.set _ g i _)⟩, fun e => absurd rfl e, ?_⟩
    clear oG sa1 t0 t1 hrun hw1 w1
    try simp only [Act.put, stA, List.set]
    refine fg_one 14 (by kernel_rfl) ?_
    refine fg_pure (.pointer (some ⟨g, j, none⟩)) rfl rfl rfl (fun w => by go_simp) ?_
    simp only [Act.put, stA, List.set]
    refine fg_one 15 (by kernel_rfl) ?_
    refine fg_effN rfl rfl rfl (fun w1 hw1 => ?_)
    have t0 := hw1.1.cell kq j (by rw [List.length_set]; have := hyl; omega)
    have t1 := hw1.1.frozen j
    haveI oG : Old g w1 := ⟨hw1.1.lt⟩
    have hrun := st_run kq tq g j w1 ((at0 ys i)) (by assumption) (by assumption)
    refine effAt_stS rfl rfl rfl hrun ⟨⟨fun w2 => SA base w2 g n c (swp ys i j) ∧ Onl wr w2 g, false, fun e => Bool.noConfusion e, fun e => Bool.noConfusion e⟩, ⟨hw1.1.put kq j _ (by rw [List.length_set]; have := hyl; omega), hw1.2.trans (Onl.set _ g j _)⟩, fun _ e => Bool.noConfusion e, ?_⟩
    clear oG t0 t1 hrun hw1 w1
    refine fg_end (by kernel_rfl) (fun w5 hw5 => ?_)
    try simp only [Act.put]
    have HF := hd_ hw5
    clear hw5
    go_wp2
    go_roundw
    case rel => exact ⟨i + 1, jm, swp ys i j, by omega, by omega, by go_num, rfl, HF.out.1.gr gri, .swap HRP.out i j hi (by omega) (by omega) hj (by omega), HO.out.trans (HF.out.2.trans (Onl.of_gr gri g))⟩
    case measure => simp [intOf] <;> omega
   ·have e1 : ¬ (i : Int) < (j : Int) := by omega
    clear hsa hrp ho
    go_wp2
    exact ⟨rfl, .tuple #[], by simp [results, go_sem], ⟨rfl, ys, HSA.out.gr gri, HRP.out, HO.out.trans (Onl.of_gr gri g)⟩⟩
def EqPost (base : Bs) (g n c : Nat) (xs : List Int) (a b pv : Nat) (w : World) (e : Ending) (w' : World) : Prop := ∃ (mid : Nat) (ys : List Int), e = .returned (.int .i64 (mid : Int)) ∧ a < mid ∧ mid ≤ b ∧ SA base w' g n c ys ∧ RP a b xs ys ∧ at0 ys a = at0 xs pv ∧ (∀ k, a ≤ k → k < mid → at0 ys k ≤ at0 ys a) ∧ Onl w w' g
theorem partequal_any {F : Nat} (base : Bs) (g n c : Nat) (xs : List Int) (a b pv : Nat) (w : World) (h : SA base w g n c xs) (hn : n ≤ 1000000) (hab : a < b) (hb : b ≤ n) (hp1 : a ≤ pv) (hp2 : pv < b) (hq : base.is 125 136 F := by first | exact .inl ⟨by assumption, by assumption, rfl⟩ | exact .inr ⟨by assumption, by assumption, rfl⟩) :
  Calls Tryz.prog F #[.slice (some ⟨g, 0, none⟩) n c, .int .i64 (a : Int), .int .i64 (b : Int), .int .i64 (pv : Int)] w (EqPost base g n c xs a b pv w) := by
 rcases hq with ⟨kq, tq, rfl⟩ | ⟨kq, tq, rfl⟩
 all_goals
  have H := hd_ h
  have hxl := h.len
  have c0 := h.cell kq a (by omega)
  have c1 := h.cell kq pv (by omega)
  have ba : (a : Int) < (n : Int) := by omega
  have bp : (pv : Int) < (n : Int) := by omega
  haveI : Old g w := ⟨h.lt⟩
  clear h
  obtain ⟨bj, hbj⟩ : ∃ bj, b - 1 = bj := ⟨_, rfl⟩
  have rbj : (b : Int) - 1 = (bj : Int) := by omega
  have wbj : IntKind.i64.wrap (bj : Int) = (bj : Int) := wrapS bj (by omega)
  obtain ⟨a1, ha1⟩ : ∃ a1, a + 1 = a1 := ⟨_, rfl⟩
  have ra1 : (a : Int) + 1 = (a1 : Int) := by omega
  have wa1 : IntKind.i64.wrap (a1 : Int) = (a1 : Int) := wrapS a1 (by omega)
  first | go_enter Tryz.func125, Tryz.ntmps125 | go_enter Tryz.func136, Tryz.ntmps136
  go_wp2
  have HSA3 := H.out.gr (gri : Gr w w)
  refine wp_region_treeJ ⟨fun w' => Gr w w', true, fun _ _ h => h, fun _ _ _ h g => h.trans g⟩ rfl (Gr.of ((Below.refl _ _).drew)) [2, 3] [0, 1, 4, 5, 6, 7, 8, 9, 10, 11] 4 13 (by kernel_rfl) (by kernel_rfl) ?_
  simp only [pick, List.drop, List.take, List.nil_append, List.cons_append]
  refine wpPure_step (.slice (some ⟨g, 0, none⟩) n c) rfl (fun w => by go_simp) ?_
  simp only [Act.put, stA, List.set]
  refine wpPure_step (.int .i64 (pv : Int)) rfl (fun w => by go_simp) ?_
  simp only [Act.put, stA, List.set]
  show wpCalm _ _ _ _ _ _
  repeat (refine wpCalm_step (fun K hK => ?_); go_simp; first | (refine hK _ ?_; clear hK K) | (apply Exists.intro; refine ⟨fun _ => ?_, hK _ ?_⟩; (skip); clear hK K))
  refine wpCalm_nil ?_
  refine fg_one 12 (by kernel_rfl) ?_
  refine fg_pure (.pointer (some ⟨g, a, none⟩)) rfl rfl rfl (fun w => by go_simp) ?_
  simp only [Act.put, stA, List.set]
  refine fg_one 13 (by kernel_rfl) ?_
  refine fg_effN rfl rfl rfl (fun w1 hw1 => ?_)
  have sa1 := SA.gr HSA3 hw1
  have t0 := sa1.cell kq a (by have := hxl; omega)
  have t1 := sa1.frozen a
  haveI oG : Old g w1 := ⟨sa1.lt⟩
  have hrun := st_run kq tq g a w1 ((at0 xs pv)) (by assumption) (by assumption)
  refine effAt_stS rfl rfl rfl hrun ⟨⟨fun w2 => SA base w2 g n c (xs.set a (at0 xs pv)) ∧ Onl w w2 g, false, fun e => Bool.noConfusion e, fun e => Bool.noConfusion e⟩, ⟨sa1.put kq a _ (by have := hxl; omega), (Onl.of_gr hw1 g).trans (Onl.set _ g a _)⟩, fun e => absurd rfl e, ?_⟩
  clear oG sa1 t0 t1 hrun hw1 w1
  try simp only [Act.put, stA, List.set]
  refine fg_one 14 (by kernel_rfl) ?_
  refine fg_pure (.pointer (some ⟨g, pv, none⟩)) rfl rfl rfl (fun w => by go_simp) ?_
  simp only [Act.put, stA, List.set]
  refine fg_one 15 (by kernel_rfl) ?_
  refine fg_effN rfl rfl rfl (fun w1 hw1 => ?_)
  have t0 := hw1.1.cell kq pv (by rw [List.length_set]; have := hxl; omega)
  have t1 := hw1.1.frozen pv
  haveI oG : Old g w1 := ⟨hw1.1.lt⟩
  have hrun := st_run kq tq g pv w1 ((at0 xs a)) (by assumption) (by assumption)
  refine effAt_stS rfl rfl rfl hrun ⟨⟨fun w2 => SA base w2 g n c (swp xs a pv) ∧ Onl w w2 g, false, fun e => Bool.noConfusion e, fun e => Bool.noConfusion e⟩, ⟨hw1.1.put kq pv _ (by rw [List.length_set]; have := hxl; omega), hw1.2.trans (Onl.set _ g pv _)⟩, fun _ e => Bool.noConfusion e, ?_⟩
  clear oG t0 t1 hrun hw1 w1
  refine fg_end (by kernel_rfl) (fun w5 hw5 => ?_)
  try simp only [Act.put]
  have HF := hd_ hw5
  haveI : Old g w5 := ⟨hw5.1.lt⟩
  clear hw5 c0 c1
  go_wp2
  go_loopw [9, 10] (fun v9 v10 wr => ∃ (i j : Nat) (ys : List Int), a < i ∧ i ≤ j + 1 ∧ a ≤ j ∧ j < b ∧ v9 = .int .i64 (i : Int) ∧ v10 = .int .i64 (j : Int) ∧ SA base wr g n c ys ∧ RP a b xs ys ∧ at0 ys a = at0 xs pv ∧ Pre ys a b i j ∧ Onl w wr g) (fun v9 v10 _ => (intOf v10 + 1 - intOf v9).toNat)
  case atStart => exact ⟨a1, bj, swp xs a pv, by omega, by omega, by omega, by omega, rfl, rfl, HF.out.1.gr gri, .swap .refl a pv (Nat.le_refl _) hab hp1 hp2 (by omega), by (rw [at0_swp (by omega) (by omega)]; by_cases e : a = pv; (rw [if_pos e, e]); (rw [if_neg e, if_pos rfl])), ⟨fun k k1 k2 => by (obtain rfl : k = a := by omega); exact Int.le_refl _, fun k k1 k2 => by omega⟩, HF.out.2.trans (Onl.of_gr gri g)⟩
  case round =>
   clear HF HSA3 H hxl
   obtain ⟨i, j0, Z, i3, i2, j3, j4, rfl, rfl, hsa, hrp, hpa, hpt, ho⟩ := hrel
   have HSAW := hd_ hsa
   have HRP := hd_ hrp
   have HPA := hd_ hpa
   have HI0 := hd_ (show ∀ k, a < k → k < i → at0 Z k ≤ at0 Z a from fun k k1 k2 => hpt.1 k (by omega) k2)
   have HJ0 := hd_ hpt.2
   have HO := hd_ ho
   have hyl := hsa.len
   haveI : Old g wr := ⟨hsa.lt⟩
   clear hsa hrp hpa hpt ho
   obtain ⟨wo, rfl⟩ : ∃ wo : World, wo = wr := ⟨_, rfl⟩
   obtain ⟨i0, hi0⟩ : ∃ i0, i0 = i := ⟨_, rfl⟩
   rw [← hi0]
   rw [← hi0] at HI0 i2 i3
   clear hi0
   go_upto_block 2 with fail
   go_cut [9] from 29 to 82 (fun vS wx => ∃ x : Nat, i0 ≤ x ∧ x ≤ j0 + 1 ∧ a < x ∧ vS = .int .i64 (x : Int) ∧ (∀ k, a < k → k < x → at0 Z k ≤ at0 Z a) ∧ (x ≤ j0 → at0 Z a < at0 Z x) ∧ Gr wo wx)
   case first =>
    go_wp2_with fail
    go_loopw [9] (fun vS wr => ∃ x : Nat, i0 ≤ x ∧ x ≤ j0 + 1 ∧ a < x ∧ vS = .int .i64 (x : Int) ∧ (∀ k, a < k → k < x → at0 Z k ≤ at0 Z a) ∧ Gr wo wr) (fun v _ => j0 + 1 - (intOf v).toNat)
    case atStart => exact ⟨i0, Nat.le_refl _, by omega, by omega, rfl, HI0.out, gri⟩
    case round =>
     obtain ⟨x, q1, q2, q3, rfl, hP, hg⟩ := hrel
     have HP := hd_ hP
     have HG := hd_ hg
     have hsa := HSAW.out.gr hg
     haveI := grc_of hg
     haveI : Old g wr := ⟨hsa.lt⟩
     by_cases hij : x ≤ j0
     ·have c0 := hsa.cell kq x (by omega)
      have c1 := hsa.cell kq a (by omega)
      have e1 : (x : Int) ≤ (j0 : Int) := by omega
      have b0 : (x : Int) < (n : Int) := by omega
      have b1 : (a : Int) < (n : Int) := by omega
      clear hP hsa hg
      by_cases hlt : at0 Z a < at0 Z x
      ·have HL := hd_ (fun W => less_yes kq hlt W)
       have HLT := hd_ hlt
       clear hlt
       go_wp2
       refine wp_region_grow (by kernel_rfl) (by kernel_rfl) ?_
       repeat (go_big_quiet_step ((first | ((first | go_at_call 124 | go_at_call 135); exact grow_call (HL.out _)))))
       refine wpQuiet_nil ?_
       intro g1
       go_wp2
       go_meet
       case rel => exact ⟨x, q1, q2, q3, rfl, HP.out, fun _ => HLT.out, HG.out.trans gri⟩
      ·have HL := hd_ (fun W => less_no kq hlt W)
       have HLT := hd_ hlt
       clear hlt
       go_wp2
       refine wp_region_grow (by kernel_rfl) (by kernel_rfl) ?_
       repeat (go_big_quiet_step ((first | ((first | go_at_call 124 | go_at_call 135); exact grow_call (HL.out _)))))
       refine wpQuiet_nil ?_
       intro g1
       go_wp2
       go_roundw
       case rel => exact ⟨x + 1, by omega, by omega, by omega, by go_num, fun k k1 k2 => (by
        by_cases e : k = x
        ·subst e; exact (by have := HLT.out; omega)
        ·exact HP.out k (by omega) (by omega)), HG.out.trans gri⟩
       case measure => simp [intOf] <;> omega
     ·have e1 : ¬ (x : Int) ≤ (j0 : Int) := by omega
      clear hP hsa hg
      go_wp2
      refine wp_region_grow (by kernel_rfl) (by kernel_rfl) ?_
      repeat (go_big_quiet_step (fail))
      refine wpQuiet_nil ?_
      intro g1
      go_wp2
      go_meet
      case rel => exact ⟨x, q1, q2, q3, rfl, HP.out, fun h => absurd h hij, HG.out.trans gri⟩
   case rest =>
    obtain ⟨i, i1, i2, i3, rfl, hP1, hX1, hg1⟩ := hcut
    have HP1 := hd_ hP1
    have HX1 := hd_ hX1
    haveI := grc_of hg1
    have HG1 := hd_ hg1
    clear hP1 hX1 hg1
    go_upto_block 4 with fail
    go_cut [10] from 29 to 82 (fun vS wx => ∃ x : Nat, i ≤ x + 1 ∧ x ≤ j0 ∧ a ≤ x ∧ vS = .int .i64 (x : Int) ∧ (∀ k, x < k → k < b → at0 Z a < at0 Z k) ∧ (i ≤ x → at0 Z x ≤ at0 Z a) ∧ Gr wo wx)
    case first =>
     go_wp2_with fail
     go_loopw [10] (fun vS wr => ∃ x : Nat, i ≤ x + 1 ∧ x ≤ j0 ∧ a ≤ x ∧ vS = .int .i64 (x : Int) ∧ (∀ k, x < k → k < b → at0 Z a < at0 Z k) ∧ Gr wo wr) (fun v _ => (intOf v).toNat)
     case atStart => exact ⟨j0, by omega, Nat.le_refl _, by omega, rfl, HJ0.out, gri⟩
     case round =>
      obtain ⟨x, q1, q2, q3, rfl, hP, hg⟩ := hrel
      have HP := hd_ hP
      have HG := hd_ hg
      have hsa := HSAW.out.gr hg
      haveI := grc_of hg
      haveI : Old g wr := ⟨hsa.lt⟩
      by_cases hij : i ≤ x
      ·have c0 := hsa.cell kq x (by omega)
       have c1 := hsa.cell kq a (by omega)
       have e1 : (i : Int) ≤ (x : Int) := by omega
       have b0 : (x : Int) < (n : Int) := by omega
       have b1 : (a : Int) < (n : Int) := by omega
       obtain ⟨x1, hx1⟩ : ∃ x1, x1 + 1 = x := ⟨x - 1, by omega⟩
       have rx1 : (x : Int) - 1 = (x1 : Int) := by omega
       have wx1 : IntKind.i64.wrap (x1 : Int) = (x1 : Int) := wrapS x1 (by omega)
       clear hP hsa hg
       by_cases hlt : at0 Z a < at0 Z x
       ·have HL := hd_ (fun W => less_yes kq hlt W)
        have HLT := hd_ hlt
        clear hlt
        go_wp2
        refine wp_region_grow (by kernel_rfl) (by kernel_rfl) ?_
        repeat (go_big_quiet_step ((first | ((first | go_at_call 124 | go_at_call 135); exact grow_call (HL.out _)))))
        refine wpQuiet_nil ?_
        intro g1
        go_wp2
        go_roundw
        case rel => exact ⟨x1, by omega, by omega, by omega, rfl, fun k k1 k2 => (by
         by_cases e : k = x
         ·subst e; exact HLT.out
         ·exact HP.out k (by omega) (by omega)), HG.out.trans gri⟩
        case measure => simp [intOf] <;> omega
       ·have HL := hd_ (fun W => less_no kq hlt W)
        have HLT := hd_ hlt
        clear hlt
        go_wp2
        refine wp_region_grow (by kernel_rfl) (by kernel_rfl) ?_
        repeat (go_big_quiet_step ((first | ((first | go_at_call 124 | go_at_call 135); exact grow_call (HL.out _)))))
        refine wpQuiet_nil ?_
        intro g1
        go_wp2
        go_meet
        case rel => exact ⟨x, q1, q2, q3, rfl, HP.out, fun _ => (by have := HLT.out; omega), HG.out.trans gri⟩
      ·have e1 : ¬ (i : Int) ≤ (x : Int) := by omega
       clear hP hsa hg
       go_wp2
       refine wp_region_grow (by kernel_rfl) (by kernel_rfl) ?_
       repeat (go_big_quiet_step (fail))
       refine wpQuiet_nil ?_
       intro g1
       go_wp2
       go_meet
       case rel => exact ⟨x, q1, q2, q3, rfl, HP.out, fun h => absurd h hij, HG.out.trans gri⟩
    case rest =>
     obtain ⟨j, j1, j2, j3, rfl, hP2, hX2, hg2⟩ := hcut
     have HP2 := hd_ hP2
     have HX2 := hd_ hX2
     haveI := grc_of hg2
     have hsa := HSAW.out.gr hg2
     haveI : Old g wc := ⟨hsa.lt⟩
     have HSA3 := hsa
     have HG2 := hd_ hg2
     clear hP2 hX2 hg2 hsa
     by_cases hij : j < i
     ·have e1 : (j : Int) < (i : Int) := by omega
      go_wp2
      go_ret
      exact ⟨i, Z, rfl, i3, by omega, HSA3.gr gri, HRP.out, HPA.out, fun k k1 k2 => (by
       by_cases e : k = a
       ·subst e; exact Int.le_refl _
       ·exact HP1.out k (by omega) k2), HO.out.trans ((Onl.of_gr HG2.out g).trans (Onl.of_gr gri g))⟩
     ·have e1 : ¬ (j : Int) < (i : Int) := by omega
      have hx1 := HX1.out (by omega)
      have hx2 := HX2.out (by omega)
      have hne : i ≠ j := fun e => by subst e; omega
      have c0 := HSA3.cell kq j (by omega)
      have bj9 : (j : Int) < (n : Int) := by omega
      have c2 := HSA3.cell kq i (by omega)
      have bi9 : (i : Int) < (n : Int) := by omega
      have HPS := hd_ (pre_swap (xs := Z) (a := a) (b := b) (i := i) (j := j) ⟨fun k k1 k2 => (by
       by_cases e : k = a
       ·subst e; exact Int.le_refl _
       ·exact HP1.out k (by omega) k2), fun k k1 k2 => HP2.out k k1 k2⟩ i3 (by omega) (by omega) (by omega) hx1 hx2)
      have HR2 := hd_ (RP.swap HRP.out i j (by omega) (by omega) (by omega) (by omega) (by omega))
      obtain ⟨jm, hjm⟩ : ∃ jm, j - 1 = jm := ⟨_, rfl⟩
      have rjm : (j : Int) - 1 = (jm : Int) := by omega
      have wjm : IntKind.i64.wrap (jm : Int) = (jm : Int) := wrapS jm (by omega)
      clear hx1 hx2
      go_wp2
      refine wp_region_treeJ ⟨fun w' => Gr wc w', true, fun _ _ h => h, fun _ _ _ h g => h.trans g⟩ rfl (Gr.of ((Below.refl _ _).drew)) [2, 3] [0, 1, 4, 5, 6, 7, 8, 9, 10, 11] 4 13 (by kernel_rfl) (by kernel_rfl) ?_
      simp only [pick, List.drop, List.take, List.nil_append, List.cons_append]
      refine wpPure_step (.slice (some ⟨g, 0, none⟩) n c) rfl (fun w => by go_simp) ?_
      simp only [Act.put, stA, List.set]
      refine wpPure_step (.int .i64 (j : Int)) rfl (fun w => by go_simp) ?_
      simp only [Act.put, stA, List.set]
      show wpCalm _ _ _ _ _ _
      repeat (refine wpCalm_step (fun K hK => ?_); go_simp; first | (refine hK _ ?_; clear hK K) | (apply Exists.intro; refine ⟨fun _ => ?_, hK _ ?_⟩; (skip); clear hK K))
      refine wpCalm_nil ?_
      refine fg_one 12 (by kernel_rfl) ?_
      refine fg_pure (.pointer (some ⟨g, i, none⟩)) rfl rfl rfl (fun w => by go_simp) ?_
      simp only [Act.put, stA, List.set]
      refine fg_one 13 (by kernel_rfl) ?_
      refine fg_effN rfl rfl rfl (fun w1 hw1 => ?_)
      have sa1 := SA.gr HSA3 hw1
      have t0 := sa1.cell kq i (by have := hyl; omega)
      have t1 := sa1.frozen i
      haveI oG : Old g w1 := ⟨sa1.lt⟩
      have hrun := st_run kq tq g i w1 ((at0 Z j)) (by assumption) (by assumption)
      refine effAt_stS rfl rfl rfl hrun ⟨⟨fun w2 => SA base w2 g n c (Z.set i (at0 Z j)) ∧ Onl wc w2 g, false, fun e => Bool.noConfusion e, fun e => Bool.noConfusion e⟩, ⟨sa1.put kq i _ (by have := hyl; omega), (Onl.of_gr hw1 g).trans (Onl.set _ g i _)⟩, fun e => absurd rfl e, ?_⟩
      clear oG sa1 t0 t1 hrun hw1 w1
      try simp only [Act.put, stA, List.set]
      refine fg_one 14 (by kernel_rfl) ?_
      refine fg_pure (.pointer (some ⟨g, j, none⟩)) rfl rfl rfl (fun w => by go_simp) ?_
      simp only [Act.put, stA, List.set]
      refine fg_one 15 (by kernel_rfl) ?_
      refine fg_effN rfl rfl rfl (fun w1 hw1 => ?_)
      have t0 := hw1.1.cell kq j (by rw [List.length_set]; have := hyl; omega)
      have t1 := hw1.1.frozen j
      haveI oG : Old g w1 := ⟨hw1.1.lt⟩
      have hrun := st_run kq tq g j w1 ((at0 Z i)) (by assumption) (by assumption)
      refine effAt_stS rfl rfl rfl hrun ⟨⟨fun w2 => SA base w2 g n c (swp Z i j) ∧ Onl wc w2 g, false, fun e => Bool.noConfusion e, fun e => Bool.noConfusion e⟩, ⟨hw1.1.put kq j _ (by rw [List.length_set]; have := hyl; omega), hw1.2.trans (Onl.set _ g j _)⟩, fun _ e => Bool.noConfusion e, ?_⟩
      clear oG t0 t1 hrun hw1 w1
      refine fg_end (by kernel_rfl) (fun w5 hw5 => ?_)
      try simp only [Act.put]
      have HF := hd_ hw5
      haveI : Old g w5 := ⟨hw5.1.lt⟩
      clear hw5
      go_wp2
      go_roundw
      case rel => exact ⟨i + 1, jm, swp Z i j, by omega, by omega, by omega, by omega, by go_num, rfl, HF.out.1.gr gri, HR2.out, by (rw [at0_swp (by omega) (by omega), if_neg (by omega), if_neg (by omega)]; exact HPA.out), by rw [show jm = j - 1 by omega]; exact HPS.out, HO.out.trans ((Onl.of_gr HG2.out g).trans (HF.out.2.trans (Onl.of_gr gri g)))⟩
      case measure => simp [intOf] <;> omega
structure CN (W : World) (S k : Nat) : Prop where
 blk : BlockAt W S #[.int .i64 (k : Int)] 3
theorem SA.onl {base : Bs} {W W' : World} {g n c S : Nat} {xs : List Int} (h : SA base W g n c xs) (o : Onl W W' S) (hne : g ≠ S) : SA base W' g n c xs :=
 ⟨h.own.keep fun k hk => by
  have : g = k := by simpa [Value.ownBlock] using hk
  subst this
  exact o.block h.lt hne, h.two⟩
def OPost (W0 : World) (S k m : Nat) (r : List (Nat × Nat)) (e : Ending) (w' : World) : Prop := ∃ (p q s : Nat), e = .returned (.tuple #[.int .i64 (p : Int), .int .i64 (q : Int)]) ∧ (p, q) ∈ r ∧ s ≤ k + m ∧ CN w' S s ∧ Onl W0 w' S
theorem order2_any {F : Nat} (base : Bs) (g n c : Nat) (xs : List Int) (x y S k : Nat) (w : World) (h : SA base w g n c xs) (hn : n ≤ 1000000) (hx : x < n) (hy : y < n) (hS : CN w S k) (hk : k ≤ 1000) (hq : base.is 156 157 F := by first | exact .inl ⟨by assumption, by assumption, rfl⟩ | exact .inr ⟨by assumption, by assumption, rfl⟩) :
  Calls Tryz.prog F #[.slice (some ⟨g, 0, none⟩) n c, .int .i64 (x : Int), .int .i64 (y : Int), .pointer (some ⟨S, 0, none⟩)] w (OPost w S k 1 [(x, y), (y, x)]) := by
 rcases hq with ⟨kq, tq, rfl⟩ | ⟨kq, tq, rfl⟩
 all_goals
  have hxl := h.len
  have c0 := h.cell kq x (by omega)
  have c1 := h.cell kq y (by omega)
  have b0 : (x : Int) < (n : Int) := by omega
  have b1 : (y : Int) < (n : Int) := by omega
  have hb := hS.blk
  haveI := hb
  haveI : Old g w := ⟨h.lt⟩
  haveI : Old S w := hb.old
  have p0 : w.cell? ⟨S, 0, none⟩ = some (.int .i64 (k : Int)) := (bc 0 hb).trans rfl
  have p1 : w.frozen? ⟨S, 0, none⟩ = false := @block_frozen _ _ 0 _ _ hb
  have HS := hd_ hS
  clear h hb hS
  by_cases hlt : at0 xs y < at0 xs x
  ·have HL := hd_ (fun W => less_yes kq hlt W)
   clear hlt
   first | go_enter Tryz.func156, Tryz.ntmps156 | go_enter Tryz.func157, Tryz.ntmps157
   go_wp2
   refine wp_region_grow (by kernel_rfl) (by kernel_rfl) ?_
   repeat (go_big_quiet_step ((first | ((first | go_at_call 124 | go_at_call 135); exact grow_call (HL.out _)))))
   refine wpQuiet_nil ?_
   intro g1
   obtain ⟨W1, hW1⟩ : ∃ W1, W1 = grown w g1 := ⟨_, rfl⟩
   have hg1 : Gr w W1 := by rw [hW1]; exact gri
   rw [← hW1]
   clear hW1
   have hb := HS.out.blk.gr hg1
   haveI := hb
   haveI : Old S W1 := hb.old
   haveI := grc_of hg1
   have p2 : W1.cell? ⟨S, 0, none⟩ = some (.int .i64 (k : Int)) := (bc 0 hb).trans rfl
   have p3 : W1.frozen? ⟨S, 0, none⟩ = false := @block_frozen _ _ 0 _ _ hb
   have HC := hd_ (show CN (W1.setCell ⟨S, 0, none⟩ (.int .i64 ((k : Int) + 1))) S (k + 1) from ⟨by
    have : BlockAt (W1.setCell ⟨S, 0, none⟩ (.int .i64 ((k : Int) + 1))) S (#[.int .i64 (k : Int)].setIfInBounds 0 (.int .i64 ((k : Int) + 1))) 3 := inferInstance
    simpa using this⟩)
   have HG := hd_ hg1
   clear hb p0 p1 c0 c1
   go_wp2
   go_ret2
   exact ⟨y, x, k + 1, rfl, by simp, Nat.le_refl _, HC.out, (Onl.of_gr HG.out S).trans (Onl.set _ S 0 _)⟩
  ·have HL := hd_ (fun W => less_no kq hlt W)
   clear hlt
   first | go_enter Tryz.func156, Tryz.ntmps156 | go_enter Tryz.func157, Tryz.ntmps157
   go_wp2
   refine wp_region_grow (by kernel_rfl) (by kernel_rfl) ?_
   repeat (go_big_quiet_step ((first | ((first | go_at_call 124 | go_at_call 135); exact grow_call (HL.out _)))))
   refine wpQuiet_nil ?_
   intro g1
   go_wp2
   go_ret2
   exact ⟨x, y, k, rfl, by simp, by omega, ⟨HS.out.blk.gr gri⟩, Onl.of_gr gri S⟩
def MPost9 (W0 : World) (S k m : Nat) (r : List Nat) (e : Ending) (w' : World) : Prop := ∃ (p s : Nat), e = .returned (.int .i64 (p : Int)) ∧ p ∈ r ∧ s ≤ k + m ∧ CN w' S s ∧ Onl W0 w' S
theorem median_any {F : Nat} (base : Bs) (g n c : Nat) (xs : List Int) (x y z S k : Nat) (w : World) (h : SA base w g n c xs) (hn : n ≤ 1000000) (hx : x < n) (hy : y < n) (hz : z < n) (hS : CN w S k) (hk : k ≤ 900) (hne : g ≠ S) (hq : base.is 148 152 F := by first | exact .inl ⟨by assumption, by assumption, rfl⟩ | exact .inr ⟨by assumption, by assumption, rfl⟩) :
  Calls Tryz.prog F #[.slice (some ⟨g, 0, none⟩) n c, .int .i64 (x : Int), .int .i64 (y : Int), .int .i64 (z : Int), .pointer (some ⟨S, 0, none⟩)] w (MPost9 w S k 3 [x, y, z]) := by
 rcases hq with ⟨kq, tq, rfl⟩ | ⟨kq, tq, rfl⟩
 all_goals
  have H := hd_ h
  have HS := hd_ hS
  clear h hS
  first | go_enter Tryz.func148, Tryz.ntmps148 | go_enter Tryz.func152, Tryz.ntmps152
  go_wp2_with (first | ((first | go_at_call 156 | go_at_call 157); ((with_reducible refine (order2_any base g n c xs x y S k _ (H.out.gr gri) hn hx hy ⟨HS.out.blk.gr gri⟩ (by omega)).mono ?_); rintro _ W1 ⟨p1, q1, s1, rfl, m1, k1, HC1, HO1⟩)) | ((first | go_at_call 156 | go_at_call 157); ((with_reducible refine (order2_any base g n c xs q1 z S s1 W1 ((H.out.gr gri).onl HO1 hne) hn (by simp at m1; omega) hz HC1 (by omega)).mono ?_); rintro _ W2 ⟨p2, q2, s2, rfl, m2, k2, HC2, HO2⟩)) | ((first | go_at_call 156 | go_at_call 157); ((with_reducible refine (order2_any base g n c xs p1 p2 S s2 W2 (((H.out.gr gri).onl HO1 hne).onl HO2 hne) hn (by simp at m1; omega) (by simp at m1 m2; omega) HC2 (by omega)).mono ?_); rintro _ W3 ⟨p3, q3, s3, rfl, m3, k3, HC3, HO3⟩)))
  go_ret
  exact ⟨q3, s3, rfl, by (simp at m1 m2 m3 ⊢; omega), by omega, ⟨HC3.blk.gr gri⟩, ((((Onl.of_gr gri S).trans HO1).trans HO2).trans HO3).trans (Onl.of_gr gri S)⟩
theorem medianadj_any {F : Nat} (base : Bs) (g n c : Nat) (xs : List Int) (x x0 x1 S k : Nat) (w : World) (h : SA base w g n c xs) (hn : n ≤ 1000000) (h0 : x0 + 1 = x) (h1 : x + 1 = x1) (hx : x1 < n) (hS : CN w S k) (hk : k ≤ 900) (hne : g ≠ S) (hq : base.is 147 151 F := by first | exact .inl ⟨by assumption, by assumption, rfl⟩ | exact .inr ⟨by assumption, by assumption, rfl⟩) :
  Calls Tryz.prog F #[.slice (some ⟨g, 0, none⟩) n c, .int .i64 (x : Int), .pointer (some ⟨S, 0, none⟩)] w (MPost9 w S k 3 [x0, x, x1]) := by
 rcases hq with ⟨kq, tq, rfl⟩ | ⟨kq, tq, rfl⟩
 all_goals
  have H := hd_ h
  have HS := hd_ hS
  have r0 : (x : Int) - 1 = (x0 : Int) := by omega
  have r1 : (x : Int) + 1 = (x1 : Int) := by omega
  have w0 : IntKind.i64.wrap (x0 : Int) = (x0 : Int) := wrapS x0 (by omega)
  have w1 : IntKind.i64.wrap (x1 : Int) = (x1 : Int) := wrapS x1 (by omega)
  clear h hS
  first | go_enter Tryz.func147, Tryz.ntmps147 | go_enter Tryz.func151, Tryz.ntmps151
  go_wp2_with (first | ((first | go_at_call 148 | go_at_call 152); ((with_reducible refine (median_any base g n c xs x0 x x1 S k _ (H.out.gr gri) hn (by omega) (by omega) hx ⟨HS.out.blk.gr gri⟩ hk hne).mono ?_); rintro _ W1 ⟨p1, s1, rfl, m1, k1, HC1, HO1⟩)))
  go_ret
  exact ⟨p1, s1, rfl, m1, k1, ⟨HC1.blk.gr gri⟩, ((Onl.of_gr gri S).trans HO1).trans (Onl.of_gr gri S)⟩
def ChPost (a b : Nat) (w : World) (e : Ending) (w' : World) : Prop := ∃ (p : Nat) (t : Int), e = .returned (.tuple #[.int .i64 (p : Int), .int .i64 t]) ∧ a ≤ p ∧ p < b ∧ (t = 0 ∨ t = 1 ∨ t = 2) ∧ Gr w w'
theorem choose_any {F : Nat} (base : Bs) (g n c : Nat) (xs : List Int) (a b : Nat) (w : World) (h : SA base w g n c xs) (hn : n ≤ 1000000) (hab : a + 8 ≤ b) (hb : b ≤ n) (hq : base.is 121 132 F := by first | exact .inl ⟨by assumption, by assumption, rfl⟩ | exact .inr ⟨by assumption, by assumption, rfl⟩) :
  Calls Tryz.prog F #[.slice (some ⟨g, 0, none⟩) n c, .int .i64 (a : Int), .int .i64 (b : Int)] w (ChPost a b w) := by
 rcases hq with ⟨kq, tq, rfl⟩ | ⟨kq, tq, rfl⟩
 all_goals
  have H := hd_ h
  have hgw := h.lt
  clear h
  obtain ⟨l, hl⟩ : ∃ l, b - a = l := ⟨_, rfl⟩
  have rl : (b : Int) - (a : Int) = (l : Int) := by omega
  have wl : IntKind.i64.wrap (l : Int) = (l : Int) := wrapS l (by omega)
  obtain ⟨q, hq⟩ : ∃ q, l / 4 = q := ⟨_, rfl⟩
  have rq : (l : Int) / 4 = (q : Int) := by omega
  have wq : IntKind.i64.wrap (q : Int) = (q : Int) := wrapS q (by omega)
  obtain ⟨q2, hq2⟩ : ∃ q2, q * 2 = q2 := ⟨_, rfl⟩
  have rq2 : (q : Int) * 2 = (q2 : Int) := by omega
  have wq2 : IntKind.i64.wrap (q2 : Int) = (q2 : Int) := wrapS q2 (by omega)
  obtain ⟨q3, hq3⟩ : ∃ q3, q * 3 = q3 := ⟨_, rfl⟩
  have rq3 : (q : Int) * 3 = (q3 : Int) := by omega
  have wq3 : IntKind.i64.wrap (q3 : Int) = (q3 : Int) := wrapS q3 (by omega)
  obtain ⟨i, hi⟩ : ∃ i, a + q = i := ⟨_, rfl⟩
  have ri : (a : Int) + (q : Int) = (i : Int) := by omega
  have wi : IntKind.i64.wrap (i : Int) = (i : Int) := wrapS i (by omega)
  obtain ⟨j, hj⟩ : ∃ j, a + q2 = j := ⟨_, rfl⟩
  have rj : (a : Int) + (q2 : Int) = (j : Int) := by omega
  have wj : IntKind.i64.wrap (j : Int) = (j : Int) := wrapS j (by omega)
  obtain ⟨k, hk⟩ : ∃ k, a + q3 = k := ⟨_, rfl⟩
  have rk : (a : Int) + (q3 : Int) = (k : Int) := by omega
  have wk : IntKind.i64.wrap (k : Int) = (k : Int) := wrapS k (by omega)
  have e8 : (8 : Int) ≤ (l : Int) := by omega
  obtain ⟨S, hS⟩ : ∃ S, w.heap.size = S := ⟨_, rfl⟩
  have hne : g ≠ S := by omega
  by_cases h50 : 50 ≤ l
  ·have e50 : (50 : Int) ≤ (l : Int) := by omega
   first | go_enter Tryz.func121, Tryz.ntmps121 | go_enter Tryz.func132, Tryz.ntmps132
   go_wp2_with (first | ((first | go_at_call 147 | go_at_call 151); ((with_reducible refine (medianadj_any base g n c xs i (i - 1) (i + 1) S 0 _ (H.out.gr gri) hn (by omega) (by omega) (by omega) ⟨by rw [← hS]; infer_instance⟩ (by omega) hne).mono ?_))))
   rintro _ W1 ⟨p1, s1, rfl, m1, k1, HC1, HO1⟩
   have HSA1 := hd_ ((H.out.gr (gri : Gr w (w.alloc (.cells #[.int .i64 0] 3)))).onl HO1 hne)
   have hp1 : i - 1 ≤ p1 ∧ p1 ≤ i + 1 := by simp at m1; omega
   have HG1 := hd_ (HO1.gr (gri : Gr w _) (by omega))
   go_wp2_with (first | ((first | go_at_call 147 | go_at_call 151); ((with_reducible refine (medianadj_any base g n c xs j (j - 1) (j + 1) S s1 W1 HSA1.out hn (by omega) (by omega) (by omega) HC1 (by omega) hne).mono ?_))))
   rintro _ W2 ⟨p2, s2, rfl, m2, k2, HC2, HO2⟩
   have HSA2 := hd_ (HSA1.out.onl HO2 hne)
   have hp2 : j - 1 ≤ p2 ∧ p2 ≤ j + 1 := by simp at m2; omega
   go_wp2_with (first | ((first | go_at_call 147 | go_at_call 151); ((with_reducible refine (medianadj_any base g n c xs k (k - 1) (k + 1) S s2 W2 HSA2.out hn (by omega) (by omega) (by omega) HC2 (by omega) hne).mono ?_))))
   rintro _ W3 ⟨p3, s3, rfl, m3, k3, HC3, HO3⟩
   have HSA3 := hd_ (HSA2.out.onl HO3 hne)
   have hp3 : k - 1 ≤ p3 ∧ p3 ≤ k + 1 := by simp at m3; omega
   go_wp2_with (first | ((first | go_at_call 148 | go_at_call 152); ((with_reducible refine (median_any base g n c xs p1 p2 p3 S s3 W3 HSA3.out hn (by omega) (by omega) (by omega) HC3 (by omega) hne).mono ?_))))
   rintro _ W4 ⟨p9, s9, rfl, m9, k9, HC9, HO9⟩
   have hp9 : p9 = p1 ∨ p9 = p2 ∨ p9 = p3 := by simpa using m9
   have pS : W4.cell? ⟨S, 0, none⟩ = some (.int .i64 (s9 : Int)) := (bc 0 HC9.blk).trans rfl
   haveI := HC9.blk.old
   have hgr : Gr w W4 := HO9.gr (HO3.gr (HO2.gr HG1.out (by omega)) (by omega)) (by omega)
   haveI := grc_of hgr
   by_cases hs0 : s9 = 0
   ·have hb0 : ((s9 : Int) == 0) = true := by simp [hs0]
    go_wp2
    go_ret2
    exact ⟨p9, 1, rfl, by omega, by omega, .inr (.inl rfl), Gr.trans hgr gri⟩
   ·have hb0 : ((s9 : Int) == 0) = false := by simp [hs0]
    by_cases hs12 : s9 = 12
    ·have hb1 : ((s9 : Int) == 12) = true := by simp [hs12]
     go_wp2
     go_ret2
     exact ⟨p9, 2, rfl, by omega, by omega, .inr (.inr rfl), Gr.trans hgr gri⟩
    ·have hb1 : ((s9 : Int) == 12) = false := by simp; omega
     go_wp2
     go_ret2
     exact ⟨p9, 0, rfl, by omega, by omega, .inl rfl, Gr.trans hgr gri⟩
  ·have e50 : ¬ (50 : Int) ≤ (l : Int) := by omega
   first | go_enter Tryz.func121, Tryz.ntmps121 | go_enter Tryz.func132, Tryz.ntmps132
   go_wp2_with (first | ((first | go_at_call 148 | go_at_call 152); ((with_reducible refine (median_any base g n c xs i j k S 0 _ (H.out.gr gri) hn (by omega) (by omega) (by omega) ⟨by rw [← hS]; infer_instance⟩ (by omega) hne).mono ?_))))
   rintro _ W4 ⟨p9, s9, rfl, m9, k9, HC9, HO9⟩
   have hp9 : p9 = i ∨ p9 = j ∨ p9 = k := by simpa using m9
   have pS : W4.cell? ⟨S, 0, none⟩ = some (.int .i64 (s9 : Int)) := (bc 0 HC9.blk).trans rfl
   haveI := HC9.blk.old
   have hgr : Gr w W4 := HO9.gr (gri : Gr w _) (by omega)
   haveI := grc_of hgr
   by_cases hs0 : s9 = 0
   ·have hb0 : ((s9 : Int) == 0) = true := by simp [hs0]
    go_wp2
    go_ret2
    exact ⟨p9, 1, rfl, by omega, by omega, .inr (.inl rfl), Gr.trans hgr gri⟩
   ·have hb0 : ((s9 : Int) == 0) = false := by simp [hs0]
    by_cases hs12 : s9 = 12
    ·have hb1 : ((s9 : Int) == 12) = true := by simp [hs12]
     go_wp2
     go_ret2
     exact ⟨p9, 2, rfl, by omega, by omega, .inr (.inr rfl), Gr.trans hgr gri⟩
    ·have hb1 : ((s9 : Int) == 12) = false := by simp; omega
     go_wp2
     go_ret2
     exact ⟨p9, 0, rfl, by omega, by omega, .inl rfl, Gr.trans hgr gri⟩
def NxPost (S : Nat) (w : World) (e : Ending) (w' : World) : Prop := ∃ z : Int, e = .returned (.int .u64 z) ∧ BlockAt w' S #[.int .u64 z] 217 ∧ Onl w w' S
theorem next_xs (S : Nat) (z : Int) (w : World) (h : BlockAt w S #[.int .u64 z] 217) : Calls Tryz.prog 146 #[.pointer (some ⟨S, 0, none⟩)] w (NxPost S w) := by
 have p0 : w.cell? ⟨S, 0, none⟩ = some (.int .u64 z) := (bc 0 h).trans rfl
 haveI := h.old
 go_enter Tryz.func146, Tryz.ntmps146
 go_wp2
 refine wp_region_treeJ ⟨fun w' => Gr w w', true, fun _ _ h => h, fun _ _ _ h g => h.trans g⟩ rfl (Gr.of ((Below.refl _ _).drew)) [] [0, 1, 2, 3, 4, 5, 6, 7, 8] 1 9 (by kernel_rfl) (by kernel_rfl) ?_
 simp only [pick, List.drop, List.take, List.nil_append, List.cons_append]
 show wpCalm _ _ _ _ _ _
 repeat (refine wpCalm_step (fun K hK => ?_); go_simp; first | (refine hK _ ?_; clear hK K) | (apply Exists.intro; refine ⟨fun _ => ?_, hK _ ?_⟩; (skip); clear hK K))
 refine wpCalm_nil ?_
 refine fg_one 9 (by kernel_rfl) ?_
 refine fg_effN rfl rfl rfl (fun w1 hw1 => ?_)
 have hb1 : BlockAt w1 S #[.int .u64 z] 217 := BlockAt.gr h hw1
 have t0 : w1.cell? ⟨S, 0, none⟩ = some (.int .u64 z) := (bc 0 hb1).trans rfl
 have t1 : w1.frozen? ⟨S, 0, none⟩ = false := @block_frozen _ _ 0 _ _ hb1
 haveI oG : Old S w1 := hb1.old
 have hrun : (storeVar 217 ⟨S, 0, none⟩ (.int .u64 (bits BinOp.xor IntKind.u64 z (IntKind.u64.wrap (z * 8192))))).run Tryz.prog w1 = .ok () (w1.setCell ⟨S, 0, none⟩ (.int .u64 (bits BinOp.xor IntKind.u64 z (IntKind.u64.wrap (z * 8192))))) := by go_simp
 have hb2 : BlockAt (w1.setCell ⟨S, 0, none⟩ (.int .u64 (bits BinOp.xor IntKind.u64 z (IntKind.u64.wrap (z * 8192))))) S #[.int .u64 (bits BinOp.xor IntKind.u64 z (IntKind.u64.wrap (z * 8192)))] 217 := by
  have : BlockAt (w1.setCell ⟨S, 0, none⟩ (.int .u64 (bits BinOp.xor IntKind.u64 z (IntKind.u64.wrap (z * 8192))))) S (#[.int .u64 z].setIfInBounds 0 (.int .u64 (bits BinOp.xor IntKind.u64 z (IntKind.u64.wrap (z * 8192))))) 217 := inferInstance
  simpa using this
 refine effAt_stS rfl rfl rfl hrun ⟨⟨fun w2 => BlockAt w2 S #[.int .u64 (bits BinOp.xor IntKind.u64 z (IntKind.u64.wrap (z * 8192)))] 217 ∧ Onl w w2 S, false, fun e => Bool.noConfusion e, fun e => Bool.noConfusion e⟩, ⟨hb2, (Onl.of_gr hw1 S).trans (Onl.set _ S 0 _)⟩, fun e => absurd rfl e, ?_⟩
 clear oG t0 t1 hrun hw1 hb1 hb2 w1
 refine fg_end (by kernel_rfl) (fun w5 hw5 => ?_)
 try simp only [Act.put]
 generalize (bits BinOp.xor IntKind.u64 z (IntKind.u64.wrap (z * 8192))) = z1 at *
 obtain ⟨hb1, ho1⟩ := hw5
 have p1 : w5.cell? ⟨S, 0, none⟩ = some (.int .u64 z1) := (bc 0 hb1).trans rfl
 haveI := hb1.old
 obtain ⟨wa, rfl⟩ : ∃ wa : World, wa = w5 := ⟨_, rfl⟩
 go_wp2
 refine wp_region_treeJ ⟨fun w' => Gr wa w', true, fun _ _ h => h, fun _ _ _ h g => h.trans g⟩ rfl (Gr.of ((Below.refl _ _).drew)) [] [0, 1, 2, 3, 4, 5, 6, 7, 8] 1 9 (by kernel_rfl) (by kernel_rfl) ?_
 simp only [pick, List.drop, List.take, List.nil_append, List.cons_append]
 show wpCalm _ _ _ _ _ _
 repeat (refine wpCalm_step (fun K hK => ?_); go_simp; first | (refine hK _ ?_; clear hK K) | (apply Exists.intro; refine ⟨fun _ => ?_, hK _ ?_⟩; (skip); clear hK K))
 refine wpCalm_nil ?_
 refine fg_one 9 (by kernel_rfl) ?_
 refine fg_effN rfl rfl rfl (fun w1 hw1 => ?_)
 have hb1 : BlockAt w1 S #[.int .u64 z1] 217 := BlockAt.gr hb1 hw1
 have t0 : w1.cell? ⟨S, 0, none⟩ = some (.int .u64 z1) := (bc 0 hb1).trans rfl
 have t1 : w1.frozen? ⟨S, 0, none⟩ = false := @block_frozen _ _ 0 _ _ hb1
 haveI oG : Old S w1 := hb1.old
 have hrun : (storeVar 217 ⟨S, 0, none⟩ (.int .u64 (bits BinOp.xor IntKind.u64 z1 (z1 / 128)))).run Tryz.prog w1 = .ok () (w1.setCell ⟨S, 0, none⟩ (.int .u64 (bits BinOp.xor IntKind.u64 z1 (z1 / 128)))) := by go_simp
 have hb2 : BlockAt (w1.setCell ⟨S, 0, none⟩ (.int .u64 (bits BinOp.xor IntKind.u64 z1 (z1 / 128)))) S #[.int .u64 (bits BinOp.xor IntKind.u64 z1 (z1 / 128))] 217 := by
  have : BlockAt (w1.setCell ⟨S, 0, none⟩ (.int .u64 (bits BinOp.xor IntKind.u64 z1 (z1 / 128)))) S (#[.int .u64 z1].setIfInBounds 0 (.int .u64 (bits BinOp.xor IntKind.u64 z1 (z1 / 128)))) 217 := inferInstance
  simpa using this
 refine effAt_stS rfl rfl rfl hrun ⟨⟨fun w2 => BlockAt w2 S #[.int .u64 (bits BinOp.xor IntKind.u64 z1 (z1 / 128))] 217 ∧ Onl wa w2 S, false, fun e => Bool.noConfusion e, fun e => Bool.noConfusion e⟩, ⟨hb2, (Onl.of_gr hw1 S).trans (Onl.set _ S 0 _)⟩, fun e => absurd rfl e, ?_⟩
 clear oG t0 t1 hrun hw1 hb1 hb2 w1
 refine fg_end (by kernel_rfl) (fun w5 hw5 => ?_)
 try simp only [Act.put]
 generalize (bits BinOp.xor IntKind.u64 z1 (z1 / 128)) = z2 at *
 obtain ⟨hb2, ho2⟩ := hw5
 have p2 : w5.cell? ⟨S, 0, none⟩ = some (.int .u64 z2) := (bc 0 hb2).trans rfl
 haveI := hb2.old
 obtain ⟨wb, rfl⟩ : ∃ wb : World, wb = w5 := ⟨_, rfl⟩
 go_wp2
 refine wp_region_treeJ ⟨fun w' => Gr wb w', true, fun _ _ h => h, fun _ _ _ h g => h.trans g⟩ rfl (Gr.of ((Below.refl _ _).drew)) [] [0, 1, 2, 3, 4, 5, 6, 7, 8] 1 9 (by kernel_rfl) (by kernel_rfl) ?_
 simp only [pick, List.drop, List.take, List.nil_append, List.cons_append]
 show wpCalm _ _ _ _ _ _
 repeat (refine wpCalm_step (fun K hK => ?_); go_simp; first | (refine hK _ ?_; clear hK K) | (apply Exists.intro; refine ⟨fun _ => ?_, hK _ ?_⟩; (skip); clear hK K))
 refine wpCalm_nil ?_
 refine fg_one 9 (by kernel_rfl) ?_
 refine fg_effN rfl rfl rfl (fun w1 hw1 => ?_)
 have hb1 : BlockAt w1 S #[.int .u64 z2] 217 := BlockAt.gr hb2 hw1
 have t0 : w1.cell? ⟨S, 0, none⟩ = some (.int .u64 z2) := (bc 0 hb1).trans rfl
 have t1 : w1.frozen? ⟨S, 0, none⟩ = false := @block_frozen _ _ 0 _ _ hb1
 haveI oG : Old S w1 := hb1.old
 have hrun : (storeVar 217 ⟨S, 0, none⟩ (.int .u64 (bits BinOp.xor IntKind.u64 z2 (IntKind.u64.wrap (z2 * 131072))))).run Tryz.prog w1 = .ok () (w1.setCell ⟨S, 0, none⟩ (.int .u64 (bits BinOp.xor IntKind.u64 z2 (IntKind.u64.wrap (z2 * 131072))))) := by go_simp
 have hb2 : BlockAt (w1.setCell ⟨S, 0, none⟩ (.int .u64 (bits BinOp.xor IntKind.u64 z2 (IntKind.u64.wrap (z2 * 131072))))) S #[.int .u64 (bits BinOp.xor IntKind.u64 z2 (IntKind.u64.wrap (z2 * 131072)))] 217 := by
  have : BlockAt (w1.setCell ⟨S, 0, none⟩ (.int .u64 (bits BinOp.xor IntKind.u64 z2 (IntKind.u64.wrap (z2 * 131072))))) S (#[.int .u64 z2].setIfInBounds 0 (.int .u64 (bits BinOp.xor IntKind.u64 z2 (IntKind.u64.wrap (z2 * 131072))))) 217 := inferInstance
  simpa using this
 refine effAt_stS rfl rfl rfl hrun ⟨⟨fun w2 => BlockAt w2 S #[.int .u64 (bits BinOp.xor IntKind.u64 z2 (IntKind.u64.wrap (z2 * 131072)))] 217 ∧ Onl wb w2 S, false, fun e => Bool.noConfusion e, fun e => Bool.noConfusion e⟩, ⟨hb2, (Onl.of_gr hw1 S).trans (Onl.set _ S 0 _)⟩, fun e => absurd rfl e, ?_⟩
 clear oG t0 t1 hrun hw1 hb1 hb2 w1
 refine fg_end (by kernel_rfl) (fun w5 hw5 => ?_)
 try simp only [Act.put]
 generalize (bits BinOp.xor IntKind.u64 z2 (IntKind.u64.wrap (z2 * 131072))) = z3 at *
 obtain ⟨hb3, ho3⟩ := hw5
 have p3 : w5.cell? ⟨S, 0, none⟩ = some (.int .u64 z3) := (bc 0 hb3).trans rfl
 haveI := hb3.old
 have HF := hd_ (show BlockAt w5 S #[.int .u64 z3] 217 ∧ Onl w w5 S from ⟨hb3, (ho1.trans ho2).trans ho3⟩)
 clear ho1 ho2 ho3
 go_wp2
 go_ret
 exact ⟨z3, rfl, HF.out.1.gr gri, HF.out.2.trans (Onl.of_gr gri S)⟩
def lenT (BA : ByteArray) (x : Nat) : Nat := (BA.data.toList.getD x 0).toNat
theorem len8_all (BA : ByteArray) (hs : BA.size = 256) (hP : (List.range 256).all (fun y => decide (lenT BA y ≤ 8 ∧ y < 2 ^ lenT BA y ∧ 2 ^ lenT BA y ≤ 2 * y + 1)) = true) (x : Nat) (hx : x < BA.size) : ∃ k : Nat, wrap64 (wrap64 ((BA[x]'hx).toNat : Int)) = (k : Int) ∧ k ≤ 8 ∧ x < 2 ^ k ∧ 2 ^ k ≤ 2 * x + 1 := by
 have h1 := List.all_eq_true.1 hP x (List.mem_range.2 (by omega))
 simp only [decide_eq_true_eq] at h1
 have e : (BA[x]'hx).toNat = lenT BA x := by
  unfold lenT
  have hx2 : x < BA.data.toList.length := by rw [Array.length_toList]; exact hx
  rw [List.getD_eq_getElem?_getD, List.getElem?_eq_getElem hx2]
  rw [Option.getD_some]
  rfl
 refine ⟨lenT BA x, ?_, h1⟩
 rw [e]
 have h2 := h1.1
 unfold wrap64
 omega
theorem len8_post {w w' : World} (BA : ByteArray) (hs : BA.size = 256) (hP : (List.range 256).all (fun y => decide (lenT BA y ≤ 8 ∧ y < 2 ^ lenT BA y ∧ 2 ^ lenT BA y ≤ 2 * y + 1)) = true) (x : Nat) (hx : x < BA.size) (hg : Gr w w') : ∃ k : Nat, Ending.returned (.int .i64 (wrap64 (wrap64 ((BA[x]'hx).toNat : Int)))) = .returned (.int .i64 (k : Int)) ∧ k ≤ 9 ∧ x < 2 ^ k ∧ 2 ^ k ≤ 2 * x + 1 ∧ Gr w w' := by
 obtain ⟨k, hk, h1, h2, h3⟩ := len8_all BA hs hP x hx
 exact ⟨k, by rw [hk], by omega, h2, h3, hg⟩
theorem len64_any (x : Nat) (hx : x ≤ 256) (w : World) : Calls Tryz.prog 128 #[.int .u64 (x : Int)] w fun e w' => ∃ k : Nat, e = .returned (.int .i64 (k : Int)) ∧ k ≤ 9 ∧ x < 2 ^ k ∧ 2 ^ k ≤ 2 * x + 1 ∧ Gr w w' := by
 by_cases h256 : x = 256
 ·subst h256
  show Calls Tryz.prog 128 #[.int .u64 256] w _
  go_enter Tryz.func128, Tryz.ntmps128
  go_wp2
  go_ret
  exact ⟨9, by kernel_rfl, by decide, by decide, by decide, gri⟩
 ·have e1 : ¬ (256 : Int) ≤ (x : Int) := by omega
  have e2 : ¬ (65536 : Int) ≤ (x : Int) := by omega
  have e3 : ¬ (4294967296 : Int) ≤ (x : Int) := by omega
  have hw1 : IntKind.u8.wrap (x : Int) = (x : Int) := by
   simp [IntKind.wrap, IntKind.bits, IntKind.signed]
   omega
  have hx2 : x < 256 := by omega
  go_enter Tryz.func128, Tryz.ntmps128
  go_wp2
  go_ret
  exact len8_post _ (by kernel_rfl) (by kernel_rfl) x _ gri
theorem len_any (x : Nat) (hx : x ≤ 256) (w : World) : Calls Tryz.prog 109 #[.int .u64 (x : Int)] w fun e w' => ∃ k : Nat, e = .returned (.int .i64 (k : Int)) ∧ k ≤ 9 ∧ x < 2 ^ k ∧ 2 ^ k ≤ 2 * x + 1 ∧ Gr w w' := by
 have HL := hd_ (fun W => len64_any x hx W)
 go_enter Tryz.func109, Tryz.ntmps109
 go_wp2_with (first | (go_at_call 128; ((with_reducible refine (HL.out _).mono ?_); rintro _ _ ⟨k, rfl, k1, k2, k3, ⟨g1, rfl⟩⟩)))
 go_ret
 exact ⟨k, rfl, k1, k2, k3, gri⟩
theorem pow_any (x : Nat) (h8 : 8 ≤ x) (hx : x ≤ 256) (w : World) : Calls Tryz.prog 145 #[.int .i64 (x : Int)] w fun e w' => ∃ M : Nat, e = .returned (.int .u64 (M : Int)) ∧ x < M ∧ M ≤ 2 * x ∧ Gr w w' := by
 have HL := hd_ (fun W => len_any x hx W)
 have hwu : IntKind.u64.wrap (x : Int) = (x : Int) := by
  simp [IntKind.wrap, IntKind.bits, IntKind.signed]
  omega
 go_enter Tryz.func145, Tryz.ntmps145
 go_wp2_with (first | (go_at_call 109; ((with_reducible refine (HL.out _).mono ?_))))
 rintro _ _ ⟨k, rfl, k1, k2, k3, ⟨g1, rfl⟩⟩
 have h9 : k = 0 ∨ k = 1 ∨ k = 2 ∨ k = 3 ∨ k = 4 ∨ k = 5 ∨ k = 6 ∨ k = 7 ∨ k = 8 ∨ k = 9 := by omega
 have HK := hd_ (And.intro k2 k3)
 clear k1 k2 k3
 rcases h9 with rfl | rfl | rfl | rfl | rfl | rfl | rfl | rfl | rfl | rfl
 ·go_wp2
  go_ret
  exact ⟨1, rfl, HK.out.1, (by have h : (1 : Nat) ≤ 2 * x + 1 := HK.out.2; omega), gri⟩
 ·go_wp2
  go_ret
  exact ⟨2, rfl, HK.out.1, (by have h : (2 : Nat) ≤ 2 * x + 1 := HK.out.2; omega), gri⟩
 ·go_wp2
  go_ret
  exact ⟨4, rfl, HK.out.1, (by have h : (4 : Nat) ≤ 2 * x + 1 := HK.out.2; omega), gri⟩
 ·go_wp2
  go_ret
  exact ⟨8, rfl, HK.out.1, (by have h : (8 : Nat) ≤ 2 * x + 1 := HK.out.2; omega), gri⟩
 ·go_wp2
  go_ret
  exact ⟨16, rfl, HK.out.1, (by have h : (16 : Nat) ≤ 2 * x + 1 := HK.out.2; omega), gri⟩
 ·go_wp2
  go_ret
  exact ⟨32, rfl, HK.out.1, (by have h : (32 : Nat) ≤ 2 * x + 1 := HK.out.2; omega), gri⟩
 ·go_wp2
  go_ret
  exact ⟨64, rfl, HK.out.1, (by have h : (64 : Nat) ≤ 2 * x + 1 := HK.out.2; omega), gri⟩
 ·go_wp2
  go_ret
  exact ⟨128, rfl, HK.out.1, (by have h : (128 : Nat) ≤ 2 * x + 1 := HK.out.2; omega), gri⟩
 ·go_wp2
  go_ret
  exact ⟨256, rfl, HK.out.1, (by have h : (256 : Nat) ≤ 2 * x + 1 := HK.out.2; omega), gri⟩
 ·go_wp2
  go_ret
  exact ⟨512, rfl, HK.out.1, (by have h : (512 : Nat) ≤ 2 * x + 1 := HK.out.2; omega), gri⟩
end Go.Proofs.YtddckdhnolmjoaaGreat
