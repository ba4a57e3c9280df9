/- delta.made: the operations of a volume's blocks, run by run. Conditions: the device stands in memory; what is to be done is answered block by block; at most 1000 blocks. delta.Rows. Conditions: the device stands in memory. A region that draws its order, walked by a plan: at each place either an operation that hands out the same and turns nothing as long as what has been learnt for good holds, whenever it comes; or the one operation that is ready, of any effect. Conditions: each step is known. delta.Patch. Conditions: the device stands in memory. A region that draws its order: operations that hand out the same and turn nothing in every world of a class, whenever they come; and others, one forced behind the other, of any effect. Conditions: each step is known. The laws' block; the reference's Same of stretches; the chapter's row. Conditions: what is read stands in memory. The reference's Put: stretches, and a block more. Conditions: the stretches stand in memory; at most 1000. -/
import Derived.Test.YtipeblmgochdfaaGreatS13
import Derived.Test.YtipeblmgochdfaaGreatS07
import Derived.Test.YtipeblmgochdfaaGreatS12
import Derived.Deep.CutBlock
import Derived.Deep.WholeRow
import Derived.Test.YtipeblmgochdfaaGreatS14
import Derived.Test.YtipeblmgochdfaaGreatS17
import Derived.Test.YtipeblmgochdfaaGreatS03
import Derived.Test.YtipeblmgochdfaaGreatS05
namespace Go.Proofs.YtipeblmgochdfaaGreat
open Go.RowKit
set_option linter.unusedVariables false
set_option linter.unusedSimpArgs false
set_option linter.unnecessarySimpa false
set_option maxRecDepth 100000
set_option maxHeartbeats 4000000
theorem cut_all (Y : Byt) (hY : Y.length = 256) (w : World) : Calls Tryz.prog 69 #[.agg (bkC Y), .agg #[.int .i64 0, .int .i64 0, .int .i64 4]] w fun e w' => ∃ v, e = .returned v ∧ OwnN bE w.heap.size w' v Y ∧ Gr w w' := by
 have h := cut_any Y 0 0 4 hY (by omega) (by omega) w
 have e : cutK Y ⟨0, 0, 4⟩ = Y := by
  unfold cutK
  exact List.take_of_length_le (by simp [hY])
 rw [e] at h
 exact h
theorem pmade_any (base D : Nat) (d : Dev) (need : Int → Bool × Bool) (l r : Int) (N : Nat) (C1 C2 C3 : Addr) (w : World) (h : DevAt base w D d) (hN9 : N ≤ 1000)
  (hn : ∀ (W : World) (i : Int), Gr w W → Calls Tryz.prog 37 #[.int .i64 i, .pointer (some C1), .pointer (some C2), .pointer (some C3)] W fun e w' => e = .returned (.tuple #[.bool (need i).1, .bool (need i).2]) ∧ Gr W w') :
  Calls Tryz.prog 38 #[.pointer (some ⟨D, 0, none⟩), .int .u64 r, .int .u64 l, .int .i64 (N : Int), .func (.func 37) #[] #[.pointer (some C1), .pointer (some C2), .pointer (some C3)]] w fun e w' => ∃ v zs, e = .returned v ∧ OwnN opE w.heap.size w' v zs ∧ zs.map (·.o) = (foldG (genN d l r need) N).1 ∧ (∀ z ∈ zs, OpOwn w.heap.size w' z) ∧ Gr w w' := by
 have hok : DevOk d := by obtain ⟨M, mb, h⟩ := h; exact h.ok
 have HBL := Lib.hid (fun i => blkK_len hok l i)
 have HD := Lib.hid h
 have HN := Lib.hid hn
 clear h hn hok
 go_enter Tryz.func38, Tryz.ntmps38
 go_wp2
 obtain ⟨W5, hW5⟩ : ∃ W5, W5 = ((w.alloc (.cells #[.pointer (some ⟨D, 0, none⟩)] 22)).alloc (.cells #[.int .u64 l] 28)).alloc (.cells #[.func (.func 37) #[] #[.pointer (some C1), .pointer (some C2), .pointer (some C3)]] 91) := ⟨_, rfl⟩
 have k2 : BlockAt W5 w.heap.size #[.pointer (some ⟨D, 0, none⟩)] 22 := by rw [hW5]; infer_instance
 have k3 : BlockAt W5 (w.heap.size + 1) #[.int .u64 l] 28 := by rw [hW5]; infer_instance
 have k4 : BlockAt W5 (w.heap.size + 1 + 1) #[.func (.func 37) #[] #[.pointer (some C1), .pointer (some C2), .pointer (some C3)]] 91 := by rw [hW5]; infer_instance
 have g5 : Gr w W5 := by rw [hW5]; exact gri
 rw [← hW5]
 clear hW5
 have x1 : W5.cell? ⟨w.heap.size + 1 + 1, 0, none⟩ = some (.func (.func 37) #[] #[.pointer (some C1), .pointer (some C2), .pointer (some C3)]) := (@block_cells _ _ 0 _ _ k4).trans rfl
 obtain ⟨P1, hP1⟩ : ∃ P, P = w.heap.size + 1 + 1 := ⟨_, rfl⟩
 obtain ⟨P3, hP3⟩ : ∃ P, P = w.heap.size + 1 := ⟨_, rfl⟩
 obtain ⟨P2, hP2⟩ : ∃ P, P = w.heap.size := ⟨_, rfl⟩
 rw [← hP1] at k4 x1 ⊢
 rw [← hP3] at k3 ⊢
 rw [← hP2] at k2
 have HNX := Lib.hid (fun W (hW : Gr W5 W) (i : Int) => @next_any base D P1 P2 P3 C1 C2 C3 d l i (need i) W (HD.out.gr (g5.trans hW)) (k2.gr hW) (k3.gr hW) ((hW.below.cell (p := ⟨P1, 0, none⟩) k4.lt).trans x1) (fun W' hW' => HN.out W' i (g5.trans (hW.trans hW'))))
 have HB := Lib.hid (fun W (hW : Gr W5 W) (i : Int) => block_any base D d l i W (HD.out.gr (g5.trans hW)))
 have y2 : W5.cell? ⟨P2, 0, none⟩ = some (.pointer (some ⟨D, 0, none⟩)) := (@block_cells _ _ 0 _ _ k2).trans rfl
 have y3 : W5.cell? ⟨P3, 0, none⟩ = some (.int .u64 l) := (@block_cells _ _ 0 _ _ k3).trans rfl
 haveI := k2.old
 haveI := k3.old
 haveI := k4.old
 have HG5 := Lib.hid g5
 have HP2 := Lib.hid hP2
 have HW5 := Lib.hid g5.below.size
 simp only [hP2.symm] at y2 ⊢
 clear g5 k2 k3 k4 x1 hP1 hP3 hP2
 go_loopw [10, 12] (fun v10 v12 wr => ∃ (b : Nat) (zs : List OpC), b ≤ N ∧ v12 = .int .i64 (b : Int) ∧ OwnN opE W5.heap.size wr v10 zs ∧ AtRun d l r need N b (zs.map (·.o)) ∧ (∀ z ∈ zs, OpOwn W5.heap.size wr z) ∧ zs.length ≤ b ∧ Gr W5 wr) (fun _ i _ => N - (intOf i).toNat)
 case atStart => exact ⟨0, [], Nat.zero_le _, rfl, OwnN.nil _ _, atRun_start d l r need N, by simp, Nat.zero_le _, gri⟩
 case round =>
  obtain ⟨b, zs, hbN, rfl, ho, hat, hz, hzl, hg⟩ := hrel
  haveI := grc_of hg
  haveI := from_of hg
  have HG := Lib.hid hg
  have HO := Lib.hid ho
  have HAT := Lib.hid hat
  have HZ := Lib.hid hz
  obtain ⟨wo, rfl⟩ : ∃ wo : World, wo = wr := ⟨_, rfl⟩
  have z2 : wo.cell? ⟨P2, 0, none⟩ = some (.pointer (some ⟨D, 0, none⟩)) := (hg.below.cell (p := ⟨P2, 0, none⟩) Old.lt).trans y2
  have z3 : wo.cell? ⟨P3, 0, none⟩ = some (.int .u64 l) := (hg.below.cell (p := ⟨P3, 0, none⟩) Old.lt).trans y3
  clear hg ho hat hz
  by_cases hlt : b < N
  ·have hR0 := runIs_start d l need hlt
   obtain ⟨k, hk⟩ : ∃ k, k = nextK d l need (b : Int) := ⟨_, rfl⟩
   have HNB := Lib.hid (fun W (hW : Gr wo W) => HNX.out W (HG.out.trans hW) (b : Int))
   change Hid (∀ W, Gr wo W → Calls _ _ _ W fun e w' => e = .returned (.int .i64 (nextK d l need (b : Int))) ∧ Gr W w') at HNB
   rw [← hk] at HNB hR0
   have HR0 := Lib.hid hR0
   have HK := Lib.hid hk
   clear hR0 hk
   go_upto_block 2 with ((go_at_call 68; ((with_reducible refine (HNB.out _ gri).mono ?_); rintro _ _ ⟨rfl, g1, rfl⟩)))
   go_cut [14] from 20 to 104 (fun v14 wx => ∃ n : Nat, v14 = .int .i64 (n : Int) ∧ RunIs d l need N k b n ∧ (b + n < N → nextK d l need ((b + n : Nat) : Int) ≠ k ∨ (k = 5 ∧ n = 8)) ∧ Gr wo wx)
   case first =>
    clear HO HAT HZ hzl
    go_wp2_with fail
    go_loopw [14] (fun v14 wr => ∃ n : Nat, v14 = .int .i64 (n : Int) ∧ RunIs d l need N k b n ∧ Gr wo wr) (fun v _ => N - (intOf v).toNat)
    case atStart => exact ⟨1, rfl, HR0.out, gri⟩
    case round =>
     obtain ⟨n, rfl, hr, hg2⟩ := hrel
     haveI := grc_of hg2
     haveI := from_of hg2
     have HG2 := Lib.hid hg2
     have HR := Lib.hid hr
     have hn1 := hr.one
     have hn2 := hr.most
     clear hr hg2
     by_cases hbn : b + n < N
     ·have HNB2 := Lib.hid (fun W (hW : Gr wr W) => HNX.out W (HG.out.trans (HG2.out.trans hW)) ((b : Int) + (n : Int)))
      change Hid (∀ W, Gr wr W → Calls _ _ _ W fun e w' => e = .returned (.int .i64 (nextK d l need ((b : Int) + (n : Int)))) ∧ Gr W w') at HNB2
      have hbn2 : (b : Int) + (n : Int) < (N : Int) := by omega
      have e9 : ((b + n : Nat) : Int) = (b : Int) + (n : Int) := by omega
      have HE9 := Lib.hid e9
      obtain ⟨k9, hk9⟩ : ∃ k9, k9 = nextK d l need ((b : Int) + (n : Int)) := ⟨_, rfl⟩
      rw [← hk9] at HNB2
      have HK9 := Lib.hid hk9
      clear e9 hk9
      by_cases hkk : k9 = k
      ·subst hkk
       have hq1 : (k9 == k9) = true := by simp
       by_cases h5 : k9 = 5
       ·have hq2 : (k9 != 5) = false := by simp [h5]
        have HK5 := Lib.hid h5
        by_cases h8 : n < 8
        ·have h8i : (n : Int) < 8 := by omega
         have HR2 := Lib.hid (HR.out.more d l need hbn (by rw [HE9.out]; exact HK9.out.symm) (fun _ => h8))
         clear h5
         go_wp2_with ((go_at_call 68; ((with_reducible refine (HNB2.out _ gri).mono ?_); rintro _ _ ⟨rfl, g2, rfl⟩)))
         go_roundw
         case rel => exact ⟨n + 1, by go_num, HR2.out, gri⟩
         case measure => simp [intOf]; omega
        ·have h8i : ¬ (n : Int) < 8 := by omega
         have HX := Lib.hid (show n = 8 from by have := HR.out.eight h5; omega)
         clear h5
         go_wp2_with ((go_at_call 68; ((with_reducible refine (HNB2.out _ gri).mono ?_); rintro _ _ ⟨rfl, g2, rfl⟩)))
         go_meet
         case rel => exact ⟨n, rfl, HR.out, fun _ => .inr ⟨HK5.out, HX.out⟩, gri⟩
       ·have hq2 : (k9 != 5) = true := by simp [h5]
        have HR2 := Lib.hid (HR.out.more d l need hbn (by rw [HE9.out]; exact HK9.out.symm) (fun e => absurd e h5))
        clear h5
        go_wp2_with ((go_at_call 68; ((with_reducible refine (HNB2.out _ gri).mono ?_); rintro _ _ ⟨rfl, g2, rfl⟩)))
        go_roundw
        case rel => exact ⟨n + 1, by go_num, HR2.out, gri⟩
        case measure => simp [intOf]; omega
      ·have hq1 : (k9 == k) = false := by simp [hkk]
       have HX := Lib.hid hkk
       clear hkk
       go_wp2_with ((go_at_call 68; ((with_reducible refine (HNB2.out _ gri).mono ?_); rintro _ _ ⟨rfl, g2, rfl⟩)))
       go_meet
       case rel => exact ⟨n, rfl, HR.out, fun _ => .inl (by rw [HE9.out, ← HK9.out]; exact HX.out), gri⟩
     ·have hbn2 : ¬ (b : Int) + (n : Int) < (N : Int) := by omega
      go_wp2_with fail
      go_meet
      case rel => exact ⟨n, rfl, HR.out, fun h => absurd h hbn, gri⟩
   case rest =>
    obtain ⟨n, rfl, hr, hx, hg2⟩ := hcut
    have HAT2 := Lib.hid (atRun_next d l r need HBL.out HK.out.symm HAT.out hr hx)
    have HR2 := Lib.hid hr
    have hn1 := hr.one
    have hn2 := hr.most
    have hk4 : k = 0 ∨ k = 5 ∨ k = 6 ∨ k = 7 := by
     have h9 := HK.out
     unfold nextK at h9
     split at h9
     ·exact .inl h9
     ·split at h9
      ·exact .inr (.inr (.inr h9))
      ·split at h9
       ·exact .inr (.inr (.inl h9))
       ·exact .inr (.inl h9)
    haveI := grc_of hg2
    haveI := from_of hg2
    haveI := grc_of (HG.out.trans hg2)
    haveI := from_of (HG.out.trans hg2)
    have HG2 := Lib.hid hg2
    clear hg2 hr hx HNB HR0
    rcases hk4 with rfl | rfl | rfl | rfl
    ·have HAT2 := Lib.hid (show AtRun d l r need N (b + n) (zs.map (·.o)) from HAT2.out)
     go_wp2
     go_roundw
     case rel => exact ⟨b + n, zs, HR2.out.most, by go_num, HO.out.gr gri, HAT2.out, fun z hz => (HZ.out z hz).gr gri, by omega, HG.out.trans gri⟩
     case measure => simp [intOf]; omega
    ·have HAT2 := Lib.hid (show AtRun d l r need N (b + n) (zs.map (·.o) ++ [⟨5, r, 0, 0, (b : Int) * 4, 0, datN d l b n⟩]) from by rw [Int.mul_comm (b : Int) 4]; exact HAT2.out)
     have HN8 := Lib.hid (HR2.out.eight rfl)
     go_wp2
     go_loopw [64] (fun v64 wr => ∃ (j : Nat) (vA : Option Addr) (vn vc : Nat), j ≤ n ∧ v64 = .int .i64 (j : Int) ∧ OwnN bE wc.heap.size wr (.slice vA vn vc) (datN d l b j) ∧ BlockAt wr wc.heap.size #[.int .i64 5, .int .u64 r, .int .u64 0, .int .i64 0, .int .i64 (b : Int), .int .i64 0, .slice vA vn vc] 43 ∧ Gr wc wr) (fun v _ => n - (intOf v).toNat)
     case atStart => exact ⟨0, none, 0, 0, Nat.zero_le _, rfl, OwnN.nil _ _, inferInstance, gri⟩
     case round =>
      obtain ⟨j, vA, vn, vc, hj, rfl, ho5, hb5, hg5⟩ := hrel
      haveI := grc_of hg5
      haveI := from_of hg5
      haveI := grc_of (HG2.out.trans hg5)
      haveI := from_of (HG2.out.trans hg5)
      haveI := grc_of (HG.out.trans (HG2.out.trans hg5))
      haveI := from_of (HG.out.trans (HG2.out.trans hg5))
      have z5 : wr.cell? ⟨P2, 0, none⟩ = some (.pointer (some ⟨D, 0, none⟩)) := ((HG.out.trans (HG2.out.trans hg5)).below.cell (p := ⟨P2, 0, none⟩) Old.lt).trans y2
      have z6 : wr.cell? ⟨P3, 0, none⟩ = some (.int .u64 l) := ((HG.out.trans (HG2.out.trans hg5)).below.cell (p := ⟨P3, 0, none⟩) Old.lt).trans y3
      haveI : Old P2 wr := old_of_cell z5
      haveI : Old P3 wr := old_of_cell z6
      haveI := hb5
      haveI := hb5.old
      have p0 : wr.cell? ⟨wc.heap.size, 0, none⟩ = some (.int .i64 5) := (@block_cells _ _ 0 _ _ hb5).trans rfl
      have p1 : wr.cell? ⟨wc.heap.size, 1, none⟩ = some (.int .u64 r) := (@block_cells _ _ 1 _ _ hb5).trans rfl
      have p2 : wr.cell? ⟨wc.heap.size, 2, none⟩ = some (.int .u64 0) := (@block_cells _ _ 2 _ _ hb5).trans rfl
      have p3 : wr.cell? ⟨wc.heap.size, 3, none⟩ = some (.int .i64 0) := (@block_cells _ _ 3 _ _ hb5).trans rfl
      have p4 : wr.cell? ⟨wc.heap.size, 4, none⟩ = some (.int .i64 (b : Int)) := (@block_cells _ _ 4 _ _ hb5).trans rfl
      have p5 : wr.cell? ⟨wc.heap.size, 5, none⟩ = some (.int .i64 0) := (@block_cells _ _ 5 _ _ hb5).trans rfl
      have p6 : wr.cell? ⟨wc.heap.size, 6, none⟩ = some (.slice vA vn vc) := (@block_cells _ _ 6 _ _ hb5).trans rfl
      have t4 : wr.frozen? ⟨wc.heap.size, 4, none⟩ = false := @block_frozen _ _ 4 _ _ hb5
      have HO5 := Lib.hid ho5
      have HB5 := Lib.hid hb5
      have HG5w := Lib.hid hg5
      have HDL := Lib.hid (datN_len d l HBL.out b j)
      clear ho5 hg5
      by_cases hjn : j < n
      ·have e9 : ((b + j : Nat) : Int) = (b : Int) + (j : Int) := by omega
       have HS5 := Lib.hid (datN_succ d l b j)
       rw [e9] at HS5
       have HBJ := Lib.hid (fun W (hW : Gr wr W) => HB.out W (HG.out.trans (HG2.out.trans (HG5w.out.trans hW))) ((b : Int) + (j : Int)))
       have hYl := HBL.out ((b : Int) + (j : Int))
       haveI := bkC_row hYl
       obtain ⟨Y, hY⟩ : ∃ Y, Y = (blkK d l ((b : Int) + (j : Int))).getD zB := ⟨_, rfl⟩
       obtain ⟨yi, hyi⟩ : ∃ yi, yi = (blkK d l ((b : Int) + (j : Int))).isSome := ⟨_, rfl⟩
       simp only [← hY, ← hyi] at HBJ HS5 hYl
       haveI := bkC_row hYl
       have HYL := Lib.hid hYl
       clear hY hyi hYl e9
       go_wp2_with (first | (go_at_call 41; ((with_reducible refine (HBJ.out _ gri).mono ?_); rintro _ _ ⟨rfl, g3, rfl⟩)) | (refine wpStoreB rfl _ _ rfl _ _ _ rfl rfl inferInstance inferInstance inferInstance ?_))
       obtain ⟨W7, hW7⟩ : ∃ W7, W7 = ((grown wr g3).alloc (.cells Tryz.zeroCells88 88)).setRow (grown wr g3).heap.size (bkC Y) := ⟨_, rfl⟩
       have bB : BlockAt W7 (grown wr g3).heap.size (bkC Y) 88 := by rw [hW7]; infer_instance
       have b7 : BlockAt W7 wc.heap.size #[.int .i64 5, .int .u64 r, .int .u64 0, .int .i64 0, .int .i64 (b : Int), .int .i64 0, .slice vA vn vc] 43 := by rw [hW7]; infer_instance
       have g7 : Gr wr W7 := by rw [hW7]; exact gri
       try simp only [← hW7]
       clear hW7
       haveI := grc_of g7
       haveI := from_of g7
       haveI := bB
       haveI := b7
       haveI := bB.old
       haveI := b7.old
       have q6 : W7.cell? ⟨wc.heap.size, 6, none⟩ = some (.slice vA vn vc) := (@block_cells _ _ 6 _ _ b7).trans rfl
       have hbw : wc.heap.size ≤ W7.heap.size := Nat.le_trans HG5w.out.below.size g7.below.size
       have HG7 := Lib.hid g7
       have HB7 := Lib.hid b7
       have HBW := Lib.hid hbw
       clear g7 hbw p0 p1 p2 p3 p4 p5 p6 t4
       refine wp_region_treeH ⟨fun w' => Gr W7 w', true, fun _ _ h => h, fun _ _ _ h g => h.trans g⟩ rfl (Gr.of ((Below.refl _ _).drew)) [0, 1, 2, 3] 4 5 (by kernel_rfl) (by kernel_rfl) ?_
       simp only [pick, List.drop, List.take, List.nil_append, List.cons_append]
       refine wpCalm_step (fun K hK => ?_); go_simp; refine hK _ ?_; clear hK K
       refine wpCalm_step (fun K hK => ?_); go_simp; refine hK _ ?_; clear hK K
       refine wpCalm_load rfl rfl rfl bB Tryz.underlying88 rfl (by rw [bkC_size, HYL.out]; exact infoBlk) ?_
       simp only [Act.put, List.setIfInBounds_toArray, List.set]
       repeat (refine wpCalm_step (fun K hK => ?_); go_simp; first | (refine hK _ ?_; clear hK K) | (apply Exists.intro; refine ⟨fun _ => ?_, hK _ ?_⟩; (skip); clear hK K))
       refine wpCalm_nil ?_
       refine fg_one 4 (by kernel_rfl) ?_
       refine fg_effD rfl rfl rfl (fun w1 hw1 => effAt_call' 69 #[.agg (bkC Y), .agg #[.int .i64 0, .int .i64 0, .int .i64 4]] (by go_simp) ((cut_all Y HYL.out w1).mono fun e w2 hc => ?_))
       obtain ⟨v1, rfl, ho1, hg1⟩ := hc
       obtain ⟨A1, c1', rfl, hl1, hm1, hr1⟩ := ho1.form bIs
       have hnn : A1 = none → c1' = 0 := fun e => by
        subst e
        rcases ho1.own.2 with ⟨e, _⟩ | ⟨b, cap, cur, e, _⟩
        ·simp only [Value.slice.injEq] at e; exact e.2.2
        ·simp only [Value.slice.injEq] at e; cases e.1
       refine ⟨_, rfl, ⟨fun w2 => Gr W7 w2 ∧ RowN bE w2 A1 Y, true, fun _ _ h => h.1, fun _ _ _ h g => ⟨h.1.trans g, h.2.gr g⟩⟩, ⟨Gr.trans hw1 hg1, hr1⟩, fun _ _ => rfl, ?_⟩
       have HNN := Lib.hid hnn
       clear ho1 hg1 hw1 hr1 hl1 hm1 w2 w1 hnn
       simp only [Act.put, List.setIfInBounds_toArray, List.set]
       refine fg_one 5 (by kernel_rfl) ?_
       refine fg_effD rfl rfl rfl (fun w1 hw1 => effAt_append_x bIs _ _ rfl rfl (HO5.out.gr (Gr.trans HG7.out hw1.1)) A1 Y Y.length c1' rfl rfl HNN.out hw1.2 (by have := HDL.out; have := HYL.out; have := HN8.out; omega) (Nat.le_trans HBW.out (Gr.below hw1.1).size) ?_)
       intro v2 W2 h2
       have ho2 := h2.own
       obtain ⟨A2, c2', rfl, -, -, -⟩ := ho2.form bIs
       obtain ⟨n2, hn2⟩ : ∃ n2, n2 = (datN d l b j ++ Y).length := ⟨_, rfl⟩
       rw [← hn2] at ho2 ⊢
       rw [← HS5.out] at ho2
       have gw1 : Gr wr w1 := Gr.trans HG7.out hw1.1
       refine ⟨⟨fun w2 => OwnN bE wc.heap.size w2 (.slice A2 n2 c2') (datN d l b (j + 1)) ∧ BlockAt w2 wc.heap.size #[.int .i64 5, .int .u64 r, .int .u64 0, .int .i64 0, .int .i64 (b : Int), .int .i64 0, .slice vA vn vc] 43 ∧ Gr wc w2, false, fun e => Bool.noConfusion e, fun e => Bool.noConfusion e⟩, ⟨ho2, h2.keep _ _ _ (HB5.out.gr gw1) (by decide), Gr.trans_below (HG5w.out.trans gw1) h2.below⟩, fun e => absurd rfl e, ?_⟩
       clear ho2 h2 gw1 hw1 hn2 W2 w1
       simp only [Act.put, List.setIfInBounds_toArray, List.set]
       refine fg_one 6 (by kernel_rfl) ?_
       refine fg_pure (.pointer (some ⟨wc.heap.size, 6, none⟩)) rfl rfl rfl (fun w => by go_simp) ?_
       simp only [Act.put, List.setIfInBounds_toArray, List.set]
       refine fg_one 7 (by kernel_rfl) ?_
       refine fg_effN rfl rfl rfl (fun w1 hw1 => ?_)
       obtain ⟨ho9, m8, mg⟩ := hw1
       have t0 : w1.cell? ⟨wc.heap.size, 6, none⟩ = some (.slice vA vn vc) := (@block_cells _ _ 6 _ _ m8).trans rfl
       have t1 : w1.frozen? ⟨wc.heap.size, 6, none⟩ = false := @block_frozen _ _ 6 _ _ m8
       haveI oA0 : Old wc.heap.size w1 := m8.old
       have hrun : (storeVar 41 ⟨wc.heap.size, 6, none⟩ (.slice A2 n2 c2')).run Tryz.prog w1 = .ok () (w1.setCell ⟨wc.heap.size, 6, none⟩ (.slice A2 n2 c2')) := by go_simp
       refine effAt_storeG rfl rfl rfl hrun ⟨⟨fun w2 => OwnN bE wc.heap.size w2 (.slice A2 n2 c2') (datN d l b (j + 1)) ∧ BlockAt w2 wc.heap.size #[.int .i64 5, .int .u64 r, .int .u64 0, .int .i64 0, .int .i64 (b : Int), .int .i64 0, .slice A2 n2 c2'] 43 ∧ Gr wc w2, false, fun e => Bool.noConfusion e, fun e => Bool.noConfusion e⟩, ⟨ho9.set_ wc.heap.size 6 _ (by decide), ?h8, Gr.of (mg.below.setCell (p := ⟨wc.heap.size, 6, none⟩) (by show wc.heap.size ≤ wc.heap.size; omega) _)⟩, fun _ e => Bool.noConfusion e, ?_⟩
       case h8 =>
        show BlockAt _ wc.heap.size (#[.int .i64 5, .int .u64 r, .int .u64 0, .int .i64 0, .int .i64 (b : Int), .int .i64 0, .slice vA vn vc].setIfInBounds 6 (.slice A2 n2 c2')) _
        infer_instance
       clear ho9 m8 mg t0 t1 hrun oA0 w1
       refine fg_end (by kernel_rfl) (fun w5 hw5 => ?_)
       have HFIN := Lib.hid hw5
       clear hw5
       try simp only [Act.put]
       go_wp2
       go_roundw
       case rel => exact ⟨j + 1, A2, n2, c2', by omega, by go_num, HFIN.out.1, HFIN.out.2.1, HFIN.out.2.2⟩
       case measure => simp [intOf]; omega
      ·obtain rfl : j = n := by omega
       go_wp2_with (first | (at_builtin; refine wp_append_n opIs rfl _ _ rfl rfl (HO.out.gr gri) _ 0 [(⟨⟨5, r, 0, 0, (b : Int) * 4, 0, datN d l b j⟩, vA, vn, vc⟩ : OpC)] 1 1 rfl rfl (fun _ _ => trivial) (CellsN.block _ inferInstance rfl) (by simp; omega) past (by simp) ?_; intro v1 W1 h1; have H1 := Lib.hid h1; clear h1))
       go_roundw
       case rel => exact ⟨b + j, zs ++ [⟨⟨5, r, 0, 0, (b : Int) * 4, 0, datN d l b j⟩, vA, vn, vc⟩], HR2.out.most, by go_num, H1.out.own, by rw [List.map_append]; exact HAT2.out, fun z hz => (by
        rcases List.mem_append.1 hz with hz | hz
        ·exact ((HZ.out z hz).gr gri).keepA H1.out
        ·rw [List.mem_singleton] at hz; subst hz; exact ⟨(OwnN.keepY ((HO5.out.set_ wc.heap.size 4 (.int .i64 ((b : Int) * 4)) (by decide)).gr gri) H1.out (by decide)).more past⟩), by rw [List.length_append, List.length_singleton]; have := HR2.out.one; omega, by haveI := H1.out.grc W5 (Nat.le_refl _); exact gri⟩
       case measure => simp [intOf]; omega
    ·have HAT2 := Lib.hid (show AtRun d l r need N (b + n) (zs.map (·.o) ++ [⟨6, r, 0, 0, (b : Int) * 4, (n : Int) * 4, []⟩]) from by rw [Int.mul_comm (b : Int) 4, Int.mul_comm (n : Int) 4]; exact HAT2.out)
     go_wp2_with (first | (at_builtin; refine wp_append_n opIs rfl _ _ rfl rfl (HO.out.gr gri) _ 0 [(⟨⟨6, r, 0, 0, (b : Int) * 4, (n : Int) * 4, []⟩, none, 0, 0⟩ : OpC)] 1 1 rfl rfl (fun _ _ => trivial) (CellsN.block _ inferInstance rfl) (by simp; omega) past (by simp) ?_; intro v1 W1 h1; have H1 := Lib.hid h1; clear h1))
     go_roundw
     case rel => exact ⟨b + n, zs ++ [⟨⟨6, r, 0, 0, (b : Int) * 4, (n : Int) * 4, []⟩, none, 0, 0⟩], HR2.out.most, by go_num, H1.out.own, by rw [List.map_append]; exact HAT2.out, fun z hz => (by
      rcases List.mem_append.1 hz with hz | hz
      ·exact ((HZ.out z hz).gr gri).keepA H1.out
      ·rw [List.mem_singleton] at hz; subst hz; exact ⟨OwnN.nil _ _⟩), by rw [List.length_append, List.length_singleton]; have := HR2.out.one; omega, by haveI := H1.out.grc W5 (Nat.le_refl _); exact gri⟩
     case measure => simp [intOf]; omega
    ·have HAT2 := Lib.hid (show AtRun d l r need N (b + n) (zs.map (·.o) ++ [⟨7, r, 0, 0, (b : Int), (n : Int), []⟩]) from HAT2.out)
     go_wp2_with (first | (at_builtin; refine wp_append_n opIs rfl _ _ rfl rfl (HO.out.gr gri) _ 0 [(⟨⟨7, r, 0, 0, (b : Int), (n : Int), []⟩, none, 0, 0⟩ : OpC)] 1 1 rfl rfl (fun _ _ => trivial) (CellsN.block _ inferInstance rfl) (by simp; omega) past (by simp) ?_; intro v1 W1 h1; have H1 := Lib.hid h1; clear h1))
     go_roundw
     case rel => exact ⟨b + n, zs ++ [⟨⟨7, r, 0, 0, (b : Int), (n : Int), []⟩, none, 0, 0⟩], HR2.out.most, by go_num, H1.out.own, by rw [List.map_append]; exact HAT2.out, fun z hz => (by
      rcases List.mem_append.1 hz with hz | hz
      ·exact ((HZ.out z hz).gr gri).keepA H1.out
      ·rw [List.mem_singleton] at hz; subst hz; exact ⟨OwnN.nil _ _⟩), by rw [List.length_append, List.length_singleton]; have := HR2.out.one; omega, by haveI := H1.out.grc W5 (Nat.le_refl _); exact gri⟩
     case measure => simp [intOf]; omega
  ·have : b = N := by omega
   subst this
   have HFN := Lib.hid (atRun_end d l r need HAT.out)
   go_wp2
   go_ret
   exact ⟨_, zs, rfl, (HO.out.gr gri).more HW5.out, HFN.out.symm, fun z hz => ⟨((HZ.out z hz).own.gr gri).more HW5.out⟩, HG5.out.trans (HG.out.trans gri)⟩
theorem i64_cells {base : Nat} {W : World} {v : Value} {xs : List Int} (h : OwnN i64E base W v xs) (hne : xs ≠ []) : ∃ g c, v = .slice (some ⟨g, 0, none⟩) xs.length c ∧ base ≤ g ∧ g < W.heap.size ∧ xs.length ≤ c ∧ (∀ (j : Nat) x, xs[j]? = some x → W.cell? ⟨g, j, none⟩ = some (.int .i64 x)) := by
 obtain ⟨g, c, hv, hb, hg, hc, _, hcl, _⟩ := h.cells i64Is hne
 refine ⟨g, c, hv, hb, hg, hc, fun j x hx => ?_⟩
 have := hcl j x hx 0 _ rfl
 rw [Nat.zero_add] at this
 have e : j * i64E.k + 0 = j := Nat.mul_one j
 rw [e] at this
 exact this
theorem sizeK_le {d : Dev} (h : DevOk d) (v : Int) : 0 ≤ sizeK d v ∧ sizeK d v ≤ 256 := by
 unfold sizeK
 cases hv : getK d v with
 | none => exact ⟨by simp, by simp⟩
 | some x => have h1 := h.vols _ ((getK_mem h.sort).1 hv); exact ⟨h1.s0, h1.s1⟩
theorem rows1_any (base D P1 P2 P3 : Nat) (d : Dev) (l r : Int) (b : Nat) (w : World) (h : DevAt base w D d) [h1 : BlockAt w P1 #[.pointer (some ⟨D, 0, none⟩)] 22] [h2 : BlockAt w P2 #[.int .u64 l] 28] [h3 : BlockAt w P3 #[.int .u64 r] 28] :
  Calls Tryz.prog 27 #[.int .i64 b, .pointer (some ⟨P1, 0, none⟩), .pointer (some ⟨P2, 0, none⟩), .pointer (some ⟨P3, 0, none⟩)] w fun e w' => e = .returned (.int .i64 (kindK d l r b)) ∧ Gr w w' := by
 have x1 : w.cell? ⟨P1, 0, none⟩ = some (.pointer (some ⟨D, 0, none⟩)) := (@block_cells _ _ 0 _ _ h1).trans rfl
 have x2 : w.cell? ⟨P2, 0, none⟩ = some (.int .u64 l) := (@block_cells _ _ 0 _ _ h2).trans rfl
 have x3 : w.cell? ⟨P3, 0, none⟩ = some (.int .u64 r) := (@block_cells _ _ 0 _ _ h3).trans rfl
 haveI := h1.old
 haveI := h2.old
 haveI := h3.old
 have HD := Lib.hid h
 clear h
 go_enter Tryz.func27, Tryz.ntmps27
 go_wp2_with ((go_at_call 28; ((with_reducible refine (kind_any base D d l r b _ (HD.out.gr gri)).mono ?_); rintro _ _ ⟨rfl, g1, rfl⟩)))
 go_ret
 exact ⟨rfl, gri⟩
theorem rowB {W : World} {B : Nat} {t : TypeId} {cs : Array Value} (xs : List Int) (h : BlockAt W B cs t) (hc : cs.toList = xs.map u64v) : ∀ (j : Nat) x, xs[j]? = some x → W.cell? ⟨B, 0 + j, none⟩ = some (.int .u64 x) := by
 intro j x hx
 rw [Nat.zero_add, @block_cells W B j cs t h, ← Array.getElem?_toList, hc, List.getElem?_map, hx]
 rfl
def RwPost (d : Dev) (l r : Int) (w : World) (e : Ending) (w' : World) : Prop :=
 ∃ v, e = .returned (.tuple #[v, .int .i64 (chkK d [l, r])]) ∧ OwnN strE w.heap.size w' v (rowsK d l r) ∧ Gr w w'
set_option maxRecDepth 100000 in
set_option maxHeartbeats 2000000 in
theorem rows_any (base D : Nat) (d : Dev) (l r : Int) (w : World) (h : DevAt base w D d) : Calls Tryz.prog 6 #[.pointer (some ⟨D, 0, none⟩), .int .u64 l, .int .u64 r] w (RwPost d l r w) := by
 have HD := Lib.hid h
 have hok : DevOk d := by obtain ⟨M, mb, h⟩ := h; exact h.ok
 clear h
 go_enter Tryz.func6, Tryz.ntmps6
 go_wp2_with (first | (go_at_call 25; ((with_reducible refine (sizes_any base D d [l, r] _ 0 2 2 _ (HD.out.gr gri) rfl (by omega) (BlockAt.lt inferInstance) (by omega) (rowB [l, r] (cs := #[.int .u64 l, .int .u64 r]) inferInstance rfl)).mono ?_))))
 rintro _ W1 ⟨v1, rfl, hv1, ⟨g1, rfl⟩⟩
 by_cases hc : chkK d [l, r] = 0
 ·rw [if_pos hc] at hv1
  rw [hc]
  obtain ⟨g, c, rfl, hbg, hgl, hcc, hcl⟩ := i64_cells hv1 (by simp)
  have c0 := hcl 0 _ rfl
  have c1 := hcl 1 _ rfl
  haveI : Old g _ := ⟨hgl⟩
  have s1 := sizeK_le hok l
  have s2 := sizeK_le hok r
  obtain ⟨a, ha⟩ : ∃ a : Nat, sizeK d l = a := ⟨(sizeK d l).toNat, by omega⟩
  obtain ⟨b, hb⟩ : ∃ b : Nat, sizeK d r = b := ⟨(sizeK d r).toNat, by omega⟩
  have hR : rowsK d l r = strK (fun b => kindK d l r b) (max a b) := by
   unfold rowsK maxK
   rw [if_pos hc, ha, hb]
   simp
  rw [ha] at c0 s1
  rw [hb] at c1 s2
  have HR := Lib.hid hR
  have HC := Lib.hid hc
  have HB : max a b ≤ 100000 := by omega
  have hmax : (if a < b then (b : Int) else (a : Int)) = ((max a b : Nat) : Int) := by split <;> omega
  have HM := Lib.hid hmax
  clear hv1 hcl hc hok ha hb hR hmax s1 s2
  generalize hW2 : grown _ g1 = W2 at *
  haveI i1 : BlockAt W2 w.heap.size #[.pointer (some ⟨D, 0, none⟩)] 22 := by rw [← hW2]; infer_instance
  haveI i2 : BlockAt W2 (w.heap.size + 1) #[.int .u64 l] 28 := by rw [← hW2]; infer_instance
  haveI i3 : BlockAt W2 (w.heap.size + 1 + 1) #[.int .u64 r] 28 := by rw [← hW2]; infer_instance
  haveI i4 : GrC w W2 := by rw [← hW2]; infer_instance
  haveI i5 : From w W2 := by rw [← hW2]; infer_instance
  clear hW2
  go_wp2
  refine wp_region_grow_tail 8 (by kernel_rfl) (by kernel_rfl) ?_
  simp only [List.take_succ_cons, List.take_zero, List.drop_succ_cons, List.drop_zero]
  repeat (go_big_quiet_step (fail))
  refine wpQuiet_nil ?_
  intro g2
  rw [HM.out]
  go_wp2_with ((go_at_call 26; ((with_reducible refine (stretches_any (fun b => kindK d l r b) (max a b) HB _ _ _ _ ?_).mono ?_))))
  ·intro W hW b hb
   haveI := i1.gr (Gr.trans gri hW)
   haveI := i2.gr (Gr.trans gri hW)
   haveI := i3.gr (Gr.trans gri hW)
   exact rows1_any base D _ _ _ d l r b W (HD.out.gr (Gr.trans gri hW))
  ·rintro _ W3 ⟨v3, rfl, hv3, g3⟩
   haveI i6 := grc_of g3
   have HV := Lib.hid hv3
   have HG := Lib.hid g3
   clear hv3 g3
   go_wp2
   go_ret2
   exact ⟨_, by rw [HC.out]; rfl, by rw [HR.out]; exact HV.out.more (by exact (inferInstance : From w (grown W2 g2)).le), Gr.trans gri HG.out⟩
 ·rw [if_neg hc] at hv1
  subst hv1
  have hne : (chkK d [l, r] != 0) = true := by simpa using hc
  have hR : rowsK d l r = [] := by rw [rowsK, if_neg hc]
  have HR := Lib.hid hR
  clear hc hR hok
  go_wp2
  go_ret2
  exact ⟨_, rfl, by rw [HR.out]; exact OwnN.nil _ _, gri⟩
structure StJ where
 j : World → Prop
 e : World → Prop
section
variable {P : Program} {ops : Array Oper} {md : Region.Mode}
def SameJ (P : Program) (ops : Array Oper) (s : StJ) (o : Oper) (v : Value) (a : Act) : Prop :=
 (Region.wanted o (yielded ops a.tmps) = true ∧ ∀ w, s.j w → EffAt P o a w (fun u w' => u = v ∧ w' = w)) ∨ (Region.wanted o (yielded ops a.tmps) = false ∧ v = undef)
def efJ (P : Program) (ops : Array Oper) (i : Nat) (K : StJ → Act → Prop) (s : StJ) (a : Act) : Prop :=
 ∃ o, ops[i]? = some o ∧ Region.wanted o (yielded ops a.tmps) = true ∧ ∀ w, s.j w → s.e w → EffAt P o a w (fun v w' => ∃ s' : StJ, (s'.j w' ∧ s'.e w') ∧ (∀ x, s'.j x → s.j x) ∧ K s' (a.put o.dst v))
def jOp (P : Program) (ops : Array Oper) (i : Nat) (K : StJ → Act → Prop) (s : StJ) (a : Act) : Prop := (∃ o, ops[i]? = some o ∧ ∃ v, SameJ P ops s o v a ∧ K s (a.put o.dst v)) ∨ efJ P ops i K s a
theorem jOp_mono {i : Nat} {K K' : StJ → Act → Prop} {s : StJ} {a : Act} (h : ∀ s' a, (∀ x, s'.j x → s.j x) → K s' a → K' s' a) (hh : jOp P ops i K s a) : jOp P ops i K' s a :=
 hh.imp (fun ⟨o, ho, v, hv, hk⟩ => ⟨o, ho, v, hv, h _ _ (fun _ h => h) hk⟩) (fun ⟨o, ho, hg, hs⟩ => ⟨o, ho, hg, fun w h1 h2 => effUpon_mono (fun v w' ⟨s', h1, h2, h3⟩ => ⟨s', h1, h2, h _ _ h2 h3⟩) _ (hs w h1 h2)⟩)
def jAny (P : Program) (md : Region.Mode) (ops : Array Oper) (L : StJ → Act → Prop) : Nat → Array Bool → StJ → Act → Prop
 | 0, listed, s, a => Region.ready md ops listed = [] ∧ L s a
 | f + 1, listed, s, a => (Region.ready md ops listed = [] → L s a) ∧ ∀ i ∈ Region.ready md ops listed, jOp P ops i (jAny P md ops L f (listed.setIfInBounds i true)) s a
theorem jAny_any {L : StJ → Act → Prop} {Q' : Exit → Act → World → Prop} (hL : ∀ (s : StJ) a w, s.j w → s.e w → L s a → Q' .normal a w) :
  ∀ (f : Nat) (listed : Array Bool) (s : StJ) (a : Act) (w : World), s.j w → s.e w → jAny P md ops L f listed s a → wpAny P md ops Q' f listed a w
 | 0, listed, s, a, w, hj, he, h => ⟨h.1, hL _ _ _ hj he h.2⟩
 | f + 1, listed, s, a, w, hj, he, h => by
  refine ⟨fun h0 => hL _ _ _ hj he (h.1 h0), fun i hi => ?_⟩
  unfold wpOp
  rcases h.2 i hi with ⟨o, ho, v, hv, hk⟩ | ⟨o, ho, hg, hs⟩
  ·simp only [ho]
   rcases hv with ⟨hw1, hc⟩ | ⟨hw1, rfl⟩
   ·simp only [hw1, if_true]
    refine .inl ?_
    have h3 := hc w hj
    unfold EffAt at h3
    unfold Oper.wp
    generalize (execOp a.eval o).run P w = r at *
    cases r with
    | ok nx w' =>
     cases nx <;> simp only [effUpon] at h3 <;> simp only [Oper.upon]
     case value u => obtain ⟨e1, e2⟩ := h3; rw [e1, e2]; exact jAny_any hL f _ _ _ _ hj he hk
     case skip => obtain ⟨e1, e2⟩ := h3; rw [e1, e2]; exact jAny_any hL f _ _ _ _ hj he hk
     case enter f' args => exact h3.mono fun e w'' ⟨v', he', e1, e2⟩ => by subst he'; rw [e1, e2]; exact jAny_any hL f _ _ _ _ hj he hk
    | halt x w' => simp only [effUpon] at h3
   ·simp only [hw1, Bool.false_eq_true, if_false]; exact jAny_any hL f _ _ _ _ hj he hk
  ·simp only [ho, hg, if_true]
   refine .inl ?_
   have h3 := hs w hj he
   unfold EffAt at h3
   unfold Oper.wp
   generalize (execOp a.eval o).run P w = r at *
   cases r with
   | ok nx w' =>
    cases nx <;> simp only [effUpon] at h3 <;> simp only [Oper.upon]
    case value u => obtain ⟨s', ⟨hj', he'⟩, _, hk⟩ := h3; exact jAny_any hL f _ _ _ _ hj' he' hk
    case skip => obtain ⟨s', ⟨hj', he'⟩, _, hk⟩ := h3; exact jAny_any hL f _ _ _ _ hj' he' hk
    case enter f' args => exact h3.mono fun e w'' ⟨v, he, s', ⟨hj', he'⟩, _, hk⟩ => by subst he; exact jAny_any hL f _ _ _ _ hj' he' hk
   | halt x w' => simp only [effUpon] at h3
theorem SameJ.put {oi : Oper} {v u : Value} {s : StJ} {a : Act} {d : Option Tmp} (hsi : ∀ cs b, oi.op ≠ .select cs b) (p : ∀ x, d = some x → x ∉ oi.looksAt ops) (h : SameJ P ops s oi v a) : SameJ P ops s oi v (a.put d u) := by
 unfold SameJ EffAt at *
 rw [execOp_put oi hsi a d u p, wanted_put oi a d u p]
 exact h
theorem SameJ.unput {oi : Oper} {v u : Value} {s : StJ} {a : Act} {d : Option Tmp} (hsi : ∀ cs b, oi.op ≠ .select cs b) (p : ∀ x, d = some x → x ∉ oi.looksAt ops) (h : SameJ P ops s oi v (a.put d u)) : SameJ P ops s oi v a := by
 unfold SameJ EffAt at *
 rw [execOp_put oi hsi a d u p, wanted_put oi a d u p] at h
 exact h
theorem SameJ.later {oi : Oper} {v : Value} {s s' : StJ} {a : Act} (hs : ∀ x, s'.j x → s.j x) (h : SameJ P ops s oi v a) : SameJ P ops s' oi v a :=
 h.imp (fun ⟨h1, h2⟩ => ⟨h1, fun w hw => h2 w (hs w hw)⟩) id
theorem jOp_put {j : Nat} {oi oj : Oper} {v : Value} (hj : ops[j]? = some oj) (hap : oi.apart ops oj = true)
  (hsi : ∀ cs b, oi.op ≠ .select cs b) (hsj : ∀ cs b, oj.op ≠ .select cs b) {K : StJ → Act → Prop} {s : StJ} {a : Act}
  (hy : SameJ P ops s oi v a) (h : jOp P ops j K s (a.put oi.dst v)) :
  jOp P ops j (fun s' a' => SameJ P ops s' oi v a' ∧ K s' (a'.put oi.dst v)) s a := by
 obtain ⟨p1, p2, p3⟩ := Oper.apart_spec hap
 rcases h with ⟨o, ho, u, hu, hk⟩ | ⟨o, ho, hg, hs⟩
 ·obtain rfl : o = oj := Option.some.inj (ho.symm.trans hj)
  exact .inl ⟨o, hj, u, hu.unput hsj p1, hy.put hsi p3, by rw [← Act.put_comm a v u p2]; exact hk⟩
 ·obtain rfl : o = oj := Option.some.inj (ho.symm.trans hj)
  refine .inr ⟨o, hj, by rw [wanted_put o a oi.dst v p1] at hg; exact hg, fun w h1 h2 => ?_⟩
  have h3 := hs w h1 h2
  unfold EffAt at *
  rw [execOp_put o hsj a oi.dst v p1] at h3
  exact effUpon_mono (fun u w' ⟨s', h1, h2, h4⟩ => ⟨s', h1, h2, (hy.put hsi p3).later h2, by rw [← Act.put_comm a v u p2]; exact h4⟩) _ h3
theorem jAny_first {i : Nat} {oi : Oper} {v : Value} {L : StJ → Act → Prop} (hi : ops[i]? = some oi) (hsel : ∀ (j : Nat) (o : Oper) cs b, ops[j]? = some o → o.op ≠ .select cs b) :
  ∀ (f : Nat) (listed : Array Bool) (s : StJ) (a : Act),
   (∀ j oj, ops[j]? = some oj → j ≠ i → listed.getD j true = false → (∀ e ∈ oj.after, Region.binds md e = true → e.on ≠ i) → oi.apart ops oj = true) →
   i ∈ Region.ready md ops listed → SameJ P ops s oi v a →
   jAny P md ops L f (listed.setIfInBounds i true) s (a.put oi.dst v) → jAny P md ops L (f + 1) listed s a := by
 intro f
 induction f with
 | zero =>
  intro listed s a _ hr hy H
  refine ⟨(fun h => by rw [h] at hr; cases hr), fun j hj => ?_⟩
  by_cases hji : j = i
  ·subst hji; exact .inl ⟨oi, hi, v, hy, H⟩
  ·have := ready_mono hj hji
   rw [H.1] at this
   cases this
 | succ f ih =>
  intro listed s a hfree hr hy H
  have hun := (mem_ready.1 hr).1
  refine ⟨(fun h => by rw [h] at hr; cases hr), fun j hj => ?_⟩
  by_cases hji : j = i
  ·subst hji; exact .inl ⟨oi, hi, v, hy, H⟩
  have h1 := H.2 j (ready_mono hj hji)
  obtain ⟨hjun, oj, hoj, hall⟩ := mem_ready.1 hj
  have hnot : ∀ e ∈ oj.after, Region.binds md e = true → e.on ≠ i := fun e he hb heq => by
   have h1 := hall e he hb
   rw [heq, getD_both hun] at h1
   cases h1
  have h2 := jOp_put hoj (hfree j oj hoj hji hjun hnot) (fun cs b => hsel i oi cs b hi) (fun cs b => hsel j oj cs b hoj) hy h1
  have hfree' : ∀ k ok, ops[k]? = some ok → k ≠ i → (listed.setIfInBounds j true).getD k true = false →
    (∀ e ∈ ok.after, Region.binds md e = true → e.on ≠ i) → oi.apart ops ok = true := fun k ok hk hki hu hno => by
   refine hfree k ok hk hki ?_ hno
   by_cases hjk : j = k
   ·subst hjk; exact hjun
   ·rw [getD_set_ne true hjk] at hu; exact hu
  refine jOp_mono (fun s' a' _ h3 => ih (listed.setIfInBounds j true) s' a' hfree' (ready_mono hr (Ne.symm hji)) h3.1 ?_) h2
  rw [Array.setIfInBounds_comm _ _ hji]
  exact h3.2
end
section
variable {P : Program} {md : Region.Mode} {l : List Oper} {Lq : StJ → Act → Prop}
def pickP (l : List Oper) : List (Bool × Nat) → List (Bool × Oper)
 | [] => []
 | (b, k) :: r => ((l.drop k).take 1).map (fun o => (b, o)) ++ pickP l r
theorem pickP_cons {b : Bool} {k : Nat} {r : List (Bool × Nat)} {o : Oper} (h : l[k]? = some o) : pickP l ((b, k) :: r) = (b, o) :: pickP l r := by
 obtain ⟨h1, rfl⟩ := List.getElem?_eq_some_iff.1 h
 rw [pickP, List.drop_eq_getElem_cons h1]
 rfl
def wpPlan (P : Program) (ops : Array Oper) (Lq : StJ → Act → Prop) : List (Bool × Oper) → StJ → Act → Prop
 | [], s, a => Lq s a
 | (true, o) :: r, s, a => ∃ v, SameJ P ops s o v a ∧ wpPlan P ops Lq r s (a.put o.dst v)
 | (false, o) :: r, s, a => Region.wanted o (yielded ops a.tmps) = true ∧ ∀ w, s.j w → s.e w → EffAt P o a w (fun v w' => ∃ s' : StJ, (s'.j w' ∧ s'.e w') ∧ (∀ x, s'.j x → s.j x) ∧ wpPlan P ops Lq r s' (a.put o.dst v))
def planB (md : Region.Mode) (ops : Array Oper) : List (Bool × Nat) → Array Bool → Bool
 | [], listed => decide (Region.ready md ops listed = [])
 | (true, k) :: r, listed => (Region.ready md ops listed).contains k && Region.free md ops listed k && planB md ops r (listed.setIfInBounds k true)
 | (false, k) :: r, listed => decide (Region.ready md ops listed = [k]) && planB md ops r (listed.setIfInBounds k true)
theorem jAny_plan (hsel : Region.noSelect l.toArray = true) :
  ∀ (plan : List (Bool × Nat)) (listed : Array Bool) (s : StJ) (a : Act), planB md l.toArray plan listed = true → wpPlan P l.toArray Lq (pickP l plan) s a → jAny P md l.toArray Lq plan.length listed s a
 | [], listed, s, a, hB, h => ⟨by simpa [planB] using hB, h⟩
 | (true, k) :: r, listed, s, a, hB, h => by
  simp only [planB, Bool.and_eq_true] at hB
  obtain ⟨⟨hr, hf⟩, hB'⟩ := hB
  have hr' : k ∈ Region.ready md l.toArray listed := by simpa using hr
  obtain ⟨_, o, ho, _⟩ := mem_ready.1 hr'
  have ho' : l[k]? = some o := by simpa using ho
  rw [pickP_cons ho'] at h
  obtain ⟨v, hv, hk⟩ := h
  exact jAny_first ho (Region.noSelect_spec hsel) _ listed s a (Region.free_spec ho hf) hr' hv (jAny_plan hsel r _ _ _ hB' hk)
 | (false, k) :: r, listed, s, a, hB, h => by
  simp only [planB, Bool.and_eq_true, decide_eq_true_eq] at hB
  obtain ⟨hrd, hB'⟩ := hB
  have hr' : k ∈ Region.ready md l.toArray listed := by rw [hrd]; simp
  obtain ⟨_, o, ho, _⟩ := mem_ready.1 hr'
  have ho' : l[k]? = some o := by simpa using ho
  rw [pickP_cons ho'] at h
  refine ⟨(fun h0 => by rw [hrd] at h0; cases h0), fun j hj => ?_⟩
  rw [hrd] at hj
  obtain rfl : j = k := by simpa using hj
  exact .inr ⟨o, ho, h.1, fun w h1 h2 => effUpon_mono (fun v w' ⟨s', h3, h4, h5⟩ => ⟨s', h3, h4, jAny_plan hsel r _ _ _ hB' h5⟩) _ (h.2 w h1 h2)⟩
def treePB (md : Region.Mode) (ops : Array Oper) (plan : List (Bool × Nat)) : Bool :=
 Region.noSelect ops && decide (plan.length = ops.size) && planB md ops plan (Array.replicate ops.size false)
theorem wp_region_plan {id : Nat} {Q : Exit → Act → World → Prop} {a : Act} {w : World} (s : StJ) (hj : s.j w.drew) (he : s.e w.drew) (plan : List (Bool × Nat)) (hm : P.follows .mixedOrders = true) (hB : treePB .any l.toArray plan = true)
  (h : wpPlan P l.toArray (fun s a3 => ∀ w', s.j w' → s.e w' → Q .normal a3 w') (pickP l plan) s a) : (Code.region id l.toArray true).wp P Q a w := by
 simp only [treePB, Bool.and_eq_true, decide_eq_true_eq] at hB
 obtain ⟨⟨hsel, hlen⟩, hp⟩ := hB
 have H := jAny_plan (md := .any) (P := P) hsel plan _ s a hp h
 refine wp_region_any hm ?_
 have := jAny_any (Q' := Q) (fun s a' w' h1 h2 (hL : ∀ w', s.j w' → s.e w' → Q .normal a' w') => hL w' h1 h2) _ _ _ _ _ hj he H
 rw [hlen] at this
 exact this
section
variable {ops : Array Oper} {s : StJ} {a : Act} {o : Oper} {r : List (Bool × Oper)} {L : StJ → Act → Prop}
theorem effAt_of {w w' : World} {R : Value → World → Prop} {v : Value} (h : (execOp a.eval o).run P w = .ok (.value v) w') (hR : R v w') : EffAt P o a w R := by
 unfold EffAt
 rw [h]
 exact hR
theorem p_same (v : Value) {d : Tmp} (hd : o.dst = some d) (hw : Region.wanted o (yielded ops a.tmps) = true) (h : ∀ w, s.j w → (execOp a.eval o).run P w = .ok (.value v) w) (hk : wpPlan P ops L r s (a.put (some d) v)) : wpPlan P ops L ((true, o) :: r) s a :=
 ⟨v, .inl ⟨hw, fun w h1 => effAt_of (h w h1) ⟨rfl, rfl⟩⟩, by rw [hd]; exact hk⟩
theorem p_eff {d : Tmp} (hd : o.dst = some d) (hw : Region.wanted o (yielded ops a.tmps) = true) (h : ∀ w, s.j w → s.e w → EffAt P o a w (fun v w' => ∃ s' : StJ, (s'.j w' ∧ s'.e w') ∧ (∀ x, s'.j x → s.j x) ∧ wpPlan P ops L r s' (a.put (some d) v))) : wpPlan P ops L ((false, o) :: r) s a :=
 ⟨hw, by rw [hd]; exact h⟩
theorem p_eff0 (hd : o.dst = none) (hw : Region.wanted o (yielded ops a.tmps) = true) (h : ∀ w, s.j w → s.e w → EffAt P o a w (fun v w' => ∃ s' : StJ, (s'.j w' ∧ s'.e w') ∧ (∀ x, s'.j x → s.j x) ∧ wpPlan P ops L r s' a)) : wpPlan P ops L ((false, o) :: r) s a :=
 ⟨hw, by rw [hd]; exact h⟩
theorem p_nil (h : L s a) : wpPlan P ops L [] s a := h
end
end
set_option maxRecDepth 100000
set_option maxHeartbeats 4000000
def rszO (l s : Int) : OpM := ⟨3, l, 0, s, 0, 0, []⟩
def patchK (d : Dev) (l r : Int) : List OpM × Int :=
 if chkK d [l, r] = 0 then ((if sizeK d l = sizeK d r then [] else [rszO l (sizeK d r)]) ++ (foldG (genN d r l (needPK d l r)) (sizeK d r).toNat).1, 0) else ([], chkK d [l, r])
def PtQ (x : List OpM × Int) (w : World) (e : Ending) (w' : World) : Prop :=
 ∃ v zs, e = .returned (.tuple #[v, .int .i64 x.2]) ∧ OwnN opE w.heap.size w' v zs ∧ zs.map (·.o) = x.1 ∧ (∀ z ∈ zs, OpOwn w.heap.size w' z) ∧ Gr w w'
structure PatJ (w : World) (D : Nat) (l r : Int) (P1 P2 P3 g c : Nat) (sl sr : Int) (w' : World) : Prop where
 b1 : BlockAt w' P1 #[.pointer (some ⟨D, 0, none⟩)] 22
 b2 : BlockAt w' P2 #[.int .u64 l] 28
 b3 : BlockAt w' P3 #[.int .u64 r] 28
 own : OwnN i64E w.heap.size w' (.slice (some ⟨g, 0, none⟩) 2 c) [sl, sr]
 gr : Gr w w'
theorem PatJ.more {w w1 w2 : World} {D : Nat} {l r : Int} {P1 P2 P3 g c : Nat} {sl sr : Int} (h : PatJ w D l r P1 P2 P3 g c sl sr w1) (k : Gr w1 w2) : PatJ w D l r P1 P2 P3 g c sl sr w2 := ⟨h.b1.gr k, h.b2.gr k, h.b3.gr k, h.own.gr k, h.gr.trans k⟩
theorem PatJ.app {w w1 w2 : World} {D : Nat} {l r : Int} {P1 P2 P3 g c : Nat} {sl sr : Int} {v v' : Value} {xs ys : List OpC} (h : PatJ w D l r P1 P2 P3 g c sl sr w1) (k : AppN opE w.heap.size w1 v xs ys v' w2) : PatJ w D l r P1 P2 P3 g c sl sr w2 :=
 ⟨k.keep _ _ _ h.b1 (by decide), k.keep _ _ _ h.b2 (by decide), k.keep _ _ _ h.b3 (by decide), h.own.keepY k (by decide), Gr.trans_below h.gr k.below⟩
theorem PatJ.cells {w w1 : World} {D : Nat} {l r : Int} {P1 P2 P3 g c : Nat} {sl sr : Int} (h : PatJ w D l r P1 P2 P3 g c sl sr w1) : w1.cell? ⟨g, 0, none⟩ = some (.int .i64 sl) ∧ w1.cell? ⟨g, 1, none⟩ = some (.int .i64 sr) := by
 obtain ⟨g', c', e, _, _, _, hc⟩ := i64_cells h.own (by simp)
 simp only [Value.slice.injEq, Option.some.injEq, Addr.mk.injEq] at e
 obtain ⟨⟨rfl, _⟩, _, _⟩ := e
 exact ⟨hc 0 _ rfl, hc 1 _ rfl⟩
theorem OwnN.rowG9 {α : Type} {e : EK α} (he : e.Is) {base : Nat} {W : World} {v : Value} {xs : List α} (h : OwnN e base W v xs) : ∃ A c, v = .slice A xs.length c ∧ (A = none → c = 0) ∧ xs.length ≤ c ∧ RowN e W A xs := by
 obtain ⟨A, c, rfl, h1, _, h2⟩ := h.form he
 refine ⟨A, c, rfl, fun e => ?_, h1, h2⟩
 subst e
 rcases h.own.2 with ⟨e, _⟩ | ⟨b, cap, cur, e, _⟩
 ·simp only [Value.slice.injEq] at e; exact e.2.2
 ·simp only [Value.slice.injEq] at e; cases e.1
theorem joinK_len9 (l : List OpM) (o : OpM) (f : Bool) : (joinK l o f).length ≤ l.length + 1 := by
 unfold joinK
 split
 ·simp
 ·split
  ·simp
  ·simp
theorem foldG_len9 (g : Nat → Option OpM) (n : Nat) : (foldG g n).1.length ≤ n := by
 induction n with
 | zero => simp [foldG]
 | succ n ih =>
  show (stepG g (foldG g n) n).1.length ≤ n + 1
  unfold stepG
  split
  ·simp only; omega
  ·have := joinK_len9 (foldG g n).1 ‹OpM› (foldG g n).2
   simp only; omega
theorem ppatch_bad (base D : Nat) (d : Dev) (l r : Int) (w : World) (h : DevAt base w D d) (hc : chkK d [l, r] ≠ 0) : Calls Tryz.prog 8 #[.pointer (some ⟨D, 0, none⟩), .int .u64 l, .int .u64 r] w (PtQ (patchK d l r) w) := by
 have HD := Lib.hid h
 have HP := Lib.hid (show patchK d l r = ([], chkK d [l, r]) from if_neg hc)
 have hne : (chkK d [l, r] != 0) = true := by simpa using hc
 rw [HP.out]
 clear h HP
 go_enter Tryz.func8, Tryz.ntmps8
 go_wp2_with (first | (go_at_call 25; ((with_reducible refine (sizes_any base D d [l, r] _ 0 2 2 _ (HD.out.gr gri) rfl (by omega) (BlockAt.lt inferInstance) (by omega) (rowB [l, r] (cs := #[.int .u64 l, .int .u64 r]) inferInstance rfl)).mono ?_))))
 rintro _ W1 ⟨v1, rfl, hv1, ⟨g1, rfl⟩⟩
 rw [if_neg hc] at hv1
 subst hv1
 clear hc
 go_wp2
 go_ret2
 exact ⟨_, [], rfl, OwnN.nil _ _, rfl, by simp, gri⟩
theorem ppatch_good (base D : Nat) (d : Dev) (l r : Int) (w : World) (h : DevAt base w D d) (hc : chkK d [l, r] = 0) : Calls Tryz.prog 8 #[.pointer (some ⟨D, 0, none⟩), .int .u64 l, .int .u64 r] w (PtQ (patchK d l r) w) := by
 have HD := Lib.hid h
 have hok : DevOk d := by obtain ⟨M, mb, h⟩ := h; exact h.ok
 have s1 := sizeK_le hok l
 have s2 := sizeK_le hok r
 obtain ⟨sl, hsl⟩ : ∃ sl, sl = sizeK d l := ⟨_, rfl⟩
 obtain ⟨N, hN⟩ : ∃ N : Nat, sizeK d r = N := ⟨(sizeK d r).toNat, by omega⟩
 have hN9 : N ≤ 256 := by omega
 have HP := Lib.hid (show patchK d l r = ((if sl = (N : Int) then [] else [rszO l N]) ++ (foldG (genN d r l (needPK d l r)) N).1, 0) from by
  rw [patchK, if_pos hc, hN, hsl, Int.toNat_natCast])
 have HNP := Lib.hid (fun W (hW : Gr w W) (Q1 Q2 Q3 : Nat) b1 b2 b3 => pmade_any base D d (needPK d l r) r l N ⟨Q1, 0, none⟩ ⟨Q2, 0, none⟩ ⟨Q3, 0, none⟩ W (HD.out.gr hW) (by omega) (fun W' i hW' => @patch1_any base D Q1 Q2 Q3 d l r i W' (HD.out.gr (hW.trans hW')) (BlockAt.gr b1 hW') (BlockAt.gr b2 hW') (BlockAt.gr b3 hW')))
 obtain ⟨L9, hL9⟩ : ∃ L9, L9 = patchK d l r := ⟨_, rfl⟩
 rw [← hL9]
 rw [← hL9] at HP
 clear h hL9
 unfold PtQ
 go_enter Tryz.func8, Tryz.ntmps8
 go_wp2_with (first | (go_at_call 25; ((with_reducible refine (sizes_any base D d [l, r] _ 0 2 2 _ (HD.out.gr gri) rfl (by omega) (BlockAt.lt inferInstance) (by omega) (rowB [l, r] (cs := #[.int .u64 l, .int .u64 r]) inferInstance rfl)).mono ?_))))
 rintro _ W1 ⟨v1, rfl, hv1, ⟨g1, rfl⟩⟩
 rw [if_pos hc] at hv1
 rw [hc]
 obtain ⟨g, c, hv1e, hbg, hgl, hcc, hcl⟩ := i64_cells hv1 (by simp)
 obtain rfl : v1 = .slice (some ⟨g, 0, none⟩) 2 c := hv1e
 have HCL := Lib.hid hv1
 generalize hW2 : grown _ g1 = W2 at *
 have i1 : BlockAt W2 w.heap.size #[.pointer (some ⟨D, 0, none⟩)] 22 := by rw [← hW2]; infer_instance
 have i2 : BlockAt W2 (w.heap.size + 1) #[.int .u64 l] 28 := by rw [← hW2]; infer_instance
 have i3 : BlockAt W2 (w.heap.size + 1 + 1) #[.int .u64 r] 28 := by rw [← hW2]; infer_instance
 have i4 : Gr w W2 := by rw [← hW2]; exact gri
 simp only [List.map_cons, List.map_nil] at HCL
 rw [← hsl, hN] at HCL
 obtain ⟨P1, hP1⟩ : ∃ P, P = w.heap.size := ⟨_, rfl⟩
 obtain ⟨P2, hP2⟩ : ∃ P, P = w.heap.size + 1 := ⟨_, rfl⟩
 obtain ⟨P3, hP3⟩ : ∃ P, P = w.heap.size + 1 + 1 := ⟨_, rfl⟩
 rw [← hP1] at i1
 rw [← hP2] at i2
 rw [← hP3] at i3
 have HJ := Lib.hid (show PatJ w D l r P1 P2 P3 g c sl N W2 from ⟨i1, i2, i3, HCL.out.more (by simp; omega), i4⟩)
 rw [← hP3, ← hP2, ← hP1]
 obtain ⟨c0, c1⟩ := HJ.out.cells
 haveI : Old g W2 := old_of_cell c0
 haveI := grc_of i4
 haveI := from_of i4
 haveI := i1
 haveI := i2
 haveI := i3
 clear hW2 hv1 hbg hgl hcc hcl hc hok i4 hP1 hP2 hP3 HCL hsl hN s1 s2
 by_cases hq : sl = (N : Int)
 ·have hb1 : (sl != (N : Int)) = false := by simp [hq]
  rw [if_pos hq, List.nil_append] at HP
  clear hq
  go_wp2
  refine wp_region_grow (by kernel_rfl) (by kernel_rfl) ?_
  repeat (go_big_quiet_step (fail))
  refine wpQuiet_nil ?_
  intro g2
  have HJ2 := Lib.hid (HJ.out.more (gri : Gr W2 (grown W2 g2)))
  generalize grown W2 g2 = W3 at *
  clear i1 i2 i3 c0 c1
  go_wp2
  refine wp_region_plan ⟨(fun w' => PatJ w D l r P1 P2 P3 g c sl N w'), fun w' => OwnN opE w.heap.size w' (.slice none 0 0) ([] : List OpC)⟩ (HJ2.out.more gri) (OwnN.nil _ _) [(true, 0), (true, 1), (true, 2), (true, 3), (true, 4), (true, 5), (true, 6), (true, 7), (false, 8), (false, 9), (true, 10), (true, 11)] (by kernel_rfl) (by kernel_rfl) ?_
  simp only [pickP, pick, List.drop, List.take, List.nil_append, List.cons_append, List.map_cons, List.map_nil]
  refine p_same (.slice none 0 0) rfl rfl (fun w1 hj => by go_simp) ?_
  simp only [Act.put, List.setIfInBounds_toArray, List.set]
  refine p_same (.pointer (some ⟨D, 0, none⟩)) rfl rfl (fun w1 hj => by have x1 : w1.cell? ⟨P1, 0, none⟩ = some (.pointer (some ⟨D, 0, none⟩)) := (@block_cells _ _ 0 _ _ hj.b1).trans rfl; go_simp) ?_
  simp only [Act.put, List.setIfInBounds_toArray, List.set]
  refine p_same (.int .u64 l) rfl rfl (fun w1 hj => by have x1 : w1.cell? ⟨P2, 0, none⟩ = some (.int .u64 l) := (@block_cells _ _ 0 _ _ hj.b2).trans rfl; go_simp) ?_
  simp only [Act.put, List.setIfInBounds_toArray, List.set]
  refine p_same (.int .u64 r) rfl rfl (fun w1 hj => by have x1 : w1.cell? ⟨P3, 0, none⟩ = some (.int .u64 r) := (@block_cells _ _ 0 _ _ hj.b3).trans rfl; go_simp) ?_
  simp only [Act.put, List.setIfInBounds_toArray, List.set]
  refine p_same (.slice (some ⟨g, 0, none⟩) 2 c) rfl rfl (fun w1 hj => by go_simp) ?_
  simp only [Act.put, List.setIfInBounds_toArray, List.set]
  refine p_same (.pointer (some ⟨g, 1, none⟩)) rfl rfl (fun w1 hj => by go_simp) ?_
  simp only [Act.put, List.setIfInBounds_toArray, List.set]
  refine p_same (.int .i64 (N : Int)) rfl rfl (fun w1 hj => by have x1 := hj.cells.2; go_simp) ?_
  simp only [Act.put, List.setIfInBounds_toArray, List.set]
  refine p_same (.func (.func 37) #[] #[.pointer (some ⟨P1, 0, none⟩), .pointer (some ⟨P2, 0, none⟩), .pointer (some ⟨P3, 0, none⟩)]) rfl rfl (fun w1 hj => by go_simp) ?_
  simp only [Act.put, List.setIfInBounds_toArray, List.set]
  refine p_eff rfl rfl (fun w1 hj he => effAt_call' 38 #[.pointer (some ⟨D, 0, none⟩), .int .u64 l, .int .u64 r, .int .i64 (N : Int), .func (.func 37) #[] #[.pointer (some ⟨P1, 0, none⟩), .pointer (some ⟨P2, 0, none⟩), .pointer (some ⟨P3, 0, none⟩)]] (by go_simp) ((HNP.out w1 (PatJ.gr hj) P1 P2 P3 (PatJ.b1 hj) (PatJ.b2 hj) (PatJ.b3 hj)).mono fun e w2 hm => ?_))
  obtain ⟨vm, zs, rfl, hzo, hzm, hzz, hzg⟩ := hm
  obtain ⟨Az, cz, rfl, hzn, _, hzr⟩ := hzo.rowG9 opIs
  obtain ⟨nz, hnz⟩ : ∃ nz, nz = zs.length := ⟨_, rfl⟩
  have hsz := (PatJ.gr hj).below.size
  rw [← hnz]
  refine ⟨_, rfl, ⟨(fun w' => PatJ w D l r P1 P2 P3 g c sl N w'), fun w' => OwnN opE w.heap.size w' (.slice none 0 0) ([] : List OpC) ∧ RowN opE w' Az zs ∧ ∀ z ∈ zs, OpOwn w.heap.size w' z⟩, ⟨PatJ.more hj hzg, he.gr hzg, hzr, fun z hz => ⟨(hzz z hz).own.more hsz⟩⟩, fun _ h => h, ?_⟩
  have HZM := Lib.hid hzm
  have HZN := Lib.hid hzn
  have HNZ := Lib.hid hnz
  have HZL := Lib.hid (show zs.length ≤ 100000 from by have h1 := congrArg List.length hzm; rw [List.length_map] at h1; have h2 := foldG_len9 (genN d r l (needPK d l r)) N; omega)
  clear hzo hzm hzz hzg hzn hzr hnz hsz hj he w2 w1
  simp only [Act.put, List.setIfInBounds_toArray, List.set]
  refine p_eff rfl rfl (fun w1 hj he => effAt_append_x opIs _ _ rfl rfl he.1 Az zs nz cz HNZ.out.symm rfl HZN.out he.2.1 (by have := HZL.out; simp; omega) (PatJ.gr hj).below.size ?_)
  intro v12 W4 h4
  refine ⟨⟨(fun w' => PatJ w D l r P1 P2 P3 g c sl N w'), fun w' => OwnN opE w.heap.size w' v12 (([] : List OpC) ++ zs) ∧ ∀ z ∈ ([] : List OpC) ++ zs, OpOwn w.heap.size w' z⟩, ⟨PatJ.app hj h4, h4.own, fun z hz => ?_⟩, fun _ h => h, ?_⟩
  ·rcases List.mem_append.1 hz with hz | hz
   ·simp at hz
   ·exact (he.2.2 z hz).keepA h4
  clear h4 hj he W4 w1
  simp only [Act.put, List.setIfInBounds_toArray, List.set]
  refine p_same (v12) rfl rfl (fun w1 hj => by go_simp) ?_
  simp only [Act.put, List.setIfInBounds_toArray, List.set]
  refine p_same (.int .i64 0) rfl rfl (fun w1 hj => by go_simp) ?_
  simp only [Act.put, List.setIfInBounds_toArray, List.set]
  refine p_nil ?_
  intro w9 hj9 he9
  have HJ9 := Lib.hid hj9
  have HE9 := Lib.hid he9
  clear hj9 he9
  go_wp2
  go_ret2
  exact ⟨v12, by rw [HP.out]; rfl, ([] : List OpC) ++ zs, HE9.out.1, by rw [HP.out, List.map_append, HZM.out]; rfl, HE9.out.2, HJ9.out.gr⟩
 ·have hb1 : (sl != (N : Int)) = true := by simp [hq]
  rw [if_neg hq] at HP
  clear hq
  go_wp2
  refine wp_region_grow (by kernel_rfl) (by kernel_rfl) ?_
  repeat (go_big_quiet_step (fail))
  refine wpQuiet_nil ?_
  intro g2
  have HJ2 := Lib.hid (HJ.out.more (gri : Gr W2 (grown W2 g2)))
  generalize grown W2 g2 = W3 at *
  clear i1 i2 i3 c0 c1
  go_wp2
  refine wp_region_plan ⟨(fun w' => PatJ w D l r P1 P2 P3 g c sl N w'), fun _ => True⟩ (HJ2.out.more gri) trivial [(true, 0), (true, 1), (true, 2), (true, 3), (true, 4), (true, 5), (false, 6), (false, 7), (true, 8)] (by kernel_rfl) (by kernel_rfl) ?_
  simp only [pickP, pick, List.drop, List.take, List.nil_append, List.cons_append, List.map_cons, List.map_nil]
  refine p_same (.slice none 0 0) rfl rfl (fun w1 hj => by go_simp) ?_
  simp only [Act.put, List.setIfInBounds_toArray, List.set]
  refine p_same (.int .u64 l) rfl rfl (fun w1 hj => by have x1 : w1.cell? ⟨P2, 0, none⟩ = some (.int .u64 l) := (@block_cells _ _ 0 _ _ hj.b2).trans rfl; go_simp) ?_
  simp only [Act.put, List.setIfInBounds_toArray, List.set]
  refine p_same (.slice (some ⟨g, 0, none⟩) 2 c) rfl rfl (fun w1 hj => by go_simp) ?_
  simp only [Act.put, List.setIfInBounds_toArray, List.set]
  refine p_same (.pointer (some ⟨g, 1, none⟩)) rfl rfl (fun w1 hj => by go_simp) ?_
  simp only [Act.put, List.setIfInBounds_toArray, List.set]
  refine p_same (.int .i64 (N : Int)) rfl rfl (fun w1 hj => by have x1 := hj.cells.2; go_simp) ?_
  simp only [Act.put, List.setIfInBounds_toArray, List.set]
  refine p_same (.agg #[.int .i64 3, .int .u64 l, .int .u64 0, .int .i64 (N : Int), .int .i64 0, .int .i64 0, .slice none 0 0]) rfl rfl (fun w1 hj => by go_simp) ?_
  simp only [Act.put, List.setIfInBounds_toArray, List.set]
  refine p_eff rfl rfl (fun w1 hj he => effAt_of (v := .slice (some ⟨w1.heap.size, 0, none⟩) 1 1) (w' := w1.alloc (.cells #[.int .i64 3, .int .u64 l, .int .u64 0, .int .i64 (N : Int), .int .i64 0, .int .i64 0, .slice none 0 0] 43)) (by go_simp) ?_)
  obtain ⟨B, hB⟩ : ∃ B, B = w1.heap.size := ⟨_, rfl⟩
  refine ⟨⟨(fun w' => PatJ w D l r P1 P2 P3 g c sl N w'), fun w' => BlockAt w' B #[.int .i64 3, .int .u64 l, .int .u64 0, .int .i64 (N : Int), .int .i64 0, .int .i64 0, .slice none 0 0] 43⟩, ⟨PatJ.more hj gri, by rw [hB]; infer_instance⟩, fun _ h => h, ?_⟩
  rw [← hB]
  clear hB hj he w1
  simp only [Act.put, List.setIfInBounds_toArray, List.set]
  refine p_eff rfl rfl (fun w1 hj he => effAt_append_x opIs _ _ rfl rfl (OwnN.nil w.heap.size _) (some ⟨B, 0, none⟩) [(⟨rszO l N, none, 0, 0⟩ : OpC)] 1 1 rfl rfl (fun e => by cases e) ⟨fun _ _ => trivial, fun _ => ⟨B, 0, rfl, BlockAt.lt he, CellsN.block _ he rfl⟩⟩ (by simp) (PatJ.gr hj).below.size ?_)
  intro v10 W4 h4
  refine ⟨⟨(fun w' => PatJ w D l r P1 P2 P3 g c sl N w'), fun w' => OwnN opE w.heap.size w' v10 [(⟨rszO l N, none, 0, 0⟩ : OpC)]⟩, ⟨PatJ.app hj h4, h4.own⟩, fun _ h => h, ?_⟩
  clear h4 hj he W4 w1
  simp only [Act.put, List.setIfInBounds_toArray, List.set]
  refine p_same (v10) rfl rfl (fun w1 hj => by go_simp) ?_
  simp only [Act.put, List.setIfInBounds_toArray, List.set]
  refine p_nil ?_
  intro w9 hj9 he9
  have HJ3 := Lib.hid hj9
  have HO := Lib.hid he9
  clear hj9 he9
  go_wp2
  refine wp_region_plan ⟨(fun w' => PatJ w D l r P1 P2 P3 g c sl N w'), fun w' => OwnN opE w.heap.size w' (v10) [(⟨rszO l N, none, 0, 0⟩ : OpC)]⟩ (HJ3.out.more gri) (HO.out.gr gri) [(true, 0), (true, 1), (true, 2), (true, 3), (true, 4), (true, 5), (true, 6), (true, 7), (false, 8), (false, 9), (true, 10), (true, 11)] (by kernel_rfl) (by kernel_rfl) ?_
  simp only [pickP, pick, List.drop, List.take, List.nil_append, List.cons_append, List.map_cons, List.map_nil]
  refine p_same (v10) rfl rfl (fun w1 hj => by go_simp) ?_
  simp only [Act.put, List.setIfInBounds_toArray, List.set]
  refine p_same (.pointer (some ⟨D, 0, none⟩)) rfl rfl (fun w1 hj => by have x1 : w1.cell? ⟨P1, 0, none⟩ = some (.pointer (some ⟨D, 0, none⟩)) := (@block_cells _ _ 0 _ _ hj.b1).trans rfl; go_simp) ?_
  simp only [Act.put, List.setIfInBounds_toArray, List.set]
  refine p_same (.int .u64 l) rfl rfl (fun w1 hj => by have x1 : w1.cell? ⟨P2, 0, none⟩ = some (.int .u64 l) := (@block_cells _ _ 0 _ _ hj.b2).trans rfl; go_simp) ?_
  simp only [Act.put, List.setIfInBounds_toArray, List.set]
  refine p_same (.int .u64 r) rfl rfl (fun w1 hj => by have x1 : w1.cell? ⟨P3, 0, none⟩ = some (.int .u64 r) := (@block_cells _ _ 0 _ _ hj.b3).trans rfl; go_simp) ?_
  simp only [Act.put, List.setIfInBounds_toArray, List.set]
  refine p_same (.slice (some ⟨g, 0, none⟩) 2 c) rfl rfl (fun w1 hj => by go_simp) ?_
  simp only [Act.put, List.setIfInBounds_toArray, List.set]
  refine p_same (.pointer (some ⟨g, 1, none⟩)) rfl rfl (fun w1 hj => by go_simp) ?_
  simp only [Act.put, List.setIfInBounds_toArray, List.set]
  refine p_same (.int .i64 (N : Int)) rfl rfl (fun w1 hj => by have x1 := hj.cells.2; go_simp) ?_
  simp only [Act.put, List.setIfInBounds_toArray, List.set]
  refine p_same (.func (.func 37) #[] #[.pointer (some ⟨P1, 0, none⟩), .pointer (some ⟨P2, 0, none⟩), .pointer (some ⟨P3, 0, none⟩)]) rfl rfl (fun w1 hj => by go_simp) ?_
  simp only [Act.put, List.setIfInBounds_toArray, List.set]
  refine p_eff rfl rfl (fun w1 hj he => effAt_call' 38 #[.pointer (some ⟨D, 0, none⟩), .int .u64 l, .int .u64 r, .int .i64 (N : Int), .func (.func 37) #[] #[.pointer (some ⟨P1, 0, none⟩), .pointer (some ⟨P2, 0, none⟩), .pointer (some ⟨P3, 0, none⟩)]] (by go_simp) ((HNP.out w1 (PatJ.gr hj) P1 P2 P3 (PatJ.b1 hj) (PatJ.b2 hj) (PatJ.b3 hj)).mono fun e w2 hm => ?_))
  obtain ⟨vm, zs, rfl, hzo, hzm, hzz, hzg⟩ := hm
  obtain ⟨Az, cz, rfl, hzn, _, hzr⟩ := hzo.rowG9 opIs
  obtain ⟨nz, hnz⟩ : ∃ nz, nz = zs.length := ⟨_, rfl⟩
  have hsz := (PatJ.gr hj).below.size
  rw [← hnz]
  refine ⟨_, rfl, ⟨(fun w' => PatJ w D l r P1 P2 P3 g c sl N w'), fun w' => OwnN opE w.heap.size w' (v10) [(⟨rszO l N, none, 0, 0⟩ : OpC)] ∧ RowN opE w' Az zs ∧ ∀ z ∈ zs, OpOwn w.heap.size w' z⟩, ⟨PatJ.more hj hzg, he.gr hzg, hzr, fun z hz => ⟨(hzz z hz).own.more hsz⟩⟩, fun _ h => h, ?_⟩
  have HZM := Lib.hid hzm
  have HZN := Lib.hid hzn
  have HNZ := Lib.hid hnz
  have HZL := Lib.hid (show zs.length ≤ 100000 from by have h1 := congrArg List.length hzm; rw [List.length_map] at h1; have h2 := foldG_len9 (genN d r l (needPK d l r)) N; omega)
  clear hzo hzm hzz hzg hzn hzr hnz hsz hj he w2 w1
  simp only [Act.put, List.setIfInBounds_toArray, List.set]
  refine p_eff rfl rfl (fun w1 hj he => effAt_append_x opIs _ _ rfl rfl he.1 Az zs nz cz HNZ.out.symm rfl HZN.out he.2.1 (by have := HZL.out; simp; omega) (PatJ.gr hj).below.size ?_)
  intro v12 W4 h4
  refine ⟨⟨(fun w' => PatJ w D l r P1 P2 P3 g c sl N w'), fun w' => OwnN opE w.heap.size w' v12 ([(⟨rszO l N, none, 0, 0⟩ : OpC)] ++ zs) ∧ ∀ z ∈ [(⟨rszO l N, none, 0, 0⟩ : OpC)] ++ zs, OpOwn w.heap.size w' z⟩, ⟨PatJ.app hj h4, h4.own, fun z hz => ?_⟩, fun _ h => h, ?_⟩
  ·rcases List.mem_append.1 hz with hz | hz
   ·rw [List.mem_singleton] at hz; subst hz; exact ⟨OwnN.nil _ _⟩
   ·exact (he.2.2 z hz).keepA h4
  clear h4 hj he W4 w1
  simp only [Act.put, List.setIfInBounds_toArray, List.set]
  refine p_same (v12) rfl rfl (fun w1 hj => by go_simp) ?_
  simp only [Act.put, List.setIfInBounds_toArray, List.set]
  refine p_same (.int .i64 0) rfl rfl (fun w1 hj => by go_simp) ?_
  simp only [Act.put, List.setIfInBounds_toArray, List.set]
  refine p_nil ?_
  intro w9 hj9 he9
  have HJ9 := Lib.hid hj9
  have HE9 := Lib.hid he9
  clear hj9 he9
  go_wp2
  go_ret2
  exact ⟨v12, by rw [HP.out]; rfl, [(⟨rszO l N, none, 0, 0⟩ : OpC)] ++ zs, HE9.out.1, by rw [HP.out, List.map_append, HZM.out]; rfl, HE9.out.2, HJ9.out.gr⟩
theorem ppatch_any (base D : Nat) (d : Dev) (l r : Int) (w : World) (h : DevAt base w D d) : Calls Tryz.prog 8 #[.pointer (some ⟨D, 0, none⟩), .int .u64 l, .int .u64 r] w (PtQ (patchK d l r) w) := by
 by_cases hc : chkK d [l, r] = 0
 ·exact ppatch_good base D d l r w h hc
 ·exact ppatch_bad base D d l r w h hc
section
variable {P : Program} {ops : Array Oper} {md : Region.Mode} {S : Type} {I : S → World → Prop}
def SameK (P : Program) (I : S → World → Prop) (o : Oper) (v : Value) (a : Act) : Prop := ∀ s w, I s w → EffAt P o a w (fun u w' => u = v ∧ w' = w)
def kOp (P : Program) (ops : Array Oper) (I : S → World → Prop) (i : Nat) (K : S → Act → Prop) (s : S) (a : Act) : Prop := (∃ o, ops[i]? = some o ∧ o.guard = none ∧ ∃ v, SameK P I o v a ∧ K s (a.put o.dst v)) ∨ efOp P ops I i K s a
theorem kOp_mono {i : Nat} {K K' : S → Act → Prop} {s : S} {a : Act} (h : ∀ s a, K s a → K' s a) (hh : kOp P ops I i K s a) : kOp P ops I i K' s a :=
 hh.imp (fun ⟨o, ho, hg, v, hv, hk⟩ => ⟨o, ho, hg, v, hv, h _ _ hk⟩) (fun ⟨o, ho, hg, hs⟩ => ⟨o, ho, hg, fun w hw => effUpon_mono (fun v w' ⟨s', h1, h2⟩ => ⟨s', h1, h _ _ h2⟩) _ (hs w hw)⟩)
theorem kOp_eff {i : Nat} {K : S → Act → Prop} {s : S} {a : Act} (h : kOp P ops I i K s a) : efOp P ops I i K s a := by
 rcases h with ⟨o, ho, hg, v, hv, hk⟩ | h
 ·exact ⟨o, ho, by simp [Region.wanted, hg], fun w hw => effUpon_mono (fun u w' ⟨e1, e2⟩ => ⟨s, by rw [e2]; exact hw, by rw [e1]; exact hk⟩) _ (hv s w hw)⟩
 ·exact h
def kAny (P : Program) (md : Region.Mode) (ops : Array Oper) (I : S → World → Prop) (L : S → Act → Prop) : Nat → Array Bool → S → Act → Prop
 | 0, listed, s, a => Region.ready md ops listed = [] ∧ L s a
 | f + 1, listed, s, a => (Region.ready md ops listed = [] → L s a) ∧ ∀ i ∈ Region.ready md ops listed, kOp P ops I i (kAny P md ops I L f (listed.setIfInBounds i true)) s a
theorem kAny_any {L : S → Act → Prop} {Q' : Exit → Act → World → Prop} (hL : ∀ s a w, I s w → L s a → Q' .normal a w) :
  ∀ (f : Nat) (listed : Array Bool) (s : S) (a : Act) (w : World), I s w → kAny P md ops I L f listed s a → wpAny P md ops Q' f listed a w
 | 0, listed, s, a, w, hw, h => ⟨h.1, hL _ _ _ hw h.2⟩
 | f + 1, listed, s, a, w, hw, h => by
  refine ⟨fun h0 => hL _ _ _ hw (h.1 h0), fun i hi => ?_⟩
  unfold wpOp
  obtain ⟨o, ho, hg, hs⟩ := kOp_eff (h.2 i hi)
  simp only [ho, hg, if_true]
  refine .inl ?_
  have h3 := hs w hw
  unfold EffAt at h3
  unfold Oper.wp
  generalize (execOp a.eval o).run P w = r at *
  cases r with
  | ok nx w' =>
   cases nx <;> simp only [effUpon] at h3 <;> simp only [Oper.upon]
   case value u => obtain ⟨s', hi', hk⟩ := h3; exact kAny_any hL f _ _ _ _ hi' hk
   case skip => obtain ⟨s', hi', hk⟩ := h3; exact kAny_any hL f _ _ _ _ hi' hk
   case enter f' args => exact h3.mono fun e w'' ⟨v, he, s', hi', hk⟩ => by subst he; exact kAny_any hL f _ _ _ _ hi' hk
  | halt x w' => simp only [effUpon] at h3
theorem kOp_put {j : Nat} {oi oj : Oper} {v : Value} (hj : ops[j]? = some oj) (hap : oi.apart ops oj = true)
  (hsi : ∀ cs b, oi.op ≠ .select cs b) (hsj : ∀ cs b, oj.op ≠ .select cs b) {K : S → Act → Prop} {s : S} {a : Act}
  (hy : SameK P I oi v a) (h : kOp P ops I j K s (a.put oi.dst v)) :
  kOp P ops I j (fun s' a' => SameK P I oi v a' ∧ K s' (a'.put oi.dst v)) s a := by
 obtain ⟨p1, p2, p3⟩ := Oper.apart_spec hap
 have next : ∀ u, SameK P I oi v (a.put oj.dst u) := fun u s2 w2 hw2 => by
  have h3 := hy s2 w2 hw2
  unfold EffAt at *
  rw [execOp_put oi hsi a oj.dst u p3]
  exact h3
 rcases h with ⟨o, ho, hg, u, hu, hk⟩ | ⟨o, ho, hg, hs⟩
 ·obtain rfl : o = oj := Option.some.inj (ho.symm.trans hj)
  refine .inl ⟨o, hj, hg, u, fun s2 w2 hw2 => ?_, next u, by rw [← Act.put_comm a v u p2]; exact hk⟩
  have h3 := hu s2 w2 hw2
  unfold EffAt at *
  rw [execOp_put o hsj a oi.dst v p1] at h3
  exact h3
 ·obtain rfl : o = oj := Option.some.inj (ho.symm.trans hj)
  refine .inr ⟨o, hj, by rw [wanted_put o a oi.dst v p1] at hg; exact hg, fun w hw => ?_⟩
  have h3 := hs w hw
  unfold EffAt at *
  rw [execOp_put o hsj a oi.dst v p1] at h3
  exact effUpon_mono (fun u w' ⟨s', h1, h2⟩ => ⟨s', h1, next u, by rw [← Act.put_comm a v u p2]; exact h2⟩) _ h3
theorem kAny_first {i : Nat} {oi : Oper} {v : Value} {L : S → Act → Prop} (hi : ops[i]? = some oi) (hg : oi.guard = none) (hsel : ∀ (j : Nat) (o : Oper) cs b, ops[j]? = some o → o.op ≠ .select cs b) :
  ∀ (f : Nat) (listed : Array Bool) (s : S) (a : Act),
   (∀ j oj, ops[j]? = some oj → j ≠ i → listed.getD j true = false → (∀ e ∈ oj.after, Region.binds md e = true → e.on ≠ i) → oi.apart ops oj = true) →
   i ∈ Region.ready md ops listed → SameK P I oi v a →
   kAny P md ops I L f (listed.setIfInBounds i true) s (a.put oi.dst v) → kAny P md ops I L (f + 1) listed s a := by
 intro f
 induction f with
 | zero =>
  intro listed s a _ hr hy H
  refine ⟨(fun h => by rw [h] at hr; cases hr), fun j hj => ?_⟩
  by_cases hji : j = i
  ·subst hji; exact .inl ⟨oi, hi, hg, v, hy, H⟩
  ·have := ready_mono hj hji
   rw [H.1] at this
   cases this
 | succ f ih =>
  intro listed s a hfree hr hy H
  have hun := (mem_ready.1 hr).1
  refine ⟨(fun h => by rw [h] at hr; cases hr), fun j hj => ?_⟩
  by_cases hji : j = i
  ·subst hji; exact .inl ⟨oi, hi, hg, v, hy, H⟩
  have h1 := H.2 j (ready_mono hj hji)
  obtain ⟨hjun, oj, hoj, hall⟩ := mem_ready.1 hj
  have hnot : ∀ e ∈ oj.after, Region.binds md e = true → e.on ≠ i := fun e he hb heq => by
   have h1 := hall e he hb
   rw [heq, getD_both hun] at h1
   cases h1
  have h2 := kOp_put hoj (hfree j oj hoj hji hjun hnot) (fun cs b => hsel i oi cs b hi) (fun cs b => hsel j oj cs b hoj) hy h1
  have hfree' : ∀ k ok, ops[k]? = some ok → k ≠ i → (listed.setIfInBounds j true).getD k true = false →
    (∀ e ∈ ok.after, Region.binds md e = true → e.on ≠ i) → oi.apart ops ok = true := fun k ok hk hki hu hno => by
   refine hfree k ok hk hki ?_ hno
   by_cases hjk : j = k
   ·subst hjk; exact hjun
   ·rw [getD_set_ne true hjk] at hu; exact hu
  refine kOp_mono (fun s' a' h3 => ih (listed.setIfInBounds j true) s' a' hfree' (ready_mono hr (Ne.symm hji)) h3.1 ?_) h2
  rw [Array.setIfInBounds_comm _ _ hji]
  exact h3.2
end
section
variable {P : Program} {md : Region.Mode} {S : Type} {I : S → World → Prop} {l : List Oper} {Lq : S → Act → Prop}
def wpSame (P : Program) (I : S → World → Prop) (K : Act → Prop) : List Oper → Act → Prop
 | [], a => K a
 | o :: r, a => o.guard = none ∧ ∃ v, SameK P I o v a ∧ wpSame P I K r (a.put o.dst v)
theorem kAny_lexT (hsel : Region.noSelect l.toArray = true) (n : Nat) :
  ∀ (qs : List Nat) (listed : Array Bool) (s : S) (a : Act), freeAll md l.toArray qs listed = true → wpSame P I (fun a' => kAny P md l.toArray I Lq n (listAll qs listed) s a') (pick l qs) a →
   kAny P md l.toArray I Lq (qs.length + n) listed s a
 | [], listed, s, a, hB, h => by
  rw [List.length_nil, Nat.zero_add]
  exact h
 | k :: r, listed, s, a, hB, h => by
  simp only [freeAll, Bool.and_eq_true] at hB
  obtain ⟨⟨hr, hf⟩, hB'⟩ := hB
  have hr' : k ∈ Region.ready md l.toArray listed := by simpa using hr
  obtain ⟨_, o, ho, _⟩ := mem_ready.1 hr'
  have ho' : l[k]? = some o := by simpa using ho
  rw [pick_cons ho'] at h
  rw [show (k :: r).length + n = (r.length + n) + 1 by simp; omega]
  obtain ⟨hg, v, hv, hk⟩ := h
  exact kAny_first ho hg (Region.noSelect_spec hsel) _ listed s a (Region.free_spec ho hf) hr' hv (kAny_lexT hsel n r _ _ _ hB' hk)
def wpForced (P : Program) (ops : Array Oper) (I : S → World → Prop) (Q : S → Act → Prop) : List Oper → S → Act → Prop
 | [], s, a => Q s a
 | o :: r, s, a => o.guard = none ∧ ∀ w, I s w → EffAt P o a w (fun v w' => ∃ s', I s' w' ∧ wpForced P ops I Q r s' (a.put o.dst v))
theorem kAny_seq : ∀ (ss : List Nat) (listed : Array Bool) (s : S) (a : Act), seqOne md l.toArray ss listed = true → wpForced P l.toArray I Lq (pick l ss) s a → kAny P md l.toArray I Lq ss.length listed s a
 | [], listed, s, a, hB, h => by
  simp only [seqOne, decide_eq_true_eq] at hB
  exact ⟨by simpa using hB, h⟩
 | k :: r, listed, s, a, hB, h => by
  simp only [seqOne, Bool.and_eq_true, decide_eq_true_eq] at hB
  obtain ⟨hrd, hB'⟩ := hB
  have hr' : k ∈ Region.ready md l.toArray listed := by rw [hrd]; simp
  obtain ⟨_, o, ho, _⟩ := mem_ready.1 hr'
  have ho' : l[k]? = some o := by simpa using ho
  rw [pick_cons ho'] at h
  refine ⟨(fun h0 => by rw [hrd] at h0; cases h0), fun j hj => ?_⟩
  rw [hrd] at hj
  obtain rfl : j = k := by simpa using hj
  exact .inr ⟨o, ho, by simp [Region.wanted, h.1], fun w hw => effUpon_mono (fun v w' ⟨s', h1, h2⟩ => ⟨s', h1, kAny_seq r _ _ _ hB' h2⟩) _ (h.2 w hw)⟩
def treeKB (md : Region.Mode) (ops : Array Oper) (qs ss : List Nat) : Bool :=
 Region.noSelect ops && decide (qs.length + ss.length = ops.size) && freeAll md ops qs (Array.replicate ops.size false) && seqOne md ops ss (listAll qs (Array.replicate ops.size false))
theorem wp_region_treeK {id : Nat} {Q : Exit → Act → World → Prop} {a : Act} {w : World} (I : S → World → Prop) (s : S) (hw : I s w.drew) (qs ss : List Nat) (hm : P.follows .mixedOrders = true) (hB : treeKB .any l.toArray qs ss = true)
  (h : wpSame P I (fun a' => wpForced P l.toArray I (fun s a3 => ∀ w', I s w' → Q .normal a3 w') (pick l ss) s a') (pick l qs) a) : (Code.region id l.toArray true).wp P Q a w := by
 simp only [treeKB, Bool.and_eq_true, decide_eq_true_eq] at hB
 obtain ⟨⟨⟨hsel, hlen⟩, hlex⟩, hseq⟩ := hB
 have hmono : ∀ (os : List Oper) (a : Act) (K K' : Act → Prop), (∀ a, K a → K' a) → wpSame P I K os a → wpSame P I K' os a := by
  intro os
  induction os with
  | nil => exact fun a K K' hK h => hK a h
  | cons o r ih => exact fun a K K' hK ⟨hg, v, hv, hk⟩ => ⟨hg, v, hv, ih _ K K' hK hk⟩
 have H := kAny_lexT (md := .any) (P := P) (I := I) hsel ss.length qs _ s a hlex (hmono _ _ _ _ (fun a' ha => kAny_seq ss _ s a' hseq ha) h)
 refine wp_region_any hm ?_
 have := kAny_any (Q' := Q) (fun s a' w' hw' (hL : ∀ w', I s w' → Q .normal a' w') => hL w' hw') _ _ _ _ _ hw H
 rw [hlen] at this
 exact this
section
variable {ops : Array Oper} {L : S → Act → Prop} {f : Nat} {listed : Array Bool} {s : S} {a : Act}
end
section
variable {ops : Array Oper} {s : S} {a : Act} {o : Oper} {r : List Oper}
theorem sameK_run {v : Value} (h : ∀ s w, I s w → (execOp a.eval o).run P w = .ok (.value v) w) : SameK P I o v a := fun s w hw => by
 unfold EffAt
 rw [h s w hw]
 exact ⟨rfl, rfl⟩
theorem same_step {K : Act → Prop} (v : Value) {d : Tmp} (hd : o.dst = some d) (hg : o.guard = none) (h : ∀ s w, I s w → (execOp a.eval o).run P w = .ok (.value v) w) (hk : wpSame P I K r (a.put (some d) v)) : wpSame P I K (o :: r) a := ⟨hg, v, sameK_run h, by rw [hd]; exact hk⟩
theorem same_nil {K : Act → Prop} (h : K a) : wpSame P I K [] a := h
theorem forced_step {Q : S → Act → Prop} {d : Tmp} (hd : o.dst = some d) (hg : o.guard = none) (h : ∀ w, I s w → EffAt P o a w (fun v w' => ∃ s', I s' w' ∧ wpForced P ops I Q r s' (a.put (some d) v))) : wpForced P ops I Q (o :: r) s a := ⟨hg, by rw [hd]; exact h⟩
theorem forced_same {Q : S → Act → Prop} (v : Value) {d : Tmp} (hd : o.dst = some d) (hg : o.guard = none) (h : ∀ w, I s w → (execOp a.eval o).run P w = .ok (.value v) w) (hk : wpForced P ops I Q r s (a.put (some d) v)) : wpForced P ops I Q (o :: r) s a := forced_step hd hg fun w hw => by
 unfold EffAt
 rw [h w hw]
 exact ⟨s, hw, hk⟩
theorem forced_nil {Q : S → Act → Prop} (h : Q s a) : wpForced P ops I Q [] s a := h
end
end
set_option maxRecDepth 100000
set_option maxHeartbeats 4000000
def strB (x y : Str) : Bool := x.1 == y.1 && x.2.1 == y.2.1 && x.2.2 == y.2.2
theorem strB_eq {x y : Str} : strB x y = true ↔ x = y := by
 obtain ⟨a, b, c⟩ := x
 obtain ⟨d, e, f⟩ := y
 simp [strB, and_assoc]
@[go_sem ↓] theorem eql_str (w : World) (a b c d e f : Int) : (Op.equalIn 10000 103 (.agg #[.int .i64 a, .int .i64 b, .int .i64 c]) (.agg #[.int .i64 d, .int .i64 e, .int .i64 f])).run Tryz.prog w = .ok (strB (a, b, c) (d, e, f)) w := by
 by_cases h : a = d
 ·subst h
  by_cases h2 : b = e
  ·subst h2
   by_cases h3 : c = f
   ·subst h3; simp [strB, go_sem]
   ·simp [strB, go_sem, h3]
  ·simp [strB, go_sem, h2]
 ·simp [strB, go_sem, h]
theorem strCells {W : World} {b p : Nat} {l : List Str} {k : Nat} {x : Str} (h : CellsN strE W b p l) (hx : l[k]? = some x) : W.cell? ⟨b, p + k * 3, none⟩ = some (.int .i64 x.1) ∧ W.cell? ⟨b, p + k * 3 + 1, none⟩ = some (.int .i64 x.2.1) ∧ W.cell? ⟨b, p + k * 3 + 2, none⟩ = some (.int .i64 x.2.2) :=
 ⟨h k x hx 0 _ rfl, h k x hx 1 _ rfl, h k x hx 2 _ rfl⟩
theorem same_any (x y : List Str) (n m : Nat) (hn : x.length = n) (hm : y.length = m) (hn9 : n ≤ 100000) (hm9 : m ≤ 100000) (A B : Option Addr) (c e : Nat) (w : World) (hx : RowN strE w A x) (hy : RowN strE w B y) :
  Calls Tryz.prog 17 #[.slice A n c, .slice B m e] w fun e w' => e = .returned (.bool (decide (x = y))) ∧ Gr w w' := by
 have HX := Lib.hid hx
 have HY := Lib.hid hy
 have HN := Lib.hid hn
 have HM := Lib.hid hm
 clear hx hy hn hm
 by_cases hnm : n = m
 rotate_left
 ·have hne : ¬ x = y := fun h => hnm (by rw [← HN.out, ← HM.out, h])
  have HE := Lib.hid (decide_eq_false hne)
  have hb : ((n : Int) != (m : Int)) = true := by rw [bne_iff_ne]; omega
  clear hne
  go_enter Tryz.func17, Tryz.ntmps17
  go_wp2
  go_ret
  exact ⟨by rw [HE.out]; rfl, gri⟩
 subst hnm
 have hb : ((n : Int) != (n : Int)) = false := by simp
 go_enter Tryz.func17, Tryz.ntmps17
 go_wp2
 go_loopw [5] (fun i wr => ∃ k : Nat, k ≤ n ∧ i = .int .i64 (k : Int) ∧ x.take k = y.take k ∧ Gr w wr) (fun i _ => n - (intOf i).toNat)
 case atStart => exact ⟨0, Nat.zero_le _, rfl, rfl, gri⟩
 case round =>
  obtain ⟨k, hk, rfl, hpre, hg⟩ := hrel
  haveI := grc_of hg
  haveI := from_of hg
  have HG := Lib.hid hg
  have HP := Lib.hid hpre
  clear hg hpre
  by_cases hlt : k < n
  ·obtain ⟨u, hu⟩ : ∃ u, x[k]? = some u := ⟨_, List.getElem?_eq_getElem (by rw [HN.out]; exact hlt)⟩
   obtain ⟨v, hv⟩ : ∃ v, y[k]? = some v := ⟨_, List.getElem?_eq_getElem (by rw [HM.out]; exact hlt)⟩
   obtain ⟨b1, p1, rfl, hb1, hc1⟩ := (HX.out.gr HG.out).at_ (by rintro rfl; have := HN.out; simp at this; omega)
   obtain ⟨b2, p2, rfl, hb2, hc2⟩ := (HY.out.gr HG.out).at_ (by rintro rfl; have := HM.out; simp at this; omega)
   obtain ⟨c0, c1, c2⟩ := strCells hc1 hu
   obtain ⟨d0, d1, d2⟩ := strCells hc2 hv
   haveI : Old b1 wr := ⟨hb1⟩
   haveI : Old b2 wr := ⟨hb2⟩
   have HU := Lib.hid hu
   have HV := Lib.hid hv
   clear hc1 hc2 hu hv
   by_cases huv : u = v
   ·have hsb : strB u v = true := strB_eq.2 huv
    have HUV := Lib.hid huv
    clear huv
    obtain ⟨u1, u2, u3⟩ := u
    obtain ⟨v1, v2, v3⟩ := v
    simp only at c0 c1 c2 d0 d1 d2
    go_wp2
    refine wp_region_grow (by kernel_rfl) (by kernel_rfl) ?_
    repeat (go_big_quiet_step (fail))
    refine wpQuiet_nil ?_
    intro g1
    go_wp2
    go_roundw
    case rel => exact ⟨k + 1, hlt, by go_num, by rw [List.take_add_one, List.take_add_one, HU.out, HV.out, HP.out, HUV.out], gri⟩
    case measure => simp [intOf]; omega
   ·have hsb : strB u v = false := by
     cases h : strB u v with
     | false => rfl
     | true => exact absurd (strB_eq.1 h) huv
    have hne : ¬ x = y := fun h => huv (by have h1 := HU.out; have h2 := HV.out; rw [h, h2] at h1; exact (Option.some.inj h1).symm)
    have HE := Lib.hid (decide_eq_false hne)
    clear hne huv
    obtain ⟨u1, u2, u3⟩ := u
    obtain ⟨v1, v2, v3⟩ := v
    simp only at c0 c1 c2 d0 d1 d2
    go_wp2
    refine wp_region_grow (by kernel_rfl) (by kernel_rfl) ?_
    repeat (go_big_quiet_step (fail))
    refine wpQuiet_nil ?_
    intro g1
    go_wp2
    go_ret
    exact ⟨by rw [HE.out]; rfl, gri⟩
  ·have : k = n := by omega
   subst this
   have he : x = y := by
    have := HP.out
    rwa [List.take_of_length_le (by rw [HN.out]; omega), List.take_of_length_le (by rw [HM.out]; omega)] at this
   have HE := Lib.hid (decide_eq_true he)
   clear he
   go_wp2
   go_ret
   exact ⟨by rw [HE.out]; rfl, gri⟩
theorem wpMake256 {W : World} {ops : Array Oper} {rest : List Oper} {o : Oper} {a : Act} {Q : Exit → Act → World → Prop} (hgd : o.guard = none) (x y : Operand) (ho : o.op = .makeSlice 41 x y) (z : Array Value) (hmq : ∀ W : World, (Instr.makeSlice 41 (.int .i64 256) (.int .i64 256)).run Tryz.prog W = .ok (.slice (some ⟨W.heap.size, 0, none⟩) 256 256) (W.alloc (.cells z 5))) (hxy : a.eval x = .int .i64 256 ∧ a.eval y = .int .i64 256)
  (h : ∀ W' B, BlockAt W' B z 5 → B = W.heap.size → W' = W.alloc (.cells z 5) → wpList Tryz.prog ops Q rest (a.put o.dst (.slice (some ⟨B, 0, none⟩) 256 256)) W') : wpList Tryz.prog ops Q (o :: rest) a W := by
 refine wpList_plain hgd fun K' hK' => ?_
 unfold Oper.wp execOp
 simp only [ho, hxy.1, hxy.2, Sem.run_bind, hmq W, Result.andThen_ok]
 exact hK' _ _ (h _ _ inferInstance rfl rfl)
theorem lblock_any (v : Int) (b : Nat) (hb9 : b ≤ 1000) (c : UInt8) (w : World) : Calls Tryz.prog 44 #[.int .u64 v, .int .i64 (b : Int), .int .u8 c.toNat] w fun e w' => ∃ B, e = .returned (.agg #[.int .i64 5, .int .u64 v, .int .u64 0, .int .i64 0, .int .i64 (4 * (b : Int)), .int .i64 0, .slice (some ⟨B, 0, none⟩) 256 256]) ∧ BlockAt w' B (bkC (c :: List.replicate 255 0)) 5 ∧ Gr w w' := by
 have hmq : ∀ W : World, (Instr.makeSlice 41 (.int .i64 256) (.int .i64 256)).run Tryz.prog W = .ok (.slice (some ⟨W.heap.size, 0, none⟩) 256 256) (W.alloc (.cells (bkC (List.replicate 256 0)) 5)) := fun W => makeQ 256 (by omega) W
 have hmz : (bkC (List.replicate 256 0))[0]? = some (.int .u8 0) := by kernel_rfl
 have HS : Hid ((bkC (List.replicate 256 0)).setIfInBounds 0 (.int .u8 c.toNat) = bkC (c :: List.replicate 255 0)) := Lib.hid (by
  have := bkC_set (List.replicate 256 0) 0 c
  rw [show (List.replicate 256 (0 : UInt8)).set 0 c = c :: List.replicate 255 0 from rfl] at this
  exact this.symm)
 generalize bkC (List.replicate 256 0) = z at *
 go_enter Tryz.func44, Tryz.ntmps44
 go_wp2_with (first | (at_make; refine wpMake256 rfl _ _ rfl z hmq ⟨rfl, rfl⟩ ?_; rintro _ _ hB1 rfl rfl))
 refine bodyPost_ret (run_resCell1 rfl _ w.heap.size #[.int .i64 5, .int .u64 v, .int .u64 0, .int .i64 0, .int .i64 (4 * (b : Int)), .int .i64 0, .slice (some ⟨w.heap.size + 1, 0, none⟩) 256 256] _ rfl ?_ Tryz.underlying43 rfl (by kernel_rfl)) rfl ⟨w.heap.size + 1, rfl, ?_, gri⟩
 ·exact ⟨(BlockAt.eq (B := w.heap.size)).trans rfl⟩
 ·rw [← HS.out]
  infer_instance
def wrO (v : Int) (b : Nat) (c : UInt8) : OpM := ⟨5, v, 0, 0, 4 * (b : Int), 0, c :: List.replicate 255 0⟩
def crO (v : Int) : OpM := ⟨1, v, 0, 4, 0, 0, []⟩
def knownL : List OpM := [crO 1, crO 2, wrO 1 0 120, wrO 1 1 121, wrO 2 0 120, wrO 2 1 122, wrO 2 2 121]
def wantL : List Str := [(0, 1, 3), (1, 1, 4), (2, 1, 6), (3, 1, 1)]
theorem known_chk : chkK (devOf knownL) [1, 2] = 0 := by kernel_rfl
theorem known_rows : rowsK (devOf knownL) 1 2 = wantL := by kernel_rfl
set_option maxRecDepth 100000
set_option maxHeartbeats 4000000
end Go.Proofs.YtipeblmgochdfaaGreat
