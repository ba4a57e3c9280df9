/- The walk of DeltaLays. Conditions: the operations that came in stand in memory. Opening a law's arguments, and reading them again behind the call. Conditions: the types can be read. -/
import Derived.Test.YtipeblmgochdfaaQ15
import Derived.Deep.Cut
import Derived.Test.YtipeblmgochdfaaQ01
import Derived.Carry
import Derived.Deep.Fields
import Derived.ShutString
namespace Go.Proofs.Ytipeblmgochdfaa
open Go.RowKit
set_option linter.unusedVariables false
set_option linter.unusedSimpArgs false
set_option linter.unnecessarySimpa false
set_option maxRecDepth 100000
set_option maxHeartbeats 4000000
theorem joinK_len (l : List OpM) (o : OpM) (f : Bool) : (joinK l o f).length ≤ l.length + 1 := by
 unfold joinK
 split
 ·simp
 ·split
  ·simp
  ·simp
theorem foldG_len (g : Nat → Option OpM) (n : Nat) : (foldG g n).1.length ≤ n := by
 induction n with
 | zero => simp [foldG]
 | succ n ih =>
  show (stepG g (foldG g n) n).1.length ≤ n + 1
  unfold stepG
  split
  ·simp only; omega
  ·have := joinK_len (foldG g n).1 ‹OpM› (foldG g n).2
   simp only; omega
theorem clash_len (d : Dev) (b l r : Int) (n : Nat) : (clashP d b l r n).length ≤ n := by
 unfold clashP
 rw [List.length_map]
 exact Nat.le_trans (List.length_filter_le _ _) (by simp)
theorem lay_len {d : Dev} (hok : DevOk d) (b l r : Int) : (layK d b l r).1.length ≤ 256 ∧ (layK d b l r).2.1.length ≤ 256 := by
 unfold layK
 split
 ·simp
 ·split
  ·simp
  ·obtain ⟨N, hN, hN9⟩ := size_nat hok b
   rw [hN, Int.toNat_natCast]
   have h1 := foldG_len (genP d b l r) N
   have h2 := clash_len d b l r N
   simp only
   omega
theorem lay_bad {d : Dev} {b l r : Int} (h : (layK d b l r).2.2 ≠ 0) : (layK d b l r).1 = [] := by
 unfold layK at h ⊢
 split
 ·rfl
 ·next h1 =>
  split
  ·rfl
  ·next h2 =>
   rw [if_neg h1, if_neg h2] at h
   exact absurd rfl h
theorem lay_may {d : Dev} (hok : DevOk d) (b l r : Int) : ∀ o ∈ (layK d b l r).1, o.may = true := by
 by_cases h : (layK d b l r).2.2 = 0
 ·obtain ⟨E, N, h1, _, _⟩ := lay_ok hok h
  exact h1.may
 ·rw [lay_bad h]
  simp
theorem neqBlk (B C : Byt) (hB : B.length = 256) (hC : C.length = 256) (w : World) : (binOp .neq 43 (.agg (bkC B)) (.agg (bkC C))).run Try.prog w = .ok (.bool (!(B == C))) w := by
 have h := run_equalIn_bytes w 9998 43 5 256 Try.underlying43 Try.underlying5 (fun _ => by kernel_rfl) B C hB hC
 rw [run_neq_struct]
 erw [h]
 rfl
section
variable {W : World} {ops : Array Oper} {rest : List Oper} {o : Oper} {a : Act} {Q : Exit → Act → World → Prop}
theorem wpVal (v : Value) (hw : Region.wanted o (yielded ops a.tmps) = true) (hv : (execOp a.eval o).run Try.prog W = .ok (.value v) W) (h : wpList Try.prog ops Q rest (a.put o.dst v) W) : wpList Try.prog ops Q (o :: rest) a W :=
 wpList_step fun K hK => by
  rw [if_pos hw]
  unfold Oper.wp
  rw [hv]
  exact hK _ _ h
theorem wpLoadBw (B : Nat) (cs : Array Value) (x : Operand) (hw : Region.wanted o (yielded ops a.tmps) = true) (ho : o.op = .load 43 x) (hx : a.eval x = .pointer (some ⟨B, 0, none⟩)) (hB : BlockAt W B cs 43) (hc : CellRow 256 cs)
  (h : wpList Try.prog ops Q rest (a.put o.dst (.agg cs)) W) : wpList Try.prog ops Q (o :: rest) a W := by
 have hrun := run_loadRow (P := Try.prog) B cs 43 _ hB Try.underlying43 rfl (by rw [hc.size]; exact infoBlk)
 exact wpVal (.agg cs) hw (by simp only [execOp, ho, hx, Sem.run_bind, hrun, Result.andThen_ok, Sem.run_pure]) h
end
theorem lays_big (l : List OpC) (n q : Nat) (A : Option Addr) (b lf r : Int) (w : World) (hC : CameO w A n q l) (hm : muchK l 40 = true) :
  Calls Try.prog 3 #[.slice A n q, .int .u64 b, .int .u64 lf, .int .u64 r] w fun e w' => e = .returned (.bool true) ∧ Gr w w' := by
 have HM := Lib.hid (fun W (hW : Gr w W) => lmuch_any l n hC.len 40 (by omega) A q W (hC.row.gr hW))
 have HK := Lib.hid (fun W => known_any W)
 rw [hm] at HM
 change Hid (∀ W, Gr w W → Calls Try.prog 4 #[.slice A n q, .int .i64 40] W fun e w' => e = .returned (.bool true) ∧ Gr W w') at HM
 clear hC hm
 go_enter Try.func3, Try.ntmps3
 go_wp2_with (first | (go_at_call 4; ((with_reducible refine (HM.out _ gri).mono ?_); rintro _ _ ⟨rfl, g1, rfl⟩)) | (go_at_call 5; ((with_reducible refine (HK.out _).mono ?_); rintro _ _ ⟨rfl, g2, rfl⟩)))
 go_ret
 exact ⟨rfl, gri⟩
theorem lays_few (l : List OpC) (n q : Nat) (A : Option Addr) (b lf r : Int) (w : World) (hC : CameO w A n q l) (hm : muchK l 40 = false) :
  Calls Try.prog 3 #[.slice A n q, .int .u64 b, .int .u64 lf, .int .u64 r] w fun e w' => e = .returned (.bool true) ∧ Gr w w' := by
 have HM := Lib.hid (fun W (hW : Gr w W) => lmuch_any l n hC.len 40 (by omega) A q W (hC.row.gr hW))
 have HK := Lib.hid (fun W => known_any W)
 obtain ⟨hle, hsm⟩ := muchK_no hm
 have hn40 : n ≤ 40 := by rw [← hC.len]; exact hle
 have HMD := Lib.hid (fun W (hW : Gr w W) => made_any l n hC.len (by omega) A q W (hC.row.gr hW) (fun x hx => ((hC.each x hx).ok (hsm x hx)).gr hW))
 rw [hm] at HM
 change Hid (∀ W, Gr w W → Calls Try.prog 4 #[.slice A n q, .int .i64 40] W fun e w' => e = .returned (.bool false) ∧ Gr W w') at HM
 have hok : DevOk (devOf (l.map (·.o))) := devOf_ok _
 have hdl : (devOf (l.map (·.o))).length ≤ 1000000 := by have := devOf_len (l.map (·.o)); rw [List.length_map] at this; omega
 generalize devOf (l.map (·.o)) = d at *
 have hmy := lay_may hok b lf r
 have hll := lay_len hok b lf r
 have HDL := Lib.hid hdl
 have HMY := Lib.hid hmy
 have HLL := Lib.hid hll
 have HOK := Lib.hid hok
 clear hC hm hle hsm hdl hmy hll hok
 go_enter Try.func3, Try.ntmps3
 go_wp2_with (first | (go_at_call 4; ((with_reducible refine (HM.out _ gri).mono ?_); rintro _ _ ⟨rfl, g1, rfl⟩)) | (go_at_call 6; ((with_reducible refine (HMD.out _ gri).mono ?_))))
 rintro _ _ ⟨D, R, rfl, hd, ⟨baseR, hr⟩, ⟨g2, rfl⟩⟩
 have HD := Lib.hid hd
 have HR := Lib.hid hr
 clear hd hr
 go_wp2_with (first | (go_at_call 7; ((with_reducible refine (dlay_q _ D d b lf r _ (HD.out.gr gri)).mono ?_))))
 rintro _ _ ⟨v1, v2, zs, rfl, ho1, hm1, hz1, hc1, ⟨g3, rfl⟩⟩
 obtain ⟨co, hco⟩ : ∃ co, co = (layK d b lf r).2.2 := ⟨_, rfl⟩
 obtain ⟨CL, hCL⟩ : ∃ CL, CL = (layK d b lf r).2.1 := ⟨_, rfl⟩
 rw [← hco]
 rw [← hCL] at hc1
 obtain ⟨A1, c1, rfl, hr1⟩ := own_row opIs ho1
 obtain ⟨A2, c2, hv2, hr2⟩ := own_row i64Is hc1
 subst hv2
 have HR1 := Lib.hid hr1
 have HR2 := Lib.hid hr2
 have HM1 := Lib.hid hm1
 have HZ1 := Lib.hid hz1
 have HCO := Lib.hid hco
 have HCL := Lib.hid hCL
 clear ho1 hm1 hz1 hc1 hr1 hr2 hco hCL
 go_wp2_with (first | (go_at_call 8; ((with_reducible refine (rlay_q _ R d b lf r _ (HR.out.gr gri) HDL.out).mono ?_))))
 rintro _ _ ⟨v3, v4, zs2, rfl, ho3, hm3, hz3, hc3, ⟨g4, rfl⟩⟩
 rw [← HCO.out]
 rw [← HCL.out] at hc3
 obtain ⟨A3, c3, rfl, hr3⟩ := own_row opIs ho3
 obtain ⟨A4, c4, hv4, hr4⟩ := own_row i64Is hc3
 subst hv4
 obtain ⟨W4, hW4⟩ : ∃ W4, W4 = grown (grown (grown (grown w g1) g2) g3) g4 := ⟨_, rfl⟩
 have hgw : Gr w W4 := by rw [hW4]; exact gri
 have hg3 : Gr (grown (grown (grown w g1) g2) g3) W4 := by rw [hW4]; exact gri
 have hg2 : Gr (grown (grown w g1) g2) W4 := by rw [hW4]; exact gri
 rw [← hW4] at hr3 hr4 hz3 ⊢
 clear hW4 ho3 hc3
 have hy := all_mayM HM1.out HMY.out
 have hy2 := all_mayM hm3 HMY.out
 have hlz : zs.length ≤ 256 := by have := congrArg List.length HM1.out; rw [List.length_map] at this; rw [this]; exact HLL.out.1
 have hlz2 : zs2.length ≤ 256 := by have := congrArg List.length hm3; rw [List.length_map] at this; rw [this]; exact HLL.out.1
 have hlc : CL.length ≤ 256 := by rw [HCL.out]; exact HLL.out.2
 have hall : (decide (zs.map (·.o) = zs2.map (·.o)) && zs.all fun z => mayM z.o) = true := by
  rw [HM1.out, hm3, decide_eq_true rfl, Bool.true_and, List.all_eq_true]
  exact fun z hz => hy z hz
 have HSO := Lib.hid (fun W (hW : Gr W4 W) => sameOps_any zs zs2 _ _ rfl rfl (by omega) (by omega) A1 A3 c1 c3 W ((HR1.out.gr hg3).gr hW) (hr3.gr hW) (fun z hz => (((HZ1.out z hz).in_ (hy z hz)).gr hg3).gr hW) (fun z hz => ((hz3 z hz).in_ (hy2 z hz)).gr hW))
 rw [hall] at HSO
 have HSI := Lib.hid (fun W (hW : Gr W4 W) => sameInts_any CL CL _ _ rfl rfl (by omega) (by omega) A2 A4 c2 c4 W ((HR2.out.gr hg3).gr hW) (hr4.gr hW))
 rw [decide_eq_true (rfl : CL = CL)] at HSI
 have HGW := Lib.hid hgw
 have HD4 := Lib.hid (HD.out.gr hg2)
 have hcc : (co != co) = false := by simp
 haveI := grc_of hgw
 haveI := from_of hgw
 have HY := Lib.hid hy
 have HR14 := Lib.hid (HR1.out.gr hg3)
 have HZ14 := Lib.hid (fun z hz => (HZ1.out z hz).gr hg3)
 have HR24 := Lib.hid (HR2.out.gr hg3)
 clear hgw hg3 hg2 hr3 hr4 hz3 hm3 hy hy2 hall HR1 HR2 HZ1 HD HR HDL HM HMD
 by_cases hc0 : co = 0
 ·subst hc0
  obtain ⟨E1, N, hE1, hL1, hC1⟩ := lay_ok HOK.out HCO.out.symm
  have hsw := lay_ok_swap HCO.out.symm
  have hs2 : (layK d b r lf).2.2 = 0 := by rw [hsw]
  obtain ⟨E2, N2, hE2, hL2, hC2⟩ := lay_ok HOK.out hs2
  obtain rfl : N2 = N := by have := hE1.size; have := hE2.size; omega
  have hn256 := hE1.le
  have hmy2 := lay_may HOK.out b r lf
  have hll2 := lay_len HOK.out b r lf
  rw [hsw] at hE2 hmy2 hll2
  rw [← HCL.out] at hsw hC1 hll2
  have HSW := Lib.hid hsw
  have HE1 := Lib.hid hE1
  have HE2 := Lib.hid hE2
  have HMY2 := Lib.hid hmy2
  have HLL2 := Lib.hid hll2
  have HC1 := Lib.hid hC1
  have HSZ := Lib.hid hE1.size
  have hlL1 := HLL.out.1
  clear hE1 hE2 hL1 hL2 hC1 hC2 hs2 hsw hmy2 hll2
  go_wp2_with (first | (go_at_call 9; ((with_reducible refine (HSO.out _ gri).mono ?_); rintro _ _ ⟨rfl, ga, rfl⟩)) | (go_at_call 10; ((with_reducible refine (HSI.out _ gri).mono ?_); rintro _ _ ⟨rfl, gb, rfl⟩)) | (go_at_call 7; ((with_reducible refine (dlay_q _ D d b r lf _ (HD4.out.gr gri)).mono ?_))))
  rintro _ _ ⟨v5, v6, zs3, rfl, ho5, hm5, hz5, hc5, ⟨g5, rfl⟩⟩
  rw [HSW.out] at hm5 hc5 ⊢
  simp only at hm5 hc5 ⊢
  obtain ⟨A5, c5, rfl, hr5⟩ := own_row opIs ho5
  obtain ⟨A6, c6, hv6, hr6⟩ := own_row i64Is hc5
  subst hv6
  have hy3 := all_mayM hm5 HMY2.out
  have hlz3 : zs3.length ≤ 256 := by have := congrArg List.length hm5; rw [List.length_map] at this; rw [this]; exact HLL2.out.1
  obtain ⟨W5, hW5⟩ : ∃ W5, W5 = grown (grown (grown W4 ga) gb) g5 := ⟨_, rfl⟩
  have hg5 : Gr W4 W5 := by rw [hW5]; exact gri
  rw [← hW5] at hr5 hr6 hz5 ⊢
  clear hW5 ho5 hc5
  haveI := grc_of hg5
  haveI := from_of hg5
  haveI := grc_of (HGW.out.trans hg5)
  have HSI2 := Lib.hid (fun W (hW : Gr W5 W) => sameInts_any CL CL _ _ rfl rfl (by omega) (by omega) A6 A2 c6 c2 W (hr6.gr hW) ((HR24.out.gr hg5).gr hW))
  rw [decide_eq_true (rfl : CL = CL)] at HSI2
  have HAP1 := Lib.hid (fun W (hW : Gr W5 W) => (apply_any _ D d zs _ rfl (by omega) A1 c1 W (HD4.out.gr (hg5.trans hW)) (HR14.out.gr (hg5.trans hW)) (fun z hz => ((HZ14.out z hz).gr (hg5.trans hW)).ok (HY.out z hz))).mono (fun e w' h => show (∃ Da, e = .returned (.tuple #[.pointer (some ⟨Da, 0, none⟩), .int .i64 0]) ∧ DevAt W.heap.size w' Da E1) ∧ Gr W w' from by
   obtain ⟨h, hg⟩ := h
   rw [HM1.out, HE1.out.app] at h
   rcases h with ⟨_, h⟩ | ⟨h, _⟩
   ·exact ⟨h, hg⟩
   ·exact absurd rfl h))
  have HAP2 := Lib.hid (fun W (hW : Gr W5 W) => (apply_any _ D d zs3 _ rfl (by omega) A5 c5 W (HD4.out.gr (hg5.trans hW)) (hr5.gr hW) (fun z hz => ((hz5 z hz).gr hW).ok (hy3 z hz))).mono (fun e w' h => show (∃ Da, e = .returned (.tuple #[.pointer (some ⟨Da, 0, none⟩), .int .i64 0]) ∧ DevAt W.heap.size w' Da E2) ∧ Gr W w' from by
   obtain ⟨h, hg⟩ := h
   rw [hm5, HE2.out.app] at h
   rcases h with ⟨_, h⟩ | ⟨h, _⟩
   ·exact ⟨h, hg⟩
   ·exact absurd rfl h))
  have HSIZE := Lib.hid (fun W (hW : Gr W5 W) => size_any _ D d b W (HD4.out.gr (hg5.trans hW)))
  rw [HSZ.out] at HSIZE
  have HG5 := Lib.hid (HGW.out.trans hg5)
  clear hg5 hr5 hr6 hz5 hm5 hy3 HSO HSI HD4 HR14 HZ14 HR24
  go_wp2_with (first | (go_at_call 10; ((with_reducible refine (HSI2.out _ gri).mono ?_); rintro _ _ ⟨rfl, gc, rfl⟩)) | (go_at_call 11; ((with_reducible refine (HAP1.out _ gri).mono ?_))))
  rintro _ _ ⟨⟨Da, rfl, hda⟩, ⟨gd, rfl⟩⟩
  go_wp2_with (first | (go_at_call 11; ((with_reducible refine (HAP2.out _ gri).mono ?_))))
  rintro _ _ ⟨⟨Db, rfl, hdb⟩, ⟨ge, rfl⟩⟩
  obtain ⟨W7, hW7⟩ : ∃ W7, W7 = grown (grown (grown W5 gc) gd) ge := ⟨_, rfl⟩
  have hg7 : Gr W5 W7 := by rw [hW7]; exact gri
  have HDA := Lib.hid (show DevAt _ W7 Da E1 from by rw [hW7]; exact hda.gr gri)
  rw [← hW7] at hdb ⊢
  have HDB := Lib.hid hdb
  clear hW7 hda hdb
  haveI := grc_of hg7
  haveI := from_of hg7
  haveI := grc_of (HG5.out.trans hg7)
  have HG7 := Lib.hid hg7
  clear hg7
  go_wp2_with ((go_at_call 12; ((with_reducible refine (HSIZE.out _ gri).mono ?_); rintro _ _ ⟨rfl, gf, rfl⟩)))
  go_loopw [26] (fun v26 wr => ∃ k : Nat, k ≤ N2 ∧ v26 = .int .i64 (k : Int) ∧ Gr W7 wr) (fun v _ => N2 - (intOf v).toNat)
  case atStart => exact ⟨0, Nat.zero_le _, rfl, gri⟩
  case round =>
   obtain ⟨k, hk, rfl, hg⟩ := hrel
   haveI := grc_of hg
   haveI := from_of hg
   by_cases hlt : k < N2
   ·have HBA := Lib.hid (fun W (hW : Gr wr W) => block_any _ Da E1 r (k : Int) W (HDA.out.gr (hg.trans hW)))
    have HBB := Lib.hid (fun W (hW : Gr wr W) => block_any _ Db E2 lf (k : Int) W (HDB.out.gr (hg.trans hW)))
    have hoka : DevOk E1 := by obtain ⟨M, mb, h⟩ := HDA.out; exact h.ok
    have hokb : DevOk E2 := by obtain ⟨M, mb, h⟩ := HDB.out; exact h.ok
    have l1 := blkK_len hoka r (k : Int)
    have l2 := blkK_len hokb lf (k : Int)
    have HG := Lib.hid hg
    by_cases hC0 : CL = []
    ·rw [← lay_same HE1.out HE2.out (by rw [← HC1.out]; exact hC0) k hlt] at HBB
     have hnq := fun W => neqBlk _ _ l1 l1 W
     generalize blkK E1 r (k : Int) = X at *
     generalize X.getD zB = Y at *
     generalize X.isSome = s at *
     haveI := bkC_row l1
     have hqq : (Y == Y) = true := by simp
     have hss : (s == s) = true := by simp
     have hz0 : ((CL.length : Int) == 0) = true := by simp [hC0]
     clear hoka hokb l2 hg hC0
     go_wp2_with (first | (go_at_call 13; ((with_reducible refine (HBA.out _ gri).mono ?_))))
     rintro _ _ ⟨rfl, gx, rfl⟩
     go_wp2_with (first | (refine wpStoreB rfl _ _ rfl _ _ _ rfl rfl inferInstance inferInstance inferInstance ?_) | (go_at_call 13; ((with_reducible refine (HBB.out _ gri).mono ?_))))
     rintro _ _ ⟨rfl, gy, rfl⟩
     obtain ⟨B27, hB27⟩ : ∃ B, B = (grown wr gx).heap.size := ⟨_, rfl⟩
     obtain ⟨W8, hW8⟩ : ∃ W8, W8 = grown (((grown wr gx).alloc (.cells Try.zeroCells43 43)).setRow (grown wr gx).heap.size (bkC Y)) gy := ⟨_, rfl⟩
     have b27 : BlockAt W8 B27 (bkC Y) 43 := by rw [hW8, hB27]; infer_instance
     have g8 : Gr wr W8 := by rw [hW8]; exact gri
     rw [← hW8]
     try rw [← hB27]
     clear hW8 hB27
     haveI := grc_of g8
     haveI := from_of g8
     haveI := b27.old
     go_upto_region 23 with (first | (refine wpStoreB rfl _ _ rfl _ _ _ rfl rfl inferInstance inferInstance inferInstance ?_))
     obtain ⟨B29, hB29⟩ : ∃ B, B = W8.heap.size := ⟨_, rfl⟩
     obtain ⟨W9, hW9⟩ : ∃ W9, W9 = (W8.alloc (.cells Try.zeroCells43 43)).setRow W8.heap.size (bkC Y) := ⟨_, rfl⟩
     have c27 : BlockAt W9 B27 (bkC Y) 43 := by rw [hW9]; infer_instance
     have c29 : BlockAt W9 B29 (bkC Y) 43 := by rw [hW9, hB29]; infer_instance
     have g9 : Gr wr W9 := by rw [hW9]; exact gri
     rw [← hW9]
     try rw [← hB29]
     clear hW9 hB29 b27 g8
     have HG9 := Lib.hid g9
     haveI := grc_of g9
     clear HSW HC1 HE1 HE2 HCL HLL2 HDA HDB HSI2 HAP1 HAP2 HBA HBB HSIZE hlc HOK HM1 HMY HMY2 HY HCO HLL
     haveI := c27
     haveI := c29
     apply wp_region_lit
     refine wpVal (.slice A2 CL.length c2) rfl (by go_simp) ?_
     simp only [Act.put, List.setIfInBounds_toArray, List.set_cons_zero, List.set_cons_succ]
     refine wpVal (.int .i64 (CL.length : Int)) rfl (by go_simp) ?_
     simp only [Act.put, List.setIfInBounds_toArray, List.set_cons_zero, List.set_cons_succ]
     refine wpVal (.bool true) rfl (by go_simp) ?_
     simp only [Act.put, List.setIfInBounds_toArray, List.set_cons_zero, List.set_cons_succ]
     refine wpVal (.bool true) rfl (by go_simp) ?_
     simp only [Act.put, List.setIfInBounds_toArray, List.set_cons_zero, List.set_cons_succ]
     refine wpLoadBw B27 (bkC Y) _ rfl rfl rfl inferInstance inferInstance ?_
     simp only [Act.put, List.setIfInBounds_toArray, List.set_cons_zero, List.set_cons_succ]
     refine wpLoadBw B29 (bkC Y) _ rfl rfl rfl inferInstance inferInstance ?_
     simp only [Act.put, List.setIfInBounds_toArray, List.set_cons_zero, List.set_cons_succ]
     refine wpVal (.bool false) rfl (by go_simp) ?_
     simp only [Act.put, List.setIfInBounds_toArray, List.set_cons_zero, List.set_cons_succ]
     refine wpVal (.bool false) rfl (by go_simp) ?_
     simp only [Act.put, List.setIfInBounds_toArray, List.set_cons_zero, List.set_cons_succ]
     refine wpVal (.bool s) rfl (by go_simp) ?_
     simp only [Act.put, List.setIfInBounds_toArray, List.set_cons_zero, List.set_cons_succ]
     refine wpVal (.bool s) rfl (by go_simp) ?_
     simp only [Act.put, List.setIfInBounds_toArray, List.set_cons_zero, List.set_cons_succ]
     refine wpVal (.bool false) rfl (by go_simp) ?_
     simp only [Act.put, List.setIfInBounds_toArray, List.set_cons_zero, List.set_cons_succ]
     refine wpVal (.bool false) rfl (by go_simp) ?_
     simp only [Act.put, List.setIfInBounds_toArray, List.set_cons_zero, List.set_cons_succ]
     refine wpVal (.bool false) rfl (by go_simp) ?_
     simp only [Act.put, List.setIfInBounds_toArray, List.set_cons_zero, List.set_cons_succ]
     go_wp2
     go_roundw
     case rel => exact ⟨k + 1, hlt, by go_num, HG.out.trans gri⟩
     case measure => simp [intOf]; omega
    ·have hz0 : ((CL.length : Int) == 0) = false := by
      have : 0 < CL.length := List.length_pos_iff.2 hC0
      simp; omega
     clear hoka hokb hg hC0
     generalize (blkK E1 r (k : Int)).getD zB = X1 at *
     generalize (blkK E1 r (k : Int)).isSome = s1 at *
     generalize (blkK E2 lf (k : Int)).getD zB = X2 at *
     generalize (blkK E2 lf (k : Int)).isSome = s2 at *
     haveI := bkC_row l1
     haveI := bkC_row l2
     go_wp2_with (first | (go_at_call 13; ((with_reducible refine (HBA.out _ gri).mono ?_))))
     rintro _ _ ⟨rfl, gx, rfl⟩
     go_wp2_with (first | (refine wpStoreB rfl _ _ rfl _ _ _ rfl rfl inferInstance inferInstance inferInstance ?_) | (go_at_call 13; ((with_reducible refine (HBB.out _ gri).mono ?_))))
     rintro _ _ ⟨rfl, gy, rfl⟩
     obtain ⟨B27, hB27⟩ : ∃ B, B = (grown wr gx).heap.size := ⟨_, rfl⟩
     obtain ⟨W8, hW8⟩ : ∃ W8, W8 = grown (((grown wr gx).alloc (.cells Try.zeroCells43 43)).setRow (grown wr gx).heap.size (bkC X1)) gy := ⟨_, rfl⟩
     have b27 : BlockAt W8 B27 (bkC X1) 43 := by rw [hW8, hB27]; infer_instance
     have g8 : Gr wr W8 := by rw [hW8]; exact gri
     rw [← hW8]
     try rw [← hB27]
     clear hW8 hB27
     haveI := grc_of g8
     haveI := from_of g8
     haveI := b27.old
     go_upto_region 23 with (first | (refine wpStoreB rfl _ _ rfl _ _ _ rfl rfl inferInstance inferInstance inferInstance ?_))
     obtain ⟨B29, hB29⟩ : ∃ B, B = W8.heap.size := ⟨_, rfl⟩
     obtain ⟨W9, hW9⟩ : ∃ W9, W9 = (W8.alloc (.cells Try.zeroCells43 43)).setRow W8.heap.size (bkC X2) := ⟨_, rfl⟩
     have c27 : BlockAt W9 B27 (bkC X1) 43 := by rw [hW9]; infer_instance
     have c29 : BlockAt W9 B29 (bkC X2) 43 := by rw [hW9, hB29]; infer_instance
     have g9 : Gr wr W9 := by rw [hW9]; exact gri
     rw [← hW9]
     try rw [← hB29]
     clear hW9 hB29 b27 g8
     have HG9 := Lib.hid g9
     haveI := grc_of g9
     clear HSW HC1 HE1 HE2 HCL HLL2 HDA HDB HSI2 HAP1 HAP2 HBA HBB HSIZE hlc HOK HM1 HMY HMY2 HY HCO HLL
     clear c27 c29
     go_wp2
     go_roundw
     case rel => exact ⟨k + 1, hlt, by go_num, HG.out.trans gri⟩
     case measure => simp [intOf]; omega
   ·have HG := Lib.hid hg
    clear hg
    go_wp2_with ((go_at_call 5; ((with_reducible refine (HK.out _).mono ?_); rintro _ _ ⟨rfl, gz, rfl⟩)))
    go_ret
    exact ⟨rfl, (HG5.out.trans HG7.out).trans (HG.out.trans gri)⟩
 ·have hc1 : (co != 0) = true := by simp [hc0]
  go_wp2_with (first | (go_at_call 9; ((with_reducible refine (HSO.out _ gri).mono ?_); rintro _ _ ⟨rfl, ga, rfl⟩)) | (go_at_call 10; ((with_reducible refine (HSI.out _ gri).mono ?_); rintro _ _ ⟨rfl, gb, rfl⟩)) | (go_at_call 5; ((with_reducible refine (HK.out _).mono ?_); rintro _ _ ⟨rfl, gc, rfl⟩)))
  go_ret
  exact ⟨rfl, HGW.out.trans gri⟩
end Go.Proofs.Ytipeblmgochdfaa
namespace Go.Proofs.Ytipeblmgochdfaa
open Go.ChangeShapes Go.WideShapes Go.ChangeAt Go.RowKit Go.Deep
section
variable {H : Type} {enc : TypeId × Value → H} {P : Program}
def typesRead (P : Program) (ts : List TypeId) : Bool := ts.all fun t => P.readableRec t && decide (t < P.types.size)
theorem trodAll_below (hl : laidOutB P = true) {W W' : World} (hb : Below W.heap.size W W') :
  ∀ {ts : List TypeId} {vs : List Value} {ds : List (DataW H)} {ps : List MemPlace}, typesRead P ts = true →
   DataW.TrodAll enc P W 0 (fun _ => true) true ts vs ds ps → (∀ x ∈ ps, x.block < W.heap.size) → DataW.TrodAll enc P W' 0 (fun b => decide (b < W.heap.size)) true ts vs ds ps
 | [], [], [], _, _, h, _ => h
 | [], [], _ :: _, _, _, h, _ => h.elim
 | [], _ :: _, _, _, _, h, _ => h.elim
 | _ :: _, [], _, _, _, h, _ => h.elim
 | _ :: _, _ :: _, [], _, _, h, _ => h.elim
 | t :: ts, v :: vs, d :: ds, ps, hr, h, hlt => by
  obtain ⟨p, q, h1, h2, rfl⟩ := h
  simp only [typesRead, List.all_cons, Bool.and_eq_true, decide_eq_true_eq] at hr
  exact ⟨p, q, Below.trod hl hr.1.1 hr.1.2 h1 hb (fun x hx => hlt x (by simp [hx])), trodAll_below hl hb (by simpa [typesRead] using hr.2) h2 (fun x hx => hlt x (by simp [hx])), rfl⟩
variable {w : World} {base : Nat} {spare : Nat → Bool} {held : Bool}
end
end Go.Proofs.Ytipeblmgochdfaa
