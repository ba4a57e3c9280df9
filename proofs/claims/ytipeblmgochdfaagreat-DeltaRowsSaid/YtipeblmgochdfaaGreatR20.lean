/- The walk of DeltaRows. Conditions: the operations that came in stand in memory. Opening a law's arguments, and reading them again behind the call. Conditions: the types can be read. -/
import Derived.Test.YtipeblmgochdfaaGreatR13
import Derived.Test.YtipeblmgochdfaaGreatR19
import Derived.Test.YtipeblmgochdfaaGreatR01
import Derived.Carry
import Derived.Deep.Fields
import Derived.ShutString
namespace Go.Proofs.YtipeblmgochdfaaGreat
open Go.RowKit
set_option linter.unusedVariables false
set_option linter.unusedSimpArgs false
set_option linter.unnecessarySimpa false
set_option maxRecDepth 100000
set_option maxHeartbeats 4000000
theorem rowsK_len {d : Dev} (hok : DevOk d) (l r : Int) : (rowsK d l r).length ≤ 256 ∧ sumS (rowsK d l r) ≤ 256 := by
 have h1 := sizeK_le hok l
 have h2 := sizeK_le hok r
 unfold rowsK
 split
 ·have h3 := strK_len (fun b => kindK d l r b) (maxK d l r)
  have h4 := strK_sum (fun b => kindK d l r b) (maxK d l r)
  unfold sumS
  rw [h4]
  unfold maxK at *
  omega
 ·simp [sumS]
theorem rws_big (l : List OpC) (n q : Nat) (A : Option Addr) (lf r : Int) (w : World) (hC : CameO w A n q l) (hm : muchK l 40 = true) :
  Calls Tryz.prog 4 #[.slice A n q, .int .u64 lf, .int .u64 r] w fun e w' => e = .returned (.bool true) ∧ Gr w w' := by
 have HM := Lib.hid (fun W (hW : Gr w W) => lmuch_any l n hC.len 40 (by omega) A q W (hC.row.gr hW))
 have HK := Lib.hid (fun W => known_any W)
 rw [hm] at HM
 change Hid (∀ W, Gr w W → Calls Tryz.prog 14 #[.slice A n q, .int .i64 40] W fun e w' => e = .returned (.bool true) ∧ Gr W w') at HM
 clear hC hm
 go_enter Tryz.func4, Tryz.ntmps4
 go_wp2_with (first | (go_at_call 14; ((with_reducible refine (HM.out _ gri).mono ?_); rintro _ _ ⟨rfl, g1, rfl⟩)) | (go_at_call 13; ((with_reducible refine (HK.out _).mono ?_); rintro _ _ ⟨rfl, g2, rfl⟩)))
 go_ret
 exact ⟨rfl, gri⟩
theorem rws_few (l : List OpC) (n q : Nat) (A : Option Addr) (lf r : Int) (w : World) (hC : CameO w A n q l) (hm : muchK l 40 = false) :
  Calls Tryz.prog 4 #[.slice A n q, .int .u64 lf, .int .u64 r] w fun e w' => e = .returned (.bool true) ∧ Gr w w' := by
 have HM := Lib.hid (fun W (hW : Gr w W) => lmuch_any l n hC.len 40 (by omega) A q W (hC.row.gr hW))
 have HK := Lib.hid (fun W => known_any W)
 obtain ⟨hle, hsm⟩ := muchK_no hm
 have hn40 : n ≤ 40 := by rw [← hC.len]; exact hle
 have HMD := Lib.hid (fun W (hW : Gr w W) => made_any l n hC.len (by omega) A q W (hC.row.gr hW) (fun x hx => ((hC.each x hx).ok (hsm x hx)).gr hW))
 rw [hm] at HM
 change Hid (∀ W, Gr w W → Calls Tryz.prog 14 #[.slice A n q, .int .i64 40] W fun e w' => e = .returned (.bool false) ∧ Gr W w') at HM
 have hok : DevOk (devOf (l.map (·.o))) := devOf_ok _
 have hdl : (devOf (l.map (·.o))).length ≤ 40 := by have := devOf_len (l.map (·.o)); rw [List.length_map] at this; omega
 generalize devOf (l.map (·.o)) = d at *
 have HDL := Lib.hid hdl
 have HRL := Lib.hid (rowsK_len hok lf r)
 have HSW := Lib.hid (rowsK_sw d lf r)
 have HCW := Lib.hid (chkK_sw d lf r)
 have HWH := Lib.hid (rowsK_whole d lf r)
 clear hC hm hle hsm hdl hok
 go_enter Tryz.func4, Tryz.ntmps4
 go_wp2_with (first | (go_at_call 14; ((with_reducible refine (HM.out _ gri).mono ?_); rintro _ _ ⟨rfl, g1, rfl⟩)) | (go_at_call 15; ((with_reducible refine (HMD.out _ gri).mono ?_))))
 rintro _ _ ⟨D, R, rfl, hd, ⟨baseR, hr⟩, ⟨g2, rfl⟩⟩
 have HD := Lib.hid hd
 have HR := Lib.hid hr
 clear hd hr
 go_wp2_with (first | (go_at_call 6; ((with_reducible refine (rows_any _ D d lf r _ (HD.out.gr gri)).mono ?_))))
 rintro _ _ ⟨v1, rfl, ho1, ⟨g3, rfl⟩⟩
 obtain ⟨co, hco⟩ : ∃ co, co = chkK d [lf, r] := ⟨_, rfl⟩
 obtain ⟨X, hX⟩ : ∃ X, X = rowsK d lf r := ⟨_, rfl⟩
 obtain ⟨N, hN⟩ : ∃ N, N = X.length := ⟨_, rfl⟩
 have HCO := Lib.hid hco
 have HX := Lib.hid hX
 have HNX := Lib.hid hN
 rw [← hco]
 rw [← hX] at ho1 HRL HSW HWH
 obtain ⟨A1, c1, rfl, hr1⟩ := own_row strIs ho1
 rw [← hN]
 have HR1 := Lib.hid hr1
 clear ho1 hr1 hco hX hN
 go_wp2_with (first | (go_at_call 16; ((with_reducible refine (rrows_any _ R d lf r _ (HR.out.gr gri) (by have := HDL.out; omega)).mono ?_))))
 rintro _ _ ⟨v2, rfl, ho2, ⟨g4, rfl⟩⟩
 rw [← HCO.out]
 rw [← HX.out] at ho2
 obtain ⟨A2, c2, rfl, hr2⟩ := own_row strIs ho2
 rw [← HNX.out]
 have HR2 := Lib.hid hr2
 clear ho2 hr2
 go_wp2_with (first | (go_at_call 6; ((with_reducible refine (rows_any _ D d r lf _ (HD.out.gr gri)).mono ?_))))
 rintro _ _ ⟨v3, rfl, ho3, ⟨g5, rfl⟩⟩
 rw [HCW.out, ← HCO.out]
 rw [HSW.out] at ho3
 obtain ⟨A3, c3, rfl, hr3⟩ := own_row strIs ho3
 rw [List.length_map, ← HNX.out]
 have HR3 := Lib.hid hr3
 clear ho3 hr3
 obtain ⟨W5, hW5⟩ : ∃ W5, W5 = grown (grown (grown (grown (grown w g1) g2) g3) g4) g5 := ⟨_, rfl⟩
 have hgw : Gr w W5 := by rw [hW5]; exact gri
 have q1 := HR1.out.gr (show Gr _ W5 by rw [hW5]; exact gri)
 have q2 := HR2.out.gr (show Gr _ W5 by rw [hW5]; exact gri)
 have q3 := HR3.out
 rw [← hW5] at q3
 have q4 := HD.out.gr (show Gr _ W5 by rw [hW5]; exact gri)
 have q5 := HR.out.gr (show Gr _ W5 by rw [hW5]; exact gri)
 rw [← hW5]
 clear hW5
 have hN9 : N ≤ 256 := by rw [HNX.out]; exact HRL.out.1
 have hd9 := HDL.out
 have P1 := Lib.hid (fun W (hW : Gr W5 W) => same_any X X N N HNX.out.symm HNX.out.symm (by omega) (by omega) A1 A2 c1 c2 W (q1.gr hW) (q2.gr hW))
 rw [decide_eq_true (rfl : X = X)] at P1
 have P2 := Lib.hid (fun W (hW : Gr W5 W) => turned_any X N HNX.out.symm (by omega) A1 c1 W (q1.gr hW))
 have P3 := Lib.hid (fun W (hW : Gr W5 W) A4 c4 (h4 : RowN strE W A4 (X.map turnK)) => same_any (X.map turnK) (X.map turnK) N N (by rw [List.length_map]; exact HNX.out.symm) (by rw [List.length_map]; exact HNX.out.symm) (by omega) (by omega) A3 A4 c3 c4 W (q3.gr hW) h4)
 rw [decide_eq_true (rfl : X.map turnK = X.map turnK)] at P3
 have P4 := Lib.hid (fun W (hW : Gr W5 W) => whole_any X N HNX.out.symm (by omega) A1 c1 HWH.out (by have := HRL.out.2; omega) W (q1.gr hW))
 have P5 := Lib.hid (fun W (hW : Gr W5 W) => bytes_any _ D d hd9 W (q4.gr hW))
 have P6 := Lib.hid (fun W (hW : Gr W5 W) => rbytes_any _ R d hd9 W (q5.gr hW))
 have HGW := Lib.hid hgw
 clear hgw q1 q2 q3 q4 q5 HR1 HR2 HR3 HD HR HM HMD hN9 hd9
 go_wp2
 obtain ⟨s0, hs0⟩ : ∃ s0 : StJ, s0 = ⟨fun w' => Gr W5 w', fun _ => True⟩ := ⟨_, rfl⟩
 have hS : ∀ w1 w2, s0.j w1 → Gr w1 w2 → s0.j w2 := fun w1 w2 h g => by rw [hs0] at h ⊢; exact Gr.trans h g
 have hS2 : ∀ w1, s0.j w1 → Gr W5 w1 := fun w1 h => by rw [hs0] at h; exact h
 have hS3 : ∀ w1, Gr W5 w1 → s0.j w1 := fun w1 h => by rw [hs0]; exact h
 have hS4 : ∀ w1, s0.e w1 := fun w1 => by rw [hs0]; trivial
 have HS := Lib.hid hS
 have HS2 := Lib.hid hS2
 have HS3 := Lib.hid hS3
 have HS4 := Lib.hid hS4
 clear hs0 hS hS2 hS3 hS4
 refine wp_region_plan s0 (HS3.out _ gri) (HS4.out _) [(true, 0), (true, 1), (false, 2), (true, 3), (true, 4), (true, 5), (true, 6), (true, 7), (true, 8), (true, 9), (true, 10), (true, 11), (true, 12), (true, 13), (true, 14), (true, 15), (false, 16), (false, 17), (true, 18), (true, 19), (true, 20), (false, 21), (true, 22), (true, 23), (true, 24), (true, 27), (false, 25), (true, 26), (false, 28), (true, 29), (true, 30), (true, 31), (true, 32), (false, 33), (true, 34), (true, 35)] (by kernel_rfl) (by kernel_rfl) ?_
 simp only [pickP, pick, List.drop, List.take, List.nil_append, List.cons_append, List.map_cons, List.map_nil]
 refine p_same (.slice A1 N c1) rfl rfl (fun w1 hj => by go_simp) ?_
 simp only [Act.put, List.setIfInBounds_toArray, List.set]
 refine p_same (.slice A2 N c2) rfl rfl (fun w1 hj => by go_simp) ?_
 simp only [Act.put, List.setIfInBounds_toArray, List.set]
 refine p_eff rfl rfl (fun w1 hj he => effAt_call' 17 #[.slice A1 N c1, .slice A2 N c2] (by go_simp) ((P1.out w1 (HS2.out _ hj)).mono fun e w2 hc => ?_))
 obtain ⟨rfl, hg⟩ := hc
 refine ⟨_, rfl, s0, ⟨HS.out _ _ hj hg, HS4.out _⟩, fun _ h => h, ?_⟩
 clear hg hj he w2 w1
 simp only [Act.put, List.setIfInBounds_toArray, List.set]
 refine p_same (.bool true) rfl rfl (fun w1 hj => by go_simp) ?_
 simp only [Act.put, List.setIfInBounds_toArray, List.set]
 refine p_same (.int .i64 co) rfl rfl (fun w1 hj => by go_simp) ?_
 simp only [Act.put, List.setIfInBounds_toArray, List.set]
 refine p_same (.int .i64 co) rfl rfl (fun w1 hj => by go_simp) ?_
 simp only [Act.put, List.setIfInBounds_toArray, List.set]
 refine p_same (.bool true) rfl rfl (fun w1 hj => by go_simp) ?_
 simp only [Act.put, List.setIfInBounds_toArray, List.set]
 refine p_same (.bool true) rfl rfl (fun w1 hj => by go_simp) ?_
 simp only [Act.put, List.setIfInBounds_toArray, List.set]
 refine p_same (.bool true) rfl rfl (fun w1 hj => by go_simp) ?_
 simp only [Act.put, List.setIfInBounds_toArray, List.set]
 refine p_same (.int .i64 co) rfl rfl (fun w1 hj => by go_simp) ?_
 simp only [Act.put, List.setIfInBounds_toArray, List.set]
 refine p_same (.int .i64 co) rfl rfl (fun w1 hj => by go_simp) ?_
 simp only [Act.put, List.setIfInBounds_toArray, List.set]
 refine p_same (.bool true) rfl rfl (fun w1 hj => by go_simp) ?_
 simp only [Act.put, List.setIfInBounds_toArray, List.set]
 refine p_same (.bool true) rfl rfl (fun w1 hj => by go_simp) ?_
 simp only [Act.put, List.setIfInBounds_toArray, List.set]
 refine p_same (.bool true) rfl rfl (fun w1 hj => by go_simp) ?_
 simp only [Act.put, List.setIfInBounds_toArray, List.set]
 refine p_same (.slice A3 N c3) rfl rfl (fun w1 hj => by go_simp) ?_
 simp only [Act.put, List.setIfInBounds_toArray, List.set]
 refine p_same (.slice A1 N c1) rfl rfl (fun w1 hj => by go_simp) ?_
 simp only [Act.put, List.setIfInBounds_toArray, List.set]
 refine p_eff rfl rfl (fun w1 hj he => effAt_call' 18 #[.slice A1 N c1] (by go_simp) ((P2.out w1 (HS2.out _ hj)).mono fun e w2 hc => ?_))
 obtain ⟨v4, rfl, ho4, hg⟩ := hc
 obtain ⟨A4, c4, rfl, hr4⟩ := own_row strIs ho4
 rw [List.length_map, ← HNX.out]
 refine ⟨_, rfl, ⟨s0.j, fun w' => RowN strE w' A4 (X.map turnK)⟩, ⟨HS.out _ _ hj hg, hr4⟩, fun _ h => h, ?_⟩
 clear hr4 ho4 hg hj he w2 w1
 simp only [Act.put, List.setIfInBounds_toArray, List.set]
 refine p_eff rfl rfl (fun w1 hj he => effAt_call' 17 #[.slice A3 N c3, .slice A4 N c4] (by go_simp) ((P3.out w1 (HS2.out _ hj) A4 c4 he).mono fun e w2 hc => ?_))
 obtain ⟨rfl, hg⟩ := hc
 refine ⟨_, rfl, s0, ⟨HS.out _ _ hj hg, HS4.out _⟩, fun _ h => h, ?_⟩
 clear hg hj he w2 w1
 simp only [Act.put, List.setIfInBounds_toArray, List.set]
 refine p_same (.bool true) rfl rfl (fun w1 hj => by go_simp) ?_
 simp only [Act.put, List.setIfInBounds_toArray, List.set]
 refine p_same (.bool true) rfl rfl (fun w1 hj => by go_simp) ?_
 simp only [Act.put, List.setIfInBounds_toArray, List.set]
 refine p_same (.slice A1 N c1) rfl rfl (fun w1 hj => by go_simp) ?_
 simp only [Act.put, List.setIfInBounds_toArray, List.set]
 refine p_eff rfl rfl (fun w1 hj he => effAt_call' 19 #[.slice A1 N c1] (by go_simp) ((P4.out w1 (HS2.out _ hj)).mono fun e w2 hc => ?_))
 obtain ⟨rfl, hg⟩ := hc
 refine ⟨_, rfl, s0, ⟨HS.out _ _ hj hg, HS4.out _⟩, fun _ h => h, ?_⟩
 clear hg hj he w2 w1
 simp only [Act.put, List.setIfInBounds_toArray, List.set]
 refine p_same (.bool true) rfl rfl (fun w1 hj => by go_simp) ?_
 simp only [Act.put, List.setIfInBounds_toArray, List.set]
 refine p_same (.bool true) rfl rfl (fun w1 hj => by go_simp) ?_
 simp only [Act.put, List.setIfInBounds_toArray, List.set]
 refine p_same (.pointer (some ⟨D, 0, none⟩)) rfl rfl (fun w1 hj => by go_simp) ?_
 simp only [Act.put, List.setIfInBounds_toArray, List.set]
 refine p_same (.pointer (some ⟨R, 0, none⟩)) rfl rfl (fun w1 hj => by go_simp) ?_
 simp only [Act.put, List.setIfInBounds_toArray, List.set]
 refine p_eff rfl rfl (fun w1 hj he => effAt_call' 20 #[.pointer (some ⟨D, 0, none⟩)] (by go_simp) ((P5.out w1 (HS2.out _ hj)).mono fun e w2 hc => ?_))
 obtain ⟨v7, rfl, ho7, hg⟩ := hc
 obtain ⟨A7, c7, rfl, hr7⟩ := own_row bIs ho7
 obtain ⟨B7, hB7⟩ : ∃ B7, B7 = bytesK d := ⟨_, rfl⟩
 rw [← hB7] at hr7 P6 ⊢
 obtain ⟨N7, hN7⟩ : ∃ N7, N7 = B7.length := ⟨_, rfl⟩
 rw [← hN7]
 have HN7 := Lib.hid hN7
 refine ⟨_, rfl, ⟨fun w' => s0.j w' ∧ RowN bE w' A7 B7, fun _ => True⟩, ⟨⟨HS.out _ _ hj hg, hr7⟩, trivial⟩, fun _ h => h.1, ?_⟩
 clear hr7 ho7 hg hj he hB7 hN7 w2 w1
 simp only [Act.put, List.setIfInBounds_toArray, List.set]
 refine p_same (.string ⟨B7.toArray⟩) rfl rfl (fun w1 hj => by have hcv := conv_row A7 N7 c7 B7 w1 HN7.out.symm (rowN_b hj.2); go_simp) ?_
 simp only [Act.put, List.setIfInBounds_toArray, List.set]
 refine p_eff rfl rfl (fun w1 hj he => effAt_call' 21 #[.pointer (some ⟨R, 0, none⟩)] (by go_simp) ((P6.out w1 (HS2.out _ hj.1)).mono fun e w2 hc => ?_))
 obtain ⟨v8, rfl, ho8, hg⟩ := hc
 obtain ⟨A8, c8, rfl, hr8⟩ := own_row bIs ho8
 rw [← HN7.out]
 refine ⟨_, rfl, ⟨fun w' => s0.j w' ∧ RowN bE w' A7 B7 ∧ RowN bE w' A8 B7, fun _ => True⟩, ⟨⟨HS.out _ _ hj.1 hg, hj.2.gr hg, hr8⟩, trivial⟩, fun _ h => ⟨h.1, h.2.1⟩, ?_⟩
 clear hr8 ho8 hg hj he w2 w1
 simp only [Act.put, List.setIfInBounds_toArray, List.set]
 refine p_same (.string ⟨B7.toArray⟩) rfl rfl (fun w1 hj => by have hcv := conv_row A8 N7 c8 B7 w1 HN7.out.symm (rowN_b hj.2.2); go_simp) ?_
 simp only [Act.put, List.setIfInBounds_toArray, List.set]
 refine p_same (.bool true) rfl rfl (fun w1 hj => by go_simp) ?_
 simp only [Act.put, List.setIfInBounds_toArray, List.set]
 refine p_same (.bool true) rfl rfl (fun w1 hj => by go_simp) ?_
 simp only [Act.put, List.setIfInBounds_toArray, List.set]
 refine p_same (.bool true) rfl rfl (fun w1 hj => by go_simp) ?_
 simp only [Act.put, List.setIfInBounds_toArray, List.set]
 refine p_eff rfl rfl (fun w1 hj he => effAt_call' 13 #[] (by go_simp) ((HK.out w1).mono fun e w2 hc => ?_))
 obtain ⟨rfl, hg⟩ := hc
 refine ⟨_, rfl, ⟨fun w' => s0.j w' ∧ RowN bE w' A7 B7 ∧ RowN bE w' A8 B7, fun _ => True⟩, ⟨⟨HS.out _ _ hj.1 hg, hj.2.1.gr hg, hj.2.2.gr hg⟩, trivial⟩, fun _ h => h, ?_⟩
 clear hg hj he w2 w1
 simp only [Act.put, List.setIfInBounds_toArray, List.set]
 refine p_same (.bool true) rfl rfl (fun w1 hj => by go_simp) ?_
 simp only [Act.put, List.setIfInBounds_toArray, List.set]
 refine p_same (.bool true) rfl rfl (fun w1 hj => by go_simp) ?_
 simp only [Act.put, List.setIfInBounds_toArray, List.set]
 refine p_nil ?_
 intro w9 hj9 he9
 have HG9 := Lib.hid (HS2.out _ hj9.1)
 clear hj9 he9
 go_wp2
 go_ret
 exact ⟨rfl, HGW.out.trans HG9.out⟩
theorem rws_walk (l : List OpC) (n q : Nat) (A : Option Addr) (lf r : Int) (w : World) (hC : CameO w A n q l) :
  Calls Tryz.prog 4 #[.slice A n q, .int .u64 lf, .int .u64 r] w fun e w' => e = .returned (.bool true) ∧ Gr w w' := by
 cases hm : muchK l 40 with
 | true => exact rws_big l n q A lf r w hC hm
 | false => exact rws_few l n q A lf r w hC hm
end Go.Proofs.YtipeblmgochdfaaGreat
namespace Go.Proofs.YtipeblmgochdfaaGreat
open Go.ChangeShapes Go.WideShapes Go.ChangeAt Go.RowKit Go.Deep
section
variable {H : Type} {enc : TypeId × Value → H} {P : Program}
def typesRead (P : Program) (ts : List TypeId) : Bool := ts.all fun t => P.readableRec t && decide (t < P.types.size)
theorem trodAll_below (hl : laidOutB P = true) {W W' : World} (hb : Below W.heap.size W W') :
  ∀ {ts : List TypeId} {vs : List Value} {ds : List (DataW H)} {ps : List MemPlace}, typesRead P ts = true →
   DataW.TrodAll enc P W 0 (fun _ => true) true ts vs ds ps → (∀ x ∈ ps, x.block < W.heap.size) → DataW.TrodAll enc P W' 0 (fun b => decide (b < W.heap.size)) true ts vs ds ps
 | [], [], [], _, _, h, _ => h
 | [], [], _ :: _, _, _, h, _ => h.elim
 | [], _ :: _, _, _, _, h, _ => h.elim
 | _ :: _, [], _, _, _, h, _ => h.elim
 | _ :: _, _ :: _, [], _, _, h, _ => h.elim
 | t :: ts, v :: vs, d :: ds, ps, hr, h, hlt => by
  obtain ⟨p, q, h1, h2, rfl⟩ := h
  simp only [typesRead, List.all_cons, Bool.and_eq_true, decide_eq_true_eq] at hr
  exact ⟨p, q, Below.trod hl hr.1.1 hr.1.2 h1 hb (fun x hx => hlt x (by simp [hx])), trodAll_below hl hb (by simpa [typesRead] using hr.2) h2 (fun x hx => hlt x (by simp [hx])), rfl⟩
variable {w : World} {base : Nat} {spare : Nat → Bool} {held : Bool}
end
end Go.Proofs.YtipeblmgochdfaaGreat
