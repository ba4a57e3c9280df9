/- The chapter's row: known. Conditions: none. The walk of DeltaPatch. Conditions: the operations that came in stand in memory. Opening a law's arguments, and reading them again behind the call. Conditions: the types can be read. -/
import Derived.Test.YtipeblmgochdfaaGreatS18
import Derived.Test.YtipeblmgochdfaaGreatS19
import Derived.Test.YtipeblmgochdfaaGreatS01
import Derived.Carry
import Derived.Deep.Fields
import Derived.ShutString
namespace Go.Proofs.YtipeblmgochdfaaGreat
open Go.RowKit
set_option linter.unusedVariables false
set_option linter.unusedSimpArgs false
set_option linter.unnecessarySimpa false
set_option maxRecDepth 100000
set_option maxHeartbeats 4000000
theorem CellsN.rows {α : Type} {e : EK α} (he : e.Is) {W : World} {B : Nat} {cs : Array Value} {t : TypeId} (xs : List α) (hok : ∀ x ∈ xs, e.ok x) (h : BlockAt W B cs t) (hc : cs.toList = xs.flatMap e.cs) : CellsN e W B 0 xs := fun j x hj i u hu => by
 have := flatN_at he xs hok j i x u hj hu
 rw [Nat.zero_add, block_cells W B _ cs t, ← Array.getElem?_toList, hc]
 exact this
theorem known_block (v : Int) (b : Nat) (hb : b ≤ 1000) (c : UInt8) (a z : Int) (ha : a = (b : Int)) (hz : z = 4 * (b : Int)) (y : Int) (hy : y = c.toNat) (w : World) : Calls Tryz.prog 44 #[.int .u64 v, .int .i64 a, .int .u8 y] w fun e w' => ∃ B, e = .returned (.agg #[.int .i64 5, .int .u64 v, .int .u64 0, .int .i64 0, .int .i64 z, .int .i64 0, .slice (some ⟨B, 0, none⟩) 256 256]) ∧ BlockAt w' B (bkC (c :: List.replicate 255 0)) 5 ∧ Gr w w' := by
 subst ha hz hy
 exact lblock_any v b hb c w
theorem blk_cast {W : World} {B : Nat} {cs cs' : Array Value} {t : TypeId} (h : BlockAt W B cs t) (e : cs = cs') : BlockAt W B cs' t := by
 subst e
 exact h
theorem opOk_cr (v : Int) (hv : 0 ≤ v) (W : World) : OpOk W ⟨crO v, none, 0, 0⟩ where
 len := rfl
 cap := Nat.le_refl _
 small := Nat.zero_le _
 row := ⟨fun h => absurd rfl h⟩
 v0 := hv
 t0 := by show (0 : Int) ≤ 0; omega
theorem opOk_wr (v : Int) (hv : 0 ≤ v) (b : Nat) (c : UInt8) (W : World) (B : Nat) (h : BlockAt W B (bkC (c :: List.replicate 255 0)) 5) : OpOk W ⟨wrO v b c, some ⟨B, 0, none⟩, 256, 256⟩ where
 len := rfl
 cap := Nat.le_refl _
 small := by show 256 ≤ 1000000; omega
 row := ⟨fun _ => ⟨B, 0, rfl, h.lt, fun j x hj => by rw [Nat.zero_add, @block_cells _ _ _ _ _ h]; exact bkC_at hj⟩⟩
 v0 := hv
 t0 := by show (0 : Int) ≤ 0; omega
def knownC (B1 B2 B3 B4 B5 : Nat) : List OpC := [⟨crO 1, none, 0, 0⟩, ⟨crO 2, none, 0, 0⟩, ⟨wrO 1 0 120, some ⟨B1, 0, none⟩, 256, 256⟩, ⟨wrO 1 1 121, some ⟨B2, 0, none⟩, 256, 256⟩, ⟨wrO 2 0 120, some ⟨B3, 0, none⟩, 256, 256⟩, ⟨wrO 2 1 122, some ⟨B4, 0, none⟩, 256, 256⟩, ⟨wrO 2 2 121, some ⟨B5, 0, none⟩, 256, 256⟩]
theorem known_made (W : World) (B0 B1 B2 B3 B4 B5 : Nat) (h0 : BlockAt W B0 ((knownC B1 B2 B3 B4 B5).flatMap opE.cs).toArray 43) (h1 : BlockAt W B1 (bkC (120 :: List.replicate 255 0)) 5) (h2 : BlockAt W B2 (bkC (121 :: List.replicate 255 0)) 5) (h3 : BlockAt W B3 (bkC (120 :: List.replicate 255 0)) 5) (h4 : BlockAt W B4 (bkC (122 :: List.replicate 255 0)) 5) (h5 : BlockAt W B5 (bkC (121 :: List.replicate 255 0)) 5) :
  Calls Tryz.prog 15 #[.slice (some ⟨B0, 0, none⟩) 7 7] W fun e w' => ∃ D R, e = .returned (.tuple #[.pointer (some ⟨D, 0, none⟩), .pointer (some ⟨R, 0, none⟩)]) ∧ DevAt W.heap.size w' D (devOf knownL) ∧ Gr W w' := by
 refine (made_any (knownC B1 B2 B3 B4 B5) 7 rfl (by omega) (some ⟨B0, 0, none⟩) 7 W ⟨fun _ _ => trivial, fun _ => ⟨B0, 0, rfl, h0.lt, CellsN.rows opIs _ (fun _ _ => trivial) h0 (by simp)⟩⟩ ?_).mono ?_
 ·intro x hx
  simp only [knownC, List.mem_cons, List.mem_nil_iff, or_false] at hx
  rcases hx with rfl | rfl | rfl | rfl | rfl | rfl | rfl
  ·exact opOk_cr 1 (by decide) W
  ·exact opOk_cr 2 (by decide) W
  ·exact opOk_wr 1 (by decide) 0 120 W B1 h1
  ·exact opOk_wr 1 (by decide) 1 121 W B2 h2
  ·exact opOk_wr 2 (by decide) 0 120 W B3 h3
  ·exact opOk_wr 2 (by decide) 1 122 W B4 h4
  ·exact opOk_wr 2 (by decide) 2 121 W B5 h5
 ·rintro _ _ ⟨D, R, rfl, hd, _, hg⟩
  exact ⟨D, R, rfl, hd, hg⟩
theorem own_row {α : Type} {e : EK α} (he : e.Is) {base : Nat} {W : World} {v : Value} {xs : List α} (h : OwnN e base W v xs) : ∃ A c, v = .slice A xs.length c ∧ RowN e W A xs := by
 obtain ⟨A, c, h1, _, _, h2⟩ := h.form he
 exact ⟨A, c, h1, h2⟩
theorem known_rw (W : World) (base D : Nat) (h : DevAt base W D (devOf knownL)) : Calls Tryz.prog 6 #[.pointer (some ⟨D, 0, none⟩), .int .u64 1, .int .u64 2] W fun e w' => ∃ A c, e = .returned (.tuple #[.slice A 4 c, .int .i64 0]) ∧ RowN strE w' A wantL ∧ Gr W w' := by
 refine (rows_any base D (devOf knownL) 1 2 W h).mono ?_
 rintro _ _ ⟨v, rfl, ho, hg⟩
 rw [known_rows] at ho
 obtain ⟨A, c, rfl, hr⟩ := own_row strIs ho
 exact ⟨A, c, by rw [known_chk]; rfl, hr, hg⟩
theorem known_same (W : World) (A : Option Addr) (c B : Nat) (h : RowN strE W A wantL) (hB : BlockAt W B (wantL.flatMap strE.cs).toArray 103) : Calls Tryz.prog 17 #[.slice A 4 c, .slice (some ⟨B, 0, none⟩) 4 4] W fun e w' => e = .returned (.bool true) ∧ Gr W w' :=
 (same_any wantL wantL 4 4 rfl rfl (by omega) (by omega) A (some ⟨B, 0, none⟩) c 4 W h ⟨fun _ _ => trivial, fun _ => ⟨B, 0, rfl, hB.lt, CellsN.rows strIs _ (fun _ _ => trivial) hB (by simp)⟩⟩).mono fun e w' ⟨h1, h2⟩ => ⟨by rw [h1, decide_eq_true rfl], h2⟩
theorem known_any (w : World) : Calls Tryz.prog 13 #[] w fun e w' => e = .returned (.bool true) ∧ Gr w w' := by
 have K1 := Lib.hid (fun W => known_block 1 0 (by omega) 120 0 0 rfl rfl 120 rfl W)
 have K2 := Lib.hid (fun W => known_block 1 1 (by omega) 121 1 4 rfl rfl 121 rfl W)
 have K3 := Lib.hid (fun W => known_block 2 0 (by omega) 120 0 0 rfl rfl 120 rfl W)
 have K4 := Lib.hid (fun W => known_block 2 1 (by omega) 122 1 4 rfl rfl 122 rfl W)
 have K5 := Lib.hid (fun W => known_block 2 2 (by omega) 121 2 8 rfl rfl 121 rfl W)
 go_enter Tryz.func13, Tryz.ntmps13
 go_wp2_with (first
  | (go_at_call 44; ((with_reducible refine (K1.out _).mono ?_); rintro _ _ ⟨B1, rfl, hB1, ⟨g1, rfl⟩⟩))
  | (go_at_call 44; ((with_reducible refine (K2.out _).mono ?_); rintro _ _ ⟨B2, rfl, hB2, ⟨g2, rfl⟩⟩))
  | (go_at_call 44; ((with_reducible refine (K3.out _).mono ?_); rintro _ _ ⟨B3, rfl, hB3, ⟨g3, rfl⟩⟩))
  | (go_at_call 44; ((with_reducible refine (K4.out _).mono ?_); rintro _ _ ⟨B4, rfl, hB4, ⟨g4, rfl⟩⟩))
  | (go_at_call 44; ((with_reducible refine (K5.out _).mono ?_); rintro _ _ ⟨B5, rfl, hB5, ⟨g5, rfl⟩⟩))
  | (go_at_call 15; (refine (known_made _ _ B1 B2 B3 B4 B5 (blk_cast inferInstance rfl) inferInstance inferInstance inferInstance inferInstance inferInstance).mono ?_); rintro _ _ ⟨D, R, rfl, hd, ⟨gm, rfl⟩⟩)
  | (go_at_call 6; (with_reducible refine (known_rw _ _ D (hd.gr gri)).mono ?_); rintro _ _ ⟨RA, rc, rfl, hr, ⟨gw, rfl⟩⟩)
  | (go_at_call 17; (refine (known_same _ RA rc _ (hr.gr gri) (blk_cast inferInstance rfl)).mono ?_); rintro _ _ ⟨rfl, ⟨g9, rfl⟩⟩))
 go_ret
 exact ⟨rfl, gri⟩
set_option maxRecDepth 100000
set_option maxHeartbeats 4000000
theorem may_more {o : OpM} (h : o.may = true) : 0 ≤ o.v ∧ 0 ≤ o.t ∧ o.l.length ≤ 2048 := by
 have hk := may_kind h
 obtain ⟨k, v, t, s, a, c, l⟩ := o
 simp only at hk
 have h9 : k = 1 ∨ k = 2 ∨ k = 3 ∨ k = 4 ∨ k = 5 ∨ k = 6 ∨ k = 7 ∨ k = 8 ∨ k = 9 := by omega
 unfold OpM.may at h
 rcases h9 with rfl | rfl | rfl | rfl | rfl | rfl | rfl | rfl | rfl
 all_goals
  simp [mayOpB, wVol, wTo, wSize, wAt, wCount, wData] at h
  refine ⟨?_, ?_, ?_⟩ <;> simp only <;> first | omega | (obtain ⟨_, rfl⟩ := h; simp) | (have := h.2; subst this; simp)
theorem OpOwn.in_ {base : Nat} {W : World} {x : OpC} (h : OpOwn base W x) (hm : x.o.may = true) : OpIn W x := by
 obtain ⟨A, c, e, h1, h2, hr⟩ := h.own.form bIs
 simp only [Value.slice.injEq] at e
 obtain ⟨rfl, e2, rfl⟩ := e
 have := (may_more hm).2.2
 exact ⟨e2.symm, by omega, rowN_b hr⟩
theorem OpOwn.ok {base : Nat} {W : World} {x : OpC} (h : OpOwn base W x) (hm : x.o.may = true) : OpOk W x := by
 obtain ⟨A, c, e, h1, h2, hr⟩ := h.own.form bIs
 simp only [Value.slice.injEq] at e
 obtain ⟨rfl, e2, rfl⟩ := e
 have := may_more hm
 exact ⟨e2.symm, by omega, by omega, rowN_b hr, this.1, this.2.1⟩
theorem all_mayM {zs : List OpC} {L : List OpM} (h : zs.map (·.o) = L) (hL : ∀ o ∈ L, o.may = true) : ∀ z ∈ zs, z.o.may = true := fun z hz => hL _ (by rw [← h]; exact List.mem_map_of_mem hz)
theorem patch_len {d : Dev} (hok : DevOk d) (l r : Int) : (patchK d l r).1.length ≤ 300 := by
 have h2 := sizeK_le hok r
 unfold patchK
 split
 ·have h3 := foldG_len9 (genN d r l (needPK d l r)) (sizeK d r).toNat
  simp only [List.length_append]
  split <;> simp <;> omega
 ·simp
theorem patch_may {d : Dev} (hok : DevOk d) (l r : Int) : ∀ o ∈ (patchK d l r).1, o.may = true := by
 by_cases h : (patchK d l r).2 = 0
 ·obtain ⟨E, y, hE⟩ := patch_ok hok h
  exact hE.may
 ·rw [patch_bad h]; simp
theorem ptc_big (l : List OpC) (n q : Nat) (A : Option Addr) (lf r : Int) (w : World) (hC : CameO w A n q l) (hm : muchK l 40 = true) :
  Calls Tryz.prog 5 #[.slice A n q, .int .u64 lf, .int .u64 r] w fun e w' => e = .returned (.bool true) ∧ Gr w w' := by
 have HM := Lib.hid (fun W (hW : Gr w W) => lmuch_any l n hC.len 40 (by omega) A q W (hC.row.gr hW))
 have HK := Lib.hid (fun W => known_any W)
 rw [hm] at HM
 change Hid (∀ W, Gr w W → Calls Tryz.prog 14 #[.slice A n q, .int .i64 40] W fun e w' => e = .returned (.bool true) ∧ Gr W w') at HM
 clear hC hm
 go_enter Tryz.func5, Tryz.ntmps5
 go_wp2_with (first | (go_at_call 14; ((with_reducible refine (HM.out _ gri).mono ?_); rintro _ _ ⟨rfl, g1, rfl⟩)) | (go_at_call 13; ((with_reducible refine (HK.out _).mono ?_); rintro _ _ ⟨rfl, g2, rfl⟩)))
 go_ret
 exact ⟨rfl, gri⟩
theorem ptc_few (l : List OpC) (n q : Nat) (A : Option Addr) (lf r : Int) (w : World) (hC : CameO w A n q l) (hm : muchK l 40 = false) :
  Calls Tryz.prog 5 #[.slice A n q, .int .u64 lf, .int .u64 r] w fun e w' => e = .returned (.bool true) ∧ Gr w w' := by
 have HM := Lib.hid (fun W (hW : Gr w W) => lmuch_any l n hC.len 40 (by omega) A q W (hC.row.gr hW))
 have HK := Lib.hid (fun W => known_any W)
 obtain ⟨hle, hsm⟩ := muchK_no hm
 have hn40 : n ≤ 40 := by rw [← hC.len]; exact hle
 have HMD := Lib.hid (fun W (hW : Gr w W) => made_any l n hC.len (by omega) A q W (hC.row.gr hW) (fun x hx => ((hC.each x hx).ok (hsm x hx)).gr hW))
 rw [hm] at HM
 change Hid (∀ W, Gr w W → Calls Tryz.prog 14 #[.slice A n q, .int .i64 40] W fun e w' => e = .returned (.bool false) ∧ Gr W w') at HM
 have hok : DevOk (devOf (l.map (·.o))) := devOf_ok _
 have hdl : (devOf (l.map (·.o))).length ≤ 40 := by have := devOf_len (l.map (·.o)); rw [List.length_map] at this; omega
 generalize devOf (l.map (·.o)) = d at *
 have HDL := Lib.hid hdl
 have HOK := Lib.hid hok
 have HPL := Lib.hid (patch_len hok lf r)
 have HPM := Lib.hid (patch_may hok lf r)
 clear hC hm hle hsm hdl hok
 go_enter Tryz.func5, Tryz.ntmps5
 go_wp2_with (first | (go_at_call 14; ((with_reducible refine (HM.out _ gri).mono ?_); rintro _ _ ⟨rfl, g1, rfl⟩)) | (go_at_call 15; ((with_reducible refine (HMD.out _ gri).mono ?_))))
 rintro _ _ ⟨D, R, rfl, hd, ⟨baseR, hbr, hr⟩, ⟨g2, rfl⟩⟩
 have HD := Lib.hid hd
 have HR := Lib.hid hr
 have HBR := Lib.hid (Nat.le_trans (grown_below w g1).size hbr)
 clear hd hr hbr
 go_wp2_with (first | (go_at_call 8; ((with_reducible refine (ppatch_any _ D d lf r _ (HD.out.gr gri)).mono ?_))))
 rintro _ _ ⟨v1, zs, rfl, ho1, hm1, hz1, ⟨g3, rfl⟩⟩
 obtain ⟨co, hco⟩ : ∃ co, co = (patchK d lf r).2 := ⟨_, rfl⟩
 rw [← hco]
 obtain ⟨A1, c1, rfl, hr1⟩ := own_row opIs ho1
 obtain ⟨N, hN⟩ : ∃ N, N = zs.length := ⟨_, rfl⟩
 rw [← hN]
 have HNZ := Lib.hid hN
 have HR1 := Lib.hid hr1
 have HM1 := Lib.hid hm1
 have HZ1 := Lib.hid hz1
 have HCO := Lib.hid hco
 clear ho1 hm1 hz1 hr1 hco hN
 go_wp2_with (first | (go_at_call 22; ((with_reducible refine (rpatch_any _ R d lf r _ (HR.out.gr gri) (by have := HDL.out; omega)).mono ?_))))
 rintro _ _ ⟨v3, zs2, rfl, ho3, hm3, hz3, ⟨g4, rfl⟩⟩
 rw [← HCO.out]
 obtain ⟨A3, c3, rfl, hr3⟩ := own_row opIs ho3
 have hN2 : zs2.length = N := by rw [HNZ.out]; have h1 := congrArg List.length HM1.out; have h2 := congrArg List.length hm3; rw [List.length_map] at h1 h2; omega
 rw [hN2]
 obtain ⟨W4, hW4⟩ : ∃ W4, W4 = grown (grown (grown (grown w g1) g2) g3) g4 := ⟨_, rfl⟩
 have hgw : Gr w W4 := by rw [hW4]; exact gri
 have hg3 : Gr (grown (grown (grown w g1) g2) g3) W4 := by rw [hW4]; exact gri
 have hg2 : Gr (grown (grown w g1) g2) W4 := by rw [hW4]; exact gri
 rw [← hW4] at hr3 hz3 ⊢
 clear hW4 ho3
 have hy := all_mayM HM1.out HPM.out
 have hy2 := all_mayM hm3 HPM.out
 have hlz : N ≤ 300 := by rw [HNZ.out]; have := congrArg List.length HM1.out; rw [List.length_map] at this; rw [this]; exact HPL.out
 have hall : (decide (zs.map (·.o) = zs2.map (·.o)) && zs.all fun z => mayM z.o) = true := by
  rw [HM1.out, hm3, decide_eq_true rfl, Bool.true_and, List.all_eq_true]
  exact fun z hz => hy z hz
 have HSO := Lib.hid (fun W (hW : Gr W4 W) => sameOps_any zs zs2 N N HNZ.out.symm hN2 (by omega) (by omega) A1 A3 c1 c3 W ((HR1.out.gr hg3).gr hW) (hr3.gr hW) (fun z hz => (((HZ1.out z hz).in_ (hy z hz)).gr hg3).gr hW) (fun z hz => ((hz3 z hz).in_ (hy2 z hz)).gr hW))
 rw [hall] at HSO
 have HGW := Lib.hid hgw
 have HD4 := Lib.hid (HD.out.gr hg2)
 have HR4 := Lib.hid (HR.out.gr hg2)
 have HAP := Lib.hid (fun W (hW : Gr W4 W) => apply_any _ D d zs N HNZ.out.symm (by omega) A1 c1 W (HD4.out.gr hW) ((HR1.out.gr hg3).gr hW) (fun z hz => (((HZ1.out z hz).ok (hy z hz)).gr hg3).gr hW))
 have hcc : (co != co) = false := by simp
 haveI := grc_of hgw
 haveI := from_of hgw
 clear hgw hg3 hg2 hr3 hz3 hm3 hy hy2 hall hN2 HR1 HZ1 HD HR HM HMD HPL HPM
 by_cases hc0 : co = 0
 rotate_left
 ·have hcn : (co != 0) = true := by simpa using hc0
  go_wp2_with (first | (go_at_call 23; ((with_reducible refine (HSO.out _ gri).mono ?_); rintro _ _ ⟨rfl, ga, rfl⟩)) | (go_at_call 13; ((with_reducible refine (HK.out _).mono ?_); rintro _ _ ⟨rfl, gb, rfl⟩)))
  go_ret
  exact ⟨rfl, gri⟩
 subst hc0
 obtain ⟨E, y, hE⟩ := patch_ok HOK.out HCO.out.symm
 have HE := Lib.hid hE
 have HEA := Lib.hid (show appK d (zs.map (·.o)) = (0, E) from by rw [HM1.out]; exact hE.app)
 rw [HEA.out] at HAP
 clear hE HEA
 go_wp2_with (first | (go_at_call 23; ((with_reducible refine (HSO.out _ gri).mono ?_); rintro _ _ ⟨rfl, ga, rfl⟩)) | (go_at_call 10; ((with_reducible refine (HAP.out _ gri).mono ?_))))
 rintro _ W5 ⟨hap, hg5⟩
 rcases hap with ⟨_, D2, rfl, hd2⟩ | ⟨h, _⟩
 rotate_left
 ·exact absurd rfl h
 simp only at hd2
 haveI := grc_of hg5
 have hg45 : Gr W4 W5 := Gr.trans gri hg5
 have hgw5 := HGW.out.trans hg45
 have HB5 := Lib.hid (fun W (hW : Gr W5 W) => bytes_any _ D d HDL.out W (HD4.out.gr (hg45.trans hW)))
 have HRB5 := Lib.hid (fun W (hW : Gr W5 W) => rbytes_any _ R d HDL.out W (HR4.out.gr (hg45.trans hW)))
 have HD2 := Lib.hid hd2
 have HR5 := Lib.hid (HR4.out.gr hg45)
 have HGW5 := Lib.hid hgw5
 clear hd2 hg5 hg45 hgw5 HAP HSO HD4 HR4
 haveI := grc_of HGW5.out
 haveI := from_of HGW5.out
 go_wp2
 obtain ⟨B7, hB7⟩ : ∃ B7, B7 = bytesK d := ⟨_, rfl⟩
 obtain ⟨N7, hN7⟩ : ∃ N7, N7 = B7.length := ⟨_, rfl⟩
 have HN7 := Lib.hid hN7
 rw [← hB7] at HB5 HRB5
 clear hN7 hB7
 refine wp_region_plan ⟨fun w' => Gr W5 w', fun _ => True⟩ gri trivial [(true, 0), (true, 1), (true, 2), (true, 3), (true, 4), (true, 5), (true, 6), (true, 7), (true, 10), (false, 8), (true, 9), (false, 11), (true, 12), (true, 13), (true, 14)] (by kernel_rfl) (by kernel_rfl) ?_
 simp only [pickP, pick, List.drop, List.take, List.nil_append, List.cons_append, List.map_cons, List.map_nil]
 refine p_same (.int .i64 0) rfl rfl (fun w1 hj => by go_simp) ?_
 simp only [Act.put, List.setIfInBounds_toArray, List.set]
 refine p_same (.bool false) rfl rfl (fun w1 hj => by go_simp) ?_
 simp only [Act.put, List.setIfInBounds_toArray, List.set]
 refine p_same (.bool false) rfl rfl (fun w1 hj => by go_simp) ?_
 simp only [Act.put, List.setIfInBounds_toArray, List.set]
 refine p_same (.pointer (some ⟨D2, 0, none⟩)) rfl rfl (fun w1 hj => by go_simp) ?_
 simp only [Act.put, List.setIfInBounds_toArray, List.set]
 refine p_same (.bool false) rfl rfl (fun w1 hj => by go_simp) ?_
 simp only [Act.put, List.setIfInBounds_toArray, List.set]
 refine p_same (.bool false) rfl rfl (fun w1 hj => by go_simp) ?_
 simp only [Act.put, List.setIfInBounds_toArray, List.set]
 refine p_same (.bool false) rfl rfl (fun w1 hj => by go_simp) ?_
 simp only [Act.put, List.setIfInBounds_toArray, List.set]
 refine p_same (.pointer (some ⟨D, 0, none⟩)) rfl rfl (fun w1 hj => by go_simp) ?_
 simp only [Act.put, List.setIfInBounds_toArray, List.set]
 refine p_same (.pointer (some ⟨R, 0, none⟩)) rfl rfl (fun w1 hj => by go_simp) ?_
 simp only [Act.put, List.setIfInBounds_toArray, List.set]
 refine p_eff rfl rfl (fun w1 hj he => effAt_call' 20 #[.pointer (some ⟨D, 0, none⟩)] (by go_simp) ((HB5.out w1 hj).mono fun e w2 hc => ?_))
 obtain ⟨v7, rfl, ho7, hg⟩ := hc
 obtain ⟨A7, c7, rfl, hr7⟩ := own_row bIs ho7
 rw [← HN7.out]
 refine ⟨_, rfl, ⟨fun w' => Gr W5 w' ∧ RowN bE w' A7 B7, fun _ => True⟩, ⟨⟨Gr.trans hj hg, hr7⟩, trivial⟩, fun _ h => h.1, ?_⟩
 clear hr7 ho7 hg hj he w2 w1
 simp only [Act.put, List.setIfInBounds_toArray, List.set]
 refine p_same (.string ⟨B7.toArray⟩) rfl rfl (fun w1 hj => by have hcv := conv_row A7 N7 c7 B7 w1 HN7.out.symm (rowN_b hj.2); go_simp) ?_
 simp only [Act.put, List.setIfInBounds_toArray, List.set]
 refine p_eff rfl rfl (fun w1 hj he => effAt_call' 21 #[.pointer (some ⟨R, 0, none⟩)] (by go_simp) ((HRB5.out w1 hj.1).mono fun e w2 hc => ?_))
 obtain ⟨v7, rfl, ho7, hg⟩ := hc
 obtain ⟨A8, c8, rfl, hr7⟩ := own_row bIs ho7
 rw [← HN7.out]
 refine ⟨_, rfl, ⟨fun w' => Gr W5 w' ∧ RowN bE w' A7 B7 ∧ RowN bE w' A8 B7, fun _ => True⟩, ⟨⟨Gr.trans hj.1 hg, hj.2.gr hg, hr7⟩, trivial⟩, fun _ h => ⟨h.1, h.2.1⟩, ?_⟩
 clear hr7 ho7 hg hj he w2 w1
 simp only [Act.put, List.setIfInBounds_toArray, List.set]
 refine p_same (.string ⟨B7.toArray⟩) rfl rfl (fun w1 hj => by have hcv := conv_row A8 N7 c8 B7 w1 HN7.out.symm (rowN_b hj.2.2); go_simp) ?_
 simp only [Act.put, List.setIfInBounds_toArray, List.set]
 refine p_same (.bool false) rfl rfl (fun w1 hj => by go_simp) ?_
 simp only [Act.put, List.setIfInBounds_toArray, List.set]
 refine p_same (.bool false) rfl rfl (fun w1 hj => by go_simp) ?_
 simp only [Act.put, List.setIfInBounds_toArray, List.set]
 refine p_nil ?_
 intro w9 hj9 he9
 have hg9 : Gr W5 w9 := hj9.1
 have hgw9 := HGW5.out.trans hg9
 have HD9 := Lib.hid (HD2.out.gr hg9)
 have hr9 := HR5.out.gr hg9
 obtain ⟨i1, x1, f1, e1, k1⟩ := find_get HE.out.got
 obtain ⟨i2, x2, f2, e2, k2⟩ := find_get (show (getK d r).isSome = true from by rw [HE.out.get]; rfl)
 have hxy : x2 = y := by rw [HE.out.get] at k2; exact (Option.some.inj k2).symm
 subst hxy
 have q1 := idx_some f1
 have q2 := idx_some f2
 have HFD := Lib.hid (fun W (hW : Gr w9 W) x => rfind_any _ R d x W (hr9.gr hW) (by have := HDL.out; omega))
 have FL := Lib.hid (fun W (hW : Gr w9 W) => HFD.out W hW lf)
 have FR := Lib.hid (fun W (hW : Gr w9 W) => HFD.out W hW r)
 rw [q1] at FL
 rw [q2] at FR
 obtain ⟨vR, vf, hr9⟩ := hr9
 have hne : d ≠ [] := by rintro rfl; simp at e1
 obtain ⟨g, c, rfl, hbg, hgl, hgR, hc1, hc2, hty, hcl⟩ := hr9.form hne
 have hm9 : d.length ≤ maxLen := Nat.le_trans hc1 hc2
 unfold maxLen at hm9
 have L1 : i1 < d.length := (List.getElem?_eq_some_iff.1 e1).1
 have L2 : i2 < d.length := (List.getElem?_eq_some_iff.1 e2).1
 have z0 : w9.cell? ⟨R, 0, none⟩ = some (.slice (some ⟨g, 0, none⟩) d.length c) := (@block_cells _ _ 0 _ _ hr9.blk).trans rfl
 have zu := (hr9.vol _ (List.mem_of_getElem? e2)).one
 obtain ⟨uA, un, uc, hu⟩ : ∃ uA un uc, vf r = .slice uA un uc := by
  obtain ⟨A9, c9, h9, _⟩ := hr9.vol _ (List.mem_of_getElem? e2)
  exact ⟨_, _, _, h9⟩
 obtain ⟨a0, a1, a2⟩ := hcl i1 _ e1
 obtain ⟨csg, hcg⟩ := hty
 have HCG := Lib.hid hcg
 have z1 := (hcl i2 _ e2).1
 have z2 := (hcl i2 _ e2).2.1
 have z3 := (hcl i2 _ e2).2.2
 simp only at z1 z2 z3 a0 a1 a2
 rw [hu] at z3
 rw [Nat.add_zero] at a0
 rw [Nat.add_zero] at z1
 have HRI := Lib.hid hr9
 have HUV := Lib.hid (hr9.vol _ (List.mem_of_getElem? e2))
 have HVO := Lib.hid (HOK.out.vols _ (List.mem_of_getElem? e2))
 have HG9 := Lib.hid hgw9
 have HE1 := Lib.hid e1
 have HUE := Lib.hid hu
 have HBG := Lib.hid (Nat.le_trans HBR.out hbg)
 haveI := grc_of hgw9
 haveI := from_of hgw9
 haveI : Old R w9 := old_of_cell z0
 haveI : Old g w9 := ⟨hgl⟩
 obtain ⟨s2, m2⟩ := x2
 simp only at z2 HUV HVO
 clear hj9 he9 hg9 hgw9 f1 f2 k1 k2 q1 q2 hr9 e1 e2 hcl hc2 hcg hne hu zu hbg HD2 HR5 HB5 HRB5 HFD
 go_wp2_with (first | (go_at_call 24; ((with_reducible refine (FL.out _ gri).mono ?_); rintro _ _ ⟨rfl, gc, rfl⟩)) | (go_at_call 24; ((with_reducible refine (FR.out _ gri).mono ?_); rintro _ _ ⟨rfl, gd, rfl⟩)))
 have HA0 := Lib.hid a0
 have HA1 := Lib.hid a1
 have HA2 := Lib.hid a2
 obtain ⟨T5, hT5⟩ : ∃ T5, T5 = (grown (grown w9 gc) gd).heap.size := ⟨_, rfl⟩
 obtain ⟨W10, hW10⟩ : ∃ W10, W10 = (grown (grown w9 gc) gd).alloc (.cells #[.int .u64 lf, .int .i64 s2, .slice uA un uc] 64) := ⟨_, rfl⟩
 have hg10 : Gr w9 W10 := by rw [hW10]; exact gri
 have bT : BlockAt W10 T5 #[.int .u64 lf, .int .i64 s2, .slice uA un uc] 64 := by rw [hW10, hT5]; infer_instance
 have hTg : T5 ≠ g := by
  have h1 := (Gr.below (gri : Gr w9 (grown (grown w9 gc) gd))).size
  omega
 have bR := HRI.out.blk.gr hg10
 rw [← hT5, ← hW10]
 haveI : BNe T5 g := ⟨hTg⟩
 haveI : BNe R g := ⟨Ne.symm hgR⟩
 have HG10 := Lib.hid hg10
 clear hW10 hT5 a0 a1 a2 z0 z1 z2 z3
 refine wp_region_plan ⟨fun w' => BlockAt w' R #[.slice (some ⟨g, 0, none⟩) d.length c] 67 ∧ BlockAt w' T5 #[.int .u64 lf, .int .i64 s2, .slice uA un uc] 64, fun w' => Gr W10 w'⟩ ⟨bR.gr gri, bT.gr gri⟩ gri [(true, 0), (true, 1), (true, 2), (true, 3), (true, 4), (true, 5), (true, 6), (false, 7)] (by kernel_rfl) (by kernel_rfl) ?_
 simp only [pickP, pick, List.drop, List.take, List.nil_append, List.cons_append, List.map_cons, List.map_nil]
 refine p_same (.pointer (some ⟨R, 0, none⟩)) rfl rfl (fun w1 hj => by go_simp) ?_
 simp only [Act.put, List.setIfInBounds_toArray, List.set]
 refine p_same (.pointer (some ⟨R, 0, none⟩)) rfl rfl (fun w1 hj => by go_simp) ?_
 simp only [Act.put, List.setIfInBounds_toArray, List.set]
 refine p_same (.pointer (some ⟨R, 0, none⟩)) rfl rfl (fun w1 hj => by go_simp) ?_
 simp only [Act.put, List.setIfInBounds_toArray, List.set]
 refine p_same (.slice (some ⟨g, 0, none⟩) d.length c) rfl rfl (fun w1 hj => by have x1 : w1.cell? ⟨R, 0, none⟩ = some (.slice (some ⟨g, 0, none⟩) d.length c) := (@block_cells _ _ 0 _ _ hj.1).trans rfl; go_simp) ?_
 simp only [Act.put, List.setIfInBounds_toArray, List.set]
 refine p_same (.int .i64 (i1 : Int)) rfl rfl (fun w1 hj => by go_simp) ?_
 simp only [Act.put, List.setIfInBounds_toArray, List.set]
 refine p_same (.agg #[.int .u64 lf, .int .i64 s2, .slice uA un uc]) rfl rfl (fun w1 hj => by have x0 : w1.cell? ⟨T5, 0, none⟩ = some (.int .u64 lf) := (@block_cells _ _ 0 _ _ hj.2).trans rfl; have x1 : w1.cell? ⟨T5, 1, none⟩ = some (.int .i64 s2) := (@block_cells _ _ 1 _ _ hj.2).trans rfl; have x2 : w1.cell? ⟨T5, 2, none⟩ = some (.slice uA un uc) := (@block_cells _ _ 2 _ _ hj.2).trans rfl; go_simp) ?_
 simp only [Act.put, List.setIfInBounds_toArray, List.set]
 refine p_same (.pointer (some ⟨g, i1 * 3, none⟩)) rfl rfl (fun w1 hj => by go_simp) ?_
 simp only [Act.put, List.setIfInBounds_toArray, List.set]
 refine p_eff0 rfl rfl (fun w1 hj he => ?_)
 have hg1 := HG10.out.trans he
 have y0 := (hg1.below.cell (p := ⟨g, i1 * 3, none⟩) hgl).trans HA0.out
 have y1 := (hg1.below.cell (p := ⟨g, i1 * 3 + 1, none⟩) hgl).trans HA1.out
 have y2 := (hg1.below.cell (p := ⟨g, i1 * 3 + 2, none⟩) hgl).trans HA2.out
 have hhg : w1.heap[g]? = some (.cells csg 64 (0, 0)) := (hg1.below.block g hgl).trans HCG.out
 have yf : ∀ o, w1.frozen? ⟨g, o, none⟩ = false := fun o => by simp [World.frozen?, hhg]
 have y3 := yf (i1 * 3)
 have y4 := yf (i1 * 3 + 1)
 have y5 := yf (i1 * 3 + 2)
 haveI hold := old_of_cell y0
 have hrun : (storeVar 64 ⟨g, i1 * 3, none⟩ (.agg #[.int .u64 lf, .int .i64 s2, .slice uA un uc])).run Tryz.prog w1 = .ok () (((w1.setCell ⟨g, i1 * 3 + 0, none⟩ (.int .u64 lf)).setCell ⟨g, i1 * 3 + 1, none⟩ (.int .i64 s2)).setCell ⟨g, i1 * 3 + 2, none⟩ (.slice uA un uc)) := by
  rw [Nat.add_zero]
  go_simp
 refine effAt_storeG rfl rfl rfl hrun ⟨⟨fun w' => BlockAt w' R #[.slice (some ⟨g, 0, none⟩) d.length c] 67 ∧ BlockAt w' T5 #[.int .u64 lf, .int .i64 s2, .slice uA un uc] 64, fun w' => ∃ w0, Gr W10 w0 ∧ w' = (((w0.setCell ⟨g, i1 * 3 + 0, none⟩ (.int .u64 lf)).setCell ⟨g, i1 * 3 + 1, none⟩ (.int .i64 s2)).setCell ⟨g, i1 * 3 + 2, none⟩ (.slice uA un uc))⟩, ⟨⟨?_, ?_⟩, ⟨w1, he, rfl⟩⟩, fun _ h => h, ?_⟩
 ·haveI := hj.1
  infer_instance
 ·haveI := hj.2
  infer_instance
 clear hold y0 y1 y2 y3 y4 y5 yf hhg hrun hg1 hj he w1
 refine p_nil ?_
 intro w11 hj11 he11
 obtain ⟨w0, hw0, hw11⟩ := he11
 have hg90 := HG10.out.trans hw0
 obtain ⟨hri, hrk⟩ := HRI.out.setW (W := w0) hg90 HE1.out (s2, m2) (.slice uA un uc) (by rw [← HUE.out]; exact HUV.out.gr hg90) HVO.out
 simp only at hri hrk
 rw [← hw11] at hri hrk
 rw [← HE.out.is] at hri
 have HRE := Lib.hid (show RefAt baseR w11 R E from ⟨_, _, hri⟩)
 have HDE := Lib.hid ((HD9.out.gr hg90).rk hrk)
 have hgw11 : Gr w w11 := by
  have hb := HBG.out
  rw [hw11]
  exact Gr.of ((((HG9.out.trans hg90).below.setCell (p := ⟨g, i1 * 3 + 0, none⟩) hb _).setCell (p := ⟨g, i1 * 3 + 1, none⟩) hb _).setCell (p := ⟨g, i1 * 3 + 2, none⟩) hb _)
 have HGW11 := Lib.hid hgw11
 have HEL := Lib.hid (show E.length ≤ 40 from by
  have := putK_set HOK.out.sort (y := ((s2, m2) : VolM)) (show d[i1]? = some (lf, x1) from HE1.out)
  rw [HE.out.is, ← this, List.length_set]
  exact HDL.out)
 clear hri hrk hgw11 hw11 hw0 hg90 hj11 HRI HUV HVO HG9 HE1 HUE HBG HA0 HA1 HA2 HCG HG10 HD9 FL FR bT bR hTg
 haveI := grc_of HGW11.out
 haveI := from_of HGW11.out
 go_wp2_with (first | (go_at_call 8; ((with_reducible refine (ppatch_any _ D2 E lf r _ (HDE.out.gr gri)).mono ?_))))
 rintro _ _ ⟨v9, zs9, rfl, ho9, hm9, _, ⟨g9, rfl⟩⟩
 rw [HE.out.again] at hm9 ⊢
 simp only at hm9 ⊢
 have hz9 : zs9 = [] := by simpa using hm9
 subst hz9
 obtain ⟨A9, c9, rfl, hr9⟩ := own_row opIs ho9
 obtain ⟨W12, hW12⟩ : ∃ W12, W12 = grown w11 g9 := ⟨_, rfl⟩
 have hg12 : Gr w11 W12 := by rw [hW12]; exact gri
 rw [← hW12]
 obtain ⟨B9, hB9⟩ : ∃ B9, B9 = bytesK E := ⟨_, rfl⟩
 obtain ⟨N9, hN9⟩ : ∃ N9, N9 = B9.length := ⟨_, rfl⟩
 have HN9 := Lib.hid hN9
 have HB6 := Lib.hid (fun W (hW : Gr W12 W) => bytes_any _ D2 E HEL.out W (HDE.out.gr (hg12.trans hW)))
 have HRB6 := Lib.hid (fun W (hW : Gr W12 W) => rbytes_any _ R E HEL.out W (HRE.out.gr (hg12.trans hW)))
 rw [← hB9] at HB6 HRB6
 have HGW12 := Lib.hid (HGW11.out.trans hg12)
 haveI := grc_of HGW12.out
 haveI := from_of HGW12.out
 clear hW12 hg12 hB9 hN9 hr9 ho9 hm9 HDE HRE HGW11
 go_wp2
 refine wp_region_plan ⟨fun w' => Gr W12 w', fun _ => True⟩ gri trivial [(true, 0), (true, 3), (false, 1), (true, 2), (false, 4), (true, 5), (true, 6), (true, 7), (true, 8), (true, 9), (true, 10), (true, 11), (true, 12), (true, 13), (true, 14), (true, 15), (true, 16), (false, 17), (true, 18), (true, 19)] (by kernel_rfl) (by kernel_rfl) ?_
 simp only [pickP, pick, List.drop, List.take, List.nil_append, List.cons_append, List.map_cons, List.map_nil]
 refine p_same (.pointer (some ⟨D2, 0, none⟩)) rfl rfl (fun w1 hj => by go_simp) ?_
 simp only [Act.put, List.setIfInBounds_toArray, List.set]
 refine p_same (.pointer (some ⟨R, 0, none⟩)) rfl rfl (fun w1 hj => by go_simp) ?_
 simp only [Act.put, List.setIfInBounds_toArray, List.set]
 refine p_eff rfl rfl (fun w1 hj he => effAt_call' 20 #[.pointer (some ⟨D2, 0, none⟩)] (by go_simp) ((HB6.out w1 hj).mono fun e w2 hc => ?_))
 obtain ⟨v7, rfl, ho7, hg⟩ := hc
 obtain ⟨A17, c17, rfl, hr7⟩ := own_row bIs ho7
 rw [← HN9.out]
 refine ⟨_, rfl, ⟨fun w' => Gr W12 w' ∧ RowN bE w' A17 B9, fun _ => True⟩, ⟨⟨Gr.trans hj hg, hr7⟩, trivial⟩, fun _ h => h.1, ?_⟩
 clear hr7 ho7 hg hj he w2 w1
 simp only [Act.put, List.setIfInBounds_toArray, List.set]
 refine p_same (.string ⟨B9.toArray⟩) rfl rfl (fun w1 hj => by have hcv := conv_row A17 N9 c17 B9 w1 HN9.out.symm (rowN_b hj.2); go_simp) ?_
 simp only [Act.put, List.setIfInBounds_toArray, List.set]
 refine p_eff rfl rfl (fun w1 hj he => effAt_call' 21 #[.pointer (some ⟨R, 0, none⟩)] (by go_simp) ((HRB6.out w1 hj.1).mono fun e w2 hc => ?_))
 obtain ⟨v7, rfl, ho7, hg⟩ := hc
 obtain ⟨A18, c18, rfl, hr7⟩ := own_row bIs ho7
 rw [← HN9.out]
 refine ⟨_, rfl, ⟨fun w' => Gr W12 w' ∧ RowN bE w' A17 B9 ∧ RowN bE w' A18 B9, fun _ => True⟩, ⟨⟨Gr.trans hj.1 hg, hj.2.gr hg, hr7⟩, trivial⟩, fun _ h => ⟨h.1, h.2.1⟩, ?_⟩
 clear hr7 ho7 hg hj he w2 w1
 simp only [Act.put, List.setIfInBounds_toArray, List.set]
 refine p_same (.string ⟨B9.toArray⟩) rfl rfl (fun w1 hj => by have hcv := conv_row A18 N9 c18 B9 w1 HN9.out.symm (rowN_b hj.2.2); go_simp) ?_
 simp only [Act.put, List.setIfInBounds_toArray, List.set]
 refine p_same (.bool true) rfl rfl (fun w1 hj => by go_simp) ?_
 simp only [Act.put, List.setIfInBounds_toArray, List.set]
 refine p_same (.bool true) rfl rfl (fun w1 hj => by go_simp) ?_
 simp only [Act.put, List.setIfInBounds_toArray, List.set]
 refine p_same (.int .i64 0) rfl rfl (fun w1 hj => by go_simp) ?_
 simp only [Act.put, List.setIfInBounds_toArray, List.set]
 refine p_same (.bool true) rfl rfl (fun w1 hj => by go_simp) ?_
 simp only [Act.put, List.setIfInBounds_toArray, List.set]
 refine p_same (.bool true) rfl rfl (fun w1 hj => by go_simp) ?_
 simp only [Act.put, List.setIfInBounds_toArray, List.set]
 refine p_same (.bool true) rfl rfl (fun w1 hj => by go_simp) ?_
 simp only [Act.put, List.setIfInBounds_toArray, List.set]
 refine p_same (.slice A9 0 c9) rfl rfl (fun w1 hj => by go_simp) ?_
 simp only [Act.put, List.setIfInBounds_toArray, List.set]
 refine p_same (.int .i64 0) rfl rfl (fun w1 hj => by go_simp) ?_
 simp only [Act.put, List.setIfInBounds_toArray, List.set]
 refine p_same (.bool true) rfl rfl (fun w1 hj => by go_simp) ?_
 simp only [Act.put, List.setIfInBounds_toArray, List.set]
 refine p_same (.bool true) rfl rfl (fun w1 hj => by go_simp) ?_
 simp only [Act.put, List.setIfInBounds_toArray, List.set]
 refine p_same (.bool true) rfl rfl (fun w1 hj => by go_simp) ?_
 simp only [Act.put, List.setIfInBounds_toArray, List.set]
 refine p_eff rfl rfl (fun w1 hj he => effAt_call' 13 #[] (by go_simp) ((HK.out w1).mono fun e w2 hc => ?_))
 obtain ⟨rfl, hg⟩ := hc
 refine ⟨_, rfl, ⟨fun w' => Gr W12 w' ∧ RowN bE w' A17 B9 ∧ RowN bE w' A18 B9, fun _ => True⟩, ⟨⟨Gr.trans hj.1 hg, hj.2.1.gr hg, hj.2.2.gr hg⟩, trivial⟩, fun _ h => h, ?_⟩
 clear hg hj he w2 w1
 simp only [Act.put, List.setIfInBounds_toArray, List.set]
 refine p_same (.bool true) rfl rfl (fun w1 hj => by go_simp) ?_
 simp only [Act.put, List.setIfInBounds_toArray, List.set]
 refine p_same (.bool true) rfl rfl (fun w1 hj => by go_simp) ?_
 simp only [Act.put, List.setIfInBounds_toArray, List.set]
 refine p_nil ?_
 intro w19 hj19 he19
 have HG19 := Lib.hid hj19.1
 clear hj19 he19
 go_wp2
 go_ret
 exact ⟨rfl, HGW12.out.trans HG19.out⟩
theorem ptc_walk (l : List OpC) (n q : Nat) (A : Option Addr) (lf r : Int) (w : World) (hC : CameO w A n q l) :
  Calls Tryz.prog 5 #[.slice A n q, .int .u64 lf, .int .u64 r] w fun e w' => e = .returned (.bool true) ∧ Gr w w' := by
 cases hm : muchK l 40 with
 | true => exact ptc_big l n q A lf r w hC hm
 | false => exact ptc_few l n q A lf r w hC hm
end Go.Proofs.YtipeblmgochdfaaGreat
namespace Go.Proofs.YtipeblmgochdfaaGreat
open Go.ChangeShapes Go.WideShapes Go.ChangeAt Go.RowKit Go.Deep
section
variable {H : Type} {enc : TypeId × Value → H} {P : Program}
def typesRead (P : Program) (ts : List TypeId) : Bool := ts.all fun t => P.readableRec t && decide (t < P.types.size)
theorem trodAll_below (hl : laidOutB P = true) {W W' : World} (hb : Below W.heap.size W W') :
  ∀ {ts : List TypeId} {vs : List Value} {ds : List (DataW H)} {ps : List MemPlace}, typesRead P ts = true →
   DataW.TrodAll enc P W 0 (fun _ => true) true ts vs ds ps → (∀ x ∈ ps, x.block < W.heap.size) → DataW.TrodAll enc P W' 0 (fun b => decide (b < W.heap.size)) true ts vs ds ps
 | [], [], [], _, _, h, _ => h
 | [], [], _ :: _, _, _, h, _ => h.elim
 | [], _ :: _, _, _, _, h, _ => h.elim
 | _ :: _, [], _, _, _, h, _ => h.elim
 | _ :: _, _ :: _, [], _, _, h, _ => h.elim
 | t :: ts, v :: vs, d :: ds, ps, hr, h, hlt => by
  obtain ⟨p, q, h1, h2, rfl⟩ := h
  simp only [typesRead, List.all_cons, Bool.and_eq_true, decide_eq_true_eq] at hr
  exact ⟨p, q, Below.trod hl hr.1.1 hr.1.2 h1 hb (fun x hx => hlt x (by simp [hx])), trodAll_below hl hb (by simpa [typesRead] using hr.2) h2 (fun x hx => hlt x (by simp [hx])), rfl⟩
variable {w : World} {base : Nat} {spare : Nat → Bool} {held : Bool}
end
end Go.Proofs.YtipeblmgochdfaaGreat
