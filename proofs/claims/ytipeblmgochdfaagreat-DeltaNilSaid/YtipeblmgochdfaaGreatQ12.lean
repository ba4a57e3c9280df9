/- The laws' block; the reference's Same of stretches; the chapter's row. Conditions: what is read stands in memory. The chapter's row: known. Conditions: none. Device.Copy. Conditions: the device stands in memory. What is answered of nothing: Super, Of, Patch, Lay, Apply, Kind. Conditions: as said. delta.Apply; delta.Lay of wrong numbers. Conditions: the device and the operations stand in memory. Opening a law's arguments, and reading them again behind the call. Conditions: the types can be read. -/
import Derived.Test.YtipeblmgochdfaaGreatQ11
import Derived.Test.YtipeblmgochdfaaGreatQ07
import Derived.Test.YtipeblmgochdfaaGreatQ09
import Derived.Test.YtipeblmgochdfaaGreatQ08
import Derived.Test.YtipeblmgochdfaaGreatQ01
import Derived.Carry
import Derived.Deep.Fields
import Derived.ShutString
namespace Go.Proofs.YtipeblmgochdfaaGreat
open Go.RowKit
set_option linter.unusedVariables false
set_option linter.unusedSimpArgs false
set_option linter.unnecessarySimpa false
set_option maxRecDepth 100000
set_option maxHeartbeats 4000000
def strB (x y : Str) : Bool := x.1 == y.1 && x.2.1 == y.2.1 && x.2.2 == y.2.2
theorem strB_eq {x y : Str} : strB x y = true ↔ x = y := by
 obtain ⟨a, b, c⟩ := x
 obtain ⟨d, e, f⟩ := y
 simp [strB, and_assoc]
@[go_sem ↓] theorem eql_str (w : World) (a b c d e f : Int) : (Op.equalIn 10000 103 (.agg #[.int .i64 a, .int .i64 b, .int .i64 c]) (.agg #[.int .i64 d, .int .i64 e, .int .i64 f])).run Tryz.prog w = .ok (strB (a, b, c) (d, e, f)) w := by
 by_cases h : a = d
 ·subst h
  by_cases h2 : b = e
  ·subst h2
   by_cases h3 : c = f
   ·subst h3; simp [strB, go_sem]
   ·simp [strB, go_sem, h3]
  ·simp [strB, go_sem, h2]
 ·simp [strB, go_sem, h]
theorem strCells {W : World} {b p : Nat} {l : List Str} {k : Nat} {x : Str} (h : CellsN strE W b p l) (hx : l[k]? = some x) : W.cell? ⟨b, p + k * 3, none⟩ = some (.int .i64 x.1) ∧ W.cell? ⟨b, p + k * 3 + 1, none⟩ = some (.int .i64 x.2.1) ∧ W.cell? ⟨b, p + k * 3 + 2, none⟩ = some (.int .i64 x.2.2) :=
 ⟨h k x hx 0 _ rfl, h k x hx 1 _ rfl, h k x hx 2 _ rfl⟩
theorem same_any (x y : List Str) (n m : Nat) (hn : x.length = n) (hm : y.length = m) (hn9 : n ≤ 100000) (hm9 : m ≤ 100000) (A B : Option Addr) (c e : Nat) (w : World) (hx : RowN strE w A x) (hy : RowN strE w B y) :
  Calls Tryz.prog 17 #[.slice A n c, .slice B m e] w fun e w' => e = .returned (.bool (decide (x = y))) ∧ Gr w w' := by
 have HX := Lib.hid hx
 have HY := Lib.hid hy
 have HN := Lib.hid hn
 have HM := Lib.hid hm
 clear hx hy hn hm
 by_cases hnm : n = m
 rotate_left
 ·have hne : ¬ x = y := fun h => hnm (by rw [← HN.out, ← HM.out, h])
  have HE := Lib.hid (decide_eq_false hne)
  have hb : ((n : Int) != (m : Int)) = true := by rw [bne_iff_ne]; omega
  clear hne
  go_enter Tryz.func17, Tryz.ntmps17
  go_wp2
  go_ret
  exact ⟨by rw [HE.out]; rfl, gri⟩
 subst hnm
 have hb : ((n : Int) != (n : Int)) = false := by simp
 go_enter Tryz.func17, Tryz.ntmps17
 go_wp2
 go_loopw [5] (fun i wr => ∃ k : Nat, k ≤ n ∧ i = .int .i64 (k : Int) ∧ x.take k = y.take k ∧ Gr w wr) (fun i _ => n - (intOf i).toNat)
 case atStart => exact ⟨0, Nat.zero_le _, rfl, rfl, gri⟩
 case round =>
  obtain ⟨k, hk, rfl, hpre, hg⟩ := hrel
  haveI := grc_of hg
  haveI := from_of hg
  have HG := Lib.hid hg
  have HP := Lib.hid hpre
  clear hg hpre
  by_cases hlt : k < n
  ·obtain ⟨u, hu⟩ : ∃ u, x[k]? = some u := ⟨_, List.getElem?_eq_getElem (by rw [HN.out]; exact hlt)⟩
   obtain ⟨v, hv⟩ : ∃ v, y[k]? = some v := ⟨_, List.getElem?_eq_getElem (by rw [HM.out]; exact hlt)⟩
   obtain ⟨b1, p1, rfl, hb1, hc1⟩ := (HX.out.gr HG.out).at_ (by rintro rfl; have := HN.out; simp at this; omega)
   obtain ⟨b2, p2, rfl, hb2, hc2⟩ := (HY.out.gr HG.out).at_ (by rintro rfl; have := HM.out; simp at this; omega)
   obtain ⟨c0, c1, c2⟩ := strCells hc1 hu
   obtain ⟨d0, d1, d2⟩ := strCells hc2 hv
   haveI : Old b1 wr := ⟨hb1⟩
   haveI : Old b2 wr := ⟨hb2⟩
   have HU := Lib.hid hu
   have HV := Lib.hid hv
   clear hc1 hc2 hu hv
   by_cases huv : u = v
   ·have hsb : strB u v = true := strB_eq.2 huv
    have HUV := Lib.hid huv
    clear huv
    obtain ⟨u1, u2, u3⟩ := u
    obtain ⟨v1, v2, v3⟩ := v
    simp only at c0 c1 c2 d0 d1 d2
    go_wp2
    refine wp_region_grow (by kernel_rfl) (by kernel_rfl) ?_
    repeat (go_big_quiet_step (fail))
    refine wpQuiet_nil ?_
    intro g1
    go_wp2
    go_roundw
    case rel => exact ⟨k + 1, hlt, by go_num, by rw [List.take_add_one, List.take_add_one, HU.out, HV.out, HP.out, HUV.out], gri⟩
    case measure => simp [intOf]; omega
   ·have hsb : strB u v = false := by
     cases h : strB u v with
     | false => rfl
     | true => exact absurd (strB_eq.1 h) huv
    have hne : ¬ x = y := fun h => huv (by have h1 := HU.out; have h2 := HV.out; rw [h, h2] at h1; exact (Option.some.inj h1).symm)
    have HE := Lib.hid (decide_eq_false hne)
    clear hne huv
    obtain ⟨u1, u2, u3⟩ := u
    obtain ⟨v1, v2, v3⟩ := v
    simp only at c0 c1 c2 d0 d1 d2
    go_wp2
    refine wp_region_grow (by kernel_rfl) (by kernel_rfl) ?_
    repeat (go_big_quiet_step (fail))
    refine wpQuiet_nil ?_
    intro g1
    go_wp2
    go_ret
    exact ⟨by rw [HE.out]; rfl, gri⟩
  ·have : k = n := by omega
   subst this
   have he : x = y := by
    have := HP.out
    rwa [List.take_of_length_le (by rw [HN.out]; omega), List.take_of_length_le (by rw [HM.out]; omega)] at this
   have HE := Lib.hid (decide_eq_true he)
   clear he
   go_wp2
   go_ret
   exact ⟨by rw [HE.out]; rfl, gri⟩
theorem wpMake256 {W : World} {ops : Array Oper} {rest : List Oper} {o : Oper} {a : Act} {Q : Exit → Act → World → Prop} (hgd : o.guard = none) (x y : Operand) (ho : o.op = .makeSlice 41 x y) (z : Array Value) (hmq : ∀ W : World, (Instr.makeSlice 41 (.int .i64 256) (.int .i64 256)).run Tryz.prog W = .ok (.slice (some ⟨W.heap.size, 0, none⟩) 256 256) (W.alloc (.cells z 5))) (hxy : a.eval x = .int .i64 256 ∧ a.eval y = .int .i64 256)
  (h : ∀ W' B, BlockAt W' B z 5 → B = W.heap.size → W' = W.alloc (.cells z 5) → wpList Tryz.prog ops Q rest (a.put o.dst (.slice (some ⟨B, 0, none⟩) 256 256)) W') : wpList Tryz.prog ops Q (o :: rest) a W := by
 refine wpList_plain hgd fun K' hK' => ?_
 unfold Oper.wp execOp
 simp only [ho, hxy.1, hxy.2, Sem.run_bind, hmq W, Result.andThen_ok]
 exact hK' _ _ (h _ _ inferInstance rfl rfl)
theorem lblock_any (v : Int) (b : Nat) (hb9 : b ≤ 1000) (c : UInt8) (w : World) : Calls Tryz.prog 44 #[.int .u64 v, .int .i64 (b : Int), .int .u8 c.toNat] w fun e w' => ∃ B, e = .returned (.agg #[.int .i64 5, .int .u64 v, .int .u64 0, .int .i64 0, .int .i64 (4 * (b : Int)), .int .i64 0, .slice (some ⟨B, 0, none⟩) 256 256]) ∧ BlockAt w' B (bkC (c :: List.replicate 255 0)) 5 ∧ Gr w w' := by
 have hmq : ∀ W : World, (Instr.makeSlice 41 (.int .i64 256) (.int .i64 256)).run Tryz.prog W = .ok (.slice (some ⟨W.heap.size, 0, none⟩) 256 256) (W.alloc (.cells (bkC (List.replicate 256 0)) 5)) := fun W => makeQ 256 (by omega) W
 have hmz : (bkC (List.replicate 256 0))[0]? = some (.int .u8 0) := by kernel_rfl
 have HS : Hid ((bkC (List.replicate 256 0)).setIfInBounds 0 (.int .u8 c.toNat) = bkC (c :: List.replicate 255 0)) := Lib.hid (by
  have := bkC_set (List.replicate 256 0) 0 c
  rw [show (List.replicate 256 (0 : UInt8)).set 0 c = c :: List.replicate 255 0 from rfl] at this
  exact this.symm)
 generalize bkC (List.replicate 256 0) = z at *
 go_enter Tryz.func44, Tryz.ntmps44
 go_wp2_with (first | (at_make; refine wpMake256 rfl _ _ rfl z hmq ⟨rfl, rfl⟩ ?_; rintro _ _ hB1 rfl rfl))
 refine bodyPost_ret (run_resCell1 rfl _ w.heap.size #[.int .i64 5, .int .u64 v, .int .u64 0, .int .i64 0, .int .i64 (4 * (b : Int)), .int .i64 0, .slice (some ⟨w.heap.size + 1, 0, none⟩) 256 256] _ rfl ?_ Tryz.underlying43 rfl (by kernel_rfl)) rfl ⟨w.heap.size + 1, rfl, ?_, gri⟩
 ·exact ⟨(BlockAt.eq (B := w.heap.size)).trans rfl⟩
 ·rw [← HS.out]
  infer_instance
def wrO (v : Int) (b : Nat) (c : UInt8) : OpM := ⟨5, v, 0, 0, 4 * (b : Int), 0, c :: List.replicate 255 0⟩
def crO (v : Int) : OpM := ⟨1, v, 0, 4, 0, 0, []⟩
def knownL : List OpM := [crO 1, crO 2, wrO 1 0 120, wrO 1 1 121, wrO 2 0 120, wrO 2 1 122, wrO 2 2 121]
def wantL : List Str := [(0, 1, 3), (1, 1, 4), (2, 1, 6), (3, 1, 1)]
theorem known_chk : chkK (devOf knownL) [1, 2] = 0 := by kernel_rfl
theorem known_rows : rowsK (devOf knownL) 1 2 = wantL := by kernel_rfl
set_option maxRecDepth 100000
set_option maxHeartbeats 4000000
theorem CellsN.rows {α : Type} {e : EK α} (he : e.Is) {W : World} {B : Nat} {cs : Array Value} {t : TypeId} (xs : List α) (hok : ∀ x ∈ xs, e.ok x) (h : BlockAt W B cs t) (hc : cs.toList = xs.flatMap e.cs) : CellsN e W B 0 xs := fun j x hj i u hu => by
 have := flatN_at he xs hok j i x u hj hu
 rw [Nat.zero_add, block_cells W B _ cs t, ← Array.getElem?_toList, hc]
 exact this
theorem known_block (v : Int) (b : Nat) (hb : b ≤ 1000) (c : UInt8) (a z : Int) (ha : a = (b : Int)) (hz : z = 4 * (b : Int)) (y : Int) (hy : y = c.toNat) (w : World) : Calls Tryz.prog 44 #[.int .u64 v, .int .i64 a, .int .u8 y] w fun e w' => ∃ B, e = .returned (.agg #[.int .i64 5, .int .u64 v, .int .u64 0, .int .i64 0, .int .i64 z, .int .i64 0, .slice (some ⟨B, 0, none⟩) 256 256]) ∧ BlockAt w' B (bkC (c :: List.replicate 255 0)) 5 ∧ Gr w w' := by
 subst ha hz hy
 exact lblock_any v b hb c w
theorem blk_cast {W : World} {B : Nat} {cs cs' : Array Value} {t : TypeId} (h : BlockAt W B cs t) (e : cs = cs') : BlockAt W B cs' t := by
 subst e
 exact h
theorem opOk_cr (v : Int) (hv : 0 ≤ v) (W : World) : OpOk W ⟨crO v, none, 0, 0⟩ where
 len := rfl
 cap := Nat.le_refl _
 small := Nat.zero_le _
 row := ⟨fun h => absurd rfl h⟩
 v0 := hv
 t0 := by show (0 : Int) ≤ 0; omega
 k9 := by show (1 : Int) ≠ 9; decide
theorem opOk_wr (v : Int) (hv : 0 ≤ v) (b : Nat) (c : UInt8) (W : World) (B : Nat) (h : BlockAt W B (bkC (c :: List.replicate 255 0)) 5) : OpOk W ⟨wrO v b c, some ⟨B, 0, none⟩, 256, 256⟩ where
 len := rfl
 cap := Nat.le_refl _
 small := by show 256 ≤ 1000000; omega
 row := ⟨fun _ => ⟨B, 0, rfl, h.lt, fun j x hj => by rw [Nat.zero_add, @block_cells _ _ _ _ _ h]; exact bkC_at hj⟩⟩
 v0 := hv
 t0 := by show (0 : Int) ≤ 0; omega
 k9 := by show (5 : Int) ≠ 9; decide
def knownC (B1 B2 B3 B4 B5 : Nat) : List OpC := [⟨crO 1, none, 0, 0⟩, ⟨crO 2, none, 0, 0⟩, ⟨wrO 1 0 120, some ⟨B1, 0, none⟩, 256, 256⟩, ⟨wrO 1 1 121, some ⟨B2, 0, none⟩, 256, 256⟩, ⟨wrO 2 0 120, some ⟨B3, 0, none⟩, 256, 256⟩, ⟨wrO 2 1 122, some ⟨B4, 0, none⟩, 256, 256⟩, ⟨wrO 2 2 121, some ⟨B5, 0, none⟩, 256, 256⟩]
theorem known_made (W : World) (B0 B1 B2 B3 B4 B5 : Nat) (h0 : BlockAt W B0 ((knownC B1 B2 B3 B4 B5).flatMap opE.cs).toArray 43) (h1 : BlockAt W B1 (bkC (120 :: List.replicate 255 0)) 5) (h2 : BlockAt W B2 (bkC (121 :: List.replicate 255 0)) 5) (h3 : BlockAt W B3 (bkC (120 :: List.replicate 255 0)) 5) (h4 : BlockAt W B4 (bkC (122 :: List.replicate 255 0)) 5) (h5 : BlockAt W B5 (bkC (121 :: List.replicate 255 0)) 5) :
  Calls Tryz.prog 15 #[.slice (some ⟨B0, 0, none⟩) 7 7] W fun e w' => ∃ D R, e = .returned (.tuple #[.pointer (some ⟨D, 0, none⟩), .pointer (some ⟨R, 0, none⟩)]) ∧ DevAt W.heap.size w' D (devOf knownL) ∧ Gr W w' := by
 refine (made_any (knownC B1 B2 B3 B4 B5) 7 rfl (by omega) (some ⟨B0, 0, none⟩) 7 W ⟨fun _ _ => trivial, fun _ => ⟨B0, 0, rfl, h0.lt, CellsN.rows opIs _ (fun _ _ => trivial) h0 (by simp)⟩⟩ ?_).mono ?_
 ·intro x hx
  simp only [knownC, List.mem_cons, List.mem_nil_iff, or_false] at hx
  rcases hx with rfl | rfl | rfl | rfl | rfl | rfl | rfl
  ·exact opOk_cr 1 (by decide) W
  ·exact opOk_cr 2 (by decide) W
  ·exact opOk_wr 1 (by decide) 0 120 W B1 h1
  ·exact opOk_wr 1 (by decide) 1 121 W B2 h2
  ·exact opOk_wr 2 (by decide) 0 120 W B3 h3
  ·exact opOk_wr 2 (by decide) 1 122 W B4 h4
  ·exact opOk_wr 2 (by decide) 2 121 W B5 h5
 ·rintro _ _ ⟨D, R, rfl, hd, _, hg⟩
  exact ⟨D, R, rfl, hd, hg⟩
theorem own_row {α : Type} {e : EK α} (he : e.Is) {base : Nat} {W : World} {v : Value} {xs : List α} (h : OwnN e base W v xs) : ∃ A c, v = .slice A xs.length c ∧ RowN e W A xs := by
 obtain ⟨A, c, h1, _, _, h2⟩ := h.form he
 exact ⟨A, c, h1, h2⟩
theorem known_rw (W : World) (base D : Nat) (h : DevAt base W D (devOf knownL)) : Calls Tryz.prog 6 #[.pointer (some ⟨D, 0, none⟩), .int .u64 1, .int .u64 2] W fun e w' => ∃ A c, e = .returned (.tuple #[.slice A 4 c, .int .i64 0]) ∧ RowN strE w' A wantL ∧ Gr W w' := by
 refine (rows_any base D (devOf knownL) 1 2 W h).mono ?_
 rintro _ _ ⟨v, rfl, ho, hg⟩
 rw [known_rows] at ho
 obtain ⟨A, c, rfl, hr⟩ := own_row strIs ho
 exact ⟨A, c, by rw [known_chk]; rfl, hr, hg⟩
theorem known_same (W : World) (A : Option Addr) (c B : Nat) (h : RowN strE W A wantL) (hB : BlockAt W B (wantL.flatMap strE.cs).toArray 103) : Calls Tryz.prog 17 #[.slice A 4 c, .slice (some ⟨B, 0, none⟩) 4 4] W fun e w' => e = .returned (.bool true) ∧ Gr W w' :=
 (same_any wantL wantL 4 4 rfl rfl (by omega) (by omega) A (some ⟨B, 0, none⟩) c 4 W h ⟨fun _ _ => trivial, fun _ => ⟨B, 0, rfl, hB.lt, CellsN.rows strIs _ (fun _ _ => trivial) hB (by simp)⟩⟩).mono fun e w' ⟨h1, h2⟩ => ⟨by rw [h1, decide_eq_true rfl], h2⟩
theorem known_any (w : World) : Calls Tryz.prog 13 #[] w fun e w' => e = .returned (.bool true) ∧ Gr w w' := by
 have K1 := Lib.hid (fun W => known_block 1 0 (by omega) 120 0 0 rfl rfl 120 rfl W)
 have K2 := Lib.hid (fun W => known_block 1 1 (by omega) 121 1 4 rfl rfl 121 rfl W)
 have K3 := Lib.hid (fun W => known_block 2 0 (by omega) 120 0 0 rfl rfl 120 rfl W)
 have K4 := Lib.hid (fun W => known_block 2 1 (by omega) 122 1 4 rfl rfl 122 rfl W)
 have K5 := Lib.hid (fun W => known_block 2 2 (by omega) 121 2 8 rfl rfl 121 rfl W)
 go_enter Tryz.func13, Tryz.ntmps13
 go_wp2_with (first
  | (go_at_call 44; ((with_reducible refine (K1.out _).mono ?_); rintro _ _ ⟨B1, rfl, hB1, ⟨g1, rfl⟩⟩))
  | (go_at_call 44; ((with_reducible refine (K2.out _).mono ?_); rintro _ _ ⟨B2, rfl, hB2, ⟨g2, rfl⟩⟩))
  | (go_at_call 44; ((with_reducible refine (K3.out _).mono ?_); rintro _ _ ⟨B3, rfl, hB3, ⟨g3, rfl⟩⟩))
  | (go_at_call 44; ((with_reducible refine (K4.out _).mono ?_); rintro _ _ ⟨B4, rfl, hB4, ⟨g4, rfl⟩⟩))
  | (go_at_call 44; ((with_reducible refine (K5.out _).mono ?_); rintro _ _ ⟨B5, rfl, hB5, ⟨g5, rfl⟩⟩))
  | (go_at_call 15; (refine (known_made _ _ B1 B2 B3 B4 B5 (blk_cast inferInstance rfl) inferInstance inferInstance inferInstance inferInstance inferInstance).mono ?_); rintro _ _ ⟨D, R, rfl, hd, ⟨gm, rfl⟩⟩)
  | (go_at_call 6; (with_reducible refine (known_rw _ _ D (hd.gr gri)).mono ?_); rintro _ _ ⟨RA, rc, rfl, hr, ⟨gw, rfl⟩⟩)
  | (go_at_call 17; (refine (known_same _ RA rc _ (hr.gr gri) (blk_cast inferInstance rfl)).mono ?_); rintro _ _ ⟨rfl, ⟨g9, rfl⟩⟩))
 go_ret
 exact ⟨rfl, gri⟩
set_option maxRecDepth 100000
set_option maxHeartbeats 4000000 in
theorem copy_any (base D : Nat) (d : Dev) (w : World) (h : DevAt base w D d) : Calls Tryz.prog 42 #[.pointer (some ⟨D, 0, none⟩)] w fun e w' => ∃ D2, e = .returned (.pointer (some ⟨D2, 0, none⟩)) ∧ DevAt w.heap.size w' D2 d ∧ Gr w w' := by
 obtain ⟨M, mb, h⟩ := h
 haveI := h.blk
 have x0 : w.cell? ⟨D, 0, none⟩ = some (.map (some M)) := (@block_cells _ _ 0 _ _ h.blk).trans rfl
 haveI : Old D w := h.blk.old
 have HD := Lib.hid h
 have HT := Lib.hid (fun W (hW : Gr w W) => there_yes D M W (HD.out.blk.gr hW))
 clear h
 go_enter Tryz.func42, Tryz.ntmps42
 go_wp2_with (first | (go_at_call 50; ((with_reducible refine (HT.out _ gri).mono ?_); rintro _ _ ⟨rfl, g1, rfl⟩)) | (go_at_call 11; ((with_reducible refine (new_any _).mono ?_); rintro _ W2 ⟨D2, rfl, hd2, hg2⟩; have g2 : Gr w W2 := Gr.trans gri hg2; have y0 : W2.cell? ⟨D, 0, none⟩ = some (.map (some M)) := (@block_cells _ _ 0 _ _ (HD.out.blk.gr g2)).trans rfl; have oD : Old D W2 := (HD.out.blk.gr g2).old)) | (at_range; refine wpList_rangeK rfl _ rfl Tryz.underlying99 (HD.out.all.gr g2) rfl ?_; intro w0 cnt0 hrg0 hg0))
 go_frame
 obtain ⟨M2, mb2, hd2⟩ := hd2
 have HD2 := Lib.hid (hd2.lower (Gr.below (gri : Gr w (grown w g1))).size)
 have hMl : M < w.heap.size := HD.out.all.lt
 have hW2 := g2.below.size
 have hR0 := hrg0.lt
 go_loopw [15] (fun _ wr => ∃ left cnt mb2, RangeAt .u64 wr M W2.heap.size (d.map (volF mb)) left cnt ∧ DevIn w.heap.size wr D2 M2 mb2 (goneF left d) ∧ Gr w wr) (fun _ wr => wr.rangeLeft M W2.heap.size)
 case atStart => exact ⟨_, _, mb2, hrg0, by rw [goneF_start]; exact HD2.out.gr hg0, g2.trans hg0⟩
 case round =>
  obtain ⟨left, cnt, mb3, hrg, hdd, hgw⟩ := hrel
  have HR := Lib.hid hrg
  have HDD := Lib.hid hdd
  have HG := Lib.hid hgw
  clear hrg hdd hgw
  go_wp2_with (first | (at_next; refine wpList_nextK rfl _ rfl rfl HR.out ?_ ?_) | go_in)
  ·intro _ hl0
   go_wp2
   go_ret
   exact ⟨D2, rfl, ⟨M2, mb3, by rw [← goneF_end (left := left) (fun p hp => hl0 p.1 _ p.1 p.2.1 p.2.2 hp rfl)]; exact HDD.out⟩, HG.out⟩
  ·intro k v w1 cnt1 k' xn xm hp hpe hlk hrg1 hlt hob hen
   obtain ⟨rfl, rfl⟩ : k' = k ∧ v = .agg #[.int .i64 xn, .map (some (mb k'))] := by
    simp only [volF, Prod.mk.injEq] at hpe
    exact ⟨hpe.1, hpe.2.symm⟩
   have g1w : Gr w w1 := Gr.of (hob.below (by have := g2.below.size; omega) HR.out.lt HG.out.below)
   have hdd1 := HDD.out.iter HR.out hob
   have HDD1 := Lib.hid hdd1
   have HR1 := Lib.hid hrg1
   have HLT := Lib.hid hlt
   have HX := Lib.hid (HD.out.vol _ hp)
   have z0 : w1.cell? ⟨D2, 0, none⟩ = some (.map (some M2)) := (@block_cells _ _ 0 _ _ hdd1.blk).trans rfl
   haveI : Old D2 w1 := hdd1.blk.old
   clear hdd1 hrg1 hlt hpe
   go_wp2_with (first | go_in)
   refine wp_region_treeT (inCls_ghost _) (Cls.none _) ⟨Gr.of ((Below.refl _ _).drew), trivial⟩ [0, 1, 2, 3, 4, 5, 6, 7, 8] 2 11 (by kernel_rfl) (by kernel_rfl) ?_
   simp only [pick, List.drop_succ_cons, List.drop_zero, List.take_succ_cons, List.take_zero, List.nil_append, List.cons_append]
   repeat (refine wpCalm_step (fun K hK => ?_); go_simp; first | (refine hK _ ?_; clear hK K) | (apply Exists.intro; refine ⟨fun _ => ?_, hK _ ?_⟩; (skip); clear hK K))
   refine wpCalm_nil ?_
   refine ft_effD 9 (by kernel_rfl) (by omega) rfl rfl rfl fun w3 hw3 => effAt_call' 70 #[.map (some (mb k'))] (by go_simp) ((cloneMap_any (mb k') _ w3 (HX.out.gr (g1w.trans (Gr.trans gri hw3.1)))).mono fun e w4 hc => ⟨_, hc.1, ?_⟩)
   obtain ⟨he9, hc, hg⟩ := hc
   refine ⟨⟨fun w4 => MapAt .i64 w4 w3.heap.size (encK bkV xm), fun a b h g => h.gr g⟩, ⟨hw3.1.trans hg, hc⟩, ?_⟩
   have hsz := hw3.1.below.size
   have hb0 : w1.heap.size ≤ w3.heap.size := Nat.le_trans (inferInstance : From w1 _).le hsz
   generalize w3.heap.size = b at *
   clear he9 hc hg w4 e hw3 w3
   simp only [Act.put, List.setIfInBounds_toArray, List.set_cons_zero, List.set_cons_succ]
   refine ft_calmD 10 (.agg #[.int .i64 xn, .map (some b)]) (by kernel_rfl) (by omega) rfl rfl rfl (fun g => by unfold calmAt; go_simp) ?_
   simp only [Act.put, List.setIfInBounds_toArray, List.set_cons_zero, List.set_cons_succ]
   refine ft_end ⟨by kernel_rfl, fun w2 hw2 => ?_⟩
   try simp only [List.drop_succ_cons, List.drop_zero]
   have g3 : Gr w1 w2 := Gr.trans gri hw2.1
   refine wpList_updateK rfl _ _ _ rfl k' _ Tryz.underlying99 Tryz.underlying28 (HDD1.out.all.gr g3) rfl rfl rfl fun W' h1 h2 => ?_
   have hgp := goneF_put (left := left) HD.out.ok.sort hp
   have HD' := HDD1.out.put g3 k' (xn, xm) b hw2.2 (.inl hb0) h1 h2 (by rw [hgp]; exact goneF_ok HD.out.ok) (g1w.below.size)
   rw [hgp] at HD'
   have hr' := (HR1.out.gr g3).only (HDD1.out.all.gr g3) h2 (by have := HDD1.out.bM; omega)
   have hg' : Gr w W' := Gr.of (h2.below HDD1.out.bM (HDD1.out.all.gr g3).lt (g1w.trans g3).below)
   have HDF := Lib.hid HD'
   have HRF := Lib.hid hr'
   have HGF := Lib.hid hg'
   clear HD' hr' hg' h1 h2 hw2 g3 hsz
   try simp only [Act.put]
   go_wp2
   go_roundw
   case rel => exact ⟨fun z => left z && z != k', _, _, HRF.out, HDF.out, HGF.out⟩
   case measure => rw [HRF.out.left_eq, HR.out.left_eq]; exact HLT.out
set_option maxRecDepth 100000
set_option maxHeartbeats 4000000
def zSup : Array Value := #[.int .u64 0, .int .i64 0, .int .i64 0, .int .u32 0, .int .u32 0, .int .u32 0, .int .u32 0, .int .u32 0, .int .u32 0, .int .u32 0, .int .u32 0, .int .u32 0, .int .i64 0, .int .u64 0, .int .u64 0, .int .u64 0, .int .u64 0, .int .u64 0, .bool false]
theorem sup_field (w : World) : (Instr.field 77 (.agg zSup) 1).run Tryz.prog w = .ok (.int .i64 0) w := by kernel_rfl
theorem sup_zero (w : World) : (zeroValue 77).run Tryz.prog w = .ok (.agg zSup) w := by kernel_rfl
theorem sup_build (w : World) : (Instr.build 77 #[]).run Tryz.prog w = .ok (.agg zSup) w := by kernel_rfl
theorem sup_one : ∀ v ∈ zSup.toList, v.oneCell' = true := List.all_eq_true.1 rfl
theorem wpAllocS {W : World} {ops : Array Oper} {rest : List Oper} {o : Oper} {a : Act} {Q : Exit → Act → World → Prop} (hgd : o.guard = none) (ho : o.op = .alloc 77) (h : wpList Tryz.prog ops Q rest (a.put o.dst (.pointer (some ⟨W.heap.size, 0, none⟩))) (W.alloc (.cells zSup 77))) : wpList Tryz.prog ops Q (o :: rest) a W := by
 refine wpList_plain hgd fun K' hK' => ?_
 unfold Oper.wp execOp
 simp only [ho]
 simp [Sem.run_bind, sup_zero, go_sem]
 exact hK' _ _ h
theorem wpBuildS {W : World} {ops : Array Oper} {rest : List Oper} {o : Oper} {a : Act} {Q : Exit → Act → World → Prop} (hgd : o.guard = none) (ho : o.op = .build 77 #[]) (h : wpList Tryz.prog ops Q rest (a.put o.dst (.agg zSup)) W) : wpList Tryz.prog ops Q (o :: rest) a W := by
 refine wpList_plain hgd fun K' hK' => ?_
 unfold Oper.wp execOp
 simp only [ho, List.map_toArray, List.map_nil, Sem.run_bind, sup_build, Result.andThen_ok]
 exact hK' _ _ h
theorem super_nil (w : World) : Calls Tryz.prog 29 #[.pointer none] w fun e w' => e = .returned (.agg zSup) ∧ Gr w w' := by
 go_enter Tryz.func29, Tryz.ntmps29
 go_wp2_with (first | (refine wpAllocS rfl rfl ?_) | (refine wpBuildS rfl rfl ?_) | (refine wpList_storeRow rfl 77 _ _ rfl _ zSup zSup rfl rfl inferInstance (by kernel_rfl) rfl sup_one ?_))
 exact bodyPost_ret (run_resCell1 rfl _ w.heap.size zSup _ rfl inferInstance Tryz.underlying77 rfl (by kernel_rfl)) rfl ⟨rfl, gri⟩
theorem of_nil (l r : Int) (w : World) : Calls Tryz.prog 7 #[.pointer none, .int .u32 0, .int .u64 l, .int .u64 r] w fun e w' => e = .returned (.tuple #[.slice none 0 0, .int .i64 1]) ∧ Gr w w' := by
 have hfl := fun W => sup_field W
 go_enter Tryz.func7, Tryz.ntmps7
 go_wp2_with ((go_at_call 29; ((with_reducible refine (super_nil _).mono ?_); rintro _ _ ⟨rfl, g1, rfl⟩)))
 go_ret2
 exact ⟨rfl, gri⟩
theorem patch_nil (l r : Int) (w : World) : Calls Tryz.prog 8 #[.pointer none, .int .u64 l, .int .u64 r] w fun e w' => e = .returned (.tuple #[.slice none 0 0, .int .i64 1]) ∧ Gr w w' := by
 go_enter Tryz.func8, Tryz.ntmps8
 go_wp2_with ((go_at_call 25; ((with_reducible refine (sizes_nil _ _ _ _).mono ?_); rintro _ _ ⟨rfl, g1, rfl⟩)))
 go_ret2
 exact ⟨rfl, gri⟩
theorem lay_nil (b l r : Int) (w : World) : Calls Tryz.prog 9 #[.pointer none, .int .u64 b, .int .u64 l, .int .u64 r] w fun e w' => e = .returned (.tuple #[.slice none 0 0, .slice none 0 0, .int .i64 1]) ∧ Gr w w' := by
 go_enter Tryz.func9, Tryz.ntmps9
 go_wp2_with ((go_at_call 25; ((with_reducible refine (sizes_nil _ _ _ _).mono ?_); rintro _ _ ⟨rfl, g1, rfl⟩)))
 go_ret3
 exact ⟨rfl, gri⟩
theorem apply_nil (w : World) : Calls Tryz.prog 10 #[.pointer none, .slice none 0 0] w fun e w' => e = .returned (.tuple #[.pointer none, .int .i64 1]) ∧ Gr w w' := by
 go_enter Tryz.func10, Tryz.ntmps10
 go_wp2
 go_ret2
 exact ⟨rfl, gri⟩
theorem dkind_nil (w : World) : Calls Tryz.prog 12 #[.slice none 0 0, .int .i64 0] w fun e w' => e = .returned (.int .i64 0) ∧ Gr w w' := by
 go_enter Tryz.func12, Tryz.ntmps12
 go_wp2
 go_loopw [9] (fun i wr => i = .int .i64 0 ∧ Gr w wr) (fun i _ => 0)
 case atStart => exact ⟨rfl, gri⟩
 case round =>
  obtain ⟨rfl, hg⟩ := hrel
  haveI := grc_of hg
  go_wp2
  go_ret
  exact ⟨rfl, gri⟩
set_option maxRecDepth 100000
set_option maxHeartbeats 4000000
def appK : Dev → List OpM → Int × Dev
 | d, [] => (0, d)
 | d, o :: l => if (ansK d o 1024).1 = 0 then appK (doK d o) l else ((ansK d o 1024).1, d)
def ApPost (base : Nat) (r : Int × Dev) (e : Ending) (w' : World) : Prop :=
 (r.1 = 0 ∧ ∃ D, e = .returned (.tuple #[.pointer (some ⟨D, 0, none⟩), .int .i64 0]) ∧ DevAt base w' D r.2) ∨ (r.1 ≠ 0 ∧ e = .returned (.tuple #[.pointer none, .int .i64 r.1]))
theorem DevAt.lower9 {base base' D : Nat} {W : World} {d : Dev} (h : DevAt base W D d) (hb : base' ≤ base) : DevAt base' W D d := by
 obtain ⟨M, mb, h⟩ := h
 exact ⟨M, mb, h.lower hb⟩
theorem apply_any (base D : Nat) (d : Dev) (l : List OpC) (n : Nat) (hn : l.length = n) (hn9 : n ≤ 100000) (A : Option Addr) (c : Nat) (w : World) (h : DevAt base w D d) (hr : RowN opE w A l) (hok : ∀ x ∈ l, OpOk w x) :
  Calls Tryz.prog 10 #[.pointer (some ⟨D, 0, none⟩), .slice A n c] w fun e w' => ApPost w.heap.size (appK d (l.map (·.o))) e w' ∧ Gr w w' := by
 have HR := Lib.hid hr
 have HOK := Lib.hid hok
 have HN := Lib.hid hn
 have HCo := Lib.hid (fun W (hW : Gr w W) => copy_any base D d W (h.gr hW))
 obtain ⟨res, hres⟩ : ∃ r, r = appK d (l.map (·.o)) := ⟨_, rfl⟩
 rw [← hres]
 have HRES := Lib.hid hres
 clear hr hok hn h hres
 go_enter Tryz.func10, Tryz.ntmps10
 go_wp2_with (first | (go_at_call 42; ((with_reducible refine (HCo.out _ gri).mono ?_); rintro _ W2 ⟨D2, rfl, hd2, hg2⟩; have hd3 : DevAt w.heap.size W2 D2 d := hd2.lower9 (Gr.below (show Gr w _ from gri)).size; have g2 : Gr w W2 := Gr.trans gri hg2)))
 go_loopw [16] (fun i wr => ∃ (k : Nat) (dk : Dev), k ≤ n ∧ i = .int .i64 (k : Int) ∧ DevAt w.heap.size wr D2 dk ∧ res = appK dk ((l.drop k).map (·.o)) ∧ Gr w wr) (fun i _ => n - (intOf i).toNat)
 case atStart => exact ⟨0, d, Nat.zero_le _, rfl, hd3, by rw [List.drop_zero]; exact HRES.out, g2⟩
 case round =>
  obtain ⟨k, dk, hk, rfl, hd, hres, hg⟩ := hrel
  haveI := grc_of hg
  haveI := from_of hg
  have HD := Lib.hid hd
  have HG := Lib.hid hg
  have HRS := Lib.hid hres
  clear hd hg hd2 hg2 hd3 g2 hres
  by_cases hlt : k < n
  ·obtain ⟨x, hx⟩ : ∃ x, l[k]? = some x := ⟨_, List.getElem?_eq_getElem (by rw [HN.out]; exact hlt)⟩
   obtain ⟨b, p, rfl, hb, hcl⟩ := HR.out.at_ (by rintro rfl; have := HN.out; simp at this; omega)
   obtain ⟨c0, c1, c2, c3, c4, c5, c6⟩ := opCells hcl hx
   have hcell : ∀ (j : Nat) v, w.cell? ⟨b, j, none⟩ = some v → wr.cell? ⟨b, j, none⟩ = some v := fun j v h => (HG.out.below.cell (p := ⟨b, j, none⟩) hb).trans h
   have d0 := hcell _ _ c0
   have d1 := hcell _ _ c1
   have d2 := hcell _ _ c2
   have d3 := hcell _ _ c3
   have d4 := hcell _ _ c4
   have d5 := hcell _ _ c5
   have d6 := hcell _ _ c6
   haveI : Old b wr := old_of_cell d0
   have ho := HOK.out x (List.mem_of_getElem? hx)
   have HDo := Lib.hid (fun W (hW : Gr wr W) => do_any x.o.k x.o.v x.o.t x.o.s x.o.a x.o.c x.D x.n x.q ho.cap x.o.l ho.len w.heap.size D2 dk W (HD.out.gr hW) (HG.out.trans hW).below.size (ho.row.gr (HG.out.trans hW)) ho.small)
   have hdr : (l.drop k).map (·.o) = x.o :: (l.drop (k + 1)).map (·.o) := by
    obtain ⟨hl9, he9⟩ := List.getElem?_eq_some_iff.1 hx
    rw [← he9, List.drop_eq_getElem_cons hl9, List.map_cons]
   have hrs := HRS.out
   rw [hdr, appK] at hrs
   have HRS2 := Lib.hid hrs
   clear hcell c0 c1 c2 c3 c4 c5 c6 hcl hx ho hdr hrs
   obtain ⟨⟨ok, ov, ot, os, oa, oc, ol⟩, oD, on, oq⟩ := x
   simp only at *
   generalize hz : ansK dk ⟨ok, ov, ot, os, oa, oc, ol⟩ 1024 = z at *
   obtain ⟨co, dn, da⟩ := z
   simp only at HDo HRS2
   by_cases hco : co = 0
   ·subst hco
    have HRS3 := Lib.hid (HRS2.out.trans (if_pos rfl))
    clear hz
    go_wp2_with (first | (go_at_call 43; ((with_reducible refine (HDo.out _ gri).mono ?_); rintro _ W3 ⟨A3, n3, c3, rfl, ho3, hd3, hb3, hk3⟩; have g3 : Gr w W3 := Gr.of ((show Gr w _ from gri).below.trans hb3); haveI := grc_of g3; haveI := from_of g3)))
    go_roundw
    case rel => exact ⟨k + 1, _, hlt, by go_num, hd3.gr gri, HRS3.out, Gr.trans g3 gri⟩
    case measure => simp [intOf]; omega
   ·have HRS3 := Lib.hid (HRS2.out.trans (if_neg hco))
    have hb : (co != 0) = true := by rw [bne_iff_ne]; exact hco
    have HC := Lib.hid hco
    clear hz hco
    go_wp2_with (first | (go_at_call 43; ((with_reducible refine (HDo.out _ gri).mono ?_); rintro _ W3 ⟨A3, n3, c3, rfl, ho3, hd3, hb3, hk3⟩; have g3 : Gr w W3 := Gr.of ((show Gr w _ from gri).below.trans hb3); haveI := grc_of g3; haveI := from_of g3)))
    refine wp_region_grow (by kernel_rfl) (by kernel_rfl) ?_
    repeat (go_big_quiet_step (fail))
    refine wpQuiet_nil ?_
    intro g5
    go_wp2
    go_ret2
    exact ⟨.inr ⟨by rw [HRS3.out]; exact HC.out, by rw [HRS3.out]; rfl⟩, Gr.trans g3 gri⟩
  ·have : k = n := by omega
   subst this
   have he : res = (0, dk) := by
    have := HRS.out
    rwa [List.drop_eq_nil_of_le (by rw [HN.out]; omega), List.map_nil, appK] at this
   have HE := Lib.hid he
   clear he
   go_wp2
   go_ret2
   exact ⟨.inl ⟨by rw [HE.out], _, rfl, by rw [HE.out]; exact HD.out⟩, HG.out⟩
theorem lay_121 (base D : Nat) (w : World) (h : DevAt base w D []) : Calls Tryz.prog 9 #[.pointer (some ⟨D, 0, none⟩), .int .u64 1, .int .u64 2, .int .u64 1] w fun e w' => e = .returned (.tuple #[.slice none 0 0, .slice none 0 0, .int .i64 2]) ∧ Gr w w' := by
 have HS := Lib.hid (fun W (hW : Gr w W) (B : Nat) (hB : BlockAt W B #[.int .u64 1, .int .u64 2, .int .u64 1] 28) => show Calls Tryz.prog 25 #[.pointer (some ⟨D, 0, none⟩), .slice (some ⟨B, 0, none⟩) 3 3] W (fun e w' => e = .returned (.tuple #[.slice none 0 0, .int .i64 2]) ∧ Gr W w') from by
  refine (sizes_any base D [] [1, 2, 1] B 0 3 3 W (h.gr hW) rfl (by omega) hB.lt (by omega) (rowB [1, 2, 1] hB rfl)).mono ?_
  rintro _ _ ⟨v, rfl, hv, hg⟩
  have e1 : chkK [] [1, 2, 1] = 2 := by decide
  rw [e1] at hv ⊢
  rw [if_neg (by decide)] at hv
  rw [hv]
  exact ⟨rfl, hg⟩)
 clear h
 go_enter Tryz.func9, Tryz.ntmps9
 go_wp2_with ((go_at_call 25; ((with_reducible refine (HS.out _ gri _ inferInstance).mono ?_); rintro _ _ ⟨rfl, g1, rfl⟩)))
 go_ret3
 exact ⟨rfl, gri⟩
end Go.Proofs.YtipeblmgochdfaaGreat
namespace Go.Proofs.YtipeblmgochdfaaGreat
open Go.ChangeShapes Go.WideShapes Go.ChangeAt Go.RowKit Go.Deep
section
variable {H : Type} {enc : TypeId × Value → H} {P : Program}
def typesRead (P : Program) (ts : List TypeId) : Bool := ts.all fun t => P.readableRec t && decide (t < P.types.size)
theorem trodAll_below (hl : laidOutB P = true) {W W' : World} (hb : Below W.heap.size W W') :
  ∀ {ts : List TypeId} {vs : List Value} {ds : List (DataW H)} {ps : List MemPlace}, typesRead P ts = true →
   DataW.TrodAll enc P W 0 (fun _ => true) true ts vs ds ps → (∀ x ∈ ps, x.block < W.heap.size) → DataW.TrodAll enc P W' 0 (fun b => decide (b < W.heap.size)) true ts vs ds ps
 | [], [], [], _, _, h, _ => h
 | [], [], _ :: _, _, _, h, _ => h.elim
 | [], _ :: _, _, _, _, h, _ => h.elim
 | _ :: _, [], _, _, _, h, _ => h.elim
 | _ :: _, _ :: _, [], _, _, h, _ => h.elim
 | t :: ts, v :: vs, d :: ds, ps, hr, h, hlt => by
  obtain ⟨p, q, h1, h2, rfl⟩ := h
  simp only [typesRead, List.all_cons, Bool.and_eq_true, decide_eq_true_eq] at hr
  exact ⟨p, q, Below.trod hl hr.1.1 hr.1.2 h1 hb (fun x hx => hlt x (by simp [hx])), trodAll_below hl hb (by simpa [typesRead] using hr.2) h2 (fun x hx => hlt x (by simp [hx])), rfl⟩
variable {w : World} {base : Nat} {spare : Nat → Bool} {held : Bool}
end
end Go.Proofs.YtipeblmgochdfaaGreat
