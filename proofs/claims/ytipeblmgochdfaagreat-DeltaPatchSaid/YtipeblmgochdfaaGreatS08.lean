/- Parts of blocks, as the reference has them: Split, Merge, Cut, Data. Conditions: bounds of operations. Device.create, drop. Conditions: the device stands in memory. What a loop over the parts of a volume's blocks keeps; a look for a block. Conditions: none. part.Over once more, where the loop knows that what comes is a part. Conditions: what is captured stands in memory. A region that draws its order, in a round of a loop over a function. Conditions: each step is known; no operation defers. Device.read. Conditions: the device stands in memory. Device.Part: refused or done. Conditions: the device and the operation's data stand in memory. Device.Part, refused; and of a kind that does nothing. Conditions: as XDPa. -/
import Derived.Test.YtipeblmgochdfaaGreatS05
import Derived.Test.YtipeblmgochdfaaGreatS07
import Derived.LoopTactic
import Derived.RangeFuncNested
import Derived.RangeFuncBound
import Derived.RangeFuncCalls
import Derived.RangeFuncLeaves
import Derived.Shelf.Abstract
import Derived.Shelf.RegionOpen
import Derived.OwnWalkIn
import Derived.TacticsInMore
import Derived.LoopNIn
import Derived.LoopIn
import Derived.RangeFuncFrom
import Derived.OrdersIn
import Derived.Test.YtipeblmgochdfaaGreatS04
namespace Go.Proofs.YtipeblmgochdfaaGreat
open Go.RowKit
set_option linter.unusedVariables false
set_option linter.unusedSimpArgs false
set_option linter.unnecessarySimpa false
set_option maxRecDepth 100000
set_option maxHeartbeats 4000000
theorem rsplit_any (a c : Nat) (ha : a ≤ 1048576) (h0 : 0 < c) (hc : c ≤ 1048576) (w : World) : Calls Tryz.prog 126 #[.int .i64 (a : Int), .int .i64 (c : Int)] w fun e w' => ∃ v, e = .returned v ∧ OwnN spE w.heap.size w' v (spans a c) ∧ Gr w w' := by
 go_enter Tryz.func126, Tryz.ntmps126
 go_wp2
 go_loopw [5, 6] (fun v i wr => ∃ k : Nat, k ≤ c ∧ i = .int .i64 ((a + k : Nat) : Int) ∧ OwnN spE w.heap.size wr v (spans a k) ∧ Gr w wr) (fun _ i _ => a + c - (intOf i).toNat)
 case atStart => exact ⟨0, Nat.zero_le _, by simp, OwnN.nil _ _, gri⟩
 case round =>
  obtain ⟨k, hk, rfl, hown, hg⟩ := hrel
  haveI := grc_of hg
  haveI := from_of hg
  have HG := Lib.hid hg; clear hg
  by_cases hlt : k < c
  ·obtain ⟨L, hL⟩ : ∃ L, spans a k = L := ⟨_, rfl⟩
   have hLn : L.length ≤ k := by rw [← hL]; exact spans_len a k
   have hnx : spans a (k + 1) = addP L (a + k) := by rw [← hL]; exact spans_snoc k a
   rw [hL] at hown
   have HN := Lib.hid hnx
   clear hL hnx
   obtain ⟨S, hS⟩ : ∃ S, S = a + k := ⟨_, rfl⟩
   have hS1 : S < a + c := by omega
   have HS := Lib.hid hS
   rw [← hS]
   rw [← hS] at HN
   have hS3 : S ≤ 2097152 := by omega
   clear hS
   rcases List.eq_nil_or_concat L with rfl | ⟨L0, x, rfl⟩
   ·obtain ⟨A, c', rfl, _, _, _⟩ := hown.form spIs
    have HO := Lib.hid hown
    clear hown hLn
    go_wp2_with (first | (at_builtin; refine wp_append_n spIs rfl _ _ rfl rfl (HO.out.gr gri) _ 0 [⟨S / 4, S % 4, S % 4 + 1⟩] 1 1 rfl rfl (fun _ _ => trivial) (CellsN.block _ inferInstance rfl) (by simp) past (by simp) ?_; intro v1 W1 h1; have H1 := Lib.hid h1; clear h1))
    go_roundw
    case rel => exact ⟨k + 1, by omega, by have := HS.out; go_num, by rw [HN.out]; exact H1.out.own, by haveI := H1.out.grc w (Nat.le_refl _); exact gri⟩
    case measure => have := HS.out; simp [intOf]; omega
   ·rw [List.concat_eq_append] at hLn HN hown
    have hm : (L0 ++ [x]).length = L0.length + 1 := by simp
    obtain ⟨g, c', hv, hbg, hgl, _, hcm, hcl, hfz⟩ := hown.cells spIs (by simp)
    rw [hm] at hv hLn
    subst hv
    have hx := hcl L0.length x (by simp)
    have x0 : wr.cell? ⟨g, L0.length * 3, none⟩ = some (.int .i64 (x.b : Int)) := by have := hx 0 _ rfl; rwa [Nat.zero_add, Nat.add_zero] at this
    have x2 : wr.cell? ⟨g, L0.length * 3 + 2, none⟩ = some (.int .i64 (x.t : Int)) := by have := hx 2 _ rfl; rwa [Nat.zero_add] at this
    haveI : Old g wr := ⟨hgl⟩
    have u1 := hfz (L0.length * 3 + 2)
    have HO := Lib.hid hown
    have HM := Lib.hid hm
    have hm2 : L0.length + 1 ≤ 2097152 := by omega
    have HX : Hid ((L0 ++ [x])[L0.length]? = some x) := Lib.hid (by simp)
    have HSS : Hid (∀ y, (L0 ++ [x]).set L0.length y = L0 ++ [y]) := Lib.hid (by simp)
    clear hx hfz hcl hown hm hLn
    generalize L0.length = m at *
    by_cases hq : x.b = S / 4
    ·have hb : ((x.b : Int) == (S : Int) / 4) = true := by simp [hq]
     have HQ := Lib.hid hq; clear hq
     go_wp2
     go_roundw
     case rel => exact ⟨k + 1, by omega, by have := HS.out; go_num, by
      rw [HN.out, addP_last, if_pos HQ.out, ← HSS.out]
      exact (HO.out.gr gri).store spIs m 2 x _ _ HX.out (by decide) rfl trivial, by haveI : Past w g := ⟨hbg⟩; exact gri⟩
     case measure => have := HS.out; simp [intOf]; omega
    ·have hb : ((x.b : Int) == (S : Int) / 4) = false := by
      simp only [beq_eq_false_iff_ne, ne_eq]; omega
     have HQ := Lib.hid hq; clear hq
     go_wp2_with (first | (at_builtin; refine wp_append_n spIs rfl _ _ rfl rfl (HO.out.gr gri) _ 0 [⟨S / 4, S % 4, S % 4 + 1⟩] 1 1 rfl rfl (fun _ _ => trivial) (CellsN.block _ inferInstance rfl) (by rw [HM.out, List.length_singleton]; omega) past (by simp) ?_; intro v1 W1 h1; have H1 := Lib.hid h1; clear h1))
     go_roundw
     case rel => exact ⟨k + 1, by omega, by have := HS.out; go_num, by rw [HN.out, addP_last, if_neg HQ.out]; exact H1.out.own, by haveI := H1.out.grc w (Nat.le_refl _); exact gri⟩
     case measure => have := HS.out; simp [intOf]; omega
  ·have : k = c := by omega
   subst this
   have HO := Lib.hid hown; clear hown
   go_wp2
   go_ret
   exact ⟨_, rfl, HO.out, HG.out⟩
theorem bkC_set (X : Byt) (i : Nat) (x : UInt8) : bkC (X.set i x) = (bkC X).setIfInBounds i (bv x) := by
 apply Array.toList_inj.1
 simp [bkC, List.map_set]
theorem rmerge_any (B D : Byt) (f n c b p : Nat) (w : World) (hB : B.length = 256) (hf : f < 4) (hl : D.length = n) (h64 : n % 64 = 0) (hn : n ≤ (4 - f) * 64) (hb : b < w.heap.size) (hc : ∀ (j : Nat) x, D[j]? = some x → w.cell? ⟨b, p + j, none⟩ = some (bv x)) :
  Calls Tryz.prog 127 #[.agg (bkC B), .int .i64 (f : Int), .slice (some ⟨b, p, none⟩) n c] w fun e w' => e = .returned (.tuple #[.agg (bkC (mergeB B f D)), .int .i64 0]) ∧ Gr w w' := by
 haveI : Old b w := ⟨hb⟩
 haveI := bkC_row hB
 have HC := Lib.hid hc
 have HL := Lib.hid hl
 have HB := Lib.hid hB
 have hmod : (n : Int) % 64 = 0 := by omega
 have hle : ¬ (4 - (f : Int)) < (n : Int) / 64 := by omega
 clear hc hl hB
 go_enter Tryz.func127, Tryz.ntmps127
 go_wp2
 go_loopw [8] (fun i wr => ∃ k : Nat, k ≤ n ∧ i = .int .i64 (k : Int) ∧ BlockAt wr w.heap.size (bkC (mergeB B f (D.take k))) 88 ∧ BlockAt wr (w.heap.size + 1) Tryz.zeroCells88 88 ∧ Gr w wr) (fun i _ => n - (intOf i).toNat)
 case atStart => exact ⟨0, Nat.zero_le _, rfl, by rw [List.take_zero, mergeB_zero]; infer_instance, inferInstance, gri⟩
 case round =>
  obtain ⟨k, hk, rfl, hb1, hb2, hg⟩ := hrel
  haveI := hb1
  haveI := hb2
  haveI := grc_of hg
  haveI := from_of hg
  have hM : (mergeB B f (D.take k)).length = 256 := mergeB_len B f _ HB.out (by have := HL.out; simp; omega)
  haveI := bkC_row hM
  have HG := Lib.hid hg
  clear hg
  by_cases hlt : k < n
  ·obtain ⟨x, hx⟩ : ∃ x, D[k]? = some x := ⟨_, List.getElem?_eq_getElem (by rw [HL.out]; exact hlt)⟩
   have c1 : wr.cell? ⟨b, p + k, none⟩ = some (.int .u8 x.toNat) := (HG.out.below.cell (p := ⟨b, p + k, none⟩) hb).trans (HC.out k x hx)
   haveI : Old b wr := old_of_cell c1
   obtain ⟨S, hS⟩ : ∃ S, S = 64 * f + k := ⟨_, rfl⟩
   have e1 : 64 * (f : Int) + (k : Int) = (S : Int) := by omega
   have hS2 : S < 256 := by omega
   have z1 : wr.cell? ⟨w.heap.size, S, none⟩ = (bkC (mergeB B f (D.take k)))[S]? := @block_cells _ _ S _ _ hb1
   obtain ⟨y, hxs⟩ : ∃ y, (bkC (mergeB B f (D.take k)))[S]? = some (bv y) := ⟨_, bkC_at (List.getElem?_eq_getElem (by omega))⟩
   rw [hxs] at z1
   have z2 : wr.frozen? ⟨w.heap.size, S, none⟩ = false := @block_frozen _ _ S _ _ hb1
   have hst : bkC (mergeB B f (D.take (k + 1))) = (bkC (mergeB B f (D.take k))).setIfInBounds S (.int .u8 x.toNat) := by
    rw [List.take_add_one, hx, hS]
    have h1 := mergeB_snoc B f (D.take k) x (by have := HB.out; have := HL.out; simp; omega)
    have h2 : (D.take k).length = k := by simp; have := HL.out; omega
    rw [h2] at h1
    rw [Option.toList_some, h1, bkC_set]
    rfl
   have HST := Lib.hid hst
   clear hst hx hxs hS hM
   generalize hMM : mergeB B f (D.take k) = M at *
   go_wp2
   go_roundw
   case rel => exact ⟨k + 1, by omega, by go_num, by rw [HST.out]; infer_instance, inferInstance, gri⟩
   case measure => simp [intOf]; omega
  ·have : k = n := by omega
   subst this
   have e : D.take k = D := List.take_of_length_le (by rw [HL.out]; omega)
   rw [e] at hb1 hM
   haveI := hb1
   haveI := bkC_row hM
   clear e
   go_wp2_with (first | (refine wpStoreB rfl _ _ rfl _ _ (bkC (mergeB B f D)) rfl rfl inferInstance inferInstance inferInstance ?_) | (refine wpLoadB rfl _ rfl _ (bkC (mergeB B f D)) rfl hb1 inferInstance ?_))
   exact bodyPost_ret (run_resB rfl _ _ _ _ rfl rfl inferInstance inferInstance) rfl ⟨rfl, gri⟩
theorem rspan_any (b f t : Nat) (h1 : f < t) (h2 : t ≤ 4) (w : World) : Calls Tryz.prog 146 #[.agg #[.int .i64 (b : Int), .int .i64 (f : Int), .int .i64 (t : Int)]] w fun e w' => e = .returned (.bool true) ∧ Gr w w' := by
 go_enter Tryz.func146, Tryz.ntmps146
 go_wp2
 go_ret
 exact ⟨rfl, gri⟩
theorem rcut_any (B : Byt) (b f t : Nat) (hB : B.length = 256) (h1 : f < t) (h2 : t ≤ 4) (w : World) : Calls Tryz.prog 130 #[.agg (bkC B), .agg #[.int .i64 (b : Int), .int .i64 (f : Int), .int .i64 (t : Int)]] w fun e w' => ∃ v, e = .returned v ∧ OwnN bE w.heap.size w' v (cutK B ⟨b, f, t⟩) ∧ Gr w w' := by
 haveI := bkC_row hB
 have HB := Lib.hid hB
 have HS := Lib.hid (fun W => rspan_any b f t h1 h2 W)
 clear hB
 go_enter Tryz.func130, Tryz.ntmps130
 go_wp2
 go_loopw [5, 6] (fun v i wr => ∃ k : Nat, k ≤ 64 * (t - f) ∧ i = .int .i64 ((64 * f + k : Nat) : Int) ∧ OwnN bE w.heap.size wr v ((B.drop (64 * f)).take k) ∧ BlockAt wr w.heap.size (bkC B) 88 ∧ BlockAt wr (w.heap.size + 1) #[.int .i64 (b : Int), .int .i64 (f : Int), .int .i64 (t : Int)] 146 ∧ Gr w wr) (fun _ i _ => 64 * t - (intOf i).toNat)
 case atStart => exact ⟨0, Nat.zero_le _, by go_num, OwnN.nil _ _, inferInstance, inferInstance, gri⟩
 case round =>
  obtain ⟨k, hk, rfl, hown, hb1, hb2, hg⟩ := hrel
  haveI := hb1
  haveI := hb2
  haveI := hb1.old
  haveI := hb2.old
  haveI := grc_of hg
  haveI := from_of hg
  have s0 : wr.cell? ⟨w.heap.size + 1, 0, none⟩ = some (.int .i64 (b : Int)) := (@block_cells _ _ 0 _ _ hb2).trans rfl
  have s1 : wr.cell? ⟨w.heap.size + 1, 1, none⟩ = some (.int .i64 (f : Int)) := (@block_cells _ _ 1 _ _ hb2).trans rfl
  have s2 : wr.cell? ⟨w.heap.size + 1, 2, none⟩ = some (.int .i64 (t : Int)) := (@block_cells _ _ 2 _ _ hb2).trans rfl
  have HG := Lib.hid hg; clear hg
  have HO := Lib.hid hown; clear hown
  obtain ⟨S, hS⟩ : ∃ S, S = 64 * f + k := ⟨_, rfl⟩
  rw [← hS]
  have hS1 : S ≤ 64 * t := by omega
  have HSS := Lib.hid hS
  by_cases hlt : S < 64 * t
  ·obtain ⟨x, hx⟩ : ∃ x, B[S]? = some x := ⟨_, List.getElem?_eq_getElem (by rw [HB.out]; omega)⟩
   have z1 : wr.cell? ⟨w.heap.size, S, none⟩ = some (.int .u8 x.toNat) := (@block_cells _ _ S _ _ hb1).trans (bkC_at hx)
   have hnx : (B.drop (64 * f)).take (k + 1) = (B.drop (64 * f)).take k ++ [x] := by
    rw [List.take_add_one, List.getElem?_drop, ← hS, hx]; rfl
   have hln : ((B.drop (64 * f)).take k).length ≤ 256 := by have := HB.out; simp; omega
   have HN := Lib.hid hnx
   clear hnx hx hS
   go_wp2_with (first | (go_at_call 146; ((with_reducible refine (HS.out _).mono ?_); rintro _ _ ⟨rfl, g1, rfl⟩)) | (at_builtin; refine wp_append_n bIs rfl _ _ rfl rfl (HO.out.gr gri) _ 0 [x] 1 1 rfl rfl (fun _ _ => trivial) (CellsN.block _ inferInstance rfl) (by simp; omega) past (by simp) ?_; intro v1 W1 h1; have H1 := Lib.hid h1; clear h1))
   go_roundw
   case rel => exact ⟨k + 1, by have := HSS.out; omega, by have := HSS.out; go_num, by rw [HN.out]; exact H1.out.own, H1.out.keep _ _ _ inferInstance (by decide), H1.out.keep _ _ _ inferInstance (by decide), by haveI := H1.out.grc w (Nat.le_refl _); exact gri⟩
   case measure => have := HSS.out; simp [intOf]; omega
  ·have e : k = 64 * (t - f) := by omega
   have HE := Lib.hid e
   clear hS e
   go_wp2_with ((go_at_call 146; ((with_reducible refine (HS.out _).mono ?_); rintro _ _ ⟨rfl, g1, rfl⟩)))
   go_ret
   exact ⟨_, rfl, by rw [cutK, ← HE.out]; exact HO.out.gr gri, gri⟩
theorem sliceI (b p n c x y : Nat) (h0 : x < c) (h1 : x ≤ y) (h2 : y ≤ n) (h3 : n ≤ c) (w : World) : (Instr.slice 41 (.slice (some ⟨b, p, none⟩) n c) (some (.int .i64 (x : Int))) (some (.int .i64 (y : Int))) none).run Tryz.prog w = .ok (.slice (some ⟨b, p + x, none⟩) (y - x) (c - x)) w := by
 have h := run_slice_lh (P := Tryz.prog) w 41 (some ⟨b, p, none⟩) n c (by rw [elemB]; exact Tryz.underlying41) .i64 .i64 (x : Int) (y : Int) (by omega) (by omega) (by omega)
 rw [h, elemB, asize]
 rw [Int.toNat_natCast, Int.toNat_natCast]
 simp only [Result.andThen_ok, sliced]
 rw [if_neg (by omega)]
 simp [Go.WideShapes.add_plain]
theorem rdata_any (b f t at_ n c B p : Nat) (D : Byt) (w : World) (hb : b ≤ 1000000) (h1 : f < t) (h2 : t ≤ 4) (ha : at_ ≤ 4 * b + f) (hat : at_ ≤ 1073741824) (hn : 4 * b + t ≤ at_ + n / 64) (hn2 : n ≤ 1000000) (hl : D.length = n) (hnc : n ≤ c) (hB : B < w.heap.size) (hc : ∀ (j : Nat) x, D[j]? = some x → w.cell? ⟨B, p + j, none⟩ = some (bv x)) :
  Calls Tryz.prog 128 #[.agg #[.int .i64 (b : Int), .int .i64 (f : Int), .int .i64 (t : Int)], .int .i64 (at_ : Int), .slice (some ⟨B, p, none⟩) n c] w fun e w' => ∃ v, e = .returned v ∧ OwnN bE w.heap.size w' v (segK ⟨b, f, t⟩ at_ D) ∧ Gr w w' := by
 have HC := Lib.hid hc
 have HL := Lib.hid hl
 have HS := Lib.hid (fun W => rspan_any b f t h1 h2 W)
 haveI : Old B w := ⟨hB⟩
 have HBl := Lib.hid hB
 clear hl hc hB
 go_enter Tryz.func128, Tryz.ntmps128
 go_wp2_with ((go_at_call 146; ((with_reducible refine (HS.out _).mono ?_); rintro _ _ ⟨rfl, g1, rfl⟩)))
 go_loopw [7, 8] (fun v i wr => ∃ k : Nat, k ≤ t - f ∧ i = .int .i64 ((f + k : Nat) : Int) ∧ OwnN bE w.heap.size wr v ((D.drop (64 * (4 * b + f - at_))).take (64 * k)) ∧ BlockAt wr w.heap.size #[.int .i64 (b : Int), .int .i64 (f : Int), .int .i64 (t : Int)] 146 ∧ Gr w wr) (fun _ i _ => t - (intOf i).toNat)
 case atStart => exact ⟨0, Nat.zero_le _, by go_num, OwnN.nil _ _, inferInstance, gri⟩
 case round =>
  obtain ⟨k, hk, rfl, hown, hb1, hg⟩ := hrel
  haveI := hb1
  haveI := hb1.old
  haveI := grc_of hg
  haveI := from_of hg
  have s0 : wr.cell? ⟨w.heap.size, 0, none⟩ = some (.int .i64 (b : Int)) := (@block_cells _ _ 0 _ _ hb1).trans rfl
  have s2 : wr.cell? ⟨w.heap.size, 2, none⟩ = some (.int .i64 (t : Int)) := (@block_cells _ _ 2 _ _ hb1).trans rfl
  have HG := Lib.hid hg; clear hg
  have HO := Lib.hid hown; clear hown
  obtain ⟨S, hS⟩ : ∃ S, S = f + k := ⟨_, rfl⟩
  rw [← hS]
  have hS1 : S ≤ t := by omega
  have HSS := Lib.hid hS
  by_cases hlt : S < t
  ·obtain ⟨N, hN⟩ : ∃ N, N = 4 * b + S - at_ := ⟨_, rfl⟩
   have e1 : 4 * (b : Int) + (S : Int) - (at_ : Int) = (N : Int) := by omega
   have hN1 : (N : Int) < (n : Int) / 64 := by omega
   obtain ⟨Q, hQ⟩ : ∃ Q, Q = 64 * N := ⟨_, rfl⟩
   obtain ⟨R, hR⟩ : ∃ R, R = Q + 64 := ⟨_, rfl⟩
   have e2 : 64 * (N : Int) = (Q : Int) := by omega
   have e3 : (Q : Int) + 64 = (R : Int) := by omega
   have hN3 : N ≤ 1000000 := by omega
   have hQ3 : Q ≤ 64000000 := by omega
   have hR3 : R ≤ 64000064 := by omega
   have hsl := fun W => sliceI B p n c Q R (by omega) (by omega) (by omega) hnc W
   have hd1 : R - Q = 64 := by omega
   rw [hd1] at hsl
   have hnx : (D.drop (64 * (4 * b + f - at_))).take (64 * (k + 1)) = (D.drop (64 * (4 * b + f - at_))).take (64 * k) ++ (D.drop Q).take 64 := by
    rw [show 64 * (k + 1) = 64 * k + 64 by omega, List.take_add, List.drop_drop]
    congr 3
    omega
   have hln : ((D.drop (64 * (4 * b + f - at_))).take (64 * k)).length ≤ 256 := by simp; omega
   have hl2 : ((D.drop Q).take 64).length = 64 := by have := HL.out; simp; omega
   have hcl : ∀ W, Gr wr W → CellsN bE W B (p + Q) ((D.drop Q).take 64) := fun W hW => cellsB (Row.part (Nat.lt_of_lt_of_le HBl.out (HG.out.trans hW).below.size) (fun j x hj => ((HG.out.trans hW).below.cell (p := ⟨B, p + j, none⟩) HBl.out).trans (HC.out j x hj)) Q 64)
   have HN := Lib.hid hnx
   have HCL := Lib.hid hcl
   have HL2 := Lib.hid hl2
   have hln2 : ((D.drop (64 * (4 * b + f - at_))).take (64 * k)).length + ((D.drop Q).take 64).length ≤ 100000000 := by omega
   have HLN := Lib.hid hln2
   clear hnx hS hcl hl2 hln hln2 hd1 hN hQ hR
   go_wp2_with (first | (at_builtin; refine wp_append_n bIs rfl _ _ rfl rfl (HO.out.gr gri) B (p + Q) ((D.drop Q).take 64) 64 _ HL2.out rfl (fun _ _ => trivial) (HCL.out _ gri) HLN.out past (by rw [HL2.out]; decide) ?_; intro v1 W1 h1; have H1 := Lib.hid h1; clear h1))
   go_roundw
   case rel => exact ⟨k + 1, by have := HSS.out; omega, by have := HSS.out; go_num, by rw [HN.out]; exact H1.out.own, H1.out.keep _ _ _ inferInstance (by decide), by haveI := H1.out.grc w (Nat.le_refl _); exact gri⟩
   case measure => have := HSS.out; simp [intOf]; omega
  ·have e : k = t - f := by omega
   have HE := Lib.hid e
   clear hS e
   go_wp2
   go_ret
   exact ⟨_, rfl, by rw [segK, ← HE.out]; exact HO.out.gr gri, gri⟩
set_option maxRecDepth 100000
set_option maxHeartbeats 4000000 in
theorem create_any (xv xt xs xa xc most : Int) (xD : Option Addr) (xn xq : Nat) (hn : xn ≤ 1000000) (base D : Nat) (d : Dev) (w : World) (h : DevAt base w D d) (hbase : base ≤ w.heap.size) (hok : DevOk (putK d xv (xs, []))) :
  Calls Tryz.prog 91 #[.pointer (some ⟨D, 0, none⟩), .agg #[.int .i64 1, .int .u64 xv, .int .u64 xt, .int .i64 xs, .int .i64 xa, .int .i64 xc, .slice xD xn xq], .int .i64 most] w (OpPost base D (putK d xv (xs, [])) 0 0 w) := by
 obtain ⟨M, mb, h⟩ := h
 haveI := h.blk
 have x0 : w.cell? ⟨D, 0, none⟩ = some (.map (some M)) := (@block_cells _ _ 0 _ _ h.blk).trans rfl
 haveI : Old D w := h.blk.old
 have HD := Lib.hid h
 have HOK := Lib.hid hok
 clear h hok
 go_enter Tryz.func91, Tryz.ntmps91
 go_wp2
 refine wp_region_treeT (inCls_ghost _) (Cls.none _) ⟨Gr.of ((Below.refl _ _).drew), trivial⟩ [0, 1, 2, 3, 4, 5, 6, 7, 8] 2 11 (by kernel_rfl) (by kernel_rfl) ?_
 simp only [pick, List.drop, List.take, List.nil_append, List.cons_append]
 repeat (refine wpCalm_step (fun K hK => ?_); go_simp; first | (refine hK _ ?_; clear hK K) | (apply Exists.intro; refine ⟨fun _ => ?_, hK _ ?_⟩; ((go_at_call 116; exact part_1 _ _ _ _ _ _ _ _ (by omega) _)); clear hK K))
 refine wpCalm_nil ?_
 refine ft_eff 9 (by kernel_rfl) (by omega) rfl rfl fun w1 hw1 => effAt_makeMap rfl ?_
 refine ⟨⟨fun w2 => MapAt .i64 w2 w1.heap.size [], fun a b h g => h.gr g⟩, ⟨hw1.1.trans gri, mapAt_new w1 .i64⟩, ?_⟩
 have hsz := hw1.1.below.size
 generalize w1.heap.size = b at *
 clear hw1 w1
 simp only [Act.put, List.setIfInBounds_toArray, List.set]
 refine ft_calm 10 (.agg #[.int .i64 xs, .map (some b)]) (by kernel_rfl) (by omega) rfl rfl (fun g => by unfold calmAt; go_simp) ?_
 simp only [Act.put, List.setIfInBounds_toArray, List.set]
 refine ft_end ⟨by kernel_rfl, fun w2 hw2 => ?_⟩
 try simp only [List.drop_succ_cons, List.drop_zero]
 have g2 : Gr w w2 := Gr.trans gri hw2.1
 refine wpList_updateK rfl _ _ _ rfl xv _ Tryz.underlying99 Tryz.underlying28 (HD.out.all.gr g2) rfl rfl rfl fun W' h1 h2 => ?_
 have hMl : M < w.heap.size := HD.out.all.lt
 have HD' := HD.out.put g2 xv (xs, []) b hw2.2 (.inl (by simp at hsz; omega)) h1 h2 HOK.out hbase
 haveI hB1 : BlockAt W' (w.heap.size + 1) #[.int .i64 0, .int .i64 0, .slice none 0 0] 97 := h2.blockAt (BlockAt.gr (inferInstance : BlockAt _ (w.heap.size + 1) _ _) hw2.1) (by omega)
 have hck := (CK.gr g2).trans (CK.only (HD.out.all.gr g2) h2)
 have hbel : Below base w W' := h2.below HD.out.bM (Nat.lt_of_lt_of_le hMl g2.below.size) (g2.below.mono hbase)
 have z0 : W'.cell? ⟨w.heap.size + 1, 0, none⟩ = some (.int .i64 0) := (@block_cells _ _ 0 _ _ hB1).trans rfl
 have z1 : W'.cell? ⟨w.heap.size + 1, 1, none⟩ = some (.int .i64 0) := (@block_cells _ _ 1 _ _ hB1).trans rfl
 have z2 : W'.cell? ⟨w.heap.size + 1, 2, none⟩ = some (.slice none 0 0) := (@block_cells _ _ 2 _ _ hB1).trans rfl
 have f0 : ∀ o, W'.frozen? ⟨w.heap.size + 1, o, none⟩ = false := fun o => @block_frozen _ _ o _ _ hB1
 have HN := Lib.hid HD'
 have HB := Lib.hid hbel
 have HCK := Lib.hid hck
 clear HD' hbel hck
 clear h1 h2 hw2 g2 hsz hMl
 simp only [Act.put]
 go_wp2
 exact bodyPost_ret (run_resCell1 rfl _ _ _ _ rfl (ans_block hB1 _ _ _) Tryz.underlying97 rfl (by kernel_rfl)) rfl ⟨rfl, ans_dev HN.out hB1 (by decide) _ _ _, ans_below HB.out (by omega) _ _ _, ck_ans HCK.out (by omega) _ _ _⟩
set_option maxHeartbeats 4000000 in
theorem drop_any (xv xt xs xa xc most : Int) (xD : Option Addr) (xn xq : Nat) (hn : xn ≤ 1000000) (base D : Nat) (d : Dev) (w : World) (h : DevAt base w D d) (hbase : base ≤ w.heap.size)  :
  Calls Tryz.prog 92 #[.pointer (some ⟨D, 0, none⟩), .agg #[.int .i64 2, .int .u64 xv, .int .u64 xt, .int .i64 xs, .int .i64 xa, .int .i64 xc, .slice xD xn xq], .int .i64 most] w (OpPost base D (delK d xv) 0 0 w) := by
 obtain ⟨M, mb, h⟩ := h
 haveI := h.blk
 have x0 : w.cell? ⟨D, 0, none⟩ = some (.map (some M)) := (@block_cells _ _ 0 _ _ h.blk).trans rfl
 haveI : Old D w := h.blk.old
 have HD := Lib.hid h
 clear h
 go_enter Tryz.func92, Tryz.ntmps92
 go_wp2
 refine wp_region_treeT (inCls_ghost _) (Cls.none _) ⟨Gr.of ((Below.refl _ _).drew), trivial⟩ [0, 1, 2, 3, 4, 5] 0 6 (by kernel_rfl) (by kernel_rfl) ?_
 simp only [pick, List.drop, List.take, List.nil_append, List.cons_append]
 repeat (refine wpCalm_step (fun K hK => ?_); go_simp; first | (refine hK _ ?_; clear hK K) | (apply Exists.intro; refine ⟨fun _ => ?_, hK _ ?_⟩; (skip); clear hK K))
 refine wpCalm_nil ?_
 refine ft_end ⟨by kernel_rfl, fun w2 hw2 => ?_⟩
 try simp only [List.drop_succ_cons, List.drop_zero]
 have g2 : Gr w w2 := Gr.trans gri hw2.1
 refine wpList_deleteK rfl _ _ rfl xv Tryz.underlying99 Tryz.underlying28 (HD.out.all.gr g2) rfl rfl fun W' h1 h2 => ?_
 have hMl : M < w.heap.size := HD.out.all.lt
 have HD' := HD.out.del g2 xv h1 h2
 haveI hB1 : BlockAt W' (w.heap.size + 1) #[.int .i64 0, .int .i64 0, .slice none 0 0] 97 := h2.blockAt (BlockAt.gr (inferInstance : BlockAt _ (w.heap.size + 1) _ _) hw2.1) (by omega)
 have hck := (CK.gr g2).trans (CK.only (HD.out.all.gr g2) h2)
 have hbel : Below base w W' := h2.below HD.out.bM (Nat.lt_of_lt_of_le hMl g2.below.size) (g2.below.mono hbase)
 have z0 : W'.cell? ⟨w.heap.size + 1, 0, none⟩ = some (.int .i64 0) := (@block_cells _ _ 0 _ _ hB1).trans rfl
 have z1 : W'.cell? ⟨w.heap.size + 1, 1, none⟩ = some (.int .i64 0) := (@block_cells _ _ 1 _ _ hB1).trans rfl
 have z2 : W'.cell? ⟨w.heap.size + 1, 2, none⟩ = some (.slice none 0 0) := (@block_cells _ _ 2 _ _ hB1).trans rfl
 have f0 : ∀ o, W'.frozen? ⟨w.heap.size + 1, o, none⟩ = false := fun o => @block_frozen _ _ o _ _ hB1
 have HN := Lib.hid HD'
 have HB := Lib.hid hbel
 have HCK := Lib.hid hck
 clear HD' hbel hck
 clear h1 h2 hw2 g2 hMl
 simp only [Act.put]
 go_wp2
 exact bodyPost_ret (run_resCell1 rfl _ _ _ _ rfl (ans_block hB1 _ _ _) Tryz.underlying97 rfl (by kernel_rfl)) rfl ⟨rfl, ans_dev HN.out hB1 (by decide) _ _ _, ans_below HB.out (by omega) _ _ _, ck_ans HCK.out (by omega) _ _ _⟩
set_option maxRecDepth 100000
theorem getK_encB (m : List (Int × Byt)) (k : Nat) (z : Value) (hz : z = .agg (bkC zB)) : (getK (encK bkV m) k).getD z = .agg (bkC (blkM m k)) := by
 rw [getK_enc, blkM]
 cases getK m (k : Int) with
 | none => exact hz
 | some B => rfl
theorem look_blk {w : World} {b : Nat} {m : List (Int × Byt)} (h : MapAt .i64 w b (encK bkV m)) (k : Nat) : ∀ (W : World) [hW : GrC w W], (Instr.lookup 113 (.map (some b)) (.int .i64 (k : Int)) false).run Tryz.prog W = .ok (.agg (bkC (blkM m k))) W := fun W hW => by
 have hl := map_lookup (P := Tryz.prog) Tryz.underlying113 Tryz.underlying3 (h.gr (Gr.of hW.b)) (k : Int) false (Tryz.zeroValue88 _)
 rw [hl]
 have := getK_encB m k (.agg Tryz.zeroCells88) (by rw [zC_bk])
 simpa using this
theorem madeB (n : Nat) : madeCells #[.int .u8 0] n = bkC (List.replicate n 0) := by
 apply Array.toList_inj.1
 rw [toList_madeCells_one]
 simp [bkC, bv]
theorem makeB (c : Nat) (hc : c ≤ 100000) (W : World) : (Instr.makeSlice 41 (.int .i64 ((c : Int) * 64)) (.int .i64 ((c : Int) * 64))).run Tryz.prog W = .ok (.slice (some ⟨W.heap.size, 0, none⟩) (c * 64) (c * 64)) (W.alloc (.cells (bkC (List.replicate (c * 64) 0)) 5)) := by
 obtain ⟨i0, hi, hz0, hz2, hz3⟩ := info_parts bIs.hE
 have hi2 : i0.size = 1 := hz2
 have hi3 : i0.bytes = 1 := hz3
 have h := run_makeSlice (P := Tryz.prog) W 41 5 i0 (.int .u8 0) Tryz.underlying41 hi hz0 .i64 .i64 ((c : Int) * 64) ((c : Int) * 64) (by omega) (Int.le_refl _) (by rw [hi2]; omega) (by rw [hi3]; omega) (by omega)
 rw [h, hi2]
 have e1 : ((c : Int) * 64).toNat = c * 64 := by omega
 rw [e1, Nat.mul_one, show (Value.int .u8 0).cells = #[.int .u8 0] from rfl, madeB]
section
variable {P : Program} {md : Region.Mode} {W : World} {S : Type} {I : S → World → Prop} {ops : Array Oper} {L : Array Bool → S → Act → Prop} {f n : Nat} {listed : Array Bool} {s : S} {a : Act}
end
end Go.Proofs.YtipeblmgochdfaaGreat
namespace Go.Proofs.YtipeblmgochdfaaGreat
open Go.RowKit Go.Shelf
set_option linter.unusedVariables false
set_option linter.unusedSimpArgs false
set_option linter.unnecessarySimpa false
set_option maxRecDepth 100000
attribute [local go_sem] Oper.semAt_some
abbrev OvM (a c : Nat) := { x : OvX // x ∈ overK 0 (spans a c) }
abbrev encM {a c : Nat} (y : OvM a c) : Array Value := encO y.1
set_option maxHeartbeats 2000000 in
theorem over_stopsM (n : Nat) (hn : 1 ≤ n) (X P1 P2 a c : Nat) (w0 : World) (h1 : BlockAt w0 P1 #[.int .i64 (a : Int)] 3) (h2 : BlockAt w0 P2 #[.int .i64 (c : Int)] 3) (hX : X < w0.heap.size) (x1 : P1 ≠ X) (x2 : P2 ≠ X) (hrow : rowOk X P1 P2 w0) (ha : a ≤ 1048576) (hc : 1 ≤ c) (hc2 : c ≤ 1048576) :
  SeqStopsK Fence.wide n Tryz.prog 144 #[.pointer (some ⟨P1, 0, none⟩), .pointer (some ⟨P2, 0, none⟩)] (encM (a := a) (c := c)) (KpX X) (fun xs => xs.map (·.1) = overK 0 (spans a c)) (fun _ => True) (spans a c).length w0 := fun l J Jx W hW hJ hJx hY h0 => by
 have hb1 : BlockAt W P1 #[.int .i64 (a : Int)] 3 := ⟨(hW.block P1 h1.lt).trans h1.eq⟩
 have hb2 : BlockAt W P2 #[.int .i64 (c : Int)] 3 := ⟨(hW.block P2 h2.lt).trans h2.eq⟩
 have hXW : X < W.heap.size := Nat.lt_of_lt_of_le hX hW.size
 have hr0 : rowX W X = rowX w0 X := by
  unfold rowX
  rw [hW.cell (p := ⟨X, 0, none⟩) hX]
 have hrW : rowOk X P1 P2 W := fun b hb => by
  have := hrow b (hr0 ▸ hb)
  exact ⟨Nat.lt_of_lt_of_le this.1 hW.size, this.2⟩
 have y1 : W.cell? ⟨P1, 0, none⟩ = some (.int .i64 (a : Int)) := (@block_cells _ _ 0 _ _ hb1).trans rfl
 have y2 : W.cell? ⟨P2, 0, none⟩ = some (.int .i64 (c : Int)) := (@block_cells _ _ 0 _ _ hb2).trans rfl
 have HJ := Lib.hid hJ
 have HY := Lib.hid hY
 have H0 := Lib.hid h0
 have HB1 := Lib.hid hb1
 have HB2 := Lib.hid hb2
 have HRW := Lib.hid hrW
 clear hJ hY h0 hb1 hb2 hr0 hrow h1 h2 hrW hW hJx
 refine callsIn_of_wp Tryz.func144 rfl trivial ?_ rfl
 simp only [Tryz.ntmps144, List.size_toArray, List.length_cons, List.length_nil, Nat.reduceAdd, Nat.reduceSub, Array.replicate_succ, Array.replicate_zero, List.push_toArray, List.append_toArray, List.nil_append, List.cons_append]
 gi_wp2
 gi_loopw [4] (fun i wr => ∃ (pre : List (OvM a c)) (d : Nat), i = .int .i64 d ∧ d ≤ c ∧ pre.map (·.1) ++ overK d (spans (a + d) (c - d)) = overK 0 (spans a c) ∧ J pre wr ∧ BlockAt wr P1 #[.int .i64 (a : Int)] 3 ∧ BlockAt wr P2 #[.int .i64 (c : Int)] 3 ∧ rowOk X P1 P2 wr ∧ X < wr.heap.size) (fun i _ => c - (intOf i).toNat)
 case atStart => exact ⟨[], 0, rfl, Nat.zero_le _, by simp, H0.out, HB1.out, HB2.out, HRW.out, hXW⟩
 case round =>
  obtain ⟨pre, d, rfl, hd, hpre, hJs, hb1, hb2, hrw, hXr⟩ := hrel
  clear y1 y2
  have y1 : wr.cell? ⟨P1, 0, none⟩ = some (.int .i64 (a : Int)) := (@block_cells _ _ 0 _ _ hb1).trans rfl
  have y2 : wr.cell? ⟨P2, 0, none⟩ = some (.int .i64 (c : Int)) := (@block_cells _ _ 0 _ _ hb2).trans rfl
  haveI := hb1.old
  haveI := hb2.old
  by_cases hlt : d < c
  ·have hsp := spans_cons (a + d) (c - d) (by omega)
   obtain ⟨k, hk⟩ : ∃ k, min (4 - (a + d) % 4) (c - d) = k := ⟨_, rfl⟩
   rw [hk] at hsp
   rw [hsp] at hpre
   have hk1 : 1 ≤ k := by omega
   have hk2 : k ≤ c - d := by omega
   have hk4 : (a + d) % 4 + k ≤ 4 := by omega
   have hlen : pre.length < (spans a c).length := by
    have h9 := congrArg List.length hpre
    have h8 := congrArg List.length (overK_snd (spans a c) 0)
    simp [overK] at h9 h8
    omega
   have hmem : (d, ⟨(a + d) / 4, (a + d) % 4, (a + d) % 4 + k⟩) ∈ overK 0 (spans a c) := by rw [← hpre]; simp [overK]
   have HP := Lib.hid hpre
   have HSP := Lib.hid hsp
   have HK := Lib.hid hk
   clear hpre hsp hk
   by_cases h4 : ((a : Int) + (d : Int)) % 4 + (c : Int) - (d : Int) < 4
   all_goals
    obtain ⟨T, hT⟩ : ∃ T : Int, T = if ((a : Int) + (d : Int)) % 4 + (c : Int) - (d : Int) < 4 then ((a : Int) + (d : Int)) % 4 + (c : Int) - (d : Int) else 4 := ⟨_, rfl⟩
    first | rw [if_pos h4] at hT | rw [if_neg h4] at hT
    have hE : encM (⟨(d, ⟨(a + d) / 4, (a + d) % 4, (a + d) % 4 + k⟩), hmem⟩ : OvM a c) = #[.int .i64 (d : Int), .agg #[.int .i64 (((a : Int) + (d : Int)) / 4), .int .i64 (((a : Int) + (d : Int)) % 4), .int .i64 T]] := by
     have := HK.out
     unfold encM encO
     have e3 : (((a + d) % 4 + k : Nat) : Int) = T := by omega
     simp only [e3]
     simp
    have hn1 : n - 1 = n - 1 := rfl
    have hY2 := HY.out pre ⟨(d, ⟨(a + d) / 4, (a + d) % 4, (a + d) % 4 + k⟩), hmem⟩ (wr.alloc (.cells #[.int .i64 (((a : Int) + (d : Int)) / 4), .int .i64 (((a : Int) + (d : Int)) % 4), .int .i64 T] 146)) (HJ.out _ _ _ none hJs (World.grownBy_alloc wr _ none) (fun r e => by cases e)) hlen
    rw [hE] at hY2
    obtain ⟨fn, tmps, assign, body, hy, hR⟩ := hY2
    have HE := Lib.hid hE
    clear hE
    subst hT
    gi_wp2
    refine hR.mono ?_
    rintro e W3 (⟨rfl, hJ3, hk3⟩ | ⟨rfl, hJx3⟩)
    ·have hne : ∀ o : Obj, ∀ b, b = P1 ∨ b = P2 ∨ b = wr.heap.size → rowX (wr.alloc o) X ≠ some b := fun o b hb e => by
      rw [rowX_alloc o hXr] at e
      have := hrw b e
      omega
     have hbs := hk3.block (b := wr.heap.size) inferInstance (by omega) (hne _ _ (by simp))
     have hbp1 := hk3.block (b := P1) inferInstance x1 (hne _ _ (by simp))
     have hbp2 := hk3.block (b := P2) inferInstance x2 (hne _ _ (by simp))
     have hsz := hk3.size
     have hro : rowOk X P1 P2 W3 := fun b hb => by
      have hl := hk3.lt (fun b hb => by rw [rowX_alloc _ hXr] at hb; have := hrw b hb; simp; omega) b hb
      rcases hk3.row b hb with h9 | h9
      ·rw [rowX_alloc _ hXr] at h9
       have := hrw b h9
       exact ⟨hl, this.2⟩
      ·have p1 := hb1.lt
       have p2 := hb2.lt
       simp at h9
       exact ⟨hl, by omega, by omega⟩
     have z1 := (@block_cells _ _ 1 _ _ hbs).trans rfl
     have z2 := (@block_cells _ _ 2 _ _ hbs).trans rfl
     simp at hsz
     clear hb1 hb2 y1 y2 hy hR hJs hne hk3
     have HS := Lib.hid hsz
     have HJ3 := Lib.hid hJ3
     have HRO := Lib.hid hro
     clear hsz hJ3 hro hrw hbs
     gi_wp2
     go_roundw
     case rel =>
      refine ⟨pre ++ [⟨(d, ⟨(a + d) / 4, (a + d) % 4, (a + d) % 4 + k⟩), hmem⟩], d + k, ?_, by omega, ?_, HJ3.out, hbp1, hbp2, HRO.out, by have := HS.out; omega⟩
      ·have := HK.out
       have e9 : ∀ u v : Int, u = v → Value.int .i64 u = .int .i64 v := fun u v h => by rw [h]
       refine e9 _ _ ?_
       omega
      ·have := HP.out
       refine Eq.trans ?_ this
       rw [List.map_append, List.append_assoc]
       simp only [overK, List.map_cons, List.map_nil, List.singleton_append, Nat.add_sub_cancel_left, Nat.add_assoc, Nat.sub_sub]
     case measure =>
      have := HK.out
      simp [intOf]; omega
    ·gi_wp2
     refine bodyPost_ret (results_none rfl _ _ _) rfl ?_
     exact ⟨⟨_, rfl⟩, .inr ⟨_, trivial, hJx3⟩⟩
  ·obtain rfl : d = c := by omega
   have e0 : spans (a + d) (d - d) = [] := by rw [Nat.sub_self]; rfl
   rw [e0] at hpre
   have HP := Lib.hid hpre
   clear hpre e0
   gi_wp2
   go_end0
   exact ⟨⟨_, rfl⟩, .inl ⟨_, by have := HP.out; simpa [overK] using this, hJs⟩⟩
end Go.Proofs.YtipeblmgochdfaaGreat
namespace Go.Proofs.YtipeblmgochdfaaGreat
open Go.RowKit
set_option linter.unusedVariables false
set_option linter.unusedSimpArgs false
set_option linter.unnecessarySimpa false
def deferB (o : Oper) : Bool := match o.op with
 | .defer _ => true
 | _ => false
theorem deferB_ne {o : Oper} (h : deferB o = false) : ∀ c, o.op ≠ .defer c := fun c hc => by simp [deferB, hc] at h
section
variable {P : Program} {ops : Array Oper} {Q : Exit → Act → World → Prop} {n r : Nat}
theorem Oper.wpIn_round {o : Oper} {a : Act} {w : World} {K : Act → World → Prop} (hd : deferB o = false) (h : o.wp P a w K Q) : o.wpIn (Fence.wide.inRound r) n P a w K Q := by
 unfold Oper.wp at h
 unfold Oper.wpIn
 refine ⟨fun _ _ => trivial, ?_⟩
 rw [Oper.semAt_plain _ _ _ (deferB_ne hd)]
 generalize (execOp a.eval o).run P w = x at *
 cases x with
 | ok nx w' =>
  cases nx <;> simp only [Oper.upon] at h <;> simp only [Oper.uponIn] <;>
   first
    | exact h
    | exact h.elim
    | exact ⟨fun e => by simp [Fence.inRound, Fence.wide] at e, CallsIn.inRound r (callsIn_wide.2 h)⟩
    | exact ⟨fun e => by simp [Fence.inRound, Fence.wide] at e, fun c cs _ => let ⟨v, w'', hr, hs⟩ := h c cs; ⟨v, w'', hr, stepsIn_wide.2 hs⟩⟩
 | halt x w' => cases x <;> simp only [Oper.upon] at h <;> simp only [Oper.uponIn] <;> exact h
theorem wpOpIn_round (hq : ¬ LetsOut Q) (hd : ops.any deferB = false) {i : Nat} {a : Act} {w : World} {K : Act → World → Prop} (h : wpOp P ops Q i K a w) : wpOpIn (Fence.wide.inRound r) n P ops Q i K a w := by
 unfold wpOp at h
 unfold wpOpIn
 cases ho : ops[i]? with
 | none => simpa [ho] using h
 | some o =>
  simp only [ho] at h ⊢
  have hdo : deferB o = false := by
   obtain ⟨hi, he⟩ := Array.getElem?_eq_some_iff.1 ho
   have := Array.any_eq_false.1 hd i hi
   rw [he] at this
   simpa using this
  split
  ·rename_i hw; simp only [hw, if_true] at h; exact Oper.wpIn_round hdo (h.resolve_right fun h2 => hq h2.2)
  ·rename_i hw; simp only [hw] at h; exact ⟨fun _ _ => trivial, h⟩
theorem wpAnyIn_round (hq : ¬ LetsOut Q) (hd : ops.any deferB = false) {md : Region.Mode} : ∀ (f : Nat) (listed : Array Bool) (a : Act) (w : World), wpAny P md ops Q f listed a w → wpAnyIn (Fence.wide.inRound r) n P md ops Q f listed a w
 | 0, _, _, _, h => h
 | f + 1, listed, a, w, h => ⟨h.1, fun i hi => wpOpIn_round hq hd (wpOp_mono (fun a w => wpAnyIn_round hq hd f _ a w) (h.2 i hi))⟩
end
section
variable {P : Program} {W : World} {S : Type} {I : S → World → Prop} {l : List Oper}
theorem wpIn_region_treeT {id n' r : Nat} {Q : Exit → Act → World → Prop} {a : Act} {w : World} (hq : ¬ LetsOut Q) (hd : l.toArray.any deferB = false) (G : Ghost W I) (s : S) (hw : I s w.drew) (qs : List Nat) (m n : Nat) (hm : P.follows .mixedOrders = true) (hB : treeTB .any l.toArray qs m n = true)
  (h : wpCalm P l.toArray W (fun a' => feT P .any l.toArray W I n (fun listed s a => Region.seqB .any l.toArray (l.toArray.size - n) n listed = true ∧ ∀ w', I s w' → wpList P l.toArray Q (l.drop n) a w') m (listAll qs (Array.replicate l.toArray.size false)) s a') (pick l qs) a) : (Code.region id l.toArray true).wpIn (Fence.wide.inRound r) n' P Q a w := by
 simp only [treeTB, Bool.and_eq_true, decide_eq_true_eq] at hB
 obtain ⟨⟨⟨⟨⟨⟨hsel, hn⟩, hs⟩, hc⟩, hlen⟩, hall⟩, hfree⟩ := hB
 have hall' : ∀ k ∈ qs, k < n := fun k hk => by simpa using List.all_eq_true.1 hall k hk
 have hdl : (l.drop n).length = l.toArray.size - n := by simp
 have inv0 : HeadInv .any l.toArray n (Array.replicate l.toArray.size false) :=
  ⟨by simp, (fun j oj _ hl => by rw [getD_replicate_false] at hl; cases hl), fun t _ ht => getD_in (by simpa using ht) (getD_replicate_false _ _)⟩
 have H := feT_lex (md := .any) (P := P) (W := W) (I := I) hsel hs hc hn (fun listed s a hL => seqB_ready hL.1) m qs _ s a hall' inv0 hfree h
 refine wpIn_region_any hm (wpAnyIn_round hq hd _ _ _ _ ?_)
 have := feT_any (Q' := Q) (g := l.toArray.size - n) G (fun listed s a' w' hw' hL => by
  have := wpAny_of_seq (md := .any) (Q' := Q) (l.drop n) n listed a' w' (fun j => by simp [List.getElem?_drop]) (by rw [hdl]; exact hL.1) (hL.2 w' hw')
  rwa [hdl] at this) _ _ _ _ _ hw H
 rw [hlen, show n + (l.toArray.size - n) = l.toArray.size by simp at hn ⊢; omega] at this
 exact this
end
end Go.Proofs.YtipeblmgochdfaaGreat
namespace Go.Proofs.YtipeblmgochdfaaGreat
open Go.RowKit
set_option linter.unusedVariables false
set_option linter.unusedSimpArgs false
set_option linter.unnecessarySimpa false
set_option maxRecDepth 100000
open Go.Shelf
attribute [local go_sem] Oper.semAt_some
def LR {an C : Nat} (X V m A : Nat) (w : World) (n : Int) (mp : Nat) (f : List OvX → List UInt8) (pre : List (OvM an C)) (W : World) : Prop := LI bE w.heap.size X m 41 w f (pre.map (·.1)) W ∧ BlockAt W V #[.int .i64 n, .map (some mp)] 115 ∧ BlockAt W A #[.int .i64 0, .int .i64 0, .slice none 0 0] 97
theorem LR.own {an C X V m A : Nat} {w : World} {n : Int} {mp : Nat} {f : List OvX → List UInt8} {B : Nat} (hB : w.heap.size ≤ B) (hw : w.heap.size ≤ w.heap.size) : OwnFrom B (LR (an := an) (C := C) X V m A w n mp f) := fun s W W' row hs hg hr => by
 have hc : ∀ (k : Nat) cs t fz, W.heap[k]? = some (Obj.cells cs t fz) → W'.heap[k]? = W.heap[k]? := fun k cs t fz hk => hg.block k (Array.getElem?_eq_some_iff.1 hk).1 (fun e2 => by
  obtain ⟨_, o, h1, h2⟩ := hr k e2.symm
  rw [hk] at h1; cases h1; cases h2)
 exact ⟨LI.own hB hw (s.map (·.1)) W W' row hs.1 hg hr, ⟨(hc V _ _ _ hs.2.1.eq).trans hs.2.1.eq⟩, ⟨(hc A _ _ _ hs.2.2.eq).trans hs.2.2.eq⟩⟩
theorem flat_le (m : List (Int × Byt)) (hs : SortK m) (hl : ∀ p ∈ m, p.2.length = 256) : ∀ (l : List OvX) (n : Nat), l.length ≤ n → (l.flatMap fun y : OvX => cutK (blkM m y.2.b) y.2).length ≤ 256 * n
 | [], _, _ => by simp
 | y :: l, 0, h => by simp at h
 | y :: l, n + 1, h => by
  have h1 := flat_le m hs hl l n (by simpa using h)
  have h2 : (cutK (blkM m y.2.b) y.2).length ≤ 256 := by
   have := blkM_len hs hl y.2.b
   simp [cutK, this]
   omega
  rw [List.flatMap_cons, List.length_append]
  omega
set_option maxHeartbeats 8000000 in
theorem read_any (xv xt xs xa xc most : Int) (xD : Option Addr) (xn xq : Nat) (hn : xn ≤ 1000000) (base D : Nat) (d : Dev) (w : World) (h : DevAt base w D d) (x : VolM) (hv : getK d xv = some x) (a0 : 0 ≤ xa) (a1 : xa ≤ 1048576) (c0 : 1 ≤ xc) (c1 : xc ≤ 1024) :
  Calls Tryz.prog 97 #[.pointer (some ⟨D, 0, none⟩), .agg #[.int .i64 9, .int .u64 xv, .int .u64 xt, .int .i64 xs, .int .i64 xa, .int .i64 xc, .slice xD xn xq], .int .i64 most] w fun e w' => ∃ v, e = .returned (.agg #[.int .i64 0, .int .i64 0, v]) ∧ OwnN bE w.heap.size w' v ((spans xa.toNat xc.toNat).flatMap fun s => cutK (blkM x.2 s.b) s) ∧ Gr w w' := by
 obtain ⟨M, mb, h⟩ := h
 haveI := h.blk
 have x0 : w.cell? ⟨D, 0, none⟩ = some (.map (some M)) := (@block_cells _ _ 0 _ _ h.blk).trans rfl
 haveI : Old D w := h.blk.old
 have HD := Lib.hid h
 have hlk := look_vol1 h xv _ hv
 simp only [volV] at hlk
 have HX := Lib.hid (h.ok.vols _ ((getK_mem h.ok.sort).1 hv))
 have HM := Lib.hid (h.vol _ ((getK_mem h.ok.sort).1 hv))
 clear h hv
 obtain ⟨an, rfl⟩ : ∃ n : Nat, xa = n := ⟨xa.toNat, by omega⟩
 obtain ⟨C, rfl⟩ : ∃ n : Nat, xc = n := ⟨xc.toNat, by omega⟩
 rw [Int.toNat_natCast, Int.toNat_natCast]
 refine (callsIn_wide (n := 3)).1 ?_
 have h1 : 1 ≤ 3 := by omega
 refine callsIn_of_wp_marks Tryz.func97 rfl trivial ?_ rfl
 simp only [Tryz.ntmps97, List.size_toArray, List.length_cons, List.length_nil, Nat.reduceAdd, Nat.reduceSub, Array.replicate_succ, Array.replicate_zero, List.push_toArray, List.append_toArray, List.nil_append, List.cons_append]
 gi_wp2
 refine wpIn_wide.2 ?_
 refine wp_region_all [0, 1, 2, 3, 4, 5, 6, 7, 8, 9] [10, 11] [12, 13] (by kernel_rfl) (by kernel_rfl) ?_
 simp only [pick, List.drop, List.take, List.nil_append, List.cons_append]
 repeat (refine wpCalm_step (fun K hK => ?_); go_simp; first | (refine hK _ ?_; clear hK K) | (apply Exists.intro; refine ⟨fun _ => ?_, hK _ ?_⟩; ((go_at_call 116; exact part_9 _ _ _ _ _ _ _ _ (by omega) _)); clear hK K))
 refine wpCalm_nil ?_
 refine ⟨_, _, _, allocOp_alloc rfl rfl Tryz.zeroValue115, fun b1_0 hb1_0 nb1_0 => ?_⟩
 refine ⟨_, _, _, allocOp_alloc rfl rfl Tryz.zeroValue210, fun b1_1 hb1_1 nb1_1 => ?_⟩
 have db1_1_0 : b1_0 ≠ b1_1 := nb1_1 (b1_0, _, _) List.mem_cons_self
 simp only [Act.put, List.setIfInBounds_toArray, List.set]
 refine ⟨_, _, _, b1_0, #[.int .i64 0, .map none], _, #[.int .i64 x.1, .map (some (mb xv))], rfl, rfl, rfl, (List.mem_cons_of_mem _ List.mem_cons_self), ?hu, hb1_0, rfl, rfl, rfl, rfl, [(b1_0, #[.int .i64 x.1, .map (some (mb xv))], 115), (b1_1, #[.int .i64 0, .int .i64 0], 210)], ?hs, ?_⟩
 case hu =>
  intro z hz e
  rcases List.mem_cons.1 hz with rfl | hz
  ·exact absurd e db1_1_0.symm
  rcases List.mem_cons.1 hz with rfl | hz
  ·rfl
  cases hz
 case hs =>
  intro z
  constructor
  ·intro hz
   rcases List.mem_cons.1 hz with rfl | hz
   ·exact .inl rfl
   rcases List.mem_cons.1 hz with rfl | hz
   ·exact .inr ⟨List.mem_cons_self, db1_1_0.symm⟩
   cases hz
  ·rintro (rfl | ⟨hz, hne⟩)
   ·exact List.mem_cons_self
   rcases List.mem_cons.1 hz with rfl | hz
   ·exact (List.mem_cons_of_mem _ List.mem_cons_self)
   rcases List.mem_cons.1 hz with rfl | hz
   ·exact absurd rfl hne
   cases hz
 refine ⟨_, _, _, b1_1, #[.int .i64 0, .int .i64 0], _, #[.int .i64 (an : Int), .int .i64 (C : Int)], rfl, rfl, rfl, (List.mem_cons_of_mem _ List.mem_cons_self), ?hu, hb1_1, rfl, rfl, rfl, rfl, [(b1_1, #[.int .i64 (an : Int), .int .i64 (C : Int)], 210), (b1_0, #[.int .i64 x.1, .map (some (mb xv))], 115)], ?hs, ?_⟩
 case hu =>
  intro z hz e
  rcases List.mem_cons.1 hz with rfl | hz
  ·exact absurd e db1_1_0
  rcases List.mem_cons.1 hz with rfl | hz
  ·rfl
  cases hz
 case hs =>
  intro z
  constructor
  ·intro hz
   rcases List.mem_cons.1 hz with rfl | hz
   ·exact .inl rfl
   rcases List.mem_cons.1 hz with rfl | hz
   ·exact .inr ⟨List.mem_cons_self, db1_1_0⟩
   cases hz
  ·rintro (rfl | ⟨hz, hne⟩)
   ·exact List.mem_cons_self
   rcases List.mem_cons.1 hz with rfl | hz
   ·exact (List.mem_cons_of_mem _ List.mem_cons_self)
   rcases List.mem_cons.1 hz with rfl | hz
   ·exact absurd rfl hne
   cases hz
 intro w1 hw1
 have cb1_1 : ∀ o, w1.cell? ⟨b1_1, o, none⟩ = (#[.int .i64 (an : Int), .int .i64 (C : Int)] : Array Value)[o]? := mix_cell hw1 List.mem_cons_self
 haveI kb1_1 : BlockAt w1 b1_1 #[.int .i64 (an : Int), .int .i64 (C : Int)] 210 := ⟨hw1.2 _ List.mem_cons_self⟩
 have fb1_1 : ∀ o, w1.frozen? ⟨b1_1, o, none⟩ = false := mix_frozen hw1 List.mem_cons_self
 have ob1_1 : Old b1_1 w1 := mix_old hw1 List.mem_cons_self
 have cb1_0 : ∀ o, w1.cell? ⟨b1_0, o, none⟩ = (#[.int .i64 x.1, .map (some (mb xv))] : Array Value)[o]? := mix_cell hw1 (List.mem_cons_of_mem _ List.mem_cons_self)
 haveI kb1_0 : BlockAt w1 b1_0 #[.int .i64 x.1, .map (some (mb xv))] 115 := ⟨hw1.2 _ (List.mem_cons_of_mem _ List.mem_cons_self)⟩
 have fb1_0 : ∀ o, w1.frozen? ⟨b1_0, o, none⟩ = false := mix_frozen hw1 (List.mem_cons_of_mem _ List.mem_cons_self)
 have ob1_0 : Old b1_0 w1 := mix_old hw1 (List.mem_cons_of_mem _ List.mem_cons_self)
 have qb1_0 := @fresh_ne _ _ hb1_0
 have rb1_0 := @fresh_en _ _ hb1_0
 have lb1_0 := fresh_le hb1_0 w.heap.size
 have qb1_1 := @fresh_ne _ _ hb1_1
 have rb1_1 := @fresh_en _ _ hb1_1
 have lb1_1 := fresh_le hb1_1 w.heap.size
 have eb1_1_0 : ¬ b1_1 = b1_0 := fun e => db1_1_0 e.symm
 obtain ⟨⟨g1, rfl⟩, hbs⟩ := hw1
 clear hbs nb1_0 nb1_1
 have hgW : Gr w (grown _ g1) := gri
 have kA : BlockAt (grown _ g1) (w.heap.size + 1) #[.int .i64 0, .int .i64 0, .slice none 0 0] 97 := inferInstance
 generalize grown _ g1 = W1 at *
 rename_i Kd hKd
 refine (show Kd _ _ from hKd _ _ ?_)
 simp only [Act.put]
 have y10 : W1.cell? ⟨b1_1, 0, none⟩ = some (.int .i64 (an : Int)) := (@block_cells _ _ 0 _ _ kb1_1).trans rfl
 have y11 : W1.cell? ⟨b1_1, 1, none⟩ = some (.int .i64 (C : Int)) := (@block_cells _ _ 1 _ _ kb1_1).trans rfl
 haveI o1 : Old b1_1 W1 := kb1_1.old
 haveI o0 : Old b1_0 W1 := kb1_0.old
 have hlw : w.heap.size + 1 < W1.heap.size := kA.lt
 have HG := Lib.hid hgW
 have K0 := Lib.hid kb1_0
 have KA := Lib.hid kA
 clear hgW kA cb1_0 cb1_1 fb1_0 fb1_1 ob1_0 ob1_1 kb1_0 kb1_1
 gi_wp2_with (refine ⟨trivial, ?_⟩; gi_at_call 122; refine (callsIn_wide.2 (over_any _ _ _)).mono ?_; rintro e w' ⟨rfl, rfl⟩)
 obtain ⟨X, hX⟩ : ∃ X, W1.heap.size = X := ⟨_, rfl⟩
 rw [hX] at hlw ⊢
 obtain ⟨W0, hW0⟩ : ∃ W0, ((W1.alloc (.cells #[.slice none 0 0] 41)).alloc (.cells #[.int .i64 (an : Int)] 3)).alloc (.cells #[.int .i64 (C : Int)] 3) = W0 := ⟨_, rfl⟩
 have hs0 : W0.heap.size = X + 1 + 1 + 1 := by rw [← hW0, ← hX]; simp
 have hbX : BlockAt W0 X #[.slice none 0 0] 41 := by rw [← hW0, ← hX]; infer_instance
 have hb1 : BlockAt W0 (X + 1) #[.int .i64 (an : Int)] 3 := by rw [← hW0, ← hX]; infer_instance
 have hb2 : BlockAt W0 (X + 1 + 1) #[.int .i64 (C : Int)] 3 := by rw [← hW0, ← hX]; infer_instance
 have hg1 : Gr W1 W0 := by rw [← hW0]; exact gri
 have hg0 : Gr w W0 := HG.out.trans hg1
 have hbV : BlockAt W0 b1_0 #[.int .i64 x.1, .map (some (mb xv))] 115 := BlockAt.gr K0.out hg1
 have hbA : BlockAt W0 (w.heap.size + 1) #[.int .i64 0, .int .i64 0, .slice none 0 0] 97 := BlockAt.gr KA.out hg1
 have hVX : b1_0 < X := by rw [← hX]; exact K0.out.lt
 have hsl := spans_len an C
 rw [hW0]
 have hrX : rowOk X (X + 1) (X + 1 + 1) W0 := fun b hb => by
  unfold rowX at hb
  rw [@block_cells _ _ 0 _ _ hbX] at hb
  cases hb
 refine wpIn_rangeFunc_ownH (F := Fence.wide) (n := 3) rfl h1 (gf := 144) (lb := #[.pointer (some ⟨X + 1, 0, none⟩), .pointer (some ⟨X + 1 + 1, 0, none⟩)]) rfl trivial (enters_of Tryz.func144 (by kernel_rfl) rfl)
  (over_stopsM (3 - 1) (by omega) X (X + 1) (X + 1 + 1) an C W0 hb1 hb2 (by omega) (by omega) (by omega) hrX (by omega) (by omega) (by omega)) (fun h k => h.trans k) (fun W l o o' hl ho hc' _ => KpX.putObj W l o o' (by omega) ho hc') (Below.refl _ _) (fun _ => rfl)
  (LR (an := an) (C := C) X b1_0 W0.heap.size (w.heap.size + 1) w x.1 (mb xv) (fun pre => pre.flatMap fun y => cutK (blkM x.2 y.2.b) y.2)) (fun _ _ _ => False) (LR.own (by omega) (Nat.le_refl _)) (fun _ _ _ _ _ h _ _ => h.elim) ⟨⟨⟨_, hbX, OwnN.nil _ _⟩, hg0.below, Nat.le_refl _⟩, hbV, hbA⟩
  (fun x' a' W => ∃ Bx, X + 1 + 1 < Bx ∧ BlockAt W Bx #[.int .i64 (x'.1.2.b : Int), .int .i64 (x'.1.2.f : Int), .int .i64 (x'.1.2.t : Int)] 146 ∧ a' = { tmps := #[.pointer (some ⟨D, 0, none⟩), .agg #[.int .i64 9, .int .u64 xv, .int .u64 xt, .int .i64 xs, .int .i64 (an : Int), .int .i64 (C : Int), .slice xD xn xq], .int .i64 most, undef, .pointer (some ⟨w.heap.size, 0, none⟩), undef, .pointer (some ⟨w.heap.size + 1, 0, none⟩), .pointer (some ⟨b1_0, 0, none⟩), .pointer (some ⟨b1_1, 0, none⟩), .pointer (some ⟨X, 0, none⟩), undef, .pointer (some ⟨Bx, 0, none⟩), .pointer (some ⟨D, 0, none⟩), .pointer (some ⟨D, 0, none⟩), .pointer (some ⟨D, 0, none⟩), .map (some M), .pointer (some ⟨w.heap.size, 1, none⟩), .int .u64 xv, .agg #[.int .i64 x.1, .map (some (mb xv))], .agg #[.int .i64 9, .int .u64 xv, .int .u64 xt, .int .i64 xs, .int .i64 (an : Int), .int .i64 (C : Int), .slice xD xn xq], .iface 210 (.agg #[.int .i64 (an : Int), .int .i64 (C : Int)]), .agg #[.int .i64 (an : Int), .int .i64 (C : Int)], .pointer (some ⟨b1_1, 0, none⟩), .int .i64 (an : Int), .pointer (some ⟨b1_1, 1, none⟩), .int .i64 (C : Int), .func (.func 144) #[] #[.pointer (some ⟨X + 1, 0, none⟩), .pointer (some ⟨X + 1 + 1, 0, none⟩)], .int .i64 (x'.1.1 : Int), .agg #[.int .i64 (x'.1.2.b : Int), .int .i64 (x'.1.2.f : Int), .int .i64 (x'.1.2.t : Int)], undef, undef, undef, undef, undef, undef, undef, undef, undef, undef, undef], defers := [] })
  (fun x' a' s W W' row hs hg hr => ?hax) ?assign ?body ?done ?stop
 case hax =>
  obtain ⟨Bx, hlt, hbx, ha'⟩ := hs
  refine ⟨Bx, hlt, ⟨(hg.block Bx hbx.lt (fun e2 => ?_)).trans hbx.eq⟩, ha'⟩
  obtain ⟨_, o, h1, h2⟩ := hr Bx e2.symm
  rw [hbx.eq] at h1; cases h1; cases h2
 case assign =>
  rintro l pre x' W K ⟨⟨⟨v, hv, ho⟩, hb, hm⟩, hV, hA⟩ hK
  have hlt := hv.lt
  have hsz := hb.size
  gi_wp2
  exact hK _ _ ((KeepsOthers.alloc _ _).from _) (kpx_gr gri hlt) ⟨⟨⟨v, hv.gr gri, ho.gr gri⟩, hb.alloc hsz _, by simp; omega⟩, hV.gr gri, hA.gr gri⟩ ⟨W.heap.size, by omega, inferInstance, rfl⟩
 case body =>
  rintro l pre x' a' W hl ⟨r, hr⟩ ⟨⟨⟨v, hv, ho⟩, hb, hm⟩, hV, hA⟩ ⟨Bx, hlt, hbx, rfl⟩ hN
  obtain ⟨⟨dx, ⟨sb, sf, st⟩⟩, hmx⟩ := x'
  have hsp := spans_all (a := an) (c := C) ⟨sb, sf, st⟩ (by rw [← overK_snd (spans an C) 0]; exact List.mem_map.2 ⟨_, hmx, rfl⟩)
  simp only at hsp hbx ⊢
  have x0 : W.cell? ⟨X, 0, none⟩ = some v := (@block_cells _ _ 0 _ _ hv).trans rfl
  have u0 : W.frozen? ⟨X, 0, none⟩ = false := @block_frozen _ _ 0 _ _ hv
  have y0 : W.cell? ⟨Bx, 0, none⟩ = some (.int .i64 (sb : Int)) := (@block_cells _ _ 0 _ _ hbx).trans rfl
  have y1 : W.cell? ⟨Bx, 1, none⟩ = some (.int .i64 (sf : Int)) := (@block_cells _ _ 1 _ _ hbx).trans rfl
  have y2 : W.cell? ⟨Bx, 2, none⟩ = some (.int .i64 (st : Int)) := (@block_cells _ _ 2 _ _ hbx).trans rfl
  have z1 : W.cell? ⟨b1_0, 1, none⟩ = some (.map (some (mb xv))) := (@block_cells _ _ 1 _ _ hV).trans rfl
  haveI := hv.old
  haveI := hbx.old
  haveI := hV.old
  have hlb := look_blk (HM.out.below hb HM.out.lt) sb
  have hB2 : (blkM x.2 sb).length = 256 := blkM_len HX.out.sort HX.out.len sb
  have hpl : ((pre.map (·.1)).flatMap fun y : OvX => cutK (blkM x.2 y.2.b) y.2).length ≤ 256 * 1024 := flat_le x.2 HX.out.sort HX.out.len _ _ (by simp; omega)
  have hsz := hb.size
  have HV := Lib.hid hv
  have HO := Lib.hid ho
  have HB := Lib.hid hb
  have HPL := Lib.hid hpl
  have HSZ := Lib.hid hsz
  have HVV := Lib.hid hV
  have HAA := Lib.hid hA
  have h0f := hsp.1
  have h0t := hsp.2.1
  have hcl : (cutK (blkM x.2 sb) ⟨sb, sf, st⟩).length = 64 * (st - sf) := by simp [cutK, hB2]; omega
  have HCL := Lib.hid hcl
  clear hv ho hb hbx hr hN hsl hsz hbX hb1 hb2 hg0 hrX hW0 hV hA hpl hsp hcl hbV hbA hg1
  gi_wp2
  refine wpIn_region_treeT (fun ⟨_, _, h⟩ => h) (by kernel_rfl) (inCls_ghost _) (Cls.none _) ⟨Gr.of ((Below.refl _ _).drew), trivial⟩ [0, 1, 2, 3, 4, 5, 6] 1 8 (by kernel_rfl) (by kernel_rfl) ?_
  simp only [pick, List.drop, List.take, List.nil_append, List.cons_append]
  repeat (refine wpCalm_step (fun K hK => ?_); go_simp; first | (refine hK _ ?_; clear hK K) | (apply Exists.intro; refine ⟨fun _ => ?_, hK _ ?_⟩; (skip); clear hK K))
  refine wpCalm_nil ?_
  have hne : cutK (blkM x.2 sb) ⟨sb, sf, st⟩ ≠ [] := by
   intro e
   have := HCL.out
   rw [e] at this
   simp at this
   omega
  refine ft_eff 7 (by kernel_rfl) (by omega) rfl rfl fun w1 hw1 => effAt_call' 69 #[.agg (bkC (blkM x.2 sb)), .agg #[.int .i64 (sb : Int), .int .i64 (sf : Int), .int .i64 (st : Int)]] (by go_simp) ((cut_any (blkM x.2 sb) sb sf st hB2 h0f h0t w1).mono fun e w2 hc => ?_)
  obtain ⟨v1, rfl, ho1, hg1⟩ := hc
  obtain ⟨A1, c1, rfl, hbA, hA1, hx1, hy1, hcl1, hz1⟩ := ho1.cells bIs hne
  refine ⟨_, rfl, ⟨fun w2 => A1 < w2.heap.size ∧ ∀ (j : Nat) u, (cutK (blkM x.2 sb) ⟨sb, sf, st⟩)[j]? = some u → w2.cell? ⟨A1, 0 + j, none⟩ = some (bv u), fun a b h g => ⟨Nat.lt_of_lt_of_le h.1 g.below.size, fun j u hj => (g.below.cell (p := ⟨A1, 0 + j, none⟩) h.1).trans (h.2 j u hj)⟩⟩, ⟨hw1.1.trans hg1, hA1, cellsB' hcl1⟩, ?_⟩
  rw [HCL.out]
  clear ho1 hg1 hw1 hA1 hcl1 hbA hx1 hy1 hz1 w2 w1
  simp only [Act.put, List.setIfInBounds_toArray, List.set]
  refine ft_end ⟨by kernel_rfl, fun w2 hw2 => ?_⟩
  try simp only [List.drop_succ_cons, List.drop_zero]
  have g2 : Gr W w2 := hw2.1
  refine wp_append_n (v := v) bIs rfl _ _ rfl rfl (HO.out.gr g2) A1 0 (cutK (blkM x.2 sb) ⟨sb, sf, st⟩) (64 * (st - sf)) c1 HCL.out rfl (fun _ _ => trivial) (cellsB hw2.2.2) (by have := HPL.out; have := HCL.out; omega) (by have := HSZ.out; have := g2.below.size; omega) (by have := HCL.out; omega) ?_
  intro v1 W1 h1
  obtain ⟨A2, c2, hv1, _, _, _⟩ := h1.own.form bIs
  generalize (_ ++ _ : List UInt8).length = N at hv1
  subst hv1
  have H1 := Lib.hid h1
  clear h1
  haveI hX1 := H1.out.keep _ _ _ (BlockAt.gr HV.out g2) (by decide)
  have z0 := (@block_cells _ _ 0 _ _ hX1).trans rfl
  have zf := @block_frozen _ _ 0 _ _ hX1
  haveI hV1 := H1.out.keep _ _ _ (BlockAt.gr HVV.out g2) (by decide)
  haveI hA1 := H1.out.keep _ _ _ (BlockAt.gr HAA.out g2) (by decide)
  haveI : BNe b1_0 X := ⟨by omega⟩
  haveI : BNe (w.heap.size + 1) X := ⟨by omega⟩
  try simp only [Act.put]
  go_wp2
  have h9 := H1.out.own
  refine ⟨(((KeepsOthers.of_gr g2).trans (KeepsOthers.of_app H1.out)).trans (KeepsOthers.setCell _ _ _)).from _, kpx_append (e := bE) g2 HV.out (by decide) H1.out, ⟨⟨(.slice A2 N c2 : Value), ?blk, ?own⟩, ?bel, ?siz⟩, ?vol, ?ans⟩
  case blk =>
   show BlockAt _ _ (#[v].setIfInBounds 0 _) _
   infer_instance
  case own =>
   have h9 := H1.out.own.set_ X 0 (.slice A2 N c2) (by decide)
   show OwnN bE _ _ _ (List.flatMap (fun y : OvX => cutK (blkM x.2 y.2.b) y.2) (List.map (fun x => x.val) (pre ++ [_])))
   rw [List.map_append, List.flatMap_append]
   simpa using h9
  case bel =>
   exact ((HB.out.trans (g2.below.mono HSZ.out)).trans (H1.out.below)).setCell (p := ⟨X, 0, none⟩) (show w.heap.size ≤ X by omega) _
  case siz =>
   have := H1.out.size
   have := g2.below.size
   simp [World.setCell] at this ⊢
   omega
  case vol => infer_instance
  case ans => infer_instance
 case done =>
  rintro Dd ys W hD hS ⟨⟨⟨v, hv, ho⟩, hb, hm⟩, hV, hA⟩ hK
  have x0 : W.cell? ⟨X, 0, none⟩ = some v := (@block_cells _ _ 0 _ _ hv).trans rfl
  have hS2 : ys.map (·.1) = overK 0 (spans an C) := hS
  rw [hS2] at ho
  have ho2 : OwnN bE w.heap.size W v ((spans an C).flatMap fun s => cutK (blkM x.2 s.b) s) := by
   have e : ((overK 0 (spans an C)).flatMap fun y : OvX => cutK (blkM x.2 y.2.b) y.2) = ((spans an C).flatMap fun s => cutK (blkM x.2 s.b) s) := by
    rw [← overK_snd (spans an C) 0, List.flatMap_map, overK_snd]
   rw [← e]
   exact ho
  obtain ⟨A3, c3, hv3, _, _, _⟩ := ho2.form bIs
  generalize (List.flatMap _ _ : List UInt8).length = N3 at hv3
  subst hv3
  have zA0 : W.cell? ⟨w.heap.size + 1, 0, none⟩ = some (.int .i64 0) := (@block_cells _ _ 0 _ _ hA).trans rfl
  have zA1 : W.cell? ⟨w.heap.size + 1, 1, none⟩ = some (.int .i64 0) := (@block_cells _ _ 1 _ _ hA).trans rfl
  have zA2 : W.cell? ⟨w.heap.size + 1, 2, none⟩ = some (.slice none 0 0) := (@block_cells _ _ 2 _ _ hA).trans rfl
  have fA : ∀ o, W.frozen? ⟨w.heap.size + 1, o, none⟩ = false := fun o => @block_frozen _ _ o _ _ hA
  haveI := hA.old
  have HO := Lib.hid ho2
  have HB := Lib.hid hb
  have HV := Lib.hid hv
  have HAA := Lib.hid hA
  clear ho ho2 hb hv hbX hb1 hb2 hg0 hrX hW0 hV hA hg1 hbV hbA hS hS2
  gi_wp2
  have hne : Dd ≠ w.heap.size + 1 := by omega
  have hK2 : (((W.setCell ⟨w.heap.size + 1, 0, none⟩ (.int .i64 0)).setCell ⟨w.heap.size + 1, 1, none⟩ (.int .i64 0)).setCell ⟨w.heap.size + 1, 2, none⟩ (.slice A3 N3 c3)).heap[Dd]? = some (.deferred (some [])) := by
   rw [Below.heap_setCell _ _ _ _ hne, Below.heap_setCell _ _ _ _ hne, Below.heap_setCell _ _ _ _ hne]
   exact hK
  refine ⟨by simp, .inl ⟨_, _, rfl, run_takeDeferred hK2, ?_⟩⟩
  haveI kA := HAA.out
  have hB4 := ans_block kA (.int .i64 0) (.int .i64 0) (.slice A3 N3 c3)
  have hB5 : BlockAt (World.putObj (((W.setCell ⟨w.heap.size + 1, 0, none⟩ (.int .i64 0)).setCell ⟨w.heap.size + 1, 1, none⟩ (.int .i64 0)).setCell ⟨w.heap.size + 1, 2, none⟩ (.slice A3 N3 c3)) Dd (Obj.deferred none)) (w.heap.size + 1) #[.int .i64 0, .int .i64 0, .slice A3 N3 c3] 97 := ⟨(World.putObj_heap_other (Ne.symm hne)).trans hB4.eq⟩
  have hO4 := ((HO.out.set_ (w.heap.size + 1) 0 (.int .i64 0) (by decide)).set_ (w.heap.size + 1) 1 (.int .i64 0) (by decide)).set_ (w.heap.size + 1) 2 (.slice A3 N3 c3) (by decide)
  exact ⟨_, run_resCell1 rfl _ _ _ _ rfl hB5 Tryz.underlying97 rfl (by kernel_rfl), (.slice A3 N3 c3 : Value), rfl, hO4.put Dd _ _ hK2 rfl, Gr.of ((ans_below HB.out (by omega) _ _ _).trans (belowK_b (Nat.le_refl _) _ Dd _ _ (by omega) hK2 rfl rfl))⟩
 case stop =>
  rintro D c pre W hD _ h _
  exact h.elim
end Go.Proofs.YtipeblmgochdfaaGreat
namespace Go.Proofs.YtipeblmgochdfaaGreat
open Go.RowKit
set_option linter.unusedVariables false
set_option linter.unusedSimpArgs false
set_option linter.unnecessarySimpa false
set_option maxRecDepth 100000
section
variable {P : Program} {ops : Array Oper} {rest : List Oper} {o : Oper} {a : Act} {Q : Exit → Act → World → Prop} {W w : World} {q : IntKind} {b : Nat} {L : List (Int × Value)} {t kt et : TypeId}
theorem wpList_insertK (hgd : o.guard = none) (m x v : Operand) (ho : o.op = .insert t m x v) (key : Int) (val : Value) (ht : P.underlying t = some (.map kt et)) (hk : P.underlying kt = some (.int q)) (hm : MapAt q W b L) (hg : Gr w W) (hb : w.heap.size ≤ b) (hm2 : a.eval m = .map (some b)) (hx : a.eval x = .int q key) (hv : a.eval v = val)
  (h : ∀ W', MapAt q W' b (putK L key val) → Gr w W' → wpList P ops Q rest (a.put o.dst undef) W') : wpList P ops Q (o :: rest) a W := by
 refine wpList_plain hgd fun K hK => ?_
 obtain ⟨W', hrun, h1, h2⟩ := map_update (P := P) ht hk hm key val
 unfold Oper.wp
 simp [execOp, ho, hm2, hx, hv, hrun, Result.andThen]
 exact hK _ _ (h W' h1 (Gr.of (h2.below hb hm.lt hg.below)))
theorem wpList_makeMapK (hgd : o.guard = none) (ho : o.op = .makeMap t none) (h : ∀ W' b, MapAt q W' b [] → Gr W W' → W.heap.size ≤ b → wpList P ops Q rest (a.put o.dst (.map (some b))) W') : wpList P ops Q (o :: rest) a W := by
 refine wpList_plain hgd fun K hK => ?_
 unfold Oper.wp
 simp [execOp, ho, run_makeMap, Result.andThen]
 exact hK _ _ (h _ _ (mapAt_new W q) (Gr.of ((Below.refl _ _).alloc (Nat.le_refl _) _)) (Nat.le_refl _))
end
theorem OwnsRow_mono {w : World} {base base' : Nat} {e : TypeId} {size : Nat} {v : Value} {n : Nat} {xs : List Value} (h : w.ownsRow base e size v n xs) (hb : base' ≤ base) : w.ownsRow base' e size v n xs := by
 refine ⟨h.1, h.2.imp id ?_⟩
 rintro ⟨g, cap, cur, a, b, c⟩
 exact ⟨g, cap, cur, a, Nat.le_trans hb b, c⟩
def PartPost (base D : Nat) (d : Dev) (code done : Int) (data : Byt) (w : World) (e : Ending) (w' : World) : Prop :=
 ∃ A n c, e = .returned (.agg #[.int .i64 code, .int .i64 done, .slice A n c]) ∧ OwnN bE w.heap.size w' (.slice A n c) data ∧ DevAt base w' D d ∧ Below base w w' ∧ CK w w'
theorem opPost_part {base D : Nat} {d : Dev} {code done : Int} {w : World} {e : Ending} {w' : World} (h : OpPost base D d code done w e w') : PartPost base D d code done [] w e w' :=
 ⟨none, 0, 0, h.1, OwnN.nil _ _, h.2⟩
def tabF : List (Int × Value) := putK (putK (putK (putK (putK (putK (putK (putK [] 1 (.func (.func 91) #[] #[])) 2 (.func (.func 92) #[] #[])) 3 (.func (.func 93) #[] #[])) 4 (.func (.func 94) #[] #[])) 5 (.func (.func 95) #[] #[])) 6 (.func (.func 95) #[] #[])) 7 (.func (.func 96) #[] #[])) 9 (.func (.func 97) #[] #[])
set_option maxHeartbeats 4000000 in
theorem part_call (xk xv xt xs xa xc most : Int) (xD : Option Addr) (xn xq : Nat) (lx : Byt) (hxn : lx.length = xn) (base D : Nat) (d d' : Dev) (w : World) (h : DevAt base w D d) (hbase : base ≤ w.heap.size) (hr : Row bv w xD lx) (hn : xn ≤ 1000000) (he : errK d ⟨xk, xv, xt, xs, xa, xc, lx⟩ = 0) (f : Nat) (hf : getK tabF xk = some (.func (.func f) #[] #[])) (code done : Int) (data : Byt)
  (ef : ∀ args w, (callFunc f args).run Tryz.prog w = .ok (.enter f args) w)
  (hc : ∀ W, Gr w W → Calls Tryz.prog f #[.pointer (some ⟨D, 0, none⟩), .agg #[.int .i64 xk, .int .u64 xv, .int .u64 xt, .int .i64 xs, .int .i64 xa, .int .i64 xc, .slice xD xn xq], .int .i64 most] W (PartPost base D d' code done data W)) :
  Calls Tryz.prog 71 #[.pointer (some ⟨D, 0, none⟩), .agg #[.int .i64 xk, .int .u64 xv, .int .u64 xt, .int .i64 xs, .int .i64 xa, .int .i64 xc, .slice xD xn xq], .int .i64 most] w (PartPost base D d' code done data w) := by
 have HR := Lib.hid (fun W (g : Gr w W) => (refused_any xk xv xt xs xa xc xD xn xq lx hxn base D d W (h.gr g) (hr.gr g) (by omega)))
 rw [he] at HR
 have HC := Lib.hid hc
 clear hc h hr
 go_enter Tryz.func71, Tryz.ntmps71
 unfold tabF at hf
 go_wp2_with (first
  | (go_at_call 90; ((with_reducible refine (HR.out _ gri).mono ?_); rintro _ _ ⟨rfl, g1, rfl⟩))
  | (refine wpList_makeMapK (q := .i64) rfl rfl ?_; intro W9 b9 hm9 hgw hbw; have bO := BlockAt.gr (inferInstance : BlockAt _ w.heap.size #[.int .i64 xk, .int .u64 xv, .int .u64 xt, .int .i64 xs, .int .i64 xa, .int .i64 xc, .slice xD xn xq] 43) hgw; have bA := BlockAt.gr (inferInstance : BlockAt _ (w.heap.size + 1) #[.int .i64 0, .int .i64 0, .slice none 0 0] 97) hgw; have cO0 : W9.cell? ⟨w.heap.size, 0, none⟩ = some (.int .i64 xk) := (@block_cells _ _ 0 _ _ bO).trans rfl; have cO1 : W9.cell? ⟨w.heap.size, 1, none⟩ = some (.int .u64 xv) := (@block_cells _ _ 1 _ _ bO).trans rfl; have cO2 : W9.cell? ⟨w.heap.size, 2, none⟩ = some (.int .u64 xt) := (@block_cells _ _ 2 _ _ bO).trans rfl; have cO3 : W9.cell? ⟨w.heap.size, 3, none⟩ = some (.int .i64 xs) := (@block_cells _ _ 3 _ _ bO).trans rfl; have cO4 : W9.cell? ⟨w.heap.size, 4, none⟩ = some (.int .i64 xa) := (@block_cells _ _ 4 _ _ bO).trans rfl; have cO5 : W9.cell? ⟨w.heap.size, 5, none⟩ = some (.int .i64 xc) := (@block_cells _ _ 5 _ _ bO).trans rfl; have cO6 : W9.cell? ⟨w.heap.size, 6, none⟩ = some (.slice xD xn xq) := (@block_cells _ _ 6 _ _ bO).trans rfl; have oO := bO.old; have oA := bA.old; have HbA := Lib.hid bA; clear bO bA)
  | (refine wpList_insertK rfl _ _ _ rfl 1 (.func (.func 91) #[] #[]) Tryz.underlying182 Tryz.underlying40 hm9 hgw hbw rfl rfl rfl ?_; clear cO0 cO1 cO2 cO3 cO4 cO5 cO6 oO oA HbA; clear hm9 hgw; intro W9 hm9 hgw; have bO := BlockAt.gr (inferInstance : BlockAt _ w.heap.size #[.int .i64 xk, .int .u64 xv, .int .u64 xt, .int .i64 xs, .int .i64 xa, .int .i64 xc, .slice xD xn xq] 43) hgw; have bA := BlockAt.gr (inferInstance : BlockAt _ (w.heap.size + 1) #[.int .i64 0, .int .i64 0, .slice none 0 0] 97) hgw; have cO0 : W9.cell? ⟨w.heap.size, 0, none⟩ = some (.int .i64 xk) := (@block_cells _ _ 0 _ _ bO).trans rfl; have cO1 : W9.cell? ⟨w.heap.size, 1, none⟩ = some (.int .u64 xv) := (@block_cells _ _ 1 _ _ bO).trans rfl; have cO2 : W9.cell? ⟨w.heap.size, 2, none⟩ = some (.int .u64 xt) := (@block_cells _ _ 2 _ _ bO).trans rfl; have cO3 : W9.cell? ⟨w.heap.size, 3, none⟩ = some (.int .i64 xs) := (@block_cells _ _ 3 _ _ bO).trans rfl; have cO4 : W9.cell? ⟨w.heap.size, 4, none⟩ = some (.int .i64 xa) := (@block_cells _ _ 4 _ _ bO).trans rfl; have cO5 : W9.cell? ⟨w.heap.size, 5, none⟩ = some (.int .i64 xc) := (@block_cells _ _ 5 _ _ bO).trans rfl; have cO6 : W9.cell? ⟨w.heap.size, 6, none⟩ = some (.slice xD xn xq) := (@block_cells _ _ 6 _ _ bO).trans rfl; have oO := bO.old; have oA := bA.old; have HbA := Lib.hid bA; clear bO bA)
  | (refine wpList_insertK rfl _ _ _ rfl 2 (.func (.func 92) #[] #[]) Tryz.underlying182 Tryz.underlying40 hm9 hgw hbw rfl rfl rfl ?_; clear cO0 cO1 cO2 cO3 cO4 cO5 cO6 oO oA HbA; clear hm9 hgw; intro W9 hm9 hgw; have bO := BlockAt.gr (inferInstance : BlockAt _ w.heap.size #[.int .i64 xk, .int .u64 xv, .int .u64 xt, .int .i64 xs, .int .i64 xa, .int .i64 xc, .slice xD xn xq] 43) hgw; have bA := BlockAt.gr (inferInstance : BlockAt _ (w.heap.size + 1) #[.int .i64 0, .int .i64 0, .slice none 0 0] 97) hgw; have cO0 : W9.cell? ⟨w.heap.size, 0, none⟩ = some (.int .i64 xk) := (@block_cells _ _ 0 _ _ bO).trans rfl; have cO1 : W9.cell? ⟨w.heap.size, 1, none⟩ = some (.int .u64 xv) := (@block_cells _ _ 1 _ _ bO).trans rfl; have cO2 : W9.cell? ⟨w.heap.size, 2, none⟩ = some (.int .u64 xt) := (@block_cells _ _ 2 _ _ bO).trans rfl; have cO3 : W9.cell? ⟨w.heap.size, 3, none⟩ = some (.int .i64 xs) := (@block_cells _ _ 3 _ _ bO).trans rfl; have cO4 : W9.cell? ⟨w.heap.size, 4, none⟩ = some (.int .i64 xa) := (@block_cells _ _ 4 _ _ bO).trans rfl; have cO5 : W9.cell? ⟨w.heap.size, 5, none⟩ = some (.int .i64 xc) := (@block_cells _ _ 5 _ _ bO).trans rfl; have cO6 : W9.cell? ⟨w.heap.size, 6, none⟩ = some (.slice xD xn xq) := (@block_cells _ _ 6 _ _ bO).trans rfl; have oO := bO.old; have oA := bA.old; have HbA := Lib.hid bA; clear bO bA)
  | (refine wpList_insertK rfl _ _ _ rfl 3 (.func (.func 93) #[] #[]) Tryz.underlying182 Tryz.underlying40 hm9 hgw hbw rfl rfl rfl ?_; clear cO0 cO1 cO2 cO3 cO4 cO5 cO6 oO oA HbA; clear hm9 hgw; intro W9 hm9 hgw; have bO := BlockAt.gr (inferInstance : BlockAt _ w.heap.size #[.int .i64 xk, .int .u64 xv, .int .u64 xt, .int .i64 xs, .int .i64 xa, .int .i64 xc, .slice xD xn xq] 43) hgw; have bA := BlockAt.gr (inferInstance : BlockAt _ (w.heap.size + 1) #[.int .i64 0, .int .i64 0, .slice none 0 0] 97) hgw; have cO0 : W9.cell? ⟨w.heap.size, 0, none⟩ = some (.int .i64 xk) := (@block_cells _ _ 0 _ _ bO).trans rfl; have cO1 : W9.cell? ⟨w.heap.size, 1, none⟩ = some (.int .u64 xv) := (@block_cells _ _ 1 _ _ bO).trans rfl; have cO2 : W9.cell? ⟨w.heap.size, 2, none⟩ = some (.int .u64 xt) := (@block_cells _ _ 2 _ _ bO).trans rfl; have cO3 : W9.cell? ⟨w.heap.size, 3, none⟩ = some (.int .i64 xs) := (@block_cells _ _ 3 _ _ bO).trans rfl; have cO4 : W9.cell? ⟨w.heap.size, 4, none⟩ = some (.int .i64 xa) := (@block_cells _ _ 4 _ _ bO).trans rfl; have cO5 : W9.cell? ⟨w.heap.size, 5, none⟩ = some (.int .i64 xc) := (@block_cells _ _ 5 _ _ bO).trans rfl; have cO6 : W9.cell? ⟨w.heap.size, 6, none⟩ = some (.slice xD xn xq) := (@block_cells _ _ 6 _ _ bO).trans rfl; have oO := bO.old; have oA := bA.old; have HbA := Lib.hid bA; clear bO bA)
  | (refine wpList_insertK rfl _ _ _ rfl 4 (.func (.func 94) #[] #[]) Tryz.underlying182 Tryz.underlying40 hm9 hgw hbw rfl rfl rfl ?_; clear cO0 cO1 cO2 cO3 cO4 cO5 cO6 oO oA HbA; clear hm9 hgw; intro W9 hm9 hgw; have bO := BlockAt.gr (inferInstance : BlockAt _ w.heap.size #[.int .i64 xk, .int .u64 xv, .int .u64 xt, .int .i64 xs, .int .i64 xa, .int .i64 xc, .slice xD xn xq] 43) hgw; have bA := BlockAt.gr (inferInstance : BlockAt _ (w.heap.size + 1) #[.int .i64 0, .int .i64 0, .slice none 0 0] 97) hgw; have cO0 : W9.cell? ⟨w.heap.size, 0, none⟩ = some (.int .i64 xk) := (@block_cells _ _ 0 _ _ bO).trans rfl; have cO1 : W9.cell? ⟨w.heap.size, 1, none⟩ = some (.int .u64 xv) := (@block_cells _ _ 1 _ _ bO).trans rfl; have cO2 : W9.cell? ⟨w.heap.size, 2, none⟩ = some (.int .u64 xt) := (@block_cells _ _ 2 _ _ bO).trans rfl; have cO3 : W9.cell? ⟨w.heap.size, 3, none⟩ = some (.int .i64 xs) := (@block_cells _ _ 3 _ _ bO).trans rfl; have cO4 : W9.cell? ⟨w.heap.size, 4, none⟩ = some (.int .i64 xa) := (@block_cells _ _ 4 _ _ bO).trans rfl; have cO5 : W9.cell? ⟨w.heap.size, 5, none⟩ = some (.int .i64 xc) := (@block_cells _ _ 5 _ _ bO).trans rfl; have cO6 : W9.cell? ⟨w.heap.size, 6, none⟩ = some (.slice xD xn xq) := (@block_cells _ _ 6 _ _ bO).trans rfl; have oO := bO.old; have oA := bA.old; have HbA := Lib.hid bA; clear bO bA)
  | (refine wpList_insertK rfl _ _ _ rfl 5 (.func (.func 95) #[] #[]) Tryz.underlying182 Tryz.underlying40 hm9 hgw hbw rfl rfl rfl ?_; clear cO0 cO1 cO2 cO3 cO4 cO5 cO6 oO oA HbA; clear hm9 hgw; intro W9 hm9 hgw; have bO := BlockAt.gr (inferInstance : BlockAt _ w.heap.size #[.int .i64 xk, .int .u64 xv, .int .u64 xt, .int .i64 xs, .int .i64 xa, .int .i64 xc, .slice xD xn xq] 43) hgw; have bA := BlockAt.gr (inferInstance : BlockAt _ (w.heap.size + 1) #[.int .i64 0, .int .i64 0, .slice none 0 0] 97) hgw; have cO0 : W9.cell? ⟨w.heap.size, 0, none⟩ = some (.int .i64 xk) := (@block_cells _ _ 0 _ _ bO).trans rfl; have cO1 : W9.cell? ⟨w.heap.size, 1, none⟩ = some (.int .u64 xv) := (@block_cells _ _ 1 _ _ bO).trans rfl; have cO2 : W9.cell? ⟨w.heap.size, 2, none⟩ = some (.int .u64 xt) := (@block_cells _ _ 2 _ _ bO).trans rfl; have cO3 : W9.cell? ⟨w.heap.size, 3, none⟩ = some (.int .i64 xs) := (@block_cells _ _ 3 _ _ bO).trans rfl; have cO4 : W9.cell? ⟨w.heap.size, 4, none⟩ = some (.int .i64 xa) := (@block_cells _ _ 4 _ _ bO).trans rfl; have cO5 : W9.cell? ⟨w.heap.size, 5, none⟩ = some (.int .i64 xc) := (@block_cells _ _ 5 _ _ bO).trans rfl; have cO6 : W9.cell? ⟨w.heap.size, 6, none⟩ = some (.slice xD xn xq) := (@block_cells _ _ 6 _ _ bO).trans rfl; have oO := bO.old; have oA := bA.old; have HbA := Lib.hid bA; clear bO bA)
  | (refine wpList_insertK rfl _ _ _ rfl 6 (.func (.func 95) #[] #[]) Tryz.underlying182 Tryz.underlying40 hm9 hgw hbw rfl rfl rfl ?_; clear cO0 cO1 cO2 cO3 cO4 cO5 cO6 oO oA HbA; clear hm9 hgw; intro W9 hm9 hgw; have bO := BlockAt.gr (inferInstance : BlockAt _ w.heap.size #[.int .i64 xk, .int .u64 xv, .int .u64 xt, .int .i64 xs, .int .i64 xa, .int .i64 xc, .slice xD xn xq] 43) hgw; have bA := BlockAt.gr (inferInstance : BlockAt _ (w.heap.size + 1) #[.int .i64 0, .int .i64 0, .slice none 0 0] 97) hgw; have cO0 : W9.cell? ⟨w.heap.size, 0, none⟩ = some (.int .i64 xk) := (@block_cells _ _ 0 _ _ bO).trans rfl; have cO1 : W9.cell? ⟨w.heap.size, 1, none⟩ = some (.int .u64 xv) := (@block_cells _ _ 1 _ _ bO).trans rfl; have cO2 : W9.cell? ⟨w.heap.size, 2, none⟩ = some (.int .u64 xt) := (@block_cells _ _ 2 _ _ bO).trans rfl; have cO3 : W9.cell? ⟨w.heap.size, 3, none⟩ = some (.int .i64 xs) := (@block_cells _ _ 3 _ _ bO).trans rfl; have cO4 : W9.cell? ⟨w.heap.size, 4, none⟩ = some (.int .i64 xa) := (@block_cells _ _ 4 _ _ bO).trans rfl; have cO5 : W9.cell? ⟨w.heap.size, 5, none⟩ = some (.int .i64 xc) := (@block_cells _ _ 5 _ _ bO).trans rfl; have cO6 : W9.cell? ⟨w.heap.size, 6, none⟩ = some (.slice xD xn xq) := (@block_cells _ _ 6 _ _ bO).trans rfl; have oO := bO.old; have oA := bA.old; have HbA := Lib.hid bA; clear bO bA)
  | (refine wpList_insertK rfl _ _ _ rfl 7 (.func (.func 96) #[] #[]) Tryz.underlying182 Tryz.underlying40 hm9 hgw hbw rfl rfl rfl ?_; clear cO0 cO1 cO2 cO3 cO4 cO5 cO6 oO oA HbA; clear hm9 hgw; intro W9 hm9 hgw; have bO := BlockAt.gr (inferInstance : BlockAt _ w.heap.size #[.int .i64 xk, .int .u64 xv, .int .u64 xt, .int .i64 xs, .int .i64 xa, .int .i64 xc, .slice xD xn xq] 43) hgw; have bA := BlockAt.gr (inferInstance : BlockAt _ (w.heap.size + 1) #[.int .i64 0, .int .i64 0, .slice none 0 0] 97) hgw; have cO0 : W9.cell? ⟨w.heap.size, 0, none⟩ = some (.int .i64 xk) := (@block_cells _ _ 0 _ _ bO).trans rfl; have cO1 : W9.cell? ⟨w.heap.size, 1, none⟩ = some (.int .u64 xv) := (@block_cells _ _ 1 _ _ bO).trans rfl; have cO2 : W9.cell? ⟨w.heap.size, 2, none⟩ = some (.int .u64 xt) := (@block_cells _ _ 2 _ _ bO).trans rfl; have cO3 : W9.cell? ⟨w.heap.size, 3, none⟩ = some (.int .i64 xs) := (@block_cells _ _ 3 _ _ bO).trans rfl; have cO4 : W9.cell? ⟨w.heap.size, 4, none⟩ = some (.int .i64 xa) := (@block_cells _ _ 4 _ _ bO).trans rfl; have cO5 : W9.cell? ⟨w.heap.size, 5, none⟩ = some (.int .i64 xc) := (@block_cells _ _ 5 _ _ bO).trans rfl; have cO6 : W9.cell? ⟨w.heap.size, 6, none⟩ = some (.slice xD xn xq) := (@block_cells _ _ 6 _ _ bO).trans rfl; have oO := bO.old; have oA := bA.old; have HbA := Lib.hid bA; clear bO bA)
  | (refine wpList_insertK rfl _ _ _ rfl 9 (.func (.func 97) #[] #[]) Tryz.underlying182 Tryz.underlying40 hm9 hgw hbw rfl rfl rfl ?_; clear cO0 cO1 cO2 cO3 cO4 cO5 cO6 oO oA HbA; clear hm9 hgw; intro W9 hm9 hgw; have bO := BlockAt.gr (inferInstance : BlockAt _ w.heap.size #[.int .i64 xk, .int .u64 xv, .int .u64 xt, .int .i64 xs, .int .i64 xa, .int .i64 xc, .slice xD xn xq] 43) hgw; have bA := BlockAt.gr (inferInstance : BlockAt _ (w.heap.size + 1) #[.int .i64 0, .int .i64 0, .slice none 0 0] 97) hgw; have cO0 : W9.cell? ⟨w.heap.size, 0, none⟩ = some (.int .i64 xk) := (@block_cells _ _ 0 _ _ bO).trans rfl; have cO1 : W9.cell? ⟨w.heap.size, 1, none⟩ = some (.int .u64 xv) := (@block_cells _ _ 1 _ _ bO).trans rfl; have cO2 : W9.cell? ⟨w.heap.size, 2, none⟩ = some (.int .u64 xt) := (@block_cells _ _ 2 _ _ bO).trans rfl; have cO3 : W9.cell? ⟨w.heap.size, 3, none⟩ = some (.int .i64 xs) := (@block_cells _ _ 3 _ _ bO).trans rfl; have cO4 : W9.cell? ⟨w.heap.size, 4, none⟩ = some (.int .i64 xa) := (@block_cells _ _ 4 _ _ bO).trans rfl; have cO5 : W9.cell? ⟨w.heap.size, 5, none⟩ = some (.int .i64 xc) := (@block_cells _ _ 5 _ _ bO).trans rfl; have cO6 : W9.cell? ⟨w.heap.size, 6, none⟩ = some (.slice xD xn xq) := (@block_cells _ _ 6 _ _ bO).trans rfl; have oO := bO.old; have oA := bA.old; have HbA := Lib.hid bA; clear bO bA)
  | (at_lookup; go_loud (refine wpList_lookupK (q := .i64) (b := b9) rfl _ _ rfl xk Tryz.underlying182 Tryz.underlying40 (Tryz.zeroValue181 _) hm9 rfl rfl ?_); go_loud (rw [hf]; have HGW := Lib.hid hgw; clear hgw hbw hm9))
  | (go_at_fn f; ((with_reducible refine (HC.out _ (Gr.trans gri (Gr.trans HGW.out gri))).mono ?_); rintro _ W3 ⟨A3, n3, c3, rfl, ho3, hd3, hb3, hk3⟩; have bA3 := hk3.block HbA.out; have cA0 : W3.cell? ⟨w.heap.size + 1, 0, none⟩ = some (.int .i64 0) := (@block_cells _ _ 0 _ _ bA3).trans rfl; have cA1 : W3.cell? ⟨w.heap.size + 1, 1, none⟩ = some (.int .i64 0) := (@block_cells _ _ 1 _ _ bA3).trans rfl; have cA2 : W3.cell? ⟨w.heap.size + 1, 2, none⟩ = some (.slice none 0 0) := (@block_cells _ _ 2 _ _ bA3).trans rfl; have fA : ∀ o, W3.frozen? ⟨w.heap.size + 1, o, none⟩ = false := fun o => @block_frozen _ _ o _ _ bA3)))
 have gW : Gr w W9 := Gr.trans gri HGW.out
 have hbw9 : Below base w W9 := gW.below.mono hbase
 obtain ⟨M3, mb3, hd3⟩ := hd3
 have ho4 : OwnN bE w.heap.size W3 (.slice A3 n3 c3) data := ⟨ho3.ok, OwnsRow_mono ho3.own gW.below.size⟩
 have ho5 := ((ho4.set_ (w.heap.size + 1) 0 (.int .i64 code) (by decide)).set_ (w.heap.size + 1) 1 (.int .i64 done) (by decide)).set_ (w.heap.size + 1) 2 (.slice A3 n3 c3) (by decide)
 exact bodyPost_ret (run_resCell1 rfl _ _ _ _ rfl (ans_block bA3 _ _ _) Tryz.underlying97 rfl (by kernel_rfl)) rfl ⟨A3, n3, c3, rfl, ho5, ans_dev hd3 bA3 (by decide) _ _ _, ans_below (hbw9.trans hb3) (by omega) _ _ _, ck_ans ((CK.gr gW).trans hk3) (by omega) _ _ _⟩
set_option maxRecDepth 100000
set_option maxHeartbeats 4000000 in
theorem part_ref (xk xv xt xs xa xc most : Int) (xD : Option Addr) (xn xq : Nat) (lx : Byt) (hxn : lx.length = xn) (base D : Nat) (d : Dev) (w : World) (h : DevAt base w D d) (hbase : base ≤ w.heap.size) (hr : Row bv w xD lx) (hn : xn ≤ 1000000) (k : Int) (he : errK d ⟨xk, xv, xt, xs, xa, xc, lx⟩ = k) (hk : k = 2 ∨ k = 5 ∨ k = 6 ∨ k = 7) :
  Calls Tryz.prog 71 #[.pointer (some ⟨D, 0, none⟩), .agg #[.int .i64 xk, .int .u64 xv, .int .u64 xt, .int .i64 xs, .int .i64 xa, .int .i64 xc, .slice xD xn xq], .int .i64 most] w (PartPost base D d k 0 [] w) := by
 have HR := Lib.hid (fun W (g : Gr w W) => (refused_any xk xv xt xs xa xc xD xn xq lx hxn base D d W (h.gr g) (hr.gr g) (by omega)))
 rw [he] at HR
 have HH := Lib.hid h
 clear h hr
 rcases hk with rfl | rfl | rfl | rfl
 all_goals
  go_enter Tryz.func71, Tryz.ntmps71
  go_wp2_with ((go_at_call 90; ((with_reducible refine (HR.out _ gri).mono ?_); rintro _ _ ⟨rfl, g1, rfl⟩)))
  obtain ⟨M3, mb3, hd3⟩ := HH.out
  have gW : Gr w (grown _ g1) := gri
  have bA := (inferInstance : BlockAt (grown _ g1) (w.heap.size + 1) #[.int .i64 0, .int .i64 0, .slice none 0 0] 97)
  exact bodyPost_ret (run_resCell1 rfl _ _ _ _ rfl (ans_block bA _ _ _) Tryz.underlying97 rfl (by kernel_rfl)) rfl ⟨none, 0, 0, rfl, OwnN.nil _ _, ans_dev (hd3.gr gW) bA (by decide) _ _ _, ans_below (gW.below.mono hbase) (by omega) _ _ _, ck_ans (CK.gr gW) (by omega) _ _ _⟩
theorem errK_val (d : Dev) (o : OpM) (h : ¬ errK d o = 0) : errK d o = 2 ∨ errK d o = 5 ∨ errK d o = 6 ∨ errK d o = 7 := by
 revert h
 unfold errK
 repeat' split
 all_goals simp_all
end Go.Proofs.YtipeblmgochdfaaGreat
