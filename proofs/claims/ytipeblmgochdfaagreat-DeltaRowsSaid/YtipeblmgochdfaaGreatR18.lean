/- slices.breakPatternsOrdered. Conditions: the row stands in memory, at most 10^6 elements. slices.partialInsertionSortOrdered. Conditions: the row stands in memory, at most 10^6 elements. slices.pdqsortOrdered. Conditions: the row stands in memory, at most 10^6 elements. slices.Sort. Conditions: the row stands in memory, at most 10^6 elements. maps.Keys, slices.Collect, slices.Sorted over the keys of a map of volumes; Device.Volumes. Conditions: the map stands in memory; at most 256 keys. Device.Volumes. Conditions: the device stands in memory, at most 256 volumes. strings.ContainsRune("1248", '4'). Conditions: none. wire.lay: a number in four bytes, a block. Conditions: the slice is the call's own. wire.Pack of numbers of four bytes and blocks. Conditions: the values stand in memory, at most 30000. -/
import Derived.Test.YtipeblmgochdfaaGreatR17
import Derived.Test.YtipeblmgochdfaaGreatR13
import Derived.Deep.CutBlock
import Derived.Test.YtipeblmgochdfaaGreatR16
import Derived.Test.YtipeblmgochdfaaGreatR02
import Derived.Test.YtipeblmgochdfaaGreatR01
namespace Go.Proofs.YtipeblmgochdfaaGreat
open Go.RowKit
set_option linter.unusedVariables false
set_option linter.unusedSimpArgs false
set_option linter.unnecessarySimpa false
set_option maxRecDepth 100000
set_option maxHeartbeats 4000000

theorem and_le (z : Int) (m : Nat) (hm : m < 18446744073709551616) : ∃ o : Nat, bits BinOp.and IntKind.u64 z (m : Int) = (o : Int) ∧ o ≤ m := by
 have h : (BitVec.ofInt 64 z &&& BitVec.ofInt 64 (m : Int)).toNat ≤ m := by
  rw [BitVec.toNat_and]
  refine Nat.le_trans Nat.and_le_right ?_
  have : (BitVec.ofInt 64 (m : Int)).toNat = m := by
   rw [BitVec.toNat_ofInt]
   omega
  omega
 refine ⟨(BitVec.ofInt 64 z &&& BitVec.ofInt 64 (m : Int)).toNat, ?_, h⟩
 have e : bits BinOp.and IntKind.u64 z (m : Int) = IntKind.u64.wrap ((BitVec.ofInt 64 z &&& BitVec.ofInt 64 (m : Int)).toNat : Int) := rfl
 rw [e]
 generalize (BitVec.ofInt 64 z &&& BitVec.ofInt 64 (m : Int)).toNat = q at *
 simp [IntKind.wrap, IntKind.bits, IntKind.signed]
 omega
theorem blk_onl {W W' : World} {S g : Nat} {cs : Array Value} {T : TypeId} (h : BlockAt W S cs T) (o : Onl W W' g) (hne : S ≠ g) : BlockAt W' S cs T := ⟨(o.block h.lt hne).trans h.eq⟩
theorem Onl.new {w W W' : World} {g S : Nat} (h : Onl w W g) (o : Onl W W' S) (hS : w.heap.size ≤ S) : Onl w W' g :=
 ⟨o.os.trans h.os, o.tape.trans h.tape, o.output.trans h.output, Nat.le_trans (World.grownBy.size h) (World.grownBy.size o), fun k hk hn => (World.grownBy.block o k (Nat.lt_of_lt_of_le hk (World.grownBy.size h)) (fun e => by (have e2 := Option.some.inj e); omega)).trans (World.grownBy.block h k hk hn)⟩
theorem break_any (base g n c : Nat) (xs : List Int) (a b : Nat) (w : World) (h : SA base w g n c xs) (hn : n ≤ 256) (hab : a + 8 ≤ b) (hb : b ≤ n) :
  Calls Tryz.prog 149 #[.slice (some ⟨g, 0, none⟩) n c, .int .i64 (a : Int), .int .i64 (b : Int)] w fun e w' => e = .returned (.tuple #[]) ∧ ∃ ys, SA base w' g n c ys ∧ RP a b xs ys ∧ Onl w w' g := by
 have H := Lib.hid h
 have hgw := h.lt
 clear h
 obtain ⟨l, hl⟩ : ∃ l, b - a = l := ⟨_, rfl⟩
 have rl : (b : Int) - (a : Int) = (l : Int) := by omega
 have wl : IntKind.i64.wrap (l : Int) = (l : Int) := wrapS l (by omega)
 obtain ⟨q, hq⟩ : ∃ q, l / 4 = q := ⟨_, rfl⟩
 have rq : (l : Int) / 4 = (q : Int) := by omega
 have wq : IntKind.i64.wrap (q : Int) = (q : Int) := wrapS q (by omega)
 obtain ⟨q2, hq2⟩ : ∃ q2, q * 2 = q2 := ⟨_, rfl⟩
 have rq2 : (q : Int) * 2 = (q2 : Int) := by omega
 have wq2 : IntKind.i64.wrap (q2 : Int) = (q2 : Int) := wrapS q2 (by omega)
 obtain ⟨md, hmd⟩ : ∃ md, a + q2 = md := ⟨_, rfl⟩
 have rmd : (a : Int) + (q2 : Int) = (md : Int) := by omega
 have wmd : IntKind.i64.wrap (md : Int) = (md : Int) := wrapS md (by omega)
 obtain ⟨lo, hlo⟩ : ∃ lo, md - 1 = lo := ⟨_, rfl⟩
 have rlo : (md : Int) - 1 = (lo : Int) := by omega
 have wlo : IntKind.i64.wrap (lo : Int) = (lo : Int) := wrapS lo (by omega)
 obtain ⟨hi, hhi⟩ : ∃ hi, md + 1 = hi := ⟨_, rfl⟩
 have rhi : (md : Int) + 1 = (hi : Int) := by omega
 have whi : IntKind.i64.wrap (hi : Int) = (hi : Int) := wrapS hi (by omega)
 have e8 : (8 : Int) ≤ (l : Int) := by omega
 have hwu : IntKind.u64.wrap (l : Int) = (l : Int) := by
  simp [IntKind.wrap, IntKind.bits, IntKind.signed]
  omega
 obtain ⟨S, hS⟩ : ∃ S, w.heap.size = S := ⟨_, rfl⟩
 have hne : g ≠ S := by omega
 have HPW := Lib.hid (fun W => pow_any l (by omega) (by omega) W)
 go_enter Tryz.func149, Tryz.ntmps149
 go_wp2_with (first | (go_at_call 178; ((with_reducible refine (HPW.out _).mono ?_))))
 rintro _ _ ⟨M, rfl, hM1, hM2, ⟨g1, rfl⟩⟩
 obtain ⟨M1, hM⟩ : ∃ M1, M1 + 1 = M := ⟨M - 1, by omega⟩
 have rM : (M : Int) - 1 = (M1 : Int) := by omega
 have wM : IntKind.u64.wrap (M1 : Int) = (M1 : Int) := by
  simp [IntKind.wrap, IntKind.bits, IntKind.signed]
  omega
 go_wp2
 go_loopw [9] (fun v9 wr => ∃ (ix : Nat) (ys : List Int), lo ≤ ix ∧ ix ≤ hi + 1 ∧ v9 = .int .i64 (ix : Int) ∧ SA base wr g n c ys ∧ RP a b xs ys ∧ ∃ z : Int, BlockAt wr S #[.int .u64 z] 267 ∧ Onl w wr g) (fun v _ => hi + 1 - (intOf v).toNat)
 case atStart => exact ⟨lo, xs, Nat.le_refl _, by omega, rfl, H.out.gr gri, .refl, _, (by rw [← hS]; infer_instance), Onl.of_gr gri g⟩
 case round =>
  obtain ⟨ix, ys, hi1, hi2, rfl, hsa, hrp, z0, hbs, ho⟩ := hrel
  have HSA := Lib.hid hsa
  have HRP := Lib.hid hrp
  have HO := Lib.hid ho
  have hyl := hsa.len
  by_cases hix : ix ≤ hi
  ·have e1 : (ix : Int) ≤ (hi : Int) := by omega
   have HX := Lib.hid (fun W (hW : Gr wr W) => next_xs S z0 W (hbs.gr hW))
   clear hsa hrp ho hbs
   go_wp2_with (first | (go_at_call 179; ((with_reducible refine (HX.out _ gri).mono ?_))))
   rintro _ W2 ⟨z9, rfl, hb9, ho9⟩
   obtain ⟨o, ho0, ho1⟩ := and_le z9 M1 (by omega)
   have wo1 : IntKind.i64.wrap (o : Int) = (o : Int) := wrapS o (by omega)
   have HSA3 := (HSA.out.gr (gri : Gr wr _)).onl ho9 hne
   have HBS := Lib.hid hb9
   have HO2 := Lib.hid ((HO.out.trans (Onl.of_gr (gri : Gr wr _) g)).new ho9 (by omega))
   haveI : Old g W2 := ⟨HSA3.lt⟩
   haveI : Old S W2 := hb9.old
   clear hb9 ho9
   by_cases hol : l ≤ o
   ·have e2 : (l : Int) ≤ (o : Int) := by omega
    obtain ⟨o2, ho2⟩ : ∃ o2, o - l = o2 := ⟨_, rfl⟩
    have ro2 : (o : Int) - (l : Int) = (o2 : Int) := by omega
    have wo2 : IntKind.i64.wrap (o2 : Int) = (o2 : Int) := wrapS o2 (by omega)
    obtain ⟨ao, hao⟩ : ∃ ao, a + o2 = ao := ⟨_, rfl⟩
    have rao : (a : Int) + (o2 : Int) = (ao : Int) := by omega
    have wao : IntKind.i64.wrap (ao : Int) = (ao : Int) := wrapS ao (by omega)
    have bao : (ao : Int) < (n : Int) := by omega
    have c0 := HSA3.cell ix (by omega)
    have c1 := HSA3.cell ao (by omega)
    have bix : (ix : Int) < (n : Int) := by omega
    go_wp2
    refine wp_region_treeJ ⟨fun w' => Gr W2 w', true, fun _ _ h => h, fun _ _ _ h g => h.trans g⟩ rfl (Gr.of ((Below.refl _ _).drew)) [2, 3, 4, 5] [0, 1, 6, 7, 8, 9, 10, 11, 12, 13, 14, 15] 4 17 (by kernel_rfl) (by kernel_rfl) ?_
    simp only [pick, List.drop, List.take, List.nil_append, List.cons_append]
    refine wpPure_step (.slice (some ⟨g, 0, none⟩) n c) rfl (fun w => by go_simp) ?_
    simp only [Act.put, List.setIfInBounds_toArray, List.set]
    refine wpPure_step (.int .i64 (a : Int)) rfl (fun w => by go_simp) ?_
    simp only [Act.put, List.setIfInBounds_toArray, List.set]
    refine wpPure_step (.int .i64 (o2 : Int)) rfl (fun w => by go_simp) ?_
    simp only [Act.put, List.setIfInBounds_toArray, List.set]
    refine wpPure_step (.int .i64 (ao : Int)) rfl (fun w => by go_simp) ?_
    simp only [Act.put, List.setIfInBounds_toArray, List.set]
    show wpCalm _ _ _ _ _ _
    repeat (refine wpCalm_step (fun K hK => ?_); go_simp; first | (refine hK _ ?_; clear hK K) | (apply Exists.intro; refine ⟨fun _ => ?_, hK _ ?_⟩; (skip); clear hK K))
    refine wpCalm_nil ?_
    refine fg_one 16 (by kernel_rfl) ?_
    refine fg_pure (.pointer (some ⟨g, ix, none⟩)) rfl rfl rfl (fun w => by go_simp) ?_
    simp only [Act.put, List.setIfInBounds_toArray, List.set]
    refine fg_one 17 (by kernel_rfl) ?_
    refine fg_effN rfl rfl rfl (fun w1 hw1 => ?_)
    have sa1 := SA.gr HSA3 hw1
    have t0 := sa1.cell ix (by have := hyl; omega)
    have t1 := sa1.frozen ix
    haveI oG : Old g w1 := ⟨sa1.lt⟩
    have hrun : (storeVar 28 ⟨g, ix, none⟩ (.int .u64 (at0 ys ao))).run Tryz.prog w1 = .ok () (w1.setCell ⟨g, ix, none⟩ (.int .u64 (at0 ys ao))) := by go_simp
    refine effAt_stS rfl rfl rfl hrun ⟨⟨fun w2 => SA base w2 g n c (ys.set ix (at0 ys ao)) ∧ Onl W2 w2 g, false, fun e => Bool.noConfusion e, fun e => Bool.noConfusion e⟩, ⟨sa1.put ix _ (by have := hyl; omega), (Onl.of_gr hw1 g).trans (Onl.set _ g ix _)⟩, fun e => absurd rfl e, ?_⟩
    clear oG sa1 t0 t1 hrun hw1 w1
    try simp only [Act.put, List.setIfInBounds_toArray, List.set]
    refine fg_one 18 (by kernel_rfl) ?_
    refine fg_pure (.pointer (some ⟨g, ao, none⟩)) rfl rfl rfl (fun w => by go_simp) ?_
    simp only [Act.put, List.setIfInBounds_toArray, List.set]
    refine fg_one 19 (by kernel_rfl) ?_
    refine fg_effN rfl rfl rfl (fun w1 hw1 => ?_)
    have t0 := hw1.1.cell ao (by rw [List.length_set]; have := hyl; omega)
    have t1 := hw1.1.frozen ao
    haveI oG : Old g w1 := ⟨hw1.1.lt⟩
    have hrun : (storeVar 28 ⟨g, ao, none⟩ (.int .u64 (at0 ys ix))).run Tryz.prog w1 = .ok () (w1.setCell ⟨g, ao, none⟩ (.int .u64 (at0 ys ix))) := by go_simp
    refine effAt_stS rfl rfl rfl hrun ⟨⟨fun w2 => SA base w2 g n c (swp ys ix ao) ∧ Onl W2 w2 g, false, fun e => Bool.noConfusion e, fun e => Bool.noConfusion e⟩, ⟨hw1.1.put ao _ (by rw [List.length_set]; have := hyl; omega), hw1.2.trans (Onl.set _ g ao _)⟩, fun _ e => Bool.noConfusion e, ?_⟩
    clear oG t0 t1 hrun hw1 w1
    refine fg_end (by kernel_rfl) (fun w5 hw5 => ?_)
    try simp only [Act.put]
    have HF := Lib.hid hw5
    clear hw5
    go_wp2
    go_roundw
    case rel => exact ⟨ix + 1, swp ys ix ao, by omega, by omega, by go_num, HF.out.1.gr gri, .swap HRP.out ix ao (by omega) (by omega) (by omega) (by omega) (by omega), z9, (blk_onl HBS.out (HF.out.2.trans (Onl.of_gr gri g)) hne.symm), HO2.out.trans (HF.out.2.trans (Onl.of_gr gri g))⟩
    case measure => simp [intOf] <;> omega
   ·have e2 : ¬ (l : Int) ≤ (o : Int) := by omega
    obtain ⟨ao, hao⟩ : ∃ ao, a + o = ao := ⟨_, rfl⟩
    have rao : (a : Int) + (o : Int) = (ao : Int) := by omega
    have wao : IntKind.i64.wrap (ao : Int) = (ao : Int) := wrapS ao (by omega)
    have bao : (ao : Int) < (n : Int) := by omega
    have c0 := HSA3.cell ix (by omega)
    have c1 := HSA3.cell ao (by omega)
    have bix : (ix : Int) < (n : Int) := by omega
    go_wp2
    refine wp_region_treeJ ⟨fun w' => Gr W2 w', true, fun _ _ h => h, fun _ _ _ h g => h.trans g⟩ rfl (Gr.of ((Below.refl _ _).drew)) [2, 3, 4, 5] [0, 1, 6, 7, 8, 9, 10, 11, 12, 13, 14, 15] 4 17 (by kernel_rfl) (by kernel_rfl) ?_
    simp only [pick, List.drop, List.take, List.nil_append, List.cons_append]
    refine wpPure_step (.slice (some ⟨g, 0, none⟩) n c) rfl (fun w => by go_simp) ?_
    simp only [Act.put, List.setIfInBounds_toArray, List.set]
    refine wpPure_step (.int .i64 (a : Int)) rfl (fun w => by go_simp) ?_
    simp only [Act.put, List.setIfInBounds_toArray, List.set]
    refine wpPure_step (.int .i64 (o : Int)) rfl (fun w => by go_simp) ?_
    simp only [Act.put, List.setIfInBounds_toArray, List.set]
    refine wpPure_step (.int .i64 (ao : Int)) rfl (fun w => by go_simp) ?_
    simp only [Act.put, List.setIfInBounds_toArray, List.set]
    show wpCalm _ _ _ _ _ _
    repeat (refine wpCalm_step (fun K hK => ?_); go_simp; first | (refine hK _ ?_; clear hK K) | (apply Exists.intro; refine ⟨fun _ => ?_, hK _ ?_⟩; (skip); clear hK K))
    refine wpCalm_nil ?_
    refine fg_one 16 (by kernel_rfl) ?_
    refine fg_pure (.pointer (some ⟨g, ix, none⟩)) rfl rfl rfl (fun w => by go_simp) ?_
    simp only [Act.put, List.setIfInBounds_toArray, List.set]
    refine fg_one 17 (by kernel_rfl) ?_
    refine fg_effN rfl rfl rfl (fun w1 hw1 => ?_)
    have sa1 := SA.gr HSA3 hw1
    have t0 := sa1.cell ix (by have := hyl; omega)
    have t1 := sa1.frozen ix
    haveI oG : Old g w1 := ⟨sa1.lt⟩
    have hrun : (storeVar 28 ⟨g, ix, none⟩ (.int .u64 (at0 ys ao))).run Tryz.prog w1 = .ok () (w1.setCell ⟨g, ix, none⟩ (.int .u64 (at0 ys ao))) := by go_simp
    refine effAt_stS rfl rfl rfl hrun ⟨⟨fun w2 => SA base w2 g n c (ys.set ix (at0 ys ao)) ∧ Onl W2 w2 g, false, fun e => Bool.noConfusion e, fun e => Bool.noConfusion e⟩, ⟨sa1.put ix _ (by have := hyl; omega), (Onl.of_gr hw1 g).trans (Onl.set _ g ix _)⟩, fun e => absurd rfl e, ?_⟩
    clear oG sa1 t0 t1 hrun hw1 w1
    try simp only [Act.put, List.setIfInBounds_toArray, List.set]
    refine fg_one 18 (by kernel_rfl) ?_
    refine fg_pure (.pointer (some ⟨g, ao, none⟩)) rfl rfl rfl (fun w => by go_simp) ?_
    simp only [Act.put, List.setIfInBounds_toArray, List.set]
    refine fg_one 19 (by kernel_rfl) ?_
    refine fg_effN rfl rfl rfl (fun w1 hw1 => ?_)
    have t0 := hw1.1.cell ao (by rw [List.length_set]; have := hyl; omega)
    have t1 := hw1.1.frozen ao
    haveI oG : Old g w1 := ⟨hw1.1.lt⟩
    have hrun : (storeVar 28 ⟨g, ao, none⟩ (.int .u64 (at0 ys ix))).run Tryz.prog w1 = .ok () (w1.setCell ⟨g, ao, none⟩ (.int .u64 (at0 ys ix))) := by go_simp
    refine effAt_stS rfl rfl rfl hrun ⟨⟨fun w2 => SA base w2 g n c (swp ys ix ao) ∧ Onl W2 w2 g, false, fun e => Bool.noConfusion e, fun e => Bool.noConfusion e⟩, ⟨hw1.1.put ao _ (by rw [List.length_set]; have := hyl; omega), hw1.2.trans (Onl.set _ g ao _)⟩, fun _ e => Bool.noConfusion e, ?_⟩
    clear oG t0 t1 hrun hw1 w1
    refine fg_end (by kernel_rfl) (fun w5 hw5 => ?_)
    try simp only [Act.put]
    have HF := Lib.hid hw5
    clear hw5
    go_wp2
    go_roundw
    case rel => exact ⟨ix + 1, swp ys ix ao, by omega, by omega, by go_num, HF.out.1.gr gri, .swap HRP.out ix ao (by omega) (by omega) (by omega) (by omega) (by omega), z9, (blk_onl HBS.out (HF.out.2.trans (Onl.of_gr gri g)) hne.symm), HO2.out.trans (HF.out.2.trans (Onl.of_gr gri g))⟩
    case measure => simp [intOf] <;> omega
  ·have e1 : ¬ (ix : Int) ≤ (hi : Int) := by omega
   clear hsa hrp ho hbs
   go_wp2
   exact ⟨rfl, .tuple #[], by simp [results, go_sem], ⟨rfl, ys, HSA.out.gr gri, HRP.out, HO.out.trans (Onl.of_gr gri g)⟩⟩
set_option maxRecDepth 100000
set_option maxHeartbeats 4000000

def Abv (xs : List Int) (a b : Nat) : Prop := ∀ k m, m + 1 = a → a ≤ k → k < b → at0 xs m ≤ at0 xs k
theorem Abv.rp {xs ys : List Int} {a b : Nat} (h : Abv xs a b) (r : RP a b xs ys) : Abv ys a b := fun k m h1 h2 h3 => by
 obtain ⟨q, q1, q2, e⟩ := r.from_ k h2 h3
 rw [e, r.out m (.inl (by omega))]
 exact h q m h1 q1 q2
def PiPost (base g n c : Nat) (xs : List Int) (a b : Nat) (w : World) (e : Ending) (w' : World) : Prop := ∃ (r : Bool) (ys : List Int), e = .returned (.bool r) ∧ SA base w' g n c ys ∧ RP a b xs ys ∧ (r = true → Srt ys a b) ∧ Onl w w' g
theorem partins_any (base g n c : Nat) (xs : List Int) (a b : Nat) (w : World) (h : SA base w g n c xs) (hn : n ≤ 1000000) (hab : a + 2 ≤ b) (hb : b ≤ n) (hA : Abv xs a b) :
  Calls Tryz.prog 152 #[.slice (some ⟨g, 0, none⟩) n c, .int .i64 (a : Int), .int .i64 (b : Int)] w (PiPost base g n c xs a b w) := by
 have H := Lib.hid h
 have HAB := Lib.hid hA
 clear h hA
 obtain ⟨l, hl⟩ : ∃ l, b - a = l := ⟨_, rfl⟩
 have rl : (b : Int) - (a : Int) = (l : Int) := by omega
 have wl : IntKind.i64.wrap (l : Int) = (l : Int) := wrapS l (by omega)
 go_enter Tryz.func152, Tryz.ntmps152
 go_wp2
 go_loopw [7, 8] (fun v7 v8 wr => ∃ (i t : Nat) (ys : List Int), a < i ∧ i ≤ b ∧ t ≤ 5 ∧ v7 = .int .i64 (i : Int) ∧ v8 = .int .i64 (t : Int) ∧ SA base wr g n c ys ∧ RP a b xs ys ∧ Srt ys a i ∧ Onl w wr g) (fun _ v _ => 5 - (intOf v).toNat)
 case atStart => exact ⟨a + 1, 0, xs, by omega, by omega, by omega, by go_num, rfl, H.out.gr gri, .refl, Srt.one (Nat.le_refl _), Onl.of_gr gri g⟩
 case round =>
  obtain ⟨i0, t, ys, hi1, hi2, ht, rfl, rfl, hsa, hrp, hs, ho⟩ := hrel
  have HSA := Lib.hid hsa
  have HRP := Lib.hid hrp
  have HS := Lib.hid hs
  have HO := Lib.hid ho
  have hyl := hsa.len
  haveI : Old g wr := ⟨hsa.lt⟩
  clear hsa hrp hs ho
  by_cases ht5 : t < 5
  ·have et : (t : Int) < 5 := by omega
   obtain ⟨wo, rfl⟩ : ∃ wo : World, wo = wr := ⟨_, rfl⟩
   go_upto_block 2 with fail
   go_cut [7] from 13 to 132 (fun v7 wx => ∃ i : Nat, i0 ≤ i ∧ i ≤ b ∧ v7 = .int .i64 (i : Int) ∧ Srt ys a i ∧ Gr wo wx)
   case first =>
    go_wp2_with fail
    go_loopw [7] (fun v7 wr => ∃ i : Nat, i0 ≤ i ∧ i ≤ b ∧ v7 = .int .i64 (i : Int) ∧ Srt ys a i ∧ Gr wo wr) (fun v _ => b - (intOf v).toNat)
    case atStart => exact ⟨i0, Nat.le_refl _, hi2, rfl, HS.out, gri⟩
    case round =>
     obtain ⟨i, q1, q2, rfl, hs, hg⟩ := hrel
     have HS2 := Lib.hid hs
     have HG := Lib.hid hg
     have hsa := HSA.out.gr hg
     haveI := grc_of hg
     haveI : Old g wr := ⟨hsa.lt⟩
     obtain ⟨m, hmi⟩ : ∃ m, m + 1 = i := ⟨i - 1, by omega⟩
     have him : (i : Int) - 1 = (m : Int) := by omega
     have wm : IntKind.i64.wrap (m : Int) = (m : Int) := wrapS m (by omega)
     by_cases hib : i < b
     ·have e1 : (i : Int) < (b : Int) := by omega
      have c0 := hsa.cell i (by omega)
      have c1 := hsa.cell m (by omega)
      have b0 : (i : Int) < (n : Int) := by omega
      have b1 : (m : Int) < (n : Int) := by omega
      clear hs hg hsa
      by_cases hlt : at0 ys i < at0 ys m
      ·have HL := Lib.hid (fun W => less_yes hlt W)
       clear hlt
       go_wp2
       refine wp_region_grow (by kernel_rfl) (by kernel_rfl) ?_
       repeat (go_big_quiet_step ((first | (go_at_call 141; exact grow_call (HL.out _)))))
       refine wpQuiet_nil ?_
       intro g1
       go_wp2
       go_meet
       case rel => exact ⟨i, q1, q2, rfl, HS2.out, HG.out.trans gri⟩
      ·have HL := Lib.hid (fun W => less_no hlt W)
       have HS3 := Lib.hid (HS2.out.more hmi (by omega) hlt)
       clear hlt
       go_wp2
       refine wp_region_grow (by kernel_rfl) (by kernel_rfl) ?_
       repeat (go_big_quiet_step ((first | (go_at_call 141; exact grow_call (HL.out _)))))
       refine wpQuiet_nil ?_
       intro g1
       go_wp2
       go_roundw
       case rel => exact ⟨i + 1, by omega, by omega, by go_num, HS3.out, HG.out.trans gri⟩
       case measure => simp [intOf] <;> omega
     ·have e1 : ¬ (i : Int) < (b : Int) := by omega
      clear hs hg hsa
      go_wp2
      refine wp_region_grow (by kernel_rfl) (by kernel_rfl) ?_
      repeat (go_big_quiet_step (fail))
      refine wpQuiet_nil ?_
      intro g1
      go_wp2
      go_meet
      case rel => exact ⟨i, q1, q2, rfl, HS2.out, HG.out.trans gri⟩
   case rest =>
    obtain ⟨i, q1, q2, rfl, hs, hg⟩ := hcut
    have HS2 := Lib.hid hs
    have HG := Lib.hid hg
    haveI := grc_of hg
    by_cases hib : i = b
    ·have e1 : ((i : Int) == (b : Int)) = true := by simp [hib]
     have HS3 := Lib.hid (show Srt ys a b from by rw [← hib]; exact HS2.out)
     clear hs hg
     go_wp2
     go_ret
     exact ⟨true, ys, rfl, (HSA.out.gr HG.out).gr gri, HRP.out, fun _ => HS3.out, HO.out.trans ((Onl.of_gr HG.out g).trans (Onl.of_gr gri g))⟩
    ·have e1 : ((i : Int) == (b : Int)) = false := by simp; omega
     by_cases h50 : l < 50
     ·have e50 : (l : Int) < 50 := by omega
      clear hs hg
      go_wp2
      go_ret
      exact ⟨false, ys, rfl, (HSA.out.gr HG.out).gr gri, HRP.out, fun h => (by cases h), HO.out.trans ((Onl.of_gr HG.out g).trans (Onl.of_gr gri g))⟩
     ·have e50 : ¬ (l : Int) < 50 := by omega
      have HSA3 := HSA.out.gr hg
      haveI : Old g wc := ⟨HSA3.lt⟩
      obtain ⟨m, hmi⟩ : ∃ m, m + 1 = i := ⟨i - 1, by omega⟩
      have him : (i : Int) - 1 = (m : Int) := by omega
      have wm : IntKind.i64.wrap (m : Int) = (m : Int) := wrapS m (by omega)
      have c0 := HSA3.cell i (by omega)
      have c1 := HSA3.cell m (by omega)
      have b0 : (i : Int) < (n : Int) := by omega
      have b1 : (m : Int) < (n : Int) := by omega
      clear hs hg
      go_wp2
      refine wp_region_treeJ ⟨fun w' => Gr wc w', true, fun _ _ h => h, fun _ _ _ h g => h.trans g⟩ rfl (Gr.of ((Below.refl _ _).drew)) [2, 3, 4] [0, 1, 5, 6, 7, 8, 9, 10, 11, 12, 13] 4 15 (by kernel_rfl) (by kernel_rfl) ?_
      simp only [pick, List.drop, List.take, List.nil_append, List.cons_append]
      refine wpPure_step (.slice (some ⟨g, 0, none⟩) n c) rfl (fun w => by go_simp) ?_
      simp only [Act.put, List.setIfInBounds_toArray, List.set]
      refine wpPure_step (.int .i64 (i : Int)) rfl (fun w => by go_simp) ?_
      simp only [Act.put, List.setIfInBounds_toArray, List.set]
      refine wpPure_step (.int .i64 (m : Int)) rfl (fun w => by go_simp) ?_
      simp only [Act.put, List.setIfInBounds_toArray, List.set]
      show wpCalm _ _ _ _ _ _
      repeat (refine wpCalm_step (fun K hK => ?_); go_simp; first | (refine hK _ ?_; clear hK K) | (apply Exists.intro; refine ⟨fun _ => ?_, hK _ ?_⟩; (skip); clear hK K))
      refine wpCalm_nil ?_
      refine fg_one 14 (by kernel_rfl) ?_
      refine fg_pure (.pointer (some ⟨g, i, none⟩)) rfl rfl rfl (fun w => by go_simp) ?_
      simp only [Act.put, List.setIfInBounds_toArray, List.set]
      refine fg_one 15 (by kernel_rfl) ?_
      refine fg_effN rfl rfl rfl (fun w1 hw1 => ?_)
      have sa1 := SA.gr HSA3 hw1
      have t0 := sa1.cell i (by have := hyl; omega)
      have t1 := sa1.frozen i
      haveI oG : Old g w1 := ⟨sa1.lt⟩
      have hrun : (storeVar 28 ⟨g, i, none⟩ (.int .u64 (at0 ys m))).run Tryz.prog w1 = .ok () (w1.setCell ⟨g, i, none⟩ (.int .u64 (at0 ys m))) := by go_simp
      refine effAt_stS rfl rfl rfl hrun ⟨⟨fun w2 => SA base w2 g n c (ys.set i (at0 ys m)) ∧ Onl wc w2 g, false, fun e => Bool.noConfusion e, fun e => Bool.noConfusion e⟩, ⟨sa1.put i _ (by have := hyl; omega), (Onl.of_gr hw1 g).trans (Onl.set _ g i _)⟩, fun e => absurd rfl e, ?_⟩
      clear oG sa1 t0 t1 hrun hw1 w1
      try simp only [Act.put, List.setIfInBounds_toArray, List.set]
      refine fg_one 16 (by kernel_rfl) ?_
      refine fg_pure (.pointer (some ⟨g, m, none⟩)) rfl rfl rfl (fun w => by go_simp) ?_
      simp only [Act.put, List.setIfInBounds_toArray, List.set]
      refine fg_one 17 (by kernel_rfl) ?_
      refine fg_effN rfl rfl rfl (fun w1 hw1 => ?_)
      have t0 := hw1.1.cell m (by rw [List.length_set]; have := hyl; omega)
      have t1 := hw1.1.frozen m
      haveI oG : Old g w1 := ⟨hw1.1.lt⟩
      have hrun : (storeVar 28 ⟨g, m, none⟩ (.int .u64 (at0 ys i))).run Tryz.prog w1 = .ok () (w1.setCell ⟨g, m, none⟩ (.int .u64 (at0 ys i))) := by go_simp
      refine effAt_stS rfl rfl rfl hrun ⟨⟨fun w2 => SA base w2 g n c (swp ys i m) ∧ Onl wc w2 g, false, fun e => Bool.noConfusion e, fun e => Bool.noConfusion e⟩, ⟨hw1.1.put m _ (by rw [List.length_set]; have := hyl; omega), hw1.2.trans (Onl.set _ g m _)⟩, fun _ e => Bool.noConfusion e, ?_⟩
      clear oG t0 t1 hrun hw1 w1
      refine fg_end (by kernel_rfl) (fun w5 hw5 => ?_)
      try simp only [Act.put]
      obtain ⟨Z, hZ⟩ : ∃ Z, Z = swp ys i m := ⟨_, rfl⟩
      rw [← hZ] at hw5
      have hzl : Z.length = n := by rw [hZ, swp_len, hyl]
      have HRZ := Lib.hid (show RP a b xs Z from by rw [hZ]; exact .swap HRP.out i m (by omega) (by omega) (by omega) (by omega) (by omega))
      have HIZ := Lib.hid (show Ins Z a m m from fun p q h1 h2 h3 h4 => by
       rw [hZ, at0_swp (by omega) (by omega), at0_swp (by omega) (by omega), if_neg (by omega), if_neg (by omega), if_neg (by omega), if_neg (by omega)]
       exact HS2.out p q h1 h2 (by omega))
      have HSZ := Lib.hid hw5.1
      have HOZ := Lib.hid (HO.out.trans ((Onl.of_gr HG.out g).trans hw5.2))
      haveI : Old g w5 := ⟨hw5.1.lt⟩
      clear hw5 hZ c0 c1 HSA3
      obtain ⟨wz, rfl⟩ : ∃ wz : World, wz = w5 := ⟨_, rfl⟩
      obtain ⟨d, hd⟩ : ∃ d, i - a = d := ⟨_, rfl⟩
      have rd : (i : Int) - (a : Int) = (d : Int) := by omega
      have wd : IntKind.i64.wrap (d : Int) = (d : Int) := wrapS d (by omega)
      go_upto_if 61 with fail
      go_cut [9] from 13 to 132 (fun v9 wx => ∃ zs : List Int, SA base wx g n c zs ∧ RP a b xs zs ∧ Srt zs a i ∧ Onl w wx g)
      case first =>
       by_cases hd2 : 2 ≤ d
       ·have ed : (2 : Int) ≤ (d : Int) := by omega
        go_wp2_with fail
        go_loopw [9] (fun v9 wr => ∃ (j : Nat) (zs : List Int), a ≤ j ∧ j ≤ m ∧ v9 = .int .i64 (j : Int) ∧ SA base wr g n c zs ∧ RP a b xs zs ∧ Ins zs a m j ∧ Onl w wr g) (fun v _ => (intOf v).toNat)
        case atStart => exact ⟨m, Z, by omega, Nat.le_refl _, rfl, HSZ.out.gr gri, HRZ.out, HIZ.out, HOZ.out.trans (Onl.of_gr gri g)⟩
        case round =>
         clear HSZ HRZ HIZ HOZ
         obtain ⟨j, zs, hj1, hj2, rfl, hsa, hrp, hin, ho⟩ := hrel
         have HSA2 := Lib.hid hsa
         have HRP2 := Lib.hid hrp
         have HIN := Lib.hid hin
         have HO2 := Lib.hid ho
         have hzl := hsa.len
         haveI : Old g wr := ⟨hsa.lt⟩
         by_cases hj0 : 1 ≤ j
         ·have ej : (1 : Int) ≤ (j : Int) := by omega
          obtain ⟨m9, hmj⟩ : ∃ m9, m9 + 1 = j := ⟨j - 1, by omega⟩
          have c0 := hsa.cell j (by omega)
          have c1 := hsa.cell m9 (by omega)
          have hjm : (j : Int) - 1 = (m9 : Int) := by omega
          have hw1 : IntKind.i64.wrap (m9 : Int) = (m9 : Int) := wrapS m9 (by omega)
          have hm1 : (m9 : Int) < (n : Int) := by omega
          have hm2 : (j : Int) < (n : Int) := by omega
          clear hsa hrp hin ho
          by_cases hlt : at0 zs j < at0 zs m9
          ·have hja : a < j := by
            rcases Nat.lt_or_ge a j with h | h
            ·exact h
            ·have h9 := HAB.out.rp HRP2.out j m9 (by omega) hj1 (by omega)
             omega
           have HL := Lib.hid (fun W => less_yes hlt W)
           have HLT := Lib.hid hlt
           clear hlt
           go_wp2
           refine wp_region_grow (by kernel_rfl) (by kernel_rfl) ?_
           repeat (go_big_quiet_step ((first | (go_at_call 141; exact grow_call (HL.out _)))))
           refine wpQuiet_nil ?_
           intro g1
           go_wp2
           have HSA3 := HSA2.out.gr (gri : Gr wr (grown wr g1))
           refine wp_region_treeJ ⟨fun w' => Gr (grown wr g1) w', true, fun _ _ h => h, fun _ _ _ h g => h.trans g⟩ rfl (Gr.of ((Below.refl _ _).drew)) [2, 3, 4] [0, 1, 5, 6, 7, 8, 9, 10, 11, 12, 13] 4 15 (by kernel_rfl) (by kernel_rfl) ?_
           simp only [pick, List.drop, List.take, List.nil_append, List.cons_append]
           refine wpPure_step (.slice (some ⟨g, 0, none⟩) n c) rfl (fun w => by go_simp) ?_
           simp only [Act.put, List.setIfInBounds_toArray, List.set]
           refine wpPure_step (.int .i64 (j : Int)) rfl (fun w => by go_simp) ?_
           simp only [Act.put, List.setIfInBounds_toArray, List.set]
           refine wpPure_step (.int .i64 (m9 : Int)) rfl (fun w => by go_simp) ?_
           simp only [Act.put, List.setIfInBounds_toArray, List.set]
           show wpCalm _ _ _ _ _ _
           repeat (refine wpCalm_step (fun K hK => ?_); go_simp; first | (refine hK _ ?_; clear hK K) | (apply Exists.intro; refine ⟨fun _ => ?_, hK _ ?_⟩; (skip); clear hK K))
           refine wpCalm_nil ?_
           refine fg_one 14 (by kernel_rfl) ?_
           refine fg_pure (.pointer (some ⟨g, j, none⟩)) rfl rfl rfl (fun w => by go_simp) ?_
           simp only [Act.put, List.setIfInBounds_toArray, List.set]
           refine fg_one 15 (by kernel_rfl) ?_
           refine fg_effN rfl rfl rfl (fun w1 hw1 => ?_)
           have sa1 := SA.gr HSA3 hw1
           have t0 := sa1.cell j (by have := hzl; omega)
           have t1 := sa1.frozen j
           haveI oG : Old g w1 := ⟨sa1.lt⟩
           have hrun : (storeVar 28 ⟨g, j, none⟩ (.int .u64 (at0 zs m9))).run Tryz.prog w1 = .ok () (w1.setCell ⟨g, j, none⟩ (.int .u64 (at0 zs m9))) := by go_simp
           refine effAt_stS rfl rfl rfl hrun ⟨⟨fun w2 => SA base w2 g n c (zs.set j (at0 zs m9)) ∧ Onl (grown wr g1) w2 g, false, fun e => Bool.noConfusion e, fun e => Bool.noConfusion e⟩, ⟨sa1.put j _ (by have := hzl; omega), (Onl.of_gr hw1 g).trans (Onl.set _ g j _)⟩, fun e => absurd rfl e, ?_⟩
           clear oG sa1 t0 t1 hrun hw1 w1
           try simp only [Act.put, List.setIfInBounds_toArray, List.set]
           refine fg_one 16 (by kernel_rfl) ?_
           refine fg_pure (.pointer (some ⟨g, m9, none⟩)) rfl rfl rfl (fun w => by go_simp) ?_
           simp only [Act.put, List.setIfInBounds_toArray, List.set]
           refine fg_one 17 (by kernel_rfl) ?_
           refine fg_effN rfl rfl rfl (fun w1 hw1 => ?_)
           have t0 := hw1.1.cell m9 (by rw [List.length_set]; have := hzl; omega)
           have t1 := hw1.1.frozen m9
           haveI oG : Old g w1 := ⟨hw1.1.lt⟩
           have hrun : (storeVar 28 ⟨g, m9, none⟩ (.int .u64 (at0 zs j))).run Tryz.prog w1 = .ok () (w1.setCell ⟨g, m9, none⟩ (.int .u64 (at0 zs j))) := by go_simp
           refine effAt_stS rfl rfl rfl hrun ⟨⟨fun w2 => SA base w2 g n c (swp zs j m9) ∧ Onl (grown wr g1) w2 g, false, fun e => Bool.noConfusion e, fun e => Bool.noConfusion e⟩, ⟨hw1.1.put m9 _ (by rw [List.length_set]; have := hzl; omega), hw1.2.trans (Onl.set _ g m9 _)⟩, fun _ e => Bool.noConfusion e, ?_⟩
           clear oG t0 t1 hrun hw1 w1
           refine fg_end (by kernel_rfl) (fun w5 hw5 => ?_)
           try simp only [Act.put]
           have HF := Lib.hid hw5
           clear hw5
           go_wp2
           go_roundw
           case rel =>
            have e : m9 = j - 1 := by omega
            subst e
            exact ⟨j - 1, by omega, by omega, by first | rfl | omega, swp zs j (j - 1), HF.out.1.gr gri, .swap HRP2.out j (j - 1) (by omega) (by omega) (by omega) (by omega) (by omega), ins_step HIN.out hja hj2 (by omega) HLT.out, (HO2.out.trans (Onl.of_gr gri g)).trans (HF.out.2.trans (Onl.of_gr gri g))⟩
           case measure => simp [intOf] <;> omega
          ·have HL := Lib.hid (fun W => less_no hlt W)
           have HIE := Lib.hid (show Srt zs a i from by
            have := ins_end HIN.out hj2 (.inr (by rw [← hmj, Nat.add_sub_cancel, hmj]; exact hlt))
            rwa [hmi] at this)
           clear hlt
           go_wp2
           refine wp_region_grow (by kernel_rfl) (by kernel_rfl) ?_
           repeat (go_big_quiet_step ((first | (go_at_call 141; exact grow_call (HL.out _)))))
           refine wpQuiet_nil ?_
           intro g1
           go_wp2
           go_meet
           case rel => exact ⟨zs, HSA2.out.gr gri, HRP2.out, HIE.out, HO2.out.trans (Onl.of_gr gri g)⟩
         ·have ej : ¬ (1 : Int) ≤ (j : Int) := by omega
          have HIE := Lib.hid (show Srt zs a i from by
           have := ins_end HIN.out hj2 (.inl (by omega))
           rwa [hmi] at this)
          clear hsa hrp hin ho
          go_wp2
          go_meet
          case rel => exact ⟨zs, HSA2.out.gr gri, HRP2.out, HIE.out, HO2.out.trans (Onl.of_gr gri g)⟩
       ·have ed : ¬ (2 : Int) ≤ (d : Int) := by omega
        go_wp2_with fail
        go_meet
        case rel => exact ⟨Z, HSZ.out.gr gri, HRZ.out, Srt.one (by omega), HOZ.out.trans (Onl.of_gr gri g)⟩
      case rest =>
       obtain ⟨zs, hsa, hrp, hs, ho⟩ := hcut
       have HSA2 := Lib.hid hsa
       have HRP2 := Lib.hid hrp
       have HS5 := Lib.hid hs
       have HO2 := Lib.hid ho
       haveI : Old g wc := ⟨hsa.lt⟩
       clear hsa hrp hs ho HSZ HRZ HIZ HOZ
       obtain ⟨wy, rfl⟩ : ∃ wy : World, wy = wc := ⟨_, rfl⟩
       obtain ⟨f, hf⟩ : ∃ f, b - i = f := ⟨_, rfl⟩
       have rf : (b : Int) - (i : Int) = (f : Int) := by omega
       have wf : IntKind.i64.wrap (f : Int) = (f : Int) := wrapS f (by omega)
       by_cases hd2 : 2 ≤ f
       ·have ed : (2 : Int) ≤ (f : Int) := by omega
        go_wp2_with fail
        go_loopw [10] (fun v10 wr => ∃ (j : Nat) (zs : List Int), i < j ∧ j ≤ b ∧ v10 = .int .i64 (j : Int) ∧ SA base wr g n c zs ∧ RP a b xs zs ∧ Srt zs a i ∧ Onl w wr g) (fun v _ => b - (intOf v).toNat)
        case atStart => exact ⟨i + 1, zs, by omega, by omega, by go_num, HSA2.out.gr gri, HRP2.out, HS5.out, HO2.out.trans (Onl.of_gr gri g)⟩
        case round =>
         clear HSA2 HRP2 HS5 HO2 zs
         obtain ⟨j, zs, hj1, hj2, rfl, hsa, hrp, hin, ho⟩ := hrel
         have HSA2 := Lib.hid hsa
         have HRP2 := Lib.hid hrp
         have HIN := Lib.hid hin
         have HO2 := Lib.hid ho
         have hzl := hsa.len
         haveI : Old g wr := ⟨hsa.lt⟩
         by_cases hjb : j < b
         ·have ej : (j : Int) < (b : Int) := by omega
          obtain ⟨m9, hmj⟩ : ∃ m9, m9 + 1 = j := ⟨j - 1, by omega⟩
          have c0 := hsa.cell j (by omega)
          have c1 := hsa.cell m9 (by omega)
          have hjm : (j : Int) - 1 = (m9 : Int) := by omega
          have hw1 : IntKind.i64.wrap (m9 : Int) = (m9 : Int) := wrapS m9 (by omega)
          have hm1 : (m9 : Int) < (n : Int) := by omega
          have hm2 : (j : Int) < (n : Int) := by omega
          clear hsa hrp hin ho
          by_cases hlt : at0 zs j < at0 zs m9
          ·have HL := Lib.hid (fun W => less_yes hlt W)
           have HSF := Lib.hid (HIN.out.far (u := j) (v := m9) (by omega) (by omega) (by omega) (by omega))
           clear hlt
           go_wp2
           refine wp_region_grow (by kernel_rfl) (by kernel_rfl) ?_
           repeat (go_big_quiet_step ((first | (go_at_call 141; exact grow_call (HL.out _)))))
           refine wpQuiet_nil ?_
           intro g1
           go_wp2
           have HSA3 := HSA2.out.gr (gri : Gr wr (grown wr g1))
           refine wp_region_treeJ ⟨fun w' => Gr (grown wr g1) w', true, fun _ _ h => h, fun _ _ _ h g => h.trans g⟩ rfl (Gr.of ((Below.refl _ _).drew)) [2, 3, 4] [0, 1, 5, 6, 7, 8, 9, 10, 11, 12, 13] 4 15 (by kernel_rfl) (by kernel_rfl) ?_
           simp only [pick, List.drop, List.take, List.nil_append, List.cons_append]
           refine wpPure_step (.slice (some ⟨g, 0, none⟩) n c) rfl (fun w => by go_simp) ?_
           simp only [Act.put, List.setIfInBounds_toArray, List.set]
           refine wpPure_step (.int .i64 (j : Int)) rfl (fun w => by go_simp) ?_
           simp only [Act.put, List.setIfInBounds_toArray, List.set]
           refine wpPure_step (.int .i64 (m9 : Int)) rfl (fun w => by go_simp) ?_
           simp only [Act.put, List.setIfInBounds_toArray, List.set]
           show wpCalm _ _ _ _ _ _
           repeat (refine wpCalm_step (fun K hK => ?_); go_simp; first | (refine hK _ ?_; clear hK K) | (apply Exists.intro; refine ⟨fun _ => ?_, hK _ ?_⟩; (skip); clear hK K))
           refine wpCalm_nil ?_
           refine fg_one 14 (by kernel_rfl) ?_
           refine fg_pure (.pointer (some ⟨g, j, none⟩)) rfl rfl rfl (fun w => by go_simp) ?_
           simp only [Act.put, List.setIfInBounds_toArray, List.set]
           refine fg_one 15 (by kernel_rfl) ?_
           refine fg_effN rfl rfl rfl (fun w1 hw1 => ?_)
           have sa1 := SA.gr HSA3 hw1
           have t0 := sa1.cell j (by have := hzl; omega)
           have t1 := sa1.frozen j
           haveI oG : Old g w1 := ⟨sa1.lt⟩
           have hrun : (storeVar 28 ⟨g, j, none⟩ (.int .u64 (at0 zs m9))).run Tryz.prog w1 = .ok () (w1.setCell ⟨g, j, none⟩ (.int .u64 (at0 zs m9))) := by go_simp
           refine effAt_stS rfl rfl rfl hrun ⟨⟨fun w2 => SA base w2 g n c (zs.set j (at0 zs m9)) ∧ Onl (grown wr g1) w2 g, false, fun e => Bool.noConfusion e, fun e => Bool.noConfusion e⟩, ⟨sa1.put j _ (by have := hzl; omega), (Onl.of_gr hw1 g).trans (Onl.set _ g j _)⟩, fun e => absurd rfl e, ?_⟩
           clear oG sa1 t0 t1 hrun hw1 w1
           try simp only [Act.put, List.setIfInBounds_toArray, List.set]
           refine fg_one 16 (by kernel_rfl) ?_
           refine fg_pure (.pointer (some ⟨g, m9, none⟩)) rfl rfl rfl (fun w => by go_simp) ?_
           simp only [Act.put, List.setIfInBounds_toArray, List.set]
           refine fg_one 17 (by kernel_rfl) ?_
           refine fg_effN rfl rfl rfl (fun w1 hw1 => ?_)
           have t0 := hw1.1.cell m9 (by rw [List.length_set]; have := hzl; omega)
           have t1 := hw1.1.frozen m9
           haveI oG : Old g w1 := ⟨hw1.1.lt⟩
           have hrun : (storeVar 28 ⟨g, m9, none⟩ (.int .u64 (at0 zs j))).run Tryz.prog w1 = .ok () (w1.setCell ⟨g, m9, none⟩ (.int .u64 (at0 zs j))) := by go_simp
           refine effAt_stS rfl rfl rfl hrun ⟨⟨fun w2 => SA base w2 g n c (swp zs j m9) ∧ Onl (grown wr g1) w2 g, false, fun e => Bool.noConfusion e, fun e => Bool.noConfusion e⟩, ⟨hw1.1.put m9 _ (by rw [List.length_set]; have := hzl; omega), hw1.2.trans (Onl.set _ g m9 _)⟩, fun _ e => Bool.noConfusion e, ?_⟩
           clear oG t0 t1 hrun hw1 w1
           refine fg_end (by kernel_rfl) (fun w5 hw5 => ?_)
           try simp only [Act.put]
           have HF := Lib.hid hw5
           clear hw5
           go_wp2
           go_roundw
           case rel => exact ⟨j + 1, swp zs j m9, by omega, by omega, by go_num, HF.out.1.gr gri, .swap HRP2.out j m9 (by omega) (by omega) (by omega) (by omega) (by omega), HSF.out, (HO2.out.trans (Onl.of_gr gri g)).trans (HF.out.2.trans (Onl.of_gr gri g))⟩
           case measure => simp [intOf] <;> omega
          ·have HL := Lib.hid (fun W => less_no hlt W)
           clear hlt
           go_wp2
           refine wp_region_grow (by kernel_rfl) (by kernel_rfl) ?_
           repeat (go_big_quiet_step ((first | (go_at_call 141; exact grow_call (HL.out _)))))
           refine wpQuiet_nil ?_
           intro g1
           go_wp2
           go_roundw
           case rel => exact ⟨i, t + 1, zs, by omega, by omega, by omega, rfl, by go_num, HSA2.out.gr gri, HRP2.out, HIN.out, HO2.out.trans (Onl.of_gr gri g)⟩
           case measure => simp [intOf] <;> omega
         ·have ej : ¬ (j : Int) < (b : Int) := by omega
          clear hsa hrp hin ho
          go_wp2
          go_roundw
          case rel => exact ⟨i, t + 1, zs, by omega, by omega, by omega, rfl, by go_num, HSA2.out.gr gri, HRP2.out, HIN.out, HO2.out.trans (Onl.of_gr gri g)⟩
          case measure => simp [intOf] <;> omega
       ·have ed : ¬ (2 : Int) ≤ (f : Int) := by omega
        go_wp2_with fail
        go_roundw
        case rel => exact ⟨i, t + 1, zs, by omega, by omega, by omega, rfl, by go_num, HSA2.out.gr gri, HRP2.out, HS5.out, HO2.out.trans (Onl.of_gr gri g)⟩
        case measure => simp [intOf] <;> omega
  ·have et : ¬ (t : Int) < 5 := by omega
   go_wp2
   go_ret
   exact ⟨false, ys, rfl, HSA.out.gr gri, HRP.out, fun h => (by cases h), HO.out.trans (Onl.of_gr gri g)⟩
set_option maxRecDepth 100000
set_option maxHeartbeats 4000000

theorem Abv.less {xs : List Int} {a b b2 : Nat} (h : Abv xs a b) (hb : b2 ≤ b) : Abv xs a b2 := fun k m h1 h2 h3 => h k m h1 h2 (by omega)
theorem abv_of {xs ys : List Int} {a b c d : Nat} (h : Abv xs a b) (r : RP a b xs ys) (hl : Lft ys a b c d) (hc : a ≤ c) (hd : d ≤ b) : Abv ys c d := fun k m h1 h2 h3 => by
 by_cases e : c = a
 ·subst e
  exact h.rp r k m h1 h2 (by omega)
 ·exact hl m k (by omega) (by omega) (by omega) (by omega)
theorem parted_left {zs ws vs : List Int} {a b c d m : Nat} (hp : Parted zs ws c d m) (hl : Lft ws a b c d) (hr : RP c m ws vs) (hs : Srt vs c m) (ha : a ≤ c) (hb : d ≤ b) (hlen : d ≤ ws.length) : Lft vs a b (m + 1) d := by
 obtain ⟨h1, h2, _, h3, h4⟩ := hp
 refine lft_left (hl.rp (hr.mono (Nat.le_refl _) (by omega) hlen) ha hb) h1 h2 hs (fun k q1 q2 => ?_) (fun k q1 q2 => ?_)
 ·obtain ⟨q, p1, p2, e⟩ := hr.from_ k q1 q2
  rw [e, hr.out m (.inr (Nat.le_refl _))]
  exact h3 q p1 p2
 ·rw [hr.out m (.inr (Nat.le_refl _)), hr.out k (.inr (by omega))]
  exact h4 k q1 q2
theorem parted_right {zs ws vs : List Int} {a b c d m : Nat} (hp : Parted zs ws c d m) (hl : Lft ws a b c d) (hr : RP (m + 1) d ws vs) (hs : Srt vs (m + 1) d) (ha : a ≤ c) (hb : d ≤ b) (hlen : d ≤ ws.length) : Lft vs a b c m := by
 obtain ⟨h1, h2, _, h3, h4⟩ := hp
 refine lft_right (hl.rp (hr.mono (by omega) (Nat.le_refl _) hlen) ha hb) h1 h2 hs (fun k q1 q2 => ?_) (fun k q1 q2 => ?_)
 ·rw [hr.out m (.inl (by omega)), hr.out k (.inl (by omega))]
  exact h3 k q1 q2
 ·obtain ⟨q, p1, p2, e⟩ := hr.from_ k (by omega) q2
  rw [e, hr.out m (.inl (by omega))]
  exact h4 q (by omega) p2
theorem pdq_any (base g n c : Nat) (hn : n ≤ 256) : ∀ (N a b lim : Nat) (xs : List Int) (w : World), SA base w g n c xs → a ≤ b → b ≤ n → lim ≤ 1000 → Abv xs a b → b - a = N →
  Calls Tryz.prog 132 #[.slice (some ⟨g, 0, none⟩) n c, .int .i64 (a : Int), .int .i64 (b : Int), .int .i64 (lim : Int)] w fun e w' => e = .returned (.tuple #[]) ∧ ∃ ys, SA base w' g n c ys ∧ RP a b xs ys ∧ Srt ys a b ∧ Onl w w' g := by
 intro N
 induction N using Nat.strongRecOn with
 | _ N ih =>
 intro a b lim0 xs w h hab hb hlim hA hN
 have H := Lib.hid h
 have HA := Lib.hid hA
 clear h hA
 go_enter Tryz.func132, Tryz.ntmps132
 go_wp2
 go_loopw [1, 2, 3, 8, 9] (fun v1 v2 v3 v8 v9 wr => ∃ (a1 b1 lim : Nat) (p q : Bool) (ys : List Int), a ≤ a1 ∧ a1 ≤ b1 ∧ b1 ≤ b ∧ lim ≤ 1000 ∧ v1 = .int .i64 (a1 : Int) ∧ v2 = .int .i64 (b1 : Int) ∧ v3 = .int .i64 (lim : Int) ∧ v8 = .bool p ∧ v9 = .bool q ∧ SA base wr g n c ys ∧ RP a b xs ys ∧ Lft ys a b a1 b1 ∧ Onl w wr g) (fun v1 v2 _ _ _ _ => (intOf v2 - intOf v1).toNat)
 case atStart => exact ⟨a, b, lim0, true, true, xs, Nat.le_refl _, hab, Nat.le_refl _, hlim, rfl, rfl, rfl, rfl, rfl, H.out.gr gri, .refl, lft_start _ _ _, Onl.of_gr gri g⟩
 case round =>
  obtain ⟨a1, b1, lim, p, q, ys, ha1, hab1, hb1, hlm, rfl, rfl, rfl, rfl, rfl, hsa, hrp, hlf, ho⟩ := hrel
  have HSY := Lib.hid hsa
  have HRY := Lib.hid hrp
  have HLY := Lib.hid hlf
  have HOY := Lib.hid ho
  have HAY := Lib.hid (abv_of HA.out hrp hlf ha1 hb1)
  have hyl := hsa.len
  clear hsa hrp hlf ho
  obtain ⟨l, hl⟩ : ∃ l, b1 - a1 = l := ⟨_, rfl⟩
  have rl : (b1 : Int) - (a1 : Int) = (l : Int) := by omega
  have wl : IntKind.i64.wrap (l : Int) = (l : Int) := wrapS l (by omega)
  by_cases h12 : l ≤ 12
  ·have e12 : (l : Int) ≤ 12 := by omega
   go_wp2_with (first | (go_at_call 147; ((with_reducible refine (insertion_any base g n c ys a1 b1 _ (HSY.out.gr gri) (by omega) hab1 (by omega)).mono ?_); rintro _ W2 ⟨rfl, vs, hsv, hrv, hssv, hov⟩)))
   refine bodyPost_ret (v := .tuple #[]) (by simp [results, go_sem]) rfl ⟨rfl, vs, hsv.gr gri, HRY.out.trans (hrv.mono ha1 hb1 (by have := HRY.out.len; omega)), lft_end (HLY.out.rp hrv ha1 hb1) hssv, (HOY.out.trans (Onl.of_gr gri g)).trans (hov.trans (Onl.of_gr gri g))⟩
  ·have e12 : ¬ (l : Int) ≤ 12 := by omega
   by_cases hl0 : lim = 0
   ·have e0 : ((lim : Int) == 0) = true := by simp [hl0]
    go_wp2_with (first | (go_at_call 148; ((with_reducible refine (heap_any base g n c ys a1 b1 _ (HSY.out.gr gri) (by omega) (by omega) (by omega)).mono ?_); rintro _ W2 ⟨rfl, vs, hsv, hrv, hssv, hov⟩)))
    refine bodyPost_ret (v := .tuple #[]) (by simp [results, go_sem]) rfl ⟨rfl, vs, hsv.gr gri, HRY.out.trans (hrv.mono ha1 hb1 (by have := HRY.out.len; omega)), lft_end (HLY.out.rp hrv ha1 hb1) hssv, (HOY.out.trans (Onl.of_gr gri g)).trans (hov.trans (Onl.of_gr gri g))⟩
   ·have e0 : ((lim : Int) == 0) = false := by simp [hl0]
    go_upto_if 35 with fail
    go_cut [3] from 19 to 133 (fun v3 wx => ∃ (lim2 : Nat) (zs : List Int), lim2 ≤ 1000 ∧ v3 = .int .i64 (lim2 : Int) ∧ SA base wx g n c zs ∧ RP a1 b1 ys zs ∧ Onl w wx g)
    case first =>
     cases p
     ·obtain ⟨lm, hlm1⟩ : ∃ lm, lm + 1 = lim := ⟨lim - 1, by omega⟩
      have rlm : (lim : Int) - 1 = (lm : Int) := by omega
      have wlm : IntKind.i64.wrap (lm : Int) = (lm : Int) := wrapS lm (by omega)
      go_wp2_with (first | (go_at_call 149; ((with_reducible refine (break_any base g n c ys a1 b1 _ (HSY.out.gr gri) hn (by omega) (by omega)).mono ?_); rintro _ W2 ⟨rfl, vs, hsv, hrv, hov⟩)))
      go_meet
      case rel => exact ⟨lm, vs, by omega, rfl, hsv.gr gri, hrv, (HOY.out.trans (Onl.of_gr gri g)).trans (hov.trans (Onl.of_gr gri g))⟩
     ·go_wp2
      go_meet
      case rel => exact ⟨lim, ys, hlm, rfl, HSY.out.gr gri, .refl, HOY.out.trans (Onl.of_gr gri g)⟩
    case rest =>
     clear e0 hl0 hlm
     obtain ⟨lim, zs, hlm, rfl, hsz, hrz, hoz⟩ := hcut
     have HSZ := Lib.hid hsz
     have HRZ := Lib.hid hrz
     have HOZ := Lib.hid hoz
     clear hsz hrz hoz
     go_wp2_with (first | (go_at_call 150; ((with_reducible refine (choose_any base g n c zs a1 b1 _ (HSZ.out.gr gri) (by omega) (by omega) (by omega)).mono ?_))))
     rintro _ _ ⟨p9, t, rfl, hp1, hp2, ht, ⟨g2, rfl⟩⟩
     go_upto_if 50 with fail
     go_cut [11, 12] from 19 to 133 (fun v11 v12 wx => ∃ (pv : Nat) (hint : Int) (us : List Int), a1 ≤ pv ∧ pv < b1 ∧ v11 = .int .i64 (pv : Int) ∧ v12 = .int .i64 hint ∧ SA base wx g n c us ∧ RP a1 b1 zs us ∧ Onl w wx g)
     case first =>
      rcases ht with rfl | rfl | rfl
      ·go_wp2
       go_meet
       case rel => exact ⟨p9, 0, zs, hp1, hp2, rfl, rfl, HSZ.out.gr gri, .refl, HOZ.out.trans (Onl.of_gr gri g)⟩
      ·go_wp2
       go_meet
       case rel => exact ⟨p9, 1, zs, hp1, hp2, rfl, rfl, HSZ.out.gr gri, .refl, HOZ.out.trans (Onl.of_gr gri g)⟩
      ·have hp3 : p9 - a1 < b1 := by omega
       obtain ⟨t1, ht1⟩ : ∃ t1, b1 - 1 = t1 := ⟨_, rfl⟩
       have rt1 : (b1 : Int) - 1 = (t1 : Int) := by omega
       have wt1 : IntKind.i64.wrap (t1 : Int) = (t1 : Int) := wrapS t1 (by omega)
       obtain ⟨t2, ht2⟩ : ∃ t2, p9 - a1 = t2 := ⟨_, rfl⟩
       have rt2 : (p9 : Int) - (a1 : Int) = (t2 : Int) := by omega
       have wt2 : IntKind.i64.wrap (t2 : Int) = (t2 : Int) := wrapS t2 (by omega)
       obtain ⟨t3, ht3⟩ : ∃ t3, t1 - t2 = t3 := ⟨_, rfl⟩
       have rt3 : (t1 : Int) - (t2 : Int) = (t3 : Int) := by omega
       have wt3 : IntKind.i64.wrap (t3 : Int) = (t3 : Int) := wrapS t3 (by omega)
       go_wp2_with (first | (go_at_call 151; ((with_reducible refine (reverse_any base g n c zs a1 b1 _ (HSZ.out.gr gri) (by omega) (by omega) (by omega)).mono ?_); rintro _ W2 ⟨rfl, us, hsu, hru, hou⟩)))
       go_meet
       case rel => exact ⟨t3, 1, us, by omega, by omega, rfl, rfl, hsu.gr gri, hru, (HOZ.out.trans (Onl.of_gr gri g)).trans (hou.trans (Onl.of_gr gri g))⟩
     case rest =>
      clear hp1 hp2 ht
      obtain ⟨pv, hint, us, hpv1, hpv2, rfl, rfl, hsu, hru, hou⟩ := hcut
      have HSU := Lib.hid hsu
      have HRU := Lib.hid (HRZ.out.trans hru)
      have HOU := Lib.hid hou
      clear hsu hru hou HSZ HRZ HOZ
      obtain ⟨wu, rfl⟩ : ∃ wu : World, wu = wc := ⟨_, rfl⟩
      go_upto_region 15 with fail
      go_cut [68] from 19 to 133 (fun v68 wx => ∃ r : Bool, v68 = .bool r ∧ Gr wu wx)
      case first =>
       by_cases hh : hint = 1
       ·have eh : (hint == 1) = true := by simp [hh]
        cases p <;> cases q
        all_goals
         go_wp2
         go_meet
         case rel => exact ⟨_, rfl, gri⟩
       ·have eh : (hint == 1) = false := by simp [hh]
        cases p <;> cases q
        all_goals
         go_wp2
         go_meet
         case rel => exact ⟨_, rfl, gri⟩
      case rest =>
       obtain ⟨r, rfl, hgr⟩ := hcut
       have HSR := Lib.hid (HSU.out.gr hgr)
       have HOR := Lib.hid (HOU.out.trans (Onl.of_gr hgr g))
       clear hgr HSU HOU
       obtain ⟨wr9, rfl⟩ : ∃ wr9 : World, wr9 = wc := ⟨_, rfl⟩
       go_upto_if 68 with fail
       go_cut [13] from 19 to 133 (fun v13 wx => ∃ vs : List Int, SA base wx g n c vs ∧ RP a1 b1 ys vs ∧ Onl w wx g)
       case first =>
        cases r
        ·go_wp2
         go_meet
         case rel => exact ⟨us, HSR.out.gr gri, HRU.out, HOR.out.trans (Onl.of_gr gri g)⟩
        ·go_wp2_with (first | (go_at_call 152; ((with_reducible refine (partins_any base g n c us a1 b1 _ (HSR.out.gr gri) (by omega) (by omega) (by omega) (HAY.out.rp HRU.out)).mono ?_))))
         rintro _ W2 ⟨r2, vs, rfl, hsv, hrv, hss, hov⟩
         have HSV := Lib.hid hsv
         have HRV := Lib.hid hrv
         have HSS := Lib.hid hss
         have HOV := Lib.hid ((HOR.out.trans (Onl.of_gr (gri : Gr wr9 _) g)).trans hov)
         clear hsv hrv hss hov
         cases r2
         ·go_wp2
          go_meet
          case rel => exact ⟨vs, HSV.out.gr gri, HRU.out.trans HRV.out, HOV.out.trans (Onl.of_gr gri g)⟩
         ·go_wp2
          refine bodyPost_ret (v := .tuple #[]) (by simp [results, go_sem]) rfl ⟨rfl, vs, HSV.out.gr gri, HRY.out.trans ((HRU.out.trans HRV.out).mono ha1 hb1 (by have := HRY.out.len; omega)), lft_end (HLY.out.rp (HRU.out.trans HRV.out) ha1 hb1) (HSS.out (by trivial)), HOV.out.trans (Onl.of_gr gri g)⟩
       case rest =>
        obtain ⟨vs, hsv, hrv, hov⟩ := hcut
        have HSA := Lib.hid hsv
        have HRP := Lib.hid (HRY.out.trans (hrv.mono ha1 hb1 (by have := HRY.out.len; omega)))
        have HLF := Lib.hid (HLY.out.rp hrv ha1 hb1)
        have HAB := Lib.hid (HAY.out.rp hrv)
        have HO := Lib.hid hov
        have hvl := hsv.len
        haveI : Old g wc := ⟨hsv.lt⟩
        clear HSR HOR HRU HRY HLY HOY HSY HAY hrv hov
        by_cases ha0 : 0 < a1
        ·have ea0 : (0 : Int) < (a1 : Int) := by omega
         obtain ⟨m0, hm0⟩ : ∃ m0, a1 - 1 = m0 := ⟨_, rfl⟩
         have rm0 : (a1 : Int) - 1 = (m0 : Int) := by omega
         have wm0 : IntKind.i64.wrap (m0 : Int) = (m0 : Int) := wrapS m0 (by omega)
         have bm0 : (m0 : Int) < (n : Int) := by omega
         have c0 := hsv.cell m0 (by omega)
         have c1 := hsv.cell pv (by omega)
         have b1i : (pv : Int) < (n : Int) := by omega
         clear hsv
         by_cases hlt : at0 vs m0 < at0 vs pv
         ·have HL := Lib.hid (fun W => less_yes hlt W)
          clear hlt
          go_wp2
          refine wp_region_grow (by kernel_rfl) (by kernel_rfl) ?_
          repeat (go_big_quiet_step ((first | (go_at_call 141; exact grow_call (HL.out _)))))
          refine wpQuiet_nil ?_
          intro g5
          go_wp2_with (first | (go_at_call 154; ((with_reducible refine (partition_any base g n c vs a1 b1 pv _ (HSA.out.gr gri) (by omega) (by omega) (by omega) hpv1 hpv2).mono ?_))))
          rintro _ W2 ⟨mid, done, ws, rfl, hsw, hpt, how⟩
          have hwl := hsw.len
          have HSW := Lib.hid hsw
          have HPT := Lib.hid hpt
          have HOW := Lib.hid ((HO.out.trans (Onl.of_gr (gri : Gr wc _) g)).trans how)
          have hm1 := hpt.1
          have hm2 := hpt.2.1
          have HRW := Lib.hid (HRP.out.trans (hpt.2.2.1.mono ha1 hb1 (by have := HRP.out.len; omega)))
          have HLW := Lib.hid (HLF.out.rp hpt.2.2.1 ha1 hb1)
          have HAW := Lib.hid (HAB.out.rp hpt.2.2.1)
          clear hsw hpt how
          obtain ⟨ll, hll⟩ : ∃ ll, mid - a1 = ll := ⟨_, rfl⟩
          have rll : (mid : Int) - (a1 : Int) = (ll : Int) := by omega
          have wll : IntKind.i64.wrap (ll : Int) = (ll : Int) := wrapS ll (by omega)
          obtain ⟨rl, hrl⟩ : ∃ rl, b1 - mid = rl := ⟨_, rfl⟩
          have rrl : (b1 : Int) - (mid : Int) = (rl : Int) := by omega
          have wrl : IntKind.i64.wrap (rl : Int) = (rl : Int) := wrapS rl (by omega)
          obtain ⟨mq, hmq⟩ : ∃ mq, mid + 1 = mq := ⟨_, rfl⟩
          have rmq : (mid : Int) + 1 = (mq : Int) := by omega
          have wmq : IntKind.i64.wrap (mq : Int) = (mq : Int) := wrapS mq (by omega)
          obtain ⟨bt, hbt⟩ : ∃ bt, l / 8 = bt := ⟨_, rfl⟩
          have rbt : (l : Int) / 8 = (bt : Int) := by omega
          have wbt : IntKind.i64.wrap (bt : Int) = (bt : Int) := wrapS bt (by omega)
          by_cases hlr : ll < rl
          ·have e5 : (ll : Int) < (rl : Int) := by omega
           have HC := Lib.hid (fun W (hW : Gr W2 W) => ih (mid - a1) (by omega) a1 mid lim ws W (HSW.out.gr hW) (by omega) (by omega) (by omega) (HAW.out.less (by omega)) rfl)
           go_wp2_with (first | (go_at_call 132; ((with_reducible refine (HC.out _ gri).mono ?_); rintro _ W3 ⟨rfl, vs, hsv, hrv, hssv, hov⟩)))
           go_roundw
           case rel => exact ⟨mid + 1, b1, lim, _, done, vs, by omega, by omega, hb1, by omega, by go_num, rfl, rfl, rfl, rfl, hsv.gr gri, HRW.out.trans (hrv.mono ha1 (by omega) (by have := HRW.out.len; omega)), parted_left HPT.out HLW.out hrv hssv ha1 hb1 (by have := HRW.out.len; omega), (HOW.out.trans (Onl.of_gr gri g)).trans (hov.trans (Onl.of_gr gri g))⟩
           case measure => simp [intOf] <;> omega
          ·have e5 : ¬ (ll : Int) < (rl : Int) := by omega
           have HAQ := Lib.hid (show Abv ws mq b1 from fun k m q1 q2 q3 => by
            have e9 : m = mid := by omega
            rw [e9]
            exact HPT.out.2.2.2.2 k (by omega) q3)
           have HC := Lib.hid (fun W (hW : Gr W2 W) => ih (b1 - mq) (by omega) mq b1 lim ws W (HSW.out.gr hW) (by omega) (by omega) (by omega) HAQ.out rfl)
           go_wp2_with (first | (go_at_call 132; ((with_reducible refine (HC.out _ gri).mono ?_); rintro _ W3 ⟨rfl, vs, hsv, hrv, hssv, hov⟩)))
           go_roundw
           case rel => exact ⟨a1, mid, lim, _, done, vs, ha1, by omega, by omega, by omega, rfl, rfl, rfl, rfl, rfl, hsv.gr gri, HRW.out.trans (hrv.mono (by omega) hb1 (by have := HRW.out.len; omega)), parted_right HPT.out HLW.out (by rw [show mid + 1 = mq by omega]; exact hrv) (by rw [show mid + 1 = mq by omega]; exact hssv) ha1 hb1 (by have := HRW.out.len; omega), (HOW.out.trans (Onl.of_gr gri g)).trans (hov.trans (Onl.of_gr gri g))⟩
           case measure => simp [intOf] <;> omega
         ·have HL := Lib.hid (fun W => less_no hlt W)
          have HNL := Lib.hid (Int.not_lt.1 hlt)
          clear hlt
          go_wp2
          refine wp_region_grow (by kernel_rfl) (by kernel_rfl) ?_
          repeat (go_big_quiet_step ((first | (go_at_call 141; exact grow_call (HL.out _)))))
          refine wpQuiet_nil ?_
          intro g5
          go_wp2_with (first | (go_at_call 153; ((with_reducible refine (partequal_any base g n c vs a1 b1 pv _ (HSA.out.gr gri) (by omega) (by omega) (by omega) hpv1 hpv2).mono ?_))))
          rintro _ W2 ⟨mid, ws, rfl, hm1, hm2, hsw, hrw, heq, hall, how⟩
          have HSW := Lib.hid hsw
          have HRW := Lib.hid (HRP.out.trans (hrw.mono ha1 hb1 (by have := HRP.out.len; omega)))
          have HLW := Lib.hid (show Lft ws a b mid b1 from lft_equal (HLF.out.rp hrw ha1 hb1) hm1 hm2 fun k q1 q2 u u1 u2 => by
           have e1 := hall k q1 q2
           obtain ⟨v, v1, v2, e2⟩ := hrw.from_ u u1 u2
           have e3 := HAB.out v m0 (by omega) v1 v2
           have e4 := HNL.out
           rw [e2]
           omega)
          have HOW := Lib.hid ((HO.out.trans (Onl.of_gr (gri : Gr wc _) g)).trans how)
          clear hsw hrw heq hall how
          go_wp2
          go_roundw
          case rel => exact ⟨mid, b1, lim, p, q, ws, by omega, hm2, hb1, hlm, rfl, rfl, rfl, rfl, rfl, HSW.out.gr gri, HRW.out, HLW.out, HOW.out.trans (Onl.of_gr gri g)⟩
          case measure => simp [intOf] <;> omega
        ·have ea0 : ¬ (0 : Int) < (a1 : Int) := by omega
         clear hsv
         go_wp2
         refine wp_region_grow (by kernel_rfl) (by kernel_rfl) ?_
         repeat (go_big_quiet_step (fail))
         refine wpQuiet_nil ?_
         intro g5
         go_wp2_with (first | (go_at_call 154; ((with_reducible refine (partition_any base g n c vs a1 b1 pv _ (HSA.out.gr gri) (by omega) (by omega) (by omega) hpv1 hpv2).mono ?_))))
         rintro _ W2 ⟨mid, done, ws, rfl, hsw, hpt, how⟩
         have hwl := hsw.len
         have HSW := Lib.hid hsw
         have HPT := Lib.hid hpt
         have HOW := Lib.hid ((HO.out.trans (Onl.of_gr (gri : Gr wc _) g)).trans how)
         have hm1 := hpt.1
         have hm2 := hpt.2.1
         have HRW := Lib.hid (HRP.out.trans (hpt.2.2.1.mono ha1 hb1 (by have := HRP.out.len; omega)))
         have HLW := Lib.hid (HLF.out.rp hpt.2.2.1 ha1 hb1)
         have HAW := Lib.hid (HAB.out.rp hpt.2.2.1)
         clear hsw hpt how
         obtain ⟨ll, hll⟩ : ∃ ll, mid - a1 = ll := ⟨_, rfl⟩
         have rll : (mid : Int) - (a1 : Int) = (ll : Int) := by omega
         have wll : IntKind.i64.wrap (ll : Int) = (ll : Int) := wrapS ll (by omega)
         obtain ⟨rl, hrl⟩ : ∃ rl, b1 - mid = rl := ⟨_, rfl⟩
         have rrl : (b1 : Int) - (mid : Int) = (rl : Int) := by omega
         have wrl : IntKind.i64.wrap (rl : Int) = (rl : Int) := wrapS rl (by omega)
         obtain ⟨mq, hmq⟩ : ∃ mq, mid + 1 = mq := ⟨_, rfl⟩
         have rmq : (mid : Int) + 1 = (mq : Int) := by omega
         have wmq : IntKind.i64.wrap (mq : Int) = (mq : Int) := wrapS mq (by omega)
         obtain ⟨bt, hbt⟩ : ∃ bt, l / 8 = bt := ⟨_, rfl⟩
         have rbt : (l : Int) / 8 = (bt : Int) := by omega
         have wbt : IntKind.i64.wrap (bt : Int) = (bt : Int) := wrapS bt (by omega)
         by_cases hlr : ll < rl
         ·have e5 : (ll : Int) < (rl : Int) := by omega
          have HC := Lib.hid (fun W (hW : Gr W2 W) => ih (mid - a1) (by omega) a1 mid lim ws W (HSW.out.gr hW) (by omega) (by omega) (by omega) (HAW.out.less (by omega)) rfl)
          go_wp2_with (first | (go_at_call 132; ((with_reducible refine (HC.out _ gri).mono ?_); rintro _ W3 ⟨rfl, vs, hsv, hrv, hssv, hov⟩)))
          go_roundw
          case rel => exact ⟨mid + 1, b1, lim, _, done, vs, by omega, by omega, hb1, by omega, by go_num, rfl, rfl, rfl, rfl, hsv.gr gri, HRW.out.trans (hrv.mono ha1 (by omega) (by have := HRW.out.len; omega)), parted_left HPT.out HLW.out hrv hssv ha1 hb1 (by have := HRW.out.len; omega), (HOW.out.trans (Onl.of_gr gri g)).trans (hov.trans (Onl.of_gr gri g))⟩
          case measure => simp [intOf] <;> omega
         ·have e5 : ¬ (ll : Int) < (rl : Int) := by omega
          have HAQ := Lib.hid (show Abv ws mq b1 from fun k m q1 q2 q3 => by
           have e9 : m = mid := by omega
           rw [e9]
           exact HPT.out.2.2.2.2 k (by omega) q3)
          have HC := Lib.hid (fun W (hW : Gr W2 W) => ih (b1 - mq) (by omega) mq b1 lim ws W (HSW.out.gr hW) (by omega) (by omega) (by omega) HAQ.out rfl)
          go_wp2_with (first | (go_at_call 132; ((with_reducible refine (HC.out _ gri).mono ?_); rintro _ W3 ⟨rfl, vs, hsv, hrv, hssv, hov⟩)))
          go_roundw
          case rel => exact ⟨a1, mid, lim, _, done, vs, ha1, by omega, by omega, by omega, rfl, rfl, rfl, rfl, rfl, hsv.gr gri, HRW.out.trans (hrv.mono (by omega) hb1 (by have := HRW.out.len; omega)), parted_right HPT.out HLW.out (by rw [show mid + 1 = mq by omega]; exact hrv) (by rw [show mid + 1 = mq by omega]; exact hssv) ha1 hb1 (by have := HRW.out.len; omega), (HOW.out.trans (Onl.of_gr gri g)).trans (hov.trans (Onl.of_gr gri g))⟩
          case measure => simp [intOf] <;> omega
set_option maxRecDepth 100000
set_option maxHeartbeats 4000000

theorem pdq0_any (base g n c : Nat) (hn : n ≤ 256) (lim : Nat) (xs : List Int) (w : World) (h : SA base w g n c xs) (hl : lim ≤ 1000) :
  Calls Tryz.prog 132 #[.slice (some ⟨g, 0, none⟩) n c, .int .i64 0, .int .i64 (n : Int), .int .i64 (lim : Int)] w fun e w' => e = .returned (.tuple #[]) ∧ ∃ ys, SA base w' g n c ys ∧ RP 0 n xs ys ∧ Srt ys 0 n ∧ Onl w w' g :=
 pdq_any base g n c hn n 0 n lim xs w h (Nat.zero_le _) (Nat.le_refl _) hl (fun k m h1 => by omega) rfl
def SoPost (base g n c : Nat) (xs : List Int) (w : World) (e : Ending) (w' : World) : Prop := e = .returned (.tuple #[]) ∧ ∃ ys, SA base w' g n c ys ∧ ys.Perm xs ∧ ys.Pairwise (· ≤ ·) ∧ Onl w w' g
theorem sort_any (base g n c : Nat) (xs : List Int) (w : World) (h : SA base w g n c xs) (hn : n ≤ 256) : Calls Tryz.prog 100 #[.slice (some ⟨g, 0, none⟩) n c] w (SoPost base g n c xs w) := by
 have H := Lib.hid h
 have hxl := h.len
 clear h
 have hwu : IntKind.u64.wrap (n : Int) = (n : Int) := by
  simp [IntKind.wrap, IntKind.bits, IntKind.signed]
  omega
 have HL := Lib.hid (fun W => len_any n hn W)
 go_enter Tryz.func100, Tryz.ntmps100
 go_wp2_with (first | (go_at_call 133; ((with_reducible refine (HL.out _).mono ?_); rintro _ _ ⟨k, rfl, k1, k2, k3, ⟨g1, rfl⟩⟩)) | (go_at_call 132; ((with_reducible refine (pdq0_any base g n c hn k xs _ (H.out.gr gri) (by omega)).mono ?_); rintro _ W2 ⟨rfl, ys, hsy, hry, hss, hoy⟩)))
 have hyl := hsy.len
 exact ⟨rfl, .tuple #[], by simp [results, go_sem], ⟨rfl, ys, hsy.gr gri, hry.perm, (by rw [← hyl] at hss; exact hss.pair), (Onl.of_gr gri g).trans (hoy.trans (Onl.of_gr gri g))⟩⟩
theorem insertion_nil (w : World) : Calls Tryz.prog 147 #[.slice none 0 0, .int .i64 0, .int .i64 0] w fun e w' => e = .returned (.tuple #[]) ∧ Gr w w' := by
 go_enter Tryz.func147, Tryz.ntmps147
 go_wp2
 go_loopw [6] (fun v6 wr => v6 = .int .i64 1 ∧ Gr w wr) (fun _ _ => 0)
 case atStart => exact ⟨rfl, gri⟩
 case round =>
  obtain ⟨rfl, hg⟩ := hrel
  haveI := grc_of hg
  go_wp2
  exact ⟨rfl, .tuple #[], by simp [results, go_sem], ⟨rfl, hg.trans gri⟩⟩
theorem pdq_nil (lim : Nat) (w : World) : Calls Tryz.prog 132 #[.slice none 0 0, .int .i64 0, .int .i64 0, .int .i64 (lim : Int)] w fun e w' => e = .returned (.tuple #[]) ∧ Gr w w' := by
 go_enter Tryz.func132, Tryz.ntmps132
 go_wp2
 go_loopw [1, 2, 3, 8, 9] (fun v1 v2 v3 v8 v9 wr => v1 = .int .i64 0 ∧ v2 = .int .i64 0 ∧ v3 = .int .i64 (lim : Int) ∧ v8 = .bool true ∧ v9 = .bool true ∧ Gr w wr) (fun _ _ _ _ _ _ => 0)
 case atStart => exact ⟨rfl, rfl, rfl, rfl, rfl, gri⟩
 case round =>
  obtain ⟨rfl, rfl, rfl, rfl, rfl, hg⟩ := hrel
  haveI := grc_of hg
  have HG := Lib.hid hg
  go_wp2_with (first | (go_at_call 147; ((with_reducible refine (insertion_nil _).mono ?_); rintro _ _ ⟨rfl, ⟨g1, rfl⟩⟩)))
  refine bodyPost_ret (v := .tuple #[]) (by simp [results, go_sem]) rfl ⟨rfl, HG.out.trans gri⟩
theorem sort_nil (w : World) : Calls Tryz.prog 100 #[.slice none 0 0] w fun e w' => e = .returned (.tuple #[]) ∧ Gr w w' := by
 have HL := Lib.hid (fun W => len_any 0 (by omega) W)
 change Hid (∀ W, Calls Tryz.prog 133 #[.int .u64 0] W _) at HL
 go_enter Tryz.func100, Tryz.ntmps100
 go_wp2_with (first | (go_at_call 133; ((with_reducible refine (HL.out _).mono ?_); rintro _ _ ⟨k, rfl, k1, k2, k3, ⟨g1, rfl⟩⟩)) | (go_at_call 132; ((with_reducible refine (pdq_nil k _).mono ?_); rintro _ _ ⟨rfl, ⟨g2, rfl⟩⟩)))
 exact ⟨rfl, .tuple #[], by simp [results, go_sem], ⟨rfl, gri⟩⟩
set_option maxRecDepth 100000
set_option maxHeartbeats 4000000
theorem keysfU (mb : Option Nat) (w : World) : Calls Tryz.prog 74 #[.map mb] w fun e w' => e = .returned (.func (.func 101) #[] #[.pointer (some ⟨w.heap.size, 0, none⟩)]) ∧ w' = w.alloc (.cells #[.map mb] 99) := by
 go_enter Tryz.func74, Tryz.ntmps74
 go_wp2
 go_ret
 exact ⟨rfl, rfl⟩
theorem collectU (Bm b : Nat) (L : List (Int × Value)) (hL : L.length ≤ 1000000) (w : World) (h1m : BlockAt w Bm #[.map (some b)] 99) (hm : MapAt .u64 w b L) : Calls Tryz.prog 99 #[.func (.func 101) #[] #[.pointer (some ⟨Bm, 0, none⟩)]] w fun e w' => ∃ v xs, e = .returned v ∧ OwnN sE w.heap.size w' v xs ∧ xs.Perm (L.map (·.1)) ∧ Gr w w' := by
 have H1 := Lib.hid h1m
 have HM := Lib.hid hm
 clear h1m hm
 go_enter Tryz.func99, Tryz.ntmps99
 go_wp2_with (first | (go_at_call 131; ((with_reducible refine (appseqU Bm b L hL _ (H1.out.gr gri) (HM.out.gr gri)).mono ?_); rintro _ _ ⟨v, xs, rfl, hv, hp, ⟨g1, rfl⟩⟩)))
 go_ret
 exact ⟨v, _, rfl, hv, hp, gri⟩
theorem sortOwn (z w : World) (v : Value) (xs : List Int) (h : OwnN sE z.heap.size w v xs) (hn : xs.length ≤ 256) (hg : Gr z w) : Calls Tryz.prog 100 #[v] w fun e w' => e = .returned (.tuple #[]) ∧ ∃ ys, OwnN sE z.heap.size w' v ys ∧ ys.Perm xs ∧ ys.Pairwise (· ≤ ·) ∧ Gr z w' := by
 rcases h.own.2 with ⟨rfl, h0⟩ | ⟨g, cap, cur, rfl, _⟩
 ·have : xs = [] := List.length_eq_zero_iff.1 (by simpa using h0)
  subst this
  refine (sort_nil w).mono ?_
  rintro _ W2 ⟨rfl, g2⟩
  exact ⟨rfl, [], h.gr g2, .refl _, .nil, hg.trans g2⟩
 ·refine (sort_any _ g _ cap xs w ⟨h⟩ hn).mono ?_
  rintro _ W2 ⟨rfl, ys, hy, hp, hs, ho⟩
  exact ⟨rfl, ys, hy.own, hp, hs, Gr.of (hg.below.grown ho hg.below.size (fun k e => by cases e; exact hy.ge))⟩
theorem sorted_keys {L : List (Int × Value)} (hs : SortK L) {ys : List Int} (hp : ys.Perm (L.map (·.1))) (h : ys.Pairwise (· ≤ ·)) : ys = L.map (·.1) := by
 refine hp.eq_of_pairwise (le := fun a b => a ≤ b) (fun a b _ _ h1 h2 => by omega) h ?_
 rw [List.pairwise_map]
 exact hs.imp fun h => by omega
theorem sortedU (Bm b : Nat) (L : List (Int × Value)) (hL : L.length ≤ 256) (w : World) (h1m : BlockAt w Bm #[.map (some b)] 99) (hm : MapAt .u64 w b L) : Calls Tryz.prog 73 #[.func (.func 101) #[] #[.pointer (some ⟨Bm, 0, none⟩)]] w fun e w' => ∃ v, e = .returned v ∧ OwnN sE w.heap.size w' v (L.map (·.1)) ∧ Gr w w' := by
 have H1 := Lib.hid h1m
 have HM := Lib.hid hm
 clear h1m hm
 go_enter Tryz.func73, Tryz.ntmps73
 go_wp2_with (first | (go_at_call 99; ((with_reducible refine (collectU Bm b L (by omega) _ (H1.out.gr gri) (HM.out.gr gri)).mono ?_); rintro _ _ ⟨v, xs, rfl, hv, hp, ⟨g1, rfl⟩⟩)))
 have HP := Lib.hid hp
 have hlen : xs.length ≤ 256 := by have := hp.length_eq; rw [List.length_map] at this; omega
 have HV := Lib.hid hv
 clear hv hp
 refine (sortOwn w _ v xs HV.out hlen gri).mono ?_
 rintro _ W2 ⟨rfl, ys, hy, hyp, hs, hg⟩
 haveI := grc_of hg
 have HY := Lib.hid hy
 have HE := Lib.hid (sorted_keys (HM.out.sort) (hyp.trans HP.out) hs)
 have HG := Lib.hid hg
 clear hy hyp hs hg
 go_wp2
 go_ret
 exact ⟨_, rfl, HE.out ▸ HY.out.gr gri, HG.out.trans gri⟩
set_option maxRecDepth 100000
set_option maxHeartbeats 4000000
theorem volumes_any (base D : Nat) (d : Dev) (hn : d.length ≤ 256) (w : World) (h : DevAt base w D d) : Calls Tryz.prog 51 #[.pointer (some ⟨D, 0, none⟩)] w fun e w' => ∃ v, e = .returned v ∧ OwnN sE w.heap.size w' v (d.map (·.1)) ∧ Gr w w' := by
 obtain ⟨M, mb, h⟩ := h
 have HD := Lib.hid h
 have HT := Lib.hid (fun W (hW : Gr w W) => there_yes D M W (HD.out.blk.gr hW))
 haveI := h.blk
 have x0 : w.cell? ⟨D, 0, none⟩ = some (.map (some M)) := (@block_cells _ _ 0 _ _ h.blk).trans rfl
 haveI : Old D w := h.blk.old
 clear h
 go_enter Tryz.func51, Tryz.ntmps51
 go_wp2_with (first | (go_at_call 50; ((with_reducible refine (HT.out _ gri).mono ?_); rintro _ _ ⟨rfl, g1, rfl⟩)) | (go_at_call 74; ((with_reducible refine (keysfU _ _).mono ?_); rintro _ _ ⟨rfl, rfl⟩)) | (go_at_call 73; ((with_reducible refine (sortedU _ M _ (by rw [List.length_map]; exact hn) _ inferInstance (HD.out.all.gr gri)).mono ?_); rintro _ W2 ⟨v, rfl, hv, hg⟩; haveI := grc_of hg; have HV := Lib.hid hv; have HG := Lib.hid hg; clear hv hg)))
 go_ret
 have := HV.out
 simp only [List.map_map, Function.comp_def] at this
 exact ⟨v, rfl, this.more (by have := (grown_below w g1).size; simp; omega), Gr.trans gri HG.out⟩
set_option maxRecDepth 100000
set_option maxHeartbeats 4000000
theorem ixbyte_4 (w : World) : Calls Tryz.prog 166 #[strVal "1248", .int .u8 52] w fun e w' => e = .returned (.int .i64 2) ∧ Gr w w' := by
 have hr : (Extern.BytealgIndexByte.indexByte #[strVal "1248", .int .u8 52]).run Tryz.prog w = .ok (.int .i64 2) w := by kernel_rfl
 have hc := run_callFunc_extern Tryz.func192 (by kernel_rfl) (by kernel_rfl) (by kernel_rfl) (e := Extern.BytealgIndexByte.indexByte) (by kernel_rfl) #[strVal "1248", .int .u8 52] w
 rw [hr] at hc
 simp only [Result.andThen] at hc
 go_enter Tryz.func166, Tryz.ntmps166
 go_wp2
 go_ret
 exact ⟨rfl, gri⟩
theorem ixrune_4 (w : World) : Calls Tryz.prog 136 #[strVal "1248", .int .i32 52] w fun e w' => e = .returned (.int .i64 2) ∧ Gr w w' := by
 go_enter Tryz.func136, Tryz.ntmps136
 go_wp2_with (first | (go_at_call 166; ((with_reducible refine (ixbyte_4 _).mono ?_); rintro _ _ ⟨rfl, ⟨g1, rfl⟩⟩)))
 go_ret
 exact ⟨rfl, gri⟩
theorem contains_4 (w : World) : Calls Tryz.prog 105 #[strVal "1248", .int .i32 52] w fun e w' => e = .returned (.bool true) ∧ Gr w w' := by
 go_enter Tryz.func105, Tryz.ntmps105
 go_wp2_with (first | (go_at_call 136; ((with_reducible refine (ixrune_4 _).mono ?_); rintro _ _ ⟨rfl, ⟨g1, rfl⟩⟩)))
 go_ret
 exact ⟨rfl, gri⟩
set_option maxRecDepth 100000
set_option maxHeartbeats 4000000
theorem LowP.back {base : Nat} {w W W' : World} {v : Value} {ys : List UInt8} (h : LowP base W v ys W') (g : Gr w W) (hb : base ≤ w.heap.size) : LowP base w v ys W' := by
 have g1 := g.below.size
 have s1 := h.size
 refine ⟨h.own, (g.below.mono hb).trans h.below, by omega, fun k hk hc => ?_⟩
 have e1 := g.below.block k hk
 exact (h.block k (by omega) (fun cs f => by rw [e1]; exact hc cs f)).trans e1
theorem contains_4b (w : World) : Calls Tryz.prog 105 #[Value.string { data := #[49, 50, 52, 56] }, .int .i32 52] w fun e w' => e = .returned (.bool true) ∧ Gr w w' := by
 have e : strVal "1248" = Value.string { data := #[49, 50, 52, 56] } := by kernel_rfl
 have h := contains_4 w
 rw [e] at h
 exact h
@[go_sem] theorem taU (n : Int) (w : World) : (Instr.typeAssert (.iface 28 (.int .u64 n)) 20 28 true).run Tryz.prog w = .ok (.tuple #[.int .u64 n, .bool true]) w := by kernel_rfl
theorem lay_4 (base : Nat) (v : Value) (xs : List UInt8) (n : Int) (h0 : 0 ≤ n) (hn : n < 4294967296) (w : World) (h : OwnN bE base w v xs) (hb : base ≤ w.heap.size) (hl : xs.length ≤ 10000000) :
  Calls Tryz.prog 77 #[v, .int .i32 52, .iface 28 (.int .u64 n)] w fun e w' => ∃ v', e = .returned (.tuple #[v', .bool true]) ∧ LowP base w v' (xs ++ leB n 4) w' := by
 have H := Lib.hid h
 have HB := Lib.hid hb
 have HBp := Lib.hid (fun W (g : Gr w W) => Nat.le_trans hb g.below.size)
 clear h hb
 go_enter Tryz.func77, Tryz.ntmps77
 go_wp2_with (first | (go_at_call 105; ((with_reducible refine (contains_4b _).mono ?_); rintro _ _ ⟨rfl, ⟨g1, rfl⟩⟩)) | (go_at_call 107; ((with_reducible refine (width_4 _).mono ?_); rintro _ _ ⟨rfl, ⟨g2, rfl⟩⟩)) | (go_at_call 106; ((with_reducible refine (low_4 base _ xs n h0 hn _ (H.out.gr gri) (HBp.out _ gri) hl).mono ?_); rintro _ _ ⟨v', rfl, hp⟩; have HP := Lib.hid hp; clear hp)))
 exact bodyPost_ret (v := .tuple #[v', .bool true]) (by simp [results, go_sem]) rfl ⟨_, rfl, HP.out.back gri HB.out⟩
@[go_sem] theorem taB_u (cs : Array Value) (w : World) : (Instr.typeAssert (.iface 88 (.agg cs)) 20 28 true).run Tryz.prog w = .ok (.tuple #[.int .u64 0, .bool false]) w := by kernel_rfl
@[go_sem] theorem taB_b (cs : Array Value) (w : World) : (Instr.typeAssert (.iface 88 (.agg cs)) 20 4 true).run Tryz.prog w = .ok (.tuple #[.bool false, .bool false]) w := by kernel_rfl
@[go_sem] theorem taB_s (cs : Array Value) (w : World) : (Instr.typeAssert (.iface 88 (.agg cs)) 20 41 true).run Tryz.prog w = .ok (.tuple #[.slice none 0 0, .bool false]) w := by kernel_rfl
@[go_sem] theorem taB_k (cs : Array Value) (w : World) : (Instr.typeAssert (.iface 88 (.agg cs)) 20 88 true).run Tryz.prog w = .ok (.tuple #[.agg cs, .bool true]) w := by kernel_rfl
theorem lay_h (base : Nat) (v : Value) (xs : List UInt8) (B : Byt) (hBl : B.length = 256) (w : World) (h : OwnN bE base w v xs) (hb : base ≤ w.heap.size) (hl : xs.length ≤ 10000000) :
  Calls Tryz.prog 77 #[v, .int .i32 35, .iface 88 (.agg (bkC B))] w fun e w' => ∃ v', e = .returned (.tuple #[v', .bool true]) ∧ LowP base w v' (xs ++ B) w' := by
 have H := Lib.hid h
 have HB := Lib.hid hb
 have HBp := Lib.hid (fun W (g : Gr w W) => Nat.le_trans hb g.below.size)
 clear h hb
 go_enter Tryz.func77, Tryz.ntmps77
 have EZ := Lib.hid zC_bk
 haveI := bkC_row hBl
 have HLn : Hid (xs.length + B.length ≤ 100000000) := Lib.hid (by omega)
 have HBL := Lib.hid hBl
 have HCL := Lib.hid (fun (b : Nat) (W : World) (hW : BlockAt W b (bkC B) 88) => cellsB (xs := B) (W := W) (b := b) (p := 0) (fun j x hj => by rw [Nat.zero_add, @block_cells _ _ j _ _ hW]; simp [bkC, hj]))
 go_wp2_with (first | (refine wpStoreB rfl _ _ rfl _ _ _ rfl rfl inferInstance inferInstance inferInstance ?_) | (at_builtin; refine wp_append_n bIs rfl _ _ rfl rfl (H.out.gr gri) _ 0 B 256 256 HBL.out rfl (fun _ _ => trivial) (HCL.out _ _ inferInstance) (by have := HLn.out; omega) (HBp.out _ gri) (by rw [HBL.out]; decide) ?_; intro v1 W1 h1; have H1 := Lib.hid ((LowP.start H.out).app gri HB.out h1); clear h1))
 exact bodyPost_ret (v := .tuple #[_, .bool true]) (by simp [results, go_sem]) rfl ⟨_, rfl, H1.out⟩
set_option maxRecDepth 100000
set_option maxHeartbeats 4000000
inductive It
 | num (n : Int)
 | blk (B : Byt)
def It.ok : It → Prop
 | .num n => 0 ≤ n ∧ n < 4294967296
 | .blk B => B.length = 256
def It.letter : It → UInt8
 | .num _ => 52
 | .blk _ => 35
def It.bytes : It → List UInt8
 | .num n => leB n 4
 | .blk B => B
def It.val : It → Value
 | .num n => .iface 28 (.int .u64 n)
 | .blk B => .iface 88 (.agg (bkC B))
def anE : EK It := ⟨fun x => [x.val], 1, 20, 111, 16, .nilIface, It.ok⟩
theorem anIs : anE.Is where
 len := fun _ _ => rfl
 one := fun x _ v hv => by
  simp only [anE, List.mem_cons, List.mem_nil_iff, or_false] at hv
  subst hv
  cases x <;> rfl
 pos := by decide
 hT := Tryz.underlying111
 hE := by kernel_rfl
 hz := rfl
 hb := by decide
theorem lay_any (base : Nat) (v : Value) (xs : List UInt8) (x : It) (hx : x.ok) (w : World) (h : OwnN bE base w v xs) (hb : base ≤ w.heap.size) (hl : xs.length ≤ 10000000) :
  Calls Tryz.prog 77 #[v, .int .i32 (x.letter.toNat : Int), x.val] w fun e w' => ∃ v', e = .returned (.tuple #[v', .bool true]) ∧ LowP base w v' (xs ++ x.bytes) w' := by
 cases x with
 | num n => exact lay_4 base v xs n hx.1 hx.2 w h hb hl
 | blk B => exact lay_h base v xs B hx w h hb hl
theorem OwnN.iterAt {α : Type} {e : EK α} {base : Nat} {W : World} {v : Value} {xs : List α} (h : OwnN e base W v xs) (k : Nat) (s : ByteArray) (pos p' : Nat) [hi : IterAt W k s pos] : OwnN e base (W.iterAt k s p') v xs := h.keep fun q hq => by
 have hq2 := h.own.2
 rcases hq2 with ⟨rfl, _⟩ | ⟨g, cap, cur, rfl, _, hh, _⟩
 ·cases hq
 ·have : q = g := by simpa [Value.ownBlock] using hq.symm
  subst this
  refine Lib.iterAt_other W k q s p' fun e => ?_
  subst e
  rw [hi.eq] at hh
  cases hh
theorem flat_bytes : ∀ (l : List It), (∀ x ∈ l, x.ok) → (l.flatMap It.bytes).length ≤ 256 * l.length
 | [], _ => by simp
 | x :: l, h => by
  have h1 := flat_bytes l fun y hy => h y (List.mem_cons_of_mem _ hy)
  have h2 : x.bytes.length ≤ 256 := by
   have := h x List.mem_cons_self
   cases x with
   | num n => simp [It.bytes, leB]
   | blk B => exact Nat.le_of_eq this
  rw [List.flatMap_cons, List.length_append, List.length_cons]
  omega
theorem row_tail {W : World} {b p c m : Nat} {x : It} {xs : List It} (hb : b < W.heap.size) (hok : ∀ y ∈ xs, y.ok) (h : CellsN anE W b p (x :: xs)) (hm : xs.length = m) (hc : m + 1 ≤ c) : RowN anE W (if c = 1 then some ⟨b, p, none⟩ else some ⟨b, p + 1, none⟩) xs := by
 by_cases h1 : c = 1
 ·have : xs = [] := List.length_eq_zero_iff.1 (by omega)
  subst this
  exact RowN.nil
 ·rw [if_neg h1]
  refine ⟨hok, fun _ => ⟨b, p + 1, rfl, hb, fun j y hj i u hu => ?_⟩⟩
  have := h (j + 1) y (by simpa using hj) i u hu
  have e : p + 1 + j * anE.k + i = p + (j + 1) * anE.k + i := by
   show p + 1 + j * 1 + i = p + (j + 1) * 1 + i
   omega
  rw [e]
  exact this
theorem own_empty (base : Nat) (W : World) (g : Nat) (hg : base ≤ g) (hb : BlockAt W g #[] 5) : OwnN bE base W (.slice (some ⟨g, 0, none⟩) 0 0) [] :=
 ⟨by simp, by simp, .inr ⟨g, 0, #[], rfl, hg, hb.eq, Nat.le_refl _, by unfold maxLen; omega, rfl, rfl⟩⟩
def sliceLen : Value → Nat
 | .slice _ m _ => m
 | _ => 0
theorem pack_any (l : List It) (hok : ∀ x ∈ l, x.ok) (hn : l.length ≤ 30000) (A : Option Addr) (c : Nat) (hcl : l.length ≤ c) (w : World) (hr : RowN anE w A l) :
  Calls Tryz.prog 53 #[.string ⟨(l.map It.letter).toArray⟩, .slice A l.length c] w fun e w' => ∃ v, e = .returned (.tuple #[v, .int .i64 0]) ∧ OwnN bE w.heap.size w' v (l.flatMap It.bytes) ∧ Gr w w' := by
 have HR := Lib.hid hr
 clear hr
 go_enter Tryz.func53, Tryz.ntmps53
 obtain ⟨S, hS⟩ : ∃ S : ByteArray, ⟨(l.map It.letter).toArray⟩ = S := ⟨_, rfl⟩
 have hSz : S.size = l.length := by rw [← hS]; simp [ByteArray.size]
 have hdec : ∀ (k : Nat) x, l[k]? = some x → Utf8.decode S k = (x.letter.toNat, 1) := fun k x hx => by
  have hk : k < S.size := by rw [hSz]; exact (List.getElem?_eq_some_iff.1 hx).1
  have he : S[k]'hk = x.letter := by
   subst hS
   obtain ⟨h1, rfl⟩ := List.getElem?_eq_some_iff.1 hx
   simp [ByteArray.getElem_eq_getElem_data]
  have := decode_ascii S k hk (by rw [he]; cases x <;> (simp only [It.letter]; decide))
  rw [he] at this
  exact this
 rw [hS]
 clear hS
 go_wp2
 go_loopw [6, 7] (fun v6 v7 wr => ∃ k m c' A', l.length = k + m ∧ m ≤ c' ∧ v7 = .slice A' m c' ∧ RowN anE w A' (l.drop k) ∧ OwnN bE w.heap.size wr v6 ((l.take k).flatMap It.bytes) ∧ IterAt wr (w.heap.size + 1) S k ∧ Gr w wr ∧ w.heap.size + 2 ≤ wr.heap.size) (fun _ v7 _ => sliceLen v7)
 case atStart => exact ⟨0, l.length, c, A, by omega, hcl, rfl, HR.out, own_empty _ _ w.heap.size (Nat.le_refl _) inferInstance, inferInstance, gri, by simp⟩
 case round =>
  obtain ⟨k, m, c', A', hkm, hmc, rfl, hrw, ho, hit, hg, hsz⟩ := hrel
  haveI := grc_of hg
  haveI := from_of hg
  haveI := hit
  haveI := hit.old
  have HG := Lib.hid hg
  have HO := Lib.hid ho
  clear hg ho
  by_cases hm : m = 0
  ·subst hm
   have hlt : ¬ k < S.size := by omega
   have HT := Lib.hid (show l.take k = l from List.take_of_length_le (by omega))
   go_wp2
   exact bodyPost_ret (v := .tuple #[u6, .int .i64 0]) (by simp [results, go_sem]) rfl ⟨_, rfl, by have := HO.out; rw [HT.out] at this; exact this, HG.out⟩
  ·obtain ⟨m, rfl⟩ : ∃ m', m = m' + 1 := ⟨m - 1, by omega⟩
   obtain ⟨x, hx⟩ := Option.isSome_iff_exists.1 (show (l[k]?).isSome by simp; omega)
   have hlt : k < S.size := by omega
   have hd := hdec k x hx
   have hdr : l.drop k = x :: l.drop (k + 1) := by
    obtain ⟨h1, rfl⟩ := List.getElem?_eq_some_iff.1 hx
    exact List.drop_eq_getElem_cons h1
   obtain ⟨b, p, rfl, hb, hcell⟩ := hrw.at_ (by rw [hdr]; exact List.cons_ne_nil _ _)
   haveI : Old b w := ⟨hb⟩
   have c0 : w.cell? ⟨b, p, none⟩ = some x.val := by
    have := hcell 0 x (by rw [hdr]; rfl) 0 _ rfl
    simpa using this
   have c1 : wr.cell? ⟨b, p, none⟩ = some x.val := (HG.out.below.cell (p := ⟨b, p, none⟩) hb).trans c0
   have HX := Lib.hid (hok x (List.mem_of_getElem? hx))
   have HT := Lib.hid (row_tail (c := c') (m := m) hb (fun y hy => hok y (List.mem_of_mem_drop hy)) (hdr ▸ hcell) (by rw [List.length_drop]; omega) hmc)
   have HF := Lib.hid (show (l.take (k + 1)).flatMap It.bytes = (l.take k).flatMap It.bytes ++ x.bytes by rw [List.take_add_one, hx, List.flatMap_append]; simp)
   have HKM := Lib.hid hkm
   have HLn : Hid (((l.take k).flatMap It.bytes).length ≤ 10000000) := Lib.hid (by
    have := flat_bytes (l.take k) fun y hy => hok y (List.mem_of_mem_take hy)
    have := List.length_take_le k l
    omega)
   have HSZ := Lib.hid hsz
   clear c0 hdr hx hok hdec hrw hcell hSz hkm
   go_wp2_with (first | (go_at_call 77; ((with_reducible refine (lay_any w.heap.size _ _ x HX.out _ (HO.out.iterAt _ _ _ _) (by have := HSZ.out; simp [World.iterAt]; omega) HLn.out).mono ?_); rintro _ W2 ⟨v2, rfl, hp⟩; have HP := Lib.hid hp; clear hp)))
   have hit2 : IterAt W2 (w.heap.size + 1) S (k + 1) := by
    have hi : IterAt (wr.iterAt (w.heap.size + 1) S (k + 1)) (w.heap.size + 1) S (k + 1) := inferInstance
    exact ⟨(HP.out.block _ hi.lt (fun cs f e => by rw [hi.eq] at e; cases e)).trans hi.eq⟩
   have hg2 : Gr w W2 := Gr.of ((Gr.below (gri : Gr w (wr.iterAt (w.heap.size + 1) S (k + 1)))).trans HP.out.below)
   have HI := Lib.hid hit2
   have HG2 := Lib.hid hg2
   clear hit2 hg2 hit hd c1
   refine wp_region_grow (by kernel_rfl) (by kernel_rfl) ?_
   repeat (go_big_quiet_step (fail))
   refine wpQuiet_nil ?_
   intro g3
   haveI := grc_of HG2.out
   haveI := from_of HG2.out
   haveI := HI.out
   have hT := HT.out
   clear HT
   generalize (if c' = 1 then some (⟨b, p, none⟩ : Addr) else some ⟨b, p + 1, none⟩) = A2 at hT ⊢
   have HT := Lib.hid hT
   clear hT
   go_wp2
   refine ⟨?_, by simp [sliceLen]⟩
   ·refine ⟨k + 1, m, c' - 1, A2, ?r1, ?r2, rfl, HT.out, ?r3, inferInstance, gri, ?r4⟩
    case r1 => have := HKM.out; omega
    case r2 => omega
    case r3 => rw [HF.out]; exact HP.out.own.gr gri
    case r4 => have := HP.out.size; have := HSZ.out; have := (grown_below W2 g3).size; simp [World.iterAt] at *; omega
end Go.Proofs.YtipeblmgochdfaaGreat
