/- slices.breakPatternsOrdered. Conditions: the row stands in memory, at most 10^6 elements. .. -/
import Derived.Test.YtddckdhnolmjoaaGreatW12
import Derived.Test.YtddckdhnolmjoaaGreatW11
import Derived.Deep.CutBlock
import Derived.Test.YtddckdhnolmjoaaGreatW10
import Derived.Test.YtddckdhnolmjoaaGreatW01
import Derived.RangeFuncNested
import Derived.RangeFuncBound
import Derived.RangeFuncCalls
import Derived.RangeFuncLeaves
import Derived.Shelf.Abstract
import Derived.Shelf.RegionOpen
import Derived.OwnWalkIn
import Derived.TacticsInMore
import Derived.LoopNIn
import Derived.LoopIn
import Derived.RangeFuncFrom
import Derived.Lib.Hide
import Derived.Test.YtddckdhnolmjoaaGreatW03
import Derived.Test.YtddckdhnolmjoaaGreatW02
import Derived.Test.YtddckdhnolmjoaaGreatW04
set_option linter.unusedVariables false
set_option linter.unusedSimpArgs false
set_option linter.unnecessarySimpa false
set_option maxRecDepth 100000
set_option maxHeartbeats 8000000
namespace Go.Proofs.YtddckdhnolmjoaaGreat
open Go.RowKit
theorem and_le (z : Int) (m : Nat) (hm : m < 18446744073709551616) : ∃ o : Nat, bits BinOp.and IntKind.u64 z (m : Int) = (o : Int) ∧ o ≤ m := by
 have h : (BitVec.ofInt 64 z &&& BitVec.ofInt 64 (m : Int)).toNat ≤ m := by
  rw [BitVec.toNat_and]
  refine Nat.le_trans Nat.and_le_right ?_
  have : (BitVec.ofInt 64 (m : Int)).toNat = m := by
   rw [BitVec.toNat_ofInt]
   omega
  omega
 refine ⟨(BitVec.ofInt 64 z &&& BitVec.ofInt 64 (m : Int)).toNat, ?_, h⟩
 have e : bits BinOp.and IntKind.u64 z (m : Int) = IntKind.u64.wrap ((BitVec.ofInt 64 z &&& BitVec.ofInt 64 (m : Int)).toNat : Int) := rfl
 rw [e]
 generalize (BitVec.ofInt 64 z &&& BitVec.ofInt 64 (m : Int)).toNat = q at *
 simp [IntKind.wrap, IntKind.bits, IntKind.signed]
 omega
theorem blk_onl {W W' : World} {S g : Nat} {cs : Array Value} {T : TypeId} (h : BlockAt W S cs T) (o : Onl W W' g) (hne : S ≠ g) : BlockAt W' S cs T := ⟨(o.block h.lt hne).trans h.eq⟩
theorem Onl.new {w W W' : World} {g S : Nat} (h : Onl w W g) (o : Onl W W' S) (hS : w.heap.size ≤ S) : Onl w W' g :=
 ⟨o.os.trans h.os, o.tape.trans h.tape, o.output.trans h.output, Nat.le_trans (World.grownBy.size h) (World.grownBy.size o), fun k hk hn => (World.grownBy.block o k (Nat.lt_of_lt_of_le hk (World.grownBy.size h)) (fun e => by (have e2 := Option.some.inj e); omega)).trans (World.grownBy.block h k hk hn)⟩
theorem break_any {F : Nat} (base : Bs) (g n c : Nat) (xs : List Int) (a b : Nat) (w : World) (h : SA base w g n c xs) (hn : n ≤ 256) (hab : a + 8 ≤ b) (hb : b ≤ n) (hq : base.is 120 131 F := by first | exact .inl ⟨by assumption, by assumption, rfl⟩ | exact .inr ⟨by assumption, by assumption, rfl⟩) :
  Calls Tryz.prog F #[.slice (some ⟨g, 0, none⟩) n c, .int .i64 (a : Int), .int .i64 (b : Int)] w fun e w' => e = .returned (.tuple #[]) ∧ ∃ ys, SA base w' g n c ys ∧ RP a b xs ys ∧ Onl w w' g := by
 rcases hq with ⟨kq, tq, rfl⟩ | ⟨kq, tq, rfl⟩
 all_goals
  have H := hd_ h
  have hgw := h.lt
  clear h
  obtain ⟨l, hl⟩ : ∃ l, b - a = l := ⟨_, rfl⟩
  have rl : (b : Int) - (a : Int) = (l : Int) := by omega
  have wl : IntKind.i64.wrap (l : Int) = (l : Int) := wrapS l (by omega)
  obtain ⟨q, hq⟩ : ∃ q, l / 4 = q := ⟨_, rfl⟩
  have rq : (l : Int) / 4 = (q : Int) := by omega
  have wq : IntKind.i64.wrap (q : Int) = (q : Int) := wrapS q (by omega)
  obtain ⟨q2, hq2⟩ : ∃ q2, q * 2 = q2 := ⟨_, rfl⟩
  have rq2 : (q : Int) * 2 = (q2 : Int) := by omega
  have wq2 : IntKind.i64.wrap (q2 : Int) = (q2 : Int) := wrapS q2 (by omega)
  obtain ⟨md, hmd⟩ : ∃ md, a + q2 = md := ⟨_, rfl⟩
  have rmd : (a : Int) + (q2 : Int) = (md : Int) := by omega
  have wmd : IntKind.i64.wrap (md : Int) = (md : Int) := wrapS md (by omega)
  obtain ⟨lo, hlo⟩ : ∃ lo, md - 1 = lo := ⟨_, rfl⟩
  have rlo : (md : Int) - 1 = (lo : Int) := by omega
  have wlo : IntKind.i64.wrap (lo : Int) = (lo : Int) := wrapS lo (by omega)
  obtain ⟨hi, hhi⟩ : ∃ hi, md + 1 = hi := ⟨_, rfl⟩
  have rhi : (md : Int) + 1 = (hi : Int) := by omega
  have whi : IntKind.i64.wrap (hi : Int) = (hi : Int) := wrapS hi (by omega)
  have e8 : (8 : Int) ≤ (l : Int) := by omega
  have hwu : IntKind.u64.wrap (l : Int) = (l : Int) := by
   simp [IntKind.wrap, IntKind.bits, IntKind.signed]
   omega
  obtain ⟨S, hS⟩ : ∃ S, w.heap.size = S := ⟨_, rfl⟩
  have hne : g ≠ S := by omega
  have HPW := hd_ (fun W => pow_any l (by omega) (by omega) W)
  first | go_enter Tryz.func120, Tryz.ntmps120 | go_enter Tryz.func131, Tryz.ntmps131
  go_wp2_with (first | (go_at_call 145; ((with_reducible refine (HPW.out _).mono ?_))))
  rintro _ _ ⟨M, rfl, hM1, hM2, ⟨g1, rfl⟩⟩
  obtain ⟨M1, hM⟩ : ∃ M1, M1 + 1 = M := ⟨M - 1, by omega⟩
  have rM : (M : Int) - 1 = (M1 : Int) := by omega
  have wM : IntKind.u64.wrap (M1 : Int) = (M1 : Int) := by
   simp [IntKind.wrap, IntKind.bits, IntKind.signed]
   omega
  go_wp2
  go_loopw [9] (fun v9 wr => ∃ (ix : Nat) (ys : List Int), lo ≤ ix ∧ ix ≤ hi + 1 ∧ v9 = .int .i64 (ix : Int) ∧ SA base wr g n c ys ∧ RP a b xs ys ∧ ∃ z : Int, BlockAt wr S #[.int .u64 z] 217 ∧ Onl w wr g) (fun v _ => hi + 1 - (intOf v).toNat)
  case atStart => exact ⟨lo, xs, Nat.le_refl _, by omega, rfl, H.out.gr gri, .refl, _, (by rw [← hS]; infer_instance), Onl.of_gr gri g⟩
  case round =>
   obtain ⟨ix, ys, hi1, hi2, rfl, hsa, hrp, z0, hbs, ho⟩ := hrel
   have HSA := hd_ hsa
   have HRP := hd_ hrp
   have HO := hd_ ho
   have hyl := hsa.len
   by_cases hix : ix ≤ hi
   ·have e1 : (ix : Int) ≤ (hi : Int) := by omega
    have HX := hd_ (fun W (hW : Gr wr W) => next_xs S z0 W (hbs.gr hW))
    clear hsa hrp ho hbs
    go_wp2_with (first | (go_at_call 146; ((with_reducible refine (HX.out _ gri).mono ?_))))
    rintro _ W2 ⟨z9, rfl, hb9, ho9⟩
    obtain ⟨o, ho0, ho1⟩ := and_le z9 M1 (by omega)
    have wo1 : IntKind.i64.wrap (o : Int) = (o : Int) := wrapS o (by omega)
    have HSA3 := (HSA.out.gr (gri : Gr wr _)).onl ho9 hne
    have HBS := hd_ hb9
    have HO2 := hd_ ((HO.out.trans (Onl.of_gr (gri : Gr wr _) g)).new ho9 (by omega))
    haveI : Old g W2 := ⟨HSA3.lt⟩
    haveI : Old S W2 := hb9.old
    clear hb9 ho9
    by_cases hol : l ≤ o
    ·have e2 : (l : Int) ≤ (o : Int) := by omega
     obtain ⟨o2, ho2⟩ : ∃ o2, o - l = o2 := ⟨_, rfl⟩
     have ro2 : (o : Int) - (l : Int) = (o2 : Int) := by omega
     have wo2 : IntKind.i64.wrap (o2 : Int) = (o2 : Int) := wrapS o2 (by omega)
     obtain ⟨ao, hao⟩ : ∃ ao, a + o2 = ao := ⟨_, rfl⟩
     have rao : (a : Int) + (o2 : Int) = (ao : Int) := by omega
     have wao : IntKind.i64.wrap (ao : Int) = (ao : Int) := wrapS ao (by omega)
     have bao : (ao : Int) < (n : Int) := by omega
     have c0 := HSA3.cell kq ix (by omega)
     have c1 := HSA3.cell kq ao (by omega)
     have bix : (ix : Int) < (n : Int) := by omega
     go_wp2
     refine wp_region_treeJ ⟨fun w' => Gr W2 w', true, fun _ _ h => h, fun _ _ _ h g => h.trans g⟩ rfl (Gr.of ((Below.refl _ _).drew)) [2, 3, 4, 5] [0, 1, 6, 7, 8, 9, 10, 11, 12, 13, 14, 15] 4 17 (by kernel_rfl) (by kernel_rfl) ?_
     simp only [pick, List.drop, List.take, List.nil_append, List.cons_append]
     refine wpPure_step (.slice (some ⟨g, 0, none⟩) n c) rfl (fun w => by go_simp) ?_
     simp only [Act.put, stA, List.set]
     refine wpPure_step (.int .i64 (a : Int)) rfl (fun w => by go_simp) ?_
     simp only [Act.put, stA, List.set]
     refine wpPure_step (.int .i64 (o2 : Int)) rfl (fun w => by go_simp) ?_
     simp only [Act.put, stA, List.set]
     refine wpPure_step (.int .i64 (ao : Int)) rfl (fun w => by go_simp) ?_
     simp only [Act.put, stA, List.set]
     show wpCalm _ _ _ _ _ _
     repeat (refine wpCalm_step (fun K hK => ?_); go_simp; first | (refine hK _ ?_; clear hK K) | (apply Exists.intro; refine ⟨fun _ => ?_, hK _ ?_⟩; (skip); clear hK K))
     refine wpCalm_nil ?_
     refine fg_one 16 (by kernel_rfl) ?_
     refine fg_pure (.pointer (some ⟨g, ix, none⟩)) rfl rfl rfl (fun w => by go_simp) ?_
     simp only [Act.put, stA, List.set]
     refine fg_one 17 (by kernel_rfl) ?_
     refine fg_effN rfl rfl rfl (fun w1 hw1 => ?_)
     have sa1 := SA.gr HSA3 hw1
     have t0 := sa1.cell kq ix (by have := hyl; omega)
     have t1 := sa1.frozen ix
     haveI oG : Old g w1 := ⟨sa1.lt⟩
     have hrun := st_run kq tq g ix w1 ((at0 ys ao)) (by assumption) (by assumption)
     refine effAt_stS rfl rfl rfl hrun ⟨⟨fun w2 => SA base w2 g n c (ys.set ix (at0 ys ao)) ∧ Onl W2 w2 g, false, fun e => Bool.noConfusion e, fun e => Bool.noConfusion e⟩, ⟨sa1.put kq ix _ (by have := hyl; omega), (Onl.of_gr hw1 g).trans (Onl.set _ g ix _)⟩, fun e => absurd rfl e, ?_⟩
     clear oG sa1 t0 t1 hrun hw1 w1
     try simp only [Act.put, stA, List.set]
     refine fg_one 18 (by kernel_rfl) ?_
     refine fg_pure (.pointer (some ⟨g, ao, none⟩)) rfl rfl rfl (fun w => by go_simp) ?_
     simp only [Act.put, stA, List.set]
     refine fg_one 19 (by kernel_rfl) ?_
     refine fg_effN rfl rfl rfl (fun w1 hw1 => ?_)
     have t0 := hw1.1.cell kq ao (by rw [List.length_set]; have := hyl; omega)
     have t1 := hw1.1.frozen ao
     haveI oG : Old g w1 := ⟨hw1.1.lt⟩
     have hrun := st_run kq tq g ao w1 ((at0 ys ix)) (by assumption) (by assumption)
     refine effAt_stS rfl rfl rfl hrun ⟨⟨fun w2 => SA base w2 g n c (swp ys ix ao) ∧ Onl W2 w2 g, false, fun e => Bool.noConfusion e, fun e => Bool.noConfusion e⟩, ⟨hw1.1.put kq ao _ (by rw [List.length_set]; have := hyl; omega), hw1.2.trans (Onl.set _ g ao _)⟩, fun _ e => Bool.noConfusion e, ?_⟩
     clear oG t0 t1 hrun hw1 w1
     refine fg_end (by kernel_rfl) (fun w5 hw5 => ?_)
     try simp only [Act.put]
     have HF := hd_ hw5
     clear hw5
     go_wp2
     go_roundw
     case rel => exact ⟨ix + 1, swp ys ix ao, by omega, by omega, by go_num, HF.out.1.gr gri, .swap HRP.out ix ao (by omega) (by omega) (by omega) (by omega) (by omega), z9, (blk_onl HBS.out (HF.out.2.trans (Onl.of_gr gri g)) hne.symm), HO2.out.trans (HF.out.2.trans (Onl.of_gr gri g))⟩
     case measure => simp [intOf] <;> omega
    ·have e2 : ¬ (l : Int) ≤ (o : Int) := by omega
     obtain ⟨ao, hao⟩ : ∃ ao, a + o = ao := ⟨_, rfl⟩
     have rao : (a : Int) + (o : Int) = (ao : Int) := by omega
     have wao : IntKind.i64.wrap (ao : Int) = (ao : Int) := wrapS ao (by omega)
     have bao : (ao : Int) < (n : Int) := by omega
     have c0 := HSA3.cell kq ix (by omega)
     have c1 := HSA3.cell kq ao (by omega)
     have bix : (ix : Int) < (n : Int) := by omega
     go_wp2
     refine wp_region_treeJ ⟨fun w' => Gr W2 w', true, fun _ _ h => h, fun _ _ _ h g => h.trans g⟩ rfl (Gr.of ((Below.refl _ _).drew)) [2, 3, 4, 5] [0, 1, 6, 7, 8, 9, 10, 11, 12, 13, 14, 15] 4 17 (by kernel_rfl) (by kernel_rfl) ?_
     simp only [pick, List.drop, List.take, List.nil_append, List.cons_append]
     refine wpPure_step (.slice (some ⟨g, 0, none⟩) n c) rfl (fun w => by go_simp) ?_
     simp only [Act.put, stA, List.set]
     refine wpPure_step (.int .i64 (a : Int)) rfl (fun w => by go_simp) ?_
     simp only [Act.put, stA, List.set]
     refine wpPure_step (.int .i64 (o : Int)) rfl (fun w => by go_simp) ?_
     simp only [Act.put, stA, List.set]
     refine wpPure_step (.int .i64 (ao : Int)) rfl (fun w => by go_simp) ?_
     simp only [Act.put, stA, List.set]
     show wpCalm _ _ _ _ _ _
     repeat (refine wpCalm_step (fun K hK => ?_); go_simp; first | (refine hK _ ?_; clear hK K) | (apply Exists.intro; refine ⟨fun _ => ?_, hK _ ?_⟩; (skip); clear hK K))
     refine wpCalm_nil ?_
     refine fg_one 16 (by kernel_rfl) ?_
     refine fg_pure (.pointer (some ⟨g, ix, none⟩)) rfl rfl rfl (fun w => by go_simp) ?_
     simp only [Act.put, stA, List.set]
     refine fg_one 17 (by kernel_rfl) ?_
     refine fg_effN rfl rfl rfl (fun w1 hw1 => ?_)
     have sa1 := SA.gr HSA3 hw1
     have t0 := sa1.cell kq ix (by have := hyl; omega)
     have t1 := sa1.frozen ix
     haveI oG : Old g w1 := ⟨sa1.lt⟩
     have hrun := st_run kq tq g ix w1 ((at0 ys ao)) (by assumption) (by assumption)
     refine effAt_stS rfl rfl rfl hrun ⟨⟨fun w2 => SA base w2 g n c (ys.set ix (at0 ys ao)) ∧ Onl W2 w2 g, false, fun e => Bool.noConfusion e, fun e => Bool.noConfusion e⟩, ⟨sa1.put kq ix _ (by have := hyl; omega), (Onl.of_gr hw1 g).trans (Onl.set _ g ix _)⟩, fun e => absurd rfl e, ?_⟩
     clear oG sa1 t0 t1 hrun hw1 w1
     try simp only [Act.put, stA, List.set]
     refine fg_one 18 (by kernel_rfl) ?_
     refine fg_pure (.pointer (some ⟨g, ao, none⟩)) rfl rfl rfl (fun w => by go_simp) ?_
     simp only [Act.put, stA, List.set]
     refine fg_one 19 (by kernel_rfl) ?_
     refine fg_effN rfl rfl rfl (fun w1 hw1 => ?_)
     have t0 := hw1.1.cell kq ao (by rw [List.length_set]; have := hyl; omega)
     have t1 := hw1.1.frozen ao
     haveI oG : Old g w1 := ⟨hw1.1.lt⟩
     have hrun := st_run kq tq g ao w1 ((at0 ys ix)) (by assumption) (by assumption)
     refine effAt_stS rfl rfl rfl hrun ⟨⟨fun w2 => SA base w2 g n c (swp ys ix ao) ∧ Onl W2 w2 g, false, fun e => Bool.noConfusion e, fun e => Bool.noConfusion e⟩, ⟨hw1.1.put kq ao _ (by rw [List.length_set]; have := hyl; omega), hw1.2.trans (Onl.set _ g ao _)⟩, fun _ e => Bool.noConfusion e, ?_⟩
     clear oG t0 t1 hrun hw1 w1
     refine fg_end (by kernel_rfl) (fun w5 hw5 => ?_)
     try simp only [Act.put]
     have HF := hd_ hw5
     clear hw5
     go_wp2
     go_roundw
     case rel => exact ⟨ix + 1, swp ys ix ao, by omega, by omega, by go_num, HF.out.1.gr gri, .swap HRP.out ix ao (by omega) (by omega) (by omega) (by omega) (by omega), z9, (blk_onl HBS.out (HF.out.2.trans (Onl.of_gr gri g)) hne.symm), HO2.out.trans (HF.out.2.trans (Onl.of_gr gri g))⟩
     case measure => simp [intOf] <;> omega
   ·have e1 : ¬ (ix : Int) ≤ (hi : Int) := by omega
    clear hsa hrp ho hbs
    go_wp2
    exact ⟨rfl, .tuple #[], by simp [results, go_sem], ⟨rfl, ys, HSA.out.gr gri, HRP.out, HO.out.trans (Onl.of_gr gri g)⟩⟩
def Abv (xs : List Int) (a b : Nat) : Prop := ∀ k m, m + 1 = a → a ≤ k → k < b → at0 xs m ≤ at0 xs k
theorem Abv.rp {xs ys : List Int} {a b : Nat} (h : Abv xs a b) (r : RP a b xs ys) : Abv ys a b := fun k m h1 h2 h3 => by
 obtain ⟨q, q1, q2, e⟩ := r.from_ k h2 h3
 rw [e, r.out m (.inl (by omega))]
 exact h q m h1 q1 q2
def PiPost (base : Bs) (g n c : Nat) (xs : List Int) (a b : Nat) (w : World) (e : Ending) (w' : World) : Prop := ∃ (r : Bool) (ys : List Int), e = .returned (.bool r) ∧ SA base w' g n c ys ∧ RP a b xs ys ∧ (r = true → Srt ys a b) ∧ Onl w w' g
theorem partins_any {F : Nat} (base : Bs) (g n c : Nat) (xs : List Int) (a b : Nat) (w : World) (h : SA base w g n c xs) (hn : n ≤ 1000000) (hab : a + 2 ≤ b) (hb : b ≤ n) (hA : Abv xs a b) (hq : base.is 123 134 F := by first | exact .inl ⟨by assumption, by assumption, rfl⟩ | exact .inr ⟨by assumption, by assumption, rfl⟩) :
  Calls Tryz.prog F #[.slice (some ⟨g, 0, none⟩) n c, .int .i64 (a : Int), .int .i64 (b : Int)] w (PiPost base g n c xs a b w) := by
 rcases hq with ⟨kq, tq, rfl⟩ | ⟨kq, tq, rfl⟩
 all_goals
  have H := hd_ h
  have HAB := hd_ hA
  clear h hA
  obtain ⟨l, hl⟩ : ∃ l, b - a = l := ⟨_, rfl⟩
  have rl : (b : Int) - (a : Int) = (l : Int) := by omega
  have wl : IntKind.i64.wrap (l : Int) = (l : Int) := wrapS l (by omega)
  first | go_enter Tryz.func123, Tryz.ntmps123 | go_enter Tryz.func134, Tryz.ntmps134
  go_wp2
  go_loopw [7, 8] (fun v7 v8 wr => ∃ (i t : Nat) (ys : List Int), a < i ∧ i ≤ b ∧ t ≤ 5 ∧ v7 = .int .i64 (i : Int) ∧ v8 = .int .i64 (t : Int) ∧ SA base wr g n c ys ∧ RP a b xs ys ∧ Srt ys a i ∧ Onl w wr g) (fun _ v _ => 5 - (intOf v).toNat)
  case atStart => exact ⟨a + 1, 0, xs, by omega, by omega, by omega, by go_num, rfl, H.out.gr gri, .refl, Srt.one (Nat.le_refl _), Onl.of_gr gri g⟩
  case round =>
   obtain ⟨i0, t, ys, hi1, hi2, ht, rfl, rfl, hsa, hrp, hs, ho⟩ := hrel
   have HSA := hd_ hsa
   have HRP := hd_ hrp
   have HS := hd_ hs
   have HO := hd_ ho
   have hyl := hsa.len
   haveI : Old g wr := ⟨hsa.lt⟩
   clear hsa hrp hs ho
   by_cases ht5 : t < 5
   ·have et : (t : Int) < 5 := by omega
    obtain ⟨wo, rfl⟩ : ∃ wo : World, wo = wr := ⟨_, rfl⟩
    go_upto_block 2 with fail
    go_cut [7] from 13 to 132 (fun v7 wx => ∃ i : Nat, i0 ≤ i ∧ i ≤ b ∧ v7 = .int .i64 (i : Int) ∧ Srt ys a i ∧ Gr wo wx)
    case first =>
     go_wp2_with fail
     go_loopw [7] (fun v7 wr => ∃ i : Nat, i0 ≤ i ∧ i ≤ b ∧ v7 = .int .i64 (i : Int) ∧ Srt ys a i ∧ Gr wo wr) (fun v _ => b - (intOf v).toNat)
     case atStart => exact ⟨i0, Nat.le_refl _, hi2, rfl, HS.out, gri⟩
     case round =>
      obtain ⟨i, q1, q2, rfl, hs, hg⟩ := hrel
      have HS2 := hd_ hs
      have HG := hd_ hg
      have hsa := HSA.out.gr hg
      haveI := grc_of hg
      haveI : Old g wr := ⟨hsa.lt⟩
      obtain ⟨m, hmi⟩ : ∃ m, m + 1 = i := ⟨i - 1, by omega⟩
      have him : (i : Int) - 1 = (m : Int) := by omega
      have wm : IntKind.i64.wrap (m : Int) = (m : Int) := wrapS m (by omega)
      by_cases hib : i < b
      ·have e1 : (i : Int) < (b : Int) := by omega
       have c0 := hsa.cell kq i (by omega)
       have c1 := hsa.cell kq m (by omega)
       have b0 : (i : Int) < (n : Int) := by omega
       have b1 : (m : Int) < (n : Int) := by omega
       clear hs hg hsa
       by_cases hlt : at0 ys i < at0 ys m
       ·have HL := hd_ (fun W => less_yes kq hlt W)
        clear hlt
        go_wp2
        refine wp_region_grow (by kernel_rfl) (by kernel_rfl) ?_
        repeat (go_big_quiet_step ((first | ((first | go_at_call 124 | go_at_call 135); exact grow_call (HL.out _)))))
        refine wpQuiet_nil ?_
        intro g1
        go_wp2
        go_meet
        case rel => exact ⟨i, q1, q2, rfl, HS2.out, HG.out.trans gri⟩
       ·have HL := hd_ (fun W => less_no kq hlt W)
        have HS3 := hd_ (HS2.out.more hmi (by omega) hlt)
        clear hlt
        go_wp2
        refine wp_region_grow (by kernel_rfl) (by kernel_rfl) ?_
        repeat (go_big_quiet_step ((first | ((first | go_at_call 124 | go_at_call 135); exact grow_call (HL.out _)))))
        refine wpQuiet_nil ?_
        intro g1
        go_wp2
        go_roundw
        case rel => exact ⟨i + 1, by omega, by omega, by go_num, HS3.out, HG.out.trans gri⟩
        case measure => simp [intOf] <;> omega
      ·have e1 : ¬ (i : Int) < (b : Int) := by omega
       clear hs hg hsa
       go_wp2
       refine wp_region_grow (by kernel_rfl) (by kernel_rfl) ?_
       repeat (go_big_quiet_step (fail))
       refine wpQuiet_nil ?_
       intro g1
       go_wp2
       go_meet
       case rel => exact ⟨i, q1, q2, rfl, HS2.out, HG.out.trans gri⟩
    case rest =>
     obtain ⟨i, q1, q2, rfl, hs, hg⟩ := hcut
     have HS2 := hd_ hs
     have HG := hd_ hg
     haveI := grc_of hg
     by_cases hib : i = b
     ·have e1 : ((i : Int) == (b : Int)) = true := by simp [hib]
      have HS3 := hd_ (show Srt ys a b from by rw [← hib]; exact HS2.out)
      clear hs hg
      go_wp2
      go_ret
      exact ⟨true, ys, rfl, (HSA.out.gr HG.out).gr gri, HRP.out, fun _ => HS3.out, HO.out.trans ((Onl.of_gr HG.out g).trans (Onl.of_gr gri g))⟩
     ·have e1 : ((i : Int) == (b : Int)) = false := by simp; omega
      by_cases h50 : l < 50
      ·have e50 : (l : Int) < 50 := by omega
       clear hs hg
       go_wp2
       go_ret
       exact ⟨false, ys, rfl, (HSA.out.gr HG.out).gr gri, HRP.out, fun h => (by cases h), HO.out.trans ((Onl.of_gr HG.out g).trans (Onl.of_gr gri g))⟩
      ·have e50 : ¬ (l : Int) < 50 := by omega
       have HSA3 := HSA.out.gr hg
       haveI : Old g wc := ⟨HSA3.lt⟩
       obtain ⟨m, hmi⟩ : ∃ m, m + 1 = i := ⟨i - 1, by omega⟩
       have him : (i : Int) - 1 = (m : Int) := by omega
       have wm : IntKind.i64.wrap (m : Int) = (m : Int) := wrapS m (by omega)
       have c0 := HSA3.cell kq i (by omega)
       have c1 := HSA3.cell kq m (by omega)
       have b0 : (i : Int) < (n : Int) := by omega
       have b1 : (m : Int) < (n : Int) := by omega
       clear hs hg
       go_wp2
       refine wp_region_treeJ ⟨fun w' => Gr wc w', true, fun _ _ h => h, fun _ _ _ h g => h.trans g⟩ rfl (Gr.of ((Below.refl _ _).drew)) [2, 3, 4] [0, 1, 5, 6, 7, 8, 9, 10, 11, 12, 13] 4 15 (by kernel_rfl) (by kernel_rfl) ?_
       simp only [pick, List.drop, List.take, List.nil_append, List.cons_append]
       refine wpPure_step (.slice (some ⟨g, 0, none⟩) n c) rfl (fun w => by go_simp) ?_
       simp only [Act.put, stA, List.set]
       refine wpPure_step (.int .i64 (i : Int)) rfl (fun w => by go_simp) ?_
       simp only [Act.put, stA, List.set]
       refine wpPure_step (.int .i64 (m : Int)) rfl (fun w => by go_simp) ?_
       simp only [Act.put, stA, List.set]
       show wpCalm _ _ _ _ _ _
       repeat (refine wpCalm_step (fun K hK => ?_); go_simp; first | (refine hK _ ?_; clear hK K) | (apply Exists.intro; refine ⟨fun _ => ?_, hK _ ?_⟩; (skip); clear hK K))
       refine wpCalm_nil ?_
       refine fg_one 14 (by kernel_rfl) ?_
       refine fg_pure (.pointer (some ⟨g, i, none⟩)) rfl rfl rfl (fun w => by go_simp) ?_
       simp only [Act.put, stA, List.set]
       refine fg_one 15 (by kernel_rfl) ?_
       refine fg_effN rfl rfl rfl (fun w1 hw1 => ?_)
       have sa1 := SA.gr HSA3 hw1
       have t0 := sa1.cell kq i (by have := hyl; omega)
       have t1 := sa1.frozen i
       haveI oG : Old g w1 := ⟨sa1.lt⟩
       have hrun := st_run kq tq g i w1 ((at0 ys m)) (by assumption) (by assumption)
       refine effAt_stS rfl rfl rfl hrun ⟨⟨fun w2 => SA base w2 g n c (ys.set i (at0 ys m)) ∧ Onl wc w2 g, false, fun e => Bool.noConfusion e, fun e => Bool.noConfusion e⟩, ⟨sa1.put kq i _ (by have := hyl; omega), (Onl.of_gr hw1 g).trans (Onl.set _ g i _)⟩, fun e => absurd rfl e, ?_⟩
       clear oG sa1 t0 t1 hrun hw1 w1
       try simp only [Act.put, stA, List.set]
       refine fg_one 16 (by kernel_rfl) ?_
       refine fg_pure (.pointer (some ⟨g, m, none⟩)) rfl rfl rfl (fun w => by go_simp) ?_
       simp only [Act.put, stA, List.set]
       refine fg_one 17 (by kernel_rfl) ?_
       refine fg_effN rfl rfl rfl (fun w1 hw1 => ?_)
       have t0 := hw1.1.cell kq m (by rw [List.length_set]; have := hyl; omega)
       have t1 := hw1.1.frozen m
       haveI oG : Old g w1 := ⟨hw1.1.lt⟩
       have hrun := st_run kq tq g m w1 ((at0 ys i)) (by assumption) (by assumption)
       refine effAt_stS rfl rfl rfl hrun ⟨⟨fun w2 => SA base w2 g n c (swp ys i m) ∧ Onl wc w2 g, false, fun e => Bool.noConfusion e, fun e => Bool.noConfusion e⟩, ⟨hw1.1.put kq m _ (by rw [List.length_set]; have := hyl; omega), hw1.2.trans (Onl.set _ g m _)⟩, fun _ e => Bool.noConfusion e, ?_⟩
       clear oG t0 t1 hrun hw1 w1
       refine fg_end (by kernel_rfl) (fun w5 hw5 => ?_)
       try simp only [Act.put]
       obtain ⟨Z, hZ⟩ : ∃ Z, Z = swp ys i m := ⟨_, rfl⟩
       rw [← hZ] at hw5
       have hzl : Z.length = n := by rw [hZ, swp_len, hyl]
       have HRZ := hd_ (show RP a b xs Z from by rw [hZ]; exact .swap HRP.out i m (by omega) (by omega) (by omega) (by omega) (by omega))
       have HIZ := hd_ (show Ins Z a m m from fun p q h1 h2 h3 h4 => by
        rw [hZ, at0_swp (by omega) (by omega), at0_swp (by omega) (by omega), if_neg (by omega), if_neg (by omega), if_neg (by omega), if_neg (by omega)]
        exact HS2.out p q h1 h2 (by omega))
       have HSZ := hd_ hw5.1
       have HOZ := hd_ (HO.out.trans ((Onl.of_gr HG.out g).trans hw5.2))
       haveI : Old g w5 := ⟨hw5.1.lt⟩
       clear hw5 hZ c0 c1 HSA3
       obtain ⟨wz, rfl⟩ : ∃ wz : World, wz = w5 := ⟨_, rfl⟩
       obtain ⟨d, hd⟩ : ∃ d, i - a = d := ⟨_, rfl⟩
       have rd : (i : Int) - (a : Int) = (d : Int) := by omega
       have wd : IntKind.i64.wrap (d : Int) = (d : Int) := wrapS d (by omega)
       go_upto_if 61 with fail
       go_cut [9] from 13 to 132 (fun v9 wx => ∃ zs : List Int, SA base wx g n c zs ∧ RP a b xs zs ∧ Srt zs a i ∧ Onl w wx g)
       case first =>
        by_cases hd2 : 2 ≤ d
        ·have ed : (2 : Int) ≤ (d : Int) := by omega
         go_wp2_with fail
         go_loopw [9] (fun v9 wr => ∃ (j : Nat) (zs : List Int), a ≤ j ∧ j ≤ m ∧ v9 = .int .i64 (j : Int) ∧ SA base wr g n c zs ∧ RP a b xs zs ∧ Ins zs a m j ∧ Onl w wr g) (fun v _ => (intOf v).toNat)
         case atStart => exact ⟨m, Z, by omega, Nat.le_refl _, rfl, HSZ.out.gr gri, HRZ.out, HIZ.out, HOZ.out.trans (Onl.of_gr gri g)⟩
         case round =>
          clear HSZ HRZ HIZ HOZ
          obtain ⟨j, zs, hj1, hj2, rfl, hsa, hrp, hin, ho⟩ := hrel
          have HSA2 := hd_ hsa
          have HRP2 := hd_ hrp
          have HIN := hd_ hin
          have HO2 := hd_ ho
          have hzl := hsa.len
          haveI : Old g wr := ⟨hsa.lt⟩
          by_cases hj0 : 1 ≤ j
          ·have ej : (1 : Int) ≤ (j : Int) := by omega
           obtain ⟨m9, hmj⟩ : ∃ m9, m9 + 1 = j := ⟨j - 1, by omega⟩
           have c0 := hsa.cell kq j (by omega)
           have c1 := hsa.cell kq m9 (by omega)
           have hjm : (j : Int) - 1 = (m9 : Int) := by omega
           have hw1 : IntKind.i64.wrap (m9 : Int) = (m9 : Int) := wrapS m9 (by omega)
           have hm1 : (m9 : Int) < (n : Int) := by omega
           have hm2 : (j : Int) < (n : Int) := by omega
           clear hsa hrp hin ho
           by_cases hlt : at0 zs j < at0 zs m9
           ·have hja : a < j := by
             rcases Nat.lt_or_ge a j with h | h
             ·exact h
             ·have h9 := HAB.out.rp HRP2.out j m9 (by omega) hj1 (by omega)
              omega
            have HL := hd_ (fun W => less_yes kq hlt W)
            have HLT := hd_ hlt
            clear hlt
            go_wp2
            refine wp_region_grow (by kernel_rfl) (by kernel_rfl) ?_
            repeat (go_big_quiet_step ((first | ((first | go_at_call 124 | go_at_call 135); exact grow_call (HL.out _)))))
            refine wpQuiet_nil ?_
            intro g1
            go_wp2
            have HSA3 := HSA2.out.gr (gri : Gr wr (grown wr g1))
            refine wp_region_treeJ ⟨fun w' => Gr (grown wr g1) w', true, fun _ _ h => h, fun _ _ _ h g => h.trans g⟩ rfl (Gr.of ((Below.refl _ _).drew)) [2, 3, 4] [0, 1, 5, 6, 7, 8, 9, 10, 11, 12, 13] 4 15 (by kernel_rfl) (by kernel_rfl) ?_
            simp only [pick, List.drop, List.take, List.nil_append, List.cons_append]
            refine wpPure_step (.slice (some ⟨g, 0, none⟩) n c) rfl (fun w => by go_simp) ?_
            simp only [Act.put, stA, List.set]
            refine wpPure_step (.int .i64 (j : Int)) rfl (fun w => by go_simp) ?_
            simp only [Act.put, stA, List.set]
            refine wpPure_step (.int .i64 (m9 : Int)) rfl (fun w => by go_simp) ?_
            simp only [Act.put, stA, List.set]
            show wpCalm _ _ _ _ _ _
            repeat (refine wpCalm_step (fun K hK => ?_); go_simp; first | (refine hK _ ?_; clear hK K) | (apply Exists.intro; refine ⟨fun _ => ?_, hK _ ?_⟩; (skip); clear hK K))
            refine wpCalm_nil ?_
            refine fg_one 14 (by kernel_rfl) ?_
            refine fg_pure (.pointer (some ⟨g, j, none⟩)) rfl rfl rfl (fun w => by go_simp) ?_
            simp only [Act.put, stA, List.set]
            refine fg_one 15 (by kernel_rfl) ?_
            refine fg_effN rfl rfl rfl (fun w1 hw1 => ?_)
            have sa1 := SA.gr HSA3 hw1
            have t0 := sa1.cell kq j (by have := hzl; omega)
            have t1 := sa1.frozen j
            haveI oG : Old g w1 := ⟨sa1.lt⟩
            have hrun := st_run kq tq g j w1 ((at0 zs m9)) (by assumption) (by assumption)
            refine effAt_stS rfl rfl rfl hrun ⟨⟨fun w2 => SA base w2 g n c (zs.set j (at0 zs m9)) ∧ Onl (grown wr g1) w2 g, false, fun e => Bool.noConfusion e, fun e => Bool.noConfusion e⟩, ⟨sa1.put kq j _ (by have := hzl; omega), (Onl.of_gr hw1 g).trans (Onl.set _ g j _)⟩, fun e => absurd rfl e, ?_⟩
            clear oG sa1 t0 t1 hrun hw1 w1
            try simp only [Act.put, stA, List.set]
            refine fg_one 16 (by kernel_rfl) ?_
            refine fg_pure (.pointer (some ⟨g, m9, none⟩)) rfl rfl rfl (fun w => by go_simp) ?_
            simp only [Act.put, stA, List.set]
            refine fg_one 17 (by kernel_rfl) ?_
            refine fg_effN rfl rfl rfl (fun w1 hw1 => ?_)
            have t0 := hw1.1.cell kq m9 (by rw [List.length_set]; have := hzl; omega)
            have t1 := hw1.1.frozen m9
            haveI oG : Old g w1 := ⟨hw1.1.lt⟩
            have hrun := st_run kq tq g m9 w1 ((at0 zs j)) (by assumption) (by assumption)
            refine effAt_stS rfl rfl rfl hrun ⟨⟨fun w2 => SA base w2 g n c (swp zs j m9) ∧ Onl (grown wr g1) w2 g, false, fun e => Bool.noConfusion e, fun e => Bool.noConfusion e⟩, ⟨hw1.1.put kq m9 _ (by rw [List.length_set]; have := hzl; omega), hw1.2.trans (Onl.set _ g m9 _)⟩, fun _ e => Bool.noConfusion e, ?_⟩
            clear oG t0 t1 hrun hw1 w1
            refine fg_end (by kernel_rfl) (fun w5 hw5 => ?_)
            try simp only [Act.put]
            have HF := hd_ hw5
            clear hw5
            go_wp2
            go_roundw
            case rel =>
             have e : m9 = j - 1 := by omega
             subst e
             exact ⟨j - 1, by omega, by omega, by first | rfl | omega, swp zs j (j - 1), HF.out.1.gr gri, .swap HRP2.out j (j - 1) (by omega) (by omega) (by omega) (by omega) (by omega), ins_step HIN.out hja hj2 (by omega) HLT.out, (HO2.out.trans (Onl.of_gr gri g)).trans (HF.out.2.trans (Onl.of_gr gri g))⟩
            case measure => simp [intOf] <;> omega
           ·have HL := hd_ (fun W => less_no kq hlt W)
            have HIE := hd_ (show Srt zs a i from by
             have := ins_end HIN.out hj2 (.inr (by rw [← hmj, Nat.add_sub_cancel, hmj]; exact hlt))
             rwa [hmi] at this)
            clear hlt
            go_wp2
            refine wp_region_grow (by kernel_rfl) (by kernel_rfl) ?_
            repeat (go_big_quiet_step ((first | ((first | go_at_call 124 | go_at_call 135); exact grow_call (HL.out _)))))
            refine wpQuiet_nil ?_
            intro g1
            go_wp2
            go_meet
            case rel => exact ⟨zs, HSA2.out.gr gri, HRP2.out, HIE.out, HO2.out.trans (Onl.of_gr gri g)⟩
          ·have ej : ¬ (1 : Int) ≤ (j : Int) := by omega
           have HIE := hd_ (show Srt zs a i from by
            have := ins_end HIN.out hj2 (.inl (by omega))
            rwa [hmi] at this)
           clear hsa hrp hin ho
           go_wp2
           go_meet
           case rel => exact ⟨zs, HSA2.out.gr gri, HRP2.out, HIE.out, HO2.out.trans (Onl.of_gr gri g)⟩
        ·have ed : ¬ (2 : Int) ≤ (d : Int) := by omega
         go_wp2_with fail
         go_meet
         case rel => exact ⟨Z, HSZ.out.gr gri, HRZ.out, Srt.one (by omega), HOZ.out.trans (Onl.of_gr gri g)⟩
       case rest =>
        obtain ⟨zs, hsa, hrp, hs, ho⟩ := hcut
        have HSA2 := hd_ hsa
        have HRP2 := hd_ hrp
        have HS5 := hd_ hs
        have HO2 := hd_ ho
        haveI : Old g wc := ⟨hsa.lt⟩
        clear hsa hrp hs ho HSZ HRZ HIZ HOZ
        obtain ⟨wy, rfl⟩ : ∃ wy : World, wy = wc := ⟨_, rfl⟩
        obtain ⟨f, hf⟩ : ∃ f, b - i = f := ⟨_, rfl⟩
        have rf : (b : Int) - (i : Int) = (f : Int) := by omega
        have wf : IntKind.i64.wrap (f : Int) = (f : Int) := wrapS f (by omega)
        by_cases hd2 : 2 ≤ f
        ·have ed : (2 : Int) ≤ (f : Int) := by omega
         go_wp2_with fail
         go_loopw [10] (fun v10 wr => ∃ (j : Nat) (zs : List Int), i < j ∧ j ≤ b ∧ v10 = .int .i64 (j : Int) ∧ SA base wr g n c zs ∧ RP a b xs zs ∧ Srt zs a i ∧ Onl w wr g) (fun v _ => b - (intOf v).toNat)
         case atStart => exact ⟨i + 1, zs, by omega, by omega, by go_num, HSA2.out.gr gri, HRP2.out, HS5.out, HO2.out.trans (Onl.of_gr gri g)⟩
         case round =>
          clear HSA2 HRP2 HS5 HO2 zs
          obtain ⟨j, zs, hj1, hj2, rfl, hsa, hrp, hin, ho⟩ := hrel
          have HSA2 := hd_ hsa
          have HRP2 := hd_ hrp
          have HIN := hd_ hin
          have HO2 := hd_ ho
          have hzl := hsa.len
          haveI : Old g wr := ⟨hsa.lt⟩
          by_cases hjb : j < b
          ·have ej : (j : Int) < (b : Int) := by omega
           obtain ⟨m9, hmj⟩ : ∃ m9, m9 + 1 = j := ⟨j - 1, by omega⟩
           have c0 := hsa.cell kq j (by omega)
           have c1 := hsa.cell kq m9 (by omega)
           have hjm : (j : Int) - 1 = (m9 : Int) := by omega
           have hw1 : IntKind.i64.wrap (m9 : Int) = (m9 : Int) := wrapS m9 (by omega)
           have hm1 : (m9 : Int) < (n : Int) := by omega
           have hm2 : (j : Int) < (n : Int) := by omega
           clear hsa hrp hin ho
           by_cases hlt : at0 zs j < at0 zs m9
           ·have HL := hd_ (fun W => less_yes kq hlt W)
            have HSF := hd_ (HIN.out.far (u := j) (v := m9) (by omega) (by omega) (by omega) (by omega))
            clear hlt
            go_wp2
            refine wp_region_grow (by kernel_rfl) (by kernel_rfl) ?_
            repeat (go_big_quiet_step ((first | ((first | go_at_call 124 | go_at_call 135); exact grow_call (HL.out _)))))
            refine wpQuiet_nil ?_
            intro g1
            go_wp2
            have HSA3 := HSA2.out.gr (gri : Gr wr (grown wr g1))
            refine wp_region_treeJ ⟨fun w' => Gr (grown wr g1) w', true, fun _ _ h => h, fun _ _ _ h g => h.trans g⟩ rfl (Gr.of ((Below.refl _ _).drew)) [2, 3, 4] [0, 1, 5, 6, 7, 8, 9, 10, 11, 12, 13] 4 15 (by kernel_rfl) (by kernel_rfl) ?_
            simp only [pick, List.drop, List.take, List.nil_append, List.cons_append]
            refine wpPure_step (.slice (some ⟨g, 0, none⟩) n c) rfl (fun w => by go_simp) ?_
            simp only [Act.put, stA, List.set]
            refine wpPure_step (.int .i64 (j : Int)) rfl (fun w => by go_simp) ?_
            simp only [Act.put, stA, List.set]
            refine wpPure_step (.int .i64 (m9 : Int)) rfl (fun w => by go_simp) ?_
            simp only [Act.put, stA, List.set]
            show wpCalm _ _ _ _ _ _
            repeat (refine wpCalm_step (fun K hK => ?_); go_simp; first | (refine hK _ ?_; clear hK K) | (apply Exists.intro; refine ⟨fun _ => ?_, hK _ ?_⟩; (skip); clear hK K))
            refine wpCalm_nil ?_
            refine fg_one 14 (by kernel_rfl) ?_
            refine fg_pure (.pointer (some ⟨g, j, none⟩)) rfl rfl rfl (fun w => by go_simp) ?_
            simp only [Act.put, stA, List.set]
            refine fg_one 15 (by kernel_rfl) ?_
            refine fg_effN rfl rfl rfl (fun w1 hw1 => ?_)
            have sa1 := SA.gr HSA3 hw1
            have t0 := sa1.cell kq j (by have := hzl; omega)
            have t1 := sa1.frozen j
            haveI oG : Old g w1 := ⟨sa1.lt⟩
            have hrun := st_run kq tq g j w1 ((at0 zs m9)) (by assumption) (by assumption)
            refine effAt_stS rfl rfl rfl hrun ⟨⟨fun w2 => SA base w2 g n c (zs.set j (at0 zs m9)) ∧ Onl (grown wr g1) w2 g, false, fun e => Bool.noConfusion e, fun e => Bool.noConfusion e⟩, ⟨sa1.put kq j _ (by have := hzl; omega), (Onl.of_gr hw1 g).trans (Onl.set _ g j _)⟩, fun e => absurd rfl e, ?_⟩
            clear oG sa1 t0 t1 hrun hw1 w1
            try simp only [Act.put, stA, List.set]
            refine fg_one 16 (by kernel_rfl) ?_
            refine fg_pure (.pointer (some ⟨g, m9, none⟩)) rfl rfl rfl (fun w => by go_simp) ?_
            simp only [Act.put, stA, List.set]
            refine fg_one 17 (by kernel_rfl) ?_
            refine fg_effN rfl rfl rfl (fun w1 hw1 => ?_)
            have t0 := hw1.1.cell kq m9 (by rw [List.length_set]; have := hzl; omega)
            have t1 := hw1.1.frozen m9
            haveI oG : Old g w1 := ⟨hw1.1.lt⟩
            have hrun := st_run kq tq g m9 w1 ((at0 zs j)) (by assumption) (by assumption)
            refine effAt_stS rfl rfl rfl hrun ⟨⟨fun w2 => SA base w2 g n c (swp zs j m9) ∧ Onl (grown wr g1) w2 g, false, fun e => Bool.noConfusion e, fun e => Bool.noConfusion e⟩, ⟨hw1.1.put kq m9 _ (by rw [List.length_set]; have := hzl; omega), hw1.2.trans (Onl.set _ g m9 _)⟩, fun _ e => Bool.noConfusion e, ?_⟩
            clear oG t0 t1 hrun hw1 w1
            refine fg_end (by kernel_rfl) (fun w5 hw5 => ?_)
            try simp only [Act.put]
            have HF := hd_ hw5
            clear hw5
            go_wp2
            go_roundw
            case rel => exact ⟨j + 1, swp zs j m9, by omega, by omega, by go_num, HF.out.1.gr gri, .swap HRP2.out j m9 (by omega) (by omega) (by omega) (by omega) (by omega), HSF.out, (HO2.out.trans (Onl.of_gr gri g)).trans (HF.out.2.trans (Onl.of_gr gri g))⟩
            case measure => simp [intOf] <;> omega
           ·have HL := hd_ (fun W => less_no kq hlt W)
            clear hlt
            go_wp2
            refine wp_region_grow (by kernel_rfl) (by kernel_rfl) ?_
            repeat (go_big_quiet_step ((first | ((first | go_at_call 124 | go_at_call 135); exact grow_call (HL.out _)))))
            refine wpQuiet_nil ?_
            intro g1
            go_wp2
            go_roundw
            case rel => exact ⟨i, t + 1, zs, by omega, by omega, by omega, rfl, by go_num, HSA2.out.gr gri, HRP2.out, HIN.out, HO2.out.trans (Onl.of_gr gri g)⟩
            case measure => simp [intOf] <;> omega
          ·have ej : ¬ (j : Int) < (b : Int) := by omega
           clear hsa hrp hin ho
           go_wp2
           go_roundw
           case rel => exact ⟨i, t + 1, zs, by omega, by omega, by omega, rfl, by go_num, HSA2.out.gr gri, HRP2.out, HIN.out, HO2.out.trans (Onl.of_gr gri g)⟩
           case measure => simp [intOf] <;> omega
        ·have ed : ¬ (2 : Int) ≤ (f : Int) := by omega
         go_wp2_with fail
         go_roundw
         case rel => exact ⟨i, t + 1, zs, by omega, by omega, by omega, rfl, by go_num, HSA2.out.gr gri, HRP2.out, HS5.out, HO2.out.trans (Onl.of_gr gri g)⟩
         case measure => simp [intOf] <;> omega
   ·have et : ¬ (t : Int) < 5 := by omega
    go_wp2
    go_ret
    exact ⟨false, ys, rfl, HSA.out.gr gri, HRP.out, fun h => (by cases h), HO.out.trans (Onl.of_gr gri g)⟩
theorem Abv.less {xs : List Int} {a b b2 : Nat} (h : Abv xs a b) (hb : b2 ≤ b) : Abv xs a b2 := fun k m h1 h2 h3 => h k m h1 h2 (by omega)
theorem abv_of {xs ys : List Int} {a b c d : Nat} (h : Abv xs a b) (r : RP a b xs ys) (hl : Lft ys a b c d) (hc : a ≤ c) (hd : d ≤ b) : Abv ys c d := fun k m h1 h2 h3 => by
 by_cases e : c = a
 ·subst e
  exact h.rp r k m h1 h2 (by omega)
 ·exact hl m k (by omega) (by omega) (by omega) (by omega)
theorem parted_left {zs ws vs : List Int} {a b c d m : Nat} (hp : Parted zs ws c d m) (hl : Lft ws a b c d) (hr : RP c m ws vs) (hs : Srt vs c m) (ha : a ≤ c) (hb : d ≤ b) (hlen : d ≤ ws.length) : Lft vs a b (m + 1) d := by
 obtain ⟨h1, h2, _, h3, h4⟩ := hp
 refine lft_left (hl.rp (hr.mono (Nat.le_refl _) (by omega) hlen) ha hb) h1 h2 hs (fun k q1 q2 => ?_) (fun k q1 q2 => ?_)
 ·obtain ⟨q, p1, p2, e⟩ := hr.from_ k q1 q2
  rw [e, hr.out m (.inr (Nat.le_refl _))]
  exact h3 q p1 p2
 ·rw [hr.out m (.inr (Nat.le_refl _)), hr.out k (.inr (by omega))]
  exact h4 k q1 q2
theorem parted_right {zs ws vs : List Int} {a b c d m : Nat} (hp : Parted zs ws c d m) (hl : Lft ws a b c d) (hr : RP (m + 1) d ws vs) (hs : Srt vs (m + 1) d) (ha : a ≤ c) (hb : d ≤ b) (hlen : d ≤ ws.length) : Lft vs a b c m := by
 obtain ⟨h1, h2, _, h3, h4⟩ := hp
 refine lft_right (hl.rp (hr.mono (by omega) (Nat.le_refl _) hlen) ha hb) h1 h2 hs (fun k q1 q2 => ?_) (fun k q1 q2 => ?_)
 ·rw [hr.out m (.inl (by omega)), hr.out k (.inl (by omega))]
  exact h3 k q1 q2
 ·obtain ⟨q, p1, p2, e⟩ := hr.from_ k (by omega) q2
  rw [e, hr.out m (.inl (by omega))]
  exact h4 q (by omega) p2
theorem pdq_any {F : Nat} (base : Bs) (g n c : Nat) (hn : n ≤ 256) (hq : base.is 108 111 F := by first | exact .inl ⟨by assumption, by assumption, rfl⟩ | exact .inr ⟨by assumption, by assumption, rfl⟩) : ∀ (N a b lim : Nat) (xs : List Int) (w : World), SA base w g n c xs → a ≤ b → b ≤ n → lim ≤ 1000 → Abv xs a b → b - a = N →
  Calls Tryz.prog F #[.slice (some ⟨g, 0, none⟩) n c, .int .i64 (a : Int), .int .i64 (b : Int), .int .i64 (lim : Int)] w fun e w' => e = .returned (.tuple #[]) ∧ ∃ ys, SA base w' g n c ys ∧ RP a b xs ys ∧ Srt ys a b ∧ Onl w w' g := by
 rcases hq with ⟨kq, tq, rfl⟩ | ⟨kq, tq, rfl⟩
 all_goals as_aux_lemma =>
  intro N
  induction N using Nat.strongRecOn with
  | _ N ih =>
  intro a b lim0 xs w h hab hb hlim hA hN
  have H := hd_ h
  have HA := hd_ hA
  clear h hA
  first | go_enter Tryz.func108, Tryz.ntmps108 | go_enter Tryz.func111, Tryz.ntmps111
  go_wp2
  go_loopw [1, 2, 3, 8, 9] (fun v1 v2 v3 v8 v9 wr => ∃ (a1 b1 lim : Nat) (p q : Bool) (ys : List Int), a ≤ a1 ∧ a1 ≤ b1 ∧ b1 ≤ b ∧ lim ≤ 1000 ∧ v1 = .int .i64 (a1 : Int) ∧ v2 = .int .i64 (b1 : Int) ∧ v3 = .int .i64 (lim : Int) ∧ v8 = .bool p ∧ v9 = .bool q ∧ SA base wr g n c ys ∧ RP a b xs ys ∧ Lft ys a b a1 b1 ∧ Onl w wr g) (fun v1 v2 _ _ _ _ => (intOf v2 - intOf v1).toNat)
  case atStart => exact ⟨a, b, lim0, true, true, xs, Nat.le_refl _, hab, Nat.le_refl _, hlim, rfl, rfl, rfl, rfl, rfl, H.out.gr gri, .refl, lft_start _ _ _, Onl.of_gr gri g⟩
  case round =>
   obtain ⟨a1, b1, lim, p, q, ys, ha1, hab1, hb1, hlm, rfl, rfl, rfl, rfl, rfl, hsa, hrp, hlf, ho⟩ := hrel
   have HSY := hd_ hsa
   have HRY := hd_ hrp
   have HLY := hd_ hlf
   have HOY := hd_ ho
   have HAY := hd_ (abv_of HA.out hrp hlf ha1 hb1)
   have hyl := hsa.len
   clear hsa hrp hlf ho
   obtain ⟨l, hl⟩ : ∃ l, b1 - a1 = l := ⟨_, rfl⟩
   have rl : (b1 : Int) - (a1 : Int) = (l : Int) := by omega
   have wl : IntKind.i64.wrap (l : Int) = (l : Int) := wrapS l (by omega)
   by_cases h12 : l ≤ 12
   ·have e12 : (l : Int) ≤ 12 := by omega
    go_wp2_with (first | ((first | go_at_call 118 | go_at_call 129); ((with_reducible refine (insertion_any base g n c ys a1 b1 _ (HSY.out.gr gri) (by omega) hab1 (by omega)).mono ?_); rintro _ W2 ⟨rfl, vs, hsv, hrv, hssv, hov⟩)))
    refine bodyPost_ret (v := .tuple #[]) (by simp [results, go_sem]) rfl ⟨rfl, vs, hsv.gr gri, HRY.out.trans (hrv.mono ha1 hb1 (by have := HRY.out.len; omega)), lft_end (HLY.out.rp hrv ha1 hb1) hssv, (HOY.out.trans (Onl.of_gr gri g)).trans (hov.trans (Onl.of_gr gri g))⟩
   ·have e12 : ¬ (l : Int) ≤ 12 := by omega
    by_cases hl0 : lim = 0
    ·have e0 : ((lim : Int) == 0) = true := by simp [hl0]
     go_wp2_with (first | ((first | go_at_call 119 | go_at_call 130); ((with_reducible refine (heap_any base g n c ys a1 b1 _ (HSY.out.gr gri) (by omega) (by omega) (by omega)).mono ?_); rintro _ W2 ⟨rfl, vs, hsv, hrv, hssv, hov⟩)))
     refine bodyPost_ret (v := .tuple #[]) (by simp [results, go_sem]) rfl ⟨rfl, vs, hsv.gr gri, HRY.out.trans (hrv.mono ha1 hb1 (by have := HRY.out.len; omega)), lft_end (HLY.out.rp hrv ha1 hb1) hssv, (HOY.out.trans (Onl.of_gr gri g)).trans (hov.trans (Onl.of_gr gri g))⟩
    ·have e0 : ((lim : Int) == 0) = false := by simp [hl0]
     go_upto_if 35 with fail
     go_cut [3] from 19 to 133 (fun v3 wx => ∃ (lim2 : Nat) (zs : List Int), lim2 ≤ 1000 ∧ v3 = .int .i64 (lim2 : Int) ∧ SA base wx g n c zs ∧ RP a1 b1 ys zs ∧ Onl w wx g)
     case first =>
      cases p
      ·obtain ⟨lm, hlm1⟩ : ∃ lm, lm + 1 = lim := ⟨lim - 1, by omega⟩
       have rlm : (lim : Int) - 1 = (lm : Int) := by omega
       have wlm : IntKind.i64.wrap (lm : Int) = (lm : Int) := wrapS lm (by omega)
       go_wp2_with (first | ((first | go_at_call 120 | go_at_call 131); ((with_reducible refine (break_any base g n c ys a1 b1 _ (HSY.out.gr gri) hn (by omega) (by omega)).mono ?_); rintro _ W2 ⟨rfl, vs, hsv, hrv, hov⟩)))
       go_meet
       case rel => exact ⟨lm, vs, by omega, rfl, hsv.gr gri, hrv, (HOY.out.trans (Onl.of_gr gri g)).trans (hov.trans (Onl.of_gr gri g))⟩
      ·go_wp2
       go_meet
       case rel => exact ⟨lim, ys, hlm, rfl, HSY.out.gr gri, .refl, HOY.out.trans (Onl.of_gr gri g)⟩
     case rest =>
      clear e0 hl0 hlm
      obtain ⟨lim, zs, hlm, rfl, hsz, hrz, hoz⟩ := hcut
      have HSZ := hd_ hsz
      have HRZ := hd_ hrz
      have HOZ := hd_ hoz
      clear hsz hrz hoz
      go_wp2_with (first | ((first | go_at_call 121 | go_at_call 132); ((with_reducible refine (choose_any base g n c zs a1 b1 _ (HSZ.out.gr gri) (by omega) (by omega) (by omega)).mono ?_))))
      rintro _ _ ⟨p9, t, rfl, hp1, hp2, ht, ⟨g2, rfl⟩⟩
      go_upto_if 50 with fail
      go_cut [11, 12] from 19 to 133 (fun v11 v12 wx => ∃ (pv : Nat) (hint : Int) (us : List Int), a1 ≤ pv ∧ pv < b1 ∧ v11 = .int .i64 (pv : Int) ∧ v12 = .int .i64 hint ∧ SA base wx g n c us ∧ RP a1 b1 zs us ∧ Onl w wx g)
      case first =>
       rcases ht with rfl | rfl | rfl
       ·go_wp2
        go_meet
        case rel => exact ⟨p9, 0, zs, hp1, hp2, rfl, rfl, HSZ.out.gr gri, .refl, HOZ.out.trans (Onl.of_gr gri g)⟩
       ·go_wp2
        go_meet
        case rel => exact ⟨p9, 1, zs, hp1, hp2, rfl, rfl, HSZ.out.gr gri, .refl, HOZ.out.trans (Onl.of_gr gri g)⟩
       ·have hp3 : p9 - a1 < b1 := by omega
        obtain ⟨t1, ht1⟩ : ∃ t1, b1 - 1 = t1 := ⟨_, rfl⟩
        have rt1 : (b1 : Int) - 1 = (t1 : Int) := by omega
        have wt1 : IntKind.i64.wrap (t1 : Int) = (t1 : Int) := wrapS t1 (by omega)
        obtain ⟨t2, ht2⟩ : ∃ t2, p9 - a1 = t2 := ⟨_, rfl⟩
        have rt2 : (p9 : Int) - (a1 : Int) = (t2 : Int) := by omega
        have wt2 : IntKind.i64.wrap (t2 : Int) = (t2 : Int) := wrapS t2 (by omega)
        obtain ⟨t3, ht3⟩ : ∃ t3, t1 - t2 = t3 := ⟨_, rfl⟩
        have rt3 : (t1 : Int) - (t2 : Int) = (t3 : Int) := by omega
        have wt3 : IntKind.i64.wrap (t3 : Int) = (t3 : Int) := wrapS t3 (by omega)
        go_wp2_with (first | ((first | go_at_call 122 | go_at_call 133); ((with_reducible refine (reverse_any base g n c zs a1 b1 _ (HSZ.out.gr gri) (by omega) (by omega) (by omega)).mono ?_); rintro _ W2 ⟨rfl, us, hsu, hru, hou⟩)))
        go_meet
        case rel => exact ⟨t3, 1, us, by omega, by omega, rfl, rfl, hsu.gr gri, hru, (HOZ.out.trans (Onl.of_gr gri g)).trans (hou.trans (Onl.of_gr gri g))⟩
      case rest =>
       clear hp1 hp2 ht
       obtain ⟨pv, hint, us, hpv1, hpv2, rfl, rfl, hsu, hru, hou⟩ := hcut
       have HSU := hd_ hsu
       have HRU := hd_ (HRZ.out.trans hru)
       have HOU := hd_ hou
       clear hsu hru hou HSZ HRZ HOZ
       obtain ⟨wu, rfl⟩ : ∃ wu : World, wu = wc := ⟨_, rfl⟩
       go_upto_region 15 with fail
       go_cut [68] from 19 to 133 (fun v68 wx => ∃ r : Bool, v68 = .bool r ∧ Gr wu wx)
       case first =>
        by_cases hh : hint = 1
        ·have eh : (hint == 1) = true := by simp [hh]
         cases p <;> cases q
         all_goals
          go_wp2
          go_meet
          case rel => exact ⟨_, rfl, gri⟩
        ·have eh : (hint == 1) = false := by simp [hh]
         cases p <;> cases q
         all_goals
          go_wp2
          go_meet
          case rel => exact ⟨_, rfl, gri⟩
       case rest =>
        obtain ⟨r, rfl, hgr⟩ := hcut
        have HSR := hd_ (HSU.out.gr hgr)
        have HOR := hd_ (HOU.out.trans (Onl.of_gr hgr g))
        clear hgr HSU HOU
        obtain ⟨wr9, rfl⟩ : ∃ wr9 : World, wr9 = wc := ⟨_, rfl⟩
        go_upto_if 68 with fail
        go_cut [13] from 19 to 133 (fun v13 wx => ∃ vs : List Int, SA base wx g n c vs ∧ RP a1 b1 ys vs ∧ Onl w wx g)
        case first =>
         cases r
         ·go_wp2
          go_meet
          case rel => exact ⟨us, HSR.out.gr gri, HRU.out, HOR.out.trans (Onl.of_gr gri g)⟩
         ·go_wp2_with (first | ((first | go_at_call 123 | go_at_call 134); ((with_reducible refine (partins_any base g n c us a1 b1 _ (HSR.out.gr gri) (by omega) (by omega) (by omega) (HAY.out.rp HRU.out)).mono ?_))))
          rintro _ W2 ⟨r2, vs, rfl, hsv, hrv, hss, hov⟩
          have HSV := hd_ hsv
          have HRV := hd_ hrv
          have HSS := hd_ hss
          have HOV := hd_ ((HOR.out.trans (Onl.of_gr (gri : Gr wr9 _) g)).trans hov)
          clear hsv hrv hss hov
          cases r2
          ·go_wp2
           go_meet
           case rel => exact ⟨vs, HSV.out.gr gri, HRU.out.trans HRV.out, HOV.out.trans (Onl.of_gr gri g)⟩
          ·go_wp2
           refine bodyPost_ret (v := .tuple #[]) (by simp [results, go_sem]) rfl ⟨rfl, vs, HSV.out.gr gri, HRY.out.trans ((HRU.out.trans HRV.out).mono ha1 hb1 (by have := HRY.out.len; omega)), lft_end (HLY.out.rp (HRU.out.trans HRV.out) ha1 hb1) (HSS.out (by trivial)), HOV.out.trans (Onl.of_gr gri g)⟩
        case rest =>
         obtain ⟨vs, hsv, hrv, hov⟩ := hcut
         have HSA := hd_ hsv
         have HRP := hd_ (HRY.out.trans (hrv.mono ha1 hb1 (by have := HRY.out.len; omega)))
         have HLF := hd_ (HLY.out.rp hrv ha1 hb1)
         have HAB := hd_ (HAY.out.rp hrv)
         have HO := hd_ hov
         have hvl := hsv.len
         haveI : Old g wc := ⟨hsv.lt⟩
         clear HSR HOR HRU HRY HLY HOY HSY HAY hrv hov
         by_cases ha0 : 0 < a1
         ·have ea0 : (0 : Int) < (a1 : Int) := by omega
          obtain ⟨m0, hm0⟩ : ∃ m0, a1 - 1 = m0 := ⟨_, rfl⟩
          have rm0 : (a1 : Int) - 1 = (m0 : Int) := by omega
          have wm0 : IntKind.i64.wrap (m0 : Int) = (m0 : Int) := wrapS m0 (by omega)
          have bm0 : (m0 : Int) < (n : Int) := by omega
          have c0 := hsv.cell kq m0 (by omega)
          have c1 := hsv.cell kq pv (by omega)
          have b1i : (pv : Int) < (n : Int) := by omega
          clear hsv
          by_cases hlt : at0 vs m0 < at0 vs pv
          ·have HL := hd_ (fun W => less_yes kq hlt W)
           clear hlt
           go_wp2
           refine wp_region_grow (by kernel_rfl) (by kernel_rfl) ?_
           repeat (go_big_quiet_step ((first | ((first | go_at_call 124 | go_at_call 135); exact grow_call (HL.out _)))))
           refine wpQuiet_nil ?_
           intro g5
           go_wp2_with (first | ((first | go_at_call 126 | go_at_call 137); ((with_reducible refine (partition_any base g n c vs a1 b1 pv _ (HSA.out.gr gri) (by omega) (by omega) (by omega) hpv1 hpv2).mono ?_))))
           rintro _ W2 ⟨mid, done, ws, rfl, hsw, hpt, how⟩
           have hwl := hsw.len
           have HSW := hd_ hsw
           have HPT := hd_ hpt
           have HOW := hd_ ((HO.out.trans (Onl.of_gr (gri : Gr wc _) g)).trans how)
           have hm1 := hpt.1
           have hm2 := hpt.2.1
           have HRW := hd_ (HRP.out.trans (hpt.2.2.1.mono ha1 hb1 (by have := HRP.out.len; omega)))
           have HLW := hd_ (HLF.out.rp hpt.2.2.1 ha1 hb1)
           have HAW := hd_ (HAB.out.rp hpt.2.2.1)
           clear hsw hpt how
           obtain ⟨ll, hll⟩ : ∃ ll, mid - a1 = ll := ⟨_, rfl⟩
           have rll : (mid : Int) - (a1 : Int) = (ll : Int) := by omega
           have wll : IntKind.i64.wrap (ll : Int) = (ll : Int) := wrapS ll (by omega)
           obtain ⟨rl, hrl⟩ : ∃ rl, b1 - mid = rl := ⟨_, rfl⟩
           have rrl : (b1 : Int) - (mid : Int) = (rl : Int) := by omega
           have wrl : IntKind.i64.wrap (rl : Int) = (rl : Int) := wrapS rl (by omega)
           obtain ⟨mq, hmq⟩ : ∃ mq, mid + 1 = mq := ⟨_, rfl⟩
           have rmq : (mid : Int) + 1 = (mq : Int) := by omega
           have wmq : IntKind.i64.wrap (mq : Int) = (mq : Int) := wrapS mq (by omega)
           obtain ⟨bt, hbt⟩ : ∃ bt, l / 8 = bt := ⟨_, rfl⟩
           have rbt : (l : Int) / 8 = (bt : Int) := by omega
           have wbt : IntKind.i64.wrap (bt : Int) = (bt : Int) := wrapS bt (by omega)
           by_cases hlr : ll < rl
           ·have e5 : (ll : Int) < (rl : Int) := by omega
            have HC := hd_ (fun W (hW : Gr W2 W) => ih (mid - a1) (by omega) a1 mid lim ws W (HSW.out.gr hW) (by omega) (by omega) (by omega) (HAW.out.less (by omega)) rfl)
            go_wp2_with (first | ((first | go_at_call 108 | go_at_call 111); ((with_reducible refine (HC.out _ gri).mono ?_); rintro _ W3 ⟨rfl, vs, hsv, hrv, hssv, hov⟩)))
            go_roundw
            case rel => exact ⟨mid + 1, b1, lim, _, done, vs, by omega, by omega, hb1, by omega, by go_num, rfl, rfl, rfl, rfl, hsv.gr gri, HRW.out.trans (hrv.mono ha1 (by omega) (by have := HRW.out.len; omega)), parted_left HPT.out HLW.out hrv hssv ha1 hb1 (by have := HRW.out.len; omega), (HOW.out.trans (Onl.of_gr gri g)).trans (hov.trans (Onl.of_gr gri g))⟩
            case measure => simp [intOf] <;> omega
           ·have e5 : ¬ (ll : Int) < (rl : Int) := by omega
            have HAQ := hd_ (show Abv ws mq b1 from fun k m q1 q2 q3 => by
             have e9 : m = mid := by omega
             rw [e9]
             exact HPT.out.2.2.2.2 k (by omega) q3)
            have HC := hd_ (fun W (hW : Gr W2 W) => ih (b1 - mq) (by omega) mq b1 lim ws W (HSW.out.gr hW) (by omega) (by omega) (by omega) HAQ.out rfl)
            go_wp2_with (first | ((first | go_at_call 108 | go_at_call 111); ((with_reducible refine (HC.out _ gri).mono ?_); rintro _ W3 ⟨rfl, vs, hsv, hrv, hssv, hov⟩)))
            go_roundw
            case rel => exact ⟨a1, mid, lim, _, done, vs, ha1, by omega, by omega, by omega, rfl, rfl, rfl, rfl, rfl, hsv.gr gri, HRW.out.trans (hrv.mono (by omega) hb1 (by have := HRW.out.len; omega)), parted_right HPT.out HLW.out (by rw [show mid + 1 = mq by omega]; exact hrv) (by rw [show mid + 1 = mq by omega]; exact hssv) ha1 hb1 (by have := HRW.out.len; omega), (HOW.out.trans (Onl.of_gr gri g)).trans (hov.trans (Onl.of_gr gri g))⟩
            case measure => simp [intOf] <;> omega
          ·have HL := hd_ (fun W => less_no kq hlt W)
           have HNL := hd_ (Int.not_lt.1 hlt)
           clear hlt
           go_wp2
           refine wp_region_grow (by kernel_rfl) (by kernel_rfl) ?_
           repeat (go_big_quiet_step ((first | ((first | go_at_call 124 | go_at_call 135); exact grow_call (HL.out _)))))
           refine wpQuiet_nil ?_
           intro g5
           go_wp2_with (first | ((first | go_at_call 125 | go_at_call 136); ((with_reducible refine (partequal_any base g n c vs a1 b1 pv _ (HSA.out.gr gri) (by omega) (by omega) (by omega) hpv1 hpv2).mono ?_))))
           rintro _ W2 ⟨mid, ws, rfl, hm1, hm2, hsw, hrw, heq, hall, how⟩
           have HSW := hd_ hsw
           have HRW := hd_ (HRP.out.trans (hrw.mono ha1 hb1 (by have := HRP.out.len; omega)))
           have HLW := hd_ (show Lft ws a b mid b1 from lft_equal (HLF.out.rp hrw ha1 hb1) hm1 hm2 fun k q1 q2 u u1 u2 => by
            have e1 := hall k q1 q2
            obtain ⟨v, v1, v2, e2⟩ := hrw.from_ u u1 u2
            have e3 := HAB.out v m0 (by omega) v1 v2
            have e4 := HNL.out
            rw [e2]
            omega)
           have HOW := hd_ ((HO.out.trans (Onl.of_gr (gri : Gr wc _) g)).trans how)
           clear hsw hrw heq hall how
           go_wp2
           go_roundw
           case rel => exact ⟨mid, b1, lim, p, q, ws, by omega, hm2, hb1, hlm, rfl, rfl, rfl, rfl, rfl, HSW.out.gr gri, HRW.out, HLW.out, HOW.out.trans (Onl.of_gr gri g)⟩
           case measure => simp [intOf] <;> omega
         ·have ea0 : ¬ (0 : Int) < (a1 : Int) := by omega
          clear hsv
          go_wp2
          refine wp_region_grow (by kernel_rfl) (by kernel_rfl) ?_
          repeat (go_big_quiet_step (fail))
          refine wpQuiet_nil ?_
          intro g5
          go_wp2_with (first | ((first | go_at_call 126 | go_at_call 137); ((with_reducible refine (partition_any base g n c vs a1 b1 pv _ (HSA.out.gr gri) (by omega) (by omega) (by omega) hpv1 hpv2).mono ?_))))
          rintro _ W2 ⟨mid, done, ws, rfl, hsw, hpt, how⟩
          have hwl := hsw.len
          have HSW := hd_ hsw
          have HPT := hd_ hpt
          have HOW := hd_ ((HO.out.trans (Onl.of_gr (gri : Gr wc _) g)).trans how)
          have hm1 := hpt.1
          have hm2 := hpt.2.1
          have HRW := hd_ (HRP.out.trans (hpt.2.2.1.mono ha1 hb1 (by have := HRP.out.len; omega)))
          have HLW := hd_ (HLF.out.rp hpt.2.2.1 ha1 hb1)
          have HAW := hd_ (HAB.out.rp hpt.2.2.1)
          clear hsw hpt how
          obtain ⟨ll, hll⟩ : ∃ ll, mid - a1 = ll := ⟨_, rfl⟩
          have rll : (mid : Int) - (a1 : Int) = (ll : Int) := by omega
          have wll : IntKind.i64.wrap (ll : Int) = (ll : Int) := wrapS ll (by omega)
          obtain ⟨rl, hrl⟩ : ∃ rl, b1 - mid = rl := ⟨_, rfl⟩
          have rrl : (b1 : Int) - (mid : Int) = (rl : Int) := by omega
          have wrl : IntKind.i64.wrap (rl : Int) = (rl : Int) := wrapS rl (by omega)
          obtain ⟨mq, hmq⟩ : ∃ mq, mid + 1 = mq := ⟨_, rfl⟩
          have rmq : (mid : Int) + 1 = (mq : Int) := by omega
          have wmq : IntKind.i64.wrap (mq : Int) = (mq : Int) := wrapS mq (by omega)
          obtain ⟨bt, hbt⟩ : ∃ bt, l / 8 = bt := ⟨_, rfl⟩
          have rbt : (l : Int) / 8 = (bt : Int) := by omega
          have wbt : IntKind.i64.wrap (bt : Int) = (bt : Int) := wrapS bt (by omega)
          by_cases hlr : ll < rl
          ·have e5 : (ll : Int) < (rl : Int) := by omega
           have HC := hd_ (fun W (hW : Gr W2 W) => ih (mid - a1) (by omega) a1 mid lim ws W (HSW.out.gr hW) (by omega) (by omega) (by omega) (HAW.out.less (by omega)) rfl)
           go_wp2_with (first | ((first | go_at_call 108 | go_at_call 111); ((with_reducible refine (HC.out _ gri).mono ?_); rintro _ W3 ⟨rfl, vs, hsv, hrv, hssv, hov⟩)))
           go_roundw
           case rel => exact ⟨mid + 1, b1, lim, _, done, vs, by omega, by omega, hb1, by omega, by go_num, rfl, rfl, rfl, rfl, hsv.gr gri, HRW.out.trans (hrv.mono ha1 (by omega) (by have := HRW.out.len; omega)), parted_left HPT.out HLW.out hrv hssv ha1 hb1 (by have := HRW.out.len; omega), (HOW.out.trans (Onl.of_gr gri g)).trans (hov.trans (Onl.of_gr gri g))⟩
           case measure => simp [intOf] <;> omega
          ·have e5 : ¬ (ll : Int) < (rl : Int) := by omega
           have HAQ := hd_ (show Abv ws mq b1 from fun k m q1 q2 q3 => by
            have e9 : m = mid := by omega
            rw [e9]
            exact HPT.out.2.2.2.2 k (by omega) q3)
           have HC := hd_ (fun W (hW : Gr W2 W) => ih (b1 - mq) (by omega) mq b1 lim ws W (HSW.out.gr hW) (by omega) (by omega) (by omega) HAQ.out rfl)
           go_wp2_with (first | ((first | go_at_call 108 | go_at_call 111); ((with_reducible refine (HC.out _ gri).mono ?_); rintro _ W3 ⟨rfl, vs, hsv, hrv, hssv, hov⟩)))
           go_roundw
           case rel => exact ⟨a1, mid, lim, _, done, vs, ha1, by omega, by omega, by omega, rfl, rfl, rfl, rfl, rfl, hsv.gr gri, HRW.out.trans (hrv.mono (by omega) hb1 (by have := HRW.out.len; omega)), parted_right HPT.out HLW.out (by rw [show mid + 1 = mq by omega]; exact hrv) (by rw [show mid + 1 = mq by omega]; exact hssv) ha1 hb1 (by have := HRW.out.len; omega), (HOW.out.trans (Onl.of_gr gri g)).trans (hov.trans (Onl.of_gr gri g))⟩
           case measure => simp [intOf] <;> omega
theorem pdq0_any {F : Nat} (base : Bs) (g n c : Nat) (hn : n ≤ 256) (lim : Nat) (xs : List Int) (w : World) (h : SA base w g n c xs) (hl : lim ≤ 1000) (hq : base.is 108 111 F := by first | exact .inl ⟨by assumption, by assumption, rfl⟩ | exact .inr ⟨by assumption, by assumption, rfl⟩) :
  Calls Tryz.prog F #[.slice (some ⟨g, 0, none⟩) n c, .int .i64 0, .int .i64 (n : Int), .int .i64 (lim : Int)] w fun e w' => e = .returned (.tuple #[]) ∧ ∃ ys, SA base w' g n c ys ∧ RP 0 n xs ys ∧ Srt ys 0 n ∧ Onl w w' g :=
 pdq_any base g n c hn hq n 0 n lim xs w h (Nat.zero_le _) (Nat.le_refl _) hl (fun k m h1 => by omega) rfl
def SoPost (base : Bs) (g n c : Nat) (xs : List Int) (w : World) (e : Ending) (w' : World) : Prop := e = .returned (.tuple #[]) ∧ ∃ ys, SA base w' g n c ys ∧ ys.Perm xs ∧ ys.Pairwise (· ≤ ·) ∧ Onl w w' g
theorem sort_any {F : Nat} (base : Bs) (g n c : Nat) (xs : List Int) (w : World) (h : SA base w g n c xs) (hn : n ≤ 256) (hq : base.is 82 85 F := by first | exact .inl ⟨by assumption, by assumption, rfl⟩ | exact .inr ⟨by assumption, by assumption, rfl⟩) : Calls Tryz.prog F #[.slice (some ⟨g, 0, none⟩) n c] w (SoPost base g n c xs w) := by
 rcases hq with ⟨kq, tq, rfl⟩ | ⟨kq, tq, rfl⟩
 all_goals
  have H := hd_ h
  have hxl := h.len
  clear h
  have hwu : IntKind.u64.wrap (n : Int) = (n : Int) := by
   simp [IntKind.wrap, IntKind.bits, IntKind.signed]
   omega
  have HL := hd_ (fun W => len_any n hn W)
  first | go_enter Tryz.func82, Tryz.ntmps82 | go_enter Tryz.func85, Tryz.ntmps85
  go_wp2_with (first | (go_at_call 109; ((with_reducible refine (HL.out _).mono ?_); rintro _ _ ⟨k, rfl, k1, k2, k3, ⟨g1, rfl⟩⟩)) | ((first | go_at_call 108 | go_at_call 111); ((with_reducible refine (pdq0_any base g n c hn k xs _ (H.out.gr gri) (by omega)).mono ?_); rintro _ W2 ⟨rfl, ys, hsy, hry, hss, hoy⟩)))
  have hyl := hsy.len
  exact ⟨rfl, .tuple #[], by simp [results, go_sem], ⟨rfl, ys, hsy.gr gri, hry.perm, (by rw [← hyl] at hss; exact hss.pair), (Onl.of_gr gri g).trans (hoy.trans (Onl.of_gr gri g))⟩⟩
theorem insertion_nil {F : Nat} {base : Bs} (w : World) (hq : base.is 118 129 F := by first | exact .inl ⟨by assumption, by assumption, rfl⟩ | exact .inr ⟨by assumption, by assumption, rfl⟩) : Calls Tryz.prog F #[.slice none 0 0, .int .i64 0, .int .i64 0] w fun e w' => e = .returned (.tuple #[]) ∧ Gr w w' := by
 rcases hq with ⟨kq, tq, rfl⟩ | ⟨kq, tq, rfl⟩
 all_goals
  first | go_enter Tryz.func118, Tryz.ntmps118 | go_enter Tryz.func129, Tryz.ntmps129
  go_wp2
  go_loopw [6] (fun v6 wr => v6 = .int .i64 1 ∧ Gr w wr) (fun _ _ => 0)
  case atStart => exact ⟨rfl, gri⟩
  case round =>
   obtain ⟨rfl, hg⟩ := hrel
   haveI := grc_of hg
   go_wp2
   exact ⟨rfl, .tuple #[], by simp [results, go_sem], ⟨rfl, hg.trans gri⟩⟩
theorem pdq_nil {F : Nat} {base : Bs} (lim : Nat) (w : World) (hq : base.is 108 111 F := by first | exact .inl ⟨by assumption, by assumption, rfl⟩ | exact .inr ⟨by assumption, by assumption, rfl⟩) : Calls Tryz.prog F #[.slice none 0 0, .int .i64 0, .int .i64 0, .int .i64 (lim : Int)] w fun e w' => e = .returned (.tuple #[]) ∧ Gr w w' := by
 rcases hq with ⟨kq, tq, rfl⟩ | ⟨kq, tq, rfl⟩
 all_goals
  first | go_enter Tryz.func108, Tryz.ntmps108 | go_enter Tryz.func111, Tryz.ntmps111
  go_wp2
  go_loopw [1, 2, 3, 8, 9] (fun v1 v2 v3 v8 v9 wr => v1 = .int .i64 0 ∧ v2 = .int .i64 0 ∧ v3 = .int .i64 (lim : Int) ∧ v8 = .bool true ∧ v9 = .bool true ∧ Gr w wr) (fun _ _ _ _ _ _ => 0)
  case atStart => exact ⟨rfl, rfl, rfl, rfl, rfl, gri⟩
  case round =>
   obtain ⟨rfl, rfl, rfl, rfl, rfl, hg⟩ := hrel
   haveI := grc_of hg
   have HG := hd_ hg
   go_wp2_with (first | ((first | go_at_call 118 | go_at_call 129); ((with_reducible refine (insertion_nil _).mono ?_); rintro _ _ ⟨rfl, ⟨g1, rfl⟩⟩)))
   refine bodyPost_ret (v := .tuple #[]) (by simp [results, go_sem]) rfl ⟨rfl, HG.out.trans gri⟩
theorem sort_nil {F : Nat} {base : Bs} (w : World) (hq : base.is 82 85 F := by first | exact .inl ⟨by assumption, by assumption, rfl⟩ | exact .inr ⟨by assumption, by assumption, rfl⟩) : Calls Tryz.prog F #[.slice none 0 0] w fun e w' => e = .returned (.tuple #[]) ∧ Gr w w' := by
 rcases hq with ⟨kq, tq, rfl⟩ | ⟨kq, tq, rfl⟩
 all_goals
  have HL := hd_ (fun W => len_any 0 (by omega) W)
  change Hid (∀ W, Calls Tryz.prog 109 #[.int .u64 0] W _) at HL
  first | go_enter Tryz.func82, Tryz.ntmps82 | go_enter Tryz.func85, Tryz.ntmps85
  go_wp2_with (first | (go_at_call 109; ((with_reducible refine (HL.out _).mono ?_); rintro _ _ ⟨k, rfl, k1, k2, k3, ⟨g1, rfl⟩⟩)) | ((first | go_at_call 108 | go_at_call 111); ((with_reducible refine (pdq_nil k _).mono ?_); rintro _ _ ⟨rfl, ⟨g2, rfl⟩⟩)))
  exact ⟨rfl, .tuple #[], by simp [results, go_sem], ⟨rfl, gri⟩⟩
theorem keysfU (mb : Option Nat) (w : World) : Calls Tryz.prog 55 #[.map mb] w fun e w' => e = .returned (.func (.func 83) #[] #[.pointer (some ⟨w.heap.size, 0, none⟩)]) ∧ w' = w.alloc (.cells #[.map mb] 53) := by
 go_enter Tryz.func55, Tryz.ntmps55
 go_wp2
 go_ret
 exact ⟨rfl, rfl⟩
theorem collectU (Bm b : Nat) (L : List (Int × Value)) (hL : L.length ≤ 1000000) (w : World) (h1m : BlockAt w Bm #[.map (some b)] 53) (hm : MapAt .u64 w b L) : Calls Tryz.prog 81 #[.func (.func 83) #[] #[.pointer (some ⟨Bm, 0, none⟩)]] w fun e w' => ∃ v xs, e = .returned v ∧ OwnN uE w.heap.size w' v xs ∧ xs.Perm (L.map (·.1)) ∧ Gr w w' := by
 have H1 := hd_ h1m
 have HM := hd_ hm
 clear h1m hm
 go_enter Tryz.func81, Tryz.ntmps81
 go_wp2_with (first | (go_at_call 107; ((with_reducible refine (appseqU Bm b L hL _ (H1.out.gr gri) (HM.out.gr gri)).mono ?_); rintro _ _ ⟨v, xs, rfl, hv, hp, ⟨g1, rfl⟩⟩)))
 go_ret
 exact ⟨v, _, rfl, hv, hp, gri⟩
theorem sortOwn (z w : World) (v : Value) (xs : List Int) (h : OwnN uE z.heap.size w v xs) (hn : xs.length ≤ 256) (hg : Gr z w) : Calls Tryz.prog 82 #[v] w fun e w' => e = .returned (.tuple #[]) ∧ ∃ ys, OwnN uE z.heap.size w' v ys ∧ ys.Perm xs ∧ ys.Pairwise (· ≤ ·) ∧ Gr z w' := by
 rcases h.own.2 with ⟨rfl, h0⟩ | ⟨g, cap, cur, rfl, _⟩
 ·have : xs = [] := List.length_eq_zero_iff.1 (by simpa using h0)
  subst this
  refine (sort_nil (base := ⟨0, .u64, 24⟩) w (hq := .inl ⟨rfl, rfl, rfl⟩)).mono ?_
  rintro _ W2 ⟨rfl, g2⟩
  exact ⟨rfl, [], h.gr g2, .refl _, .nil, hg.trans g2⟩
 ·refine (sort_any ⟨z.heap.size, .u64, 24⟩ g _ cap xs w ⟨h, .inl ⟨rfl, rfl⟩⟩ hn (hq := .inl ⟨rfl, rfl, rfl⟩)).mono ?_
  rintro _ W2 ⟨rfl, ys, hy, hp, hs, ho⟩
  exact ⟨rfl, ys, hy.own, hp, hs, Gr.of (hg.below.grown ho hg.below.size (fun k e => by cases e; exact hy.ge))⟩
theorem sorted_keys {L : List (Int × Value)} (hs : SortK L) {ys : List Int} (hp : ys.Perm (L.map (·.1))) (h : ys.Pairwise (· ≤ ·)) : ys = L.map (·.1) := by
 refine hp.eq_of_pairwise (le := fun a b => a ≤ b) (fun a b _ _ h1 h2 => by omega) h ?_
 rw [List.pairwise_map]
 exact hs.imp fun h => by omega
theorem sortedU (Bm b : Nat) (L : List (Int × Value)) (hL : L.length ≤ 256) (w : World) (h1m : BlockAt w Bm #[.map (some b)] 53) (hm : MapAt .u64 w b L) : Calls Tryz.prog 54 #[.func (.func 83) #[] #[.pointer (some ⟨Bm, 0, none⟩)]] w fun e w' => ∃ v, e = .returned v ∧ OwnN uE w.heap.size w' v (L.map (·.1)) ∧ Gr w w' := by
 have H1 := hd_ h1m
 have HM := hd_ hm
 clear h1m hm
 go_enter Tryz.func54, Tryz.ntmps54
 go_wp2_with (first | (go_at_call 81; ((with_reducible refine (collectU Bm b L (by omega) _ (H1.out.gr gri) (HM.out.gr gri)).mono ?_); rintro _ _ ⟨v, xs, rfl, hv, hp, ⟨g1, rfl⟩⟩)))
 have HP := hd_ hp
 have hlen : xs.length ≤ 256 := by have := hp.length_eq; rw [List.length_map] at this; omega
 have HV := hd_ hv
 clear hv hp
 refine (sortOwn w _ v xs HV.out hlen gri).mono ?_
 rintro _ W2 ⟨rfl, ys, hy, hyp, hs, hg⟩
 haveI := grc_of hg
 have HY := hd_ hy
 have HE := hd_ (sorted_keys (HM.out.sort) (hyp.trans HP.out) hs)
 have HG := hd_ hg
 clear hy hyp hs hg
 go_wp2
 go_ret
 exact ⟨_, rfl, HE.out ▸ HY.out.gr gri, HG.out.trans gri⟩
end Go.Proofs.YtddckdhnolmjoaaGreat
namespace Go.Proofs.YtddckdhnolmjoaaGreat.A
open Go.RowKit Go.Shelf Go.MapKept
attribute [local go_sem] Oper.semAt_some
theorem keysfU (mb : Option Nat) (w : World) : Calls Tryz.prog 115 #[.map mb] w fun e w' => e = .returned (.func (.func 143) #[] #[.pointer (some ⟨w.heap.size, 0, none⟩)]) ∧ w' = w.alloc (.cells #[.map mb] 77) := by
 go_enter Tryz.func115, Tryz.ntmps115
 go_wp2
 go_ret
 exact ⟨rfl, rfl⟩
theorem collectU (Bm b : Nat) (L : List (Int × Value)) (hL : L.length ≤ 1000000) (w : World) (h1m : BlockAt w Bm #[.map (some b)] 77) (hm : MapAt .u64 w b L) : Calls Tryz.prog 81 #[.func (.func 143) #[] #[.pointer (some ⟨Bm, 0, none⟩)]] w fun e w' => ∃ v xs, e = .returned v ∧ OwnN uE w.heap.size w' v xs ∧ xs.Perm (L.map (·.1)) ∧ Gr w w' := by
 have H1 := hd_ h1m
 have HM := hd_ hm
 clear h1m hm
 go_enter Tryz.func81, Tryz.ntmps81
 go_wp2_with (first | (go_at_call 107; ((with_reducible refine (appseqU Bm b L hL _ (H1.out.gr gri) (HM.out.gr gri)).mono ?_); rintro _ _ ⟨v, xs, rfl, hv, hp, ⟨g1, rfl⟩⟩)))
 go_ret
 exact ⟨v, _, rfl, hv, hp, gri⟩
theorem sortedU (Bm b : Nat) (L : List (Int × Value)) (hL : L.length ≤ 256) (w : World) (h1m : BlockAt w Bm #[.map (some b)] 77) (hm : MapAt .u64 w b L) : Calls Tryz.prog 54 #[.func (.func 143) #[] #[.pointer (some ⟨Bm, 0, none⟩)]] w fun e w' => ∃ v, e = .returned v ∧ OwnN uE w.heap.size w' v (L.map (·.1)) ∧ Gr w w' := by
 have H1 := hd_ h1m
 have HM := hd_ hm
 clear h1m hm
 go_enter Tryz.func54, Tryz.ntmps54
 go_wp2_with (first | (go_at_call 81; ((with_reducible refine (collectU Bm b L (by omega) _ (H1.out.gr gri) (HM.out.gr gri)).mono ?_); rintro _ _ ⟨v, xs, rfl, hv, hp, ⟨g1, rfl⟩⟩)))
 have HP := hd_ hp
 have hlen : xs.length ≤ 256 := by have := hp.length_eq; rw [List.length_map] at this; omega
 have HV := hd_ hv
 clear hv hp
 refine (sortOwn w _ v xs HV.out hlen gri).mono ?_
 rintro _ W2 ⟨rfl, ys, hy, hyp, hs, hg⟩
 haveI := grc_of hg
 have HY := hd_ hy
 have HE := hd_ (sorted_keys (HM.out.sort) (hyp.trans HP.out) hs)
 have HG := hd_ hg
 clear hy hyp hs hg
 go_wp2
 go_ret
 exact ⟨_, rfl, HE.out ▸ HY.out.gr gri, HG.out.trans gri⟩
end Go.Proofs.YtddckdhnolmjoaaGreat.A
namespace Go.Proofs.YtddckdhnolmjoaaGreat.I
open Go.RowKit Go.Shelf Go.MapKept
attribute [local go_sem] Oper.semAt_some
theorem keysi_stops (n : Nat) (hn : 1 ≤ n) (Bm b : Nat) (L : List (Int × Value)) (w0 : World) (h1 : BlockAt w0 Bm #[.map (some b)] 62) (hm : MapAt .i64 w0 b L) :
  SeqStopsK Fence.wide n Tryz.prog 86 #[.pointer (some ⟨Bm, 0, none⟩)] (fun k : Int => #[.int .i64 k]) KeepsWalks (fun xs => xs.Perm (L.map (·.1))) (fun _ => True) L.length w0 := fun l J Jx W hW hJ hJx hY h0 => by
 have hb1 : BlockAt W Bm #[.map (some b)] 62 := ⟨(hW.block Bm h1.lt).trans h1.eq⟩
 have hmW : MapAt .i64 W b L := hm.below hW hm.lt
 have y1 : W.cell? ⟨Bm, 0, none⟩ = some (.map (some b)) := (bc 0 hb1).trans rfl
 have hsort := hm.sort
 clear h1 hm
 refine callsIn_of_wp Tryz.func86 rfl trivial ?_ rfl
 simp only [Tryz.ntmps86, List.size_toArray, List.length_cons, List.length_nil, Nat.reduceAdd, Nat.reduceSub, Array.replicate_succ, Array.replicate_zero, List.push_toArray, List.append_toArray, List.nil_append, List.cons_append]
 gi_wp2_with (first
  | (gi_at_range; refine wpListIn_rangeK rfl _ rfl Tryz.underlying62 hmW rfl ?_; intro w1 cnt0 hrg0 hg0)
  | gi_in)
 gi_loopw [3] (fun _ wr => ∃ (left : Int → Bool) (cnt : Nat) (ss : List Int), RangeAt .i64 wr b W.heap.size L left cnt ∧ Col L left ss ∧ J ss wr)
  (fun _ wr => wr.rangeLeft b W.heap.size)
 case atStart =>
  exact ⟨_, _, [], hrg0, Col.start L, hJ [] W w1 none h0 (gr_grown hg0) (fun r e => by cases e)⟩
 case round =>
  obtain ⟨left, cnt, ss, hrg, hC, hJs⟩ := hrel
  gi_wp2_with (first
   | (gi_at_next; refine wpListIn_nextK rfl _ rfl rfl hrg ?_ ?_)
   | gi_in)
  ·intro hc0 hl0
   gi_wp2
   go_end0
   exact ⟨⟨_, rfl⟩, .inl ⟨ss, hC.perm hsort (fun p hp => hl0 p.1 p.2 hp), hJs⟩⟩
  ·intro k v w2 cnt2 hmem hleft hrg2 hlt hob hen
   have hJ2 : J ss w2 := hJ ss wr w2 (some W.heap.size) hJs hob.1 (fun r e => by cases e; exact ⟨Nat.le_refl _, hrg.walk⟩)
   have hC2 := hC.step hmem hleft
   have hlen : ss.length < L.length := by
    have := hC2.len
    simp only [List.length_append, List.length_cons, List.length_nil] at this
    omega
   obtain ⟨fn, tmps, assign, body, hy, hR⟩ := hY ss k w2 hJ2 hlen
   gi_wp2
   refine hR.mono ?_
   rintro e W3 (⟨rfl, hJ3, hk3⟩ | ⟨rfl, hJx3⟩)
   ·gi_wp2
    have hrg3 := hrg2.walks hk3
    go_roundw
    case rel => exact ⟨_, cnt2, ss ++ [k], hrg3, hC2, hJ3⟩
    case measure => rw [hrg3.left_eq, hrg.left_eq]; exact hlt
   ·gi_wp2
    refine bodyPost_ret (results_none rfl _ _ _) rfl ⟨⟨_, rfl⟩, .inr ⟨_, trivial, hJx3⟩⟩
end Go.Proofs.YtddckdhnolmjoaaGreat.I
namespace Go.Proofs.YtddckdhnolmjoaaGreat.I
open Go.RowKit Go.Shelf Go.MapKept
attribute [local go_sem] Oper.semAt_some
theorem appseqI (Bm b : Nat) (L : List (Int × Value)) (hL : L.length ≤ 1000000) (w : World) (h1m : BlockAt w Bm #[.map (some b)] 62) (hm : MapAt .i64 w b L) : Calls Tryz.prog 110 #[.slice none 0 0, .func (.func 86) #[] #[.pointer (some ⟨Bm, 0, none⟩)]] w fun e w' => ∃ v xs, e = .returned v ∧ OwnN sE w.heap.size w' v xs ∧ xs.Perm (L.map (·.1)) ∧ Gr w w' := by
 refine (callsIn_wide (n := 3)).1 ?_
 have h1 : 1 ≤ 3 := by omega
 refine callsIn_of_wp_marks Tryz.func110 rfl trivial ?_ rfl
 simp only [Tryz.ntmps110, List.size_toArray, List.length_cons, List.length_nil, Nat.reduceAdd, Nat.reduceSub, Array.replicate_succ, Array.replicate_zero, List.push_toArray, List.append_toArray, List.nil_append, List.cons_append]
 have hnf : ∀ (W : World) (A : Array Value), (binOp .eql 119 (.func (.func 86) #[] A) .nilFunc).run Tryz.prog W = .ok (.bool false) W := fun W A => by kernel_rfl
 gi_wp2
 obtain ⟨W0, hW0⟩ : ∃ W0, w.alloc (.cells #[.slice none 0 0] 60) = W0 := ⟨_, rfl⟩
 have hs0 : W0.heap.size = w.heap.size + 1 := by rw [← hW0]; simp
 have hbX : BlockAt W0 w.heap.size #[.slice none 0 0] 60 := by rw [← hW0]; infer_instance
 have hg0 : Gr w W0 := by rw [← hW0]; exact gri
 rw [hW0]
 refine wpIn_rangeFunc_ownH (F := Fence.wide) (n := 3) rfl h1 (gf := 86) (lb := #[.pointer (some ⟨Bm, 0, none⟩)]) rfl trivial (enters_of Tryz.func86 (by kernel_rfl) rfl)
  (keysi_stops (3 - 1) (by omega) Bm b L W0 (h1m.gr hg0) (hm.gr hg0)) (fun h k => h.trans k) (fun W l o o' hl ho _ hc' => KeepsWalks.putObj _ ho hc') (Below.refl _ _) (fun _ => rfl)
  (LJ sE w.heap.size w.heap.size W0.heap.size 60 w (fun pre : List Int => pre)) (fun _ _ _ => False) (LJ.own (by omega) (Nat.le_refl _)) (fun _ _ _ _ _ h _ _ => h.elim) ⟨⟨_, hbX, OwnN.nil _ _⟩, hg0.below, Nat.le_refl _⟩
  (fun x a' W => a' = { tmps := #[.slice none 0 0, .func (.func 86) #[] #[.pointer (some ⟨Bm, 0, none⟩)], .pointer (some ⟨w.heap.size, 0, none⟩), undef, .slice none 0 0, .int .i64 x, .func (.func 86) #[] #[.pointer (some ⟨Bm, 0, none⟩)], .int .i64 x, undef, undef, undef, undef, undef], defers := [] })
  (fun x a' s W W' row hs hg hr => hs) ?assign ?body ?done ?stop
 case assign =>
  rintro l pre x W K ⟨⟨v, hv, ho⟩, hb, hm⟩ hK
  gi_wp2
  exact hK _ _ ((KeepsOthers.refl _).from _) (KeepsWalks.refl _) ⟨⟨v, hv, ho⟩, hb, hm⟩ rfl
 case body =>
  rintro l pre x a' W hl ⟨r, hr⟩ ⟨⟨v, hv, ho⟩, hb, hm⟩ rfl hN
  have x0 : W.cell? ⟨w.heap.size, 0, none⟩ = some v := (bc 0 hv).trans rfl
  have u0 : W.frozen? ⟨w.heap.size, 0, none⟩ = false := @block_frozen _ _ 0 _ _ hv
  haveI := hv.old
  have hsz := hb.size
  have HV := hd_ hv
  have HO := hd_ ho
  have HB := hd_ hb
  have HL : Hid (pre.length ≤ 2000000) := hd_ (by omega)
  have HSZ := hd_ hsz
  clear hv ho hb hr hN hsz hbX hg0 hW0 h1m
  gi_wp2_with (first | (gi_at_builtin; refine wpIn_append_n (v := v) sIs rfl _ _ rfl rfl (HO.out.gr gri) _ 0 [x] 1 1 rfl rfl (fun _ _ => trivial) (CellsN.block _ inferInstance rfl) (by have := HL.out; simp; omega) (by have := HSZ.out; simp; omega) (by simp) ?_; intro v1 W1 h1; obtain ⟨A1, c1, hv1, _, _, _⟩ := h1.own.form sIs; simp only [List.length_append, List.length_map, List.length_cons, List.length_nil, Nat.zero_add] at hv1; subst hv1; have H1 := hd_ h1; clear h1; have z0 := (bc 0 (H1.out.keep _ _ _ (HV.out.gr gri) (by decide))).trans rfl; have zf := @block_frozen _ _ 0 _ _ (H1.out.keep _ _ _ (HV.out.gr gri) (by decide))))
  haveI hX1 := H1.out.keep _ _ _ (HV.out.gr gri) (by decide)
  refine ⟨(((KeepsOthers.of_gr (gri : Gr W _)).trans (KeepsOthers.of_app H1.out)).trans (KeepsOthers.setCell _ _ _)).from _, ((KeepsWalks.of_gr (gri : Gr W _)).trans (KeepsWalks.of_app H1.out)).trans (KeepsWalks.setCell _ _ _), ⟨(.slice A1 (pre.length + 1) c1 : Value), ?blk, ?own⟩, ?bel, ?siz⟩
  case blk =>
   show BlockAt _ _ (#[v].setIfInBounds 0 _) _
   infer_instance
  case own =>
   exact H1.out.own.set_ w.heap.size 0 (.slice A1 (pre.length + 1) c1) (by decide)
  case bel =>
   exact ((HB.out.alloc HSZ.out _).trans (H1.out.below)).setCell (p := ⟨w.heap.size, 0, none⟩) (Nat.le_refl _) _
  case siz =>
   have := H1.out.size
   simp [World.setCell] at this ⊢
   omega
 case done =>
  rintro D ys W hD hS ⟨⟨v, hv, ho⟩, hb, hm⟩ hK
  have x0 : W.cell? ⟨w.heap.size, 0, none⟩ = some v := (bc 0 hv).trans rfl
  have HO := hd_ ho
  have HB := hd_ hb
  have HV := hd_ hv
  have HS := hd_ hS
  clear ho hb hv hbX hg0 hW0 hS
  gi_wp2
  refine ⟨by simp, .inl ⟨_, _, rfl, run_takeDeferred hK, ?_⟩⟩
  exact ⟨_, results_tmp rfl _ _ _, v, rfl, ys, HO.out.put D _ _ hK rfl, HS.out, Gr.of (HB.out.trans (belowK_b (Nat.le_refl _) W D _ _ (by omega) hK rfl rfl))⟩
 case stop =>
  rintro D c pre W hD _ h _
  exact h.elim
end Go.Proofs.YtddckdhnolmjoaaGreat.I
namespace Go.Proofs.YtddckdhnolmjoaaGreat.I
open Go.RowKit
theorem keysfU (mb : Option Nat) (w : World) : Calls Tryz.prog 57 #[.map mb] w fun e w' => e = .returned (.func (.func 86) #[] #[.pointer (some ⟨w.heap.size, 0, none⟩)]) ∧ w' = w.alloc (.cells #[.map mb] 62) := by
 go_enter Tryz.func57, Tryz.ntmps57
 go_wp2
 go_ret
 exact ⟨rfl, rfl⟩
theorem collectU (Bm b : Nat) (L : List (Int × Value)) (hL : L.length ≤ 1000000) (w : World) (h1m : BlockAt w Bm #[.map (some b)] 62) (hm : MapAt .i64 w b L) : Calls Tryz.prog 84 #[.func (.func 86) #[] #[.pointer (some ⟨Bm, 0, none⟩)]] w fun e w' => ∃ v xs, e = .returned v ∧ OwnN sE w.heap.size w' v xs ∧ xs.Perm (L.map (·.1)) ∧ Gr w w' := by
 have H1 := hd_ h1m
 have HM := hd_ hm
 clear h1m hm
 go_enter Tryz.func84, Tryz.ntmps84
 go_wp2_with (first | (go_at_call 110; ((with_reducible refine (appseqI Bm b L hL _ (H1.out.gr gri) (HM.out.gr gri)).mono ?_); rintro _ _ ⟨v, xs, rfl, hv, hp, ⟨g1, rfl⟩⟩)))
 go_ret
 exact ⟨v, _, rfl, hv, hp, gri⟩
theorem sortOwn (z w : World) (v : Value) (xs : List Int) (h : OwnN sE z.heap.size w v xs) (hn : xs.length ≤ 256) (hg : Gr z w) : Calls Tryz.prog 85 #[v] w fun e w' => e = .returned (.tuple #[]) ∧ ∃ ys, OwnN sE z.heap.size w' v ys ∧ ys.Perm xs ∧ ys.Pairwise (· ≤ ·) ∧ Gr z w' := by
 rcases h.own.2 with ⟨rfl, h0⟩ | ⟨g, cap, cur, rfl, _⟩
 ·have : xs = [] := List.length_eq_zero_iff.1 (by simpa using h0)
  subst this
  refine (sort_nil (base := ⟨0, .i64, 3⟩) w (hq := .inr ⟨rfl, rfl, rfl⟩)).mono ?_
  rintro _ W2 ⟨rfl, g2⟩
  exact ⟨rfl, [], h.gr g2, .refl _, .nil, hg.trans g2⟩
 ·refine (sort_any ⟨z.heap.size, .i64, 3⟩ g _ cap xs w ⟨h, .inr ⟨rfl, rfl⟩⟩ hn (hq := .inr ⟨rfl, rfl, rfl⟩)).mono ?_
  rintro _ W2 ⟨rfl, ys, hy, hp, hs, ho⟩
  exact ⟨rfl, ys, hy.own, hp, hs, Gr.of (hg.below.grown ho hg.below.size (fun k e => by cases e; exact hy.ge))⟩
theorem sorted_keys {L : List (Int × Value)} (hs : SortK L) {ys : List Int} (hp : ys.Perm (L.map (·.1))) (h : ys.Pairwise (· ≤ ·)) : ys = L.map (·.1) := by
 refine hp.eq_of_pairwise (le := fun a b => a ≤ b) (fun a b _ _ h1 h2 => by omega) h ?_
 rw [List.pairwise_map]
 exact hs.imp fun h => by omega
theorem sortedU (Bm b : Nat) (L : List (Int × Value)) (hL : L.length ≤ 256) (w : World) (h1m : BlockAt w Bm #[.map (some b)] 62) (hm : MapAt .i64 w b L) : Calls Tryz.prog 56 #[.func (.func 86) #[] #[.pointer (some ⟨Bm, 0, none⟩)]] w fun e w' => ∃ v, e = .returned v ∧ OwnN sE w.heap.size w' v (L.map (·.1)) ∧ Gr w w' := by
 have H1 := hd_ h1m
 have HM := hd_ hm
 clear h1m hm
 go_enter Tryz.func56, Tryz.ntmps56
 go_wp2_with (first | (go_at_call 84; ((with_reducible refine (collectU Bm b L (by omega) _ (H1.out.gr gri) (HM.out.gr gri)).mono ?_); rintro _ _ ⟨v, xs, rfl, hv, hp, ⟨g1, rfl⟩⟩)))
 have HP := hd_ hp
 have hlen : xs.length ≤ 256 := by have := hp.length_eq; rw [List.length_map] at this; omega
 have HV := hd_ hv
 clear hv hp
 refine (sortOwn w _ v xs HV.out hlen gri).mono ?_
 rintro _ W2 ⟨rfl, ys, hy, hyp, hs, hg⟩
 haveI := grc_of hg
 have HY := hd_ hy
 have HE := hd_ (sorted_keys (HM.out.sort) (hyp.trans HP.out) hs)
 have HG := hd_ hg
 clear hy hyp hs hg
 go_wp2
 go_ret
 exact ⟨_, rfl, HE.out ▸ HY.out.gr gri, HG.out.trans gri⟩
end Go.Proofs.YtddckdhnolmjoaaGreat.I
namespace Go.Proofs.YtddckdhnolmjoaaGreat
open Go.RowKit
theorem keysK_len {L : List (Int × Byt)} {n : Int} (hs : SortK L) (hk : ∀ p ∈ L, 0 ≤ p.1 ∧ p.1 < n) (hn : n ≤ 256) : L.length ≤ 256 := by
 have h1 := nodup_le (L.map (·.1)) ((List.range 256).map fun k : Nat => (k : Int)) (by
  rw [List.nodup_iff_pairwise_ne, List.pairwise_map]
  exact hs.imp fun h e => by omega) (fun x hx => by
  obtain ⟨p, hp, rfl⟩ := List.mem_map.1 hx
  have := hk p hp
  exact List.mem_map.2 ⟨p.1.toNat, List.mem_range.2 (by omega), by omega⟩)
 simpa using h1
theorem mapped_any (base D : Nat) (d : Dev) (v : Int) (x : VolM) (hv : getK d v = some x) (w : World) (h : DevAt base w D d) : Calls Tryz.prog 21 #[.pointer (some ⟨D, 0, none⟩), .int .u64 v] w fun e w' => ∃ r, e = .returned r ∧ OwnN I.sE w.heap.size w' r (x.2.map (·.1)) ∧ Gr w w' := by
 obtain ⟨M, mb, h⟩ := h
 have HD := hd_ h
 have HT := hd_ (fun W (hW : Gr w W) => there_yes D M W (HD.out.blk.gr hW))
 haveI := h.blk
 have x0 : w.cell? ⟨D, 0, none⟩ = some (.map (some M)) := (bc 0 h.blk).trans rfl
 haveI : Old D w := h.blk.old
 have hlk := look_vol1 h v _ hv
 simp only [volV] at hlk
 have HO := h.ok.vols _ ((getK_mem h.ok.sort).1 hv)
 have hlen := keysK_len HO.sort HO.keys HO.s1
 have HM := hd_ (h.vol _ ((getK_mem h.ok.sort).1 hv))
 clear h hv HO
 go_enter Tryz.func21, Tryz.ntmps21
 go_wp2_with (first | (go_at_call 19; ((with_reducible refine (HT.out _ gri).mono ?_); rintro _ _ ⟨rfl, g1, rfl⟩)) | (go_at_call 57; ((with_reducible refine (I.keysfU _ _).mono ?_); rintro _ _ ⟨rfl, rfl⟩)) | (go_at_call 56; ((with_reducible refine (I.sortedU _ (mb v) _ (by unfold encK; rw [List.length_map]; exact hlen) _ inferInstance (HM.out.gr gri)).mono ?_); rintro _ W2 ⟨r, rfl, hr, hg⟩; haveI := grc_of hg; have HV := hd_ hr; have HG := hd_ hg; clear hr hg)))
 go_ret
 have := HV.out
 simp only [encK, List.map_map, Function.comp_def] at this
 exact ⟨r, rfl, this.more (by have := (grown_below w g1).size; simp; omega), Gr.trans gri HG.out⟩
theorem volumes_any (base D : Nat) (d : Dev) (hn : d.length ≤ 256) (w : World) (h : DevAt base w D d) : Calls Tryz.prog 20 #[.pointer (some ⟨D, 0, none⟩)] w fun e w' => ∃ v, e = .returned v ∧ OwnN uE w.heap.size w' v (d.map (·.1)) ∧ Gr w w' := by
 obtain ⟨M, mb, h⟩ := h
 have HD := hd_ h
 have HT := hd_ (fun W (hW : Gr w W) => there_yes D M W (HD.out.blk.gr hW))
 haveI := h.blk
 have x0 : w.cell? ⟨D, 0, none⟩ = some (.map (some M)) := (bc 0 h.blk).trans rfl
 haveI : Old D w := h.blk.old
 clear h
 go_enter Tryz.func20, Tryz.ntmps20
 go_wp2_with (first | (go_at_call 19; ((with_reducible refine (HT.out _ gri).mono ?_); rintro _ _ ⟨rfl, g1, rfl⟩)) | (go_at_call 55; ((with_reducible refine (keysfU _ _).mono ?_); rintro _ _ ⟨rfl, rfl⟩)) | (go_at_call 54; ((with_reducible refine (sortedU _ M _ (by rw [List.length_map]; exact hn) _ inferInstance (HD.out.all.gr gri)).mono ?_); rintro _ W2 ⟨v, rfl, hv, hg⟩; haveI := grc_of hg; have HV := hd_ hv; have HG := hd_ hg; clear hv hg)))
 go_ret
 have := HV.out
 simp only [List.map_map, Function.comp_def] at this
 exact ⟨v, rfl, this.more (by have := (grown_below w g1).size; simp; omega), Gr.trans gri HG.out⟩
end Go.Proofs.YtddckdhnolmjoaaGreat
