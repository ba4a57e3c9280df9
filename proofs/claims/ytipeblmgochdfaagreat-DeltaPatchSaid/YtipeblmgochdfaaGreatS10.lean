/- Device.discard. Conditions: the device stands in memory. Device.size: the blocks that lie behind the new size are struck. Conditions: the device stands in memory. Device.size. Conditions: the device stands in memory. Device.Part, Device.Do: what an operation does, and its answer. Conditions: the device and the operation's data stand in memory. The reference's device: Part, what it leaves; refused; of a kind that does nothing. Conditions: the device stands in memory. -/
import Derived.Test.YtipeblmgochdfaaGreatS08
import Derived.LoopTactic
import Derived.Test.YtipeblmgochdfaaGreatS07
import Derived.Test.YtipeblmgochdfaaGreatS09
import Derived.Test.YtipeblmgochdfaaGreatS06
import Derived.Test.YtipeblmgochdfaaGreatS03
namespace Go.Proofs.YtipeblmgochdfaaGreat
open Go.RowKit
set_option linter.unusedVariables false
set_option linter.unusedSimpArgs false
set_option linter.unnecessarySimpa false
set_option maxRecDepth 100000
def dropF (a : Int) (k : Nat) (m : List (Int × Byt)) : List (Int × Byt) := m.filter fun p => decide (p.1 < a ∨ a + k ≤ p.1)
theorem dropF_zero (a : Int) (m : List (Int × Byt)) : dropF a 0 m = m := by
 unfold dropF
 rw [List.filter_eq_self]
 intro p _
 simp
 omega
theorem dropF_succ (a : Int) (k : Nat) (m : List (Int × Byt)) : delK (dropF a k m) (a + k) = dropF a (k + 1) m := by
 unfold delK dropF
 rw [List.filter_filter]
 congr 1
 funext p
 rw [Bool.eq_iff_iff]
 simp
 omega
theorem dropF_ok {x : VolM} (h : VolOk x) (a : Int) (k : Nat) : VolOk (x.1, dropF a k x.2) := filter_ok h _ _ h.s0 h.s1 (fun p hp _ => (h.keys p hp).2)
set_option maxHeartbeats 4000000 in
theorem discard_any (xv xt xs xa xc most : Int) (xD : Option Addr) (xn xq : Nat) (hn : xn ≤ 1000000) (base D : Nat) (d : Dev) (w : World) (h : DevAt base w D d) (hbase : base ≤ w.heap.size) (x : VolM) (hv : getK d xv = some x) (a0 : 0 ≤ xa) (a1 : xa ≤ 1048576) (c0 : 1 ≤ xc) (c1 : xc ≤ 1024) :
  Calls Tryz.prog 96 #[.pointer (some ⟨D, 0, none⟩), .agg #[.int .i64 7, .int .u64 xv, .int .u64 xt, .int .i64 xs, .int .i64 xa, .int .i64 xc, .slice xD xn xq], .int .i64 most] w (OpPost base D (putK d xv (x.1, dropF xa xc.toNat x.2)) 0 0 w) := by
 obtain ⟨M, mb, h⟩ := h
 haveI := h.blk
 have x0 : w.cell? ⟨D, 0, none⟩ = some (.map (some M)) := (@block_cells _ _ 0 _ _ h.blk).trans rfl
 haveI : Old D w := h.blk.old
 have HD := Lib.hid h
 have hlk := look_vol1 h xv _ hv
 simp only [volV] at hlk
 have HX := Lib.hid (h.ok.vols _ ((getK_mem h.ok.sort).1 hv))
 have HV := Lib.hid hv
 clear h hv
 obtain ⟨cn, rfl⟩ : ∃ n : Nat, xc = n := ⟨xc.toNat, by omega⟩
 go_enter Tryz.func96, Tryz.ntmps96
 go_wp2
 refine wp_region_all [0, 1, 2, 3, 4, 5, 6, 7, 8, 9] [10, 11] [12, 13] (by kernel_rfl) (by kernel_rfl) ?_
 simp only [pick, List.drop, List.take, List.nil_append, List.cons_append]
 repeat (refine wpCalm_step (fun K hK => ?_); go_simp; first | (refine hK _ ?_; clear hK K) | (apply Exists.intro; refine ⟨fun _ => ?_, hK _ ?_⟩; ((go_at_call 116; exact part_7 _ _ _ _ _ _ _ _ (by omega) _)); clear hK K))
 refine wpCalm_nil ?_
 refine ⟨_, _, _, allocOp_alloc rfl rfl Tryz.zeroValue115, fun b1_0 hb1_0 nb1_0 => ?_⟩
 refine ⟨_, _, _, allocOp_alloc rfl rfl Tryz.zeroValue211, fun b1_1 hb1_1 nb1_1 => ?_⟩
 have db1_1_0 : b1_0 ≠ b1_1 := nb1_1 (b1_0, _, _) List.mem_cons_self
 simp only [Act.put, List.setIfInBounds_toArray, List.set]
 refine ⟨_, _, _, b1_0, #[.int .i64 0, .map none], _, #[.int .i64 x.1, .map (some (mb xv))], rfl, rfl, rfl, (List.mem_cons_of_mem _ List.mem_cons_self), ?hu, hb1_0, rfl, rfl, rfl, rfl, [(b1_0, #[.int .i64 x.1, .map (some (mb xv))], 115), (b1_1, #[.int .i64 0, .int .i64 0], 211)], ?hs, ?_⟩
 case hu =>
  intro z hz e
  rcases List.mem_cons.1 hz with rfl | hz
  ·exact absurd e db1_1_0.symm
  rcases List.mem_cons.1 hz with rfl | hz
  ·rfl
  cases hz
 case hs =>
  intro z
  constructor
  ·intro hz
   rcases List.mem_cons.1 hz with rfl | hz
   ·exact .inl rfl
   rcases List.mem_cons.1 hz with rfl | hz
   ·exact .inr ⟨List.mem_cons_self, db1_1_0.symm⟩
   cases hz
  ·rintro (rfl | ⟨hz, hne⟩)
   ·exact List.mem_cons_self
   rcases List.mem_cons.1 hz with rfl | hz
   ·exact (List.mem_cons_of_mem _ List.mem_cons_self)
   rcases List.mem_cons.1 hz with rfl | hz
   ·exact absurd rfl hne
   cases hz
 refine ⟨_, _, _, b1_1, #[.int .i64 0, .int .i64 0], _, #[.int .i64 xa, .int .i64 (cn : Int)], rfl, rfl, rfl, (List.mem_cons_of_mem _ List.mem_cons_self), ?hu, hb1_1, rfl, rfl, rfl, rfl, [(b1_1, #[.int .i64 xa, .int .i64 (cn : Int)], 211), (b1_0, #[.int .i64 x.1, .map (some (mb xv))], 115)], ?hs, ?_⟩
 case hu =>
  intro z hz e
  rcases List.mem_cons.1 hz with rfl | hz
  ·exact absurd e db1_1_0
  rcases List.mem_cons.1 hz with rfl | hz
  ·rfl
  cases hz
 case hs =>
  intro z
  constructor
  ·intro hz
   rcases List.mem_cons.1 hz with rfl | hz
   ·exact .inl rfl
   rcases List.mem_cons.1 hz with rfl | hz
   ·exact .inr ⟨List.mem_cons_self, db1_1_0⟩
   cases hz
  ·rintro (rfl | ⟨hz, hne⟩)
   ·exact List.mem_cons_self
   rcases List.mem_cons.1 hz with rfl | hz
   ·exact (List.mem_cons_of_mem _ List.mem_cons_self)
   rcases List.mem_cons.1 hz with rfl | hz
   ·exact absurd rfl hne
   cases hz
 intro w1 hw1
 have cb1_1 : ∀ o, w1.cell? ⟨b1_1, o, none⟩ = (#[.int .i64 xa, .int .i64 (cn : Int)] : Array Value)[o]? := mix_cell hw1 List.mem_cons_self
 haveI kb1_1 : BlockAt w1 b1_1 #[.int .i64 xa, .int .i64 (cn : Int)] 211 := ⟨hw1.2 _ List.mem_cons_self⟩
 have fb1_1 : ∀ o, w1.frozen? ⟨b1_1, o, none⟩ = false := mix_frozen hw1 List.mem_cons_self
 have ob1_1 : Old b1_1 w1 := mix_old hw1 List.mem_cons_self
 have cb1_0 : ∀ o, w1.cell? ⟨b1_0, o, none⟩ = (#[.int .i64 x.1, .map (some (mb xv))] : Array Value)[o]? := mix_cell hw1 (List.mem_cons_of_mem _ List.mem_cons_self)
 haveI kb1_0 : BlockAt w1 b1_0 #[.int .i64 x.1, .map (some (mb xv))] 115 := ⟨hw1.2 _ (List.mem_cons_of_mem _ List.mem_cons_self)⟩
 have fb1_0 : ∀ o, w1.frozen? ⟨b1_0, o, none⟩ = false := mix_frozen hw1 (List.mem_cons_of_mem _ List.mem_cons_self)
 have ob1_0 : Old b1_0 w1 := mix_old hw1 (List.mem_cons_of_mem _ List.mem_cons_self)
 have qb1_0 := @fresh_ne _ _ hb1_0
 have rb1_0 := @fresh_en _ _ hb1_0
 have lb1_0 := fresh_le hb1_0 w.heap.size
 have qb1_1 := @fresh_ne _ _ hb1_1
 have rb1_1 := @fresh_en _ _ hb1_1
 have lb1_1 := fresh_le hb1_1 w.heap.size
 have eb1_1_0 : ¬ b1_1 = b1_0 := fun e => db1_1_0 e.symm
 obtain ⟨⟨g1, rfl⟩, hbs⟩ := hw1
 clear hbs nb1_0 nb1_1
 have hMl : M < w.heap.size := HD.out.all.lt
 generalize hW1 : grown _ g1 = W1 at *
 have hgW : Gr w W1 := by rw [← hW1]; exact gri
 haveI kA : BlockAt W1 (w.heap.size + 1) #[.int .i64 0, .int .i64 0, .slice none 0 0] 97 := by rw [← hW1]; infer_instance
 clear hW1
 have HG := Lib.hid hgW
 have K0 := Lib.hid kb1_0
 have K1 := Lib.hid kb1_1
 have KA := Lib.hid kA
 clear hgW kA kb1_0 kb1_1
 go_wp2
 go_loopw [9] (fun i wr => ∃ k : Nat, k ≤ cn ∧ i = .int .i64 (xa + k) ∧ DevIn base wr D M mb (putK d xv (x.1, dropF xa k x.2)) ∧ BlockAt wr b1_0 #[.int .i64 x.1, .map (some (mb xv))] 115 ∧ BlockAt wr b1_1 #[.int .i64 xa, .int .i64 (cn : Int)] 211 ∧ BlockAt wr (w.heap.size + 1) #[.int .i64 0, .int .i64 0, .slice none 0 0] 97 ∧ Below base w wr ∧ CK w wr) (fun i _ => (xa + cn - intOf i).toNat)
 case atStart => exact ⟨0, Nat.zero_le _, by simp, by rw [dropF_zero, putK_own HD.out.ok.sort HV.out]; exact HD.out.gr HG.out, K0.out, K1.out, KA.out, HG.out.below.mono hbase, CK.gr HG.out⟩
 case round =>
  obtain ⟨k, hk, rfl, hd, k0, k1, ka, hb, hck⟩ := hrel
  have hvk : getK (putK d xv (x.1, dropF xa k x.2)) xv = some (x.1, dropF xa k x.2) := getK_put_self HD.out.ok.sort _ _
  have hm := hd.vol _ ((getK_mem hd.ok.sort).1 hvk)
  have y00 : wr.cell? ⟨b1_0, 0, none⟩ = some (.int .i64 x.1) := (@block_cells _ _ 0 _ _ k0).trans rfl
  have y01 : wr.cell? ⟨b1_0, 1, none⟩ = some (.map (some (mb xv))) := (@block_cells _ _ 1 _ _ k0).trans rfl
  have y10 : wr.cell? ⟨b1_1, 0, none⟩ = some (.int .i64 xa) := (@block_cells _ _ 0 _ _ k1).trans rfl
  have y11 : wr.cell? ⟨b1_1, 1, none⟩ = some (.int .i64 (cn : Int)) := (@block_cells _ _ 1 _ _ k1).trans rfl
  have HDk := Lib.hid hd
  have HMk := Lib.hid hm
  have HVk := Lib.hid hvk
  have Z0 := Lib.hid k0
  have Z1 := Lib.hid k1
  have ZA := Lib.hid ka
  have HB := Lib.hid hb
  have HCK := Lib.hid hck
  clear hd hm hvk k0 k1 hb hck
  by_cases hlt : k < cn
  ·clear ka
   go_wp2_with (refine wpList_deleteK rfl _ _ rfl (xa + k) Tryz.underlying113 Tryz.underlying3 HMk.out rfl rfl fun W' h1 h2 => ?_)
   have hd2 := HDk.out.inner xv _ HVk.out (dropF xa (k + 1) x.2) (by rw [← dropF_succ, ← delK_enc]; exact h1) h2 (dropF_ok HX.out xa (k + 1))
   rw [putK_putK _ _ _ _ HD.out.ok.sort] at hd2
   have hb2 : Below base w W' := h2.below (HD.out.bV (xv, x) ((getK_mem HD.out.ok.sort).1 HV.out)) HMk.out.lt HB.out
   have q0 := h2.blockM HMk.out Z0.out
   have q1 := h2.blockM HMk.out Z1.out
   have qA := h2.blockM HMk.out ZA.out
   have HD2 := Lib.hid hd2
   have HB2 := Lib.hid hb2
   have HCK2 := Lib.hid (HCK.out.trans (CK.only HMk.out h2))
   have Q0 := Lib.hid q0
   have Q1 := Lib.hid q1
   have QA := Lib.hid qA
   clear hd2 hb2 q0 q1 qA h1 h2
   go_wp2
   go_roundw
   case rel => exact ⟨k + 1, by omega, by congr 1; omega, HD2.out, Q0.out, Q1.out, QA.out, HB2.out, HCK2.out⟩
   case measure => simp [intOf]; omega
  ·have hkc : k = cn := by omega
   subst hkc
   haveI hB1 := ZA.out
   have z0 : wr.cell? ⟨w.heap.size + 1, 0, none⟩ = some (.int .i64 0) := (@block_cells _ _ 0 _ _ hB1).trans rfl
   have z1 : wr.cell? ⟨w.heap.size + 1, 1, none⟩ = some (.int .i64 0) := (@block_cells _ _ 1 _ _ hB1).trans rfl
   have z2 : wr.cell? ⟨w.heap.size + 1, 2, none⟩ = some (.slice none 0 0) := (@block_cells _ _ 2 _ _ hB1).trans rfl
   have f0 : ∀ o, wr.frozen? ⟨w.heap.size + 1, o, none⟩ = false := fun o => @block_frozen _ _ o _ _ hB1
   go_wp2
   exact bodyPost_ret (run_resCell1 rfl _ _ _ _ rfl (ans_block hB1 _ _ _) Tryz.underlying97 rfl (by kernel_rfl)) rfl ⟨rfl, ans_dev HDk.out hB1 (by decide) _ _ _, ans_below HB.out (by omega) _ _ _, ck_ans HCK.out (by omega) _ _ _⟩
set_option maxRecDepth 100000
theorem sizeF_any (k s : Int) (X : Byt) (hX : X.length = 256) (V : Nat) (w : World) [hV : Old V w] (c0 : w.cell? ⟨V, 0, none⟩ = some (.int .i64 s)) :
  Calls Tryz.prog 118 #[.int .i64 k, .agg (bkC X), .pointer (some ⟨V, 0, none⟩)] w fun e w' => e = .returned (.bool (decide (s ≤ k))) ∧ Gr w w' := by
 have hXr := bkC_row hX
 go_enter Tryz.func118, Tryz.ntmps118
 go_wp2
 go_ret
 exact ⟨rfl, gri⟩
def leftF (s : Int) (left : Int → Bool) (L : List (Int × Byt)) : List (Int × Byt) := L.filter fun p => left p.1 || decide (p.1 < s)
theorem leftF_start (s : Int) (m : List (Int × Byt)) : leftF s (fun _ => true) m = m := by
 unfold leftF
 rw [List.filter_eq_self]
 intro p _
 rfl
theorem grownBy_gr {w W : World} {row : Option Nat} (g : Gr w W) : w.grownBy W row := ⟨g.below.os, g.below.tape, g.below.output, g.below.size, fun i hi _ => g.below.block i hi⟩
theorem leftF_mem {s : Int} {left : Int → Bool} {m : List (Int × Byt)} {k : Int} {v : Value} (h : (k, v) ∈ encK bkV (leftF s left m)) : ∃ B, (k, B) ∈ m ∧ v = .agg (bkC B) := by
 obtain ⟨p, hp, e⟩ := List.mem_map.1 h
 cases e
 exact ⟨p.2, (List.mem_filter.1 hp).1, rfl⟩
theorem leftF_end {s : Int} {left : Int → Bool} {m : List (Int × Byt)} (h : ∀ p ∈ encK bkV (leftF s left m), left p.1 = false) : leftF s left m = m.filter fun p => decide (p.1 < s) := by
 unfold leftF
 refine List.filter_congr fun p hp => ?_
 cases hl : left p.1
 ·simp
 ·have h1 : (p.1, bkV p.2) ∈ encK bkV (leftF s left m) := List.mem_map.2 ⟨p, List.mem_filter.2 ⟨hp, by simp [hl]⟩, rfl⟩
  rw [h _ h1] at hl
  cases hl
theorem leftF_stays {s : Int} {left : Int → Bool} {m : List (Int × Byt)} {k : Int} (hk : ¬ s ≤ k) : leftF s (fun z => left z && z != k) m = leftF s left m := by
 unfold leftF
 refine List.filter_congr fun p hp => ?_
 show ((left p.1 && p.1 != k) || decide (p.1 < s)) = (left p.1 || decide (p.1 < s))
 by_cases e : p.1 = k
 ·have : p.1 < s := by omega
  simp [this]
 ·rw [bne_iff_ne.2 e, Bool.and_true]
theorem leftF_struck {s : Int} {left : Int → Bool} {m : List (Int × Byt)} {k : Int} (hk : s ≤ k) : delK (leftF s left m) k = leftF s (fun z => left z && z != k) m := by
 unfold leftF delK
 rw [List.filter_filter]
 refine List.filter_congr fun p hp => ?_
 show ((p.1 != k) && (left p.1 || decide (p.1 < s))) = ((left p.1 && p.1 != k) || decide (p.1 < s))
 by_cases e : p.1 = k
 ·have h1 : decide (p.1 < s) = false := decide_eq_false (by omega)
  have h2 : (p.1 != k) = false := by simp [e]
  rw [h1, h2]
  simp
 ·rw [bne_iff_ne.2 e, Bool.and_true, Bool.true_and]
set_option maxHeartbeats 4000000 in
theorem deleteFunc_any (s : Int) (b V : Nat) (m : List (Int × Byt)) (w : World) (h : MapAt .i64 w b (encK bkV m)) (hl : ∀ p ∈ m, p.2.length = 256) [hV : Old V w] (c0 : w.cell? ⟨V, 0, none⟩ = some (.int .i64 s)) (hVb : V ≠ b) :
  Calls Tryz.prog 117 #[.map (some b), .func (.func 118) #[] #[.pointer (some ⟨V, 0, none⟩)]] w fun e w' => e = .returned (.tuple #[]) ∧ MapAt .i64 w' b (encK bkV (m.filter fun p => decide (p.1 < s))) ∧ w.grownBy w' (some b) := by
 have HL := Lib.hid hl
 have HM := Lib.hid h
 clear hl h
 go_enter Tryz.func117, Tryz.ntmps117
 go_wp2_with (at_range; refine wpList_rangeK rfl _ rfl Tryz.underlying113 HM.out rfl ?_; intro w0 cnt0 hrg0 hg0)
 go_frame
 go_loopw [8] (fun _ wr => ∃ left cnt, RangeAt .i64 wr b w.heap.size (encK bkV (leftF s left m)) left cnt ∧ w.grownBy wr (some b)) (fun _ wr => wr.rangeLeft b w.heap.size)
 case atStart => exact ⟨_, _, by rw [leftF_start]; exact hrg0, grownBy_gr hg0⟩
 case round =>
  obtain ⟨left, cnt, hrg, hgw⟩ := hrel
  have HR := Lib.hid hrg
  have HG := Lib.hid hgw
  go_wp2_with (first | (at_next; refine wpList_nextK rfl _ rfl rfl HR.out ?_ ?_) | go_in)
  ·intro _ hl0
   go_wp2
   go_end0
   exact ⟨rfl, by rw [← leftF_end (fun p hp => hl0 p.1 p.2 hp)]; exact HR.out.map, HG.out⟩
  ·intro k v w1 cnt1 hmem hlk hrg1 hlt hob hen
   obtain ⟨B, hB, rfl⟩ := leftF_mem hmem
   have hB2 := HL.out _ hB
   haveI := bkC_row hB2
   have hg1 : w.grownBy w1 (some b) := HG.out.andThen hob.1 (fun j hj => by cases hj; exact .inl (Nat.le_refl _))
   have c1 : w1.cell? ⟨V, 0, none⟩ = some (.int .i64 s) := (World.cell?_of_block (hg1.block V hV.lt (fun e => hVb (by cases e; rfl)))).trans c0
   haveI : Old V w1 := ⟨Nat.lt_of_lt_of_le hV.lt hg1.size⟩
   have HF : Hid (∀ W, Gr w1 W → Calls Tryz.prog 118 #[.int .i64 k, .agg (bkC B), .pointer (some ⟨V, 0, none⟩)] W fun e w' => e = .returned (.bool (decide (s ≤ k))) ∧ Gr W w') := Lib.hid fun W g => by
    haveI : Old V W := ⟨Nat.lt_of_lt_of_le Old.lt g.below.size⟩
    exact sizeF_any k s B hB2 V W ((g.below.cell (p := ⟨V, 0, none⟩) (Old.lt (b := V) (W := w1))).trans c1)
   have HG1 := Lib.hid hg1
   have HRl := Lib.hid hrg1
   have HRo := Lib.hid hrg
   have HLT := Lib.hid hlt
   clear hg1 hrg1 hrg hgw hlt hob hmem hlk HR
   by_cases hsk : s ≤ k
   ·have hd : decide (s ≤ k) = true := decide_eq_true hsk
    rw [hd] at HF
    go_wp2_with (first | (refine wpStoreB rfl _ _ rfl _ _ _ rfl rfl inferInstance inferInstance inferInstance ?_) | (refine wpLoadB rfl _ rfl _ _ rfl inferInstance inferInstance ?_) | (go_at_call 118; ((with_reducible refine (HF.out _ gri).mono ?_); rintro _ _ ⟨rfl, g1, rfl⟩)) | (at_delete; refine wpList_dropK rfl _ _ rfl k Tryz.underlying113 Tryz.underlying3 (HRl.out.gr gri) rfl rfl ?_; intro w3 cnt3 hrg3 hle hob3; go_frame) | go_in)
    go_roundw
    case rel => exact ⟨fun z => left z && z != k, _, by rw [← leftF_struck hsk, ← delK_enc]; exact hrg3, (HG1.out.andThen (grownBy_gr (row := none) gri) (fun j hj => by cases hj)).andThen hob3.1 (fun j hj => .inr hj)⟩
    case measure => rw [hrg3.left_eq, HRo.out.left_eq]; have := HLT.out; omega
   ·have hd : decide (s ≤ k) = false := decide_eq_false hsk
    rw [hd] at HF
    go_wp2_with (first | (refine wpStoreB rfl _ _ rfl _ _ _ rfl rfl inferInstance inferInstance inferInstance ?_) | (refine wpLoadB rfl _ rfl _ _ rfl inferInstance inferInstance ?_) | (go_at_call 118; ((with_reducible refine (HF.out _ gri).mono ?_); rintro _ _ ⟨rfl, g1, rfl⟩)) | go_in)
    have hr2 := HRl.out.gr (gri : Gr w1 (grown ((w1.alloc (Obj.cells Tryz.zeroCells88 88)).setRow w1.heap.size (bkC B)) g1))
    go_roundw
    case rel => exact ⟨fun z => left z && z != k, _, by rw [leftF_stays (by omega)]; exact hr2, HG1.out.andThen (grownBy_gr (row := none) gri) (fun j hj => by cases hj)⟩
    case measure => rw [hr2.left_eq, HRo.out.left_eq]; exact HLT.out
set_option maxRecDepth 100000
theorem grownBy_split {w W : World} {b : Nat} (h : w.grownBy W (some b)) : ∃ W2, OnlyB w W2 b ∧ Gr W2 W ∧ (b < w.heap.size → W2.heap[b]? = W.heap[b]?) := by
 have hsz : (W.heap.extract 0 w.heap.size).size = w.heap.size := by have := h.size; simp; omega
 have hg : ∀ i, i < w.heap.size → (W.heap.extract 0 w.heap.size)[i]? = W.heap[i]? := fun i hi => by
  have := h.size
  rw [Array.getElem?_eq_getElem (by omega), Array.getElem?_eq_getElem (by omega)]
  simp
 refine ⟨{ W with heap := W.heap.extract 0 w.heap.size }, ⟨⟨h.os, h.tape, h.output, Nat.le_of_eq hsz.symm, fun i hi hr => (hg i hi).trans (h.block i hi hr)⟩, hsz⟩, Gr.of ⟨rfl, rfl, rfl, by show (W.heap.extract 0 w.heap.size).size ≤ _; rw [hsz]; exact h.size, fun i hi => ?_⟩, hg b⟩
 have hi2 : i < w.heap.size := hsz ▸ hi
 exact (hg i hi2).symm
set_option maxHeartbeats 4000000 in
theorem resize_any (xv xt xs xa xc most : Int) (xD : Option Addr) (xn xq : Nat) (hn : xn ≤ 1000000) (base D : Nat) (d : Dev) (w : World) (h : DevAt base w D d) (hbase : base ≤ w.heap.size) (x : VolM) (hv : getK d xv = some x) (hok : DevOk (putK d xv (xs, x.2.filter fun p => decide (p.1 < xs)))) :
  Calls Tryz.prog 93 #[.pointer (some ⟨D, 0, none⟩), .agg #[.int .i64 3, .int .u64 xv, .int .u64 xt, .int .i64 xs, .int .i64 xa, .int .i64 xc, .slice xD xn xq], .int .i64 most] w (OpPost base D (putK d xv (xs, x.2.filter fun p => decide (p.1 < xs))) 0 0 w) := by
 obtain ⟨M, mb, h⟩ := h
 haveI := h.blk
 have x0 : w.cell? ⟨D, 0, none⟩ = some (.map (some M)) := (@block_cells _ _ 0 _ _ h.blk).trans rfl
 haveI : Old D w := h.blk.old
 have HD := Lib.hid h
 have HOK := Lib.hid hok
 have hlk := look_vol1 h xv _ hv
 simp only [volV] at hlk
 have HX := Lib.hid (h.ok.vols _ ((getK_mem h.ok.sort).1 hv))
 have HM := Lib.hid (h.vol _ ((getK_mem h.ok.sort).1 hv))
 have HV := Lib.hid hv
 clear h hv hok
 go_enter Tryz.func93, Tryz.ntmps93
 go_wp2
 refine wp_region_all [0, 1, 2, 3, 4, 5, 6] [7] [8] (by kernel_rfl) (by kernel_rfl) ?_
 simp only [pick, List.drop, List.take, List.nil_append, List.cons_append]
 repeat (refine wpCalm_step (fun K hK => ?_); go_simp; first | (refine hK _ ?_; clear hK K) | (apply Exists.intro; refine ⟨fun _ => ?_, hK _ ?_⟩; (skip); clear hK K))
 refine wpCalm_nil ?_
 refine ⟨_, _, _, allocOp_alloc rfl rfl Tryz.zeroValue115, fun b1_0 hb1_0 nb1_0 => ?_⟩
 simp only [Act.put, List.setIfInBounds_toArray, List.set]
 refine ⟨_, _, _, b1_0, #[.int .i64 0, .map none], _, #[.int .i64 x.1, .map (some (mb xv))], rfl, rfl, rfl, List.mem_cons_self, ?hu, hb1_0, rfl, rfl, rfl, rfl, [(b1_0, #[.int .i64 x.1, .map (some (mb xv))], 115)], ?hs, ?_⟩
 case hu =>
  intro z hz e
  rcases List.mem_cons.1 hz with rfl | hz
  ·rfl
  cases hz
 case hs =>
  intro z
  constructor
  ·intro hz
   rcases List.mem_cons.1 hz with rfl | hz
   ·exact .inl rfl
   cases hz
  ·rintro (rfl | ⟨hz, hne⟩)
   ·exact List.mem_cons_self
   rcases List.mem_cons.1 hz with rfl | hz
   ·exact absurd rfl hne
   cases hz
 intro w1 hw1
 have cb1_0 : ∀ o, w1.cell? ⟨b1_0, o, none⟩ = (#[.int .i64 x.1, .map (some (mb xv))] : Array Value)[o]? := mix_cell hw1 List.mem_cons_self
 haveI kb1_0 : BlockAt w1 b1_0 #[.int .i64 x.1, .map (some (mb xv))] 115 := ⟨hw1.2 _ List.mem_cons_self⟩
 have fb1_0 : ∀ o, w1.frozen? ⟨b1_0, o, none⟩ = false := mix_frozen hw1 List.mem_cons_self
 have ob1_0 : Old b1_0 w1 := mix_old hw1 List.mem_cons_self
 have qb1_0 := @fresh_ne _ _ hb1_0
 have rb1_0 := @fresh_en _ _ hb1_0
 have lb1_0 := fresh_le hb1_0 w.heap.size
 obtain ⟨⟨g1, rfl⟩, hbs⟩ := hw1
 clear hbs nb1_0
 have hMl : M < w.heap.size := HD.out.all.lt
 have hml : mb xv < w.heap.size := HM.out.lt
 haveI : Past w b1_0 := ⟨lb1_0⟩
 haveI : BNe (w.heap.size + 1) b1_0 := ⟨of_eq_false (qb1_0 (w.heap.size + 1))⟩
 haveI : BNe w.heap.size b1_0 := ⟨of_eq_false (qb1_0 w.heap.size)⟩
 go_wp2_with (first | (go_at_call 116; ((with_reducible refine (part_3 _ _ _ _ _ _ _ _ (by omega) _).mono ?_); rintro _ _ ⟨rfl, g2, rfl⟩)) | (go_at_call 117; ((with_reducible refine (deleteFunc_any xs (mb xv) b1_0 x.2 _ (HM.out.gr gri) (fun p hp => HX.out.len p hp) (by go_simp) (by omega)).mono ?_); rintro _ W2 ⟨rfl, hm2, hg2⟩)))
 have gW : Gr w (World.setCell (grown _ g2) ⟨b1_0, 0, none⟩ (.int .i64 xs)) := gri
 have kA : BlockAt (World.setCell (grown _ g2) ⟨b1_0, 0, none⟩ (.int .i64 xs)) (w.heap.size + 1) #[.int .i64 0, .int .i64 0, .slice none 0 0] 97 := inferInstance
 have kO : BlockAt (World.setCell (grown _ g2) ⟨b1_0, 0, none⟩ (.int .i64 xs)) w.heap.size #[.int .i64 3, .int .u64 xv, .int .u64 xt, .int .i64 xs, .int .i64 xa, .int .i64 xc, .slice xD xn xq] 43 := inferInstance
 have kV : BlockAt (World.setCell (grown _ g2) ⟨b1_0, 0, none⟩ (.int .i64 xs)) b1_0 #[.int .i64 xs, .map (some (mb xv))] 115 := inferInstance
 obtain ⟨Wm, hob, hgm, hbm⟩ := grownBy_split hg2
 generalize World.setCell (grown _ g2) ⟨b1_0, 0, none⟩ (.int .i64 xs) = W1 at *
 have hmW1 := HM.out.gr gW
 have hmm : MapAt .i64 Wm (mb xv) (encK bkV (x.2.filter fun p => decide (p.1 < xs))) := hm2.keep (hbm hmW1.lt)
 have hck1 := ((CK.gr gW).trans (CK.only hmW1 hob)).trans (CK.gr hgm)
 have hDm := (HD.out.gr gW).inner xv x HV.out (x.2.filter fun p => decide (p.1 < xs)) hmm hob (filter_ok HX.out _ _ HX.out.s0 HX.out.s1 (fun p hp _ => (HX.out.keys p hp).2))
 have hD2 := hDm.gr hgm
 have k2A := BlockAt.gr (hob.blockM hmW1 kA) hgm
 have k2O := BlockAt.gr (hob.blockM hmW1 kO) hgm
 have k2V := BlockAt.gr (hob.blockM hmW1 kV) hgm
 have hbw : Below base w W2 := (hob.below (HD.out.bV (xv, x) ((getK_mem HD.out.ok.sort).1 HV.out)) hmW1.lt (gW.below.mono hbase)).trans (hgm.below.mono (by have := hob.2; have := gW.below.size; omega))
 have hsz2 : w.heap.size + 2 ≤ W2.heap.size := Nat.lt_of_le_of_lt (Nat.le_refl _) k2A.lt
 have x02 : W2.cell? ⟨D, 0, none⟩ = some (.map (some M)) := (@block_cells _ _ 0 _ _ hD2.blk).trans rfl
 have xO1 : W2.cell? ⟨w.heap.size, 1, none⟩ = some (.int .u64 xv) := (@block_cells _ _ 1 _ _ k2O).trans rfl
 have xV0 : W2.cell? ⟨b1_0, 0, none⟩ = some (.int .i64 xs) := (@block_cells _ _ 0 _ _ k2V).trans rfl
 have xV1 : W2.cell? ⟨b1_0, 1, none⟩ = some (.map (some (mb xv))) := (@block_cells _ _ 1 _ _ k2V).trans rfl
 haveI : Old D W2 := hD2.blk.old
 haveI : Old w.heap.size W2 := k2O.old
 haveI : Old b1_0 W2 := k2V.old
 have HD2 := Lib.hid hD2
 have KA2 := Lib.hid k2A
 have HM2 := Lib.hid (hmm.gr hgm)
 have HB2 := Lib.hid hbw
 clear hD2 hmm k2A k2O k2V hbw hDm hmW1 hbm hob hm2 hg2 kA kO kV gW
 refine wp_region_treeT (inCls_ghost _) (Cls.none _) ⟨Gr.of ((Below.refl _ _).drew), trivial⟩ [0, 1, 2, 3, 4, 5, 6] 0 7 (by kernel_rfl) (by kernel_rfl) ?_
 simp only [pick, List.drop, List.take, List.nil_append, List.cons_append]
 repeat (refine wpCalm_step (fun K hK => ?_); go_simp; first | (refine hK _ ?_; clear hK K) | (apply Exists.intro; refine ⟨fun _ => ?_, hK _ ?_⟩; (skip); clear hK K))
 refine wpCalm_nil ?_
 refine ft_end ⟨by kernel_rfl, fun w2 hw2 => ?_⟩
 try simp only [List.drop_succ_cons, List.drop_zero]
 have g3 : Gr W2 w2 := Gr.trans gri hw2.1
 refine wpList_updateK rfl _ _ _ rfl xv _ Tryz.underlying99 Tryz.underlying28 (HD2.out.all.gr g3) rfl rfl rfl fun W' h1 h2 => ?_
 have HD' := HD2.out.put g3 xv (xs, x.2.filter fun p => decide (p.1 < xs)) (mb xv) (HM2.out.gr g3) (.inr ⟨rfl, _, (getK_mem HD2.out.ok.sort).1 (getK_put_self HD.out.ok.sort _ _)⟩) h1 h2 (by rw [putK_putK _ _ _ _ HD.out.ok.sort]; exact HOK.out) (by omega)
 rw [putK_putK _ _ _ _ HD.out.ok.sort] at HD'
 haveI hB1 : BlockAt W' (w.heap.size + 1) #[.int .i64 0, .int .i64 0, .slice none 0 0] 97 := h2.blockAt (BlockAt.gr KA2.out g3) (by omega)
 have hck := (hck1.trans (CK.gr g3)).trans (CK.only (HD2.out.all.gr g3) h2)
 have hbel : Below base w W' := h2.below HD.out.bM (by have := g3.below.size; omega) (HB2.out.trans (g3.below.mono (by omega)))
 have z0 : W'.cell? ⟨w.heap.size + 1, 0, none⟩ = some (.int .i64 0) := (@block_cells _ _ 0 _ _ hB1).trans rfl
 have z1 : W'.cell? ⟨w.heap.size + 1, 1, none⟩ = some (.int .i64 0) := (@block_cells _ _ 1 _ _ hB1).trans rfl
 have z2 : W'.cell? ⟨w.heap.size + 1, 2, none⟩ = some (.slice none 0 0) := (@block_cells _ _ 2 _ _ hB1).trans rfl
 have f0 : ∀ o, W'.frozen? ⟨w.heap.size + 1, o, none⟩ = false := fun o => @block_frozen _ _ o _ _ hB1
 have HN := Lib.hid HD'
 have HB := Lib.hid hbel
 have HCK := Lib.hid hck
 clear HD' hbel hck
 clear h1 h2 hw2 g3 hMl
 simp only [Act.put]
 go_wp2
 exact bodyPost_ret (run_resCell1 rfl _ _ _ _ rfl (ans_block hB1 _ _ _) Tryz.underlying97 rfl (by kernel_rfl)) rfl ⟨rfl, ans_dev HN.out hB1 (by decide) _ _ _, ans_below HB.out (by omega) _ _ _, ck_ans HCK.out (by omega) _ _ _⟩
set_option maxRecDepth 100000
theorem Row.bytes {w : World} {A : Option Addr} {l : List UInt8} (h : Row bv w A l) {W : World} (g : Gr w W) : Row bv W A l := h.gr g
theorem errK_may {d : Dev} {o : OpM} (he : errK d o = 0) : o.may = true := by
 cases hm : o.may with
 | true => rfl
 | false => rw [errK, if_pos hm] at he; cases he
theorem errK_vol {d : Dev} {o : OpM} (he : errK d o = 0) (h1 : o.k ≠ 1) (h8 : o.k ≠ 8) : ∃ x, getK d o.v = some x := by
 rw [errK, if_neg (by rw [errK_may he]; simp), if_neg h8] at he
 cases hx : getK d o.v with
 | some x => exact ⟨x, rfl⟩
 | none => rw [hx] at he; simp [h1] at he
theorem part_any (xk xv xt xs xa xc most : Int) (xD : Option Addr) (xn xq : Nat) (hq : xn ≤ xq) (lx : Byt) (hxn : lx.length = xn) (base D : Nat) (d : Dev) (w : World) (h : DevAt base w D d) (hbase : base ≤ w.heap.size) (hr : Row bv w xD lx) (hn : xn ≤ 1000000) :
  Calls Tryz.prog 71 #[.pointer (some ⟨D, 0, none⟩), .agg #[.int .i64 xk, .int .u64 xv, .int .u64 xt, .int .i64 xs, .int .i64 xa, .int .i64 xc, .slice xD xn xq], .int .i64 most] w
   (PartPost base D (partK d ⟨xk, xv, xt, xs, xa, xc, lx⟩ most) (ansK d ⟨xk, xv, xt, xs, xa, xc, lx⟩ most).1 (ansK d ⟨xk, xv, xt, xs, xa, xc, lx⟩ most).2.1 (ansK d ⟨xk, xv, xt, xs, xa, xc, lx⟩ most).2.2 w) := by
 by_cases he : errK d ⟨xk, xv, xt, xs, xa, xc, lx⟩ = 0
 rotate_left
 ·have e1 : partK d ⟨xk, xv, xt, xs, xa, xc, lx⟩ most = d := by rw [partK, if_neg he]
  have e2 : ansK d ⟨xk, xv, xt, xs, xa, xc, lx⟩ most = (errK d ⟨xk, xv, xt, xs, xa, xc, lx⟩, 0, []) := by rw [ansK, if_neg he]
  rw [e1, e2]
  exact part_ref xk xv xt xs xa xc most xD xn xq lx hxn base D d w h hbase hr hn _ rfl (errK_val d _ he)
 have hm := errK_may he
 have hs := may_s hm
 have hkk := may_kind hm
 have hok := part_ok (by obtain ⟨M, mb, h⟩ := h; exact h.ok : DevOk d) ⟨xk, xv, xt, xs, xa, xc, lx⟩ most
 have e1 : partK d ⟨xk, xv, xt, xs, xa, xc, lx⟩ most = didK d ⟨xk, xv, xt, xs, xa, xc, lx⟩ most := by rw [partK, if_pos he]
 have h9 : xk = 1 ∨ xk = 2 ∨ xk = 3 ∨ xk = 4 ∨ xk = 5 ∨ xk = 6 ∨ xk = 7 ∨ xk = 8 ∨ xk = 9 := by simp only at hkk; omega
 have hb := fun W (g : Gr w W) => Nat.le_trans hbase g.below.size
 rw [e1] at hok ⊢
 clear e1 hkk
 rcases h9 with rfl | rfl | rfl | rfl | rfl | rfl | rfl | rfl | rfl
 ·have e2 : ansK d ⟨1, xv, xt, xs, xa, xc, lx⟩ most = (0, 0, []) := by simp [ansK, he]
  have e3 : didK d ⟨1, xv, xt, xs, xa, xc, lx⟩ most = putK d xv (xs, []) := by simp [didK]
  rw [e3] at hok
  rw [e2, e3]
  exact part_call _ _ _ _ _ _ _ _ _ _ lx hxn base D d _ w h hbase hr hn he 91 rfl 0 0 [] (fun _ _ => rfl) fun W g => (create_any _ _ _ _ _ _ _ _ _ hn base D d W (h.gr g) (hb W g) hok).mono fun e w' hp => opPost_part hp
 ·have e2 : ansK d ⟨2, xv, xt, xs, xa, xc, lx⟩ most = (0, 0, []) := by simp [ansK, he]
  have e3 : didK d ⟨2, xv, xt, xs, xa, xc, lx⟩ most = delK d xv := by simp [didK]
  rw [e2, e3]
  exact part_call _ _ _ _ _ _ _ _ _ _ lx hxn base D d _ w h hbase hr hn he 92 rfl 0 0 [] (fun _ _ => rfl) fun W g => (drop_any _ _ _ _ _ _ _ _ _ hn base D d W (h.gr g) (hb W g)).mono fun e w' hp => opPost_part hp
 ·obtain ⟨x, hv⟩ := errK_vol he (by simp) (by simp)
  simp only at hv
  have e2 : ansK d ⟨3, xv, xt, xs, xa, xc, lx⟩ most = (0, 0, []) := by simp [ansK, he]
  have e3 : didK d ⟨3, xv, xt, xs, xa, xc, lx⟩ most = putK d xv (xs, x.2.filter fun p => decide (p.1 < xs)) := by simp [didK, volD, hv]
  rw [e3] at hok
  rw [e2, e3]
  exact part_call _ _ _ _ _ _ _ _ _ _ lx hxn base D d _ w h hbase hr hn he 93 rfl 0 0 [] (fun _ _ => rfl) fun W g => (resize_any _ _ _ _ _ _ _ _ _ hn base D d W (h.gr g) (hb W g) x hv hok).mono fun e w' hp => opPost_part hp
 ·obtain ⟨x, hv⟩ := errK_vol he (by simp) (by simp)
  simp only at hv
  have e2 : ansK d ⟨4, xv, xt, xs, xa, xc, lx⟩ most = (0, 0, []) := by simp [ansK, he]
  have e3 : didK d ⟨4, xv, xt, xs, xa, xc, lx⟩ most = putK d xt x := by simp [didK, volD, hv]
  rw [e3] at hok
  rw [e2, e3]
  exact part_call _ _ _ _ _ _ _ _ _ _ lx hxn base D d _ w h hbase hr hn he 94 rfl 0 0 [] (fun _ _ => rfl) fun W g => (snap_any _ _ _ _ _ _ _ _ _ hn base D d W (h.gr g) (hb W g) x hv hok).mono fun e w' hp => opPost_part hp
 ·obtain ⟨x, hv⟩ := errK_vol he (by simp) (by simp)
  simp only at hv
  have ha := hs.at_ (by simp)
  have hd := hs.dat rfl
  simp only at ha hd
  rw [hxn] at hd
  have hfit : ¬ 4 * x.1 < xa + (xn : Int) / 64 := fun hlt => by
   rw [errK, if_neg (by rw [hm]; simp)] at he
   simp [hv, hxn] at he
   omega
  have e2 : ansK d ⟨5, xv, xt, xs, xa, xc, lx⟩ most = (fullC most (spans xa.toNat (xn / 64)).length, fullD most (spans xa.toNat (xn / 64)).length, []) := by
   simp only [ansK, he, cntO, fullC, fullD, hxn]
   by_cases hml : most < ((spans xa.toNat (xn / 64)).length : Int) <;> simp [hml]
  have e3 : didK d ⟨5, xv, xt, xs, xa, xc, lx⟩ most = putK d xv (x.1, putL xa.toNat lx x.2 ((spans xa.toNat (xn / 64)).take most.toNat)) := by simp [didK, volD, hv, dataO, cntO, hxn]
  rw [e2, e3]
  exact part_call _ _ _ _ _ _ _ _ _ _ lx hxn base D d _ w h hbase hr hn he 95 rfl _ _ [] (fun _ _ => rfl) fun W g => (put_5 _ _ _ _ _ _ _ _ _ hn base D d W (h.gr g) (hb W g) x hv ha.1 ha.2 hq lx hxn (hr.gr g) hd.1 hd.2.1 hd.2.2 hfit).mono fun e w' hp => opPost_part hp
 ·obtain ⟨x, hv⟩ := errK_vol he (by simp) (by simp)
  simp only at hv
  have ha := hs.at_ (by simp)
  have hc := hs.cnt (by simp)
  simp only at ha hc
  have hfit : ¬ 4 * x.1 < xa + xc := fun hlt => by
   rw [errK, if_neg (by rw [hm]; simp)] at he
   simp [hv] at he
   omega
  have e2 : ansK d ⟨6, xv, xt, xs, xa, xc, lx⟩ most = (fullC most (spans xa.toNat xc.toNat).length, fullD most (spans xa.toNat xc.toNat).length, []) := by
   simp only [ansK, he, cntO, fullC, fullD]
   by_cases hml : most < ((spans xa.toNat xc.toNat).length : Int) <;> simp [hml]
  have e3 : didK d ⟨6, xv, xt, xs, xa, xc, lx⟩ most = putK d xv (x.1, putL xa.toNat (List.replicate (xc.toNat * 64) 0) x.2 ((spans xa.toNat xc.toNat).take most.toNat)) := by simp [didK, volD, hv, dataO, cntO, Nat.mul_comm]
  rw [e2, e3]
  exact part_call _ _ _ _ _ _ _ _ _ _ lx hxn base D d _ w h hbase hr hn he 95 rfl _ _ [] (fun _ _ => rfl) fun W g => (put_6 _ _ _ _ _ _ _ _ _ hn base D d W (h.gr g) (hb W g) x hv ha.1 ha.2 hc.1 hc.2 hfit).mono fun e w' hp => opPost_part hp
 ·obtain ⟨x, hv⟩ := errK_vol he (by simp) (by simp)
  simp only at hv
  have ha := hs.at_ (by simp)
  have hc := hs.cnt (by simp)
  simp only at ha hc
  have e2 : ansK d ⟨7, xv, xt, xs, xa, xc, lx⟩ most = (0, 0, []) := by simp [ansK, he]
  have e3 : didK d ⟨7, xv, xt, xs, xa, xc, lx⟩ most = putK d xv (x.1, dropF xa xc.toNat x.2) := by
   have e4 : ((xc.toNat : Nat) : Int) = xc := Int.toNat_of_nonneg (by omega)
   simp [didK, volD, hv, dropF, e4]
  rw [e2, e3]
  exact part_call _ _ _ _ _ _ _ _ _ _ lx hxn base D d _ w h hbase hr hn he 96 rfl 0 0 [] (fun _ _ => rfl) fun W g => (discard_any _ _ _ _ _ _ _ _ _ hn base D d W (h.gr g) (hb W g) x hv ha.1 ha.2 hc.1 hc.2).mono fun e w' hp => opPost_part hp
 ·have e2 : ansK d ⟨8, xv, xt, xs, xa, xc, lx⟩ most = (0, 0, []) := by simp [ansK, he]
  have e3 : didK d ⟨8, xv, xt, xs, xa, xc, lx⟩ most = d := by simp [didK]
  rw [e2, e3]
  exact part_none _ _ _ _ _ _ _ _ _ _ lx hxn base D d w h hbase hr hn he rfl
 ·obtain ⟨x, hv⟩ := errK_vol he (by simp) (by simp)
  simp only at hv
  have ha := hs.at_ (by simp)
  have hc := hs.cnt (by simp)
  simp only at ha hc
  have e2 : ansK d ⟨9, xv, xt, xs, xa, xc, lx⟩ most = (0, 0, (spans xa.toNat xc.toNat).flatMap fun s => cutK (blkM x.2 s.b) s) := by simp [ansK, he, readK, volD, hv]
  have e3 : didK d ⟨9, xv, xt, xs, xa, xc, lx⟩ most = d := by simp [didK]
  rw [e2, e3]
  exact part_call _ _ _ _ _ _ _ _ _ _ lx hxn base D d _ w h hbase hr hn he 97 rfl 0 0 _ (fun _ _ => rfl) fun W g => (read_any _ _ _ _ _ _ _ _ _ hn base D d W (h.gr g) x hv ha.1 ha.2 hc.1 hc.2).mono fun e w' hp => by
   obtain ⟨v, he', ho, hg⟩ := hp
   obtain ⟨A, c, rfl, _⟩ := ho.form bIs
   exact ⟨A, _, c, he', ho, (h.gr g).gr hg, hg.below.mono (hb W g), CK.gr hg⟩
set_option maxRecDepth 100000
set_option maxHeartbeats 4000000
def RPost (base R : Nat) (d : Dev) (code done : Int) (data : Byt) (w : World) (e : Ending) (w' : World) : Prop :=
 ∃ A n c, e = .returned (.agg #[.int .i64 code, .int .i64 done, .slice A n c]) ∧ OwnN bE w.heap.size w' (.slice A n c) data ∧ RefAt base w' R d ∧ Below base w w' ∧ RK w w'
theorem RefIn.setCell {base R : Nat} {W : World} {v : Value} {vf : Int → Value} {d : Dev} (h : RefIn base W R v vf d) (B o : Nat) (u : Value) {cs : Array Value} {t : TypeId} [hB : BlockAt W B cs t] (h1 : t ≠ 67) (h2 : t ≠ 64) (h3 : t ≠ 120) : RefIn base (W.setCell ⟨B, o, none⟩ u) R v vf d := by
 have hR : R ≠ B := fun e => by
  subst e
  have := h.blk.eq
  rw [hB.eq] at this
  cases this
  exact h1 rfl
 refine ⟨⟨(Below.heap_setCell W ⟨B, o, none⟩ u R hR).trans h.blk.eq⟩, h.own.set_ B o u h2, fun p hp => (h.vol p hp).keep fun b cs' f hb => Below.heap_setCell W ⟨B, o, none⟩ u b (fun e => ?_), h.bR, h.ok⟩
 subst e
 rw [hB.eq] at hb
 cases hb
 exact h3 rfl
theorem RK.new {w W : World} (k : RK w W) {B o : Nat} (hB : w.heap.size ≤ B) (u : Value) : RK w (W.setCell ⟨B, o, none⟩ u) := ⟨by have := k.size; simpa [World.setCell] using this, fun b ob hb hn => by
 have hl := (Array.getElem?_eq_some_iff.1 hb).1
 exact (Below.heap_setCell W ⟨B, o, none⟩ u b (by show b ≠ B; omega)).trans (k.keep b ob hb hn)⟩
theorem ans_ref {base : Nat} {W : World} {R : Nat} {v : Value} {vf : Int → Value} {d : Dev} (h : RefIn base W R v vf d) {B : Nat} {cs : Array Value} (hB : BlockAt W B cs 97) (c0 c1 c2 : Value) : RefAt base (((W.setCell ⟨B, 0, none⟩ c0).setCell ⟨B, 1, none⟩ c1).setCell ⟨B, 2, none⟩ c2) R d :=
 ⟨v, vf, ((h.setCell B 0 c0 (by decide) (by decide) (by decide)).setCell B 1 c1 (by decide) (by decide) (by decide)).setCell B 2 c2 (by decide) (by decide) (by decide)⟩
theorem ans_rk {w W : World} (h : RK w W) {B : Nat} (hB : w.heap.size ≤ B) (c0 c1 c2 : Value) : RK w (((W.setCell ⟨B, 0, none⟩ c0).setCell ⟨B, 1, none⟩ c1).setCell ⟨B, 2, none⟩ c2) := ((h.new hB c0).new hB c1).new hB c2
def RC (base R : Nat) (d : Dev) (W : World) (e : Ending) (w' : World) : Prop := e = .returned (.tuple #[]) ∧ RefAt base w' R d ∧ RK W w' ∧ Below base W w'
theorem RefIn.setSM {base R : Nat} {w W W2 : World} {g n c : Nat} {vf : Int → Value} {d : Dev} (h : RefIn base w R (.slice (some ⟨g, 0, none⟩) n c) vf d) (hg : Gr w W) {i : Nat} {p : Int × VolM} (hp : d[i]? = some p) (s : Int) (hg2 : Gr (W.setCell ⟨g, i * 3 + 1, none⟩ (.int .i64 s)) W2) (m : List (Int × Byt)) (u : Value) (hu : BlkS W2 u m) (hok : VolOk (s, m)) :
  RefIn base (W2.setCell ⟨g, i * 3 + 2, none⟩ u) R (.slice (some ⟨g, 0, none⟩) n c) (fun k => if k = p.1 then u else vf k) (putK d p.1 (s, m)) ∧ RK W (W2.setCell ⟨g, i * 3 + 2, none⟩ u) := by
 have H := h.gr hg
 obtain ⟨cs, hh⟩ : ∃ cs, W.heap[g]? = some (.cells cs 64 (0, 0)) := by
  rcases H.own.own.2 with ⟨e, _⟩ | ⟨b, cap, cur, e, _, hh, _⟩
  ·cases e
  ·cases e; exact ⟨_, hh⟩
 have hk := h.ok.keys p (List.mem_of_getElem? hp)
 have hset := putK_set h.ok.sort (y := (s, m)) (show d[i]? = some (p.1, p.2) from hp)
 have hrk1 : RK W (W.setCell ⟨g, i * 3 + 1, none⟩ (.int .i64 s)) := (RK.refl W).set_ g _ _ hh (.inl rfl)
 haveI : BlockAt W g cs 64 := ⟨hh⟩
 have hh2 : BlockAt W2 g (cs.setIfInBounds (i * 3 + 1) (.int .i64 s)) 64 := BlockAt.gr (inferInstance : BlockAt (W.setCell ⟨g, i * 3 + 1, none⟩ (.int .i64 s)) g _ _) hg2
 have hrk2 : RK W W2 := hrk1.trans (RK.gr hg2)
 have hrk : RK W (W2.setCell ⟨g, i * 3 + 2, none⟩ u) := hrk2.set_ g _ u hh2.eq (.inl rfl)
 have hrk3 : RK W2 (W2.setCell ⟨g, i * 3 + 2, none⟩ u) := (RK.refl W2).set_ g _ u hh2.eq (.inl rfl)
 have hil : i < d.length := (List.getElem?_eq_some_iff.1 hp).1
 refine ⟨⟨?_, ?_, fun q hq => ?_, h.bR, put_ok h.ok hk.1 hk.2 hok⟩, hrk⟩
 ·haveI := H.blk
  haveI : BNe R g := ⟨(H.neD rfl).symm⟩
  haveI : BlockAt W2 R _ _ := BlockAt.gr (inferInstance : BlockAt (W.setCell ⟨g, i * 3 + 1, none⟩ (.int .i64 s)) R _ _) hg2
  infer_instance
 ·have hs1 := H.own.store rvIs i 1 (rvF vf p) ⟨p.1, s, vf p.1⟩ (.int .i64 s) (by rw [List.getElem?_map, hp]; rfl) (by decide) rfl (h.vol p (List.mem_of_getElem? hp)).one
  have hs2 := (hs1.gr hg2).store rvIs i 2 ⟨p.1, s, vf p.1⟩ ⟨p.1, s, u⟩ u (by rw [List.getElem?_set_self (by rw [List.length_map]; exact hil)]) (by decide) rfl hu.one
  rw [List.set_set] at hs2
  have e : (d.map (rvF vf)).set i ⟨p.1, s, u⟩ = (putK d p.1 (s, m)).map (rvF fun k => if k = p.1 then u else vf k) := by
   rw [← hset]
   apply List.ext_getElem?
   intro j
   rw [List.getElem?_set, List.getElem?_map, List.getElem?_map, List.getElem?_set]
   by_cases hj : i = j
   ·subst hj
    simp [hil, rvF]
   ·simp only [hj, if_false]
    cases hq : d[j]? with
    | none => rfl
    | some q =>
     have hne : ¬ q.1 = p.1 := fun e => by
      have h1 := findN_at h.ok.sort (show d[i]? = some (p.1, p.2) from hp)
      have h2 := findN_at h.ok.sort (show d[j]? = some (q.1, q.2) from hq)
      rw [e, h1] at h2
      cases h2
      exact hj rfl
     simp [rvF, hne]
  rw [e] at hs2
  exact hs2
 ·rcases (mem_putK h.ok.sort q).1 hq with rfl | ⟨hq, hne⟩
  ·simp only [if_true]
   exact hrk3.blkS hu
  ·simp only [if_neg hne]
   exact hrk.blkS (H.vol q hq)
theorem stm_rc {base R : Nat} {W : World} {g n c : Nat} {vf : Int → Value} {d : Dev} (h : RefIn base W R (.slice (some ⟨g, 0, none⟩) n c) vf d) (hb : base ≤ g) {i : Nat} {p : Int × VolM} (hp : d[i]? = some p) (m : List (Int × Byt)) (hok : VolOk (p.2.1, m)) {e : Ending} {w' : World} (hst : StM W g (i * 3 + 2) m e w') (hbase : base ≤ W.heap.size) : RC base R (putK d p.1 (p.2.1, m)) W e w' := by
 obtain ⟨rfl, w1, u, hg, ho, rfl⟩ := hst
 have hr := h.setM hg hp m u ho.blkS hok
 refine ⟨rfl, ⟨_, _, hr⟩, ?_, (hg.below.mono hbase).setCell (p := ⟨g, i * 3 + 2, none⟩) hb u⟩
 have H := h.gr hg
 rcases H.own.own.2 with ⟨e, _⟩ | ⟨b, cap, cur, e, _, hh, _⟩
 ·cases e
 ·cases e
  exact (RK.gr hg).set_ g _ u hh (.inl rfl)
theorem vols_len {x : VolM} (h : VolOk x) : x.2.length ≤ 256 := by
 have h1 := h.s0
 have h2 := h.s1
 have hk : ∀ p ∈ x.2, 0 ≤ p.1 ∧ p.1 < 256 := fun p hp => by have := h.keys p hp; omega
 have hs := h.sort
 have : ∀ (l : List (Int × Byt)) (lo : Int), SortK l → (∀ p ∈ l, lo ≤ p.1 ∧ p.1 < 256) → lo ≤ 256 → (l.length : Int) ≤ 256 - lo := by
  intro l
  induction l with
  | nil => intro lo _ _ h; simp; omega
  | cons p r ih =>
   intro lo hs hk hlo
   have hp := hk p (.head _)
   have h9 := List.pairwise_cons.1 hs
   have := ih (p.1 + 1) h9.2 (fun q hq => ⟨by have := h9.1 q hq; omega, (hk q (.tail _ hq)).2⟩) (by omega)
   simp only [List.length_cons]
   omega
 have := this x.2 0 hs hk (by omega)
 omega
theorem wpStoreG {W : World} {ops : Array Oper} {rest : List Oper} {o : Oper} {a : Act} {Q : Exit → Act → World → Prop} {ty : TypeId} (hgd : o.guard = none) (x y : Operand) (ho : o.op = .store ty x y) (ad : Addr) (u : Value) (hx : a.eval x = .pointer (some ad)) (hy : a.eval y = u) (W' : World) (hrun : (storeVar ty ad u).run Tryz.prog W = .ok () W')
  (h : wpList Tryz.prog ops Q rest (a.put o.dst undef) W') : wpList Tryz.prog ops Q (o :: rest) a W := by
 refine wpList_plain hgd fun K' hK' => ?_
 unfold Oper.wp execOp
 simp only [ho, hx, hy, Instr.storeAt, Instr.sureAddr, Sem.run_bind, Sem.run_pure, Result.andThen_ok, hrun]
 exact hK' _ _ h
theorem wrapJ (n : Nat) (h : n < 9223372036854775808) : IntKind.i64.wrap (n : Int) = (n : Int) := by
 have hm : (n : Int) % 18446744073709551616 = n := by omega
 unfold IntKind.wrap
 simp [IntKind.bits, IntKind.signed, hm]
 omega
theorem froV {W : World} {g : Nat} (h : ∃ cs, W.heap[g]? = some (.cells cs 64 (0, 0))) (o : Nat) : W.frozen? ⟨g, o, none⟩ = false := by
 obtain ⟨cs, h⟩ := h
 simp [World.frozen?, h]
theorem del_rows (vf : Int → Value) (d : Dev) (n : Int) (i : Nat) (x : VolM) (j : Nat) (hs : SortK d) (h : d[i]? = some (n, x)) (hj : j = i + 1) : (delK d n).map (rvF vf) = (d.map (rvF vf)).take i ++ (d.map (rvF vf)).drop j := by
 subst hj
 rw [delK_at hs h, List.map_append, ← List.map_take, ← List.map_drop]
theorem add_rc {base R : Nat} {v : Value} {vf : Int → Value} {d : Dev} {n s : Int} {u : Value} {m : List (Int × Byt)} {W : World} (h : RefIn base W R v vf d) (hu : BlkS W u m) (hn : getK d n = none) (hl : d.length ≤ 1000000) (hbase : base ≤ W.heap.size) (hok : DevOk (putK d n (s, m))) :
  Calls Tryz.prog 124 #[.pointer (some ⟨R, 0, none⟩), .agg #[.int .u64 n, .int .i64 s, u]] W (RC base R (putK d n (s, m)) W) := by
 refine (radd_any base R v vf d n s u m W h hu hn hl).mono ?_
 rintro _ _ ⟨rfl, w1, v', hg, ho, rfl⟩
 obtain ⟨h1, h2⟩ := h.setV hg hbase ho (fun p hp => by
  rcases (mem_putK h.ok.sort p).1 hp with rfl | ⟨hp, hne⟩
  ·simp only [if_true]; exact hu.gr hg
  ·simp only [if_neg hne]; exact (h.vol p hp).gr hg) hok
 exact ⟨rfl, ⟨v', _, h1⟩, h2, (hg.below.mono hbase).setCell (p := ⟨R, 0, none⟩) h.bR v'⟩
theorem rpart_ref (xk xv xt xs xa xc most : Int) (xD : Option Addr) (xn xq : Nat) (lx : Byt) (hxn : lx.length = xn) (base R : Nat) (d : Dev) (w : World) (h : RefAt base w R d) (hbase : base ≤ w.heap.size) (hl : d.length ≤ 1000000) (hn : xn ≤ 1000000) (v0 : 0 ≤ xv) (t0 : 0 ≤ xt) (k : Int) (he : errK d ⟨xk, xv, xt, xs, xa, xc, lx⟩ = k) (hk : k = 2 ∨ k = 5 ∨ k = 6 ∨ k = 7) :
  Calls Tryz.prog 98 #[.pointer (some ⟨R, 0, none⟩), .agg #[.int .i64 xk, .int .u64 xv, .int .u64 xt, .int .i64 xs, .int .i64 xa, .int .i64 xc, .slice xD xn xq], .int .i64 most] w (RPost base R d k 0 [] w) := by
 have HR := Lib.hid (fun W (g : Gr w W) => rrefused_any xk xv xt xs xa xc xD xn xq lx hxn base R d W (h.gr g) hl hn v0 t0)
 rw [he] at HR
 have HH := Lib.hid h
 clear h he
 rcases hk with rfl | rfl | rfl | rfl
 all_goals
  go_enter Tryz.func98, Tryz.ntmps98
  go_wp2_with ((go_at_call 123; ((with_reducible refine (HR.out _ gri).mono ?_); rintro _ _ ⟨rfl, g1, rfl⟩)))
  obtain ⟨v, vf, hd3⟩ := HH.out
  have gW : Gr w (grown _ g1) := gri
  have bA := (inferInstance : BlockAt (grown _ g1) (w.heap.size + 1) #[.int .i64 0, .int .i64 0, .slice none 0 0] 97)
  exact bodyPost_ret (run_resCell1 rfl _ _ _ _ rfl (ans_block bA _ _ _) Tryz.underlying97 rfl (by kernel_rfl)) rfl ⟨none, 0, 0, rfl, OwnN.nil _ _, ans_ref (hd3.gr gW) bA _ _ _, ans_below (gW.below.mono hbase) (by omega) _ _ _, ans_rk (RK.gr gW) (by omega) _ _ _⟩
theorem rpart_8 (xv xt xs xa xc most : Int) (xD : Option Addr) (xn xq : Nat) (lx : Byt) (hxn : lx.length = xn) (base R : Nat) (d : Dev) (w : World) (h : RefAt base w R d) (hbase : base ≤ w.heap.size) (hl : d.length ≤ 1000000) (hn : xn ≤ 1000000) (v0 : 0 ≤ xv) (t0 : 0 ≤ xt) (he : errK d ⟨8, xv, xt, xs, xa, xc, lx⟩ = 0) :
  Calls Tryz.prog 98 #[.pointer (some ⟨R, 0, none⟩), .agg #[.int .i64 8, .int .u64 xv, .int .u64 xt, .int .i64 xs, .int .i64 xa, .int .i64 xc, .slice xD xn xq], .int .i64 most] w (RPost base R d 0 0 [] w) := by
 have HR := Lib.hid (fun W (g : Gr w W) => rrefused_any 8 xv xt xs xa xc xD xn xq lx hxn base R d W (h.gr g) hl hn v0 t0)
 have HF := Lib.hid (fun W (g : Gr w W) => rfind_any base R d xv W (h.gr g) hl)
 rw [he] at HR
 have HH := Lib.hid h
 clear h he
 generalize idxK d xv = ix at *
 go_enter Tryz.func98, Tryz.ntmps98
 go_wp2_with (first | (go_at_call 123; ((with_reducible refine (HR.out _ gri).mono ?_); rintro _ _ ⟨rfl, g1, rfl⟩)) | (go_at_call 24; ((with_reducible refine (HF.out _ gri).mono ?_); rintro _ _ ⟨rfl, g2, rfl⟩)))
 obtain ⟨v, vf, hd3⟩ := HH.out
 have gW : Gr w (grown _ g2) := gri
 have bA := (inferInstance : BlockAt (grown _ g2) (w.heap.size + 1) #[.int .i64 0, .int .i64 0, .slice none 0 0] 97)
 exact bodyPost_ret (run_resCell1 rfl _ _ _ _ rfl (ans_block bA _ _ _) Tryz.underlying97 rfl (by kernel_rfl)) rfl ⟨none, 0, 0, rfl, OwnN.nil _ _, ans_ref (hd3.gr gW) bA _ _ _, ans_below (gW.below.mono hbase) (by omega) _ _ _, ans_rk (RK.gr gW) (by omega) _ _ _⟩
section
variable {P : Program} {ops : Array Oper} {W : World} {Q : Act → Prop} {a : Act} {o : Oper} {rest : List Oper}
theorem wpCalm_load {ty : TypeId} {x : Operand} {B : Nat} {cs : Array Value} {t : TypeId} {d : TypeDesc} (hg : o.guard = none) (ho : o.op = .load ty x) (hx : a.eval x = .pointer (some ⟨B, 0, none⟩)) (hB : BlockAt W B cs t) (hu : P.underlying ty = some d) (hd : (match d with | .struct _ | .array _ _ => true | _ => false) = true) (hi : (P.info? ty).map (·.size) = some cs.size)
  (h : wpCalm P ops W Q rest (a.put o.dst (.agg cs))) : wpCalm P ops W Q (o :: rest) a := by
 unfold wpCalm
 rw [if_pos (by simp [Region.wanted, hg])]
 refine ⟨.agg cs, fun g => ?_, h⟩
 have hB2 : BlockAt (grown W g) B cs t := inferInstance
 unfold calmAt execOp
 simp only [ho, hx, Instr.loadAt, Instr.sureAddr, Sem.run_bind, Sem.run_pure, Result.andThen_ok, run_loadVar_row (grown W g) B t ty cs (0, 0) d hB2.eq hu hd hi]
 simp [calmUpon]
end
theorem run_storeB {W : World} {B : Nat} {zs cs : Array Value} (hB : BlockAt W B zs 88) (hz : zs.size = 256) (hc : CellRow 256 cs) : (storeVar 88 ⟨B, 0, none⟩ (.agg cs)).run Tryz.prog W = .ok () (W.setRow B cs) := by
 have := run_storeCells_from (P := Tryz.prog) B 88 cs.toList 0 zs W hB.eq (by simp [hz, hc.size]) hc.one
 have hi := infoBlk
 cases hq : Tryz.prog.info? 88 with
 | none => simp [hq] at hi
 | some i =>
  have hs : 256 = i.size := by simp [hq] at hi; omega
  have e : (Value.agg cs).cells = cs := rfl
  have hs2 := hc.size
  simp [storeVar, sizeOf, typeInfo, hq, e, ← hs, hs2, this]
theorem effAt_storeB {w : World} {o : Oper} {a : Act} {K : Value → World → Prop} {x y : Operand} {B : Nat} {zs cs : Array Value} (ho : o.op = .store 88 x y) (hx : a.eval x = .pointer (some ⟨B, 0, none⟩)) (hy : a.eval y = .agg cs) (hB : BlockAt w B zs 88) (hz : zs.size = 256) (hc : CellRow 256 cs) (h : K undef (w.setRow B cs)) : EffAt Tryz.prog o a w K := by
 unfold EffAt execOp
 simp only [ho, hx, hy, Instr.storeAt, Instr.sureAddr, Sem.run_bind, Sem.run_pure, Result.andThen_ok, run_storeB hB hz hc, effUpon]
 exact h
theorem setRow_gr {w0 W : World} {B : Nat} {cs : Array Value} (g : Gr w0 W) (hB : w0.heap.size ≤ B) : Gr w0 (W.setRow B cs) := by
 refine Gr.of (g.below.trans ⟨rfl, rfl, rfl, by simp [World.setRow], fun k hk => ?_⟩)
 simp only [World.setRow, Array.getElem?_modify]
 rw [if_neg (by omega)]
theorem setRow_block {W : World} {B : Nat} {zs cs : Array Value} {T : TypeId} (h : BlockAt W B zs T) : BlockAt (W.setRow B cs) B cs T := ⟨setRow_heap W B zs _ T _ h.eq⟩
section
variable {P : Program} {md : Region.Mode} {ops : Array Oper} {W : World} {L : Blocks → Act → Prop} {f : Nat} {listed : Array Bool} {bs : Blocks} {a : Act}
theorem fe_mixAllocD {o : Oper} {d : Tmp} {T : TypeId} {z : Value} (i : Nat) (hr : Region.ready md ops listed = [i]) (ho : ops[i]? = some o) (hg : o.guard = none) (hd : o.dst = some d) (hop : o.op = .alloc T) (hz : ∀ w, (zeroValue T).run P w = .ok z w)
  (h : ∀ b, W.heap.size ≤ b → (∀ x ∈ bs, x.1 ≠ b) → feAny P md ops W (MixWorld W) L f (listed.setIfInBounds i true) ((b, z.cells, T) :: bs) (a.put (some d) (.pointer (some ⟨b, 0, none⟩)))) : feAny P md ops W (MixWorld W) L (f + 1) listed bs a :=
 fe_mixAlloc i hr ho hg hop hz (by rw [hd]; exact h)
theorem fe_mixStoreN {o : Oper} {T ty : TypeId} {x y : Operand} {b : Nat} {zs : Array Value} (i : Nat) (bs' : Blocks) (cs : Array Value) (hr : Region.ready md ops listed = [i]) (ho : ops[i]? = some o) (hg : o.guard = none) (hd : o.dst = none) (hop : o.op = .store ty x y)
  (hx : a.eval x = .pointer (some ⟨b, 0, none⟩)) (hb : (b, zs, T) ∈ bs) (hW : W.heap.size ≤ b) (hy : (a.eval y).cells = cs) (hi : (P.info? ty).map (·.size) = some cs.size) (hold : zs.size = cs.size) (h1 : cs.toList.all (·.oneCell') = true)
  (hp : ∀ z ∈ bs', z = (b, cs, T) ∨ (z ∈ bs ∧ z.1 ≠ b))
  (h : feAny P md ops W (MixWorld W) L f (listed.setIfInBounds i true) bs' a) : feAny P md ops W (MixWorld W) L (f + 1) listed bs a :=
 fe_mixStore i bs' cs hr ho hg hop hx hb hW hy hi hold h1 hp (by rw [hd]; exact h)
theorem fe_mixCalmD {o : Oper} {d : Tmp} (i : Nat) (v : Value) (hr : Region.ready md ops listed = [i]) (ho : ops[i]? = some o) (hg : o.guard = none) (hd : o.dst = some d) (hc : ∀ g : Growth W, calmAt P o a (grown W g) v)
  (h : feAny P md ops W (MixWorld W) L f (listed.setIfInBounds i true) bs (a.put (some d) v)) : feAny P md ops W (MixWorld W) L (f + 1) listed bs a :=
 fe_mixCalm i v hr ho hg hc (by rw [hd]; exact h)
end
theorem effAt_storeG {w w' : World} {o : Oper} {a : Act} {K : Value → World → Prop} {ty : TypeId} {x y : Operand} {ad : Addr} {u : Value} (ho : o.op = .store ty x y) (hx : a.eval x = .pointer (some ad)) (hy : a.eval y = u) (hrun : (storeVar ty ad u).run Tryz.prog w = .ok () w') (h : K undef w') : EffAt Tryz.prog o a w K := by
 unfold EffAt execOp
 simp only [ho, hx, hy, Instr.storeAt, Instr.sureAddr, Sem.run_bind, Sem.run_pure, Result.andThen_ok, hrun, effUpon]
 exact h
theorem CellsN.rk {α : Type} {e : EK α} {W W' : World} {g p : Nat} {xs : List α} {cs : Array Value} {t : TypeId} {f : Nat × Nat} (h : CellsN e W g p xs) (hh : W.heap[g]? = some (.cells cs t f)) (ht : ¬ refT t) (k : RK W W') : CellsN e W' g p xs := fun j x hj i u hu => by
 rw [← h j x hj i u hu]
 have := k.keep g _ hh (fun cs' t' f' e => by cases e; exact ht)
 simp [World.cell?, this, hh]
theorem makeQ (q : Nat) (hq : q ≤ 6400000) (W : World) : (Instr.makeSlice 41 (.int .i64 (q : Int)) (.int .i64 (q : Int))).run Tryz.prog W = .ok (.slice (some ⟨W.heap.size, 0, none⟩) q q) (W.alloc (.cells (bkC (List.replicate q 0)) 5)) := by
 obtain ⟨i0, hi, hz0, hz2, hz3⟩ := info_parts bIs.hE
 have hi2 : i0.size = 1 := hz2
 have hi3 : i0.bytes = 1 := hz3
 have h := run_makeSlice (P := Tryz.prog) W 41 5 i0 (.int .u8 0) Tryz.underlying41 hi hz0 .i64 .i64 (q : Int) (q : Int) (by omega) (Int.le_refl _) (by rw [hi2]; omega) (by rw [hi3]; omega) (by omega)
 rw [h, hi2, Int.toNat_natCast, Nat.mul_one, show (Value.int .u8 0).cells = #[.int .u8 0] from rfl, madeB]
end Go.Proofs.YtipeblmgochdfaaGreat
