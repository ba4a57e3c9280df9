/- Device.size: the blocks that lie behind the new size are struck. Conditions: the device stands in memory. .. -/
import Derived.Test.YtddckdhnolmjoaaGreatW06
import Derived.Test.YtddckdhnolmjoaaGreatW05
import Derived.Test.YtddckdhnolmjoaaGreatW02
import Derived.Laws.AppendOwnNone
import Derived.LoopTactic
import Derived.Test.YtddckdhnolmjoaaGreatW03
import Derived.Lib.Strings
set_option linter.unusedVariables false
set_option linter.unusedSimpArgs false
set_option linter.unnecessarySimpa false
set_option maxRecDepth 100000
set_option maxHeartbeats 8000000
namespace Go.Proofs.YtddckdhnolmjoaaGreat
open Go.RowKit
theorem sizeF_any (k s : Int) (X : Byt) (hX : X.length = 256) (V : Nat) (w : World) [hV : Old V w] (c0 : w.cell? ⟨V, 0, none⟩ = some (.int .i64 s)) :
  Calls Tryz.prog 73 #[.int .i64 k, .agg (bkC X), .pointer (some ⟨V, 0, none⟩)] w fun e w' => e = .returned (.bool (decide (s ≤ k))) ∧ Gr w w' := by
 have hXr := bkC_row hX
 go_enter Tryz.func73, Tryz.ntmps73
 go_wp2
 go_ret
 exact ⟨rfl, gri⟩
def leftF (s : Int) (left : Int → Bool) (L : List (Int × Byt)) : List (Int × Byt) := L.filter fun p => left p.1 || decide (p.1 < s)
theorem leftF_start (s : Int) (m : List (Int × Byt)) : leftF s (fun _ => true) m = m := by
 unfold leftF
 rw [List.filter_eq_self]
 intro p _
 rfl
theorem grownBy_gr {w W : World} {row : Option Nat} (g : Gr w W) : w.grownBy W row := ⟨g.below.os, g.below.tape, g.below.output, g.below.size, fun i hi _ => g.below.block i hi⟩
theorem leftF_mem {s : Int} {left : Int → Bool} {m : List (Int × Byt)} {k : Int} {v : Value} (h : (k, v) ∈ encK bkV (leftF s left m)) : ∃ B, (k, B) ∈ m ∧ v = .agg (bkC B) := by
 obtain ⟨p, hp, e⟩ := List.mem_map.1 h
 cases e
 exact ⟨p.2, (List.mem_filter.1 hp).1, rfl⟩
theorem leftF_end {s : Int} {left : Int → Bool} {m : List (Int × Byt)} (h : ∀ p ∈ encK bkV (leftF s left m), left p.1 = false) : leftF s left m = m.filter fun p => decide (p.1 < s) := by
 unfold leftF
 refine List.filter_congr fun p hp => ?_
 cases hl : left p.1
 ·simp
 ·have h1 : (p.1, bkV p.2) ∈ encK bkV (leftF s left m) := List.mem_map.2 ⟨p, List.mem_filter.2 ⟨hp, by simp [hl]⟩, rfl⟩
  rw [h _ h1] at hl
  cases hl
theorem leftF_stays {s : Int} {left : Int → Bool} {m : List (Int × Byt)} {k : Int} (hk : ¬ s ≤ k) : leftF s (fun z => left z && z != k) m = leftF s left m := by
 unfold leftF
 refine List.filter_congr fun p hp => ?_
 show ((left p.1 && p.1 != k) || decide (p.1 < s)) = (left p.1 || decide (p.1 < s))
 by_cases e : p.1 = k
 ·have : p.1 < s := by omega
  simp [this]
 ·rw [bne_iff_ne.2 e, Bool.and_true]
theorem leftF_struck {s : Int} {left : Int → Bool} {m : List (Int × Byt)} {k : Int} (hk : s ≤ k) : delK (leftF s left m) k = leftF s (fun z => left z && z != k) m := by
 unfold leftF delK
 rw [List.filter_filter]
 refine List.filter_congr fun p hp => ?_
 show ((p.1 != k) && (left p.1 || decide (p.1 < s))) = ((left p.1 && p.1 != k) || decide (p.1 < s))
 by_cases e : p.1 = k
 ·have h1 : decide (p.1 < s) = false := decide_eq_false (by omega)
  have h2 : (p.1 != k) = false := by simp [e]
  rw [h1, h2]
  simp
 ·rw [bne_iff_ne.2 e, Bool.and_true, Bool.true_and]
theorem deleteFunc_any (s : Int) (b V : Nat) (m : List (Int × Byt)) (w : World) (h : MapAt .i64 w b (encK bkV m)) (hl : ∀ p ∈ m, p.2.length = 256) [hV : Old V w] (c0 : w.cell? ⟨V, 0, none⟩ = some (.int .i64 s)) (hVb : V ≠ b) :
  Calls Tryz.prog 72 #[.map (some b), .func (.func 73) #[] #[.pointer (some ⟨V, 0, none⟩)]] w fun e w' => e = .returned (.tuple #[]) ∧ MapAt .i64 w' b (encK bkV (m.filter fun p => decide (p.1 < s))) ∧ w.grownBy w' (some b) := by
 have HL := hd_ hl
 have HM := hd_ h
 clear hl h
 go_enter Tryz.func72, Tryz.ntmps72
 go_wp2_with (at_range; refine wpList_rangeK rfl _ rfl Tryz.underlying62 HM.out rfl ?_; intro w0 cnt0 hrg0 hg0)
 go_frame
 go_loopw [8] (fun _ wr => ∃ left cnt, RangeAt .i64 wr b w.heap.size (encK bkV (leftF s left m)) left cnt ∧ w.grownBy wr (some b)) (fun _ wr => wr.rangeLeft b w.heap.size)
 case atStart => exact ⟨_, _, by rw [leftF_start]; exact hrg0, grownBy_gr hg0⟩
 case round =>
  obtain ⟨left, cnt, hrg, hgw⟩ := hrel
  have HR := hd_ hrg
  have HG := hd_ hgw
  go_wp2_with (first | (at_next; refine wpList_nextK rfl _ rfl rfl HR.out ?_ ?_) | go_in)
  ·intro _ hl0
   go_wp2
   go_end0
   exact ⟨rfl, by rw [← leftF_end (fun p hp => hl0 p.1 p.2 hp)]; exact HR.out.map, HG.out⟩
  ·intro k v w1 cnt1 hmem hlk hrg1 hlt hob hen
   obtain ⟨B, hB, rfl⟩ := leftF_mem hmem
   have hB2 := HL.out _ hB
   haveI := bkC_row hB2
   have hg1 : w.grownBy w1 (some b) := HG.out.andThen hob.1 (fun j hj => by cases hj; exact .inl (Nat.le_refl _))
   have c1 : w1.cell? ⟨V, 0, none⟩ = some (.int .i64 s) := (World.cell?_of_block (hg1.block V hV.lt (fun e => hVb (by cases e; rfl)))).trans c0
   haveI : Old V w1 := ⟨Nat.lt_of_lt_of_le hV.lt hg1.size⟩
   have HF : Hid (∀ W, Gr w1 W → Calls Tryz.prog 73 #[.int .i64 k, .agg (bkC B), .pointer (some ⟨V, 0, none⟩)] W fun e w' => e = .returned (.bool (decide (s ≤ k))) ∧ Gr W w') := hd_ fun W g => by
    haveI : Old V W := ⟨Nat.lt_of_lt_of_le Old.lt g.below.size⟩
    exact sizeF_any k s B hB2 V W ((g.below.cell (p := ⟨V, 0, none⟩) (Old.lt (b := V) (W := w1))).trans c1)
   have HG1 := hd_ hg1
   have HRl := hd_ hrg1
   have HRo := hd_ hrg
   have HLT := hd_ hlt
   clear hg1 hrg1 hrg hgw hlt hob hmem hlk HR
   by_cases hsk : s ≤ k
   ·have hd : decide (s ≤ k) = true := decide_eq_true hsk
    rw [hd] at HF
    go_wp2_with (first | (refine wpStoreB rfl _ _ rfl _ _ _ rfl rfl inferInstance inferInstance inferInstance ?_) | (refine wpLoadB rfl _ rfl _ _ rfl inferInstance inferInstance ?_) | (go_at_call 73; ((with_reducible refine (HF.out _ gri).mono ?_); rintro _ _ ⟨rfl, g1, rfl⟩)) | (at_delete; refine wpList_dropK rfl _ _ rfl k Tryz.underlying62 Tryz.underlying3 (HRl.out.gr gri) rfl rfl ?_; intro w3 cnt3 hrg3 hle hob3; go_frame) | go_in)
    go_roundw
    case rel => exact ⟨fun z => left z && z != k, _, by rw [← leftF_struck hsk, ← delK_enc]; exact hrg3, (HG1.out.andThen (grownBy_gr (row := none) gri) (fun j hj => by cases hj)).andThen hob3.1 (fun j hj => .inr hj)⟩
    case measure => rw [hrg3.left_eq, HRo.out.left_eq]; have := HLT.out; omega
   ·have hd : decide (s ≤ k) = false := decide_eq_false hsk
    rw [hd] at HF
    go_wp2_with (first | (refine wpStoreB rfl _ _ rfl _ _ _ rfl rfl inferInstance inferInstance inferInstance ?_) | (refine wpLoadB rfl _ rfl _ _ rfl inferInstance inferInstance ?_) | (go_at_call 73; ((with_reducible refine (HF.out _ gri).mono ?_); rintro _ _ ⟨rfl, g1, rfl⟩)) | go_in)
    have hr2 := HRl.out.gr (gri : Gr w1 (grown ((w1.alloc (Obj.cells Tryz.zeroCells66 66)).setRow w1.heap.size (bkC B)) g1))
    go_roundw
    case rel => exact ⟨fun z => left z && z != k, _, by rw [leftF_stays (by omega)]; exact hr2, HG1.out.andThen (grownBy_gr (row := none) gri) (fun j hj => by cases hj)⟩
    case measure => rw [hr2.left_eq, HRo.out.left_eq]; exact HLT.out
theorem grownBy_split {w W : World} {b : Nat} (h : w.grownBy W (some b)) : ∃ W2, OnlyB w W2 b ∧ Gr W2 W ∧ (b < w.heap.size → W2.heap[b]? = W.heap[b]?) := by
 have hsz : (W.heap.extract 0 w.heap.size).size = w.heap.size := by have := h.size; simp; omega
 have hg : ∀ i, i < w.heap.size → (W.heap.extract 0 w.heap.size)[i]? = W.heap[i]? := fun i hi => by
  have := h.size
  rw [Array.getElem?_eq_getElem (by omega), Array.getElem?_eq_getElem (by omega)]
  simp
 refine ⟨{ W with heap := W.heap.extract 0 w.heap.size }, ⟨⟨h.os, h.tape, h.output, Nat.le_of_eq hsz.symm, fun i hi hr => (hg i hi).trans (h.block i hi hr)⟩, hsz⟩, Gr.of ⟨rfl, rfl, rfl, by show (W.heap.extract 0 w.heap.size).size ≤ _; rw [hsz]; exact h.size, fun i hi => ?_⟩, hg b⟩
 have hi2 : i < w.heap.size := hsz ▸ hi
 exact (hg i hi2).symm
theorem resize_any (xv xt xs xa xc most : Int) (xD : Option Addr) (xn xq : Nat) (hn : xn ≤ 1000000) (base D : Nat) (d : Dev) (w : World) (h : DevAt base w D d) (hbase : base ≤ w.heap.size) (x : VolM) (hv : getK d xv = some x) (hok : DevOk (putK d xv (xs, x.2.filter fun p => decide (p.1 < xs)))) :
  Calls Tryz.prog 40 #[.pointer (some ⟨D, 0, none⟩), .agg #[.int .i64 3, .int .u64 xv, .int .u64 xt, .int .i64 xs, .int .i64 xa, .int .i64 xc, .slice xD xn xq], .int .i64 most] w (OpPost base D (putK d xv (xs, x.2.filter fun p => decide (p.1 < xs))) 0 0 w) := by
 obtain ⟨M, mb, h⟩ := h
 haveI := h.blk
 have x0 : w.cell? ⟨D, 0, none⟩ = some (.map (some M)) := (bc 0 h.blk).trans rfl
 haveI : Old D w := h.blk.old
 have HD := hd_ h
 have HOK := hd_ hok
 have hlk := look_vol1 h xv _ hv
 simp only [volV] at hlk
 have HX := hd_ (h.ok.vols _ ((getK_mem h.ok.sort).1 hv))
 have HM := hd_ (h.vol _ ((getK_mem h.ok.sort).1 hv))
 have HV := hd_ hv
 clear h hv hok
 go_enter Tryz.func40, Tryz.ntmps40
 go_wp2
 refine wp_region_all [0, 1, 2, 3, 4, 5, 6] [7] [8] (by kernel_rfl) (by kernel_rfl) ?_
 simp only [pick, List.drop, List.take, List.nil_append, List.cons_append]
 repeat (refine wpCalm_step (fun K hK => ?_); go_simp; first | (refine hK _ ?_; clear hK K) | (apply Exists.intro; refine ⟨fun _ => ?_, hK _ ?_⟩; (skip); clear hK K))
 refine wpCalm_nil ?_
 refine ⟨_, _, _, allocOp_alloc rfl rfl Tryz.zeroValue64, fun b1_0 hb1_0 nb1_0 => ?_⟩
 simp only [Act.put, stA, List.set]
 refine ⟨_, _, _, b1_0, #[.int .i64 0, .map none], _, #[.int .i64 x.1, .map (some (mb xv))], rfl, rfl, rfl, mcs, ?hu, hb1_0, rfl, rfl, rfl, rfl, [(b1_0, #[.int .i64 x.1, .map (some (mb xv))], 64)], ?hs, ?_⟩
 case hu =>
  intro z hz e
  rcases List.mem_cons.1 hz with rfl | hz
  ·rfl
  cases hz
 case hs =>
  intro z
  constructor
  ·intro hz
   rcases List.mem_cons.1 hz with rfl | hz
   ·exact .inl rfl
   cases hz
  ·rintro (rfl | ⟨hz, hne⟩)
   ·exact mcs
   rcases List.mem_cons.1 hz with rfl | hz
   ·exact absurd rfl hne
   cases hz
 intro w1 hw1
 have cb1_0 : ∀ o, w1.cell? ⟨b1_0, o, none⟩ = (#[.int .i64 x.1, .map (some (mb xv))] : Array Value)[o]? := mix_cell hw1 mcs
 haveI kb1_0 : BlockAt w1 b1_0 #[.int .i64 x.1, .map (some (mb xv))] 64 := ⟨hw1.2 _ mcs⟩
 have fb1_0 : ∀ o, w1.frozen? ⟨b1_0, o, none⟩ = false := mix_frozen hw1 mcs
 have ob1_0 : Old b1_0 w1 := mix_old hw1 mcs
 have qb1_0 := @fresh_ne _ _ hb1_0
 have rb1_0 := @fresh_en _ _ hb1_0
 have lb1_0 := fresh_le hb1_0 w.heap.size
 obtain ⟨⟨g1, rfl⟩, hbs⟩ := hw1
 clear hbs nb1_0
 have hMl : M < w.heap.size := HD.out.all.lt
 have hml : mb xv < w.heap.size := HM.out.lt
 haveI : Past w b1_0 := ⟨lb1_0⟩
 haveI : BNe (w.heap.size + 1) b1_0 := ⟨of_eq_false (qb1_0 (w.heap.size + 1))⟩
 haveI : BNe w.heap.size b1_0 := ⟨of_eq_false (qb1_0 w.heap.size)⟩
 go_wp2_with (first | (go_at_call 71; ((with_reducible refine (part_3 _ _ _ _ _ _ _ _ (by omega) _).mono ?_); rintro _ _ ⟨rfl, g2, rfl⟩)) | (go_at_call 72; ((with_reducible refine (deleteFunc_any xs (mb xv) b1_0 x.2 _ (HM.out.gr gri) (fun p hp => HX.out.len p hp) (by go_simp) (by omega)).mono ?_); rintro _ W2 ⟨rfl, hm2, hg2⟩)))
 have gW : Gr w (World.setCell (grown _ g2) ⟨b1_0, 0, none⟩ (.int .i64 xs)) := gri
 have kA : BlockAt (World.setCell (grown _ g2) ⟨b1_0, 0, none⟩ (.int .i64 xs)) (w.heap.size + 1) #[.int .i64 0, .int .i64 0, .slice none 0 0] 38 := inferInstance
 have kO : BlockAt (World.setCell (grown _ g2) ⟨b1_0, 0, none⟩ (.int .i64 xs)) w.heap.size #[.int .i64 3, .int .u64 xv, .int .u64 xt, .int .i64 xs, .int .i64 xa, .int .i64 xc, .slice xD xn xq] 27 := inferInstance
 have kV : BlockAt (World.setCell (grown _ g2) ⟨b1_0, 0, none⟩ (.int .i64 xs)) b1_0 #[.int .i64 xs, .map (some (mb xv))] 64 := inferInstance
 obtain ⟨Wm, hob, hgm, hbm⟩ := grownBy_split hg2
 generalize World.setCell (grown _ g2) ⟨b1_0, 0, none⟩ (.int .i64 xs) = W1 at *
 have hmW1 := HM.out.gr gW
 have hmm : MapAt .i64 Wm (mb xv) (encK bkV (x.2.filter fun p => decide (p.1 < xs))) := hm2.keep (hbm hmW1.lt)
 have hck1 := ((CK.gr gW).trans (CK.only hmW1 hob)).trans (CK.gr hgm)
 have hDm := (HD.out.gr gW).inner xv x HV.out (x.2.filter fun p => decide (p.1 < xs)) hmm hob (filter_ok HX.out _ _ HX.out.s0 HX.out.s1 (fun p hp _ => (HX.out.keys p hp).2))
 have hD2 := hDm.gr hgm
 have k2A := BlockAt.gr (hob.blockM hmW1 kA) hgm
 have k2O := BlockAt.gr (hob.blockM hmW1 kO) hgm
 have k2V := BlockAt.gr (hob.blockM hmW1 kV) hgm
 have hbw : Below base w W2 := (hob.below (HD.out.bV (xv, x) ((getK_mem HD.out.ok.sort).1 HV.out)) hmW1.lt (gW.below.mono hbase)).trans (hgm.below.mono (by have := hob.2; have := gW.below.size; omega))
 have hsz2 : w.heap.size + 2 ≤ W2.heap.size := Nat.lt_of_le_of_lt (Nat.le_refl _) k2A.lt
 have x02 : W2.cell? ⟨D, 0, none⟩ = some (.map (some M)) := (bc 0 hD2.blk).trans rfl
 have xO1 : W2.cell? ⟨w.heap.size, 1, none⟩ = some (.int .u64 xv) := (bc 1 k2O).trans rfl
 have xV0 : W2.cell? ⟨b1_0, 0, none⟩ = some (.int .i64 xs) := (bc 0 k2V).trans rfl
 have xV1 : W2.cell? ⟨b1_0, 1, none⟩ = some (.map (some (mb xv))) := (bc 1 k2V).trans rfl
 haveI : Old D W2 := hD2.blk.old
 haveI : Old w.heap.size W2 := k2O.old
 haveI : Old b1_0 W2 := k2V.old
 have HD2 := hd_ hD2
 have KA2 := hd_ k2A
 have HM2 := hd_ (hmm.gr hgm)
 have HB2 := hd_ hbw
 clear hD2 hmm k2A k2O k2V hbw hDm hmW1 hbm hob hm2 hg2 kA kO kV gW
 refine wp_region_treeT (inCls_ghost _) (Cls.none _) ⟨Gr.of ((Below.refl _ _).drew), trivial⟩ [0, 1, 2, 3, 4, 5, 6] 0 7 (by kernel_rfl) (by kernel_rfl) ?_
 simp only [pick, List.drop, List.take, List.nil_append, List.cons_append]
 repeat (refine wpCalm_step (fun K hK => ?_); go_simp; first | (refine hK _ ?_; clear hK K) | (apply Exists.intro; refine ⟨fun _ => ?_, hK _ ?_⟩; (skip); clear hK K))
 refine wpCalm_nil ?_
 refine ft_end ⟨by kernel_rfl, fun w2 hw2 => ?_⟩
 try simp only [List.drop_succ_cons, List.drop_zero]
 have g3 : Gr W2 w2 := Gr.trans gri hw2.1
 refine wpList_updateK rfl _ _ _ rfl xv _ Tryz.underlying53 Tryz.underlying24 (HD2.out.all.gr g3) rfl rfl rfl fun W' h1 h2 => ?_
 have HD' := HD2.out.put g3 xv (xs, x.2.filter fun p => decide (p.1 < xs)) (mb xv) (HM2.out.gr g3) (.inr ⟨rfl, _, (getK_mem HD2.out.ok.sort).1 (getK_put_self HD.out.ok.sort _ _)⟩) h1 h2 (by rw [putK_putK _ _ _ _ HD.out.ok.sort]; exact HOK.out) (by omega)
 rw [putK_putK _ _ _ _ HD.out.ok.sort] at HD'
 haveI hB1 : BlockAt W' (w.heap.size + 1) #[.int .i64 0, .int .i64 0, .slice none 0 0] 38 := h2.blockAt (BlockAt.gr KA2.out g3) (by omega)
 have hck := (hck1.trans (CK.gr g3)).trans (CK.only (HD2.out.all.gr g3) h2)
 have hbel : Below base w W' := h2.below HD.out.bM (by have := g3.below.size; omega) (HB2.out.trans (g3.below.mono (by omega)))
 have z0 : W'.cell? ⟨w.heap.size + 1, 0, none⟩ = some (.int .i64 0) := (bc 0 hB1).trans rfl
 have z1 : W'.cell? ⟨w.heap.size + 1, 1, none⟩ = some (.int .i64 0) := (bc 1 hB1).trans rfl
 have z2 : W'.cell? ⟨w.heap.size + 1, 2, none⟩ = some (.slice none 0 0) := (bc 2 hB1).trans rfl
 have f0 : ∀ o, W'.frozen? ⟨w.heap.size + 1, o, none⟩ = false := fun o => @block_frozen _ _ o _ _ hB1
 have HN := hd_ HD'
 have HB := hd_ hbel
 have HCK := hd_ hck
 clear HD' hbel hck
 clear h1 h2 hw2 g3 hMl
 simp only [Act.put]
 go_wp2
 exact bodyPost_ret (run_resCell1 rfl _ _ _ _ rfl (ans_block hB1 _ _ _) Tryz.underlying38 rfl (by kernel_rfl)) rfl ⟨rfl, ans_dev HN.out hB1 (by decide) _ _ _, ans_below HB.out (by omega) _ _ _, ck_ans HCK.out (by omega) _ _ _⟩
theorem Row.bytes {w : World} {A : Option Addr} {l : List UInt8} (h : Row bv w A l) {W : World} (g : Gr w W) : Row bv W A l := h.gr g
theorem errK_may {d : Dev} {o : OpM} (he : errK d o = 0) : o.may = true := by
 cases hm : o.may with
 | true => rfl
 | false => rw [errK, if_pos hm] at he; cases he
theorem errK_vol {d : Dev} {o : OpM} (he : errK d o = 0) (h1 : o.k ≠ 1) (h8 : o.k ≠ 8) : ∃ x, getK d o.v = some x := by
 rw [errK, if_neg (by rw [errK_may he]; simp), if_neg h8] at he
 cases hx : getK d o.v with
 | some x => exact ⟨x, rfl⟩
 | none => rw [hx] at he; simp [h1] at he
theorem part_any (xk xv xt xs xa xc most : Int) (xD : Option Addr) (xn xq : Nat) (hq : xn ≤ xq) (lx : Byt) (hxn : lx.length = xn) (base D : Nat) (d : Dev) (w : World) (h : DevAt base w D d) (hbase : base ≤ w.heap.size) (hr : Row bv w xD lx) (hn : xn ≤ 1000000) :
  Calls Tryz.prog 17 #[.pointer (some ⟨D, 0, none⟩), .agg #[.int .i64 xk, .int .u64 xv, .int .u64 xt, .int .i64 xs, .int .i64 xa, .int .i64 xc, .slice xD xn xq], .int .i64 most] w
   (PartPost base D (partK d ⟨xk, xv, xt, xs, xa, xc, lx⟩ most) (ansK d ⟨xk, xv, xt, xs, xa, xc, lx⟩ most).1 (ansK d ⟨xk, xv, xt, xs, xa, xc, lx⟩ most).2.1 (ansK d ⟨xk, xv, xt, xs, xa, xc, lx⟩ most).2.2 w) := by
 by_cases he : errK d ⟨xk, xv, xt, xs, xa, xc, lx⟩ = 0
 rotate_left
 ·have e1 : partK d ⟨xk, xv, xt, xs, xa, xc, lx⟩ most = d := by rw [partK, if_neg he]
  have e2 : ansK d ⟨xk, xv, xt, xs, xa, xc, lx⟩ most = (errK d ⟨xk, xv, xt, xs, xa, xc, lx⟩, 0, []) := by rw [ansK, if_neg he]
  rw [e1, e2]
  exact part_ref xk xv xt xs xa xc most xD xn xq lx hxn base D d w h hbase hr hn _ rfl (errK_val d _ he)
 have hm := errK_may he
 have hs := may_s hm
 have hkk := may_kind hm
 have hok := part_ok (by obtain ⟨M, mb, h⟩ := h; exact h.ok : DevOk d) ⟨xk, xv, xt, xs, xa, xc, lx⟩ most
 have e1 : partK d ⟨xk, xv, xt, xs, xa, xc, lx⟩ most = didK d ⟨xk, xv, xt, xs, xa, xc, lx⟩ most := by rw [partK, if_pos he]
 have h9 : xk = 1 ∨ xk = 2 ∨ xk = 3 ∨ xk = 4 ∨ xk = 5 ∨ xk = 6 ∨ xk = 7 ∨ xk = 8 ∨ xk = 9 := by simp only at hkk; omega
 have hb := fun W (g : Gr w W) => Nat.le_trans hbase g.below.size
 rw [e1] at hok ⊢
 clear e1 hkk
 rcases h9 with rfl | rfl | rfl | rfl | rfl | rfl | rfl | rfl | rfl
 ·have e2 : ansK d ⟨1, xv, xt, xs, xa, xc, lx⟩ most = (0, 0, []) := by simp [ansK, he]
  have e3 : didK d ⟨1, xv, xt, xs, xa, xc, lx⟩ most = putK d xv (xs, []) := by simp [didK]
  rw [e3] at hok
  rw [e2, e3]
  exact part_call _ _ _ _ _ _ _ _ _ _ lx hxn base D d _ w h hbase hr hn he 38 rfl 0 0 [] (fun _ _ => rfl) fun W g => (create_any _ _ _ _ _ _ _ _ _ hn base D d W (h.gr g) (hb W g) hok).mono fun e w' hp => opPost_part hp
 ·have e2 : ansK d ⟨2, xv, xt, xs, xa, xc, lx⟩ most = (0, 0, []) := by simp [ansK, he]
  have e3 : didK d ⟨2, xv, xt, xs, xa, xc, lx⟩ most = delK d xv := by simp [didK]
  rw [e2, e3]
  exact part_call _ _ _ _ _ _ _ _ _ _ lx hxn base D d _ w h hbase hr hn he 39 rfl 0 0 [] (fun _ _ => rfl) fun W g => (drop_any _ _ _ _ _ _ _ _ _ hn base D d W (h.gr g) (hb W g)).mono fun e w' hp => opPost_part hp
 ·obtain ⟨x, hv⟩ := errK_vol he (by simp) (by simp)
  simp only at hv
  have e2 : ansK d ⟨3, xv, xt, xs, xa, xc, lx⟩ most = (0, 0, []) := by simp [ansK, he]
  have e3 : didK d ⟨3, xv, xt, xs, xa, xc, lx⟩ most = putK d xv (xs, x.2.filter fun p => decide (p.1 < xs)) := by simp [didK, volD, hv]
  rw [e3] at hok
  rw [e2, e3]
  exact part_call _ _ _ _ _ _ _ _ _ _ lx hxn base D d _ w h hbase hr hn he 40 rfl 0 0 [] (fun _ _ => rfl) fun W g => (resize_any _ _ _ _ _ _ _ _ _ hn base D d W (h.gr g) (hb W g) x hv hok).mono fun e w' hp => opPost_part hp
 ·obtain ⟨x, hv⟩ := errK_vol he (by simp) (by simp)
  simp only at hv
  have e2 : ansK d ⟨4, xv, xt, xs, xa, xc, lx⟩ most = (0, 0, []) := by simp [ansK, he]
  have e3 : didK d ⟨4, xv, xt, xs, xa, xc, lx⟩ most = putK d xt x := by simp [didK, volD, hv]
  rw [e3] at hok
  rw [e2, e3]
  exact part_call _ _ _ _ _ _ _ _ _ _ lx hxn base D d _ w h hbase hr hn he 41 rfl 0 0 [] (fun _ _ => rfl) fun W g => (snap_any _ _ _ _ _ _ _ _ _ hn base D d W (h.gr g) (hb W g) x hv hok).mono fun e w' hp => opPost_part hp
 ·obtain ⟨x, hv⟩ := errK_vol he (by simp) (by simp)
  simp only at hv
  have ha := hs.at_ (by simp)
  have hd := hs.dat rfl
  simp only at ha hd
  rw [hxn] at hd
  have hfit : ¬ 4 * x.1 < xa + (xn : Int) / 64 := fun hlt => by
   rw [errK, if_neg (by rw [hm]; simp)] at he
   simp [hv, hxn] at he
   omega
  have e2 : ansK d ⟨5, xv, xt, xs, xa, xc, lx⟩ most = (fullC most (spans xa.toNat (xn / 64)).length, fullD most (spans xa.toNat (xn / 64)).length, []) := by
   simp only [ansK, he, cntO, fullC, fullD, hxn]
   by_cases hml : most < ((spans xa.toNat (xn / 64)).length : Int) <;> simp [hml]
  have e3 : didK d ⟨5, xv, xt, xs, xa, xc, lx⟩ most = putK d xv (x.1, putL xa.toNat lx x.2 ((spans xa.toNat (xn / 64)).take most.toNat)) := by simp [didK, volD, hv, dataO, cntO, hxn]
  rw [e2, e3]
  exact part_call _ _ _ _ _ _ _ _ _ _ lx hxn base D d _ w h hbase hr hn he 42 rfl _ _ [] (fun _ _ => rfl) fun W g => (put_5 _ _ _ _ _ _ _ _ _ hn base D d W (h.gr g) (hb W g) x hv ha.1 ha.2 hq lx hxn (hr.gr g) hd.1 hd.2.1 hd.2.2 hfit).mono fun e w' hp => opPost_part hp
 ·obtain ⟨x, hv⟩ := errK_vol he (by simp) (by simp)
  simp only at hv
  have ha := hs.at_ (by simp)
  have hc := hs.cnt (by simp)
  simp only at ha hc
  have hfit : ¬ 4 * x.1 < xa + xc := fun hlt => by
   rw [errK, if_neg (by rw [hm]; simp)] at he
   simp [hv] at he
   omega
  have e2 : ansK d ⟨6, xv, xt, xs, xa, xc, lx⟩ most = (fullC most (spans xa.toNat xc.toNat).length, fullD most (spans xa.toNat xc.toNat).length, []) := by
   simp only [ansK, he, cntO, fullC, fullD]
   by_cases hml : most < ((spans xa.toNat xc.toNat).length : Int) <;> simp [hml]
  have e3 : didK d ⟨6, xv, xt, xs, xa, xc, lx⟩ most = putK d xv (x.1, putL xa.toNat (List.replicate (xc.toNat * 64) 0) x.2 ((spans xa.toNat xc.toNat).take most.toNat)) := by simp [didK, volD, hv, dataO, cntO, Nat.mul_comm]
  rw [e2, e3]
  exact part_call _ _ _ _ _ _ _ _ _ _ lx hxn base D d _ w h hbase hr hn he 42 rfl _ _ [] (fun _ _ => rfl) fun W g => (put_6 _ _ _ _ _ _ _ _ _ hn base D d W (h.gr g) (hb W g) x hv ha.1 ha.2 hc.1 hc.2 hfit).mono fun e w' hp => opPost_part hp
 ·obtain ⟨x, hv⟩ := errK_vol he (by simp) (by simp)
  simp only at hv
  have ha := hs.at_ (by simp)
  have hc := hs.cnt (by simp)
  simp only at ha hc
  have e2 : ansK d ⟨7, xv, xt, xs, xa, xc, lx⟩ most = (0, 0, []) := by simp [ansK, he]
  have e3 : didK d ⟨7, xv, xt, xs, xa, xc, lx⟩ most = putK d xv (x.1, dropF xa xc.toNat x.2) := by
   have e4 : ((xc.toNat : Nat) : Int) = xc := Int.toNat_of_nonneg (by omega)
   simp [didK, volD, hv, dropF, e4]
  rw [e2, e3]
  exact part_call _ _ _ _ _ _ _ _ _ _ lx hxn base D d _ w h hbase hr hn he 43 rfl 0 0 [] (fun _ _ => rfl) fun W g => (discard_any _ _ _ _ _ _ _ _ _ hn base D d W (h.gr g) (hb W g) x hv ha.1 ha.2 hc.1 hc.2).mono fun e w' hp => opPost_part hp
 ·have e2 : ansK d ⟨8, xv, xt, xs, xa, xc, lx⟩ most = (0, 0, []) := by simp [ansK, he]
  have e3 : didK d ⟨8, xv, xt, xs, xa, xc, lx⟩ most = d := by simp [didK]
  rw [e2, e3]
  exact part_none _ _ _ _ _ _ _ _ _ _ lx hxn base D d w h hbase hr hn he rfl
 ·obtain ⟨x, hv⟩ := errK_vol he (by simp) (by simp)
  simp only at hv
  have ha := hs.at_ (by simp)
  have hc := hs.cnt (by simp)
  simp only at ha hc
  have e2 : ansK d ⟨9, xv, xt, xs, xa, xc, lx⟩ most = (0, 0, (spans xa.toNat xc.toNat).flatMap fun s => cutK (blkM x.2 s.b) s) := by simp [ansK, he, readK, volD, hv]
  have e3 : didK d ⟨9, xv, xt, xs, xa, xc, lx⟩ most = d := by simp [didK]
  rw [e2, e3]
  exact part_call _ _ _ _ _ _ _ _ _ _ lx hxn base D d _ w h hbase hr hn he 44 rfl 0 0 _ (fun _ _ => rfl) fun W g => (read_any _ _ _ _ _ _ _ _ _ hn base D d W (h.gr g) x hv ha.1 ha.2 hc.1 hc.2).mono fun e w' hp => by
   obtain ⟨v, he', ho, hg⟩ := hp
   obtain ⟨A, c, rfl, _⟩ := ho.form bIs
   exact ⟨A, _, c, he', ho, (h.gr g).gr hg, hg.below.mono (hb W g), CK.gr hg⟩
theorem do_any (xk xv xt xs xa xc : Int) (xD : Option Addr) (xn xq : Nat) (hq : xn ≤ xq) (lx : Byt) (hxn : lx.length = xn) (base D : Nat) (d : Dev) (w : World) (h : DevAt base w D d) (hbase : base ≤ w.heap.size) (hr : Row bv w xD lx) (hn : xn ≤ 1000000) :
  Calls Tryz.prog 8 #[.pointer (some ⟨D, 0, none⟩), .agg #[.int .i64 xk, .int .u64 xv, .int .u64 xt, .int .i64 xs, .int .i64 xa, .int .i64 xc, .slice xD xn xq]] w
   (PartPost base D (doK d ⟨xk, xv, xt, xs, xa, xc, lx⟩) (ansK d ⟨xk, xv, xt, xs, xa, xc, lx⟩ 1024).1 (ansK d ⟨xk, xv, xt, xs, xa, xc, lx⟩ 1024).2.1 (ansK d ⟨xk, xv, xt, xs, xa, xc, lx⟩ 1024).2.2 w) := by
 have HC := hd_ fun W (g : Gr w W) => part_any xk xv xt xs xa xc 1024 xD xn xq hq lx hxn base D d W (h.gr g) (Nat.le_trans hbase g.below.size) (hr.gr g) hn
 unfold doK
 generalize partK d ⟨xk, xv, xt, xs, xa, xc, lx⟩ 1024 = d' at *
 generalize ansK d ⟨xk, xv, xt, xs, xa, xc, lx⟩ 1024 = z at *
 obtain ⟨code, done, data⟩ := z
 simp only at HC ⊢
 clear h hr
 go_enter Tryz.func8, Tryz.ntmps8
 go_wp2_with (first
  | (go_at_call 17; ((with_reducible refine (HC.out _ gri).mono ?_); rintro _ W3 ⟨A3, n3, c3, rfl, ho3, hd3, hb3, hk3⟩; have bA3 := hk3.block (inferInstance : BlockAt _ (w.heap.size + 1) #[.int .i64 0, .int .i64 0, .slice none 0 0] 38); have cA0 : W3.cell? ⟨w.heap.size + 1, 0, none⟩ = some (.int .i64 0) := (bc 0 bA3).trans rfl; have cA1 : W3.cell? ⟨w.heap.size + 1, 1, none⟩ = some (.int .i64 0) := (bc 1 bA3).trans rfl; have cA2 : W3.cell? ⟨w.heap.size + 1, 2, none⟩ = some (.slice none 0 0) := (bc 2 bA3).trans rfl; have fA : ∀ o, W3.frozen? ⟨w.heap.size + 1, o, none⟩ = false := fun o => @block_frozen _ _ o _ _ bA3)))
 have gW : Gr w ((w.alloc (.cells #[.int .i64 xk, .int .u64 xv, .int .u64 xt, .int .i64 xs, .int .i64 xa, .int .i64 xc, .slice xD xn xq] 27)).alloc (.cells #[.int .i64 0, .int .i64 0, .slice none 0 0] 38)) := gri
 obtain ⟨M3, mb3, hd3⟩ := hd3
 have ho4 : OwnN bE w.heap.size W3 (.slice A3 n3 c3) data := ⟨ho3.ok, OwnsRow_mono ho3.own gW.below.size⟩
 have ho5 := ((ho4.set_ (w.heap.size + 1) 0 (.int .i64 code) (by decide)).set_ (w.heap.size + 1) 1 (.int .i64 done) (by decide)).set_ (w.heap.size + 1) 2 (.slice A3 n3 c3) (by decide)
 exact bodyPost_ret (run_resCell1 rfl _ _ _ _ rfl (ans_block bA3 _ _ _) Tryz.underlying38 rfl (by kernel_rfl)) rfl ⟨A3, n3, c3, rfl, ho5, ans_dev hd3 bA3 (by decide) _ _ _, ans_below ((gW.below.mono hbase).trans hb3) (by omega) _ _ _, ck_ans ((CK.gr gW).trans hk3) (by omega) _ _ _⟩
section
variable {P : Program} {md : Region.Mode} {W : World} {S : Type} {I : S → World → Prop} {ops : Array Oper} {L : Array Bool → S → Act → Prop} {f n : Nat} {listed : Array Bool} {s : S} {a : Act}
theorem ft_effD (i : Nat) {o : Oper} {d : Tmp} (hr : Region.ready md ops listed = [i]) (hi : i < n) (ho : ops[i]? = some o) (hg : o.guard = none) (hd : o.dst = some d) (h : ∀ w, I s w → EffAt P o a w (fun v w' => ∃ s', I s' w' ∧ feT P md ops W I n L f (listed.setIfInBounds i true) s' (a.put (some d) v))) : feT P md ops W I n L (f + 1) listed s a :=
 ft_eff i hr hi ho hg fun w hw => by rw [hd]; exact h w hw
theorem ft_calmD (i : Nat) {o : Oper} {d : Tmp} (v : Value) (hr : Region.ready md ops listed = [i]) (hi : i < n) (ho : ops[i]? = some o) (hg : o.guard = none) (hd : o.dst = some d) (hc : ∀ g : Growth W, calmAt P o a (grown W g) v) (h : feT P md ops W I n L f (listed.setIfInBounds i true) s (a.put (some d) v)) : feT P md ops W I n L (f + 1) listed s a :=
 ft_calm i v hr hi ho hg hc (by rw [hd]; exact h)
end
theorem RangeAt.keep {W W' : World} {q : IntKind} {b r : Nat} {L : List (Int × Value)} {left : Int → Bool} {cnt : Nat} (h : RangeAt q W b r L left cnt) (h1 : W'.heap[b]? = W.heap[b]?) (h2 : W'.heap[r]? = W.heap[r]?) : RangeAt q W' b r L left cnt := by
 obtain ⟨es, clock, since, seen, c0, hb, a1, a2, a3, a4, hr, rest⟩ := h
 exact ⟨es, clock, since, seen, c0, h1.trans hb, a1, a2, a3, a4, h2.trans hr, rest⟩
theorem DevIn.lower {base base' D M : Nat} {W : World} {mb : Int → Nat} {d : Dev} (h : DevIn base W D M mb d) (hb : base' ≤ base) : DevIn base' W D M mb d := ⟨h.blk, h.all, h.vol, h.inj, h.ne, Nat.le_trans hb h.bD, Nat.le_trans hb h.bM, fun p hp => Nat.le_trans hb (h.bV p hp), h.ok⟩
theorem DevIn.iter {base D M : Nat} {W W' : World} {mb : Int → Nat} {d : Dev} (h : DevIn base W D M mb d) {q : IntKind} {b r : Nat} {L : List (Int × Value)} {left : Int → Bool} {cnt : Nat} (hr : RangeAt q W b r L left cnt) (ho : OnlyB W W' r) : DevIn base W' D M mb d := by
 obtain ⟨es, clock, since, seen, c0, _, _, _, _, _, hh, _⟩ := hr
 have hm : ∀ {q' : IntKind} {b' : Nat} {L' : List (Int × Value)}, MapAt q' W b' L' → MapAt q' W' b' L' := fun {q' b' L'} hm => ho.mapAt hm fun e => by
  obtain ⟨es', clock', he, _⟩ := hm
  rw [e, hh] at he
  cases he
 have hne : D ≠ r := fun e => by
  have := h.blk.eq
  rw [e, hh] at this
  cases this
 exact ⟨ho.blockAt h.blk hne, hm h.all, fun p hp => hm (h.vol p hp), h.inj, h.ne, h.bD, h.bM, h.bV, h.ok⟩
theorem RangeAt.only {W W' : World} {q q' : IntKind} {b r m : Nat} {L L' : List (Int × Value)} {left : Int → Bool} {cnt : Nat} (h : RangeAt q W b r L left cnt) (hm : MapAt q' W m L') (ho : OnlyB W W' m) (hne : b ≠ m) : RangeAt q W' b r L left cnt := by
 refine h.keep (ho.block hne) (ho.block fun e => ?_)
 obtain ⟨es, clock, since, seen, c0, _, _, _, _, _, hh, _⟩ := h
 obtain ⟨es', clock', he, _⟩ := hm
 rw [← e, hh] at he
 cases he
def goneF (left : Int → Bool) (d : Dev) : Dev := d.filter fun p => !left p.1
theorem goneF_ok {left : Int → Bool} {d : Dev} (h : DevOk d) : DevOk (goneF left d) := ⟨h.sort.filter _, fun p hp => h.keys p (List.mem_filter.1 hp).1, fun p hp => h.vols p (List.mem_filter.1 hp).1⟩
theorem goneF_start (d : Dev) : goneF (fun _ => true) d = [] := by simp [goneF]
theorem goneF_end {left : Int → Bool} {d : Dev} (h : ∀ p ∈ d, left p.1 = false) : goneF left d = d := by
 unfold goneF
 rw [List.filter_eq_self]
 intro p hp
 rw [h p hp]
 rfl
theorem goneF_put {left : Int → Bool} {d : Dev} (hs : SortK d) {k : Int} {x : VolM} (hx : (k, x) ∈ d) : putK (goneF left d) k x = goneF (fun z => left z && z != k) d := by
 have hs1 : SortK (goneF left d) := hs.filter _
 refine sort_ext (sort_putK hs1) (hs.filter _) fun p => ?_
 rw [mem_putK hs1]
 unfold goneF
 rw [List.mem_filter, List.mem_filter]
 by_cases e : p.1 = k
 ·have h1 : (!(left p.1 && p.1 != k)) = true := by rw [e]; simp
  constructor
  ·rintro (rfl | ⟨_, h⟩)
   ·exact ⟨hx, h1⟩
   ·exact absurd e h
  ·rintro ⟨hp, _⟩
   have e1 := (getK_mem hs).2 hx
   have e2 := (getK_mem hs).2 (show (p.1, p.2) ∈ d from hp)
   rw [e, e1] at e2
   refine .inl ?_
   obtain ⟨p1, p2⟩ := p
   simp only at e e2
   rw [e, Option.some.inj e2]
 ·have h1 : (!(left p.1 && p.1 != k)) = (!left p.1) := by rw [bne_iff_ne.2 e, Bool.and_true]
  constructor
  ·rintro (rfl | ⟨h, _⟩)
   ·exact absurd rfl e
   ·exact ⟨h.1, h1.trans h.2⟩
  ·rintro ⟨hp, h⟩
   exact .inr ⟨⟨hp, h1.symm.trans h⟩, e⟩
theorem copy_any (base D : Nat) (d : Dev) (w : World) (h : DevAt base w D d) : Calls Tryz.prog 23 #[.pointer (some ⟨D, 0, none⟩)] w fun e w' => ∃ D2, e = .returned (.pointer (some ⟨D2, 0, none⟩)) ∧ DevAt w.heap.size w' D2 d ∧ Gr w w' := by
 obtain ⟨M, mb, h⟩ := h
 haveI := h.blk
 have x0 : w.cell? ⟨D, 0, none⟩ = some (.map (some M)) := (bc 0 h.blk).trans rfl
 haveI : Old D w := h.blk.old
 have HD := hd_ h
 have HT := hd_ (fun W (hW : Gr w W) => there_yes D M W (HD.out.blk.gr hW))
 clear h
 go_enter Tryz.func23, Tryz.ntmps23
 go_wp2_with (first | (go_at_call 19; ((with_reducible refine (HT.out _ gri).mono ?_); rintro _ _ ⟨rfl, g1, rfl⟩)) | (go_at_call 7; ((with_reducible refine (new_any _).mono ?_); rintro _ W2 ⟨D2, rfl, hd2, hg2⟩; have g2 : Gr w W2 := Gr.trans gri hg2; have y0 : W2.cell? ⟨D, 0, none⟩ = some (.map (some M)) := (bc 0 (HD.out.blk.gr g2)).trans rfl; have oD : Old D W2 := (HD.out.blk.gr g2).old)) | (at_range; refine wpList_rangeK rfl _ rfl Tryz.underlying53 (HD.out.all.gr g2) rfl ?_; intro w0 cnt0 hrg0 hg0))
 go_frame
 obtain ⟨M2, mb2, hd2⟩ := hd2
 have HD2 := hd_ (hd2.lower (Gr.below (gri : Gr w (grown w g1))).size)
 have hMl : M < w.heap.size := HD.out.all.lt
 have hW2 := g2.below.size
 have hR0 := hrg0.lt
 go_loopw [15] (fun _ wr => ∃ left cnt mb2, RangeAt .u64 wr M W2.heap.size (d.map (volF mb)) left cnt ∧ DevIn w.heap.size wr D2 M2 mb2 (goneF left d) ∧ Gr w wr) (fun _ wr => wr.rangeLeft M W2.heap.size)
 case atStart => exact ⟨_, _, mb2, hrg0, by rw [goneF_start]; exact HD2.out.gr hg0, g2.trans hg0⟩
 case round =>
  obtain ⟨left, cnt, mb3, hrg, hdd, hgw⟩ := hrel
  have HR := hd_ hrg
  have HDD := hd_ hdd
  have HG := hd_ hgw
  clear hrg hdd hgw
  go_wp2_with (first | (at_next; refine wpList_nextK rfl _ rfl rfl HR.out ?_ ?_) | go_in)
  ·intro _ hl0
   go_wp2
   go_ret
   exact ⟨D2, rfl, ⟨M2, mb3, by rw [← goneF_end (left := left) (fun p hp => hl0 p.1 _ p.1 p.2.1 p.2.2 hp rfl)]; exact HDD.out⟩, HG.out⟩
  ·intro k v w1 cnt1 k' xn xm hp hpe hlk hrg1 hlt hob hen
   obtain ⟨rfl, rfl⟩ : k' = k ∧ v = .agg #[.int .i64 xn, .map (some (mb k'))] := by
    simp only [volF, Prod.mk.injEq] at hpe
    exact ⟨hpe.1, hpe.2.symm⟩
   have g1w : Gr w w1 := Gr.of (hob.below (by have := g2.below.size; omega) HR.out.lt HG.out.below)
   have hdd1 := HDD.out.iter HR.out hob
   have HDD1 := hd_ hdd1
   have HR1 := hd_ hrg1
   have HLT := hd_ hlt
   have HX := hd_ (HD.out.vol _ hp)
   have z0 : w1.cell? ⟨D2, 0, none⟩ = some (.map (some M2)) := (bc 0 hdd1.blk).trans rfl
   haveI : Old D2 w1 := hdd1.blk.old
   clear hdd1 hrg1 hlt hpe
   go_wp2_with (first | go_in)
   refine wp_region_treeT (inCls_ghost _) (Cls.none _) ⟨Gr.of ((Below.refl _ _).drew), trivial⟩ [0, 1, 2, 3, 4, 5, 6, 7, 8] 2 11 (by kernel_rfl) (by kernel_rfl) ?_
   simp only [pick, List.drop, List.take, List.nil_append, List.cons_append]
   repeat (refine wpCalm_step (fun K hK => ?_); go_simp; first | (refine hK _ ?_; clear hK K) | (apply Exists.intro; refine ⟨fun _ => ?_, hK _ ?_⟩; (skip); clear hK K))
   refine wpCalm_nil ?_
   refine ft_effD 9 (by kernel_rfl) (by omega) rfl rfl rfl fun w3 hw3 => effAt_call' 59 #[.map (some (mb k'))] (by go_simp) ((cloneMap_any (mb k') _ w3 (HX.out.gr (g1w.trans (Gr.trans gri hw3.1)))).mono fun e w4 hc => ⟨_, hc.1, ?_⟩)
   obtain ⟨he9, hc, hg⟩ := hc
   refine ⟨⟨fun w4 => MapAt .i64 w4 w3.heap.size (encK bkV xm), fun a b h g => h.gr g⟩, ⟨hw3.1.trans hg, hc⟩, ?_⟩
   have hsz := hw3.1.below.size
   have hb0 : w1.heap.size ≤ w3.heap.size := Nat.le_trans (inferInstance : From w1 _).le hsz
   generalize w3.heap.size = b at *
   clear he9 hc hg w4 e hw3 w3
   simp only [Act.put, stA, List.set]
   refine ft_calmD 10 (.agg #[.int .i64 xn, .map (some b)]) (by kernel_rfl) (by omega) rfl rfl rfl (fun g => by unfold calmAt; go_simp) ?_
   simp only [Act.put, stA, List.set]
   refine ft_end ⟨by kernel_rfl, fun w2 hw2 => ?_⟩
   try simp only [List.drop_succ_cons, List.drop_zero]
   have g3 : Gr w1 w2 := Gr.trans gri hw2.1
   refine wpList_updateK rfl _ _ _ rfl k' _ Tryz.underlying53 Tryz.underlying24 (HDD1.out.all.gr g3) rfl rfl rfl fun W' h1 h2 => ?_
   have hgp := goneF_put (left := left) HD.out.ok.sort hp
   have HD' := HDD1.out.put g3 k' (xn, xm) b hw2.2 (.inl hb0) h1 h2 (by rw [hgp]; exact goneF_ok HD.out.ok) (g1w.below.size)
   rw [hgp] at HD'
   have hr' := (HR1.out.gr g3).only (HDD1.out.all.gr g3) h2 (by have := HDD1.out.bM; omega)
   have hg' : Gr w W' := Gr.of (h2.below HDD1.out.bM (HDD1.out.all.gr g3).lt (g1w.trans g3).below)
   have HDF := hd_ HD'
   have HRF := hd_ hr'
   have HGF := hd_ hg'
   clear HD' hr' hg' h1 h2 hw2 g3 hsz
   try simp only [Act.put]
   go_wp2
   go_roundw
   case rel => exact ⟨fun z => left z && z != k', _, _, HRF.out, HDF.out, HGF.out⟩
   case measure => rw [HRF.out.left_eq, HR.out.left_eq]; exact HLT.out
section
variable {β : Type}
def findN : List (Int × β) → Int → Option Nat
 | [], _ => none
 | (a, _) :: r, n => if a = n then some 0 else (findN r n).map (· + 1)
def idxK (l : List (Int × β)) (n : Int) : Int := match findN l n with
 | some i => (i : Int)
 | none => -1
theorem findN_append (a b : List (Int × β)) (n : Int) : findN (a ++ b) n = match findN a n with
  | some i => some i
  | none => (findN b n).map (· + a.length) := by
 induction a with
 | nil => simp [findN]
 | cons p r ih =>
  obtain ⟨k, x⟩ := p
  simp only [List.cons_append, findN]
  by_cases h : k = n
  ·simp [h]
  ·simp only [h, if_false, ih]
   cases findN r n with
   | some i => simp
   | none =>
    simp only [Option.map_none, List.length_cons, Option.map_map]
    congr 1
theorem findN_some {l : List (Int × β)} {n : Int} {i : Nat} (h : findN l n = some i) : ∃ x, l[i]? = some (n, x) ∧ getK l n = some x := by
 induction l generalizing i with
 | nil => cases h
 | cons p r ih =>
  obtain ⟨k, x⟩ := p
  unfold findN at h
  unfold getK
  by_cases hk : k = n
  ·subst hk
   simp at h
   subst h
   exact ⟨x, by simp, by simp⟩
  ·rw [if_neg hk] at h
   cases hr : findN r n with
   | none => rw [hr] at h; cases h
   | some j =>
    rw [hr] at h
    simp at h
    subst h
    obtain ⟨y, h1, h2⟩ := ih hr
    exact ⟨y, by simpa using h1, by simp [hk, h2]⟩
theorem findN_none {l : List (Int × β)} {n : Int} : findN l n = none ↔ getK l n = none := by
 induction l with
 | nil => simp [findN, getK]
 | cons p r ih =>
  obtain ⟨k, x⟩ := p
  unfold findN getK
  by_cases hk : k = n
  ·simp [hk]
  ·simp [hk, ih]
theorem findN_hit {l : List (Int × β)} {n : Int} {k : Nat} {x : β} (h : findN (l.take k) n = none) (hk : l[k]? = some (n, x)) : findN l n = some k := by
 have h1 : l = l.take k ++ (n, x) :: l.drop (k + 1) := by
  obtain ⟨hl, he⟩ := List.getElem?_eq_some_iff.1 hk
  rw [← he, List.getElem_cons_drop, List.take_append_drop]
 have hl : k < l.length := (List.getElem?_eq_some_iff.1 hk).1
 rw [h1, findN_append, h]
 simp [findN]
 omega
theorem findN_miss {l : List (Int × β)} {n : Int} {k : Nat} {p : Int × β} (h : findN (l.take k) n = none) (hk : l[k]? = some p) (hp : ¬ p.1 = n) : findN (l.take (k + 1)) n = none := by
 rw [List.take_add_one, hk, findN_append, h]
 obtain ⟨a, x⟩ := p
 simp at hp
 simp [findN, hp]
theorem idx_some {l : List (Int × β)} {n : Int} {i : Nat} (h : findN l n = some i) : idxK l n = i := by rw [idxK, h]
theorem idx_none {l : List (Int × β)} {n : Int} (h : findN l n = none) : idxK l n = -1 := by rw [idxK, h]
theorem sort_low {l : List (Int × β)} (hs : SortK l) {i : Nat} {p : Int × β} (h : l[i]? = some p) : ∀ q ∈ l.take i, q.1 < p.1 := by
 intro q hq
 obtain ⟨j, hj, rfl⟩ := List.mem_iff_getElem.1 hq
 simp at hj
 obtain ⟨hi, rfl⟩ := List.getElem?_eq_some_iff.1 h
 have := List.pairwise_iff_getElem.1 hs j i (by omega) hi (by omega)
 simpa using this
theorem sort_high {l : List (Int × β)} (hs : SortK l) {i : Nat} {p : Int × β} (h : l[i]? = some p) : ∀ q ∈ l.drop (i + 1), p.1 < q.1 := by
 intro q hq
 obtain ⟨j, hj, rfl⟩ := List.mem_iff_getElem.1 hq
 simp at hj
 obtain ⟨hi, rfl⟩ := List.getElem?_eq_some_iff.1 h
 have := List.pairwise_iff_getElem.1 hs i (i + 1 + j) hi (by omega) (by omega)
 simpa using this
theorem cut_at {l : List (Int × β)} {i : Nat} {p : Int × β} (h : l[i]? = some p) : l = l.take i ++ p :: l.drop (i + 1) := by
 obtain ⟨hl, he⟩ := List.getElem?_eq_some_iff.1 h
 rw [← he, List.getElem_cons_drop, List.take_append_drop]
theorem findN_at {l : List (Int × β)} (hs : SortK l) {i : Nat} {n : Int} {x : β} (h : l[i]? = some (n, x)) : findN l n = some i := by
 refine findN_hit (findN_none.2 (getK_none.2 fun p hp => ?_)) h
 have := sort_low hs h p hp
 simp at this
 omega
theorem putK_low {l r : List (Int × β)} {n : Int} {x : β} (h : ∀ p ∈ l, p.1 < n) : putK (l ++ r) n x = l ++ putK r n x := by
 induction l with
 | nil => rfl
 | cons p l ih =>
  obtain ⟨a, y⟩ := p
  have h1 := h (a, y) (.head _)
  simp only at h1
  rw [List.cons_append, putK, if_neg (by omega), if_neg (by omega), ih (fun p hp => h p (.tail _ hp)), List.cons_append]
theorem putK_high {l r : List (Int × β)} {n : Int} {x : β} (h : ∃ p ∈ l, n ≤ p.1) : putK (l ++ r) n x = putK l n x ++ r := by
 induction l with
 | nil => obtain ⟨p, hp, _⟩ := h; cases hp
 | cons p l ih =>
  obtain ⟨a, y⟩ := p
  rw [List.cons_append, putK, putK]
  split
  ·rfl
  split
  ·rfl
  ·obtain ⟨q, hq, hn⟩ := h
   rcases List.mem_cons.1 hq with rfl | hq
   ·simp only at hn; omega
   ·rw [ih ⟨q, hq, hn⟩]; rfl
theorem putK_set {l : List (Int × β)} (hs : SortK l) {i : Nat} {n : Int} {x y : β} (h : l[i]? = some (n, x)) : l.set i (n, y) = putK l n y := by
 have hl : i < l.length := (List.getElem?_eq_some_iff.1 h).1
 have h1 := cut_at h
 have h2 := putK_low (r := (n, x) :: l.drop (i + 1)) (x := y) (n := n) (fun p hp => sort_low hs h p hp)
 rw [← h1] at h2
 rw [h2, putK, if_neg (by omega), if_pos rfl]
 rw [List.set_eq_take_append_cons_drop, if_pos hl]
theorem putK_at {l : List (Int × β)} {i : Nat} {n : Int} {x : β} (h1 : ∀ p ∈ l.take i, p.1 < n) (h2 : ∀ p, l[i]? = some p → n < p.1) : putK l n x = l.take i ++ (n, x) :: l.drop i := by
 have h3 := putK_low (r := l.drop i) (x := x) h1
 rw [List.take_append_drop] at h3
 rw [h3]
 congr 1
 cases hd : l.drop i with
 | nil => rfl
 | cons p r =>
  obtain ⟨a, y⟩ := p
  have : l[i]? = some (a, y) := by rw [← List.head?_drop, hd]; rfl
  have := h2 _ this
  simp only at this
  rw [putK, if_pos this]
theorem delK_at {l : List (Int × β)} (hs : SortK l) {i : Nat} {n : Int} {x : β} (h : l[i]? = some (n, x)) : delK l n = l.take i ++ l.drop (i + 1) := by
 have hlo := sort_low hs h
 have hhi := sort_high hs h
 conv => lhs; rw [cut_at h]
 rw [delK, List.filter_append, List.filter_cons]
 have e1 : (l.take i).filter (fun p => p.1 != n) = l.take i := List.filter_eq_self.2 fun p hp => by
  have := hlo p hp; simp at this; simp; omega
 have e2 : (l.drop (i + 1)).filter (fun p => p.1 != n) = l.drop (i + 1) := List.filter_eq_self.2 fun p hp => by
  have := hhi p hp; simp at this; simp; omega
 rw [e1, e2]
 simp
end
/-! A part, sector by sector. -/
def addP (l : List Spn) (s : Nat) : List Spn := match l.getLast? with
 | some x => if x.b = s / 4 then l.dropLast ++ [⟨x.b, x.f, s % 4 + 1⟩] else l ++ [⟨s / 4, s % 4, s % 4 + 1⟩]
 | none => [⟨s / 4, s % 4, s % 4 + 1⟩]
theorem addP_cons (S : Spn) (L : List Spn) (s : Nat) (h : L ≠ []) : addP (S :: L) s = S :: addP L s := by
 unfold addP
 obtain ⟨y, hy⟩ : ∃ y, L.getLast? = some y := by
  cases hl : L.getLast? with
  | none => exact absurd (List.getLast?_eq_none_iff.1 hl) h
  | some y => exact ⟨y, rfl⟩
 have h2 : (S :: L).getLast? = some y := by rw [List.getLast?_cons, hy]; rfl
 rw [h2, hy]
 simp only
 split
 ·rw [List.dropLast_cons_of_ne_nil h]; rfl
 ·rfl
theorem addP_last (L : List Spn) (x : Spn) (s : Nat) : addP (L ++ [x]) s = if x.b = s / 4 then L ++ [⟨x.b, x.f, s % 4 + 1⟩] else L ++ [x] ++ [⟨s / 4, s % 4, s % 4 + 1⟩] := by
 unfold addP
 simp
theorem spans_ne (a c : Nat) (h : 0 < c) : spans a c ≠ [] := by rw [spans_cons a c h]; simp
theorem spans_snoc : ∀ (k a : Nat), spans a (k + 1) = addP (spans a k) (a + k) := by
 intro k
 induction k using Nat.strongRecOn with
 | ind k ih =>
  intro a
  have ha : a % 4 < 4 := Nat.mod_lt _ (by decide)
  by_cases h0 : k = 0
  ·subst h0
   rw [spans_cons a 1 (by decide), spans_zero]
   have : min (4 - a % 4) 1 = 1 := by omega
   rw [this, show (1 - 1 : Nat) = 0 from rfl, spans_zero]
   simp [addP]
  ·by_cases h1 : k < 4 - a % 4
   ·have m1 : min (4 - a % 4) k = k := by omega
    have m2 : min (4 - a % 4) (k + 1) = k + 1 := by omega
    rw [spans_cons a k (by omega), spans_cons a (k + 1) (by omega), m1, m2, Nat.sub_self, Nat.sub_self, spans_zero, spans_zero]
    have e1 : a / 4 = (a + k) / 4 := by omega
    have e2 : a % 4 + (k + 1) = (a + k) % 4 + 1 := by omega
    simp only [addP, List.getLast?_singleton]
    rw [if_pos e1]
    simp [e2]
   ·have m1 : min (4 - a % 4) k = 4 - a % 4 := by omega
    have m2 : min (4 - a % 4) (k + 1) = 4 - a % 4 := by omega
    rw [spans_cons a k (by omega), spans_cons a (k + 1) (by omega), m1, m2]
    generalize hm : 4 - a % 4 = m at *
    have h3 := ih (k - m) (by omega) (a + m)
    rw [show k + 1 - m = k - m + 1 by omega, h3, show a + m + (k - m) = a + k by omega]
    by_cases hk : k - m = 0
    ·rw [hk, spans_zero]
     have : ¬ a / 4 = (a + k) / 4 := by omega
     simp [addP, this]
    ·rw [addP_cons _ _ _ (spans_ne _ _ (by omega))]
theorem mergeB_zero (B : Byt) (f : Nat) : mergeB B f [] = B := by simp [mergeB]
theorem mergeB_snoc (B : Byt) (f : Nat) (x : Byt) (c : UInt8) (h : 64 * f + x.length < B.length) : mergeB B f (x ++ [c]) = (mergeB B f x).set (64 * f + x.length) c := by
 unfold mergeB
 rw [List.set_append_right _ _ (by simp; omega)]
 have e : 64 * f + x.length - (B.take (64 * f) ++ x).length = 0 := by simp; omega
 have hd : B.drop (64 * f + x.length) = B[64 * f + x.length] :: B.drop (64 * f + x.length + 1) := by rw [List.getElem_cons_drop]
 rw [e, hd, List.set_cons_zero]
 simp [Nat.add_assoc]
/-! Operations. -/
theorem size_filter {x : VolM} (hx : VolOk x) (s : Int) : (x.2.filter fun p => decide (p.1 < s ∨ (1073741824 : Int) ≤ p.1)) = x.2.filter fun p => decide (p.1 < s) := by
 refine List.filter_congr fun p hp => ?_
 have h1 := hx.keys p hp
 have h2 := hx.s1
 have : ¬ (1073741824 : Int) ≤ p.1 := by omega
 simp [this]
def rbE : EK (Int × Byt) := ⟨fun p => .int .i64 p.1 :: p.2.map bv, 257, 159, 100, 264, .agg (#[.int .i64 0] ++ bkC zB), fun p => p.2.length = 256⟩
theorem rbIs : rbE.Is where
 len := fun x h => by
  have h : x.2.length = 256 := h
  simp [rbE, h]
 one := fun x _ v hv => by
  simp only [rbE, List.mem_cons, List.mem_map] at hv
  rcases hv with rfl | ⟨b, _, rfl⟩ <;> rfl
 pos := by decide
 hT := Tryz.underlying100
 hE := by kernel_rfl
 hz := by kernel_rfl
 hb := by decide
structure RV where
 n : Int
 s : Int
 v : Value
def rvE : EK RV := ⟨fun x => [.int .u64 x.n, .int .i64 x.s, x.v], 3, 102, 33, 40, .agg #[.int .u64 0, .int .i64 0, .slice none 0 0], fun x => x.v.oneCell' = true⟩
theorem rvIs : rvE.Is where
 len := fun _ _ => rfl
 one := fun x hx v hv => by
  simp only [rvE, List.mem_cons, List.mem_nil_iff, or_false] at hv
  rcases hv with rfl | rfl | rfl
  ·rfl
  ·rfl
  ·exact hx
 pos := by decide
 hT := Tryz.underlying33
 hE := by kernel_rfl
 hz := rfl
 hb := by decide
def BlkS (W : World) (v : Value) (m : List (Int × Byt)) : Prop :=
 ∃ A c, v = .slice A m.length c ∧ m.length ≤ c ∧ c ≤ maxLen ∧ (A = none → c = 0) ∧ (∀ p ∈ m, p.2.length = 256) ∧ (m ≠ [] → ∃ b p cs f, A = some ⟨b, p, none⟩ ∧ W.heap[b]? = some (.cells cs 159 f) ∧ CellsN rbE W b p m)
theorem BlkS.keep {W W' : World} {v : Value} {m : List (Int × Byt)} (h : BlkS W v m) (hk : ∀ (b : Nat) cs f, W.heap[b]? = some (Obj.cells cs 159 f) → W'.heap[b]? = W.heap[b]?) : BlkS W' v m := by
 obtain ⟨A, c, rfl, h1, h2, h3, h4, h5⟩ := h
 refine ⟨A, c, rfl, h1, h2, h3, h4, fun hm => ?_⟩
 obtain ⟨b, p, cs, f, rfl, hb, hc⟩ := h5 hm
 have e := hk b cs f hb
 refine ⟨b, p, cs, f, rfl, e.trans hb, fun j x hj i u hu => ?_⟩
 rw [← hc j x hj i u hu]
 simp [World.cell?, e]
theorem BlkS.gr {W W' : World} {v : Value} {m : List (Int × Byt)} (h : BlkS W v m) (g : Gr W W') : BlkS W' v m := h.keep fun b _ _ hb => g.below.block b (Array.getElem?_eq_some_iff.1 hb).1
theorem BlkS.nil (W : World) : BlkS W (.slice none 0 0) [] := ⟨none, 0, rfl, Nat.le_refl _, by unfold maxLen; omega, fun _ => rfl, by simp, fun h => absurd rfl h⟩
theorem BlkS.one {W : World} {v : Value} {m : List (Int × Byt)} (h : BlkS W v m) : v.oneCell' = true := by obtain ⟨A, c, rfl, _⟩ := h; rfl
theorem BlkS.row {W : World} {v : Value} {m : List (Int × Byt)} (h : BlkS W v m) : ∃ A c, v = .slice A m.length c ∧ m.length ≤ c ∧ c ≤ maxLen ∧ (A = none → c = 0) ∧ RowN rbE W A m := by
 obtain ⟨A, c, rfl, h1, h2, h3, h4, h5⟩ := h
 refine ⟨A, c, rfl, h1, h2, h3, h4, fun hm => ?_⟩
 obtain ⟨b, p, cs, f, rfl, hb, hc⟩ := h5 hm
 exact ⟨b, p, rfl, (Array.getElem?_eq_some_iff.1 hb).1, hc⟩
theorem OwnN.blkS {base : Nat} {W : World} {v : Value} {m : List (Int × Byt)} (h : OwnN rbE base W v m) : BlkS W v m := by
 by_cases hm : m = []
 ·subst hm
  rcases h.own.2 with ⟨rfl, _⟩ | ⟨g, cap, cur, rfl, _, hh, hnc, hcm, _⟩
  ·exact BlkS.nil W
  ·exact ⟨_, cap, rfl, Nat.zero_le _, hcm, (fun e => by cases e), by simp, fun h => absurd rfl h⟩
 ·obtain ⟨g, c, rfl, hb, hg, hc, hcm, hcl, _⟩ := h.cells rbIs hm
  rcases h.own.2 with ⟨e, _⟩ | ⟨g', cap, cur, e, _, hh, _⟩
  ·cases e
  ·cases e
   exact ⟨_, c, rfl, hc, hcm, (fun e => by cases e), h.ok, fun _ => ⟨g, 0, _, _, rfl, hh, hcl⟩⟩
def refT (t : TypeId) : Prop := t = 102 ∨ t = 35
structure RK (W W' : World) : Prop where
 size : W.heap.size ≤ W'.heap.size
 keep : ∀ (b : Nat) o, W.heap[b]? = some o → (∀ cs t f, o = Obj.cells cs t f → ¬ refT t) → W'.heap[b]? = some o
theorem RK.refl (W : World) : RK W W := ⟨Nat.le_refl _, fun _ _ h _ => h⟩
theorem RK.gr {W W' : World} (g : Gr W W') : RK W W' := ⟨g.below.size, fun b o h _ => (g.below.block b (Array.getElem?_eq_some_iff.1 h).1).trans h⟩
theorem RK.trans {A B C : World} (h : RK A B) (k : RK B C) : RK A C := ⟨Nat.le_trans h.size k.size, fun b o hb hn => k.keep b o (h.keep b o hb hn) hn⟩
theorem RK.blkS {W W' : World} (k : RK W W') {v : Value} {m : List (Int × Byt)} (h : BlkS W v m) : BlkS W' v m := h.keep fun b cs f hb => (k.keep b _ hb (fun cs' t f' e => by cases e; unfold refT; decide)).trans hb.symm
theorem RK.block {W W' : World} (k : RK W W') {B : Nat} {cs : Array Value} {t : TypeId} (hB : BlockAt W B cs t) (ht : ¬ refT t) : BlockAt W' B cs t := ⟨k.keep B _ hB.eq (fun cs' t' f' e => by cases e; exact ht)⟩
theorem RK.set_ {w W : World} (k : RK w W) (B o : Nat) (u : Value) {cs : Array Value} {t : TypeId} {f : Nat × Nat} (hB : W.heap[B]? = some (.cells cs t f)) (ht : refT t) : RK w (W.setCell ⟨B, o, none⟩ u) := by
 refine ⟨by have := k.size; simpa [World.setCell] using this, fun b ob hb hn => ?_⟩
 have h1 := k.keep b ob hb hn
 have hne : b ≠ B := by
  rintro rfl
  rw [hB] at h1
  cases h1
  exact hn _ _ _ rfl ht
 exact (Below.heap_setCell W ⟨B, o, none⟩ u b hne).trans h1
def rvF (vf : Int → Value) (p : Int × VolM) : RV := ⟨p.1, p.2.1, vf p.1⟩
structure RefIn (base : Nat) (W : World) (R : Nat) (v : Value) (vf : Int → Value) (d : Dev) : Prop where
 blk : BlockAt W R #[v] 35
 own : OwnN rvE base W v (d.map (rvF vf))
 vol : ∀ p ∈ d, BlkS W (vf p.1) p.2.2
 bR : base ≤ R
 ok : DevOk d
def RefAt (base : Nat) (W : World) (R : Nat) (d : Dev) : Prop := ∃ v vf, RefIn base W R v vf d
theorem RefIn.gr {base R : Nat} {W W' : World} {v : Value} {vf : Int → Value} {d : Dev} (h : RefIn base W R v vf d) (g : Gr W W') : RefIn base W' R v vf d := ⟨h.blk.gr g, h.own.gr g, fun p hp => (h.vol p hp).gr g, h.bR, h.ok⟩
theorem RefAt.gr {base R : Nat} {W W' : World} {d : Dev} (h : RefAt base W R d) (g : Gr W W') : RefAt base W' R d := by
 obtain ⟨v, vf, h⟩ := h
 exact ⟨v, vf, h.gr g⟩
theorem RefIn.ck {base R : Nat} {W W' : World} {v : Value} {vf : Int → Value} {d : Dev} (h : RefIn base W R v vf d) (g : CK W W') : RefIn base W' R v vf d := by
 refine ⟨g.block h.blk, h.own.keep fun k hk => ?_, fun p hp => (h.vol p hp).keep fun b cs f hb => g.keep b _ _ _ hb, h.bR, h.ok⟩
 rcases h.own.own.2 with ⟨rfl, _⟩ | ⟨b, cap, cur, rfl, _, hh, _⟩
 ·cases hk
 ·have : b = k := by simpa [Value.ownBlock] using hk
  subst this
  exact g.keep _ _ _ _ hh
theorem RefIn.neD {base R : Nat} {W : World} {v : Value} {vf : Int → Value} {d : Dev} (h : RefIn base W R v vf d) {g : Nat} (hg : v.ownBlock = some g) : g ≠ R := by
 rintro rfl
 rcases h.own.own.2 with ⟨rfl, _⟩ | ⟨b, cap, cur, rfl, _, hh, _⟩
 ·cases hg
 ·have e : b = g := by simpa [Value.ownBlock] using hg
  subst e
  have := h.blk.eq
  rw [hh] at this
  cases this
theorem RefIn.form {base R : Nat} {W : World} {v : Value} {vf : Int → Value} {d : Dev} (h : RefIn base W R v vf d) (hd : d ≠ []) : ∃ g c, v = .slice (some ⟨g, 0, none⟩) d.length c ∧ base ≤ g ∧ g < W.heap.size ∧ g ≠ R ∧ d.length ≤ c ∧ c ≤ maxLen ∧ (∃ cs, W.heap[g]? = some (.cells cs 102 (0, 0))) ∧ (∀ (i : Nat) p, d[i]? = some p → W.cell? ⟨g, i * 3 + 0, none⟩ = some (.int .u64 p.1) ∧ W.cell? ⟨g, i * 3 + 1, none⟩ = some (.int .i64 p.2.1) ∧ W.cell? ⟨g, i * 3 + 2, none⟩ = some (vf p.1)) := by
 obtain ⟨g, c, hv, hb, hg, hc, hcm, hcl, _⟩ := h.own.cells rvIs (by simpa using hd)
 rw [List.length_map] at hv hc
 subst hv
 refine ⟨g, c, rfl, hb, hg, h.neD rfl, hc, hcm, ?_, fun i p hp => ?_⟩
 ·rcases h.own.own.2 with ⟨e, _⟩ | ⟨b, cap, cur, e, _, hh, _⟩
  ·cases e
  ·have e2 : g = b := by simp only [Value.slice.injEq, Option.some.injEq, Addr.mk.injEq] at e; exact e.1.1
   subst e2
   exact ⟨_, hh⟩
 ·have hi : (d.map (rvF vf))[i]? = some (rvF vf p) := by rw [List.getElem?_map, hp]; rfl
  have := hcl i _ hi
  refine ⟨?_, ?_, ?_⟩
  ·have := this 0 _ rfl; rwa [Nat.zero_add] at this
  ·have := this 1 _ rfl; rwa [Nat.zero_add] at this
  ·have := this 2 _ rfl; rwa [Nat.zero_add] at this
theorem RefIn.nilv {base R : Nat} {W : World} {v : Value} {vf : Int → Value} {d : Dev} (h : RefIn base W R v vf d) : ∃ A c, v = .slice A d.length c ∧ d.length ≤ c ∧ c ≤ maxLen ∧ (A = none → c = 0) ∧ RowN rvE W A (d.map (rvF vf)) := by
 obtain ⟨A, c, hv, h1, h2, h3⟩ := h.own.form rvIs
 rw [List.length_map] at hv h1
 refine ⟨A, c, hv, h1, h2, fun e => ?_, h3⟩
 subst e
 rcases h.own.own.2 with ⟨e, _⟩ | ⟨b, cap, cur, e, _⟩
 ·rw [hv] at e
  simp only [Value.slice.injEq] at e
  exact e.2.2
 ·rw [hv] at e
  simp only [Value.slice.injEq] at e
  cases e.1
theorem RefIn.setM {base R : Nat} {w W : World} {g n c : Nat} {vf : Int → Value} {d : Dev} (h : RefIn base w R (.slice (some ⟨g, 0, none⟩) n c) vf d) (hg : Gr w W) {i : Nat} {p : Int × VolM} (hp : d[i]? = some p) (m : List (Int × Byt)) (u : Value) (hu : BlkS W u m) (hok : VolOk (p.2.1, m)) :
  RefIn base (W.setCell ⟨g, i * 3 + 2, none⟩ u) R (.slice (some ⟨g, 0, none⟩) n c) (fun k => if k = p.1 then u else vf k) (putK d p.1 (p.2.1, m)) := by
 have H := h.gr hg
 obtain ⟨cs, hh⟩ : ∃ cs, W.heap[g]? = some (.cells cs 102 (0, 0)) := by
  rcases H.own.own.2 with ⟨e, _⟩ | ⟨b, cap, cur, e, _, hh, _⟩
  ·cases e
  ·cases e; exact ⟨_, hh⟩
 have hk := h.ok.keys p (List.mem_of_getElem? hp)
 have hset := putK_set h.ok.sort (y := (p.2.1, m)) (show d[i]? = some (p.1, p.2) from hp)
 have hrk : RK W (W.setCell ⟨g, i * 3 + 2, none⟩ u) := (RK.refl W).set_ g _ u hh (.inl rfl)
 refine ⟨?_, ?_, fun q hq => ?_, h.bR, put_ok h.ok hk.1 hk.2 hok⟩
 ·haveI := H.blk
  haveI : BNe R g := ⟨(H.neD rfl).symm⟩
  infer_instance
 ·have hs := H.own.store rvIs i 2 (rvF vf p) ⟨p.1, p.2.1, u⟩ u (by rw [List.getElem?_map, hp]; rfl) (by decide) rfl hu.one
  have e : (d.map (rvF vf)).set i ⟨p.1, p.2.1, u⟩ = (putK d p.1 (p.2.1, m)).map (rvF fun k => if k = p.1 then u else vf k) := by
   rw [← hset]
   apply List.ext_getElem?
   intro j
   rw [List.getElem?_set, List.getElem?_map, List.getElem?_map, List.getElem?_set]
   have hil : i < d.length := (List.getElem?_eq_some_iff.1 hp).1
   by_cases hj : i = j
   ·subst hj
    simp [hil, rvF]
   ·simp only [hj, if_false]
    cases hq : d[j]? with
    | none => rfl
    | some q =>
     have hne : ¬ q.1 = p.1 := fun e => by
      have h1 := findN_at h.ok.sort (show d[i]? = some (p.1, p.2) from hp)
      have h2 := findN_at h.ok.sort (show d[j]? = some (q.1, q.2) from hq)
      rw [e, h1] at h2
      cases h2
      exact hj rfl
     simp [rvF, hne]
  rw [e] at hs
  exact hs
 ·rcases (mem_putK h.ok.sort q).1 hq with rfl | ⟨hq, hne⟩
  ·simp only [if_true]
   exact hrk.blkS hu
  ·simp only [if_neg hne]
   exact hrk.blkS (H.vol q hq)
section
variable {W : World} {ops : Array Oper} {rest : List Oper} {o : Oper} {a : Act} {Q : Exit → Act → World → Prop}
theorem wpLoadCs (hgd : o.guard = none) (ty : TypeId) (x : Operand) (ho : o.op = .load ty x) (ad : Addr) (cs : List Value) (d : TypeDesc) (hx : a.eval x = .pointer (some ad)) (hu : Tryz.prog.underlying ty = some d) (hd : (match d with | .struct _ | .array _ _ => true | _ => false) = true) (hi : (Tryz.prog.info? ty).map (·.size) = some cs.length)
  (hc : ∀ j v, cs[j]? = some v → W.cell? (ad.add j) = some v) (h : wpList Tryz.prog ops Q rest (a.put o.dst (.agg cs.toArray)) W) : wpList Tryz.prog ops Q (o :: rest) a W := by
 refine wpList_plain hgd fun K' hK' => ?_
 have hl := run_loadCells_list (P := Tryz.prog) W ad cs hc
 have hrun : (loadVar ty ad).run Tryz.prog W = .ok (.agg cs.toArray) W := by
  cases hq : Tryz.prog.info? ty with
  | none => simp [hq] at hi
  | some i =>
   have hs : i.size = cs.length := by simpa [hq] using hi
   have hagg : (isAgg ty).run Tryz.prog W = .ok true W := by
    unfold isAgg
    rw [Sem.run_bind, run_underlying hu W]
    cases d <;> simp_all
   simp [loadVar, Sem.run_bind, hagg, sizeOf, typeInfo, hq, hs, hl]
 unfold Oper.wp execOp
 simp only [ho, hx, Instr.loadAt, Instr.sureAddr, Sem.run_bind, Sem.run_pure, Result.andThen_ok, hrun]
 exact hK' _ _ h
theorem AppN.same {α : Type} {e : EK α} {base : Nat} {v : Value} {xs : List α} (h : OwnN e base W v xs) (hbase : base ≤ W.heap.size) : AppN e base W v xs [] v W := by
 refine ⟨by simpa using h, Below.refl _ _, Nat.le_refl _, fun _ _ _ h _ => h, fun _ _ _ => rfl, ⟨rfl, rfl, rfl, Nat.le_refl _, fun _ _ _ => rfl⟩, fun b hb => .inl hb⟩
theorem run_append_x {α : Type} {e : EK α} {base : Nat} {v : Value} {xs : List α} (he : e.Is) (ty : TypeId) (hown : OwnN e base W v xs) (A : Option Addr) (ys : List α) (m c : Nat) (hm : ys.length = m) (hn : A = none → c = 0)
  (hr : RowN e W A ys) (hlen : xs.length + ys.length ≤ 100000000) (hbase : base ≤ W.heap.size) : ∃ v' W', (Builtin.append_ #[e.T, e.T] ty #[v, .slice A m c]).run Tryz.prog W = .ok v' W' ∧ AppN e base W v xs ys v' W' := by
 subst hm
 by_cases hy : ys = []
 ·subst hy
  obtain ⟨i0, hi, hz0, hz2, hz3⟩ := info_parts he.hE
  refine ⟨v, W, ?_, AppN.same hown hbase⟩
  cases A with
  | none =>
   obtain rfl := hn rfl
   exact run_append_owned_none W base e.T ty e.E i0 e.k he.hT hi v xs.length (xs.flatMap e.cs) hown.own
  | some ad =>
   rcases hown.own.2 with ⟨rfl, hx0⟩ | ⟨g, cap, cur, rfl, _, _, hnc, _⟩
   ·simp [Builtin.append_, run_underlying he.hT, sizeOf, typeInfo, hi, Builtin.lenOf, Builtin.firstCells, loadCells, loadCellsFrom]
   ·simp [Builtin.append_, run_underlying he.hT, sizeOf, typeInfo, hi, Builtin.lenOf, Builtin.firstCells, hnc, storeCells, loadCells, loadCellsFrom]
 ·obtain ⟨b, p, rfl, hb, hc⟩ := hr.at_ hy
  exact run_append_n he ty hown b p ys c hr.ok hc hlen hbase (by cases ys with | nil => exact absurd rfl hy | cons _ _ => simp)
theorem wp_append_x {α : Type} {e : EK α} {base : Nat} {v : Value} {xs : List α} (he : e.Is) (hgd : o.guard = none) (s x : Operand)
  (ho : o.op = .call { callee := .builtin .append, args := #[s, x], argTypes := #[e.T, e.T] })
  (hs : a.eval s = v) (hown : OwnN e base W v xs) (A : Option Addr) (ys : List α) (m c : Nat) (hm : ys.length = m) (hx : a.eval x = .slice A m c) (hn : A = none → c = 0)
  (hr : RowN e W A ys) (hlen : xs.length + ys.length ≤ 100000000) (hbase : base ≤ W.heap.size)
  (h : ∀ v' W', AppN e base W v xs ys v' W' → wpList Tryz.prog ops Q rest (a.put o.dst v') W') : wpList Tryz.prog ops Q (o :: rest) a W := by
 refine wpList_plain hgd fun K' hK' => ?_
 obtain ⟨v', W', hrun, happ⟩ := run_append_x he o.type hown A ys m c hm hn hr hlen hbase
 unfold Oper.wp execOp
 simp only [ho, resolve, invoke, builtin, Sem.run_bind, Sem.run_pure, Result.andThen_ok, List.map_toArray, List.map_cons, List.map_nil, hs, hx, hrun]
 exact hK' _ _ (h v' W' happ)
theorem effAt_append_x {α : Type} {e : EK α} {base : Nat} {v : Value} {xs : List α} {R : Value → World → Prop} (he : e.Is) (s x : Operand)
  (ho : o.op = .call { callee := .builtin .append, args := #[s, x], argTypes := #[e.T, e.T] })
  (hs : a.eval s = v) (hown : OwnN e base W v xs) (A : Option Addr) (ys : List α) (m c : Nat) (hm : ys.length = m) (hx : a.eval x = .slice A m c) (hn : A = none → c = 0)
  (hr : RowN e W A ys) (hlen : xs.length + ys.length ≤ 100000000) (hbase : base ≤ W.heap.size)
  (h : ∀ v' W', AppN e base W v xs ys v' W' → R v' W') : EffAt Tryz.prog o a W R := by
 obtain ⟨v', W', hrun, happ⟩ := run_append_x he o.type hown A ys m c hm hn hr hlen hbase
 unfold EffAt execOp
 simp only [ho, resolve, invoke, builtin, Sem.run_bind, Sem.run_pure, Result.andThen_ok, List.map_toArray, List.map_cons, List.map_nil, hs, hx, hrun]
 exact h v' W' happ
theorem RefIn.setV {base R : Nat} {w w1 : World} {v v' : Value} {vf vf' : Int → Value} {d d' : Dev} (h : RefIn base w R v vf d) (hg : Gr w w1) (hbase : base ≤ w.heap.size) (hown : OwnN rvE w.heap.size w1 v' (d'.map (rvF vf'))) (hv : ∀ p ∈ d', BlkS w1 (vf' p.1) p.2.2) (hok : DevOk d') :
  RefIn base (w1.setCell ⟨R, 0, none⟩ v') R v' vf' d' ∧ RK w (w1.setCell ⟨R, 0, none⟩ v') := by
 have hb := h.blk.gr hg
 have hrk : RK w1 (w1.setCell ⟨R, 0, none⟩ v') := (RK.refl w1).set_ R 0 v' hb.eq (.inr rfl)
 haveI := hb
 refine ⟨⟨?_, ?_, fun p hp => hrk.blkS (hv p hp), h.bR, hok⟩, (RK.gr hg).trans hrk⟩
 ·show BlockAt _ R (#[v].setIfInBounds 0 v') _
  infer_instance
 ·exact (hown.more hbase).set_ R 0 v' (by decide)
end
theorem findN_hitp {β : Type} {l : List (Int × β)} {n : Int} {k : Nat} {p : Int × β} (h : findN (l.take k) n = none) (hk : l[k]? = some p) (hp : p.1 = n) : findN l n = some k := by
 subst hp
 exact findN_hit h hk
theorem rfind_any (base R : Nat) (d : Dev) (n : Int) (w : World) (h : RefAt base w R d) (hl : d.length ≤ 1000000) : Calls Tryz.prog 46 #[.pointer (some ⟨R, 0, none⟩), .int .u64 n] w fun e w' => e = .returned (.int .i64 (idxK d n)) ∧ Gr w w' := by
 obtain ⟨v, vf, h⟩ := h
 haveI := h.blk
 haveI : Old R w := h.blk.old
 have x0 : w.cell? ⟨R, 0, none⟩ = some v := (bc 0 h.blk).trans rfl
 obtain ⟨A, c, rfl, hc1, hc2, _, _⟩ := h.nilv
 have HH := hd_ h; clear h
 go_enter Tryz.func46, Tryz.ntmps46
 go_wp2
 go_loopw [5] (fun i wr => ∃ k : Nat, k ≤ d.length ∧ i = .int .i64 k ∧ findN (d.take k) n = none ∧ Gr w wr) (fun i _ => d.length - (intOf i).toNat)
 case atStart => exact ⟨0, Nat.zero_le _, rfl, rfl, Gr.refl _⟩
 case round =>
  obtain ⟨k, hk, rfl, hf, hg⟩ := hrel
  have HF := hd_ hf
  have y0 : wr.cell? ⟨R, 0, none⟩ = some (.slice A d.length c) := (bc 0 (HH.out.blk.gr hg)).trans rfl
  haveI : Old R wr := (HH.out.blk.gr hg).old
  haveI := grc_of hg
  clear hf
  by_cases hlt : k < d.length
  ·obtain ⟨p, hp⟩ : ∃ p, d[k]? = some p := ⟨_, List.getElem?_eq_getElem hlt⟩
   obtain ⟨g, c', hv, hbg, hgl, _, _, _, _, hcl⟩ := (HH.out.gr hg).form (by rintro rfl; simp at hlt)
   cases hv
   have c0 := (hcl k p hp).1
   rw [Nat.add_zero] at c0
   haveI : Old g wr := ⟨hgl⟩
   have HP := hd_ hp
   have HG := hd_ hg
   clear hcl hp hg
   by_cases hq : p.1 = n
   ·have hb : (p.1 == n) = true := by simpa using hq
    have HR := hd_ (idx_some (findN_hitp HF.out HP.out hq))
    go_wp2
    go_ret
    exact ⟨by rw [HR.out]; rfl, gri⟩
   ·have hb : (p.1 == n) = false := by simpa using hq
    have HQ := hd_ hq; clear hq
    go_wp2
    go_roundw
    case rel => exact ⟨k + 1, by omega, by go_num, findN_miss HF.out HP.out HQ.out, gri⟩
    case measure => simp [intOf]; omega
  ·have : k = d.length := by omega
   subst this
   have HR := hd_ (idx_none (by have := HF.out; rwa [List.take_length] at this))
   go_wp2
   go_ret
   exact ⟨by rw [HR.out]; rfl, gri⟩
theorem getK_append {β : Type} (a b : List (Int × β)) (n : Int) : getK (a ++ b) n = (getK a n).or (getK b n) := by
 induction a with
 | nil => simp [getK]
 | cons p r ih =>
  obtain ⟨k, x⟩ := p
  simp only [List.cons_append, getK]
  by_cases h : k = n
  ·simp [h]
  ·simp [h, ih]
theorem getK_hit {β : Type} {l : List (Int × β)} {n : Int} {k : Nat} {x : β} (h : getK (l.take k) n = none) (hk : l[k]? = some (n, x)) : getK l n = some x := by
 rw [cut_at hk, getK_append, h]
 simp [getK]
theorem getK_hitp {β : Type} {l : List (Int × β)} {n : Int} {k : Nat} {p : Int × β} (h : getK (l.take k) n = none) (hk : l[k]? = some p) (hp : p.1 = n) : getK l n = some p.2 := by
 subst hp
 exact getK_hit h hk
theorem getK_miss {β : Type} {l : List (Int × β)} {n : Int} {k : Nat} {p : Int × β} (h : getK (l.take k) n = none) (hk : l[k]? = some p) (hp : ¬ p.1 = n) : getK (l.take (k + 1)) n = none := by
 rw [List.take_add_one, hk, getK_append, h]
 obtain ⟨a, x⟩ := p
 simp at hp
 simp [getK, hp]
theorem cells_blk {W : World} {b p : Nat} {m : List (Int × Byt)} (h : CellsN rbE W b p m) {k : Nat} {x : Int × Byt} (hx : m[k]? = some x) : W.cell? ⟨b, p + k * 257, none⟩ = some (.int .i64 x.1) ∧ ∀ j v, (x.2.map bv)[j]? = some v → W.cell? ((⟨b, p + k * 257 + 1, none⟩ : Addr).add j) = some v := by
 have h1 := h k x hx
 refine ⟨?_, fun j v hj => ?_⟩
 ·have := h1 0 _ rfl; rwa [Nat.add_zero] at this
 ·have := h1 (j + 1) v (by simpa [rbE] using hj)
  rw [Go.WideShapes.add_plain]
  rwa [show p + k * 257 + 1 + j = p + k * rbE.k + (j + 1) by show _ = p + k * 257 + (j + 1); omega]
theorem rget_any (g q : Nat) (v : Value) (m : List (Int × Byt)) (n : Int) (w : World) (hc : w.cell? ⟨g, q + 2, none⟩ = some v) (hm : BlkS w v m) : Calls Tryz.prog 49 #[.pointer (some ⟨g, q, none⟩), .int .i64 n] w fun e w' => e = .returned (.tuple #[.agg (bkC ((getK m n).getD zB)), .bool (getK m n).isSome]) ∧ Gr w w' := by
 obtain ⟨A, c, hv, hc1, hc2, _, hr⟩ := hm.row
 obtain ⟨N, hN⟩ : ∃ N : Nat, N = m.length := ⟨_, rfl⟩
 rw [← hN] at hv hc1
 subst hv
 have HN := hd_ hN
 clear hN
 have hb2 := Nat.le_trans hc1 hc2
 unfold maxLen at hb2
 have HR := hd_ hr
 haveI : Old g w := old_of_cell hc
 have HC := hd_ hc
 have EZ := hd_ zC_bk
 clear hr hc hm
 go_enter Tryz.func49, Tryz.ntmps49
 go_wp2
 obtain ⟨w0, hw0⟩ : ∃ w0, w0 = w.alloc (.cells Tryz.zeroCells66 66) := ⟨_, rfl⟩
 go_loopw [6] (fun i wr => ∃ k : Nat, k ≤ N ∧ i = .int .i64 k ∧ getK (m.take k) n = none ∧ BlockAt wr w.heap.size Tryz.zeroCells66 66 ∧ Gr w wr) (fun i _ => N - (intOf i).toNat)
 case atStart => exact ⟨0, Nat.zero_le _, rfl, rfl, inferInstance, gri⟩
 case round =>
  obtain ⟨k, hk, rfl, hf, hb, hg⟩ := hrel
  have HF := hd_ hf
  have y0 : wr.cell? ⟨g, q + 2, none⟩ = some (.slice A N c) := (hg.below.cell (p := ⟨g, q + 2, none⟩) (old_of_cell HC.out).lt).trans HC.out
  haveI : Old g wr := old_of_cell y0
  haveI := hb
  haveI := grc_of hg
  clear hf
  by_cases hlt : k < N
  ·obtain ⟨p, hp⟩ : ∃ p, m[k]? = some p := ⟨_, List.getElem?_eq_getElem (by rw [← HN.out]; exact hlt)⟩
   obtain ⟨b, o, rfl, hbl, hcl⟩ := (HR.out.gr hg).at_ (by rintro rfl; have := HN.out; simp at this; omega)
   obtain ⟨c0, c1⟩ := cells_blk hcl hp
   have h256 : p.2.length = 256 := HR.out.ok p (List.mem_of_getElem? hp)
   haveI : Old b wr := ⟨hbl⟩
   haveI := bkC_row h256
   have HP := hd_ hp
   have HG := hd_ hg
   have C1 := hd_ c1
   clear hcl hp hg c1
   by_cases hq : p.1 = n
   ·have hb : (p.1 == n) = true := by simpa using hq
    have HR2 := hd_ (getK_hitp HF.out HP.out hq)
    have L1 := hd_ (show ((Tryz.prog.info? 66).map (·.size) = some (p.2.map bv).length) by rw [List.length_map, h256]; exact infoBlk)
    go_wp2_with (first | (refine wpLoadCs rfl _ _ rfl ⟨b, o + k * 257 + 1, none⟩ (p.2.map bv) _ rfl Tryz.underlying66 rfl L1.out C1.out ?_) | (refine wpStoreB rfl _ _ rfl _ _ (bkC p.2) rfl rfl inferInstance inferInstance inferInstance ?_))
    exact bodyPost_ret (run_resB rfl _ _ _ _ rfl rfl inferInstance inferInstance) rfl ⟨by rw [HR2.out]; rfl, gri⟩
   ·have hb : (p.1 == n) = false := by simpa using hq
    have HQ := hd_ hq; clear hq
    go_wp2
    go_roundw
    case rel => exact ⟨k + 1, hlt, by go_num, getK_miss HF.out HP.out HQ.out, inferInstance, gri⟩
    case measure => simp [intOf]; omega
  ·have : k = N := by omega
   subst this
   have HR2 := hd_ (show getK m n = none by have := HF.out; rwa [HN.out, List.take_length] at this)
   go_wp2_with (first | (refine wpStoreB rfl _ _ rfl _ _ _ rfl rfl inferInstance inferInstance inferInstance ?_))
   exact bodyPost_ret (run_resB rfl _ _ _ _ rfl rfl inferInstance inferInstance) rfl ⟨by rw [HR2.out, EZ.out]; rfl, gri⟩
theorem names13_any (k : Int) (w : World) : Calls Tryz.prog 117 #[.int .i64 k] w fun e w' => e = .returned (.string (namesB k)) ∧ Gr w w' := by
 by_cases h1 : k < 1 ∨ 9 < k
 ·have e0 := namesB_off k (by omega)
  have n1 : (k == 1) = false := by simp; omega
  have n2 : (k == 2) = false := by simp; omega
  have n3 : (k == 3) = false := by simp; omega
  have n4 : (k == 4) = false := by simp; omega
  have n5 : (k == 5) = false := by simp; omega
  have n6 : (k == 6) = false := by simp; omega
  have n7 : (k == 7) = false := by simp; omega
  have n9 : (k == 9) = false := by simp; omega
  have e := hd_ e0; clear e0 h1
  go_enter Tryz.func117, Tryz.ntmps117
  go_wp2
  go_ret
  exact ⟨by rw [e.out]; rfl, gri⟩
 have h3 : k = 1 ∨ k = 2 ∨ k = 3 ∨ k = 4 ∨ k = 5 ∨ k = 6 ∨ k = 7 ∨ k = 8 ∨ k = 9 := by omega
 clear h1
 rcases h3 with rfl | rfl | rfl | rfl | rfl | rfl | rfl | rfl | rfl
 all_goals
  go_enter Tryz.func117, Tryz.ntmps117
  go_wp2
  go_ret
  exact ⟨rfl, gri⟩
def hasB (k : Int) (c : UInt8) : Bool := (namesB k).data.toList.contains c
theorem any_take_no (l : List UInt8) (c : UInt8) (k : Nat) (hk : k = l.length) (h : ∀ j, j < k → l.getD j 0 ≠ c) : l.contains c = false := by
 subst hk
 rw [List.contains_eq_any_beq, List.any_eq_false]
 intro x hx
 obtain ⟨i, hi, rfl⟩ := List.mem_iff_getElem.1 hx
 have := h i hi
 rw [List.getD_eq_getElem?_getD, List.getElem?_eq_getElem hi] at this
 simpa using fun h => this h.symm
theorem namesB_len (k : Int) : (namesB k).size ≤ 3 := by
 unfold namesB
 repeat' split
 all_goals decide
theorem has13_any (k : Int) (c : UInt8) (w : World) : Calls Tryz.prog 106 #[.int .i64 k, .int .u8 c.toNat] w fun e w' => e = .returned (.bool (hasB k c)) ∧ Gr w w' := by
 have hlen := namesB_len k
 have HN := hd_ (fun W => names13_any k W)
 have hq : hasB k c = (namesB k).data.toList.contains c := rfl
 have HQ := hd_ hq; clear hq
 generalize namesB k = s at *
 have hL : s.data.toList.length = s.size := (Lib.size_eq s).symm
 have HL := hd_ hL; clear hL
 go_enter Tryz.func106, Tryz.ntmps106
 go_wp2_with ((go_at_call 117; ((with_reducible refine (HN.out _).mono ?_); rintro _ _ ⟨rfl, g, rfl⟩)))
 go_loopw [6] (fun i wr => ∃ j : Nat, i = .int .i64 j ∧ j ≤ s.size ∧ Hid (∀ i, i < j → s.data.toList.getD i 0 ≠ c) ∧ Gr w wr) (fun i _ => s.size - (intOf i).toNat)
 case atStart => exact ⟨0, rfl, Nat.zero_le _, hd_ (fun j hj => by omega), gri⟩
 case round =>
  obtain ⟨j, rfl, hj, hne, hg⟩ := hrel
  have HG := hd_ hg; clear hg
  by_cases hlt : j < s.size
  ·have hx : s.data.toList.getD j 0 = s[j]'hlt := by
    rw [List.getD_eq_getElem?_getD, List.getElem?_eq_getElem (by have := HL.out; omega)]; rfl
   have HX := hd_ hx; clear hx
   by_cases hc : (s[j]'hlt).toNat = c.toNat
   ·have h1 : (((s[j]'hlt).toNat : Int) == (c.toNat : Int)) = true := by simp [hc]
    have hcc : s.data.toList.contains c = true := by
     have e1 : s[j]'hlt = c := UInt8.toNat_inj.1 hc
     rw [List.contains_iff_mem, ← e1]
     exact List.getElem_mem (l := s.data.toList) (by have := HL.out; omega)
    have HC := hd_ hcc; clear hcc hc
    go_wp2
    go_ret
    exact ⟨ret_bool (by rw [HQ.out, HC.out]), HG.out⟩
   ·have h1 : (((s[j]'hlt).toNat : Int) == (c.toNat : Int)) = false := by simp; exact fun h => hc (by exact_mod_cast h)
    have hcc : s.data.toList.getD j 0 ≠ c := by rw [HX.out]; exact fun h => hc (by rw [h])
    have HC := hd_ hcc; clear hcc hc
    go_wp2
    go_roundw
    case rel => exact ⟨j + 1, by go_num, by omega, hd_ (fun i hi => by
     rcases Nat.lt_or_ge i j with h | h
     ·exact hne.out i h
     ·obtain rfl : i = j := by omega
      exact HC.out), HG.out⟩
    case measure => simp [intOf]; omega
  ·obtain rfl : j = s.size := by omega
   have hcc : s.data.toList.contains c = false := any_take_no _ _ _ HL.out.symm hne.out
   have HC := hd_ hcc; clear hcc
   go_wp2
   go_ret
   exact ⟨ret_bool (by rw [HQ.out, HC.out]), HG.out⟩
def inB (named : Bool) (least n most : Int) : Bool := if named then decide (least ≤ n) && decide (n ≤ most) else n == 0
theorem in13_any (named : Bool) (least n most : Int) (w : World) : Calls Tryz.prog 105 #[.bool named, .int .i64 least, .int .i64 n, .int .i64 most] w fun e w' => e = .returned (.bool (inB named least n most)) ∧ Gr w w' := by
 cases named
 ·go_enter Tryz.func105, Tryz.ntmps105
  go_wp2
  go_ret
  exact ⟨ret_bool (by simp [inB]), gri⟩
 ·rcases Bool.eq_false_or_eq_true (decide (least ≤ n)) with h | h
  ·go_enter Tryz.func105, Tryz.ntmps105
   go_wp2
   go_ret
   exact ⟨ret_bool (by simp [inB, h]), gri⟩
  ·go_enter Tryz.func105, Tryz.ntmps105
   go_wp2
   go_ret
   exact ⟨ret_bool (by simp [inB, h]), gri⟩
theorem much13_any (xk xv xt xs xa xc : Int) (xD : Option Addr) (xn xq : Nat) (w : World) : Calls Tryz.prog 5 #[(Value.agg #[.int .i64 xk, .int .u64 xv, .int .u64 xt, .int .i64 xs, .int .i64 xa, .int .i64 xc, .slice xD xn xq])] w fun e w' => e = .returned (.bool (decide (9000 < xn))) ∧ Gr w w' := by
 go_enter Tryz.func5, Tryz.ntmps5
 go_wp2
 go_ret
 exact ⟨ret_bool (by first | rfl | (rw [Bool.eq_iff_iff]; simp; omega)), gri⟩
theorem has13_v (k : Int) (w : World) : Calls Tryz.prog 106 #[.int .i64 k, .int .u8 118] w fun e w' => e = .returned (.bool (hasB k 118)) ∧ Gr w w' := has13_any k 118 w
theorem has13_t (k : Int) (w : World) : Calls Tryz.prog 106 #[.int .i64 k, .int .u8 116] w fun e w' => e = .returned (.bool (hasB k 116)) ∧ Gr w w' := has13_any k 116 w
theorem has13_s (k : Int) (w : World) : Calls Tryz.prog 106 #[.int .i64 k, .int .u8 115] w fun e w' => e = .returned (.bool (hasB k 115)) ∧ Gr w w' := has13_any k 115 w
theorem has13_a (k : Int) (w : World) : Calls Tryz.prog 106 #[.int .i64 k, .int .u8 97] w fun e w' => e = .returned (.bool (hasB k 97)) ∧ Gr w w' := has13_any k 97 w
theorem has13_c (k : Int) (w : World) : Calls Tryz.prog 106 #[.int .i64 k, .int .u8 99] w fun e w' => e = .returned (.bool (hasB k 99)) ∧ Gr w w' := has13_any k 99 w
theorem has13_d (k : Int) (w : World) : Calls Tryz.prog 106 #[.int .i64 k, .int .u8 100] w fun e w' => e = .returned (.bool (hasB k 100)) ∧ Gr w w' := has13_any k 100 w
structure HasC (k : Int) (c : Int) (p : Bool) : Prop where
 c : ∀ W, Calls Tryz.prog 106 #[.int .i64 k, .int .u8 c] W fun e w' => e = .returned (.bool p) ∧ Gr W w'
structure InC (p : Bool) (least n most : Int) (b : Bool) : Prop where
 c : ∀ W, Calls Tryz.prog 105 #[.bool p, .int .i64 least, .int .i64 n, .int .i64 most] W fun e w' => e = .returned (.bool b) ∧ Gr W w'
theorem may13_early (k v t s a c : Int) (D : Option Addr) (n q : Nat) (w : World) (h : k < 1 ∨ 9 < k ∨ 4294967295 < v ∨ 4294967295 < t) : Calls Tryz.prog 79 #[(Value.agg #[.int .i64 k, .int .u64 v, .int .u64 t, .int .i64 s, .int .i64 a, .int .i64 c, .slice D n q])] w fun e w' => e = .returned (.bool false) ∧ Gr w w' := by
 by_cases h1 : k < 1
 ·go_enter Tryz.func79, Tryz.ntmps79
  go_wp2
  go_ret
  exact ⟨rfl, gri⟩
 have b1 : decide (k < 1) = false := by simpa using h1
 by_cases h2 : 9 < k
 ·clear h1
  go_enter Tryz.func79, Tryz.ntmps79
  go_wp2
  go_ret
  exact ⟨rfl, gri⟩
 have b2 : decide (9 < k) = false := by simpa using h2
 by_cases h3 : 4294967295 < v
 ·clear h1 h2
  go_enter Tryz.func79, Tryz.ntmps79
  go_wp2
  go_ret
  exact ⟨rfl, gri⟩
 have b3 : decide (4294967295 < v) = false := by simpa using h3
 have h4 : 4294967295 < t := by omega
 clear h h1 h2 h3
 go_enter Tryz.func79, Tryz.ntmps79
 go_wp2
 go_ret
 exact ⟨rfl, gri⟩
theorem may13_core (k v t s a c : Int) (D : Option Addr) (n q : Nat) (w : World) (pv pt ps pa pc pd A1 A2 B1 B2 B3 C2 : Bool) (hv : HasC k 118 pv) (ht : HasC k 116 pt) (hs : HasC k 115 ps) (ha : HasC k 97 pa) (hc : HasC k 99 pc) (hd : HasC k 100 pd) (hA1 : InC pv 1 v 4294967295 A1) (hA2 : InC pt 1 t 4294967295 A2) (hB1 : InC ps 0 s 256 B1) (hB2 : InC pa 0 a 1048576 B2) (hB3 : InC pc 1 c 1024 B3) (hC2 : InC pd 1 ((n : Int) / 64) 32 C2) (k1 : 1 ≤ k) (k9 : k ≤ 9) (v0 : 0 ≤ v) (v1 : v ≤ 4294967295) (t0 : 0 ≤ t) (t1 : t ≤ 4294967295) (hn : n ≤ 9223372036854775807) : Calls Tryz.prog 79 #[(Value.agg #[.int .i64 k, .int .u64 v, .int .u64 t, .int .i64 s, .int .i64 a, .int .i64 c, .slice D n q])] w fun e w' => e = .returned (.bool (A1 && A2 && !(pt && t == v) && B1 && B2 && B3 && decide (n % 64 = 0) && C2)) ∧ Gr w w' := by
 have HV := hd_ hv; have HT := hd_ ht; have HS := hd_ hs; have HA := hd_ ha; have HC := hd_ hc; have HD := hd_ hd; clear hv ht hs ha hc hd
 have IA1 := hd_ hA1; have IA2 := hd_ hA2; have IB1 := hd_ hB1; have IB2 := hd_ hB2; have IB3 := hd_ hB3; have IC2 := hd_ hC2; clear hA1 hA2 hB1 hB2 hB3 hC2
 have c1 : decide (k < 1) = false := by simp; omega
 have c2 : decide (9 < k) = false := by simp; omega
 have c3 : decide (4294967295 < v) = false := by simp; omega
 have c4 : decide (4294967295 < t) = false := by simp; omega
 cases A1
 case' true =>
  cases A2
  case' true =>
   cases pt
   case' false =>
    cases B1
    case' true =>
     cases B2
     case' true =>
      cases B3
      case' true =>
       by_cases hm : n % 64 = 0
       case' pos =>
        have d1 : ((n : Int).tmod 64 == 0) = true := by simp [Int.tmod_eq_emod_of_nonneg]; omega
        have d2 : ((n : Int) % 64 == 0) = true := by simp; omega
       case' neg =>
        have d1 : ((n : Int).tmod 64 == 0) = false := by simp [Int.tmod_eq_emod_of_nonneg]; omega
        have d2 : ((n : Int) % 64 == 0) = false := by simp; omega
   case' true =>
    rcases Bool.eq_false_or_eq_true (t == v) with ne | ne
    case' inr =>
     cases B1
     case' true =>
      cases B2
      case' true =>
       cases B3
       case' true =>
        by_cases hm : n % 64 = 0
        case' pos =>
         have d1 : ((n : Int).tmod 64 == 0) = true := by simp [Int.tmod_eq_emod_of_nonneg]; omega
         have d2 : ((n : Int) % 64 == 0) = true := by simp; omega
        case' neg =>
         have d1 : ((n : Int).tmod 64 == 0) = false := by simp [Int.tmod_eq_emod_of_nonneg]; omega
         have d2 : ((n : Int) % 64 == 0) = false := by simp; omega
 all_goals
  go_enter Tryz.func79, Tryz.ntmps79
  go_wp2
  repeat
   refine wp_region_grow (by kernel_rfl) (by kernel_rfl) ?_
   repeat (go_big_quiet_step ((first | (go_at_call 106; with_reducible exact grow_call (HV.out.c _)) | (go_at_call 106; with_reducible exact grow_call (HT.out.c _)) | (go_at_call 106; with_reducible exact grow_call (HS.out.c _)) | (go_at_call 106; with_reducible exact grow_call (HA.out.c _)) | (go_at_call 106; with_reducible exact grow_call (HC.out.c _)) | (go_at_call 106; with_reducible exact grow_call (HD.out.c _)) | (go_at_call 105; with_reducible exact grow_call (IA1.out.c _)) | (go_at_call 105; with_reducible exact grow_call (IA2.out.c _)) | (go_at_call 105; with_reducible exact grow_call (IB1.out.c _)) | (go_at_call 105; with_reducible exact grow_call (IB2.out.c _)) | (go_at_call 105; with_reducible exact grow_call (IB3.out.c _)) | (go_at_call 105; with_reducible exact grow_call (IC2.out.c _)))))
   refine wpQuiet_nil ?_
   intro _
   go_wp2
  go_ret
  refine ⟨ret_bool ?_, gri⟩
  first | (simp; done) | (simp [hm]; done) | (simp [ne]; done) | (simp [hm, ne]; done)
theorem mayOpB_kind {xk xv xt xs xa xc : Int} {xn : Nat} {lx : List UInt8} (h : mayOpB xk xv xt xs xa xc xn lx = true) (hx : lx.length = xn) : 1 ≤ xk ∧ xk ≤ 9 ∧ xn ≤ 2048 := by
 have h1 : 1 ≤ xk ∧ xk ≤ 9 := by
  by_cases h2 : 1 ≤ xk ∧ xk ≤ 9
  ·exact h2
  ·unfold mayOpB at h
   repeat (rw [if_neg (by omega)] at h)
   cases h
 refine ⟨h1.1, h1.2, ?_⟩
 have h3 : xk = 1 ∨ xk = 2 ∨ xk = 3 ∨ xk = 4 ∨ xk = 5 ∨ xk = 6 ∨ xk = 7 ∨ xk = 8 ∨ xk = 9 := by omega
 rcases h3 with rfl | rfl | rfl | rfl | rfl | rfl | rfl | rfl | rfl
 all_goals
  simp [mayOpB, wData] at h
  first
   | omega
   | (have h4 : lx = [] := by simp [h]
      subst h4; simp at hx; omega)
theorem may13_any (k v t s a c : Int) (D : Option Addr) (n q : Nat) (l : List UInt8) (w : World) (hl : l.length = n) (hn : n ≤ 9223372036854775807) (v0 : 0 ≤ v) (t0 : 0 ≤ t) : Calls Tryz.prog 79 #[(Value.agg #[.int .i64 k, .int .u64 v, .int .u64 t, .int .i64 s, .int .i64 a, .int .i64 c, .slice D n q])] w fun e w' => e = .returned (.bool (mayOpB k v t s a c n l)) ∧ Gr w w' := by
 by_cases h : k < 1 ∨ 9 < k ∨ 4294967295 < v ∨ 4294967295 < t
 ·have e : mayOpB k v t s a c n l = false := by
   cases hm : mayOpB k v t s a c n l with
   | false => rfl
   | true =>
    have h1 := mayOpB_kind hm hl
    have h2 : v ≤ 4294967295 ∧ t ≤ 4294967295 := by
     have hk3 : k = 1 ∨ k = 2 ∨ k = 3 ∨ k = 4 ∨ k = 5 ∨ k = 6 ∨ k = 7 ∨ k = 8 ∨ k = 9 := by omega
     rcases hk3 with rfl | rfl | rfl | rfl | rfl | rfl | rfl | rfl | rfl <;> simp [mayOpB, wVol, wTo] at hm <;> omega
    omega
  rw [e]
  exact may13_early k v t s a c D n q w h
 ·have e : mayOpB k v t s a c n l = (inB (hasB k 118) 1 v 4294967295 && inB (hasB k 116) 1 t 4294967295 && !(hasB k 116 && t == v) && inB (hasB k 115) 0 s 256 && inB (hasB k 97) 0 a 1048576 && inB (hasB k 99) 1 c 1024 && decide (n % 64 = 0) && inB (hasB k 100) 1 ((n : Int) / 64) 32) := by
   have hle : (l == []) = decide (n = 0) := by cases l <;> simp_all <;> omega
   have hk3 : k = 1 ∨ k = 2 ∨ k = 3 ∨ k = 4 ∨ k = 5 ∨ k = 6 ∨ k = 7 ∨ k = 8 ∨ k = 9 := by omega
   rcases hk3 with rfl | rfl | rfl | rfl | rfl | rfl | rfl | rfl | rfl
   all_goals
    simp only [mayOpB, hle, wVol, wTo, wSize, wAt, wCount, wData, inB]
    simp only [show (hasB 1 118) = true from by decide, show (hasB 1 116) = false from by decide, show (hasB 1 115) = true from by decide, show (hasB 1 97) = false from by decide, show (hasB 1 99) = false from by decide, show (hasB 1 100) = false from by decide, show (hasB 2 118) = true from by decide, show (hasB 2 116) = false from by decide, show (hasB 2 115) = false from by decide, show (hasB 2 97) = false from by decide, show (hasB 2 99) = false from by decide, show (hasB 2 100) = false from by decide, show (hasB 3 118) = true from by decide, show (hasB 3 116) = false from by decide, show (hasB 3 115) = true from by decide, show (hasB 3 97) = false from by decide, show (hasB 3 99) = false from by decide, show (hasB 3 100) = false from by decide, show (hasB 4 118) = true from by decide, show (hasB 4 116) = true from by decide, show (hasB 4 115) = false from by decide, show (hasB 4 97) = false from by decide, show (hasB 4 99) = false from by decide, show (hasB 4 100) = false from by decide, show (hasB 5 118) = true from by decide, show (hasB 5 116) = false from by decide, show (hasB 5 115) = false from by decide, show (hasB 5 97) = true from by decide, show (hasB 5 99) = false from by decide, show (hasB 5 100) = true from by decide, show (hasB 6 118) = true from by decide, show (hasB 6 116) = false from by decide, show (hasB 6 115) = false from by decide, show (hasB 6 97) = true from by decide, show (hasB 6 99) = true from by decide, show (hasB 6 100) = false from by decide, show (hasB 7 118) = true from by decide, show (hasB 7 116) = false from by decide, show (hasB 7 115) = false from by decide, show (hasB 7 97) = true from by decide, show (hasB 7 99) = true from by decide, show (hasB 7 100) = false from by decide, show (hasB 8 118) = false from by decide, show (hasB 8 116) = false from by decide, show (hasB 8 115) = false from by decide, show (hasB 8 97) = false from by decide, show (hasB 8 99) = false from by decide, show (hasB 8 100) = false from by decide, show (hasB 9 118) = true from by decide, show (hasB 9 116) = false from by decide, show (hasB 9 115) = false from by decide, show (hasB 9 97) = true from by decide, show (hasB 9 99) = true from by decide, show (hasB 9 100) = false from by decide]
    rw [Bool.eq_iff_iff]
    simp
    omega
  rw [e]
  refine may13_core k v t s a c D n q w _ _ _ _ _ _ _ _ _ _ _ _ ⟨fun W => has13_v k W⟩ ⟨fun W => has13_t k W⟩ ⟨fun W => has13_s k W⟩ ⟨fun W => has13_a k W⟩ ⟨fun W => has13_c k W⟩ ⟨fun W => has13_d k W⟩ ⟨fun W => in13_any _ _ _ _ W⟩ ⟨fun W => in13_any _ _ _ _ W⟩ ⟨fun W => in13_any _ _ _ _ W⟩ ⟨fun W => in13_any _ _ _ _ W⟩ ⟨fun W => in13_any _ _ _ _ W⟩ ⟨fun W => in13_any _ _ _ _ W⟩ ?_ ?_ v0 ?_ t0 ?_ hn <;> omega
end Go.Proofs.YtddckdhnolmjoaaGreat
