/- Device.put. Conditions: the device stands in memory. maps.Clone of a volume's blocks. Conditions: the map stands in memory. .. -/
import Derived.Test.YtddckdhnolmjoaaGreatV05
import Derived.LoopTactic
import Derived.Test.YtddckdhnolmjoaaGreatV01
import Derived.Maps.RangeWalk
set_option linter.unusedVariables false
set_option linter.unusedSimpArgs false
set_option linter.unnecessarySimpa false
set_option maxRecDepth 100000
set_option maxHeartbeats 8000000
namespace Go.Proofs.YtddckdhnolmjoaaGreat
open Go.RowKit
def fullC (most : Int) (n : Nat) : Int := if most < n then 8 else 0
def fullD (most : Int) (n : Nat) : Int := if most < n then max most 0 else 0
theorem put_5 (xv xt xs xa xc most : Int) (xD : Option Addr) (xn xq : Nat) (hn : xn ≤ 1000000) (base D : Nat) (d : Dev) (w : World) (h : DevAt base w D d) (hbase : base ≤ w.heap.size) (x : VolM) (hv : getK d xv = some x) (a0 : 0 ≤ xa) (a1 : xa ≤ 1048576) (hq : xn ≤ xq) (lx : Byt) (hxn : lx.length = xn) (hr : Row bv w xD lx) (n0 : 64 ≤ xn) (n1 : xn % 64 = 0) (n2 : xn ≤ 2048) (hfit : ¬ 4 * x.1 < xa + (xn : Int) / 64) :
  Calls Tryz.prog 42 #[.pointer (some ⟨D, 0, none⟩), .agg #[.int .i64 5, .int .u64 xv, .int .u64 xt, .int .i64 xs, .int .i64 xa, .int .i64 xc, .slice xD xn xq], .int .i64 most] w (OpPost base D (putK d xv (x.1, putL xa.toNat lx x.2 ((spans xa.toNat (xn / 64)).take most.toNat))) (fullC most (spans xa.toNat (xn / 64)).length) (fullD most (spans xa.toNat (xn / 64)).length) w) := by
 obtain ⟨M, mb, h⟩ := h
 haveI := h.blk
 have x0 : w.cell? ⟨D, 0, none⟩ = some (.map (some M)) := (bc 0 h.blk).trans rfl
 haveI : Old D w := h.blk.old
 have HD := hd_ h
 have hlk := look_vol1 h xv _ hv
 simp only [volV] at hlk
 have hx := h.ok.vols _ ((getK_mem h.ok.sort).1 hv)
 have hx0 := hx.s0
 have hx1 := hx.s1
 simp only at hx0 hx1
 have HX := hd_ hx
 have HV := hd_ hv
 clear h hv hx
 obtain ⟨an, rfl⟩ : ∃ n : Nat, xa = n := ⟨xa.toNat, by omega⟩
 rw [Int.toNat_natCast]
 obtain ⟨C, hC⟩ : ∃ C, xn / 64 = C := ⟨_, rfl⟩
 rw [hC]
 have hCx : (xn : Int) / 64 = (C : Int) := by omega
 rw [hCx] at hfit
 have HSp : Hid (∀ W, Calls Tryz.prog 74 #[.int .i64 (an : Int), .int .i64 ((xn : Int) / 64)] W fun e w' => ∃ v, e = .returned v ∧ OwnN spE W.heap.size w' v (spans an C) ∧ Gr W w') := hd_ (fun W => by rw [hCx]; exact split_any an C (by omega) (by omega) (by omega) W)
 obtain ⟨B, p, rfl, hBl, hcell⟩ := hr.at_ (by rintro rfl; simp at hxn; omega)
 have HC2 := hd_ hcell
 haveI : Old B w := ⟨hBl⟩
 have hCn : C * 64 = xn := by omega
 have hC1 : 1 ≤ C := by omega
 have hC2 : C ≤ 1024 := by omega
 clear hcell hr hCx hC
 obtain ⟨L, hL⟩ : ∃ L, spans an C = L := ⟨_, rfl⟩
 have hLa : ∀ s ∈ L, s.f < s.t ∧ s.t ≤ 4 ∧ an ≤ 4 * s.b + s.f ∧ 4 * s.b + s.t ≤ an + C := by rw [← hL]; exact spans_all
 have hLn : L.length ≤ C := by rw [← hL]; exact spans_len an C
 have hLne : L ≠ [] := by rw [← hL, spans_cons an C (by omega)]; simp
 rw [hL] at HSp ⊢
 have HLA := hd_ hLa
 clear hL hLa
 go_enter Tryz.func42, Tryz.ntmps42
 go_wp2
 refine wp_region_all [0, 1, 2, 3, 4, 5, 6, 7, 8, 9] [10, 11] [12, 13] (by kernel_rfl) (by kernel_rfl) ?_
 simp only [pick, List.drop, List.take, List.nil_append, List.cons_append]
 repeat (refine wpCalm_step (fun K hK => ?_); go_simp; first | (refine hK _ ?_; clear hK K) | (apply Exists.intro; refine ⟨fun _ => ?_, hK _ ?_⟩; ((go_at_call 71; exact part_5 _ _ _ _ _ _ _ _ (by omega) _)); clear hK K))
 refine wpCalm_nil ?_
 refine ⟨_, _, _, allocOp_alloc rfl rfl Tryz.zeroValue64, fun b1_0 hb1_0 nb1_0 => ?_⟩
 refine ⟨_, _, _, allocOp_alloc rfl rfl Tryz.zeroValue148, fun b1_1 hb1_1 nb1_1 => ?_⟩
 have db1_1_0 : b1_0 ≠ b1_1 := nb1_1 (b1_0, _, _) mcs
 simp only [Act.put, stA, List.set]
 refine ⟨_, _, _, b1_0, #[.int .i64 0, .map none], _, #[.int .i64 x.1, .map (some (mb xv))], rfl, rfl, rfl, (List.mem_cons_of_mem _ mcs), ?hu, hb1_0, rfl, rfl, rfl, rfl, [(b1_0, #[.int .i64 x.1, .map (some (mb xv))], 64), (b1_1, #[.int .i64 0, .int .i64 0], 148)], ?hs, ?_⟩
 case hu =>
  intro z hz e
  rcases List.mem_cons.1 hz with rfl | hz
  ·exact absurd e db1_1_0.symm
  rcases List.mem_cons.1 hz with rfl | hz
  ·rfl
  cases hz
 case hs =>
  intro z
  constructor
  ·intro hz
   rcases List.mem_cons.1 hz with rfl | hz
   ·exact .inl rfl
   rcases List.mem_cons.1 hz with rfl | hz
   ·exact .inr ⟨mcs, db1_1_0.symm⟩
   cases hz
  ·rintro (rfl | ⟨hz, hne⟩)
   ·exact mcs
   rcases List.mem_cons.1 hz with rfl | hz
   ·exact (List.mem_cons_of_mem _ mcs)
   rcases List.mem_cons.1 hz with rfl | hz
   ·exact absurd rfl hne
   cases hz
 refine ⟨_, _, _, b1_1, #[.int .i64 0, .int .i64 0], _, #[.int .i64 (an : Int), .int .i64 ((xn : Int) / 64)], rfl, rfl, rfl, (List.mem_cons_of_mem _ mcs), ?hu, hb1_1, rfl, rfl, rfl, rfl, [(b1_1, #[.int .i64 (an : Int), .int .i64 ((xn : Int) / 64)], 148), (b1_0, #[.int .i64 x.1, .map (some (mb xv))], 64)], ?hs, ?_⟩
 case hu =>
  intro z hz e
  rcases List.mem_cons.1 hz with rfl | hz
  ·exact absurd e db1_1_0
  rcases List.mem_cons.1 hz with rfl | hz
  ·rfl
  cases hz
 case hs =>
  intro z
  constructor
  ·intro hz
   rcases List.mem_cons.1 hz with rfl | hz
   ·exact .inl rfl
   rcases List.mem_cons.1 hz with rfl | hz
   ·exact .inr ⟨mcs, db1_1_0⟩
   cases hz
  ·rintro (rfl | ⟨hz, hne⟩)
   ·exact mcs
   rcases List.mem_cons.1 hz with rfl | hz
   ·exact (List.mem_cons_of_mem _ mcs)
   rcases List.mem_cons.1 hz with rfl | hz
   ·exact absurd rfl hne
   cases hz
 intro w1 hw1
 have cb1_1 : ∀ o, w1.cell? ⟨b1_1, o, none⟩ = (#[.int .i64 (an : Int), .int .i64 ((xn : Int) / 64)] : Array Value)[o]? := mix_cell hw1 mcs
 haveI kb1_1 : BlockAt w1 b1_1 #[.int .i64 (an : Int), .int .i64 ((xn : Int) / 64)] 148 := ⟨hw1.2 _ mcs⟩
 have fb1_1 : ∀ o, w1.frozen? ⟨b1_1, o, none⟩ = false := mix_frozen hw1 mcs
 have ob1_1 : Old b1_1 w1 := mix_old hw1 mcs
 have cb1_0 : ∀ o, w1.cell? ⟨b1_0, o, none⟩ = (#[.int .i64 x.1, .map (some (mb xv))] : Array Value)[o]? := mix_cell hw1 (List.mem_cons_of_mem _ mcs)
 haveI kb1_0 : BlockAt w1 b1_0 #[.int .i64 x.1, .map (some (mb xv))] 64 := ⟨hw1.2 _ (List.mem_cons_of_mem _ mcs)⟩
 have fb1_0 : ∀ o, w1.frozen? ⟨b1_0, o, none⟩ = false := mix_frozen hw1 (List.mem_cons_of_mem _ mcs)
 have ob1_0 : Old b1_0 w1 := mix_old hw1 (List.mem_cons_of_mem _ mcs)
 have qb1_0 := @fresh_ne _ _ hb1_0
 have rb1_0 := @fresh_en _ _ hb1_0
 have lb1_0 := fresh_le hb1_0 w.heap.size
 have qb1_1 := @fresh_ne _ _ hb1_1
 have rb1_1 := @fresh_en _ _ hb1_1
 have lb1_1 := fresh_le hb1_1 w.heap.size
 have eb1_1_0 : ¬ b1_1 = b1_0 := fun e => db1_1_0 e.symm
 obtain ⟨⟨g1, rfl⟩, hbs⟩ := hw1
 clear hbs nb1_0 nb1_1
 have hMl : M < w.heap.size := HD.out.all.lt
 go_wp2_with ((go_at_call 74; ((with_reducible refine (HSp.out _).mono ?_))))
 rintro _ W1 ⟨vS, rfl, hoS, hgS⟩
 have hgW : Gr w W1 := Gr.trans gri hgS
 have KA := hd_ (BlockAt.gr (inferInstance : BlockAt _ (w.heap.size + 1) _ _) hgS)
 have K0 := hd_ (BlockAt.gr (inferInstance : BlockAt _ b1_0 _ _) hgS)
 have K1 := hd_ (BlockAt.gr (inferInstance : BlockAt _ b1_1 _ _) hgS)
 obtain ⟨gS, cS, rfl, hbS, hgl, _, _, hclS, _⟩ := hoS.cells spIs hLne
 have hBl1 : B < W1.heap.size := Nat.lt_of_lt_of_le hBl hgW.below.size
 have HDT : Hid (∀ (j : Nat) u, lx[j]? = some u → W1.cell? ⟨B, p + j, none⟩ = some (bv u)) := hd_ (fun j u hj => (hgW.below.cell (p := ⟨B, p + j, none⟩) hBl).trans (HC2.out j u hj))
 have G1 := hd_ hgW
 have HCL := hd_ hclS
 have HML := hd_ hMl
 clear hoS hgS hclS hgW hMl
 clear ob1_0 ob1_1 cb1_0 cb1_1 fb1_0 fb1_1 kb1_0 kb1_1
 go_wp2
 go_loopw [37] (fun i wr => ∃ k : Nat, k ≤ L.length ∧ i = .int .i64 k ∧ CK W1 wr ∧ DevIn base wr D M mb (putK d xv (x.1, putL an lx x.2 (L.take k))) ∧ Below base w wr ∧ (k = 0 ∨ (k : Int) ≤ most)) (fun i _ => L.length - intOf i |>.toNat)
 case atStart => exact ⟨0, Nat.zero_le _, rfl, CK.refl _, by rw [List.take_zero]; show DevIn base W1 D M mb (putK d xv (x.1, x.2)); rw [putK_own HD.out.ok.sort (x := (x.1, x.2)) HV.out]; exact HD.out.gr G1.out, G1.out.below.mono hbase, .inl rfl⟩
 case round =>
  obtain ⟨k, hk, rfl, hck, hd, hb, hkm⟩ := hrel
  haveI kA := hck.block KA.out
  haveI k0 := hck.block K0.out
  haveI k1 := hck.block K1.out
  have y01 : wr.cell? ⟨b1_0, 1, none⟩ = some (.map (some (mb xv))) := (bc 1 k0).trans rfl
  have y10 : wr.cell? ⟨b1_1, 0, none⟩ = some (.int .i64 (an : Int)) := (bc 0 k1).trans rfl
  have HCK := hd_ hck
  have HDk := hd_ hd
  have HB := hd_ hb
  have HKM := hd_ hkm
  clear hck hd hb hkm
  by_cases hlt : k < L.length
  ·obtain ⟨s, hs⟩ : ∃ s, L[k]? = some s := ⟨_, List.getElem?_eq_getElem hlt⟩
   have hsa := HLA.out s (List.mem_of_getElem? hs)
   obtain ⟨sb, sf, st⟩ := s
   simp only at hsa
   have s0 : wr.cell? ⟨gS, k * 3, none⟩ = some (.int .i64 (sb : Int)) := HCK.out.cell (by have := HCL.out k _ hs 0 _ rfl; rwa [Nat.zero_add] at this)
   have s1 : wr.cell? ⟨gS, k * 3 + 1, none⟩ = some (.int .i64 (sf : Int)) := HCK.out.cell (by have := HCL.out k _ hs 1 _ rfl; rwa [Nat.zero_add] at this)
   have s2 : wr.cell? ⟨gS, k * 3 + 2, none⟩ = some (.int .i64 (st : Int)) := HCK.out.cell (by have := HCL.out k _ hs 2 _ rfl; rwa [Nat.zero_add] at this)
   haveI : Old gS wr := ⟨Nat.lt_of_lt_of_le hgl HCK.out.size⟩
   haveI o0 := k0.old
   haveI o1 := k1.old
   have HS := hd_ hs
   have hsf := hsa.1
   have hst := hsa.2.1
   have hsl := hsa.2.2.1
   have hsr := hsa.2.2.2
   clear hsa hs
   by_cases hmo : most ≤ (k : Int)
   ·have z0 : wr.cell? ⟨w.heap.size + 1, 0, none⟩ = some (.int .i64 0) := (bc 0 kA).trans rfl
    have z1 : wr.cell? ⟨w.heap.size + 1, 1, none⟩ = some (.int .i64 0) := (bc 1 kA).trans rfl
    have z2 : wr.cell? ⟨w.heap.size + 1, 2, none⟩ = some (.slice none 0 0) := (bc 2 kA).trans rfl
    haveI oA := kA.old
    have f0 : ∀ o, wr.frozen? ⟨w.heap.size + 1, o, none⟩ = false := fun o => @block_frozen _ _ o _ _ kA
    go_wp2
    ·have e1 : fullC most L.length = 8 := if_pos (by omega)
     have e2 : fullD most L.length = 0 := by unfold fullD; rw [if_pos (by omega)]; omega
     have e3 : most.toNat = k := by have := HKM.out; omega
     rw [e1, e2, e3]
     have gA : Gr wr (wr.alloc (.cells #[.int .i64 (sb : Int), .int .i64 (sf : Int), .int .i64 (st : Int)] 107)) := gri
     exact bodyPost_ret (run_resCell1 rfl _ _ _ _ rfl (ans_block (BlockAt.gr kA gA) _ _ _) Tryz.underlying38 rfl (by kernel_rfl)) rfl ⟨rfl, ans_dev (HDk.out.gr gA) (BlockAt.gr kA gA) (by decide) _ _ _, ans_below (HB.out.trans (gA.below.mono (Nat.le_trans hbase HB.out.size))) (by omega) _ _ _, ck_ans (((CK.gr G1.out).trans HCK.out).trans (CK.gr gA)) (by omega) _ _ _⟩
    ·have e1 : fullC most L.length = 8 := if_pos (by omega)
     have e2 : fullD most L.length = most := by unfold fullD; rw [if_pos (by omega)]; omega
     have e3 : most.toNat = k := by have := HKM.out; omega
     rw [e1, e2, e3]
     have gA : Gr wr (wr.alloc (.cells #[.int .i64 (sb : Int), .int .i64 (sf : Int), .int .i64 (st : Int)] 107)) := gri
     exact bodyPost_ret (run_resCell1 rfl _ _ _ _ rfl (ans_block (BlockAt.gr kA gA) _ _ _) Tryz.underlying38 rfl (by kernel_rfl)) rfl ⟨rfl, ans_dev (HDk.out.gr gA) (BlockAt.gr kA gA) (by decide) _ _ _, ans_below (HB.out.trans (gA.below.mono (Nat.le_trans hbase HB.out.size))) (by omega) _ _ _, ck_ans (((CK.gr G1.out).trans HCK.out).trans (CK.gr gA)) (by omega) _ _ _⟩
   ·have hvk : getK (putK d xv (x.1, putL an lx x.2 (L.take k))) xv = some (x.1, putL an lx x.2 (L.take k)) := getK_put_self HD.out.ok.sort _ _
    have hmk : MapAt .i64 wr (mb xv) (encK bkV (putL an lx x.2 (L.take k))) := HDk.out.vol _ ((getK_mem HDk.out.ok.sort).1 hvk)
    have hlb := look_blk hmk sb
    obtain ⟨m, hme⟩ : ∃ m, putL an lx x.2 (L.take k) = m := ⟨_, rfl⟩
    rw [hme] at hvk hmk hlb
    have hokm : VolOk (x.1, m) := by rw [← hme]; exact putL_ok _ HX.out (fun s hs => by have := HLA.out s (List.mem_of_mem_take hs); exact ⟨this.1, this.2.1, by omega⟩)
    have hl0 : (blkM m sb).length = 256 := blkM_len hokm.sort hokm.len sb
    have hsg : (segK ⟨sb, sf, st⟩ an lx).length = 64 * (st - sf) := by simp [segK, hxn]; omega
    have HVk := hd_ hvk
    have HMk := hd_ hmk
    have HME := hd_ hme
    have HOm := hd_ hokm
    have HSG := hd_ hsg
    have HL0 := hd_ hl0
    clear hvk hmk hme hokm hsg hl0
    obtain ⟨X, hX⟩ : ∃ X, mergeB (blkM m sb) sf (segK ⟨sb, sf, st⟩ an lx) = X := ⟨_, rfl⟩
    have HX' := hd_ hX
    clear hX
    have hput : putL an lx x.2 (L.take (k + 1)) = putK m sb X := by
     have e := HME.out
     have e2 := HX'.out
     subst e
     rw [List.take_add_one, HS.out]
     simp only [putL, List.foldl_append, Option.toList, List.foldl_cons, List.foldl_nil]
     simp only [putS]
     rw [← e2]
     rfl
    have hnext : Hid (∀ w4 w5, Gr (wr.alloc (.cells #[.int .i64 (sb : Int), .int .i64 (sf : Int), .int .i64 (st : Int)] 107)) w4 → MapAt .i64 w5 (mb xv) (encK bkV (putK m sb X)) → OnlyB w4 w5 (mb xv) → CK W1 w5 ∧ DevIn base w5 D M mb (putK d xv (x.1, putL an lx x.2 (L.take (k + 1)))) ∧ Below base w w5) := hd_ fun w4 w5 h4 hm5 ho5 => by
     have g4 : Gr wr w4 := Gr.trans gri h4
     have hm4 := HMk.out.gr g4
     have e := HDk.out
     rw [HME.out] at e
     have hd2 := (e.gr g4).inner xv _ HVk.out (putK m sb X) hm5 ho5 (by rw [← hput]; exact putL_ok _ HX.out (fun s hs => by have := HLA.out s (List.mem_of_mem_take hs); exact ⟨this.1, this.2.1, by omega⟩))
     rw [putK_putK _ _ _ _ HD.out.ok.sort] at hd2
     rw [hput]
     exact ⟨HCK.out.trans ((CK.gr g4).trans (CK.only hm4 ho5)), hd2, ho5.below (HD.out.bV (xv, x) ((getK_mem HD.out.ok.sort).1 HV.out)) hm4.lt (HB.out.trans (g4.below.mono (Nat.le_trans hbase HB.out.size)))⟩
    clear hput
    go_wp2
    refine wp_region_treeG ⟨fun w' => Gr (wr.alloc (.cells #[.int .i64 (sb : Int), .int .i64 (sf : Int), .int .i64 (st : Int)] 107)) w', true, fun _ _ h => h, fun _ _ _ h g => h.trans g⟩ rfl (Gr.of ((Below.refl _ _).drew)) [0, 1, 2, 3, 4, 5, 6, 7, 8, 9, 10, 11, 12, 13, 14] 6 20 (by kernel_rfl) (by kernel_rfl) ?_
    simp only [pick, List.drop, List.take, List.nil_append, List.cons_append]
    repeat (refine wpCalm_step (fun K hK => ?_); go_simp; first | (refine hK _ ?_; clear hK K) | (apply Exists.intro; refine ⟨fun _ => ?_, hK _ ?_⟩; (skip); clear hK K))
    refine wpCalm_nil ?_
    have hsne : segK ⟨sb, sf, st⟩ an lx ≠ [] := by
     intro e
     have := HSG.out
     rw [e] at this
     simp at this
     omega
    refine fg_one 15 (by kernel_rfl) ?_
    refine fg_effD rfl rfl rfl (fun w1 hw1 => effAt_call' 76 #[.agg #[.int .i64 (sb : Int), .int .i64 (sf : Int), .int .i64 (st : Int)], .int .i64 (an : Int), .slice (some ⟨B, p, none⟩) xn xq] (by go_simp) ((data_any sb sf st an xn xq B p lx w1 (by omega) hsf hst hsl (by omega) (by omega) (by omega) (by simp [hxn]) (by omega) ?hBw ?hcw).mono fun e w2 hc => ?_))
    case hBw => exact Nat.lt_of_lt_of_le hBl1 (Nat.le_trans HCK.out.size (Gr.below (Gr.trans gri hw1)).size)
    case hcw => exact fun j u hj => (CK.gr (Gr.trans gri hw1)).cell (HCK.out.cell (HDT.out j u hj))
    obtain ⟨v1, rfl, ho1, hg1⟩ := hc
    obtain ⟨A1, c1, rfl, hbA, hA1, hx1, hy1, hcl1, hz1⟩ := ho1.cells bIs hsne
    refine ⟨_, rfl, ⟨fun w2 => Gr (wr.alloc (.cells #[.int .i64 (sb : Int), .int .i64 (sf : Int), .int .i64 (st : Int)] 107)) w2 ∧ A1 < w2.heap.size ∧ ∀ (j : Nat) u, (segK ⟨sb, sf, st⟩ an lx)[j]? = some u → w2.cell? ⟨A1, 0 + j, none⟩ = some (bv u), true, fun _ _ h => h.1, fun _ _ _ h g => ⟨h.1.trans g, Nat.lt_of_lt_of_le h.2.1 g.below.size, fun j u hj => (g.below.cell (p := ⟨A1, 0 + j, none⟩) h.2.1).trans (h.2.2 j u hj)⟩⟩, ⟨Gr.trans hw1 hg1, hA1, fun j u hj => by have := hcl1 j u hj 0 _ rfl; simpa [bE] using this⟩, fun _ _ => rfl, ?_⟩
    rw [HSG.out]
    clear ho1 hg1 hw1 hA1 hcl1 hbA hx1 hy1 hz1 w2 w1
    simp only [Act.put, stA, List.set]
    refine fg_one 16 (by kernel_rfl) ?_
    refine fg_effD rfl rfl rfl (fun w1 hw1 => effAt_call' 75 #[.agg (bkC (blkM m sb)), .int .i64 (sf : Int), .slice (some ⟨A1, 0, none⟩) (64 * (st - sf)) c1] (by go_simp) ((merge_any (blkM m sb) (segK ⟨sb, sf, st⟩ an lx) sf (64 * (st - sf)) c1 A1 0 w1 HL0.out (by omega) HSG.out (by omega) (by omega) (by omega) hw1.2.1 hw1.2.2).mono fun e w2 hc => ?_))
    obtain ⟨rfl, hg1⟩ := hc
    refine ⟨_, rfl, ⟨fun w2 => Gr (wr.alloc (.cells #[.int .i64 (sb : Int), .int .i64 (sf : Int), .int .i64 (st : Int)] 107)) w2, true, fun _ _ h => h, fun _ _ _ h g => h.trans g⟩, Gr.trans hw1.1 hg1, fun _ _ => rfl, ?_⟩
    rw [HX'.out]
    clear hg1 hw1 w2 w1
    simp only [Act.put, stA, List.set]
    refine fg_one 17 (by kernel_rfl) ?_
    refine fg_pure (.tuple #[.agg (bkC X), .int .i64 0]) rfl rfl rfl (fun w => by go_simp) ?_
    simp only [Act.put, stA, List.set]
    refine fg_two 18 19 (by kernel_rfl) ?_ ?_
    ·refine fg_pure (.agg (bkC X)) rfl rfl rfl (fun w => by go_simp) ?_
     simp only [Act.put, stA, List.set]
     refine fg_two 19 20 (by kernel_rfl) ?_ ?_
     ·refine fg_pure (.int .i64 0) rfl rfl rfl (fun w => by go_simp) ?_
      simp only [Act.put, stA, List.set]
      refine fg_one 20 (by kernel_rfl) ?_
      refine fg_effN rfl rfl rfl (fun w1 hw1 => ?_)
      obtain ⟨W', hrun, h1, h2⟩ := map_update (P := Tryz.prog) Tryz.underlying62 Tryz.underlying3 (HMk.out.gr (Gr.trans gri hw1)) (sb : Int) (.agg (bkC X))
      refine effAt_updK rfl rfl rfl rfl hrun ?_
      refine ⟨⟨fun w2 => ∃ w1, Gr (wr.alloc (.cells #[.int .i64 (sb : Int), .int .i64 (sf : Int), .int .i64 (st : Int)] 107)) w1 ∧ MapAt .i64 w2 (mb xv) (encK bkV (putK m sb X)) ∧ OnlyB w1 w2 (mb xv), false, fun e => Bool.noConfusion e, fun e => Bool.noConfusion e⟩, ⟨w1, hw1, by rw [← putK_enc]; exact h1, h2⟩, fun e => absurd rfl e, ?_⟩
      clear h1 h2 hrun W' hw1 w1
      refine fg_end (by kernel_rfl) (fun w5 hw5 => ?_)
      obtain ⟨w4, hw4, hm5, ho5⟩ := hw5
      rename_i Kd hKd
      refine (show Kd _ _ from hKd _ _ ?_)
      have hn5 := hnext.out _ _ hw4 hm5 ho5
      clear hw4 hm5 ho5
      go_wp2
      go_roundw
      case rel => exact ⟨k + 1, by omega, by congr 1, hn5.1, hn5.2.1, hn5.2.2, .inr (by omega)⟩
      case measure => simp [intOf]; omega
     ·refine fg_effN rfl rfl rfl (fun w1 hw1 => ?_)
      obtain ⟨W', hrun, h1, h2⟩ := map_update (P := Tryz.prog) Tryz.underlying62 Tryz.underlying3 (HMk.out.gr (Gr.trans gri hw1)) (sb : Int) (.agg (bkC X))
      refine effAt_updK rfl rfl rfl rfl hrun ?_
      refine ⟨⟨fun w2 => ∃ w1, Gr (wr.alloc (.cells #[.int .i64 (sb : Int), .int .i64 (sf : Int), .int .i64 (st : Int)] 107)) w1 ∧ MapAt .i64 w2 (mb xv) (encK bkV (putK m sb X)) ∧ OnlyB w1 w2 (mb xv), false, fun e => Bool.noConfusion e, fun e => Bool.noConfusion e⟩, ⟨w1, hw1, by rw [← putK_enc]; exact h1, h2⟩, fun e => absurd rfl e, ?_⟩
      clear h1 h2 hrun W' hw1 w1
      refine fg_one 19 (by kernel_rfl) ?_
      refine fg_pure (.int .i64 0) rfl rfl rfl (fun w => by go_simp) ?_
      simp only [Act.put, stA, List.set]
      refine fg_end (by kernel_rfl) (fun w5 hw5 => ?_)
      obtain ⟨w4, hw4, hm5, ho5⟩ := hw5
      rename_i Kd hKd
      refine (show Kd _ _ from hKd _ _ ?_)
      have hn5 := hnext.out _ _ hw4 hm5 ho5
      clear hw4 hm5 ho5
      go_wp2
      go_roundw
      case rel => exact ⟨k + 1, by omega, by congr 1, hn5.1, hn5.2.1, hn5.2.2, .inr (by omega)⟩
      case measure => simp [intOf]; omega
    ·refine fg_pure (.int .i64 0) rfl rfl rfl (fun w => by go_simp) ?_
     simp only [Act.put, stA, List.set]
     refine fg_one 18 (by kernel_rfl) ?_
     refine fg_pure (.agg (bkC X)) rfl rfl rfl (fun w => by go_simp) ?_
     simp only [Act.put, stA, List.set]
     refine fg_one 20 (by kernel_rfl) ?_
     refine fg_effN rfl rfl rfl (fun w1 hw1 => ?_)
     obtain ⟨W', hrun, h1, h2⟩ := map_update (P := Tryz.prog) Tryz.underlying62 Tryz.underlying3 (HMk.out.gr (Gr.trans gri hw1)) (sb : Int) (.agg (bkC X))
     refine effAt_updK rfl rfl rfl rfl hrun ?_
     refine ⟨⟨fun w2 => ∃ w1, Gr (wr.alloc (.cells #[.int .i64 (sb : Int), .int .i64 (sf : Int), .int .i64 (st : Int)] 107)) w1 ∧ MapAt .i64 w2 (mb xv) (encK bkV (putK m sb X)) ∧ OnlyB w1 w2 (mb xv), false, fun e => Bool.noConfusion e, fun e => Bool.noConfusion e⟩, ⟨w1, hw1, by rw [← putK_enc]; exact h1, h2⟩, fun e => absurd rfl e, ?_⟩
     clear h1 h2 hrun W' hw1 w1
     refine fg_end (by kernel_rfl) (fun w5 hw5 => ?_)
     obtain ⟨w4, hw4, hm5, ho5⟩ := hw5
     rename_i Kd hKd
     refine (show Kd _ _ from hKd _ _ ?_)
     have hn5 := hnext.out _ _ hw4 hm5 ho5
     clear hw4 hm5 ho5
     go_wp2
     go_roundw
     case rel => exact ⟨k + 1, by omega, by congr 1, hn5.1, hn5.2.1, hn5.2.2, .inr (by omega)⟩
     case measure => simp [intOf]; omega
  ·have z0 : wr.cell? ⟨w.heap.size + 1, 0, none⟩ = some (.int .i64 0) := (bc 0 kA).trans rfl
   have z1 : wr.cell? ⟨w.heap.size + 1, 1, none⟩ = some (.int .i64 0) := (bc 1 kA).trans rfl
   have z2 : wr.cell? ⟨w.heap.size + 1, 2, none⟩ = some (.slice none 0 0) := (bc 2 kA).trans rfl
   haveI oA := kA.old
   have f0 : ∀ o, wr.frozen? ⟨w.heap.size + 1, o, none⟩ = false := fun o => @block_frozen _ _ o _ _ kA
   go_wp2
   have hkL : k = L.length := by omega
   have hL0 : 0 < L.length := by cases L with | nil => exact absurd rfl hLne | cons _ _ => simp
   have hkm : (k : Int) ≤ most := by have := HKM.out; omega
   have e1 : fullC most L.length = 0 := if_neg (by omega)
   have e2 : fullD most L.length = 0 := if_neg (by omega)
   have e3 : L.take most.toNat = L.take k := by rw [List.take_of_length_le (by omega), List.take_of_length_le (by omega)]
   rw [e1, e2, e3]
   exact bodyPost_ret (run_resCell1 rfl _ _ _ _ rfl (ans_block kA _ _ _) Tryz.underlying38 rfl (by kernel_rfl)) rfl ⟨rfl, ans_dev HDk.out kA (by decide) _ _ _, ans_below HB.out (by omega) _ _ _, ck_ans ((CK.gr G1.out).trans HCK.out) (by omega) _ _ _⟩
theorem put_6 (xv xt xs xa xc most : Int) (xD : Option Addr) (xn xq : Nat) (hn : xn ≤ 1000000) (base D : Nat) (d : Dev) (w : World) (h : DevAt base w D d) (hbase : base ≤ w.heap.size) (x : VolM) (hv : getK d xv = some x) (a0 : 0 ≤ xa) (a1 : xa ≤ 1048576) (c0 : 1 ≤ xc) (c1 : xc ≤ 1024) (hfit : ¬ 4 * x.1 < xa + xc) :
  Calls Tryz.prog 42 #[.pointer (some ⟨D, 0, none⟩), .agg #[.int .i64 6, .int .u64 xv, .int .u64 xt, .int .i64 xs, .int .i64 xa, .int .i64 xc, .slice xD xn xq], .int .i64 most] w (OpPost base D (putK d xv (x.1, putL xa.toNat (List.replicate (xc.toNat * 64) 0) x.2 ((spans xa.toNat xc.toNat).take most.toNat))) (fullC most (spans xa.toNat xc.toNat).length) (fullD most (spans xa.toNat xc.toNat).length) w) := by
 obtain ⟨M, mb, h⟩ := h
 haveI := h.blk
 have x0 : w.cell? ⟨D, 0, none⟩ = some (.map (some M)) := (bc 0 h.blk).trans rfl
 haveI : Old D w := h.blk.old
 have HD := hd_ h
 have hlk := look_vol1 h xv _ hv
 simp only [volV] at hlk
 have hx := h.ok.vols _ ((getK_mem h.ok.sort).1 hv)
 have hx0 := hx.s0
 have hx1 := hx.s1
 simp only at hx0 hx1
 have HX := hd_ hx
 have HV := hd_ hv
 clear h hv hx
 obtain ⟨an, rfl⟩ : ∃ n : Nat, xa = n := ⟨xa.toNat, by omega⟩
 rw [Int.toNat_natCast]
 obtain ⟨C, rfl⟩ : ∃ n : Nat, xc = n := ⟨xc.toNat, by omega⟩
 rw [Int.toNat_natCast]
 have HSp : Hid (∀ W, Calls Tryz.prog 74 #[.int .i64 (an : Int), .int .i64 (C : Int)] W fun e w' => ∃ v, e = .returned v ∧ OwnN spE W.heap.size w' v (spans an C) ∧ Gr W w') := hd_ (fun W => split_any an C (by omega) (by omega) (by omega) W)
 have hmk := fun W => makeB C (by omega) W
 have hC1 : 1 ≤ C := by omega
 have hC2 : C ≤ 1024 := by omega
 obtain ⟨L, hL⟩ : ∃ L, spans an C = L := ⟨_, rfl⟩
 have hLa : ∀ s ∈ L, s.f < s.t ∧ s.t ≤ 4 ∧ an ≤ 4 * s.b + s.f ∧ 4 * s.b + s.t ≤ an + C := by rw [← hL]; exact spans_all
 have hLn : L.length ≤ C := by rw [← hL]; exact spans_len an C
 have hLne : L ≠ [] := by rw [← hL, spans_cons an C (by omega)]; simp
 rw [hL] at HSp ⊢
 have HLA := hd_ hLa
 clear hL hLa
 go_enter Tryz.func42, Tryz.ntmps42
 go_wp2
 refine wp_region_all [0, 1, 2, 3, 4, 5, 6, 7, 8, 9] [10, 11] [12, 13] (by kernel_rfl) (by kernel_rfl) ?_
 simp only [pick, List.drop, List.take, List.nil_append, List.cons_append]
 repeat (refine wpCalm_step (fun K hK => ?_); go_simp; first | (refine hK _ ?_; clear hK K) | (apply Exists.intro; refine ⟨fun _ => ?_, hK _ ?_⟩; ((go_at_call 71; exact part_6 _ _ _ _ _ _ _ _ (by omega) _)); clear hK K))
 refine wpCalm_nil ?_
 refine ⟨_, _, _, allocOp_alloc rfl rfl Tryz.zeroValue64, fun b1_0 hb1_0 nb1_0 => ?_⟩
 refine ⟨_, _, _, allocOp_alloc rfl rfl Tryz.zeroValue148, fun b1_1 hb1_1 nb1_1 => ?_⟩
 have db1_1_0 : b1_0 ≠ b1_1 := nb1_1 (b1_0, _, _) mcs
 simp only [Act.put, stA, List.set]
 refine ⟨_, _, _, b1_0, #[.int .i64 0, .map none], _, #[.int .i64 x.1, .map (some (mb xv))], rfl, rfl, rfl, (List.mem_cons_of_mem _ mcs), ?hu, hb1_0, rfl, rfl, rfl, rfl, [(b1_0, #[.int .i64 x.1, .map (some (mb xv))], 64), (b1_1, #[.int .i64 0, .int .i64 0], 148)], ?hs, ?_⟩
 case hu =>
  intro z hz e
  rcases List.mem_cons.1 hz with rfl | hz
  ·exact absurd e db1_1_0.symm
  rcases List.mem_cons.1 hz with rfl | hz
  ·rfl
  cases hz
 case hs =>
  intro z
  constructor
  ·intro hz
   rcases List.mem_cons.1 hz with rfl | hz
   ·exact .inl rfl
   rcases List.mem_cons.1 hz with rfl | hz
   ·exact .inr ⟨mcs, db1_1_0.symm⟩
   cases hz
  ·rintro (rfl | ⟨hz, hne⟩)
   ·exact mcs
   rcases List.mem_cons.1 hz with rfl | hz
   ·exact (List.mem_cons_of_mem _ mcs)
   rcases List.mem_cons.1 hz with rfl | hz
   ·exact absurd rfl hne
   cases hz
 refine ⟨_, _, _, b1_1, #[.int .i64 0, .int .i64 0], _, #[.int .i64 (an : Int), .int .i64 ((C : Int))], rfl, rfl, rfl, (List.mem_cons_of_mem _ mcs), ?hu, hb1_1, rfl, rfl, rfl, rfl, [(b1_1, #[.int .i64 (an : Int), .int .i64 ((C : Int))], 148), (b1_0, #[.int .i64 x.1, .map (some (mb xv))], 64)], ?hs, ?_⟩
 case hu =>
  intro z hz e
  rcases List.mem_cons.1 hz with rfl | hz
  ·exact absurd e db1_1_0
  rcases List.mem_cons.1 hz with rfl | hz
  ·rfl
  cases hz
 case hs =>
  intro z
  constructor
  ·intro hz
   rcases List.mem_cons.1 hz with rfl | hz
   ·exact .inl rfl
   rcases List.mem_cons.1 hz with rfl | hz
   ·exact .inr ⟨mcs, db1_1_0⟩
   cases hz
  ·rintro (rfl | ⟨hz, hne⟩)
   ·exact mcs
   rcases List.mem_cons.1 hz with rfl | hz
   ·exact (List.mem_cons_of_mem _ mcs)
   rcases List.mem_cons.1 hz with rfl | hz
   ·exact absurd rfl hne
   cases hz
 intro w1 hw1
 have cb1_1 : ∀ o, w1.cell? ⟨b1_1, o, none⟩ = (#[.int .i64 (an : Int), .int .i64 ((C : Int))] : Array Value)[o]? := mix_cell hw1 mcs
 haveI kb1_1 : BlockAt w1 b1_1 #[.int .i64 (an : Int), .int .i64 ((C : Int))] 148 := ⟨hw1.2 _ mcs⟩
 have fb1_1 : ∀ o, w1.frozen? ⟨b1_1, o, none⟩ = false := mix_frozen hw1 mcs
 have ob1_1 : Old b1_1 w1 := mix_old hw1 mcs
 have cb1_0 : ∀ o, w1.cell? ⟨b1_0, o, none⟩ = (#[.int .i64 x.1, .map (some (mb xv))] : Array Value)[o]? := mix_cell hw1 (List.mem_cons_of_mem _ mcs)
 haveI kb1_0 : BlockAt w1 b1_0 #[.int .i64 x.1, .map (some (mb xv))] 64 := ⟨hw1.2 _ (List.mem_cons_of_mem _ mcs)⟩
 have fb1_0 : ∀ o, w1.frozen? ⟨b1_0, o, none⟩ = false := mix_frozen hw1 (List.mem_cons_of_mem _ mcs)
 have ob1_0 : Old b1_0 w1 := mix_old hw1 (List.mem_cons_of_mem _ mcs)
 have qb1_0 := @fresh_ne _ _ hb1_0
 have rb1_0 := @fresh_en _ _ hb1_0
 have lb1_0 := fresh_le hb1_0 w.heap.size
 have qb1_1 := @fresh_ne _ _ hb1_1
 have rb1_1 := @fresh_en _ _ hb1_1
 have lb1_1 := fresh_le hb1_1 w.heap.size
 have eb1_1_0 : ¬ b1_1 = b1_0 := fun e => db1_1_0 e.symm
 obtain ⟨⟨g1, rfl⟩, hbs⟩ := hw1
 clear hbs nb1_0 nb1_1
 have hMl : M < w.heap.size := HD.out.all.lt
 go_wp2_with ((go_at_call 74; ((with_reducible refine (HSp.out _).mono ?_))))
 rintro _ W1 ⟨vS, rfl, hoS, hgS⟩
 have hgW : Gr w W1 := Gr.trans gri hgS
 have KA := hd_ (BlockAt.gr (inferInstance : BlockAt _ (w.heap.size + 1) _ _) hgS)
 have K0 := hd_ (BlockAt.gr (inferInstance : BlockAt _ b1_0 _ _) hgS)
 have K1 := hd_ (BlockAt.gr (inferInstance : BlockAt _ b1_1 _ _) hgS)
 have hBB := BlockAt.gr (blockAt_new (grown ((w.alloc (.cells #[.int .i64 6, .int .u64 xv, .int .u64 xt, .int .i64 xs, .int .i64 (an : Int), .int .i64 (C : Int), .slice xD xn xq] 27)).alloc (.cells #[.int .i64 0, .int .i64 0, .slice none 0 0] 38)) g1) (bkC (List.replicate (C * 64) 0)) 5 _) hgS
 obtain ⟨B, hBe⟩ : ∃ B, (grown ((w.alloc (.cells #[.int .i64 6, .int .u64 xv, .int .u64 xt, .int .i64 xs, .int .i64 (an : Int), .int .i64 (C : Int), .slice xD xn xq] 27)).alloc (.cells #[.int .i64 0, .int .i64 0, .slice none 0 0] 38)) g1).heap.size = B := ⟨_, rfl⟩
 rw [hBe] at hBB ⊢
 obtain ⟨gS, cS, rfl, hbS, hgl, _, _, hclS, _⟩ := hoS.cells spIs hLne
 have hBl1 : B < W1.heap.size := hBB.lt
 have HDT : Hid (∀ (j : Nat) u, (List.replicate (C * 64) 0)[j]? = some u → W1.cell? ⟨B, 0 + j, none⟩ = some (bv u)) := hd_ (fun j u hj => by rw [bc _ hBB]; simpa using bkC_at hj)
 have G1 := hd_ hgW
 have HCL := hd_ hclS
 have HML := hd_ hMl
 clear hoS hgS hclS hgW hMl
 clear ob1_0 ob1_1 cb1_0 cb1_1 fb1_0 fb1_1 kb1_0 kb1_1
 go_wp2
 go_loopw [37] (fun i wr => ∃ k : Nat, k ≤ L.length ∧ i = .int .i64 k ∧ CK W1 wr ∧ DevIn base wr D M mb (putK d xv (x.1, putL an (List.replicate (C * 64) 0) x.2 (L.take k))) ∧ Below base w wr ∧ (k = 0 ∨ (k : Int) ≤ most)) (fun i _ => L.length - intOf i |>.toNat)
 case atStart => exact ⟨0, Nat.zero_le _, rfl, CK.refl _, by rw [List.take_zero]; show DevIn base W1 D M mb (putK d xv (x.1, x.2)); rw [putK_own HD.out.ok.sort (x := (x.1, x.2)) HV.out]; exact HD.out.gr G1.out, G1.out.below.mono hbase, .inl rfl⟩
 case round =>
  obtain ⟨k, hk, rfl, hck, hd, hb, hkm⟩ := hrel
  haveI kA := hck.block KA.out
  haveI k0 := hck.block K0.out
  haveI k1 := hck.block K1.out
  have y01 : wr.cell? ⟨b1_0, 1, none⟩ = some (.map (some (mb xv))) := (bc 1 k0).trans rfl
  have y10 : wr.cell? ⟨b1_1, 0, none⟩ = some (.int .i64 (an : Int)) := (bc 0 k1).trans rfl
  have HCK := hd_ hck
  have HDk := hd_ hd
  have HB := hd_ hb
  have HKM := hd_ hkm
  clear hck hd hb hkm
  by_cases hlt : k < L.length
  ·obtain ⟨s, hs⟩ : ∃ s, L[k]? = some s := ⟨_, List.getElem?_eq_getElem hlt⟩
   have hsa := HLA.out s (List.mem_of_getElem? hs)
   obtain ⟨sb, sf, st⟩ := s
   simp only at hsa
   have s0 : wr.cell? ⟨gS, k * 3, none⟩ = some (.int .i64 (sb : Int)) := HCK.out.cell (by have := HCL.out k _ hs 0 _ rfl; rwa [Nat.zero_add] at this)
   have s1 : wr.cell? ⟨gS, k * 3 + 1, none⟩ = some (.int .i64 (sf : Int)) := HCK.out.cell (by have := HCL.out k _ hs 1 _ rfl; rwa [Nat.zero_add] at this)
   have s2 : wr.cell? ⟨gS, k * 3 + 2, none⟩ = some (.int .i64 (st : Int)) := HCK.out.cell (by have := HCL.out k _ hs 2 _ rfl; rwa [Nat.zero_add] at this)
   haveI : Old gS wr := ⟨Nat.lt_of_lt_of_le hgl HCK.out.size⟩
   haveI o0 := k0.old
   haveI o1 := k1.old
   have HS := hd_ hs
   have hsf := hsa.1
   have hst := hsa.2.1
   have hsl := hsa.2.2.1
   have hsr := hsa.2.2.2
   clear hsa hs
   by_cases hmo : most ≤ (k : Int)
   ·have z0 : wr.cell? ⟨w.heap.size + 1, 0, none⟩ = some (.int .i64 0) := (bc 0 kA).trans rfl
    have z1 : wr.cell? ⟨w.heap.size + 1, 1, none⟩ = some (.int .i64 0) := (bc 1 kA).trans rfl
    have z2 : wr.cell? ⟨w.heap.size + 1, 2, none⟩ = some (.slice none 0 0) := (bc 2 kA).trans rfl
    haveI oA := kA.old
    have f0 : ∀ o, wr.frozen? ⟨w.heap.size + 1, o, none⟩ = false := fun o => @block_frozen _ _ o _ _ kA
    go_wp2
    ·have e1 : fullC most L.length = 8 := if_pos (by omega)
     have e2 : fullD most L.length = 0 := by unfold fullD; rw [if_pos (by omega)]; omega
     have e3 : most.toNat = k := by have := HKM.out; omega
     rw [e1, e2, e3]
     have gA : Gr wr (wr.alloc (.cells #[.int .i64 (sb : Int), .int .i64 (sf : Int), .int .i64 (st : Int)] 107)) := gri
     exact bodyPost_ret (run_resCell1 rfl _ _ _ _ rfl (ans_block (BlockAt.gr kA gA) _ _ _) Tryz.underlying38 rfl (by kernel_rfl)) rfl ⟨rfl, ans_dev (HDk.out.gr gA) (BlockAt.gr kA gA) (by decide) _ _ _, ans_below (HB.out.trans (gA.below.mono (Nat.le_trans hbase HB.out.size))) (by omega) _ _ _, ck_ans (((CK.gr G1.out).trans HCK.out).trans (CK.gr gA)) (by omega) _ _ _⟩
    ·have e1 : fullC most L.length = 8 := if_pos (by omega)
     have e2 : fullD most L.length = most := by unfold fullD; rw [if_pos (by omega)]; omega
     have e3 : most.toNat = k := by have := HKM.out; omega
     rw [e1, e2, e3]
     have gA : Gr wr (wr.alloc (.cells #[.int .i64 (sb : Int), .int .i64 (sf : Int), .int .i64 (st : Int)] 107)) := gri
     exact bodyPost_ret (run_resCell1 rfl _ _ _ _ rfl (ans_block (BlockAt.gr kA gA) _ _ _) Tryz.underlying38 rfl (by kernel_rfl)) rfl ⟨rfl, ans_dev (HDk.out.gr gA) (BlockAt.gr kA gA) (by decide) _ _ _, ans_below (HB.out.trans (gA.below.mono (Nat.le_trans hbase HB.out.size))) (by omega) _ _ _, ck_ans (((CK.gr G1.out).trans HCK.out).trans (CK.gr gA)) (by omega) _ _ _⟩
   ·have hvk : getK (putK d xv (x.1, putL an (List.replicate (C * 64) 0) x.2 (L.take k))) xv = some (x.1, putL an (List.replicate (C * 64) 0) x.2 (L.take k)) := getK_put_self HD.out.ok.sort _ _
    have hmk : MapAt .i64 wr (mb xv) (encK bkV (putL an (List.replicate (C * 64) 0) x.2 (L.take k))) := HDk.out.vol _ ((getK_mem HDk.out.ok.sort).1 hvk)
    have hlb := look_blk hmk sb
    obtain ⟨m, hme⟩ : ∃ m, putL an (List.replicate (C * 64) 0) x.2 (L.take k) = m := ⟨_, rfl⟩
    rw [hme] at hvk hmk hlb
    have hokm : VolOk (x.1, m) := by rw [← hme]; exact putL_ok _ HX.out (fun s hs => by have := HLA.out s (List.mem_of_mem_take hs); exact ⟨this.1, this.2.1, by omega⟩)
    have hl0 : (blkM m sb).length = 256 := blkM_len hokm.sort hokm.len sb
    have hsg : (segK ⟨sb, sf, st⟩ an (List.replicate (C * 64) 0)).length = 64 * (st - sf) := by simp [segK, List.length_replicate]; omega
    have HVk := hd_ hvk
    have HMk := hd_ hmk
    have HME := hd_ hme
    have HOm := hd_ hokm
    have HSG := hd_ hsg
    have HL0 := hd_ hl0
    clear hvk hmk hme hokm hsg hl0
    obtain ⟨X, hX⟩ : ∃ X, mergeB (blkM m sb) sf (segK ⟨sb, sf, st⟩ an (List.replicate (C * 64) 0)) = X := ⟨_, rfl⟩
    have HX' := hd_ hX
    clear hX
    have hput : putL an (List.replicate (C * 64) 0) x.2 (L.take (k + 1)) = putK m sb X := by
     have e := HME.out
     have e2 := HX'.out
     subst e
     rw [List.take_add_one, HS.out]
     simp only [putL, List.foldl_append, Option.toList, List.foldl_cons, List.foldl_nil]
     simp only [putS]
     rw [← e2]
     rfl
    have hnext : Hid (∀ w4 w5, Gr (wr.alloc (.cells #[.int .i64 (sb : Int), .int .i64 (sf : Int), .int .i64 (st : Int)] 107)) w4 → MapAt .i64 w5 (mb xv) (encK bkV (putK m sb X)) → OnlyB w4 w5 (mb xv) → CK W1 w5 ∧ DevIn base w5 D M mb (putK d xv (x.1, putL an (List.replicate (C * 64) 0) x.2 (L.take (k + 1)))) ∧ Below base w w5) := hd_ fun w4 w5 h4 hm5 ho5 => by
     have g4 : Gr wr w4 := Gr.trans gri h4
     have hm4 := HMk.out.gr g4
     have e := HDk.out
     rw [HME.out] at e
     have hd2 := (e.gr g4).inner xv _ HVk.out (putK m sb X) hm5 ho5 (by rw [← hput]; exact putL_ok _ HX.out (fun s hs => by have := HLA.out s (List.mem_of_mem_take hs); exact ⟨this.1, this.2.1, by omega⟩))
     rw [putK_putK _ _ _ _ HD.out.ok.sort] at hd2
     rw [hput]
     exact ⟨HCK.out.trans ((CK.gr g4).trans (CK.only hm4 ho5)), hd2, ho5.below (HD.out.bV (xv, x) ((getK_mem HD.out.ok.sort).1 HV.out)) hm4.lt (HB.out.trans (g4.below.mono (Nat.le_trans hbase HB.out.size)))⟩
    clear hput
    go_wp2
    refine wp_region_treeG ⟨fun w' => Gr (wr.alloc (.cells #[.int .i64 (sb : Int), .int .i64 (sf : Int), .int .i64 (st : Int)] 107)) w', true, fun _ _ h => h, fun _ _ _ h g => h.trans g⟩ rfl (Gr.of ((Below.refl _ _).drew)) [0, 1, 2, 3, 4, 5, 6, 7, 8, 9, 10, 11, 12, 13, 14] 6 20 (by kernel_rfl) (by kernel_rfl) ?_
    simp only [pick, List.drop, List.take, List.nil_append, List.cons_append]
    repeat (refine wpCalm_step (fun K hK => ?_); go_simp; first | (refine hK _ ?_; clear hK K) | (apply Exists.intro; refine ⟨fun _ => ?_, hK _ ?_⟩; (skip); clear hK K))
    refine wpCalm_nil ?_
    have hsne : segK ⟨sb, sf, st⟩ an (List.replicate (C * 64) 0) ≠ [] := by
     intro e
     have := HSG.out
     rw [e] at this
     simp at this
     omega
    refine fg_one 15 (by kernel_rfl) ?_
    refine fg_effD rfl rfl rfl (fun w1 hw1 => effAt_call' 76 #[.agg #[.int .i64 (sb : Int), .int .i64 (sf : Int), .int .i64 (st : Int)], .int .i64 (an : Int), .slice (some ⟨B, 0, none⟩) (C * 64) (C * 64)] (by go_simp) ((data_any sb sf st an (C * 64) (C * 64) B 0 (List.replicate (C * 64) 0) w1 (by omega) hsf hst hsl (by omega) (by omega) (by omega) (by simp [List.length_replicate]) (by omega) ?hBw ?hcw).mono fun e w2 hc => ?_))
    case hBw => exact Nat.lt_of_lt_of_le hBl1 (Nat.le_trans HCK.out.size (Gr.below (Gr.trans gri hw1)).size)
    case hcw => exact fun j u hj => (CK.gr (Gr.trans gri hw1)).cell (HCK.out.cell (HDT.out j u hj))
    obtain ⟨v1, rfl, ho1, hg1⟩ := hc
    obtain ⟨A1, c1, rfl, hbA, hA1, hx1, hy1, hcl1, hz1⟩ := ho1.cells bIs hsne
    refine ⟨_, rfl, ⟨fun w2 => Gr (wr.alloc (.cells #[.int .i64 (sb : Int), .int .i64 (sf : Int), .int .i64 (st : Int)] 107)) w2 ∧ A1 < w2.heap.size ∧ ∀ (j : Nat) u, (segK ⟨sb, sf, st⟩ an (List.replicate (C * 64) 0))[j]? = some u → w2.cell? ⟨A1, 0 + j, none⟩ = some (bv u), true, fun _ _ h => h.1, fun _ _ _ h g => ⟨h.1.trans g, Nat.lt_of_lt_of_le h.2.1 g.below.size, fun j u hj => (g.below.cell (p := ⟨A1, 0 + j, none⟩) h.2.1).trans (h.2.2 j u hj)⟩⟩, ⟨Gr.trans hw1 hg1, hA1, fun j u hj => by have := hcl1 j u hj 0 _ rfl; simpa [bE] using this⟩, fun _ _ => rfl, ?_⟩
    rw [HSG.out]
    clear ho1 hg1 hw1 hA1 hcl1 hbA hx1 hy1 hz1 w2 w1
    simp only [Act.put, stA, List.set]
    refine fg_one 16 (by kernel_rfl) ?_
    refine fg_effD rfl rfl rfl (fun w1 hw1 => effAt_call' 75 #[.agg (bkC (blkM m sb)), .int .i64 (sf : Int), .slice (some ⟨A1, 0, none⟩) (64 * (st - sf)) c1] (by go_simp) ((merge_any (blkM m sb) (segK ⟨sb, sf, st⟩ an (List.replicate (C * 64) 0)) sf (64 * (st - sf)) c1 A1 0 w1 HL0.out (by omega) HSG.out (by omega) (by omega) (by omega) hw1.2.1 hw1.2.2).mono fun e w2 hc => ?_))
    obtain ⟨rfl, hg1⟩ := hc
    refine ⟨_, rfl, ⟨fun w2 => Gr (wr.alloc (.cells #[.int .i64 (sb : Int), .int .i64 (sf : Int), .int .i64 (st : Int)] 107)) w2, true, fun _ _ h => h, fun _ _ _ h g => h.trans g⟩, Gr.trans hw1.1 hg1, fun _ _ => rfl, ?_⟩
    rw [HX'.out]
    clear hg1 hw1 w2 w1
    simp only [Act.put, stA, List.set]
    refine fg_one 17 (by kernel_rfl) ?_
    refine fg_pure (.tuple #[.agg (bkC X), .int .i64 0]) rfl rfl rfl (fun w => by go_simp) ?_
    simp only [Act.put, stA, List.set]
    refine fg_two 18 19 (by kernel_rfl) ?_ ?_
    ·refine fg_pure (.agg (bkC X)) rfl rfl rfl (fun w => by go_simp) ?_
     simp only [Act.put, stA, List.set]
     refine fg_two 19 20 (by kernel_rfl) ?_ ?_
     ·refine fg_pure (.int .i64 0) rfl rfl rfl (fun w => by go_simp) ?_
      simp only [Act.put, stA, List.set]
      refine fg_one 20 (by kernel_rfl) ?_
      refine fg_effN rfl rfl rfl (fun w1 hw1 => ?_)
      obtain ⟨W', hrun, h1, h2⟩ := map_update (P := Tryz.prog) Tryz.underlying62 Tryz.underlying3 (HMk.out.gr (Gr.trans gri hw1)) (sb : Int) (.agg (bkC X))
      refine effAt_updK rfl rfl rfl rfl hrun ?_
      refine ⟨⟨fun w2 => ∃ w1, Gr (wr.alloc (.cells #[.int .i64 (sb : Int), .int .i64 (sf : Int), .int .i64 (st : Int)] 107)) w1 ∧ MapAt .i64 w2 (mb xv) (encK bkV (putK m sb X)) ∧ OnlyB w1 w2 (mb xv), false, fun e => Bool.noConfusion e, fun e => Bool.noConfusion e⟩, ⟨w1, hw1, by rw [← putK_enc]; exact h1, h2⟩, fun e => absurd rfl e, ?_⟩
      clear h1 h2 hrun W' hw1 w1
      refine fg_end (by kernel_rfl) (fun w5 hw5 => ?_)
      obtain ⟨w4, hw4, hm5, ho5⟩ := hw5
      rename_i Kd hKd
      refine (show Kd _ _ from hKd _ _ ?_)
      have hn5 := hnext.out _ _ hw4 hm5 ho5
      clear hw4 hm5 ho5
      go_wp2
      go_roundw
      case rel => exact ⟨k + 1, by omega, by congr 1, hn5.1, hn5.2.1, hn5.2.2, .inr (by omega)⟩
      case measure => simp [intOf]; omega
     ·refine fg_effN rfl rfl rfl (fun w1 hw1 => ?_)
      obtain ⟨W', hrun, h1, h2⟩ := map_update (P := Tryz.prog) Tryz.underlying62 Tryz.underlying3 (HMk.out.gr (Gr.trans gri hw1)) (sb : Int) (.agg (bkC X))
      refine effAt_updK rfl rfl rfl rfl hrun ?_
      refine ⟨⟨fun w2 => ∃ w1, Gr (wr.alloc (.cells #[.int .i64 (sb : Int), .int .i64 (sf : Int), .int .i64 (st : Int)] 107)) w1 ∧ MapAt .i64 w2 (mb xv) (encK bkV (putK m sb X)) ∧ OnlyB w1 w2 (mb xv), false, fun e => Bool.noConfusion e, fun e => Bool.noConfusion e⟩, ⟨w1, hw1, by rw [← putK_enc]; exact h1, h2⟩, fun e => absurd rfl e, ?_⟩
      clear h1 h2 hrun W' hw1 w1
      refine fg_one 19 (by kernel_rfl) ?_
      refine fg_pure (.int .i64 0) rfl rfl rfl (fun w => by go_simp) ?_
      simp only [Act.put, stA, List.set]
      refine fg_end (by kernel_rfl) (fun w5 hw5 => ?_)
      obtain ⟨w4, hw4, hm5, ho5⟩ := hw5
      rename_i Kd hKd
      refine (show Kd _ _ from hKd _ _ ?_)
      have hn5 := hnext.out _ _ hw4 hm5 ho5
      clear hw4 hm5 ho5
      go_wp2
      go_roundw
      case rel => exact ⟨k + 1, by omega, by congr 1, hn5.1, hn5.2.1, hn5.2.2, .inr (by omega)⟩
      case measure => simp [intOf]; omega
    ·refine fg_pure (.int .i64 0) rfl rfl rfl (fun w => by go_simp) ?_
     simp only [Act.put, stA, List.set]
     refine fg_one 18 (by kernel_rfl) ?_
     refine fg_pure (.agg (bkC X)) rfl rfl rfl (fun w => by go_simp) ?_
     simp only [Act.put, stA, List.set]
     refine fg_one 20 (by kernel_rfl) ?_
     refine fg_effN rfl rfl rfl (fun w1 hw1 => ?_)
     obtain ⟨W', hrun, h1, h2⟩ := map_update (P := Tryz.prog) Tryz.underlying62 Tryz.underlying3 (HMk.out.gr (Gr.trans gri hw1)) (sb : Int) (.agg (bkC X))
     refine effAt_updK rfl rfl rfl rfl hrun ?_
     refine ⟨⟨fun w2 => ∃ w1, Gr (wr.alloc (.cells #[.int .i64 (sb : Int), .int .i64 (sf : Int), .int .i64 (st : Int)] 107)) w1 ∧ MapAt .i64 w2 (mb xv) (encK bkV (putK m sb X)) ∧ OnlyB w1 w2 (mb xv), false, fun e => Bool.noConfusion e, fun e => Bool.noConfusion e⟩, ⟨w1, hw1, by rw [← putK_enc]; exact h1, h2⟩, fun e => absurd rfl e, ?_⟩
     clear h1 h2 hrun W' hw1 w1
     refine fg_end (by kernel_rfl) (fun w5 hw5 => ?_)
     obtain ⟨w4, hw4, hm5, ho5⟩ := hw5
     rename_i Kd hKd
     refine (show Kd _ _ from hKd _ _ ?_)
     have hn5 := hnext.out _ _ hw4 hm5 ho5
     clear hw4 hm5 ho5
     go_wp2
     go_roundw
     case rel => exact ⟨k + 1, by omega, by congr 1, hn5.1, hn5.2.1, hn5.2.2, .inr (by omega)⟩
     case measure => simp [intOf]; omega
  ·have z0 : wr.cell? ⟨w.heap.size + 1, 0, none⟩ = some (.int .i64 0) := (bc 0 kA).trans rfl
   have z1 : wr.cell? ⟨w.heap.size + 1, 1, none⟩ = some (.int .i64 0) := (bc 1 kA).trans rfl
   have z2 : wr.cell? ⟨w.heap.size + 1, 2, none⟩ = some (.slice none 0 0) := (bc 2 kA).trans rfl
   haveI oA := kA.old
   have f0 : ∀ o, wr.frozen? ⟨w.heap.size + 1, o, none⟩ = false := fun o => @block_frozen _ _ o _ _ kA
   go_wp2
   have hkL : k = L.length := by omega
   have hL0 : 0 < L.length := by cases L with | nil => exact absurd rfl hLne | cons _ _ => simp
   have hkm : (k : Int) ≤ most := by have := HKM.out; omega
   have e1 : fullC most L.length = 0 := if_neg (by omega)
   have e2 : fullD most L.length = 0 := if_neg (by omega)
   have e3 : L.take most.toNat = L.take k := by rw [List.take_of_length_le (by omega), List.take_of_length_le (by omega)]
   rw [e1, e2, e3]
   exact bodyPost_ret (run_resCell1 rfl _ _ _ _ rfl (ans_block kA _ _ _) Tryz.underlying38 rfl (by kernel_rfl)) rfl ⟨rfl, ans_dev HDk.out kA (by decide) _ _ _, ans_below HB.out (by omega) _ _ _, ck_ans ((CK.gr G1.out).trans HCK.out) (by omega) _ _ _⟩
@[go_sem] theorem eqMapB (m : Option Nat) (w : World) : (binOp .eql 62 (.map m) (.map none)).run Tryz.prog w = .ok (.bool m.isNone) w := by
 have := run_eql_map_nil (P := Tryz.prog) w 62 _ _ m Tryz.underlying62
 simpa using this
@[go_sem] theorem taMapB (m : Option Nat) (w : World) : (Instr.typeAssert (.iface 62 (.map m)) 20 62 false).run Tryz.prog w = .ok (.map m) w := by kernel_rfl
theorem cloneMap_any (b : Nat) (L : List (Int × Value)) (w : World) (h : MapAt .i64 w b L) : Calls Tryz.prog 59 #[.map (some b)] w fun e w' => e = .returned (.map (some w.heap.size)) ∧ MapAt .i64 w' w.heap.size L ∧ Gr w w' := by
 obtain ⟨h1, h2⟩ := map_clone (P := Tryz.prog) h 62
 have hc := run_callFunc_extern Tryz.func90 (by kernel_rfl) (by kernel_rfl) (by kernel_rfl) (e := Extern.MapsClone.clone) (by kernel_rfl) #[.iface 62 (.map (some b))] w
 rw [h1] at hc
 simp only [Result.andThen] at hc
 have hg : Gr w (w.alloc (w.heap[b]?.getD default)) := Gr.of (below_alloc (Below.refl _ _) _)
 generalize w.alloc (w.heap[b]?.getD default) = W2 at *
 have H := hd_ h2
 have HG := hd_ hg
 clear h1 h2 hg
 go_enter Tryz.func59, Tryz.ntmps59
 go_wp2
 go_ret
 exact ⟨rfl, H.out, HG.out⟩
theorem snap_any (xv xt xs xa xc most : Int) (xD : Option Addr) (xn xq : Nat) (hn : xn ≤ 1000000) (base D : Nat) (d : Dev) (w : World) (h : DevAt base w D d) (hbase : base ≤ w.heap.size) (x : VolM) (hv : getK d xv = some x) (hok : DevOk (putK d xt x)) :
  Calls Tryz.prog 41 #[.pointer (some ⟨D, 0, none⟩), .agg #[.int .i64 4, .int .u64 xv, .int .u64 xt, .int .i64 xs, .int .i64 xa, .int .i64 xc, .slice xD xn xq], .int .i64 most] w (OpPost base D (putK d xt x) 0 0 w) := by
 obtain ⟨M, mb, h⟩ := h
 haveI := h.blk
 have x0 : w.cell? ⟨D, 0, none⟩ = some (.map (some M)) := (bc 0 h.blk).trans rfl
 haveI : Old D w := h.blk.old
 have HD := hd_ h
 have HOK := hd_ hok
 have hlk := look_vol1 h xv _ hv
 simp only [volV] at hlk
 have HM := hd_ (h.vol _ ((getK_mem h.ok.sort).1 hv))
 clear h hok hv
 go_enter Tryz.func41, Tryz.ntmps41
 go_wp2
 refine wp_region_all [0, 1, 2, 3, 4, 5, 6, 7, 8, 9] [10, 11] [12, 13] (by kernel_rfl) (by kernel_rfl) ?_
 simp only [pick, List.drop, List.take, List.nil_append, List.cons_append]
 repeat (refine wpCalm_step (fun K hK => ?_); go_simp; first | (refine hK _ ?_; clear hK K) | (apply Exists.intro; refine ⟨fun _ => ?_, hK _ ?_⟩; ((go_at_call 71; exact part_4 _ _ _ _ _ _ _ _ (by omega) _)); clear hK K))
 refine wpCalm_nil ?_
 refine ⟨_, _, _, allocOp_alloc rfl rfl Tryz.zeroValue64, fun b1_0 hb1_0 nb1_0 => ?_⟩
 refine ⟨_, _, _, allocOp_alloc rfl rfl Tryz.zeroValue146, fun b1_1 hb1_1 nb1_1 => ?_⟩
 have db1_1_0 : b1_0 ≠ b1_1 := nb1_1 (b1_0, _, _) mcs
 simp only [Act.put, stA, List.set]
 refine ⟨_, _, _, b1_0, #[.int .i64 0, .map none], _, #[.int .i64 x.1, .map (some (mb xv))], rfl, rfl, rfl, (List.mem_cons_of_mem _ mcs), ?hu, hb1_0, rfl, rfl, rfl, rfl, [(b1_0, #[.int .i64 x.1, .map (some (mb xv))], 64), (b1_1, #[.int .u64 0, .int .u64 0], 146)], ?hs, ?_⟩
 case hu =>
  intro z hz e
  rcases List.mem_cons.1 hz with rfl | hz
  ·exact absurd e db1_1_0.symm
  rcases List.mem_cons.1 hz with rfl | hz
  ·rfl
  cases hz
 case hs =>
  intro z
  constructor
  ·intro hz
   rcases List.mem_cons.1 hz with rfl | hz
   ·exact .inl rfl
   rcases List.mem_cons.1 hz with rfl | hz
   ·exact .inr ⟨mcs, db1_1_0.symm⟩
   cases hz
  ·rintro (rfl | ⟨hz, hne⟩)
   ·exact mcs
   rcases List.mem_cons.1 hz with rfl | hz
   ·exact (List.mem_cons_of_mem _ mcs)
   rcases List.mem_cons.1 hz with rfl | hz
   ·exact absurd rfl hne
   cases hz
 refine ⟨_, _, _, b1_1, #[.int .u64 0, .int .u64 0], _, #[.int .u64 xv, .int .u64 xt], rfl, rfl, rfl, (List.mem_cons_of_mem _ mcs), ?hu, hb1_1, rfl, rfl, rfl, rfl, [(b1_1, #[.int .u64 xv, .int .u64 xt], 146), (b1_0, #[.int .i64 x.1, .map (some (mb xv))], 64)], ?hs, ?_⟩
 case hu =>
  intro z hz e
  rcases List.mem_cons.1 hz with rfl | hz
  ·exact absurd e db1_1_0
  rcases List.mem_cons.1 hz with rfl | hz
  ·rfl
  cases hz
 case hs =>
  intro z
  constructor
  ·intro hz
   rcases List.mem_cons.1 hz with rfl | hz
   ·exact .inl rfl
   rcases List.mem_cons.1 hz with rfl | hz
   ·exact .inr ⟨mcs, db1_1_0⟩
   cases hz
  ·rintro (rfl | ⟨hz, hne⟩)
   ·exact mcs
   rcases List.mem_cons.1 hz with rfl | hz
   ·exact (List.mem_cons_of_mem _ mcs)
   rcases List.mem_cons.1 hz with rfl | hz
   ·exact absurd rfl hne
   cases hz
 intro w1 hw1
 have cb1_1 : ∀ o, w1.cell? ⟨b1_1, o, none⟩ = (#[.int .u64 xv, .int .u64 xt] : Array Value)[o]? := mix_cell hw1 mcs
 have fb1_1 : ∀ o, w1.frozen? ⟨b1_1, o, none⟩ = false := mix_frozen hw1 mcs
 have ob1_1 : Old b1_1 w1 := mix_old hw1 mcs
 have cb1_0 : ∀ o, w1.cell? ⟨b1_0, o, none⟩ = (#[.int .i64 x.1, .map (some (mb xv))] : Array Value)[o]? := mix_cell hw1 (List.mem_cons_of_mem _ mcs)
 have fb1_0 : ∀ o, w1.frozen? ⟨b1_0, o, none⟩ = false := mix_frozen hw1 (List.mem_cons_of_mem _ mcs)
 have ob1_0 : Old b1_0 w1 := mix_old hw1 (List.mem_cons_of_mem _ mcs)
 have qb1_0 := @fresh_ne _ _ hb1_0
 have rb1_0 := @fresh_en _ _ hb1_0
 have lb1_0 := fresh_le hb1_0 w.heap.size
 have qb1_1 := @fresh_ne _ _ hb1_1
 have rb1_1 := @fresh_en _ _ hb1_1
 have lb1_1 := fresh_le hb1_1 w.heap.size
 have eb1_1_0 : ¬ b1_1 = b1_0 := fun e => db1_1_0 e.symm
 obtain ⟨⟨g1, rfl⟩, hbs⟩ := hw1
 clear hbs nb1_0 nb1_1
 go_wp2
 refine wp_region_treeT (inCls_ghost _) (Cls.none _) ⟨Gr.of ((Below.refl _ _).drew), trivial⟩ [0, 1, 2, 3, 4, 5, 6, 7, 8, 9] 2 12 (by kernel_rfl) (by kernel_rfl) ?_
 simp only [pick, List.drop, List.take, List.nil_append, List.cons_append]
 repeat (refine wpCalm_step (fun K hK => ?_); go_simp; first | (refine hK _ ?_; clear hK K) | (apply Exists.intro; refine ⟨fun _ => ?_, hK _ ?_⟩; (skip); clear hK K))
 refine wpCalm_nil ?_
 have hMl : M < w.heap.size := HD.out.all.lt
 refine ft_eff 10 (by kernel_rfl) (by omega) rfl rfl fun w1 hw1 => effAt_call' 59 #[.map (some (mb xv))] (by go_simp) ((cloneMap_any (mb xv) _ w1 (HM.out.gr (Gr.trans gri hw1.1))).mono fun e w2 hc => ⟨_, hc.1, ?_⟩)
 obtain ⟨he9, hc, hg⟩ := hc
 refine ⟨⟨fun w2 => MapAt .i64 w2 w1.heap.size (encK bkV x.2), fun a b h g => h.gr g⟩, ⟨hw1.1.trans hg, hc⟩, ?_⟩
 have hsz := hw1.1.below.size
 have hb0 : w.heap.size ≤ w1.heap.size := Nat.le_trans (inferInstance : From w _).le hsz
 generalize w1.heap.size = b at *
 clear he9 hc hg w2 e hw1 w1
 simp only [Act.put, stA, List.set]
 refine ft_calm 11 (.agg #[.int .i64 x.1, .map (some b)]) (by kernel_rfl) (by omega) rfl rfl (fun g => by unfold calmAt; go_simp) ?_
 simp only [Act.put, stA, List.set]
 refine ft_end ⟨by kernel_rfl, fun w2 hw2 => ?_⟩
 try simp only [List.drop_succ_cons, List.drop_zero]
 have g2 : Gr w w2 := Gr.trans gri hw2.1
 refine wpList_updateK rfl _ _ _ rfl xt _ Tryz.underlying53 Tryz.underlying24 (HD.out.all.gr g2) rfl rfl rfl fun W' h1 h2 => ?_
 have HD' := HD.out.put g2 xt x b hw2.2 (.inl hb0) h1 h2 HOK.out hbase
 haveI hB1 : BlockAt W' (w.heap.size + 1) #[.int .i64 0, .int .i64 0, .slice none 0 0] 38 := h2.blockAt (BlockAt.gr (inferInstance : BlockAt _ (w.heap.size + 1) _ _) hw2.1) (by omega)
 have hck := (CK.gr g2).trans (CK.only (HD.out.all.gr g2) h2)
 have hbel : Below base w W' := h2.below HD.out.bM (Nat.lt_of_lt_of_le hMl g2.below.size) (g2.below.mono hbase)
 have z0 : W'.cell? ⟨w.heap.size + 1, 0, none⟩ = some (.int .i64 0) := (bc 0 hB1).trans rfl
 have z1 : W'.cell? ⟨w.heap.size + 1, 1, none⟩ = some (.int .i64 0) := (bc 1 hB1).trans rfl
 have z2 : W'.cell? ⟨w.heap.size + 1, 2, none⟩ = some (.slice none 0 0) := (bc 2 hB1).trans rfl
 have f0 : ∀ o, W'.frozen? ⟨w.heap.size + 1, o, none⟩ = false := fun o => @block_frozen _ _ o _ _ hB1
 have HN := hd_ HD'
 have HB := hd_ hbel
 have HCK := hd_ hck
 clear HD' hbel hck
 clear h1 h2 hw2 g2 hsz hMl hb0
 simp only [Act.put]
 go_wp2
 exact bodyPost_ret (run_resCell1 rfl _ _ _ _ rfl (ans_block hB1 _ _ _) Tryz.underlying38 rfl (by kernel_rfl)) rfl ⟨rfl, ans_dev HN.out hB1 (by decide) _ _ _, ans_below HB.out (by omega) _ _ _, ck_ans HCK.out (by omega) _ _ _⟩
def dropF (a : Int) (k : Nat) (m : List (Int × Byt)) : List (Int × Byt) := m.filter fun p => decide (p.1 < a ∨ a + k ≤ p.1)
theorem dropF_zero (a : Int) (m : List (Int × Byt)) : dropF a 0 m = m := by
 unfold dropF
 rw [List.filter_eq_self]
 intro p _
 simp
 omega
theorem dropF_succ (a : Int) (k : Nat) (m : List (Int × Byt)) : delK (dropF a k m) (a + k) = dropF a (k + 1) m := by
 unfold delK dropF
 rw [List.filter_filter]
 congr 1
 funext p
 rw [Bool.eq_iff_iff]
 simp
 omega
theorem dropF_ok {x : VolM} (h : VolOk x) (a : Int) (k : Nat) : VolOk (x.1, dropF a k x.2) := filter_ok h _ _ h.s0 h.s1 (fun p hp _ => (h.keys p hp).2)
theorem discard_any (xv xt xs xa xc most : Int) (xD : Option Addr) (xn xq : Nat) (hn : xn ≤ 1000000) (base D : Nat) (d : Dev) (w : World) (h : DevAt base w D d) (hbase : base ≤ w.heap.size) (x : VolM) (hv : getK d xv = some x) (a0 : 0 ≤ xa) (a1 : xa ≤ 1048576) (c0 : 1 ≤ xc) (c1 : xc ≤ 1024) :
  Calls Tryz.prog 43 #[.pointer (some ⟨D, 0, none⟩), .agg #[.int .i64 7, .int .u64 xv, .int .u64 xt, .int .i64 xs, .int .i64 xa, .int .i64 xc, .slice xD xn xq], .int .i64 most] w (OpPost base D (putK d xv (x.1, dropF xa xc.toNat x.2)) 0 0 w) := by
 obtain ⟨M, mb, h⟩ := h
 haveI := h.blk
 have x0 : w.cell? ⟨D, 0, none⟩ = some (.map (some M)) := (bc 0 h.blk).trans rfl
 haveI : Old D w := h.blk.old
 have HD := hd_ h
 have hlk := look_vol1 h xv _ hv
 simp only [volV] at hlk
 have HX := hd_ (h.ok.vols _ ((getK_mem h.ok.sort).1 hv))
 have HV := hd_ hv
 clear h hv
 obtain ⟨cn, rfl⟩ : ∃ n : Nat, xc = n := ⟨xc.toNat, by omega⟩
 go_enter Tryz.func43, Tryz.ntmps43
 go_wp2
 refine wp_region_all [0, 1, 2, 3, 4, 5, 6, 7, 8, 9] [10, 11] [12, 13] (by kernel_rfl) (by kernel_rfl) ?_
 simp only [pick, List.drop, List.take, List.nil_append, List.cons_append]
 repeat (refine wpCalm_step (fun K hK => ?_); go_simp; first | (refine hK _ ?_; clear hK K) | (apply Exists.intro; refine ⟨fun _ => ?_, hK _ ?_⟩; ((go_at_call 71; exact part_7 _ _ _ _ _ _ _ _ (by omega) _)); clear hK K))
 refine wpCalm_nil ?_
 refine ⟨_, _, _, allocOp_alloc rfl rfl Tryz.zeroValue64, fun b1_0 hb1_0 nb1_0 => ?_⟩
 refine ⟨_, _, _, allocOp_alloc rfl rfl Tryz.zeroValue149, fun b1_1 hb1_1 nb1_1 => ?_⟩
 have db1_1_0 : b1_0 ≠ b1_1 := nb1_1 (b1_0, _, _) mcs
 simp only [Act.put, stA, List.set]
 refine ⟨_, _, _, b1_0, #[.int .i64 0, .map none], _, #[.int .i64 x.1, .map (some (mb xv))], rfl, rfl, rfl, (List.mem_cons_of_mem _ mcs), ?hu, hb1_0, rfl, rfl, rfl, rfl, [(b1_0, #[.int .i64 x.1, .map (some (mb xv))], 64), (b1_1, #[.int .i64 0, .int .i64 0], 149)], ?hs, ?_⟩
 case hu =>
  intro z hz e
  rcases List.mem_cons.1 hz with rfl | hz
  ·exact absurd e db1_1_0.symm
  rcases List.mem_cons.1 hz with rfl | hz
  ·rfl
  cases hz
 case hs =>
  intro z
  constructor
  ·intro hz
   rcases List.mem_cons.1 hz with rfl | hz
   ·exact .inl rfl
   rcases List.mem_cons.1 hz with rfl | hz
   ·exact .inr ⟨mcs, db1_1_0.symm⟩
   cases hz
  ·rintro (rfl | ⟨hz, hne⟩)
   ·exact mcs
   rcases List.mem_cons.1 hz with rfl | hz
   ·exact (List.mem_cons_of_mem _ mcs)
   rcases List.mem_cons.1 hz with rfl | hz
   ·exact absurd rfl hne
   cases hz
 refine ⟨_, _, _, b1_1, #[.int .i64 0, .int .i64 0], _, #[.int .i64 xa, .int .i64 (cn : Int)], rfl, rfl, rfl, (List.mem_cons_of_mem _ mcs), ?hu, hb1_1, rfl, rfl, rfl, rfl, [(b1_1, #[.int .i64 xa, .int .i64 (cn : Int)], 149), (b1_0, #[.int .i64 x.1, .map (some (mb xv))], 64)], ?hs, ?_⟩
 case hu =>
  intro z hz e
  rcases List.mem_cons.1 hz with rfl | hz
  ·exact absurd e db1_1_0
  rcases List.mem_cons.1 hz with rfl | hz
  ·rfl
  cases hz
 case hs =>
  intro z
  constructor
  ·intro hz
   rcases List.mem_cons.1 hz with rfl | hz
   ·exact .inl rfl
   rcases List.mem_cons.1 hz with rfl | hz
   ·exact .inr ⟨mcs, db1_1_0⟩
   cases hz
  ·rintro (rfl | ⟨hz, hne⟩)
   ·exact mcs
   rcases List.mem_cons.1 hz with rfl | hz
   ·exact (List.mem_cons_of_mem _ mcs)
   rcases List.mem_cons.1 hz with rfl | hz
   ·exact absurd rfl hne
   cases hz
 intro w1 hw1
 have cb1_1 : ∀ o, w1.cell? ⟨b1_1, o, none⟩ = (#[.int .i64 xa, .int .i64 (cn : Int)] : Array Value)[o]? := mix_cell hw1 mcs
 haveI kb1_1 : BlockAt w1 b1_1 #[.int .i64 xa, .int .i64 (cn : Int)] 149 := ⟨hw1.2 _ mcs⟩
 have fb1_1 : ∀ o, w1.frozen? ⟨b1_1, o, none⟩ = false := mix_frozen hw1 mcs
 have ob1_1 : Old b1_1 w1 := mix_old hw1 mcs
 have cb1_0 : ∀ o, w1.cell? ⟨b1_0, o, none⟩ = (#[.int .i64 x.1, .map (some (mb xv))] : Array Value)[o]? := mix_cell hw1 (List.mem_cons_of_mem _ mcs)
 haveI kb1_0 : BlockAt w1 b1_0 #[.int .i64 x.1, .map (some (mb xv))] 64 := ⟨hw1.2 _ (List.mem_cons_of_mem _ mcs)⟩
 have fb1_0 : ∀ o, w1.frozen? ⟨b1_0, o, none⟩ = false := mix_frozen hw1 (List.mem_cons_of_mem _ mcs)
 have ob1_0 : Old b1_0 w1 := mix_old hw1 (List.mem_cons_of_mem _ mcs)
 have qb1_0 := @fresh_ne _ _ hb1_0
 have rb1_0 := @fresh_en _ _ hb1_0
 have lb1_0 := fresh_le hb1_0 w.heap.size
 have qb1_1 := @fresh_ne _ _ hb1_1
 have rb1_1 := @fresh_en _ _ hb1_1
 have lb1_1 := fresh_le hb1_1 w.heap.size
 have eb1_1_0 : ¬ b1_1 = b1_0 := fun e => db1_1_0 e.symm
 obtain ⟨⟨g1, rfl⟩, hbs⟩ := hw1
 clear hbs nb1_0 nb1_1
 have hMl : M < w.heap.size := HD.out.all.lt
 generalize hW1 : grown _ g1 = W1 at *
 have hgW : Gr w W1 := by rw [← hW1]; exact gri
 haveI kA : BlockAt W1 (w.heap.size + 1) #[.int .i64 0, .int .i64 0, .slice none 0 0] 38 := by rw [← hW1]; infer_instance
 clear hW1
 have HG := hd_ hgW
 have K0 := hd_ kb1_0
 have K1 := hd_ kb1_1
 have KA := hd_ kA
 clear hgW kA kb1_0 kb1_1
 go_wp2
 go_loopw [9] (fun i wr => ∃ k : Nat, k ≤ cn ∧ i = .int .i64 (xa + k) ∧ DevIn base wr D M mb (putK d xv (x.1, dropF xa k x.2)) ∧ BlockAt wr b1_0 #[.int .i64 x.1, .map (some (mb xv))] 64 ∧ BlockAt wr b1_1 #[.int .i64 xa, .int .i64 (cn : Int)] 149 ∧ BlockAt wr (w.heap.size + 1) #[.int .i64 0, .int .i64 0, .slice none 0 0] 38 ∧ Below base w wr ∧ CK w wr) (fun i _ => (xa + cn - intOf i).toNat)
 case atStart => exact ⟨0, Nat.zero_le _, by simp, by rw [dropF_zero, putK_own HD.out.ok.sort HV.out]; exact HD.out.gr HG.out, K0.out, K1.out, KA.out, HG.out.below.mono hbase, CK.gr HG.out⟩
 case round =>
  obtain ⟨k, hk, rfl, hd, k0, k1, ka, hb, hck⟩ := hrel
  have hvk : getK (putK d xv (x.1, dropF xa k x.2)) xv = some (x.1, dropF xa k x.2) := getK_put_self HD.out.ok.sort _ _
  have hm := hd.vol _ ((getK_mem hd.ok.sort).1 hvk)
  have y00 : wr.cell? ⟨b1_0, 0, none⟩ = some (.int .i64 x.1) := (bc 0 k0).trans rfl
  have y01 : wr.cell? ⟨b1_0, 1, none⟩ = some (.map (some (mb xv))) := (bc 1 k0).trans rfl
  have y10 : wr.cell? ⟨b1_1, 0, none⟩ = some (.int .i64 xa) := (bc 0 k1).trans rfl
  have y11 : wr.cell? ⟨b1_1, 1, none⟩ = some (.int .i64 (cn : Int)) := (bc 1 k1).trans rfl
  have HDk := hd_ hd
  have HMk := hd_ hm
  have HVk := hd_ hvk
  have Z0 := hd_ k0
  have Z1 := hd_ k1
  have ZA := hd_ ka
  have HB := hd_ hb
  have HCK := hd_ hck
  clear hd hm hvk k0 k1 hb hck
  by_cases hlt : k < cn
  ·clear ka
   go_wp2_with (refine wpList_deleteK rfl _ _ rfl (xa + k) Tryz.underlying62 Tryz.underlying3 HMk.out rfl rfl fun W' h1 h2 => ?_)
   have hd2 := HDk.out.inner xv _ HVk.out (dropF xa (k + 1) x.2) (by rw [← dropF_succ, ← delK_enc]; exact h1) h2 (dropF_ok HX.out xa (k + 1))
   rw [putK_putK _ _ _ _ HD.out.ok.sort] at hd2
   have hb2 : Below base w W' := h2.below (HD.out.bV (xv, x) ((getK_mem HD.out.ok.sort).1 HV.out)) HMk.out.lt HB.out
   have q0 := h2.blockM HMk.out Z0.out
   have q1 := h2.blockM HMk.out Z1.out
   have qA := h2.blockM HMk.out ZA.out
   have HD2 := hd_ hd2
   have HB2 := hd_ hb2
   have HCK2 := hd_ (HCK.out.trans (CK.only HMk.out h2))
   have Q0 := hd_ q0
   have Q1 := hd_ q1
   have QA := hd_ qA
   clear hd2 hb2 q0 q1 qA h1 h2
   go_wp2
   go_roundw
   case rel => exact ⟨k + 1, by omega, by congr 1; omega, HD2.out, Q0.out, Q1.out, QA.out, HB2.out, HCK2.out⟩
   case measure => simp [intOf]; omega
  ·have hkc : k = cn := by omega
   subst hkc
   haveI hB1 := ZA.out
   have z0 : wr.cell? ⟨w.heap.size + 1, 0, none⟩ = some (.int .i64 0) := (bc 0 hB1).trans rfl
   have z1 : wr.cell? ⟨w.heap.size + 1, 1, none⟩ = some (.int .i64 0) := (bc 1 hB1).trans rfl
   have z2 : wr.cell? ⟨w.heap.size + 1, 2, none⟩ = some (.slice none 0 0) := (bc 2 hB1).trans rfl
   have f0 : ∀ o, wr.frozen? ⟨w.heap.size + 1, o, none⟩ = false := fun o => @block_frozen _ _ o _ _ hB1
   go_wp2
   exact bodyPost_ret (run_resCell1 rfl _ _ _ _ rfl (ans_block hB1 _ _ _) Tryz.underlying38 rfl (by kernel_rfl)) rfl ⟨rfl, ans_dev HDk.out hB1 (by decide) _ _ _, ans_below HB.out (by omega) _ _ _, ck_ans HCK.out (by omega) _ _ _⟩
end Go.Proofs.YtddckdhnolmjoaaGreat
namespace Go.Proofs.YtddckdhnolmjoaaGreat
open Go.RowKit Go.MapKept
open Go.ChangeMaps (setBlock heap_setBlock_same heap_setBlock_other)
def RangeAt (q : IntKind) (W : World) (b r : Nat) (L : List (Int × Value)) (left : Int → Bool) (cnt : Nat) : Prop :=
 ∃ es clock since seen c0, W.heap[b]? = some (.map es clock) ∧ Stamped es clock ∧ (∀ x ∈ es.toList, IsKey (.int q) x.key) ∧ (∀ k v, (∃ x ∈ es.toList, x.key = .int q k ∧ x.val = v) ↔ (k, v) ∈ L) ∧ SortK L ∧
  W.heap[r]? = some (.mapIter (some b) since seen c0) ∧ (∀ x ∈ es.toList, x.born < since) ∧ (leftOf es seen).size = cnt ∧ (∀ x ∈ es.toList, ∀ k, x.key = .int q k → left k = !seen.contains x.born) ∧ since ≤ c0 ∧ since ≤ clock
section
variable {P : Program} {W : World} {q : IntKind} {b r : Nat} {L : List (Int × Value)} {left : Int → Bool} {cnt : Nat} {t kt et : TypeId}
theorem RangeAt.map (h : RangeAt q W b r L left cnt) : MapAt q W b L := by
 obtain ⟨es, clock, since, seen, c0, h1, h2, h3, h4, h5, _⟩ := h
 exact ⟨es, clock, h1, h2, h3, h4, h5⟩
theorem RangeAt.left_eq (h : RangeAt q W b r L left cnt) : W.rangeLeft b r = cnt := by
 obtain ⟨es, clock, since, seen, c0, hb, _, _, _, _, hr, _, hc, _⟩ := h
 simp only [World.rangeLeft, hb, hr]
 exact hc
theorem RangeAt.ne (h : RangeAt q W b r L left cnt) : r ≠ b := by
 obtain ⟨es, clock, since, seen, c0, hb, _, _, _, _, hr, _⟩ := h
 intro e
 rw [e, hb] at hr
 cases hr
theorem RangeAt.lt (h : RangeAt q W b r L left cnt) : r < W.heap.size := by
 obtain ⟨es, clock, since, seen, c0, hb, _, _, _, _, hr, _⟩ := h
 exact (Array.getElem?_eq_some_iff.1 hr).1
theorem RangeAt.gr {W' : World} (h : RangeAt q W b r L left cnt) (g : Gr W W') : RangeAt q W' b r L left cnt := by
 have h1 := h.map.lt
 have h2 := h.lt
 obtain ⟨es, clock, since, seen, c0, hb, a1, a2, a3, a4, hr, rest⟩ := h
 exact ⟨es, clock, since, seen, c0, (g.below.block b h1).trans hb, a1, a2, a3, a4, (g.below.block r h2).trans hr, rest⟩
theorem isKey_int {v : Value} (h : IsKey (.int q) v) : ∃ k, v = .int q k := by
 cases v <;> simp [IsKey] at h
 subst h
 exact ⟨_, rfl⟩
theorem range_start (ht : P.underlying t = some (.map kt et)) (h : MapAt q W b L) :
  ∃ W' cnt, (Instr.range t (.map (some b))).run P W = .ok (.pointer (some ⟨W.heap.size, 0, none⟩)) W' ∧ RangeAt q W' b W.heap.size L (fun _ => true) cnt ∧ Gr W W' := by
 have hlt := h.lt
 obtain ⟨es, clock, hb, hst, hkk, hm, hs⟩ := h
 refine ⟨_, _, run_range_map W t kt et b es clock ht hb, ⟨es, clock, clock, #[], clock, ((MapKept.heap_alloc W _).2 b hlt).trans hb, hst, hkk, hm, hs, (MapKept.heap_alloc W _).1, hst.1, rfl, fun x _ k _ => by simp, Nat.le_refl _, Nat.le_refl _⟩, Gr.of ⟨rfl, rfl, rfl, by simp, fun k hk => (MapKept.heap_alloc W _).2 k hk⟩⟩
theorem RangeAt.next (h : RangeAt q W b r L left cnt) (ty : TypeId) :
  (cnt = 0 ∧ (∀ p ∈ L, left p.1 = false) ∧ (Instr.next (.pointer (some ⟨r, 0, none⟩)) false ty).run P W = .ok (.tuple #[.bool false]) W) ∨
  ∃ k v W' cnt', (k, v) ∈ L ∧ left k = true ∧ (Instr.next (.pointer (some ⟨r, 0, none⟩)) false ty).run P W = .ok (.tuple #[.bool true, .int q k, v]) W' ∧
   RangeAt q W' b r L (fun z => left z && z != k) cnt' ∧ cnt' < cnt ∧ OnlyB W W' r ∧ (Instr.entry (.pointer (some ⟨r, 0, none⟩))).run P W' = .ok (.tuple #[.int q k, v]) W' := by
 have hne := h.ne
 obtain ⟨es, clock, since, seen, c0, hb, hst, hkk, hm, hs, hr, hold, rfl, hl, hsc, hsk⟩ := h
 rcases _root_.Go.run_next_at (P := P) W ty r b since c0 seen es clock hr hb hold hsc with ⟨h0, hrun⟩ | ⟨e, he, w1, hal, hrun⟩
 ·refine .inl ⟨h0, fun p hp => ?_, hrun⟩
  obtain ⟨x, hx, e1, _⟩ := (hm p.1 p.2).2 hp
  rw [hl x hx p.1 e1, all_seen es seen h0 x hx]
  rfl
 ·obtain ⟨hem, hes⟩ := mem_left he
  obtain ⟨k, hk⟩ := isKey_int (hkk e hem)
  have hr1 : w1.heap[r]? = some (.mapIter (some b) since seen c0) := by rcases hal with rfl | rfl <;> exact hr
  have hb1 : w1.heap[b]? = some (.map es clock) := by rcases hal with rfl | rfl <;> exact hb
  have hset := heap_set (o' := .mapIter (some b) since (seen.push e.born) clock) hr1
  have hb' : (setBlock w1 r (.mapIter (some b) since (seen.push e.born) clock)).heap[b]? = some (.map es clock) := (hset.2 b (fun e1 => hne e1.symm)).trans hb1
  have hen := _root_.Go.run_entry_at (P := P) _ r b since seen es clock e hset.1 hb' hem hst.2.1
  rw [hk] at hrun hen
  refine .inr ⟨k, e.val, _, _, (hm k e.val).1 ⟨e, hem, hk, rfl⟩, by rw [hl e hem k hk, hes]; rfl, hrun, ⟨es, clock, since, seen.push e.born, clock, hb', hst, hkk, hm, hs, hset.1, hold, rfl, fun x hx j hj => ?_, hsk, hsk⟩, left_shrinks es seen e he, ⟨?_, ?_⟩, hen⟩
  ·show (left j && j != k) = _
   rw [hl x hx j hj, contains_push]
   have hbk : (j != k) = !(x.born == e.born) := by
    by_cases hjk : j = k
    ·have hxe : x = e := entry_eq_of_key ((stamped_iff es clock).1 hst).2.2 hx hem (by rw [hj, hk, hjk])
     simp [hjk, hxe]
    ·have hb2 : x.born ≠ e.born := fun e1 => hjk (by
      have := born_inj hst.2.1 hx hem e1
      rw [this, hk] at hj
      cases hj; rfl)
     rw [beq_eq_false_iff_ne.2 hb2]
     exact bne_iff_ne.2 hjk
   rw [hbk]
   cases seen.contains x.born <;> cases (x.born == e.born) <;> rfl
  ·rcases hal with rfl | rfl <;> exact ⟨rfl, rfl, rfl, by simp [setBlock], fun i _ hi => hset.2 i (fun e1 => hi (by rw [e1]))⟩
  ·rcases hal with rfl | rfl <;> simp [setBlock]
theorem RangeAt.drop (ht : P.underlying t = some (.map kt et)) (hk : P.underlying kt = some (.int q)) (h : RangeAt q W b r L left cnt) (k : Int) (ty : TypeId) :
  ∃ W' cnt', (Builtin.delete_ #[t, kt] ty #[.map (some b), .int q k]).run P W = .ok (.tuple #[]) W' ∧ RangeAt q W' b r (delK L k) left cnt' ∧ cnt' ≤ cnt ∧ OnlyB W W' b := by
 have hne := h.ne
 obtain ⟨es, clock, since, seen, c0, hb, hst, hkk, hm, hs, hr, hold, rfl, hl, hsc, hsk⟩ := h
 have hck := fun e => run_checkKey (P := P) (w := W) (k := .int q k) hk rfl e 9999
 have hgo := MapKept.run_getObj_map (P := P) hb
 have hso := fun o => MapKept.run_setObj_map (P := P) o hb
 have hdel : ∀ p, p ∈ delK L k ↔ p ∈ L ∧ p.1 ≠ k := fun p => by simp [delK]
 have e1 : ∀ a : Array MapEntry, (leftOf a seen).size = (a.toList.filter fun e => !seen.contains e.born).length := fun a => by
  unfold leftOf
  rw [← Array.toList_filter, Array.length_toList]
 rcases mapAt_find hkk hm hs k with ⟨hg, hf, hne'⟩ | ⟨i, e, hf, hi, hek, hg⟩
 ·have hfk := run_findKey (P := P) (w := W) hk hf
  refine ⟨_, _, ?_, ⟨es, clock, since, seen, c0, (heap_set hb).1, hst, hkk, fun j u => ?_, sort_delK hs, ((heap_set hb).2 r hne).trans hr, hold, rfl, hl, hsc, hsk⟩, Nat.le_refl _, only_set hb⟩
  ·simp [Builtin.delete_, Sem.run_bind, run_underlying ht W, hgo, hck, hfk, hso]
  ·rw [hdel, hm j u]
   exact ⟨fun h => ⟨h, fun e => getK_none.1 hg _ h e⟩, fun h => h.1⟩
 ·have hfk := run_findKey (P := P) (w := W) hk hf
  have hi' : es[i]? = some e := by rw [← Array.getElem?_toList]; exact hi
  have hil : i < es.size := (Array.getElem?_eq_some_iff.1 hi').1
  have hel : (es.eraseIdxIfInBounds i).toList = es.toList.eraseIdx i := by
   unfold Array.eraseIdxIfInBounds
   rw [dif_pos hil]; simp
  have hmem : ∀ x, x ∈ (es.eraseIdxIfInBounds i).toList ↔ x ∈ es.toList ∧ x.key ≠ .int q k := fun x => by
   rw [hel, List.mem_eraseIdx_iff_getElem?]
   constructor
   ·rintro ⟨j, hj, hx⟩
    exact ⟨List.mem_of_getElem? hx, fun he => hj (keys_inj hst.2.2 hx hi (by rw [hek, he]))⟩
   ·rintro ⟨hx, hne⟩
    obtain ⟨j, hj⟩ := List.mem_iff_getElem?.1 hx
    exact ⟨j, (by rintro rfl; rw [hi] at hj; cases hj; exact hne hek), hj⟩
  refine ⟨_, _, ?_, ⟨es.eraseIdxIfInBounds i, clock, since, seen, c0, (heap_set hb).1, stamped_erase hst i, fun x hx => hkk x ((hmem x).1 hx).1, fun j u => ?_, sort_delK hs, ((heap_set hb).2 r hne).trans hr, fun x hx => hold x ((hmem x).1 hx).1, rfl, fun x hx => hl x ((hmem x).1 hx).1, hsc, hsk⟩, ?_, only_set hb⟩
  ·simp [Builtin.delete_, Sem.run_bind, run_underlying ht W, hgo, hck, hfk, hso]
  ·rw [hdel, ← hm j u]
   constructor
   ·rintro ⟨x, hx, e1, e2⟩
    have h1 := (hmem x).1 hx
    exact ⟨⟨x, h1.1, e1, e2⟩, fun h => h1.2 (e1.trans (by have : j = k := h; rw [this]))⟩
   ·rintro ⟨⟨x, hx, e1, e2⟩, h2⟩
    exact ⟨x, (hmem x).2 ⟨hx, by rw [e1]; intro h; cases h; exact h2 rfl⟩, e1, e2⟩
  ·rw [e1, e1, hel]
   exact ((List.eraseIdx_sublist _ _).filter _).length_le
end
section
variable {P : Program} {ops : Array Oper} {rest : List Oper} {o : Oper} {a : Act} {Q : Exit → Act → World → Prop} {W : World} {q : IntKind} {b r : Nat} {L : List (Int × Value)} {left : Int → Bool} {cnt : Nat} {t kt et : TypeId}
theorem wpList_rangeK (hgd : o.guard = none) (m : Operand) (ho : o.op = .range t m) (ht : P.underlying t = some (.map kt et)) (hm : MapAt q W b L) (hm2 : a.eval m = .map (some b))
  (h : ∀ W' cnt, RangeAt q W' b W.heap.size L (fun _ => true) cnt → Gr W W' → wpList P ops Q rest (a.put o.dst (.pointer (some ⟨W.heap.size, 0, none⟩))) W') : wpList P ops Q (o :: rest) a W := by
 refine wpList_plain hgd fun K hK => ?_
 obtain ⟨W', cnt, hrun, h1, h2⟩ := range_start (P := P) ht hm
 unfold Oper.wp
 simp [execOp, ho, hm2, hrun, Result.andThen]
 exact hK _ _ (h W' cnt h1 h2)
theorem wpList_nextK (hgd : o.guard = none) (it : Operand) (ho : o.op = .next it false) (hit : a.eval it = .pointer (some ⟨r, 0, none⟩)) (h : RangeAt q W b r L left cnt)
  (hDone : cnt = 0 → (∀ p ∈ L, left p.1 = false) → wpList P ops Q rest (a.put o.dst (.tuple #[.bool false])) W)
  (hMore : ∀ (k : Int) (v : Value) (W' : World) (cnt' : Nat), (k, v) ∈ L → left k = true → RangeAt q W' b r L (fun z => left z && z != k) cnt' → cnt' < cnt → OnlyB W W' r → (Instr.entry (.pointer (some ⟨r, 0, none⟩))).run P W' = .ok (.tuple #[.int q k, v]) W' → wpList P ops Q rest (a.put o.dst (.tuple #[.bool true, .int q k, v])) W') : wpList P ops Q (o :: rest) a W := by
 refine wpList_plain hgd fun K hK => ?_
 unfold Oper.wp
 rcases h.next (P := P) o.type with ⟨h0, hl, hrun⟩ | ⟨k, v, W', cnt', h1, h2, hrun, h3, h4, h5, h6⟩
 ·simp [execOp, ho, hit, hrun, Result.andThen]
  exact hK _ _ (hDone h0 hl)
 ·simp [execOp, ho, hit, hrun, Result.andThen]
  exact hK _ _ (hMore k v W' cnt' h1 h2 h3 h4 h5 h6)
theorem wpList_dropK (hgd : o.guard = none) (m x : Operand) (ho : o.op = .call { callee := .builtin .delete, args := #[m, x], argTypes := #[t, kt] }) (key : Int) (ht : P.underlying t = some (.map kt et)) (hk : P.underlying kt = some (.int q)) (hm : RangeAt q W b r L left cnt) (hm2 : a.eval m = .map (some b)) (hx : a.eval x = .int q key)
  (h : ∀ W' cnt', RangeAt q W' b r (delK L key) left cnt' → cnt' ≤ cnt → OnlyB W W' b → wpList P ops Q rest (a.put o.dst (.tuple #[])) W') : wpList P ops Q (o :: rest) a W := by
 refine wpList_plain hgd fun K hK => ?_
 obtain ⟨W', cnt', hrun, h1, h2, h3⟩ := RangeAt.drop (P := P) ht hk hm key o.type
 unfold Oper.wp
 simp [execOp, ho, resolve, invoke, builtin, hm2, hx, hrun, Result.andThen]
 exact hK _ _ (h W' cnt' h1 h2 h3)
end
end Go.Proofs.YtddckdhnolmjoaaGreat
namespace Go.Proofs.YtddckdhnolmjoaaGreat
open Go.RowKit
theorem sizeF_any (k s : Int) (X : Byt) (hX : X.length = 256) (V : Nat) (w : World) [hV : Old V w] (c0 : w.cell? ⟨V, 0, none⟩ = some (.int .i64 s)) :
  Calls Tryz.prog 73 #[.int .i64 k, .agg (bkC X), .pointer (some ⟨V, 0, none⟩)] w fun e w' => e = .returned (.bool (decide (s ≤ k))) ∧ Gr w w' := by
 have hXr := bkC_row hX
 go_enter Tryz.func73, Tryz.ntmps73
 go_wp2
 go_ret
 exact ⟨rfl, gri⟩
def leftF (s : Int) (left : Int → Bool) (L : List (Int × Byt)) : List (Int × Byt) := L.filter fun p => left p.1 || decide (p.1 < s)
theorem leftF_start (s : Int) (m : List (Int × Byt)) : leftF s (fun _ => true) m = m := by
 unfold leftF
 rw [List.filter_eq_self]
 intro p _
 rfl
theorem grownBy_gr {w W : World} {row : Option Nat} (g : Gr w W) : w.grownBy W row := ⟨g.below.os, g.below.tape, g.below.output, g.below.size, fun i hi _ => g.below.block i hi⟩
theorem leftF_mem {s : Int} {left : Int → Bool} {m : List (Int × Byt)} {k : Int} {v : Value} (h : (k, v) ∈ encK bkV (leftF s left m)) : ∃ B, (k, B) ∈ m ∧ v = .agg (bkC B) := by
 obtain ⟨p, hp, e⟩ := List.mem_map.1 h
 cases e
 exact ⟨p.2, (List.mem_filter.1 hp).1, rfl⟩
theorem leftF_end {s : Int} {left : Int → Bool} {m : List (Int × Byt)} (h : ∀ p ∈ encK bkV (leftF s left m), left p.1 = false) : leftF s left m = m.filter fun p => decide (p.1 < s) := by
 unfold leftF
 refine List.filter_congr fun p hp => ?_
 cases hl : left p.1
 ·simp
 ·have h1 : (p.1, bkV p.2) ∈ encK bkV (leftF s left m) := List.mem_map.2 ⟨p, List.mem_filter.2 ⟨hp, by simp [hl]⟩, rfl⟩
  rw [h _ h1] at hl
  cases hl
theorem leftF_stays {s : Int} {left : Int → Bool} {m : List (Int × Byt)} {k : Int} (hk : ¬ s ≤ k) : leftF s (fun z => left z && z != k) m = leftF s left m := by
 unfold leftF
 refine List.filter_congr fun p hp => ?_
 show ((left p.1 && p.1 != k) || decide (p.1 < s)) = (left p.1 || decide (p.1 < s))
 by_cases e : p.1 = k
 ·have : p.1 < s := by omega
  simp [this]
 ·rw [bne_iff_ne.2 e, Bool.and_true]
theorem leftF_struck {s : Int} {left : Int → Bool} {m : List (Int × Byt)} {k : Int} (hk : s ≤ k) : delK (leftF s left m) k = leftF s (fun z => left z && z != k) m := by
 unfold leftF delK
 rw [List.filter_filter]
 refine List.filter_congr fun p hp => ?_
 show ((p.1 != k) && (left p.1 || decide (p.1 < s))) = ((left p.1 && p.1 != k) || decide (p.1 < s))
 by_cases e : p.1 = k
 ·have h1 : decide (p.1 < s) = false := decide_eq_false (by omega)
  have h2 : (p.1 != k) = false := by simp [e]
  rw [h1, h2]
  simp
 ·rw [bne_iff_ne.2 e, Bool.and_true, Bool.true_and]
theorem deleteFunc_any (s : Int) (b V : Nat) (m : List (Int × Byt)) (w : World) (h : MapAt .i64 w b (encK bkV m)) (hl : ∀ p ∈ m, p.2.length = 256) [hV : Old V w] (c0 : w.cell? ⟨V, 0, none⟩ = some (.int .i64 s)) (hVb : V ≠ b) :
  Calls Tryz.prog 72 #[.map (some b), .func (.func 73) #[] #[.pointer (some ⟨V, 0, none⟩)]] w fun e w' => e = .returned (.tuple #[]) ∧ MapAt .i64 w' b (encK bkV (m.filter fun p => decide (p.1 < s))) ∧ w.grownBy w' (some b) := by
 have HL := hd_ hl
 have HM := hd_ h
 clear hl h
 go_enter Tryz.func72, Tryz.ntmps72
 go_wp2_with (at_range; refine wpList_rangeK rfl _ rfl Tryz.underlying62 HM.out rfl ?_; intro w0 cnt0 hrg0 hg0)
 go_frame
 go_loopw [8] (fun _ wr => ∃ left cnt, RangeAt .i64 wr b w.heap.size (encK bkV (leftF s left m)) left cnt ∧ w.grownBy wr (some b)) (fun _ wr => wr.rangeLeft b w.heap.size)
 case atStart => exact ⟨_, _, by rw [leftF_start]; exact hrg0, grownBy_gr hg0⟩
 case round =>
  obtain ⟨left, cnt, hrg, hgw⟩ := hrel
  have HR := hd_ hrg
  have HG := hd_ hgw
  go_wp2_with (first | (at_next; refine wpList_nextK rfl _ rfl rfl HR.out ?_ ?_) | go_in)
  ·intro _ hl0
   go_wp2
   go_end0
   exact ⟨rfl, by rw [← leftF_end (fun p hp => hl0 p.1 p.2 hp)]; exact HR.out.map, HG.out⟩
  ·intro k v w1 cnt1 hmem hlk hrg1 hlt hob hen
   obtain ⟨B, hB, rfl⟩ := leftF_mem hmem
   have hB2 := HL.out _ hB
   haveI := bkC_row hB2
   have hg1 : w.grownBy w1 (some b) := HG.out.andThen hob.1 (fun j hj => by cases hj; exact .inl (Nat.le_refl _))
   have c1 : w1.cell? ⟨V, 0, none⟩ = some (.int .i64 s) := (World.cell?_of_block (hg1.block V hV.lt (fun e => hVb (by cases e; rfl)))).trans c0
   haveI : Old V w1 := ⟨Nat.lt_of_lt_of_le hV.lt hg1.size⟩
   have HF : Hid (∀ W, Gr w1 W → Calls Tryz.prog 73 #[.int .i64 k, .agg (bkC B), .pointer (some ⟨V, 0, none⟩)] W fun e w' => e = .returned (.bool (decide (s ≤ k))) ∧ Gr W w') := hd_ fun W g => by
    haveI : Old V W := ⟨Nat.lt_of_lt_of_le Old.lt g.below.size⟩
    exact sizeF_any k s B hB2 V W ((g.below.cell (p := ⟨V, 0, none⟩) (Old.lt (b := V) (W := w1))).trans c1)
   have HG1 := hd_ hg1
   have HRl := hd_ hrg1
   have HRo := hd_ hrg
   have HLT := hd_ hlt
   clear hg1 hrg1 hrg hgw hlt hob hmem hlk HR
   by_cases hsk : s ≤ k
   ·have hd : decide (s ≤ k) = true := decide_eq_true hsk
    rw [hd] at HF
    go_wp2_with (first | (refine wpStoreB rfl _ _ rfl _ _ _ rfl rfl inferInstance inferInstance inferInstance ?_) | (refine wpLoadB rfl _ rfl _ _ rfl inferInstance inferInstance ?_) | (go_at_call 73; ((with_reducible refine (HF.out _ gri).mono ?_); rintro _ _ ⟨rfl, g1, rfl⟩)) | (at_delete; refine wpList_dropK rfl _ _ rfl k Tryz.underlying62 Tryz.underlying3 (HRl.out.gr gri) rfl rfl ?_; intro w3 cnt3 hrg3 hle hob3; go_frame) | go_in)
    go_roundw
    case rel => exact ⟨fun z => left z && z != k, _, by rw [← leftF_struck hsk, ← delK_enc]; exact hrg3, (HG1.out.andThen (grownBy_gr (row := none) gri) (fun j hj => by cases hj)).andThen hob3.1 (fun j hj => .inr hj)⟩
    case measure => rw [hrg3.left_eq, HRo.out.left_eq]; have := HLT.out; omega
   ·have hd : decide (s ≤ k) = false := decide_eq_false hsk
    rw [hd] at HF
    go_wp2_with (first | (refine wpStoreB rfl _ _ rfl _ _ _ rfl rfl inferInstance inferInstance inferInstance ?_) | (refine wpLoadB rfl _ rfl _ _ rfl inferInstance inferInstance ?_) | (go_at_call 73; ((with_reducible refine (HF.out _ gri).mono ?_); rintro _ _ ⟨rfl, g1, rfl⟩)) | go_in)
    have hr2 := HRl.out.gr (gri : Gr w1 (grown ((w1.alloc (Obj.cells Tryz.zeroCells66 66)).setRow w1.heap.size (bkC B)) g1))
    go_roundw
    case rel => exact ⟨fun z => left z && z != k, _, by rw [leftF_stays (by omega)]; exact hr2, HG1.out.andThen (grownBy_gr (row := none) gri) (fun j hj => by cases hj)⟩
    case measure => rw [hr2.left_eq, HRo.out.left_eq]; exact HLT.out
theorem grownBy_split {w W : World} {b : Nat} (h : w.grownBy W (some b)) : ∃ W2, OnlyB w W2 b ∧ Gr W2 W ∧ (b < w.heap.size → W2.heap[b]? = W.heap[b]?) := by
 have hsz : (W.heap.extract 0 w.heap.size).size = w.heap.size := by have := h.size; simp; omega
 have hg : ∀ i, i < w.heap.size → (W.heap.extract 0 w.heap.size)[i]? = W.heap[i]? := fun i hi => by
  have := h.size
  rw [Array.getElem?_eq_getElem (by omega), Array.getElem?_eq_getElem (by omega)]
  simp
 refine ⟨{ W with heap := W.heap.extract 0 w.heap.size }, ⟨⟨h.os, h.tape, h.output, Nat.le_of_eq hsz.symm, fun i hi hr => (hg i hi).trans (h.block i hi hr)⟩, hsz⟩, Gr.of ⟨rfl, rfl, rfl, by show (W.heap.extract 0 w.heap.size).size ≤ _; rw [hsz]; exact h.size, fun i hi => ?_⟩, hg b⟩
 have hi2 : i < w.heap.size := hsz ▸ hi
 exact (hg i hi2).symm
theorem resize_any (xv xt xs xa xc most : Int) (xD : Option Addr) (xn xq : Nat) (hn : xn ≤ 1000000) (base D : Nat) (d : Dev) (w : World) (h : DevAt base w D d) (hbase : base ≤ w.heap.size) (x : VolM) (hv : getK d xv = some x) (hok : DevOk (putK d xv (xs, x.2.filter fun p => decide (p.1 < xs)))) :
  Calls Tryz.prog 40 #[.pointer (some ⟨D, 0, none⟩), .agg #[.int .i64 3, .int .u64 xv, .int .u64 xt, .int .i64 xs, .int .i64 xa, .int .i64 xc, .slice xD xn xq], .int .i64 most] w (OpPost base D (putK d xv (xs, x.2.filter fun p => decide (p.1 < xs))) 0 0 w) := by
 obtain ⟨M, mb, h⟩ := h
 haveI := h.blk
 have x0 : w.cell? ⟨D, 0, none⟩ = some (.map (some M)) := (bc 0 h.blk).trans rfl
 haveI : Old D w := h.blk.old
 have HD := hd_ h
 have HOK := hd_ hok
 have hlk := look_vol1 h xv _ hv
 simp only [volV] at hlk
 have HX := hd_ (h.ok.vols _ ((getK_mem h.ok.sort).1 hv))
 have HM := hd_ (h.vol _ ((getK_mem h.ok.sort).1 hv))
 have HV := hd_ hv
 clear h hv hok
 go_enter Tryz.func40, Tryz.ntmps40
 go_wp2
 refine wp_region_all [0, 1, 2, 3, 4, 5, 6] [7] [8] (by kernel_rfl) (by kernel_rfl) ?_
 simp only [pick, List.drop, List.take, List.nil_append, List.cons_append]
 repeat (refine wpCalm_step (fun K hK => ?_); go_simp; first | (refine hK _ ?_; clear hK K) | (apply Exists.intro; refine ⟨fun _ => ?_, hK _ ?_⟩; (skip); clear hK K))
 refine wpCalm_nil ?_
 refine ⟨_, _, _, allocOp_alloc rfl rfl Tryz.zeroValue64, fun b1_0 hb1_0 nb1_0 => ?_⟩
 simp only [Act.put, stA, List.set]
 refine ⟨_, _, _, b1_0, #[.int .i64 0, .map none], _, #[.int .i64 x.1, .map (some (mb xv))], rfl, rfl, rfl, mcs, ?hu, hb1_0, rfl, rfl, rfl, rfl, [(b1_0, #[.int .i64 x.1, .map (some (mb xv))], 64)], ?hs, ?_⟩
 case hu =>
  intro z hz e
  rcases List.mem_cons.1 hz with rfl | hz
  ·rfl
  cases hz
 case hs =>
  intro z
  constructor
  ·intro hz
   rcases List.mem_cons.1 hz with rfl | hz
   ·exact .inl rfl
   cases hz
  ·rintro (rfl | ⟨hz, hne⟩)
   ·exact mcs
   rcases List.mem_cons.1 hz with rfl | hz
   ·exact absurd rfl hne
   cases hz
 intro w1 hw1
 have cb1_0 : ∀ o, w1.cell? ⟨b1_0, o, none⟩ = (#[.int .i64 x.1, .map (some (mb xv))] : Array Value)[o]? := mix_cell hw1 mcs
 haveI kb1_0 : BlockAt w1 b1_0 #[.int .i64 x.1, .map (some (mb xv))] 64 := ⟨hw1.2 _ mcs⟩
 have fb1_0 : ∀ o, w1.frozen? ⟨b1_0, o, none⟩ = false := mix_frozen hw1 mcs
 have ob1_0 : Old b1_0 w1 := mix_old hw1 mcs
 have qb1_0 := @fresh_ne _ _ hb1_0
 have rb1_0 := @fresh_en _ _ hb1_0
 have lb1_0 := fresh_le hb1_0 w.heap.size
 obtain ⟨⟨g1, rfl⟩, hbs⟩ := hw1
 clear hbs nb1_0
 have hMl : M < w.heap.size := HD.out.all.lt
 have hml : mb xv < w.heap.size := HM.out.lt
 haveI : Past w b1_0 := ⟨lb1_0⟩
 haveI : BNe (w.heap.size + 1) b1_0 := ⟨of_eq_false (qb1_0 (w.heap.size + 1))⟩
 haveI : BNe w.heap.size b1_0 := ⟨of_eq_false (qb1_0 w.heap.size)⟩
 go_wp2_with (first | (go_at_call 71; ((with_reducible refine (part_3 _ _ _ _ _ _ _ _ (by omega) _).mono ?_); rintro _ _ ⟨rfl, g2, rfl⟩)) | (go_at_call 72; ((with_reducible refine (deleteFunc_any xs (mb xv) b1_0 x.2 _ (HM.out.gr gri) (fun p hp => HX.out.len p hp) (by go_simp) (by omega)).mono ?_); rintro _ W2 ⟨rfl, hm2, hg2⟩)))
 have gW : Gr w (World.setCell (grown _ g2) ⟨b1_0, 0, none⟩ (.int .i64 xs)) := gri
 have kA : BlockAt (World.setCell (grown _ g2) ⟨b1_0, 0, none⟩ (.int .i64 xs)) (w.heap.size + 1) #[.int .i64 0, .int .i64 0, .slice none 0 0] 38 := inferInstance
 have kO : BlockAt (World.setCell (grown _ g2) ⟨b1_0, 0, none⟩ (.int .i64 xs)) w.heap.size #[.int .i64 3, .int .u64 xv, .int .u64 xt, .int .i64 xs, .int .i64 xa, .int .i64 xc, .slice xD xn xq] 27 := inferInstance
 have kV : BlockAt (World.setCell (grown _ g2) ⟨b1_0, 0, none⟩ (.int .i64 xs)) b1_0 #[.int .i64 xs, .map (some (mb xv))] 64 := inferInstance
 obtain ⟨Wm, hob, hgm, hbm⟩ := grownBy_split hg2
 generalize World.setCell (grown _ g2) ⟨b1_0, 0, none⟩ (.int .i64 xs) = W1 at *
 have hmW1 := HM.out.gr gW
 have hmm : MapAt .i64 Wm (mb xv) (encK bkV (x.2.filter fun p => decide (p.1 < xs))) := hm2.keep (hbm hmW1.lt)
 have hck1 := ((CK.gr gW).trans (CK.only hmW1 hob)).trans (CK.gr hgm)
 have hDm := (HD.out.gr gW).inner xv x HV.out (x.2.filter fun p => decide (p.1 < xs)) hmm hob (filter_ok HX.out _ _ HX.out.s0 HX.out.s1 (fun p hp _ => (HX.out.keys p hp).2))
 have hD2 := hDm.gr hgm
 have k2A := BlockAt.gr (hob.blockM hmW1 kA) hgm
 have k2O := BlockAt.gr (hob.blockM hmW1 kO) hgm
 have k2V := BlockAt.gr (hob.blockM hmW1 kV) hgm
 have hbw : Below base w W2 := (hob.below (HD.out.bV (xv, x) ((getK_mem HD.out.ok.sort).1 HV.out)) hmW1.lt (gW.below.mono hbase)).trans (hgm.below.mono (by have := hob.2; have := gW.below.size; omega))
 have hsz2 : w.heap.size + 2 ≤ W2.heap.size := Nat.lt_of_le_of_lt (Nat.le_refl _) k2A.lt
 have x02 : W2.cell? ⟨D, 0, none⟩ = some (.map (some M)) := (bc 0 hD2.blk).trans rfl
 have xO1 : W2.cell? ⟨w.heap.size, 1, none⟩ = some (.int .u64 xv) := (bc 1 k2O).trans rfl
 have xV0 : W2.cell? ⟨b1_0, 0, none⟩ = some (.int .i64 xs) := (bc 0 k2V).trans rfl
 have xV1 : W2.cell? ⟨b1_0, 1, none⟩ = some (.map (some (mb xv))) := (bc 1 k2V).trans rfl
 haveI : Old D W2 := hD2.blk.old
 haveI : Old w.heap.size W2 := k2O.old
 haveI : Old b1_0 W2 := k2V.old
 have HD2 := hd_ hD2
 have KA2 := hd_ k2A
 have HM2 := hd_ (hmm.gr hgm)
 have HB2 := hd_ hbw
 clear hD2 hmm k2A k2O k2V hbw hDm hmW1 hbm hob hm2 hg2 kA kO kV gW
 refine wp_region_treeT (inCls_ghost _) (Cls.none _) ⟨Gr.of ((Below.refl _ _).drew), trivial⟩ [0, 1, 2, 3, 4, 5, 6] 0 7 (by kernel_rfl) (by kernel_rfl) ?_
 simp only [pick, List.drop, List.take, List.nil_append, List.cons_append]
 repeat (refine wpCalm_step (fun K hK => ?_); go_simp; first | (refine hK _ ?_; clear hK K) | (apply Exists.intro; refine ⟨fun _ => ?_, hK _ ?_⟩; (skip); clear hK K))
 refine wpCalm_nil ?_
 refine ft_end ⟨by kernel_rfl, fun w2 hw2 => ?_⟩
 try simp only [List.drop_succ_cons, List.drop_zero]
 have g3 : Gr W2 w2 := Gr.trans gri hw2.1
 refine wpList_updateK rfl _ _ _ rfl xv _ Tryz.underlying53 Tryz.underlying24 (HD2.out.all.gr g3) rfl rfl rfl fun W' h1 h2 => ?_
 have HD' := HD2.out.put g3 xv (xs, x.2.filter fun p => decide (p.1 < xs)) (mb xv) (HM2.out.gr g3) (.inr ⟨rfl, _, (getK_mem HD2.out.ok.sort).1 (getK_put_self HD.out.ok.sort _ _)⟩) h1 h2 (by rw [putK_putK _ _ _ _ HD.out.ok.sort]; exact HOK.out) (by omega)
 rw [putK_putK _ _ _ _ HD.out.ok.sort] at HD'
 haveI hB1 : BlockAt W' (w.heap.size + 1) #[.int .i64 0, .int .i64 0, .slice none 0 0] 38 := h2.blockAt (BlockAt.gr KA2.out g3) (by omega)
 have hck := (hck1.trans (CK.gr g3)).trans (CK.only (HD2.out.all.gr g3) h2)
 have hbel : Below base w W' := h2.below HD.out.bM (by have := g3.below.size; omega) (HB2.out.trans (g3.below.mono (by omega)))
 have z0 : W'.cell? ⟨w.heap.size + 1, 0, none⟩ = some (.int .i64 0) := (bc 0 hB1).trans rfl
 have z1 : W'.cell? ⟨w.heap.size + 1, 1, none⟩ = some (.int .i64 0) := (bc 1 hB1).trans rfl
 have z2 : W'.cell? ⟨w.heap.size + 1, 2, none⟩ = some (.slice none 0 0) := (bc 2 hB1).trans rfl
 have f0 : ∀ o, W'.frozen? ⟨w.heap.size + 1, o, none⟩ = false := fun o => @block_frozen _ _ o _ _ hB1
 have HN := hd_ HD'
 have HB := hd_ hbel
 have HCK := hd_ hck
 clear HD' hbel hck
 clear h1 h2 hw2 g3 hMl
 simp only [Act.put]
 go_wp2
 exact bodyPost_ret (run_resCell1 rfl _ _ _ _ rfl (ans_block hB1 _ _ _) Tryz.underlying38 rfl (by kernel_rfl)) rfl ⟨rfl, ans_dev HN.out hB1 (by decide) _ _ _, ans_below HB.out (by omega) _ _ _, ck_ans HCK.out (by omega) _ _ _⟩
end Go.Proofs.YtddckdhnolmjoaaGreat
