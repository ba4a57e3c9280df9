/- The reference's device: Part of create, delete, snap, resize, discard. Conditions: as XRDo0. The reference's device: Part of .. -/
import Derived.Test.YtddckdhnolmjoaaGreatW08
import Derived.Test.YtddckdhnolmjoaaGreatW06
import Derived.Test.YtddckdhnolmjoaaGreatW03
import Derived.LoopTactic
set_option linter.unusedVariables false
set_option linter.unusedSimpArgs false
set_option linter.unnecessarySimpa false
set_option maxRecDepth 100000
set_option maxHeartbeats 8000000
namespace Go.Proofs.YtddckdhnolmjoaaGreat
open Go.RowKit
theorem rpart_1 (xv xt xs xa xc most : Int) (xD : Option Addr) (xn xq : Nat) (lx : Byt) (hxn : lx.length = xn) (base R : Nat) (d : Dev) (w : World) (h : RefAt base w R d) (hbase : base ≤ w.heap.size) (hl : d.length ≤ 1000000) (hn : xn ≤ 1000000) (v0 : 0 ≤ xv) (t0 : 0 ≤ xt) (he : errK d ⟨1, xv, xt, xs, xa, xc, lx⟩ = 0) (hg : getK d xv = none) (hok : DevOk (putK d xv (xs, []))) :
  Calls Tryz.prog 18 #[.pointer (some ⟨R, 0, none⟩), .agg #[.int .i64 1, .int .u64 xv, .int .u64 xt, .int .i64 xs, .int .i64 xa, .int .i64 xc, .slice xD xn xq], .int .i64 most] w (RPost base R (putK d xv (xs, [])) 0 0 [] w) := by
 have HR := hd_ (fun W (g : Gr w W) => rrefused_any 1 xv xt xs xa xc xD xn xq lx hxn base R d W (h.gr g) hl hn v0 t0)
 have HF := hd_ (fun W (g : Gr w W) => rfind_any base R d xv W (h.gr g) hl)
 rw [he] at HR
 obtain ⟨v, vf, hI⟩ := h
 have HI := hd_ hI
 have HB := fun W (g : Gr w W) => Nat.le_trans hbase g.below.size
 have HA := hd_ (fun W (g : Gr w W) => add_rc (s := xs) (HI.out.gr g) (BlkS.nil W) hg hl (HB W g) hok)
 rw [idx_no hg] at HF
 clear hI he hg hok
 go_enter Tryz.func18, Tryz.ntmps18
 go_wp2_with (first | (go_at_call 45; ((with_reducible refine (HR.out _ gri).mono ?_); rintro _ _ ⟨rfl, g1, rfl⟩)) | (go_at_call 46; ((with_reducible refine (HF.out _ gri).mono ?_); rintro _ _ ⟨rfl, g2, rfl⟩)) | (go_at_call 47; ((with_reducible refine (HA.out _ gri).mono ?_); rintro _ W3 ⟨rfl, hr3, hk3, hb3⟩; have b8 := hk3.block (inferInstance : BlockAt _ (grown _ g1).heap.size #[.int .i64 0, .int .i64 0, .slice none 0 0] 38) (by unfold refT; decide); have b6 := hk3.block (inferInstance : BlockAt _ (w.heap.size + 1) #[.int .i64 0, .int .i64 0, .slice none 0 0] 38) (by unfold refT; decide); haveI := b8; haveI := b6; haveI := b8.old; haveI := b6.old; have p0 : W3.cell? ⟨(grown _ g1).heap.size, 0, none⟩ = some (.int .i64 0) := (bc 0 b8).trans rfl; have p1 : W3.cell? ⟨(grown _ g1).heap.size, 1, none⟩ = some (.int .i64 0) := (bc 1 b8).trans rfl; have p2 : W3.cell? ⟨(grown _ g1).heap.size, 2, none⟩ = some (.slice none 0 0) := (bc 2 b8).trans rfl; have q0 : W3.cell? ⟨w.heap.size + 1, 0, none⟩ = some (.int .i64 0) := (bc 0 b6).trans rfl; have q1 : W3.cell? ⟨w.heap.size + 1, 1, none⟩ = some (.int .i64 0) := (bc 1 b6).trans rfl; have q2 : W3.cell? ⟨w.heap.size + 1, 2, none⟩ = some (.slice none 0 0) := (bc 2 b6).trans rfl; have fz : ∀ o, W3.frozen? ⟨w.heap.size + 1, o, none⟩ = false := fun o => @block_frozen _ _ o _ _ b6; have hw3 : RK w W3 := (RK.gr gri).trans hk3; have hb4 : Below base w W3 := ((show Gr w _ from gri).below.mono hbase).trans hb3; have HW3 := hd_ hw3; have HB4 := hd_ hb4; have HR3 := hd_ hr3; clear hw3 hb4 hr3 hk3 hb3)))
 obtain ⟨v3, vf3, hd3⟩ := HR3.out
 exact bodyPost_ret (run_resCell1 rfl _ _ _ _ rfl (ans_block b6 _ _ _) Tryz.underlying38 rfl (by kernel_rfl)) rfl ⟨none, 0, 0, rfl, OwnN.nil _ _, ans_ref hd3 b6 _ _ _, ans_below HB4.out (by omega) _ _ _, ans_rk HW3.out (by omega) _ _ _⟩
theorem rpart_2 (xv xt xs xa xc most : Int) (xD : Option Addr) (xn xq : Nat) (lx : Byt) (hxn : lx.length = xn) (base R : Nat) (d : Dev) (w : World) (h : RefAt base w R d) (hbase : base ≤ w.heap.size) (hl : d.length ≤ 1000000) (hn : xn ≤ 1000000) (v0 : 0 ≤ xv) (t0 : 0 ≤ xt) (he : errK d ⟨2, xv, xt, xs, xa, xc, lx⟩ = 0) (x : VolM) (hx : getK d xv = some x) :
  Calls Tryz.prog 18 #[.pointer (some ⟨R, 0, none⟩), .agg #[.int .i64 2, .int .u64 xv, .int .u64 xt, .int .i64 xs, .int .i64 xa, .int .i64 xc, .slice xD xn xq], .int .i64 most] w (RPost base R (delK d xv) 0 0 [] w) := by
 have HR := hd_ (fun W (g : Gr w W) => rrefused_any 2 xv xt xs xa xc xD xn xq lx hxn base R d W (h.gr g) hl hn v0 t0)
 have HF := hd_ (fun W (g : Gr w W) => rfind_any base R d xv W (h.gr g) hl)
 rw [he] at HR
 obtain ⟨v, vf, hI⟩ := h
 have HI := hd_ hI
 have HB := fun W (g : Gr w W) => Nat.le_trans hbase g.below.size
 obtain ⟨i, hi, hdi, hil⟩ := idx_get hx
 rw [hi] at HF
 obtain ⟨g, c, rfl, hbg, hgl, hne, hc1, hc2, hty, hcl⟩ := hI.form (by rintro rfl; simp at hil)
 obtain ⟨c0, c1, c2⟩ := hcl i _ hdi
 simp only at c0 c1 c2
 rw [Nat.add_zero] at c0
 have x0 : w.cell? ⟨R, 0, none⟩ = some (.slice (some ⟨g, 0, none⟩) d.length c) := (bc 0 hI.blk).trans rfl
 haveI := hI.blk
 haveI : Old R w := hI.blk.old
 haveI : Old g w := ⟨hgl⟩
 have HDI := hd_ hdi
 have HX := hd_ hx
 have HV := hd_ (hI.vol _ (List.mem_of_getElem? hdi))
 obtain ⟨N, hN⟩ : ∃ N, N = d.length := ⟨_, rfl⟩
 rw [← hN] at x0 hil hc1
 rw [← hN] at HI
 have HN := hd_ hN
 have HL := hd_ hl
 clear hcl hdi hi hI he hx hN hl
 go_enter Tryz.func18, Tryz.ntmps18
 go_wp2_with (first | (go_at_call 45; ((with_reducible refine (HR.out _ gri).mono ?_); rintro _ _ ⟨rfl, g1, rfl⟩)) | (go_at_call 46; ((with_reducible refine (HF.out _ gri).mono ?_); rintro _ _ ⟨rfl, g2, rfl⟩)))
 obtain ⟨A0, hA0⟩ : ∃ A0, A0 = (grown _ g1).heap.size := ⟨_, rfl⟩
 have hA1 : w.heap.size + 1 < A0 := by
  rw [hA0]
  exact (inferInstance : Old (w.heap.size + 1) (grown _ g1)).lt
 obtain ⟨W5, hW5⟩ : ∃ W5, W5 = grown _ g2 := ⟨_, rfl⟩
 have b8 : BlockAt W5 A0 #[.int .i64 0, .int .i64 0, .slice none 0 0] 38 := by
  rw [hW5, hA0]
  infer_instance
 have b6 : BlockAt W5 (w.heap.size + 1) #[.int .i64 0, .int .i64 0, .slice none 0 0] 38 := by
  rw [hW5]
  infer_instance
 have b4 : BlockAt W5 w.heap.size #[.int .i64 2, .int .u64 xv, .int .u64 xt, .int .i64 xs, .int .i64 xa, .int .i64 xc, .slice xD xn xq] 27 := by
  rw [hW5]
  infer_instance
 have g5 : Gr w W5 := by
  rw [hW5]
  exact gri
 rw [← hW5]
 try rw [← hA0]
 clear hW5 hA0
 haveI := grc_of g5
 haveI := from_of g5
 have y0 : W5.cell? ⟨R, 0, none⟩ = some (.slice (some ⟨g, 0, none⟩) N c) := (g5.below.cell (p := ⟨R, 0, none⟩) (Old.lt (b := R) (W := w))).trans x0
 have y1 : W5.frozen? ⟨R, 0, none⟩ = false := @block_frozen _ _ 0 _ _ (HI.out.blk.gr g5)
 have z0 : W5.cell? ⟨g, i * 3, none⟩ = some (.int .u64 xv) := (g5.below.cell (p := ⟨g, i * 3, none⟩) (Old.lt (b := g) (W := w))).trans c0
 have z1 : W5.cell? ⟨g, i * 3 + 1, none⟩ = some (.int .i64 x.1) := (g5.below.cell (p := ⟨g, i * 3 + 1, none⟩) (Old.lt (b := g) (W := w))).trans c1
 have z2 : W5.cell? ⟨g, i * 3 + 2, none⟩ = some (vf xv) := (g5.below.cell (p := ⟨g, i * 3 + 2, none⟩) (Old.lt (b := g) (W := w))).trans c2
 have zf : ∀ o, W5.frozen? ⟨g, o, none⟩ = false := fun o => gr_frozen g5 (Old.lt (b := g) (W := w)) (froV hty o)
 haveI : Old R W5 := old_of_cell y0
 haveI : Old g W5 := old_of_cell z0
 haveI := b4
 haveI := b4.old
 have o0 : W5.cell? ⟨w.heap.size, 0, none⟩ = some (.int .i64 2) := (bc 0 b4).trans rfl
 have o1 : W5.cell? ⟨w.heap.size, 1, none⟩ = some (.int .u64 xv) := (bc 1 b4).trans rfl
 have o2 : W5.cell? ⟨w.heap.size, 2, none⟩ = some (.int .u64 xt) := (bc 2 b4).trans rfl
 have o3 : W5.cell? ⟨w.heap.size, 3, none⟩ = some (.int .i64 xs) := (bc 3 b4).trans rfl
 have o4 : W5.cell? ⟨w.heap.size, 4, none⟩ = some (.int .i64 xa) := (bc 4 b4).trans rfl
 have o5 : W5.cell? ⟨w.heap.size, 5, none⟩ = some (.int .i64 xc) := (bc 5 b4).trans rfl
 have o6 : W5.cell? ⟨w.heap.size, 6, none⟩ = some (.slice xD xn xq) := (bc 6 b4).trans rfl
 obtain ⟨j, hj⟩ : ∃ j, j = i + 1 := ⟨_, rfl⟩
 have e1 : (i : Int) + 1 = (j : Int) := by omega
 have hjN : j ≤ N := by omega
 have hN9 : N ≤ 1000000 := by have := HL.out; have := HN.out; omega
 have hsl := fun W => sliceTo (some ⟨g, 0, none⟩) N c i (by omega) hc1 W
 have hsf := fun W => sliceFrom (some ⟨g, 0, none⟩) N c j (by omega) hc1 W
 have HRW := hd_ (HI.out.row)
 have HTK : Hid (((d.map (rvF vf)).take i).length = i) := hd_ (by have := HN.out; simp; omega)
 have HDK : Hid (((d.map (rvF vf)).drop j).length = N - j) := hd_ (by have := HN.out; simp; omega)
 have hw1 : IntKind.i64.wrap (j : Int) = (j : Int) := wrapJ j (by omega)
 have HJ := hd_ hj
 clear hj
 refine wp_region_treeT (inCls_ghost _) (Cls.none _) ⟨Gr.of ((Below.refl _ _).drew), trivial⟩ [0, 1, 2, 3, 4, 5, 6, 8, 9, 10, 11, 12, 13, 14] 2 16 (by kernel_rfl) (by kernel_rfl) ?_
 simp only [pick, List.drop, List.take, List.nil_append, List.cons_append]
 repeat (refine wpCalm_step (fun K hK => ?_); go_simp; first | (refine hK _ ?_; clear hK K) | (apply Exists.intro; refine ⟨fun _ => ?_, hK _ ?_⟩; (skip); clear hK K))
 refine wpCalm_nil ?_
 refine ft_effD 7 (by kernel_rfl) (by omega) rfl rfl rfl fun w4 hw4 => effAt_append_x rvIs _ _ rfl rfl (OwnN.nil W5.heap.size _) (some ⟨g, 0, none⟩) ((d.map (rvF vf)).take i) i c HTK.out rfl (fun e => by cases e) ((HRW.out.gr (g5.trans hw4.1)).take i) (by rw [HTK.out, List.length_nil]; omega) hw4.1.below.size fun v2 W2 h2 => ⟨⟨fun w' => OwnN rvE W5.heap.size w' v2 ((d.map (rvF vf)).take i), fun a b h g => h.gr g⟩, ⟨hw4.1.trans_below h2.below, by have := h2.own; rwa [List.nil_append] at this⟩, ?_⟩
 clear h2 W2 hw4 w4
 simp only [Act.put, stA, List.set]
 refine ft_effD 15 (by kernel_rfl) (by omega) rfl rfl rfl fun w4 hw4 => effAt_append_x rvIs _ _ rfl rfl hw4.2 (fromV (some ⟨g, 0, none⟩) j c) ((d.map (rvF vf)).drop j) (N - j) (c - j) HDK.out rfl (fromV_none (fun e => by cases e)) ((HRW.out.fromV_ j c (by have := HN.out; simp; omega) (by have := HN.out; simp; omega)).gr (g5.trans hw4.1)) (by rw [HDK.out, HTK.out]; omega) hw4.1.below.size fun v3 W3 h3 => ⟨⟨fun w' => OwnN rvE W5.heap.size w' v3 ((d.map (rvF vf)).take i ++ (d.map (rvF vf)).drop j), fun a b h g => h.gr g⟩, ⟨hw4.1.trans_below h3.below, h3.own⟩, ?_⟩
 clear h3 W3 hw4 w4
 simp only [Act.put, stA, List.set]
 refine ft_end ⟨by kernel_rfl, fun w9 hw9 => ?_⟩
 try simp only [List.drop_succ_cons, List.drop_zero]
 obtain ⟨hg9, ho9⟩ := hw9
 have hE := del_rows vf d xv i x j HI.out.ok.sort HDI.out HJ.out
 rw [← hE] at ho9
 obtain ⟨L9, hL9⟩ : ∃ L, L = (delK d xv).map (rvF vf) := ⟨_, rfl⟩
 rw [← hL9] at ho9
 obtain ⟨A6, c6, rfl, _, _, _⟩ := ho9.form rvIs
 have hS := (HI.out.gr g5).setV hg9 (HB W5 g5) (d' := delK d xv) (vf' := vf) (v' := .slice A6 L9.length c6) (show OwnN rvE W5.heap.size w9 (.slice A6 L9.length c6) ((delK d xv).map (rvF vf)) from by rw [← hL9]; exact ho9) (fun p hp => (HI.out.vol p (List.mem_filter.1 hp).1).gr (g5.trans hg9)) (del_ok HI.out.ok xv)
 have hb9 : Below base w (w9.setCell ⟨R, 0, none⟩ (.slice A6 L9.length c6)) := ((g5.trans hg9).below.mono hbase).setCell (p := ⟨R, 0, none⟩) HI.out.bR _
 obtain ⟨W8, hW8⟩ : ∃ W8, W8 = w9.setCell ⟨R, 0, none⟩ (.slice A6 L9.length c6) := ⟨_, rfl⟩
 rw [← hW8] at hS hb9
 have hr9 := (HI.out.blk.gr (g5.trans hg9))
 have r0 : w9.cell? ⟨R, 0, none⟩ = some (.slice (some ⟨g, 0, none⟩) N c) := (bc 0 hr9).trans rfl
 have r1 : w9.frozen? ⟨R, 0, none⟩ = false := @block_frozen _ _ 0 _ _ hr9
 haveI : Old R w9 := hr9.old
 have k8 := hS.2.block b8 (by unfold refT; decide)
 have k6 := hS.2.block b6 (by unfold refT; decide)
 have HS := hd_ hS
 have HB9 := hd_ hb9
 have HG5 := hd_ g5
 have HRUN : Hid ((storeVar 33 ⟨R, 0, none⟩ (.slice A6 L9.length c6)).run Tryz.prog w9 = .ok () W8) := hd_ (by rw [hW8]; go_simp)
 clear hS hb9 hr9 ho9 hg9 hL9 hE y0 y1 z0 z1 z2 zf hW8
 haveI := k8
 haveI := k6
 haveI := k8.old
 haveI := k6.old
 have p0 : W8.cell? ⟨A0, 0, none⟩ = some (.int .i64 0) := (bc 0 k8).trans rfl
 have p1 : W8.cell? ⟨A0, 1, none⟩ = some (.int .i64 0) := (bc 1 k8).trans rfl
 have p2 : W8.cell? ⟨A0, 2, none⟩ = some (.slice none 0 0) := (bc 2 k8).trans rfl
 have q0 : W8.cell? ⟨w.heap.size + 1, 0, none⟩ = some (.int .i64 0) := (bc 0 k6).trans rfl
 have q1 : W8.cell? ⟨w.heap.size + 1, 1, none⟩ = some (.int .i64 0) := (bc 1 k6).trans rfl
 have q2 : W8.cell? ⟨w.heap.size + 1, 2, none⟩ = some (.slice none 0 0) := (bc 2 k6).trans rfl
 have fz : ∀ o, W8.frozen? ⟨w.heap.size + 1, o, none⟩ = false := fun o => @block_frozen _ _ o _ _ k6
 go_wp2_with (first | (refine wpStoreG rfl _ _ rfl ⟨R, 0, none⟩ _ rfl rfl W8 HRUN.out ?_))
 obtain ⟨v3, vf3, hd3⟩ : RefAt base W8 R (delK d xv) := ⟨_, _, HS.out.1⟩
 have hw3 : RK w W8 := (RK.gr HG5.out).trans HS.out.2
 exact bodyPost_ret (run_resCell1 rfl _ _ _ _ rfl (ans_block k6 _ _ _) Tryz.underlying38 rfl (by kernel_rfl)) rfl ⟨none, 0, 0, rfl, OwnN.nil _ _, ans_ref hd3 k6 _ _ _, ans_below HB9.out (by omega) _ _ _, ans_rk hw3 (by omega) _ _ _⟩
theorem rpart_7 (xv xt xs xa xc most : Int) (xD : Option Addr) (xn xq : Nat) (lx : Byt) (hxn : lx.length = xn) (base R : Nat) (d : Dev) (w : World) (h : RefAt base w R d) (hbase : base ≤ w.heap.size) (hl : d.length ≤ 1000000) (hn : xn ≤ 1000000) (v0 : 0 ≤ xv) (t0 : 0 ≤ xt) (he : errK d ⟨7, xv, xt, xs, xa, xc, lx⟩ = 0) (x : VolM) (hx : getK d xv = some x) (ha : 0 ≤ xa ∧ xa ≤ 1048576) (hc : 1 ≤ xc ∧ xc ≤ 1024) :
  Calls Tryz.prog 18 #[.pointer (some ⟨R, 0, none⟩), .agg #[.int .i64 7, .int .u64 xv, .int .u64 xt, .int .i64 xs, .int .i64 xa, .int .i64 xc, .slice xD xn xq], .int .i64 most] w (RPost base R (putK d xv (x.1, x.2.filter fun p => decide (p.1 < xa ∨ xa + xc ≤ p.1))) 0 0 [] w) := by
 have HR := hd_ (fun W (g : Gr w W) => rrefused_any 7 xv xt xs xa xc xD xn xq lx hxn base R d W (h.gr g) hl hn v0 t0)
 have HF := hd_ (fun W (g : Gr w W) => rfind_any base R d xv W (h.gr g) hl)
 rw [he] at HR
 obtain ⟨v, vf, hI⟩ := h
 have HI := hd_ hI
 have HB := fun W (g : Gr w W) => Nat.le_trans hbase g.below.size
 have hok := hI.ok.vols _ ((getK_mem hI.ok.sort).1 hx)
 obtain ⟨i, hi, hdi, hil⟩ := idx_get hx
 rw [hi] at HF
 obtain ⟨g, c, rfl, hbg, hgl, hne, hc1, hc2, hty, hcl⟩ := hI.form (by rintro rfl; simp at hil)
 obtain ⟨c0, c1, c2⟩ := hcl i _ hdi
 simp only at c0 c1 c2
 rw [Nat.add_zero] at c0
 have x0 : w.cell? ⟨R, 0, none⟩ = some (.slice (some ⟨g, 0, none⟩) d.length c) := (bc 0 hI.blk).trans rfl
 haveI := hI.blk
 haveI : Old R w := hI.blk.old
 haveI : Old g w := ⟨hgl⟩
 have HDI := hd_ hdi
 have HX := hd_ hx
 have HV := hd_ (hI.vol _ (List.mem_of_getElem? hdi))
 obtain ⟨N, hN⟩ : ∃ N, N = d.length := ⟨_, rfl⟩
 rw [← hN] at x0 hil hc1
 rw [← hN] at HI
 have HN := hd_ hN
 have HL := hd_ hl
 clear hcl hdi hi hI he hx hN hl
 have HD : Hid (∀ W, Gr w W → Calls Tryz.prog 48 #[.pointer (some ⟨g, i * 3, none⟩), .int .i64 xa, .int .i64 (xa + xc)] W (RC base R (putK d xv (x.1, x.2.filter fun p => decide (p.1 < xa ∨ xa + xc ≤ p.1))) W)) := hd_ fun W hW => (rdrop_any g (i * 3) (vf xv) x.2 xa (xa + xc) W ((hW.below.cell (p := ⟨g, i * 3 + 2, none⟩) hgl).trans c2) (gr_frozen hW hgl (froV hty _)) (HV.out.gr hW) (Nat.le_trans (vols_len hok) (by omega))).mono fun e w' hst => stm_rc (p := (xv, x)) (HI.out.gr hW) hbg HDI.out _ (filter_ok hok _ _ hok.s0 hok.s1 fun p hp _ => (hok.keys p hp).2) hst (HB W hW)
 go_enter Tryz.func18, Tryz.ntmps18
 go_wp2_with (first | (go_at_call 45; ((with_reducible refine (HR.out _ gri).mono ?_); rintro _ _ ⟨rfl, g1, rfl⟩)) | (go_at_call 46; ((with_reducible refine (HF.out _ gri).mono ?_); rintro _ _ ⟨rfl, g2, rfl⟩)))
 obtain ⟨A0, hA0⟩ : ∃ A0, A0 = (grown _ g1).heap.size := ⟨_, rfl⟩
 have hA1 : w.heap.size + 1 < A0 := by
  rw [hA0]
  exact (inferInstance : Old (w.heap.size + 1) (grown _ g1)).lt
 obtain ⟨W5, hW5⟩ : ∃ W5, W5 = grown _ g2 := ⟨_, rfl⟩
 have b8 : BlockAt W5 A0 #[.int .i64 0, .int .i64 0, .slice none 0 0] 38 := by
  rw [hW5, hA0]
  infer_instance
 have b6 : BlockAt W5 (w.heap.size + 1) #[.int .i64 0, .int .i64 0, .slice none 0 0] 38 := by
  rw [hW5]
  infer_instance
 have b4 : BlockAt W5 w.heap.size #[.int .i64 7, .int .u64 xv, .int .u64 xt, .int .i64 xs, .int .i64 xa, .int .i64 xc, .slice xD xn xq] 27 := by
  rw [hW5]
  infer_instance
 have g5 : Gr w W5 := by
  rw [hW5]
  exact gri
 rw [← hW5]
 try rw [← hA0]
 clear hW5 hA0
 haveI := grc_of g5
 haveI := from_of g5
 haveI := b8
 haveI := b6
 haveI := b8.old
 haveI := b6.old
 have y0 : W5.cell? ⟨R, 0, none⟩ = some (.slice (some ⟨g, 0, none⟩) N c) := (g5.below.cell (p := ⟨R, 0, none⟩) (Old.lt (b := R) (W := w))).trans x0
 have y1 : W5.frozen? ⟨R, 0, none⟩ = false := @block_frozen _ _ 0 _ _ (HI.out.blk.gr g5)
 have z0 : W5.cell? ⟨g, i * 3, none⟩ = some (.int .u64 xv) := (g5.below.cell (p := ⟨g, i * 3, none⟩) (Old.lt (b := g) (W := w))).trans c0
 have z1 : W5.cell? ⟨g, i * 3 + 1, none⟩ = some (.int .i64 x.1) := (g5.below.cell (p := ⟨g, i * 3 + 1, none⟩) (Old.lt (b := g) (W := w))).trans c1
 have z2 : W5.cell? ⟨g, i * 3 + 2, none⟩ = some (vf xv) := (g5.below.cell (p := ⟨g, i * 3 + 2, none⟩) (Old.lt (b := g) (W := w))).trans c2
 have zf : ∀ o, W5.frozen? ⟨g, o, none⟩ = false := fun o => gr_frozen g5 (Old.lt (b := g) (W := w)) (froV hty o)
 haveI : Old R W5 := old_of_cell y0
 haveI : Old g W5 := old_of_cell z0
 haveI := b4
 haveI := b4.old
 have o0 : W5.cell? ⟨w.heap.size, 0, none⟩ = some (.int .i64 7) := (bc 0 b4).trans rfl
 have o1 : W5.cell? ⟨w.heap.size, 1, none⟩ = some (.int .u64 xv) := (bc 1 b4).trans rfl
 have o2 : W5.cell? ⟨w.heap.size, 2, none⟩ = some (.int .u64 xt) := (bc 2 b4).trans rfl
 have o3 : W5.cell? ⟨w.heap.size, 3, none⟩ = some (.int .i64 xs) := (bc 3 b4).trans rfl
 have o4 : W5.cell? ⟨w.heap.size, 4, none⟩ = some (.int .i64 xa) := (bc 4 b4).trans rfl
 have o5 : W5.cell? ⟨w.heap.size, 5, none⟩ = some (.int .i64 xc) := (bc 5 b4).trans rfl
 have o6 : W5.cell? ⟨w.heap.size, 6, none⟩ = some (.slice xD xn xq) := (bc 6 b4).trans rfl
 refine wp_region_grow_tail 13 (by kernel_rfl) (by kernel_rfl) ?_
 simp only [List.take_succ_cons, List.take_zero, List.drop_succ_cons, List.drop_zero]
 repeat (go_big_quiet_step (fail))
 refine wpQuiet_nil ?_
 intro g6
 go_wp2_with (first | (go_at_call 48; ((with_reducible refine (HD.out _ gri).mono ?_); rintro _ W3 ⟨rfl, hr3, hk3, hb3⟩; have k8 := hk3.block (inferInstance : BlockAt _ A0 #[.int .i64 0, .int .i64 0, .slice none 0 0] 38) (by unfold refT; decide); have k6 := hk3.block (inferInstance : BlockAt _ (w.heap.size + 1) #[.int .i64 0, .int .i64 0, .slice none 0 0] 38) (by unfold refT; decide); haveI := k8; haveI := k6; haveI := k8.old; haveI := k6.old; have p0 : W3.cell? ⟨A0, 0, none⟩ = some (.int .i64 0) := (bc 0 k8).trans rfl; have p1 : W3.cell? ⟨A0, 1, none⟩ = some (.int .i64 0) := (bc 1 k8).trans rfl; have p2 : W3.cell? ⟨A0, 2, none⟩ = some (.slice none 0 0) := (bc 2 k8).trans rfl; have q0 : W3.cell? ⟨w.heap.size + 1, 0, none⟩ = some (.int .i64 0) := (bc 0 k6).trans rfl; have q1 : W3.cell? ⟨w.heap.size + 1, 1, none⟩ = some (.int .i64 0) := (bc 1 k6).trans rfl; have q2 : W3.cell? ⟨w.heap.size + 1, 2, none⟩ = some (.slice none 0 0) := (bc 2 k6).trans rfl; have fz : ∀ o, W3.frozen? ⟨w.heap.size + 1, o, none⟩ = false := fun o => @block_frozen _ _ o _ _ k6; have hw3 : RK w W3 := (RK.gr gri).trans hk3; have hb4 : Below base w W3 := ((show Gr w _ from gri).below.mono hbase).trans hb3; have HW3 := hd_ hw3; have HB4 := hd_ hb4; have HR3 := hd_ hr3; clear hw3 hb4 hr3 hk3 hb3)))
 obtain ⟨v3, vf3, hd3⟩ := HR3.out
 exact bodyPost_ret (run_resCell1 rfl _ _ _ _ rfl (ans_block k6 _ _ _) Tryz.underlying38 rfl (by kernel_rfl)) rfl ⟨none, 0, 0, rfl, OwnN.nil _ _, ans_ref hd3 k6 _ _ _, ans_below HB4.out (by omega) _ _ _, ans_rk HW3.out (by omega) _ _ _⟩
theorem rpart_3 (xv xt xs xa xc most : Int) (xD : Option Addr) (xn xq : Nat) (lx : Byt) (hxn : lx.length = xn) (base R : Nat) (d : Dev) (w : World) (h : RefAt base w R d) (hbase : base ≤ w.heap.size) (hl : d.length ≤ 1000000) (hn : xn ≤ 1000000) (v0 : 0 ≤ xv) (t0 : 0 ≤ xt) (he : errK d ⟨3, xv, xt, xs, xa, xc, lx⟩ = 0) (x : VolM) (hx : getK d xv = some x) (hs3 : 0 ≤ xs ∧ xs ≤ 256) :
  Calls Tryz.prog 18 #[.pointer (some ⟨R, 0, none⟩), .agg #[.int .i64 3, .int .u64 xv, .int .u64 xt, .int .i64 xs, .int .i64 xa, .int .i64 xc, .slice xD xn xq], .int .i64 most] w (RPost base R (putK d xv (xs, x.2.filter fun p => decide (p.1 < xs))) 0 0 [] w) := by
 have HR := hd_ (fun W (g : Gr w W) => rrefused_any 3 xv xt xs xa xc xD xn xq lx hxn base R d W (h.gr g) hl hn v0 t0)
 have HF := hd_ (fun W (g : Gr w W) => rfind_any base R d xv W (h.gr g) hl)
 rw [he] at HR
 obtain ⟨v, vf, hI⟩ := h
 have HI := hd_ hI
 have HB := fun W (g : Gr w W) => Nat.le_trans hbase g.below.size
 have hok := hI.ok.vols _ ((getK_mem hI.ok.sort).1 hx)
 obtain ⟨i, hi, hdi, hil⟩ := idx_get hx
 rw [hi] at HF
 obtain ⟨g, c, rfl, hbg, hgl, hne, hc1, hc2, hty, hcl⟩ := hI.form (by rintro rfl; simp at hil)
 obtain ⟨c0, c1, c2⟩ := hcl i _ hdi
 simp only at c0 c1 c2
 rw [Nat.add_zero] at c0
 have x0 : w.cell? ⟨R, 0, none⟩ = some (.slice (some ⟨g, 0, none⟩) d.length c) := (bc 0 hI.blk).trans rfl
 haveI := hI.blk
 haveI : Old R w := hI.blk.old
 haveI : Old g w := ⟨hgl⟩
 have HDI := hd_ hdi
 have HX := hd_ hx
 have HV := hd_ (hI.vol _ (List.mem_of_getElem? hdi))
 obtain ⟨N, hN⟩ : ∃ N, N = d.length := ⟨_, rfl⟩
 rw [← hN] at x0 hil hc1
 rw [← hN] at HI
 have HN := hd_ hN
 have HL := hd_ hl
 clear hcl hdi hi hI he hx hN hl
 have HD : Hid (∀ W W1, Gr w W → Gr (W.setCell ⟨g, i * 3 + 1, none⟩ (.int .i64 xs)) W1 → Calls Tryz.prog 48 #[.pointer (some ⟨g, i * 3, none⟩), .int .i64 xs, .int .i64 1073741824] W1 (RC base R (putK d xv (xs, x.2.filter fun p => decide (p.1 < xs))) W)) := hd_ fun W W1 hW hW1 => by
  have hk1 : RK W (W.setCell ⟨g, i * 3 + 1, none⟩ (.int .i64 xs)) := by
   obtain ⟨cs, hh⟩ := hty
   exact (RK.refl W).set_ g _ _ (f := (0, 0)) (cs := cs) ((hW.below.block g hgl).trans hh) (.inl rfl)
  have hsz : W.heap.size = (W.setCell ⟨g, i * 3 + 1, none⟩ (.int .i64 xs)).heap.size := by simp [World.setCell]
  have hgl8 : g < (W.setCell ⟨g, i * 3 + 1, none⟩ (.int .i64 xs)).heap.size := by rw [← hsz]; exact Nat.lt_of_lt_of_le hgl hW.below.size
  have hc2 : W1.cell? ⟨g, i * 3 + 2, none⟩ = some (vf xv) := by
   refine (hW1.below.cell (p := ⟨g, i * 3 + 2, none⟩) hgl8).trans ?_
   obtain ⟨cs, hh⟩ := hty
   haveI hB : BlockAt W g cs 102 := ⟨(hW.below.block g hgl).trans hh⟩
   rw [@block_cells (W.setCell ⟨g, i * 3 + 1, none⟩ (.int .i64 xs)) g (i * 3 + 2) _ _ inferInstance, Array.getElem?_setIfInBounds_ne (by omega)]
   exact (@block_cells W g (i * 3 + 2) _ _ hB).symm.trans ((hW.below.cell (p := ⟨g, i * 3 + 2, none⟩) hgl).trans c2)
  have hf2 : W1.frozen? ⟨g, i * 3 + 2, none⟩ = false := by
   obtain ⟨cs, hh⟩ := hty
   haveI : BlockAt W g cs 102 := ⟨(hW.below.block g hgl).trans hh⟩
   exact gr_frozen hW1 hgl8 (block_frozen _ _ _ _ _)
  refine (rdrop_any g (i * 3) (vf xv) x.2 xs 1073741824 _ hc2 hf2 ((hk1.blkS (HV.out.gr hW)).gr hW1) (Nat.le_trans (vols_len hok) (by omega))).mono ?_
  rintro _ _ ⟨rfl, w1, u, hg1, ho1, rfl⟩
  rw [size_filter hok xs] at ho1
  obtain ⟨h1, h2⟩ := HI.out.setSM hW HDI.out xs (hW1.trans hg1) _ u ho1.blkS (filter_ok hok _ _ hs3.1 hs3.2 fun p _ hp => by simpa using hp)
  exact ⟨rfl, ⟨_, _, h1⟩, h2, (((Below.refl base W).setCell (p := ⟨g, i * 3 + 1, none⟩) hbg _).trans ((hW1.trans hg1).below.mono (by rw [← hsz]; exact HB W hW))).setCell (p := ⟨g, i * 3 + 2, none⟩) hbg u⟩
 go_enter Tryz.func18, Tryz.ntmps18
 go_wp2_with (first | (go_at_call 45; ((with_reducible refine (HR.out _ gri).mono ?_); rintro _ _ ⟨rfl, g1, rfl⟩)) | (go_at_call 46; ((with_reducible refine (HF.out _ gri).mono ?_); rintro _ _ ⟨rfl, g2, rfl⟩)))
 obtain ⟨A0, hA0⟩ : ∃ A0, A0 = (grown _ g1).heap.size := ⟨_, rfl⟩
 have hA1 : w.heap.size + 1 < A0 := by
  rw [hA0]
  exact (inferInstance : Old (w.heap.size + 1) (grown _ g1)).lt
 obtain ⟨W5, hW5⟩ : ∃ W5, W5 = grown _ g2 := ⟨_, rfl⟩
 have b8 : BlockAt W5 A0 #[.int .i64 0, .int .i64 0, .slice none 0 0] 38 := by
  rw [hW5, hA0]
  infer_instance
 have b6 : BlockAt W5 (w.heap.size + 1) #[.int .i64 0, .int .i64 0, .slice none 0 0] 38 := by
  rw [hW5]
  infer_instance
 have b4 : BlockAt W5 w.heap.size #[.int .i64 3, .int .u64 xv, .int .u64 xt, .int .i64 xs, .int .i64 xa, .int .i64 xc, .slice xD xn xq] 27 := by
  rw [hW5]
  infer_instance
 have g5 : Gr w W5 := by
  rw [hW5]
  exact gri
 rw [← hW5]
 try rw [← hA0]
 clear hW5 hA0
 haveI := grc_of g5
 haveI := from_of g5
 haveI := b8
 haveI := b6
 haveI := b8.old
 haveI := b6.old
 have y0 : W5.cell? ⟨R, 0, none⟩ = some (.slice (some ⟨g, 0, none⟩) N c) := (g5.below.cell (p := ⟨R, 0, none⟩) (Old.lt (b := R) (W := w))).trans x0
 have y1 : W5.frozen? ⟨R, 0, none⟩ = false := @block_frozen _ _ 0 _ _ (HI.out.blk.gr g5)
 have z0 : W5.cell? ⟨g, i * 3, none⟩ = some (.int .u64 xv) := (g5.below.cell (p := ⟨g, i * 3, none⟩) (Old.lt (b := g) (W := w))).trans c0
 have z1 : W5.cell? ⟨g, i * 3 + 1, none⟩ = some (.int .i64 x.1) := (g5.below.cell (p := ⟨g, i * 3 + 1, none⟩) (Old.lt (b := g) (W := w))).trans c1
 have z2 : W5.cell? ⟨g, i * 3 + 2, none⟩ = some (vf xv) := (g5.below.cell (p := ⟨g, i * 3 + 2, none⟩) (Old.lt (b := g) (W := w))).trans c2
 have zf : ∀ o, W5.frozen? ⟨g, o, none⟩ = false := fun o => gr_frozen g5 (Old.lt (b := g) (W := w)) (froV hty o)
 haveI : Old R W5 := old_of_cell y0
 haveI : Old g W5 := old_of_cell z0
 haveI := b4
 haveI := b4.old
 have o0 : W5.cell? ⟨w.heap.size, 0, none⟩ = some (.int .i64 3) := (bc 0 b4).trans rfl
 have o1 : W5.cell? ⟨w.heap.size, 1, none⟩ = some (.int .u64 xv) := (bc 1 b4).trans rfl
 have o2 : W5.cell? ⟨w.heap.size, 2, none⟩ = some (.int .u64 xt) := (bc 2 b4).trans rfl
 have o3 : W5.cell? ⟨w.heap.size, 3, none⟩ = some (.int .i64 xs) := (bc 3 b4).trans rfl
 have o4 : W5.cell? ⟨w.heap.size, 4, none⟩ = some (.int .i64 xa) := (bc 4 b4).trans rfl
 have o5 : W5.cell? ⟨w.heap.size, 5, none⟩ = some (.int .i64 xc) := (bc 5 b4).trans rfl
 have o6 : W5.cell? ⟨w.heap.size, 6, none⟩ = some (.slice xD xn xq) := (bc 6 b4).trans rfl
 refine wp_region_grow_tail 9 (by kernel_rfl) (by kernel_rfl) ?_
 simp only [List.take_succ_cons, List.take_zero, List.drop_succ_cons, List.drop_zero]
 repeat (go_big_quiet_step (fail))
 refine wpQuiet_nil ?_
 intro g6
 obtain ⟨W6, hW6⟩ : ∃ W6, W6 = grown W5 g6 := ⟨_, rfl⟩
 rw [← hW6]
 have g56 : Gr W5 W6 := by
  rw [hW6]
  exact gri
 clear hW6
 have g06 := g5.trans g56
 have u0 : W6.cell? ⟨g, i * 3 + 1, none⟩ = some (.int .i64 x.1) := (g06.below.cell (p := ⟨g, i * 3 + 1, none⟩) hgl).trans c1
 have u1 : W6.frozen? ⟨g, i * 3 + 1, none⟩ = false := gr_frozen g06 hgl (froV hty _)
 haveI : Old g W6 := old_of_cell u0
 obtain ⟨W8, hW8⟩ : ∃ W8, W8 = W6.setCell ⟨g, i * 3 + 1, none⟩ (.int .i64 xs) := ⟨_, rfl⟩
 have HRUN : Hid ((storeVar 3 ⟨g, i * 3 + 1, none⟩ (.int .i64 xs)).run Tryz.prog W6 = .ok () W8) := hd_ (by rw [hW8]; go_simp)
 have hk8 : RK W6 W8 := by
  obtain ⟨cs, hh⟩ := hty
  rw [hW8]
  exact (RK.refl W6).set_ g _ _ (f := (0, 0)) (cs := cs) ((g06.below.block g hgl).trans hh) (.inl rfl)
 haveI m8 := hk8.block (b8.gr g56) (by unfold refT; decide)
 haveI m6 := hk8.block (b6.gr g56) (by unfold refT; decide)
 haveI m4 := hk8.block (b4.gr g56) (by unfold refT; decide)
 haveI := m4.old
 haveI := m8.old
 haveI := m6.old
 have v3 : W8.cell? ⟨w.heap.size, 3, none⟩ = some (.int .i64 xs) := (bc 3 m4).trans rfl
 have vR : BlockAt W8 R #[.slice (some ⟨g, 0, none⟩) N c] 35 := ⟨by rw [hW8]; exact (Below.heap_setCell W6 ⟨g, i * 3 + 1, none⟩ _ R (by show R ≠ g; exact fun e => hne e.symm)).trans (HI.out.blk.gr g06).eq⟩
 have v0' : W8.cell? ⟨R, 0, none⟩ = some (.slice (some ⟨g, 0, none⟩) N c) := (bc 0 vR).trans rfl
 haveI : Old R W8 := vR.old
 have HW8 := hd_ (show Gr (W6.setCell ⟨g, i * 3 + 1, none⟩ (.int .i64 xs)) W8 by rw [hW8]; exact Gr.refl _)
 have HK8 := hd_ hk8
 have HG06 := hd_ g06
 clear y0 y1 z0 z1 z2 zf o0 o1 o2 o3 o4 o5 o6 hW8 hk8 vR g06 u0 u1
 go_wp2_with (first | (refine wpStoreG rfl _ _ rfl ⟨g, i * 3 + 1, none⟩ _ rfl rfl W8 HRUN.out ?_))
 try simp only [Act.put]
 refine wp_region_grow_tail 8 (by kernel_rfl) (by kernel_rfl) ?_
 simp only [List.take_succ_cons, List.take_zero, List.drop_succ_cons, List.drop_zero]
 repeat (go_big_quiet_step (fail))
 refine wpQuiet_nil ?_
 intro g7
 go_wp2_with (first | (go_at_call 48; ((with_reducible refine (HD.out W6 _ HG06.out (HW8.out.trans gri)).mono ?_); rintro _ W3 ⟨rfl, hr3, hk3, hb3⟩; have k8 := hk3.block (b8.gr g56 : BlockAt _ A0 #[.int .i64 0, .int .i64 0, .slice none 0 0] 38) (by unfold refT; decide); have k6 := hk3.block (b6.gr g56 : BlockAt _ (w.heap.size + 1) #[.int .i64 0, .int .i64 0, .slice none 0 0] 38) (by unfold refT; decide); haveI := k8; haveI := k6; haveI := k8.old; haveI := k6.old; have p0 : W3.cell? ⟨A0, 0, none⟩ = some (.int .i64 0) := (bc 0 k8).trans rfl; have p1 : W3.cell? ⟨A0, 1, none⟩ = some (.int .i64 0) := (bc 1 k8).trans rfl; have p2 : W3.cell? ⟨A0, 2, none⟩ = some (.slice none 0 0) := (bc 2 k8).trans rfl; have q0 : W3.cell? ⟨w.heap.size + 1, 0, none⟩ = some (.int .i64 0) := (bc 0 k6).trans rfl; have q1 : W3.cell? ⟨w.heap.size + 1, 1, none⟩ = some (.int .i64 0) := (bc 1 k6).trans rfl; have q2 : W3.cell? ⟨w.heap.size + 1, 2, none⟩ = some (.slice none 0 0) := (bc 2 k6).trans rfl; have fz : ∀ o, W3.frozen? ⟨w.heap.size + 1, o, none⟩ = false := fun o => @block_frozen _ _ o _ _ k6; have hw3 : RK w W3 := (RK.gr HG06.out).trans hk3; have hb4 : Below base w W3 := (HG06.out.below.mono hbase).trans hb3; have HW3 := hd_ hw3; have HB4 := hd_ hb4; have HR3 := hd_ hr3; clear hw3 hb4 hr3 hk3 hb3)))
 obtain ⟨v3, vf3, hd3⟩ := HR3.out
 exact bodyPost_ret (run_resCell1 rfl _ _ _ _ rfl (ans_block k6 _ _ _) Tryz.underlying38 rfl (by kernel_rfl)) rfl ⟨none, 0, 0, rfl, OwnN.nil _ _, ans_ref hd3 k6 _ _ _, ans_below HB4.out (by omega) _ _ _, ans_rk HW3.out (by omega) _ _ _⟩
theorem rpart_4 (xv xt xs xa xc most : Int) (xD : Option Addr) (xn xq : Nat) (lx : Byt) (hxn : lx.length = xn) (base R : Nat) (d : Dev) (w : World) (h : RefAt base w R d) (hbase : base ≤ w.heap.size) (hl : d.length ≤ 1000000) (hn : xn ≤ 1000000) (v0 : 0 ≤ xv) (t0 : 0 ≤ xt) (he : errK d ⟨4, xv, xt, xs, xa, xc, lx⟩ = 0) (x : VolM) (hx : getK d xv = some x) (hg4 : getK d xt = none) (hok : DevOk (putK d xt x)) :
  Calls Tryz.prog 18 #[.pointer (some ⟨R, 0, none⟩), .agg #[.int .i64 4, .int .u64 xv, .int .u64 xt, .int .i64 xs, .int .i64 xa, .int .i64 xc, .slice xD xn xq], .int .i64 most] w (RPost base R (putK d xt x) 0 0 [] w) := by
 have HR := hd_ (fun W (g : Gr w W) => rrefused_any 4 xv xt xs xa xc xD xn xq lx hxn base R d W (h.gr g) hl hn v0 t0)
 have HF := hd_ (fun W (g : Gr w W) => rfind_any base R d xv W (h.gr g) hl)
 rw [he] at HR
 obtain ⟨v, vf, hI⟩ := h
 have HI := hd_ hI
 have HB := fun W (g : Gr w W) => Nat.le_trans hbase g.below.size
 obtain ⟨i, hi, hdi, hil⟩ := idx_get hx
 rw [hi] at HF
 obtain ⟨g, c, rfl, hbg, hgl, hne, hc1, hc2, hty, hcl⟩ := hI.form (by rintro rfl; simp at hil)
 obtain ⟨c0, c1, c2⟩ := hcl i _ hdi
 simp only at c0 c1 c2
 rw [Nat.add_zero] at c0
 have x0 : w.cell? ⟨R, 0, none⟩ = some (.slice (some ⟨g, 0, none⟩) d.length c) := (bc 0 hI.blk).trans rfl
 haveI := hI.blk
 haveI : Old R w := hI.blk.old
 haveI : Old g w := ⟨hgl⟩
 have HDI := hd_ hdi
 have HX := hd_ hx
 have HV := hd_ (hI.vol _ (List.mem_of_getElem? hdi))
 obtain ⟨N, hN⟩ : ∃ N, N = d.length := ⟨_, rfl⟩
 rw [← hN] at x0 hil hc1
 rw [← hN] at HI
 have HN := hd_ hN
 have HL := hd_ hl
 clear hcl hdi hi hI he hx hN hl
 have HA := hd_ (fun W (g : Gr w W) u (hu : BlkS W u x.2) => add_rc (s := x.1) (HI.out.gr g) hu hg4 HL.out (HB W g) hok)
 obtain ⟨MA, mc, hvf, hm1, hm2, hm3, hrow⟩ := HV.out.row
 obtain ⟨ML, hML⟩ : ∃ M, M = x.2.length := ⟨_, rfl⟩
 rw [← hML] at hvf hm1
 have hxo := HI.out.ok.vols _ (List.mem_of_getElem? HDI.out)
 have hMl : ML ≤ 256 := by rw [hML]; exact vols_len hxo
 have HML := hd_ hML.symm
 have HRM := hd_ hrow
 clear hML hrow hg4 hok
 go_enter Tryz.func18, Tryz.ntmps18
 go_wp2_with (first | (go_at_call 45; ((with_reducible refine (HR.out _ gri).mono ?_); rintro _ _ ⟨rfl, g1, rfl⟩)) | (go_at_call 46; ((with_reducible refine (HF.out _ gri).mono ?_); rintro _ _ ⟨rfl, g2, rfl⟩)))
 obtain ⟨A0, hA0⟩ : ∃ A0, A0 = (grown _ g1).heap.size := ⟨_, rfl⟩
 have hA1 : w.heap.size + 1 < A0 := by
  rw [hA0]
  exact (inferInstance : Old (w.heap.size + 1) (grown _ g1)).lt
 obtain ⟨W5, hW5⟩ : ∃ W5, W5 = grown _ g2 := ⟨_, rfl⟩
 have b8 : BlockAt W5 A0 #[.int .i64 0, .int .i64 0, .slice none 0 0] 38 := by
  rw [hW5, hA0]
  infer_instance
 have b6 : BlockAt W5 (w.heap.size + 1) #[.int .i64 0, .int .i64 0, .slice none 0 0] 38 := by
  rw [hW5]
  infer_instance
 have b4 : BlockAt W5 w.heap.size #[.int .i64 4, .int .u64 xv, .int .u64 xt, .int .i64 xs, .int .i64 xa, .int .i64 xc, .slice xD xn xq] 27 := by
  rw [hW5]
  infer_instance
 have g5 : Gr w W5 := by
  rw [hW5]
  exact gri
 rw [← hW5]
 try rw [← hA0]
 clear hW5 hA0
 haveI := grc_of g5
 haveI := from_of g5
 have y0 : W5.cell? ⟨R, 0, none⟩ = some (.slice (some ⟨g, 0, none⟩) N c) := (g5.below.cell (p := ⟨R, 0, none⟩) (Old.lt (b := R) (W := w))).trans x0
 have y1 : W5.frozen? ⟨R, 0, none⟩ = false := @block_frozen _ _ 0 _ _ (HI.out.blk.gr g5)
 have z0 : W5.cell? ⟨g, i * 3, none⟩ = some (.int .u64 xv) := (g5.below.cell (p := ⟨g, i * 3, none⟩) (Old.lt (b := g) (W := w))).trans c0
 have z1 : W5.cell? ⟨g, i * 3 + 1, none⟩ = some (.int .i64 x.1) := (g5.below.cell (p := ⟨g, i * 3 + 1, none⟩) (Old.lt (b := g) (W := w))).trans c1
 have z2 : W5.cell? ⟨g, i * 3 + 2, none⟩ = some (vf xv) := (g5.below.cell (p := ⟨g, i * 3 + 2, none⟩) (Old.lt (b := g) (W := w))).trans c2
 have zf : ∀ o, W5.frozen? ⟨g, o, none⟩ = false := fun o => gr_frozen g5 (Old.lt (b := g) (W := w)) (froV hty o)
 haveI : Old R W5 := old_of_cell y0
 haveI : Old g W5 := old_of_cell z0
 haveI := b4
 haveI := b4.old
 have o0 : W5.cell? ⟨w.heap.size, 0, none⟩ = some (.int .i64 4) := (bc 0 b4).trans rfl
 have o1 : W5.cell? ⟨w.heap.size, 1, none⟩ = some (.int .u64 xv) := (bc 1 b4).trans rfl
 have o2 : W5.cell? ⟨w.heap.size, 2, none⟩ = some (.int .u64 xt) := (bc 2 b4).trans rfl
 have o3 : W5.cell? ⟨w.heap.size, 3, none⟩ = some (.int .i64 xs) := (bc 3 b4).trans rfl
 have o4 : W5.cell? ⟨w.heap.size, 4, none⟩ = some (.int .i64 xa) := (bc 4 b4).trans rfl
 have o5 : W5.cell? ⟨w.heap.size, 5, none⟩ = some (.int .i64 xc) := (bc 5 b4).trans rfl
 have o6 : W5.cell? ⟨w.heap.size, 6, none⟩ = some (.slice xD xn xq) := (bc 6 b4).trans rfl
 rw [hvf] at z2
 have HB8 := hd_ b8
 have HB6 := hd_ b6
 have HG5 := hd_ g5
 refine wp_region_treeT (inCls_ghost _) (Cls.none _) ⟨Gr.of ((Below.refl _ _).drew), trivial⟩ [0, 1, 2, 3, 4, 5, 6, 7, 8, 9, 10, 11, 12, 13, 14, 15, 16, 17, 18] 2 21 (by kernel_rfl) (by kernel_rfl) ?_
 simp only [pick, List.drop, List.take, List.nil_append, List.cons_append]
 repeat (refine wpCalm_step (fun K hK => ?_); go_simp; first | (refine hK _ ?_; clear hK K) | (apply Exists.intro; refine ⟨fun _ => ?_, hK _ ?_⟩; (skip); clear hK K))
 refine wpCalm_nil ?_
 refine ft_effD 19 (by kernel_rfl) (by omega) rfl rfl rfl fun w4 hw4 => effAt_append_x rbIs _ _ rfl rfl (OwnN.nil W5.heap.size _) MA x.2 ML mc HML.out rfl hm3 (HRM.out.gr (HG5.out.trans hw4.1)) (by rw [HML.out, List.length_nil]; omega) hw4.1.below.size ?_
 intro v2 W2 h2
 obtain ⟨A2, c2', rfl, -, -, -⟩ := h2.own.form rbIs
 obtain ⟨L2, hL2⟩ : ∃ L, L = ([] ++ x.2 : List (Int × Byt)).length := ⟨_, rfl⟩
 rw [← hL2]
 refine ⟨⟨fun w' => OwnN rbE W5.heap.size w' (.slice A2 L2 c2') x.2, fun a b h g => h.gr g⟩, ⟨hw4.1.trans_below h2.below, by have := h2.own; rw [hL2]; rwa [List.nil_append] at this ⊢⟩, ?_⟩
 clear h2 W2 hw4 w4 hL2
 simp only [Act.put, stA, List.set]
 refine ft_calmD 20 (.agg #[.int .u64 xt, .int .i64 x.1, .slice A2 L2 c2']) (by kernel_rfl) (by omega) rfl rfl rfl (fun g => by unfold calmAt; go_simp) ?_
 simp only [Act.put, stA, List.set]
 refine ft_end ⟨by kernel_rfl, fun w9 hw9 => ?_⟩
 try simp only [List.drop_succ_cons, List.drop_zero]
 obtain ⟨hg9, ho9⟩ := hw9
 haveI := b8.gr hg9
 haveI := b6.gr hg9
 have g9 := g5.trans hg9
 haveI := grc_of g9
 haveI := from_of g9
 have HO9 := hd_ ho9.blkS
 have HG9 := hd_ g9
 clear ho9 hg9 g9 y0 y1 z0 z1 z2 zf o0 o1 o2 o3 o4 o5 o6
 go_wp2_with (first | (go_at_call 47; ((with_reducible refine (HA.out _ HG9.out _ HO9.out).mono ?_); rintro _ W3 ⟨rfl, hr3, hk3, hb3⟩; have k8 := hk3.block (inferInstance : BlockAt _ A0 #[.int .i64 0, .int .i64 0, .slice none 0 0] 38) (by unfold refT; decide); have k6 := hk3.block (inferInstance : BlockAt _ (w.heap.size + 1) #[.int .i64 0, .int .i64 0, .slice none 0 0] 38) (by unfold refT; decide); haveI := k8; haveI := k6; haveI := k8.old; haveI := k6.old; have p0 : W3.cell? ⟨A0, 0, none⟩ = some (.int .i64 0) := (bc 0 k8).trans rfl; have p1 : W3.cell? ⟨A0, 1, none⟩ = some (.int .i64 0) := (bc 1 k8).trans rfl; have p2 : W3.cell? ⟨A0, 2, none⟩ = some (.slice none 0 0) := (bc 2 k8).trans rfl; have q0 : W3.cell? ⟨w.heap.size + 1, 0, none⟩ = some (.int .i64 0) := (bc 0 k6).trans rfl; have q1 : W3.cell? ⟨w.heap.size + 1, 1, none⟩ = some (.int .i64 0) := (bc 1 k6).trans rfl; have q2 : W3.cell? ⟨w.heap.size + 1, 2, none⟩ = some (.slice none 0 0) := (bc 2 k6).trans rfl; have fz : ∀ o, W3.frozen? ⟨w.heap.size + 1, o, none⟩ = false := fun o => @block_frozen _ _ o _ _ k6; have hw3 : RK w W3 := (RK.gr gri).trans hk3; have hb4 : Below base w W3 := ((show Gr w _ from gri).below.mono hbase).trans hb3; have HW3 := hd_ hw3; have HB4 := hd_ hb4; have HR3 := hd_ hr3; clear hw3 hb4 hr3 hk3 hb3)))
 obtain ⟨v3, vf3, hd3⟩ := HR3.out
 exact bodyPost_ret (run_resCell1 rfl _ _ _ _ rfl (ans_block k6 _ _ _) Tryz.underlying38 rfl (by kernel_rfl)) rfl ⟨none, 0, 0, rfl, OwnN.nil _ _, ans_ref hd3 k6 _ _ _, ans_below HB4.out (by omega) _ _ _, ans_rk HW3.out (by omega) _ _ _⟩
theorem own_heap {α : Type} {e : EK α} {base : Nat} {W : World} {g n c : Nat} {xs : List α} (h : OwnN e base W (.slice (some ⟨g, 0, none⟩) n c) xs) : ∃ cs, W.heap[g]? = some (.cells cs e.E (0, 0)) := by
 rcases h.own.2 with ⟨e2, _⟩ | ⟨b, cap, cur, e2, _, hh, _⟩
 ·cases e2
 ·cases e2
  exact ⟨_, hh⟩
theorem rpart_5 (xv xt xs xa xc most : Int) (xD : Option Addr) (xn xq : Nat) (lx : Byt) (hxn : lx.length = xn) (base R : Nat) (d : Dev) (w : World) (h : RefAt base w R d) (hbase : base ≤ w.heap.size) (hl : d.length ≤ 1000000) (hn : xn ≤ 1000000) (v0 : 0 ≤ xv) (t0 : 0 ≤ xt) (he : errK d ⟨5, xv, xt, xs, xa, xc, lx⟩ = 0) (W0 : World) (h0 : Gr W0 w) (hb0 : base = W0.heap.size) (hr : Row bv W0 xD lx) (hq : xn ≤ xq) (n0 : 64 ≤ xn) (n1 : xn % 64 = 0) (n2 : xn ≤ 2048) (x : VolM) (hx : getK d xv = some x) (a0 : 0 ≤ xa) (a1 : xa ≤ 1048576) (hmost : 1024 ≤ most) (hfit : ¬ 4 * x.1 < xa + ((xn / 64 : Nat) : Int)) :
  Calls Tryz.prog 18 #[.pointer (some ⟨R, 0, none⟩), .agg #[.int .i64 5, .int .u64 xv, .int .u64 xt, .int .i64 xs, .int .i64 xa, .int .i64 xc, .slice xD xn xq], .int .i64 most] w (RPost base R (putK d xv (x.1, putL xa.toNat lx x.2 (spans xa.toNat (xn / 64)))) 0 0 [] w) := by
 have HR := hd_ (fun W (g : Gr w W) => rrefused_any 5 xv xt xs xa xc xD xn xq lx hxn base R d W (h.gr g) hl hn v0 t0)
 have HF := hd_ (fun W (g : Gr w W) => rfind_any base R d xv W (h.gr g) hl)
 rw [he] at HR
 obtain ⟨v, vf, hI⟩ := h
 have HI := hd_ hI
 have HB := fun W (g : Gr w W) => Nat.le_trans hbase g.below.size
 have hok := hI.ok.vols _ ((getK_mem hI.ok.sort).1 hx)
 have hx0 := hok.s0
 have hx1 := hok.s1
 simp only at hx0 hx1
 have HOK := hd_ hok
 clear hok
 obtain ⟨an, rfl⟩ : ∃ n : Nat, xa = n := ⟨xa.toNat, by omega⟩
 rw [Int.toNat_natCast]
 obtain ⟨C, hC⟩ : ∃ C, xn / 64 = C := ⟨_, rfl⟩
 rw [hC] at hfit ⊢
 have hCx : (xn : Int) / 64 = (C : Int) := by omega
 obtain ⟨DATA, hDATA⟩ : ∃ l, l = lx := ⟨_, rfl⟩
 rw [← hDATA]
 have hdl : DATA.length = 64 * C := by rw [hDATA]; omega
 have HC1 : 1 ≤ C := by omega
 have HC2 : C ≤ 1024 := by omega
 have HSp := hd_ (fun W => rsplit_any an C (by omega) (by omega) (by omega) W)
 have HLNE := hd_ (spans_ne an C HC1)
 have hsl1 := spans_len an C
 have hall := fun s hs => (spans_all s hs : s.f < s.t ∧ s.t ≤ 4 ∧ an ≤ 4 * s.b + s.f ∧ 4 * s.b + s.t ≤ an + C)
 obtain ⟨L, hL⟩ : ∃ L, L = spans an C := ⟨_, rfl⟩
 rw [← hL] at HSp HLNE hsl1 hall ⊢
 have HALL := hd_ hall
 have HDL := hd_ hdl
 have HDA := hd_ hDATA
 clear hL hall hdl hDATA hC
 obtain ⟨i, hi, hdi, hil⟩ := idx_get hx
 rw [hi] at HF
 obtain ⟨g, c, rfl, hbg, hgl, hne, hc1, hc2, hty, hcl⟩ := hI.form (by rintro rfl; simp at hil)
 obtain ⟨c0, c1, c2⟩ := hcl i _ hdi
 simp only at c0 c1 c2
 rw [Nat.add_zero] at c0
 have x0 : w.cell? ⟨R, 0, none⟩ = some (.slice (some ⟨g, 0, none⟩) d.length c) := (bc 0 hI.blk).trans rfl
 haveI := hI.blk
 haveI : Old R w := hI.blk.old
 haveI : Old g w := ⟨hgl⟩
 have HDI := hd_ hdi
 have HX := hd_ hx
 have HV := hd_ (hI.vol _ (List.mem_of_getElem? hdi))
 obtain ⟨N, hN⟩ : ∃ N, N = d.length := ⟨_, rfl⟩
 rw [← hN] at x0 hil hc1
 rw [← hN] at HI
 have HN := hd_ hN
 have HL := hd_ hl
 clear hcl hdi hi hI he hx hN hl
 have hN9 : N ≤ 1000000 := by have := HL.out; have := HN.out; omega
 go_enter Tryz.func18, Tryz.ntmps18
 go_wp2_with (first | (go_at_call 45; ((with_reducible refine (HR.out _ gri).mono ?_); rintro _ _ ⟨rfl, g1, rfl⟩)) | (go_at_call 46; ((with_reducible refine (HF.out _ gri).mono ?_); rintro _ _ ⟨rfl, g2, rfl⟩)) | (go_at_call 29; ((with_reducible refine (HSp.out _).mono ?_); rintro _ _ ⟨vS, rfl, hoS, ⟨gq, rfl⟩⟩; obtain ⟨gS, cS, rfl, hbS, hgS, hcS, hcmS, hclS, hzS⟩ := hoS.cells spIs HLNE.out; obtain ⟨curS, hhS⟩ := own_heap hoS)))
 obtain ⟨A0, hA0⟩ : ∃ A0, A0 = (grown _ g1).heap.size := ⟨_, rfl⟩
 have hA1 : w.heap.size + 1 < A0 := by
  rw [hA0]
  exact (inferInstance : Old (w.heap.size + 1) (grown _ g1)).lt
 obtain ⟨W5, hW5⟩ : ∃ W5, W5 = grown _ gq := ⟨_, rfl⟩
 have b8 : BlockAt W5 A0 #[.int .i64 0, .int .i64 0, .slice none 0 0] 38 := by
  rw [hW5, hA0]
  infer_instance
 have b6 : BlockAt W5 (w.heap.size + 1) #[.int .i64 0, .int .i64 0, .slice none 0 0] 38 := by
  rw [hW5]
  infer_instance
 have b4 : BlockAt W5 w.heap.size #[.int .i64 5, .int .u64 xv, .int .u64 xt, .int .i64 xs, .int .i64 (an : Int), .int .i64 xc, .slice xD xn xq] 27 := by
  rw [hW5]
  infer_instance
 have g5 : Gr w W5 := by
  rw [hW5]
  exact gri
 rw [← hW5] at hgS hclS hhS
 rw [← hW5]
 try rw [← hA0]
 clear hW5 hA0 hoS hzS
 haveI := grc_of g5
 haveI := from_of g5
 obtain ⟨B, p, rfl, hBl, hdc⟩ := hr.at_ (by rintro rfl; have := hxn; simp at this; omega)
 have HDT : Hid (∀ W, RK W5 W → Below base w W → B < W.heap.size ∧ ∀ (j : Nat) u, DATA[j]? = some u → W.cell? ⟨B, p + j, none⟩ = some (bv u)) := hd_ fun W hk hb => by
  have hg : Below W0.heap.size W0 W := h0.below.trans (by rw [← hb0]; exact hb)
  exact ⟨Nat.lt_of_lt_of_le hBl hg.size, fun j u hj => (hg.cell (p := ⟨B, p + j, none⟩) hBl).trans (hdc j u (by rw [← HDA.out]; exact hj))⟩
 have HS5 := hd_ (show CellsN spE W5 gS 0 L ∧ W5.heap[gS]? = some (.cells curS 107 (0, 0)) from ⟨hclS, hhS⟩)
 have HG5 := hd_ g5
 have HB8 := hd_ b8
 have HB6 := hd_ b6
 have HB4 := hd_ b4
 have hLn : L.length ≤ 1024 := by omega
 clear hclS hhS hbS hcmS b8 b6 b4 
 go_loopw [12] (fun i9 wr => ∃ k : Nat, k ≤ L.length ∧ i9 = .int .i64 (k : Int) ∧ (∃ vf', RefIn base wr R (.slice (some ⟨g, 0, none⟩) d.length c) vf' (putK d xv (x.1, putL an DATA x.2 (L.take k)))) ∧ RK W5 wr ∧ Below base w wr) (fun i9 _ => L.length - (intOf i9).toNat)
 case atStart => exact ⟨0, Nat.zero_le _, rfl, ⟨vf, by rw [List.take_zero, putL, List.foldl_nil, putK_own HI.out.ok.sort HX.out]; rw [HN.out.symm]; exact HI.out.gr HG5.out⟩, RK.refl _, HG5.out.below.mono hbase⟩
 case round =>
  obtain ⟨k, hk, rfl, ⟨vf', hRk⟩, hRK, hBel⟩ := hrel
  rw [← HN.out] at hRk
  have k8 := hRK.block HB8.out (by unfold refT; decide)
  have k6 := hRK.block HB6.out (by unfold refT; decide)
  have k4 := hRK.block HB4.out (by unfold refT; decide)
  have y0 : wr.cell? ⟨R, 0, none⟩ = some (.slice (some ⟨g, 0, none⟩) N c) := (bc 0 hRk.blk).trans rfl
  haveI : Old R wr := hRk.blk.old
  haveI := k8
  haveI := k6
  haveI := k4
  haveI := k8.old
  haveI := k6.old
  haveI := k4.old
  have o4 : wr.cell? ⟨w.heap.size, 4, none⟩ = some (.int .i64 (an : Int)) := (bc 4 k4).trans rfl
  by_cases hlt : k < L.length
  ·obtain ⟨⟨sb, sf, st⟩, hs⟩ : ∃ s, L[k]? = some s := ⟨_, List.getElem?_eq_getElem hlt⟩
   have hsa := HALL.out _ (List.mem_of_getElem? hs)
   simp only at hsa
   obtain ⟨hsf, hst, hslo, hshi⟩ := hsa
   have hcl9 := HS5.out.1.rk HS5.out.2 (by unfold refT; decide) hRK
   have s0 : wr.cell? ⟨gS, k * 3, none⟩ = some (.int .i64 (sb : Int)) := by have := hcl9 k _ hs 0 _ rfl; rwa [Nat.zero_add] at this
   have s1 : wr.cell? ⟨gS, k * 3 + 1, none⟩ = some (.int .i64 (sf : Int)) := by have := hcl9 k _ hs 1 _ rfl; rwa [Nat.zero_add] at this
   have s2 : wr.cell? ⟨gS, k * 3 + 2, none⟩ = some (.int .i64 (st : Int)) := by have := hcl9 k _ hs 2 _ rfl; rwa [Nat.zero_add] at this
   haveI : Old gS wr := old_of_cell s0
   have hms : (sb : Int) < x.1 := by omega
   obtain ⟨m, hme⟩ : ∃ m, m = putL an DATA x.2 (L.take k) := ⟨_, rfl⟩
   rw [← hme] at hRk
   have hok' : VolOk (x.1, m) := by rw [hme]; exact putL_ok _ HOK.out (fun s hs => by have := HALL.out s (List.mem_of_mem_take hs); exact ⟨this.1, this.2.1, by have := hfit; omega⟩)
   have hdk : (putK d xv (x.1, m))[i]? = some (xv, (x.1, m)) := by rw [← putK_set HI.out.ok.sort HDI.out, List.getElem?_set_self (by rw [← HN.out]; exact hil)]
   obtain ⟨g', c', hv', hbg', hgl', _, _, _, hty', hcl'⟩ := hRk.form (by intro e; rw [e] at hdk; cases hdk)
   simp only [Value.slice.injEq, Option.some.injEq, Addr.mk.injEq] at hv'
   obtain ⟨⟨hgg, -, -⟩, -, -⟩ := hv'
   rw [← hgg] at hgl' hty' hcl'
   have cM := (hcl' i _ hdk).2.2
   simp only at cM
   haveI : Old g wr := ⟨hgl'⟩
   have hBM := hRk.vol _ (List.mem_of_getElem? hdk)
   simp only at hBM
   have HG := hd_ (fun W (hW : Gr wr W) => rget_any g (i * 3) (vf' xv) m (sb : Int) W ((hW.below.cell (p := ⟨g, i * 3 + 2, none⟩) hgl').trans cM) (hBM.gr hW))
   have hY : ((getK m (sb : Int)).getD zB).length = 256 := blkM_len hok'.sort hok'.len sb
   have HYe := hd_ (show (getK m (sb : Int)).getD zB = blkM m sb from rfl)
   obtain ⟨Y, hYY⟩ : ∃ Y, Y = (getK m (sb : Int)).getD zB := ⟨_, rfl⟩
   rw [← hYY] at HG hY HYe
   obtain ⟨yi, hyi⟩ : ∃ yi, yi = (getK m (sb : Int)).isSome := ⟨_, rfl⟩
   rw [← hyi] at HG
   haveI := bkC_row hY
   have hsg : (segK ⟨sb, sf, st⟩ an DATA).length = 64 * (st - sf) := by have := HDL.out; simp [segK]; omega
   have HSG := hd_ hsg
   have HYL := hd_ hY
   have HRk := hd_ hRk
   have HRK := hd_ hRK
   have HBEL := hd_ hBel
   have HME := hd_ hme
   have HOKm := hd_ hok'
   have HDK := hd_ hdk
   have HS := hd_ hs
   have HTY := hd_ hty'
   have HCM := hd_ cM
   clear hcl9 hcl' hdk hbg' hty' hme hok' hBM hRk hRK hBel hYY hyi hsg hY hs hgg cM
   have d9 : decide (most ≤ (k : Int)) = false := decide_eq_false (by omega)
   go_wp2
   refine wp_region_tree (mixw_ghost _) [] (mixw_nil _) [0, 1, 2, 3, 4, 5, 6, 7, 8, 9, 10, 11, 12, 13, 14] 3 (by kernel_rfl) (by kernel_rfl) ?_
   simp only [pick, List.drop, List.take, List.nil_append, List.cons_append]
   repeat (refine wpCalm_step (fun K hK => ?_); go_simp; first | (refine hK _ ?_; clear hK K) | (apply Exists.intro; refine ⟨fun _ => ?_, hK _ ?_⟩; ((go_at_call 49; exact HG.out _ gri)); clear hK K))
   refine wpCalm_nil ?_
   refine fe_mixAllocD 15 (by kernel_rfl) rfl rfl rfl rfl Tryz.zeroValue66 fun B1 hB1 nB1 => ?_
   simp only [Act.put, stA, List.set]
   refine fe_mixStoreN 16 [(B1, bkC Y, 66)] (bkC Y) (by kernel_rfl) rfl rfl rfl rfl rfl mcs hB1 rfl (by rw [bkC_size, HYL.out]; exact infoBlk) (by rw [bkC_size, HYL.out]; kernel_rfl) (List.all_eq_true.2 (bkC_one Y)) (fun z hz => .inl (by simpa using hz)) ?_
   refine fe_mixCalmD 17 (.bool yi) (by kernel_rfl) rfl rfl rfl (fun g => by unfold calmAt; go_simp) ?_
   simp only [Act.put, stA, List.set]
   refine fe_end (by kernel_rfl) ?_
   intro w1 hw1
   have bB : BlockAt w1 B1 (bkC Y) 66 := ⟨hw1.2 _ mcs⟩
   have g27 : Gr wr w1 := hw1.1
   clear hw1 nB1
   obtain ⟨gk, rfl⟩ := g27
   obtain ⟨X, hX⟩ : ∃ X, mergeB Y sf (segK ⟨sb, sf, st⟩ an DATA) = X := ⟨_, rfl⟩
   have HXe := hd_ hX
   have HXL : Hid (X.length = 256) := hd_ (by rw [← hX]; exact mergeB_len Y sf _ HYL.out (by have := HSG.out; omega))
   clear hX
   have HSET : Hid (∀ W, Gr wr W → Calls Tryz.prog 52 #[.pointer (some ⟨g, i * 3, none⟩), .int .i64 (sb : Int), .agg (bkC X)] W fun e w' => e = .returned (.tuple #[]) ∧ (∃ vf'', RefIn base w' R (.slice (some ⟨g, 0, none⟩) N c) vf'' (putK d xv (x.1, putL an DATA x.2 (L.take (k + 1))))) ∧ RK wr w' ∧ Below base wr w') := hd_ fun W hW => by
    obtain ⟨cs9, hh9⟩ := HTY.out
    have hfr : wr.frozen? ⟨g, i * 3 + 2, none⟩ = false := froV ⟨cs9, hh9⟩ _
    have hF := HRk.out.own.cells rvIs (by intro e; have h9 := HDK.out; have := List.map_eq_nil_iff.1 e; rw [this] at h9; cases h9)
    have hcM : wr.cell? ⟨g, i * 3 + 2, none⟩ = some (vf' xv) := HCM.out
    refine (rset_any g (i * 3) (vf' xv) m (sb : Int) X HXL.out W ((hW.below.cell (p := ⟨g, i * 3 + 2, none⟩) (old_of_cell hcM).lt).trans hcM) (gr_frozen hW (old_of_cell hcM).lt hfr) ((HRk.out.vol _ (List.mem_of_getElem? HDK.out)).gr hW) HOKm.out.sort (Nat.le_trans (vols_len HOKm.out) (by omega))).mono ?_
    rintro _ _ ⟨rfl, w1, u, hg1, ho1, rfl⟩
    have hput : putL an DATA x.2 (L.take (k + 1)) = putK m sb X := by
     rw [List.take_add_one, HS.out]
     simp only [putL, List.foldl_append, Option.toList, List.foldl_cons, List.foldl_nil]
     simp only [putS]
     rw [← HXe.out, HYe.out, HME.out]
     rfl
    have hok2 : VolOk (x.1, putK m sb X) := by rw [← hput]; exact putL_ok _ HOK.out (fun s hs => by have := HALL.out s (List.mem_of_mem_take hs); exact ⟨this.1, this.2.1, by have := hfit; omega⟩)
    have hr9 := HRk.out.setM (hW.trans hg1) HDK.out (putK m sb X) u ho1.blkS hok2
    simp only at hr9
    rw [putK_putK _ _ _ _ HI.out.ok.sort] at hr9
    rw [hput]
    exact ⟨rfl, ⟨_, hr9⟩, (RK.gr (hW.trans hg1)).set_ g _ u (((hW.trans hg1).below.block g (old_of_cell hcM).lt).trans hh9) (.inl rfl), ((hW.trans hg1).below.mono (Nat.le_trans hbase HBEL.out.size)).setCell (p := ⟨g, i * 3 + 2, none⟩) hbg u⟩
   haveI := bB
   try simp only [Act.put, stA, List.set]
   go_wp2
   refine wp_region_treeG ⟨fun w' => Gr (grown wr gk) w', true, fun _ _ h => h, fun _ _ _ h g => h.trans g⟩ rfl (Gr.of ((Below.refl _ _).drew)) [0, 1, 2, 3, 4, 5, 6, 7, 8, 9, 10, 11, 12] 6 18 (by kernel_rfl) (by kernel_rfl) ?_
   simp only [pick, List.drop, List.take, List.nil_append, List.cons_append]
   refine wpCalm_load rfl rfl rfl bB Tryz.underlying66 rfl (by rw [bkC_size, HYL.out]; exact infoBlk) ?_
   simp only [Act.put, stA, List.set]
   repeat (refine wpCalm_step (fun K hK => ?_); go_simp; first | (refine hK _ ?_; clear hK K) | (apply Exists.intro; refine ⟨fun _ => ?_, hK _ ?_⟩; (skip); clear hK K))
   refine wpCalm_nil ?_
   have hsne : segK ⟨sb, sf, st⟩ an DATA ≠ [] := by
    intro e
    have := HSG.out
    rw [e] at this
    simp at this
    omega
   have hDT := fun W (hW : Gr (grown wr gk) W) => HDT.out W (HRK.out.trans (RK.gr (Gr.trans gri hW))) (HBEL.out.trans ((Gr.below (Gr.trans (gri : Gr wr (grown wr gk)) hW)).mono (Nat.le_trans hbase HBEL.out.size)))
   refine fg_one 13 (by kernel_rfl) ?_
   refine fg_effD rfl rfl rfl (fun w1 hw1 => effAt_call' 51 #[.agg #[.int .i64 (sb : Int), .int .i64 (sf : Int), .int .i64 (st : Int)], .int .i64 (an : Int), .slice (some ⟨B, p, none⟩) xn xq] (by go_simp) ((rdata_any sb sf st an xn xq B p DATA w1 (by omega) hsf hst hslo (by omega) (by omega) (by omega) (by have := HDL.out; omega) (by omega) (hDT w1 hw1).1 (hDT w1 hw1).2).mono fun e w2 hc => ?_))
   obtain ⟨v1, rfl, ho1, hg1⟩ := hc
   obtain ⟨A1, c1', rfl, -, hA1', -, -, hcl1, -⟩ := ho1.cells bIs hsne
   refine ⟨_, rfl, ⟨fun w2 => Gr (grown wr gk) w2 ∧ A1 < w2.heap.size ∧ ∀ (j : Nat) u, (segK ⟨sb, sf, st⟩ an DATA)[j]? = some u → w2.cell? ⟨A1, 0 + j, none⟩ = some (bv u), true, fun _ _ h => h.1, fun _ _ _ h g => ⟨h.1.trans g, Nat.lt_of_lt_of_le h.2.1 g.below.size, fun j u hj => (g.below.cell (p := ⟨A1, 0 + j, none⟩) h.2.1).trans (h.2.2 j u hj)⟩⟩, ⟨Gr.trans hw1 hg1, hA1', fun j u hj => by have := hcl1 j u hj 0 _ rfl; simpa [bE] using this⟩, fun _ _ => rfl, ?_⟩
   rw [HSG.out]
   clear ho1 hg1 hw1 hA1' hcl1 w2 w1
   simp only [Act.put, stA, List.set]
   refine fg_one 14 (by kernel_rfl) ?_
   refine fg_effD rfl rfl rfl (fun w1 hw1 => effAt_call' 50 #[.agg (bkC Y), .int .i64 (sf : Int), .slice (some ⟨A1, 0, none⟩) (64 * (st - sf)) c1'] (by go_simp) ((rmerge_any Y (segK ⟨sb, sf, st⟩ an DATA) sf (64 * (st - sf)) c1' A1 0 w1 HYL.out (by omega) HSG.out (by omega) (by omega) hw1.2.1 hw1.2.2).mono fun e w2 hc => ?_))
   obtain ⟨rfl, hg1⟩ := hc
   refine ⟨_, rfl, ⟨fun w2 => Gr (grown wr gk) w2, true, fun _ _ h => h, fun _ _ _ h g => h.trans g⟩, Gr.trans hw1.1 hg1, fun _ _ => rfl, ?_⟩
   rw [HXe.out]
   clear hg1 hw1 w2 w1 hDT
   simp only [Act.put, stA, List.set]
   refine fg_one 15 (by kernel_rfl) ?_
   refine fg_pure (.tuple #[.agg (bkC X), .int .i64 0]) rfl rfl rfl (fun w => by go_simp) ?_
   simp only [Act.put, stA, List.set]
   refine fg_two 16 17 (by kernel_rfl) ?_ ?_
   ·refine fg_pure (.agg (bkC X)) rfl rfl rfl (fun w => by go_simp) ?_
    simp only [Act.put, stA, List.set]
    refine fg_two 17 18 (by kernel_rfl) ?_ ?_
    ·refine fg_pure (.int .i64 0) rfl rfl rfl (fun w => by go_simp) ?_
     simp only [Act.put, stA, List.set]
     refine fg_one 18 (by kernel_rfl) ?_
     refine fg_effN rfl rfl rfl (fun w1 hw1 => effAt_storeB rfl rfl rfl (bB.gr hw1) (by rw [bkC_size, HYL.out]) (bkC_row HXL.out) ⟨⟨fun w2 => ∃ w1, Gr (grown wr gk) w1 ∧ w2 = w1.setRow B1 (bkC X), false, fun e => Bool.noConfusion e, fun e => Bool.noConfusion e⟩, ⟨w1, hw1, rfl⟩, fun e => absurd rfl e, ?_⟩)
     refine fg_end (by kernel_rfl) (fun w5 hw5 => ?_)
     obtain ⟨w4, hw4, rfl⟩ := hw5
     have bX : BlockAt (w4.setRow B1 (bkC X)) B1 (bkC X) 66 := setRow_block (bB.gr hw4)
     have g28 : Gr wr (w4.setRow B1 (bkC X)) := setRow_gr (Gr.trans gri hw4) hB1
     clear hw4
     obtain ⟨w6, hw6⟩ : ∃ w6, w6 = w4.setRow B1 (bkC X) := ⟨_, rfl⟩
     rw [← hw6] at bX g28 ⊢
     clear hw6 bB w4
     obtain ⟨gz, rfl⟩ := g28
     haveI := bX
     try simp only [Act.put, stA, List.set]
     go_wp2
     refine wp_region_treeT (inCls_ghost _) (Cls.none _) ⟨Gr.of ((Below.refl _ _).drew), trivial⟩ [0, 1, 2, 3, 4, 5, 6, 7, 8, 9, 10, 11] 0 12 (by kernel_rfl) (by kernel_rfl) ?_
     simp only [pick, List.drop, List.take, List.nil_append, List.cons_append]
     repeat (refine wpCalm_step (fun K hK => ?_); go_simp; first | (refine hK _ ?_; clear hK K) | (apply Exists.intro; refine ⟨fun _ => ?_, hK _ ?_⟩; (skip); clear hK K))
     refine wpCalm_load rfl rfl rfl bX Tryz.underlying66 rfl (by rw [bkC_size, HXL.out]; exact infoBlk) ?_
     simp only [Act.put, stA, List.set]
     refine wpCalm_nil ?_
     refine ft_end ⟨by kernel_rfl, fun w9 hw9 => ?_⟩
     try simp only [List.drop_succ_cons, List.drop_zero]
     have g29 : Gr wr w9 := Gr.trans gri hw9.1
     clear hw9
     have HG29 := hd_ g29
     clear g29
     go_wp2_with (first | (go_at_call 52; ((with_reducible refine (HSET.out _ HG29.out).mono ?_); rintro _ W3 ⟨rfl, hr3, hk3, hb3⟩)))
     go_roundw
     case rel => exact ⟨k + 1, hlt, by go_num, by rw [← HN.out]; exact hr3, HRK.out.trans hk3, HBEL.out.trans hb3⟩
     case measure => simp [intOf]; omega
    ·refine fg_effN rfl rfl rfl (fun w1 hw1 => effAt_storeB rfl rfl rfl (bB.gr hw1) (by rw [bkC_size, HYL.out]) (bkC_row HXL.out) ⟨⟨fun w2 => ∃ w1, Gr (grown wr gk) w1 ∧ w2 = w1.setRow B1 (bkC X), false, fun e => Bool.noConfusion e, fun e => Bool.noConfusion e⟩, ⟨w1, hw1, rfl⟩, fun e => absurd rfl e, ?_⟩)
     refine fg_one 17 (by kernel_rfl) ?_
     refine fg_pure (.int .i64 0) rfl rfl rfl (fun w => by go_simp) ?_
     simp only [Act.put, stA, List.set]
     refine fg_end (by kernel_rfl) (fun w5 hw5 => ?_)
     obtain ⟨w4, hw4, rfl⟩ := hw5
     have bX : BlockAt (w4.setRow B1 (bkC X)) B1 (bkC X) 66 := setRow_block (bB.gr hw4)
     have g28 : Gr wr (w4.setRow B1 (bkC X)) := setRow_gr (Gr.trans gri hw4) hB1
     clear hw4
     obtain ⟨w6, hw6⟩ : ∃ w6, w6 = w4.setRow B1 (bkC X) := ⟨_, rfl⟩
     rw [← hw6] at bX g28 ⊢
     clear hw6 bB w4
     obtain ⟨gz, rfl⟩ := g28
     haveI := bX
     try simp only [Act.put, stA, List.set]
     go_wp2
     refine wp_region_treeT (inCls_ghost _) (Cls.none _) ⟨Gr.of ((Below.refl _ _).drew), trivial⟩ [0, 1, 2, 3, 4, 5, 6, 7, 8, 9, 10, 11] 0 12 (by kernel_rfl) (by kernel_rfl) ?_
     simp only [pick, List.drop, List.take, List.nil_append, List.cons_append]
     repeat (refine wpCalm_step (fun K hK => ?_); go_simp; first | (refine hK _ ?_; clear hK K) | (apply Exists.intro; refine ⟨fun _ => ?_, hK _ ?_⟩; (skip); clear hK K))
     refine wpCalm_load rfl rfl rfl bX Tryz.underlying66 rfl (by rw [bkC_size, HXL.out]; exact infoBlk) ?_
     simp only [Act.put, stA, List.set]
     refine wpCalm_nil ?_
     refine ft_end ⟨by kernel_rfl, fun w9 hw9 => ?_⟩
     try simp only [List.drop_succ_cons, List.drop_zero]
     have g29 : Gr wr w9 := Gr.trans gri hw9.1
     clear hw9
     have HG29 := hd_ g29
     clear g29
     go_wp2_with (first | (go_at_call 52; ((with_reducible refine (HSET.out _ HG29.out).mono ?_); rintro _ W3 ⟨rfl, hr3, hk3, hb3⟩)))
     go_roundw
     case rel => exact ⟨k + 1, hlt, by go_num, by rw [← HN.out]; exact hr3, HRK.out.trans hk3, HBEL.out.trans hb3⟩
     case measure => simp [intOf]; omega
   ·refine fg_pure (.int .i64 0) rfl rfl rfl (fun w => by go_simp) ?_
    simp only [Act.put, stA, List.set]
    refine fg_one 16 (by kernel_rfl) ?_
    refine fg_pure (.agg (bkC X)) rfl rfl rfl (fun w => by go_simp) ?_
    simp only [Act.put, stA, List.set]
    refine fg_one 18 (by kernel_rfl) ?_
    refine fg_effN rfl rfl rfl (fun w1 hw1 => effAt_storeB rfl rfl rfl (bB.gr hw1) (by rw [bkC_size, HYL.out]) (bkC_row HXL.out) ⟨⟨fun w2 => ∃ w1, Gr (grown wr gk) w1 ∧ w2 = w1.setRow B1 (bkC X), false, fun e => Bool.noConfusion e, fun e => Bool.noConfusion e⟩, ⟨w1, hw1, rfl⟩, fun e => absurd rfl e, ?_⟩)
    refine fg_end (by kernel_rfl) (fun w5 hw5 => ?_)
    obtain ⟨w4, hw4, rfl⟩ := hw5
    have bX : BlockAt (w4.setRow B1 (bkC X)) B1 (bkC X) 66 := setRow_block (bB.gr hw4)
    have g28 : Gr wr (w4.setRow B1 (bkC X)) := setRow_gr (Gr.trans gri hw4) hB1
    clear hw4
    obtain ⟨w6, hw6⟩ : ∃ w6, w6 = w4.setRow B1 (bkC X) := ⟨_, rfl⟩
    rw [← hw6] at bX g28 ⊢
    clear hw6 bB w4
    obtain ⟨gz, rfl⟩ := g28
    haveI := bX
    try simp only [Act.put, stA, List.set]
    go_wp2
    refine wp_region_treeT (inCls_ghost _) (Cls.none _) ⟨Gr.of ((Below.refl _ _).drew), trivial⟩ [0, 1, 2, 3, 4, 5, 6, 7, 8, 9, 10, 11] 0 12 (by kernel_rfl) (by kernel_rfl) ?_
    simp only [pick, List.drop, List.take, List.nil_append, List.cons_append]
    repeat (refine wpCalm_step (fun K hK => ?_); go_simp; first | (refine hK _ ?_; clear hK K) | (apply Exists.intro; refine ⟨fun _ => ?_, hK _ ?_⟩; (skip); clear hK K))
    refine wpCalm_load rfl rfl rfl bX Tryz.underlying66 rfl (by rw [bkC_size, HXL.out]; exact infoBlk) ?_
    simp only [Act.put, stA, List.set]
    refine wpCalm_nil ?_
    refine ft_end ⟨by kernel_rfl, fun w9 hw9 => ?_⟩
    try simp only [List.drop_succ_cons, List.drop_zero]
    have g29 : Gr wr w9 := Gr.trans gri hw9.1
    clear hw9
    have HG29 := hd_ g29
    clear g29
    go_wp2_with (first | (go_at_call 52; ((with_reducible refine (HSET.out _ HG29.out).mono ?_); rintro _ W3 ⟨rfl, hr3, hk3, hb3⟩)))
    go_roundw
    case rel => exact ⟨k + 1, hlt, by go_num, by rw [← HN.out]; exact hr3, HRK.out.trans hk3, HBEL.out.trans hb3⟩
    case measure => simp [intOf]; omega
  ·have hkk : k = L.length := by omega
   rw [hkk, List.take_length] at hRk
   have p0 : wr.cell? ⟨A0, 0, none⟩ = some (.int .i64 0) := (bc 0 k8).trans rfl
   have p1 : wr.cell? ⟨A0, 1, none⟩ = some (.int .i64 0) := (bc 1 k8).trans rfl
   have p2 : wr.cell? ⟨A0, 2, none⟩ = some (.slice none 0 0) := (bc 2 k8).trans rfl
   have q0 : wr.cell? ⟨w.heap.size + 1, 0, none⟩ = some (.int .i64 0) := (bc 0 k6).trans rfl
   have q1 : wr.cell? ⟨w.heap.size + 1, 1, none⟩ = some (.int .i64 0) := (bc 1 k6).trans rfl
   have q2 : wr.cell? ⟨w.heap.size + 1, 2, none⟩ = some (.slice none 0 0) := (bc 2 k6).trans rfl
   have fz : ∀ o, wr.frozen? ⟨w.heap.size + 1, o, none⟩ = false := fun o => @block_frozen _ _ o _ _ k6
   have HRk := hd_ hRk
   have HRK := hd_ hRK
   have HBEL := hd_ hBel
   clear hRk hRK hBel
   go_wp2
   exact bodyPost_ret (run_resCell1 rfl _ _ _ _ rfl (ans_block k6 _ _ _) Tryz.underlying38 rfl (by kernel_rfl)) rfl ⟨none, 0, 0, rfl, OwnN.nil _ _, ans_ref HRk.out k6 _ _ _, ans_below HBEL.out (by omega) _ _ _, ans_rk ((RK.gr HG5.out).trans HRK.out) (by omega) _ _ _⟩
theorem rpart_6 (xv xt xs xa xc most : Int) (xD : Option Addr) (xn xq : Nat) (lx : Byt) (hxn : lx.length = xn) (base R : Nat) (d : Dev) (w : World) (h : RefAt base w R d) (hbase : base ≤ w.heap.size) (hl : d.length ≤ 1000000) (hn : xn ≤ 1000000) (v0 : 0 ≤ xv) (t0 : 0 ≤ xt) (he : errK d ⟨6, xv, xt, xs, xa, xc, lx⟩ = 0) (q0 : 1 ≤ xc) (q1 : xc ≤ 1024) (x : VolM) (hx : getK d xv = some x) (a0 : 0 ≤ xa) (a1 : xa ≤ 1048576) (hmost : 1024 ≤ most) (hfit : ¬ 4 * x.1 < xa + xc) :
  Calls Tryz.prog 18 #[.pointer (some ⟨R, 0, none⟩), .agg #[.int .i64 6, .int .u64 xv, .int .u64 xt, .int .i64 xs, .int .i64 xa, .int .i64 xc, .slice xD xn xq], .int .i64 most] w (RPost base R (putK d xv (x.1, putL xa.toNat (List.replicate (64 * xc.toNat) 0) x.2 (spans xa.toNat xc.toNat))) 0 0 [] w) := by
 have HR := hd_ (fun W (g : Gr w W) => rrefused_any 6 xv xt xs xa xc xD xn xq lx hxn base R d W (h.gr g) hl hn v0 t0)
 have HF := hd_ (fun W (g : Gr w W) => rfind_any base R d xv W (h.gr g) hl)
 rw [he] at HR
 obtain ⟨v, vf, hI⟩ := h
 have HI := hd_ hI
 have HB := fun W (g : Gr w W) => Nat.le_trans hbase g.below.size
 have hok := hI.ok.vols _ ((getK_mem hI.ok.sort).1 hx)
 have hx0 := hok.s0
 have hx1 := hok.s1
 simp only at hx0 hx1
 have HOK := hd_ hok
 clear hok
 obtain ⟨an, rfl⟩ : ∃ n : Nat, xa = n := ⟨xa.toNat, by omega⟩
 rw [Int.toNat_natCast]
 obtain ⟨C, rfl⟩ : ∃ n : Nat, xc = n := ⟨xc.toNat, by omega⟩
 rw [Int.toNat_natCast]
 obtain ⟨Q, hQ⟩ : ∃ Q, Q = 64 * C := ⟨_, rfl⟩
 have e64 : 64 * (C : Int) = (Q : Int) := by omega
 have hCx : (Q : Int) / 64 = (C : Int) := by omega
 have hQ9 : Q ≤ 65536 := by omega
 have hmq := fun W => makeQ Q (by omega) W
 obtain ⟨DATA, hDATA⟩ : ∃ l, l = List.replicate (64 * C) (0 : UInt8) := ⟨_, rfl⟩
 rw [← hDATA]
 have hdl : DATA.length = 64 * C := by rw [hDATA, List.length_replicate]
 have hdq : List.replicate Q (0 : UInt8) = DATA := by rw [hDATA, hQ]
 rw [hdq] at hmq
 have HC1 : 1 ≤ C := by omega
 have HC2 : C ≤ 1024 := by omega
 have HSp := hd_ (fun W => rsplit_any an C (by omega) (by omega) (by omega) W)
 have HLNE := hd_ (spans_ne an C HC1)
 have hsl1 := spans_len an C
 have hall := fun s hs => (spans_all s hs : s.f < s.t ∧ s.t ≤ 4 ∧ an ≤ 4 * s.b + s.f ∧ 4 * s.b + s.t ≤ an + C)
 obtain ⟨L, hL⟩ : ∃ L, L = spans an C := ⟨_, rfl⟩
 rw [← hL] at HSp HLNE hsl1 hall ⊢
 have HALL := hd_ hall
 have HDL := hd_ hdl
 have HDA := hd_ hDATA
 clear hL hall hdl hDATA hQ
 obtain ⟨i, hi, hdi, hil⟩ := idx_get hx
 rw [hi] at HF
 obtain ⟨g, c, rfl, hbg, hgl, hne, hc1, hc2, hty, hcl⟩ := hI.form (by rintro rfl; simp at hil)
 obtain ⟨c0, c1, c2⟩ := hcl i _ hdi
 simp only at c0 c1 c2
 rw [Nat.add_zero] at c0
 have x0 : w.cell? ⟨R, 0, none⟩ = some (.slice (some ⟨g, 0, none⟩) d.length c) := (bc 0 hI.blk).trans rfl
 haveI := hI.blk
 haveI : Old R w := hI.blk.old
 haveI : Old g w := ⟨hgl⟩
 have HDI := hd_ hdi
 have HX := hd_ hx
 have HV := hd_ (hI.vol _ (List.mem_of_getElem? hdi))
 obtain ⟨N, hN⟩ : ∃ N, N = d.length := ⟨_, rfl⟩
 rw [← hN] at x0 hil hc1
 rw [← hN] at HI
 have HN := hd_ hN
 have HL := hd_ hl
 clear hcl hdi hi hI he hx hN hl
 have hN9 : N ≤ 1000000 := by have := HL.out; have := HN.out; omega
 go_enter Tryz.func18, Tryz.ntmps18
 go_wp2_with (first | (go_at_call 45; ((with_reducible refine (HR.out _ gri).mono ?_); rintro _ _ ⟨rfl, g1, rfl⟩)) | (go_at_call 46; ((with_reducible refine (HF.out _ gri).mono ?_); rintro _ _ ⟨rfl, g2, rfl⟩)) | (go_at_call 29; ((with_reducible refine (HSp.out _).mono ?_); rintro _ _ ⟨vS, rfl, hoS, ⟨gq, rfl⟩⟩; obtain ⟨gS, cS, rfl, hbS, hgS, hcS, hcmS, hclS, hzS⟩ := hoS.cells spIs HLNE.out; obtain ⟨curS, hhS⟩ := own_heap hoS)))
 obtain ⟨A0, hA0⟩ : ∃ A0, A0 = (grown _ g1).heap.size := ⟨_, rfl⟩
 have hA1 : w.heap.size + 1 < A0 := by
  rw [hA0]
  exact (inferInstance : Old (w.heap.size + 1) (grown _ g1)).lt
 obtain ⟨W5, hW5⟩ : ∃ W5, W5 = grown _ gq := ⟨_, rfl⟩
 have b8 : BlockAt W5 A0 #[.int .i64 0, .int .i64 0, .slice none 0 0] 38 := by
  rw [hW5, hA0]
  infer_instance
 have b6 : BlockAt W5 (w.heap.size + 1) #[.int .i64 0, .int .i64 0, .slice none 0 0] 38 := by
  rw [hW5]
  infer_instance
 have b4 : BlockAt W5 w.heap.size #[.int .i64 6, .int .u64 xv, .int .u64 xt, .int .i64 xs, .int .i64 (an : Int), .int .i64 (C : Int), .slice xD xn xq] 27 := by
  rw [hW5]
  infer_instance
 have g5 : Gr w W5 := by
  rw [hW5]
  exact gri
 rw [← hW5] at hgS hclS hhS
 obtain ⟨K0, hK0⟩ : ∃ K0, K0 = (grown _ g2).heap.size := ⟨_, rfl⟩
 have bK : BlockAt W5 K0 (bkC DATA) 5 := by
  rw [hW5, hK0]
  infer_instance
 rw [← hK0]
 rw [← hW5]
 try rw [← hA0]
 clear hW5 hA0 hoS hzS hK0
 haveI := grc_of g5
 haveI := from_of g5
 have HDT : Hid (∀ W, RK W5 W → Below base w W → K0 < W.heap.size ∧ ∀ (j : Nat) u, DATA[j]? = some u → W.cell? ⟨K0, 0 + j, none⟩ = some (bv u)) := hd_ fun W hk hb => by
  have h9 := hk.block bK (by unfold refT; decide)
  exact ⟨h9.lt, fun j u hj => by rw [Nat.zero_add, bc _ h9]; exact bkC_at hj⟩
 have HS5 := hd_ (show CellsN spE W5 gS 0 L ∧ W5.heap[gS]? = some (.cells curS 107 (0, 0)) from ⟨hclS, hhS⟩)
 have HG5 := hd_ g5
 have HB8 := hd_ b8
 have HB6 := hd_ b6
 have HB4 := hd_ b4
 have hLn : L.length ≤ 1024 := by omega
 clear hclS hhS hbS hcmS b8 b6 b4 bK
 go_loopw [12] (fun i9 wr => ∃ k : Nat, k ≤ L.length ∧ i9 = .int .i64 (k : Int) ∧ (∃ vf', RefIn base wr R (.slice (some ⟨g, 0, none⟩) d.length c) vf' (putK d xv (x.1, putL an DATA x.2 (L.take k)))) ∧ RK W5 wr ∧ Below base w wr) (fun i9 _ => L.length - (intOf i9).toNat)
 case atStart => exact ⟨0, Nat.zero_le _, rfl, ⟨vf, by rw [List.take_zero, putL, List.foldl_nil, putK_own HI.out.ok.sort HX.out]; rw [HN.out.symm]; exact HI.out.gr HG5.out⟩, RK.refl _, HG5.out.below.mono hbase⟩
 case round =>
  obtain ⟨k, hk, rfl, ⟨vf', hRk⟩, hRK, hBel⟩ := hrel
  rw [← HN.out] at hRk
  have k8 := hRK.block HB8.out (by unfold refT; decide)
  have k6 := hRK.block HB6.out (by unfold refT; decide)
  have k4 := hRK.block HB4.out (by unfold refT; decide)
  have y0 : wr.cell? ⟨R, 0, none⟩ = some (.slice (some ⟨g, 0, none⟩) N c) := (bc 0 hRk.blk).trans rfl
  haveI : Old R wr := hRk.blk.old
  haveI := k8
  haveI := k6
  haveI := k4
  haveI := k8.old
  haveI := k6.old
  haveI := k4.old
  have o4 : wr.cell? ⟨w.heap.size, 4, none⟩ = some (.int .i64 (an : Int)) := (bc 4 k4).trans rfl
  by_cases hlt : k < L.length
  ·obtain ⟨⟨sb, sf, st⟩, hs⟩ : ∃ s, L[k]? = some s := ⟨_, List.getElem?_eq_getElem hlt⟩
   have hsa := HALL.out _ (List.mem_of_getElem? hs)
   simp only at hsa
   obtain ⟨hsf, hst, hslo, hshi⟩ := hsa
   have hcl9 := HS5.out.1.rk HS5.out.2 (by unfold refT; decide) hRK
   have s0 : wr.cell? ⟨gS, k * 3, none⟩ = some (.int .i64 (sb : Int)) := by have := hcl9 k _ hs 0 _ rfl; rwa [Nat.zero_add] at this
   have s1 : wr.cell? ⟨gS, k * 3 + 1, none⟩ = some (.int .i64 (sf : Int)) := by have := hcl9 k _ hs 1 _ rfl; rwa [Nat.zero_add] at this
   have s2 : wr.cell? ⟨gS, k * 3 + 2, none⟩ = some (.int .i64 (st : Int)) := by have := hcl9 k _ hs 2 _ rfl; rwa [Nat.zero_add] at this
   haveI : Old gS wr := old_of_cell s0
   have hms : (sb : Int) < x.1 := by omega
   obtain ⟨m, hme⟩ : ∃ m, m = putL an DATA x.2 (L.take k) := ⟨_, rfl⟩
   rw [← hme] at hRk
   have hok' : VolOk (x.1, m) := by rw [hme]; exact putL_ok _ HOK.out (fun s hs => by have := HALL.out s (List.mem_of_mem_take hs); exact ⟨this.1, this.2.1, by have := hfit; omega⟩)
   have hdk : (putK d xv (x.1, m))[i]? = some (xv, (x.1, m)) := by rw [← putK_set HI.out.ok.sort HDI.out, List.getElem?_set_self (by rw [← HN.out]; exact hil)]
   obtain ⟨g', c', hv', hbg', hgl', _, _, _, hty', hcl'⟩ := hRk.form (by intro e; rw [e] at hdk; cases hdk)
   simp only [Value.slice.injEq, Option.some.injEq, Addr.mk.injEq] at hv'
   obtain ⟨⟨hgg, -, -⟩, -, -⟩ := hv'
   rw [← hgg] at hgl' hty' hcl'
   have cM := (hcl' i _ hdk).2.2
   simp only at cM
   haveI : Old g wr := ⟨hgl'⟩
   have hBM := hRk.vol _ (List.mem_of_getElem? hdk)
   simp only at hBM
   have HG := hd_ (fun W (hW : Gr wr W) => rget_any g (i * 3) (vf' xv) m (sb : Int) W ((hW.below.cell (p := ⟨g, i * 3 + 2, none⟩) hgl').trans cM) (hBM.gr hW))
   have hY : ((getK m (sb : Int)).getD zB).length = 256 := blkM_len hok'.sort hok'.len sb
   have HYe := hd_ (show (getK m (sb : Int)).getD zB = blkM m sb from rfl)
   obtain ⟨Y, hYY⟩ : ∃ Y, Y = (getK m (sb : Int)).getD zB := ⟨_, rfl⟩
   rw [← hYY] at HG hY HYe
   obtain ⟨yi, hyi⟩ : ∃ yi, yi = (getK m (sb : Int)).isSome := ⟨_, rfl⟩
   rw [← hyi] at HG
   haveI := bkC_row hY
   have hsg : (segK ⟨sb, sf, st⟩ an DATA).length = 64 * (st - sf) := by have := HDL.out; simp [segK]; omega
   have HSG := hd_ hsg
   have HYL := hd_ hY
   have HRk := hd_ hRk
   have HRK := hd_ hRK
   have HBEL := hd_ hBel
   have HME := hd_ hme
   have HOKm := hd_ hok'
   have HDK := hd_ hdk
   have HS := hd_ hs
   have HTY := hd_ hty'
   have HCM := hd_ cM
   clear hcl9 hcl' hdk hbg' hty' hme hok' hBM hRk hRK hBel hYY hyi hsg hY hs hgg cM
   have d9 : decide (most ≤ (k : Int)) = false := decide_eq_false (by omega)
   go_wp2
   refine wp_region_tree (mixw_ghost _) [] (mixw_nil _) [0, 1, 2, 3, 4, 5, 6, 7, 8, 9, 10, 11, 12, 13, 14] 3 (by kernel_rfl) (by kernel_rfl) ?_
   simp only [pick, List.drop, List.take, List.nil_append, List.cons_append]
   repeat (refine wpCalm_step (fun K hK => ?_); go_simp; first | (refine hK _ ?_; clear hK K) | (apply Exists.intro; refine ⟨fun _ => ?_, hK _ ?_⟩; ((go_at_call 49; exact HG.out _ gri)); clear hK K))
   refine wpCalm_nil ?_
   refine fe_mixAllocD 15 (by kernel_rfl) rfl rfl rfl rfl Tryz.zeroValue66 fun B1 hB1 nB1 => ?_
   simp only [Act.put, stA, List.set]
   refine fe_mixStoreN 16 [(B1, bkC Y, 66)] (bkC Y) (by kernel_rfl) rfl rfl rfl rfl rfl mcs hB1 rfl (by rw [bkC_size, HYL.out]; exact infoBlk) (by rw [bkC_size, HYL.out]; kernel_rfl) (List.all_eq_true.2 (bkC_one Y)) (fun z hz => .inl (by simpa using hz)) ?_
   refine fe_mixCalmD 17 (.bool yi) (by kernel_rfl) rfl rfl rfl (fun g => by unfold calmAt; go_simp) ?_
   simp only [Act.put, stA, List.set]
   refine fe_end (by kernel_rfl) ?_
   intro w1 hw1
   have bB : BlockAt w1 B1 (bkC Y) 66 := ⟨hw1.2 _ mcs⟩
   have g27 : Gr wr w1 := hw1.1
   clear hw1 nB1
   obtain ⟨gk, rfl⟩ := g27
   obtain ⟨X, hX⟩ : ∃ X, mergeB Y sf (segK ⟨sb, sf, st⟩ an DATA) = X := ⟨_, rfl⟩
   have HXe := hd_ hX
   have HXL : Hid (X.length = 256) := hd_ (by rw [← hX]; exact mergeB_len Y sf _ HYL.out (by have := HSG.out; omega))
   clear hX
   have HSET : Hid (∀ W, Gr wr W → Calls Tryz.prog 52 #[.pointer (some ⟨g, i * 3, none⟩), .int .i64 (sb : Int), .agg (bkC X)] W fun e w' => e = .returned (.tuple #[]) ∧ (∃ vf'', RefIn base w' R (.slice (some ⟨g, 0, none⟩) N c) vf'' (putK d xv (x.1, putL an DATA x.2 (L.take (k + 1))))) ∧ RK wr w' ∧ Below base wr w') := hd_ fun W hW => by
    obtain ⟨cs9, hh9⟩ := HTY.out
    have hfr : wr.frozen? ⟨g, i * 3 + 2, none⟩ = false := froV ⟨cs9, hh9⟩ _
    have hF := HRk.out.own.cells rvIs (by intro e; have h9 := HDK.out; have := List.map_eq_nil_iff.1 e; rw [this] at h9; cases h9)
    have hcM : wr.cell? ⟨g, i * 3 + 2, none⟩ = some (vf' xv) := HCM.out
    refine (rset_any g (i * 3) (vf' xv) m (sb : Int) X HXL.out W ((hW.below.cell (p := ⟨g, i * 3 + 2, none⟩) (old_of_cell hcM).lt).trans hcM) (gr_frozen hW (old_of_cell hcM).lt hfr) ((HRk.out.vol _ (List.mem_of_getElem? HDK.out)).gr hW) HOKm.out.sort (Nat.le_trans (vols_len HOKm.out) (by omega))).mono ?_
    rintro _ _ ⟨rfl, w1, u, hg1, ho1, rfl⟩
    have hput : putL an DATA x.2 (L.take (k + 1)) = putK m sb X := by
     rw [List.take_add_one, HS.out]
     simp only [putL, List.foldl_append, Option.toList, List.foldl_cons, List.foldl_nil]
     simp only [putS]
     rw [← HXe.out, HYe.out, HME.out]
     rfl
    have hok2 : VolOk (x.1, putK m sb X) := by rw [← hput]; exact putL_ok _ HOK.out (fun s hs => by have := HALL.out s (List.mem_of_mem_take hs); exact ⟨this.1, this.2.1, by have := hfit; omega⟩)
    have hr9 := HRk.out.setM (hW.trans hg1) HDK.out (putK m sb X) u ho1.blkS hok2
    simp only at hr9
    rw [putK_putK _ _ _ _ HI.out.ok.sort] at hr9
    rw [hput]
    exact ⟨rfl, ⟨_, hr9⟩, (RK.gr (hW.trans hg1)).set_ g _ u (((hW.trans hg1).below.block g (old_of_cell hcM).lt).trans hh9) (.inl rfl), ((hW.trans hg1).below.mono (Nat.le_trans hbase HBEL.out.size)).setCell (p := ⟨g, i * 3 + 2, none⟩) hbg u⟩
   haveI := bB
   try simp only [Act.put, stA, List.set]
   go_wp2
   refine wp_region_treeG ⟨fun w' => Gr (grown wr gk) w', true, fun _ _ h => h, fun _ _ _ h g => h.trans g⟩ rfl (Gr.of ((Below.refl _ _).drew)) [0, 1, 2, 3, 4, 5, 6, 7, 8, 9, 10, 11, 12] 6 18 (by kernel_rfl) (by kernel_rfl) ?_
   simp only [pick, List.drop, List.take, List.nil_append, List.cons_append]
   refine wpCalm_load rfl rfl rfl bB Tryz.underlying66 rfl (by rw [bkC_size, HYL.out]; exact infoBlk) ?_
   simp only [Act.put, stA, List.set]
   repeat (refine wpCalm_step (fun K hK => ?_); go_simp; first | (refine hK _ ?_; clear hK K) | (apply Exists.intro; refine ⟨fun _ => ?_, hK _ ?_⟩; (skip); clear hK K))
   refine wpCalm_nil ?_
   have hsne : segK ⟨sb, sf, st⟩ an DATA ≠ [] := by
    intro e
    have := HSG.out
    rw [e] at this
    simp at this
    omega
   have hDT := fun W (hW : Gr (grown wr gk) W) => HDT.out W (HRK.out.trans (RK.gr (Gr.trans gri hW))) (HBEL.out.trans ((Gr.below (Gr.trans (gri : Gr wr (grown wr gk)) hW)).mono (Nat.le_trans hbase HBEL.out.size)))
   refine fg_one 13 (by kernel_rfl) ?_
   refine fg_effD rfl rfl rfl (fun w1 hw1 => effAt_call' 51 #[.agg #[.int .i64 (sb : Int), .int .i64 (sf : Int), .int .i64 (st : Int)], .int .i64 (an : Int), .slice (some ⟨K0, 0, none⟩) Q Q] (by go_simp) ((rdata_any sb sf st an Q Q K0 0 DATA w1 (by omega) hsf hst hslo (by omega) (by omega) (by omega) (by have := HDL.out; omega) (by omega) (hDT w1 hw1).1 (hDT w1 hw1).2).mono fun e w2 hc => ?_))
   obtain ⟨v1, rfl, ho1, hg1⟩ := hc
   obtain ⟨A1, c1', rfl, -, hA1', -, -, hcl1, -⟩ := ho1.cells bIs hsne
   refine ⟨_, rfl, ⟨fun w2 => Gr (grown wr gk) w2 ∧ A1 < w2.heap.size ∧ ∀ (j : Nat) u, (segK ⟨sb, sf, st⟩ an DATA)[j]? = some u → w2.cell? ⟨A1, 0 + j, none⟩ = some (bv u), true, fun _ _ h => h.1, fun _ _ _ h g => ⟨h.1.trans g, Nat.lt_of_lt_of_le h.2.1 g.below.size, fun j u hj => (g.below.cell (p := ⟨A1, 0 + j, none⟩) h.2.1).trans (h.2.2 j u hj)⟩⟩, ⟨Gr.trans hw1 hg1, hA1', fun j u hj => by have := hcl1 j u hj 0 _ rfl; simpa [bE] using this⟩, fun _ _ => rfl, ?_⟩
   rw [HSG.out]
   clear ho1 hg1 hw1 hA1' hcl1 w2 w1
   simp only [Act.put, stA, List.set]
   refine fg_one 14 (by kernel_rfl) ?_
   refine fg_effD rfl rfl rfl (fun w1 hw1 => effAt_call' 50 #[.agg (bkC Y), .int .i64 (sf : Int), .slice (some ⟨A1, 0, none⟩) (64 * (st - sf)) c1'] (by go_simp) ((rmerge_any Y (segK ⟨sb, sf, st⟩ an DATA) sf (64 * (st - sf)) c1' A1 0 w1 HYL.out (by omega) HSG.out (by omega) (by omega) hw1.2.1 hw1.2.2).mono fun e w2 hc => ?_))
   obtain ⟨rfl, hg1⟩ := hc
   refine ⟨_, rfl, ⟨fun w2 => Gr (grown wr gk) w2, true, fun _ _ h => h, fun _ _ _ h g => h.trans g⟩, Gr.trans hw1.1 hg1, fun _ _ => rfl, ?_⟩
   rw [HXe.out]
   clear hg1 hw1 w2 w1 hDT
   simp only [Act.put, stA, List.set]
   refine fg_one 15 (by kernel_rfl) ?_
   refine fg_pure (.tuple #[.agg (bkC X), .int .i64 0]) rfl rfl rfl (fun w => by go_simp) ?_
   simp only [Act.put, stA, List.set]
   refine fg_two 16 17 (by kernel_rfl) ?_ ?_
   ·refine fg_pure (.agg (bkC X)) rfl rfl rfl (fun w => by go_simp) ?_
    simp only [Act.put, stA, List.set]
    refine fg_two 17 18 (by kernel_rfl) ?_ ?_
    ·refine fg_pure (.int .i64 0) rfl rfl rfl (fun w => by go_simp) ?_
     simp only [Act.put, stA, List.set]
     refine fg_one 18 (by kernel_rfl) ?_
     refine fg_effN rfl rfl rfl (fun w1 hw1 => effAt_storeB rfl rfl rfl (bB.gr hw1) (by rw [bkC_size, HYL.out]) (bkC_row HXL.out) ⟨⟨fun w2 => ∃ w1, Gr (grown wr gk) w1 ∧ w2 = w1.setRow B1 (bkC X), false, fun e => Bool.noConfusion e, fun e => Bool.noConfusion e⟩, ⟨w1, hw1, rfl⟩, fun e => absurd rfl e, ?_⟩)
     refine fg_end (by kernel_rfl) (fun w5 hw5 => ?_)
     obtain ⟨w4, hw4, rfl⟩ := hw5
     have bX : BlockAt (w4.setRow B1 (bkC X)) B1 (bkC X) 66 := setRow_block (bB.gr hw4)
     have g28 : Gr wr (w4.setRow B1 (bkC X)) := setRow_gr (Gr.trans gri hw4) hB1
     clear hw4
     obtain ⟨w6, hw6⟩ : ∃ w6, w6 = w4.setRow B1 (bkC X) := ⟨_, rfl⟩
     rw [← hw6] at bX g28 ⊢
     clear hw6 bB w4
     obtain ⟨gz, rfl⟩ := g28
     haveI := bX
     try simp only [Act.put, stA, List.set]
     go_wp2
     refine wp_region_treeT (inCls_ghost _) (Cls.none _) ⟨Gr.of ((Below.refl _ _).drew), trivial⟩ [0, 1, 2, 3, 4, 5, 6, 7, 8, 9, 10, 11] 0 12 (by kernel_rfl) (by kernel_rfl) ?_
     simp only [pick, List.drop, List.take, List.nil_append, List.cons_append]
     repeat (refine wpCalm_step (fun K hK => ?_); go_simp; first | (refine hK _ ?_; clear hK K) | (apply Exists.intro; refine ⟨fun _ => ?_, hK _ ?_⟩; (skip); clear hK K))
     refine wpCalm_load rfl rfl rfl bX Tryz.underlying66 rfl (by rw [bkC_size, HXL.out]; exact infoBlk) ?_
     simp only [Act.put, stA, List.set]
     refine wpCalm_nil ?_
     refine ft_end ⟨by kernel_rfl, fun w9 hw9 => ?_⟩
     try simp only [List.drop_succ_cons, List.drop_zero]
     have g29 : Gr wr w9 := Gr.trans gri hw9.1
     clear hw9
     have HG29 := hd_ g29
     clear g29
     go_wp2_with (first | (go_at_call 52; ((with_reducible refine (HSET.out _ HG29.out).mono ?_); rintro _ W3 ⟨rfl, hr3, hk3, hb3⟩)))
     go_roundw
     case rel => exact ⟨k + 1, hlt, by go_num, by rw [← HN.out]; exact hr3, HRK.out.trans hk3, HBEL.out.trans hb3⟩
     case measure => simp [intOf]; omega
    ·refine fg_effN rfl rfl rfl (fun w1 hw1 => effAt_storeB rfl rfl rfl (bB.gr hw1) (by rw [bkC_size, HYL.out]) (bkC_row HXL.out) ⟨⟨fun w2 => ∃ w1, Gr (grown wr gk) w1 ∧ w2 = w1.setRow B1 (bkC X), false, fun e => Bool.noConfusion e, fun e => Bool.noConfusion e⟩, ⟨w1, hw1, rfl⟩, fun e => absurd rfl e, ?_⟩)
     refine fg_one 17 (by kernel_rfl) ?_
     refine fg_pure (.int .i64 0) rfl rfl rfl (fun w => by go_simp) ?_
     simp only [Act.put, stA, List.set]
     refine fg_end (by kernel_rfl) (fun w5 hw5 => ?_)
     obtain ⟨w4, hw4, rfl⟩ := hw5
     have bX : BlockAt (w4.setRow B1 (bkC X)) B1 (bkC X) 66 := setRow_block (bB.gr hw4)
     have g28 : Gr wr (w4.setRow B1 (bkC X)) := setRow_gr (Gr.trans gri hw4) hB1
     clear hw4
     obtain ⟨w6, hw6⟩ : ∃ w6, w6 = w4.setRow B1 (bkC X) := ⟨_, rfl⟩
     rw [← hw6] at bX g28 ⊢
     clear hw6 bB w4
     obtain ⟨gz, rfl⟩ := g28
     haveI := bX
     try simp only [Act.put, stA, List.set]
     go_wp2
     refine wp_region_treeT (inCls_ghost _) (Cls.none _) ⟨Gr.of ((Below.refl _ _).drew), trivial⟩ [0, 1, 2, 3, 4, 5, 6, 7, 8, 9, 10, 11] 0 12 (by kernel_rfl) (by kernel_rfl) ?_
     simp only [pick, List.drop, List.take, List.nil_append, List.cons_append]
     repeat (refine wpCalm_step (fun K hK => ?_); go_simp; first | (refine hK _ ?_; clear hK K) | (apply Exists.intro; refine ⟨fun _ => ?_, hK _ ?_⟩; (skip); clear hK K))
     refine wpCalm_load rfl rfl rfl bX Tryz.underlying66 rfl (by rw [bkC_size, HXL.out]; exact infoBlk) ?_
     simp only [Act.put, stA, List.set]
     refine wpCalm_nil ?_
     refine ft_end ⟨by kernel_rfl, fun w9 hw9 => ?_⟩
     try simp only [List.drop_succ_cons, List.drop_zero]
     have g29 : Gr wr w9 := Gr.trans gri hw9.1
     clear hw9
     have HG29 := hd_ g29
     clear g29
     go_wp2_with (first | (go_at_call 52; ((with_reducible refine (HSET.out _ HG29.out).mono ?_); rintro _ W3 ⟨rfl, hr3, hk3, hb3⟩)))
     go_roundw
     case rel => exact ⟨k + 1, hlt, by go_num, by rw [← HN.out]; exact hr3, HRK.out.trans hk3, HBEL.out.trans hb3⟩
     case measure => simp [intOf]; omega
   ·refine fg_pure (.int .i64 0) rfl rfl rfl (fun w => by go_simp) ?_
    simp only [Act.put, stA, List.set]
    refine fg_one 16 (by kernel_rfl) ?_
    refine fg_pure (.agg (bkC X)) rfl rfl rfl (fun w => by go_simp) ?_
    simp only [Act.put, stA, List.set]
    refine fg_one 18 (by kernel_rfl) ?_
    refine fg_effN rfl rfl rfl (fun w1 hw1 => effAt_storeB rfl rfl rfl (bB.gr hw1) (by rw [bkC_size, HYL.out]) (bkC_row HXL.out) ⟨⟨fun w2 => ∃ w1, Gr (grown wr gk) w1 ∧ w2 = w1.setRow B1 (bkC X), false, fun e => Bool.noConfusion e, fun e => Bool.noConfusion e⟩, ⟨w1, hw1, rfl⟩, fun e => absurd rfl e, ?_⟩)
    refine fg_end (by kernel_rfl) (fun w5 hw5 => ?_)
    obtain ⟨w4, hw4, rfl⟩ := hw5
    have bX : BlockAt (w4.setRow B1 (bkC X)) B1 (bkC X) 66 := setRow_block (bB.gr hw4)
    have g28 : Gr wr (w4.setRow B1 (bkC X)) := setRow_gr (Gr.trans gri hw4) hB1
    clear hw4
    obtain ⟨w6, hw6⟩ : ∃ w6, w6 = w4.setRow B1 (bkC X) := ⟨_, rfl⟩
    rw [← hw6] at bX g28 ⊢
    clear hw6 bB w4
    obtain ⟨gz, rfl⟩ := g28
    haveI := bX
    try simp only [Act.put, stA, List.set]
    go_wp2
    refine wp_region_treeT (inCls_ghost _) (Cls.none _) ⟨Gr.of ((Below.refl _ _).drew), trivial⟩ [0, 1, 2, 3, 4, 5, 6, 7, 8, 9, 10, 11] 0 12 (by kernel_rfl) (by kernel_rfl) ?_
    simp only [pick, List.drop, List.take, List.nil_append, List.cons_append]
    repeat (refine wpCalm_step (fun K hK => ?_); go_simp; first | (refine hK _ ?_; clear hK K) | (apply Exists.intro; refine ⟨fun _ => ?_, hK _ ?_⟩; (skip); clear hK K))
    refine wpCalm_load rfl rfl rfl bX Tryz.underlying66 rfl (by rw [bkC_size, HXL.out]; exact infoBlk) ?_
    simp only [Act.put, stA, List.set]
    refine wpCalm_nil ?_
    refine ft_end ⟨by kernel_rfl, fun w9 hw9 => ?_⟩
    try simp only [List.drop_succ_cons, List.drop_zero]
    have g29 : Gr wr w9 := Gr.trans gri hw9.1
    clear hw9
    have HG29 := hd_ g29
    clear g29
    go_wp2_with (first | (go_at_call 52; ((with_reducible refine (HSET.out _ HG29.out).mono ?_); rintro _ W3 ⟨rfl, hr3, hk3, hb3⟩)))
    go_roundw
    case rel => exact ⟨k + 1, hlt, by go_num, by rw [← HN.out]; exact hr3, HRK.out.trans hk3, HBEL.out.trans hb3⟩
    case measure => simp [intOf]; omega
  ·have hkk : k = L.length := by omega
   rw [hkk, List.take_length] at hRk
   have p0 : wr.cell? ⟨A0, 0, none⟩ = some (.int .i64 0) := (bc 0 k8).trans rfl
   have p1 : wr.cell? ⟨A0, 1, none⟩ = some (.int .i64 0) := (bc 1 k8).trans rfl
   have p2 : wr.cell? ⟨A0, 2, none⟩ = some (.slice none 0 0) := (bc 2 k8).trans rfl
   have q0 : wr.cell? ⟨w.heap.size + 1, 0, none⟩ = some (.int .i64 0) := (bc 0 k6).trans rfl
   have q1 : wr.cell? ⟨w.heap.size + 1, 1, none⟩ = some (.int .i64 0) := (bc 1 k6).trans rfl
   have q2 : wr.cell? ⟨w.heap.size + 1, 2, none⟩ = some (.slice none 0 0) := (bc 2 k6).trans rfl
   have fz : ∀ o, wr.frozen? ⟨w.heap.size + 1, o, none⟩ = false := fun o => @block_frozen _ _ o _ _ k6
   have HRk := hd_ hRk
   have HRK := hd_ hRK
   have HBEL := hd_ hBel
   clear hRk hRK hBel
   go_wp2
   exact bodyPost_ret (run_resCell1 rfl _ _ _ _ rfl (ans_block k6 _ _ _) Tryz.underlying38 rfl (by kernel_rfl)) rfl ⟨none, 0, 0, rfl, OwnN.nil _ _, ans_ref HRk.out k6 _ _ _, ans_below HBEL.out (by omega) _ _ _, ans_rk ((RK.gr HG5.out).trans HRK.out) (by omega) _ _ _⟩
end Go.Proofs.YtddckdhnolmjoaaGreat
