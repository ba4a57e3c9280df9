/- The reference's device: Part of write. Conditions: as XRDo0. The reference's device: Part of zero. Conditions: as XRDo0. The reference's device: Do, whatever the operation; Device: all operations. Conditions: the operations stand in memory. Device.Do. Conditions: as Device.Part. Operations in memory; the reference's Device; made. Conditions: the operations stand in memory. delta.sizes. Conditions: the device stands in memory; at most 1000 numbers. delta.Rows. Conditions: the device stands in memory. -/
import Derived.Test.YtipeblmgochdfaaGreatQ10
import Derived.Test.YtipeblmgochdfaaGreatQ08
import Derived.Test.YtipeblmgochdfaaGreatQ03
import Derived.LoopTactic
import Derived.Test.YtipeblmgochdfaaGreatQ07
namespace Go.Proofs.YtipeblmgochdfaaGreat
open Go.RowKit
set_option linter.unusedVariables false
set_option linter.unusedSimpArgs false
set_option linter.unnecessarySimpa false
set_option maxRecDepth 100000
set_option maxHeartbeats 4000000
theorem own_heap {α : Type} {e : EK α} {base : Nat} {W : World} {g n c : Nat} {xs : List α} (h : OwnN e base W (.slice (some ⟨g, 0, none⟩) n c) xs) : ∃ cs, W.heap[g]? = some (.cells cs e.E (0, 0)) := by
 rcases h.own.2 with ⟨e2, _⟩ | ⟨b, cap, cur, e2, _, hh, _⟩
 ·cases e2
 ·cases e2
  exact ⟨_, hh⟩
theorem rpart_5 (xv xt xs xa xc most : Int) (xD : Option Addr) (xn xq : Nat) (lx : Byt) (hxn : lx.length = xn) (base R : Nat) (d : Dev) (w : World) (h : RefAt base w R d) (hbase : base ≤ w.heap.size) (hl : d.length ≤ 1000000) (hn : xn ≤ 1000000) (v0 : 0 ≤ xv) (t0 : 0 ≤ xt) (he : errK d ⟨5, xv, xt, xs, xa, xc, lx⟩ = 0) (W0 : World) (h0 : Gr W0 w) (hb0 : base = W0.heap.size) (hr : Row bv W0 xD lx) (hq : xn ≤ xq) (n0 : 64 ≤ xn) (n1 : xn % 64 = 0) (n2 : xn ≤ 2048) (x : VolM) (hx : getK d xv = some x) (a0 : 0 ≤ xa) (a1 : xa ≤ 1048576) (hmost : 1024 ≤ most) (hfit : ¬ 4 * x.1 < xa + ((xn / 64 : Nat) : Int)) :
  Calls Tryz.prog 98 #[.pointer (some ⟨R, 0, none⟩), .agg #[.int .i64 5, .int .u64 xv, .int .u64 xt, .int .i64 xs, .int .i64 xa, .int .i64 xc, .slice xD xn xq], .int .i64 most] w (RPost base R (putK d xv (x.1, putL xa.toNat lx x.2 (spans xa.toNat (xn / 64)))) 0 0 [] w) := by
 have HR := Lib.hid (fun W (g : Gr w W) => rrefused_any 5 xv xt xs xa xc xD xn xq lx hxn base R d W (h.gr g) hl hn v0 t0)
 have HF := Lib.hid (fun W (g : Gr w W) => rfind_any base R d xv W (h.gr g) hl)
 rw [he] at HR
 obtain ⟨v, vf, hI⟩ := h
 have HI := Lib.hid hI
 have HB := fun W (g : Gr w W) => Nat.le_trans hbase g.below.size
 have hok := hI.ok.vols _ ((getK_mem hI.ok.sort).1 hx)
 have hx0 := hok.s0
 have hx1 := hok.s1
 simp only at hx0 hx1
 have HOK := Lib.hid hok
 clear hok
 obtain ⟨an, rfl⟩ : ∃ n : Nat, xa = n := ⟨xa.toNat, by omega⟩
 rw [Int.toNat_natCast]
 obtain ⟨C, hC⟩ : ∃ C, xn / 64 = C := ⟨_, rfl⟩
 rw [hC] at hfit ⊢
 have hCx : (xn : Int) / 64 = (C : Int) := by omega
 obtain ⟨DATA, hDATA⟩ : ∃ l, l = lx := ⟨_, rfl⟩
 rw [← hDATA]
 have hdl : DATA.length = 64 * C := by rw [hDATA]; omega
 have HC1 : 1 ≤ C := by omega
 have HC2 : C ≤ 1024 := by omega
 have HSp := Lib.hid (fun W => rsplit_any an C (by omega) (by omega) (by omega) W)
 have HLNE := Lib.hid (spans_ne an C HC1)
 have hsl1 := spans_len an C
 have hall := fun s hs => (spans_all s hs : s.f < s.t ∧ s.t ≤ 4 ∧ an ≤ 4 * s.b + s.f ∧ 4 * s.b + s.t ≤ an + C)
 obtain ⟨L, hL⟩ : ∃ L, L = spans an C := ⟨_, rfl⟩
 rw [← hL] at HSp HLNE hsl1 hall ⊢
 have HALL := Lib.hid hall
 have HDL := Lib.hid hdl
 have HDA := Lib.hid hDATA
 clear hL hall hdl hDATA hC
 obtain ⟨i, hi, hdi, hil⟩ := idx_get hx
 rw [hi] at HF
 obtain ⟨g, c, rfl, hbg, hgl, hne, hc1, hc2, hty, hcl⟩ := hI.form (by rintro rfl; simp at hil)
 obtain ⟨c0, c1, c2⟩ := hcl i _ hdi
 simp only at c0 c1 c2
 rw [Nat.add_zero] at c0
 have x0 : w.cell? ⟨R, 0, none⟩ = some (.slice (some ⟨g, 0, none⟩) d.length c) := (@block_cells _ _ 0 _ _ hI.blk).trans rfl
 haveI := hI.blk
 haveI : Old R w := hI.blk.old
 haveI : Old g w := ⟨hgl⟩
 have HDI := Lib.hid hdi
 have HX := Lib.hid hx
 have HV := Lib.hid (hI.vol _ (List.mem_of_getElem? hdi))
 obtain ⟨N, hN⟩ : ∃ N, N = d.length := ⟨_, rfl⟩
 rw [← hN] at x0 hil hc1
 rw [← hN] at HI
 have HN := Lib.hid hN
 have HL := Lib.hid hl
 clear hcl hdi hi hI he hx hN hl
 have hN9 : N ≤ 1000000 := by have := HL.out; have := HN.out; omega
 go_enter Tryz.func98, Tryz.ntmps98
 go_wp2_with (first | (go_at_call 123; ((with_reducible refine (HR.out _ gri).mono ?_); rintro _ _ ⟨rfl, g1, rfl⟩)) | (go_at_call 24; ((with_reducible refine (HF.out _ gri).mono ?_); rintro _ _ ⟨rfl, g2, rfl⟩)) | (go_at_call 126; ((with_reducible refine (HSp.out _).mono ?_); rintro _ _ ⟨vS, rfl, hoS, ⟨gq, rfl⟩⟩; obtain ⟨gS, cS, rfl, hbS, hgS, hcS, hcmS, hclS, hzS⟩ := hoS.cells spIs HLNE.out; obtain ⟨curS, hhS⟩ := own_heap hoS)))
 obtain ⟨A0, hA0⟩ : ∃ A0, A0 = (grown _ g1).heap.size := ⟨_, rfl⟩
 have hA1 : w.heap.size + 1 < A0 := by
  rw [hA0]
  exact (inferInstance : Old (w.heap.size + 1) (grown _ g1)).lt
 obtain ⟨W5, hW5⟩ : ∃ W5, W5 = grown _ gq := ⟨_, rfl⟩
 have b8 : BlockAt W5 A0 #[.int .i64 0, .int .i64 0, .slice none 0 0] 97 := by
  rw [hW5, hA0]
  infer_instance
 have b6 : BlockAt W5 (w.heap.size + 1) #[.int .i64 0, .int .i64 0, .slice none 0 0] 97 := by
  rw [hW5]
  infer_instance
 have b4 : BlockAt W5 w.heap.size #[.int .i64 5, .int .u64 xv, .int .u64 xt, .int .i64 xs, .int .i64 (an : Int), .int .i64 xc, .slice xD xn xq] 43 := by
  rw [hW5]
  infer_instance
 have g5 : Gr w W5 := by
  rw [hW5]
  exact gri
 rw [← hW5] at hgS hclS hhS
 rw [← hW5]
 try rw [← hA0]
 clear hW5 hA0 hoS hzS
 haveI := grc_of g5
 haveI := from_of g5
 obtain ⟨B, p, rfl, hBl, hdc⟩ := hr.at_ (by rintro rfl; have := hxn; simp at this; omega)
 have HDT : Hid (∀ W, RK W5 W → Below base w W → B < W.heap.size ∧ ∀ (j : Nat) u, DATA[j]? = some u → W.cell? ⟨B, p + j, none⟩ = some (bv u)) := Lib.hid fun W hk hb => by
  have hg : Below W0.heap.size W0 W := h0.below.trans (by rw [← hb0]; exact hb)
  exact ⟨Nat.lt_of_lt_of_le hBl hg.size, fun j u hj => (hg.cell (p := ⟨B, p + j, none⟩) hBl).trans (hdc j u (by rw [← HDA.out]; exact hj))⟩
 have HS5 := Lib.hid (show CellsN spE W5 gS 0 L ∧ W5.heap[gS]? = some (.cells curS 146 (0, 0)) from ⟨hclS, hhS⟩)
 have HG5 := Lib.hid g5
 have HB8 := Lib.hid b8
 have HB6 := Lib.hid b6
 have HB4 := Lib.hid b4
 have hLn : L.length ≤ 1024 := by omega
 clear hclS hhS hbS hcmS b8 b6 b4 
 go_loopw [12] (fun i9 wr => ∃ k : Nat, k ≤ L.length ∧ i9 = .int .i64 (k : Int) ∧ (∃ vf', RefIn base wr R (.slice (some ⟨g, 0, none⟩) d.length c) vf' (putK d xv (x.1, putL an DATA x.2 (L.take k)))) ∧ RK W5 wr ∧ Below base w wr) (fun i9 _ => L.length - (intOf i9).toNat)
 case atStart => exact ⟨0, Nat.zero_le _, rfl, ⟨vf, by rw [List.take_zero, putL, List.foldl_nil, putK_own HI.out.ok.sort HX.out]; rw [HN.out.symm]; exact HI.out.gr HG5.out⟩, RK.refl _, HG5.out.below.mono hbase⟩
 case round =>
  obtain ⟨k, hk, rfl, ⟨vf', hRk⟩, hRK, hBel⟩ := hrel
  rw [← HN.out] at hRk
  have k8 := hRK.block HB8.out (by unfold refT; decide)
  have k6 := hRK.block HB6.out (by unfold refT; decide)
  have k4 := hRK.block HB4.out (by unfold refT; decide)
  have y0 : wr.cell? ⟨R, 0, none⟩ = some (.slice (some ⟨g, 0, none⟩) N c) := (@block_cells _ _ 0 _ _ hRk.blk).trans rfl
  haveI : Old R wr := hRk.blk.old
  haveI := k8
  haveI := k6
  haveI := k4
  haveI := k8.old
  haveI := k6.old
  haveI := k4.old
  have o4 : wr.cell? ⟨w.heap.size, 4, none⟩ = some (.int .i64 (an : Int)) := (@block_cells _ _ 4 _ _ k4).trans rfl
  by_cases hlt : k < L.length
  ·obtain ⟨⟨sb, sf, st⟩, hs⟩ : ∃ s, L[k]? = some s := ⟨_, List.getElem?_eq_getElem hlt⟩
   have hsa := HALL.out _ (List.mem_of_getElem? hs)
   simp only at hsa
   obtain ⟨hsf, hst, hslo, hshi⟩ := hsa
   have hcl9 := HS5.out.1.rk HS5.out.2 (by unfold refT; decide) hRK
   have s0 : wr.cell? ⟨gS, k * 3, none⟩ = some (.int .i64 (sb : Int)) := by have := hcl9 k _ hs 0 _ rfl; rwa [Nat.zero_add] at this
   have s1 : wr.cell? ⟨gS, k * 3 + 1, none⟩ = some (.int .i64 (sf : Int)) := by have := hcl9 k _ hs 1 _ rfl; rwa [Nat.zero_add] at this
   have s2 : wr.cell? ⟨gS, k * 3 + 2, none⟩ = some (.int .i64 (st : Int)) := by have := hcl9 k _ hs 2 _ rfl; rwa [Nat.zero_add] at this
   haveI : Old gS wr := old_of_cell s0
   have hms : (sb : Int) < x.1 := by omega
   obtain ⟨m, hme⟩ : ∃ m, m = putL an DATA x.2 (L.take k) := ⟨_, rfl⟩
   rw [← hme] at hRk
   have hok' : VolOk (x.1, m) := by rw [hme]; exact putL_ok _ HOK.out (fun s hs => by have := HALL.out s (List.mem_of_mem_take hs); exact ⟨this.1, this.2.1, by have := hfit; omega⟩)
   have hdk : (putK d xv (x.1, m))[i]? = some (xv, (x.1, m)) := by rw [← putK_set HI.out.ok.sort HDI.out, List.getElem?_set_self (by rw [← HN.out]; exact hil)]
   obtain ⟨g', c', hv', hbg', hgl', _, _, _, hty', hcl'⟩ := hRk.form (by intro e; rw [e] at hdk; cases hdk)
   simp only [Value.slice.injEq, Option.some.injEq, Addr.mk.injEq] at hv'
   obtain ⟨⟨hgg, -, -⟩, -, -⟩ := hv'
   rw [← hgg] at hgl' hty' hcl'
   have cM := (hcl' i _ hdk).2.2
   simp only at cM
   haveI : Old g wr := ⟨hgl'⟩
   have hBM := hRk.vol _ (List.mem_of_getElem? hdk)
   simp only at hBM
   have HG := Lib.hid (fun W (hW : Gr wr W) => rget_any g (i * 3) (vf' xv) m (sb : Int) W ((hW.below.cell (p := ⟨g, i * 3 + 2, none⟩) hgl').trans cM) (hBM.gr hW))
   have hY : ((getK m (sb : Int)).getD zB).length = 256 := blkM_len hok'.sort hok'.len sb
   have HYe := Lib.hid (show (getK m (sb : Int)).getD zB = blkM m sb from rfl)
   obtain ⟨Y, hYY⟩ : ∃ Y, Y = (getK m (sb : Int)).getD zB := ⟨_, rfl⟩
   rw [← hYY] at HG hY HYe
   obtain ⟨yi, hyi⟩ : ∃ yi, yi = (getK m (sb : Int)).isSome := ⟨_, rfl⟩
   rw [← hyi] at HG
   haveI := bkC_row hY
   have hsg : (segK ⟨sb, sf, st⟩ an DATA).length = 64 * (st - sf) := by have := HDL.out; simp [segK]; omega
   have HSG := Lib.hid hsg
   have HYL := Lib.hid hY
   have HRk := Lib.hid hRk
   have HRK := Lib.hid hRK
   have HBEL := Lib.hid hBel
   have HME := Lib.hid hme
   have HOKm := Lib.hid hok'
   have HDK := Lib.hid hdk
   have HS := Lib.hid hs
   have HTY := Lib.hid hty'
   have HCM := Lib.hid cM
   clear hcl9 hcl' hdk hbg' hty' hme hok' hBM hRk hRK hBel hYY hyi hsg hY hs hgg cM
   have d9 : decide (most ≤ (k : Int)) = false := decide_eq_false (by omega)
   go_wp2
   refine wp_region_tree (mixw_ghost _) [] (mixw_nil _) [0, 1, 2, 3, 4, 5, 6, 7, 8, 9, 10, 11, 12, 13, 14] 3 (by kernel_rfl) (by kernel_rfl) ?_
   simp only [pick, List.drop_succ_cons, List.drop_zero, List.take_succ_cons, List.take_zero, List.nil_append, List.cons_append]
   repeat (refine wpCalm_step (fun K hK => ?_); go_simp; first | (refine hK _ ?_; clear hK K) | (apply Exists.intro; refine ⟨fun _ => ?_, hK _ ?_⟩; ((go_at_call 55; exact HG.out _ gri)); clear hK K))
   refine wpCalm_nil ?_
   refine fe_mixAllocD 15 (by kernel_rfl) rfl rfl rfl rfl Tryz.zeroValue88 fun B1 hB1 nB1 => ?_
   simp only [Act.put, List.setIfInBounds_toArray, List.set_cons_zero, List.set_cons_succ]
   refine fe_mixStoreN 16 [(B1, bkC Y, 88)] (bkC Y) (by kernel_rfl) rfl rfl rfl rfl rfl List.mem_cons_self hB1 rfl (by rw [bkC_size, HYL.out]; exact infoBlk) (by rw [bkC_size, HYL.out]; kernel_rfl) (List.all_eq_true.2 (bkC_one Y)) (fun z hz => .inl (by simpa using hz)) ?_
   refine fe_mixCalmD 17 (.bool yi) (by kernel_rfl) rfl rfl rfl (fun g => by unfold calmAt; go_simp) ?_
   simp only [Act.put, List.setIfInBounds_toArray, List.set_cons_zero, List.set_cons_succ]
   refine fe_end (by kernel_rfl) ?_
   intro w1 hw1
   have bB : BlockAt w1 B1 (bkC Y) 88 := ⟨hw1.2 _ List.mem_cons_self⟩
   have g27 : Gr wr w1 := hw1.1
   clear hw1 nB1
   obtain ⟨gk, rfl⟩ := g27
   obtain ⟨X, hX⟩ : ∃ X, mergeB Y sf (segK ⟨sb, sf, st⟩ an DATA) = X := ⟨_, rfl⟩
   have HXe := Lib.hid hX
   have HXL : Hid (X.length = 256) := Lib.hid (by rw [← hX]; exact mergeB_len Y sf _ HYL.out (by have := HSG.out; omega))
   clear hX
   have HSET : Hid (∀ W, Gr wr W → Calls Tryz.prog 129 #[.pointer (some ⟨g, i * 3, none⟩), .int .i64 (sb : Int), .agg (bkC X)] W fun e w' => e = .returned (.tuple #[]) ∧ (∃ vf'', RefIn base w' R (.slice (some ⟨g, 0, none⟩) N c) vf'' (putK d xv (x.1, putL an DATA x.2 (L.take (k + 1))))) ∧ RK wr w' ∧ Below base wr w') := Lib.hid fun W hW => by
    obtain ⟨cs9, hh9⟩ := HTY.out
    have hfr : wr.frozen? ⟨g, i * 3 + 2, none⟩ = false := froV ⟨cs9, hh9⟩ _
    have hF := HRk.out.own.cells rvIs (by intro e; have h9 := HDK.out; have := List.map_eq_nil_iff.1 e; rw [this] at h9; cases h9)
    have hcM : wr.cell? ⟨g, i * 3 + 2, none⟩ = some (vf' xv) := HCM.out
    refine (rset_any g (i * 3) (vf' xv) m (sb : Int) X HXL.out W ((hW.below.cell (p := ⟨g, i * 3 + 2, none⟩) (old_of_cell hcM).lt).trans hcM) (gr_frozen hW (old_of_cell hcM).lt hfr) ((HRk.out.vol _ (List.mem_of_getElem? HDK.out)).gr hW) HOKm.out.sort (Nat.le_trans (vols_len HOKm.out) (by omega))).mono ?_
    rintro _ _ ⟨rfl, w1, u, hg1, ho1, rfl⟩
    have hput : putL an DATA x.2 (L.take (k + 1)) = putK m sb X := by
     rw [List.take_add_one, HS.out]
     simp only [putL, List.foldl_append, Option.toList, List.foldl_cons, List.foldl_nil]
     simp only [putS]
     rw [← HXe.out, HYe.out, HME.out]
     rfl
    have hok2 : VolOk (x.1, putK m sb X) := by rw [← hput]; exact putL_ok _ HOK.out (fun s hs => by have := HALL.out s (List.mem_of_mem_take hs); exact ⟨this.1, this.2.1, by have := hfit; omega⟩)
    have hr9 := HRk.out.setM (hW.trans hg1) HDK.out (putK m sb X) u ho1.blkS hok2
    simp only at hr9
    rw [putK_putK _ _ _ _ HI.out.ok.sort] at hr9
    rw [hput]
    exact ⟨rfl, ⟨_, hr9⟩, (RK.gr (hW.trans hg1)).set_ g _ u (((hW.trans hg1).below.block g (old_of_cell hcM).lt).trans hh9) (.inl rfl), ((hW.trans hg1).below.mono (Nat.le_trans hbase HBEL.out.size)).setCell (p := ⟨g, i * 3 + 2, none⟩) hbg u⟩
   haveI := bB
   try simp only [Act.put, List.setIfInBounds_toArray, List.set_cons_zero, List.set_cons_succ]
   go_wp2
   refine wp_region_treeG ⟨fun w' => Gr (grown wr gk) w', true, fun _ _ h => h, fun _ _ _ h g => h.trans g⟩ rfl (Gr.of ((Below.refl _ _).drew)) [0, 1, 2, 3, 4, 5, 6, 7, 8, 9, 10, 11, 12] 6 18 (by kernel_rfl) (by kernel_rfl) ?_
   simp only [pick, List.drop_succ_cons, List.drop_zero, List.take_succ_cons, List.take_zero, List.nil_append, List.cons_append]
   refine wpCalm_load rfl rfl rfl bB Tryz.underlying88 rfl (by rw [bkC_size, HYL.out]; exact infoBlk) ?_
   simp only [Act.put, List.setIfInBounds_toArray, List.set_cons_zero, List.set_cons_succ]
   repeat (refine wpCalm_step (fun K hK => ?_); go_simp; first | (refine hK _ ?_; clear hK K) | (apply Exists.intro; refine ⟨fun _ => ?_, hK _ ?_⟩; (skip); clear hK K))
   refine wpCalm_nil ?_
   have hsne : segK ⟨sb, sf, st⟩ an DATA ≠ [] := by
    intro e
    have := HSG.out
    rw [e] at this
    simp at this
    omega
   have hDT := fun W (hW : Gr (grown wr gk) W) => HDT.out W (HRK.out.trans (RK.gr (Gr.trans gri hW))) (HBEL.out.trans ((Gr.below (Gr.trans (gri : Gr wr (grown wr gk)) hW)).mono (Nat.le_trans hbase HBEL.out.size)))
   refine fg_one 13 (by kernel_rfl) ?_
   refine fg_effD rfl rfl rfl (fun w1 hw1 => effAt_call' 128 #[.agg #[.int .i64 (sb : Int), .int .i64 (sf : Int), .int .i64 (st : Int)], .int .i64 (an : Int), .slice (some ⟨B, p, none⟩) xn xq] (by go_simp) ((rdata_any sb sf st an xn xq B p DATA w1 (by omega) hsf hst hslo (by omega) (by omega) (by omega) (by have := HDL.out; omega) (by omega) (hDT w1 hw1).1 (hDT w1 hw1).2).mono fun e w2 hc => ?_))
   obtain ⟨v1, rfl, ho1, hg1⟩ := hc
   obtain ⟨A1, c1', rfl, -, hA1', -, -, hcl1, -⟩ := ho1.cells bIs hsne
   refine ⟨_, rfl, ⟨fun w2 => Gr (grown wr gk) w2 ∧ A1 < w2.heap.size ∧ ∀ (j : Nat) u, (segK ⟨sb, sf, st⟩ an DATA)[j]? = some u → w2.cell? ⟨A1, 0 + j, none⟩ = some (bv u), true, fun _ _ h => h.1, fun _ _ _ h g => ⟨h.1.trans g, Nat.lt_of_lt_of_le h.2.1 g.below.size, fun j u hj => (g.below.cell (p := ⟨A1, 0 + j, none⟩) h.2.1).trans (h.2.2 j u hj)⟩⟩, ⟨Gr.trans hw1 hg1, hA1', fun j u hj => by have := hcl1 j u hj 0 _ rfl; simpa [bE] using this⟩, fun _ _ => rfl, ?_⟩
   rw [HSG.out]
   clear ho1 hg1 hw1 hA1' hcl1 w2 w1
   simp only [Act.put, List.setIfInBounds_toArray, List.set_cons_zero, List.set_cons_succ]
   refine fg_one 14 (by kernel_rfl) ?_
   refine fg_effD rfl rfl rfl (fun w1 hw1 => effAt_call' 127 #[.agg (bkC Y), .int .i64 (sf : Int), .slice (some ⟨A1, 0, none⟩) (64 * (st - sf)) c1'] (by go_simp) ((rmerge_any Y (segK ⟨sb, sf, st⟩ an DATA) sf (64 * (st - sf)) c1' A1 0 w1 HYL.out (by omega) HSG.out (by omega) (by omega) hw1.2.1 hw1.2.2).mono fun e w2 hc => ?_))
   obtain ⟨rfl, hg1⟩ := hc
   refine ⟨_, rfl, ⟨fun w2 => Gr (grown wr gk) w2, true, fun _ _ h => h, fun _ _ _ h g => h.trans g⟩, Gr.trans hw1.1 hg1, fun _ _ => rfl, ?_⟩
   rw [HXe.out]
   clear hg1 hw1 w2 w1 hDT
   simp only [Act.put, List.setIfInBounds_toArray, List.set_cons_zero, List.set_cons_succ]
   refine fg_one 15 (by kernel_rfl) ?_
   refine fg_pure (.tuple #[.agg (bkC X), .int .i64 0]) rfl rfl rfl (fun w => by go_simp) ?_
   simp only [Act.put, List.setIfInBounds_toArray, List.set_cons_zero, List.set_cons_succ]
   refine fg_two 16 17 (by kernel_rfl) ?_ ?_
   ·refine fg_pure (.agg (bkC X)) rfl rfl rfl (fun w => by go_simp) ?_
    simp only [Act.put, List.setIfInBounds_toArray, List.set_cons_zero, List.set_cons_succ]
    refine fg_two 17 18 (by kernel_rfl) ?_ ?_
    ·refine fg_pure (.int .i64 0) rfl rfl rfl (fun w => by go_simp) ?_
     simp only [Act.put, List.setIfInBounds_toArray, List.set_cons_zero, List.set_cons_succ]
     refine fg_one 18 (by kernel_rfl) ?_
     refine fg_effN rfl rfl rfl (fun w1 hw1 => effAt_storeB rfl rfl rfl (bB.gr hw1) (by rw [bkC_size, HYL.out]) (bkC_row HXL.out) ⟨⟨fun w2 => ∃ w1, Gr (grown wr gk) w1 ∧ w2 = w1.setRow B1 (bkC X), false, fun e => Bool.noConfusion e, fun e => Bool.noConfusion e⟩, ⟨w1, hw1, rfl⟩, fun e => absurd rfl e, ?_⟩)
     refine fg_end (by kernel_rfl) (fun w5 hw5 => ?_)
     obtain ⟨w4, hw4, rfl⟩ := hw5
     have bX : BlockAt (w4.setRow B1 (bkC X)) B1 (bkC X) 88 := setRow_block (bB.gr hw4)
     have g28 : Gr wr (w4.setRow B1 (bkC X)) := setRow_gr (Gr.trans gri hw4) hB1
     clear hw4
     obtain ⟨w6, hw6⟩ : ∃ w6, w6 = w4.setRow B1 (bkC X) := ⟨_, rfl⟩
     rw [← hw6] at bX g28 ⊢
     clear hw6 bB w4
     obtain ⟨gz, rfl⟩ := g28
     haveI := bX
     try simp only [Act.put, List.setIfInBounds_toArray, List.set_cons_zero, List.set_cons_succ]
     go_wp2
     refine wp_region_treeT (inCls_ghost _) (Cls.none _) ⟨Gr.of ((Below.refl _ _).drew), trivial⟩ [0, 1, 2, 3, 4, 5, 6, 7, 8, 9, 10, 11] 0 12 (by kernel_rfl) (by kernel_rfl) ?_
     simp only [pick, List.drop_succ_cons, List.drop_zero, List.take_succ_cons, List.take_zero, List.nil_append, List.cons_append]
     repeat (refine wpCalm_step (fun K hK => ?_); go_simp; first | (refine hK _ ?_; clear hK K) | (apply Exists.intro; refine ⟨fun _ => ?_, hK _ ?_⟩; (skip); clear hK K))
     refine wpCalm_load rfl rfl rfl bX Tryz.underlying88 rfl (by rw [bkC_size, HXL.out]; exact infoBlk) ?_
     simp only [Act.put, List.setIfInBounds_toArray, List.set_cons_zero, List.set_cons_succ]
     refine wpCalm_nil ?_
     refine ft_end ⟨by kernel_rfl, fun w9 hw9 => ?_⟩
     try simp only [List.drop_succ_cons, List.drop_zero]
     have g29 : Gr wr w9 := Gr.trans gri hw9.1
     clear hw9
     have HG29 := Lib.hid g29
     clear g29
     go_wp2_with (first | (go_at_call 129; ((with_reducible refine (HSET.out _ HG29.out).mono ?_); rintro _ W3 ⟨rfl, hr3, hk3, hb3⟩)))
     go_roundw
     case rel => exact ⟨k + 1, hlt, by go_num, by rw [← HN.out]; exact hr3, HRK.out.trans hk3, HBEL.out.trans hb3⟩
     case measure => simp [intOf]; omega
    ·refine fg_effN rfl rfl rfl (fun w1 hw1 => effAt_storeB rfl rfl rfl (bB.gr hw1) (by rw [bkC_size, HYL.out]) (bkC_row HXL.out) ⟨⟨fun w2 => ∃ w1, Gr (grown wr gk) w1 ∧ w2 = w1.setRow B1 (bkC X), false, fun e => Bool.noConfusion e, fun e => Bool.noConfusion e⟩, ⟨w1, hw1, rfl⟩, fun e => absurd rfl e, ?_⟩)
     refine fg_one 17 (by kernel_rfl) ?_
     refine fg_pure (.int .i64 0) rfl rfl rfl (fun w => by go_simp) ?_
     simp only [Act.put, List.setIfInBounds_toArray, List.set_cons_zero, List.set_cons_succ]
     refine fg_end (by kernel_rfl) (fun w5 hw5 => ?_)
     obtain ⟨w4, hw4, rfl⟩ := hw5
     have bX : BlockAt (w4.setRow B1 (bkC X)) B1 (bkC X) 88 := setRow_block (bB.gr hw4)
     have g28 : Gr wr (w4.setRow B1 (bkC X)) := setRow_gr (Gr.trans gri hw4) hB1
     clear hw4
     obtain ⟨w6, hw6⟩ : ∃ w6, w6 = w4.setRow B1 (bkC X) := ⟨_, rfl⟩
     rw [← hw6] at bX g28 ⊢
     clear hw6 bB w4
     obtain ⟨gz, rfl⟩ := g28
     haveI := bX
     try simp only [Act.put, List.setIfInBounds_toArray, List.set_cons_zero, List.set_cons_succ]
     go_wp2
     refine wp_region_treeT (inCls_ghost _) (Cls.none _) ⟨Gr.of ((Below.refl _ _).drew), trivial⟩ [0, 1, 2, 3, 4, 5, 6, 7, 8, 9, 10, 11] 0 12 (by kernel_rfl) (by kernel_rfl) ?_
     simp only [pick, List.drop_succ_cons, List.drop_zero, List.take_succ_cons, List.take_zero, List.nil_append, List.cons_append]
     repeat (refine wpCalm_step (fun K hK => ?_); go_simp; first | (refine hK _ ?_; clear hK K) | (apply Exists.intro; refine ⟨fun _ => ?_, hK _ ?_⟩; (skip); clear hK K))
     refine wpCalm_load rfl rfl rfl bX Tryz.underlying88 rfl (by rw [bkC_size, HXL.out]; exact infoBlk) ?_
     simp only [Act.put, List.setIfInBounds_toArray, List.set_cons_zero, List.set_cons_succ]
     refine wpCalm_nil ?_
     refine ft_end ⟨by kernel_rfl, fun w9 hw9 => ?_⟩
     try simp only [List.drop_succ_cons, List.drop_zero]
     have g29 : Gr wr w9 := Gr.trans gri hw9.1
     clear hw9
     have HG29 := Lib.hid g29
     clear g29
     go_wp2_with (first | (go_at_call 129; ((with_reducible refine (HSET.out _ HG29.out).mono ?_); rintro _ W3 ⟨rfl, hr3, hk3, hb3⟩)))
     go_roundw
     case rel => exact ⟨k + 1, hlt, by go_num, by rw [← HN.out]; exact hr3, HRK.out.trans hk3, HBEL.out.trans hb3⟩
     case measure => simp [intOf]; omega
   ·refine fg_pure (.int .i64 0) rfl rfl rfl (fun w => by go_simp) ?_
    simp only [Act.put, List.setIfInBounds_toArray, List.set_cons_zero, List.set_cons_succ]
    refine fg_one 16 (by kernel_rfl) ?_
    refine fg_pure (.agg (bkC X)) rfl rfl rfl (fun w => by go_simp) ?_
    simp only [Act.put, List.setIfInBounds_toArray, List.set_cons_zero, List.set_cons_succ]
    refine fg_one 18 (by kernel_rfl) ?_
    refine fg_effN rfl rfl rfl (fun w1 hw1 => effAt_storeB rfl rfl rfl (bB.gr hw1) (by rw [bkC_size, HYL.out]) (bkC_row HXL.out) ⟨⟨fun w2 => ∃ w1, Gr (grown wr gk) w1 ∧ w2 = w1.setRow B1 (bkC X), false, fun e => Bool.noConfusion e, fun e => Bool.noConfusion e⟩, ⟨w1, hw1, rfl⟩, fun e => absurd rfl e, ?_⟩)
    refine fg_end (by kernel_rfl) (fun w5 hw5 => ?_)
    obtain ⟨w4, hw4, rfl⟩ := hw5
    have bX : BlockAt (w4.setRow B1 (bkC X)) B1 (bkC X) 88 := setRow_block (bB.gr hw4)
    have g28 : Gr wr (w4.setRow B1 (bkC X)) := setRow_gr (Gr.trans gri hw4) hB1
    clear hw4
    obtain ⟨w6, hw6⟩ : ∃ w6, w6 = w4.setRow B1 (bkC X) := ⟨_, rfl⟩
    rw [← hw6] at bX g28 ⊢
    clear hw6 bB w4
    obtain ⟨gz, rfl⟩ := g28
    haveI := bX
    try simp only [Act.put, List.setIfInBounds_toArray, List.set_cons_zero, List.set_cons_succ]
    go_wp2
    refine wp_region_treeT (inCls_ghost _) (Cls.none _) ⟨Gr.of ((Below.refl _ _).drew), trivial⟩ [0, 1, 2, 3, 4, 5, 6, 7, 8, 9, 10, 11] 0 12 (by kernel_rfl) (by kernel_rfl) ?_
    simp only [pick, List.drop_succ_cons, List.drop_zero, List.take_succ_cons, List.take_zero, List.nil_append, List.cons_append]
    repeat (refine wpCalm_step (fun K hK => ?_); go_simp; first | (refine hK _ ?_; clear hK K) | (apply Exists.intro; refine ⟨fun _ => ?_, hK _ ?_⟩; (skip); clear hK K))
    refine wpCalm_load rfl rfl rfl bX Tryz.underlying88 rfl (by rw [bkC_size, HXL.out]; exact infoBlk) ?_
    simp only [Act.put, List.setIfInBounds_toArray, List.set_cons_zero, List.set_cons_succ]
    refine wpCalm_nil ?_
    refine ft_end ⟨by kernel_rfl, fun w9 hw9 => ?_⟩
    try simp only [List.drop_succ_cons, List.drop_zero]
    have g29 : Gr wr w9 := Gr.trans gri hw9.1
    clear hw9
    have HG29 := Lib.hid g29
    clear g29
    go_wp2_with (first | (go_at_call 129; ((with_reducible refine (HSET.out _ HG29.out).mono ?_); rintro _ W3 ⟨rfl, hr3, hk3, hb3⟩)))
    go_roundw
    case rel => exact ⟨k + 1, hlt, by go_num, by rw [← HN.out]; exact hr3, HRK.out.trans hk3, HBEL.out.trans hb3⟩
    case measure => simp [intOf]; omega
  ·have hkk : k = L.length := by omega
   rw [hkk, List.take_length] at hRk
   have p0 : wr.cell? ⟨A0, 0, none⟩ = some (.int .i64 0) := (@block_cells _ _ 0 _ _ k8).trans rfl
   have p1 : wr.cell? ⟨A0, 1, none⟩ = some (.int .i64 0) := (@block_cells _ _ 1 _ _ k8).trans rfl
   have p2 : wr.cell? ⟨A0, 2, none⟩ = some (.slice none 0 0) := (@block_cells _ _ 2 _ _ k8).trans rfl
   have q0 : wr.cell? ⟨w.heap.size + 1, 0, none⟩ = some (.int .i64 0) := (@block_cells _ _ 0 _ _ k6).trans rfl
   have q1 : wr.cell? ⟨w.heap.size + 1, 1, none⟩ = some (.int .i64 0) := (@block_cells _ _ 1 _ _ k6).trans rfl
   have q2 : wr.cell? ⟨w.heap.size + 1, 2, none⟩ = some (.slice none 0 0) := (@block_cells _ _ 2 _ _ k6).trans rfl
   have fz : ∀ o, wr.frozen? ⟨w.heap.size + 1, o, none⟩ = false := fun o => @block_frozen _ _ o _ _ k6
   have HRk := Lib.hid hRk
   have HRK := Lib.hid hRK
   have HBEL := Lib.hid hBel
   clear hRk hRK hBel
   go_wp2
   exact bodyPost_ret (run_resCell1 rfl _ _ _ _ rfl (ans_block k6 _ _ _) Tryz.underlying97 rfl (by kernel_rfl)) rfl ⟨none, 0, 0, rfl, OwnN.nil _ _, ans_ref HRk.out k6 _ _ _, ans_below HBEL.out (by omega) _ _ _, ans_rk ((RK.gr HG5.out).trans HRK.out) (by omega) _ _ _⟩
set_option maxRecDepth 100000
set_option maxHeartbeats 4000000
theorem rpart_6 (xv xt xs xa xc most : Int) (xD : Option Addr) (xn xq : Nat) (lx : Byt) (hxn : lx.length = xn) (base R : Nat) (d : Dev) (w : World) (h : RefAt base w R d) (hbase : base ≤ w.heap.size) (hl : d.length ≤ 1000000) (hn : xn ≤ 1000000) (v0 : 0 ≤ xv) (t0 : 0 ≤ xt) (he : errK d ⟨6, xv, xt, xs, xa, xc, lx⟩ = 0) (q0 : 1 ≤ xc) (q1 : xc ≤ 1024) (x : VolM) (hx : getK d xv = some x) (a0 : 0 ≤ xa) (a1 : xa ≤ 1048576) (hmost : 1024 ≤ most) (hfit : ¬ 4 * x.1 < xa + xc) :
  Calls Tryz.prog 98 #[.pointer (some ⟨R, 0, none⟩), .agg #[.int .i64 6, .int .u64 xv, .int .u64 xt, .int .i64 xs, .int .i64 xa, .int .i64 xc, .slice xD xn xq], .int .i64 most] w (RPost base R (putK d xv (x.1, putL xa.toNat (List.replicate (64 * xc.toNat) 0) x.2 (spans xa.toNat xc.toNat))) 0 0 [] w) := by
 have HR := Lib.hid (fun W (g : Gr w W) => rrefused_any 6 xv xt xs xa xc xD xn xq lx hxn base R d W (h.gr g) hl hn v0 t0)
 have HF := Lib.hid (fun W (g : Gr w W) => rfind_any base R d xv W (h.gr g) hl)
 rw [he] at HR
 obtain ⟨v, vf, hI⟩ := h
 have HI := Lib.hid hI
 have HB := fun W (g : Gr w W) => Nat.le_trans hbase g.below.size
 have hok := hI.ok.vols _ ((getK_mem hI.ok.sort).1 hx)
 have hx0 := hok.s0
 have hx1 := hok.s1
 simp only at hx0 hx1
 have HOK := Lib.hid hok
 clear hok
 obtain ⟨an, rfl⟩ : ∃ n : Nat, xa = n := ⟨xa.toNat, by omega⟩
 rw [Int.toNat_natCast]
 obtain ⟨C, rfl⟩ : ∃ n : Nat, xc = n := ⟨xc.toNat, by omega⟩
 rw [Int.toNat_natCast]
 obtain ⟨Q, hQ⟩ : ∃ Q, Q = 64 * C := ⟨_, rfl⟩
 have e64 : 64 * (C : Int) = (Q : Int) := by omega
 have hCx : (Q : Int) / 64 = (C : Int) := by omega
 have hQ9 : Q ≤ 65536 := by omega
 have hmq := fun W => makeQ Q (by omega) W
 obtain ⟨DATA, hDATA⟩ : ∃ l, l = List.replicate (64 * C) (0 : UInt8) := ⟨_, rfl⟩
 rw [← hDATA]
 have hdl : DATA.length = 64 * C := by rw [hDATA, List.length_replicate]
 have hdq : List.replicate Q (0 : UInt8) = DATA := by rw [hDATA, hQ]
 rw [hdq] at hmq
 have HC1 : 1 ≤ C := by omega
 have HC2 : C ≤ 1024 := by omega
 have HSp := Lib.hid (fun W => rsplit_any an C (by omega) (by omega) (by omega) W)
 have HLNE := Lib.hid (spans_ne an C HC1)
 have hsl1 := spans_len an C
 have hall := fun s hs => (spans_all s hs : s.f < s.t ∧ s.t ≤ 4 ∧ an ≤ 4 * s.b + s.f ∧ 4 * s.b + s.t ≤ an + C)
 obtain ⟨L, hL⟩ : ∃ L, L = spans an C := ⟨_, rfl⟩
 rw [← hL] at HSp HLNE hsl1 hall ⊢
 have HALL := Lib.hid hall
 have HDL := Lib.hid hdl
 have HDA := Lib.hid hDATA
 clear hL hall hdl hDATA hQ
 obtain ⟨i, hi, hdi, hil⟩ := idx_get hx
 rw [hi] at HF
 obtain ⟨g, c, rfl, hbg, hgl, hne, hc1, hc2, hty, hcl⟩ := hI.form (by rintro rfl; simp at hil)
 obtain ⟨c0, c1, c2⟩ := hcl i _ hdi
 simp only at c0 c1 c2
 rw [Nat.add_zero] at c0
 have x0 : w.cell? ⟨R, 0, none⟩ = some (.slice (some ⟨g, 0, none⟩) d.length c) := (@block_cells _ _ 0 _ _ hI.blk).trans rfl
 haveI := hI.blk
 haveI : Old R w := hI.blk.old
 haveI : Old g w := ⟨hgl⟩
 have HDI := Lib.hid hdi
 have HX := Lib.hid hx
 have HV := Lib.hid (hI.vol _ (List.mem_of_getElem? hdi))
 obtain ⟨N, hN⟩ : ∃ N, N = d.length := ⟨_, rfl⟩
 rw [← hN] at x0 hil hc1
 rw [← hN] at HI
 have HN := Lib.hid hN
 have HL := Lib.hid hl
 clear hcl hdi hi hI he hx hN hl
 have hN9 : N ≤ 1000000 := by have := HL.out; have := HN.out; omega
 go_enter Tryz.func98, Tryz.ntmps98
 go_wp2_with (first | (go_at_call 123; ((with_reducible refine (HR.out _ gri).mono ?_); rintro _ _ ⟨rfl, g1, rfl⟩)) | (go_at_call 24; ((with_reducible refine (HF.out _ gri).mono ?_); rintro _ _ ⟨rfl, g2, rfl⟩)) | (go_at_call 126; ((with_reducible refine (HSp.out _).mono ?_); rintro _ _ ⟨vS, rfl, hoS, ⟨gq, rfl⟩⟩; obtain ⟨gS, cS, rfl, hbS, hgS, hcS, hcmS, hclS, hzS⟩ := hoS.cells spIs HLNE.out; obtain ⟨curS, hhS⟩ := own_heap hoS)))
 obtain ⟨A0, hA0⟩ : ∃ A0, A0 = (grown _ g1).heap.size := ⟨_, rfl⟩
 have hA1 : w.heap.size + 1 < A0 := by
  rw [hA0]
  exact (inferInstance : Old (w.heap.size + 1) (grown _ g1)).lt
 obtain ⟨W5, hW5⟩ : ∃ W5, W5 = grown _ gq := ⟨_, rfl⟩
 have b8 : BlockAt W5 A0 #[.int .i64 0, .int .i64 0, .slice none 0 0] 97 := by
  rw [hW5, hA0]
  infer_instance
 have b6 : BlockAt W5 (w.heap.size + 1) #[.int .i64 0, .int .i64 0, .slice none 0 0] 97 := by
  rw [hW5]
  infer_instance
 have b4 : BlockAt W5 w.heap.size #[.int .i64 6, .int .u64 xv, .int .u64 xt, .int .i64 xs, .int .i64 (an : Int), .int .i64 (C : Int), .slice xD xn xq] 43 := by
  rw [hW5]
  infer_instance
 have g5 : Gr w W5 := by
  rw [hW5]
  exact gri
 rw [← hW5] at hgS hclS hhS
 obtain ⟨K0, hK0⟩ : ∃ K0, K0 = (grown _ g2).heap.size := ⟨_, rfl⟩
 have bK : BlockAt W5 K0 (bkC DATA) 5 := by
  rw [hW5, hK0]
  infer_instance
 rw [← hK0]
 rw [← hW5]
 try rw [← hA0]
 clear hW5 hA0 hoS hzS hK0
 haveI := grc_of g5
 haveI := from_of g5
 have HDT : Hid (∀ W, RK W5 W → Below base w W → K0 < W.heap.size ∧ ∀ (j : Nat) u, DATA[j]? = some u → W.cell? ⟨K0, 0 + j, none⟩ = some (bv u)) := Lib.hid fun W hk hb => by
  have h9 := hk.block bK (by unfold refT; decide)
  exact ⟨h9.lt, fun j u hj => by rw [Nat.zero_add, @block_cells _ _ _ _ _ h9]; exact bkC_at hj⟩
 have HS5 := Lib.hid (show CellsN spE W5 gS 0 L ∧ W5.heap[gS]? = some (.cells curS 146 (0, 0)) from ⟨hclS, hhS⟩)
 have HG5 := Lib.hid g5
 have HB8 := Lib.hid b8
 have HB6 := Lib.hid b6
 have HB4 := Lib.hid b4
 have hLn : L.length ≤ 1024 := by omega
 clear hclS hhS hbS hcmS b8 b6 b4 bK
 go_loopw [12] (fun i9 wr => ∃ k : Nat, k ≤ L.length ∧ i9 = .int .i64 (k : Int) ∧ (∃ vf', RefIn base wr R (.slice (some ⟨g, 0, none⟩) d.length c) vf' (putK d xv (x.1, putL an DATA x.2 (L.take k)))) ∧ RK W5 wr ∧ Below base w wr) (fun i9 _ => L.length - (intOf i9).toNat)
 case atStart => exact ⟨0, Nat.zero_le _, rfl, ⟨vf, by rw [List.take_zero, putL, List.foldl_nil, putK_own HI.out.ok.sort HX.out]; rw [HN.out.symm]; exact HI.out.gr HG5.out⟩, RK.refl _, HG5.out.below.mono hbase⟩
 case round =>
  obtain ⟨k, hk, rfl, ⟨vf', hRk⟩, hRK, hBel⟩ := hrel
  rw [← HN.out] at hRk
  have k8 := hRK.block HB8.out (by unfold refT; decide)
  have k6 := hRK.block HB6.out (by unfold refT; decide)
  have k4 := hRK.block HB4.out (by unfold refT; decide)
  have y0 : wr.cell? ⟨R, 0, none⟩ = some (.slice (some ⟨g, 0, none⟩) N c) := (@block_cells _ _ 0 _ _ hRk.blk).trans rfl
  haveI : Old R wr := hRk.blk.old
  haveI := k8
  haveI := k6
  haveI := k4
  haveI := k8.old
  haveI := k6.old
  haveI := k4.old
  have o4 : wr.cell? ⟨w.heap.size, 4, none⟩ = some (.int .i64 (an : Int)) := (@block_cells _ _ 4 _ _ k4).trans rfl
  by_cases hlt : k < L.length
  ·obtain ⟨⟨sb, sf, st⟩, hs⟩ : ∃ s, L[k]? = some s := ⟨_, List.getElem?_eq_getElem hlt⟩
   have hsa := HALL.out _ (List.mem_of_getElem? hs)
   simp only at hsa
   obtain ⟨hsf, hst, hslo, hshi⟩ := hsa
   have hcl9 := HS5.out.1.rk HS5.out.2 (by unfold refT; decide) hRK
   have s0 : wr.cell? ⟨gS, k * 3, none⟩ = some (.int .i64 (sb : Int)) := by have := hcl9 k _ hs 0 _ rfl; rwa [Nat.zero_add] at this
   have s1 : wr.cell? ⟨gS, k * 3 + 1, none⟩ = some (.int .i64 (sf : Int)) := by have := hcl9 k _ hs 1 _ rfl; rwa [Nat.zero_add] at this
   have s2 : wr.cell? ⟨gS, k * 3 + 2, none⟩ = some (.int .i64 (st : Int)) := by have := hcl9 k _ hs 2 _ rfl; rwa [Nat.zero_add] at this
   haveI : Old gS wr := old_of_cell s0
   have hms : (sb : Int) < x.1 := by omega
   obtain ⟨m, hme⟩ : ∃ m, m = putL an DATA x.2 (L.take k) := ⟨_, rfl⟩
   rw [← hme] at hRk
   have hok' : VolOk (x.1, m) := by rw [hme]; exact putL_ok _ HOK.out (fun s hs => by have := HALL.out s (List.mem_of_mem_take hs); exact ⟨this.1, this.2.1, by have := hfit; omega⟩)
   have hdk : (putK d xv (x.1, m))[i]? = some (xv, (x.1, m)) := by rw [← putK_set HI.out.ok.sort HDI.out, List.getElem?_set_self (by rw [← HN.out]; exact hil)]
   obtain ⟨g', c', hv', hbg', hgl', _, _, _, hty', hcl'⟩ := hRk.form (by intro e; rw [e] at hdk; cases hdk)
   simp only [Value.slice.injEq, Option.some.injEq, Addr.mk.injEq] at hv'
   obtain ⟨⟨hgg, -, -⟩, -, -⟩ := hv'
   rw [← hgg] at hgl' hty' hcl'
   have cM := (hcl' i _ hdk).2.2
   simp only at cM
   haveI : Old g wr := ⟨hgl'⟩
   have hBM := hRk.vol _ (List.mem_of_getElem? hdk)
   simp only at hBM
   have HG := Lib.hid (fun W (hW : Gr wr W) => rget_any g (i * 3) (vf' xv) m (sb : Int) W ((hW.below.cell (p := ⟨g, i * 3 + 2, none⟩) hgl').trans cM) (hBM.gr hW))
   have hY : ((getK m (sb : Int)).getD zB).length = 256 := blkM_len hok'.sort hok'.len sb
   have HYe := Lib.hid (show (getK m (sb : Int)).getD zB = blkM m sb from rfl)
   obtain ⟨Y, hYY⟩ : ∃ Y, Y = (getK m (sb : Int)).getD zB := ⟨_, rfl⟩
   rw [← hYY] at HG hY HYe
   obtain ⟨yi, hyi⟩ : ∃ yi, yi = (getK m (sb : Int)).isSome := ⟨_, rfl⟩
   rw [← hyi] at HG
   haveI := bkC_row hY
   have hsg : (segK ⟨sb, sf, st⟩ an DATA).length = 64 * (st - sf) := by have := HDL.out; simp [segK]; omega
   have HSG := Lib.hid hsg
   have HYL := Lib.hid hY
   have HRk := Lib.hid hRk
   have HRK := Lib.hid hRK
   have HBEL := Lib.hid hBel
   have HME := Lib.hid hme
   have HOKm := Lib.hid hok'
   have HDK := Lib.hid hdk
   have HS := Lib.hid hs
   have HTY := Lib.hid hty'
   have HCM := Lib.hid cM
   clear hcl9 hcl' hdk hbg' hty' hme hok' hBM hRk hRK hBel hYY hyi hsg hY hs hgg cM
   have d9 : decide (most ≤ (k : Int)) = false := decide_eq_false (by omega)
   go_wp2
   refine wp_region_tree (mixw_ghost _) [] (mixw_nil _) [0, 1, 2, 3, 4, 5, 6, 7, 8, 9, 10, 11, 12, 13, 14] 3 (by kernel_rfl) (by kernel_rfl) ?_
   simp only [pick, List.drop_succ_cons, List.drop_zero, List.take_succ_cons, List.take_zero, List.nil_append, List.cons_append]
   repeat (refine wpCalm_step (fun K hK => ?_); go_simp; first | (refine hK _ ?_; clear hK K) | (apply Exists.intro; refine ⟨fun _ => ?_, hK _ ?_⟩; ((go_at_call 55; exact HG.out _ gri)); clear hK K))
   refine wpCalm_nil ?_
   refine fe_mixAllocD 15 (by kernel_rfl) rfl rfl rfl rfl Tryz.zeroValue88 fun B1 hB1 nB1 => ?_
   simp only [Act.put, List.setIfInBounds_toArray, List.set_cons_zero, List.set_cons_succ]
   refine fe_mixStoreN 16 [(B1, bkC Y, 88)] (bkC Y) (by kernel_rfl) rfl rfl rfl rfl rfl List.mem_cons_self hB1 rfl (by rw [bkC_size, HYL.out]; exact infoBlk) (by rw [bkC_size, HYL.out]; kernel_rfl) (List.all_eq_true.2 (bkC_one Y)) (fun z hz => .inl (by simpa using hz)) ?_
   refine fe_mixCalmD 17 (.bool yi) (by kernel_rfl) rfl rfl rfl (fun g => by unfold calmAt; go_simp) ?_
   simp only [Act.put, List.setIfInBounds_toArray, List.set_cons_zero, List.set_cons_succ]
   refine fe_end (by kernel_rfl) ?_
   intro w1 hw1
   have bB : BlockAt w1 B1 (bkC Y) 88 := ⟨hw1.2 _ List.mem_cons_self⟩
   have g27 : Gr wr w1 := hw1.1
   clear hw1 nB1
   obtain ⟨gk, rfl⟩ := g27
   obtain ⟨X, hX⟩ : ∃ X, mergeB Y sf (segK ⟨sb, sf, st⟩ an DATA) = X := ⟨_, rfl⟩
   have HXe := Lib.hid hX
   have HXL : Hid (X.length = 256) := Lib.hid (by rw [← hX]; exact mergeB_len Y sf _ HYL.out (by have := HSG.out; omega))
   clear hX
   have HSET : Hid (∀ W, Gr wr W → Calls Tryz.prog 129 #[.pointer (some ⟨g, i * 3, none⟩), .int .i64 (sb : Int), .agg (bkC X)] W fun e w' => e = .returned (.tuple #[]) ∧ (∃ vf'', RefIn base w' R (.slice (some ⟨g, 0, none⟩) N c) vf'' (putK d xv (x.1, putL an DATA x.2 (L.take (k + 1))))) ∧ RK wr w' ∧ Below base wr w') := Lib.hid fun W hW => by
    obtain ⟨cs9, hh9⟩ := HTY.out
    have hfr : wr.frozen? ⟨g, i * 3 + 2, none⟩ = false := froV ⟨cs9, hh9⟩ _
    have hF := HRk.out.own.cells rvIs (by intro e; have h9 := HDK.out; have := List.map_eq_nil_iff.1 e; rw [this] at h9; cases h9)
    have hcM : wr.cell? ⟨g, i * 3 + 2, none⟩ = some (vf' xv) := HCM.out
    refine (rset_any g (i * 3) (vf' xv) m (sb : Int) X HXL.out W ((hW.below.cell (p := ⟨g, i * 3 + 2, none⟩) (old_of_cell hcM).lt).trans hcM) (gr_frozen hW (old_of_cell hcM).lt hfr) ((HRk.out.vol _ (List.mem_of_getElem? HDK.out)).gr hW) HOKm.out.sort (Nat.le_trans (vols_len HOKm.out) (by omega))).mono ?_
    rintro _ _ ⟨rfl, w1, u, hg1, ho1, rfl⟩
    have hput : putL an DATA x.2 (L.take (k + 1)) = putK m sb X := by
     rw [List.take_add_one, HS.out]
     simp only [putL, List.foldl_append, Option.toList, List.foldl_cons, List.foldl_nil]
     simp only [putS]
     rw [← HXe.out, HYe.out, HME.out]
     rfl
    have hok2 : VolOk (x.1, putK m sb X) := by rw [← hput]; exact putL_ok _ HOK.out (fun s hs => by have := HALL.out s (List.mem_of_mem_take hs); exact ⟨this.1, this.2.1, by have := hfit; omega⟩)
    have hr9 := HRk.out.setM (hW.trans hg1) HDK.out (putK m sb X) u ho1.blkS hok2
    simp only at hr9
    rw [putK_putK _ _ _ _ HI.out.ok.sort] at hr9
    rw [hput]
    exact ⟨rfl, ⟨_, hr9⟩, (RK.gr (hW.trans hg1)).set_ g _ u (((hW.trans hg1).below.block g (old_of_cell hcM).lt).trans hh9) (.inl rfl), ((hW.trans hg1).below.mono (Nat.le_trans hbase HBEL.out.size)).setCell (p := ⟨g, i * 3 + 2, none⟩) hbg u⟩
   haveI := bB
   try simp only [Act.put, List.setIfInBounds_toArray, List.set_cons_zero, List.set_cons_succ]
   go_wp2
   refine wp_region_treeG ⟨fun w' => Gr (grown wr gk) w', true, fun _ _ h => h, fun _ _ _ h g => h.trans g⟩ rfl (Gr.of ((Below.refl _ _).drew)) [0, 1, 2, 3, 4, 5, 6, 7, 8, 9, 10, 11, 12] 6 18 (by kernel_rfl) (by kernel_rfl) ?_
   simp only [pick, List.drop_succ_cons, List.drop_zero, List.take_succ_cons, List.take_zero, List.nil_append, List.cons_append]
   refine wpCalm_load rfl rfl rfl bB Tryz.underlying88 rfl (by rw [bkC_size, HYL.out]; exact infoBlk) ?_
   simp only [Act.put, List.setIfInBounds_toArray, List.set_cons_zero, List.set_cons_succ]
   repeat (refine wpCalm_step (fun K hK => ?_); go_simp; first | (refine hK _ ?_; clear hK K) | (apply Exists.intro; refine ⟨fun _ => ?_, hK _ ?_⟩; (skip); clear hK K))
   refine wpCalm_nil ?_
   have hsne : segK ⟨sb, sf, st⟩ an DATA ≠ [] := by
    intro e
    have := HSG.out
    rw [e] at this
    simp at this
    omega
   have hDT := fun W (hW : Gr (grown wr gk) W) => HDT.out W (HRK.out.trans (RK.gr (Gr.trans gri hW))) (HBEL.out.trans ((Gr.below (Gr.trans (gri : Gr wr (grown wr gk)) hW)).mono (Nat.le_trans hbase HBEL.out.size)))
   refine fg_one 13 (by kernel_rfl) ?_
   refine fg_effD rfl rfl rfl (fun w1 hw1 => effAt_call' 128 #[.agg #[.int .i64 (sb : Int), .int .i64 (sf : Int), .int .i64 (st : Int)], .int .i64 (an : Int), .slice (some ⟨K0, 0, none⟩) Q Q] (by go_simp) ((rdata_any sb sf st an Q Q K0 0 DATA w1 (by omega) hsf hst hslo (by omega) (by omega) (by omega) (by have := HDL.out; omega) (by omega) (hDT w1 hw1).1 (hDT w1 hw1).2).mono fun e w2 hc => ?_))
   obtain ⟨v1, rfl, ho1, hg1⟩ := hc
   obtain ⟨A1, c1', rfl, -, hA1', -, -, hcl1, -⟩ := ho1.cells bIs hsne
   refine ⟨_, rfl, ⟨fun w2 => Gr (grown wr gk) w2 ∧ A1 < w2.heap.size ∧ ∀ (j : Nat) u, (segK ⟨sb, sf, st⟩ an DATA)[j]? = some u → w2.cell? ⟨A1, 0 + j, none⟩ = some (bv u), true, fun _ _ h => h.1, fun _ _ _ h g => ⟨h.1.trans g, Nat.lt_of_lt_of_le h.2.1 g.below.size, fun j u hj => (g.below.cell (p := ⟨A1, 0 + j, none⟩) h.2.1).trans (h.2.2 j u hj)⟩⟩, ⟨Gr.trans hw1 hg1, hA1', fun j u hj => by have := hcl1 j u hj 0 _ rfl; simpa [bE] using this⟩, fun _ _ => rfl, ?_⟩
   rw [HSG.out]
   clear ho1 hg1 hw1 hA1' hcl1 w2 w1
   simp only [Act.put, List.setIfInBounds_toArray, List.set_cons_zero, List.set_cons_succ]
   refine fg_one 14 (by kernel_rfl) ?_
   refine fg_effD rfl rfl rfl (fun w1 hw1 => effAt_call' 127 #[.agg (bkC Y), .int .i64 (sf : Int), .slice (some ⟨A1, 0, none⟩) (64 * (st - sf)) c1'] (by go_simp) ((rmerge_any Y (segK ⟨sb, sf, st⟩ an DATA) sf (64 * (st - sf)) c1' A1 0 w1 HYL.out (by omega) HSG.out (by omega) (by omega) hw1.2.1 hw1.2.2).mono fun e w2 hc => ?_))
   obtain ⟨rfl, hg1⟩ := hc
   refine ⟨_, rfl, ⟨fun w2 => Gr (grown wr gk) w2, true, fun _ _ h => h, fun _ _ _ h g => h.trans g⟩, Gr.trans hw1.1 hg1, fun _ _ => rfl, ?_⟩
   rw [HXe.out]
   clear hg1 hw1 w2 w1 hDT
   simp only [Act.put, List.setIfInBounds_toArray, List.set_cons_zero, List.set_cons_succ]
   refine fg_one 15 (by kernel_rfl) ?_
   refine fg_pure (.tuple #[.agg (bkC X), .int .i64 0]) rfl rfl rfl (fun w => by go_simp) ?_
   simp only [Act.put, List.setIfInBounds_toArray, List.set_cons_zero, List.set_cons_succ]
   refine fg_two 16 17 (by kernel_rfl) ?_ ?_
   ·refine fg_pure (.agg (bkC X)) rfl rfl rfl (fun w => by go_simp) ?_
    simp only [Act.put, List.setIfInBounds_toArray, List.set_cons_zero, List.set_cons_succ]
    refine fg_two 17 18 (by kernel_rfl) ?_ ?_
    ·refine fg_pure (.int .i64 0) rfl rfl rfl (fun w => by go_simp) ?_
     simp only [Act.put, List.setIfInBounds_toArray, List.set_cons_zero, List.set_cons_succ]
     refine fg_one 18 (by kernel_rfl) ?_
     refine fg_effN rfl rfl rfl (fun w1 hw1 => effAt_storeB rfl rfl rfl (bB.gr hw1) (by rw [bkC_size, HYL.out]) (bkC_row HXL.out) ⟨⟨fun w2 => ∃ w1, Gr (grown wr gk) w1 ∧ w2 = w1.setRow B1 (bkC X), false, fun e => Bool.noConfusion e, fun e => Bool.noConfusion e⟩, ⟨w1, hw1, rfl⟩, fun e => absurd rfl e, ?_⟩)
     refine fg_end (by kernel_rfl) (fun w5 hw5 => ?_)
     obtain ⟨w4, hw4, rfl⟩ := hw5
     have bX : BlockAt (w4.setRow B1 (bkC X)) B1 (bkC X) 88 := setRow_block (bB.gr hw4)
     have g28 : Gr wr (w4.setRow B1 (bkC X)) := setRow_gr (Gr.trans gri hw4) hB1
     clear hw4
     obtain ⟨w6, hw6⟩ : ∃ w6, w6 = w4.setRow B1 (bkC X) := ⟨_, rfl⟩
     rw [← hw6] at bX g28 ⊢
     clear hw6 bB w4
     obtain ⟨gz, rfl⟩ := g28
     haveI := bX
     try simp only [Act.put, List.setIfInBounds_toArray, List.set_cons_zero, List.set_cons_succ]
     go_wp2
     refine wp_region_treeT (inCls_ghost _) (Cls.none _) ⟨Gr.of ((Below.refl _ _).drew), trivial⟩ [0, 1, 2, 3, 4, 5, 6, 7, 8, 9, 10, 11] 0 12 (by kernel_rfl) (by kernel_rfl) ?_
     simp only [pick, List.drop_succ_cons, List.drop_zero, List.take_succ_cons, List.take_zero, List.nil_append, List.cons_append]
     repeat (refine wpCalm_step (fun K hK => ?_); go_simp; first | (refine hK _ ?_; clear hK K) | (apply Exists.intro; refine ⟨fun _ => ?_, hK _ ?_⟩; (skip); clear hK K))
     refine wpCalm_load rfl rfl rfl bX Tryz.underlying88 rfl (by rw [bkC_size, HXL.out]; exact infoBlk) ?_
     simp only [Act.put, List.setIfInBounds_toArray, List.set_cons_zero, List.set_cons_succ]
     refine wpCalm_nil ?_
     refine ft_end ⟨by kernel_rfl, fun w9 hw9 => ?_⟩
     try simp only [List.drop_succ_cons, List.drop_zero]
     have g29 : Gr wr w9 := Gr.trans gri hw9.1
     clear hw9
     have HG29 := Lib.hid g29
     clear g29
     go_wp2_with (first | (go_at_call 129; ((with_reducible refine (HSET.out _ HG29.out).mono ?_); rintro _ W3 ⟨rfl, hr3, hk3, hb3⟩)))
     go_roundw
     case rel => exact ⟨k + 1, hlt, by go_num, by rw [← HN.out]; exact hr3, HRK.out.trans hk3, HBEL.out.trans hb3⟩
     case measure => simp [intOf]; omega
    ·refine fg_effN rfl rfl rfl (fun w1 hw1 => effAt_storeB rfl rfl rfl (bB.gr hw1) (by rw [bkC_size, HYL.out]) (bkC_row HXL.out) ⟨⟨fun w2 => ∃ w1, Gr (grown wr gk) w1 ∧ w2 = w1.setRow B1 (bkC X), false, fun e => Bool.noConfusion e, fun e => Bool.noConfusion e⟩, ⟨w1, hw1, rfl⟩, fun e => absurd rfl e, ?_⟩)
     refine fg_one 17 (by kernel_rfl) ?_
     refine fg_pure (.int .i64 0) rfl rfl rfl (fun w => by go_simp) ?_
     simp only [Act.put, List.setIfInBounds_toArray, List.set_cons_zero, List.set_cons_succ]
     refine fg_end (by kernel_rfl) (fun w5 hw5 => ?_)
     obtain ⟨w4, hw4, rfl⟩ := hw5
     have bX : BlockAt (w4.setRow B1 (bkC X)) B1 (bkC X) 88 := setRow_block (bB.gr hw4)
     have g28 : Gr wr (w4.setRow B1 (bkC X)) := setRow_gr (Gr.trans gri hw4) hB1
     clear hw4
     obtain ⟨w6, hw6⟩ : ∃ w6, w6 = w4.setRow B1 (bkC X) := ⟨_, rfl⟩
     rw [← hw6] at bX g28 ⊢
     clear hw6 bB w4
     obtain ⟨gz, rfl⟩ := g28
     haveI := bX
     try simp only [Act.put, List.setIfInBounds_toArray, List.set_cons_zero, List.set_cons_succ]
     go_wp2
     refine wp_region_treeT (inCls_ghost _) (Cls.none _) ⟨Gr.of ((Below.refl _ _).drew), trivial⟩ [0, 1, 2, 3, 4, 5, 6, 7, 8, 9, 10, 11] 0 12 (by kernel_rfl) (by kernel_rfl) ?_
     simp only [pick, List.drop_succ_cons, List.drop_zero, List.take_succ_cons, List.take_zero, List.nil_append, List.cons_append]
     repeat (refine wpCalm_step (fun K hK => ?_); go_simp; first | (refine hK _ ?_; clear hK K) | (apply Exists.intro; refine ⟨fun _ => ?_, hK _ ?_⟩; (skip); clear hK K))
     refine wpCalm_load rfl rfl rfl bX Tryz.underlying88 rfl (by rw [bkC_size, HXL.out]; exact infoBlk) ?_
     simp only [Act.put, List.setIfInBounds_toArray, List.set_cons_zero, List.set_cons_succ]
     refine wpCalm_nil ?_
     refine ft_end ⟨by kernel_rfl, fun w9 hw9 => ?_⟩
     try simp only [List.drop_succ_cons, List.drop_zero]
     have g29 : Gr wr w9 := Gr.trans gri hw9.1
     clear hw9
     have HG29 := Lib.hid g29
     clear g29
     go_wp2_with (first | (go_at_call 129; ((with_reducible refine (HSET.out _ HG29.out).mono ?_); rintro _ W3 ⟨rfl, hr3, hk3, hb3⟩)))
     go_roundw
     case rel => exact ⟨k + 1, hlt, by go_num, by rw [← HN.out]; exact hr3, HRK.out.trans hk3, HBEL.out.trans hb3⟩
     case measure => simp [intOf]; omega
   ·refine fg_pure (.int .i64 0) rfl rfl rfl (fun w => by go_simp) ?_
    simp only [Act.put, List.setIfInBounds_toArray, List.set_cons_zero, List.set_cons_succ]
    refine fg_one 16 (by kernel_rfl) ?_
    refine fg_pure (.agg (bkC X)) rfl rfl rfl (fun w => by go_simp) ?_
    simp only [Act.put, List.setIfInBounds_toArray, List.set_cons_zero, List.set_cons_succ]
    refine fg_one 18 (by kernel_rfl) ?_
    refine fg_effN rfl rfl rfl (fun w1 hw1 => effAt_storeB rfl rfl rfl (bB.gr hw1) (by rw [bkC_size, HYL.out]) (bkC_row HXL.out) ⟨⟨fun w2 => ∃ w1, Gr (grown wr gk) w1 ∧ w2 = w1.setRow B1 (bkC X), false, fun e => Bool.noConfusion e, fun e => Bool.noConfusion e⟩, ⟨w1, hw1, rfl⟩, fun e => absurd rfl e, ?_⟩)
    refine fg_end (by kernel_rfl) (fun w5 hw5 => ?_)
    obtain ⟨w4, hw4, rfl⟩ := hw5
    have bX : BlockAt (w4.setRow B1 (bkC X)) B1 (bkC X) 88 := setRow_block (bB.gr hw4)
    have g28 : Gr wr (w4.setRow B1 (bkC X)) := setRow_gr (Gr.trans gri hw4) hB1
    clear hw4
    obtain ⟨w6, hw6⟩ : ∃ w6, w6 = w4.setRow B1 (bkC X) := ⟨_, rfl⟩
    rw [← hw6] at bX g28 ⊢
    clear hw6 bB w4
    obtain ⟨gz, rfl⟩ := g28
    haveI := bX
    try simp only [Act.put, List.setIfInBounds_toArray, List.set_cons_zero, List.set_cons_succ]
    go_wp2
    refine wp_region_treeT (inCls_ghost _) (Cls.none _) ⟨Gr.of ((Below.refl _ _).drew), trivial⟩ [0, 1, 2, 3, 4, 5, 6, 7, 8, 9, 10, 11] 0 12 (by kernel_rfl) (by kernel_rfl) ?_
    simp only [pick, List.drop_succ_cons, List.drop_zero, List.take_succ_cons, List.take_zero, List.nil_append, List.cons_append]
    repeat (refine wpCalm_step (fun K hK => ?_); go_simp; first | (refine hK _ ?_; clear hK K) | (apply Exists.intro; refine ⟨fun _ => ?_, hK _ ?_⟩; (skip); clear hK K))
    refine wpCalm_load rfl rfl rfl bX Tryz.underlying88 rfl (by rw [bkC_size, HXL.out]; exact infoBlk) ?_
    simp only [Act.put, List.setIfInBounds_toArray, List.set_cons_zero, List.set_cons_succ]
    refine wpCalm_nil ?_
    refine ft_end ⟨by kernel_rfl, fun w9 hw9 => ?_⟩
    try simp only [List.drop_succ_cons, List.drop_zero]
    have g29 : Gr wr w9 := Gr.trans gri hw9.1
    clear hw9
    have HG29 := Lib.hid g29
    clear g29
    go_wp2_with (first | (go_at_call 129; ((with_reducible refine (HSET.out _ HG29.out).mono ?_); rintro _ W3 ⟨rfl, hr3, hk3, hb3⟩)))
    go_roundw
    case rel => exact ⟨k + 1, hlt, by go_num, by rw [← HN.out]; exact hr3, HRK.out.trans hk3, HBEL.out.trans hb3⟩
    case measure => simp [intOf]; omega
  ·have hkk : k = L.length := by omega
   rw [hkk, List.take_length] at hRk
   have p0 : wr.cell? ⟨A0, 0, none⟩ = some (.int .i64 0) := (@block_cells _ _ 0 _ _ k8).trans rfl
   have p1 : wr.cell? ⟨A0, 1, none⟩ = some (.int .i64 0) := (@block_cells _ _ 1 _ _ k8).trans rfl
   have p2 : wr.cell? ⟨A0, 2, none⟩ = some (.slice none 0 0) := (@block_cells _ _ 2 _ _ k8).trans rfl
   have q0 : wr.cell? ⟨w.heap.size + 1, 0, none⟩ = some (.int .i64 0) := (@block_cells _ _ 0 _ _ k6).trans rfl
   have q1 : wr.cell? ⟨w.heap.size + 1, 1, none⟩ = some (.int .i64 0) := (@block_cells _ _ 1 _ _ k6).trans rfl
   have q2 : wr.cell? ⟨w.heap.size + 1, 2, none⟩ = some (.slice none 0 0) := (@block_cells _ _ 2 _ _ k6).trans rfl
   have fz : ∀ o, wr.frozen? ⟨w.heap.size + 1, o, none⟩ = false := fun o => @block_frozen _ _ o _ _ k6
   have HRk := Lib.hid hRk
   have HRK := Lib.hid hRK
   have HBEL := Lib.hid hBel
   clear hRk hRK hBel
   go_wp2
   exact bodyPost_ret (run_resCell1 rfl _ _ _ _ rfl (ans_block k6 _ _ _) Tryz.underlying97 rfl (by kernel_rfl)) rfl ⟨none, 0, 0, rfl, OwnN.nil _ _, ans_ref HRk.out k6 _ _ _, ans_below HBEL.out (by omega) _ _ _, ans_rk ((RK.gr HG5.out).trans HRK.out) (by omega) _ _ _⟩
set_option maxRecDepth 100000
set_option maxHeartbeats 4000000
theorem rpart_any (xk xv xt xs xa xc most : Int) (xD : Option Addr) (xn xq : Nat) (hq : xn ≤ xq) (lx : Byt) (hxn : lx.length = xn) (base R : Nat) (d : Dev) (w W0 : World) (h0 : Gr W0 w) (hb0 : base = W0.heap.size) (h : RefAt base w R d) (hl : d.length ≤ 1000000) (hr : Row bv W0 xD lx) (hn : xn ≤ 1000000) (v0 : 0 ≤ xv) (t0 : 0 ≤ xt) (hmost : 1024 ≤ most) (hk9 : xk ≠ 9) :
  Calls Tryz.prog 98 #[.pointer (some ⟨R, 0, none⟩), .agg #[.int .i64 xk, .int .u64 xv, .int .u64 xt, .int .i64 xs, .int .i64 xa, .int .i64 xc, .slice xD xn xq], .int .i64 most] w
   (RPost base R (doK d ⟨xk, xv, xt, xs, xa, xc, lx⟩) (ansK d ⟨xk, xv, xt, xs, xa, xc, lx⟩ 1024).1 (ansK d ⟨xk, xv, xt, xs, xa, xc, lx⟩ 1024).2.1 (ansK d ⟨xk, xv, xt, xs, xa, xc, lx⟩ 1024).2.2 w) := by
 have hbase : base ≤ w.heap.size := by rw [hb0]; exact h0.below.size
 by_cases he : errK d ⟨xk, xv, xt, xs, xa, xc, lx⟩ = 0
 rotate_left
 ·have e1 : doK d ⟨xk, xv, xt, xs, xa, xc, lx⟩ = d := by rw [doK, partK, if_neg he]
  have e2 : ansK d ⟨xk, xv, xt, xs, xa, xc, lx⟩ 1024 = (errK d ⟨xk, xv, xt, xs, xa, xc, lx⟩, 0, []) := by rw [ansK, if_neg he]
  rw [e1, e2]
  exact rpart_ref xk xv xt xs xa xc most xD xn xq lx hxn base R d w h hbase hl hn v0 t0 _ rfl (errK_val d _ he)
 have hm := errK_may he
 have hs := may_s hm
 have hkk := may_kind hm
 have hok := part_ok (by obtain ⟨v, vf, h⟩ := h; exact h.ok : DevOk d) ⟨xk, xv, xt, xs, xa, xc, lx⟩ 1024
 have e1 : doK d ⟨xk, xv, xt, xs, xa, xc, lx⟩ = didK d ⟨xk, xv, xt, xs, xa, xc, lx⟩ 1024 := by rw [doK, partK, if_pos he]
 have h9 : xk = 1 ∨ xk = 2 ∨ xk = 3 ∨ xk = 4 ∨ xk = 5 ∨ xk = 6 ∨ xk = 7 ∨ xk = 8 ∨ xk = 9 := by simp only at hkk; omega
 rw [partK, if_pos he] at hok
 rw [e1]
 clear e1 hkk
 rcases h9 with rfl | rfl | rfl | rfl | rfl | rfl | rfl | rfl | rfl
 ·have e2 : ansK d ⟨1, xv, xt, xs, xa, xc, lx⟩ 1024 = (0, 0, []) := by simp [ansK, he]
  have e3 : didK d ⟨1, xv, xt, xs, xa, xc, lx⟩ 1024 = putK d xv (xs, []) := by simp [didK]
  have hg : getK d xv = none := by
   cases hx : getK d xv with
   | none => rfl
   | some x => rw [errK, if_neg (by rw [hm]; simp)] at he; simp [hx] at he
  rw [e3] at hok
  rw [e2, e3]
  exact rpart_1 xv xt xs xa xc most xD xn xq lx hxn base R d w h hbase hl hn v0 t0 he hg hok
 ·obtain ⟨x, hv⟩ := errK_vol he (by simp) (by simp)
  have e2 : ansK d ⟨2, xv, xt, xs, xa, xc, lx⟩ 1024 = (0, 0, []) := by simp [ansK, he]
  have e3 : didK d ⟨2, xv, xt, xs, xa, xc, lx⟩ 1024 = delK d xv := by simp [didK]
  rw [e2, e3]
  exact rpart_2 xv xt xs xa xc most xD xn xq lx hxn base R d w h hbase hl hn v0 t0 he x hv
 ·obtain ⟨x, hv⟩ := errK_vol he (by simp) (by simp)
  simp only at hv
  have e2 : ansK d ⟨3, xv, xt, xs, xa, xc, lx⟩ 1024 = (0, 0, []) := by simp [ansK, he]
  have e3 : didK d ⟨3, xv, xt, xs, xa, xc, lx⟩ 1024 = putK d xv (xs, x.2.filter fun p => decide (p.1 < xs)) := by simp [didK, volD, hv]
  rw [e2, e3]
  exact rpart_3 xv xt xs xa xc most xD xn xq lx hxn base R d w h hbase hl hn v0 t0 he x hv (hs.size (by simp))
 ·obtain ⟨x, hv⟩ := errK_vol he (by simp) (by simp)
  simp only at hv
  have e2 : ansK d ⟨4, xv, xt, xs, xa, xc, lx⟩ 1024 = (0, 0, []) := by simp [ansK, he]
  have e3 : didK d ⟨4, xv, xt, xs, xa, xc, lx⟩ 1024 = putK d xt x := by simp [didK, volD, hv]
  have hg : getK d xt = none := by
   cases hx : getK d xt with
   | none => rfl
   | some y => rw [errK, if_neg (by rw [hm]; simp)] at he; simp [hv, hx] at he
  rw [e3] at hok
  rw [e2, e3]
  exact rpart_4 xv xt xs xa xc most xD xn xq lx hxn base R d w h hbase hl hn v0 t0 he x hv hg hok
 ·obtain ⟨x, hv⟩ := errK_vol he (by simp) (by simp)
  simp only at hv
  have ha := hs.at_ (by simp)
  have hd := hs.dat rfl
  simp only at ha hd
  rw [hxn] at hd
  have hfit : ¬ 4 * x.1 < xa + ((xn / 64 : Nat) : Int) := fun hlt => by
   rw [errK, if_neg (by rw [hm]; simp)] at he
   simp [hv, hxn] at he
   omega
  have hsp := spans_len xa.toNat (xn / 64)
  have e2 : ansK d ⟨5, xv, xt, xs, xa, xc, lx⟩ 1024 = (0, 0, []) := by
   have : ¬ (1024 : Int) < ((spans xa.toNat (xn / 64)).length : Int) := by omega
   simp [ansK, he, cntO, hxn]
   omega
  have e3 : didK d ⟨5, xv, xt, xs, xa, xc, lx⟩ 1024 = putK d xv (x.1, putL xa.toNat lx x.2 (spans xa.toNat (xn / 64))) := by
   have : (spans xa.toNat (xn / 64)).take (1024 : Int).toNat = spans xa.toNat (xn / 64) := List.take_of_length_le (by show _ ≤ 1024; omega)
   simp only [didK, volD, hv, dataO, cntO, hxn]
   simp
   rw [List.take_of_length_le (by omega)]
  rw [e2, e3]
  exact rpart_5 xv xt xs xa xc most xD xn xq lx hxn base R d w h hbase hl hn v0 t0 he W0 h0 hb0 hr hq hd.1 hd.2.1 hd.2.2 x hv ha.1 ha.2 hmost hfit
 ·obtain ⟨x, hv⟩ := errK_vol he (by simp) (by simp)
  simp only at hv
  have ha := hs.at_ (by simp)
  have hc := hs.cnt (by simp)
  simp only at ha hc
  have hfit : ¬ 4 * x.1 < xa + xc := fun hlt => by
   rw [errK, if_neg (by rw [hm]; simp)] at he
   simp [hv] at he
   omega
  have hsp := spans_len xa.toNat xc.toNat
  have e2 : ansK d ⟨6, xv, xt, xs, xa, xc, lx⟩ 1024 = (0, 0, []) := by
   simp [ansK, he, cntO]
   omega
  have e3 : didK d ⟨6, xv, xt, xs, xa, xc, lx⟩ 1024 = putK d xv (x.1, putL xa.toNat (List.replicate (64 * xc.toNat) 0) x.2 (spans xa.toNat xc.toNat)) := by
   simp only [didK, volD, hv, dataO, cntO]
   simp
   rw [List.take_of_length_le (by omega)]
  rw [e2, e3]
  exact rpart_6 xv xt xs xa xc most xD xn xq lx hxn base R d w h hbase hl hn v0 t0 he hc.1 hc.2 x hv ha.1 ha.2 hmost hfit
 ·obtain ⟨x, hv⟩ := errK_vol he (by simp) (by simp)
  simp only at hv
  have ha := hs.at_ (by simp)
  have hc := hs.cnt (by simp)
  simp only at ha hc
  have e2 : ansK d ⟨7, xv, xt, xs, xa, xc, lx⟩ 1024 = (0, 0, []) := by simp [ansK, he]
  have e3 : didK d ⟨7, xv, xt, xs, xa, xc, lx⟩ 1024 = putK d xv (x.1, x.2.filter fun p => decide (p.1 < xa ∨ xa + xc ≤ p.1)) := by simp [didK, volD, hv]
  rw [e2, e3]
  exact rpart_7 xv xt xs xa xc most xD xn xq lx hxn base R d w h hbase hl hn v0 t0 he x hv ha hc
 ·have e2 : ansK d ⟨8, xv, xt, xs, xa, xc, lx⟩ 1024 = (0, 0, []) := by simp [ansK, he]
  have e3 : didK d ⟨8, xv, xt, xs, xa, xc, lx⟩ 1024 = d := by simp [didK]
  rw [e2, e3]
  exact rpart_8 xv xt xs xa xc most xD xn xq lx hxn base R d w h hbase hl hn v0 t0 he
 ·exact absurd rfl hk9
theorem rdo_any (xk xv xt xs xa xc : Int) (xD : Option Addr) (xn xq : Nat) (hq : xn ≤ xq) (lx : Byt) (hxn : lx.length = xn) (base R : Nat) (d : Dev) (w W0 : World) (h0 : Gr W0 w) (hb0 : base = W0.heap.size) (h : RefAt base w R d) (hl : d.length ≤ 1000000) (hr : Row bv W0 xD lx) (hn : xn ≤ 1000000) (v0 : 0 ≤ xv) (t0 : 0 ≤ xt) (hk9 : xk ≠ 9) :
  Calls Tryz.prog 72 #[.pointer (some ⟨R, 0, none⟩), .agg #[.int .i64 xk, .int .u64 xv, .int .u64 xt, .int .i64 xs, .int .i64 xa, .int .i64 xc, .slice xD xn xq]] w
   (RPost base R (doK d ⟨xk, xv, xt, xs, xa, xc, lx⟩) (ansK d ⟨xk, xv, xt, xs, xa, xc, lx⟩ 1024).1 (ansK d ⟨xk, xv, xt, xs, xa, xc, lx⟩ 1024).2.1 (ansK d ⟨xk, xv, xt, xs, xa, xc, lx⟩ 1024).2.2 w) := by
 have HC := Lib.hid fun W (g : Gr w W) => rpart_any xk xv xt xs xa xc 1073741824 xD xn xq hq lx hxn base R d W W0 (h0.trans g) hb0 (h.gr g) hl hr hn v0 t0 (by decide) hk9
 generalize doK d ⟨xk, xv, xt, xs, xa, xc, lx⟩ = d' at *
 generalize ansK d ⟨xk, xv, xt, xs, xa, xc, lx⟩ 1024 = z at *
 obtain ⟨code, done, data⟩ := z
 have hbase : base ≤ w.heap.size := by rw [hb0]; exact h0.below.size
 simp only at HC ⊢
 clear h hr
 go_enter Tryz.func72, Tryz.ntmps72
 go_wp2_with (first
  | (go_at_call 98; ((with_reducible refine (HC.out _ gri).mono ?_); rintro _ W3 ⟨A3, n3, c3, rfl, ho3, hd3, hb3, hk3⟩; have bA3 := hk3.block (inferInstance : BlockAt _ (w.heap.size + 1) #[.int .i64 0, .int .i64 0, .slice none 0 0] 97) (by unfold refT; decide); have cA0 : W3.cell? ⟨w.heap.size + 1, 0, none⟩ = some (.int .i64 0) := (@block_cells _ _ 0 _ _ bA3).trans rfl; have cA1 : W3.cell? ⟨w.heap.size + 1, 1, none⟩ = some (.int .i64 0) := (@block_cells _ _ 1 _ _ bA3).trans rfl; have cA2 : W3.cell? ⟨w.heap.size + 1, 2, none⟩ = some (.slice none 0 0) := (@block_cells _ _ 2 _ _ bA3).trans rfl; have fA : ∀ o, W3.frozen? ⟨w.heap.size + 1, o, none⟩ = false := fun o => @block_frozen _ _ o _ _ bA3)))
 have gW : Gr w ((w.alloc (.cells #[.int .i64 xk, .int .u64 xv, .int .u64 xt, .int .i64 xs, .int .i64 xa, .int .i64 xc, .slice xD xn xq] 43)).alloc (.cells #[.int .i64 0, .int .i64 0, .slice none 0 0] 97)) := gri
 obtain ⟨v3, vf3, hd3⟩ := hd3
 have ho4 : OwnN bE w.heap.size W3 (.slice A3 n3 c3) data := ⟨ho3.ok, OwnsRow_mono ho3.own gW.below.size⟩
 have ho5 := ((ho4.set_ (w.heap.size + 1) 0 (.int .i64 code) (by decide)).set_ (w.heap.size + 1) 1 (.int .i64 done) (by decide)).set_ (w.heap.size + 1) 2 (.slice A3 n3 c3) (by decide)
 exact bodyPost_ret (run_resCell1 rfl _ _ _ _ rfl (ans_block bA3 _ _ _) Tryz.underlying97 rfl (by kernel_rfl)) rfl ⟨A3, n3, c3, rfl, ho5, ans_ref hd3 bA3 _ _ _, ans_below ((gW.below.mono hbase).trans hb3) (by omega) _ _ _, ans_rk ((RK.gr gW).trans hk3) (by omega) _ _ _⟩
set_option maxRecDepth 100000
set_option maxHeartbeats 4000000 in
theorem do_any (xk xv xt xs xa xc : Int) (xD : Option Addr) (xn xq : Nat) (hq : xn ≤ xq) (lx : Byt) (hxn : lx.length = xn) (base D : Nat) (d : Dev) (w : World) (h : DevAt base w D d) (hbase : base ≤ w.heap.size) (hr : Row bv w xD lx) (hn : xn ≤ 1000000) :
  Calls Tryz.prog 43 #[.pointer (some ⟨D, 0, none⟩), .agg #[.int .i64 xk, .int .u64 xv, .int .u64 xt, .int .i64 xs, .int .i64 xa, .int .i64 xc, .slice xD xn xq]] w
   (PartPost base D (doK d ⟨xk, xv, xt, xs, xa, xc, lx⟩) (ansK d ⟨xk, xv, xt, xs, xa, xc, lx⟩ 1024).1 (ansK d ⟨xk, xv, xt, xs, xa, xc, lx⟩ 1024).2.1 (ansK d ⟨xk, xv, xt, xs, xa, xc, lx⟩ 1024).2.2 w) := by
 have HC := Lib.hid fun W (g : Gr w W) => part_any xk xv xt xs xa xc 1024 xD xn xq hq lx hxn base D d W (h.gr g) (Nat.le_trans hbase g.below.size) (hr.gr g) hn
 unfold doK
 generalize partK d ⟨xk, xv, xt, xs, xa, xc, lx⟩ 1024 = d' at *
 generalize ansK d ⟨xk, xv, xt, xs, xa, xc, lx⟩ 1024 = z at *
 obtain ⟨code, done, data⟩ := z
 simp only at HC ⊢
 clear h hr
 go_enter Tryz.func43, Tryz.ntmps43
 go_wp2_with (first
  | (go_at_call 71; ((with_reducible refine (HC.out _ gri).mono ?_); rintro _ W3 ⟨A3, n3, c3, rfl, ho3, hd3, hb3, hk3⟩; have bA3 := hk3.block (inferInstance : BlockAt _ (w.heap.size + 1) #[.int .i64 0, .int .i64 0, .slice none 0 0] 97); have cA0 : W3.cell? ⟨w.heap.size + 1, 0, none⟩ = some (.int .i64 0) := (@block_cells _ _ 0 _ _ bA3).trans rfl; have cA1 : W3.cell? ⟨w.heap.size + 1, 1, none⟩ = some (.int .i64 0) := (@block_cells _ _ 1 _ _ bA3).trans rfl; have cA2 : W3.cell? ⟨w.heap.size + 1, 2, none⟩ = some (.slice none 0 0) := (@block_cells _ _ 2 _ _ bA3).trans rfl; have fA : ∀ o, W3.frozen? ⟨w.heap.size + 1, o, none⟩ = false := fun o => @block_frozen _ _ o _ _ bA3)))
 have gW : Gr w ((w.alloc (.cells #[.int .i64 xk, .int .u64 xv, .int .u64 xt, .int .i64 xs, .int .i64 xa, .int .i64 xc, .slice xD xn xq] 43)).alloc (.cells #[.int .i64 0, .int .i64 0, .slice none 0 0] 97)) := gri
 obtain ⟨M3, mb3, hd3⟩ := hd3
 have ho4 : OwnN bE w.heap.size W3 (.slice A3 n3 c3) data := ⟨ho3.ok, OwnsRow_mono ho3.own gW.below.size⟩
 have ho5 := ((ho4.set_ (w.heap.size + 1) 0 (.int .i64 code) (by decide)).set_ (w.heap.size + 1) 1 (.int .i64 done) (by decide)).set_ (w.heap.size + 1) 2 (.slice A3 n3 c3) (by decide)
 exact bodyPost_ret (run_resCell1 rfl _ _ _ _ rfl (ans_block bA3 _ _ _) Tryz.underlying97 rfl (by kernel_rfl)) rfl ⟨A3, n3, c3, rfl, ho5, ans_dev hd3 bA3 (by decide) _ _ _, ans_below ((gW.below.mono hbase).trans hb3) (by omega) _ _ _, ck_ans ((CK.gr gW).trans hk3) (by omega) _ _ _⟩
set_option maxRecDepth 100000
set_option maxHeartbeats 4000000
structure OpC where
 o : OpM
 D : Option Addr
 n : Nat
 q : Nat
def opE : EK OpC := ⟨fun x => [.int .i64 x.o.k, .int .u64 x.o.v, .int .u64 x.o.t, .int .i64 x.o.s, .int .i64 x.o.a, .int .i64 x.o.c, .slice x.D x.n x.q], 7, 43, 31, 72, .agg #[.int .i64 0, .int .u64 0, .int .u64 0, .int .i64 0, .int .i64 0, .int .i64 0, .slice none 0 0], fun _ => True⟩
theorem opIs : opE.Is where
 len := fun _ _ => rfl
 one := fun x _ v hv => by
  simp only [opE, List.mem_cons, List.mem_nil_iff, or_false] at hv
  rcases hv with rfl | rfl | rfl | rfl | rfl | rfl | rfl <;> rfl
 pos := by decide
 hT := Tryz.underlying31
 hE := by kernel_rfl
 hz := rfl
 hb := by decide
structure OpOk (W : World) (x : OpC) : Prop where
 len : x.o.l.length = x.n
 cap : x.n ≤ x.q
 small : x.n ≤ 1000000
 row : Row bv W x.D x.o.l
 v0 : 0 ≤ x.o.v
 t0 : 0 ≤ x.o.t
 k9 : x.o.k ≠ 9
theorem OpOk.gr {W W' : World} {x : OpC} (h : OpOk W x) (g : Gr W W') : OpOk W' x := ⟨h.len, h.cap, h.small, h.row.gr g, h.v0, h.t0, h.k9⟩
theorem putK_len2 {β : Type} (m : List (Int × β)) (n : Int) (B : β) : (putK m n B).length ≤ m.length + 1 := by
 induction m with
 | nil => simp [putK]
 | cons p r ih =>
  obtain ⟨a, x⟩ := p
  unfold putK
  split
  ·simp
  split
  ·simp
  ·simp; exact ih
theorem doK_len (d : Dev) (o : OpM) : (doK d o).length ≤ d.length + 1 := by
 unfold doK partK
 split
 ·unfold didK
  repeat' split
  all_goals first | exact putK_len2 _ _ _ | (exact Nat.le_trans (List.length_filter_le _ _) (Nat.le_succ _)) | omega
 ·omega
theorem devOf_snoc (l : List OpM) (o : OpM) : devOf (l ++ [o]) = doK (devOf l) o := by simp [devOf]
theorem foldK_len : ∀ (l : List OpM) (d : Dev), (l.foldl doK d).length ≤ d.length + l.length
 | [], d => by simp
 | o :: l, d => by
  have h1 := foldK_len l (doK d o)
  have h2 := doK_len d o
  simp only [List.foldl_cons, List.length_cons]
  omega
theorem devOf_len (l : List OpM) : (devOf l).length ≤ l.length := by
 have := foldK_len l []
 simpa [devOf] using this
theorem devOf_take (l : List OpC) (k : Nat) (x : OpC) (h : l[k]? = some x) : devOf ((l.take (k + 1)).map (·.o)) = doK (devOf ((l.take k).map (·.o))) x.o := by
 rw [List.take_add_one, h, List.map_append]
 exact devOf_snoc _ _
theorem opCells {W : World} {b p : Nat} {l : List OpC} {k : Nat} {x : OpC} (h : CellsN opE W b p l) (hx : l[k]? = some x) :
  W.cell? ⟨b, p + k * 7, none⟩ = some (.int .i64 x.o.k) ∧ W.cell? ⟨b, p + k * 7 + 1, none⟩ = some (.int .u64 x.o.v) ∧ W.cell? ⟨b, p + k * 7 + 2, none⟩ = some (.int .u64 x.o.t) ∧ W.cell? ⟨b, p + k * 7 + 3, none⟩ = some (.int .i64 x.o.s) ∧ W.cell? ⟨b, p + k * 7 + 4, none⟩ = some (.int .i64 x.o.a) ∧ W.cell? ⟨b, p + k * 7 + 5, none⟩ = some (.int .i64 x.o.c) ∧ W.cell? ⟨b, p + k * 7 + 6, none⟩ = some (.slice x.D x.n x.q) :=
 ⟨h k x hx 0 _ rfl, h k x hx 1 _ rfl, h k x hx 2 _ rfl, h k x hx 3 _ rfl, h k x hx 4 _ rfl, h k x hx 5 _ rfl, h k x hx 6 _ rfl⟩
theorem refAt_new (W : World) (B : Nat) (base : Nat) (h : BlockAt W B #[.slice none 0 0] 67) (hb : base ≤ B) : RefAt base W B [] :=
 ⟨.slice none 0 0, fun _ => .slice none 0 0, h, OwnN.nil _ _, by simp, hb, ⟨List.Pairwise.nil, by simp, by simp⟩⟩
theorem rdevice_any (l : List OpC) (n : Nat) (hn : l.length = n) (hn9 : n ≤ 100000) (A : Option Addr) (c : Nat) (w : World) (hr : RowN opE w A l) (hok : ∀ x ∈ l, OpOk w x) :
  Calls Tryz.prog 46 #[.slice A n c] w fun e w' => ∃ R, e = .returned (.pointer (some ⟨R, 0, none⟩)) ∧ RefAt w.heap.size w' R (devOf (l.map (·.o))) ∧ Gr w w' := by
 have HR := Lib.hid hr
 have HOK := Lib.hid hok
 have HN := Lib.hid hn
 clear hr hok hn
 go_enter Tryz.func46, Tryz.ntmps46
 go_wp2
 go_loopw [4] (fun i wr => ∃ k : Nat, k ≤ n ∧ i = .int .i64 (k : Int) ∧ RefAt w.heap.size wr w.heap.size (devOf ((l.take k).map (·.o))) ∧ Gr w wr) (fun i _ => n - (intOf i).toNat)
 case atStart => exact ⟨0, Nat.zero_le _, rfl, refAt_new _ _ _ inferInstance (Nat.le_refl _), gri⟩
 case round =>
  obtain ⟨k, hk, rfl, hd, hg⟩ := hrel
  haveI := grc_of hg
  haveI := from_of hg
  have HD := Lib.hid hd
  have HG := Lib.hid hg
  clear hd hg
  by_cases hlt : k < n
  ·obtain ⟨x, hx⟩ : ∃ x, l[k]? = some x := ⟨_, List.getElem?_eq_getElem (by rw [HN.out]; exact hlt)⟩
   obtain ⟨b, p, rfl, hb, hcl⟩ := HR.out.at_ (by rintro rfl; have := HN.out; simp at this; omega)
   obtain ⟨c0, c1, c2, c3, c4, c5, c6⟩ := opCells hcl hx
   have hcell : ∀ (j : Nat) v, w.cell? ⟨b, j, none⟩ = some v → wr.cell? ⟨b, j, none⟩ = some v := fun j v h => (HG.out.below.cell (p := ⟨b, j, none⟩) hb).trans h
   have d0 := hcell _ _ c0
   have d1 := hcell _ _ c1
   have d2 := hcell _ _ c2
   have d3 := hcell _ _ c3
   have d4 := hcell _ _ c4
   have d5 := hcell _ _ c5
   have d6 := hcell _ _ c6
   haveI : Old b wr := old_of_cell d0
   have ho := HOK.out x (List.mem_of_getElem? hx)
   have hdl : (devOf ((l.take k).map (·.o))).length ≤ 1000000 := by have h1 := devOf_len ((l.take k).map (·.o)); have h2 := List.length_take_le k l; rw [List.length_map] at h1; omega
   have HDo := Lib.hid (fun W (hW : Gr wr W) => rdo_any x.o.k x.o.v x.o.t x.o.s x.o.a x.o.c x.D x.n x.q ho.cap x.o.l ho.len w.heap.size w.heap.size (devOf ((l.take k).map (·.o))) W w (HG.out.trans hW) rfl (HD.out.gr hW) hdl ho.row ho.small ho.v0 ho.t0 ho.k9)
   have HT := Lib.hid (devOf_take l k x hx)
   clear hcell c0 c1 c2 c3 c4 c5 c6 hcl hx ho hdl
   obtain ⟨⟨ok, ov, ot, os, oa, oc, ol⟩, oD, on, oq⟩ := x
   simp only at *
   go_wp2_with (first | (go_at_call 72; ((with_reducible refine (HDo.out _ gri).mono ?_); rintro _ W3 ⟨A3, n3, c3, rfl, ho3, hd3, hb3, hk3⟩)))
   go_roundw
   case rel => exact ⟨k + 1, hlt, by go_num, by rw [HT.out]; exact hd3, Gr.of ((show Gr w _ from gri).below.trans hb3)⟩
   case measure => simp [intOf]; omega
  ·have : k = n := by omega
   subst this
   have e : l.take k = l := List.take_of_length_le (by rw [HN.out]; omega)
   have HE := Lib.hid e
   clear e
   go_wp2
   go_ret
   exact ⟨_, rfl, by have := HD.out; rw [HE.out] at this; exact this, HG.out⟩
theorem made_any (l : List OpC) (n : Nat) (hn : l.length = n) (hn9 : n ≤ 100000) (A : Option Addr) (c : Nat) (w : World) (hr : RowN opE w A l) (hok : ∀ x ∈ l, OpOk w x) :
  Calls Tryz.prog 15 #[.slice A n c] w fun e w' => ∃ D R, e = .returned (.tuple #[.pointer (some ⟨D, 0, none⟩), .pointer (some ⟨R, 0, none⟩)]) ∧ DevAt w.heap.size w' D (devOf (l.map (·.o))) ∧ (∃ base, RefAt base w' R (devOf (l.map (·.o)))) ∧ Gr w w' := by
 have HR := Lib.hid hr
 have HOK := Lib.hid hok
 have HN := Lib.hid hn
 have HDv := Lib.hid (fun W (hW : Gr w W) => rdevice_any l n hn hn9 A c W (hr.gr hW) (fun x hx => (hok x hx).gr hW))
 clear hr hok hn
 go_enter Tryz.func15, Tryz.ntmps15
 go_wp2_with (first | (go_at_call 11; ((with_reducible refine (new_any _).mono ?_); rintro _ W2 ⟨D2, rfl, hd2, hg2⟩)))
 go_loopw [5] (fun i wr => ∃ k : Nat, k ≤ n ∧ i = .int .i64 (k : Int) ∧ DevAt w.heap.size wr D2 (devOf ((l.take k).map (·.o))) ∧ Gr w wr) (fun i _ => n - (intOf i).toNat)
 case atStart => exact ⟨0, Nat.zero_le _, rfl, hd2, hg2⟩
 case round =>
  obtain ⟨k, hk, rfl, hd, hg⟩ := hrel
  haveI := grc_of hg
  haveI := from_of hg
  have HD := Lib.hid hd
  have HG := Lib.hid hg
  clear hd hg hd2 hg2
  by_cases hlt : k < n
  ·obtain ⟨x, hx⟩ : ∃ x, l[k]? = some x := ⟨_, List.getElem?_eq_getElem (by rw [HN.out]; exact hlt)⟩
   obtain ⟨b, p, rfl, hb, hcl⟩ := HR.out.at_ (by rintro rfl; have := HN.out; simp at this; omega)
   obtain ⟨c0, c1, c2, c3, c4, c5, c6⟩ := opCells hcl hx
   have hcell : ∀ (j : Nat) v, w.cell? ⟨b, j, none⟩ = some v → wr.cell? ⟨b, j, none⟩ = some v := fun j v h => (HG.out.below.cell (p := ⟨b, j, none⟩) hb).trans h
   have d0 := hcell _ _ c0
   have d1 := hcell _ _ c1
   have d2 := hcell _ _ c2
   have d3 := hcell _ _ c3
   have d4 := hcell _ _ c4
   have d5 := hcell _ _ c5
   have d6 := hcell _ _ c6
   haveI : Old b wr := old_of_cell d0
   have ho := HOK.out x (List.mem_of_getElem? hx)
   have HDo := Lib.hid (fun W (hW : Gr wr W) => do_any x.o.k x.o.v x.o.t x.o.s x.o.a x.o.c x.D x.n x.q ho.cap x.o.l ho.len w.heap.size D2 (devOf ((l.take k).map (·.o))) W (HD.out.gr hW) (HG.out.trans hW).below.size (ho.row.gr (HG.out.trans hW)) ho.small)
   have HT := Lib.hid (devOf_take l k x hx)
   clear hcell c0 c1 c2 c3 c4 c5 c6 hcl hx ho
   obtain ⟨⟨ok, ov, ot, os, oa, oc, ol⟩, oD, on, oq⟩ := x
   simp only at *
   go_wp2_with (first | (go_at_call 43; ((with_reducible refine (HDo.out _ gri).mono ?_); rintro _ W3 ⟨A3, n3, c3, rfl, ho3, hd3, hb3, hk3⟩)))
   go_roundw
   case rel => exact ⟨k + 1, hlt, by go_num, by rw [HT.out]; exact hd3, Gr.of ((show Gr w _ from gri).below.trans hb3)⟩
   case measure => simp [intOf]; omega
  ·have : k = n := by omega
   subst this
   have e : l.take k = l := List.take_of_length_le (by rw [HN.out]; omega)
   have HE := Lib.hid e
   clear e
   go_wp2_with (first | (go_at_call 46; ((with_reducible refine (HDv.out _ gri).mono ?_); rintro _ W3 ⟨R, rfl, hr3, hg3⟩)))
   go_ret2
   exact ⟨_, _, rfl, by have := HD.out.gr (Gr.trans gri hg3); rw [HE.out] at this; exact this, ⟨_, hr3⟩, Gr.trans gri hg3⟩
def i64E : EK Int := ⟨fun x => [.int .i64 x], 1, 3, 34, 8, .int .i64 0, fun _ => True⟩
theorem i64Is : i64E.Is where
 len := fun _ _ => rfl
 one := fun x _ v hv => by
  simp only [i64E, List.mem_cons, List.mem_nil_iff, or_false] at hv
  subst hv; rfl
 pos := by decide
 hT := Tryz.underlying34
 hE := by kernel_rfl
 hz := rfl
 hb := by decide
def u64v (n : Int) : Value := .int .u64 n
theorem not_nodup {l : List Int} {j k : Nat} {y : Int} (hjk : j < k) (hj : l[j]? = some y) (hk : l[k]? = some y) : ¬ l.Nodup := by
 intro h
 obtain ⟨h1, e1⟩ := List.getElem?_eq_some_iff.1 hj
 obtain ⟨h2, e2⟩ := List.getElem?_eq_some_iff.1 hk
 exact List.pairwise_iff_getElem.1 h j k h1 h2 hjk (e1.trans e2.symm)
theorem take_one {l : List Int} {k : Nat} {x : Int} (hk : l[k]? = some x) : l.take (k + 1) = l.take k ++ [x] := by rw [List.take_add_one, hk]; rfl
theorem notin_snoc {l : List Int} {j : Nat} {x y : Int} (h : x ∉ l.take j) (hj : l[j]? = some y) (hne : ¬ y = x) : x ∉ l.take (j + 1) := by
 rw [take_one hj]
 simp only [List.mem_append, List.mem_singleton, not_or]
 exact ⟨h, fun e => hne e.symm⟩
theorem nodup_snoc {l : List Int} {k : Nat} {x : Int} (h : (l.take k).Nodup) (hn : x ∉ l.take k) (hk : l[k]? = some x) : (l.take (k + 1)).Nodup := by
 rw [take_one hk, List.nodup_append]
 exact ⟨h, by simp, fun a ha b hb => by rw [List.mem_singleton] at hb; subst hb; rintro rfl; exact hn ha⟩
theorem chkK_dup {d : Dev} {l : List Int} (h : ¬ l.Nodup) : chkK d l = 2 := by rw [chkK, if_neg h]
theorem chkK_miss {d : Dev} {l : List Int} {k : Nat} {x : Int} (h : l.Nodup) (hk : l[k]? = some x) (hx : (getK d x).isSome = false) : chkK d l = 6 := by
 rw [chkK, if_pos h, if_neg]
 intro ha
 have := List.all_eq_true.1 ha x (List.mem_of_getElem? hk)
 rw [hx] at this; cases this
theorem chkK_ok {d : Dev} {l : List Int} (h : l.Nodup) (hx : ∀ x ∈ l, (getK d x).isSome = true) : chkK d l = 0 := by
 rw [chkK, if_pos h, if_pos (List.all_eq_true.2 hx)]
def SzPost (base : Nat) (d : Dev) (l : List Int) (w : World) (e : Ending) (w' : World) : Prop :=
 ∃ v, e = .returned (.tuple #[v, .int .i64 (chkK d l)]) ∧ (if chkK d l = 0 then OwnN i64E w.heap.size w' v (l.map (sizeK d)) else v = .slice none 0 0) ∧ Gr w w'
theorem sizes_nil (A : Option Addr) (n c : Nat) (w : World) : Calls Tryz.prog 25 #[.pointer none, .slice A n c] w fun e w' => e = .returned (.tuple #[.slice none 0 0, .int .i64 1]) ∧ Gr w w' := by
 go_enter Tryz.func25, Tryz.ntmps25
 go_wp2
 go_ret2
 exact ⟨rfl, gri⟩
set_option maxRecDepth 100000 in
set_option maxHeartbeats 2000000 in
theorem sizes_any (base D : Nat) (d : Dev) (l : List Int) (b p n c : Nat) (w : World) (h : DevAt base w D d) (hl : l.length = n) (hn : n ≤ 1000) (hb : b < w.heap.size) (hnc : n ≤ c) (hc : ∀ (j : Nat) x, l[j]? = some x → w.cell? ⟨b, p + j, none⟩ = some (.int .u64 x)) :
  Calls Tryz.prog 25 #[.pointer (some ⟨D, 0, none⟩), .slice (some ⟨b, p, none⟩) n c] w (SzPost base d l w) := by
 have HL := Lib.hid hl
 have HC := Lib.hid hc
 have HD := Lib.hid h
 haveI : Old b w := ⟨hb⟩
 clear hl hc h
 go_enter Tryz.func25, Tryz.ntmps25
 go_wp2
 go_loopw [19] (fun i wr => ∃ k : Nat, k ≤ n ∧ i = .int .i64 k ∧ (l.take k).Nodup ∧ Gr w wr) (fun i _ => n - (intOf i).toNat)
 case atStart => exact ⟨0, Nat.zero_le _, rfl, List.nodup_nil, Gr.refl _⟩
 case round =>
  obtain ⟨k, hk, rfl, hnd, hg⟩ := hrel
  obtain ⟨wo, hwo⟩ : ∃ wo : World, wo = wr := ⟨_, rfl⟩
  obtain ⟨g, rfl⟩ := hg
  have HN := Lib.hid hnd; clear hnd
  by_cases hlt : k < n
  ·obtain ⟨x, hx⟩ : ∃ x, l[k]? = some x := ⟨_, List.getElem?_eq_getElem (by rw [HL.out]; exact hlt)⟩
   have c1 := HC.out k x hx
   have HX := Lib.hid hx; clear hx
   go_wp2
   go_loopw [28] (fun i wr => ∃ j : Nat, j ≤ k ∧ i = .int .i64 j ∧ (x ∉ l.take j) ∧ wr = grown w g) (fun i _ => k - (intOf i).toNat)
   case atStart => exact ⟨0, Nat.zero_le _, rfl, by simp, rfl⟩
   case round =>
    obtain ⟨j, hj, rfl, hnx, rfl⟩ := hrel
    have HNX := Lib.hid hnx; clear hnx
    by_cases hlt2 : j < k
    ·obtain ⟨y, hy⟩ : ∃ y, l[j]? = some y := ⟨_, List.getElem?_eq_getElem (by rw [HL.out]; omega)⟩
     have c2 := HC.out j y hy
     have HY := Lib.hid hy; clear hy
     by_cases hq : y = x
     ·subst hq
      have hd := not_nodup hlt2 HY.out HX.out
      have HDU := Lib.hid (chkK_dup (d := d) hd)
      clear c1 hd
      go_wp2
      go_ret2
      exact ⟨_, by rw [HDU.out]; rfl, by rw [HDU.out]; exact rfl, gri⟩
     ·have hb : (y == x) = false := by simpa using hq
      have HQ := Lib.hid hq; clear hq
      go_wp2
      go_roundw
      case rel => exact ⟨j + 1, by omega, by go_num, notin_snoc HNX.out HY.out HQ.out, trivial⟩
      case measure => simp [intOf]; omega
    ·have : j = k := by omega
     subst this
     go_wp2
     go_roundw
     case rel => exact ⟨j + 1, by omega, by go_num, nodup_snoc HN.out HNX.out HX.out, gri⟩
     case measure => simp [intOf]; omega
  ·have : k = n := by omega
   subst this
   have hnd : l.Nodup := by have := HN.out; rwa [List.take_of_length_le (by rw [HL.out]; omega)] at this
   have HND := Lib.hid hnd; clear hnd
   go_wp2
   go_loopw [6, 39] (fun v i wr => ∃ j : Nat, j ≤ k ∧ i = .int .i64 j ∧ (∀ x ∈ l.take j, (getK d x).isSome = true) ∧ OwnN i64E w.heap.size wr v ((l.take j).map (sizeK d)) ∧ Gr w wr) (fun _ i _ => k - (intOf i).toNat)
   case atStart => exact ⟨0, Nat.zero_le _, rfl, by simp, OwnN.nil _ _, gri⟩
   case round =>
    obtain ⟨j, hj, rfl, hal, hown, hg⟩ := hrel
    haveI := grc_of hg
    haveI := from_of hg
    have HA := Lib.hid hal
    have HO := Lib.hid hown
    have HG := Lib.hid hg
    clear hal hown hg
    by_cases hlt : j < k
    ·obtain ⟨x, hx⟩ : ∃ x, l[j]? = some x := ⟨_, List.getElem?_eq_getElem (by rw [HL.out]; exact hlt)⟩
     have c1 : wr.cell? ⟨b, p + j, none⟩ = some (.int .u64 x) := (HG.out.below.cell (p := ⟨b, p + j, none⟩) hb).trans (HC.out j x hx)
     have HX := Lib.hid hx; clear hx
     haveI : Old b wr := ⟨Nat.lt_of_lt_of_le hb HG.out.below.size⟩
     cases hs : (getK d x).isSome
     ·have HM := Lib.hid (chkK_miss HND.out HX.out hs); 
      go_wp2_with ((go_at_call 60; ((with_reducible refine (size_any base D d x _ (HD.out.gr gri)).mono ?_); rintro _ _ ⟨rfl, g1, rfl⟩)))
      go_ret2
      exact ⟨_, by rw [HM.out]; rfl, by rw [HM.out]; exact rfl, gri⟩
     ·have HS := Lib.hid hs; 
      go_wp2_with (first | (go_at_call 60; ((with_reducible refine (size_any base D d x _ (HD.out.gr gri)).mono ?_); rintro _ _ ⟨rfl, g1, rfl⟩)) | (at_builtin; refine wp_append_n i64Is rfl _ _ rfl rfl (HO.out.gr gri) _ 0 [sizeK d x] 1 1 rfl rfl (fun _ _ => trivial) (CellsN.block _ inferInstance rfl) (by simp; omega) past (by simp) ?_; intro v1 W1 h1; have H1 := Lib.hid h1; clear h1))
      go_roundw
      case rel => exact ⟨j + 1, by omega, by go_num, by
       intro z hz
       rw [take_one HX.out] at hz
       rcases List.mem_append.1 hz with hz | hz
       ·exact HA.out z hz
       ·rw [List.mem_singleton] at hz; subst hz; exact HS.out, by rw [take_one HX.out, List.map_append]; exact H1.out.own, by haveI := H1.out.grc w (Nat.le_refl _); exact gri⟩
      case measure => simp [intOf]; omega
    ·have : j = k := by omega
     subst this
     have e : l.take j = l := List.take_of_length_le (by rw [HL.out]; omega)
     have HZ := Lib.hid (chkK_ok HND.out (fun x hx => HA.out x (by rw [e]; exact hx)))
     have HE := Lib.hid e; clear e
     go_wp2
     go_ret2
     exact ⟨_, by rw [HZ.out]; rfl, by rw [HZ.out, if_pos rfl]; have := HO.out; rw [HE.out] at this; exact this, gri⟩
theorem i64_cells {base : Nat} {W : World} {v : Value} {xs : List Int} (h : OwnN i64E base W v xs) (hne : xs ≠ []) : ∃ g c, v = .slice (some ⟨g, 0, none⟩) xs.length c ∧ base ≤ g ∧ g < W.heap.size ∧ xs.length ≤ c ∧ (∀ (j : Nat) x, xs[j]? = some x → W.cell? ⟨g, j, none⟩ = some (.int .i64 x)) := by
 obtain ⟨g, c, hv, hb, hg, hc, _, hcl, _⟩ := h.cells i64Is hne
 refine ⟨g, c, hv, hb, hg, hc, fun j x hx => ?_⟩
 have := hcl j x hx 0 _ rfl
 rw [Nat.zero_add] at this
 have e : j * i64E.k + 0 = j := Nat.mul_one j
 rw [e] at this
 exact this
theorem sizeK_le {d : Dev} (h : DevOk d) (v : Int) : 0 ≤ sizeK d v ∧ sizeK d v ≤ 256 := by
 unfold sizeK
 cases hv : getK d v with
 | none => exact ⟨by simp, by simp⟩
 | some x => have h1 := h.vols _ ((getK_mem h.sort).1 hv); exact ⟨h1.s0, h1.s1⟩
theorem rows1_any (base D P1 P2 P3 : Nat) (d : Dev) (l r : Int) (b : Nat) (w : World) (h : DevAt base w D d) [h1 : BlockAt w P1 #[.pointer (some ⟨D, 0, none⟩)] 22] [h2 : BlockAt w P2 #[.int .u64 l] 28] [h3 : BlockAt w P3 #[.int .u64 r] 28] :
  Calls Tryz.prog 27 #[.int .i64 b, .pointer (some ⟨P1, 0, none⟩), .pointer (some ⟨P2, 0, none⟩), .pointer (some ⟨P3, 0, none⟩)] w fun e w' => e = .returned (.int .i64 (kindK d l r b)) ∧ Gr w w' := by
 have x1 : w.cell? ⟨P1, 0, none⟩ = some (.pointer (some ⟨D, 0, none⟩)) := (@block_cells _ _ 0 _ _ h1).trans rfl
 have x2 : w.cell? ⟨P2, 0, none⟩ = some (.int .u64 l) := (@block_cells _ _ 0 _ _ h2).trans rfl
 have x3 : w.cell? ⟨P3, 0, none⟩ = some (.int .u64 r) := (@block_cells _ _ 0 _ _ h3).trans rfl
 haveI := h1.old
 haveI := h2.old
 haveI := h3.old
 have HD := Lib.hid h
 clear h
 go_enter Tryz.func27, Tryz.ntmps27
 go_wp2_with ((go_at_call 28; ((with_reducible refine (kind_any base D d l r b _ (HD.out.gr gri)).mono ?_); rintro _ _ ⟨rfl, g1, rfl⟩)))
 go_ret
 exact ⟨rfl, gri⟩
theorem rowB {W : World} {B : Nat} {t : TypeId} {cs : Array Value} (xs : List Int) (h : BlockAt W B cs t) (hc : cs.toList = xs.map u64v) : ∀ (j : Nat) x, xs[j]? = some x → W.cell? ⟨B, 0 + j, none⟩ = some (.int .u64 x) := by
 intro j x hx
 rw [Nat.zero_add, @block_cells W B j cs t h, ← Array.getElem?_toList, hc, List.getElem?_map, hx]
 rfl
def RwPost (d : Dev) (l r : Int) (w : World) (e : Ending) (w' : World) : Prop :=
 ∃ v, e = .returned (.tuple #[v, .int .i64 (chkK d [l, r])]) ∧ OwnN strE w.heap.size w' v (rowsK d l r) ∧ Gr w w'
set_option maxRecDepth 100000 in
set_option maxHeartbeats 2000000 in
theorem rows_any (base D : Nat) (d : Dev) (l r : Int) (w : World) (h : DevAt base w D d) : Calls Tryz.prog 6 #[.pointer (some ⟨D, 0, none⟩), .int .u64 l, .int .u64 r] w (RwPost d l r w) := by
 have HD := Lib.hid h
 have hok : DevOk d := by obtain ⟨M, mb, h⟩ := h; exact h.ok
 clear h
 go_enter Tryz.func6, Tryz.ntmps6
 go_wp2_with (first | (go_at_call 25; ((with_reducible refine (sizes_any base D d [l, r] _ 0 2 2 _ (HD.out.gr gri) rfl (by omega) (BlockAt.lt inferInstance) (by omega) (rowB [l, r] (cs := #[.int .u64 l, .int .u64 r]) inferInstance rfl)).mono ?_))))
 rintro _ W1 ⟨v1, rfl, hv1, ⟨g1, rfl⟩⟩
 by_cases hc : chkK d [l, r] = 0
 ·rw [if_pos hc] at hv1
  rw [hc]
  obtain ⟨g, c, rfl, hbg, hgl, hcc, hcl⟩ := i64_cells hv1 (by simp)
  have c0 := hcl 0 _ rfl
  have c1 := hcl 1 _ rfl
  haveI : Old g _ := ⟨hgl⟩
  have s1 := sizeK_le hok l
  have s2 := sizeK_le hok r
  obtain ⟨a, ha⟩ : ∃ a : Nat, sizeK d l = a := ⟨(sizeK d l).toNat, by omega⟩
  obtain ⟨b, hb⟩ : ∃ b : Nat, sizeK d r = b := ⟨(sizeK d r).toNat, by omega⟩
  have hR : rowsK d l r = strK (fun b => kindK d l r b) (max a b) := by
   unfold rowsK maxK
   rw [if_pos hc, ha, hb]
   simp
  rw [ha] at c0 s1
  rw [hb] at c1 s2
  have HR := Lib.hid hR
  have HC := Lib.hid hc
  have HB : max a b ≤ 100000 := by omega
  have hmax : (if a < b then (b : Int) else (a : Int)) = ((max a b : Nat) : Int) := by split <;> omega
  have HM := Lib.hid hmax
  clear hv1 hcl hc hok ha hb hR hmax s1 s2
  generalize hW2 : grown _ g1 = W2 at *
  haveI i1 : BlockAt W2 w.heap.size #[.pointer (some ⟨D, 0, none⟩)] 22 := by rw [← hW2]; infer_instance
  haveI i2 : BlockAt W2 (w.heap.size + 1) #[.int .u64 l] 28 := by rw [← hW2]; infer_instance
  haveI i3 : BlockAt W2 (w.heap.size + 1 + 1) #[.int .u64 r] 28 := by rw [← hW2]; infer_instance
  haveI i4 : GrC w W2 := by rw [← hW2]; infer_instance
  haveI i5 : From w W2 := by rw [← hW2]; infer_instance
  clear hW2
  go_wp2
  refine wp_region_grow_tail 8 (by kernel_rfl) (by kernel_rfl) ?_
  simp only [List.take_succ_cons, List.take_zero, List.drop_succ_cons, List.drop_zero]
  repeat (go_big_quiet_step (fail))
  refine wpQuiet_nil ?_
  intro g2
  rw [HM.out]
  go_wp2_with ((go_at_call 26; ((with_reducible refine (stretches_any (fun b => kindK d l r b) (max a b) HB _ _ _ _ ?_).mono ?_))))
  ·intro W hW b hb
   haveI := i1.gr (Gr.trans gri hW)
   haveI := i2.gr (Gr.trans gri hW)
   haveI := i3.gr (Gr.trans gri hW)
   exact rows1_any base D _ _ _ d l r b W (HD.out.gr (Gr.trans gri hW))
  ·rintro _ W3 ⟨v3, rfl, hv3, g3⟩
   haveI i6 := grc_of g3
   have HV := Lib.hid hv3
   have HG := Lib.hid g3
   clear hv3 g3
   go_wp2
   go_ret2
   exact ⟨_, by rw [HC.out]; rfl, by rw [HR.out]; exact HV.out.more (by exact (inferInstance : From w (grown W2 g2)).le), Gr.trans gri HG.out⟩
 ·rw [if_neg hc] at hv1
  subst hv1
  have hne : (chkK d [l, r] != 0) = true := by simpa using hc
  have hR : rowsK d l r = [] := by rw [rowsK, if_neg hc]
  have HR := Lib.hid hR
  clear hc hR hok
  go_wp2
  go_ret2
  exact ⟨_, rfl, by rw [HR.out]; exact OwnN.nil _ _, gri⟩
theorem rows_nil (l r : Int) (w : World) : Calls Tryz.prog 6 #[.pointer none, .int .u64 l, .int .u64 r] w fun e w' => e = .returned (.tuple #[.slice none 0 0, .int .i64 1]) ∧ Gr w w' := by
 go_enter Tryz.func6, Tryz.ntmps6
 go_wp2_with ((go_at_call 25; ((with_reducible refine (sizes_nil _ _ _ _).mono ?_); rintro _ _ ⟨rfl, g1, rfl⟩)))
 go_ret2
 exact ⟨rfl, gri⟩
end Go.Proofs.YtipeblmgochdfaaGreat
