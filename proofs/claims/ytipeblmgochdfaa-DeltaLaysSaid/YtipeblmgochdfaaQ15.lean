/- Device.Copy. Conditions: the device stands in memory. delta.Apply. Conditions: the device and the operations stand in memory. Plain: what the operations that made makes do to a device. Conditions: none. A row of bytes as a string; the reference's Same. Conditions: what is read stands in memory. The law's sameOps. Conditions: the operations and their data stand in memory. delta.Lay and the reference's, by one contract; what Apply makes of it, plainly. Conditions: the device stands in memory. Operations that came in as an argument, opened. Conditions: none. The reference of layer 29: SameInts. Conditions: the rows stand in memory. The laws' block; the reference's Same of stretches; the chapter's row. Conditions: what is read stands in memory. The chapter's row: known. Conditions: none. -/
import Derived.Test.YtipeblmgochdfaaQ07
import Derived.Test.YtipeblmgochdfaaQ09
import Derived.Test.YtipeblmgochdfaaQ08
import Derived.Test.YtipeblmgochdfaaQ12
import Derived.Test.YtipeblmgochdfaaQ13
import Derived.Test.YtipeblmgochdfaaQ14
import Derived.Test.YtipeblmgochdfaaQ01
import Derived.Laws.BytesArg
import Derived.ChangeSlices
namespace Go.Proofs.Ytipeblmgochdfaa
open Go.RowKit
set_option linter.unusedVariables false
set_option linter.unusedSimpArgs false
set_option linter.unnecessarySimpa false
set_option maxRecDepth 100000
set_option maxHeartbeats 4000000 in
theorem copy_any (base D : Nat) (d : Dev) (w : World) (h : DevAt base w D d) : Calls Try.prog 34 #[.pointer (some ⟨D, 0, none⟩)] w fun e w' => ∃ D2, e = .returned (.pointer (some ⟨D2, 0, none⟩)) ∧ DevAt w.heap.size w' D2 d ∧ Gr w w' := by
 obtain ⟨M, mb, h⟩ := h
 haveI := h.blk
 have x0 : w.cell? ⟨D, 0, none⟩ = some (.map (some M)) := (@block_cells _ _ 0 _ _ h.blk).trans rfl
 haveI : Old D w := h.blk.old
 have HD := Lib.hid h
 have HT := Lib.hid (fun W (hW : Gr w W) => there_yes D M W (HD.out.blk.gr hW))
 clear h
 go_enter Try.func34, Try.ntmps34
 go_wp2_with (first | (go_at_call 35; ((with_reducible refine (HT.out _ gri).mono ?_); rintro _ _ ⟨rfl, g1, rfl⟩)) | (go_at_call 18; ((with_reducible refine (new_any _).mono ?_); rintro _ W2 ⟨D2, rfl, hd2, hg2⟩; have g2 : Gr w W2 := Gr.trans gri hg2; have y0 : W2.cell? ⟨D, 0, none⟩ = some (.map (some M)) := (@block_cells _ _ 0 _ _ (HD.out.blk.gr g2)).trans rfl; have oD : Old D W2 := (HD.out.blk.gr g2).old)) | (at_range; refine wpList_rangeK rfl _ rfl Try.underlying89 (HD.out.all.gr g2) rfl ?_; intro w0 cnt0 hrg0 hg0))
 go_frame
 obtain ⟨M2, mb2, hd2⟩ := hd2
 have HD2 := Lib.hid (hd2.lower (Gr.below (gri : Gr w (grown w g1))).size)
 have hMl : M < w.heap.size := HD.out.all.lt
 have hW2 := g2.below.size
 have hR0 := hrg0.lt
 go_loopw [15] (fun _ wr => ∃ left cnt mb2, RangeAt .u64 wr M W2.heap.size (d.map (volF mb)) left cnt ∧ DevIn w.heap.size wr D2 M2 mb2 (goneF left d) ∧ Gr w wr) (fun _ wr => wr.rangeLeft M W2.heap.size)
 case atStart => exact ⟨_, _, mb2, hrg0, by rw [goneF_start]; exact HD2.out.gr hg0, g2.trans hg0⟩
 case round =>
  obtain ⟨left, cnt, mb3, hrg, hdd, hgw⟩ := hrel
  have HR := Lib.hid hrg
  have HDD := Lib.hid hdd
  have HG := Lib.hid hgw
  clear hrg hdd hgw
  go_wp2_with (first | (at_next; refine wpList_nextK rfl _ rfl rfl HR.out ?_ ?_) | go_in)
  ·intro _ hl0
   go_wp2
   go_ret
   exact ⟨D2, rfl, ⟨M2, mb3, by rw [← goneF_end (left := left) (fun p hp => hl0 p.1 _ p.1 p.2.1 p.2.2 hp rfl)]; exact HDD.out⟩, HG.out⟩
  ·intro k v w1 cnt1 k' xn xm hp hpe hlk hrg1 hlt hob hen
   obtain ⟨rfl, rfl⟩ : k' = k ∧ v = .agg #[.int .i64 xn, .map (some (mb k'))] := by
    simp only [volF, Prod.mk.injEq] at hpe
    exact ⟨hpe.1, hpe.2.symm⟩
   have g1w : Gr w w1 := Gr.of (hob.below (by have := g2.below.size; omega) HR.out.lt HG.out.below)
   have hdd1 := HDD.out.iter HR.out hob
   have HDD1 := Lib.hid hdd1
   have HR1 := Lib.hid hrg1
   have HLT := Lib.hid hlt
   have HX := Lib.hid (HD.out.vol _ hp)
   have z0 : w1.cell? ⟨D2, 0, none⟩ = some (.map (some M2)) := (@block_cells _ _ 0 _ _ hdd1.blk).trans rfl
   haveI : Old D2 w1 := hdd1.blk.old
   clear hdd1 hrg1 hlt hpe
   go_wp2_with (first | go_in)
   refine wp_region_treeT (inCls_ghost _) (Cls.none _) ⟨Gr.of ((Below.refl _ _).drew), trivial⟩ [0, 1, 2, 3, 4, 5, 6, 7, 8] 2 11 (by kernel_rfl) (by kernel_rfl) ?_
   simp only [pick, List.drop_succ_cons, List.drop_zero, List.take_succ_cons, List.take_zero, List.nil_append, List.cons_append]
   repeat (refine wpCalm_step (fun K hK => ?_); go_simp; first | (refine hK _ ?_; clear hK K) | (apply Exists.intro; refine ⟨fun _ => ?_, hK _ ?_⟩; (skip); clear hK K))
   refine wpCalm_nil ?_
   refine ft_effD 9 (by kernel_rfl) (by omega) rfl rfl rfl fun w3 hw3 => effAt_call' 47 #[.map (some (mb k'))] (by go_simp) ((cloneMap_any (mb k') _ w3 (HX.out.gr (g1w.trans (Gr.trans gri hw3.1)))).mono fun e w4 hc => ⟨_, hc.1, ?_⟩)
   obtain ⟨he9, hc, hg⟩ := hc
   refine ⟨⟨fun w4 => MapAt .i64 w4 w3.heap.size (encK bkV xm), fun a b h g => h.gr g⟩, ⟨hw3.1.trans hg, hc⟩, ?_⟩
   have hsz := hw3.1.below.size
   have hb0 : w1.heap.size ≤ w3.heap.size := Nat.le_trans (inferInstance : From w1 _).le hsz
   generalize w3.heap.size = b at *
   clear he9 hc hg w4 e hw3 w3
   simp only [Act.put, List.setIfInBounds_toArray, List.set_cons_zero, List.set_cons_succ]
   refine ft_calmD 10 (.agg #[.int .i64 xn, .map (some b)]) (by kernel_rfl) (by omega) rfl rfl rfl (fun g => by unfold calmAt; go_simp) ?_
   simp only [Act.put, List.setIfInBounds_toArray, List.set_cons_zero, List.set_cons_succ]
   refine ft_end ⟨by kernel_rfl, fun w2 hw2 => ?_⟩
   try simp only [List.drop_succ_cons, List.drop_zero]
   have g3 : Gr w1 w2 := Gr.trans gri hw2.1
   refine wpList_updateK rfl _ _ _ rfl k' _ Try.underlying89 Try.underlying23 (HDD1.out.all.gr g3) rfl rfl rfl fun W' h1 h2 => ?_
   have hgp := goneF_put (left := left) HD.out.ok.sort hp
   have HD' := HDD1.out.put g3 k' (xn, xm) b hw2.2 (.inl hb0) h1 h2 (by rw [hgp]; exact goneF_ok HD.out.ok) (g1w.below.size)
   rw [hgp] at HD'
   have hr' := (HR1.out.gr g3).only (HDD1.out.all.gr g3) h2 (by have := HDD1.out.bM; omega)
   have hg' : Gr w W' := Gr.of (h2.below HDD1.out.bM (HDD1.out.all.gr g3).lt (g1w.trans g3).below)
   have HDF := Lib.hid HD'
   have HRF := Lib.hid hr'
   have HGF := Lib.hid hg'
   clear HD' hr' hg' h1 h2 hw2 g3 hsz
   try simp only [Act.put]
   go_wp2
   go_roundw
   case rel => exact ⟨fun z => left z && z != k', _, _, HRF.out, HDF.out, HGF.out⟩
   case measure => rw [HRF.out.left_eq, HR.out.left_eq]; exact HLT.out
set_option maxRecDepth 100000
set_option maxHeartbeats 4000000
def appK : Dev → List OpM → Int × Dev
 | d, [] => (0, d)
 | d, o :: l => if (ansK d o 1024).1 = 0 then appK (doK d o) l else ((ansK d o 1024).1, d)
def ApPost (base : Nat) (r : Int × Dev) (e : Ending) (w' : World) : Prop :=
 (r.1 = 0 ∧ ∃ D, e = .returned (.tuple #[.pointer (some ⟨D, 0, none⟩), .int .i64 0]) ∧ DevAt base w' D r.2) ∨ (r.1 ≠ 0 ∧ e = .returned (.tuple #[.pointer none, .int .i64 r.1]))
theorem DevAt.lower9 {base base' D : Nat} {W : World} {d : Dev} (h : DevAt base W D d) (hb : base' ≤ base) : DevAt base' W D d := by
 obtain ⟨M, mb, h⟩ := h
 exact ⟨M, mb, h.lower hb⟩
theorem apply_any (base D : Nat) (d : Dev) (l : List OpC) (n : Nat) (hn : l.length = n) (hn9 : n ≤ 100000) (A : Option Addr) (c : Nat) (w : World) (h : DevAt base w D d) (hr : RowN opE w A l) (hok : ∀ x ∈ l, OpOk w x) :
  Calls Try.prog 11 #[.pointer (some ⟨D, 0, none⟩), .slice A n c] w fun e w' => ApPost w.heap.size (appK d (l.map (·.o))) e w' ∧ Gr w w' := by
 have HR := Lib.hid hr
 have HOK := Lib.hid hok
 have HN := Lib.hid hn
 have HCo := Lib.hid (fun W (hW : Gr w W) => copy_any base D d W (h.gr hW))
 obtain ⟨res, hres⟩ : ∃ r, r = appK d (l.map (·.o)) := ⟨_, rfl⟩
 rw [← hres]
 have HRES := Lib.hid hres
 clear hr hok hn h hres
 go_enter Try.func11, Try.ntmps11
 go_wp2_with (first | (go_at_call 34; ((with_reducible refine (HCo.out _ gri).mono ?_); rintro _ W2 ⟨D2, rfl, hd2, hg2⟩; have hd3 : DevAt w.heap.size W2 D2 d := hd2.lower9 (Gr.below (show Gr w _ from gri)).size; have g2 : Gr w W2 := Gr.trans gri hg2)))
 go_loopw [16] (fun i wr => ∃ (k : Nat) (dk : Dev), k ≤ n ∧ i = .int .i64 (k : Int) ∧ DevAt w.heap.size wr D2 dk ∧ res = appK dk ((l.drop k).map (·.o)) ∧ Gr w wr) (fun i _ => n - (intOf i).toNat)
 case atStart => exact ⟨0, d, Nat.zero_le _, rfl, hd3, by rw [List.drop_zero]; exact HRES.out, g2⟩
 case round =>
  obtain ⟨k, dk, hk, rfl, hd, hres, hg⟩ := hrel
  haveI := grc_of hg
  haveI := from_of hg
  have HD := Lib.hid hd
  have HG := Lib.hid hg
  have HRS := Lib.hid hres
  clear hd hg hd2 hg2 hd3 g2 hres
  by_cases hlt : k < n
  ·obtain ⟨x, hx⟩ : ∃ x, l[k]? = some x := ⟨_, List.getElem?_eq_getElem (by rw [HN.out]; exact hlt)⟩
   obtain ⟨b, p, rfl, hb, hcl⟩ := HR.out.at_ (by rintro rfl; have := HN.out; simp at this; omega)
   obtain ⟨c0, c1, c2, c3, c4, c5, c6⟩ := opCells hcl hx
   have hcell : ∀ (j : Nat) v, w.cell? ⟨b, j, none⟩ = some v → wr.cell? ⟨b, j, none⟩ = some v := fun j v h => (HG.out.below.cell (p := ⟨b, j, none⟩) hb).trans h
   have d0 := hcell _ _ c0
   have d1 := hcell _ _ c1
   have d2 := hcell _ _ c2
   have d3 := hcell _ _ c3
   have d4 := hcell _ _ c4
   have d5 := hcell _ _ c5
   have d6 := hcell _ _ c6
   haveI : Old b wr := old_of_cell d0
   have ho := HOK.out x (List.mem_of_getElem? hx)
   have HDo := Lib.hid (fun W (hW : Gr wr W) => do_any x.o.k x.o.v x.o.t x.o.s x.o.a x.o.c x.D x.n x.q ho.cap x.o.l ho.len w.heap.size D2 dk W (HD.out.gr hW) (HG.out.trans hW).below.size (ho.row.gr (HG.out.trans hW)) ho.small)
   have hdr : (l.drop k).map (·.o) = x.o :: (l.drop (k + 1)).map (·.o) := by
    obtain ⟨hl9, he9⟩ := List.getElem?_eq_some_iff.1 hx
    rw [← he9, List.drop_eq_getElem_cons hl9, List.map_cons]
   have hrs := HRS.out
   rw [hdr, appK] at hrs
   have HRS2 := Lib.hid hrs
   clear hcell c0 c1 c2 c3 c4 c5 c6 hcl hx ho hdr hrs
   obtain ⟨⟨ok, ov, ot, os, oa, oc, ol⟩, oD, on, oq⟩ := x
   simp only at *
   generalize hz : ansK dk ⟨ok, ov, ot, os, oa, oc, ol⟩ 1024 = z at *
   obtain ⟨co, dn, da⟩ := z
   simp only at HDo HRS2
   by_cases hco : co = 0
   ·subst hco
    have HRS3 := Lib.hid (HRS2.out.trans (if_pos rfl))
    clear hz
    go_wp2_with (first | (go_at_call 19; ((with_reducible refine (HDo.out _ gri).mono ?_); rintro _ W3 ⟨A3, n3, c3, rfl, ho3, hd3, hb3, hk3⟩; have g3 : Gr w W3 := Gr.of ((show Gr w _ from gri).below.trans hb3); haveI := grc_of g3; haveI := from_of g3)))
    go_roundw
    case rel => exact ⟨k + 1, _, hlt, by go_num, hd3.gr gri, HRS3.out, Gr.trans g3 gri⟩
    case measure => simp [intOf]; omega
   ·have HRS3 := Lib.hid (HRS2.out.trans (if_neg hco))
    have hb : (co != 0) = true := by rw [bne_iff_ne]; exact hco
    have HC := Lib.hid hco
    clear hz hco
    go_wp2_with (first | (go_at_call 19; ((with_reducible refine (HDo.out _ gri).mono ?_); rintro _ W3 ⟨A3, n3, c3, rfl, ho3, hd3, hb3, hk3⟩; have g3 : Gr w W3 := Gr.of ((show Gr w _ from gri).below.trans hb3); haveI := grc_of g3; haveI := from_of g3)))
    refine wp_region_grow (by kernel_rfl) (by kernel_rfl) ?_
    repeat (go_big_quiet_step (fail))
    refine wpQuiet_nil ?_
    intro g5
    go_wp2
    go_ret2
    exact ⟨.inr ⟨by rw [HRS3.out]; exact HC.out, by rw [HRS3.out]; rfl⟩, Gr.trans g3 gri⟩
  ·have : k = n := by omega
   subst this
   have he : res = (0, dk) := by
    have := HRS.out
    rwa [List.drop_eq_nil_of_le (by rw [HN.out]; omega), List.map_nil, appK] at this
   have HE := Lib.hid he
   clear he
   go_wp2
   go_ret2
   exact ⟨.inl ⟨by rw [HE.out], _, rfl, by rw [HE.out]; exact HD.out⟩, HG.out⟩
section
variable (need : Int → Bool × Bool) (X : Nat → Byt)
def layM : Nat → List (Int × Byt) → List (Int × Byt)
 | 0, m => m
 | i + 1, m => if (need i).1 = true then (if (need i).2 = true then putK (layM i m) i (X i) else delK (layM i m) i) else layM i m
theorem layM_succ (i : Nat) (m : List (Int × Byt)) : layM need X (i + 1) m = if (need i).1 = true then (if (need i).2 = true then putK (layM need X i m) i (X i) else delK (layM need X i m) i) else layM need X i m := rfl
theorem layM_sort {m : List (Int × Byt)} (h : SortK m) : ∀ i, SortK (layM need X i m)
 | 0 => h
 | i + 1 => by
  rw [layM_succ]
  split
  ·split
   ·exact sort_putK (layM_sort h i)
   ·exact sort_delK (layM_sort h i)
  ·exact layM_sort h i
theorem layM_len {m : List (Int × Byt)} (h : SortK m) (hl : ∀ p ∈ m, p.2.length = 256) (hX : ∀ i, (X i).length = 256) : ∀ i, ∀ p ∈ layM need X i m, p.2.length = 256
 | 0 => hl
 | i + 1 => by
  rw [layM_succ]
  split
  ·split
   ·intro p hp
    rcases (mem_putK (layM_sort need X h i) p).1 hp with rfl | ⟨hp, _⟩
    ·exact hX i
    ·exact layM_len h hl hX i p hp
   ·exact fun p hp => layM_len h hl hX i p (List.mem_filter.1 hp).1
  ·exact layM_len h hl hX i
theorem layM_get {m : List (Int × Byt)} (h : SortK m) (i j : Nat) : getK (layM need X i m) (j : Int) = if j < i ∧ (need j).1 = true then (if (need j).2 = true then some (X j) else none) else getK m j := by
 induction i with
 | zero => rw [if_neg (by omega)]; rfl
 | succ i ih =>
  have hs := layM_sort need X h i
  rw [layM_succ]
  by_cases hij : j = i
  ·subst hij
   by_cases h1 : (need j).1 = true
   ·have hc : j < j + 1 ∧ (need (j : Int)).1 = true := ⟨by omega, h1⟩
    rw [if_pos h1, if_pos hc]
    by_cases h2 : (need j).2 = true
    ·rw [if_pos h2, if_pos h2, getK_put hs, if_pos rfl]
    ·rw [if_neg h2, if_neg h2, getK_del hs, if_pos rfl]
   ·rw [if_neg h1, if_neg (by simp [h1]), ih, if_neg (by omega)]
  ·have hne : ¬ (j : Int) = (i : Int) := by omega
   have e1 : (j < i + 1 ∧ (need j).1 = true) ↔ (j < i ∧ (need j).1 = true) := by
    constructor <;> rintro ⟨a, b⟩ <;> exact ⟨by omega, b⟩
   simp only [e1]
   rw [← ih]
   split
   ·split
    ·rw [getK_put hs, if_neg hne]
    ·rw [getK_del hs, if_neg hne]
   ·rfl
theorem layM_none {m : List (Int × Byt)} {b : Nat} : ∀ n, (∀ j, j < n → (need ((b + j : Nat) : Int)).1 = false) → layM need X (b + n) m = layM need X b m
 | 0, _ => rfl
 | n + 1, h => by
  show layM need X (b + n + 1) m = _
  rw [layM_succ, if_neg (by rw [h n (by omega)]; decide)]
  exact layM_none n fun j hj => h j (by omega)
end
theorem spans_blocks : ∀ (n b : Nat), spans (4 * b) (4 * n) = (List.range n).map fun j => (⟨b + j, 0, 4⟩ : Spn)
 | 0, b => by simp [spans_zero]
 | n + 1, b => by
  rw [spans_cons _ _ (by omega), List.range_succ_eq_map, List.map_cons, List.map_map]
  have e1 : 4 * b / 4 = b := by omega
  have e2 : 4 * b % 4 = 0 := by omega
  have e3 : min (4 - 0) (4 * (n + 1)) = 4 := by omega
  rw [e1, e2, e3]
  have e4 : 4 * b + 4 = 4 * (b + 1) := by omega
  have e5 : 4 * (n + 1) - 4 = 4 * n := by omega
  rw [e4, e5, spans_blocks n (b + 1)]
  congr 1
  refine List.map_congr_left fun j _ => ?_
  simp only [Function.comp, Spn.mk.injEq, and_true]
  omega
theorem mergeB_all (B x : Byt) (hB : B.length = 256) (hx : x.length = 256) : mergeB B 0 x = x := by
 unfold mergeB
 rw [hx, List.drop_eq_nil_of_le (by omega)]
 simp
theorem putL_blocks (need : Int → Bool × Bool) (X : Nat → Byt) (hX : ∀ i, (X i).length = 256) (data : Byt) (b : Nat) {m : List (Int × Byt)} (hs : SortK m) (hl : ∀ p ∈ m, p.2.length = 256) :
  ∀ n, (∀ j, j < n → (need ((b + j : Nat) : Int)).1 = true ∧ (need ((b + j : Nat) : Int)).2 = true ∧ (data.drop (256 * j)).take 256 = X (b + j)) → putL (4 * b) data (layM need X b m) ((List.range n).map fun j => (⟨b + j, 0, 4⟩ : Spn)) = layM need X (b + n) m
 | 0, _ => rfl
 | n + 1, h => by
  have ih := putL_blocks need X hX data b hs hl n fun j hj => h j (by omega)
  obtain ⟨h1, h2, h3⟩ := h n (by omega)
  unfold putL at ih ⊢
  rw [List.range_succ, List.map_append, List.foldl_append, ih]
  show putS (4 * b) data (layM need X (b + n) m) ⟨b + n, 0, 4⟩ = layM need X (b + n + 1) m
  have hsg : segK ⟨b + n, 0, 4⟩ (4 * b) data = X (b + n) := by
   rw [← h3]
   unfold segK
   have e1 : 64 * (4 * (b + n) + 0 - 4 * b) = 256 * n := by omega
   simp only [e1]
  unfold putS
  simp only [hsg]
  rw [mergeB_all _ _ (blkM_len (layM_sort need X hs _) (layM_len need X hs hl hX _) _) (hX _)]
  rw [layM_succ, if_pos h1, if_pos h2]
theorem datN_get (d : Dev) (as_ : Int) (hl : ∀ i, ((blkK d as_ i).getD zB).length = 256) (b n j : Nat) (h : j < n) : ((datN d as_ b n).drop (256 * j)).take 256 = (blkK d as_ ((b + j : Nat) : Int)).getD zB := by
 induction n with
 | zero => omega
 | succ n ih =>
  have hn := datN_len d as_ hl b n
  rw [datN_succ]
  by_cases hj : j < n
  ·rw [List.drop_append_of_le_length (by omega), List.take_append_of_le_length (by rw [List.length_drop]; omega), ih hj]
  ·obtain rfl : j = n := by omega
   rw [List.drop_append, List.drop_eq_nil_of_le (by omega), hn, Nat.sub_self, List.drop_zero, List.nil_append, List.take_of_length_le (by rw [hl]; exact Nat.le_refl _)]
theorem zeros_get (n j : Nat) (h : j < n) : ((List.replicate (64 * (4 * n)) (0 : UInt8)).drop (256 * j)).take 256 = zB := by
 rw [List.drop_replicate, List.take_replicate, zB]
 congr 1
 omega
theorem del_blocks (need : Int → Bool × Bool) (X : Nat → Byt) (b : Nat) (m : List (Int × Byt)) : ∀ n, (∀ j, j < n → (need ((b + j : Nat) : Int)).1 = true ∧ (need ((b + j : Nat) : Int)).2 = false) → ((layM need X b m).filter fun p => decide (p.1 < (b : Int) ∨ (b : Int) + (n : Int) ≤ p.1)) = layM need X (b + n) m
 | 0, _ => List.filter_eq_self.2 fun p _ => by simp; omega
 | n + 1, h => by
  have ih := del_blocks need X b m n fun j hj => h j (by omega)
  obtain ⟨h1, h2⟩ := h n (by omega)
  show _ = layM need X (b + n + 1) m
  rw [layM_succ, if_pos h1, if_neg (by rw [h2]; decide), ← ih, delK, List.filter_filter]
  refine List.filter_congr fun p _ => ?_
  rw [Bool.eq_iff_iff]
  simp only [decide_eq_true_eq, Bool.and_eq_true, bne_iff_ne, ne_eq]
  omega
theorem run_do (d D : Dev) (as_ r : Int) (need : Int → Bool × Bool) (hl : ∀ i, ((blkK d as_ i).getD zB).length = 256) (N : Nat) (hN : N ≤ 256) (hD : DevOk D) {m : List (Int × Byt)} (hs : SortK m) (hm : ∀ p ∈ m, p.2.length = 256) (b n : Nat) (hr : RunIs d as_ need N (nextK d as_ need b) b n) (hk : nextK d as_ need b ≠ 0) (hDr : getK D r = some ((N : Int), layM need (fun i : Nat => (blkK d as_ (i : Int)).getD zB) b m)) :
  errK D (runK d as_ r (nextK d as_ need b) b n) = 0 ∧ (ansK D (runK d as_ r (nextK d as_ need b) b n) 1024).1 = 0 ∧ doK D (runK d as_ r (nextK d as_ need b) b n) = putK D r ((N : Int), layM need (fun i : Nat => (blkK d as_ (i : Int)).getD zB) (b + n) m) := by
 have hrk := hD.keys _ ((getK_mem hD.sort).1 hDr)
 simp only at hrk
 obtain ⟨r0, r1⟩ := hrk
 have hV : volD D r = ((N : Int), layM need (fun i : Nat => (blkK d as_ (i : Int)).getD zB) b m) := by rw [volD, hDr]; rfl
 have h1 := hr.one
 have h2 := hr.most
 have hsame := hr.same
 have h8 := hr.eight
 clear hr
 have hnd : ∀ j, j < n → (need ((b + j : Nat) : Int)).1 = true := fun j hj => by
  have := hsame j hj
  unfold nextK at this
  by_cases h : (need ((b + j : Nat) : Int)).1 = false
  ·rw [if_pos h] at this
   exact absurd this.symm hk
  ·simpa using h
 generalize hkk : nextK d as_ need b = k at *
 have hk3 : k = 5 ∨ k = 6 ∨ k = 7 := by
  rw [← hkk]
  unfold nextK at hkk ⊢
  split
  ·next h => rw [if_pos h] at hkk; exact absurd hkk.symm hk
  ·split
   ·simp
   ·split <;> simp
 rcases hk3 with rfl | rfl | rfl
 ·have hdl := datN_len d as_ hl b n
  have hn8 := h8 rfl
  have hi2 : ∀ j, j < n → (need ((b + j : Nat) : Int)).2 = true := fun j hj => by
   have := hsame j hj
   unfold nextK at this
   rw [if_neg (by rw [hnd j hj]; decide)] at this
   by_cases h : (need ((b + j : Nat) : Int)).2 = false
   ·rw [if_pos h] at this; cases this
   ·simpa using h
  have hmay : (⟨5, r, 0, 0, 4 * (b : Int), 0, datN d as_ b n⟩ : OpM).may = true := by
   have e1 : (datN d as_ b n).length % 64 = 0 := by rw [hdl]; omega
   simp only [OpM.may, mayOpB, wVol, wAt, wData, hdl] at e1 ⊢
   simp
   omega
  have hdiv : (datN d as_ b n).length / 64 = 4 * n := by rw [hdl]; omega
  have he : errK D ⟨5, r, 0, 0, 4 * (b : Int), 0, datN d as_ b n⟩ = 0 := by
   unfold errK
   rw [if_neg (by rw [hmay]; decide), if_neg (by simp)]
   simp only [hDr, hdiv]
   rw [if_neg (by decide), if_neg (by decide), if_pos trivial, if_neg (by omega)]
  have hsp := spans_blocks n b
  have ht : (4 * (b : Int)).toNat = 4 * b := by omega
  have hrun : runK d as_ r 5 b n = ⟨5, r, 0, 0, 4 * (b : Int), 0, datN d as_ b n⟩ := rfl
  rw [hrun]
  refine ⟨he, ?_, ?_⟩
  ·unfold ansK
   rw [if_pos he]
   simp only [cntO, if_true, hdiv, ht, hsp, List.length_map, List.length_range]
   rw [if_neg (by omega)]
  ·unfold doK partK
   rw [if_pos he]
   unfold didK
   simp only
   rw [if_neg (by decide), if_neg (by decide), if_neg (by decide), if_neg (by decide), if_pos (.inl trivial)]
   simp only [cntO, hdiv, ht, hsp, dataO, hV, if_true, show ¬ ((5 : Int) = 6) by decide, if_false]
   rw [List.take_of_length_le (by rw [List.length_map, List.length_range]; omega), putL_blocks need (fun i : Nat => (blkK d as_ (i : Int)).getD zB) (fun i => hl i) _ b hs hm n fun j hj => ⟨hnd j hj, hi2 j hj, datN_get d as_ hl b n j hj⟩]
 ·have hi2 : ∀ j, j < n → (need ((b + j : Nat) : Int)).2 = true ∧ (blkK d as_ ((b + j : Nat) : Int)).getD zB = zB := fun j hj => by
   have := hsame j hj
   unfold nextK at this
   rw [if_neg (by rw [hnd j hj]; decide)] at this
   by_cases h : (need ((b + j : Nat) : Int)).2 = false
   ·rw [if_pos h] at this; cases this
   ·rw [if_neg h] at this
    refine ⟨by simpa using h, ?_⟩
    by_cases h3 : ((blkK d as_ ((b + j : Nat) : Int)).getD zB == zB) = true
    ·simpa using h3
    ·rw [if_neg h3] at this; cases this
  have hmay : (⟨6, r, 0, 0, 4 * (b : Int), 4 * (n : Int), []⟩ : OpM).may = true := by
   simp only [OpM.may, mayOpB, wVol, wAt, wCount]
   simp
   omega
  have he : errK D ⟨6, r, 0, 0, 4 * (b : Int), 4 * (n : Int), []⟩ = 0 := by
   unfold errK
   rw [if_neg (by rw [hmay]; decide), if_neg (by simp)]
   simp only [hDr]
   rw [if_neg (by decide), if_neg (by decide), if_neg (by decide), if_pos (.inl trivial), if_neg (by omega)]
  have hsp := spans_blocks n b
  have ht : (4 * (b : Int)).toNat = 4 * b := by omega
  have hc : (4 * (n : Int)).toNat = 4 * n := by omega
  have hrun : runK d as_ r 6 b n = ⟨6, r, 0, 0, 4 * (b : Int), 4 * (n : Int), []⟩ := rfl
  rw [hrun]
  refine ⟨he, ?_, ?_⟩
  ·unfold ansK
   rw [if_pos he]
   simp only [cntO, ht, hc, show ¬ ((6 : Int) = 5) by decide, if_false, hsp, List.length_map, List.length_range]
   rw [if_neg (by omega)]
  ·unfold doK partK
   rw [if_pos he]
   unfold didK
   simp only
   rw [if_neg (by decide), if_neg (by decide), if_neg (by decide), if_neg (by decide), if_pos (.inr trivial)]
   simp only [cntO, ht, hc, dataO, hV, if_true, show ¬ ((6 : Int) = 5) by decide, if_false, hsp]
   rw [List.take_of_length_le (by rw [List.length_map, List.length_range]; omega), putL_blocks need (fun i : Nat => (blkK d as_ (i : Int)).getD zB) (fun i => hl i) _ b hs hm n fun j hj => ⟨hnd j hj, (hi2 j hj).1, by rw [zeros_get n j hj]; exact (hi2 j hj).2.symm⟩]
 ·have hi2 : ∀ j, j < n → (need ((b + j : Nat) : Int)).2 = false := fun j hj => by
   have := hsame j hj
   unfold nextK at this
   rw [if_neg (by rw [hnd j hj]; decide)] at this
   by_cases h : (need ((b + j : Nat) : Int)).2 = false
   ·exact h
   ·rw [if_neg h] at this
    split at this <;> cases this
  have hmay : (⟨7, r, 0, 0, (b : Int), (n : Int), []⟩ : OpM).may = true := by
   simp only [OpM.may, mayOpB, wVol, wAt, wCount]
   simp
   omega
  have he : errK D ⟨7, r, 0, 0, (b : Int), (n : Int), []⟩ = 0 := by
   unfold errK
   rw [if_neg (by rw [hmay]; decide), if_neg (by simp)]
   simp only [hDr]
   rw [if_neg (by decide), if_neg (by decide), if_neg (by decide), if_neg (by decide), if_pos trivial, if_neg (by omega)]
  have hrun : runK d as_ r 7 b n = ⟨7, r, 0, 0, (b : Int), (n : Int), []⟩ := rfl
  rw [hrun]
  refine ⟨he, ?_, ?_⟩
  ·unfold ansK
   rw [if_pos he, if_neg (by rintro ⟨h | h, _⟩ <;> cases h)]
  ·unfold doK partK
   rw [if_pos he]
   unfold didK
   simp only
   rw [if_neg (by decide), if_neg (by decide), if_neg (by decide), if_neg (by decide), if_neg (by rintro (h | h) <;> cases h), if_pos trivial]
   simp only [hV]
   rw [del_blocks need (fun i : Nat => (blkK d as_ (i : Int)).getD zB) b m n fun j hj => ⟨hnd j hj, hi2 j hj⟩]
theorem appK_snoc {d D : Dev} {L : List OpM} (h : appK d L = (0, D)) (o : OpM) (ho : (ansK D o 1024).1 = 0) : appK d (L ++ [o]) = (0, doK D o) := by
 induction L generalizing d with
 | nil =>
  simp only [appK, Prod.mk.injEq, true_and] at h
  subst h
  simp only [List.nil_append, appK]
  rw [if_pos ho]
 | cons x L ih =>
  rw [List.cons_append, appK]
  rw [appK] at h
  split at h
  ·next hx => rw [if_pos hx]; exact ih h
  ·next hx => simp only [Prod.mk.injEq] at h; exact absurd h.1 hx
theorem made_do (d D : Dev) (as_ r : Int) (need : Int → Bool × Bool) (hl : ∀ i, ((blkK d as_ i).getD zB).length = 256) (N : Nat) (hN : N ≤ 256) (hD : DevOk D) {m : List (Int × Byt)} (hDr : getK D r = some ((N : Int), m)) :
  appK D (foldG (genN d as_ r need) N).1 = (0, putK D r ((N : Int), layM need (fun i : Nat => (blkK d as_ (i : Int)).getD zB) N m)) ∧ ∀ o ∈ (foldG (genN d as_ r need) N).1, o.may = true := by
 have hv := hD.vols _ ((getK_mem hD.sort).1 hDr)
 have hk := hD.keys _ ((getK_mem hD.sort).1 hDr)
 have hs := hv.sort
 have hm := hv.len
 simp only at hs hm hk
 obtain ⟨X, hX⟩ : ∃ X : Nat → Byt, X = fun i : Nat => (blkK d as_ (i : Int)).getD zB := ⟨_, rfl⟩
 rw [← hX]
 suffices H : ∀ (f b : Nat) (L : List OpM) (E : Dev), N - b ≤ f → b ≤ N → AtRun d as_ r need N b L → appK D L = (0, E) → E = putK D r ((N : Int), layM need X b m) → DevOk E → (∀ o ∈ L, o.may = true) → ∃ L', AtRun d as_ r need N N L' ∧ appK D L' = (0, putK D r ((N : Int), layM need X N m)) ∧ ∀ o ∈ L', o.may = true by
  have h0 : D = putK D r ((N : Int), m) := by
   refine sort_ext hD.sort (sort_putK hD.sort) fun p => ?_
   rw [mem_putK hD.sort]
   constructor
   ·intro hp
    by_cases h : p.1 = r
    ·left
     obtain ⟨p1, p2⟩ := p
     simp only at h
     subst h
     have := (getK_mem hD.sort).2 hp
     rw [hDr] at this
     cases this
     rfl
    ·exact .inr ⟨hp, h⟩
   ·rintro (rfl | ⟨hp, _⟩)
    ·exact (getK_mem hD.sort).1 hDr
    ·exact hp
  obtain ⟨L', h1, h2, h3⟩ := H N 0 [] D (by omega) (by omega) (atRun_start d as_ r need N) rfl h0 hD (by simp)
  rw [atRun_end d as_ r need h1]
  exact ⟨h2, h3⟩
 intro f
 induction f with
 | zero =>
  intro b L E hf hb hA hE hE2 hEo hmy
  obtain rfl : b = N := by omega
  exact ⟨L, hA, by rw [hE, hE2], hmy⟩
 | succ f ih =>
  intro b L E hf hb hA hE hE2 hEo hmy
  by_cases hbN : b < N
  ·obtain ⟨n, hr, hx⟩ := run_ex d as_ need hbN
   have hA2 := atRun_next d as_ r need hl rfl hA hr hx
   have h1 := hr.one
   have h2 := hr.most
   by_cases hz : nextK d as_ need b = 0
   ·rw [behindK, if_pos hz] at hA2
    refine ih (b + n) L E (by omega) h2 hA2 hE ?_ hEo hmy
    rw [hE2, layM_none need X n fun j hj => ?_]
    have := hr.same j hj
    rw [hz] at this
    unfold nextK at this
    by_cases h : (need ((b + j : Nat) : Int)).1 = false
    ·exact h
    ·rw [if_neg h] at this
     split at this
     ·cases this
     ·split at this <;> cases this
   ·rw [behindK, if_neg hz] at hA2
    have hEr : getK E r = some ((N : Int), layM need X b m) := by rw [hE2, getK_put hD.sort, if_pos rfl]
    rw [hX] at hEr
    obtain ⟨e1, e2, e3⟩ := run_do d E as_ r need hl N hN hEo hs hm b n hr hz hEr
    rw [← hX] at e3
    refine ih (b + n) _ (doK E (runK d as_ r (nextK d as_ need b) b n)) (by omega) h2 hA2 (appK_snoc hE _ e2) ?_ (part_ok hEo _ _) fun o ho => ?_
    ·rw [e3, hE2, putK_putK _ _ _ _ hD.sort]
    ·rcases List.mem_append.1 ho with h | h
     ·exact hmy o h
     ·rw [List.mem_singleton] at h
      subst h
      cases hmm : (runK d as_ r (nextK d as_ need b) b n).may with
      | true => rfl
      | false => rw [errK, if_pos hmm] at e1; cases e1
  ·obtain rfl : b = N := by omega
   exact ⟨L, hA, by rw [hE, hE2], hmy⟩
theorem strOf_bytes (l : List UInt8) : strOfNums (l.map fun b => ((b.toNat : Nat) : Int)) = ⟨l.toArray⟩ := by
 unfold strOfNums
 congr 2
 rw [List.map_map]
 conv => rhs; rw [← List.map_id l]
 refine List.map_congr_left (fun b _ => ?_)
 show UInt8.ofNat b.toNat = b
 simp
theorem conv_row (A : Option Addr) (n q : Nat) (l : List UInt8) (W : World) (hl : l.length = n) (hr : Row bv W A l) : (convert 49 9 (.slice A n q)).run Try.prog W = .ok (.string ⟨l.toArray⟩) W := by
 by_cases h0 : l = []
 ·subst h0
  obtain rfl : n = 0 := by simpa using hl.symm
  cases A with
  | none => exact run_convert_bytes_nil W 49 5 Try.underlying49 Try.underlying5 0 q 9 Try.underlying9
  | some a =>
   rw [run_convert_bytes_string W 49 9 5 (some a) 0 q Try.underlying49 Try.underlying5 Try.underlying9]
   rw [run_bytesToString W a 0 q [] (by simpa using run_loadCells_list (P := Try.prog) W a [] (fun j v hj => by simp at hj))]
   rfl
 ·obtain ⟨b, o, rfl, hb, hc⟩ := hr.at_ h0
  rw [run_convert_bytes_arg W 49 5 Try.underlying49 Try.underlying5 b o n q (l.map fun b => ((b.toNat : Nat) : Int)) (by simpa using hl) (fun i hi => ?_) 9 Try.underlying9, strOf_bytes]
  have hil : i < l.length := by omega
  rw [hc i l[i] (List.getElem?_eq_getElem hil)]
  simp [bv, List.getD, List.getElem?_map, List.getElem?_eq_getElem hil]
set_option maxHeartbeats 2000000 in
theorem same13r_any (xk xv xt xs xa xc yk yv yt ys ya yc : Int) (xD yD : Option Addr) (xn xq yn yq : Nat) (lx ly : List UInt8) (w : World) (hx : lx.length = xn) (hy : ly.length = yn) (h1 : Row bv w xD lx) (h2 : Row bv w yD ly) :
  Calls Try.prog 32 #[(Value.agg #[.int .i64 xk, .int .u64 xv, .int .u64 xt, .int .i64 xs, .int .i64 xa, .int .i64 xc, .slice xD xn xq]), (Value.agg #[.int .i64 yk, .int .u64 yv, .int .u64 yt, .int .i64 ys, .int .i64 ya, .int .i64 yc, .slice yD yn yq])] w fun e w' => e = .returned (.bool (sameB xk xv xt xs xa xc yk yv yt ys ya yc lx ly)) ∧ Gr w w' := by
 have CV1 : ∀ (W : World) [GrC w W], (convert 49 9 (.slice xD xn xq)).run Try.prog W = .ok (.string ⟨lx.toArray⟩) W := fun W hW => conv_row _ _ _ _ _ hx (h1.gr (Gr.of hW.b))
 have CV2 : ∀ (W : World) [GrC w W], (convert 49 9 (.slice yD yn yq)).run Try.prog W = .ok (.string ⟨ly.toArray⟩) W := fun W hW => conv_row _ _ _ _ _ hy (h2.gr (Gr.of hW.b))
 clear hx hy h1 h2
 rcases Bool.eq_false_or_eq_true (xk == yk) with k1 | k1
 rotate_left
 ·go_enter Try.func32, Try.ntmps32
  go_wp2
  go_ret
  exact ⟨ret_bool (by simp [sameB, k1]), gri⟩
 rcases Bool.eq_false_or_eq_true (xv == yv) with k2 | k2
 rotate_left
 ·go_enter Try.func32, Try.ntmps32
  go_wp2
  go_ret
  exact ⟨ret_bool (by simp [sameB, k2]), gri⟩
 rcases Bool.eq_false_or_eq_true (xt == yt) with k3 | k3
 rotate_left
 ·go_enter Try.func32, Try.ntmps32
  go_wp2
  go_ret
  exact ⟨ret_bool (by simp [sameB, k3]), gri⟩
 rcases Bool.eq_false_or_eq_true (xs == ys) with k4 | k4
 rotate_left
 ·go_enter Try.func32, Try.ntmps32
  go_wp2
  go_ret
  exact ⟨ret_bool (by simp [sameB, k4]), gri⟩
 rcases Bool.eq_false_or_eq_true (xa == ya) with k5 | k5
 rotate_left
 ·go_enter Try.func32, Try.ntmps32
  go_wp2
  go_ret
  exact ⟨ret_bool (by simp [sameB, k5]), gri⟩
 rcases Bool.eq_false_or_eq_true (xc == yc) with k6 | k6
 rotate_left
 ·go_enter Try.func32, Try.ntmps32
  go_wp2
  go_ret
  exact ⟨ret_bool (by simp [sameB, k6]), gri⟩
 rcases Bool.eq_false_or_eq_true (lx == ly) with k7 | k7
 ·go_enter Try.func32, Try.ntmps32
  go_wp2
  go_ret
  exact ⟨ret_bool (by simp [sameB, k1, k2, k3, k4, k5, k6, k7]), gri⟩
 ·go_enter Try.func32, Try.ntmps32
  go_wp2
  go_ret
  exact ⟨ret_bool (by simp [sameB, k1, k2, k3, k4, k5, k6, k7]), gri⟩
set_option maxRecDepth 100000
set_option maxHeartbeats 4000000
deriving instance DecidableEq for OpM
def mayM (o : OpM) : Bool := mayOpB o.k o.v o.t o.s o.a o.c o.l.length o.l
theorem sameB_eq {x y : OpM} : sameB x.k x.v x.t x.s x.a x.c y.k y.v y.t y.s y.a y.c x.l y.l = true ↔ x = y := by
 obtain ⟨a, b, c, d, e, f, g⟩ := x
 obtain ⟨a2, b2, c2, d2, e2, f2, g2⟩ := y
 simp [sameB, and_assoc]
structure OpIn (W : World) (x : OpC) : Prop where
 len : x.o.l.length = x.n
 small : x.n ≤ 1000000
 row : Row bv W x.D x.o.l
theorem OpIn.gr {W W' : World} {x : OpC} (h : OpIn W x) (g : Gr W W') : OpIn W' x := ⟨h.len, h.small, h.row.gr g⟩
theorem sameOps_any (x y : List OpC) (n m : Nat) (hn : x.length = n) (hm : y.length = m) (hn9 : n ≤ 100000) (hm9 : m ≤ 100000) (A B : Option Addr) (c e : Nat) (w : World) (hx : RowN opE w A x) (hy : RowN opE w B y) (hxi : ∀ z ∈ x, OpIn w z) (hyi : ∀ z ∈ y, OpIn w z) :
  Calls Try.prog 9 #[.slice A n c, .slice B m e] w fun e w' => e = .returned (.bool (decide (x.map (·.o) = y.map (·.o)) && x.all fun z => mayM z.o)) ∧ Gr w w' := by
 have HX := Lib.hid hx
 have HY := Lib.hid hy
 have HN := Lib.hid hn
 have HM := Lib.hid hm
 have HXI := Lib.hid hxi
 have HYI := Lib.hid hyi
 clear hx hy hn hm hxi hyi
 obtain ⟨res, hres⟩ : ∃ res, res = (decide (x.map (·.o) = y.map (·.o)) && x.all fun z => mayM z.o) := ⟨_, rfl⟩
 rw [← hres]
 have HR := Lib.hid hres
 clear hres
 by_cases hnm : n = m
 rotate_left
 ·have HE := Lib.hid (show res = false from by
   rw [HR.out, decide_eq_false (fun h => hnm (by rw [← HN.out, ← HM.out]; have := congrArg List.length h; simpa using this)), Bool.false_and])
  have hb : ((n : Int) != (m : Int)) = true := by rw [bne_iff_ne]; omega
  go_enter Try.func9, Try.ntmps9
  go_wp2
  go_ret
  exact ⟨by rw [HE.out]; rfl, gri⟩
 subst hnm
 have hb : ((n : Int) != (n : Int)) = false := by simp
 go_enter Try.func9, Try.ntmps9
 go_wp2
 go_loopw [5] (fun i wr => ∃ k : Nat, k ≤ n ∧ i = .int .i64 (k : Int) ∧ (x.take k).map (·.o) = (y.take k).map (·.o) ∧ ((x.take k).all fun z => mayM z.o) = true ∧ Gr w wr) (fun i _ => n - (intOf i).toNat)
 case atStart => exact ⟨0, Nat.zero_le _, rfl, rfl, rfl, gri⟩
 case round =>
  obtain ⟨k, hk, rfl, hpre, hall, hg⟩ := hrel
  haveI := grc_of hg
  haveI := from_of hg
  have HG := Lib.hid hg
  have HP := Lib.hid hpre
  have HA := Lib.hid hall
  clear hg hpre hall
  by_cases hlt : k < n
  ·obtain ⟨u, hu⟩ : ∃ u, x[k]? = some u := ⟨_, List.getElem?_eq_getElem (by rw [HN.out]; exact hlt)⟩
   obtain ⟨v, hv⟩ : ∃ v, y[k]? = some v := ⟨_, List.getElem?_eq_getElem (by rw [HM.out]; exact hlt)⟩
   obtain ⟨b1, p1, rfl, hb1, hc1⟩ := (HX.out.gr HG.out).at_ (by rintro rfl; have := HN.out; simp at this; omega)
   obtain ⟨b2, p2, rfl, hb2, hc2⟩ := (HY.out.gr HG.out).at_ (by rintro rfl; have := HM.out; simp at this; omega)
   obtain ⟨c0, c1, c2, c3, c4, c5, c6⟩ := opCells hc1 hu
   obtain ⟨d0, d1, d2, d3, d4, d5, d6⟩ := opCells hc2 hv
   haveI : Old b1 wr := ⟨hb1⟩
   haveI : Old b2 wr := ⟨hb2⟩
   have ou := (HXI.out u (List.mem_of_getElem? hu)).gr HG.out
   have ov := (HYI.out v (List.mem_of_getElem? hv)).gr HG.out
   have HU := Lib.hid hu
   have HV := Lib.hid hv
   have HS := Lib.hid (fun W (hW : Gr wr W) => same13r_any u.o.k u.o.v u.o.t u.o.s u.o.a u.o.c v.o.k v.o.v v.o.t v.o.s v.o.a v.o.c u.D v.D u.n u.q v.n v.q u.o.l v.o.l W ou.len ov.len (ou.row.gr hW) (ov.row.gr hW))
   have HMY := Lib.hid (fun W (hW : Gr wr W) => mayOp_any u.o.k u.o.v u.o.t u.o.s u.o.a u.o.c u.D u.n u.q u.o.l W ou.len (by have := ou.small; omega) (ou.row.gr hW))
   have HSB := Lib.hid (sameB_eq (x := u.o) (y := v.o))
   have HML := Lib.hid (show mayOpB u.o.k u.o.v u.o.t u.o.s u.o.a u.o.c u.n u.o.l = mayM u.o from by rw [mayM, ou.len])
   rw [HML.out] at HMY
   clear hc1 hc2 hu hv ou ov HML
   generalize hsb : sameB u.o.k u.o.v u.o.t u.o.s u.o.a u.o.c v.o.k v.o.v v.o.t v.o.s v.o.a v.o.c u.o.l v.o.l = sb at *
   generalize hmb : mayM u.o = mb at *
   have HMB := Lib.hid hmb
   clear hsb hmb
   cases sb
   ·have huv : u.o ≠ v.o := fun h => by have := HSB.out.2 h; cases this
    have HE := Lib.hid (show res = false from by
     rw [HR.out, decide_eq_false, Bool.false_and]
     intro h
     have h1 : (x.map (·.o))[k]? = some u.o := by rw [List.getElem?_map, HU.out]; rfl
     rw [h, List.getElem?_map, HV.out] at h1
     exact huv (Option.some.inj h1).symm)
    clear huv
    go_wp2
    refine wp_region_grow (by kernel_rfl) (by kernel_rfl) ?_
    repeat (go_big_quiet_step ((first | (go_at_call 32; exact grow_call (HS.out _ gri)) | (go_at_call 33; exact grow_call (HMY.out _ gri)))))
    refine wpQuiet_nil ?_
    intro g1
    go_wp2
    go_ret
    exact ⟨by rw [HE.out]; rfl, gri⟩
   ·cases mb
    ·have HE := Lib.hid (show res = false from by
      rw [HR.out, Bool.and_eq_false_iff]
      right
      rw [List.all_eq_false]
      exact ⟨u, List.mem_of_getElem? HU.out, by rw [HMB.out]; decide⟩)
     go_wp2
     refine wp_region_grow (by kernel_rfl) (by kernel_rfl) ?_
     repeat (go_big_quiet_step ((first | (go_at_call 32; exact grow_call (HS.out _ gri)) | (go_at_call 33; exact grow_call (HMY.out _ gri)))))
     refine wpQuiet_nil ?_
     intro g1
     go_wp2
     go_ret
     exact ⟨by rw [HE.out]; rfl, gri⟩
    ·have HUV := Lib.hid (HSB.out.1 rfl)
     go_wp2
     refine wp_region_grow (by kernel_rfl) (by kernel_rfl) ?_
     repeat (go_big_quiet_step ((first | (go_at_call 32; exact grow_call (HS.out _ gri)) | (go_at_call 33; exact grow_call (HMY.out _ gri)))))
     refine wpQuiet_nil ?_
     intro g1
     go_wp2
     go_roundw
     case rel => exact ⟨k + 1, hlt, by go_num, by rw [List.take_add_one, List.take_add_one, HU.out, HV.out, List.map_append, List.map_append, HP.out]; simp [HUV.out], by rw [List.take_add_one, HU.out, List.all_append, HA.out]; simp [HMB.out], gri⟩
     case measure => simp [intOf]; omega
  ·have : k = n := by omega
   subst this
   have HE := Lib.hid (show res = true from by
    have h1 := HP.out
    have h2 := HA.out
    rw [List.take_of_length_le (by rw [HN.out]; omega), List.take_of_length_le (by rw [HM.out]; omega)] at h1
    rw [List.take_of_length_le (by rw [HN.out]; omega)] at h2
    rw [HR.out, decide_eq_true h1, h2]; rfl)
   go_wp2
   go_ret
   exact ⟨by rw [HE.out]; rfl, gri⟩
set_option maxRecDepth 100000
def layK (d : Dev) (b l r : Int) : List OpM × List Int × Int :=
 if chkK d [b, l, r] ≠ 0 then ([], [], chkK d [b, l, r])
 else if ¬ (sizeK d l = sizeK d b ∧ sizeK d r = sizeK d b) then ([], [], 5)
 else ((foldG (genP d b l r) (sizeK d b).toNat).1, clashP d b l r (sizeK d b).toNat, 0)
def LayQ (x : List OpM × List Int × Int) (w : World) (e : Ending) (w' : World) : Prop :=
 ∃ v1 v2 zs, e = .returned (.tuple #[v1, v2, .int .i64 x.2.2]) ∧ OwnN opE w.heap.size w' v1 zs ∧ zs.map (·.o) = x.1 ∧ (∀ z ∈ zs, OpOwn w.heap.size w' z) ∧ OwnN i64E w.heap.size w' v2 x.2.1 ∧ Gr w w'
theorem sizeK_of {d : Dev} {v : Int} {x : VolM} (h : getK d v = some x) : sizeK d v = x.1 := by rw [sizeK, h]; rfl
theorem size_nat {d : Dev} (hok : DevOk d) (v : Int) : ∃ N : Nat, sizeK d v = N ∧ N ≤ 256 := by
 cases h : getK d v with
 | none => exact ⟨0, by rw [sizeK, h]; rfl, by omega⟩
 | some x =>
  have h1 := hok.vols _ ((getK_mem hok.sort).1 h)
  have h2 := h1.s0
  have h3 := h1.s1
  simp only at h2 h3
  exact ⟨x.1.toNat, by rw [sizeK_of h]; omega, by omega⟩
theorem dlay_q (base D : Nat) (d : Dev) (b l r : Int) (w : World) (h : DevAt base w D d) : Calls Try.prog 7 #[.pointer (some ⟨D, 0, none⟩), .int .u64 b, .int .u64 l, .int .u64 r] w (LayQ (layK d b l r) w) := by
 have hok : DevOk d := by obtain ⟨M, mb, h⟩ := h; exact h.ok
 unfold layK
 by_cases hc : chkK d [b, l, r] ≠ 0
 ·rw [if_pos hc]
  exact (dlay_bad base D d b l r w h hc).mono fun e w' ⟨he, hg⟩ => ⟨_, _, [], he, OwnN.nil _ _, rfl, by simp, OwnN.nil _ _, hg⟩
 ·rw [if_neg hc]
  have hc : chkK d [b, l, r] = 0 := by omega
  by_cases hs : ¬ (sizeK d l = sizeK d b ∧ sizeK d r = sizeK d b)
  ·rw [if_pos hs]
   exact (dlay_size base D d b l r w h hc hs).mono fun e w' ⟨he, hg⟩ => ⟨_, _, [], he, OwnN.nil _ _, rfl, by simp, OwnN.nil _ _, hg⟩
  ·rw [if_neg hs]
   obtain ⟨N, hN, hN9⟩ := size_nat hok b
   have hs' : sizeK d l = sizeK d b ∧ sizeK d r = sizeK d b := Classical.not_not.1 hs
   rw [hN, Int.toNat_natCast]
   refine (dlay_all base D d b l r N w h hc hN (hs'.1.trans hN) (hs'.2.trans hN) (by omega)).mono ?_
   rintro e w' ⟨v1, v2, zs, he, h1, h2, h3, h4, h5⟩
   exact ⟨v1, v2, zs, he, h1, h2, h3, h4, h5⟩
theorem get_some {d : Dev} {l : List Int} (h : chkK d l = 0) {x : Int} (hx : x ∈ l) : ∃ y, getK d x = some y := Option.isSome_iff_exists.1 (chk_zero h hx)
theorem rlay_q (base R : Nat) (d : Dev) (b l r : Int) (w : World) (h : RefAt base w R d) (hd9 : d.length ≤ 1000000) : Calls Try.prog 8 #[.pointer (some ⟨R, 0, none⟩), .int .u64 b, .int .u64 l, .int .u64 r] w (LayQ (layK d b l r) w) := by
 have hok : DevOk d := by obtain ⟨_, _, h⟩ := h; exact h.ok
 unfold layK
 by_cases hc : chkK d [b, l, r] ≠ 0
 ·rw [if_pos hc]
  exact (rlay_bad base R d b l r w h hd9 hc).mono fun e w' ⟨he, hg⟩ => ⟨_, _, [], he, OwnN.nil _ _, rfl, by simp, OwnN.nil _ _, hg⟩
 ·rw [if_neg hc]
  have hc : chkK d [b, l, r] = 0 := by omega
  obtain ⟨xb, hb⟩ := get_some hc (x := b) (by simp)
  obtain ⟨xl, hl⟩ := get_some hc (x := l) (by simp)
  obtain ⟨xr, hr⟩ := get_some hc (x := r) (by simp)
  have eb := sizeK_of hb
  have el := sizeK_of hl
  have er := sizeK_of hr
  by_cases hs : ¬ (sizeK d l = sizeK d b ∧ sizeK d r = sizeK d b)
  ·rw [if_pos hs]
   exact (rlay_size base R d b l r xb xl xr w h hd9 hc hb hl hr (by rw [← eb, ← el, ← er]; exact hs)).mono fun e w' ⟨he, hg⟩ => ⟨_, _, [], he, OwnN.nil _ _, rfl, by simp, OwnN.nil _ _, hg⟩
  ·rw [if_neg hs]
   obtain ⟨N, hN, hN9⟩ := size_nat hok b
   have hs' : sizeK d l = sizeK d b ∧ sizeK d r = sizeK d b := Classical.not_not.1 hs
   rw [hN, Int.toNat_natCast]
   refine (rlay_any base R d b l r xb xl xr N (by omega) w h hd9 hc hb hl hr (eb.symm.trans hN) (el.symm.trans (hs'.1.trans hN)) (er.symm.trans (hs'.2.trans hN))).mono ?_
   rintro e w' ⟨v1, v2, zs, he, h1, h2, h3, h4, h5⟩
   rw [foldR_genP hb hl hr] at h2
   rw [foldR_clash, ← clashP_clashR hb hl hr] at h4
   exact ⟨v1, v2, zs, he, h1, h2, h3, h4, h5⟩
/-! Plain. -/
theorem chk_swap (d : Dev) (b l r : Int) : chkK d [b, r, l] = chkK d [b, l, r] := by
 have e1 : [b, r, l].Nodup ↔ [b, l, r].Nodup := by
  simp only [List.nodup_cons, List.mem_cons, List.mem_nil_iff, or_false, not_or, List.nodup_nil, and_true, not_false_eq_true]
  constructor <;> rintro ⟨⟨h1, h2⟩, h3⟩ <;> exact ⟨⟨h2, h1⟩, fun e => h3 e.symm⟩
 have e2 : ([b, r, l].all fun v => (getK d v).isSome) = ([b, l, r].all fun v => (getK d v).isSome) := by
  simp only [List.all_cons, List.all_nil, Bool.and_true]
  rw [Bool.and_comm (getK d r).isSome]
 unfold chkK
 rw [e2]
 by_cases h : [b, l, r].Nodup
 ·rw [if_pos h, if_pos (e1.2 h)]
 ·rw [if_neg h, if_neg (fun h2 => h (e1.1 h2))]
theorem alikeK_comm (d : Dev) (a b i : Int) : alikeK d a b i = alikeK d b a i := by
 rw [alikeK_eq, alikeK_eq]
 by_cases h : blkK d a i = blkK d b i
 ·rw [decide_eq_true h, decide_eq_true h.symm]
 ·rw [decide_eq_false h, decide_eq_false (fun e => h e.symm)]
theorem clash_swap (d : Dev) (b l r : Int) (n : Nat) : clashP d b r l n = clashP d b l r n := by
 unfold clashP
 congr 1
 refine List.filter_congr fun i _ => ?_
 rw [alikeK_comm d r l, Bool.and_comm (!alikeK d b r i)]
theorem lay_ok_swap {d : Dev} {b l r : Int} (h : (layK d b l r).2.2 = 0) : layK d b r l = ((foldG (genP d b r l) (sizeK d b).toNat).1, (layK d b l r).2.1, 0) := by
 unfold layK at h ⊢
 rw [chk_swap]
 by_cases hc : chkK d [b, l, r] ≠ 0
 ·rw [if_pos hc] at h
  exact absurd h hc
 ·rw [if_neg hc] at h ⊢
  by_cases hs : ¬ (sizeK d l = sizeK d b ∧ sizeK d r = sizeK d b)
  ·rw [if_pos hs] at h
   cases h
  ·have hs' : sizeK d l = sizeK d b ∧ sizeK d r = sizeK d b := Classical.not_not.1 hs
   have hs2 : ¬ ¬ (sizeK d r = sizeK d b ∧ sizeK d l = sizeK d b) := fun h => h ⟨hs'.2, hs'.1⟩
   rw [if_neg hs2, if_neg hc, if_neg hs, clash_swap]
theorem blkK_put {d : Dev} (hs : SortK d) (r v : Int) (x : VolM) (i : Int) : blkK (putK d r x) v i = if v = r then getK x.2 i else blkK d v i := by
 unfold blkK
 rw [getK_put hs]
 split <;> rfl
structure LaidOk (d : Dev) (b l r : Int) (L : List OpM) (E : Dev) (N : Nat) : Prop where
 size : sizeK d b = N
 le : N ≤ 256
 app : appK d L = (0, E)
 may : ∀ o ∈ L, o.may = true
 blk : ∀ i : Nat, i < N → blkK E r (i : Int) = if blkK d b i ≠ blkK d l i ∧ blkK d b i = blkK d r i then blkK d l i else blkK d r i
theorem lay_ok {d : Dev} (hok : DevOk d) {b l r : Int} (h : (layK d b l r).2.2 = 0) : ∃ E N, LaidOk d b l r (layK d b l r).1 E N ∧ (layK d b l r).1 = (foldG (genP d b l r) N).1 ∧ (layK d b l r).2.1 = clashP d b l r N := by
 have h' := h
 unfold layK at h ⊢
 by_cases hc : chkK d [b, l, r] ≠ 0
 ·rw [if_pos hc] at h
  exact absurd h hc
 ·rw [if_neg hc] at h ⊢
  have hc : chkK d [b, l, r] = 0 := by omega
  by_cases hs : ¬ (sizeK d l = sizeK d b ∧ sizeK d r = sizeK d b)
  ·rw [if_pos hs] at h
   cases h
  ·rw [if_neg hs]
   have hs' : sizeK d l = sizeK d b ∧ sizeK d r = sizeK d b := Classical.not_not.1 hs
   obtain ⟨N, hN, hN9⟩ := size_nat hok b
   rw [hN, Int.toNat_natCast]
   obtain ⟨⟨s, m⟩, hr⟩ := get_some hc (x := r) (by simp)
   have er := sizeK_of hr
   have hsN : s = N := by rw [← hN, ← hs'.2, er]
   subst hsN
   obtain ⟨h1, h2⟩ := made_do d d l r (needK d b l r) (fun i => blkK_len hok l i) N hN9 hok hr
   refine ⟨_, N, ⟨hN, hN9, h1, h2, fun i hi => ?_⟩, rfl, rfl⟩
   have hv := (hok.vols _ ((getK_mem hok.sort).1 hr)).sort
   simp only at hv
   rw [blkK_put hok.sort, if_pos rfl]
   show getK (layM _ _ N m) (i : Int) = _
   rw [layM_get _ _ hv]
   have hbr : blkK d r i = getK m i := by rw [blkK, hr]; rfl
   simp only [needK, alikeK_eq]
   by_cases h1 : blkK d b i = blkK d l i
   ·rw [if_neg (by simp [h1]), if_neg (by simp [h1]), hbr]
   ·by_cases h2 : blkK d b i = blkK d r i
    ·have q1 : i < N ∧ (!decide (blkK d b i = blkK d l i) && decide (blkK d b i = blkK d r i)) = true := ⟨hi, by rw [decide_eq_false h1, decide_eq_true h2]; rfl⟩
     have q2 : blkK d b i ≠ blkK d l i ∧ blkK d b i = blkK d r i := ⟨h1, h2⟩
     rw [if_pos q1, if_pos q2]
     generalize blkK d l i = X
     cases X with
     | none => rfl
     | some B => rfl
    ·rw [if_neg (by simp [h2]), if_neg (by simp [h2]), hbr]
theorem lay_same {d : Dev} {b l r : Int} {N : Nat} {L1 L2 : List OpM} {E1 E2 : Dev} (h1 : LaidOk d b l r L1 E1 N) (h2 : LaidOk d b r l L2 E2 N) (hc : clashP d b l r N = []) (i : Nat) (hi : i < N) : blkK E1 r (i : Int) = blkK E2 l (i : Int) := by
 rw [h1.blk i hi, h2.blk i hi]
 have hno : ¬ (!alikeK d b l i && !alikeK d b r i && !alikeK d l r i) = true := by
  unfold clashP at hc
  rw [List.map_eq_nil_iff, List.filter_eq_nil_iff] at hc
  exact hc i (List.mem_range.2 hi)
 simp only [alikeK_eq] at hno
 by_cases e1 : blkK d b i = blkK d l i
 ·rw [if_neg (by simp [e1])]
  by_cases e2 : blkK d b i = blkK d r i
  ·rw [if_neg (by simp [e2]), ← e1, ← e2]
  ·rw [if_pos ⟨e2, e1⟩]
 ·by_cases e2 : blkK d b i = blkK d r i
  ·rw [if_pos ⟨e1, e2⟩, if_neg (by simp [e2])]
  ·rw [if_neg (by simp [e2]), if_neg (by simp [e1])]
   have : blkK d l i = blkK d r i := by
    by_cases e3 : blkK d l i = blkK d r i
    ·exact e3
    ·exact absurd (by simp [e1, e2, e3]) hno
   exact this.symm
theorem may_more {o : OpM} (h : o.may = true) : 0 ≤ o.v ∧ 0 ≤ o.t ∧ o.l.length ≤ 2048 := by
 have hk := may_kind h
 obtain ⟨k, v, t, s, a, c, l⟩ := o
 simp only at hk
 have h9 : k = 1 ∨ k = 2 ∨ k = 3 ∨ k = 4 ∨ k = 5 ∨ k = 6 ∨ k = 7 ∨ k = 8 ∨ k = 9 := by omega
 unfold OpM.may at h
 rcases h9 with rfl | rfl | rfl | rfl | rfl | rfl | rfl | rfl | rfl
 all_goals
  simp [mayOpB, wVol, wTo, wSize, wAt, wCount, wData] at h
  refine ⟨?_, ?_, ?_⟩ <;> simp only <;> first | omega | (obtain ⟨_, rfl⟩ := h; simp) | (have := h.2; subst this; simp)
theorem OpOwn.in_ {base : Nat} {W : World} {x : OpC} (h : OpOwn base W x) (hm : x.o.may = true) : OpIn W x := by
 obtain ⟨A, c, e, h1, h2, hr⟩ := h.own.form bIs
 simp only [Value.slice.injEq] at e
 obtain ⟨rfl, e2, rfl⟩ := e
 have := (may_more hm).2.2
 exact ⟨e2.symm, by omega, rowN_b hr⟩
theorem OpOwn.ok {base : Nat} {W : World} {x : OpC} (h : OpOwn base W x) (hm : x.o.may = true) : OpOk W x := by
 obtain ⟨A, c, e, h1, h2, hr⟩ := h.own.form bIs
 simp only [Value.slice.injEq] at e
 obtain ⟨rfl, e2, rfl⟩ := e
 have := may_more hm
 exact ⟨e2.symm, by omega, by omega, rowN_b hr, this.1, this.2.1⟩
theorem all_mayM {zs : List OpC} {L : List OpM} (h : zs.map (·.o) = L) (hL : ∀ o ∈ L, o.may = true) : ∀ z ∈ zs, z.o.may = true := fun z hz => hL _ (by rw [← h]; exact List.mem_map_of_mem hz)
end Go.Proofs.Ytipeblmgochdfaa
namespace Go.Proofs.Ytipeblmgochdfaa
open Go.RowKit Go.ChangeShapes Go.WideShapes
set_option linter.unusedVariables false
set_option linter.unusedSimpArgs false
set_option linter.unnecessarySimpa false
structure OpCa (W : World) (x : OpC) : Prop where
 len : x.o.l.length = x.n
 cap : x.n ≤ x.q
 big : x.n ≤ 9223372036854775807
 row : Row bv W x.D x.o.l
 v0 : 0 ≤ x.o.v
 t0 : 0 ≤ x.o.t
theorem OpCa.ok {W : World} {x : OpC} (h : OpCa W x) (hn : x.n ≤ 9000) : OpOk W x := ⟨h.len, h.cap, by omega, h.row, h.v0, h.t0⟩
theorem u64_wf9 {z : Int} (h : (Lit.int .u64 z).wf = true) : 0 ≤ z ∧ z ≤ 18446744073709551615 := by
 simp [Lit.wf, IntKind.min, IntKind.max, IntKind.bits, IntKind.signed] at h
 omega
theorem got9 {α : Type} {l : List α} {n : Nat} (h : l.length = n) (i : Nat) (hi : i < n) : ∃ y, l[i]? = some y := ⟨l[i]'(by rw [h]; exact hi), List.getElem?_eq_getElem _⟩
theorem u8_of9 {z : Int} (h : (Lit.int .u8 z).wf = true) : bv (UInt8.ofNat z.toNat) = .int .u8 z := by
 simp [Lit.wf, IntKind.min, IntKind.max, IntKind.bits, IntKind.signed] at h
 unfold bv
 have e : (UInt8.ofNat z.toNat).toNat = z.toNat := by rw [UInt8.toNat_ofNat', Nat.mod_eq_of_lt (by omega)]
 rw [e, Int.toNat_of_nonneg (by omega)]
section
variable {H : Type} {enc : TypeId × Value → H}
set_option maxRecDepth 100000 in
theorem bytes_trod {W : World} {fuel : Nat} {c : Value} {x : DataW H × List MemPlace} (h : DataW.trod enc Try.prog W 0 (fun _ => true) true fuel 49 [c] = some x) : ∃ (D : Option Addr) (q : Nat) (l : List UInt8), c = .slice D l.length q ∧ l.length ≤ q ∧ q ≤ maxLen ∧ Row bv W D l := by
 rcases open_ints Try.underlying49 Try.underlying5 (by kernel_rfl) h with ⟨h0, _⟩ | ⟨a, len, cap, zs, h0, _, hl, hm, hz, _, hcell, hw⟩
 ·obtain rfl : c = .slice none 0 0 := by simpa using h0
  exact ⟨none, 0, [], rfl, Nat.le_refl _, Nat.zero_le _, Row.nil⟩
 ·obtain rfl : c = .slice (some a) len cap := by simpa using h0
  rw [if_pos rfl] at hz
  have hlen : ((zs.take len).map fun z => UInt8.ofNat z.toNat).length = len := by rw [List.length_map, List.length_take]; omega
  refine ⟨some a, cap, (zs.take len).map fun z => UInt8.ofNat z.toNat, by rw [hlen], by rw [hlen]; exact hl, hm, ⟨fun hne => ?_⟩⟩
  have hpos : 0 < len := by
   rcases Nat.eq_zero_or_pos len with h | h
   ·subst h; simp at hne
   ·exact h
  obtain ⟨b, o, sp⟩ := a
  have h1 := hcell 0 (by omega)
  have hsp : sp = none := by
   cases sp with
   | none => rfl
   | some y => simp [Addr.add, World.cell?] at h1; split at h1 <;> simp at h1
  subst hsp
  have hadd : ∀ i, (⟨b, o, none⟩ : Addr).add i = ⟨b, o + i, none⟩ := fun i => by unfold Addr.add; split <;> simp_all
  refine ⟨b, o, rfl, ?_, fun j y hj => ?_⟩
  ·rcases Nat.lt_or_ge b W.heap.size with h | h
   ·exact h
   ·rw [hadd] at h1
    simp [World.cell?, Array.getElem?_eq_none h] at h1
  ·rw [List.getElem?_map] at hj
   have hjl : j < len := by
    rcases Nat.lt_or_ge j len with h | h
    ·exact h
    ·rw [List.getElem?_eq_none (by rw [List.length_take]; omega)] at hj; simp at hj
   rw [List.getElem?_take, if_pos hjl, List.getElem?_eq_getElem (by omega)] at hj
   simp only [Option.map_some, Option.some.injEq] at hj
   subst hj
   have h2 := hcell j (by omega)
   rw [hadd] at h2
   rw [h2, List.getD_eq_getElem?_getD, List.getElem?_eq_getElem (by omega)]
   simp only [Option.getD_some]
   rw [u8_of9 (hw _ (List.getElem_mem _))]
set_option maxRecDepth 100000 in
theorem op_trod9 {W : World} {cs : List Value} {fuel : Nat} {x : DataW H × List MemPlace} (hl : cs.length = 7)
  (h : DataW.trod enc Try.prog W 0 (fun _ => true) true fuel 51 cs = some x) : ∃ z : OpC, cs = opE.cs z ∧ OpCa W z := by
 match cs, hl with
 | [c0, c1, c2, c3, c4, c5, c6], _ =>
  obtain ⟨xs, n0, _, _, _, hlen, hf⟩ := DataW.trod_struct Try.underlying51 h
  have hlen : xs.length = 7 := hlen
  obtain ⟨y0, e0⟩ := got9 hlen 0 (by decide)
  obtain ⟨y1, e1⟩ := got9 hlen 1 (by decide)
  obtain ⟨y2, e2⟩ := got9 hlen 2 (by decide)
  obtain ⟨y3, e3⟩ := got9 hlen 3 (by decide)
  obtain ⟨y4, e4⟩ := got9 hlen 4 (by decide)
  obtain ⟨y5, e5⟩ := got9 hlen 5 (by decide)
  obtain ⟨y6, e6⟩ := got9 hlen 6 (by decide)
  have h0 := hf 0 _ rfl; have h1 := hf 1 _ rfl; have h2 := hf 2 _ rfl; have h3 := hf 3 _ rfl; have h4 := hf 4 _ rfl; have h5 := hf 5 _ rfl; have h6 := hf 6 _ rfl
  rw [e0] at h0; rw [e1] at h1; rw [e2] at h2; rw [e3] at h3; rw [e4] at h4; rw [e5] at h5; rw [e6] at h6
  obtain ⟨k, q0, _, w0⟩ := DataW.trod_int Try.underlying48 h0
  obtain ⟨v, q1, _, w1⟩ := DataW.trod_int Try.underlying23 h1
  obtain ⟨t, q2, _, w2⟩ := DataW.trod_int Try.underlying23 h2
  obtain ⟨s, q3, _, w3⟩ := DataW.trod_int Try.underlying3 h3
  obtain ⟨a, q4, _, w4⟩ := DataW.trod_int Try.underlying3 h4
  obtain ⟨c, q5, _, w5⟩ := DataW.trod_int Try.underlying3 h5
  obtain ⟨D, q, l, rfl, hq, hm, hr⟩ := bytes_trod (c := c6) h6
  obtain rfl : c0 = .int .i64 k := List.head_eq_of_cons_eq q0
  obtain rfl : c1 = .int .u64 v := List.head_eq_of_cons_eq q1
  obtain rfl : c2 = .int .u64 t := List.head_eq_of_cons_eq q2
  obtain rfl : c3 = .int .i64 s := List.head_eq_of_cons_eq q3
  obtain rfl : c4 = .int .i64 a := List.head_eq_of_cons_eq q4
  obtain rfl : c5 = .int .i64 c := List.head_eq_of_cons_eq q5
  unfold maxLen at hm
  exact ⟨⟨⟨k, v, t, s, a, c, l⟩, D, l.length, q⟩, rfl, ⟨rfl, hq, by show l.length ≤ _; omega, hr, (u64_wf9 w1).1, (u64_wf9 w2).1⟩⟩
structure CameO (W : World) (A : Option Addr) (n q : Nat) (l : List OpC) : Prop where
 len : l.length = n
 cap : n ≤ q
 big : n ≤ 9223372036854775807
 nil : A = none → q = 0
 row : RowN opE W A l
 each : ∀ x ∈ l, OpCa W x
set_option maxRecDepth 100000 in
theorem ops_trod9 {W : World} {c : Value} {fuel : Nat} {x : DataW H × List MemPlace} (h : DataW.trod enc Try.prog W 0 (fun _ => true) true fuel 22 [c] = some x) : ∃ A n q l, c = .slice A n q ∧ CameO W A n q l := by
 rcases DataW.trod_slice Try.underlying22 h with ⟨h0, _⟩ | ⟨ad, len, cap, elems, rest, n0, _, h0, _, _, hlc, hcm, hel, hget, _, _⟩
 ·obtain rfl : c = .slice none 0 0 := List.head_eq_of_cons_eq h0
  exact ⟨none, 0, 0, [], rfl, rfl, Nat.le_refl _, Nat.zero_le _, fun _ => rfl, RowN.nil, by simp⟩
 ·obtain rfl : c = .slice (some ad) len cap := List.head_eq_of_cons_eq h0
  have hco : Try.prog.cellsOf 51 = 7 := by kernel_rfl
  rw [hco] at hget
  have hone : ∀ i, i < len → ∃ cs, W.cells? 0 (ad.add (i * 7)) 7 = some cs ∧ ∃ z, cs = opE.cs z ∧ OpCa W z := fun i hi => by
   obtain ⟨y, hy⟩ := got9 hel i hi
   have h1 := hget i hi
   rw [hy] at h1
   obtain ⟨cs, hcs, ht⟩ := Option.bind_eq_some_iff.1 h1
   obtain ⟨_, hlen, _⟩ := World.cells?_some hcs
   exact ⟨cs, hcs, op_trod9 hlen ht⟩
  have hsp : 0 < len → ∃ b o, ad = ⟨b, o, none⟩ ∧ b < W.heap.size := fun hpos => by
   obtain ⟨cs, hcs, _⟩ := hone 0 hpos
   obtain ⟨_, hlen, hc⟩ := World.cells?_some hcs
   have hlt := World.cells?_block hcs (by decide)
   obtain ⟨b, o, sp⟩ := ad
   obtain ⟨c0, hc0⟩ := got9 hlen 0 (by decide)
   have g0 := hc 0 (by decide)
   rw [hc0] at g0
   have hspot : sp = none := by simpa [Addr.add] using World.cell?_spot g0
   subst hspot
   rw [Go.ChangeShapes.block_add] at hlt
   exact ⟨b, o, rfl, hlt⟩
  have hex : ∃ f : Nat → OpC, ∀ i, i < len → W.cells? 0 (ad.add (i * 7)) 7 = some (opE.cs (f i)) ∧ OpCa W (f i) := by
   refine ⟨fun i => if h : i < len then Classical.choose (Classical.choose_spec (hone i h)).2 else ⟨⟨0, 0, 0, 0, 0, 0, []⟩, none, 0, 0⟩, fun i hi => ?_⟩
   simp only [dif_pos hi]
   have h1 := (Classical.choose_spec (hone i hi)).1
   have h2 := Classical.choose_spec (Classical.choose_spec (hone i hi)).2
   rw [h2.1] at h1
   exact ⟨h1, h2.2⟩
  obtain ⟨f, hf⟩ := hex
  refine ⟨some ad, len, cap, (List.range len).map f, rfl, by simp, hlc, by unfold maxLen at hcm; omega, fun h => by (cases h), ⟨fun _ _ => trivial, fun hne => ?_⟩, fun x hx => ?_⟩
  ·have hpos : 0 < len := by
    rcases Nat.eq_zero_or_pos len with h | h
    ·subst h; simp at hne
    ·exact h
   obtain ⟨b, o, rfl, hlt⟩ := hsp hpos
   refine ⟨b, o, rfl, hlt, fun j a hj i u hu => ?_⟩
   have hjl : j < len := by
    have := (List.getElem?_eq_some_iff.1 hj).1
    simpa using this
   rw [List.getElem?_map, List.getElem?_range hjl] at hj
   simp only [Option.map_some, Option.some.injEq] at hj
   subst hj
   obtain ⟨_, hlen, hc⟩ := World.cells?_some (hf j hjl).1
   have hi : i < 7 := by
    have := (List.getElem?_eq_some_iff.1 hu).1
    rwa [hlen] at this
   have h1 := hc i hi
   rw [add_plain, add_plain] at h1
   exact h1.trans hu
  ·obtain ⟨j, hj, rfl⟩ := List.mem_map.1 hx
   exact (hf j (List.mem_range.1 hj)).2
set_option maxRecDepth 100000 in
theorem open_ops {W : World} {base : Nat} {v : Value} {d : DataW H} {p : List MemPlace} (hv : Value.okWide Try.prog W .any base 22 v) (h : DataW.Trod enc Try.prog W 0 (fun _ => true) true 22 v d p) :
  ∃ A n q l, v = .slice A n q ∧ CameO W A n q l := by
 simp only [Value.okWide, Try.underlying22, Cell.okWide] at hv
 obtain ⟨fuel, hd⟩ := h
 have hv2 : v.cells.toList = [v] := by cases v <;> simp_all [Cell.ok, Value.cells]
 rw [hv2] at hd
 exact ops_trod9 hd
end
def muchK (l : List OpC) (most : Nat) : Bool := ((l.take (most + 1)).any fun x => decide (9000 < x.n)) || decide (most < l.length)
theorem muchK_no {l : List OpC} {most : Nat} (h : muchK l most = false) : l.length ≤ most ∧ ∀ x ∈ l, x.n ≤ 9000 := by
 unfold muchK at h
 rw [Bool.or_eq_false_iff] at h
 have hl : l.length ≤ most := by have := h.2; simpa using this
 refine ⟨hl, fun x hx => ?_⟩
 have h1 := h.1
 rw [List.take_of_length_le (by omega), List.any_eq_false] at h1
 have := h1 x hx
 simpa using this
set_option maxRecDepth 100000 in
set_option maxHeartbeats 4000000 in
theorem lmuch_any (l : List OpC) (n : Nat) (hn : l.length = n) (most : Nat) (hm : most ≤ 1000) (A : Option Addr) (c : Nat) (w : World) (hr : RowN opE w A l) :
  Calls Try.prog 4 #[.slice A n c, .int .i64 (most : Int)] w fun e w' => e = .returned (.bool (muchK l most)) ∧ Gr w w' := by
 have HR := Lib.hid hr
 have HN := Lib.hid hn
 obtain ⟨r, hrr⟩ : ∃ r, r = muchK l most := ⟨_, rfl⟩
 rw [← hrr]
 have HRR := Lib.hid hrr
 clear hr hn hrr
 go_enter Try.func4, Try.ntmps4
 go_wp2
 go_loopw [5] (fun i wr => ∃ k : Nat, k ≤ n ∧ k ≤ most + 1 ∧ i = .int .i64 (k : Int) ∧ ((l.take k).any fun x => decide (9000 < x.n)) = false ∧ Gr w wr) (fun i _ => n - (intOf i).toNat)
 case atStart => exact ⟨0, Nat.zero_le _, Nat.zero_le _, rfl, rfl, gri⟩
 case round =>
  obtain ⟨k, hk, hk2, rfl, hno, hg⟩ := hrel
  haveI := grc_of hg
  haveI := from_of hg
  have HNO := Lib.hid hno
  have HG := Lib.hid hg
  clear hg hno
  by_cases hlt : k < n
  ·by_cases hle : k ≤ most
   ·obtain ⟨x, hx⟩ : ∃ x, l[k]? = some x := ⟨_, List.getElem?_eq_getElem (by rw [HN.out]; exact hlt)⟩
    obtain ⟨b, p, rfl, hb, hcl⟩ := (HR.out.gr HG.out).at_ (by rintro rfl; have := HN.out; simp at this; omega)
    obtain ⟨c0, c1, c2, c3, c4, c5, c6⟩ := opCells hcl hx
    haveI : Old b wr := ⟨hb⟩
    have HX := Lib.hid hx
    have HM := Lib.hid (fun W => much13_any x.o.k x.o.v x.o.t x.o.s x.o.a x.o.c x.D x.n x.q W)
    have hT : l.take (k + 1) = l.take k ++ [x] := by rw [List.take_add_one, hx]; rfl
    have HT := Lib.hid hT
    clear hcl hx hT
    by_cases hbig : 9000 < x.n
    ·have HE := Lib.hid (show r = true from by
      rw [HRR.out, muchK, Bool.or_eq_true]
      left
      rw [List.any_eq_true]
      exact ⟨x, List.mem_of_getElem? (i := k) (by rw [List.getElem?_take, if_pos (by omega)]; exact HX.out), by simpa using hbig⟩)
     rw [decide_eq_true hbig] at HM
     clear hbig
     go_wp2_with ((go_at_call 14; ((with_reducible refine (HM.out _).mono ?_); rintro _ _ ⟨rfl, g, rfl⟩)))
     go_ret
     exact ⟨by rw [HE.out]; rfl, gri⟩
    ·rw [decide_eq_false hbig] at HM
     have HE := Lib.hid (show ((l.take (k + 1)).any fun x => decide (9000 < x.n)) = false from by
      rw [HT.out, List.any_append, HNO.out]
      simp [decide_eq_false hbig])
     clear hbig
     go_wp2_with ((go_at_call 14; ((with_reducible refine (HM.out _).mono ?_); rintro _ _ ⟨rfl, g, rfl⟩)))
     go_roundw
     case rel => exact ⟨k + 1, hlt, by omega, by go_num, HE.out, gri⟩
     case measure => simp [intOf]; omega
   ·have HE := Lib.hid (show r = true from by
     rw [HRR.out, muchK, Bool.or_eq_true]
     right
     rw [HN.out]
     simp
     omega)
    have h9 : (most : Int) < (n : Int) := by omega
    go_wp2
    go_ret
    exact ⟨by rw [HE.out]; simp [h9], gri⟩
  ·have : k = n := by omega
   subst this
   by_cases hle : k ≤ most
   ·have HE := Lib.hid (show r = false from by
     rw [HRR.out, muchK, Bool.or_eq_false_iff]
     have h1 := HNO.out
     rw [List.take_of_length_le (by rw [HN.out]; omega)] at h1
     refine ⟨by rw [List.take_of_length_le (by rw [HN.out]; omega)]; exact h1, ?_⟩
     rw [HN.out]
     simp
     omega)
    have h9 : ¬ (most : Int) < (k : Int) := by omega
    go_wp2
    go_ret
    exact ⟨by rw [HE.out]; simp [h9], gri⟩
   ·have HE := Lib.hid (show r = true from by
     rw [HRR.out, muchK, Bool.or_eq_true]
     right
     rw [HN.out]
     simp
     omega)
    have h9 : (most : Int) < (k : Int) := by omega
    go_wp2
    go_ret
    exact ⟨by rw [HE.out]; simp [h9], gri⟩
end Go.Proofs.Ytipeblmgochdfaa
namespace Go.Proofs.Ytipeblmgochdfaa
open Go.RowKit
set_option linter.unusedVariables false
set_option linter.unusedSimpArgs false
set_option linter.unnecessarySimpa false
set_option maxRecDepth 100000
set_option maxHeartbeats 4000000
theorem sameInts_any (x y : List Int) (n m : Nat) (hn : x.length = n) (hm : y.length = m) (hn9 : n ≤ 100000) (hm9 : m ≤ 100000) (A B : Option Addr) (c e : Nat) (w : World) (hx : RowN i64E w A x) (hy : RowN i64E w B y) :
  Calls Try.prog 10 #[.slice A n c, .slice B m e] w fun e w' => e = .returned (.bool (decide (x = y))) ∧ Gr w w' := by
 have HX := Lib.hid hx
 have HY := Lib.hid hy
 have HN := Lib.hid hn
 have HM := Lib.hid hm
 clear hx hy hn hm
 by_cases hnm : n = m
 rotate_left
 ·have hne : ¬ x = y := fun h => hnm (by rw [← HN.out, ← HM.out, h])
  have HE := Lib.hid (decide_eq_false hne)
  have hb : ((n : Int) != (m : Int)) = true := by rw [bne_iff_ne]; omega
  clear hne
  go_enter Try.func10, Try.ntmps10
  go_wp2
  go_ret
  exact ⟨by rw [HE.out]; rfl, gri⟩
 subst hnm
 have hb : ((n : Int) != (n : Int)) = false := by simp
 go_enter Try.func10, Try.ntmps10
 go_wp2
 go_loopw [5] (fun i wr => ∃ k : Nat, k ≤ n ∧ i = .int .i64 (k : Int) ∧ x.take k = y.take k ∧ Gr w wr) (fun i _ => n - (intOf i).toNat)
 case atStart => exact ⟨0, Nat.zero_le _, rfl, rfl, gri⟩
 case round =>
  obtain ⟨k, hk, rfl, hpre, hg⟩ := hrel
  haveI := grc_of hg
  haveI := from_of hg
  have HG := Lib.hid hg
  have HP := Lib.hid hpre
  clear hg hpre
  by_cases hlt : k < n
  ·obtain ⟨u, hu⟩ : ∃ u, x[k]? = some u := ⟨_, List.getElem?_eq_getElem (by rw [HN.out]; exact hlt)⟩
   obtain ⟨v, hv⟩ : ∃ v, y[k]? = some v := ⟨_, List.getElem?_eq_getElem (by rw [HM.out]; exact hlt)⟩
   obtain ⟨b1, p1, rfl, hb1, hc1⟩ := (HX.out.gr HG.out).at_ (by rintro rfl; have := HN.out; simp at this; omega)
   obtain ⟨b2, p2, rfl, hb2, hc2⟩ := (HY.out.gr HG.out).at_ (by rintro rfl; have := HM.out; simp at this; omega)
   have c0 := hc1 k u hu 0 _ rfl
   have d0 := hc2 k v hv 0 _ rfl
   have ei : i64E.k = 1 := rfl
   simp only [ei, Nat.mul_one, Nat.add_zero] at c0 d0
   clear ei
   haveI : Old b1 wr := ⟨hb1⟩
   haveI : Old b2 wr := ⟨hb2⟩
   have HU := Lib.hid hu
   have HV := Lib.hid hv
   clear hc1 hc2 hu hv
   by_cases huv : u = v
   ·have hsb : (u != v) = false := by simpa using huv
    have HUV := Lib.hid huv
    clear huv
    go_wp2
    refine wp_region_grow (by kernel_rfl) (by kernel_rfl) ?_
    repeat (go_big_quiet_step (fail))
    refine wpQuiet_nil ?_
    intro g1
    go_wp2
    go_roundw
    case rel => exact ⟨k + 1, hlt, by go_num, by rw [List.take_add_one, List.take_add_one, HU.out, HV.out, HP.out, HUV.out], gri⟩
    case measure => simp [intOf]; omega
   ·have hsb : (u != v) = true := by simpa using huv
    have hne : ¬ x = y := fun h => huv (by have h1 := HU.out; have h2 := HV.out; rw [h, h2] at h1; exact (Option.some.inj h1).symm)
    have HE := Lib.hid (decide_eq_false hne)
    clear hne huv
    go_wp2
    refine wp_region_grow (by kernel_rfl) (by kernel_rfl) ?_
    repeat (go_big_quiet_step (fail))
    refine wpQuiet_nil ?_
    intro g1
    go_wp2
    go_ret
    exact ⟨by rw [HE.out]; rfl, gri⟩
  ·have : k = n := by omega
   subst this
   have he : x = y := by
    have := HP.out
    rwa [List.take_of_length_le (by rw [HN.out]; omega), List.take_of_length_le (by rw [HM.out]; omega)] at this
   have HE := Lib.hid (decide_eq_true he)
   clear he
   go_wp2
   go_ret
   exact ⟨by rw [HE.out]; rfl, gri⟩
set_option maxRecDepth 100000
set_option maxHeartbeats 4000000
def strB (x y : Str) : Bool := x.1 == y.1 && x.2.1 == y.2.1 && x.2.2 == y.2.2
theorem strB_eq {x y : Str} : strB x y = true ↔ x = y := by
 obtain ⟨a, b, c⟩ := x
 obtain ⟨d, e, f⟩ := y
 simp [strB, and_assoc]
@[go_sem ↓] theorem eql_str (w : World) (a b c d e f : Int) : (Op.equalIn 10000 58 (.agg #[.int .i64 a, .int .i64 b, .int .i64 c]) (.agg #[.int .i64 d, .int .i64 e, .int .i64 f])).run Try.prog w = .ok (strB (a, b, c) (d, e, f)) w := by
 by_cases h : a = d
 ·subst h
  by_cases h2 : b = e
  ·subst h2
   by_cases h3 : c = f
   ·subst h3; simp [strB, go_sem]
   ·simp [strB, go_sem, h3]
  ·simp [strB, go_sem, h2]
 ·simp [strB, go_sem, h]
theorem strCells {W : World} {b p : Nat} {l : List Str} {k : Nat} {x : Str} (h : CellsN strE W b p l) (hx : l[k]? = some x) : W.cell? ⟨b, p + k * 3, none⟩ = some (.int .i64 x.1) ∧ W.cell? ⟨b, p + k * 3 + 1, none⟩ = some (.int .i64 x.2.1) ∧ W.cell? ⟨b, p + k * 3 + 2, none⟩ = some (.int .i64 x.2.2) :=
 ⟨h k x hx 0 _ rfl, h k x hx 1 _ rfl, h k x hx 2 _ rfl⟩
theorem same_any (x y : List Str) (n m : Nat) (hn : x.length = n) (hm : y.length = m) (hn9 : n ≤ 100000) (hm9 : m ≤ 100000) (A B : Option Addr) (c e : Nat) (w : World) (hx : RowN strE w A x) (hy : RowN strE w B y) :
  Calls Try.prog 17 #[.slice A n c, .slice B m e] w fun e w' => e = .returned (.bool (decide (x = y))) ∧ Gr w w' := by
 have HX := Lib.hid hx
 have HY := Lib.hid hy
 have HN := Lib.hid hn
 have HM := Lib.hid hm
 clear hx hy hn hm
 by_cases hnm : n = m
 rotate_left
 ·have hne : ¬ x = y := fun h => hnm (by rw [← HN.out, ← HM.out, h])
  have HE := Lib.hid (decide_eq_false hne)
  have hb : ((n : Int) != (m : Int)) = true := by rw [bne_iff_ne]; omega
  clear hne
  go_enter Try.func17, Try.ntmps17
  go_wp2
  go_ret
  exact ⟨by rw [HE.out]; rfl, gri⟩
 subst hnm
 have hb : ((n : Int) != (n : Int)) = false := by simp
 go_enter Try.func17, Try.ntmps17
 go_wp2
 go_loopw [5] (fun i wr => ∃ k : Nat, k ≤ n ∧ i = .int .i64 (k : Int) ∧ x.take k = y.take k ∧ Gr w wr) (fun i _ => n - (intOf i).toNat)
 case atStart => exact ⟨0, Nat.zero_le _, rfl, rfl, gri⟩
 case round =>
  obtain ⟨k, hk, rfl, hpre, hg⟩ := hrel
  haveI := grc_of hg
  haveI := from_of hg
  have HG := Lib.hid hg
  have HP := Lib.hid hpre
  clear hg hpre
  by_cases hlt : k < n
  ·obtain ⟨u, hu⟩ : ∃ u, x[k]? = some u := ⟨_, List.getElem?_eq_getElem (by rw [HN.out]; exact hlt)⟩
   obtain ⟨v, hv⟩ : ∃ v, y[k]? = some v := ⟨_, List.getElem?_eq_getElem (by rw [HM.out]; exact hlt)⟩
   obtain ⟨b1, p1, rfl, hb1, hc1⟩ := (HX.out.gr HG.out).at_ (by rintro rfl; have := HN.out; simp at this; omega)
   obtain ⟨b2, p2, rfl, hb2, hc2⟩ := (HY.out.gr HG.out).at_ (by rintro rfl; have := HM.out; simp at this; omega)
   obtain ⟨c0, c1, c2⟩ := strCells hc1 hu
   obtain ⟨d0, d1, d2⟩ := strCells hc2 hv
   haveI : Old b1 wr := ⟨hb1⟩
   haveI : Old b2 wr := ⟨hb2⟩
   have HU := Lib.hid hu
   have HV := Lib.hid hv
   clear hc1 hc2 hu hv
   by_cases huv : u = v
   ·have hsb : strB u v = true := strB_eq.2 huv
    have HUV := Lib.hid huv
    clear huv
    obtain ⟨u1, u2, u3⟩ := u
    obtain ⟨v1, v2, v3⟩ := v
    simp only at c0 c1 c2 d0 d1 d2
    go_wp2
    refine wp_region_grow (by kernel_rfl) (by kernel_rfl) ?_
    repeat (go_big_quiet_step (fail))
    refine wpQuiet_nil ?_
    intro g1
    go_wp2
    go_roundw
    case rel => exact ⟨k + 1, hlt, by go_num, by rw [List.take_add_one, List.take_add_one, HU.out, HV.out, HP.out, HUV.out], gri⟩
    case measure => simp [intOf]; omega
   ·have hsb : strB u v = false := by
     cases h : strB u v with
     | false => rfl
     | true => exact absurd (strB_eq.1 h) huv
    have hne : ¬ x = y := fun h => huv (by have h1 := HU.out; have h2 := HV.out; rw [h, h2] at h1; exact (Option.some.inj h1).symm)
    have HE := Lib.hid (decide_eq_false hne)
    clear hne huv
    obtain ⟨u1, u2, u3⟩ := u
    obtain ⟨v1, v2, v3⟩ := v
    simp only at c0 c1 c2 d0 d1 d2
    go_wp2
    refine wp_region_grow (by kernel_rfl) (by kernel_rfl) ?_
    repeat (go_big_quiet_step (fail))
    refine wpQuiet_nil ?_
    intro g1
    go_wp2
    go_ret
    exact ⟨by rw [HE.out]; rfl, gri⟩
  ·have : k = n := by omega
   subst this
   have he : x = y := by
    have := HP.out
    rwa [List.take_of_length_le (by rw [HN.out]; omega), List.take_of_length_le (by rw [HM.out]; omega)] at this
   have HE := Lib.hid (decide_eq_true he)
   clear he
   go_wp2
   go_ret
   exact ⟨by rw [HE.out]; rfl, gri⟩
theorem wpMake256 {W : World} {ops : Array Oper} {rest : List Oper} {o : Oper} {a : Act} {Q : Exit → Act → World → Prop} (hgd : o.guard = none) (x y : Operand) (ho : o.op = .makeSlice 49 x y) (z : Array Value) (hmq : ∀ W : World, (Instr.makeSlice 49 (.int .i64 256) (.int .i64 256)).run Try.prog W = .ok (.slice (some ⟨W.heap.size, 0, none⟩) 256 256) (W.alloc (.cells z 5))) (hxy : a.eval x = .int .i64 256 ∧ a.eval y = .int .i64 256)
  (h : ∀ W' B, BlockAt W' B z 5 → B = W.heap.size → W' = W.alloc (.cells z 5) → wpList Try.prog ops Q rest (a.put o.dst (.slice (some ⟨B, 0, none⟩) 256 256)) W') : wpList Try.prog ops Q (o :: rest) a W := by
 refine wpList_plain hgd fun K' hK' => ?_
 unfold Oper.wp execOp
 simp only [ho, hxy.1, hxy.2, Sem.run_bind, hmq W, Result.andThen_ok]
 exact hK' _ _ (h _ _ inferInstance rfl rfl)
theorem lblock_any (v : Int) (b : Nat) (hb9 : b ≤ 1000) (c : UInt8) (w : World) : Calls Try.prog 15 #[.int .u64 v, .int .i64 (b : Int), .int .u8 c.toNat] w fun e w' => ∃ B, e = .returned (.agg #[.int .i64 5, .int .u64 v, .int .u64 0, .int .i64 0, .int .i64 (4 * (b : Int)), .int .i64 0, .slice (some ⟨B, 0, none⟩) 256 256]) ∧ BlockAt w' B (bkC (c :: List.replicate 255 0)) 5 ∧ Gr w w' := by
 have hmq : ∀ W : World, (Instr.makeSlice 49 (.int .i64 256) (.int .i64 256)).run Try.prog W = .ok (.slice (some ⟨W.heap.size, 0, none⟩) 256 256) (W.alloc (.cells (bkC (List.replicate 256 0)) 5)) := fun W => makeQ 256 (by omega) W
 have hmz : (bkC (List.replicate 256 0))[0]? = some (.int .u8 0) := by kernel_rfl
 have HS : Hid ((bkC (List.replicate 256 0)).setIfInBounds 0 (.int .u8 c.toNat) = bkC (c :: List.replicate 255 0)) := Lib.hid (by
  have := bkC_set (List.replicate 256 0) 0 c
  rw [show (List.replicate 256 (0 : UInt8)).set 0 c = c :: List.replicate 255 0 from rfl] at this
  exact this.symm)
 generalize bkC (List.replicate 256 0) = z at *
 go_enter Try.func15, Try.ntmps15
 go_wp2_with (first | (at_make; refine wpMake256 rfl _ _ rfl z hmq ⟨rfl, rfl⟩ ?_; rintro _ _ hB1 rfl rfl))
 refine bodyPost_ret (run_resCell1 rfl _ w.heap.size #[.int .i64 5, .int .u64 v, .int .u64 0, .int .i64 0, .int .i64 (4 * (b : Int)), .int .i64 0, .slice (some ⟨w.heap.size + 1, 0, none⟩) 256 256] _ rfl ?_ Try.underlying51 rfl (by kernel_rfl)) rfl ⟨w.heap.size + 1, rfl, ?_, gri⟩
 ·exact ⟨(BlockAt.eq (B := w.heap.size)).trans rfl⟩
 ·rw [← HS.out]
  infer_instance
def wrO (v : Int) (b : Nat) (c : UInt8) : OpM := ⟨5, v, 0, 0, 4 * (b : Int), 0, c :: List.replicate 255 0⟩
def crO (v : Int) : OpM := ⟨1, v, 0, 4, 0, 0, []⟩
def knownL : List OpM := [crO 1, crO 2, wrO 1 0 120, wrO 1 1 121, wrO 2 0 120, wrO 2 1 122, wrO 2 2 121]
def wantL : List Str := [(0, 1, 3), (1, 1, 4), (2, 1, 6), (3, 1, 1)]
theorem known_chk : chkK (devOf knownL) [1, 2] = 0 := by kernel_rfl
theorem known_rows : rowsK (devOf knownL) 1 2 = wantL := by kernel_rfl
set_option maxRecDepth 100000
set_option maxHeartbeats 4000000
theorem CellsN.rows {α : Type} {e : EK α} (he : e.Is) {W : World} {B : Nat} {cs : Array Value} {t : TypeId} (xs : List α) (hok : ∀ x ∈ xs, e.ok x) (h : BlockAt W B cs t) (hc : cs.toList = xs.flatMap e.cs) : CellsN e W B 0 xs := fun j x hj i u hu => by
 have := flatN_at he xs hok j i x u hj hu
 rw [Nat.zero_add, block_cells W B _ cs t, ← Array.getElem?_toList, hc]
 exact this
theorem known_block (v : Int) (b : Nat) (hb : b ≤ 1000) (c : UInt8) (a z : Int) (ha : a = (b : Int)) (hz : z = 4 * (b : Int)) (y : Int) (hy : y = c.toNat) (w : World) : Calls Try.prog 15 #[.int .u64 v, .int .i64 a, .int .u8 y] w fun e w' => ∃ B, e = .returned (.agg #[.int .i64 5, .int .u64 v, .int .u64 0, .int .i64 0, .int .i64 z, .int .i64 0, .slice (some ⟨B, 0, none⟩) 256 256]) ∧ BlockAt w' B (bkC (c :: List.replicate 255 0)) 5 ∧ Gr w w' := by
 subst ha hz hy
 exact lblock_any v b hb c w
theorem blk_cast {W : World} {B : Nat} {cs cs' : Array Value} {t : TypeId} (h : BlockAt W B cs t) (e : cs = cs') : BlockAt W B cs' t := by
 subst e
 exact h
theorem opOk_cr (v : Int) (hv : 0 ≤ v) (W : World) : OpOk W ⟨crO v, none, 0, 0⟩ where
 len := rfl
 cap := Nat.le_refl _
 small := Nat.zero_le _
 row := ⟨fun h => absurd rfl h⟩
 v0 := hv
 t0 := by show (0 : Int) ≤ 0; omega
theorem opOk_wr (v : Int) (hv : 0 ≤ v) (b : Nat) (c : UInt8) (W : World) (B : Nat) (h : BlockAt W B (bkC (c :: List.replicate 255 0)) 5) : OpOk W ⟨wrO v b c, some ⟨B, 0, none⟩, 256, 256⟩ where
 len := rfl
 cap := Nat.le_refl _
 small := by show 256 ≤ 1000000; omega
 row := ⟨fun _ => ⟨B, 0, rfl, h.lt, fun j x hj => by rw [Nat.zero_add, @block_cells _ _ _ _ _ h]; exact bkC_at hj⟩⟩
 v0 := hv
 t0 := by show (0 : Int) ≤ 0; omega
def knownC (B1 B2 B3 B4 B5 : Nat) : List OpC := [⟨crO 1, none, 0, 0⟩, ⟨crO 2, none, 0, 0⟩, ⟨wrO 1 0 120, some ⟨B1, 0, none⟩, 256, 256⟩, ⟨wrO 1 1 121, some ⟨B2, 0, none⟩, 256, 256⟩, ⟨wrO 2 0 120, some ⟨B3, 0, none⟩, 256, 256⟩, ⟨wrO 2 1 122, some ⟨B4, 0, none⟩, 256, 256⟩, ⟨wrO 2 2 121, some ⟨B5, 0, none⟩, 256, 256⟩]
theorem known_made (W : World) (B0 B1 B2 B3 B4 B5 : Nat) (h0 : BlockAt W B0 ((knownC B1 B2 B3 B4 B5).flatMap opE.cs).toArray 51) (h1 : BlockAt W B1 (bkC (120 :: List.replicate 255 0)) 5) (h2 : BlockAt W B2 (bkC (121 :: List.replicate 255 0)) 5) (h3 : BlockAt W B3 (bkC (120 :: List.replicate 255 0)) 5) (h4 : BlockAt W B4 (bkC (122 :: List.replicate 255 0)) 5) (h5 : BlockAt W B5 (bkC (121 :: List.replicate 255 0)) 5) :
  Calls Try.prog 6 #[.slice (some ⟨B0, 0, none⟩) 7 7] W fun e w' => ∃ D R, e = .returned (.tuple #[.pointer (some ⟨D, 0, none⟩), .pointer (some ⟨R, 0, none⟩)]) ∧ DevAt W.heap.size w' D (devOf knownL) ∧ Gr W w' := by
 refine (made_any (knownC B1 B2 B3 B4 B5) 7 rfl (by omega) (some ⟨B0, 0, none⟩) 7 W ⟨fun _ _ => trivial, fun _ => ⟨B0, 0, rfl, h0.lt, CellsN.rows opIs _ (fun _ _ => trivial) h0 (by simp)⟩⟩ ?_).mono ?_
 ·intro x hx
  simp only [knownC, List.mem_cons, List.mem_nil_iff, or_false] at hx
  rcases hx with rfl | rfl | rfl | rfl | rfl | rfl | rfl
  ·exact opOk_cr 1 (by decide) W
  ·exact opOk_cr 2 (by decide) W
  ·exact opOk_wr 1 (by decide) 0 120 W B1 h1
  ·exact opOk_wr 1 (by decide) 1 121 W B2 h2
  ·exact opOk_wr 2 (by decide) 0 120 W B3 h3
  ·exact opOk_wr 2 (by decide) 1 122 W B4 h4
  ·exact opOk_wr 2 (by decide) 2 121 W B5 h5
 ·rintro _ _ ⟨D, R, rfl, hd, _, hg⟩
  exact ⟨D, R, rfl, hd, hg⟩
theorem own_row {α : Type} {e : EK α} (he : e.Is) {base : Nat} {W : World} {v : Value} {xs : List α} (h : OwnN e base W v xs) : ∃ A c, v = .slice A xs.length c ∧ RowN e W A xs := by
 obtain ⟨A, c, h1, _, _, h2⟩ := h.form he
 exact ⟨A, c, h1, h2⟩
theorem known_rw (W : World) (base D : Nat) (h : DevAt base W D (devOf knownL)) : Calls Try.prog 16 #[.pointer (some ⟨D, 0, none⟩), .int .u64 1, .int .u64 2] W fun e w' => ∃ A c, e = .returned (.tuple #[.slice A 4 c, .int .i64 0]) ∧ RowN strE w' A wantL ∧ Gr W w' := by
 refine (rows_any base D (devOf knownL) 1 2 W h).mono ?_
 rintro _ _ ⟨v, rfl, ho, hg⟩
 rw [known_rows] at ho
 obtain ⟨A, c, rfl, hr⟩ := own_row strIs ho
 exact ⟨A, c, by rw [known_chk]; rfl, hr, hg⟩
theorem known_same (W : World) (A : Option Addr) (c B : Nat) (h : RowN strE W A wantL) (hB : BlockAt W B (wantL.flatMap strE.cs).toArray 58) : Calls Try.prog 17 #[.slice A 4 c, .slice (some ⟨B, 0, none⟩) 4 4] W fun e w' => e = .returned (.bool true) ∧ Gr W w' :=
 (same_any wantL wantL 4 4 rfl rfl (by omega) (by omega) A (some ⟨B, 0, none⟩) c 4 W h ⟨fun _ _ => trivial, fun _ => ⟨B, 0, rfl, hB.lt, CellsN.rows strIs _ (fun _ _ => trivial) hB (by simp)⟩⟩).mono fun e w' ⟨h1, h2⟩ => ⟨by rw [h1, decide_eq_true rfl], h2⟩
theorem known_any (w : World) : Calls Try.prog 5 #[] w fun e w' => e = .returned (.bool true) ∧ Gr w w' := by
 have K1 := Lib.hid (fun W => known_block 1 0 (by omega) 120 0 0 rfl rfl 120 rfl W)
 have K2 := Lib.hid (fun W => known_block 1 1 (by omega) 121 1 4 rfl rfl 121 rfl W)
 have K3 := Lib.hid (fun W => known_block 2 0 (by omega) 120 0 0 rfl rfl 120 rfl W)
 have K4 := Lib.hid (fun W => known_block 2 1 (by omega) 122 1 4 rfl rfl 122 rfl W)
 have K5 := Lib.hid (fun W => known_block 2 2 (by omega) 121 2 8 rfl rfl 121 rfl W)
 go_enter Try.func5, Try.ntmps5
 go_wp2_with (first
  | (go_at_call 15; ((with_reducible refine (K1.out _).mono ?_); rintro _ _ ⟨B1, rfl, hB1, ⟨g1, rfl⟩⟩))
  | (go_at_call 15; ((with_reducible refine (K2.out _).mono ?_); rintro _ _ ⟨B2, rfl, hB2, ⟨g2, rfl⟩⟩))
  | (go_at_call 15; ((with_reducible refine (K3.out _).mono ?_); rintro _ _ ⟨B3, rfl, hB3, ⟨g3, rfl⟩⟩))
  | (go_at_call 15; ((with_reducible refine (K4.out _).mono ?_); rintro _ _ ⟨B4, rfl, hB4, ⟨g4, rfl⟩⟩))
  | (go_at_call 15; ((with_reducible refine (K5.out _).mono ?_); rintro _ _ ⟨B5, rfl, hB5, ⟨g5, rfl⟩⟩))
  | (go_at_call 6; (refine (known_made _ _ B1 B2 B3 B4 B5 (blk_cast inferInstance rfl) inferInstance inferInstance inferInstance inferInstance inferInstance).mono ?_); rintro _ _ ⟨D, R, rfl, hd, ⟨gm, rfl⟩⟩)
  | (go_at_call 16; (with_reducible refine (known_rw _ _ D (hd.gr gri)).mono ?_); rintro _ _ ⟨RA, rc, rfl, hr, ⟨gw, rfl⟩⟩)
  | (go_at_call 17; (refine (known_same _ RA rc _ (hr.gr gri) (blk_cast inferInstance rfl)).mono ?_); rintro _ _ ⟨rfl, ⟨g9, rfl⟩⟩))
 go_ret
 exact ⟨rfl, gri⟩
end Go.Proofs.Ytipeblmgochdfaa
