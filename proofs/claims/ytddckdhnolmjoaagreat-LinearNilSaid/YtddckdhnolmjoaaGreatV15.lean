/- linear.book's answered, of a call of node 1 that waits first. Conditions: the book stands in memory. linear.book's left: what it calls. Conditions: a row of one call. linear.book's left: its walk. Conditions: node 0; one call waits, nothing is gone. linear.moments: a moment, and the sort of a row that is sorted. Conditions: less than 20 moments. linear.moments, of a history whose moments stand in order. Conditions: at most 9 calls, and one at least. linear.Worlds: an append to a row without room; slices.Clip. Conditions: none. -/
import Derived.Test.YtddckdhnolmjoaaGreatV14
namespace Go.Proofs.YtddckdhnolmjoaaGreat
open Go.RowKit
set_option linter.unusedVariables false
set_option linter.unusedSimpArgs false
set_option linter.unnecessarySimpa false
set_option maxRecDepth 100000
set_option maxHeartbeats 4000000
theorem getK_in {β : Type} {L : List (Int × β)} {k : Int} {v : β} (h : getK L k = some v) : (k, v) ∈ L := by
 induction L with
 | nil => cases h
 | cons p r ih =>
  obtain ⟨a, x⟩ := p
  simp only [getK] at h
  split at h
  ·rename_i e
   subst e
   cases h
   exact List.mem_cons_self
  ·exact List.mem_cons_of_mem _ (ih h)
theorem foldM_inv {α β : Type} {f : β → α → Option β} {P : β → Prop} (hf : ∀ b a c, f b a = some c → P b → P c) : ∀ (l : List α) (b c : β), l.foldlM f b = some c → P b → P c
 | [], b, c, h, hb => by cases h; exact hb
 | a :: l, b, c, h, hb => by
  obtain ⟨d, h1, h2⟩ := foldM_cons _ _ _ _ h
  exact foldM_inv hf l d c h2 (hf b a d h1 hb)
theorem addM_len : ∀ (f : Nat) (may : List (Int × OpM)) (x : WM) (st st' : SoM), addM f may x st = some st' → st.2.length ≤ 5000 → st'.2.length ≤ 5000
 | 0, _, _, _, _, h, _ => by cases h
 | f + 1, may, x, st, st', h, hl => by
  unfold addM at h
  split at h
  ·cases h
  split at h
  ·cases h; exact hl
  split at h
  ·cases h
  refine foldM_inv (P := fun st : SoM => st.2.length ≤ 5000) (fun b a c hb hl => ?_) may _ _ h (by simp; omega)
  split at hb
  ·cases hb; exact hl
  ·exact foldM_inv (P := fun st : SoM => st.2.length ≤ 5000) (fun b a c hb hl => addM_len f may _ b c hb hl) _ _ _ hb hl
theorem closeM_len {f : Nat} {may : List (Int × OpM)} {ws : List WM} {sn : List Byt} {outM : List WM} (h : closeM f may ws = some (sn, outM)) : outM.length ≤ 5000 :=
 foldM_inv (P := fun st : SoM => st.2.length ≤ 5000) (fun b a c hb hl => addM_len f may a b c hb hl) ws _ _ h (by simp)
def AnPost (w W : World) (B : Nat) (q0 : Option CallC) (gn : List CallC) (v0 gv : Value) (res : List WM) (e : Ending) (w' : World) : Prop :=
 e = .returned (.int .i64 (if res.length = 0 then 9 else 0)) ∧ CKB B W w' ∧ ∃ ws' wv' v1', BkA w B ws' q0 none gn wv' v0 v1' gv w' ∧ ws'.map WrC.p = res
theorem answered_1 {f : Nat} {w : World} {B : Nat} {ws : List WrC} {q0 : Option CallC} {x1 : CallC} {gn : List CallC} {wv v0 v1 gv : Value} {W : World} (h : BkA w B ws q0 (some x1) gn wv v0 v1 gv W) (hgl : gn.length ≤ 900) (hws : ws.length ≤ 5000) (c : CallC) (hnode : c.node = 1) (hnum : x1.num = c.num) (hco : CallOk w c) {sn : List Byt} {outM : List WM}
  (hc : closeM f (mayP (gn ++ (q0.toList ++ [x1]))) (ws.map WrC.p) = some (sn, outM)) :
  Calls Tryz.prog 34 #[ptrB B, .agg (callL c).toArray] W (AnPost w W B q0 gn v0 gv (outM.filterMap (phiM c.num c.an.m))) := by
 obtain ⟨A1, n1, c1, hv1, h11, h12, h13, h14⟩ := h.w1
 subst hv1
 obtain ⟨b1, p1, cs1, f1, hA1, hb1, hc1⟩ := h14 x1 rfl
 subst hA1
 have hn1 : n1 = 1 := h13
 subst hn1
 have hcl : (callL c).toArray = #[.int .u64 c.num, .int .i64 1, .int .i64 c.o.o.k, .int .u64 c.o.o.v, .int .u64 c.o.o.t, .int .i64 c.o.o.s, .int .i64 c.o.o.a, .int .i64 c.o.o.c, .slice c.o.D c.o.n c.o.q, .int .i64 c.at_, .int .i64 c.fr, .int .i64 c.tt, .bool c.dn, .int .i64 c.gone, .int .i64 c.seq, .int .i64 c.an.code, .int .i64 c.an.done, .slice c.an.D c.an.n c.an.q] := by simp [callL, hnode]
 rw [hcl]
 have HOL := Lib.hid (closeM_len hc)
 have HB0 := Lib.hid h
 have HCL := Lib.hid (fun W' (g : Gr W W') => close_any (h.grow g) hgl hws hc)
 have HCO := Lib.hid hco
 have hlt1 := (Array.getElem?_eq_some_iff.1 hb1).1
 have k0 : W.cell? ⟨b1, p1, none⟩ = some (.int .u64 c.num) := by rw [← hnum]; have := hc1 0 x1 rfl 0 _ rfl; simpa [callE] using this
 have HC0 := Lib.hid k0
 have H11 := Lib.hid h11
 have H12 := Lib.hid h12
 have HLT1 := Lib.hid hlt1
 have HH1 := Lib.hid hb1
 have k2 : W.cell? ⟨B, 2, none⟩ = some (.slice (some ⟨b1, p1, none⟩) 1 c1) := (@block_cells _ _ 2 _ _ h.blk).trans rfl
 haveI := h.blk.old
 haveI : Old b1 W := ⟨hlt1⟩
 clear h hgl hws hc hco h11 h12 h13 h14 hc1 hb1 hlt1 hcl hnum hnode
 go_enter Tryz.func34, Tryz.ntmps34
 go_wp2
 obtain ⟨B3, hB3⟩ : ∃ B3, B3 = W.heap.size := ⟨_, rfl⟩
 obtain ⟨W1, hW1⟩ : ∃ W1, W1 = W.alloc (.cells #[.int .u64 c.num, .int .i64 1, .int .i64 c.o.o.k, .int .u64 c.o.o.v, .int .u64 c.o.o.t, .int .i64 c.o.o.s, .int .i64 c.o.o.a, .int .i64 c.o.o.c, .slice c.o.D c.o.n c.o.q, .int .i64 c.at_, .int .i64 c.fr, .int .i64 c.tt, .bool c.dn, .int .i64 c.gone, .int .i64 c.seq, .int .i64 c.an.code, .int .i64 c.an.done, .slice c.an.D c.an.n c.an.q] 51) := ⟨_, rfl⟩
 have g1 : Gr W W1 := by rw [hW1]; exact gri
 have b3 : BlockAt W1 B3 #[.int .u64 c.num, .int .i64 1, .int .i64 c.o.o.k, .int .u64 c.o.o.v, .int .u64 c.o.o.t, .int .i64 c.o.o.s, .int .i64 c.o.o.a, .int .i64 c.o.o.c, .slice c.o.D c.o.n c.o.q, .int .i64 c.at_, .int .i64 c.fr, .int .i64 c.tt, .bool c.dn, .int .i64 c.gone, .int .i64 c.seq, .int .i64 c.an.code, .int .i64 c.an.done, .slice c.an.D c.an.n c.an.q] 51 := by rw [hW1, hB3]; infer_instance
 rw [← hW1, ← hB3]
 have HB3 := Lib.hid b3
 have HG1 := Lib.hid g1
 have HBE := Lib.hid hB3
 clear hW1 hB3 g1 b3 k0 k2
 have HJ : Hid (∀ w1, Gr W1 w1 → BlockAt w1 B3 #[.int .u64 c.num, .int .i64 1, .int .i64 c.o.o.k, .int .u64 c.o.o.v, .int .u64 c.o.o.t, .int .i64 c.o.o.s, .int .i64 c.o.o.a, .int .i64 c.o.o.c, .slice c.o.D c.o.n c.o.q, .int .i64 c.at_, .int .i64 c.fr, .int .i64 c.tt, .bool c.dn, .int .i64 c.gone, .int .i64 c.seq, .int .i64 c.an.code, .int .i64 c.an.done, .slice c.an.D c.an.n c.an.q] 51 ∧ w1.cell? ⟨B, 2, none⟩ = some (.slice (some ⟨b1, p1, none⟩) 1 c1) ∧ w1.cell? ⟨b1, p1, none⟩ = some (.int .u64 c.num)) := Lib.hid fun w1 g => ⟨HB3.out.gr g, (@block_cells _ _ 2 _ _ (HB0.out.blk.gr (HG1.out.trans g))).trans rfl, ((HG1.out.trans g).below.cell (p := ⟨b1, p1, none⟩) HLT1.out).trans HC0.out⟩
 refine wp_region_plan ⟨fun w' => Gr W1 w', fun _ => True⟩ gri trivial [(true, 0), (true, 1), (true, 2), (true, 3), (true, 4), (true, 5), (true, 6), (true, 7)] (by kernel_rfl) (by kernel_rfl) ?_
 simp only [pickP, pick, List.drop, List.take, List.nil_append, List.cons_append, List.map_cons, List.map_nil]
 refine p_same (ptrB B) rfl rfl (fun w1 hj => by go_simp) ?_
 simp only [Act.put, List.setIfInBounds_toArray, List.set]
 refine p_same (.pointer (some ⟨B3, 1, none⟩)) rfl rfl (fun w1 hj => by go_simp) ?_
 simp only [Act.put, List.setIfInBounds_toArray, List.set]
 refine p_same (.int .i64 1) rfl rfl (fun w1 hj => by obtain ⟨x0, x1, x2⟩ := HJ.out w1 hj; have y0 : w1.cell? ⟨B3, 0, none⟩ = some (.int .u64 c.num) := (@block_cells _ _ 0 _ _ x0).trans rfl; have y1 : w1.cell? ⟨B3, 1, none⟩ = some (.int .i64 1) := (@block_cells _ _ 1 _ _ x0).trans rfl; clear x0; go_simp) ?_
 simp only [Act.put, List.setIfInBounds_toArray, List.set]
 refine p_same (ptrB B) rfl rfl (fun w1 hj => by go_simp) ?_
 simp only [Act.put, List.setIfInBounds_toArray, List.set]
 refine p_same (.pointer (some ⟨B, 1, none⟩)) rfl rfl (fun w1 hj => by go_simp) ?_
 simp only [Act.put, List.setIfInBounds_toArray, List.set]
 refine p_same (.pointer (some ⟨B, 2, none⟩)) rfl rfl (fun w1 hj => by go_simp) ?_
 simp only [Act.put, List.setIfInBounds_toArray, List.set]
 refine p_same (.slice (some ⟨b1, p1, none⟩) 1 c1) rfl rfl (fun w1 hj => by obtain ⟨x0, x1, x2⟩ := HJ.out w1 hj; have y0 : w1.cell? ⟨B3, 0, none⟩ = some (.int .u64 c.num) := (@block_cells _ _ 0 _ _ x0).trans rfl; have y1 : w1.cell? ⟨B3, 1, none⟩ = some (.int .i64 1) := (@block_cells _ _ 1 _ _ x0).trans rfl; clear x0; go_simp) ?_
 simp only [Act.put, List.setIfInBounds_toArray, List.set]
 refine p_same (.slice (some ⟨b1, p1, none⟩) 1 c1) rfl rfl (fun w1 hj => by go_simp) ?_
 simp only [Act.put, List.setIfInBounds_toArray, List.set]
 refine p_nil ?_
 intro w2 hj2 _
 have HJ2 := Lib.hid hj2
 clear hj2
 go_wp2
 refine wp_region_plan ⟨fun w' => Gr W1 w', fun _ => True⟩ (HJ2.out.trans gri) trivial [(true, 0), (true, 1), (true, 2), (true, 3), (true, 4), (true, 5), (true, 6), (true, 7), (true, 8), (true, 9), (true, 10), (true, 11)] (by kernel_rfl) (by kernel_rfl) ?_
 simp only [pickP, pick, List.drop, List.take, List.nil_append, List.cons_append, List.map_cons, List.map_nil]
 refine p_same (.slice (some ⟨b1, p1, none⟩) 1 c1) rfl rfl (fun w1 hj => by go_simp) ?_
 simp only [Act.put, List.setIfInBounds_toArray, List.set]
 refine p_same (.int .i64 1) rfl rfl (fun w1 hj => by go_simp) ?_
 simp only [Act.put, List.setIfInBounds_toArray, List.set]
 refine p_same (.bool false) rfl rfl (fun w1 hj => by go_simp) ?_
 simp only [Act.put, List.setIfInBounds_toArray, List.set]
 refine p_same (.bool false) rfl rfl (fun w1 hj => by go_simp) ?_
 simp only [Act.put, List.setIfInBounds_toArray, List.set]
 refine p_same (.slice (some ⟨b1, p1, none⟩) 1 c1) rfl rfl (fun w1 hj => by go_simp) ?_
 simp only [Act.put, List.setIfInBounds_toArray, List.set]
 refine p_same (.pointer (some ⟨b1, p1, none⟩)) rfl rfl (fun w1 hj => by go_simp) ?_
 simp only [Act.put, List.setIfInBounds_toArray, List.set]
 refine p_same (.pointer (some ⟨b1, p1, none⟩)) rfl rfl (fun w1 hj => by go_simp) ?_
 simp only [Act.put, List.setIfInBounds_toArray, List.set]
 refine p_same (.int .u64 c.num) rfl rfl (fun w1 hj => by obtain ⟨x0, x1, x2⟩ := HJ.out w1 hj; have y0 : w1.cell? ⟨B3, 0, none⟩ = some (.int .u64 c.num) := (@block_cells _ _ 0 _ _ x0).trans rfl; have y1 : w1.cell? ⟨B3, 1, none⟩ = some (.int .i64 1) := (@block_cells _ _ 1 _ _ x0).trans rfl; clear x0; go_simp) ?_
 simp only [Act.put, List.setIfInBounds_toArray, List.set]
 refine p_same (.pointer (some ⟨B3, 0, none⟩)) rfl rfl (fun w1 hj => by go_simp) ?_
 simp only [Act.put, List.setIfInBounds_toArray, List.set]
 refine p_same (.int .u64 c.num) rfl rfl (fun w1 hj => by obtain ⟨x0, x1, x2⟩ := HJ.out w1 hj; have y0 : w1.cell? ⟨B3, 0, none⟩ = some (.int .u64 c.num) := (@block_cells _ _ 0 _ _ x0).trans rfl; have y1 : w1.cell? ⟨B3, 1, none⟩ = some (.int .i64 1) := (@block_cells _ _ 1 _ _ x0).trans rfl; clear x0; go_simp) ?_
 simp only [Act.put, List.setIfInBounds_toArray, List.set]
 refine p_same (.bool false) rfl rfl (fun w1 hj => by go_simp) ?_
 simp only [Act.put, List.setIfInBounds_toArray, List.set]
 refine p_same (.bool false) rfl rfl (fun w1 hj => by go_simp) ?_
 simp only [Act.put, List.setIfInBounds_toArray, List.set]
 refine p_nil ?_
 intro w3 hj3 _
 have HJ3 := Lib.hid hj3
 clear hj3 HJ2 w2
 go_wp2_with (first | (go_at_call 66; ((with_reducible refine (HCL.out _ (HG1.out.trans (HJ3.out.trans gri))).mono ?_); rintro _ W4 ⟨rfl, hk4, ws4, wv4, hb4, hm4⟩; have HK4 := Lib.hid hk4; have HCW4 := Lib.hid ((CKB.gr (HG1.out.trans HJ3.out)).trans (CKB.kb hk4)); have HB4 := Lib.hid hb4; have HM4 := Lib.hid hm4; clear hk4 hb4 hm4; obtain ⟨Aw, cw, hvw, _, _, _⟩ := HB4.out.own.form wrIs; obtain ⟨nw, hnw⟩ : ∃ nw, nw = ws4.length := ⟨_, rfl⟩; rw [← hnw] at hvw; subst hvw; have HNW := Lib.hid hnw; have HWL : Hid (ws4.length ≤ 5000) := Lib.hid (by have h1 := congrArg List.length HM4.out; rw [List.length_map] at h1; rw [h1]; exact HOL.out); clear hnw; have HX3 := Lib.hid (HK4.out.block (HB3.out.gr HJ3.out) (by have := HB0.out.blk.lt; rw [HBE.out]; omega)); have b40 : W4.cell? ⟨B, 0, none⟩ = some (.slice Aw nw cw) := (@block_cells _ _ 0 _ _ HB4.out.blk).trans rfl; haveI := HB4.out.blk.old; haveI := HX3.out.old)))
 have HL0 := Lib.hid (AnL.start (num := c.num) (an := c.an.m) (CK.refl W4) (Gr.refl W4) HB4.out.gr HB4.out.all)
 go_loopw [6, 38] (fun v i wl => ∃ k : Nat, k ≤ nw ∧ i = .int .i64 (k : Int) ∧ AnL w W4 ws4 c.num c.an.m k v wl) (fun _ i _ => nw - (intOf i).toNat)
 case atStart => exact ⟨0, Nat.zero_le _, rfl, HL0.out⟩
 case round =>
  obtain ⟨k, hk, rfl, hl⟩ := hrel
  have HL := Lib.hid hl
  clear HL0 b40 hl
  have cx0 : wr.cell? ⟨B3, 0, none⟩ = some (.int .u64 c.num) := HL.out.ck.cell ((@block_cells _ _ 0 _ _ HX3.out).trans rfl)
  have cx15 : wr.cell? ⟨B3, 15, none⟩ = some (.int .i64 c.an.code) := HL.out.ck.cell ((@block_cells _ _ 15 _ _ HX3.out).trans rfl)
  have cx16 : wr.cell? ⟨B3, 16, none⟩ = some (.int .i64 c.an.done) := HL.out.ck.cell ((@block_cells _ _ 16 _ _ HX3.out).trans rfl)
  have cx17 : wr.cell? ⟨B3, 17, none⟩ = some (.slice c.an.D c.an.n c.an.q) := HL.out.ck.cell ((@block_cells _ _ 17 _ _ HX3.out).trans rfl)
  haveI := (HL.out.ck.block HX3.out).old
  by_cases hlt : k < nw
  ·have HLT := Lib.hid hlt
   obtain ⟨x, hx⟩ : ∃ x, ws4[k]? = some x := ⟨_, List.getElem?_eq_getElem (by rw [← HNW.out]; exact hlt)⟩
   obtain ⟨gw, cw', hvw, _, hgw, _, _, hcl, _⟩ := HB4.out.own.cells wrIs (by rintro rfl; simp at hx)
   simp only [Value.slice.injEq] at hvw
   obtain ⟨rfl, hq0, rfl⟩ := hvw
   clear hq0
   have e0 : wr.cell? ⟨gw, k * 2, none⟩ = some (.pointer (some ⟨x.D, 0, none⟩)) := HL.out.ck.cell (by have := hcl k x hx 0 _ rfl; simpa [wrE] using this)
   have e1 : wr.cell? ⟨gw, k * 2 + 1, none⟩ = some (.map (some x.M)) := HL.out.ck.cell (by have := hcl k x hx 1 _ rfl; simpa [wrE] using this)
   haveI : Old gw wr := ⟨Nat.lt_of_lt_of_le hgw HL.out.ck.size⟩
   have hxw := HL.out.rest k x (Nat.le_refl _) hx
   have hge : getK (encA x.as_) c.num = (getK x.as_ c.num).map ansV := getK_enc ansV x.as_ c.num
   have HX := Lib.hid hx
   have HXM := Lib.hid hxw.map
   have HXA := Lib.hid hxw.ans
   have hslt : (k : Int) < (nw : Int) := by omega
   have hnn : nw ≤ 5000 := by rw [HNW.out]; exact HWL.out
   clear hx hcl hgw hxw
   cases hgk : getK x.as_ c.num with
   | none =>
    rw [hgk] at hge
    have HGE := Lib.hid hge
    have HP := Lib.hid (show phiC c.num c.an.m x = none by unfold phiC; rw [hgk])
    clear hge hgk
    go_wp2_with (first | (at_lookup; refine wpList_lookupK (q := .u64) (b := x.M) rfl _ _ rfl c.num Tryz.underlying77 Tryz.underlying24 (Tryz.zeroValue38 _) (HXM.out.gr gri) rfl rfl ?_; rw [HGE.out]))
    go_roundw
    case rel => exact ⟨k + 1, HLT.out, by go_num, (HL.out.grow gri).skip HX.out HP.out⟩
    case measure => have := HLT.out; simp [intOf]; omega
   | some a =>
    rw [hgk] at hge
    have hma := HXA.out _ (getK_in hgk)
    have HSM := Lib.hid (fun W' (g : Gr wr W') => same_any24 a c.an 0 0 W' (hma.gr g) ((HCO.out.an.gr HL.out.gr).gr g))
    have HGE : Hid (getK (encA x.as_) c.num = some (.agg #[.int .i64 a.code, .int .i64 a.done, .slice a.D a.n a.q])) := Lib.hid hge
    cases hsm : sameM a.m c.an.m with
    | false =>
     have HP := Lib.hid (show phiC c.num c.an.m x = none by unfold phiC; rw [hgk]; simp only [hsm]; rfl)
     have HSB := Lib.hid hsm
     clear hge hgk hma hsm
     go_wp2_with (first | (at_lookup; refine wpList_lookupK (q := .u64) (b := x.M) rfl _ _ rfl c.num Tryz.underlying77 Tryz.underlying24 (Tryz.zeroValue38 _) (HXM.out.gr gri) rfl rfl ?_; rw [HGE.out]) | (go_at_call 67; ((with_reducible refine (HSM.out _ gri).mono ?_); rintro _ _ ⟨rfl, ⟨g8, rfl⟩⟩; rw [HSB.out])))
     go_roundw
     case rel => exact ⟨k + 1, HLT.out, by go_num, (HL.out.grow gri).skip HX.out HP.out⟩
     case measure => have := HLT.out; simp [intOf]; omega
    | true =>
     have HP := Lib.hid (show phiC c.num c.an.m x = some { x with as_ := delK x.as_ c.num } by unfold phiC; rw [hgk]; simp only [hsm]; rfl)
     have HSB := Lib.hid hsm
     have HLE : Hid (((ws4.take k).filterMap (phiC c.num c.an.m)).length + [({ x with as_ := delK x.as_ c.num } : WrC)].length ≤ 100000000) := Lib.hid (by have h1 := List.length_filterMap_le (phiC c.num c.an.m) (ws4.take k); rw [List.length_take] at h1; have h2 := HWL.out; simp only [List.length_singleton]; omega)
     clear hge hgk hma hsm
     go_wp2_with (first | (at_lookup; refine wpList_lookupK (q := .u64) (b := x.M) rfl _ _ rfl c.num Tryz.underlying77 Tryz.underlying24 (Tryz.zeroValue38 _) (HXM.out.gr gri) rfl rfl ?_; rw [HGE.out]) | (go_at_call 67; ((with_reducible refine (HSM.out _ gri).mono ?_); rintro _ _ ⟨rfl, ⟨g8, rfl⟩⟩; rw [HSB.out])) | (refine wpList_deleteK rfl _ _ rfl c.num Tryz.underlying77 Tryz.underlying24 (HXM.out.gr gri) rfl rfl fun W5 h1 h2 => ?_; have HD5 := Lib.hid ((HL.out.grow gri).del HX.out HB4.out.pw HB4.out.low h1 h2); have hb8 : BlockAt W5 wr.heap.size #[.pointer (some ⟨x.D, 0, none⟩), .map (some x.M)] 79 := (CK.only (HXM.out.gr gri) h2).block inferInstance; haveI := hb8.old; have c80 : W5.cell? ⟨wr.heap.size, 0, none⟩ = some (.pointer (some ⟨x.D, 0, none⟩)) := (@block_cells _ _ 0 _ _ hb8).trans rfl; have c81 : W5.cell? ⟨wr.heap.size, 1, none⟩ = some (.map (some x.M)) := (@block_cells _ _ 1 _ _ hb8).trans rfl; clear h1 h2 hb8) | (at_builtin; refine wp_append_n (base := W4.heap.size) (v := u6) (xs := (ws4.take k).filterMap (phiC c.num c.an.m)) wrIs rfl _ _ rfl rfl (HD5.out.grow gri).own _ 0 [{ x with as_ := delK x.as_ c.num }] 1 1 rfl rfl (fun _ _ => trivial) (CellsN.block _ inferInstance rfl) HLE.out (Nat.le_trans HD5.out.ck.size past) (by simp) ?_; intro v1 W9 h9; have HL9 := Lib.hid ((HD5.out.grow gri).app HX.out HP.out (fun x hx => (HB4.out.all x hx).hi) HB4.out.gr.below.size h9); clear h9))
     go_roundw
     case rel => exact ⟨k + 1, HLT.out, by go_num, HL9.out⟩
     case measure => have := HLT.out; simp [intOf]; omega
  ·have : k = nw := by omega
   subst this
   have hla := HL.out
   obtain ⟨ws9, hws9⟩ : ∃ l, l = (ws4.take k).filterMap (phiC c.num c.an.m) := ⟨_, rfl⟩
   obtain ⟨A9, c9, hv9, _, _, _⟩ := hla.own.form wrIs
   rw [← hws9] at hv9
   obtain ⟨n9, hn9⟩ : ∃ n9, n9 = ws9.length := ⟨_, rfl⟩
   rw [← hn9] at hv9
   subst hv9
   have HN9 := Lib.hid hn9
   have HWS9 := Lib.hid hws9
   have hbk := hla.ck.block HB4.out.blk
   haveI := hbk.old
   have HBK := Lib.hid hbk
   clear hla hws9 hn9 hbk
   have h1c : 1 ≤ c1 := H11.out
   have hnb : B3 ≠ B := by have := HB0.out.blk.lt; rw [HBE.out]; omega
   have HNB := Lib.hid hnb
   obtain ⟨p2, hp2⟩ : ∃ p2, p2 = if c1 = 1 then p1 else p1 + 18 := ⟨_, rfl⟩
   have HP2 := Lib.hid hp2
   clear hp2
   clear hnb
   go_wp2
   refine wp_region_plan ⟨fun w' => BlockAt w' B3 #[.int .u64 c.num, .int .i64 1, .int .i64 c.o.o.k, .int .u64 c.o.o.v, .int .u64 c.o.o.t, .int .i64 c.o.o.s, .int .i64 c.o.o.a, .int .i64 c.o.o.c, .slice c.o.D c.o.n c.o.q, .int .i64 c.at_, .int .i64 c.fr, .int .i64 c.tt, .bool c.dn, .int .i64 c.gone, .int .i64 c.seq, .int .i64 c.an.code, .int .i64 c.an.done, .slice c.an.D c.an.n c.an.q] 51, fun w' => Gr wr w'⟩ ((HL.out.ck.block HX3.out).gr gri) gri [(true,0),(true,1),(true,2),(true,3),(true,4),(true,5),(true,6),(true,7),(true,8),(true,10),(true,11),(false,9),(true,12),(false,13)] (by kernel_rfl) (by kernel_rfl) ?_
   simp only [pickP, pick, List.drop, List.take, List.nil_append, List.cons_append, List.map_cons, List.map_nil]
   refine p_same (ptrB B) rfl rfl (fun w1 hj => by go_simp) ?_
   simp only [Act.put, List.setIfInBounds_toArray, List.set]
   refine p_same (ptrB B) rfl rfl (fun w1 hj => by go_simp) ?_
   simp only [Act.put, List.setIfInBounds_toArray, List.set]
   refine p_same (.pointer (some ⟨B3, 1, none⟩)) rfl rfl (fun w1 hj => by go_simp) ?_
   simp only [Act.put, List.setIfInBounds_toArray, List.set]
   refine p_same (.int .i64 1) rfl rfl (fun w1 hj => by have y1 : w1.cell? ⟨B3, 1, none⟩ = some (.int .i64 1) := (@block_cells _ _ 1 _ _ hj).trans rfl; go_simp) ?_
   simp only [Act.put, List.setIfInBounds_toArray, List.set]
   refine p_same (.slice A9 n9 c9) rfl rfl (fun w1 hj => by go_simp) ?_
   simp only [Act.put, List.setIfInBounds_toArray, List.set]
   refine p_same (.slice (some ⟨b1, p1, none⟩) 1 c1) rfl rfl (fun w1 hj => by go_simp) ?_
   simp only [Act.put, List.setIfInBounds_toArray, List.set]
   refine p_same (.slice (some ⟨b1, p2, none⟩) 0 (c1 - 1)) rfl rfl (fun w1 hj => by (rcases Decidable.em (c1 = 1) with hc9 | hc9); (focus (rw [HP2.out, if_pos hc9]; first | done | (subst hc9; go_simp))); (focus (rw [HP2.out, if_neg hc9]; first | done | go_simp))) ?_
   simp only [Act.put, List.setIfInBounds_toArray, List.set]
   refine p_same (ptrB B) rfl rfl (fun w1 hj => by go_simp) ?_
   simp only [Act.put, List.setIfInBounds_toArray, List.set]
   refine p_same (.pointer (some ⟨B, 0, none⟩)) rfl rfl (fun w1 hj => by go_simp) ?_
   simp only [Act.put, List.setIfInBounds_toArray, List.set]
   refine p_same (ptrB B) rfl rfl (fun w1 hj => by go_simp) ?_
   simp only [Act.put, List.setIfInBounds_toArray, List.set]
   refine p_same (.pointer (some ⟨B, 1, none⟩)) rfl rfl (fun w1 hj => by go_simp) ?_
   simp only [Act.put, List.setIfInBounds_toArray, List.set]
   refine p_eff0 rfl rfl (fun w1 hj he => effAt_storeS rfl rfl rfl (run_storeBw n9 c9 A9 (HBK.out.gr he) rfl) ⟨⟨fun w' => BlockAt w' B3 #[.int .u64 c.num, .int .i64 1, .int .i64 c.o.o.k, .int .u64 c.o.o.v, .int .u64 c.o.o.t, .int .i64 c.o.o.s, .int .i64 c.o.o.a, .int .i64 c.o.o.c, .slice c.o.D c.o.n c.o.q, .int .i64 c.at_, .int .i64 c.fr, .int .i64 c.tt, .bool c.dn, .int .i64 c.gone, .int .i64 c.seq, .int .i64 c.an.code, .int .i64 c.an.done, .slice c.an.D c.an.n c.an.q] 51, fun w' => BkA w B ws9 q0 (some x1) gn (.slice A9 n9 c9) v0 (.slice (some ⟨b1, p1, none⟩) 1 c1) gv w' ∧ CKB B W w'⟩, ⟨⟨(Below.heap_setCell w1 ⟨B, 0, none⟩ _ B3 HNB.out).trans hj.eq⟩, (by rw [HWS9.out, List.take_of_length_le (by rw [← HNW.out]; exact Nat.le_refl _)]; exact HB4.out.next (HL.out.grow he) (by rw [← HNW.out]; exact Nat.le_refl _)), ((HCW4.out.trans (CKB.ck HL.out.ck)).trans (CKB.gr he)).trans (CKB.set B 0 w1 _)⟩, fun _ h => h, ?_⟩)
   refine p_same (.pointer (some ⟨B, 2, none⟩)) rfl rfl (fun w1 hj => by go_simp) ?_
   simp only [Act.put, List.setIfInBounds_toArray, List.set]
   refine p_eff0 rfl rfl (fun w1 hj he => effAt_storeS rfl rfl rfl (run_storeBc 2 _ _ _ he.1.blk rfl) ⟨⟨fun w' => BlockAt w' B3 #[.int .u64 c.num, .int .i64 1, .int .i64 c.o.o.k, .int .u64 c.o.o.v, .int .u64 c.o.o.t, .int .i64 c.o.o.s, .int .i64 c.o.o.a, .int .i64 c.o.o.c, .slice c.o.D c.o.n c.o.q, .int .i64 c.at_, .int .i64 c.fr, .int .i64 c.tt, .bool c.dn, .int .i64 c.gone, .int .i64 c.seq, .int .i64 c.an.code, .int .i64 c.an.done, .slice c.an.D c.an.n c.an.q] 51, fun w' => BkA w B ws9 q0 none gn (.slice A9 n9 c9) v0 (.slice (some ⟨b1, p2, none⟩) 0 (c1 - 1)) gv w' ∧ CKB B W w'⟩, ⟨⟨(Below.heap_setCell w1 ⟨B, 2, none⟩ _ B3 HNB.out).trans hj.eq⟩, he.1.set1 ⟨_, _, _, rfl, Nat.zero_le _, by have := H12.out; omega, rfl, fun x hx => (by cases hx)⟩ (fun c hc => (by cases hc)), he.2.trans (CKB.set B 2 w1 _)⟩, fun _ h => h, ?_⟩)
   refine p_nil ?_
   intro w5 hj5 he5
   have HE5 := Lib.hid he5
   clear hj5 he5
   have hfin : ∀ r, r = Value.int .i64 (if ws9.length = 0 then 9 else 0) → AnPost w W B q0 gn v0 gv (outM.filterMap (phiM c.num c.an.m)) (.returned r) w5 := fun r hr => by
    have hres : ws9.map WrC.p = outM.filterMap (phiM c.num c.an.m) := by
     rw [HWS9.out, List.take_of_length_le (by rw [← HNW.out]; exact Nat.le_refl _), phi_ps, HM4.out]
    refine ⟨?_, HE5.out.2, ws9, _, _, HE5.out.1, hres⟩
    rw [hr, ← hres, List.length_map]
   have HFIN := Lib.hid hfin
   clear hfin
   by_cases h90 : n9 = 0
   ·have hr := HFIN.out (.int .i64 9) (by rw [← HN9.out, if_pos h90])
    have HR := Lib.hid hr
    clear hr
    subst h90
    go_wp2
    refine bodyPost_ret (results_tmp rfl _ _ _) rfl ?_
    exact HR.out
   ·have hr := HFIN.out (.int .i64 0) (by rw [← HN9.out, if_neg h90])
    have HR := Lib.hid hr
    clear hr
    have hn9 : (n9 : Int) ≠ 0 := by omega
    go_wp2
    refine bodyPost_ret (results_tmp rfl _ _ _) rfl ?_
    exact HR.out
set_option maxRecDepth 100000
set_option maxHeartbeats 4000000
theorem below_setCellsL {base g : Nat} (h : base ≤ g) : ∀ (vs : List Value) (o : Nat) (w W : World), Below base w W → Below base w (W.setCells g o vs)
 | [], o, w, W, hb => hb
 | v :: r, o, w, W, hb => below_setCellsL h r (o + 1) w _ (hb.setCell (p := ⟨g, o, none⟩) h v)
abbrev lF (Bc Bf : Nat) : Value := .func (.func 65) #[] #[ptrB Bc, ptrB Bf]
theorem left1_any (x : CallC) (Bc Bf : Nat) (W : World) [Old Bc W] [Old Bf W] (hc : W.cell? ⟨Bc, 0, none⟩ = some (.int .u64 x.num)) : Calls Tryz.prog 65 #[.agg (callL x).toArray, ptrB Bc, ptrB Bf] W fun e w' => e = .returned (.bool true) ∧ Gr W w' := by
 have hcl : (callL x).toArray = #[.int .u64 x.num, .int .i64 x.node, .int .i64 x.o.o.k, .int .u64 x.o.o.v, .int .u64 x.o.o.t, .int .i64 x.o.o.s, .int .i64 x.o.o.a, .int .i64 x.o.o.c, .slice x.o.D x.o.n x.o.q, .int .i64 x.at_, .int .i64 x.fr, .int .i64 x.tt, .bool x.dn, .int .i64 x.gone, .int .i64 x.seq, .int .i64 x.an.code, .int .i64 x.an.done, .slice x.an.D x.an.n x.an.q] := by simp [callL]
 rw [hcl]
 clear hcl
 go_enter Tryz.func65, Tryz.ntmps65
 go_wp2
 go_ret
 exact ⟨rfl, gri⟩
theorem index_one (x : CallC) (base g cap Bc Bf : Nat) (W : World) [Old Bc W] [Old Bf W] (hc : W.cell? ⟨Bc, 0, none⟩ = some (.int .u64 x.num)) (h : CellsN callE W g 0 [x]) [Old g W] : Calls Tryz.prog 92 #[.slice (some ⟨g, 0, none⟩) 1 cap, lF Bc Bf] W fun e w' => e = .returned (.int .i64 0) ∧ Gr W w' := by
 have HF := Lib.hid (fun W' (g : Gr W W') => @left1_any x Bc Bf W' ⟨Nat.lt_of_lt_of_le (Old.lt (b := Bc) (W := W)) g.below.size⟩ ⟨Nat.lt_of_lt_of_le (Old.lt (b := Bf) (W := W)) g.below.size⟩ ((g.below.cell (p := ⟨Bc, 0, none⟩) (Old.lt (b := Bc) (W := W))).trans hc))
 have hrow : ∀ W', Gr W W' → ∀ (i : Nat) u, (callL x)[i]? = some u → W'.cell? ((⟨g, 0, none⟩ : Addr).add i) = some u := fun W' gr i u hu => by
  have := h 0 x rfl i u hu
  rw [Go.WideShapes.add_plain]
  refine (gr.below.cell (p := ⟨g, 0 + i, none⟩) (Old.lt (b := g) (W := W))).trans ?_
  simpa [callE] using this
 have HROW := Lib.hid hrow
 clear h hrow hc
 go_enter Tryz.func92, Tryz.ntmps92
 go_wp2
 go_loopw [8] (fun i wl => i = .int .i64 0 ∧ Gr W wl) (fun i _ => 1)
 case atStart => exact ⟨rfl, gri⟩
 case round =>
  obtain ⟨rfl, hg⟩ := hrel
  have HG := Lib.hid hg
  haveI := grc_of hg
  haveI := from_of hg
  clear hg
  go_wp2_with (first
   | (refine wpLoadCs rfl _ _ rfl ⟨g, 0, none⟩ (callL x) _ rfl Tryz.underlying51 rfl (by kernel_rfl) (HROW.out _ (HG.out.trans gri)) ?_)
   | (go_at_call 65; ((with_reducible refine (HF.out _ (HG.out.trans gri)).mono ?_); rintro _ _ ⟨rfl, ⟨g8, rfl⟩⟩)))
  refine bodyPost_ret (results_tmp rfl _ _ _) rfl ?_
  exact ⟨rfl, gri⟩
theorem run_clear18 {W : World} {g : Nat} {x : CallC} (cap : Nat) (h : CellsN callE W g 0 [x]) (hf : ∀ o, W.frozen? ⟨g, o, none⟩ = false) (ty : TypeId) : (Builtin.clear_ #[52] ty #[.slice (some ⟨g, 0, none⟩) 1 cap]).run Tryz.prog W = .ok (.tuple #[]) (W.setCells g 0 (Builtin.zeroCells callZ.cells 1).toList) := by
 have hl : (Builtin.zeroCells callZ.cells 1).toList.length = 18 := by kernel_rfl
 have h1 : ∀ v ∈ (Builtin.zeroCells callZ.cells 1).toList, v.oneCell' = true := by
  have : (Builtin.zeroCells callZ.cells 1).toList.all (·.oneCell') = true := by kernel_rfl
  exact fun v hv => List.all_eq_true.1 this v hv
 have hst := run_storeCells_cells (P := Tryz.prog) g 0 _ 0 W (fun j hj => by
  have hlt : j < (callL x).length := by rw [hl] at hj; exact hj
  have := h 0 x rfl j _ (List.getElem?_eq_getElem hlt)
  simp only [Nat.zero_mul, Nat.zero_add, Nat.add_zero] at this ⊢
  rw [this]
  rfl) (fun j _ => hf _) h1
 simp only [Nat.add_zero] at hst
 have hz : (zeroValue 51).run Tryz.prog W = .ok callZ W := Tryz.zeroValue51 _
 simp [Builtin.clear_, run_underlying Tryz.underlying52, hz, hst]
theorem delete_one (x : CallC) (base g cap Bc Bf : Nat) (W : World) [Old Bc W] [Old Bf W] (hc : W.cell? ⟨Bc, 0, none⟩ = some (.int .u64 x.num)) (h : CellsN callE W g 0 [x]) (hf : ∀ o, W.frozen? ⟨g, o, none⟩ = false) [Old g W] : Calls Tryz.prog 63 #[.slice (some ⟨g, 0, none⟩) 1 cap, lF Bc Bf] W fun e w' => e = .returned (.slice (some ⟨g, 0, none⟩) 0 cap) ∧ ∃ zs W1, Gr W W1 ∧ w' = W1.setCells g 0 zs := by
 have HI := Lib.hid (index_one x base g cap Bc Bf W hc h)
 have HCL := Lib.hid (fun W' (gr : Gr W W') (hf : ∀ o, W'.frozen? ⟨g, o, none⟩ = false) => run_clear18 cap (h.gr (Old.lt (b := g) (W := W)) gr) hf)
 have HFZ := Lib.hid hf
 clear hc h hf
 go_enter Tryz.func63, Tryz.ntmps63
 go_wp2_with (first | (go_at_call 92; ((with_reducible refine HI.out.mono ?_); rintro _ _ ⟨rfl, ⟨g8, rfl⟩⟩)))
 obtain ⟨W1, hW1⟩ : ∃ W1, W1 = grown W g8 := ⟨_, rfl⟩
 have hg1 : Gr W W1 := by rw [hW1]; exact gri
 rw [← hW1]
 have HG1 := Lib.hid hg1
 have hfz : ∀ o, W1.frozen? ⟨g, o, none⟩ = false := fun o => by
  rw [← HFZ.out o]
  simp only [World.frozen?]
  rw [hg1.below.block g (Old.lt (b := g) (W := W))]
 obtain ⟨zs, hzs⟩ : ∃ zs, ∀ ty, (Builtin.clear_ #[52] ty #[.slice (some ⟨g, 0, none⟩) 1 cap]).run Tryz.prog W1 = .ok (.tuple #[]) (W1.setCells g 0 zs) := ⟨_, fun ty => HCL.out W1 hg1 hfz ty⟩
 clear hW1 hg1 hfz
 have HZ := Lib.hid hzs
 clear hzs
 go_loopw [5, 6] (fun i j wl => i = .int .i64 0 ∧ j = .int .i64 1 ∧ wl = W1) (fun i _ _ => 1)
 case atStart => exact ⟨rfl, rfl, rfl⟩
 case round =>
  obtain ⟨rfl, rfl, rfl⟩ := hrel
  have hcl := HZ.out
  go_wp2_with (simp only [hcl])
  refine bodyPost_ret (results_tmp rfl _ _ _) rfl ?_
  exact ⟨rfl, zs, _, HG1.out, rfl⟩
set_option maxRecDepth 100000
set_option maxHeartbeats 4000000
theorem run_load_call {o : Oper} {a : Act} {w : World} {x : Operand} {B : Nat} {l : List Value} (ho : o.op = .load 51 x) (hx : a.eval x = .pointer (some ⟨B, 0, none⟩)) (hB : BlockAt w B l.toArray 51) (hl : l.length = 18) : (execOp a.eval o).run Tryz.prog w = .ok (.value (.agg l.toArray)) w := by
 have h := run_loadAt_mid (P := Tryz.prog) w B 0 51 l _ (fun j v hv => by rw [Nat.zero_add]; exact (@block_cells _ _ j _ _ hB).trans (by simpa using hv)) Tryz.underlying51 rfl (by rw [hl]; kernel_rfl)
 unfold execOp
 simp only [ho, hx, Sem.run_bind, h, Result.andThen_ok, Sem.run_pure]
theorem run_storeBl (Bf : Nat) {w : World} (u v : Bool) (hB : BlockAt w Bf #[.bool u] 4) : (storeVar 4 ⟨Bf, 0, none⟩ (.bool v)).run Tryz.prog w = .ok () (w.setCell ⟨Bf, 0, none⟩ (.bool v)) := by
 have cxd : w.cell? ⟨Bf, 0, none⟩ = some (.bool u) := (@block_cells _ _ 0 _ _ hB).trans rfl
 have fxd : w.frozen? ⟨Bf, 0, none⟩ = false := @block_frozen _ _ 0 _ _ hB
 go_simp
theorem clone_one (b p cap : Nat) (x : CallC) (w : World) (h : CellsN callE w b p [x]) [hb : Old b w] : Calls Tryz.prog 64 #[.slice (some ⟨b, p, none⟩) 1 cap] w fun e w' => ∃ g cap', e = .returned (.slice (some ⟨g, 0, none⟩) 1 cap') ∧ w.heap.size ≤ g ∧ CellsN callE w' g 0 [x] ∧ (∀ o, w'.frozen? ⟨g, o, none⟩ = false) ∧ g < w'.heap.size ∧ 1 ≤ cap' ∧ cap' ≤ maxLen ∧ Gr w w' := by
 have hr : RowN callE w (some ⟨b, p, none⟩) [x] := ⟨fun _ _ => trivial, fun _ => ⟨b, p, rfl, hb.lt, h⟩⟩
 have HR := Lib.hid hr
 have HE := Lib.hid (fun (W : World) (g : Gr w W) (hB : BlockAt W w.heap.size #[] 51) => show OwnN callE w.heap.size W (.slice (some ⟨w.heap.size, 0, none⟩) 0 0) [] from ⟨by simp, by simp, .inr ⟨w.heap.size, 0, #[], rfl, Nat.le_refl _, hB.eq, Nat.le_refl _, Nat.zero_le _, rfl, rfl⟩⟩)
 clear hr h
 go_enter Tryz.func64, Tryz.ntmps64
 go_wp2_with (first | (at_builtin; refine wp_append_x callIs rfl _ _ rfl rfl (HE.out _ gri inferInstance) (some ⟨b, p, none⟩) [x] 1 cap rfl rfl (fun e => by cases e) (HR.out.gr gri) (by simp) past ?_; intro v1 W1 h1; have H1 := Lib.hid h1; clear h1; haveI := H1.out.grc w (Nat.le_refl _); haveI := H1.out.from_ w))
 go_ret
 obtain ⟨g, c', hv, h2, h3, h4, h5, h6, h7⟩ := H1.out.own.cells callIs (by simp)
 exact ⟨g, c', by rw [hv]; rfl, h2, by simpa using h6, h7, h3, by simpa using h4, h5, gri⟩
theorem BkA.setG {w W : World} {B : Nat} {ws : List WrC} {q0 q1 : Option CallC} {gn gn' : List CallC} {wv v0 v1 gv gv' : Value} (h : BkA w B ws q0 q1 gn wv v0 v1 gv W) (hg : OwnN callE w.heap.size W gv' gn') (hck : ∀ c ∈ gn', CallOk w c) : BkA w B ws q0 q1 gn' wv v0 v1 gv' (W.setCell ⟨B, 3, none⟩ gv') := by
 have hb := h.blk
 haveI := hb
 refine ⟨?_, h.own.set_ B 3 gv' (cs := #[wv, v0, v1, gv]) (T := 83) (by decide), h.w0.setB hb, h.w1.setB hb, hg.set_ B 3 gv' (cs := #[wv, v0, v1, gv]) (T := 83) (by decide), Gr.of (h.gr.below.setCell (p := ⟨B, 3, none⟩) h.bB _), h.bB, fun x hx => (h.all x hx).setB hb, h.pw, fun c hc => ?_, h.low⟩
 ·show BlockAt _ _ (#[wv, v0, v1, gv].setIfInBounds 3 _) _
  infer_instance
 ·rcases List.mem_append.1 hc with hc | hc
  ·exact hck c hc
  ·exact h.ck c (List.mem_append_right _ hc)
theorem left_0 {w : World} {B : Nat} {ws : List WrC} {q1 : Option CallC} {wv v0 v1 : Value} {W : World} (c x0 : CallC) (h : BkA w B ws (some x0) q1 [] wv v0 v1 (.slice none 0 0) W) (hnode : c.node = 0) (hnum : x0.num = c.num) (hco : CallOk w c) :
  Calls Tryz.prog 33 #[ptrB B, .agg (callL c).toArray] W (fun e w' => e = .returned (.tuple #[]) ∧ CKB B W w' ∧ ∃ v0' gv', BkA w B ws none q1 [c] wv v0' v1 gv' w') := by
 obtain ⟨A0, n0, c0, hv0, h01, h02, h03, h04⟩ := h.w0
 subst hv0
 obtain ⟨b0, p0, cs0, f0, hA0, hb0, hc0⟩ := h04 x0 rfl
 subst hA0
 have hn0 : n0 = 1 := h03
 subst hn0
 have hcl : (callL c).toArray = #[.int .u64 c.num, .int .i64 0, .int .i64 c.o.o.k, .int .u64 c.o.o.v, .int .u64 c.o.o.t, .int .i64 c.o.o.s, .int .i64 c.o.o.a, .int .i64 c.o.o.c, .slice c.o.D c.o.n c.o.q, .int .i64 c.at_, .int .i64 c.fr, .int .i64 c.tt, .bool c.dn, .int .i64 c.gone, .int .i64 c.seq, .int .i64 c.an.code, .int .i64 c.an.done, .slice c.an.D c.an.n c.an.q] := by simp [callL, hnode]
 rw [hcl]
 have HCL := Lib.hid hcl
 have HB0 := Lib.hid h
 have hlt0 := (Array.getElem?_eq_some_iff.1 hb0).1
 have k0 : W.cell? ⟨b0, p0, none⟩ = some (.int .u64 c.num) := by rw [← hnum]; have := hc0 0 x0 rfl 0 _ rfl; simpa [callE] using this
 have HC0 := Lib.hid k0
 have HLT0 := Lib.hid hlt0
 have HNU := Lib.hid hnum
 have HCO := Lib.hid hco
 have k2 : W.cell? ⟨B, 1, none⟩ = some (.slice (some ⟨b0, p0, none⟩) 1 c0) := (@block_cells _ _ 1 _ _ h.blk).trans rfl
 haveI := h.blk.old
 haveI : Old b0 W := ⟨hlt0⟩
 clear h h01 h02 h03 h04 hc0 hb0 hlt0 hcl hnode hnum hco
 go_enter Tryz.func33, Tryz.ntmps33
 go_wp2
 obtain ⟨B3, hB3⟩ : ∃ B3, B3 = W.heap.size := ⟨_, rfl⟩
 obtain ⟨W1, hW1⟩ : ∃ W1, W1 = W.alloc (.cells #[.int .u64 c.num, .int .i64 0, .int .i64 c.o.o.k, .int .u64 c.o.o.v, .int .u64 c.o.o.t, .int .i64 c.o.o.s, .int .i64 c.o.o.a, .int .i64 c.o.o.c, .slice c.o.D c.o.n c.o.q, .int .i64 c.at_, .int .i64 c.fr, .int .i64 c.tt, .bool c.dn, .int .i64 c.gone, .int .i64 c.seq, .int .i64 c.an.code, .int .i64 c.an.done, .slice c.an.D c.an.n c.an.q] 51) := ⟨_, rfl⟩
 have g1 : Gr W W1 := by rw [hW1]; exact gri
 have b3 : BlockAt W1 B3 #[.int .u64 c.num, .int .i64 0, .int .i64 c.o.o.k, .int .u64 c.o.o.v, .int .u64 c.o.o.t, .int .i64 c.o.o.s, .int .i64 c.o.o.a, .int .i64 c.o.o.c, .slice c.o.D c.o.n c.o.q, .int .i64 c.at_, .int .i64 c.fr, .int .i64 c.tt, .bool c.dn, .int .i64 c.gone, .int .i64 c.seq, .int .i64 c.an.code, .int .i64 c.an.done, .slice c.an.D c.an.n c.an.q] 51 := by rw [hW1, hB3]; infer_instance
 rw [← hW1, ← hB3]
 have HB3 := Lib.hid b3
 have HG1 := Lib.hid g1
 have HBE := Lib.hid (show B3 ≠ B by have := HB0.out.blk.lt; rw [hB3]; omega)
 clear hW1 hB3 g1 b3 k0 k2
 have HJ : Hid (∀ w1, Gr W1 w1 → BlockAt w1 B3 #[.int .u64 c.num, .int .i64 0, .int .i64 c.o.o.k, .int .u64 c.o.o.v, .int .u64 c.o.o.t, .int .i64 c.o.o.s, .int .i64 c.o.o.a, .int .i64 c.o.o.c, .slice c.o.D c.o.n c.o.q, .int .i64 c.at_, .int .i64 c.fr, .int .i64 c.tt, .bool c.dn, .int .i64 c.gone, .int .i64 c.seq, .int .i64 c.an.code, .int .i64 c.an.done, .slice c.an.D c.an.n c.an.q] 51 ∧ w1.cell? ⟨B, 1, none⟩ = some (.slice (some ⟨b0, p0, none⟩) 1 c0) ∧ w1.cell? ⟨b0, p0, none⟩ = some (.int .u64 c.num)) := Lib.hid fun w1 g => ⟨HB3.out.gr g, (@block_cells _ _ 1 _ _ (HB0.out.blk.gr (HG1.out.trans g))).trans rfl, ((HG1.out.trans g).below.cell (p := ⟨b0, p0, none⟩) HLT0.out).trans HC0.out⟩
 refine wp_region_plan ⟨fun w' => Gr W1 w', fun _ => True⟩ gri trivial [(true, 0), (true, 1), (true, 2), (true, 3), (true, 4), (true, 5), (true, 6), (true, 7)] (by kernel_rfl) (by kernel_rfl) ?_
 simp only [pickP, pick, List.drop, List.take, List.nil_append, List.cons_append, List.map_cons, List.map_nil]
 refine p_same (ptrB B) rfl rfl (fun w1 hj => by go_simp) ?_
 simp only [Act.put, List.setIfInBounds_toArray, List.set]
 refine p_same (.pointer (some ⟨B3, 1, none⟩)) rfl rfl (fun w1 hj => by go_simp) ?_
 simp only [Act.put, List.setIfInBounds_toArray, List.set]
 refine p_same (.int .i64 0) rfl rfl (fun w1 hj => by obtain ⟨x0, x1, x2⟩ := HJ.out w1 hj; have y0 : w1.cell? ⟨B3, 0, none⟩ = some (.int .u64 c.num) := (@block_cells _ _ 0 _ _ x0).trans rfl; have y1 : w1.cell? ⟨B3, 1, none⟩ = some (.int .i64 0) := (@block_cells _ _ 1 _ _ x0).trans rfl; clear x0; go_simp) ?_
 simp only [Act.put, List.setIfInBounds_toArray, List.set]
 refine p_same (ptrB B) rfl rfl (fun w1 hj => by go_simp) ?_
 simp only [Act.put, List.setIfInBounds_toArray, List.set]
 refine p_same (.pointer (some ⟨B, 1, none⟩)) rfl rfl (fun w1 hj => by go_simp) ?_
 simp only [Act.put, List.setIfInBounds_toArray, List.set]
 refine p_same (.pointer (some ⟨B, 1, none⟩)) rfl rfl (fun w1 hj => by go_simp) ?_
 simp only [Act.put, List.setIfInBounds_toArray, List.set]
 refine p_same (.slice (some ⟨b0, p0, none⟩) 1 c0) rfl rfl (fun w1 hj => by obtain ⟨x0, x1, x2⟩ := HJ.out w1 hj; have y0 : w1.cell? ⟨B3, 0, none⟩ = some (.int .u64 c.num) := (@block_cells _ _ 0 _ _ x0).trans rfl; have y1 : w1.cell? ⟨B3, 1, none⟩ = some (.int .i64 0) := (@block_cells _ _ 1 _ _ x0).trans rfl; clear x0; go_simp) ?_
 simp only [Act.put, List.setIfInBounds_toArray, List.set]
 refine p_same (.slice (some ⟨b0, p0, none⟩) 1 c0) rfl rfl (fun w1 hj => by go_simp) ?_
 simp only [Act.put, List.setIfInBounds_toArray, List.set]
 refine p_nil ?_
 intro w2 hj2 _
 have HJ2 := Lib.hid hj2
 clear hj2
 go_wp2
 refine wp_region_plan ⟨fun w' => Gr W1 w', fun w' => Gr W1 w'⟩ (HJ2.out.trans gri) (HJ2.out.trans gri) [(true, 0), (true, 1), (true, 2), (true, 3), (true, 4), (true, 5), (true, 6), (false, 7), (false, 8)] (by kernel_rfl) (by kernel_rfl) ?_
 simp only [pickP, pick, List.drop, List.take, List.nil_append, List.cons_append, List.map_cons, List.map_nil]
 refine p_same (.slice (some ⟨b0, p0, none⟩) 1 c0) rfl rfl (fun w1 hj => by go_simp) ?_
 simp only [Act.put, List.setIfInBounds_toArray, List.set]
 refine p_same (.pointer (some ⟨b0, p0, none⟩)) rfl rfl (fun w1 hj => by go_simp) ?_
 simp only [Act.put, List.setIfInBounds_toArray, List.set]
 refine p_same (.pointer (some ⟨b0, p0, none⟩)) rfl rfl (fun w1 hj => by go_simp) ?_
 simp only [Act.put, List.setIfInBounds_toArray, List.set]
 refine p_same (.int .u64 c.num) rfl rfl (fun w1 hj => by obtain ⟨x0, x1, x2⟩ := HJ.out w1 hj; have y0 : w1.cell? ⟨B3, 0, none⟩ = some (.int .u64 c.num) := (@block_cells _ _ 0 _ _ x0).trans rfl; have y1 : w1.cell? ⟨B3, 1, none⟩ = some (.int .i64 0) := (@block_cells _ _ 1 _ _ x0).trans rfl; clear x0; go_simp) ?_
 simp only [Act.put, List.setIfInBounds_toArray, List.set]
 refine p_same (.pointer (some ⟨B3, 0, none⟩)) rfl rfl (fun w1 hj => by go_simp) ?_
 simp only [Act.put, List.setIfInBounds_toArray, List.set]
 refine p_same (.int .u64 c.num) rfl rfl (fun w1 hj => by obtain ⟨x0, x1, x2⟩ := HJ.out w1 hj; have y0 : w1.cell? ⟨B3, 0, none⟩ = some (.int .u64 c.num) := (@block_cells _ _ 0 _ _ x0).trans rfl; have y1 : w1.cell? ⟨B3, 1, none⟩ = some (.int .i64 0) := (@block_cells _ _ 1 _ _ x0).trans rfl; clear x0; go_simp) ?_
 simp only [Act.put, List.setIfInBounds_toArray, List.set]
 refine p_same (.bool true) rfl rfl (fun w1 hj => by go_simp) ?_
 simp only [Act.put, List.setIfInBounds_toArray, List.set]
 refine p_eff rfl rfl (fun w1 hj he => effAt_of (v := .pointer (some ⟨w1.heap.size, 0, none⟩)) (w' := w1.alloc (.cells #[.bool false] 4)) (by go_simp) ?_)
 obtain ⟨Bf, hBf⟩ : ∃ Bf, Bf = w1.heap.size := ⟨_, rfl⟩
 refine ⟨⟨fun w' => Gr W1 w', fun w' => BlockAt w' Bf #[.bool false] 4⟩, ⟨hj.trans gri, by rw [hBf]; infer_instance⟩, fun _ h => h, ?_⟩
 rw [← hBf]
 have HBf : Hid (W1.heap.size ≤ Bf) := Lib.hid (by rw [hBf]; exact hj.below.size)
 clear hBf hj he HJ2 w1
 simp only [Act.put, List.setIfInBounds_toArray, List.set]
 refine p_eff0 rfl rfl (fun w1 hj he => effAt_storeS rfl rfl rfl (run_storeBl Bf false true he) ⟨⟨fun w' => Gr W1 w', fun w' => BlockAt w' Bf #[.bool true] 4⟩, ⟨Gr.of (hj.below.setCell (p := ⟨Bf, 0, none⟩) HBf.out _), ?_⟩, fun _ h => h, ?_⟩)
 ·show BlockAt _ _ (#[.bool false].setIfInBounds 0 (.bool true)) _
  infer_instance
 refine p_nil ?_
 intro w3 hj3 he3
 have HJ3 := Lib.hid hj3
 have HF3 := Lib.hid he3
 have hbf3 : w3.cell? ⟨Bf, 0, none⟩ = some (.bool true) := (@block_cells _ _ 0 _ _ he3).trans rfl
 haveI := he3.old
 have HX3 := Lib.hid (HJ.out w3 hj3).1
 have HB4 := Lib.hid (HB0.out.grow (HG1.out.trans hj3))
 clear hj3 he3 w2
 go_wp2
 clear hbf3
 have HNB := Lib.hid (show Bf ≠ B by have h1 := HB0.out.blk.lt; have h2 := HBf.out; have h3 := HG1.out.below.size; omega)
 have C3 : Hid (∀ w1, Gr w3 w1 → w1.cell? ⟨B, 3, none⟩ = some (.slice none 0 0)) := Lib.hid fun w1 g => (@block_cells _ _ 3 _ _ (HB4.out.blk.gr g)).trans rfl
 have HCK := Lib.hid (show ∀ x ∈ [c], CallOk w x from fun x hx => by rw [List.mem_singleton.1 hx]; exact HCO.out)
 refine wp_region_planT ⟨fun w' => BlockAt w' B3 #[.int .u64 c.num, .int .i64 0, .int .i64 c.o.o.k, .int .u64 c.o.o.v, .int .u64 c.o.o.t, .int .i64 c.o.o.s, .int .i64 c.o.o.a, .int .i64 c.o.o.c, .slice c.o.D c.o.n c.o.q, .int .i64 c.at_, .int .i64 c.fr, .int .i64 c.tt, .bool c.dn, .int .i64 c.gone, .int .i64 c.seq, .int .i64 c.an.code, .int .i64 c.an.done, .slice c.an.D c.an.n c.an.q] 51 ∧ BlockAt w' Bf #[.bool true] 4 ∧ w'.cell? ⟨B, 3, none⟩ = some (.slice none 0 0), fun w' => Gr w3 w'⟩ ⟨HX3.out.gr gri, HF3.out.gr gri, C3.out _ gri⟩ gri 10 [(true, 0), (true, 1), (true, 2), (true, 3), (true, 4), (true, 5), (false, 6), (false, 7), (true, 8), (true, 9)] (by kernel_rfl) (by kernel_rfl) ?_
 simp only [pickP, pick, List.drop, List.take, List.nil_append, List.cons_append, List.map_cons, List.map_nil]
 refine p_same (ptrB B) rfl rfl (fun w1 hj => by go_simp) ?_
 simp only [Act.put, List.setIfInBounds_toArray, List.set]
 refine p_same (ptrB B) rfl rfl (fun w1 hj => by go_simp) ?_
 simp only [Act.put, List.setIfInBounds_toArray, List.set]
 refine p_same (ptrB B) rfl rfl (fun w1 hj => by go_simp) ?_
 simp only [Act.put, List.setIfInBounds_toArray, List.set]
 refine p_same (.pointer (some ⟨B, 3, none⟩)) rfl rfl (fun w1 hj => by go_simp) ?_
 simp only [Act.put, List.setIfInBounds_toArray, List.set]
 refine p_same (.slice none 0 0) rfl rfl (fun w1 hj => by have y := hj.2.2; go_simp) ?_
 simp only [Act.put, List.setIfInBounds_toArray, List.set]
 refine p_same (.agg #[.int .u64 c.num, .int .i64 0, .int .i64 c.o.o.k, .int .u64 c.o.o.v, .int .u64 c.o.o.t, .int .i64 c.o.o.s, .int .i64 c.o.o.a, .int .i64 c.o.o.c, .slice c.o.D c.o.n c.o.q, .int .i64 c.at_, .int .i64 c.fr, .int .i64 c.tt, .bool c.dn, .int .i64 c.gone, .int .i64 c.seq, .int .i64 c.an.code, .int .i64 c.an.done, .slice c.an.D c.an.n c.an.q] ) rfl rfl (fun w1 hj => run_load_call (l := [.int .u64 c.num, .int .i64 0, .int .i64 c.o.o.k, .int .u64 c.o.o.v, .int .u64 c.o.o.t, .int .i64 c.o.o.s, .int .i64 c.o.o.a, .int .i64 c.o.o.c, .slice c.o.D c.o.n c.o.q, .int .i64 c.at_, .int .i64 c.fr, .int .i64 c.tt, .bool c.dn, .int .i64 c.gone, .int .i64 c.seq, .int .i64 c.an.code, .int .i64 c.an.done, .slice c.an.D c.an.n c.an.q] ) rfl rfl hj.1 rfl) ?_
 simp only [Act.put, List.setIfInBounds_toArray, List.set]
 refine p_eff rfl rfl (fun w1 hj he => effAt_of (v := .slice (some ⟨w1.heap.size, 0, none⟩) 1 1) (w' := w1.alloc (.cells #[.int .u64 c.num, .int .i64 0, .int .i64 c.o.o.k, .int .u64 c.o.o.v, .int .u64 c.o.o.t, .int .i64 c.o.o.s, .int .i64 c.o.o.a, .int .i64 c.o.o.c, .slice c.o.D c.o.n c.o.q, .int .i64 c.at_, .int .i64 c.fr, .int .i64 c.tt, .bool c.dn, .int .i64 c.gone, .int .i64 c.seq, .int .i64 c.an.code, .int .i64 c.an.done, .slice c.an.D c.an.n c.an.q] 51)) (by go_simp) ?_)
 obtain ⟨B7, hB7⟩ : ∃ B7, B7 = w1.heap.size := ⟨_, rfl⟩
 refine ⟨⟨fun w' => BlockAt w' B3 #[.int .u64 c.num, .int .i64 0, .int .i64 c.o.o.k, .int .u64 c.o.o.v, .int .u64 c.o.o.t, .int .i64 c.o.o.s, .int .i64 c.o.o.a, .int .i64 c.o.o.c, .slice c.o.D c.o.n c.o.q, .int .i64 c.at_, .int .i64 c.fr, .int .i64 c.tt, .bool c.dn, .int .i64 c.gone, .int .i64 c.seq, .int .i64 c.an.code, .int .i64 c.an.done, .slice c.an.D c.an.n c.an.q] 51 ∧ BlockAt w' Bf #[.bool true] 4 ∧ w'.cell? ⟨B, 3, none⟩ = some (.slice none 0 0), fun w' => Gr w3 w' ∧ BlockAt w' B7 #[.int .u64 c.num, .int .i64 0, .int .i64 c.o.o.k, .int .u64 c.o.o.v, .int .u64 c.o.o.t, .int .i64 c.o.o.s, .int .i64 c.o.o.a, .int .i64 c.o.o.c, .slice c.o.D c.o.n c.o.q, .int .i64 c.at_, .int .i64 c.fr, .int .i64 c.tt, .bool c.dn, .int .i64 c.gone, .int .i64 c.seq, .int .i64 c.an.code, .int .i64 c.an.done, .slice c.an.D c.an.n c.an.q] 51⟩, ⟨⟨hj.1.gr gri, hj.2.1.gr gri, C3.out _ (he.trans gri)⟩, he.trans gri, by rw [hB7]; infer_instance⟩, fun _ h => h, ?_⟩
 rw [← hB7]
 clear hB7 hj he w1
 simp only [Act.put, List.setIfInBounds_toArray, List.set]
 refine p_eff rfl rfl (fun w1 hj he => effAt_append_x callIs _ _ rfl rfl (OwnN.nil w3.heap.size w1) (some ⟨B7, 0, none⟩) [c] 1 1 rfl rfl (fun e => by cases e) ⟨fun _ _ => trivial, fun _ => ⟨B7, 0, rfl, he.2.lt, cellsN_call (by rw [HCL.out]; exact he.2)⟩⟩ (by simp) he.1.below.size ?_)
 intro v7 W7 h7
 have hg7 : Gr w3 W7 := Gr.of (he.1.below.trans h7.below)
 have ho7 : OwnN callE w3.heap.size W7 v7 [c] := h7.own
 obtain ⟨A7, c7, hv7, z1, z2, z3⟩ := ho7.form callIs
 have hv8 : v7 = .slice A7 1 c7 := hv7
 subst hv8
 refine ⟨⟨fun w' => BlockAt w' B3 #[.int .u64 c.num, .int .i64 0, .int .i64 c.o.o.k, .int .u64 c.o.o.v, .int .u64 c.o.o.t, .int .i64 c.o.o.s, .int .i64 c.o.o.a, .int .i64 c.o.o.c, .slice c.o.D c.o.n c.o.q, .int .i64 c.at_, .int .i64 c.fr, .int .i64 c.tt, .bool c.dn, .int .i64 c.gone, .int .i64 c.seq, .int .i64 c.an.code, .int .i64 c.an.done, .slice c.an.D c.an.n c.an.q] 51 ∧ BlockAt w' Bf #[.bool true] 4 ∧ w'.cell? ⟨B, 3, none⟩ = some (.slice none 0 0), fun w' => Gr w3 w' ∧ OwnN callE w3.heap.size w' (.slice A7 1 c7) [c]⟩, ⟨⟨HX3.out.gr hg7, HF3.out.gr hg7, C3.out _ hg7⟩, hg7, ho7⟩, fun _ h => h, ?_⟩
 clear z1 z2 z3 hg7 ho7 h7 hv7 hj he w1 W7
 simp only [Act.put, List.setIfInBounds_toArray, List.set]
 refine p_same (ptrB B) rfl rfl (fun w1 hj => by go_simp) ?_
 simp only [Act.put, List.setIfInBounds_toArray, List.set]
 refine p_same (.pointer (some ⟨B, 3, none⟩)) rfl rfl (fun w1 hj => by go_simp) ?_
 simp only [Act.put, List.setIfInBounds_toArray, List.set]
 refine p_nil ?_
 intro w4 hj4 he4
 try simp only [List.drop_succ_cons, List.drop_zero]
 have z0 := hj4.2.2
 have hb4 := HB4.out.blk.gr he4.1
 have z1 : w4.frozen? ⟨B, 3, none⟩ = false := @block_frozen _ _ 3 _ _ hb4
 haveI := hb4.old
 haveI := hb4
 have hbk5 := (HB4.out.grow he4.1).setG (he4.2.more HB4.out.gr.below.size) HCK.out
 have hx5 : BlockAt (w4.setCell ⟨B, 3, none⟩ (.slice A7 1 c7)) B3 #[.int .u64 c.num, .int .i64 0, .int .i64 c.o.o.k, .int .u64 c.o.o.v, .int .u64 c.o.o.t, .int .i64 c.o.o.s, .int .i64 c.o.o.a, .int .i64 c.o.o.c, .slice c.o.D c.o.n c.o.q, .int .i64 c.at_, .int .i64 c.fr, .int .i64 c.tt, .bool c.dn, .int .i64 c.gone, .int .i64 c.seq, .int .i64 c.an.code, .int .i64 c.an.done, .slice c.an.D c.an.n c.an.q] 51 := ⟨(Below.heap_setCell w4 ⟨B, 3, none⟩ _ B3 HBE.out).trans hj4.1.eq⟩
 have hf5 : BlockAt (w4.setCell ⟨B, 3, none⟩ (.slice A7 1 c7)) Bf #[.bool true] 4 := ⟨(Below.heap_setCell w4 ⟨B, 3, none⟩ _ Bf HNB.out).trans hj4.2.1.eq⟩
 have HX4 := Lib.hid hx5
 have HF4 := Lib.hid hf5
 have HB5' := Lib.hid hbk5
 have HC5 := Lib.hid (((CKB.gr (B := B) (HG1.out.trans HJ3.out)).trans (CKB.gr he4.1)).trans (CKB.set B 3 w4 (.slice A7 1 c7)))
 clear hj4 he4 hb4 hbk5 hx5 hf5
 go_wp2
 generalize w4.setCell ⟨B, 3, none⟩ (.slice A7 1 c7) = w5 at HX4 HF4 HB5' HC5 ⊢
 have HX5 := Lib.hid HX4.out
 have HF5 := Lib.hid HF4.out
 have HB5 := Lib.hid HB5'.out
 clear HX4 HF4 HB5' z0 z1
 have hpre : b0 < w5.heap.size ∧ CellsN callE w5 b0 p0 [x0] := by
  obtain ⟨A9, n9, c9, hv9, _, _, _, h94⟩ := HB5.out.w0
  obtain ⟨b9, p9, cs9, f9, hA9, hb9, hc9⟩ := h94 x0 rfl
  simp only [Value.slice.injEq] at hv9
  have hq1 := hv9.1
  rw [hA9] at hq1
  simp only [Option.some.injEq, Addr.mk.injEq, and_true] at hq1
  exact ⟨by rw [hq1.1]; exact (Array.getElem?_eq_some_iff.1 hb9).1, by rw [hq1.1, hq1.2]; exact hc9⟩
 have HC9 := Lib.hid (fun W' (g : Gr w5 W') => @clone_one b0 p0 c0 x0 W' (hpre.2.gr hpre.1 g) ⟨Nat.lt_of_lt_of_le hpre.1 g.below.size⟩)
 clear hpre
 refine wp_region_plan ⟨fun w' => BlockAt w' B3 #[.int .u64 c.num, .int .i64 0, .int .i64 c.o.o.k, .int .u64 c.o.o.v, .int .u64 c.o.o.t, .int .i64 c.o.o.s, .int .i64 c.o.o.a, .int .i64 c.o.o.c, .slice c.o.D c.o.n c.o.q, .int .i64 c.at_, .int .i64 c.fr, .int .i64 c.tt, .bool c.dn, .int .i64 c.gone, .int .i64 c.seq, .int .i64 c.an.code, .int .i64 c.an.done, .slice c.an.D c.an.n c.an.q] 51 ∧ BlockAt w' Bf #[.bool true] 4, fun w' => Gr w5 w'⟩ ⟨HX5.out.gr gri, HF5.out.gr gri⟩ gri [(true, 0), (true, 1), (true, 2), (true, 3), (true, 5), (true, 7), (true, 8), (false, 4), (false, 6), (true, 9), (false, 10)] (by kernel_rfl) (by kernel_rfl) ?_
 simp only [pickP, pick, List.drop, List.take, List.nil_append, List.cons_append, List.map_cons, List.map_nil]
 refine p_same (ptrB B) rfl rfl (fun w1 hj => by go_simp) ?_
 simp only [Act.put, List.setIfInBounds_toArray, List.set]
 refine p_same (.pointer (some ⟨B3, 1, none⟩)) rfl rfl (fun w1 hj => by go_simp) ?_
 simp only [Act.put, List.setIfInBounds_toArray, List.set]
 refine p_same (.int .i64 0) rfl rfl (fun w1 hj => by have y1 : w1.cell? ⟨B3, 1, none⟩ = some (.int .i64 0) := (@block_cells _ _ 1 _ _ hj.1).trans rfl; go_simp) ?_
 simp only [Act.put, List.setIfInBounds_toArray, List.set]
 refine p_same (.slice (some ⟨b0, p0, none⟩) 1 c0) rfl rfl (fun w1 hj => by go_simp) ?_
 simp only [Act.put, List.setIfInBounds_toArray, List.set]
 refine p_same (lF B3 Bf) rfl rfl (fun w1 hj => by go_simp) ?_
 simp only [Act.put, List.setIfInBounds_toArray, List.set]
 refine p_same (ptrB B) rfl rfl (fun w1 hj => by go_simp) ?_
 simp only [Act.put, List.setIfInBounds_toArray, List.set]
 refine p_same (.pointer (some ⟨B, 1, none⟩)) rfl rfl (fun w1 hj => by go_simp) ?_
 simp only [Act.put, List.setIfInBounds_toArray, List.set]
 refine p_eff rfl rfl (fun w1 hj he => effAt_call' 64 #[.slice (some ⟨b0, p0, none⟩) 1 c0] (by go_simp) ((HC9.out w1 he).mono fun e w2 hc => ?_))
 obtain ⟨g, cap', rfl, h1, h2, h3, h4, h5, h6, hg⟩ := hc
 have HG9 : Hid (w5.heap.size ≤ g) := Lib.hid (Nat.le_trans he.below.size h1)
 have HCP := Lib.hid h6
 refine ⟨_, rfl, ⟨⟨fun w' => BlockAt w' B3 #[.int .u64 c.num, .int .i64 0, .int .i64 c.o.o.k, .int .u64 c.o.o.v, .int .u64 c.o.o.t, .int .i64 c.o.o.s, .int .i64 c.o.o.a, .int .i64 c.o.o.c, .slice c.o.D c.o.n c.o.q, .int .i64 c.at_, .int .i64 c.fr, .int .i64 c.tt, .bool c.dn, .int .i64 c.gone, .int .i64 c.seq, .int .i64 c.an.code, .int .i64 c.an.done, .slice c.an.D c.an.n c.an.q] 51 ∧ BlockAt w' Bf #[.bool true] 4, fun w' => Gr w5 w' ∧ CellsN callE w' g 0 [x0] ∧ (∀ o, w'.frozen? ⟨g, o, none⟩ = false) ∧ g < w'.heap.size⟩, ⟨⟨hj.1.gr hg, hj.2.gr hg⟩, he.trans hg, h2, h3, h4⟩, fun _ h => h, ?_⟩⟩
 clear h1 h2 h3 h4 h5 h6 hg hj he w1 w2
 simp only [Act.put, List.setIfInBounds_toArray, List.set]
 refine p_eff rfl rfl (fun w1 hj he => effAt_call' 63 #[.slice (some ⟨g, 0, none⟩) 1 cap', lF B3 Bf] (by go_simp) ((@delete_one x0 0 g cap' B3 Bf w1 hj.1.old hj.2.old ((@block_cells _ _ 0 _ _ hj.1).trans (by rw [HNU.out]; rfl)) he.2.1 he.2.2.1 ⟨he.2.2.2⟩).mono fun e w2 hc => ?_))
 obtain ⟨rfl, zs, W8, g8, rfl⟩ := hc
 have hg8 : Gr w5 (W8.setCells g 0 zs) := Gr.of (below_setCellsL HG9.out zs 0 w5 W8 (he.1.trans g8).below)
 refine ⟨_, rfl, ⟨⟨fun w' => BlockAt w' B3 #[.int .u64 c.num, .int .i64 0, .int .i64 c.o.o.k, .int .u64 c.o.o.v, .int .u64 c.o.o.t, .int .i64 c.o.o.s, .int .i64 c.o.o.a, .int .i64 c.o.o.c, .slice c.o.D c.o.n c.o.q, .int .i64 c.at_, .int .i64 c.fr, .int .i64 c.tt, .bool c.dn, .int .i64 c.gone, .int .i64 c.seq, .int .i64 c.an.code, .int .i64 c.an.done, .slice c.an.D c.an.n c.an.q] 51 ∧ BlockAt w' Bf #[.bool true] 4, fun w' => Gr w5 w'⟩, ⟨⟨HX5.out.gr hg8, HF5.out.gr hg8⟩, hg8⟩, fun _ h => h, ?_⟩⟩
 clear hg8 g8 hj he w1 W8
 simp only [Act.put, List.setIfInBounds_toArray, List.set]
 refine p_same (.pointer (some ⟨B, 1, none⟩)) rfl rfl (fun w1 hj => by go_simp) ?_
 simp only [Act.put, List.setIfInBounds_toArray, List.set]
 refine p_eff0 rfl rfl (fun w1 hj he => effAt_storeS rfl rfl rfl (run_storeBc 1 0 cap' (some ⟨g, 0, none⟩) (HB5.out.blk.gr he) rfl) ⟨⟨fun w' => BlockAt w' B3 #[.int .u64 c.num, .int .i64 0, .int .i64 c.o.o.k, .int .u64 c.o.o.v, .int .u64 c.o.o.t, .int .i64 c.o.o.s, .int .i64 c.o.o.a, .int .i64 c.o.o.c, .slice c.o.D c.o.n c.o.q, .int .i64 c.at_, .int .i64 c.fr, .int .i64 c.tt, .bool c.dn, .int .i64 c.gone, .int .i64 c.seq, .int .i64 c.an.code, .int .i64 c.an.done, .slice c.an.D c.an.n c.an.q] 51 ∧ BlockAt w' Bf #[.bool true] 4, fun w' => BkA w B ws none q1 [c] wv (.slice (some ⟨g, 0, none⟩) 0 cap') v1 (.slice A7 1 c7) w' ∧ CKB B W w'⟩, ⟨⟨⟨(Below.heap_setCell w1 ⟨B, 1, none⟩ _ B3 HBE.out).trans hj.1.eq⟩, ⟨(Below.heap_setCell w1 ⟨B, 1, none⟩ _ Bf HNB.out).trans hj.2.eq⟩⟩, (HB5.out.grow he).set0 ⟨_, _, _, rfl, Nat.zero_le _, HCP.out, rfl, fun x hx => (by cases hx)⟩ (fun x hx => (by cases hx)), (HC5.out.trans (CKB.gr he)).trans (CKB.set B 1 w1 _)⟩, fun _ h => h, ?_⟩)
 refine p_nil ?_
 intro w6 hj6 he6
 have HE6 := Lib.hid he6
 clear hj6 he6
 go_wp2
 go_end0
 exact ⟨rfl, HE6.out.2, _, _, HE6.out.1⟩
set_option maxRecDepth 100000
set_option maxHeartbeats 4000000
theorem i64_same {x : Int} (h0 : -9223372036854775808 ≤ x) (h1 : x < 9223372036854775808) : IntKind.i64.wrap x = x := by
 simp [IntKind.wrap, IntKind.bits, IntKind.signed]
 split <;> omega
abbrev MomC := Int × Bool × CallC
def momL (m : MomC) : List Value := .int .i64 m.1 :: .bool m.2.1 :: callL m.2.2
def momE : EK MomC := ⟨momL, 20, 85, 73, 192, .agg #[.int .i64 0, .bool false, .int .u64 0, .int .i64 0, .int .i64 0, .int .u64 0, .int .u64 0, .int .i64 0, .int .i64 0, .int .i64 0, .slice none 0 0, .int .i64 0, .int .i64 0, .int .i64 0, .bool false, .int .i64 0, .int .i64 0, .int .i64 0, .int .i64 0, .slice none 0 0], fun _ => True⟩
theorem momIs : momE.Is where
 len := fun _ _ => rfl
 one := fun x _ v hv => by
  have hv : v ∈ momL x := hv
  simp only [momL, List.mem_cons] at hv
  rcases hv with rfl | rfl | hv
  ·rfl
  ·rfl
  ·exact callIs.one x.2.2 trivial v hv
 pos := by decide
 hT := Tryz.underlying73
 hE := by kernel_rfl
 hz := rfl
 hb := by decide
theorem cmp_any (x y : MomC) (W : World) (hx : 0 ≤ x.1 ∧ x.1 ≤ 1000000) (hy : 0 ≤ y.1 ∧ y.1 ≤ 1000000) : Calls Tryz.prog 62 #[.agg (momL x).toArray, .agg (momL y).toArray] W fun e w' => e = .returned (.int .i64 (x.1 - y.1)) ∧ Gr W w' := by
 have hx1 : (momL x).toArray = #[.int .i64 x.1, .bool x.2.1, .int .u64 x.2.2.num, .int .i64 x.2.2.node, .int .i64 x.2.2.o.o.k, .int .u64 x.2.2.o.o.v, .int .u64 x.2.2.o.o.t, .int .i64 x.2.2.o.o.s, .int .i64 x.2.2.o.o.a, .int .i64 x.2.2.o.o.c, .slice x.2.2.o.D x.2.2.o.n x.2.2.o.q, .int .i64 x.2.2.at_, .int .i64 x.2.2.fr, .int .i64 x.2.2.tt, .bool x.2.2.dn, .int .i64 x.2.2.gone, .int .i64 x.2.2.seq, .int .i64 x.2.2.an.code, .int .i64 x.2.2.an.done, .slice x.2.2.an.D x.2.2.an.n x.2.2.an.q] := by simp [momL, callL]
 have hy1 : (momL y).toArray = #[.int .i64 y.1, .bool y.2.1, .int .u64 y.2.2.num, .int .i64 y.2.2.node, .int .i64 y.2.2.o.o.k, .int .u64 y.2.2.o.o.v, .int .u64 y.2.2.o.o.t, .int .i64 y.2.2.o.o.s, .int .i64 y.2.2.o.o.a, .int .i64 y.2.2.o.o.c, .slice y.2.2.o.D y.2.2.o.n y.2.2.o.q, .int .i64 y.2.2.at_, .int .i64 y.2.2.fr, .int .i64 y.2.2.tt, .bool y.2.2.dn, .int .i64 y.2.2.gone, .int .i64 y.2.2.seq, .int .i64 y.2.2.an.code, .int .i64 y.2.2.an.done, .slice y.2.2.an.D y.2.2.an.n y.2.2.an.q] := by simp [momL, callL]
 have hw : IntKind.i64.wrap (x.1 - y.1) = x.1 - y.1 := i64_same (by omega) (by omega)
 rw [hx1, hy1]
 clear hx1 hy1 hx hy
 go_enter Tryz.func62, Tryz.ntmps62
 go_wp2
 go_ret
 exact ⟨rfl, gri⟩
theorem run_load_mom {o : Oper} {a : Act} {w : World} {x : Operand} {g j : Nat} {l : List MomC} {m : MomC} (ho : o.op = .load 85 x) (hx : a.eval x = .pointer (some ⟨g, j * 20, none⟩)) (hc : CellsN momE w g 0 l) (hm : l[j]? = some m) : (execOp a.eval o).run Tryz.prog w = .ok (.value (.agg (momL m).toArray)) w := by
 have h := run_loadAt_mid (P := Tryz.prog) w g (j * 20) 85 (momL m) _ (fun i v hv => by have := hc j m hm i v hv; simpa [momE] using this) Tryz.underlying85 rfl (by kernel_rfl)
 unfold execOp
 simp only [ho, hx, Sem.run_bind, h, Result.andThen_ok, Sem.run_pure]
abbrev mF : Value := .func (.func 62) #[] #[]
theorem ins_sorted (l : List MomC) (g n cap : Nat) (W : World) (hn : l.length = n) (hn9 : n ≤ 19) (hs : ∀ j x y, l[j]? = some x → l[j + 1]? = some y → x.1 < y.1) (hb : ∀ x ∈ l, 0 ≤ x.1 ∧ x.1 ≤ 1000000) (hc : CellsN momE W g 0 l) (hg : g < W.heap.size) : Calls Tryz.prog 113 #[.slice (some ⟨g, 0, none⟩) n cap, .int .i64 0, .int .i64 (n : Int), mF] W fun e w' => e = .returned (.tuple #[]) ∧ Gr W w' := by
 have HN := Lib.hid hn
 have HS := Lib.hid hs
 have HB := Lib.hid hb
 have HC := Lib.hid (fun W' (g1 : Gr W W') => hc.gr hg g1)
 have HG := Lib.hid hg
 clear hn hs hb hc hg
 go_enter Tryz.func113, Tryz.ntmps113
 go_wp2
 go_loopw [8] (fun i wl => ∃ k : Nat, (k = 0 ∨ k < n) ∧ i = .int .i64 ((k + 1 : Nat) : Int) ∧ Gr W wl) (fun i _ => n - (intOf i).toNat)
 case atStart => exact ⟨0, .inl rfl, rfl, gri⟩
 case round =>
  obtain ⟨k, hk, rfl, hg⟩ := hrel
  obtain ⟨W3, rfl⟩ : ∃ W3, W3 = wr := ⟨_, rfl⟩
  have HG1 := Lib.hid hg
  have HK := Lib.hid hk
  have hk19 : k ≤ 19 := by rcases hk with rfl | h <;> omega
  haveI := grc_of hg
  haveI := from_of hg
  clear hg hk
  by_cases hlt : k + 1 < n
  ·have HLT := Lib.hid hlt
   have hlt2 : ((k + 1 : Nat) : Int) < (n : Int) := by omega
   obtain ⟨x, hx⟩ : ∃ x, l[k]? = some x := ⟨_, List.getElem?_eq_getElem (by rw [HN.out]; omega)⟩
   obtain ⟨y, hy⟩ : ∃ y, l[k + 1]? = some y := ⟨_, List.getElem?_eq_getElem (by rw [HN.out]; omega)⟩
   have HX := Lib.hid hx
   have HY := Lib.hid hy
   have hxy := HS.out k x y hx hy
   have HCM := Lib.hid (fun W' => cmp_any y x W' (HB.out y (List.mem_of_getElem? hy)) (HB.out x (List.mem_of_getElem? hx)))
   have hd : decide (y.1 - x.1 < 0) = false := decide_eq_false (by omega)
   have HD := Lib.hid hd
   have hwr : IntKind.i64.wrap (((k + 1 : Nat) : Int) - 1) = (k : Int) := by rw [show ((k + 1 : Nat) : Int) - 1 = (k : Int) by omega]; exact i64_same (by omega) (by omega)
   have hw0 : IntKind.i64.wrap (k : Int) = (k : Int) := i64_same (by omega) (by omega)
   have hp1 : ¬ ((k : Int) + 1 < 0) := by omega
   have hp2 : ¬ n ≤ k := by omega
   have hpos : (0 : Int) < ((k + 1 : Nat) : Int) := by omega
   clear hx hy hxy hd
   go_wp2
   go_loopw [9] (fun j wl => j = .int .i64 ((k + 1 : Nat) : Int) ∧ Gr W3 wl) (fun j _ => 1)
   case atStart => exact ⟨rfl, gri⟩
   case round =>
    obtain ⟨rfl, hg2⟩ := hrel
    have HG2 := Lib.hid hg2
    clear hg2
    go_wp2
    refine wp_region_plan ⟨fun w' => Gr W3 w', fun w' => Gr W3 w'⟩ (HG2.out.trans gri) (HG2.out.trans gri) [(true, 0), (true, 1), (true, 2), (true, 3), (true, 4), (true, 5), (true, 6), (true, 7), (true, 8), (true, 9), (true, 10), (true, 11), (true, 12), (true, 13), (false, 14), (true, 15), (true, 16)] (by kernel_rfl) (by kernel_rfl) ?_
    simp only [pickP, pick, List.drop, List.take, List.nil_append, List.cons_append, List.map_cons, List.map_nil]
    refine p_same (.int .i64 ((k + 1 : Nat) : Int)) rfl rfl (fun w1 hj => by go_simp) ?_
    simp only [Act.put, List.setIfInBounds_toArray, List.set]
    refine p_same (.int .i64 0) rfl rfl (fun w1 hj => by go_simp) ?_
    simp only [Act.put, List.setIfInBounds_toArray, List.set]
    refine p_same (.bool true) rfl rfl (fun w1 hj => by go_simp) ?_
    simp only [Act.put, List.setIfInBounds_toArray, List.set]
    refine p_same (.bool true) rfl rfl (fun w1 hj => by go_simp) ?_
    simp only [Act.put, List.setIfInBounds_toArray, List.set]
    refine p_same (mF) rfl rfl (fun w1 hj => by go_simp) ?_
    simp only [Act.put, List.setIfInBounds_toArray, List.set]
    refine p_same (.slice (some ⟨g, 0, none⟩) n cap) rfl rfl (fun w1 hj => by go_simp) ?_
    simp only [Act.put, List.setIfInBounds_toArray, List.set]
    refine p_same (.int .i64 ((k + 1 : Nat) : Int)) rfl rfl (fun w1 hj => by go_simp) ?_
    simp only [Act.put, List.setIfInBounds_toArray, List.set]
    refine p_same (.pointer (some ⟨g, (k + 1) * 20, none⟩)) rfl rfl (fun w1 hj => by go_simp) ?_
    simp only [Act.put, List.setIfInBounds_toArray, List.set]
    refine p_same (.agg (momL y).toArray) rfl rfl (fun w1 hj => run_load_mom rfl rfl (HC.out _ (HG1.out.trans hj)) HY.out) ?_
    simp only [Act.put, List.setIfInBounds_toArray, List.set]
    refine p_same (.slice (some ⟨g, 0, none⟩) n cap) rfl rfl (fun w1 hj => by go_simp) ?_
    simp only [Act.put, List.setIfInBounds_toArray, List.set]
    refine p_same (.int .i64 ((k + 1 : Nat) : Int)) rfl rfl (fun w1 hj => by go_simp) ?_
    simp only [Act.put, List.setIfInBounds_toArray, List.set]
    refine p_same (.int .i64 (k : Int)) rfl rfl (fun w1 hj => by go_simp) ?_
    simp only [Act.put, List.setIfInBounds_toArray, List.set]
    refine p_same (.pointer (some ⟨g, k * 20, none⟩)) rfl rfl (fun w1 hj => by go_simp) ?_
    simp only [Act.put, List.setIfInBounds_toArray, List.set]
    refine p_same (.agg (momL x).toArray) rfl rfl (fun w1 hj => run_load_mom rfl rfl (HC.out _ (HG1.out.trans hj)) HX.out) ?_
    simp only [Act.put, List.setIfInBounds_toArray, List.set]
    refine p_eff rfl rfl (fun w1 hj he => effAt_call' 62 #[.agg (momL y).toArray, .agg (momL x).toArray] (by go_simp) ((HCM.out w1).mono fun e w2 hc => ?_))
    obtain ⟨rfl, hg3⟩ := hc
    refine ⟨_, rfl, ⟨fun w' => Gr W3 w', fun w' => Gr W3 w'⟩, ⟨hj.trans hg3, hj.trans hg3⟩, fun _ h => h, ?_⟩
    clear hg3 hj he w1 w2
    simp only [Act.put, List.setIfInBounds_toArray, List.set]
    refine p_same (.bool false) rfl rfl (fun w1 hj => by have := HD.out; go_simp) ?_
    simp only [Act.put, List.setIfInBounds_toArray, List.set]
    refine p_same (.bool false) rfl rfl (fun w1 hj => by go_simp) ?_
    simp only [Act.put, List.setIfInBounds_toArray, List.set]
    refine p_nil ?_
    intro w5 hj5 _
    have HJ5 := Lib.hid hj5
    haveI := grc_of hj5
    haveI := from_of hj5
    clear hj5
    go_wp2
    refine ⟨⟨k + 1, .inr HLT.out, ?_, HG1.out.trans HJ5.out⟩, ?_⟩
    ·rw [show (k : Int) + 1 + 1 = ((k + 1 + 1 : Nat) : Int) by omega]
    ·have := HLT.out
     simp only [intOf]
     omega
  ·have hge : ¬ ((k + 1 : Nat) : Int) < (n : Int) := by omega
   go_wp2
   go_end0
   exact ⟨rfl, gri⟩
theorem stable_sorted (l : List MomC) (g n cap : Nat) (W : World) (hn : l.length = n) (hn9 : n ≤ 19) (hs : ∀ j x y, l[j]? = some x → l[j + 1]? = some y → x.1 < y.1) (hb : ∀ x ∈ l, 0 ≤ x.1 ∧ x.1 ≤ 1000000) (hc : CellsN momE W g 0 l) (hg : g < W.heap.size) : Calls Tryz.prog 91 #[.slice (some ⟨g, 0, none⟩) n cap, .int .i64 (n : Int), mF] W fun e w' => e = .returned (.tuple #[]) ∧ Gr W w' := by
 have HI := Lib.hid (fun W' (g1 : Gr W W') => ins_sorted l g n cap W' hn hn9 hs hb (hc.gr hg g1) (Nat.lt_of_lt_of_le hg g1.below.size))
 have h20 : ¬ ((20 : Int) ≤ (n : Int)) := by omega
 have h21 : ¬ ((20 : Int) < (n : Int)) := by omega
 clear hn hs hb hc hg hn9
 go_enter Tryz.func91, Tryz.ntmps91
 go_wp2
 go_loopw [7, 8] (fun i j wl => i = .int .i64 0 ∧ j = .int .i64 20 ∧ Gr W wl) (fun i _ _ => 1)
 case atStart => exact ⟨rfl, rfl, gri⟩
 case round =>
  obtain ⟨rfl, rfl, hg⟩ := hrel
  have HG := Lib.hid hg
  haveI := grc_of hg
  haveI := from_of hg
  clear hg
  go_wp2_with (first | (go_at_call 113; ((with_reducible refine (HI.out _ (HG.out.trans gri)).mono ?_); rintro _ _ ⟨rfl, ⟨g8, rfl⟩⟩)))
  go_loopw [6] (fun i wl => i = .int .i64 20 ∧ Gr W wl) (fun i _ => 1)
  case atStart => exact ⟨rfl, gri⟩
  case round =>
   obtain ⟨rfl, hg2⟩ := hrel
   have HG2 := Lib.hid hg2
   clear hg2
   go_wp2
   go_end0
   exact ⟨rfl, HG2.out⟩
theorem sort_sorted (l : List MomC) (g n cap : Nat) (W : World) (hn : l.length = n) (hn9 : n ≤ 19) (hs : ∀ j x y, l[j]? = some x → l[j + 1]? = some y → x.1 < y.1) (hb : ∀ x ∈ l, 0 ≤ x.1 ∧ x.1 ≤ 1000000) (hc : CellsN momE W g 0 l) (hg : g < W.heap.size) : Calls Tryz.prog 61 #[.slice (some ⟨g, 0, none⟩) n cap, mF] W fun e w' => e = .returned (.tuple #[]) ∧ Gr W w' := by
 have HI := Lib.hid (fun W' (g1 : Gr W W') => stable_sorted l g n cap W' hn hn9 hs hb (hc.gr hg g1) (Nat.lt_of_lt_of_le hg g1.below.size))
 clear hn hs hb hc hg hn9
 go_enter Tryz.func61, Tryz.ntmps61
 go_wp2_with (first | (go_at_call 91; ((with_reducible refine (HI.out _ gri).mono ?_); rintro _ _ ⟨rfl, ⟨g8, rfl⟩⟩)))
 go_end0
 exact ⟨rfl, gri⟩
set_option maxRecDepth 100000
set_option maxHeartbeats 4000000
def mom2 (c : CallC) : List MomC := [(c.at_, true, c), (c.seq, false, c)]
def momK (l : List CallC) : List MomC := l.flatMap mom2
theorem momK_len (l : List CallC) : (momK l).length = 2 * l.length := by
 induction l with
 | nil => rfl
 | cons a l ih => simp [momK, mom2] at ih ⊢; omega
structure MomOk (c : CallC) : Prop where
 a1 : 1 ≤ c.at_
 a2 : c.at_ < c.seq
 a3 : c.seq ≤ 1000000
 n0 : 0 ≤ c.node
 n1 : c.node ≤ 1
theorem momK_ok {l : List CallC} (h : ∀ c ∈ l, MomOk c) : ∀ x ∈ momK l, 0 ≤ x.1 ∧ x.1 ≤ 1000000 := fun x hx => by
 obtain ⟨c, hc, hx⟩ := List.mem_flatMap.1 hx
 have := h c hc
 obtain ⟨h1, h2, h3, _, _⟩ := this
 simp only [mom2, List.mem_cons, List.mem_nil_iff, or_false] at hx
 rcases hx with rfl | rfl <;> constructor <;> simp only <;> omega
theorem moments_any (l : List CallC) (A : Option Addr) (n cap : Nat) (W : World) (hn : l.length = n) (hne : l ≠ []) (hn9 : n ≤ 9) (hok : ∀ c ∈ l, MomOk c) (hs : ∀ j x y, (momK l)[j]? = some x → (momK l)[j + 1]? = some y → x.1 < y.1) (hr : RowN callE W A l) : Calls Tryz.prog 30 #[.slice A n cap] W fun e w' => ∃ v, e = .returned (.tuple #[v, .int .i64 0]) ∧ OwnN momE W.heap.size w' v (momK l) ∧ Gr W w' := by
 obtain ⟨b, p, rfl, hbl, hcl⟩ := hr.at_ hne
 have HN := Lib.hid hn
 have HNE := Lib.hid hne
 have HOK := Lib.hid hok
 have HS := Lib.hid hs
 have HROW := Lib.hid (fun (k : Nat) c (hk : l[k]? = some c) W' (g : Gr W W') => show ∀ (i : Nat) u, ([.int .u64 c.num, .int .i64 c.node, .int .i64 c.o.o.k, .int .u64 c.o.o.v, .int .u64 c.o.o.t, .int .i64 c.o.o.s, .int .i64 c.o.o.a, .int .i64 c.o.o.c, .slice c.o.D c.o.n c.o.q, .int .i64 c.at_, .int .i64 c.fr, .int .i64 c.tt, .bool c.dn, .int .i64 c.gone, .int .i64 c.seq, .int .i64 c.an.code, .int .i64 c.an.done, .slice c.an.D c.an.n c.an.q] )[i]? = some u → W'.cell? ((⟨b, p + k * 18, none⟩ : Addr).add i) = some u from fun i u hu => by
  have := hcl k c hk i u hu
  rw [Go.WideShapes.add_plain]
  refine (g.below.cell (p := ⟨b, p + k * 18 + i, none⟩) hbl).trans ?_
  simpa [callE] using this)
 haveI : Old b W := ⟨hbl⟩
 clear hn hne hok hs hr hbl hcl
 go_enter Tryz.func30, Tryz.ntmps30
 go_wp2
 go_loopw [4, 10] (fun v i wl => ∃ k : Nat, k ≤ n ∧ i = .int .i64 (k : Int) ∧ OwnN momE W.heap.size wl v (momK (l.take k)) ∧ Gr W wl) (fun _ i _ => n - (intOf i).toNat)
 case atStart => exact ⟨0, Nat.zero_le _, rfl, by simpa [momK] using OwnN.nil _ _, gri⟩
 case round =>
  obtain ⟨k, hk, rfl, ho, hg⟩ := hrel
  obtain ⟨W3, rfl⟩ : ∃ W3, W3 = wr := ⟨_, rfl⟩
  have HO := Lib.hid ho
  have HG := Lib.hid hg
  haveI := grc_of hg
  haveI := from_of hg
  clear ho hg
  by_cases hlt : k < n
  ·have HLT := Lib.hid hlt
   have hlt2 : (k : Int) < (n : Int) := by omega
   obtain ⟨c, hc⟩ : ∃ c, l[k]? = some c := ⟨_, List.getElem?_eq_getElem (by rw [HN.out]; exact hlt)⟩
   have HC := Lib.hid hc
   have HRW := Lib.hid (HROW.out k c hc)
   obtain ⟨m1, m2, m3, m4, m5⟩ := HOK.out c (List.mem_of_getElem? hc)
   have t1 : ¬ c.at_ < 1 := by omega
   have t2 : c.seq ≠ 0 := by omega
   have t3 : ¬ c.seq ≤ c.at_ := by omega
   have t4 : ¬ c.node < 0 := by omega
   have t5 : ¬ 1 < c.node := by omega
   have t6 : 0 < c.seq := by omega
   have hll : (momK (l.take k)).length ≤ 100 := by rw [momK_len, List.length_take]; omega
   have HLE : Hid ((momK (l.take k)).length + 1 ≤ 100000000) := Lib.hid (by omega)
   have HLF : Hid ((momK (l.take k) ++ [(c.at_, true, c)]).length + 1 ≤ 100000000) := Lib.hid (by rw [List.length_append]; simp; omega)
   have HT : Hid (momK (l.take (k + 1)) = momK (l.take k) ++ [(c.at_, true, c)] ++ [(c.seq, false, c)]) := Lib.hid (by rw [List.take_add_one, hc]; simp [momK, mom2])
   clear hc m1 m2 m3 m4 m5 hll
   go_wp2_with (first
    | (refine wpLoadCs rfl _ _ rfl ⟨b, p + k * 18, none⟩ ([.int .u64 c.num, .int .i64 c.node, .int .i64 c.o.o.k, .int .u64 c.o.o.v, .int .u64 c.o.o.t, .int .i64 c.o.o.s, .int .i64 c.o.o.a, .int .i64 c.o.o.c, .slice c.o.D c.o.n c.o.q, .int .i64 c.at_, .int .i64 c.fr, .int .i64 c.tt, .bool c.dn, .int .i64 c.gone, .int .i64 c.seq, .int .i64 c.an.code, .int .i64 c.an.done, .slice c.an.D c.an.n c.an.q] ) _ rfl Tryz.underlying51 rfl (by kernel_rfl) (HRW.out _ (HG.out.trans gri)) ?_)
    | (refine wp_storeCall (W0 := W3) rfl _ _ rfl W3.heap.size c _ rfl rfl inferInstance rfl gri (Nat.le_refl _) ?_; obtain ⟨B9, hB9⟩ : ∃ B9, B9 = W3.heap.size := ⟨_, rfl⟩; rw [← hB9]; intro W7 g7 b9; have d1_W7 : W7.cell? ⟨B9, 1, none⟩ = some (.int .i64 c.node) := (@block_cells _ _ 1 _ _ b9).trans rfl; have d9_W7 : W7.cell? ⟨B9, 9, none⟩ = some (.int .i64 c.at_) := (@block_cells _ _ 9 _ _ b9).trans rfl; have d14_W7 : W7.cell? ⟨B9, 14, none⟩ = some (.int .i64 c.seq) := (@block_cells _ _ 14 _ _ b9).trans rfl; have G7 := Lib.hid g7; have HB9 := Lib.hid b9; have HR7 := Lib.hid (fun W' (g : Gr W7 W') => show ∀ (i : Nat) u, ([.int .u64 c.num, .int .i64 c.node, .int .i64 c.o.o.k, .int .u64 c.o.o.v, .int .u64 c.o.o.t, .int .i64 c.o.o.s, .int .i64 c.o.o.a, .int .i64 c.o.o.c, .slice c.o.D c.o.n c.o.q, .int .i64 c.at_, .int .i64 c.fr, .int .i64 c.tt, .bool c.dn, .int .i64 c.gone, .int .i64 c.seq, .int .i64 c.an.code, .int .i64 c.an.done, .slice c.an.D c.an.n c.an.q] )[i]? = some u → W'.cell? ((⟨B9, 0, none⟩ : Addr).add i) = some u from fun i u hu => by rw [Go.WideShapes.add_plain, Nat.zero_add]; exact (@block_cells _ _ i _ _ (HB9.out.gr g)).trans (by simpa [callL] using hu)); haveI := b9.old; haveI := grc_of (HG.out.trans g7); haveI := from_of (HG.out.trans g7); clear hB9 g7 b9)
    | (refine wpLoadCs rfl _ _ rfl ⟨B9, 0, none⟩ ([.int .u64 c.num, .int .i64 c.node, .int .i64 c.o.o.k, .int .u64 c.o.o.v, .int .u64 c.o.o.t, .int .i64 c.o.o.s, .int .i64 c.o.o.a, .int .i64 c.o.o.c, .slice c.o.D c.o.n c.o.q, .int .i64 c.at_, .int .i64 c.fr, .int .i64 c.tt, .bool c.dn, .int .i64 c.gone, .int .i64 c.seq, .int .i64 c.an.code, .int .i64 c.an.done, .slice c.an.D c.an.n c.an.q] ) _ rfl Tryz.underlying51 rfl (by kernel_rfl) (HR7.out _ gri) ?_)
    | (at_builtin; refine wp_append_n (e := momE) (base := W.heap.size) (v := u4) (xs := momK (l.take k)) momIs rfl _ _ rfl rfl (HO.out.gr (G7.out.trans gri)) _ 0 [(c.at_, true, c)] 1 1 rfl rfl (fun _ _ => trivial) (CellsN.block _ inferInstance rfl) HLE.out (Nat.le_trans (HG.out.trans G7.out).below.size past) (by simp) ?_; intro v1 W8 h1; have hg8 : Gr W W8 := Gr.of ((HG.out.trans (G7.out.trans gri)).below.trans h1.below); have b98 := h1.keep _ _ _ (HB9.out.gr gri) (by decide); have d1_W8 : W8.cell? ⟨B9, 1, none⟩ = some (.int .i64 c.node) := (@block_cells _ _ 1 _ _ b98).trans rfl; have d9_W8 : W8.cell? ⟨B9, 9, none⟩ = some (.int .i64 c.at_) := (@block_cells _ _ 9 _ _ b98).trans rfl; have d14_W8 : W8.cell? ⟨B9, 14, none⟩ = some (.int .i64 c.seq) := (@block_cells _ _ 14 _ _ b98).trans rfl; have H1 := Lib.hid h1; have HG8 := Lib.hid hg8; have HB98 := Lib.hid b98; have HR8 := Lib.hid (fun W' (g : Gr W8 W') => show ∀ (i : Nat) u, ([.int .u64 c.num, .int .i64 c.node, .int .i64 c.o.o.k, .int .u64 c.o.o.v, .int .u64 c.o.o.t, .int .i64 c.o.o.s, .int .i64 c.o.o.a, .int .i64 c.o.o.c, .slice c.o.D c.o.n c.o.q, .int .i64 c.at_, .int .i64 c.fr, .int .i64 c.tt, .bool c.dn, .int .i64 c.gone, .int .i64 c.seq, .int .i64 c.an.code, .int .i64 c.an.done, .slice c.an.D c.an.n c.an.q] )[i]? = some u → W'.cell? ((⟨B9, 0, none⟩ : Addr).add i) = some u from fun i u hu => by rw [Go.WideShapes.add_plain, Nat.zero_add]; exact (@block_cells _ _ i _ _ (HB98.out.gr g)).trans (by simpa [callL] using hu)); haveI := b98.old; haveI := grc_of hg8; haveI := from_of hg8; clear h1 hg8 b98)
    | (refine wpLoadCs rfl _ _ rfl ⟨B9, 0, none⟩ ([.int .u64 c.num, .int .i64 c.node, .int .i64 c.o.o.k, .int .u64 c.o.o.v, .int .u64 c.o.o.t, .int .i64 c.o.o.s, .int .i64 c.o.o.a, .int .i64 c.o.o.c, .slice c.o.D c.o.n c.o.q, .int .i64 c.at_, .int .i64 c.fr, .int .i64 c.tt, .bool c.dn, .int .i64 c.gone, .int .i64 c.seq, .int .i64 c.an.code, .int .i64 c.an.done, .slice c.an.D c.an.n c.an.q] ) _ rfl Tryz.underlying51 rfl (by kernel_rfl) (HR8.out _ gri) ?_)
    | (at_builtin; refine wp_append_n (e := momE) (base := W.heap.size) (v := v1) (xs := momK (l.take k) ++ [(c.at_, true, c)]) momIs rfl _ _ rfl rfl (H1.out.own.gr gri) _ 0 [(c.seq, false, c)] 1 1 rfl rfl (fun _ _ => trivial) (CellsN.block _ inferInstance rfl) HLF.out (Nat.le_trans HG8.out.below.size past) (by simp) ?_; intro v2 W10 h2; have hg10 : Gr W W10 := Gr.of ((HG8.out.trans gri).below.trans h2.below); have H2 := Lib.hid h2; have HG10 := Lib.hid hg10; haveI := grc_of hg10; haveI := from_of hg10; clear h2 hg10))
   go_roundw
   case rel => exact ⟨k + 1, HLT.out, by go_num, by rw [HT.out]; exact H2.out.own, HG10.out⟩
   case measure => have := HLT.out; simp [intOf]; omega
  ·have : k = n := by omega
   subst this
   obtain ⟨L, hL⟩ : ∃ L, L = momK l := ⟨_, rfl⟩
   have hown : OwnN momE W.heap.size W3 u4 L := by
    have := HO.out
    rw [List.take_of_length_le (by rw [HN.out]; exact Nat.le_refl _), ← hL] at this
    exact this
   have hLn : L.length = 2 * k := by rw [hL, momK_len, HN.out]
   have hLne : L ≠ [] := fun e => by
    rw [e] at hLn
    have := HNE.out
    have h3 := HN.out
    simp at hLn
    exact this (List.eq_nil_of_length_eq_zero (by omega))
   obtain ⟨g, cg, hv, h2, h3, h4, h5, h6, h7⟩ := hown.cells momIs hLne
   obtain ⟨N, hN⟩ : ∃ N, N = L.length := ⟨_, rfl⟩
   rw [← hN] at hv
   subst hv
   have hN18 : N ≤ 18 := by omega
   have HSO := Lib.hid (fun W' (g1 : Gr W3 W') => sort_sorted L g N cg W' hN.symm (by omega) (by rw [hL]; exact HS.out) (by rw [hL]; exact momK_ok HOK.out) (h6.gr h3 g1) (Nat.lt_of_lt_of_le h3 g1.below.size))
   have HL := Lib.hid hL
   have HNN := Lib.hid hN
   have HOW := Lib.hid hown
   have HCE := Lib.hid (fun W' (g1 : Gr W3 W') => h6.gr h3 g1)
   have HG3 := Lib.hid h3
   clear hL hown hLn hLne h2 h3 h4 h5 h6 h7 hN
   go_wp2_with (first | (go_at_call 61; ((with_reducible refine (HSO.out _ gri).mono ?_); rintro _ _ ⟨rfl, ⟨g8, rfl⟩⟩)))
   obtain ⟨W4, hW4⟩ : ∃ W4, W4 = grown W3 g8 := ⟨_, rfl⟩
   have hg4 : Gr W3 W4 := by rw [hW4]; exact gri
   rw [← hW4]
   have HG4 := Lib.hid hg4
   clear hW4 hg4
   go_loopw [7] (fun i wl => ∃ j : Nat, (j = 0 ∨ j < N) ∧ i = .int .i64 ((j + 1 : Nat) : Int) ∧ Gr W3 wl) (fun i _ => N - (intOf i).toNat)
   case atStart => exact ⟨0, .inl rfl, rfl, HG4.out⟩
   case round =>
    obtain ⟨j, hj0, rfl, hg5⟩ := hrel
    obtain ⟨W5, rfl⟩ : ∃ W5, W5 = wr := ⟨_, rfl⟩
    have HG5 := Lib.hid hg5
    have hj19 : j ≤ 18 := by rcases hj0 with rfl | h <;> omega
    clear hg5 hj0
    by_cases hjl : j + 1 < N
    ·have HJL := Lib.hid hjl
     have hlt2 : ((j + 1 : Nat) : Int) < (N : Int) := by omega
     obtain ⟨x, hx⟩ : ∃ x, L[j]? = some x := ⟨_, List.getElem?_eq_getElem (by rw [← HNN.out]; omega)⟩
     obtain ⟨y, hy⟩ : ∃ y, L[j + 1]? = some y := ⟨_, List.getElem?_eq_getElem (by rw [← HNN.out]; omega)⟩
     have HX := Lib.hid hx
     have HY := Lib.hid hy
     have hxy := HS.out j x y (by rw [← HL.out]; exact hx) (by rw [← HL.out]; exact hy)
     have hne1 : x.1 ≠ y.1 := by omega
     have hwr : IntKind.i64.wrap (((j + 1 : Nat) : Int) - 1) = (j : Int) := by rw [show ((j + 1 : Nat) : Int) - 1 = (j : Int) by omega]; exact i64_same (by omega) (by omega)
     have hw0 : IntKind.i64.wrap (j : Int) = (j : Int) := i64_same (by omega) (by omega)
     have hp1 : ¬ ((j : Int) + 1 < 0) := by omega
     have hp2 : ¬ N ≤ j := by omega
     clear hx hy hxy
     go_wp2
     refine wp_region_plan ⟨fun w' => Gr W3 w', fun w' => True⟩ (HG5.out.trans gri) trivial [(true, 0), (true, 1), (true, 2), (true, 3), (true, 4), (true, 5), (true, 6), (true, 7), (true, 8), (true, 9), (true, 10), (true, 11)] (by kernel_rfl) (by kernel_rfl) ?_
     simp only [pickP, pick, List.drop, List.take, List.nil_append, List.cons_append, List.map_cons, List.map_nil]
     refine p_same (.slice (some ⟨g, 0, none⟩) N cg) rfl rfl (fun w1 hj => by go_simp) ?_
     simp only [Act.put, List.setIfInBounds_toArray, List.set]
     refine p_same (.int .i64 ((j + 1 : Nat) : Int)) rfl rfl (fun w1 hj => by go_simp) ?_
     simp only [Act.put, List.setIfInBounds_toArray, List.set]
     refine p_same (.int .i64 (j : Int)) rfl rfl (fun w1 hj => by go_simp) ?_
     simp only [Act.put, List.setIfInBounds_toArray, List.set]
     refine p_same (.pointer (some ⟨g, j * 20, none⟩)) rfl rfl (fun w1 hj => by go_simp) ?_
     simp only [Act.put, List.setIfInBounds_toArray, List.set]
     refine p_same (.pointer (some ⟨g, j * 20, none⟩)) rfl rfl (fun w1 hj => by go_simp) ?_
     simp only [Act.put, List.setIfInBounds_toArray, List.set]
     refine p_same (.int .i64 x.1) rfl rfl (fun w1 hj => by have y0 : w1.cell? ⟨g, j * 20, none⟩ = some (.int .i64 x.1) := (by have := HCE.out w1 hj j x HX.out 0 _ rfl; simpa [momE] using this); go_simp) ?_
     simp only [Act.put, List.setIfInBounds_toArray, List.set]
     refine p_same (.slice (some ⟨g, 0, none⟩) N cg) rfl rfl (fun w1 hj => by go_simp) ?_
     simp only [Act.put, List.setIfInBounds_toArray, List.set]
     refine p_same (.int .i64 ((j + 1 : Nat) : Int)) rfl rfl (fun w1 hj => by go_simp) ?_
     simp only [Act.put, List.setIfInBounds_toArray, List.set]
     refine p_same (.pointer (some ⟨g, (j + 1) * 20, none⟩)) rfl rfl (fun w1 hj => by go_simp) ?_
     simp only [Act.put, List.setIfInBounds_toArray, List.set]
     refine p_same (.pointer (some ⟨g, (j + 1) * 20, none⟩)) rfl rfl (fun w1 hj => by go_simp) ?_
     simp only [Act.put, List.setIfInBounds_toArray, List.set]
     refine p_same (.int .i64 y.1) rfl rfl (fun w1 hj => by have y0 : w1.cell? ⟨g, (j + 1) * 20, none⟩ = some (.int .i64 y.1) := (by have := HCE.out w1 hj _ y HY.out 0 _ rfl; simpa [momE] using this); go_simp) ?_
     simp only [Act.put, List.setIfInBounds_toArray, List.set]
     refine p_same (.bool false) rfl rfl (fun w1 hj => by go_simp) ?_
     simp only [Act.put, List.setIfInBounds_toArray, List.set]
     refine p_nil ?_
     intro w5 hj5 _
     have HJ5 := Lib.hid hj5
     clear hj5
     go_wp2
     refine ⟨⟨j + 1, .inr HJL.out, ?_, HJ5.out⟩, ?_⟩
     ·rw [show (j : Int) + 1 + 1 = ((j + 1 + 1 : Nat) : Int) by omega]
     ·have := HJL.out
      simp only [intOf]
      omega
    ·have hge : ¬ ((j + 1 : Nat) : Int) < (N : Int) := by omega
     go_wp2
     refine bodyPost_ret (results_tmp2 rfl _ _ _) rfl ?_
     exact ⟨_, rfl, by rw [← HL.out]; exact HOW.out.gr HG5.out, HG.out.trans HG5.out⟩
set_option maxRecDepth 100000
set_option maxHeartbeats 4000000
theorem run_append_e0 (A : Option Addr) (b p c : Nat) (ty : TypeId) (x : CallC) (W : World) (hc : CellsN callE W b p [x]) : (Builtin.append_ #[52, 52] ty #[.slice A 0 0, .slice (some ⟨b, p, none⟩) 1 c]).run Tryz.prog W = (Builtin.append_ #[52, 52] ty #[.slice none 0 0, .slice (some ⟨b, p, none⟩) 1 c]).run Tryz.prog W := by
 cases A with
 | none => rfl
 | some a =>
  obtain ⟨i0, hi, hz0, hz2, hz3⟩ := info_parts callIs.hE
  have hlN : (callL x).length = 1 * i0.size := by rw [hz2]; rfl
  have hnews : ∀ j u, (callL x)[j]? = some u → W.cell? ((⟨b, p, none⟩ : Addr).add j) = some u := fun j u hj => by
   rw [Go.WideShapes.add_plain]
   have := hc 0 x rfl j u hj
   simpa [callE] using this
  have hby : i0.bytes ≤ 1000 := by rw [hz3]; exact callIs.hb
  rw [run_append_nil (P := Tryz.prog) W 52 ty 51 i0 callE.z callIs.hT hi hz0 ⟨b, p, none⟩ 1 c (callL x) hlN hnews (by omega) (by omega) (by omega),
   run_append_grow (P := Tryz.prog) W 52 ty 51 i0 callE.z callIs.hT hi hz0 a 0 0 [] (by simp) (fun j v h => by simp at h) ⟨b, p, none⟩ 1 c (callL x) hlN hnews (by omega) (by omega) (growslice_fits (by omega) (by omega))]
  simp
theorem effAt_append_e0 {base : Nat} {W : World} {o : Oper} {a : Act} {R : Value → World → Prop} (s y : Operand) (ho : o.op = .call { callee := .builtin .append, args := #[s, y], argTypes := #[52, 52] }) (A : Option Addr) (b p c : Nat) (x : CallC) (hs : a.eval s = .slice A 0 0) (hy : a.eval y = .slice (some ⟨b, p, none⟩) 1 c) (hc : CellsN callE W b p [x]) (hbase : base ≤ W.heap.size)
  (h : ∀ v' W', AppN callE base W (.slice none 0 0) [] [x] v' W' → R v' W') : EffAt Tryz.prog o a W R := by
 obtain ⟨v', W', hrun, happ⟩ := run_append_n callIs o.type (OwnN.nil base W) b p [x] c (fun _ _ => trivial) hc (by simp) hbase (by simp)
 have hrun2 : (Builtin.append_ #[52, 52] o.type #[.slice A 0 0, .slice (some ⟨b, p, none⟩) 1 c]).run Tryz.prog W = .ok v' W' := (run_append_e0 A b p c o.type x W hc).trans hrun
 unfold EffAt execOp
 simp only [ho, resolve, invoke, builtin, Sem.run_bind, Sem.run_pure, Result.andThen_ok, List.map_toArray, List.map_cons, List.map_nil, hs, hy, hrun2]
 exact h v' W' happ
theorem clip0 (A : Option Addr) (cap : Nat) (W : World) : Calls Tryz.prog 32 #[.slice A 0 cap] W fun e w' => e = .returned (.slice A 0 0) ∧ Gr W w' := by
 cases A with
 | none =>
  go_enter Tryz.func32, Tryz.ntmps32
  go_wp2
  go_ret
  exact ⟨rfl, gri⟩
 | some a =>
  go_enter Tryz.func32, Tryz.ntmps32
  go_wp2
  go_ret
  exact ⟨rfl, gri⟩
end Go.Proofs.YtddckdhnolmjoaaGreat
