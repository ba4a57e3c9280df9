/- The reference's Ways; SameAnswer. Conditions: the device and the operation stand in memory; at most 1000 .. -/
import Derived.Test.YtddckdhnolmjoaaGreatW17
import Derived.Test.YtddckdhnolmjoaaGreatW10
import Derived.Test.YtddckdhnolmjoaaGreatW15
import Derived.ChangeSlices
import Derived.Test.YtddckdhnolmjoaaGreatW07
import Derived.Test.YtddckdhnolmjoaaGreatW14
set_option linter.unusedVariables false
set_option linter.unusedSimpArgs false
set_option linter.unnecessarySimpa false
set_option maxRecDepth 100000
set_option maxHeartbeats 8000000
namespace Go.Proofs.YtddckdhnolmjoaaGreat
open Go.RowKit
theorem rwrites_any (xk xv xt xs xa xc : Int) (xD : Option Addr) (xn xq : Nat) (w : World) : Calls Tryz.prog 28 #[(Value.agg #[.int .i64 xk, .int .u64 xv, .int .u64 xt, .int .i64 xs, .int .i64 xa, .int .i64 xc, .slice xD xn xq])] w fun e w' => e = .returned (.bool (decide (xk = 5 ∨ xk = 6))) ∧ Gr w w' := by
 by_cases h5 : xk = 5
 ·subst h5
  go_enter Tryz.func28, Tryz.ntmps28
  go_wp2
  go_ret
  exact ⟨rfl, gri⟩
 by_cases h6 : xk = 6
 ·subst h6
  go_enter Tryz.func28, Tryz.ntmps28
  go_wp2
  go_ret
  exact ⟨rfl, gri⟩
 have h5' : (xk == 5) = false := by simpa using h5
 have h6' : (xk == 6) = false := by simpa using h6
 have H5 := hd_ h5
 have H6 := hd_ h6
 clear h5 h6
 go_enter Tryz.func28, Tryz.ntmps28
 go_wp2
 go_ret
 exact ⟨by rw [decide_eq_false (fun h => h.elim H5.out H6.out)]; rfl, gri⟩
theorem ownN_block1 {α : Type} {e : EK α} (he : e.Is) {base : Nat} {W : World} {B : Nat} {cs : Array Value} (x : α) (hx : e.ok x) (hB : BlockAt W B cs e.E) (hb : base ≤ B) (hcs : e.cs x = cs.toList) : OwnN e base W (.slice (some ⟨B, 0, none⟩) 1 1) [x] := by
 have hl := he.len x hx
 refine ⟨fun y hy => by rw [List.mem_singleton] at hy; subst hy; exact hx, by simp [hl], .inr ⟨B, 1, cs, rfl, hb, hB.eq, Nat.le_refl _, by unfold maxLen; omega, ?_, ?_⟩⟩
 ·rw [Nat.one_mul, ← hl, hcs, Array.length_toList]
 ·simp only [List.flatMap_cons, List.flatMap_nil, List.append_nil, hcs, List.length_singleton, Nat.one_mul]
  rw [List.take_of_length_le]
  rw [← hcs, hl]
  exact Nat.le_refl _
theorem BK.row {W : World} {B : Nat} {cs cs' : Array Value} {T : TypeId} (h : BlockAt W B cs T) (hT : T ≠ 5) : BK W (W.setRow B cs') := fun b cs2 f hb => setRow_other W B b cs' (fun e => by
 subst e
 rw [h.eq] at hb
 exact hT (Obj.cells.inj (Option.some.inj hb)).2.1)
theorem rways_any (xk xv xt xs xa xc : Int) (xD : Option Addr) (xn xq : Nat) (hq : xn ≤ xq) (lx : Byt) (hxn : lx.length = xn) (base R : Nat) (d : Dev) (w : World) (h : RefAt base w R d) (hdl : d.length ≤ 1000) (hr : Row bv w xD lx) (hn : xn ≤ 1000000) (v0 : 0 ≤ xv) (t0 : 0 ≤ xt) :
  Calls Tryz.prog 12 #[.pointer (some ⟨R, 0, none⟩), (Value.agg #[.int .i64 xk, .int .u64 xv, .int .u64 xt, .int .i64 xs, .int .i64 xa, .int .i64 xc, .slice xD xn xq])] w (WaysPost d ⟨xk, xv, xt, xs, xa, xc, lx⟩ w) := by
 have HC := hd_ (fun W (g : Gr w W) => rcopy_any base R d W (h.gr g) hdl)
 have hok : DevOk d := by obtain ⟨v, vf, h⟩ := h; exact h.ok
 have hlen := ansK_len hok ⟨xk, xv, xt, xs, xa, xc, lx⟩ 1024
 have HDo0 := fun W W0 R2 (h0 : Gr W0 W) (h2 : RefAt W0.heap.size W R2 d) (g : Gr w W0) => rdo_any xk xv xt xs xa xc xD xn xq hq lx hxn W0.heap.size R2 d W W0 h0 rfl h2 (by omega) (hr.gr g) hn v0 t0
 obtain ⟨o, ho⟩ : ∃ o : OpM, o = ⟨xk, xv, xt, xs, xa, xc, lx⟩ := ⟨_, rfl⟩
 have ek : o.k = xk := by rw [ho]
 have ea : o.a = xa := by rw [ho]
 have ec : o.c = xc := by rw [ho]
 have el : o.l.length = xn := by rw [ho]; exact hxn
 rw [← ho] at hlen HDo0 ⊢
 clear ho
 have hw0 : waysK d o = ansK d o 1024 :: if (ansK d o 1024).1 ≠ 0 ∨ o.k = 9 ∨ o.k = 8 then [] else if o.k = 5 ∨ o.k = 6 then (List.range (spans o.a.toNat (cntO o)).length).map (fun k : Nat => ((8, (k : Int), []) : AnsM)) else [(8, 0, [])] := rfl
 have hz0 : (ansK d o 1024).1 = 0 → errK d o = 0 := ansK_ok
 generalize ansK d o 1024 = z at *
 obtain ⟨code, done, data⟩ := z
 simp only at hlen HDo0 hw0 hz0
 have HDo := hd_ HDo0
 have HLN : Hid (data.length ≤ 1000000) := hd_ (by omega)
 clear HDo0 hlen h hr
 have fin : ∀ (x0 : AnsC) (W' : World) v, x0.m = (code, done, data) → (waysK d o = [(code, done, data)]) → OwnN ansE w.heap.size W' v [x0] → AnsOk w.heap.size W' x0 → Gr w W' → WaysPost d o w (.returned v) W' := fun x0 W' v e1 e2 ho hx hg =>
  ⟨v, [x0], rfl, ho, by rw [e2, List.map_singleton, e1], fun x hx' => by rw [List.mem_singleton] at hx'; subst hx'; exact hx, hg⟩
 have FIN := hd_ fin
 clear fin
 have HRW := hd_ (fun W => rwrites_any xk xv xt xs xa xc xD xn xq W)
 by_cases hc0 : code = 0
 rotate_left
 ·have hcb : (code != 0) = true := bne_iff_ne.2 hc0
  have HW := hd_ (show waysK d o = [(code, done, data)] by rw [hw0, if_pos (.inl hc0)])
  clear hw0 hc0 hz0 HRW
  go_enter Tryz.func12, Tryz.ntmps12
  go_wp2
  obtain ⟨W1, hW1⟩ : ∃ W1, W1 = w.alloc (.cells #[.int .i64 xk, .int .u64 xv, .int .u64 xt, .int .i64 xs, .int .i64 xa, .int .i64 xc, .slice xD xn xq] 27) := ⟨_, rfl⟩
  have hg1 : Gr w W1 := by rw [hW1]; exact gri
  have hB1 : BlockAt W1 w.heap.size #[.int .i64 xk, .int .u64 xv, .int .u64 xt, .int .i64 xs, .int .i64 xa, .int .i64 xc, .slice xD xn xq] 27 := by rw [hW1]; infer_instance
  rw [← hW1]
  have cO0 : W1.cell? ⟨w.heap.size, 0, none⟩ = some (.int .i64 xk) := (bc 0 hB1).trans rfl
  have cO1 : W1.cell? ⟨w.heap.size, 1, none⟩ = some (.int .u64 xv) := (bc 1 hB1).trans rfl
  have cO2 : W1.cell? ⟨w.heap.size, 2, none⟩ = some (.int .u64 xt) := (bc 2 hB1).trans rfl
  have cO3 : W1.cell? ⟨w.heap.size, 3, none⟩ = some (.int .i64 xs) := (bc 3 hB1).trans rfl
  have cO4 : W1.cell? ⟨w.heap.size, 4, none⟩ = some (.int .i64 xa) := (bc 4 hB1).trans rfl
  have cO5 : W1.cell? ⟨w.heap.size, 5, none⟩ = some (.int .i64 xc) := (bc 5 hB1).trans rfl
  have cO6 : W1.cell? ⟨w.heap.size, 6, none⟩ = some (.slice xD xn xq) := (bc 6 hB1).trans rfl
  haveI := hB1.old
  haveI := grc_of hg1
  haveI := from_of hg1
  have HG1 := hd_ hg1
  clear hW1 hg1
  refine wp_region_flo (W := W1) (I := InCls W1) (inCls_ghost _) (Cls.none _) ⟨gri, trivial⟩ [0, 2] [(1, false), (3, false)] 4 5 [] rfl rfl Tryz.zeroValue38 rfl rfl (by kernel_rfl) (by kernel_rfl) (by kernel_rfl) ?_
  simp only [pick, List.drop, List.take, List.nil_append, List.cons_append, pick, List.getElem_toArray, List.getElem_cons_succ, List.getElem_cons_zero]
  repeat (refine wpCalm_step (fun K hK => ?_); go_simp; first | (refine hK _ ?_; clear hK K) | (apply Exists.intro; refine ⟨fun _ => ?_, hK _ ?_⟩; (skip); clear hK K))
  refine wpCalm_nil ?_
  simp only [pickF, List.getElem?_cons_succ, List.getElem?_cons_zero]
  refine flo_eff rfl (fun w1 hI1 => ?_)
  refine effAt_call' 27 #[.pointer (some ⟨R, 0, none⟩)] (by go_simp) ((HC.out w1 (HG1.out.trans hI1.1)).mono ?_)
  rintro _ w2 ⟨R2, rfl, h2, hg2⟩
  refine ⟨_, rfl, KeptT.gr hg2, Cls.just W1 (fun W => RefAt w1.heap.size W R2 d ∧ Gr w1 W) (fun _ _ h g => ⟨h.1.gr g, h.2.trans g⟩), ⟨hI1.1.trans hg2, h2, hg2⟩, ?_⟩
  have hI1g := hI1.1
  clear hI1 h2 hg2
  go_simp
  refine flo_eff rfl (fun w3 hI3 => ?_)
  refine effAt_call' 9 #[.pointer (some ⟨R2, 0, none⟩), (Value.agg #[.int .i64 xk, .int .u64 xv, .int .u64 xt, .int .i64 xs, .int .i64 xa, .int .i64 xc, .slice xD xn xq])] (by go_simp) ((HDo.out w3 w1 R2 hI3.2.2 hI3.2.1 (HG1.out.trans hI1g)).mono ?_)
  rintro _ w4 ⟨A3, n3, c3, rfl, ho3, hd3, hb3, hk3⟩
  have hg4 : Gr W1 w4 := Gr.of (hI3.1.below.trans (hb3.mono hI1g.below.size))
  refine ⟨_, rfl, fun B cs hB => hk3.block hB (by unfold refT; decide), Cls.just W1 (fun W => AnsOk w.heap.size W ⟨code, done, data, A3, n3, c3⟩) (fun _ _ h g => h.gr g), ⟨hg4, ansOk_own (ho3.more (HG1.out.trans hI3.1).below.size) HLN.out⟩, ?_⟩
  clear hg4 ho3 hd3 hb3 hk3 hI3 hI1g w4 w3 w2 w1
  go_simp
  refine flo_end rfl (fun X1 w5 hI5 hX1 hl1 => ?_)
  refine effAt_storeG rfl rfl rfl (run_storeRow X1 _ _ _ hX1 (by kernel_rfl) rfl (by simp [Value.oneCell'])) ?_
  refine ⟨Cls.just W1 (fun W => BlockAt W X1 #[.int .i64 code, .int .i64 done, .slice A3 n3 c3] 38 ∧ AnsOk w.heap.size W ⟨code, done, data, A3, n3, c3⟩) (fun _ _ h g => ⟨h.1.gr g, h.2.gr g⟩), ⟨Gr.of (below_row hI5.1.below hl1 _), blockAt_row (h := hX1) _ _ _ _ _, hI5.2.bk (BK.row hX1 (by decide))⟩, ?_⟩
  refine wpCalm_nil ?_
  rintro w9 ⟨⟨g5, rfl⟩, bX1, ho9⟩
  have HA3 := hd_ ho9
  haveI := bX1.old
  have cX0 := (bc 0 bX1).trans (rfl : (#[.int .i64 code, .int .i64 done, .slice A3 n3 c3] : Array Value)[0]? = some (.int .i64 code))
  have cX1 := (bc 1 bX1).trans (rfl : (#[.int .i64 code, .int .i64 done, .slice A3 n3 c3] : Array Value)[1]? = some (.int .i64 done))
  have cX2 := (bc 2 bX1).trans (rfl : (#[.int .i64 code, .int .i64 done, .slice A3 n3 c3] : Array Value)[2]? = some (.slice A3 n3 c3))
  clear bX1 ho9
  simp only [ptrAt]
  go_simp
  go_wp2
  refine bodyPost_ret (results_tmp rfl _ _ _) rfl ?_
  exact FIN.out _ _ _ rfl HW.out (ownN_block1 ansIs ⟨code, done, data, A3, n3, c3⟩ trivial inferInstance (Gr.below (gri : Gr w (grown W1 g5))).size rfl) (HA3.out.gr gri) gri
 subst hc0
 have he := hz0 rfl
 have hs := may_s (err_may he)
 by_cases h98 : xk = 9 ∨ xk = 8
 ·have HW := hd_ (show waysK d o = [(0, done, data)] by rw [hw0, if_pos (.inr (by rw [ek]; exact h98))])
  have h9 : ((xk == 9) = true) ∨ ((xk == 9) = false ∧ (xk == 8) = true) := by
   rcases h98 with h | h
   ·exact .inl (by simpa using h)
   ·exact .inr ⟨by simp [h], by simpa using h⟩
  clear hw0 hz0 h98 he hs HRW ek
  rcases h9 with k9 | ⟨k9, k8⟩
  all_goals
   go_enter Tryz.func12, Tryz.ntmps12
   go_wp2
   obtain ⟨W1, hW1⟩ : ∃ W1, W1 = w.alloc (.cells #[.int .i64 xk, .int .u64 xv, .int .u64 xt, .int .i64 xs, .int .i64 xa, .int .i64 xc, .slice xD xn xq] 27) := ⟨_, rfl⟩
   have hg1 : Gr w W1 := by rw [hW1]; exact gri
   have hB1 : BlockAt W1 w.heap.size #[.int .i64 xk, .int .u64 xv, .int .u64 xt, .int .i64 xs, .int .i64 xa, .int .i64 xc, .slice xD xn xq] 27 := by rw [hW1]; infer_instance
   rw [← hW1]
   have cO0 : W1.cell? ⟨w.heap.size, 0, none⟩ = some (.int .i64 xk) := (bc 0 hB1).trans rfl
   have cO1 : W1.cell? ⟨w.heap.size, 1, none⟩ = some (.int .u64 xv) := (bc 1 hB1).trans rfl
   have cO2 : W1.cell? ⟨w.heap.size, 2, none⟩ = some (.int .u64 xt) := (bc 2 hB1).trans rfl
   have cO3 : W1.cell? ⟨w.heap.size, 3, none⟩ = some (.int .i64 xs) := (bc 3 hB1).trans rfl
   have cO4 : W1.cell? ⟨w.heap.size, 4, none⟩ = some (.int .i64 xa) := (bc 4 hB1).trans rfl
   have cO5 : W1.cell? ⟨w.heap.size, 5, none⟩ = some (.int .i64 xc) := (bc 5 hB1).trans rfl
   have cO6 : W1.cell? ⟨w.heap.size, 6, none⟩ = some (.slice xD xn xq) := (bc 6 hB1).trans rfl
   haveI := hB1.old
   haveI := grc_of hg1
   haveI := from_of hg1
   have HG1 := hd_ hg1
   clear hW1 hg1
   refine wp_region_flo (W := W1) (I := InCls W1) (inCls_ghost _) (Cls.none _) ⟨gri, trivial⟩ [0, 2] [(1, false), (3, false)] 4 5 [] rfl rfl Tryz.zeroValue38 rfl rfl (by kernel_rfl) (by kernel_rfl) (by kernel_rfl) ?_
   simp only [pick, List.drop, List.take, List.nil_append, List.cons_append, pick, List.getElem_toArray, List.getElem_cons_succ, List.getElem_cons_zero]
   repeat (refine wpCalm_step (fun K hK => ?_); go_simp; first | (refine hK _ ?_; clear hK K) | (apply Exists.intro; refine ⟨fun _ => ?_, hK _ ?_⟩; (skip); clear hK K))
   refine wpCalm_nil ?_
   simp only [pickF, List.getElem?_cons_succ, List.getElem?_cons_zero]
   refine flo_eff rfl (fun w1 hI1 => ?_)
   refine effAt_call' 27 #[.pointer (some ⟨R, 0, none⟩)] (by go_simp) ((HC.out w1 (HG1.out.trans hI1.1)).mono ?_)
   rintro _ w2 ⟨R2, rfl, h2, hg2⟩
   refine ⟨_, rfl, KeptT.gr hg2, Cls.just W1 (fun W => RefAt w1.heap.size W R2 d ∧ Gr w1 W) (fun _ _ h g => ⟨h.1.gr g, h.2.trans g⟩), ⟨hI1.1.trans hg2, h2, hg2⟩, ?_⟩
   have hI1g := hI1.1
   clear hI1 h2 hg2
   go_simp
   refine flo_eff rfl (fun w3 hI3 => ?_)
   refine effAt_call' 9 #[.pointer (some ⟨R2, 0, none⟩), (Value.agg #[.int .i64 xk, .int .u64 xv, .int .u64 xt, .int .i64 xs, .int .i64 xa, .int .i64 xc, .slice xD xn xq])] (by go_simp) ((HDo.out w3 w1 R2 hI3.2.2 hI3.2.1 (HG1.out.trans hI1g)).mono ?_)
   rintro _ w4 ⟨A3, n3, c3, rfl, ho3, hd3, hb3, hk3⟩
   have hg4 : Gr W1 w4 := Gr.of (hI3.1.below.trans (hb3.mono hI1g.below.size))
   refine ⟨_, rfl, fun B cs hB => hk3.block hB (by unfold refT; decide), Cls.just W1 (fun W => AnsOk w.heap.size W ⟨0, done, data, A3, n3, c3⟩) (fun _ _ h g => h.gr g), ⟨hg4, ansOk_own (ho3.more (HG1.out.trans hI3.1).below.size) HLN.out⟩, ?_⟩
   clear hg4 ho3 hd3 hb3 hk3 hI3 hI1g w4 w3 w2 w1
   go_simp
   refine flo_end rfl (fun X1 w5 hI5 hX1 hl1 => ?_)
   refine effAt_storeG rfl rfl rfl (run_storeRow X1 _ _ _ hX1 (by kernel_rfl) rfl (by simp [Value.oneCell'])) ?_
   refine ⟨Cls.just W1 (fun W => BlockAt W X1 #[.int .i64 0, .int .i64 done, .slice A3 n3 c3] 38 ∧ AnsOk w.heap.size W ⟨0, done, data, A3, n3, c3⟩) (fun _ _ h g => ⟨h.1.gr g, h.2.gr g⟩), ⟨Gr.of (below_row hI5.1.below hl1 _), blockAt_row (h := hX1) _ _ _ _ _, hI5.2.bk (BK.row hX1 (by decide))⟩, ?_⟩
   refine wpCalm_nil ?_
   rintro w9 ⟨⟨g5, rfl⟩, bX1, ho9⟩
   have HA3 := hd_ ho9
   haveI := bX1.old
   have cX0 := (bc 0 bX1).trans (rfl : (#[.int .i64 0, .int .i64 done, .slice A3 n3 c3] : Array Value)[0]? = some (.int .i64 0))
   have cX1 := (bc 1 bX1).trans (rfl : (#[.int .i64 0, .int .i64 done, .slice A3 n3 c3] : Array Value)[1]? = some (.int .i64 done))
   have cX2 := (bc 2 bX1).trans (rfl : (#[.int .i64 0, .int .i64 done, .slice A3 n3 c3] : Array Value)[2]? = some (.slice A3 n3 c3))
   clear bX1 ho9
   simp only [ptrAt]
   go_simp
   go_wp2
   refine bodyPost_ret (results_tmp rfl _ _ _) rfl ?_
   exact FIN.out _ _ _ rfl HW.out (ownN_block1 ansIs ⟨0, done, data, A3, n3, c3⟩ trivial inferInstance (Gr.below (gri : Gr w (grown W1 g5))).size rfl) (HA3.out.gr gri) gri
 have k9 : (xk == 9) = false := by simp only [not_or] at h98; simpa using h98.1
 have k8 : (xk == 8) = false := by simp only [not_or] at h98; simpa using h98.2
 by_cases h56 : xk = 5 ∨ xk = 6
 rotate_left
 ·have HW := hd_ (show waysK d o = [(0, done, data), (8, 0, [])] by rw [hw0, if_neg (by rw [ek]; simpa using h98), if_neg (by rw [ek]; exact h56)])
  rw [decide_eq_false h56] at HRW
  clear hw0 hz0 h98 he hs h56
  go_enter Tryz.func12, Tryz.ntmps12
  go_wp2
  obtain ⟨W1, hW1⟩ : ∃ W1, W1 = w.alloc (.cells #[.int .i64 xk, .int .u64 xv, .int .u64 xt, .int .i64 xs, .int .i64 xa, .int .i64 xc, .slice xD xn xq] 27) := ⟨_, rfl⟩
  have hg1 : Gr w W1 := by rw [hW1]; exact gri
  have hB1 : BlockAt W1 w.heap.size #[.int .i64 xk, .int .u64 xv, .int .u64 xt, .int .i64 xs, .int .i64 xa, .int .i64 xc, .slice xD xn xq] 27 := by rw [hW1]; infer_instance
  rw [← hW1]
  have cO0 : W1.cell? ⟨w.heap.size, 0, none⟩ = some (.int .i64 xk) := (bc 0 hB1).trans rfl
  have cO1 : W1.cell? ⟨w.heap.size, 1, none⟩ = some (.int .u64 xv) := (bc 1 hB1).trans rfl
  have cO2 : W1.cell? ⟨w.heap.size, 2, none⟩ = some (.int .u64 xt) := (bc 2 hB1).trans rfl
  have cO3 : W1.cell? ⟨w.heap.size, 3, none⟩ = some (.int .i64 xs) := (bc 3 hB1).trans rfl
  have cO4 : W1.cell? ⟨w.heap.size, 4, none⟩ = some (.int .i64 xa) := (bc 4 hB1).trans rfl
  have cO5 : W1.cell? ⟨w.heap.size, 5, none⟩ = some (.int .i64 xc) := (bc 5 hB1).trans rfl
  have cO6 : W1.cell? ⟨w.heap.size, 6, none⟩ = some (.slice xD xn xq) := (bc 6 hB1).trans rfl
  haveI := hB1.old
  haveI := grc_of hg1
  haveI := from_of hg1
  have HG1 := hd_ hg1
  clear hW1 hg1
  refine wp_region_flo (W := W1) (I := InCls W1) (inCls_ghost _) (Cls.none _) ⟨gri, trivial⟩ [0, 2] [(1, false), (3, false)] 4 5 [] rfl rfl Tryz.zeroValue38 rfl rfl (by kernel_rfl) (by kernel_rfl) (by kernel_rfl) ?_
  simp only [pick, List.drop, List.take, List.nil_append, List.cons_append, pick, List.getElem_toArray, List.getElem_cons_succ, List.getElem_cons_zero]
  repeat (refine wpCalm_step (fun K hK => ?_); go_simp; first | (refine hK _ ?_; clear hK K) | (apply Exists.intro; refine ⟨fun _ => ?_, hK _ ?_⟩; (skip); clear hK K))
  refine wpCalm_nil ?_
  simp only [pickF, List.getElem?_cons_succ, List.getElem?_cons_zero]
  refine flo_eff rfl (fun w1 hI1 => ?_)
  refine effAt_call' 27 #[.pointer (some ⟨R, 0, none⟩)] (by go_simp) ((HC.out w1 (HG1.out.trans hI1.1)).mono ?_)
  rintro _ w2 ⟨R2, rfl, h2, hg2⟩
  refine ⟨_, rfl, KeptT.gr hg2, Cls.just W1 (fun W => RefAt w1.heap.size W R2 d ∧ Gr w1 W) (fun _ _ h g => ⟨h.1.gr g, h.2.trans g⟩), ⟨hI1.1.trans hg2, h2, hg2⟩, ?_⟩
  have hI1g := hI1.1
  clear hI1 h2 hg2
  go_simp
  refine flo_eff rfl (fun w3 hI3 => ?_)
  refine effAt_call' 9 #[.pointer (some ⟨R2, 0, none⟩), (Value.agg #[.int .i64 xk, .int .u64 xv, .int .u64 xt, .int .i64 xs, .int .i64 xa, .int .i64 xc, .slice xD xn xq])] (by go_simp) ((HDo.out w3 w1 R2 hI3.2.2 hI3.2.1 (HG1.out.trans hI1g)).mono ?_)
  rintro _ w4 ⟨A3, n3, c3, rfl, ho3, hd3, hb3, hk3⟩
  have hg4 : Gr W1 w4 := Gr.of (hI3.1.below.trans (hb3.mono hI1g.below.size))
  refine ⟨_, rfl, fun B cs hB => hk3.block hB (by unfold refT; decide), Cls.just W1 (fun W => AnsOk w.heap.size W ⟨0, done, data, A3, n3, c3⟩) (fun _ _ h g => h.gr g), ⟨hg4, ansOk_own (ho3.more (HG1.out.trans hI3.1).below.size) HLN.out⟩, ?_⟩
  clear hg4 ho3 hd3 hb3 hk3 hI3 hI1g w4 w3 w2 w1
  go_simp
  refine flo_end rfl (fun X1 w5 hI5 hX1 hl1 => ?_)
  refine effAt_storeG rfl rfl rfl (run_storeRow X1 _ _ _ hX1 (by kernel_rfl) rfl (by simp [Value.oneCell'])) ?_
  refine ⟨Cls.just W1 (fun W => BlockAt W X1 #[.int .i64 0, .int .i64 done, .slice A3 n3 c3] 38 ∧ AnsOk w.heap.size W ⟨0, done, data, A3, n3, c3⟩) (fun _ _ h g => ⟨h.1.gr g, h.2.gr g⟩), ⟨Gr.of (below_row hI5.1.below hl1 _), blockAt_row (h := hX1) _ _ _ _ _, hI5.2.bk (BK.row hX1 (by decide))⟩, ?_⟩
  refine wpCalm_nil ?_
  rintro w9 ⟨⟨g5, rfl⟩, bX1, ho9⟩
  have HA3 := hd_ ho9
  haveI := bX1.old
  have cX0 := (bc 0 bX1).trans (rfl : (#[.int .i64 0, .int .i64 done, .slice A3 n3 c3] : Array Value)[0]? = some (.int .i64 0))
  have cX1 := (bc 1 bX1).trans (rfl : (#[.int .i64 0, .int .i64 done, .slice A3 n3 c3] : Array Value)[1]? = some (.int .i64 done))
  have cX2 := (bc 2 bX1).trans (rfl : (#[.int .i64 0, .int .i64 done, .slice A3 n3 c3] : Array Value)[2]? = some (.slice A3 n3 c3))
  clear bX1 ho9
  simp only [ptrAt]
  go_simp
  have HO1 := hd_ (fun (W : World) (g : Gr w W) (hB : BlockAt W (grown W1 g5).heap.size #[.int .i64 0, .int .i64 done, .slice A3 n3 c3] 38) => ownN_block1 ansIs (base := w.heap.size) (⟨0, done, data, A3, n3, c3⟩ : AnsC) trivial hB (Gr.below (gri : Gr w (grown W1 g5))).size rfl)
  go_wp2_with (first
   | (go_at_call 28; ((with_reducible refine (HRW.out _).mono ?_); rintro _ _ ⟨rfl, g7, rfl⟩))
   | (at_builtin; refine wp_append_n ansIs rfl _ _ rfl rfl (HO1.out _ gri inferInstance) _ 0 [fullA 0] 1 1 rfl rfl (fun _ _ => trivial) (CellsN.block _ inferInstance rfl) (by simp) past (by simp) ?_; intro v2 W4 h2; have H2 := hd_ h2; clear h2; haveI := H2.out.grc w (Nat.le_refl _); haveI := H2.out.from_ w))
  refine bodyPost_ret (results_tmp rfl _ _ _) rfl ?_
  exact ⟨v2, [⟨0, done, data, A3, n3, c3⟩, fullA 0], rfl, H2.out.own.gr gri, by rw [HW.out]; rfl, fun x hx => by
   simp only [List.mem_cons, List.mem_nil_iff, or_false] at hx
   rcases hx with rfl | rfl
   ·exact ((HA3.out.gr gri).bk (BK.app H2.out (by decide))).gr gri
   ·exact ansOk_nil _ _ _ _, gri⟩
 have ha := hs.at_ (by rw [ek]; omega)
 rw [ea] at ha
 obtain ⟨a, rfl⟩ : ∃ a : Nat, xa = (a : Int) := ⟨xa.toNat, by omega⟩
 obtain ⟨c, hcn⟩ : ∃ c, cntO o = c := ⟨_, rfl⟩
 have hc1 : 1 ≤ c ∧ c ≤ 1024 := by
  rw [← hcn, cntO, ek]
  rcases h56 with h | h
  ·have h1 := hs.dat (by rw [ek]; exact h)
   rw [if_pos h]
   omega
  ·have h1 := hs.cnt (by rw [ek]; omega)
   rw [if_neg (by omega)]
   omega
 have hsp : ∀ W, Calls Tryz.prog 29 #[.int .i64 (a : Int), .int .i64 (c : Int)] W fun e w' => ∃ A q, e = .returned (.slice A (spans a c).length q) ∧ Gr W w' := fun W => by
  refine (rsplit_any a c (by omega) (by omega) (by omega) W).mono ?_
  rintro e w' ⟨v, rfl, ho, hg⟩
  obtain ⟨A, q, rfl, _⟩ := ho.form spIs
  exact ⟨A, q, rfl, hg⟩
 have hN := spans_len a c
 have hw1 : waysK d o = (0, done, data) :: (List.range (spans a c).length).map (fun k : Nat => ((8, (k : Int), []) : AnsM)) := by
  rw [hw0, if_neg (by rw [ek]; simpa using h98), if_pos (by rw [ek]; exact h56), ea, hcn]
  rfl
 rw [decide_eq_true h56] at HRW
 generalize (spans a c).length = N at *
 have h5 : ((xk == 5) = true ∧ Int.tdiv (xn : Int) 64 = (c : Int)) ∨ ((xk == 5) = false ∧ xc = (c : Int)) := by
  rw [cntO, ek] at hcn
  by_cases h5 : xk = 5
  ·rw [if_pos h5, el] at hcn
   exact .inl ⟨by simpa using h5, by rw [Int.tdiv_eq_ediv_of_nonneg (by omega)]; omega⟩
  ·rw [if_neg h5, ec] at hcn
   have h6 := hs.cnt (by rw [ek]; omega)
   rw [ec] at h6
   exact .inr ⟨by simpa using h5, by omega⟩
 have HW := hd_ hw1
 have HN : Hid (N ≤ 1024) := hd_ (by omega)
 have HSP := hd_ hsp
 have hcc := hc1.2
 clear hw0 hw1 hz0 h98 he hs h56 hsp hN hc1 hcn ha ek el ec
 rcases h5 with ⟨k5, q5⟩ | ⟨k5, rfl⟩
 ·go_enter Tryz.func12, Tryz.ntmps12
  go_wp2
  obtain ⟨W1, hW1⟩ : ∃ W1, W1 = w.alloc (.cells #[.int .i64 xk, .int .u64 xv, .int .u64 xt, .int .i64 xs, .int .i64 (a : Int), .int .i64 xc, .slice xD xn xq] 27) := ⟨_, rfl⟩
  have hg1 : Gr w W1 := by rw [hW1]; exact gri
  have hB1 : BlockAt W1 w.heap.size #[.int .i64 xk, .int .u64 xv, .int .u64 xt, .int .i64 xs, .int .i64 (a : Int), .int .i64 xc, .slice xD xn xq] 27 := by rw [hW1]; infer_instance
  rw [← hW1]
  have cO0 : W1.cell? ⟨w.heap.size, 0, none⟩ = some (.int .i64 xk) := (bc 0 hB1).trans rfl
  have cO1 : W1.cell? ⟨w.heap.size, 1, none⟩ = some (.int .u64 xv) := (bc 1 hB1).trans rfl
  have cO2 : W1.cell? ⟨w.heap.size, 2, none⟩ = some (.int .u64 xt) := (bc 2 hB1).trans rfl
  have cO3 : W1.cell? ⟨w.heap.size, 3, none⟩ = some (.int .i64 xs) := (bc 3 hB1).trans rfl
  have cO4 : W1.cell? ⟨w.heap.size, 4, none⟩ = some (.int .i64 (a : Int)) := (bc 4 hB1).trans rfl
  have cO5 : W1.cell? ⟨w.heap.size, 5, none⟩ = some (.int .i64 xc) := (bc 5 hB1).trans rfl
  have cO6 : W1.cell? ⟨w.heap.size, 6, none⟩ = some (.slice xD xn xq) := (bc 6 hB1).trans rfl
  have HOP := hd_ hB1
  haveI := hB1.old
  haveI := grc_of hg1
  haveI := from_of hg1
  have HG1 := hd_ hg1
  clear hW1 hg1
  refine wp_region_flo (W := W1) (I := InCls W1) (inCls_ghost _) (Cls.none _) ⟨gri, trivial⟩ [0, 2] [(1, false), (3, false)] 4 5 [] rfl rfl Tryz.zeroValue38 rfl rfl (by kernel_rfl) (by kernel_rfl) (by kernel_rfl) ?_
  simp only [pick, List.drop, List.take, List.nil_append, List.cons_append, pick, List.getElem_toArray, List.getElem_cons_succ, List.getElem_cons_zero]
  repeat (refine wpCalm_step (fun K hK => ?_); go_simp; first | (refine hK _ ?_; clear hK K) | (apply Exists.intro; refine ⟨fun _ => ?_, hK _ ?_⟩; (skip); clear hK K))
  refine wpCalm_nil ?_
  simp only [pickF, List.getElem?_cons_succ, List.getElem?_cons_zero]
  refine flo_eff rfl (fun w1 hI1 => ?_)
  refine effAt_call' 27 #[.pointer (some ⟨R, 0, none⟩)] (by go_simp) ((HC.out w1 (HG1.out.trans hI1.1)).mono ?_)
  rintro _ w2 ⟨R2, rfl, h2, hg2⟩
  refine ⟨_, rfl, KeptT.gr hg2, Cls.just W1 (fun W => RefAt w1.heap.size W R2 d ∧ Gr w1 W) (fun _ _ h g => ⟨h.1.gr g, h.2.trans g⟩), ⟨hI1.1.trans hg2, h2, hg2⟩, ?_⟩
  have hI1g := hI1.1
  clear hI1 h2 hg2
  go_simp
  refine flo_eff rfl (fun w3 hI3 => ?_)
  refine effAt_call' 9 #[.pointer (some ⟨R2, 0, none⟩), .agg #[.int .i64 xk, .int .u64 xv, .int .u64 xt, .int .i64 xs, .int .i64 (a : Int), .int .i64 xc, .slice xD xn xq]] (by go_simp) ((HDo.out w3 w1 R2 hI3.2.2 hI3.2.1 (HG1.out.trans hI1g)).mono ?_)
  rintro _ w4 ⟨A3, n3, c3, rfl, ho3, hd3, hb3, hk3⟩
  have hg4 : Gr W1 w4 := Gr.of (hI3.1.below.trans (hb3.mono hI1g.below.size))
  refine ⟨_, rfl, fun B cs hB => hk3.block hB (by unfold refT; decide), Cls.just W1 (fun W => AnsOk w.heap.size W ⟨0, done, data, A3, n3, c3⟩) (fun _ _ h g => h.gr g), ⟨hg4, ansOk_own (ho3.more (HG1.out.trans hI3.1).below.size) HLN.out⟩, ?_⟩
  clear hg4 ho3 hd3 hb3 hk3 hI3 hI1g w4 w3 w2 w1
  go_simp
  refine flo_end rfl (fun X1 w5 hI5 hX1 hl1 => ?_)
  refine effAt_storeG rfl rfl rfl (run_storeRow X1 _ _ _ hX1 (by kernel_rfl) rfl (by simp [Value.oneCell'])) ?_
  refine ⟨Cls.just W1 (fun W => BlockAt W X1 #[.int .i64 0, .int .i64 done, .slice A3 n3 c3] 38 ∧ AnsOk w.heap.size W ⟨0, done, data, A3, n3, c3⟩) (fun _ _ h g => ⟨h.1.gr g, h.2.gr g⟩), ⟨Gr.of (below_row hI5.1.below hl1 _), blockAt_row (h := hX1) _ _ _ _ _, hI5.2.bk (BK.row hX1 (by decide))⟩, ?_⟩
  refine wpCalm_nil ?_
  rintro w9 ⟨⟨g5, rfl⟩, bX1, ho9⟩
  have HA3 := hd_ ho9
  haveI := bX1.old
  have cX0 := (bc 0 bX1).trans (rfl : (#[.int .i64 0, .int .i64 done, .slice A3 n3 c3] : Array Value)[0]? = some (.int .i64 0))
  have cX1 := (bc 1 bX1).trans (rfl : (#[.int .i64 0, .int .i64 done, .slice A3 n3 c3] : Array Value)[1]? = some (.int .i64 done))
  have cX2 := (bc 2 bX1).trans (rfl : (#[.int .i64 0, .int .i64 done, .slice A3 n3 c3] : Array Value)[2]? = some (.slice A3 n3 c3))
  clear bX1 ho9
  simp only [ptrAt]
  go_simp
  have HO1 := hd_ (fun (W : World) (g : Gr w W) (hB : BlockAt W (grown W1 g5).heap.size #[.int .i64 0, .int .i64 done, .slice A3 n3 c3] 38) => show OwnN ansE w.heap.size W (.slice (some ⟨(grown W1 g5).heap.size, 0, none⟩) 1 1) ([(⟨0, done, data, A3, n3, c3⟩ : AnsC)] ++ (List.range 0).map fullA) from ownN_block1 ansIs (base := w.heap.size) (⟨0, done, data, A3, n3, c3⟩ : AnsC) trivial hB (Gr.below (gri : Gr w (grown W1 g5))).size rfl)
  go_wp2_with (first
   | (go_at_call 28; ((with_reducible refine (HRW.out _).mono ?_); rintro _ _ ⟨rfl, g7, rfl⟩)))
  go_loopw [6, 8] (fun v i wr => ∃ k : Nat, k ≤ N ∧ i = .int .i64 (k : Int) ∧ OwnN ansE w.heap.size wr v ([(⟨0, done, data, A3, n3, c3⟩ : AnsC)] ++ (List.range k).map fullA) ∧ AnsOk w.heap.size wr ⟨0, done, data, A3, n3, c3⟩ ∧ BlockAt wr w.heap.size #[.int .i64 xk, .int .u64 xv, .int .u64 xt, .int .i64 xs, .int .i64 (a : Int), .int .i64 xc, .slice xD xn xq] 27 ∧ Gr w wr) (fun _ i _ => N - (intOf i).toNat)
  case atStart => exact ⟨0, Nat.zero_le _, rfl, HO1.out _ gri inferInstance, HA3.out.gr gri, HOP.out.gr gri, gri⟩
  case round =>
   obtain ⟨k, hk, rfl, ho, hx, hb, hg⟩ := hrel
   haveI := grc_of hg
   haveI := from_of hg
   have b4 := (bc 4 hb).trans (rfl : (#[.int .i64 xk, .int .u64 xv, .int .u64 xt, .int .i64 xs, .int .i64 (a : Int), .int .i64 xc, .slice xD xn xq] : Array Value)[4]? = some (.int .i64 (a : Int)))
   haveI := hb.old
   have HO := hd_ ho
   have HX := hd_ hx
   have HB := hd_ hb
   have HG := hd_ hg
   have hNN := HN.out
   clear ho hx hg hb
   by_cases hlt : k < N
   ·have HLT := hd_ hlt
    go_wp2_with (first
     | (go_at_call 29; ((with_reducible refine (HSP.out _).mono ?_); rintro _ _ ⟨A8, q8, rfl, g8, rfl⟩))
     | (at_builtin; refine wp_append_n ansIs rfl _ _ rfl rfl (HO.out.gr gri) _ 0 [fullA k] 1 1 rfl rfl (fun _ _ => trivial) (CellsN.block _ inferInstance rfl) (by simp; omega) past (by simp) ?_; intro v2 W4 h2; have H2 := hd_ h2; clear h2))
    go_roundw
    case rel => exact ⟨k + 1, HLT.out, by go_num, by rw [List.range_succ, List.map_append, ← List.append_assoc]; exact H2.out.own, (HX.out.gr gri).bk (BK.app H2.out (by decide)), H2.out.keep _ _ _ (HB.out.gr gri) (by decide), by haveI := H2.out.grc w (Nat.le_refl _); exact gri⟩
    case measure => simp [intOf]; omega
   ·have : k = N := by omega
    subst this
    go_wp2_with (first
     | (go_at_call 29; ((with_reducible refine (HSP.out _).mono ?_); rintro _ _ ⟨A8, q8, rfl, g8, rfl⟩)))
    refine bodyPost_ret (results_tmp rfl _ _ _) rfl ?_
    refine ⟨_, _, rfl, HO.out.gr gri, ?_, fun x hx => ?_, HG.out.trans gri⟩
    ·rw [HW.out, List.map_append, List.map_map]
     rfl
    ·rcases List.mem_append.1 hx with hx | hx
     ·rw [List.mem_singleton] at hx
      subst hx
      exact HX.out.gr gri
     ·obtain ⟨k', _, rfl⟩ := List.mem_map.1 hx
      exact ansOk_nil _ _ _ _
 ·go_enter Tryz.func12, Tryz.ntmps12
  go_wp2
  obtain ⟨W1, hW1⟩ : ∃ W1, W1 = w.alloc (.cells #[.int .i64 xk, .int .u64 xv, .int .u64 xt, .int .i64 xs, .int .i64 (a : Int), .int .i64 (c : Int), .slice xD xn xq] 27) := ⟨_, rfl⟩
  have hg1 : Gr w W1 := by rw [hW1]; exact gri
  have hB1 : BlockAt W1 w.heap.size #[.int .i64 xk, .int .u64 xv, .int .u64 xt, .int .i64 xs, .int .i64 (a : Int), .int .i64 (c : Int), .slice xD xn xq] 27 := by rw [hW1]; infer_instance
  rw [← hW1]
  have cO0 : W1.cell? ⟨w.heap.size, 0, none⟩ = some (.int .i64 xk) := (bc 0 hB1).trans rfl
  have cO1 : W1.cell? ⟨w.heap.size, 1, none⟩ = some (.int .u64 xv) := (bc 1 hB1).trans rfl
  have cO2 : W1.cell? ⟨w.heap.size, 2, none⟩ = some (.int .u64 xt) := (bc 2 hB1).trans rfl
  have cO3 : W1.cell? ⟨w.heap.size, 3, none⟩ = some (.int .i64 xs) := (bc 3 hB1).trans rfl
  have cO4 : W1.cell? ⟨w.heap.size, 4, none⟩ = some (.int .i64 (a : Int)) := (bc 4 hB1).trans rfl
  have cO5 : W1.cell? ⟨w.heap.size, 5, none⟩ = some (.int .i64 (c : Int)) := (bc 5 hB1).trans rfl
  have cO6 : W1.cell? ⟨w.heap.size, 6, none⟩ = some (.slice xD xn xq) := (bc 6 hB1).trans rfl
  have HOP := hd_ hB1
  haveI := hB1.old
  haveI := grc_of hg1
  haveI := from_of hg1
  have HG1 := hd_ hg1
  clear hW1 hg1
  refine wp_region_flo (W := W1) (I := InCls W1) (inCls_ghost _) (Cls.none _) ⟨gri, trivial⟩ [0, 2] [(1, false), (3, false)] 4 5 [] rfl rfl Tryz.zeroValue38 rfl rfl (by kernel_rfl) (by kernel_rfl) (by kernel_rfl) ?_
  simp only [pick, List.drop, List.take, List.nil_append, List.cons_append, pick, List.getElem_toArray, List.getElem_cons_succ, List.getElem_cons_zero]
  repeat (refine wpCalm_step (fun K hK => ?_); go_simp; first | (refine hK _ ?_; clear hK K) | (apply Exists.intro; refine ⟨fun _ => ?_, hK _ ?_⟩; (skip); clear hK K))
  refine wpCalm_nil ?_
  simp only [pickF, List.getElem?_cons_succ, List.getElem?_cons_zero]
  refine flo_eff rfl (fun w1 hI1 => ?_)
  refine effAt_call' 27 #[.pointer (some ⟨R, 0, none⟩)] (by go_simp) ((HC.out w1 (HG1.out.trans hI1.1)).mono ?_)
  rintro _ w2 ⟨R2, rfl, h2, hg2⟩
  refine ⟨_, rfl, KeptT.gr hg2, Cls.just W1 (fun W => RefAt w1.heap.size W R2 d ∧ Gr w1 W) (fun _ _ h g => ⟨h.1.gr g, h.2.trans g⟩), ⟨hI1.1.trans hg2, h2, hg2⟩, ?_⟩
  have hI1g := hI1.1
  clear hI1 h2 hg2
  go_simp
  refine flo_eff rfl (fun w3 hI3 => ?_)
  refine effAt_call' 9 #[.pointer (some ⟨R2, 0, none⟩), .agg #[.int .i64 xk, .int .u64 xv, .int .u64 xt, .int .i64 xs, .int .i64 (a : Int), .int .i64 (c : Int), .slice xD xn xq]] (by go_simp) ((HDo.out w3 w1 R2 hI3.2.2 hI3.2.1 (HG1.out.trans hI1g)).mono ?_)
  rintro _ w4 ⟨A3, n3, c3, rfl, ho3, hd3, hb3, hk3⟩
  have hg4 : Gr W1 w4 := Gr.of (hI3.1.below.trans (hb3.mono hI1g.below.size))
  refine ⟨_, rfl, fun B cs hB => hk3.block hB (by unfold refT; decide), Cls.just W1 (fun W => AnsOk w.heap.size W ⟨0, done, data, A3, n3, c3⟩) (fun _ _ h g => h.gr g), ⟨hg4, ansOk_own (ho3.more (HG1.out.trans hI3.1).below.size) HLN.out⟩, ?_⟩
  clear hg4 ho3 hd3 hb3 hk3 hI3 hI1g w4 w3 w2 w1
  go_simp
  refine flo_end rfl (fun X1 w5 hI5 hX1 hl1 => ?_)
  refine effAt_storeG rfl rfl rfl (run_storeRow X1 _ _ _ hX1 (by kernel_rfl) rfl (by simp [Value.oneCell'])) ?_
  refine ⟨Cls.just W1 (fun W => BlockAt W X1 #[.int .i64 0, .int .i64 done, .slice A3 n3 c3] 38 ∧ AnsOk w.heap.size W ⟨0, done, data, A3, n3, c3⟩) (fun _ _ h g => ⟨h.1.gr g, h.2.gr g⟩), ⟨Gr.of (below_row hI5.1.below hl1 _), blockAt_row (h := hX1) _ _ _ _ _, hI5.2.bk (BK.row hX1 (by decide))⟩, ?_⟩
  refine wpCalm_nil ?_
  rintro w9 ⟨⟨g5, rfl⟩, bX1, ho9⟩
  have HA3 := hd_ ho9
  haveI := bX1.old
  have cX0 := (bc 0 bX1).trans (rfl : (#[.int .i64 0, .int .i64 done, .slice A3 n3 c3] : Array Value)[0]? = some (.int .i64 0))
  have cX1 := (bc 1 bX1).trans (rfl : (#[.int .i64 0, .int .i64 done, .slice A3 n3 c3] : Array Value)[1]? = some (.int .i64 done))
  have cX2 := (bc 2 bX1).trans (rfl : (#[.int .i64 0, .int .i64 done, .slice A3 n3 c3] : Array Value)[2]? = some (.slice A3 n3 c3))
  clear bX1 ho9
  simp only [ptrAt]
  go_simp
  have HO1 := hd_ (fun (W : World) (g : Gr w W) (hB : BlockAt W (grown W1 g5).heap.size #[.int .i64 0, .int .i64 done, .slice A3 n3 c3] 38) => show OwnN ansE w.heap.size W (.slice (some ⟨(grown W1 g5).heap.size, 0, none⟩) 1 1) ([(⟨0, done, data, A3, n3, c3⟩ : AnsC)] ++ (List.range 0).map fullA) from ownN_block1 ansIs (base := w.heap.size) (⟨0, done, data, A3, n3, c3⟩ : AnsC) trivial hB (Gr.below (gri : Gr w (grown W1 g5))).size rfl)
  go_wp2_with (first
   | (go_at_call 28; ((with_reducible refine (HRW.out _).mono ?_); rintro _ _ ⟨rfl, g7, rfl⟩)))
  go_loopw [6, 8] (fun v i wr => ∃ k : Nat, k ≤ N ∧ i = .int .i64 (k : Int) ∧ OwnN ansE w.heap.size wr v ([(⟨0, done, data, A3, n3, c3⟩ : AnsC)] ++ (List.range k).map fullA) ∧ AnsOk w.heap.size wr ⟨0, done, data, A3, n3, c3⟩ ∧ BlockAt wr w.heap.size #[.int .i64 xk, .int .u64 xv, .int .u64 xt, .int .i64 xs, .int .i64 (a : Int), .int .i64 (c : Int), .slice xD xn xq] 27 ∧ Gr w wr) (fun _ i _ => N - (intOf i).toNat)
  case atStart => exact ⟨0, Nat.zero_le _, rfl, HO1.out _ gri inferInstance, HA3.out.gr gri, HOP.out.gr gri, gri⟩
  case round =>
   obtain ⟨k, hk, rfl, ho, hx, hb, hg⟩ := hrel
   haveI := grc_of hg
   haveI := from_of hg
   have b4 := (bc 4 hb).trans (rfl : (#[.int .i64 xk, .int .u64 xv, .int .u64 xt, .int .i64 xs, .int .i64 (a : Int), .int .i64 (c : Int), .slice xD xn xq] : Array Value)[4]? = some (.int .i64 (a : Int)))
   haveI := hb.old
   have HO := hd_ ho
   have HX := hd_ hx
   have HB := hd_ hb
   have HG := hd_ hg
   have hNN := HN.out
   clear ho hx hg hb
   by_cases hlt : k < N
   ·have HLT := hd_ hlt
    go_wp2_with (first
     | (go_at_call 29; ((with_reducible refine (HSP.out _).mono ?_); rintro _ _ ⟨A8, q8, rfl, g8, rfl⟩))
     | (at_builtin; refine wp_append_n ansIs rfl _ _ rfl rfl (HO.out.gr gri) _ 0 [fullA k] 1 1 rfl rfl (fun _ _ => trivial) (CellsN.block _ inferInstance rfl) (by simp; omega) past (by simp) ?_; intro v2 W4 h2; have H2 := hd_ h2; clear h2))
    go_roundw
    case rel => exact ⟨k + 1, HLT.out, by go_num, by rw [List.range_succ, List.map_append, ← List.append_assoc]; exact H2.out.own, (HX.out.gr gri).bk (BK.app H2.out (by decide)), H2.out.keep _ _ _ (HB.out.gr gri) (by decide), by haveI := H2.out.grc w (Nat.le_refl _); exact gri⟩
    case measure => simp [intOf]; omega
   ·have : k = N := by omega
    subst this
    go_wp2_with (first
     | (go_at_call 29; ((with_reducible refine (HSP.out _).mono ?_); rintro _ _ ⟨A8, q8, rfl, g8, rfl⟩)))
    refine bodyPost_ret (results_tmp rfl _ _ _) rfl ?_
    refine ⟨_, _, rfl, HO.out.gr gri, ?_, fun x hx => ?_, HG.out.trans gri⟩
    ·rw [HW.out, List.map_append, List.map_map]
     rfl
    ·rcases List.mem_append.1 hx with hx | hx
     ·rw [List.mem_singleton] at hx
      subst hx
      exact HX.out.gr gri
     ·obtain ⟨k', _, rfl⟩ := List.mem_map.1 hx
      exact ansOk_nil _ _ _ _
end Go.Proofs.YtddckdhnolmjoaaGreat
namespace Go.Proofs.YtddckdhnolmjoaaGreat
open Go.RowKit Go.ChangeShapes Go.WideShapes
structure OpCa (W : World) (x : OpC) : Prop where
 len : x.o.l.length = x.n
 cap : x.n ≤ x.q
 big : x.n ≤ 9223372036854775807
 row : Row bv W x.D x.o.l
 v0 : 0 ≤ x.o.v
 t0 : 0 ≤ x.o.t
theorem OpCa.ok {W : World} {x : OpC} (h : OpCa W x) (hn : x.n ≤ 9000) : OpOk W x := ⟨h.len, h.cap, by omega, h.row, h.v0, h.t0⟩
theorem u64_wf9 {z : Int} (h : (Lit.int .u64 z).wf = true) : 0 ≤ z ∧ z ≤ 18446744073709551615 := by
 simp [Lit.wf, IntKind.min, IntKind.max, IntKind.bits, IntKind.signed] at h
 omega
theorem got9 {α : Type} {l : List α} {n : Nat} (h : l.length = n) (i : Nat) (hi : i < n) : ∃ y, l[i]? = some y := ⟨l[i]'(by rw [h]; exact hi), List.getElem?_eq_getElem _⟩
theorem u8_of9 {z : Int} (h : (Lit.int .u8 z).wf = true) : bv (UInt8.ofNat z.toNat) = .int .u8 z := by
 simp [Lit.wf, IntKind.min, IntKind.max, IntKind.bits, IntKind.signed] at h
 unfold bv
 have e : (UInt8.ofNat z.toNat).toNat = z.toNat := by rw [UInt8.toNat_ofNat', Nat.mod_eq_of_lt (by omega)]
 rw [e, Int.toNat_of_nonneg (by omega)]
section
variable {H : Type} {enc : TypeId × Value → H}
theorem bytes_trod {W : World} {fuel : Nat} {c : Value} {x : DataW H × List MemPlace} (h : DataW.trod enc Tryz.prog W 0 (fun _ => true) true fuel 25 [c] = some x) : ∃ (D : Option Addr) (q : Nat) (l : List UInt8), c = .slice D l.length q ∧ l.length ≤ q ∧ q ≤ maxLen ∧ Row bv W D l := by
 rcases open_ints Tryz.underlying25 Tryz.underlying5 (by kernel_rfl) h with ⟨h0, _⟩ | ⟨a, len, cap, zs, h0, _, hl, hm, hz, _, hcell, hw⟩
 ·obtain rfl : c = .slice none 0 0 := by simpa using h0
  exact ⟨none, 0, [], rfl, Nat.le_refl _, Nat.zero_le _, Row.nil⟩
 ·obtain rfl : c = .slice (some a) len cap := by simpa using h0
  rw [if_pos rfl] at hz
  have hlen : ((zs.take len).map fun z => UInt8.ofNat z.toNat).length = len := by rw [List.length_map, List.length_take]; omega
  refine ⟨some a, cap, (zs.take len).map fun z => UInt8.ofNat z.toNat, by rw [hlen], by rw [hlen]; exact hl, hm, ⟨fun hne => ?_⟩⟩
  have hpos : 0 < len := by
   rcases Nat.eq_zero_or_pos len with h | h
   ·subst h; simp at hne
   ·exact h
  obtain ⟨b, o, sp⟩ := a
  have h1 := hcell 0 (by omega)
  have hsp : sp = none := by
   cases sp with
   | none => rfl
   | some y => simp [Addr.add, World.cell?] at h1; split at h1 <;> simp at h1
  subst hsp
  have hadd : ∀ i, (⟨b, o, none⟩ : Addr).add i = ⟨b, o + i, none⟩ := fun i => by unfold Addr.add; split <;> simp_all
  refine ⟨b, o, rfl, ?_, fun j y hj => ?_⟩
  ·rcases Nat.lt_or_ge b W.heap.size with h | h
   ·exact h
   ·rw [hadd] at h1
    simp [World.cell?, Array.getElem?_eq_none h] at h1
  ·rw [List.getElem?_map] at hj
   have hjl : j < len := by
    rcases Nat.lt_or_ge j len with h | h
    ·exact h
    ·rw [List.getElem?_eq_none (by rw [List.length_take]; omega)] at hj; simp at hj
   rw [List.getElem?_take, if_pos hjl, List.getElem?_eq_getElem (by omega)] at hj
   simp only [Option.map_some, Option.some.injEq] at hj
   subst hj
   have h2 := hcell j (by omega)
   rw [hadd] at h2
   rw [h2, List.getD_eq_getElem?_getD, List.getElem?_eq_getElem (by omega)]
   simp only [Option.getD_some]
   rw [u8_of9 (hw _ (List.getElem_mem _))]
theorem op_trod9 {W : World} {cs : List Value} {fuel : Nat} {x : DataW H × List MemPlace} (hl : cs.length = 7)
  (h : DataW.trod enc Tryz.prog W 0 (fun _ => true) true fuel 27 cs = some x) : ∃ z : OpC, cs = opE.cs z ∧ OpCa W z := by
 match cs, hl with
 | [c0, c1, c2, c3, c4, c5, c6], _ =>
  obtain ⟨xs, n0, _, _, _, hlen, hf⟩ := DataW.trod_struct Tryz.underlying27 h
  have hlen : xs.length = 7 := hlen
  obtain ⟨y0, e0⟩ := got9 hlen 0 (by decide)
  obtain ⟨y1, e1⟩ := got9 hlen 1 (by decide)
  obtain ⟨y2, e2⟩ := got9 hlen 2 (by decide)
  obtain ⟨y3, e3⟩ := got9 hlen 3 (by decide)
  obtain ⟨y4, e4⟩ := got9 hlen 4 (by decide)
  obtain ⟨y5, e5⟩ := got9 hlen 5 (by decide)
  obtain ⟨y6, e6⟩ := got9 hlen 6 (by decide)
  have h0 := hf 0 _ rfl; have h1 := hf 1 _ rfl; have h2 := hf 2 _ rfl; have h3 := hf 3 _ rfl; have h4 := hf 4 _ rfl; have h5 := hf 5 _ rfl; have h6 := hf 6 _ rfl
  rw [e0] at h0; rw [e1] at h1; rw [e2] at h2; rw [e3] at h3; rw [e4] at h4; rw [e5] at h5; rw [e6] at h6
  obtain ⟨k, q0, _, w0⟩ := DataW.trod_int Tryz.underlying23 h0
  obtain ⟨v, q1, _, w1⟩ := DataW.trod_int Tryz.underlying24 h1
  obtain ⟨t, q2, _, w2⟩ := DataW.trod_int Tryz.underlying24 h2
  obtain ⟨s, q3, _, w3⟩ := DataW.trod_int Tryz.underlying3 h3
  obtain ⟨a, q4, _, w4⟩ := DataW.trod_int Tryz.underlying3 h4
  obtain ⟨c, q5, _, w5⟩ := DataW.trod_int Tryz.underlying3 h5
  obtain ⟨D, q, l, rfl, hq, hm, hr⟩ := bytes_trod (c := c6) h6
  obtain rfl : c0 = .int .i64 k := List.head_eq_of_cons_eq q0
  obtain rfl : c1 = .int .u64 v := List.head_eq_of_cons_eq q1
  obtain rfl : c2 = .int .u64 t := List.head_eq_of_cons_eq q2
  obtain rfl : c3 = .int .i64 s := List.head_eq_of_cons_eq q3
  obtain rfl : c4 = .int .i64 a := List.head_eq_of_cons_eq q4
  obtain rfl : c5 = .int .i64 c := List.head_eq_of_cons_eq q5
  unfold maxLen at hm
  exact ⟨⟨⟨k, v, t, s, a, c, l⟩, D, l.length, q⟩, rfl, ⟨rfl, hq, by show l.length ≤ _; omega, hr, (u64_wf9 w1).1, (u64_wf9 w2).1⟩⟩
structure CameO (W : World) (A : Option Addr) (n q : Nat) (l : List OpC) : Prop where
 len : l.length = n
 cap : n ≤ q
 big : n ≤ 9223372036854775807
 nil : A = none → q = 0
 row : RowN opE W A l
 each : ∀ x ∈ l, OpCa W x
theorem ops_trod9 {W : World} {c : Value} {fuel : Nat} {x : DataW H × List MemPlace} (h : DataW.trod enc Tryz.prog W 0 (fun _ => true) true fuel 22 [c] = some x) : ∃ A n q l, c = .slice A n q ∧ CameO W A n q l := by
 rcases DataW.trod_slice Tryz.underlying22 h with ⟨h0, _⟩ | ⟨ad, len, cap, elems, rest, n0, _, h0, _, _, hlc, hcm, hel, hget, _, _⟩
 ·obtain rfl : c = .slice none 0 0 := List.head_eq_of_cons_eq h0
  exact ⟨none, 0, 0, [], rfl, rfl, Nat.le_refl _, Nat.zero_le _, fun _ => rfl, RowN.nil, by simp⟩
 ·obtain rfl : c = .slice (some ad) len cap := List.head_eq_of_cons_eq h0
  have hco : Tryz.prog.cellsOf 27 = 7 := by kernel_rfl
  rw [hco] at hget
  have hone : ∀ i, i < len → ∃ cs, W.cells? 0 (ad.add (i * 7)) 7 = some cs ∧ ∃ z, cs = opE.cs z ∧ OpCa W z := fun i hi => by
   obtain ⟨y, hy⟩ := got9 hel i hi
   have h1 := hget i hi
   rw [hy] at h1
   obtain ⟨cs, hcs, ht⟩ := Option.bind_eq_some_iff.1 h1
   obtain ⟨_, hlen, _⟩ := World.cells?_some hcs
   exact ⟨cs, hcs, op_trod9 hlen ht⟩
  have hsp : 0 < len → ∃ b o, ad = ⟨b, o, none⟩ ∧ b < W.heap.size := fun hpos => by
   obtain ⟨cs, hcs, _⟩ := hone 0 hpos
   obtain ⟨_, hlen, hc⟩ := World.cells?_some hcs
   have hlt := World.cells?_block hcs (by decide)
   obtain ⟨b, o, sp⟩ := ad
   obtain ⟨c0, hc0⟩ := got9 hlen 0 (by decide)
   have g0 := hc 0 (by decide)
   rw [hc0] at g0
   have hspot : sp = none := by simpa [Addr.add] using World.cell?_spot g0
   subst hspot
   rw [Go.ChangeShapes.block_add] at hlt
   exact ⟨b, o, rfl, hlt⟩
  have hex : ∃ f : Nat → OpC, ∀ i, i < len → W.cells? 0 (ad.add (i * 7)) 7 = some (opE.cs (f i)) ∧ OpCa W (f i) := by
   refine ⟨fun i => if h : i < len then Classical.choose (Classical.choose_spec (hone i h)).2 else ⟨⟨0, 0, 0, 0, 0, 0, []⟩, none, 0, 0⟩, fun i hi => ?_⟩
   simp only [dif_pos hi]
   have h1 := (Classical.choose_spec (hone i hi)).1
   have h2 := Classical.choose_spec (Classical.choose_spec (hone i hi)).2
   rw [h2.1] at h1
   exact ⟨h1, h2.2⟩
  obtain ⟨f, hf⟩ := hex
  refine ⟨some ad, len, cap, (List.range len).map f, rfl, by simp, hlc, by unfold maxLen at hcm; omega, fun h => by (cases h), ⟨fun _ _ => trivial, fun hne => ?_⟩, fun x hx => ?_⟩
  ·have hpos : 0 < len := by
    rcases Nat.eq_zero_or_pos len with h | h
    ·subst h; simp at hne
    ·exact h
   obtain ⟨b, o, rfl, hlt⟩ := hsp hpos
   refine ⟨b, o, rfl, hlt, fun j a hj i u hu => ?_⟩
   have hjl : j < len := by
    have := (List.getElem?_eq_some_iff.1 hj).1
    simpa using this
   rw [List.getElem?_map, List.getElem?_range hjl] at hj
   simp only [Option.map_some, Option.some.injEq] at hj
   subst hj
   obtain ⟨_, hlen, hc⟩ := World.cells?_some (hf j hjl).1
   have hi : i < 7 := by
    have := (List.getElem?_eq_some_iff.1 hu).1
    rwa [hlen] at this
   have h1 := hc i hi
   rw [add_plain, add_plain] at h1
   exact h1.trans hu
  ·obtain ⟨j, hj, rfl⟩ := List.mem_map.1 hx
   exact (hf j (List.mem_range.1 hj)).2
theorem open_ops {W : World} {base : Nat} {v : Value} {d : DataW H} {p : List MemPlace} (hv : Value.okWide Tryz.prog W .any base 22 v) (h : DataW.Trod enc Tryz.prog W 0 (fun _ => true) true 22 v d p) :
  ∃ A n q l, v = .slice A n q ∧ CameO W A n q l := by
 simp only [Value.okWide, Tryz.underlying22, Cell.okWide] at hv
 obtain ⟨fuel, hd⟩ := h
 have hv2 : v.cells.toList = [v] := by cases v <;> simp_all [Cell.ok, Value.cells]
 rw [hv2] at hd
 exact ops_trod9 hd
end
end Go.Proofs.YtddckdhnolmjoaaGreat
namespace Go.Proofs.YtddckdhnolmjoaaGreat
open Go.RowKit
theorem DevIn.rk {base : Nat} {W W' : World} {D M : Nat} {mb : Int → Nat} {d : Dev} (h : DevIn base W D M mb d) (k : RK W W') : DevIn base W' D M mb d := by
 have hmap : ∀ {q : IntKind} {b : Nat} {L : List (Int × Value)}, MapAt q W b L → MapAt q W' b L := fun hm => by
  obtain ⟨es, clock, he, h1, h2, h3⟩ := hm
  exact ⟨es, clock, k.keep _ _ he (fun cs t f e => by cases e), h1, h2, h3⟩
 exact ⟨k.block h.blk (by unfold refT; decide), hmap h.all, fun p hp => hmap (h.vol p hp), h.inj, h.ne, h.bD, h.bM, h.bV, h.ok⟩
theorem DevAt.rk {base D : Nat} {W W' : World} {d : Dev} (h : DevAt base W D d) (k : RK W W') : DevAt base W' D d := by
 obtain ⟨M, mb, h⟩ := h
 exact ⟨M, mb, h.rk k⟩
theorem own_rowL {α : Type} {e : EK α} (he : e.Is) {base : Nat} {W : World} {v : Value} {xs : List α} (h : OwnN e base W v xs) : ∃ A c, v = .slice A xs.length c ∧ RowN e W A xs := by
 obtain ⟨A, c, h1, _, _, h2⟩ := h.form he
 exact ⟨A, c, h1, h2⟩
abbrev KnownOk : Prop := ∀ W, Calls Tryz.prog 6 #[] W fun e w' => e = .returned (.bool true) ∧ Gr W w'
theorem ways_len (l : List OpC) (n : Nat) (A : Option Addr) (q : Nat) (xk xv xt xs xa xc : Int) (xD : Option Addr) (xn xq : Nat) (w : World) (hk : KnownOk) (hm : 8 < n ∨ 9000 < xn) :
  Calls Tryz.prog 3 #[.slice A n q, (Value.agg #[.int .i64 xk, .int .u64 xv, .int .u64 xt, .int .i64 xs, .int .i64 xa, .int .i64 xc, .slice xD xn xq])] w fun e w' => e = .returned (.bool true) ∧ Gr w w' := by
 have HK := hd_ hk
 have HM := hd_ (fun W => much13_any xk xv xt xs xa xc xD xn xq W)
 clear hk
 by_cases h8 : 8 < n
 ·have h9 : (8 : Int) < (n : Int) := by omega
  clear hm h8
  go_enter Tryz.func3, Tryz.ntmps3
  go_wp2_with ((go_at_call 6; ((with_reducible refine (HK.out _).mono ?_); rintro _ _ ⟨rfl, g2, rfl⟩)))
  go_ret
  exact ⟨rfl, gri⟩
 ·have h9 : ¬ (8 : Int) < (n : Int) := by omega
  have h7 : 9000 < xn := by omega
  rw [decide_eq_true h7] at HM
  clear hm h8 h7
  go_enter Tryz.func3, Tryz.ntmps3
  go_wp2_with (first | (go_at_call 5; ((with_reducible refine (HM.out _).mono ?_); rintro _ _ ⟨rfl, g1, rfl⟩)) | (go_at_call 6; ((with_reducible refine (HK.out _).mono ?_); rintro _ _ ⟨rfl, g2, rfl⟩)))
  go_ret
  exact ⟨rfl, gri⟩
theorem RefAt.ck {base R : Nat} {W W' : World} {d : Dev} (h : RefAt base W R d) (g : CK W W') : RefAt base W' R d := by
 obtain ⟨v, vf, h⟩ := h
 exact ⟨v, vf, h.ck g⟩
theorem ways_few (l : List OpC) (n : Nat) (A : Option Addr) (q : Nat) (xk xv xt xs xa xc : Int) (xD : Option Addr) (xn xq : Nat) (lx : Byt) (w : World) (hC : CameO w A n q l) (hxc : OpCa w ⟨⟨xk, xv, xt, xs, xa, xc, lx⟩, xD, xn, xq⟩) (hk : KnownOk) (h8 : n ≤ 8) (h9 : xn ≤ 9000) :
  Calls Tryz.prog 3 #[.slice A n q, (Value.agg #[.int .i64 xk, .int .u64 xv, .int .u64 xt, .int .i64 xs, .int .i64 xa, .int .i64 xc, .slice xD xn xq])] w fun e w' => e = .returned (.bool true) ∧ Gr w w' := by
 have HK := hd_ hk
 have HM := hd_ (fun W => much13_any xk xv xt xs xa xc xD xn xq W)
 rw [decide_eq_false (show ¬ 9000 < xn by omega)] at HM
 have HC := hd_ hC
 have HXC := hd_ hxc
 have h9' : ¬ (8 : Int) < (n : Int) := by omega
 clear hk hC hxc
 go_enter Tryz.func3, Tryz.ntmps3
 go_wp2_with (first | (go_at_call 5; ((with_reducible refine (HM.out _).mono ?_); rintro _ _ ⟨rfl, g1, rfl⟩)) | (go_at_call 7; ((with_reducible refine (new_any _).mono ?_); rintro _ _ ⟨D, rfl, hd, ⟨g2, rfl⟩⟩)))
 obtain ⟨W1, hW1⟩ : ∃ W1, W1 = grown (grown (w.alloc (.cells #[.int .i64 xk, .int .u64 xv, .int .u64 xt, .int .i64 xs, .int .i64 xa, .int .i64 xc, .slice xD xn xq] 27)) g1) g2 := ⟨_, rfl⟩
 have hg1 : Gr w W1 := by rw [hW1]; exact gri
 have hB1 : BlockAt W1 w.heap.size #[.int .i64 xk, .int .u64 xv, .int .u64 xt, .int .i64 xs, .int .i64 xa, .int .i64 xc, .slice xD xn xq] 27 := by rw [hW1]; infer_instance
 have hd1 : DevAt w.heap.size W1 D [] := by
  rw [hW1]
  obtain ⟨M, mb, h⟩ := hd
  exact ⟨M, mb, h.lower (Gr.below (gri : Gr w (grown (w.alloc _) g1))).size⟩
 rw [← hW1]
 obtain ⟨R, hR⟩ : ∃ R, R = W1.heap.size := ⟨_, rfl⟩
 rw [← hR]
 haveI : BlockAt (W1.alloc (.cells #[.slice none 0 0] 35)) R #[.slice none 0 0] 35 := by rw [hR]; infer_instance
 have hr1 : RefAt w.heap.size (W1.alloc (.cells #[.slice none 0 0] 35)) R [] := refAt_new _ _ _ inferInstance (by rw [hR]; exact hg1.below.size)
 have hg2 : Gr w (W1.alloc (.cells #[.slice none 0 0] 35)) := hg1.trans gri
 have hB2 : BlockAt (W1.alloc (.cells #[.slice none 0 0] 35)) w.heap.size #[.int .i64 xk, .int .u64 xv, .int .u64 xt, .int .i64 xs, .int .i64 xa, .int .i64 xc, .slice xD xn xq] 27 := hB1.gr gri
 have hd2 : DevAt w.heap.size (W1.alloc (.cells #[.slice none 0 0] 35)) D [] := hd1.gr gri
 generalize (W1.alloc (.cells #[.slice none 0 0] 35)) = W2 at *
 have HS := hd_ (And.intro hr1 (And.intro hg2 (And.intro hB2 hd2)))
 clear hg1 hB1 hd1 hr1 hg2 hB2 hd2 hR hW1 hd
 go_loopw [7] (fun i wr => ∃ k : Nat, k ≤ n ∧ i = .int .i64 (k : Int) ∧ (∀ x ∈ l.take k, x.n ≤ 9000) ∧ DevAt w.heap.size wr D (devOf ((l.take k).map (·.o))) ∧ RefAt w.heap.size wr R (devOf ((l.take k).map (·.o))) ∧ BlockAt wr w.heap.size #[.int .i64 xk, .int .u64 xv, .int .u64 xt, .int .i64 xs, .int .i64 xa, .int .i64 xc, .slice xD xn xq] 27 ∧ Gr w wr) (fun i _ => n - (intOf i).toNat)
 case atStart => exact ⟨0, Nat.zero_le _, rfl, by simp, HS.out.2.2.2, HS.out.1, HS.out.2.2.1, HS.out.2.1⟩
 case round =>
  obtain ⟨k, hk, rfl, hsm, hd, hr, hb, hg⟩ := hrel
  clear HS
  haveI := grc_of hg
  haveI := from_of hg
  have HD := hd_ hd
  have HR := hd_ hr
  have HB := hd_ hb
  have HG := hd_ hg
  have HSM := hd_ hsm
  have cO0 : wr.cell? ⟨w.heap.size, 0, none⟩ = some (.int .i64 xk) := (bc 0 hb).trans rfl
  have cO1 : wr.cell? ⟨w.heap.size, 1, none⟩ = some (.int .u64 xv) := (bc 1 hb).trans rfl
  have cO2 : wr.cell? ⟨w.heap.size, 2, none⟩ = some (.int .u64 xt) := (bc 2 hb).trans rfl
  have cO3 : wr.cell? ⟨w.heap.size, 3, none⟩ = some (.int .i64 xs) := (bc 3 hb).trans rfl
  have cO4 : wr.cell? ⟨w.heap.size, 4, none⟩ = some (.int .i64 xa) := (bc 4 hb).trans rfl
  have cO5 : wr.cell? ⟨w.heap.size, 5, none⟩ = some (.int .i64 xc) := (bc 5 hb).trans rfl
  have cO6 : wr.cell? ⟨w.heap.size, 6, none⟩ = some (.slice xD xn xq) := (bc 6 hb).trans rfl
  haveI := hb.old
  clear hd hr hb hg hsm
  by_cases hlt : k < n
  ·have HLT := hd_ hlt
   obtain ⟨x, hx⟩ : ∃ x, l[k]? = some x := ⟨_, List.getElem?_eq_getElem (by rw [HC.out.len]; exact hlt)⟩
   obtain ⟨b, p, rfl, hb, hcl⟩ := HC.out.row.at_ (by rintro rfl; have := HC.out.len; simp at this; omega)
   obtain ⟨c0, c1, c2, c3, c4, c5, c6⟩ := opCells hcl hx
   have hcell : ∀ (j : Nat) v, w.cell? ⟨b, j, none⟩ = some v → wr.cell? ⟨b, j, none⟩ = some v := fun j v h => (HG.out.below.cell (p := ⟨b, j, none⟩) hb).trans h
   have d0 := hcell _ _ c0
   have d1 := hcell _ _ c1
   have d2 := hcell _ _ c2
   have d3 := hcell _ _ c3
   have d4 := hcell _ _ c4
   have d5 := hcell _ _ c5
   have d6 := hcell _ _ c6
   haveI : Old b wr := old_of_cell d0
   have hxo := HC.out.each x (List.mem_of_getElem? hx)
   have HT := hd_ (devOf_take l k x hx)
   have HTX := hd_ (show l.take (k + 1) = l.take k ++ [x] by rw [List.take_add_one, hx]; rfl)
   have HXO := hd_ hxo
   have HBL := hd_ hb
   have HC0 := hd_ (And.intro c0 (And.intro c1 (And.intro c2 (And.intro c3 (And.intro c4 (And.intro c5 c6))))))
   clear hcell c0 c1 c2 c3 c4 c5 c6 hcl hx hxo
   by_cases hxn : x.n ≤ 9000
   ·have HML := hd_ (fun W => much13_any x.o.k x.o.v x.o.t x.o.s x.o.a x.o.c x.D x.n x.q W)
    rw [decide_eq_false (show ¬ 9000 < x.n by omega)] at HML
    have hok := HXO.out.ok hxn
    have hdl : (devOf ((l.take k).map (·.o))).length ≤ 1000000 := by have h1 := devOf_len ((l.take k).map (·.o)); have h2 := List.length_take_le k l; rw [List.length_map] at h1; omega
    have HDo := hd_ (fun W (hW : Gr wr W) => do_any x.o.k x.o.v x.o.t x.o.s x.o.a x.o.c x.D x.n x.q hok.cap x.o.l hok.len w.heap.size D (devOf ((l.take k).map (·.o))) W (HD.out.gr hW) (HG.out.trans hW).below.size (hok.row.gr (HG.out.trans hW)) hok.small)
    have HRo := hd_ (fun W (hW : Gr w W) (hR : RefAt w.heap.size W R (devOf ((l.take k).map (·.o)))) => rdo_any x.o.k x.o.v x.o.t x.o.s x.o.a x.o.c x.D x.n x.q hok.cap x.o.l hok.len w.heap.size R (devOf ((l.take k).map (·.o))) W w hW rfl hR hdl hok.row hok.small hok.v0 hok.t0)
    have HXN := hd_ hxn
    clear hok hdl hxn
    obtain ⟨⟨ok, ov, ot, os, oa, oc, ol⟩, oD, on, oq⟩ := x
    simp only at *
    go_wp2_with (first
     | (go_at_call 5; ((with_reducible refine (HML.out _).mono ?_); rintro _ _ ⟨rfl, g4, rfl⟩))
     | (go_at_call 8; ((with_reducible refine (HDo.out _ gri).mono ?_); rintro _ W3 ⟨A3, n3, c3, rfl, ho3, hd3, hb3, hk3⟩; have hg3 : Gr w W3 := Gr.of ((show Gr w _ from gri).below.trans hb3); have hr3 : RefAt w.heap.size W3 R (devOf ((l.take k).map (·.o))) := (HR.out.gr (gri : Gr wr _)).ck hk3; have hbo3 := hk3.block (HB.out.gr (gri : Gr wr _)); haveI := grc_of hg3; haveI := from_of hg3; have HG3 := hd_ hg3; have HR3 := hd_ hr3; have HB3 := hd_ hbo3; have HD3 := hd_ hd3; have e0 := (hg3.below.cell (p := ⟨b, p + k * 7, none⟩) HBL.out).trans HC0.out.1; have e1 := (hg3.below.cell (p := ⟨b, p + k * 7 + 1, none⟩) HBL.out).trans HC0.out.2.1; have e2 := (hg3.below.cell (p := ⟨b, p + k * 7 + 2, none⟩) HBL.out).trans HC0.out.2.2.1; have e3 := (hg3.below.cell (p := ⟨b, p + k * 7 + 3, none⟩) HBL.out).trans HC0.out.2.2.2.1; have e4 := (hg3.below.cell (p := ⟨b, p + k * 7 + 4, none⟩) HBL.out).trans HC0.out.2.2.2.2.1; have e5 := (hg3.below.cell (p := ⟨b, p + k * 7 + 5, none⟩) HBL.out).trans HC0.out.2.2.2.2.2.1; have e6 := (hg3.below.cell (p := ⟨b, p + k * 7 + 6, none⟩) HBL.out).trans HC0.out.2.2.2.2.2.2; clear ho3 hd3 hb3 hk3 hg3 hr3 hbo3))
     | (go_at_call 9; ((with_reducible refine (HRo.out _ gri (HR3.out.gr gri)).mono ?_); rintro _ W4 ⟨A4, n4, c4, rfl, ho4, hd4, hb4, hk4⟩)))
    go_roundw
    case rel =>
     refine ⟨k + 1, HLT.out, by go_num, fun y hy => ?_, ?_, ?_, hk4.block (HB3.out.gr gri) (by unfold refT; decide), Gr.of ((show Gr w _ from gri).below.trans hb4)⟩
     ·rw [HTX.out, List.mem_append, List.mem_singleton] at hy
      rcases hy with hy | rfl
      ·exact HSM.out y hy
      ·exact HXN.out
     ·rw [HT.out]; exact (HD3.out.gr gri).rk hk4
     ·rw [HT.out]; exact hd4
    case measure => simp [intOf]; omega
   ·have HML := hd_ (fun W => much13_any x.o.k x.o.v x.o.t x.o.s x.o.a x.o.c x.D x.n x.q W)
    rw [decide_eq_true (show 9000 < x.n by omega)] at HML
    clear hxn
    go_wp2_with (first
     | (go_at_call 5; ((with_reducible refine (HML.out _).mono ?_); rintro _ _ ⟨rfl, g4, rfl⟩))
     | (go_at_call 6; ((with_reducible refine (HK.out _).mono ?_); rintro _ _ ⟨rfl, g5, rfl⟩)))
    go_ret
    exact ⟨rfl, gri⟩
  ·have : k = n := by omega
   subst this
   have e : l.take k = l := List.take_of_length_le (by rw [HC.out.len]; omega)
   have hdl : (devOf (l.map (·.o))).length ≤ 40 := by have h1 := devOf_len (l.map (·.o)); rw [List.length_map, HC.out.len] at h1; omega
   have hd := HD.out
   have hr := HR.out
   rw [e] at hd hr
   clear HD HR HSM HC
   generalize devOf (l.map (·.o)) = d at *
   have HD := hd_ hd
   have HR := hd_ hr
   have P5 := hd_ (fun W (hW : Gr wr W) => bytes_any _ D d hdl W (hd.gr hW))
   have P6 := hd_ (fun W (hW : Gr wr W) => ways_any xk xv xt xs xa xc xD xn xq HXC.out.cap lx HXC.out.len _ D d W (hd.gr hW) (HXC.out.row.gr (HG.out.trans hW)) (show xn ≤ 1000000 by omega))
   have P7 := hd_ (fun W (hW : Gr wr W) => rways_any xk xv xt xs xa xc xD xn xq HXC.out.cap lx HXC.out.len _ R d W (hr.gr hW) (by omega) (HXC.out.row.gr (HG.out.trans hW)) (show xn ≤ 1000000 by omega) HXC.out.v0 HXC.out.t0)
   have P8 := hd_ (fun W => ways_nil xk xv xt xs xa xc xD xn xq W)
   clear hd hr e hdl HXC
   obtain ⟨B7, hB7⟩ : ∃ B7, B7 = bytesK d := ⟨_, rfl⟩
   rw [← hB7] at P5
   obtain ⟨N7, hN7⟩ : ∃ N7, N7 = B7.length := ⟨_, rfl⟩
   have HN7 := hd_ hN7
   obtain ⟨Z, hZ⟩ : ∃ Z, Z = waysK d ⟨xk, xv, xt, xs, xa, xc, lx⟩ := ⟨_, rfl⟩
   unfold WaysPost at P6 P7
   rw [← hZ] at P6 P7
   obtain ⟨N, hN⟩ : ∃ N, N = Z.length := ⟨_, rfl⟩
   have HN := hd_ hN
   have hNs : N ≤ 100000 := by
    rw [hN, hZ]
    exact waysK_len _ _
   clear hB7 hN7 hZ hN
   go_wp2_with (first | (go_at_call 10; ((with_reducible refine (P5.out _ gri).mono ?_); rintro _ _ ⟨v7, rfl, ho7, ⟨g7, rfl⟩⟩; obtain ⟨A7, c7, rfl, hr7⟩ := own_rowL bIs ho7; have hcv := conv_row A7 _ c7 _ _ rfl (rowN_b hr7); clear ho7 hr7)))
   clear hcv
   obtain ⟨W5, hW5⟩ : ∃ W5, W5 = grown wr g7 := ⟨_, rfl⟩
   have hg5 : Gr wr W5 := by rw [hW5]; exact gri
   have hb5 := HB.out.gr hg5
   rw [← hW5]
   haveI := hb5.old
   have HG5 := hd_ hg5
   have HB5 := hd_ hb5
   clear hW5 hg5 hb5
   refine wp_region_plan ⟨fun w' => Gr W5 w', fun _ => True⟩ gri trivial [(true, 0), (true, 1), (true, 3), (true, 4), (false, 2), (false, 5), (true, 6), (true, 7)] (by kernel_rfl) (by kernel_rfl) ?_
   simp only [pickP, pick, List.drop, List.take, List.nil_append, List.cons_append, List.map_cons, List.map_nil]
   refine p_same (.pointer (some ⟨D, 0, none⟩)) rfl rfl (fun w1 hj => by go_simp) ?_
   simp only [Act.put, stA, List.set]
   refine p_same (.agg #[.int .i64 xk, .int .u64 xv, .int .u64 xt, .int .i64 xs, .int .i64 xa, .int .i64 xc, .slice xD xn xq]) rfl rfl (fun w1 hj => by
    have hb := HB5.out.gr hj
    have cO0 : w1.cell? ⟨w.heap.size, 0, none⟩ = some (.int .i64 xk) := (bc 0 hb).trans rfl
    have cO1 : w1.cell? ⟨w.heap.size, 1, none⟩ = some (.int .u64 xv) := (bc 1 hb).trans rfl
    have cO2 : w1.cell? ⟨w.heap.size, 2, none⟩ = some (.int .u64 xt) := (bc 2 hb).trans rfl
    have cO3 : w1.cell? ⟨w.heap.size, 3, none⟩ = some (.int .i64 xs) := (bc 3 hb).trans rfl
    have cO4 : w1.cell? ⟨w.heap.size, 4, none⟩ = some (.int .i64 xa) := (bc 4 hb).trans rfl
    have cO5 : w1.cell? ⟨w.heap.size, 5, none⟩ = some (.int .i64 xc) := (bc 5 hb).trans rfl
    have cO6 : w1.cell? ⟨w.heap.size, 6, none⟩ = some (.slice xD xn xq) := (bc 6 hb).trans rfl
    go_simp) ?_
   simp only [Act.put, stA, List.set]
   refine p_same (.pointer (some ⟨R, 0, none⟩)) rfl rfl (fun w1 hj => by go_simp) ?_
   simp only [Act.put, stA, List.set]
   refine p_same (.agg #[.int .i64 xk, .int .u64 xv, .int .u64 xt, .int .i64 xs, .int .i64 xa, .int .i64 xc, .slice xD xn xq]) rfl rfl (fun w1 hj => by
    have hb := HB5.out.gr hj
    have cO0 : w1.cell? ⟨w.heap.size, 0, none⟩ = some (.int .i64 xk) := (bc 0 hb).trans rfl
    have cO1 : w1.cell? ⟨w.heap.size, 1, none⟩ = some (.int .u64 xv) := (bc 1 hb).trans rfl
    have cO2 : w1.cell? ⟨w.heap.size, 2, none⟩ = some (.int .u64 xt) := (bc 2 hb).trans rfl
    have cO3 : w1.cell? ⟨w.heap.size, 3, none⟩ = some (.int .i64 xs) := (bc 3 hb).trans rfl
    have cO4 : w1.cell? ⟨w.heap.size, 4, none⟩ = some (.int .i64 xa) := (bc 4 hb).trans rfl
    have cO5 : w1.cell? ⟨w.heap.size, 5, none⟩ = some (.int .i64 xc) := (bc 5 hb).trans rfl
    have cO6 : w1.cell? ⟨w.heap.size, 6, none⟩ = some (.slice xD xn xq) := (bc 6 hb).trans rfl
    go_simp) ?_
   simp only [Act.put, stA, List.set]
   refine p_eff rfl rfl (fun w1 hj he => effAt_call' 11 #[.pointer (some ⟨D, 0, none⟩), .agg #[.int .i64 xk, .int .u64 xv, .int .u64 xt, .int .i64 xs, .int .i64 xa, .int .i64 xc, .slice xD xn xq]] (by go_simp) ((P6.out w1 (HG5.out.trans hj)).mono fun e w2 hc => ?_))
   obtain ⟨v6, X, rfl, ho6, hX, hXo, hg6⟩ := hc
   obtain ⟨A6, c6, rfl, hr6⟩ := own_rowL ansIs ho6
   have hXl : X.length = N := by rw [HN.out, ← hX, List.length_map]
   rw [hXl]
   refine ⟨_, rfl, ⟨fun w' => Gr W5 w' ∧ RowN ansE w' A6 X ∧ ∀ x ∈ X, AnsOk 0 w' x, fun _ => True⟩, ⟨⟨hj.trans hg6, hr6, fun x hx => (hXo x hx).more (Nat.zero_le _)⟩, trivial⟩, fun _ h => h.1, ?_⟩
   have HX := hd_ hX
   have HXL := hd_ hXl
   clear hr6 ho6 hX hXo hg6 hj he hXl w2 w1
   simp only [Act.put, stA, List.set]
   refine p_eff rfl rfl (fun w1 hj he => effAt_call' 12 #[.pointer (some ⟨R, 0, none⟩), .agg #[.int .i64 xk, .int .u64 xv, .int .u64 xt, .int .i64 xs, .int .i64 xa, .int .i64 xc, .slice xD xn xq]] (by go_simp) ((P7.out w1 (HG5.out.trans hj.1)).mono fun e w2 hc => ?_))
   obtain ⟨v8, Y, rfl, ho8, hY, hYo, hg8⟩ := hc
   obtain ⟨A8, c8, rfl, hr8⟩ := own_rowL ansIs ho8
   have hYl : Y.length = N := by rw [HN.out, ← hY, List.length_map]
   rw [hYl]
   refine ⟨_, rfl, ⟨fun w' => Gr W5 w' ∧ (RowN ansE w' A6 X ∧ ∀ x ∈ X, AnsOk 0 w' x) ∧ RowN ansE w' A8 Y ∧ ∀ x ∈ Y, AnsOk 0 w' x, fun _ => True⟩, ⟨⟨hj.1.trans hg8, ⟨hj.2.1.gr hg8, fun x hx => (hj.2.2 x hx).gr hg8⟩, hr8, fun x hx => (hYo x hx).more (Nat.zero_le _)⟩, trivial⟩, fun _ h => ⟨h.1, h.2.1⟩, ?_⟩
   have HY := hd_ hY
   have HYL := hd_ hYl
   clear hr8 ho8 hY hYo hg8 hj he hYl w2 w1
   simp only [Act.put, stA, List.set]
   refine p_same (.slice A6 N c6) rfl rfl (fun w1 hj => by go_simp) ?_
   simp only [Act.put, stA, List.set]
   refine p_same (.slice A8 N c8) rfl rfl (fun w1 hj => by go_simp) ?_
   simp only [Act.put, stA, List.set]
   refine p_nil ?_
   intro w9 hj9 he9
   have HJ9 := hd_ hj9
   have hgw9 : Gr w w9 := (HG.out.trans HG5.out).trans hj9.1
   have HG9 := hd_ hgw9
   haveI := grc_of hgw9
   haveI := from_of hgw9
   have hb9 := HB5.out.gr hj9.1
   have HB9 := hd_ hb9
   haveI := hb9.old
   have hgr9 : Gr wr w9 := HG5.out.trans hj9.1
   have HGR9 := hd_ hgr9
   clear hj9 he9 hgw9 hb9 hgr9
   go_wp2_with (first | (go_at_call 10; ((with_reducible refine (P5.out _ (HGR9.out.trans gri)).mono ?_); rintro _ _ ⟨v9, rfl, ho9, ⟨g9, rfl⟩⟩; obtain ⟨A9, c9, rfl, hr9⟩ := own_rowL bIs ho9; have hcv := conv_row A9 _ c9 _ _ rfl (rowN_b hr9); clear ho9 hr9)))
   clear hcv
   go_loopw [11] (fun i ws => ∃ j : Nat, j ≤ N ∧ i = .int .i64 (j : Int) ∧ Gr w9 ws) (fun i _ => N - (intOf i).toNat)
   case atStart => exact ⟨0, Nat.zero_le _, rfl, gri⟩
   case round =>
    obtain ⟨j, hj, rfl, hgs⟩ := hrel
    have HGS := hd_ hgs
    have hgws : Gr w wr := HG9.out.trans hgs
    haveI := grc_of hgws
    haveI := from_of hgws
    have hbs := HB9.out.gr hgs
    haveI := hbs.old
    have cO0 : wr.cell? ⟨w.heap.size, 0, none⟩ = some (.int .i64 xk) := (bc 0 hbs).trans rfl
    have cO1 : wr.cell? ⟨w.heap.size, 1, none⟩ = some (.int .u64 xv) := (bc 1 hbs).trans rfl
    have cO2 : wr.cell? ⟨w.heap.size, 2, none⟩ = some (.int .u64 xt) := (bc 2 hbs).trans rfl
    have cO3 : wr.cell? ⟨w.heap.size, 3, none⟩ = some (.int .i64 xs) := (bc 3 hbs).trans rfl
    have cO4 : wr.cell? ⟨w.heap.size, 4, none⟩ = some (.int .i64 xa) := (bc 4 hbs).trans rfl
    have cO5 : wr.cell? ⟨w.heap.size, 5, none⟩ = some (.int .i64 xc) := (bc 5 hbs).trans rfl
    have cO6 : wr.cell? ⟨w.heap.size, 6, none⟩ = some (.slice xD xn xq) := (bc 6 hbs).trans rfl
    clear hgs hbs
    by_cases hjn : j < N
    ·have HJN := hd_ hjn
     obtain ⟨x, hx⟩ : ∃ x, X[j]? = some x := ⟨_, List.getElem?_eq_getElem (by rw [HXL.out]; exact hjn)⟩
     obtain ⟨y, hy⟩ : ∃ y, Y[j]? = some y := ⟨_, List.getElem?_eq_getElem (by rw [HYL.out]; exact hjn)⟩
     obtain ⟨b1, p1, rfl, hb1, hc1⟩ := (HJ9.out.2.1.1.gr HGS.out).at_ (by rintro rfl; simp at hx)
     obtain ⟨b2, p2, rfl, hb2, hc2⟩ := (HJ9.out.2.2.1.gr HGS.out).at_ (by rintro rfl; simp at hy)
     have HC1 := hd_ (ansCells hc1 hx)
     have HC2 := hd_ (ansCells hc2 hy)
     have hsame : sameM x.m y.m = true := by
      rw [sameM_iff]
      have h1 := HX.out.trans HY.out.symm
      have h2 := congrArg (fun l => l[j]?) h1
      simp only [List.getElem?_map, hx, hy, Option.map_some] at h2
      exact Option.some.inj h2
     have HSA := hd_ (fun W (g : Gr wr W) => rsame_any x y 0 0 W ((HJ9.out.2.1.2 x (List.mem_of_getElem? hx)).gr (HGS.out.trans g)) ((HJ9.out.2.2.2 y (List.mem_of_getElem? hy)).gr (HGS.out.trans g)))
     rw [hsame] at HSA
     have HBB := hd_ (And.intro hb1 hb2)
     obtain ⟨xc0, xc1, xl, xD', xn', xq'⟩ := x
     obtain ⟨yc0, yc1, yl, yD', yn', yq'⟩ := y
     simp only at HC1 HC2 HSA
     clear hx hy hc1 hc2 hb1 hb2 hsame
     go_wp2
     refine wp_region_plan ⟨fun w' => Gr wr w', fun _ => True⟩ gri trivial [(true, 0), (true, 1), (true, 2), (true, 3), (true, 4), (true, 5), (true, 6), (true, 7), (false, 8), (true, 9)] (by kernel_rfl) (by kernel_rfl) ?_
     simp only [pickP, pick, List.drop, List.take, List.nil_append, List.cons_append, List.map_cons, List.map_nil]
     refine p_same (.slice (some ⟨b1, p1, none⟩) N c6) rfl rfl (fun w1 hj => by go_simp) ?_
     simp only [Act.put, stA, List.set]
     refine p_same (.int .i64 (j : Int)) rfl rfl (fun w1 hj => by go_simp) ?_
     simp only [Act.put, stA, List.set]
     refine p_same (.pointer (some ⟨b1, p1 + j * 3, none⟩)) rfl rfl (fun w1 hj => by have := HJN.out; go_simp) ?_
     simp only [Act.put, stA, List.set]
     refine p_same (.agg #[.int .i64 xc0, .int .i64 xc1, .slice xD' xn' xq']) rfl rfl (fun w1 hj => by
      have e0 := (hj.below.cell (p := ⟨b1, p1 + j * 3, none⟩) HBB.out.1).trans HC1.out.1
      have e1 := (hj.below.cell (p := ⟨b1, p1 + j * 3 + 1, none⟩) HBB.out.1).trans HC1.out.2.1
      have e2 := (hj.below.cell (p := ⟨b1, p1 + j * 3 + 2, none⟩) HBB.out.1).trans HC1.out.2.2
      go_simp) ?_
     simp only [Act.put, stA, List.set]
     refine p_same (.slice (some ⟨b2, p2, none⟩) N c8) rfl rfl (fun w1 hj => by go_simp) ?_
     simp only [Act.put, stA, List.set]
     refine p_same (.int .i64 (j : Int)) rfl rfl (fun w1 hj => by go_simp) ?_
     simp only [Act.put, stA, List.set]
     refine p_same (.pointer (some ⟨b2, p2 + j * 3, none⟩)) rfl rfl (fun w1 hj => by have := HJN.out; go_simp) ?_
     simp only [Act.put, stA, List.set]
     refine p_same (.agg #[.int .i64 yc0, .int .i64 yc1, .slice yD' yn' yq']) rfl rfl (fun w1 hj => by
      have e0 := (hj.below.cell (p := ⟨b2, p2 + j * 3, none⟩) HBB.out.2).trans HC2.out.1
      have e1 := (hj.below.cell (p := ⟨b2, p2 + j * 3 + 1, none⟩) HBB.out.2).trans HC2.out.2.1
      have e2 := (hj.below.cell (p := ⟨b2, p2 + j * 3 + 2, none⟩) HBB.out.2).trans HC2.out.2.2
      go_simp) ?_
     simp only [Act.put, stA, List.set]
     refine p_eff rfl rfl (fun w1 hj he => effAt_call' 13 #[.agg #[.int .i64 xc0, .int .i64 xc1, .slice xD' xn' xq'], .agg #[.int .i64 yc0, .int .i64 yc1, .slice yD' yn' yq']] (by go_simp) ((HSA.out w1 hj).mono fun e w2 hc => ?_))
     obtain ⟨rfl, hg⟩ := hc
     refine ⟨_, rfl, ⟨fun w' => Gr wr w', fun _ => True⟩, ⟨hj.trans hg, trivial⟩, fun _ h => h, ?_⟩
     clear hg hj he w2 w1
     simp only [Act.put, stA, List.set]
     refine p_same (.bool false) rfl rfl (fun w1 hj => by go_simp) ?_
     simp only [Act.put, stA, List.set]
     refine p_nil ?_
     intro w8 hj8 he8
     have HJ8 := hd_ hj8
     clear hj8 he8
     go_wp2
     go_roundw
     case rel => exact ⟨j + 1, HJN.out, by go_num, HGS.out.trans HJ8.out⟩
     case measure => have := HJN.out; simp [intOf]; omega
    ·have : j = N := by omega
     subst this
     go_wp2_with (first | (go_at_call 11; ((with_reducible refine (P8.out _).mono ?_); rintro _ _ ⟨rfl, g4, rfl⟩)) | (go_at_call 6; ((with_reducible refine (HK.out _).mono ?_); rintro _ _ ⟨rfl, g5, rfl⟩)))
     go_ret
     exact ⟨rfl, gri⟩
theorem ways_walk (l : List OpC) (n : Nat) (A : Option Addr) (q : Nat) (z : OpC) (w : World) (hC : CameO w A n q l) (hz : OpCa w z) (hk : KnownOk) :
  Calls Tryz.prog 3 #[.slice A n q, .agg #[.int .i64 z.o.k, .int .u64 z.o.v, .int .u64 z.o.t, .int .i64 z.o.s, .int .i64 z.o.a, .int .i64 z.o.c, .slice z.D z.n z.q]] w fun e w' => e = .returned (.bool true) ∧ Gr w w' := by
 obtain ⟨⟨zk, zv, zt, zs, za, zc, zl⟩, zD, zn, zq⟩ := z
 by_cases h : 8 < n ∨ 9000 < zn
 ·exact ways_len l n A q zk zv zt zs za zc zD zn zq w hk h
 ·exact ways_few l n A q zk zv zt zs za zc zD zn zq zl w hC hz hk (by omega) (by omega)
end Go.Proofs.YtddckdhnolmjoaaGreat
