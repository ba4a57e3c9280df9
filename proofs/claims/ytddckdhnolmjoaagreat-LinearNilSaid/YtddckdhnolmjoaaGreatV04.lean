/- Device.refused, kinds 1 to 4. Conditions: the device, and what is read, stand in memory. Device.refused, kinds 5 to .. -/
import Derived.Test.YtddckdhnolmjoaaGreatV03
set_option linter.unusedVariables false
set_option linter.unusedSimpArgs false
set_option linter.unnecessarySimpa false
set_option maxRecDepth 100000
set_option maxHeartbeats 8000000
namespace Go.Proofs.YtddckdhnolmjoaaGreat
open Go.RowKit
theorem refused_1_none (xv xt xs xa xc : Int) (xD : Option Addr) (xn xq : Nat) (lx : Byt) (hxn : lx.length = xn) (base D : Nat) (d : Dev) (w : World) (h : DevAt base w D d) (hr : Row bv w xD lx) (hm : OpM.may ⟨1, xv, xt, xs, xa, xc, lx⟩ = true) (hv : getK d xv = none)  :
  Calls Tryz.prog 37 #[.pointer (some ⟨D, 0, none⟩), (.agg #[.int .i64 1, .int .u64 xv, .int .u64 xt, .int .i64 xs, .int .i64 xa, .int .i64 xc, .slice xD xn xq])] w fun e w' => e = .returned (.int .i64 0) ∧ Gr w w' := by
 have hms := may_s hm
 have hm0 := hm
 obtain ⟨M, mb, h⟩ := h
 rw [OpM.may] at hm
 simp only at hm
 rw [hxn] at hm
 have c9 : lx.length ≤ 2048 := may_len hm0
 rw [hxn] at c9
 have HMay := hd_ (fun W (hW : Gr w W) => (hm ▸ mayOp_any 1 xv xt xs xa xc xD xn xq lx W hxn (by omega) (hr.gr hW) : Calls Tryz.prog 70 #[(.agg #[.int .i64 1, .int .u64 xv, .int .u64 xt, .int .i64 xs, .int .i64 xa, .int .i64 xc, .slice xD xn xq])] W fun e w' => e = .returned (.bool true) ∧ Gr W w'))
 have HT := hd_ (fun W (hW : Gr w W) => there_yes D M W (h.blk.gr hW))
 haveI := h.blk
 have x0 : w.cell? ⟨D, 0, none⟩ = some (.map (some M)) := (bc 0 h.blk).trans rfl
 haveI : Old D w := h.blk.old
 have hlk := look_vol h xv _ hv
 simp only [volV, Option.isSome] at hlk
 clear hm hm0 hms hr h hv hxn
 go_enter Tryz.func37, Tryz.ntmps37
 go_wp2_with (first | (go_at_call 19; ((with_reducible refine (HT.out _ gri).mono ?_); rintro _ _ ⟨rfl, g1, rfl⟩)) | (go_at_call 70; ((with_reducible refine (HMay.out _ gri).mono ?_); rintro _ _ ⟨rfl, g2, rfl⟩)))
 refine wp_region_tree (mixw_ghost _) [] (mixw_nil _) [0, 1, 2, 3, 4, 5, 6, 7, 8, 9] 3 (by kernel_rfl) (by kernel_rfl) ?_
 simp only [pick, List.drop, List.take, List.nil_append, List.cons_append]
 repeat (refine wpCalm_step (fun K hK => ?_); go_simp; first | (refine hK _ ?_; clear hK K) | (apply Exists.intro; refine ⟨fun _ => ?_, hK _ ?_⟩; (fail); clear hK K))
 refine wpCalm_nil ?_
 refine fe_mixAlloc 10 (by kernel_rfl) rfl rfl rfl Tryz.zeroValue64 fun b5_0 hb5_0 nb5_0 => ?_
 simp only [Act.put, stA, List.set]
 refine fe_mixStore 11 [(b5_0, #[.int .i64 0, .map none], 64)] #[.int .i64 0, .map none] (by kernel_rfl) rfl rfl rfl rfl mcs hb5_0 rfl rfl rfl rfl (fun z hz => .inl (by simpa using hz)) ?_
 simp only [Act.put, stA, List.set]
 refine fe_mixCalm 12 _ (by kernel_rfl) rfl rfl (fun g => calm_assign g rfl) ?_
 simp only [Act.put, stA, List.set]
 refine fe_end (by kernel_rfl) ?_
 intro w1 hw1
 have lb5_0 := fresh_le hb5_0 w.heap.size
 obtain ⟨cb5_0, fb5_0, ob5_0, qb5_0, rb5_0, g5, rfl⟩ := mixg hb5_0 hw1
 clear nb5_0
 go_wp2_with ((go_at_call 71; ((with_reducible refine (part_1 _ _ _ _ _ _ _ _ (by omega) _).mono ?_); rintro _ _ ⟨rfl, g3, rfl⟩)))
 go_ret
 exact ⟨rfl, gri⟩
theorem refused_1_some (xv xt xs xa xc : Int) (xD : Option Addr) (xn xq : Nat) (lx : Byt) (hxn : lx.length = xn) (base D : Nat) (d : Dev) (w : World) (h : DevAt base w D d) (hr : Row bv w xD lx) (hm : OpM.may ⟨1, xv, xt, xs, xa, xc, lx⟩ = true) (x : VolM) (hv : getK d xv = some x)  :
  Calls Tryz.prog 37 #[.pointer (some ⟨D, 0, none⟩), (.agg #[.int .i64 1, .int .u64 xv, .int .u64 xt, .int .i64 xs, .int .i64 xa, .int .i64 xc, .slice xD xn xq])] w fun e w' => e = .returned (.int .i64 7) ∧ Gr w w' := by
 have hms := may_s hm
 have hm0 := hm
 obtain ⟨M, mb, h⟩ := h
 have hxo := h.ok.vols _ ((getK_mem h.ok.sort).1 hv)
 have b1 := hxo.s0
 have b2 := hxo.s1
 clear hxo
 rw [OpM.may] at hm
 simp only at hm
 rw [hxn] at hm
 have c9 : lx.length ≤ 2048 := may_len hm0
 rw [hxn] at c9
 have HMay := hd_ (fun W (hW : Gr w W) => (hm ▸ mayOp_any 1 xv xt xs xa xc xD xn xq lx W hxn (by omega) (hr.gr hW) : Calls Tryz.prog 70 #[(.agg #[.int .i64 1, .int .u64 xv, .int .u64 xt, .int .i64 xs, .int .i64 xa, .int .i64 xc, .slice xD xn xq])] W fun e w' => e = .returned (.bool true) ∧ Gr W w'))
 have HT := hd_ (fun W (hW : Gr w W) => there_yes D M W (h.blk.gr hW))
 haveI := h.blk
 have x0 : w.cell? ⟨D, 0, none⟩ = some (.map (some M)) := (bc 0 h.blk).trans rfl
 haveI : Old D w := h.blk.old
 have hlk := look_vol h xv _ hv
 simp only [volV, Option.isSome] at hlk
 clear hm hm0 hms hr h hv hxn
 obtain ⟨x1, xm⟩ := x
 simp only at b1 b2
 go_enter Tryz.func37, Tryz.ntmps37
 go_wp2_with (first | (go_at_call 19; ((with_reducible refine (HT.out _ gri).mono ?_); rintro _ _ ⟨rfl, g1, rfl⟩)) | (go_at_call 70; ((with_reducible refine (HMay.out _ gri).mono ?_); rintro _ _ ⟨rfl, g2, rfl⟩)))
 refine wp_region_tree (mixw_ghost _) [] (mixw_nil _) [0, 1, 2, 3, 4, 5, 6, 7, 8, 9] 3 (by kernel_rfl) (by kernel_rfl) ?_
 simp only [pick, List.drop, List.take, List.nil_append, List.cons_append]
 repeat (refine wpCalm_step (fun K hK => ?_); go_simp; first | (refine hK _ ?_; clear hK K) | (apply Exists.intro; refine ⟨fun _ => ?_, hK _ ?_⟩; (fail); clear hK K))
 refine wpCalm_nil ?_
 refine fe_mixAlloc 10 (by kernel_rfl) rfl rfl rfl Tryz.zeroValue64 fun b5_0 hb5_0 nb5_0 => ?_
 simp only [Act.put, stA, List.set]
 refine fe_mixStore 11 [(b5_0, #[.int .i64 x1, .map (some (mb xv))], 64)] #[.int .i64 x1, .map (some (mb xv))] (by kernel_rfl) rfl rfl rfl rfl mcs hb5_0 rfl rfl rfl rfl (fun z hz => .inl (by simpa using hz)) ?_
 simp only [Act.put, stA, List.set]
 refine fe_mixCalm 12 _ (by kernel_rfl) rfl rfl (fun g => calm_assign g rfl) ?_
 simp only [Act.put, stA, List.set]
 refine fe_end (by kernel_rfl) ?_
 intro w1 hw1
 have lb5_0 := fresh_le hb5_0 w.heap.size
 obtain ⟨cb5_0, fb5_0, ob5_0, qb5_0, rb5_0, g5, rfl⟩ := mixg hb5_0 hw1
 clear nb5_0
 go_wp2_with ((go_at_call 71; ((with_reducible refine (part_1 _ _ _ _ _ _ _ _ (by omega) _).mono ?_); rintro _ _ ⟨rfl, g3, rfl⟩)))
 go_ret
 exact ⟨rfl, gri⟩
theorem refused_2_none (xv xt xs xa xc : Int) (xD : Option Addr) (xn xq : Nat) (lx : Byt) (hxn : lx.length = xn) (base D : Nat) (d : Dev) (w : World) (h : DevAt base w D d) (hr : Row bv w xD lx) (hm : OpM.may ⟨2, xv, xt, xs, xa, xc, lx⟩ = true) (hv : getK d xv = none)  :
  Calls Tryz.prog 37 #[.pointer (some ⟨D, 0, none⟩), (.agg #[.int .i64 2, .int .u64 xv, .int .u64 xt, .int .i64 xs, .int .i64 xa, .int .i64 xc, .slice xD xn xq])] w fun e w' => e = .returned (.int .i64 6) ∧ Gr w w' := by
 have hms := may_s hm
 have hm0 := hm
 obtain ⟨M, mb, h⟩ := h
 rw [OpM.may] at hm
 simp only at hm
 rw [hxn] at hm
 have c9 : lx.length ≤ 2048 := may_len hm0
 rw [hxn] at c9
 have HMay := hd_ (fun W (hW : Gr w W) => (hm ▸ mayOp_any 2 xv xt xs xa xc xD xn xq lx W hxn (by omega) (hr.gr hW) : Calls Tryz.prog 70 #[(.agg #[.int .i64 2, .int .u64 xv, .int .u64 xt, .int .i64 xs, .int .i64 xa, .int .i64 xc, .slice xD xn xq])] W fun e w' => e = .returned (.bool true) ∧ Gr W w'))
 have HT := hd_ (fun W (hW : Gr w W) => there_yes D M W (h.blk.gr hW))
 haveI := h.blk
 have x0 : w.cell? ⟨D, 0, none⟩ = some (.map (some M)) := (bc 0 h.blk).trans rfl
 haveI : Old D w := h.blk.old
 have hlk := look_vol h xv _ hv
 simp only [volV, Option.isSome] at hlk
 clear hm hm0 hms hr h hv hxn
 go_enter Tryz.func37, Tryz.ntmps37
 go_wp2_with (first | (go_at_call 19; ((with_reducible refine (HT.out _ gri).mono ?_); rintro _ _ ⟨rfl, g1, rfl⟩)) | (go_at_call 70; ((with_reducible refine (HMay.out _ gri).mono ?_); rintro _ _ ⟨rfl, g2, rfl⟩)))
 refine wp_region_tree (mixw_ghost _) [] (mixw_nil _) [0, 1, 2, 3, 4, 5, 6, 7, 8, 9] 3 (by kernel_rfl) (by kernel_rfl) ?_
 simp only [pick, List.drop, List.take, List.nil_append, List.cons_append]
 repeat (refine wpCalm_step (fun K hK => ?_); go_simp; first | (refine hK _ ?_; clear hK K) | (apply Exists.intro; refine ⟨fun _ => ?_, hK _ ?_⟩; (fail); clear hK K))
 refine wpCalm_nil ?_
 refine fe_mixAlloc 10 (by kernel_rfl) rfl rfl rfl Tryz.zeroValue64 fun b5_0 hb5_0 nb5_0 => ?_
 simp only [Act.put, stA, List.set]
 refine fe_mixStore 11 [(b5_0, #[.int .i64 0, .map none], 64)] #[.int .i64 0, .map none] (by kernel_rfl) rfl rfl rfl rfl mcs hb5_0 rfl rfl rfl rfl (fun z hz => .inl (by simpa using hz)) ?_
 simp only [Act.put, stA, List.set]
 refine fe_mixCalm 12 _ (by kernel_rfl) rfl rfl (fun g => calm_assign g rfl) ?_
 simp only [Act.put, stA, List.set]
 refine fe_end (by kernel_rfl) ?_
 intro w1 hw1
 have lb5_0 := fresh_le hb5_0 w.heap.size
 obtain ⟨cb5_0, fb5_0, ob5_0, qb5_0, rb5_0, g5, rfl⟩ := mixg hb5_0 hw1
 clear nb5_0
 go_wp2_with ((go_at_call 71; ((with_reducible refine (part_2 _ _ _ _ _ _ _ _ (by omega) _).mono ?_); rintro _ _ ⟨rfl, g3, rfl⟩)))
 go_ret
 exact ⟨rfl, gri⟩
theorem refused_2_some (xv xt xs xa xc : Int) (xD : Option Addr) (xn xq : Nat) (lx : Byt) (hxn : lx.length = xn) (base D : Nat) (d : Dev) (w : World) (h : DevAt base w D d) (hr : Row bv w xD lx) (hm : OpM.may ⟨2, xv, xt, xs, xa, xc, lx⟩ = true) (x : VolM) (hv : getK d xv = some x)  :
  Calls Tryz.prog 37 #[.pointer (some ⟨D, 0, none⟩), (.agg #[.int .i64 2, .int .u64 xv, .int .u64 xt, .int .i64 xs, .int .i64 xa, .int .i64 xc, .slice xD xn xq])] w fun e w' => e = .returned (.int .i64 0) ∧ Gr w w' := by
 have hms := may_s hm
 have hm0 := hm
 obtain ⟨M, mb, h⟩ := h
 have hxo := h.ok.vols _ ((getK_mem h.ok.sort).1 hv)
 have b1 := hxo.s0
 have b2 := hxo.s1
 clear hxo
 rw [OpM.may] at hm
 simp only at hm
 rw [hxn] at hm
 have c9 : lx.length ≤ 2048 := may_len hm0
 rw [hxn] at c9
 have HMay := hd_ (fun W (hW : Gr w W) => (hm ▸ mayOp_any 2 xv xt xs xa xc xD xn xq lx W hxn (by omega) (hr.gr hW) : Calls Tryz.prog 70 #[(.agg #[.int .i64 2, .int .u64 xv, .int .u64 xt, .int .i64 xs, .int .i64 xa, .int .i64 xc, .slice xD xn xq])] W fun e w' => e = .returned (.bool true) ∧ Gr W w'))
 have HT := hd_ (fun W (hW : Gr w W) => there_yes D M W (h.blk.gr hW))
 haveI := h.blk
 have x0 : w.cell? ⟨D, 0, none⟩ = some (.map (some M)) := (bc 0 h.blk).trans rfl
 haveI : Old D w := h.blk.old
 have hlk := look_vol h xv _ hv
 simp only [volV, Option.isSome] at hlk
 clear hm hm0 hms hr h hv hxn
 obtain ⟨x1, xm⟩ := x
 simp only at b1 b2
 go_enter Tryz.func37, Tryz.ntmps37
 go_wp2_with (first | (go_at_call 19; ((with_reducible refine (HT.out _ gri).mono ?_); rintro _ _ ⟨rfl, g1, rfl⟩)) | (go_at_call 70; ((with_reducible refine (HMay.out _ gri).mono ?_); rintro _ _ ⟨rfl, g2, rfl⟩)))
 refine wp_region_tree (mixw_ghost _) [] (mixw_nil _) [0, 1, 2, 3, 4, 5, 6, 7, 8, 9] 3 (by kernel_rfl) (by kernel_rfl) ?_
 simp only [pick, List.drop, List.take, List.nil_append, List.cons_append]
 repeat (refine wpCalm_step (fun K hK => ?_); go_simp; first | (refine hK _ ?_; clear hK K) | (apply Exists.intro; refine ⟨fun _ => ?_, hK _ ?_⟩; (fail); clear hK K))
 refine wpCalm_nil ?_
 refine fe_mixAlloc 10 (by kernel_rfl) rfl rfl rfl Tryz.zeroValue64 fun b5_0 hb5_0 nb5_0 => ?_
 simp only [Act.put, stA, List.set]
 refine fe_mixStore 11 [(b5_0, #[.int .i64 x1, .map (some (mb xv))], 64)] #[.int .i64 x1, .map (some (mb xv))] (by kernel_rfl) rfl rfl rfl rfl mcs hb5_0 rfl rfl rfl rfl (fun z hz => .inl (by simpa using hz)) ?_
 simp only [Act.put, stA, List.set]
 refine fe_mixCalm 12 _ (by kernel_rfl) rfl rfl (fun g => calm_assign g rfl) ?_
 simp only [Act.put, stA, List.set]
 refine fe_end (by kernel_rfl) ?_
 intro w1 hw1
 have lb5_0 := fresh_le hb5_0 w.heap.size
 obtain ⟨cb5_0, fb5_0, ob5_0, qb5_0, rb5_0, g5, rfl⟩ := mixg hb5_0 hw1
 clear nb5_0
 go_wp2_with ((go_at_call 71; ((with_reducible refine (part_2 _ _ _ _ _ _ _ _ (by omega) _).mono ?_); rintro _ _ ⟨rfl, g3, rfl⟩)))
 go_ret
 exact ⟨rfl, gri⟩
theorem refused_3_none (xv xt xs xa xc : Int) (xD : Option Addr) (xn xq : Nat) (lx : Byt) (hxn : lx.length = xn) (base D : Nat) (d : Dev) (w : World) (h : DevAt base w D d) (hr : Row bv w xD lx) (hm : OpM.may ⟨3, xv, xt, xs, xa, xc, lx⟩ = true) (hv : getK d xv = none)  :
  Calls Tryz.prog 37 #[.pointer (some ⟨D, 0, none⟩), (.agg #[.int .i64 3, .int .u64 xv, .int .u64 xt, .int .i64 xs, .int .i64 xa, .int .i64 xc, .slice xD xn xq])] w fun e w' => e = .returned (.int .i64 6) ∧ Gr w w' := by
 have hms := may_s hm
 have hm0 := hm
 obtain ⟨M, mb, h⟩ := h
 rw [OpM.may] at hm
 simp only at hm
 rw [hxn] at hm
 have c9 : lx.length ≤ 2048 := may_len hm0
 rw [hxn] at c9
 have HMay := hd_ (fun W (hW : Gr w W) => (hm ▸ mayOp_any 3 xv xt xs xa xc xD xn xq lx W hxn (by omega) (hr.gr hW) : Calls Tryz.prog 70 #[(.agg #[.int .i64 3, .int .u64 xv, .int .u64 xt, .int .i64 xs, .int .i64 xa, .int .i64 xc, .slice xD xn xq])] W fun e w' => e = .returned (.bool true) ∧ Gr W w'))
 have HT := hd_ (fun W (hW : Gr w W) => there_yes D M W (h.blk.gr hW))
 haveI := h.blk
 have x0 : w.cell? ⟨D, 0, none⟩ = some (.map (some M)) := (bc 0 h.blk).trans rfl
 haveI : Old D w := h.blk.old
 have hlk := look_vol h xv _ hv
 simp only [volV, Option.isSome] at hlk
 clear hm hm0 hms hr h hv hxn
 go_enter Tryz.func37, Tryz.ntmps37
 go_wp2_with (first | (go_at_call 19; ((with_reducible refine (HT.out _ gri).mono ?_); rintro _ _ ⟨rfl, g1, rfl⟩)) | (go_at_call 70; ((with_reducible refine (HMay.out _ gri).mono ?_); rintro _ _ ⟨rfl, g2, rfl⟩)))
 refine wp_region_tree (mixw_ghost _) [] (mixw_nil _) [0, 1, 2, 3, 4, 5, 6, 7, 8, 9] 3 (by kernel_rfl) (by kernel_rfl) ?_
 simp only [pick, List.drop, List.take, List.nil_append, List.cons_append]
 repeat (refine wpCalm_step (fun K hK => ?_); go_simp; first | (refine hK _ ?_; clear hK K) | (apply Exists.intro; refine ⟨fun _ => ?_, hK _ ?_⟩; (fail); clear hK K))
 refine wpCalm_nil ?_
 refine fe_mixAlloc 10 (by kernel_rfl) rfl rfl rfl Tryz.zeroValue64 fun b5_0 hb5_0 nb5_0 => ?_
 simp only [Act.put, stA, List.set]
 refine fe_mixStore 11 [(b5_0, #[.int .i64 0, .map none], 64)] #[.int .i64 0, .map none] (by kernel_rfl) rfl rfl rfl rfl mcs hb5_0 rfl rfl rfl rfl (fun z hz => .inl (by simpa using hz)) ?_
 simp only [Act.put, stA, List.set]
 refine fe_mixCalm 12 _ (by kernel_rfl) rfl rfl (fun g => calm_assign g rfl) ?_
 simp only [Act.put, stA, List.set]
 refine fe_end (by kernel_rfl) ?_
 intro w1 hw1
 have lb5_0 := fresh_le hb5_0 w.heap.size
 obtain ⟨cb5_0, fb5_0, ob5_0, qb5_0, rb5_0, g5, rfl⟩ := mixg hb5_0 hw1
 clear nb5_0
 go_wp2_with ((go_at_call 71; ((with_reducible refine (part_3 _ _ _ _ _ _ _ _ (by omega) _).mono ?_); rintro _ _ ⟨rfl, g3, rfl⟩)))
 go_ret
 exact ⟨rfl, gri⟩
theorem refused_3_some (xv xt xs xa xc : Int) (xD : Option Addr) (xn xq : Nat) (lx : Byt) (hxn : lx.length = xn) (base D : Nat) (d : Dev) (w : World) (h : DevAt base w D d) (hr : Row bv w xD lx) (hm : OpM.may ⟨3, xv, xt, xs, xa, xc, lx⟩ = true) (x : VolM) (hv : getK d xv = some x)  :
  Calls Tryz.prog 37 #[.pointer (some ⟨D, 0, none⟩), (.agg #[.int .i64 3, .int .u64 xv, .int .u64 xt, .int .i64 xs, .int .i64 xa, .int .i64 xc, .slice xD xn xq])] w fun e w' => e = .returned (.int .i64 0) ∧ Gr w w' := by
 have hms := may_s hm
 have hm0 := hm
 obtain ⟨M, mb, h⟩ := h
 have hxo := h.ok.vols _ ((getK_mem h.ok.sort).1 hv)
 have b1 := hxo.s0
 have b2 := hxo.s1
 clear hxo
 rw [OpM.may] at hm
 simp only at hm
 rw [hxn] at hm
 have c9 : lx.length ≤ 2048 := may_len hm0
 rw [hxn] at c9
 have HMay := hd_ (fun W (hW : Gr w W) => (hm ▸ mayOp_any 3 xv xt xs xa xc xD xn xq lx W hxn (by omega) (hr.gr hW) : Calls Tryz.prog 70 #[(.agg #[.int .i64 3, .int .u64 xv, .int .u64 xt, .int .i64 xs, .int .i64 xa, .int .i64 xc, .slice xD xn xq])] W fun e w' => e = .returned (.bool true) ∧ Gr W w'))
 have HT := hd_ (fun W (hW : Gr w W) => there_yes D M W (h.blk.gr hW))
 haveI := h.blk
 have x0 : w.cell? ⟨D, 0, none⟩ = some (.map (some M)) := (bc 0 h.blk).trans rfl
 haveI : Old D w := h.blk.old
 have hlk := look_vol h xv _ hv
 simp only [volV, Option.isSome] at hlk
 clear hm hm0 hms hr h hv hxn
 obtain ⟨x1, xm⟩ := x
 simp only at b1 b2
 go_enter Tryz.func37, Tryz.ntmps37
 go_wp2_with (first | (go_at_call 19; ((with_reducible refine (HT.out _ gri).mono ?_); rintro _ _ ⟨rfl, g1, rfl⟩)) | (go_at_call 70; ((with_reducible refine (HMay.out _ gri).mono ?_); rintro _ _ ⟨rfl, g2, rfl⟩)))
 refine wp_region_tree (mixw_ghost _) [] (mixw_nil _) [0, 1, 2, 3, 4, 5, 6, 7, 8, 9] 3 (by kernel_rfl) (by kernel_rfl) ?_
 simp only [pick, List.drop, List.take, List.nil_append, List.cons_append]
 repeat (refine wpCalm_step (fun K hK => ?_); go_simp; first | (refine hK _ ?_; clear hK K) | (apply Exists.intro; refine ⟨fun _ => ?_, hK _ ?_⟩; (fail); clear hK K))
 refine wpCalm_nil ?_
 refine fe_mixAlloc 10 (by kernel_rfl) rfl rfl rfl Tryz.zeroValue64 fun b5_0 hb5_0 nb5_0 => ?_
 simp only [Act.put, stA, List.set]
 refine fe_mixStore 11 [(b5_0, #[.int .i64 x1, .map (some (mb xv))], 64)] #[.int .i64 x1, .map (some (mb xv))] (by kernel_rfl) rfl rfl rfl rfl mcs hb5_0 rfl rfl rfl rfl (fun z hz => .inl (by simpa using hz)) ?_
 simp only [Act.put, stA, List.set]
 refine fe_mixCalm 12 _ (by kernel_rfl) rfl rfl (fun g => calm_assign g rfl) ?_
 simp only [Act.put, stA, List.set]
 refine fe_end (by kernel_rfl) ?_
 intro w1 hw1
 have lb5_0 := fresh_le hb5_0 w.heap.size
 obtain ⟨cb5_0, fb5_0, ob5_0, qb5_0, rb5_0, g5, rfl⟩ := mixg hb5_0 hw1
 clear nb5_0
 go_wp2_with ((go_at_call 71; ((with_reducible refine (part_3 _ _ _ _ _ _ _ _ (by omega) _).mono ?_); rintro _ _ ⟨rfl, g3, rfl⟩)))
 go_ret
 exact ⟨rfl, gri⟩
theorem refused_4_none (xv xt xs xa xc : Int) (xD : Option Addr) (xn xq : Nat) (lx : Byt) (hxn : lx.length = xn) (base D : Nat) (d : Dev) (w : World) (h : DevAt base w D d) (hr : Row bv w xD lx) (hm : OpM.may ⟨4, xv, xt, xs, xa, xc, lx⟩ = true) (hv : getK d xv = none)  :
  Calls Tryz.prog 37 #[.pointer (some ⟨D, 0, none⟩), (.agg #[.int .i64 4, .int .u64 xv, .int .u64 xt, .int .i64 xs, .int .i64 xa, .int .i64 xc, .slice xD xn xq])] w fun e w' => e = .returned (.int .i64 6) ∧ Gr w w' := by
 have hms := may_s hm
 have hm0 := hm
 obtain ⟨M, mb, h⟩ := h
 rw [OpM.may] at hm
 simp only at hm
 rw [hxn] at hm
 have c9 : lx.length ≤ 2048 := may_len hm0
 rw [hxn] at c9
 have HMay := hd_ (fun W (hW : Gr w W) => (hm ▸ mayOp_any 4 xv xt xs xa xc xD xn xq lx W hxn (by omega) (hr.gr hW) : Calls Tryz.prog 70 #[(.agg #[.int .i64 4, .int .u64 xv, .int .u64 xt, .int .i64 xs, .int .i64 xa, .int .i64 xc, .slice xD xn xq])] W fun e w' => e = .returned (.bool true) ∧ Gr W w'))
 have HT := hd_ (fun W (hW : Gr w W) => there_yes D M W (h.blk.gr hW))
 haveI := h.blk
 have x0 : w.cell? ⟨D, 0, none⟩ = some (.map (some M)) := (bc 0 h.blk).trans rfl
 haveI : Old D w := h.blk.old
 have hlk := look_vol h xv _ hv
 simp only [volV, Option.isSome] at hlk
 clear hm hm0 hms hr h hv hxn
 go_enter Tryz.func37, Tryz.ntmps37
 go_wp2_with (first | (go_at_call 19; ((with_reducible refine (HT.out _ gri).mono ?_); rintro _ _ ⟨rfl, g1, rfl⟩)) | (go_at_call 70; ((with_reducible refine (HMay.out _ gri).mono ?_); rintro _ _ ⟨rfl, g2, rfl⟩)))
 refine wp_region_tree (mixw_ghost _) [] (mixw_nil _) [0, 1, 2, 3, 4, 5, 6, 7, 8, 9] 3 (by kernel_rfl) (by kernel_rfl) ?_
 simp only [pick, List.drop, List.take, List.nil_append, List.cons_append]
 repeat (refine wpCalm_step (fun K hK => ?_); go_simp; first | (refine hK _ ?_; clear hK K) | (apply Exists.intro; refine ⟨fun _ => ?_, hK _ ?_⟩; (fail); clear hK K))
 refine wpCalm_nil ?_
 refine fe_mixAlloc 10 (by kernel_rfl) rfl rfl rfl Tryz.zeroValue64 fun b5_0 hb5_0 nb5_0 => ?_
 simp only [Act.put, stA, List.set]
 refine fe_mixStore 11 [(b5_0, #[.int .i64 0, .map none], 64)] #[.int .i64 0, .map none] (by kernel_rfl) rfl rfl rfl rfl mcs hb5_0 rfl rfl rfl rfl (fun z hz => .inl (by simpa using hz)) ?_
 simp only [Act.put, stA, List.set]
 refine fe_mixCalm 12 _ (by kernel_rfl) rfl rfl (fun g => calm_assign g rfl) ?_
 simp only [Act.put, stA, List.set]
 refine fe_end (by kernel_rfl) ?_
 intro w1 hw1
 have lb5_0 := fresh_le hb5_0 w.heap.size
 obtain ⟨cb5_0, fb5_0, ob5_0, qb5_0, rb5_0, g5, rfl⟩ := mixg hb5_0 hw1
 clear nb5_0
 go_wp2_with ((go_at_call 71; ((with_reducible refine (part_4 _ _ _ _ _ _ _ _ (by omega) _).mono ?_); rintro _ _ ⟨rfl, g3, rfl⟩)))
 go_ret
 exact ⟨rfl, gri⟩
theorem refused_4_to0 (xv xt xs xa xc : Int) (xD : Option Addr) (xn xq : Nat) (lx : Byt) (hxn : lx.length = xn) (base D : Nat) (d : Dev) (w : World) (h : DevAt base w D d) (hr : Row bv w xD lx) (hm : OpM.may ⟨4, xv, xt, xs, xa, xc, lx⟩ = true) (x : VolM) (hv : getK d xv = some x) (ht : getK d xt = none) :
  Calls Tryz.prog 37 #[.pointer (some ⟨D, 0, none⟩), (.agg #[.int .i64 4, .int .u64 xv, .int .u64 xt, .int .i64 xs, .int .i64 xa, .int .i64 xc, .slice xD xn xq])] w fun e w' => e = .returned (.int .i64 0) ∧ Gr w w' := by
 have hms := may_s hm
 have hm0 := hm
 obtain ⟨M, mb, h⟩ := h
 have hxo := h.ok.vols _ ((getK_mem h.ok.sort).1 hv)
 have b1 := hxo.s0
 have b2 := hxo.s1
 clear hxo
 rw [OpM.may] at hm
 simp only at hm
 rw [hxn] at hm
 have c9 : lx.length ≤ 2048 := may_len hm0
 rw [hxn] at c9
 have HMay := hd_ (fun W (hW : Gr w W) => (hm ▸ mayOp_any 4 xv xt xs xa xc xD xn xq lx W hxn (by omega) (hr.gr hW) : Calls Tryz.prog 70 #[(.agg #[.int .i64 4, .int .u64 xv, .int .u64 xt, .int .i64 xs, .int .i64 xa, .int .i64 xc, .slice xD xn xq])] W fun e w' => e = .returned (.bool true) ∧ Gr W w'))
 have HT := hd_ (fun W (hW : Gr w W) => there_yes D M W (h.blk.gr hW))
 haveI := h.blk
 have x0 : w.cell? ⟨D, 0, none⟩ = some (.map (some M)) := (bc 0 h.blk).trans rfl
 haveI : Old D w := h.blk.old
 have hlk := look_vol h xv _ hv
 have hlt := look_vol h xt _ ht
 simp only [volV, Option.isSome] at hlt
 simp only [volV, Option.isSome] at hlk
 clear hm hm0 hms hr h hv hxn ht
 obtain ⟨x1, xm⟩ := x
 simp only at b1 b2
 go_enter Tryz.func37, Tryz.ntmps37
 go_wp2_with (first | (go_at_call 19; ((with_reducible refine (HT.out _ gri).mono ?_); rintro _ _ ⟨rfl, g1, rfl⟩)) | (go_at_call 70; ((with_reducible refine (HMay.out _ gri).mono ?_); rintro _ _ ⟨rfl, g2, rfl⟩)))
 refine wp_region_tree (mixw_ghost _) [] (mixw_nil _) [0, 1, 2, 3, 4, 5, 6, 7, 8, 9] 3 (by kernel_rfl) (by kernel_rfl) ?_
 simp only [pick, List.drop, List.take, List.nil_append, List.cons_append]
 repeat (refine wpCalm_step (fun K hK => ?_); go_simp; first | (refine hK _ ?_; clear hK K) | (apply Exists.intro; refine ⟨fun _ => ?_, hK _ ?_⟩; (fail); clear hK K))
 refine wpCalm_nil ?_
 refine fe_mixAlloc 10 (by kernel_rfl) rfl rfl rfl Tryz.zeroValue64 fun b5_0 hb5_0 nb5_0 => ?_
 simp only [Act.put, stA, List.set]
 refine fe_mixStore 11 [(b5_0, #[.int .i64 x1, .map (some (mb xv))], 64)] #[.int .i64 x1, .map (some (mb xv))] (by kernel_rfl) rfl rfl rfl rfl mcs hb5_0 rfl rfl rfl rfl (fun z hz => .inl (by simpa using hz)) ?_
 simp only [Act.put, stA, List.set]
 refine fe_mixCalm 12 _ (by kernel_rfl) rfl rfl (fun g => calm_assign g rfl) ?_
 simp only [Act.put, stA, List.set]
 refine fe_end (by kernel_rfl) ?_
 intro w1 hw1
 have lb5_0 := fresh_le hb5_0 w.heap.size
 obtain ⟨cb5_0, fb5_0, ob5_0, qb5_0, rb5_0, g5, rfl⟩ := mixg hb5_0 hw1
 clear nb5_0
 go_wp2_with ((go_at_call 71; ((with_reducible refine (part_4 _ _ _ _ _ _ _ _ (by omega) _).mono ?_); rintro _ _ ⟨rfl, g3, rfl⟩)))
 refine wp_region_tree (mixw_ghost _) [] (mixw_nil _) [0, 1, 2, 3, 4, 5, 6, 7, 8, 9] 3 (by kernel_rfl) (by kernel_rfl) ?_
 simp only [pick, List.drop, List.take, List.nil_append, List.cons_append]
 repeat (refine wpCalm_step (fun K hK => ?_); go_simp; first | (refine hK _ ?_; clear hK K) | (apply Exists.intro; refine ⟨fun _ => ?_, hK _ ?_⟩; (fail); clear hK K))
 refine wpCalm_nil ?_
 refine fe_mixAlloc 10 (by kernel_rfl) rfl rfl rfl Tryz.zeroValue64 fun b15_0 hb15_0 nb15_0 => ?_
 simp only [Act.put, stA, List.set]
 refine fe_mixStore 11 [(b15_0, #[.int .i64 0, .map none], 64)] #[.int .i64 0, .map none] (by kernel_rfl) rfl rfl rfl rfl mcs hb15_0 rfl rfl rfl rfl (fun z hz => .inl (by simpa using hz)) ?_
 simp only [Act.put, stA, List.set]
 refine fe_mixCalm 12 _ (by kernel_rfl) rfl rfl (fun g => calm_assign g rfl) ?_
 simp only [Act.put, stA, List.set]
 refine fe_end (by kernel_rfl) ?_
 intro w1 hw1
 have lb15_0 := fresh_le hb15_0 w.heap.size
 obtain ⟨cb15_0, fb15_0, ob15_0, qb15_0, rb15_0, g15, rfl⟩ := mixg hb15_0 hw1
 clear nb15_0
 go_wp2
 go_ret
 exact ⟨rfl, gri⟩
theorem refused_4_to1 (xv xt xs xa xc : Int) (xD : Option Addr) (xn xq : Nat) (lx : Byt) (hxn : lx.length = xn) (base D : Nat) (d : Dev) (w : World) (h : DevAt base w D d) (hr : Row bv w xD lx) (hm : OpM.may ⟨4, xv, xt, xs, xa, xc, lx⟩ = true) (x : VolM) (hv : getK d xv = some x) (y : VolM) (ht : getK d xt = some y) :
  Calls Tryz.prog 37 #[.pointer (some ⟨D, 0, none⟩), (.agg #[.int .i64 4, .int .u64 xv, .int .u64 xt, .int .i64 xs, .int .i64 xa, .int .i64 xc, .slice xD xn xq])] w fun e w' => e = .returned (.int .i64 7) ∧ Gr w w' := by
 have hms := may_s hm
 have hm0 := hm
 obtain ⟨M, mb, h⟩ := h
 have hxo := h.ok.vols _ ((getK_mem h.ok.sort).1 hv)
 have b1 := hxo.s0
 have b2 := hxo.s1
 clear hxo
 rw [OpM.may] at hm
 simp only at hm
 rw [hxn] at hm
 have c9 : lx.length ≤ 2048 := may_len hm0
 rw [hxn] at c9
 have HMay := hd_ (fun W (hW : Gr w W) => (hm ▸ mayOp_any 4 xv xt xs xa xc xD xn xq lx W hxn (by omega) (hr.gr hW) : Calls Tryz.prog 70 #[(.agg #[.int .i64 4, .int .u64 xv, .int .u64 xt, .int .i64 xs, .int .i64 xa, .int .i64 xc, .slice xD xn xq])] W fun e w' => e = .returned (.bool true) ∧ Gr W w'))
 have HT := hd_ (fun W (hW : Gr w W) => there_yes D M W (h.blk.gr hW))
 haveI := h.blk
 have x0 : w.cell? ⟨D, 0, none⟩ = some (.map (some M)) := (bc 0 h.blk).trans rfl
 haveI : Old D w := h.blk.old
 have hlk := look_vol h xv _ hv
 have hlt := look_vol h xt _ ht
 simp only [volV, Option.isSome] at hlt
 simp only [volV, Option.isSome] at hlk
 clear hm hm0 hms hr h hv hxn ht
 obtain ⟨x1, xm⟩ := x
 simp only at b1 b2
 obtain ⟨y1, ym⟩ := y
 go_enter Tryz.func37, Tryz.ntmps37
 go_wp2_with (first | (go_at_call 19; ((with_reducible refine (HT.out _ gri).mono ?_); rintro _ _ ⟨rfl, g1, rfl⟩)) | (go_at_call 70; ((with_reducible refine (HMay.out _ gri).mono ?_); rintro _ _ ⟨rfl, g2, rfl⟩)))
 refine wp_region_tree (mixw_ghost _) [] (mixw_nil _) [0, 1, 2, 3, 4, 5, 6, 7, 8, 9] 3 (by kernel_rfl) (by kernel_rfl) ?_
 simp only [pick, List.drop, List.take, List.nil_append, List.cons_append]
 repeat (refine wpCalm_step (fun K hK => ?_); go_simp; first | (refine hK _ ?_; clear hK K) | (apply Exists.intro; refine ⟨fun _ => ?_, hK _ ?_⟩; (fail); clear hK K))
 refine wpCalm_nil ?_
 refine fe_mixAlloc 10 (by kernel_rfl) rfl rfl rfl Tryz.zeroValue64 fun b5_0 hb5_0 nb5_0 => ?_
 simp only [Act.put, stA, List.set]
 refine fe_mixStore 11 [(b5_0, #[.int .i64 x1, .map (some (mb xv))], 64)] #[.int .i64 x1, .map (some (mb xv))] (by kernel_rfl) rfl rfl rfl rfl mcs hb5_0 rfl rfl rfl rfl (fun z hz => .inl (by simpa using hz)) ?_
 simp only [Act.put, stA, List.set]
 refine fe_mixCalm 12 _ (by kernel_rfl) rfl rfl (fun g => calm_assign g rfl) ?_
 simp only [Act.put, stA, List.set]
 refine fe_end (by kernel_rfl) ?_
 intro w1 hw1
 have lb5_0 := fresh_le hb5_0 w.heap.size
 obtain ⟨cb5_0, fb5_0, ob5_0, qb5_0, rb5_0, g5, rfl⟩ := mixg hb5_0 hw1
 clear nb5_0
 go_wp2_with ((go_at_call 71; ((with_reducible refine (part_4 _ _ _ _ _ _ _ _ (by omega) _).mono ?_); rintro _ _ ⟨rfl, g3, rfl⟩)))
 refine wp_region_tree (mixw_ghost _) [] (mixw_nil _) [0, 1, 2, 3, 4, 5, 6, 7, 8, 9] 3 (by kernel_rfl) (by kernel_rfl) ?_
 simp only [pick, List.drop, List.take, List.nil_append, List.cons_append]
 repeat (refine wpCalm_step (fun K hK => ?_); go_simp; first | (refine hK _ ?_; clear hK K) | (apply Exists.intro; refine ⟨fun _ => ?_, hK _ ?_⟩; (fail); clear hK K))
 refine wpCalm_nil ?_
 refine fe_mixAlloc 10 (by kernel_rfl) rfl rfl rfl Tryz.zeroValue64 fun b15_0 hb15_0 nb15_0 => ?_
 simp only [Act.put, stA, List.set]
 refine fe_mixStore 11 [(b15_0, #[.int .i64 y1, .map (some (mb xt))], 64)] #[.int .i64 y1, .map (some (mb xt))] (by kernel_rfl) rfl rfl rfl rfl mcs hb15_0 rfl rfl rfl rfl (fun z hz => .inl (by simpa using hz)) ?_
 simp only [Act.put, stA, List.set]
 refine fe_mixCalm 12 _ (by kernel_rfl) rfl rfl (fun g => calm_assign g rfl) ?_
 simp only [Act.put, stA, List.set]
 refine fe_end (by kernel_rfl) ?_
 intro w1 hw1
 have lb15_0 := fresh_le hb15_0 w.heap.size
 obtain ⟨cb15_0, fb15_0, ob15_0, qb15_0, rb15_0, g15, rfl⟩ := mixg hb15_0 hw1
 clear nb15_0
 go_wp2
 go_ret
 exact ⟨rfl, gri⟩
theorem refused_5_none (xv xt xs xa xc : Int) (xD : Option Addr) (xn xq : Nat) (lx : Byt) (hxn : lx.length = xn) (base D : Nat) (d : Dev) (w : World) (h : DevAt base w D d) (hr : Row bv w xD lx) (hm : OpM.may ⟨5, xv, xt, xs, xa, xc, lx⟩ = true) (hv : getK d xv = none)  :
  Calls Tryz.prog 37 #[.pointer (some ⟨D, 0, none⟩), (.agg #[.int .i64 5, .int .u64 xv, .int .u64 xt, .int .i64 xs, .int .i64 xa, .int .i64 xc, .slice xD xn xq])] w fun e w' => e = .returned (.int .i64 6) ∧ Gr w w' := by
 have hms := may_s hm
 have hm0 := hm
 obtain ⟨M, mb, h⟩ := h
 have c1 := hms.at_ (by simp)
 have c2 := hms.dat rfl
 simp only at c1 c2
 rw [OpM.may] at hm
 simp only at hm
 rw [hxn] at hm
 rw [hxn] at c2
 have HMay := hd_ (fun W (hW : Gr w W) => (hm ▸ mayOp_any 5 xv xt xs xa xc xD xn xq lx W hxn (by omega) (hr.gr hW) : Calls Tryz.prog 70 #[(.agg #[.int .i64 5, .int .u64 xv, .int .u64 xt, .int .i64 xs, .int .i64 xa, .int .i64 xc, .slice xD xn xq])] W fun e w' => e = .returned (.bool true) ∧ Gr W w'))
 have HT := hd_ (fun W (hW : Gr w W) => there_yes D M W (h.blk.gr hW))
 haveI := h.blk
 have x0 : w.cell? ⟨D, 0, none⟩ = some (.map (some M)) := (bc 0 h.blk).trans rfl
 haveI : Old D w := h.blk.old
 have hlk := look_vol h xv _ hv
 simp only [volV, Option.isSome] at hlk
 clear hm hm0 hms hr h hv hxn
 go_enter Tryz.func37, Tryz.ntmps37
 go_wp2_with (first | (go_at_call 19; ((with_reducible refine (HT.out _ gri).mono ?_); rintro _ _ ⟨rfl, g1, rfl⟩)) | (go_at_call 70; ((with_reducible refine (HMay.out _ gri).mono ?_); rintro _ _ ⟨rfl, g2, rfl⟩)))
 refine wp_region_tree (mixw_ghost _) [] (mixw_nil _) [0, 1, 2, 3, 4, 5, 6, 7, 8, 9] 3 (by kernel_rfl) (by kernel_rfl) ?_
 simp only [pick, List.drop, List.take, List.nil_append, List.cons_append]
 repeat (refine wpCalm_step (fun K hK => ?_); go_simp; first | (refine hK _ ?_; clear hK K) | (apply Exists.intro; refine ⟨fun _ => ?_, hK _ ?_⟩; (fail); clear hK K))
 refine wpCalm_nil ?_
 refine fe_mixAlloc 10 (by kernel_rfl) rfl rfl rfl Tryz.zeroValue64 fun b5_0 hb5_0 nb5_0 => ?_
 simp only [Act.put, stA, List.set]
 refine fe_mixStore 11 [(b5_0, #[.int .i64 0, .map none], 64)] #[.int .i64 0, .map none] (by kernel_rfl) rfl rfl rfl rfl mcs hb5_0 rfl rfl rfl rfl (fun z hz => .inl (by simpa using hz)) ?_
 simp only [Act.put, stA, List.set]
 refine fe_mixCalm 12 _ (by kernel_rfl) rfl rfl (fun g => calm_assign g rfl) ?_
 simp only [Act.put, stA, List.set]
 refine fe_end (by kernel_rfl) ?_
 intro w1 hw1
 have lb5_0 := fresh_le hb5_0 w.heap.size
 obtain ⟨cb5_0, fb5_0, ob5_0, qb5_0, rb5_0, g5, rfl⟩ := mixg hb5_0 hw1
 clear nb5_0
 go_wp2_with ((go_at_call 71; ((with_reducible refine (part_5 _ _ _ _ _ _ _ _ (by omega) _).mono ?_); rintro _ _ ⟨rfl, g3, rfl⟩)))
 go_ret
 exact ⟨rfl, gri⟩
theorem refused_5_fit (xv xt xs xa xc : Int) (xD : Option Addr) (xn xq : Nat) (lx : Byt) (hxn : lx.length = xn) (base D : Nat) (d : Dev) (w : World) (h : DevAt base w D d) (hr : Row bv w xD lx) (hm : OpM.may ⟨5, xv, xt, xs, xa, xc, lx⟩ = true) (x : VolM) (hv : getK d xv = some x) (hf : ¬ 4 * x.1 < xa + (xn : Int) / 64) :
  Calls Tryz.prog 37 #[.pointer (some ⟨D, 0, none⟩), (.agg #[.int .i64 5, .int .u64 xv, .int .u64 xt, .int .i64 xs, .int .i64 xa, .int .i64 xc, .slice xD xn xq])] w fun e w' => e = .returned (.int .i64 0) ∧ Gr w w' := by
 have hms := may_s hm
 have hm0 := hm
 obtain ⟨M, mb, h⟩ := h
 have hxo := h.ok.vols _ ((getK_mem h.ok.sort).1 hv)
 have b1 := hxo.s0
 have b2 := hxo.s1
 clear hxo
 have c1 := hms.at_ (by simp)
 have c2 := hms.dat rfl
 simp only at c1 c2
 rw [OpM.may] at hm
 simp only at hm
 rw [hxn] at hm
 rw [hxn] at c2
 have HMay := hd_ (fun W (hW : Gr w W) => (hm ▸ mayOp_any 5 xv xt xs xa xc xD xn xq lx W hxn (by omega) (hr.gr hW) : Calls Tryz.prog 70 #[(.agg #[.int .i64 5, .int .u64 xv, .int .u64 xt, .int .i64 xs, .int .i64 xa, .int .i64 xc, .slice xD xn xq])] W fun e w' => e = .returned (.bool true) ∧ Gr W w'))
 have HT := hd_ (fun W (hW : Gr w W) => there_yes D M W (h.blk.gr hW))
 haveI := h.blk
 have x0 : w.cell? ⟨D, 0, none⟩ = some (.map (some M)) := (bc 0 h.blk).trans rfl
 haveI : Old D w := h.blk.old
 have hlk := look_vol h xv _ hv
 simp only [volV, Option.isSome] at hlk
 clear hm hm0 hms hr h hv hxn
 obtain ⟨x1, xm⟩ := x
 simp only at b1 b2 hf
 go_enter Tryz.func37, Tryz.ntmps37
 go_wp2_with (first | (go_at_call 19; ((with_reducible refine (HT.out _ gri).mono ?_); rintro _ _ ⟨rfl, g1, rfl⟩)) | (go_at_call 70; ((with_reducible refine (HMay.out _ gri).mono ?_); rintro _ _ ⟨rfl, g2, rfl⟩)))
 refine wp_region_tree (mixw_ghost _) [] (mixw_nil _) [0, 1, 2, 3, 4, 5, 6, 7, 8, 9] 3 (by kernel_rfl) (by kernel_rfl) ?_
 simp only [pick, List.drop, List.take, List.nil_append, List.cons_append]
 repeat (refine wpCalm_step (fun K hK => ?_); go_simp; first | (refine hK _ ?_; clear hK K) | (apply Exists.intro; refine ⟨fun _ => ?_, hK _ ?_⟩; (fail); clear hK K))
 refine wpCalm_nil ?_
 refine fe_mixAlloc 10 (by kernel_rfl) rfl rfl rfl Tryz.zeroValue64 fun b5_0 hb5_0 nb5_0 => ?_
 simp only [Act.put, stA, List.set]
 refine fe_mixStore 11 [(b5_0, #[.int .i64 x1, .map (some (mb xv))], 64)] #[.int .i64 x1, .map (some (mb xv))] (by kernel_rfl) rfl rfl rfl rfl mcs hb5_0 rfl rfl rfl rfl (fun z hz => .inl (by simpa using hz)) ?_
 simp only [Act.put, stA, List.set]
 refine fe_mixCalm 12 _ (by kernel_rfl) rfl rfl (fun g => calm_assign g rfl) ?_
 simp only [Act.put, stA, List.set]
 refine fe_end (by kernel_rfl) ?_
 intro w1 hw1
 have lb5_0 := fresh_le hb5_0 w.heap.size
 obtain ⟨cb5_0, fb5_0, ob5_0, qb5_0, rb5_0, g5, rfl⟩ := mixg hb5_0 hw1
 clear nb5_0
 go_wp2_with ((go_at_call 71; ((with_reducible refine (part_5 _ _ _ _ _ _ _ _ (by omega) _).mono ?_); rintro _ _ ⟨rfl, g3, rfl⟩)))
 go_ret
 exact ⟨rfl, gri⟩
theorem refused_5_over (xv xt xs xa xc : Int) (xD : Option Addr) (xn xq : Nat) (lx : Byt) (hxn : lx.length = xn) (base D : Nat) (d : Dev) (w : World) (h : DevAt base w D d) (hr : Row bv w xD lx) (hm : OpM.may ⟨5, xv, xt, xs, xa, xc, lx⟩ = true) (x : VolM) (hv : getK d xv = some x) (hf : 4 * x.1 < xa + (xn : Int) / 64) :
  Calls Tryz.prog 37 #[.pointer (some ⟨D, 0, none⟩), (.agg #[.int .i64 5, .int .u64 xv, .int .u64 xt, .int .i64 xs, .int .i64 xa, .int .i64 xc, .slice xD xn xq])] w fun e w' => e = .returned (.int .i64 5) ∧ Gr w w' := by
 have hms := may_s hm
 have hm0 := hm
 obtain ⟨M, mb, h⟩ := h
 have hxo := h.ok.vols _ ((getK_mem h.ok.sort).1 hv)
 have b1 := hxo.s0
 have b2 := hxo.s1
 clear hxo
 have c1 := hms.at_ (by simp)
 have c2 := hms.dat rfl
 simp only at c1 c2
 rw [OpM.may] at hm
 simp only at hm
 rw [hxn] at hm
 rw [hxn] at c2
 have HMay := hd_ (fun W (hW : Gr w W) => (hm ▸ mayOp_any 5 xv xt xs xa xc xD xn xq lx W hxn (by omega) (hr.gr hW) : Calls Tryz.prog 70 #[(.agg #[.int .i64 5, .int .u64 xv, .int .u64 xt, .int .i64 xs, .int .i64 xa, .int .i64 xc, .slice xD xn xq])] W fun e w' => e = .returned (.bool true) ∧ Gr W w'))
 have HT := hd_ (fun W (hW : Gr w W) => there_yes D M W (h.blk.gr hW))
 haveI := h.blk
 have x0 : w.cell? ⟨D, 0, none⟩ = some (.map (some M)) := (bc 0 h.blk).trans rfl
 haveI : Old D w := h.blk.old
 have hlk := look_vol h xv _ hv
 simp only [volV, Option.isSome] at hlk
 clear hm hm0 hms hr h hv hxn
 obtain ⟨x1, xm⟩ := x
 simp only at b1 b2 hf
 go_enter Tryz.func37, Tryz.ntmps37
 go_wp2_with (first | (go_at_call 19; ((with_reducible refine (HT.out _ gri).mono ?_); rintro _ _ ⟨rfl, g1, rfl⟩)) | (go_at_call 70; ((with_reducible refine (HMay.out _ gri).mono ?_); rintro _ _ ⟨rfl, g2, rfl⟩)))
 refine wp_region_tree (mixw_ghost _) [] (mixw_nil _) [0, 1, 2, 3, 4, 5, 6, 7, 8, 9] 3 (by kernel_rfl) (by kernel_rfl) ?_
 simp only [pick, List.drop, List.take, List.nil_append, List.cons_append]
 repeat (refine wpCalm_step (fun K hK => ?_); go_simp; first | (refine hK _ ?_; clear hK K) | (apply Exists.intro; refine ⟨fun _ => ?_, hK _ ?_⟩; (fail); clear hK K))
 refine wpCalm_nil ?_
 refine fe_mixAlloc 10 (by kernel_rfl) rfl rfl rfl Tryz.zeroValue64 fun b5_0 hb5_0 nb5_0 => ?_
 simp only [Act.put, stA, List.set]
 refine fe_mixStore 11 [(b5_0, #[.int .i64 x1, .map (some (mb xv))], 64)] #[.int .i64 x1, .map (some (mb xv))] (by kernel_rfl) rfl rfl rfl rfl mcs hb5_0 rfl rfl rfl rfl (fun z hz => .inl (by simpa using hz)) ?_
 simp only [Act.put, stA, List.set]
 refine fe_mixCalm 12 _ (by kernel_rfl) rfl rfl (fun g => calm_assign g rfl) ?_
 simp only [Act.put, stA, List.set]
 refine fe_end (by kernel_rfl) ?_
 intro w1 hw1
 have lb5_0 := fresh_le hb5_0 w.heap.size
 obtain ⟨cb5_0, fb5_0, ob5_0, qb5_0, rb5_0, g5, rfl⟩ := mixg hb5_0 hw1
 clear nb5_0
 go_wp2_with ((go_at_call 71; ((with_reducible refine (part_5 _ _ _ _ _ _ _ _ (by omega) _).mono ?_); rintro _ _ ⟨rfl, g3, rfl⟩)))
 go_ret
 exact ⟨rfl, gri⟩
theorem refused_6_none (xv xt xs xa xc : Int) (xD : Option Addr) (xn xq : Nat) (lx : Byt) (hxn : lx.length = xn) (base D : Nat) (d : Dev) (w : World) (h : DevAt base w D d) (hr : Row bv w xD lx) (hm : OpM.may ⟨6, xv, xt, xs, xa, xc, lx⟩ = true) (hv : getK d xv = none)  :
  Calls Tryz.prog 37 #[.pointer (some ⟨D, 0, none⟩), (.agg #[.int .i64 6, .int .u64 xv, .int .u64 xt, .int .i64 xs, .int .i64 xa, .int .i64 xc, .slice xD xn xq])] w fun e w' => e = .returned (.int .i64 6) ∧ Gr w w' := by
 have hms := may_s hm
 have hm0 := hm
 obtain ⟨M, mb, h⟩ := h
 have c1 := hms.at_ (by simp)
 have c2 := hms.cnt (by simp)
 simp only at c1 c2
 rw [OpM.may] at hm
 simp only at hm
 rw [hxn] at hm
 have c9 : lx.length ≤ 2048 := may_len hm0
 rw [hxn] at c9
 have HMay := hd_ (fun W (hW : Gr w W) => (hm ▸ mayOp_any 6 xv xt xs xa xc xD xn xq lx W hxn (by omega) (hr.gr hW) : Calls Tryz.prog 70 #[(.agg #[.int .i64 6, .int .u64 xv, .int .u64 xt, .int .i64 xs, .int .i64 xa, .int .i64 xc, .slice xD xn xq])] W fun e w' => e = .returned (.bool true) ∧ Gr W w'))
 have HT := hd_ (fun W (hW : Gr w W) => there_yes D M W (h.blk.gr hW))
 haveI := h.blk
 have x0 : w.cell? ⟨D, 0, none⟩ = some (.map (some M)) := (bc 0 h.blk).trans rfl
 haveI : Old D w := h.blk.old
 have hlk := look_vol h xv _ hv
 simp only [volV, Option.isSome] at hlk
 clear hm hm0 hms hr h hv hxn
 go_enter Tryz.func37, Tryz.ntmps37
 go_wp2_with (first | (go_at_call 19; ((with_reducible refine (HT.out _ gri).mono ?_); rintro _ _ ⟨rfl, g1, rfl⟩)) | (go_at_call 70; ((with_reducible refine (HMay.out _ gri).mono ?_); rintro _ _ ⟨rfl, g2, rfl⟩)))
 refine wp_region_tree (mixw_ghost _) [] (mixw_nil _) [0, 1, 2, 3, 4, 5, 6, 7, 8, 9] 3 (by kernel_rfl) (by kernel_rfl) ?_
 simp only [pick, List.drop, List.take, List.nil_append, List.cons_append]
 repeat (refine wpCalm_step (fun K hK => ?_); go_simp; first | (refine hK _ ?_; clear hK K) | (apply Exists.intro; refine ⟨fun _ => ?_, hK _ ?_⟩; (fail); clear hK K))
 refine wpCalm_nil ?_
 refine fe_mixAlloc 10 (by kernel_rfl) rfl rfl rfl Tryz.zeroValue64 fun b5_0 hb5_0 nb5_0 => ?_
 simp only [Act.put, stA, List.set]
 refine fe_mixStore 11 [(b5_0, #[.int .i64 0, .map none], 64)] #[.int .i64 0, .map none] (by kernel_rfl) rfl rfl rfl rfl mcs hb5_0 rfl rfl rfl rfl (fun z hz => .inl (by simpa using hz)) ?_
 simp only [Act.put, stA, List.set]
 refine fe_mixCalm 12 _ (by kernel_rfl) rfl rfl (fun g => calm_assign g rfl) ?_
 simp only [Act.put, stA, List.set]
 refine fe_end (by kernel_rfl) ?_
 intro w1 hw1
 have lb5_0 := fresh_le hb5_0 w.heap.size
 obtain ⟨cb5_0, fb5_0, ob5_0, qb5_0, rb5_0, g5, rfl⟩ := mixg hb5_0 hw1
 clear nb5_0
 go_wp2_with ((go_at_call 71; ((with_reducible refine (part_6 _ _ _ _ _ _ _ _ (by omega) _).mono ?_); rintro _ _ ⟨rfl, g3, rfl⟩)))
 go_ret
 exact ⟨rfl, gri⟩
theorem refused_6_fit (xv xt xs xa xc : Int) (xD : Option Addr) (xn xq : Nat) (lx : Byt) (hxn : lx.length = xn) (base D : Nat) (d : Dev) (w : World) (h : DevAt base w D d) (hr : Row bv w xD lx) (hm : OpM.may ⟨6, xv, xt, xs, xa, xc, lx⟩ = true) (x : VolM) (hv : getK d xv = some x) (hf : ¬ 4 * x.1 < xa + xc) :
  Calls Tryz.prog 37 #[.pointer (some ⟨D, 0, none⟩), (.agg #[.int .i64 6, .int .u64 xv, .int .u64 xt, .int .i64 xs, .int .i64 xa, .int .i64 xc, .slice xD xn xq])] w fun e w' => e = .returned (.int .i64 0) ∧ Gr w w' := by
 have hms := may_s hm
 have hm0 := hm
 obtain ⟨M, mb, h⟩ := h
 have hxo := h.ok.vols _ ((getK_mem h.ok.sort).1 hv)
 have b1 := hxo.s0
 have b2 := hxo.s1
 clear hxo
 have c1 := hms.at_ (by simp)
 have c2 := hms.cnt (by simp)
 simp only at c1 c2
 rw [OpM.may] at hm
 simp only at hm
 rw [hxn] at hm
 have c9 : lx.length ≤ 2048 := may_len hm0
 rw [hxn] at c9
 have HMay := hd_ (fun W (hW : Gr w W) => (hm ▸ mayOp_any 6 xv xt xs xa xc xD xn xq lx W hxn (by omega) (hr.gr hW) : Calls Tryz.prog 70 #[(.agg #[.int .i64 6, .int .u64 xv, .int .u64 xt, .int .i64 xs, .int .i64 xa, .int .i64 xc, .slice xD xn xq])] W fun e w' => e = .returned (.bool true) ∧ Gr W w'))
 have HT := hd_ (fun W (hW : Gr w W) => there_yes D M W (h.blk.gr hW))
 haveI := h.blk
 have x0 : w.cell? ⟨D, 0, none⟩ = some (.map (some M)) := (bc 0 h.blk).trans rfl
 haveI : Old D w := h.blk.old
 have hlk := look_vol h xv _ hv
 simp only [volV, Option.isSome] at hlk
 clear hm hm0 hms hr h hv hxn
 obtain ⟨x1, xm⟩ := x
 simp only at b1 b2 hf
 go_enter Tryz.func37, Tryz.ntmps37
 go_wp2_with (first | (go_at_call 19; ((with_reducible refine (HT.out _ gri).mono ?_); rintro _ _ ⟨rfl, g1, rfl⟩)) | (go_at_call 70; ((with_reducible refine (HMay.out _ gri).mono ?_); rintro _ _ ⟨rfl, g2, rfl⟩)))
 refine wp_region_tree (mixw_ghost _) [] (mixw_nil _) [0, 1, 2, 3, 4, 5, 6, 7, 8, 9] 3 (by kernel_rfl) (by kernel_rfl) ?_
 simp only [pick, List.drop, List.take, List.nil_append, List.cons_append]
 repeat (refine wpCalm_step (fun K hK => ?_); go_simp; first | (refine hK _ ?_; clear hK K) | (apply Exists.intro; refine ⟨fun _ => ?_, hK _ ?_⟩; (fail); clear hK K))
 refine wpCalm_nil ?_
 refine fe_mixAlloc 10 (by kernel_rfl) rfl rfl rfl Tryz.zeroValue64 fun b5_0 hb5_0 nb5_0 => ?_
 simp only [Act.put, stA, List.set]
 refine fe_mixStore 11 [(b5_0, #[.int .i64 x1, .map (some (mb xv))], 64)] #[.int .i64 x1, .map (some (mb xv))] (by kernel_rfl) rfl rfl rfl rfl mcs hb5_0 rfl rfl rfl rfl (fun z hz => .inl (by simpa using hz)) ?_
 simp only [Act.put, stA, List.set]
 refine fe_mixCalm 12 _ (by kernel_rfl) rfl rfl (fun g => calm_assign g rfl) ?_
 simp only [Act.put, stA, List.set]
 refine fe_end (by kernel_rfl) ?_
 intro w1 hw1
 have lb5_0 := fresh_le hb5_0 w.heap.size
 obtain ⟨cb5_0, fb5_0, ob5_0, qb5_0, rb5_0, g5, rfl⟩ := mixg hb5_0 hw1
 clear nb5_0
 go_wp2_with ((go_at_call 71; ((with_reducible refine (part_6 _ _ _ _ _ _ _ _ (by omega) _).mono ?_); rintro _ _ ⟨rfl, g3, rfl⟩)))
 go_ret
 exact ⟨rfl, gri⟩
theorem refused_6_over (xv xt xs xa xc : Int) (xD : Option Addr) (xn xq : Nat) (lx : Byt) (hxn : lx.length = xn) (base D : Nat) (d : Dev) (w : World) (h : DevAt base w D d) (hr : Row bv w xD lx) (hm : OpM.may ⟨6, xv, xt, xs, xa, xc, lx⟩ = true) (x : VolM) (hv : getK d xv = some x) (hf : 4 * x.1 < xa + xc) :
  Calls Tryz.prog 37 #[.pointer (some ⟨D, 0, none⟩), (.agg #[.int .i64 6, .int .u64 xv, .int .u64 xt, .int .i64 xs, .int .i64 xa, .int .i64 xc, .slice xD xn xq])] w fun e w' => e = .returned (.int .i64 5) ∧ Gr w w' := by
 have hms := may_s hm
 have hm0 := hm
 obtain ⟨M, mb, h⟩ := h
 have hxo := h.ok.vols _ ((getK_mem h.ok.sort).1 hv)
 have b1 := hxo.s0
 have b2 := hxo.s1
 clear hxo
 have c1 := hms.at_ (by simp)
 have c2 := hms.cnt (by simp)
 simp only at c1 c2
 rw [OpM.may] at hm
 simp only at hm
 rw [hxn] at hm
 have c9 : lx.length ≤ 2048 := may_len hm0
 rw [hxn] at c9
 have HMay := hd_ (fun W (hW : Gr w W) => (hm ▸ mayOp_any 6 xv xt xs xa xc xD xn xq lx W hxn (by omega) (hr.gr hW) : Calls Tryz.prog 70 #[(.agg #[.int .i64 6, .int .u64 xv, .int .u64 xt, .int .i64 xs, .int .i64 xa, .int .i64 xc, .slice xD xn xq])] W fun e w' => e = .returned (.bool true) ∧ Gr W w'))
 have HT := hd_ (fun W (hW : Gr w W) => there_yes D M W (h.blk.gr hW))
 haveI := h.blk
 have x0 : w.cell? ⟨D, 0, none⟩ = some (.map (some M)) := (bc 0 h.blk).trans rfl
 haveI : Old D w := h.blk.old
 have hlk := look_vol h xv _ hv
 simp only [volV, Option.isSome] at hlk
 clear hm hm0 hms hr h hv hxn
 obtain ⟨x1, xm⟩ := x
 simp only at b1 b2 hf
 go_enter Tryz.func37, Tryz.ntmps37
 go_wp2_with (first | (go_at_call 19; ((with_reducible refine (HT.out _ gri).mono ?_); rintro _ _ ⟨rfl, g1, rfl⟩)) | (go_at_call 70; ((with_reducible refine (HMay.out _ gri).mono ?_); rintro _ _ ⟨rfl, g2, rfl⟩)))
 refine wp_region_tree (mixw_ghost _) [] (mixw_nil _) [0, 1, 2, 3, 4, 5, 6, 7, 8, 9] 3 (by kernel_rfl) (by kernel_rfl) ?_
 simp only [pick, List.drop, List.take, List.nil_append, List.cons_append]
 repeat (refine wpCalm_step (fun K hK => ?_); go_simp; first | (refine hK _ ?_; clear hK K) | (apply Exists.intro; refine ⟨fun _ => ?_, hK _ ?_⟩; (fail); clear hK K))
 refine wpCalm_nil ?_
 refine fe_mixAlloc 10 (by kernel_rfl) rfl rfl rfl Tryz.zeroValue64 fun b5_0 hb5_0 nb5_0 => ?_
 simp only [Act.put, stA, List.set]
 refine fe_mixStore 11 [(b5_0, #[.int .i64 x1, .map (some (mb xv))], 64)] #[.int .i64 x1, .map (some (mb xv))] (by kernel_rfl) rfl rfl rfl rfl mcs hb5_0 rfl rfl rfl rfl (fun z hz => .inl (by simpa using hz)) ?_
 simp only [Act.put, stA, List.set]
 refine fe_mixCalm 12 _ (by kernel_rfl) rfl rfl (fun g => calm_assign g rfl) ?_
 simp only [Act.put, stA, List.set]
 refine fe_end (by kernel_rfl) ?_
 intro w1 hw1
 have lb5_0 := fresh_le hb5_0 w.heap.size
 obtain ⟨cb5_0, fb5_0, ob5_0, qb5_0, rb5_0, g5, rfl⟩ := mixg hb5_0 hw1
 clear nb5_0
 go_wp2_with ((go_at_call 71; ((with_reducible refine (part_6 _ _ _ _ _ _ _ _ (by omega) _).mono ?_); rintro _ _ ⟨rfl, g3, rfl⟩)))
 go_ret
 exact ⟨rfl, gri⟩
theorem refused_7_none (xv xt xs xa xc : Int) (xD : Option Addr) (xn xq : Nat) (lx : Byt) (hxn : lx.length = xn) (base D : Nat) (d : Dev) (w : World) (h : DevAt base w D d) (hr : Row bv w xD lx) (hm : OpM.may ⟨7, xv, xt, xs, xa, xc, lx⟩ = true) (hv : getK d xv = none)  :
  Calls Tryz.prog 37 #[.pointer (some ⟨D, 0, none⟩), (.agg #[.int .i64 7, .int .u64 xv, .int .u64 xt, .int .i64 xs, .int .i64 xa, .int .i64 xc, .slice xD xn xq])] w fun e w' => e = .returned (.int .i64 6) ∧ Gr w w' := by
 have hms := may_s hm
 have hm0 := hm
 obtain ⟨M, mb, h⟩ := h
 have c1 := hms.at_ (by simp)
 have c2 := hms.cnt (by simp)
 simp only at c1 c2
 rw [OpM.may] at hm
 simp only at hm
 rw [hxn] at hm
 have c9 : lx.length ≤ 2048 := may_len hm0
 rw [hxn] at c9
 have HMay := hd_ (fun W (hW : Gr w W) => (hm ▸ mayOp_any 7 xv xt xs xa xc xD xn xq lx W hxn (by omega) (hr.gr hW) : Calls Tryz.prog 70 #[(.agg #[.int .i64 7, .int .u64 xv, .int .u64 xt, .int .i64 xs, .int .i64 xa, .int .i64 xc, .slice xD xn xq])] W fun e w' => e = .returned (.bool true) ∧ Gr W w'))
 have HT := hd_ (fun W (hW : Gr w W) => there_yes D M W (h.blk.gr hW))
 haveI := h.blk
 have x0 : w.cell? ⟨D, 0, none⟩ = some (.map (some M)) := (bc 0 h.blk).trans rfl
 haveI : Old D w := h.blk.old
 have hlk := look_vol h xv _ hv
 simp only [volV, Option.isSome] at hlk
 clear hm hm0 hms hr h hv hxn
 go_enter Tryz.func37, Tryz.ntmps37
 go_wp2_with (first | (go_at_call 19; ((with_reducible refine (HT.out _ gri).mono ?_); rintro _ _ ⟨rfl, g1, rfl⟩)) | (go_at_call 70; ((with_reducible refine (HMay.out _ gri).mono ?_); rintro _ _ ⟨rfl, g2, rfl⟩)))
 refine wp_region_tree (mixw_ghost _) [] (mixw_nil _) [0, 1, 2, 3, 4, 5, 6, 7, 8, 9] 3 (by kernel_rfl) (by kernel_rfl) ?_
 simp only [pick, List.drop, List.take, List.nil_append, List.cons_append]
 repeat (refine wpCalm_step (fun K hK => ?_); go_simp; first | (refine hK _ ?_; clear hK K) | (apply Exists.intro; refine ⟨fun _ => ?_, hK _ ?_⟩; (fail); clear hK K))
 refine wpCalm_nil ?_
 refine fe_mixAlloc 10 (by kernel_rfl) rfl rfl rfl Tryz.zeroValue64 fun b5_0 hb5_0 nb5_0 => ?_
 simp only [Act.put, stA, List.set]
 refine fe_mixStore 11 [(b5_0, #[.int .i64 0, .map none], 64)] #[.int .i64 0, .map none] (by kernel_rfl) rfl rfl rfl rfl mcs hb5_0 rfl rfl rfl rfl (fun z hz => .inl (by simpa using hz)) ?_
 simp only [Act.put, stA, List.set]
 refine fe_mixCalm 12 _ (by kernel_rfl) rfl rfl (fun g => calm_assign g rfl) ?_
 simp only [Act.put, stA, List.set]
 refine fe_end (by kernel_rfl) ?_
 intro w1 hw1
 have lb5_0 := fresh_le hb5_0 w.heap.size
 obtain ⟨cb5_0, fb5_0, ob5_0, qb5_0, rb5_0, g5, rfl⟩ := mixg hb5_0 hw1
 clear nb5_0
 go_wp2_with ((go_at_call 71; ((with_reducible refine (part_7 _ _ _ _ _ _ _ _ (by omega) _).mono ?_); rintro _ _ ⟨rfl, g3, rfl⟩)))
 go_ret
 exact ⟨rfl, gri⟩
theorem refused_7_fit (xv xt xs xa xc : Int) (xD : Option Addr) (xn xq : Nat) (lx : Byt) (hxn : lx.length = xn) (base D : Nat) (d : Dev) (w : World) (h : DevAt base w D d) (hr : Row bv w xD lx) (hm : OpM.may ⟨7, xv, xt, xs, xa, xc, lx⟩ = true) (x : VolM) (hv : getK d xv = some x) (hf : ¬ x.1 < xa + xc) :
  Calls Tryz.prog 37 #[.pointer (some ⟨D, 0, none⟩), (.agg #[.int .i64 7, .int .u64 xv, .int .u64 xt, .int .i64 xs, .int .i64 xa, .int .i64 xc, .slice xD xn xq])] w fun e w' => e = .returned (.int .i64 0) ∧ Gr w w' := by
 have hms := may_s hm
 have hm0 := hm
 obtain ⟨M, mb, h⟩ := h
 have hxo := h.ok.vols _ ((getK_mem h.ok.sort).1 hv)
 have b1 := hxo.s0
 have b2 := hxo.s1
 clear hxo
 have c1 := hms.at_ (by simp)
 have c2 := hms.cnt (by simp)
 simp only at c1 c2
 rw [OpM.may] at hm
 simp only at hm
 rw [hxn] at hm
 have c9 : lx.length ≤ 2048 := may_len hm0
 rw [hxn] at c9
 have HMay := hd_ (fun W (hW : Gr w W) => (hm ▸ mayOp_any 7 xv xt xs xa xc xD xn xq lx W hxn (by omega) (hr.gr hW) : Calls Tryz.prog 70 #[(.agg #[.int .i64 7, .int .u64 xv, .int .u64 xt, .int .i64 xs, .int .i64 xa, .int .i64 xc, .slice xD xn xq])] W fun e w' => e = .returned (.bool true) ∧ Gr W w'))
 have HT := hd_ (fun W (hW : Gr w W) => there_yes D M W (h.blk.gr hW))
 haveI := h.blk
 have x0 : w.cell? ⟨D, 0, none⟩ = some (.map (some M)) := (bc 0 h.blk).trans rfl
 haveI : Old D w := h.blk.old
 have hlk := look_vol h xv _ hv
 simp only [volV, Option.isSome] at hlk
 clear hm hm0 hms hr h hv hxn
 obtain ⟨x1, xm⟩ := x
 simp only at b1 b2 hf
 go_enter Tryz.func37, Tryz.ntmps37
 go_wp2_with (first | (go_at_call 19; ((with_reducible refine (HT.out _ gri).mono ?_); rintro _ _ ⟨rfl, g1, rfl⟩)) | (go_at_call 70; ((with_reducible refine (HMay.out _ gri).mono ?_); rintro _ _ ⟨rfl, g2, rfl⟩)))
 refine wp_region_tree (mixw_ghost _) [] (mixw_nil _) [0, 1, 2, 3, 4, 5, 6, 7, 8, 9] 3 (by kernel_rfl) (by kernel_rfl) ?_
 simp only [pick, List.drop, List.take, List.nil_append, List.cons_append]
 repeat (refine wpCalm_step (fun K hK => ?_); go_simp; first | (refine hK _ ?_; clear hK K) | (apply Exists.intro; refine ⟨fun _ => ?_, hK _ ?_⟩; (fail); clear hK K))
 refine wpCalm_nil ?_
 refine fe_mixAlloc 10 (by kernel_rfl) rfl rfl rfl Tryz.zeroValue64 fun b5_0 hb5_0 nb5_0 => ?_
 simp only [Act.put, stA, List.set]
 refine fe_mixStore 11 [(b5_0, #[.int .i64 x1, .map (some (mb xv))], 64)] #[.int .i64 x1, .map (some (mb xv))] (by kernel_rfl) rfl rfl rfl rfl mcs hb5_0 rfl rfl rfl rfl (fun z hz => .inl (by simpa using hz)) ?_
 simp only [Act.put, stA, List.set]
 refine fe_mixCalm 12 _ (by kernel_rfl) rfl rfl (fun g => calm_assign g rfl) ?_
 simp only [Act.put, stA, List.set]
 refine fe_end (by kernel_rfl) ?_
 intro w1 hw1
 have lb5_0 := fresh_le hb5_0 w.heap.size
 obtain ⟨cb5_0, fb5_0, ob5_0, qb5_0, rb5_0, g5, rfl⟩ := mixg hb5_0 hw1
 clear nb5_0
 go_wp2_with ((go_at_call 71; ((with_reducible refine (part_7 _ _ _ _ _ _ _ _ (by omega) _).mono ?_); rintro _ _ ⟨rfl, g3, rfl⟩)))
 go_ret
 exact ⟨rfl, gri⟩
theorem refused_7_over (xv xt xs xa xc : Int) (xD : Option Addr) (xn xq : Nat) (lx : Byt) (hxn : lx.length = xn) (base D : Nat) (d : Dev) (w : World) (h : DevAt base w D d) (hr : Row bv w xD lx) (hm : OpM.may ⟨7, xv, xt, xs, xa, xc, lx⟩ = true) (x : VolM) (hv : getK d xv = some x) (hf : x.1 < xa + xc) :
  Calls Tryz.prog 37 #[.pointer (some ⟨D, 0, none⟩), (.agg #[.int .i64 7, .int .u64 xv, .int .u64 xt, .int .i64 xs, .int .i64 xa, .int .i64 xc, .slice xD xn xq])] w fun e w' => e = .returned (.int .i64 5) ∧ Gr w w' := by
 have hms := may_s hm
 have hm0 := hm
 obtain ⟨M, mb, h⟩ := h
 have hxo := h.ok.vols _ ((getK_mem h.ok.sort).1 hv)
 have b1 := hxo.s0
 have b2 := hxo.s1
 clear hxo
 have c1 := hms.at_ (by simp)
 have c2 := hms.cnt (by simp)
 simp only at c1 c2
 rw [OpM.may] at hm
 simp only at hm
 rw [hxn] at hm
 have c9 : lx.length ≤ 2048 := may_len hm0
 rw [hxn] at c9
 have HMay := hd_ (fun W (hW : Gr w W) => (hm ▸ mayOp_any 7 xv xt xs xa xc xD xn xq lx W hxn (by omega) (hr.gr hW) : Calls Tryz.prog 70 #[(.agg #[.int .i64 7, .int .u64 xv, .int .u64 xt, .int .i64 xs, .int .i64 xa, .int .i64 xc, .slice xD xn xq])] W fun e w' => e = .returned (.bool true) ∧ Gr W w'))
 have HT := hd_ (fun W (hW : Gr w W) => there_yes D M W (h.blk.gr hW))
 haveI := h.blk
 have x0 : w.cell? ⟨D, 0, none⟩ = some (.map (some M)) := (bc 0 h.blk).trans rfl
 haveI : Old D w := h.blk.old
 have hlk := look_vol h xv _ hv
 simp only [volV, Option.isSome] at hlk
 clear hm hm0 hms hr h hv hxn
 obtain ⟨x1, xm⟩ := x
 simp only at b1 b2 hf
 go_enter Tryz.func37, Tryz.ntmps37
 go_wp2_with (first | (go_at_call 19; ((with_reducible refine (HT.out _ gri).mono ?_); rintro _ _ ⟨rfl, g1, rfl⟩)) | (go_at_call 70; ((with_reducible refine (HMay.out _ gri).mono ?_); rintro _ _ ⟨rfl, g2, rfl⟩)))
 refine wp_region_tree (mixw_ghost _) [] (mixw_nil _) [0, 1, 2, 3, 4, 5, 6, 7, 8, 9] 3 (by kernel_rfl) (by kernel_rfl) ?_
 simp only [pick, List.drop, List.take, List.nil_append, List.cons_append]
 repeat (refine wpCalm_step (fun K hK => ?_); go_simp; first | (refine hK _ ?_; clear hK K) | (apply Exists.intro; refine ⟨fun _ => ?_, hK _ ?_⟩; (fail); clear hK K))
 refine wpCalm_nil ?_
 refine fe_mixAlloc 10 (by kernel_rfl) rfl rfl rfl Tryz.zeroValue64 fun b5_0 hb5_0 nb5_0 => ?_
 simp only [Act.put, stA, List.set]
 refine fe_mixStore 11 [(b5_0, #[.int .i64 x1, .map (some (mb xv))], 64)] #[.int .i64 x1, .map (some (mb xv))] (by kernel_rfl) rfl rfl rfl rfl mcs hb5_0 rfl rfl rfl rfl (fun z hz => .inl (by simpa using hz)) ?_
 simp only [Act.put, stA, List.set]
 refine fe_mixCalm 12 _ (by kernel_rfl) rfl rfl (fun g => calm_assign g rfl) ?_
 simp only [Act.put, stA, List.set]
 refine fe_end (by kernel_rfl) ?_
 intro w1 hw1
 have lb5_0 := fresh_le hb5_0 w.heap.size
 obtain ⟨cb5_0, fb5_0, ob5_0, qb5_0, rb5_0, g5, rfl⟩ := mixg hb5_0 hw1
 clear nb5_0
 go_wp2_with ((go_at_call 71; ((with_reducible refine (part_7 _ _ _ _ _ _ _ _ (by omega) _).mono ?_); rintro _ _ ⟨rfl, g3, rfl⟩)))
 go_ret
 exact ⟨rfl, gri⟩
theorem refused_8_none (xv xt xs xa xc : Int) (xD : Option Addr) (xn xq : Nat) (lx : Byt) (hxn : lx.length = xn) (base D : Nat) (d : Dev) (w : World) (h : DevAt base w D d) (hr : Row bv w xD lx) (hm : OpM.may ⟨8, xv, xt, xs, xa, xc, lx⟩ = true) (hv : getK d xv = none)  :
  Calls Tryz.prog 37 #[.pointer (some ⟨D, 0, none⟩), (.agg #[.int .i64 8, .int .u64 xv, .int .u64 xt, .int .i64 xs, .int .i64 xa, .int .i64 xc, .slice xD xn xq])] w fun e w' => e = .returned (.int .i64 0) ∧ Gr w w' := by
 have hms := may_s hm
 have hm0 := hm
 obtain ⟨M, mb, h⟩ := h
 rw [OpM.may] at hm
 simp only at hm
 rw [hxn] at hm
 have c9 : lx.length ≤ 2048 := may_len hm0
 rw [hxn] at c9
 have HMay := hd_ (fun W (hW : Gr w W) => (hm ▸ mayOp_any 8 xv xt xs xa xc xD xn xq lx W hxn (by omega) (hr.gr hW) : Calls Tryz.prog 70 #[(.agg #[.int .i64 8, .int .u64 xv, .int .u64 xt, .int .i64 xs, .int .i64 xa, .int .i64 xc, .slice xD xn xq])] W fun e w' => e = .returned (.bool true) ∧ Gr W w'))
 have HT := hd_ (fun W (hW : Gr w W) => there_yes D M W (h.blk.gr hW))
 haveI := h.blk
 have x0 : w.cell? ⟨D, 0, none⟩ = some (.map (some M)) := (bc 0 h.blk).trans rfl
 haveI : Old D w := h.blk.old
 have hlk := look_vol h xv _ hv
 simp only [volV, Option.isSome] at hlk
 clear hm hm0 hms hr h hv hxn
 go_enter Tryz.func37, Tryz.ntmps37
 go_wp2_with (first | (go_at_call 19; ((with_reducible refine (HT.out _ gri).mono ?_); rintro _ _ ⟨rfl, g1, rfl⟩)) | (go_at_call 70; ((with_reducible refine (HMay.out _ gri).mono ?_); rintro _ _ ⟨rfl, g2, rfl⟩)))
 refine wp_region_tree (mixw_ghost _) [] (mixw_nil _) [0, 1, 2, 3, 4, 5, 6, 7, 8, 9] 3 (by kernel_rfl) (by kernel_rfl) ?_
 simp only [pick, List.drop, List.take, List.nil_append, List.cons_append]
 repeat (refine wpCalm_step (fun K hK => ?_); go_simp; first | (refine hK _ ?_; clear hK K) | (apply Exists.intro; refine ⟨fun _ => ?_, hK _ ?_⟩; (fail); clear hK K))
 refine wpCalm_nil ?_
 refine fe_mixAlloc 10 (by kernel_rfl) rfl rfl rfl Tryz.zeroValue64 fun b5_0 hb5_0 nb5_0 => ?_
 simp only [Act.put, stA, List.set]
 refine fe_mixStore 11 [(b5_0, #[.int .i64 0, .map none], 64)] #[.int .i64 0, .map none] (by kernel_rfl) rfl rfl rfl rfl mcs hb5_0 rfl rfl rfl rfl (fun z hz => .inl (by simpa using hz)) ?_
 simp only [Act.put, stA, List.set]
 refine fe_mixCalm 12 _ (by kernel_rfl) rfl rfl (fun g => calm_assign g rfl) ?_
 simp only [Act.put, stA, List.set]
 refine fe_end (by kernel_rfl) ?_
 intro w1 hw1
 have lb5_0 := fresh_le hb5_0 w.heap.size
 obtain ⟨cb5_0, fb5_0, ob5_0, qb5_0, rb5_0, g5, rfl⟩ := mixg hb5_0 hw1
 clear nb5_0
 go_wp2_with fail
 go_ret
 exact ⟨rfl, gri⟩
theorem refused_8_some (xv xt xs xa xc : Int) (xD : Option Addr) (xn xq : Nat) (lx : Byt) (hxn : lx.length = xn) (base D : Nat) (d : Dev) (w : World) (h : DevAt base w D d) (hr : Row bv w xD lx) (hm : OpM.may ⟨8, xv, xt, xs, xa, xc, lx⟩ = true) (x : VolM) (hv : getK d xv = some x)  :
  Calls Tryz.prog 37 #[.pointer (some ⟨D, 0, none⟩), (.agg #[.int .i64 8, .int .u64 xv, .int .u64 xt, .int .i64 xs, .int .i64 xa, .int .i64 xc, .slice xD xn xq])] w fun e w' => e = .returned (.int .i64 0) ∧ Gr w w' := by
 have hms := may_s hm
 have hm0 := hm
 obtain ⟨M, mb, h⟩ := h
 have hxo := h.ok.vols _ ((getK_mem h.ok.sort).1 hv)
 have b1 := hxo.s0
 have b2 := hxo.s1
 clear hxo
 rw [OpM.may] at hm
 simp only at hm
 rw [hxn] at hm
 have c9 : lx.length ≤ 2048 := may_len hm0
 rw [hxn] at c9
 have HMay := hd_ (fun W (hW : Gr w W) => (hm ▸ mayOp_any 8 xv xt xs xa xc xD xn xq lx W hxn (by omega) (hr.gr hW) : Calls Tryz.prog 70 #[(.agg #[.int .i64 8, .int .u64 xv, .int .u64 xt, .int .i64 xs, .int .i64 xa, .int .i64 xc, .slice xD xn xq])] W fun e w' => e = .returned (.bool true) ∧ Gr W w'))
 have HT := hd_ (fun W (hW : Gr w W) => there_yes D M W (h.blk.gr hW))
 haveI := h.blk
 have x0 : w.cell? ⟨D, 0, none⟩ = some (.map (some M)) := (bc 0 h.blk).trans rfl
 haveI : Old D w := h.blk.old
 have hlk := look_vol h xv _ hv
 simp only [volV, Option.isSome] at hlk
 clear hm hm0 hms hr h hv hxn
 obtain ⟨x1, xm⟩ := x
 simp only at b1 b2
 go_enter Tryz.func37, Tryz.ntmps37
 go_wp2_with (first | (go_at_call 19; ((with_reducible refine (HT.out _ gri).mono ?_); rintro _ _ ⟨rfl, g1, rfl⟩)) | (go_at_call 70; ((with_reducible refine (HMay.out _ gri).mono ?_); rintro _ _ ⟨rfl, g2, rfl⟩)))
 refine wp_region_tree (mixw_ghost _) [] (mixw_nil _) [0, 1, 2, 3, 4, 5, 6, 7, 8, 9] 3 (by kernel_rfl) (by kernel_rfl) ?_
 simp only [pick, List.drop, List.take, List.nil_append, List.cons_append]
 repeat (refine wpCalm_step (fun K hK => ?_); go_simp; first | (refine hK _ ?_; clear hK K) | (apply Exists.intro; refine ⟨fun _ => ?_, hK _ ?_⟩; (fail); clear hK K))
 refine wpCalm_nil ?_
 refine fe_mixAlloc 10 (by kernel_rfl) rfl rfl rfl Tryz.zeroValue64 fun b5_0 hb5_0 nb5_0 => ?_
 simp only [Act.put, stA, List.set]
 refine fe_mixStore 11 [(b5_0, #[.int .i64 x1, .map (some (mb xv))], 64)] #[.int .i64 x1, .map (some (mb xv))] (by kernel_rfl) rfl rfl rfl rfl mcs hb5_0 rfl rfl rfl rfl (fun z hz => .inl (by simpa using hz)) ?_
 simp only [Act.put, stA, List.set]
 refine fe_mixCalm 12 _ (by kernel_rfl) rfl rfl (fun g => calm_assign g rfl) ?_
 simp only [Act.put, stA, List.set]
 refine fe_end (by kernel_rfl) ?_
 intro w1 hw1
 have lb5_0 := fresh_le hb5_0 w.heap.size
 obtain ⟨cb5_0, fb5_0, ob5_0, qb5_0, rb5_0, g5, rfl⟩ := mixg hb5_0 hw1
 clear nb5_0
 go_wp2_with fail
 go_ret
 exact ⟨rfl, gri⟩
theorem refused_9_none (xv xt xs xa xc : Int) (xD : Option Addr) (xn xq : Nat) (lx : Byt) (hxn : lx.length = xn) (base D : Nat) (d : Dev) (w : World) (h : DevAt base w D d) (hr : Row bv w xD lx) (hm : OpM.may ⟨9, xv, xt, xs, xa, xc, lx⟩ = true) (hv : getK d xv = none)  :
  Calls Tryz.prog 37 #[.pointer (some ⟨D, 0, none⟩), (.agg #[.int .i64 9, .int .u64 xv, .int .u64 xt, .int .i64 xs, .int .i64 xa, .int .i64 xc, .slice xD xn xq])] w fun e w' => e = .returned (.int .i64 6) ∧ Gr w w' := by
 have hms := may_s hm
 have hm0 := hm
 obtain ⟨M, mb, h⟩ := h
 have c1 := hms.at_ (by simp)
 have c2 := hms.cnt (by simp)
 simp only at c1 c2
 rw [OpM.may] at hm
 simp only at hm
 rw [hxn] at hm
 have c9 : lx.length ≤ 2048 := may_len hm0
 rw [hxn] at c9
 have HMay := hd_ (fun W (hW : Gr w W) => (hm ▸ mayOp_any 9 xv xt xs xa xc xD xn xq lx W hxn (by omega) (hr.gr hW) : Calls Tryz.prog 70 #[(.agg #[.int .i64 9, .int .u64 xv, .int .u64 xt, .int .i64 xs, .int .i64 xa, .int .i64 xc, .slice xD xn xq])] W fun e w' => e = .returned (.bool true) ∧ Gr W w'))
 have HT := hd_ (fun W (hW : Gr w W) => there_yes D M W (h.blk.gr hW))
 haveI := h.blk
 have x0 : w.cell? ⟨D, 0, none⟩ = some (.map (some M)) := (bc 0 h.blk).trans rfl
 haveI : Old D w := h.blk.old
 have hlk := look_vol h xv _ hv
 simp only [volV, Option.isSome] at hlk
 clear hm hm0 hms hr h hv hxn
 go_enter Tryz.func37, Tryz.ntmps37
 go_wp2_with (first | (go_at_call 19; ((with_reducible refine (HT.out _ gri).mono ?_); rintro _ _ ⟨rfl, g1, rfl⟩)) | (go_at_call 70; ((with_reducible refine (HMay.out _ gri).mono ?_); rintro _ _ ⟨rfl, g2, rfl⟩)))
 refine wp_region_tree (mixw_ghost _) [] (mixw_nil _) [0, 1, 2, 3, 4, 5, 6, 7, 8, 9] 3 (by kernel_rfl) (by kernel_rfl) ?_
 simp only [pick, List.drop, List.take, List.nil_append, List.cons_append]
 repeat (refine wpCalm_step (fun K hK => ?_); go_simp; first | (refine hK _ ?_; clear hK K) | (apply Exists.intro; refine ⟨fun _ => ?_, hK _ ?_⟩; (fail); clear hK K))
 refine wpCalm_nil ?_
 refine fe_mixAlloc 10 (by kernel_rfl) rfl rfl rfl Tryz.zeroValue64 fun b5_0 hb5_0 nb5_0 => ?_
 simp only [Act.put, stA, List.set]
 refine fe_mixStore 11 [(b5_0, #[.int .i64 0, .map none], 64)] #[.int .i64 0, .map none] (by kernel_rfl) rfl rfl rfl rfl mcs hb5_0 rfl rfl rfl rfl (fun z hz => .inl (by simpa using hz)) ?_
 simp only [Act.put, stA, List.set]
 refine fe_mixCalm 12 _ (by kernel_rfl) rfl rfl (fun g => calm_assign g rfl) ?_
 simp only [Act.put, stA, List.set]
 refine fe_end (by kernel_rfl) ?_
 intro w1 hw1
 have lb5_0 := fresh_le hb5_0 w.heap.size
 obtain ⟨cb5_0, fb5_0, ob5_0, qb5_0, rb5_0, g5, rfl⟩ := mixg hb5_0 hw1
 clear nb5_0
 go_wp2_with ((go_at_call 71; ((with_reducible refine (part_9 _ _ _ _ _ _ _ _ (by omega) _).mono ?_); rintro _ _ ⟨rfl, g3, rfl⟩)))
 go_ret
 exact ⟨rfl, gri⟩
theorem refused_9_fit (xv xt xs xa xc : Int) (xD : Option Addr) (xn xq : Nat) (lx : Byt) (hxn : lx.length = xn) (base D : Nat) (d : Dev) (w : World) (h : DevAt base w D d) (hr : Row bv w xD lx) (hm : OpM.may ⟨9, xv, xt, xs, xa, xc, lx⟩ = true) (x : VolM) (hv : getK d xv = some x) (hf : ¬ 4 * x.1 < xa + xc) :
  Calls Tryz.prog 37 #[.pointer (some ⟨D, 0, none⟩), (.agg #[.int .i64 9, .int .u64 xv, .int .u64 xt, .int .i64 xs, .int .i64 xa, .int .i64 xc, .slice xD xn xq])] w fun e w' => e = .returned (.int .i64 0) ∧ Gr w w' := by
 have hms := may_s hm
 have hm0 := hm
 obtain ⟨M, mb, h⟩ := h
 have hxo := h.ok.vols _ ((getK_mem h.ok.sort).1 hv)
 have b1 := hxo.s0
 have b2 := hxo.s1
 clear hxo
 have c1 := hms.at_ (by simp)
 have c2 := hms.cnt (by simp)
 simp only at c1 c2
 rw [OpM.may] at hm
 simp only at hm
 rw [hxn] at hm
 have c9 : lx.length ≤ 2048 := may_len hm0
 rw [hxn] at c9
 have HMay := hd_ (fun W (hW : Gr w W) => (hm ▸ mayOp_any 9 xv xt xs xa xc xD xn xq lx W hxn (by omega) (hr.gr hW) : Calls Tryz.prog 70 #[(.agg #[.int .i64 9, .int .u64 xv, .int .u64 xt, .int .i64 xs, .int .i64 xa, .int .i64 xc, .slice xD xn xq])] W fun e w' => e = .returned (.bool true) ∧ Gr W w'))
 have HT := hd_ (fun W (hW : Gr w W) => there_yes D M W (h.blk.gr hW))
 haveI := h.blk
 have x0 : w.cell? ⟨D, 0, none⟩ = some (.map (some M)) := (bc 0 h.blk).trans rfl
 haveI : Old D w := h.blk.old
 have hlk := look_vol h xv _ hv
 simp only [volV, Option.isSome] at hlk
 clear hm hm0 hms hr h hv hxn
 obtain ⟨x1, xm⟩ := x
 simp only at b1 b2 hf
 go_enter Tryz.func37, Tryz.ntmps37
 go_wp2_with (first | (go_at_call 19; ((with_reducible refine (HT.out _ gri).mono ?_); rintro _ _ ⟨rfl, g1, rfl⟩)) | (go_at_call 70; ((with_reducible refine (HMay.out _ gri).mono ?_); rintro _ _ ⟨rfl, g2, rfl⟩)))
 refine wp_region_tree (mixw_ghost _) [] (mixw_nil _) [0, 1, 2, 3, 4, 5, 6, 7, 8, 9] 3 (by kernel_rfl) (by kernel_rfl) ?_
 simp only [pick, List.drop, List.take, List.nil_append, List.cons_append]
 repeat (refine wpCalm_step (fun K hK => ?_); go_simp; first | (refine hK _ ?_; clear hK K) | (apply Exists.intro; refine ⟨fun _ => ?_, hK _ ?_⟩; (fail); clear hK K))
 refine wpCalm_nil ?_
 refine fe_mixAlloc 10 (by kernel_rfl) rfl rfl rfl Tryz.zeroValue64 fun b5_0 hb5_0 nb5_0 => ?_
 simp only [Act.put, stA, List.set]
 refine fe_mixStore 11 [(b5_0, #[.int .i64 x1, .map (some (mb xv))], 64)] #[.int .i64 x1, .map (some (mb xv))] (by kernel_rfl) rfl rfl rfl rfl mcs hb5_0 rfl rfl rfl rfl (fun z hz => .inl (by simpa using hz)) ?_
 simp only [Act.put, stA, List.set]
 refine fe_mixCalm 12 _ (by kernel_rfl) rfl rfl (fun g => calm_assign g rfl) ?_
 simp only [Act.put, stA, List.set]
 refine fe_end (by kernel_rfl) ?_
 intro w1 hw1
 have lb5_0 := fresh_le hb5_0 w.heap.size
 obtain ⟨cb5_0, fb5_0, ob5_0, qb5_0, rb5_0, g5, rfl⟩ := mixg hb5_0 hw1
 clear nb5_0
 go_wp2_with ((go_at_call 71; ((with_reducible refine (part_9 _ _ _ _ _ _ _ _ (by omega) _).mono ?_); rintro _ _ ⟨rfl, g3, rfl⟩)))
 go_ret
 exact ⟨rfl, gri⟩
theorem refused_9_over (xv xt xs xa xc : Int) (xD : Option Addr) (xn xq : Nat) (lx : Byt) (hxn : lx.length = xn) (base D : Nat) (d : Dev) (w : World) (h : DevAt base w D d) (hr : Row bv w xD lx) (hm : OpM.may ⟨9, xv, xt, xs, xa, xc, lx⟩ = true) (x : VolM) (hv : getK d xv = some x) (hf : 4 * x.1 < xa + xc) :
  Calls Tryz.prog 37 #[.pointer (some ⟨D, 0, none⟩), (.agg #[.int .i64 9, .int .u64 xv, .int .u64 xt, .int .i64 xs, .int .i64 xa, .int .i64 xc, .slice xD xn xq])] w fun e w' => e = .returned (.int .i64 5) ∧ Gr w w' := by
 have hms := may_s hm
 have hm0 := hm
 obtain ⟨M, mb, h⟩ := h
 have hxo := h.ok.vols _ ((getK_mem h.ok.sort).1 hv)
 have b1 := hxo.s0
 have b2 := hxo.s1
 clear hxo
 have c1 := hms.at_ (by simp)
 have c2 := hms.cnt (by simp)
 simp only at c1 c2
 rw [OpM.may] at hm
 simp only at hm
 rw [hxn] at hm
 have c9 : lx.length ≤ 2048 := may_len hm0
 rw [hxn] at c9
 have HMay := hd_ (fun W (hW : Gr w W) => (hm ▸ mayOp_any 9 xv xt xs xa xc xD xn xq lx W hxn (by omega) (hr.gr hW) : Calls Tryz.prog 70 #[(.agg #[.int .i64 9, .int .u64 xv, .int .u64 xt, .int .i64 xs, .int .i64 xa, .int .i64 xc, .slice xD xn xq])] W fun e w' => e = .returned (.bool true) ∧ Gr W w'))
 have HT := hd_ (fun W (hW : Gr w W) => there_yes D M W (h.blk.gr hW))
 haveI := h.blk
 have x0 : w.cell? ⟨D, 0, none⟩ = some (.map (some M)) := (bc 0 h.blk).trans rfl
 haveI : Old D w := h.blk.old
 have hlk := look_vol h xv _ hv
 simp only [volV, Option.isSome] at hlk
 clear hm hm0 hms hr h hv hxn
 obtain ⟨x1, xm⟩ := x
 simp only at b1 b2 hf
 go_enter Tryz.func37, Tryz.ntmps37
 go_wp2_with (first | (go_at_call 19; ((with_reducible refine (HT.out _ gri).mono ?_); rintro _ _ ⟨rfl, g1, rfl⟩)) | (go_at_call 70; ((with_reducible refine (HMay.out _ gri).mono ?_); rintro _ _ ⟨rfl, g2, rfl⟩)))
 refine wp_region_tree (mixw_ghost _) [] (mixw_nil _) [0, 1, 2, 3, 4, 5, 6, 7, 8, 9] 3 (by kernel_rfl) (by kernel_rfl) ?_
 simp only [pick, List.drop, List.take, List.nil_append, List.cons_append]
 repeat (refine wpCalm_step (fun K hK => ?_); go_simp; first | (refine hK _ ?_; clear hK K) | (apply Exists.intro; refine ⟨fun _ => ?_, hK _ ?_⟩; (fail); clear hK K))
 refine wpCalm_nil ?_
 refine fe_mixAlloc 10 (by kernel_rfl) rfl rfl rfl Tryz.zeroValue64 fun b5_0 hb5_0 nb5_0 => ?_
 simp only [Act.put, stA, List.set]
 refine fe_mixStore 11 [(b5_0, #[.int .i64 x1, .map (some (mb xv))], 64)] #[.int .i64 x1, .map (some (mb xv))] (by kernel_rfl) rfl rfl rfl rfl mcs hb5_0 rfl rfl rfl rfl (fun z hz => .inl (by simpa using hz)) ?_
 simp only [Act.put, stA, List.set]
 refine fe_mixCalm 12 _ (by kernel_rfl) rfl rfl (fun g => calm_assign g rfl) ?_
 simp only [Act.put, stA, List.set]
 refine fe_end (by kernel_rfl) ?_
 intro w1 hw1
 have lb5_0 := fresh_le hb5_0 w.heap.size
 obtain ⟨cb5_0, fb5_0, ob5_0, qb5_0, rb5_0, g5, rfl⟩ := mixg hb5_0 hw1
 clear nb5_0
 go_wp2_with ((go_at_call 71; ((with_reducible refine (part_9 _ _ _ _ _ _ _ _ (by omega) _).mono ?_); rintro _ _ ⟨rfl, g3, rfl⟩)))
 go_ret
 exact ⟨rfl, gri⟩
theorem refused_any (xk : Int) (xv xt xs xa xc : Int) (xD : Option Addr) (xn xq : Nat) (lx : Byt) (hxn : lx.length = xn) (base D : Nat) (d : Dev) (w : World) (h : DevAt base w D d) (hr : Row bv w xD lx) (hn : xn ≤ 9223372036854775807) :
  Calls Tryz.prog 37 #[.pointer (some ⟨D, 0, none⟩), (.agg #[.int .i64 xk, .int .u64 xv, .int .u64 xt, .int .i64 xs, .int .i64 xa, .int .i64 xc, .slice xD xn xq])] w fun e w' => e = .returned (.int .i64 (errK d ⟨xk, xv, xt, xs, xa, xc, lx⟩)) ∧ Gr w w' := by
 cases hm : OpM.may ⟨xk, xv, xt, xs, xa, xc, lx⟩
 ·have e : errK d ⟨xk, xv, xt, xs, xa, xc, lx⟩ = 2 := by rw [errK, if_pos hm]
  rw [e]
  exact refused_bad xk xv xt xs xa xc xD xn xq lx hxn base D d w h hr hn hm
 ·have hk := may_kind hm
  simp only at hk
  have h9 : xk = 1 ∨ xk = 2 ∨ xk = 3 ∨ xk = 4 ∨ xk = 5 ∨ xk = 6 ∨ xk = 7 ∨ xk = 8 ∨ xk = 9 := by omega
  have e0 : errK d ⟨xk, xv, xt, xs, xa, xc, lx⟩ = (if xk = 8 then 0 else match getK d xv with
   | none => if xk = 1 then 0 else 6
   | some x => if xk = 1 then 7 else if xk = 4 then (if (getK d xt).isSome then 7 else 0) else if xk = 5 then (if 4 * x.1 < xa + (lx.length / 64 : Nat) then 5 else 0)
    else if xk = 6 ∨ xk = 9 then (if 4 * x.1 < xa + xc then 5 else 0) else if xk = 7 then (if x.1 < xa + xc then 5 else 0) else 0) := by
   rw [errK, if_neg (by rw [hm]; simp)]; rfl
  rw [e0]
  clear e0
  have e64 : ((lx.length / 64 : Nat) : Int) = (xn : Int) / 64 := by rw [hxn]; omega
  rw [e64]
  clear e64
  rcases h9 with rfl | rfl | rfl | rfl | rfl | rfl | rfl | rfl | rfl
  ·cases hv : getK d xv with
   | none => exact refused_1_none xv xt xs xa xc xD xn xq lx hxn base D d w h hr hm hv
   | some x => exact refused_1_some xv xt xs xa xc xD xn xq lx hxn base D d w h hr hm x hv
  ·cases hv : getK d xv with
   | none => exact refused_2_none xv xt xs xa xc xD xn xq lx hxn base D d w h hr hm hv
   | some x => exact refused_2_some xv xt xs xa xc xD xn xq lx hxn base D d w h hr hm x hv
  ·cases hv : getK d xv with
   | none => exact refused_3_none xv xt xs xa xc xD xn xq lx hxn base D d w h hr hm hv
   | some x => exact refused_3_some xv xt xs xa xc xD xn xq lx hxn base D d w h hr hm x hv
  ·cases hv : getK d xv with
   | none => exact refused_4_none xv xt xs xa xc xD xn xq lx hxn base D d w h hr hm hv
   | some x =>
    cases ht : getK d xt with
    | none => exact refused_4_to0 xv xt xs xa xc xD xn xq lx hxn base D d w h hr hm x hv ht
    | some y => exact refused_4_to1 xv xt xs xa xc xD xn xq lx hxn base D d w h hr hm x hv y ht
  ·cases hv : getK d xv with
   | none => exact refused_5_none xv xt xs xa xc xD xn xq lx hxn base D d w h hr hm hv
   | some x =>
    by_cases hf : 4 * x.1 < xa + (xn : Int) / 64
    ·have := refused_5_over xv xt xs xa xc xD xn xq lx hxn base D d w h hr hm x hv hf
     simpa [hf] using this
    ·have := refused_5_fit xv xt xs xa xc xD xn xq lx hxn base D d w h hr hm x hv hf
     simpa [hf] using this
  ·cases hv : getK d xv with
   | none => exact refused_6_none xv xt xs xa xc xD xn xq lx hxn base D d w h hr hm hv
   | some x =>
    by_cases hf : 4 * x.1 < xa + xc
    ·have := refused_6_over xv xt xs xa xc xD xn xq lx hxn base D d w h hr hm x hv hf
     simpa [hf] using this
    ·have := refused_6_fit xv xt xs xa xc xD xn xq lx hxn base D d w h hr hm x hv hf
     simpa [hf] using this
  ·cases hv : getK d xv with
   | none => exact refused_7_none xv xt xs xa xc xD xn xq lx hxn base D d w h hr hm hv
   | some x =>
    by_cases hf : x.1 < xa + xc
    ·have := refused_7_over xv xt xs xa xc xD xn xq lx hxn base D d w h hr hm x hv hf
     simpa [hf] using this
    ·have := refused_7_fit xv xt xs xa xc xD xn xq lx hxn base D d w h hr hm x hv hf
     simpa [hf] using this
  ·cases hv : getK d xv with
   | none => exact refused_8_none xv xt xs xa xc xD xn xq lx hxn base D d w h hr hm hv
   | some x => exact refused_8_some xv xt xs xa xc xD xn xq lx hxn base D d w h hr hm x hv
  ·cases hv : getK d xv with
   | none => exact refused_9_none xv xt xs xa xc xD xn xq lx hxn base D d w h hr hm hv
   | some x =>
    by_cases hf : 4 * x.1 < xa + xc
    ·have := refused_9_over xv xt xs xa xc xD xn xq lx hxn base D d w h hr hm x hv hf
     simpa [hf] using this
    ·have := refused_9_fit xv xt xs xa xc xD xn xq lx hxn base D d w h hr hm x hv hf
     simpa [hf] using this
section
variable {P : Program} {ops : Array Oper} {md : Region.Mode} {W : World} {S : Type} {I : S → World → Prop}
def feT (P : Program) (md : Region.Mode) (ops : Array Oper) (W : World) (I : S → World → Prop) (n : Nat) (L : Array Bool → S → Act → Prop) : Nat → Array Bool → S → Act → Prop
 | 0, listed, s, a => L listed s a
 | f + 1, listed, s, a => Region.ready md ops listed ≠ [] ∧ ∀ i ∈ Region.ready md ops listed, i < n ∧ feOp P ops W I i (feT P md ops W I n L f (listed.setIfInBounds i true)) s a
theorem feT_any (G : Ghost W I) {n g : Nat} {L : Array Bool → S → Act → Prop} {Q' : Exit → Act → World → Prop} (hL : ∀ listed s a w, I s w → L listed s a → wpAny P md ops Q' g listed a w) :
  ∀ (f : Nat) (listed : Array Bool) (s : S) (a : Act) (w : World), I s w → feT P md ops W I n L f listed s a → wpAny P md ops Q' (f + g) listed a w
 | 0, listed, s, a, w, hw, h => by rw [Nat.zero_add]; exact hL _ _ _ _ hw h
 | f + 1, listed, s, a, w, hw, h => by
  rw [show f + 1 + g = (f + g) + 1 by omega]
  refine ⟨fun h0 => absurd h0 h.1, fun i hi => ?_⟩
  unfold wpOp
  rcases (h.2 i hi).2 with ⟨o, ho, v, hv, hk⟩ | ⟨o, ho, hg, hs⟩
  ·simp only [ho]
   rcases hv with ⟨hw1, hc⟩ | ⟨hw1, rfl⟩
   ·simp only [hw1, if_true]
    refine .inl ?_
    obtain ⟨gw, rfl⟩ := G.out _ _ hw
    have h3 := hc gw
    unfold calmAt at h3
    unfold Oper.wp
    generalize (execOp a.eval o).run P (grown W gw) = r at *
    cases r with
    | ok nx w' =>
     cases nx <;> simp only [calmUpon] at h3 <;> simp only [Oper.upon]
     case value u => obtain ⟨e1, e2⟩ := h3; rw [e1, e2]; exact feT_any G hL f _ _ _ _ hw hk
     case skip => obtain ⟨e1, e2⟩ := h3; rw [e1, ← e2]; exact feT_any G hL f _ _ _ _ hw hk
     case enter f' args =>
      obtain ⟨e1, hc'⟩ := h3
      rw [e1]
      exact hc'.mono fun e w'' ⟨he, hw''⟩ => by subst he; exact feT_any G hL f _ _ _ _ (G.grow _ _ _ hw hw'') hk
    | halt x w' => simp only [calmUpon] at h3
   ·simp only [hw1, Bool.false_eq_true, if_false]; exact feT_any G hL f _ _ _ _ hw hk
  ·simp only [ho, hg, if_true]
   refine .inl ?_
   have h3 := hs w hw
   unfold EffAt at h3
   unfold Oper.wp
   generalize (execOp a.eval o).run P w = r at *
   cases r with
   | ok nx w' =>
    cases nx <;> simp only [effUpon] at h3 <;> simp only [Oper.upon]
    case value u => obtain ⟨s', hi', hk⟩ := h3; exact feT_any G hL f _ _ _ _ hi' hk
    case skip => obtain ⟨s', hi', hk⟩ := h3; exact feT_any G hL f _ _ _ _ hi' hk
    case enter f' args => exact h3.mono fun e w'' ⟨v, he, s', hi', hk⟩ => by subst he; exact feT_any G hL f _ _ _ _ hi' hk
   | halt x w' => simp only [effUpon] at h3
theorem feT_first {n i : Nat} {oi : Oper} {v : Value} {L : Array Bool → S → Act → Prop} (hi : ops[i]? = some oi) (hsel : ∀ (j : Nat) (o : Oper) cs b, ops[j]? = some o → o.op ≠ .select cs b)
  (hs : Region.sinkB md ops n = true) (hc : Region.chainB md ops n = true) (hn : n < ops.size) (hin : i < n) (hdone : ∀ listed s a, L listed s a → ∀ j ∈ Region.ready md ops listed, n ≤ j) :
  ∀ (f : Nat) (listed : Array Bool) (s : S) (a : Act), HeadInv md ops n listed →
   (∀ j oj, ops[j]? = some oj → j ≠ i → listed.getD j true = false → (∀ e ∈ oj.after, Region.binds md e = true → e.on ≠ i) → oi.apart ops oj = true) →
   i ∈ Region.ready md ops listed → CalmOp P ops W oi v a →
   feT P md ops W I n L f (listed.setIfInBounds i true) s (a.put oi.dst v) → feT P md ops W I n L (f + 1) listed s a := by
 intro f
 induction f with
 | zero =>
  intro listed s a inv _ hr hy H
  refine ⟨(fun h => by rw [h] at hr; cases hr), fun j hj => ?_⟩
  have hjn : j < n := (Nat.lt_or_ge j n).elim id fun h => absurd hj (tail_waits hs hc hn inv _ i rfl hin (mem_ready.1 hr).1 j h)
  by_cases hji : j = i
  ·subst hji; exact ⟨hjn, .inl ⟨oi, hi, v, hy, H⟩⟩
  ·have := hdone _ _ _ H j (ready_mono hj hji)
   omega
 | succ f ih =>
  intro listed s a inv hfree hr hy H
  have hun := (mem_ready.1 hr).1
  refine ⟨(fun h => by rw [h] at hr; cases hr), fun j hj => ?_⟩
  have hjn : j < n := (Nat.lt_or_ge j n).elim id fun h => absurd hj (tail_waits hs hc hn inv _ i rfl hin hun j h)
  refine ⟨hjn, ?_⟩
  by_cases hji : j = i
  ·subst hji; exact .inl ⟨oi, hi, v, hy, H⟩
  have h1 := (H.2 j (ready_mono hj hji)).2
  obtain ⟨hjun, oj, hoj, hall⟩ := mem_ready.1 hj
  have hnot : ∀ e ∈ oj.after, Region.binds md e = true → e.on ≠ i := fun e he hb heq => by
   have h1 := hall e he hb
   rw [heq, getD_both hun] at h1
   cases h1
  have h2 := feOp_put hoj (hfree j oj hoj hji hjun hnot) (fun cs b => hsel i oi cs b hi) (fun cs b => hsel j oj cs b hoj) hy h1
  have hfree' : ∀ k ok, ops[k]? = some ok → k ≠ i → (listed.setIfInBounds j true).getD k true = false →
    (∀ e ∈ ok.after, Region.binds md e = true → e.on ≠ i) → oi.apart ops ok = true := fun k ok hk hki hu hno => by
   refine hfree k ok hk hki ?_ hno
   by_cases hjk : j = k
   ·subst hjk; exact hjun
   ·rw [getD_set_ne true hjk] at hu; exact hu
  refine feOp_mono (fun s' a' h3 => ih (listed.setIfInBounds j true) s' a' (inv.set hj hjn) hfree' (ready_mono hr (Ne.symm hji)) h3.1 ?_) h2
  rw [Array.setIfInBounds_comm _ _ hji]
  exact h3.2
end
section
variable {P : Program} {md : Region.Mode} {W : World} {S : Type} {I : S → World → Prop} {l : List Oper}
theorem feT_lex {n : Nat} {L : Array Bool → S → Act → Prop} (hsel : Region.noSelect l.toArray = true) (hs : Region.sinkB md l.toArray n = true) (hc : Region.chainB md l.toArray n = true) (hn : n < l.toArray.size) (hdone : ∀ listed s a, L listed s a → ∀ j ∈ Region.ready md l.toArray listed, n ≤ j) (m : Nat) :
  ∀ (qs : List Nat) (listed : Array Bool) (s : S) (a : Act), (∀ k ∈ qs, k < n) → HeadInv md l.toArray n listed → freeAll md l.toArray qs listed = true → wpCalm P l.toArray W (fun a' => feT P md l.toArray W I n L m (listAll qs listed) s a') (pick l qs) a →
   feT P md l.toArray W I n L (qs.length + m) listed s a
 | [], listed, s, a, _, inv, hB, h => by
  rw [List.length_nil, Nat.zero_add]
  exact h
 | k :: r, listed, s, a, hq, inv, hB, h => by
  simp only [freeAll, Bool.and_eq_true] at hB
  obtain ⟨⟨hr, hf⟩, hB'⟩ := hB
  have hr' : k ∈ Region.ready md l.toArray listed := by simpa using hr
  obtain ⟨_, o, ho, _⟩ := mem_ready.1 hr'
  have ho' : l[k]? = some o := by simpa using ho
  have hkn := hq k (.head _)
  rw [pick_cons ho'] at h
  rw [show (k :: r).length + m = (r.length + m) + 1 by simp; omega]
  have hq' : ∀ j ∈ r, j < n := fun j hj => hq j (.tail _ hj)
  unfold wpCalm at h
  by_cases hw : Region.wanted o (yielded l.toArray a.tmps) = true
  ·simp only [hw, if_true] at h
   obtain ⟨v, hv, hk⟩ := h
   exact feT_first ho (Region.noSelect_spec hsel) hs hc hn hkn hdone _ listed s a inv (Region.free_spec ho hf) hr' (.inl ⟨hw, hv⟩) (feT_lex hsel hs hc hn hdone m r _ _ _ hq' (inv.set hr' hkn) hB' hk)
  ·simp only [hw] at h
   exact feT_first ho (Region.noSelect_spec hsel) hs hc hn hkn hdone _ listed s a inv (Region.free_spec ho hf) hr' (.inr ⟨by simpa using hw, rfl⟩) (feT_lex hsel hs hc hn hdone m r _ _ _ hq' (inv.set hr' hkn) hB' h)
def treeTB (md : Region.Mode) (ops : Array Oper) (qs : List Nat) (m n : Nat) : Bool :=
 Region.noSelect ops && decide (n < ops.size) && Region.sinkB md ops n && Region.chainB md ops n && decide (qs.length + m = n) && qs.all (fun k => decide (k < n)) && freeAll md ops qs (Array.replicate ops.size false)
theorem wp_region_treeT {id : Nat} {Q : Exit → Act → World → Prop} {a : Act} {w : World} (G : Ghost W I) (s : S) (hw : I s w.drew) (qs : List Nat) (m n : Nat) (hm : P.follows .mixedOrders = true) (hB : treeTB .any l.toArray qs m n = true)
  (h : wpCalm P l.toArray W (fun a' => feT P .any l.toArray W I n (fun listed s a => Region.seqB .any l.toArray (l.toArray.size - n) n listed = true ∧ ∀ w', I s w' → wpList P l.toArray Q (l.drop n) a w') m (listAll qs (Array.replicate l.toArray.size false)) s a') (pick l qs) a) : (Code.region id l.toArray true).wp P Q a w := by
 simp only [treeTB, Bool.and_eq_true, decide_eq_true_eq] at hB
 obtain ⟨⟨⟨⟨⟨⟨hsel, hn⟩, hs⟩, hc⟩, hlen⟩, hall⟩, hfree⟩ := hB
 have hall' : ∀ k ∈ qs, k < n := fun k hk => by simpa using List.all_eq_true.1 hall k hk
 have hdl : (l.drop n).length = l.toArray.size - n := by simp
 have inv0 : HeadInv .any l.toArray n (Array.replicate l.toArray.size false) :=
  ⟨by simp, (fun j oj _ hl => by rw [getD_replicate_false] at hl; cases hl), fun t _ ht => getD_in (by simpa using ht) (getD_replicate_false _ _)⟩
 have H := feT_lex (md := .any) (P := P) (W := W) (I := I) hsel hs hc hn (fun listed s a hL => seqB_ready hL.1) m qs _ s a hall' inv0 hfree h
 refine wp_region_any hm ?_
 have := feT_any (Q' := Q) (g := l.toArray.size - n) G (fun listed s a' w' hw' hL => by
  have := wpAny_of_seq (md := .any) (Q' := Q) (l.drop n) n listed a' w' (fun j => by simp [List.getElem?_drop]) (by rw [hdl]; exact hL.1) (hL.2 w' hw')
  rwa [hdl] at this) _ _ _ _ _ hw H
 rw [hlen, show n + (l.toArray.size - n) = l.toArray.size by simp at hn ⊢; omega] at this
 exact this
theorem effAt_call' {o : Oper} {a : Act} {w : World} {R : Value → World → Prop} (f : FuncId) (args : Array Value) (he : (execOp a.eval o).run P w = .ok (.enter f args) w) (h : Calls P f args w (fun e w' => ∃ v, e = .returned v ∧ R v w')) : EffAt P o a w R := by
 unfold EffAt
 rw [he]
 exact h
section
variable {ops : Array Oper} {L : Array Bool → S → Act → Prop} {f n : Nat} {listed : Array Bool} {s : S} {a : Act}
theorem ft_one (i : Nat) (hr : Region.ready md ops listed = [i]) (hi : i < n) (h : feOp P ops W I i (feT P md ops W I n L f (listed.setIfInBounds i true)) s a) : feT P md ops W I n L (f + 1) listed s a :=
 ⟨fun h0 => by (rw [hr] at h0; cases h0), fun k hk => by (rw [hr] at hk; obtain rfl : k = i := by simpa using hk); exact ⟨hi, h⟩⟩
theorem ft_eff (i : Nat) {o : Oper} (hr : Region.ready md ops listed = [i]) (hi : i < n) (ho : ops[i]? = some o) (hg : o.guard = none) (h : ∀ w, I s w → EffAt P o a w (fun v w' => ∃ s', I s' w' ∧ feT P md ops W I n L f (listed.setIfInBounds i true) s' (a.put o.dst v))) : feT P md ops W I n L (f + 1) listed s a :=
 ft_one i hr hi (fe_eff o ho hg h)
theorem ft_calm (i : Nat) {o : Oper} (v : Value) (hr : Region.ready md ops listed = [i]) (hi : i < n) (ho : ops[i]? = some o) (hg : o.guard = none) (hc : ∀ g : Growth W, calmAt P o a (grown W g) v) (h : feT P md ops W I n L f (listed.setIfInBounds i true) s (a.put o.dst v)) : feT P md ops W I n L (f + 1) listed s a :=
 ft_one i hr hi (fe_calm o v ho hg hc h)
theorem ft_end (h : L listed s a) : feT P md ops W I n L 0 listed s a := h
end
end
end Go.Proofs.YtddckdhnolmjoaaGreat
