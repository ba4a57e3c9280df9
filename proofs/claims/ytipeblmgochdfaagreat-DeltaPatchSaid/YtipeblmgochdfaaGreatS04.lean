/- Device.refused, kinds 1 to 4. Conditions: the device, and what is read, stand in memory. Device.refused, kinds 5 to 9. Conditions: the device, and what is read, stand in memory. Device.refused. Conditions: the device, and what is read, stand in memory. -/
import Derived.Test.YtipeblmgochdfaaGreatS03
namespace Go.Proofs.YtipeblmgochdfaaGreat
open Go.RowKit
set_option linter.unusedVariables false
set_option linter.unusedSimpArgs false
set_option linter.unnecessarySimpa false
set_option maxRecDepth 100000
set_option maxHeartbeats 4000000 in
theorem refused_1_none (xv xt xs xa xc : Int) (xD : Option Addr) (xn xq : Nat) (lx : Byt) (hxn : lx.length = xn) (base D : Nat) (d : Dev) (w : World) (h : DevAt base w D d) (hr : Row bv w xD lx) (hm : OpM.may ⟨1, xv, xt, xs, xa, xc, lx⟩ = true) (hv : getK d xv = none)  :
  Calls Tryz.prog 90 #[.pointer (some ⟨D, 0, none⟩), (.agg #[.int .i64 1, .int .u64 xv, .int .u64 xt, .int .i64 xs, .int .i64 xa, .int .i64 xc, .slice xD xn xq])] w fun e w' => e = .returned (.int .i64 0) ∧ Gr w w' := by
 have hms := may_s hm
 have hm0 := hm
 obtain ⟨M, mb, h⟩ := h
 rw [OpM.may] at hm
 simp only at hm
 rw [hxn] at hm
 have c9 : lx.length ≤ 2048 := may_len hm0
 rw [hxn] at c9
 have HMay := Lib.hid (fun W (hW : Gr w W) => (hm ▸ mayOp_any 1 xv xt xs xa xc xD xn xq lx W hxn (by omega) (hr.gr hW) : Calls Tryz.prog 59 #[(.agg #[.int .i64 1, .int .u64 xv, .int .u64 xt, .int .i64 xs, .int .i64 xa, .int .i64 xc, .slice xD xn xq])] W fun e w' => e = .returned (.bool true) ∧ Gr W w'))
 have HT := Lib.hid (fun W (hW : Gr w W) => there_yes D M W (h.blk.gr hW))
 haveI := h.blk
 have x0 : w.cell? ⟨D, 0, none⟩ = some (.map (some M)) := (@block_cells _ _ 0 _ _ h.blk).trans rfl
 haveI : Old D w := h.blk.old
 have hlk := look_vol h xv _ hv
 simp only [volV, Option.isSome] at hlk
 clear hm hm0 hms hr h hv hxn
 go_enter Tryz.func90, Tryz.ntmps90
 go_wp2_with (first | (go_at_call 50; ((with_reducible refine (HT.out _ gri).mono ?_); rintro _ _ ⟨rfl, g1, rfl⟩)) | (go_at_call 59; ((with_reducible refine (HMay.out _ gri).mono ?_); rintro _ _ ⟨rfl, g2, rfl⟩)))
 refine wp_region_tree (mixw_ghost _) [] (mixw_nil _) [0, 1, 2, 3, 4, 5, 6, 7, 8, 9] 3 (by kernel_rfl) (by kernel_rfl) ?_
 simp only [pick, List.drop, List.take, List.nil_append, List.cons_append]
 repeat (refine wpCalm_step (fun K hK => ?_); go_simp; first | (refine hK _ ?_; clear hK K) | (apply Exists.intro; refine ⟨fun _ => ?_, hK _ ?_⟩; (fail); clear hK K))
 refine wpCalm_nil ?_
 refine fe_mixAlloc 10 (by kernel_rfl) rfl rfl rfl Tryz.zeroValue115 fun b5_0 hb5_0 nb5_0 => ?_
 simp only [Act.put, List.setIfInBounds_toArray, List.set]
 refine fe_mixStore 11 [(b5_0, #[.int .i64 0, .map none], 115)] #[.int .i64 0, .map none] (by kernel_rfl) rfl rfl rfl rfl List.mem_cons_self hb5_0 rfl rfl rfl rfl (fun z hz => .inl (by simpa using hz)) ?_
 simp only [Act.put, List.setIfInBounds_toArray, List.set]
 refine fe_mixCalm 12 _ (by kernel_rfl) rfl rfl (fun g => calm_assign g rfl) ?_
 simp only [Act.put, List.setIfInBounds_toArray, List.set]
 refine fe_end (by kernel_rfl) ?_
 intro w1 hw1
 have cb5_0 : ∀ o, w1.cell? ⟨b5_0, o, none⟩ = (#[.int .i64 0, .map none] : Array Value)[o]? := mix_cell hw1 List.mem_cons_self
 have fb5_0 : ∀ o, w1.frozen? ⟨b5_0, o, none⟩ = false := mix_frozen hw1 List.mem_cons_self
 have ob5_0 : Old b5_0 w1 := mix_old hw1 List.mem_cons_self
 have qb5_0 := @fresh_ne _ _ hb5_0
 have rb5_0 := @fresh_en _ _ hb5_0
 have lb5_0 := fresh_le hb5_0 w.heap.size
 obtain ⟨⟨g5, rfl⟩, hbs⟩ := hw1
 clear hbs nb5_0
 go_wp2_with ((go_at_call 116; ((with_reducible refine (part_1 _ _ _ _ _ _ _ _ (by omega) _).mono ?_); rintro _ _ ⟨rfl, g3, rfl⟩)))
 go_ret
 exact ⟨rfl, gri⟩
set_option maxHeartbeats 4000000 in
theorem refused_1_some (xv xt xs xa xc : Int) (xD : Option Addr) (xn xq : Nat) (lx : Byt) (hxn : lx.length = xn) (base D : Nat) (d : Dev) (w : World) (h : DevAt base w D d) (hr : Row bv w xD lx) (hm : OpM.may ⟨1, xv, xt, xs, xa, xc, lx⟩ = true) (x : VolM) (hv : getK d xv = some x)  :
  Calls Tryz.prog 90 #[.pointer (some ⟨D, 0, none⟩), (.agg #[.int .i64 1, .int .u64 xv, .int .u64 xt, .int .i64 xs, .int .i64 xa, .int .i64 xc, .slice xD xn xq])] w fun e w' => e = .returned (.int .i64 7) ∧ Gr w w' := by
 have hms := may_s hm
 have hm0 := hm
 obtain ⟨M, mb, h⟩ := h
 have hxo := h.ok.vols _ ((getK_mem h.ok.sort).1 hv)
 have b1 := hxo.s0
 have b2 := hxo.s1
 clear hxo
 rw [OpM.may] at hm
 simp only at hm
 rw [hxn] at hm
 have c9 : lx.length ≤ 2048 := may_len hm0
 rw [hxn] at c9
 have HMay := Lib.hid (fun W (hW : Gr w W) => (hm ▸ mayOp_any 1 xv xt xs xa xc xD xn xq lx W hxn (by omega) (hr.gr hW) : Calls Tryz.prog 59 #[(.agg #[.int .i64 1, .int .u64 xv, .int .u64 xt, .int .i64 xs, .int .i64 xa, .int .i64 xc, .slice xD xn xq])] W fun e w' => e = .returned (.bool true) ∧ Gr W w'))
 have HT := Lib.hid (fun W (hW : Gr w W) => there_yes D M W (h.blk.gr hW))
 haveI := h.blk
 have x0 : w.cell? ⟨D, 0, none⟩ = some (.map (some M)) := (@block_cells _ _ 0 _ _ h.blk).trans rfl
 haveI : Old D w := h.blk.old
 have hlk := look_vol h xv _ hv
 simp only [volV, Option.isSome] at hlk
 clear hm hm0 hms hr h hv hxn
 obtain ⟨x1, xm⟩ := x
 simp only at b1 b2
 go_enter Tryz.func90, Tryz.ntmps90
 go_wp2_with (first | (go_at_call 50; ((with_reducible refine (HT.out _ gri).mono ?_); rintro _ _ ⟨rfl, g1, rfl⟩)) | (go_at_call 59; ((with_reducible refine (HMay.out _ gri).mono ?_); rintro _ _ ⟨rfl, g2, rfl⟩)))
 refine wp_region_tree (mixw_ghost _) [] (mixw_nil _) [0, 1, 2, 3, 4, 5, 6, 7, 8, 9] 3 (by kernel_rfl) (by kernel_rfl) ?_
 simp only [pick, List.drop, List.take, List.nil_append, List.cons_append]
 repeat (refine wpCalm_step (fun K hK => ?_); go_simp; first | (refine hK _ ?_; clear hK K) | (apply Exists.intro; refine ⟨fun _ => ?_, hK _ ?_⟩; (fail); clear hK K))
 refine wpCalm_nil ?_
 refine fe_mixAlloc 10 (by kernel_rfl) rfl rfl rfl Tryz.zeroValue115 fun b5_0 hb5_0 nb5_0 => ?_
 simp only [Act.put, List.setIfInBounds_toArray, List.set]
 refine fe_mixStore 11 [(b5_0, #[.int .i64 x1, .map (some (mb xv))], 115)] #[.int .i64 x1, .map (some (mb xv))] (by kernel_rfl) rfl rfl rfl rfl List.mem_cons_self hb5_0 rfl rfl rfl rfl (fun z hz => .inl (by simpa using hz)) ?_
 simp only [Act.put, List.setIfInBounds_toArray, List.set]
 refine fe_mixCalm 12 _ (by kernel_rfl) rfl rfl (fun g => calm_assign g rfl) ?_
 simp only [Act.put, List.setIfInBounds_toArray, List.set]
 refine fe_end (by kernel_rfl) ?_
 intro w1 hw1
 have cb5_0 : ∀ o, w1.cell? ⟨b5_0, o, none⟩ = (#[.int .i64 x1, .map (some (mb xv))] : Array Value)[o]? := mix_cell hw1 List.mem_cons_self
 have fb5_0 : ∀ o, w1.frozen? ⟨b5_0, o, none⟩ = false := mix_frozen hw1 List.mem_cons_self
 have ob5_0 : Old b5_0 w1 := mix_old hw1 List.mem_cons_self
 have qb5_0 := @fresh_ne _ _ hb5_0
 have rb5_0 := @fresh_en _ _ hb5_0
 have lb5_0 := fresh_le hb5_0 w.heap.size
 obtain ⟨⟨g5, rfl⟩, hbs⟩ := hw1
 clear hbs nb5_0
 go_wp2_with ((go_at_call 116; ((with_reducible refine (part_1 _ _ _ _ _ _ _ _ (by omega) _).mono ?_); rintro _ _ ⟨rfl, g3, rfl⟩)))
 go_ret
 exact ⟨rfl, gri⟩
set_option maxHeartbeats 4000000 in
theorem refused_2_none (xv xt xs xa xc : Int) (xD : Option Addr) (xn xq : Nat) (lx : Byt) (hxn : lx.length = xn) (base D : Nat) (d : Dev) (w : World) (h : DevAt base w D d) (hr : Row bv w xD lx) (hm : OpM.may ⟨2, xv, xt, xs, xa, xc, lx⟩ = true) (hv : getK d xv = none)  :
  Calls Tryz.prog 90 #[.pointer (some ⟨D, 0, none⟩), (.agg #[.int .i64 2, .int .u64 xv, .int .u64 xt, .int .i64 xs, .int .i64 xa, .int .i64 xc, .slice xD xn xq])] w fun e w' => e = .returned (.int .i64 6) ∧ Gr w w' := by
 have hms := may_s hm
 have hm0 := hm
 obtain ⟨M, mb, h⟩ := h
 rw [OpM.may] at hm
 simp only at hm
 rw [hxn] at hm
 have c9 : lx.length ≤ 2048 := may_len hm0
 rw [hxn] at c9
 have HMay := Lib.hid (fun W (hW : Gr w W) => (hm ▸ mayOp_any 2 xv xt xs xa xc xD xn xq lx W hxn (by omega) (hr.gr hW) : Calls Tryz.prog 59 #[(.agg #[.int .i64 2, .int .u64 xv, .int .u64 xt, .int .i64 xs, .int .i64 xa, .int .i64 xc, .slice xD xn xq])] W fun e w' => e = .returned (.bool true) ∧ Gr W w'))
 have HT := Lib.hid (fun W (hW : Gr w W) => there_yes D M W (h.blk.gr hW))
 haveI := h.blk
 have x0 : w.cell? ⟨D, 0, none⟩ = some (.map (some M)) := (@block_cells _ _ 0 _ _ h.blk).trans rfl
 haveI : Old D w := h.blk.old
 have hlk := look_vol h xv _ hv
 simp only [volV, Option.isSome] at hlk
 clear hm hm0 hms hr h hv hxn
 go_enter Tryz.func90, Tryz.ntmps90
 go_wp2_with (first | (go_at_call 50; ((with_reducible refine (HT.out _ gri).mono ?_); rintro _ _ ⟨rfl, g1, rfl⟩)) | (go_at_call 59; ((with_reducible refine (HMay.out _ gri).mono ?_); rintro _ _ ⟨rfl, g2, rfl⟩)))
 refine wp_region_tree (mixw_ghost _) [] (mixw_nil _) [0, 1, 2, 3, 4, 5, 6, 7, 8, 9] 3 (by kernel_rfl) (by kernel_rfl) ?_
 simp only [pick, List.drop, List.take, List.nil_append, List.cons_append]
 repeat (refine wpCalm_step (fun K hK => ?_); go_simp; first | (refine hK _ ?_; clear hK K) | (apply Exists.intro; refine ⟨fun _ => ?_, hK _ ?_⟩; (fail); clear hK K))
 refine wpCalm_nil ?_
 refine fe_mixAlloc 10 (by kernel_rfl) rfl rfl rfl Tryz.zeroValue115 fun b5_0 hb5_0 nb5_0 => ?_
 simp only [Act.put, List.setIfInBounds_toArray, List.set]
 refine fe_mixStore 11 [(b5_0, #[.int .i64 0, .map none], 115)] #[.int .i64 0, .map none] (by kernel_rfl) rfl rfl rfl rfl List.mem_cons_self hb5_0 rfl rfl rfl rfl (fun z hz => .inl (by simpa using hz)) ?_
 simp only [Act.put, List.setIfInBounds_toArray, List.set]
 refine fe_mixCalm 12 _ (by kernel_rfl) rfl rfl (fun g => calm_assign g rfl) ?_
 simp only [Act.put, List.setIfInBounds_toArray, List.set]
 refine fe_end (by kernel_rfl) ?_
 intro w1 hw1
 have cb5_0 : ∀ o, w1.cell? ⟨b5_0, o, none⟩ = (#[.int .i64 0, .map none] : Array Value)[o]? := mix_cell hw1 List.mem_cons_self
 have fb5_0 : ∀ o, w1.frozen? ⟨b5_0, o, none⟩ = false := mix_frozen hw1 List.mem_cons_self
 have ob5_0 : Old b5_0 w1 := mix_old hw1 List.mem_cons_self
 have qb5_0 := @fresh_ne _ _ hb5_0
 have rb5_0 := @fresh_en _ _ hb5_0
 have lb5_0 := fresh_le hb5_0 w.heap.size
 obtain ⟨⟨g5, rfl⟩, hbs⟩ := hw1
 clear hbs nb5_0
 go_wp2_with ((go_at_call 116; ((with_reducible refine (part_2 _ _ _ _ _ _ _ _ (by omega) _).mono ?_); rintro _ _ ⟨rfl, g3, rfl⟩)))
 go_ret
 exact ⟨rfl, gri⟩
set_option maxHeartbeats 4000000 in
theorem refused_2_some (xv xt xs xa xc : Int) (xD : Option Addr) (xn xq : Nat) (lx : Byt) (hxn : lx.length = xn) (base D : Nat) (d : Dev) (w : World) (h : DevAt base w D d) (hr : Row bv w xD lx) (hm : OpM.may ⟨2, xv, xt, xs, xa, xc, lx⟩ = true) (x : VolM) (hv : getK d xv = some x)  :
  Calls Tryz.prog 90 #[.pointer (some ⟨D, 0, none⟩), (.agg #[.int .i64 2, .int .u64 xv, .int .u64 xt, .int .i64 xs, .int .i64 xa, .int .i64 xc, .slice xD xn xq])] w fun e w' => e = .returned (.int .i64 0) ∧ Gr w w' := by
 have hms := may_s hm
 have hm0 := hm
 obtain ⟨M, mb, h⟩ := h
 have hxo := h.ok.vols _ ((getK_mem h.ok.sort).1 hv)
 have b1 := hxo.s0
 have b2 := hxo.s1
 clear hxo
 rw [OpM.may] at hm
 simp only at hm
 rw [hxn] at hm
 have c9 : lx.length ≤ 2048 := may_len hm0
 rw [hxn] at c9
 have HMay := Lib.hid (fun W (hW : Gr w W) => (hm ▸ mayOp_any 2 xv xt xs xa xc xD xn xq lx W hxn (by omega) (hr.gr hW) : Calls Tryz.prog 59 #[(.agg #[.int .i64 2, .int .u64 xv, .int .u64 xt, .int .i64 xs, .int .i64 xa, .int .i64 xc, .slice xD xn xq])] W fun e w' => e = .returned (.bool true) ∧ Gr W w'))
 have HT := Lib.hid (fun W (hW : Gr w W) => there_yes D M W (h.blk.gr hW))
 haveI := h.blk
 have x0 : w.cell? ⟨D, 0, none⟩ = some (.map (some M)) := (@block_cells _ _ 0 _ _ h.blk).trans rfl
 haveI : Old D w := h.blk.old
 have hlk := look_vol h xv _ hv
 simp only [volV, Option.isSome] at hlk
 clear hm hm0 hms hr h hv hxn
 obtain ⟨x1, xm⟩ := x
 simp only at b1 b2
 go_enter Tryz.func90, Tryz.ntmps90
 go_wp2_with (first | (go_at_call 50; ((with_reducible refine (HT.out _ gri).mono ?_); rintro _ _ ⟨rfl, g1, rfl⟩)) | (go_at_call 59; ((with_reducible refine (HMay.out _ gri).mono ?_); rintro _ _ ⟨rfl, g2, rfl⟩)))
 refine wp_region_tree (mixw_ghost _) [] (mixw_nil _) [0, 1, 2, 3, 4, 5, 6, 7, 8, 9] 3 (by kernel_rfl) (by kernel_rfl) ?_
 simp only [pick, List.drop, List.take, List.nil_append, List.cons_append]
 repeat (refine wpCalm_step (fun K hK => ?_); go_simp; first | (refine hK _ ?_; clear hK K) | (apply Exists.intro; refine ⟨fun _ => ?_, hK _ ?_⟩; (fail); clear hK K))
 refine wpCalm_nil ?_
 refine fe_mixAlloc 10 (by kernel_rfl) rfl rfl rfl Tryz.zeroValue115 fun b5_0 hb5_0 nb5_0 => ?_
 simp only [Act.put, List.setIfInBounds_toArray, List.set]
 refine fe_mixStore 11 [(b5_0, #[.int .i64 x1, .map (some (mb xv))], 115)] #[.int .i64 x1, .map (some (mb xv))] (by kernel_rfl) rfl rfl rfl rfl List.mem_cons_self hb5_0 rfl rfl rfl rfl (fun z hz => .inl (by simpa using hz)) ?_
 simp only [Act.put, List.setIfInBounds_toArray, List.set]
 refine fe_mixCalm 12 _ (by kernel_rfl) rfl rfl (fun g => calm_assign g rfl) ?_
 simp only [Act.put, List.setIfInBounds_toArray, List.set]
 refine fe_end (by kernel_rfl) ?_
 intro w1 hw1
 have cb5_0 : ∀ o, w1.cell? ⟨b5_0, o, none⟩ = (#[.int .i64 x1, .map (some (mb xv))] : Array Value)[o]? := mix_cell hw1 List.mem_cons_self
 have fb5_0 : ∀ o, w1.frozen? ⟨b5_0, o, none⟩ = false := mix_frozen hw1 List.mem_cons_self
 have ob5_0 : Old b5_0 w1 := mix_old hw1 List.mem_cons_self
 have qb5_0 := @fresh_ne _ _ hb5_0
 have rb5_0 := @fresh_en _ _ hb5_0
 have lb5_0 := fresh_le hb5_0 w.heap.size
 obtain ⟨⟨g5, rfl⟩, hbs⟩ := hw1
 clear hbs nb5_0
 go_wp2_with ((go_at_call 116; ((with_reducible refine (part_2 _ _ _ _ _ _ _ _ (by omega) _).mono ?_); rintro _ _ ⟨rfl, g3, rfl⟩)))
 go_ret
 exact ⟨rfl, gri⟩
set_option maxHeartbeats 4000000 in
theorem refused_3_none (xv xt xs xa xc : Int) (xD : Option Addr) (xn xq : Nat) (lx : Byt) (hxn : lx.length = xn) (base D : Nat) (d : Dev) (w : World) (h : DevAt base w D d) (hr : Row bv w xD lx) (hm : OpM.may ⟨3, xv, xt, xs, xa, xc, lx⟩ = true) (hv : getK d xv = none)  :
  Calls Tryz.prog 90 #[.pointer (some ⟨D, 0, none⟩), (.agg #[.int .i64 3, .int .u64 xv, .int .u64 xt, .int .i64 xs, .int .i64 xa, .int .i64 xc, .slice xD xn xq])] w fun e w' => e = .returned (.int .i64 6) ∧ Gr w w' := by
 have hms := may_s hm
 have hm0 := hm
 obtain ⟨M, mb, h⟩ := h
 rw [OpM.may] at hm
 simp only at hm
 rw [hxn] at hm
 have c9 : lx.length ≤ 2048 := may_len hm0
 rw [hxn] at c9
 have HMay := Lib.hid (fun W (hW : Gr w W) => (hm ▸ mayOp_any 3 xv xt xs xa xc xD xn xq lx W hxn (by omega) (hr.gr hW) : Calls Tryz.prog 59 #[(.agg #[.int .i64 3, .int .u64 xv, .int .u64 xt, .int .i64 xs, .int .i64 xa, .int .i64 xc, .slice xD xn xq])] W fun e w' => e = .returned (.bool true) ∧ Gr W w'))
 have HT := Lib.hid (fun W (hW : Gr w W) => there_yes D M W (h.blk.gr hW))
 haveI := h.blk
 have x0 : w.cell? ⟨D, 0, none⟩ = some (.map (some M)) := (@block_cells _ _ 0 _ _ h.blk).trans rfl
 haveI : Old D w := h.blk.old
 have hlk := look_vol h xv _ hv
 simp only [volV, Option.isSome] at hlk
 clear hm hm0 hms hr h hv hxn
 go_enter Tryz.func90, Tryz.ntmps90
 go_wp2_with (first | (go_at_call 50; ((with_reducible refine (HT.out _ gri).mono ?_); rintro _ _ ⟨rfl, g1, rfl⟩)) | (go_at_call 59; ((with_reducible refine (HMay.out _ gri).mono ?_); rintro _ _ ⟨rfl, g2, rfl⟩)))
 refine wp_region_tree (mixw_ghost _) [] (mixw_nil _) [0, 1, 2, 3, 4, 5, 6, 7, 8, 9] 3 (by kernel_rfl) (by kernel_rfl) ?_
 simp only [pick, List.drop, List.take, List.nil_append, List.cons_append]
 repeat (refine wpCalm_step (fun K hK => ?_); go_simp; first | (refine hK _ ?_; clear hK K) | (apply Exists.intro; refine ⟨fun _ => ?_, hK _ ?_⟩; (fail); clear hK K))
 refine wpCalm_nil ?_
 refine fe_mixAlloc 10 (by kernel_rfl) rfl rfl rfl Tryz.zeroValue115 fun b5_0 hb5_0 nb5_0 => ?_
 simp only [Act.put, List.setIfInBounds_toArray, List.set]
 refine fe_mixStore 11 [(b5_0, #[.int .i64 0, .map none], 115)] #[.int .i64 0, .map none] (by kernel_rfl) rfl rfl rfl rfl List.mem_cons_self hb5_0 rfl rfl rfl rfl (fun z hz => .inl (by simpa using hz)) ?_
 simp only [Act.put, List.setIfInBounds_toArray, List.set]
 refine fe_mixCalm 12 _ (by kernel_rfl) rfl rfl (fun g => calm_assign g rfl) ?_
 simp only [Act.put, List.setIfInBounds_toArray, List.set]
 refine fe_end (by kernel_rfl) ?_
 intro w1 hw1
 have cb5_0 : ∀ o, w1.cell? ⟨b5_0, o, none⟩ = (#[.int .i64 0, .map none] : Array Value)[o]? := mix_cell hw1 List.mem_cons_self
 have fb5_0 : ∀ o, w1.frozen? ⟨b5_0, o, none⟩ = false := mix_frozen hw1 List.mem_cons_self
 have ob5_0 : Old b5_0 w1 := mix_old hw1 List.mem_cons_self
 have qb5_0 := @fresh_ne _ _ hb5_0
 have rb5_0 := @fresh_en _ _ hb5_0
 have lb5_0 := fresh_le hb5_0 w.heap.size
 obtain ⟨⟨g5, rfl⟩, hbs⟩ := hw1
 clear hbs nb5_0
 go_wp2_with ((go_at_call 116; ((with_reducible refine (part_3 _ _ _ _ _ _ _ _ (by omega) _).mono ?_); rintro _ _ ⟨rfl, g3, rfl⟩)))
 go_ret
 exact ⟨rfl, gri⟩
set_option maxHeartbeats 4000000 in
theorem refused_3_some (xv xt xs xa xc : Int) (xD : Option Addr) (xn xq : Nat) (lx : Byt) (hxn : lx.length = xn) (base D : Nat) (d : Dev) (w : World) (h : DevAt base w D d) (hr : Row bv w xD lx) (hm : OpM.may ⟨3, xv, xt, xs, xa, xc, lx⟩ = true) (x : VolM) (hv : getK d xv = some x)  :
  Calls Tryz.prog 90 #[.pointer (some ⟨D, 0, none⟩), (.agg #[.int .i64 3, .int .u64 xv, .int .u64 xt, .int .i64 xs, .int .i64 xa, .int .i64 xc, .slice xD xn xq])] w fun e w' => e = .returned (.int .i64 0) ∧ Gr w w' := by
 have hms := may_s hm
 have hm0 := hm
 obtain ⟨M, mb, h⟩ := h
 have hxo := h.ok.vols _ ((getK_mem h.ok.sort).1 hv)
 have b1 := hxo.s0
 have b2 := hxo.s1
 clear hxo
 rw [OpM.may] at hm
 simp only at hm
 rw [hxn] at hm
 have c9 : lx.length ≤ 2048 := may_len hm0
 rw [hxn] at c9
 have HMay := Lib.hid (fun W (hW : Gr w W) => (hm ▸ mayOp_any 3 xv xt xs xa xc xD xn xq lx W hxn (by omega) (hr.gr hW) : Calls Tryz.prog 59 #[(.agg #[.int .i64 3, .int .u64 xv, .int .u64 xt, .int .i64 xs, .int .i64 xa, .int .i64 xc, .slice xD xn xq])] W fun e w' => e = .returned (.bool true) ∧ Gr W w'))
 have HT := Lib.hid (fun W (hW : Gr w W) => there_yes D M W (h.blk.gr hW))
 haveI := h.blk
 have x0 : w.cell? ⟨D, 0, none⟩ = some (.map (some M)) := (@block_cells _ _ 0 _ _ h.blk).trans rfl
 haveI : Old D w := h.blk.old
 have hlk := look_vol h xv _ hv
 simp only [volV, Option.isSome] at hlk
 clear hm hm0 hms hr h hv hxn
 obtain ⟨x1, xm⟩ := x
 simp only at b1 b2
 go_enter Tryz.func90, Tryz.ntmps90
 go_wp2_with (first | (go_at_call 50; ((with_reducible refine (HT.out _ gri).mono ?_); rintro _ _ ⟨rfl, g1, rfl⟩)) | (go_at_call 59; ((with_reducible refine (HMay.out _ gri).mono ?_); rintro _ _ ⟨rfl, g2, rfl⟩)))
 refine wp_region_tree (mixw_ghost _) [] (mixw_nil _) [0, 1, 2, 3, 4, 5, 6, 7, 8, 9] 3 (by kernel_rfl) (by kernel_rfl) ?_
 simp only [pick, List.drop, List.take, List.nil_append, List.cons_append]
 repeat (refine wpCalm_step (fun K hK => ?_); go_simp; first | (refine hK _ ?_; clear hK K) | (apply Exists.intro; refine ⟨fun _ => ?_, hK _ ?_⟩; (fail); clear hK K))
 refine wpCalm_nil ?_
 refine fe_mixAlloc 10 (by kernel_rfl) rfl rfl rfl Tryz.zeroValue115 fun b5_0 hb5_0 nb5_0 => ?_
 simp only [Act.put, List.setIfInBounds_toArray, List.set]
 refine fe_mixStore 11 [(b5_0, #[.int .i64 x1, .map (some (mb xv))], 115)] #[.int .i64 x1, .map (some (mb xv))] (by kernel_rfl) rfl rfl rfl rfl List.mem_cons_self hb5_0 rfl rfl rfl rfl (fun z hz => .inl (by simpa using hz)) ?_
 simp only [Act.put, List.setIfInBounds_toArray, List.set]
 refine fe_mixCalm 12 _ (by kernel_rfl) rfl rfl (fun g => calm_assign g rfl) ?_
 simp only [Act.put, List.setIfInBounds_toArray, List.set]
 refine fe_end (by kernel_rfl) ?_
 intro w1 hw1
 have cb5_0 : ∀ o, w1.cell? ⟨b5_0, o, none⟩ = (#[.int .i64 x1, .map (some (mb xv))] : Array Value)[o]? := mix_cell hw1 List.mem_cons_self
 have fb5_0 : ∀ o, w1.frozen? ⟨b5_0, o, none⟩ = false := mix_frozen hw1 List.mem_cons_self
 have ob5_0 : Old b5_0 w1 := mix_old hw1 List.mem_cons_self
 have qb5_0 := @fresh_ne _ _ hb5_0
 have rb5_0 := @fresh_en _ _ hb5_0
 have lb5_0 := fresh_le hb5_0 w.heap.size
 obtain ⟨⟨g5, rfl⟩, hbs⟩ := hw1
 clear hbs nb5_0
 go_wp2_with ((go_at_call 116; ((with_reducible refine (part_3 _ _ _ _ _ _ _ _ (by omega) _).mono ?_); rintro _ _ ⟨rfl, g3, rfl⟩)))
 go_ret
 exact ⟨rfl, gri⟩
set_option maxHeartbeats 4000000 in
theorem refused_4_none (xv xt xs xa xc : Int) (xD : Option Addr) (xn xq : Nat) (lx : Byt) (hxn : lx.length = xn) (base D : Nat) (d : Dev) (w : World) (h : DevAt base w D d) (hr : Row bv w xD lx) (hm : OpM.may ⟨4, xv, xt, xs, xa, xc, lx⟩ = true) (hv : getK d xv = none)  :
  Calls Tryz.prog 90 #[.pointer (some ⟨D, 0, none⟩), (.agg #[.int .i64 4, .int .u64 xv, .int .u64 xt, .int .i64 xs, .int .i64 xa, .int .i64 xc, .slice xD xn xq])] w fun e w' => e = .returned (.int .i64 6) ∧ Gr w w' := by
 have hms := may_s hm
 have hm0 := hm
 obtain ⟨M, mb, h⟩ := h
 rw [OpM.may] at hm
 simp only at hm
 rw [hxn] at hm
 have c9 : lx.length ≤ 2048 := may_len hm0
 rw [hxn] at c9
 have HMay := Lib.hid (fun W (hW : Gr w W) => (hm ▸ mayOp_any 4 xv xt xs xa xc xD xn xq lx W hxn (by omega) (hr.gr hW) : Calls Tryz.prog 59 #[(.agg #[.int .i64 4, .int .u64 xv, .int .u64 xt, .int .i64 xs, .int .i64 xa, .int .i64 xc, .slice xD xn xq])] W fun e w' => e = .returned (.bool true) ∧ Gr W w'))
 have HT := Lib.hid (fun W (hW : Gr w W) => there_yes D M W (h.blk.gr hW))
 haveI := h.blk
 have x0 : w.cell? ⟨D, 0, none⟩ = some (.map (some M)) := (@block_cells _ _ 0 _ _ h.blk).trans rfl
 haveI : Old D w := h.blk.old
 have hlk := look_vol h xv _ hv
 simp only [volV, Option.isSome] at hlk
 clear hm hm0 hms hr h hv hxn
 go_enter Tryz.func90, Tryz.ntmps90
 go_wp2_with (first | (go_at_call 50; ((with_reducible refine (HT.out _ gri).mono ?_); rintro _ _ ⟨rfl, g1, rfl⟩)) | (go_at_call 59; ((with_reducible refine (HMay.out _ gri).mono ?_); rintro _ _ ⟨rfl, g2, rfl⟩)))
 refine wp_region_tree (mixw_ghost _) [] (mixw_nil _) [0, 1, 2, 3, 4, 5, 6, 7, 8, 9] 3 (by kernel_rfl) (by kernel_rfl) ?_
 simp only [pick, List.drop, List.take, List.nil_append, List.cons_append]
 repeat (refine wpCalm_step (fun K hK => ?_); go_simp; first | (refine hK _ ?_; clear hK K) | (apply Exists.intro; refine ⟨fun _ => ?_, hK _ ?_⟩; (fail); clear hK K))
 refine wpCalm_nil ?_
 refine fe_mixAlloc 10 (by kernel_rfl) rfl rfl rfl Tryz.zeroValue115 fun b5_0 hb5_0 nb5_0 => ?_
 simp only [Act.put, List.setIfInBounds_toArray, List.set]
 refine fe_mixStore 11 [(b5_0, #[.int .i64 0, .map none], 115)] #[.int .i64 0, .map none] (by kernel_rfl) rfl rfl rfl rfl List.mem_cons_self hb5_0 rfl rfl rfl rfl (fun z hz => .inl (by simpa using hz)) ?_
 simp only [Act.put, List.setIfInBounds_toArray, List.set]
 refine fe_mixCalm 12 _ (by kernel_rfl) rfl rfl (fun g => calm_assign g rfl) ?_
 simp only [Act.put, List.setIfInBounds_toArray, List.set]
 refine fe_end (by kernel_rfl) ?_
 intro w1 hw1
 have cb5_0 : ∀ o, w1.cell? ⟨b5_0, o, none⟩ = (#[.int .i64 0, .map none] : Array Value)[o]? := mix_cell hw1 List.mem_cons_self
 have fb5_0 : ∀ o, w1.frozen? ⟨b5_0, o, none⟩ = false := mix_frozen hw1 List.mem_cons_self
 have ob5_0 : Old b5_0 w1 := mix_old hw1 List.mem_cons_self
 have qb5_0 := @fresh_ne _ _ hb5_0
 have rb5_0 := @fresh_en _ _ hb5_0
 have lb5_0 := fresh_le hb5_0 w.heap.size
 obtain ⟨⟨g5, rfl⟩, hbs⟩ := hw1
 clear hbs nb5_0
 go_wp2_with ((go_at_call 116; ((with_reducible refine (part_4 _ _ _ _ _ _ _ _ (by omega) _).mono ?_); rintro _ _ ⟨rfl, g3, rfl⟩)))
 go_ret
 exact ⟨rfl, gri⟩
set_option maxHeartbeats 4000000 in
theorem refused_4_to0 (xv xt xs xa xc : Int) (xD : Option Addr) (xn xq : Nat) (lx : Byt) (hxn : lx.length = xn) (base D : Nat) (d : Dev) (w : World) (h : DevAt base w D d) (hr : Row bv w xD lx) (hm : OpM.may ⟨4, xv, xt, xs, xa, xc, lx⟩ = true) (x : VolM) (hv : getK d xv = some x) (ht : getK d xt = none) :
  Calls Tryz.prog 90 #[.pointer (some ⟨D, 0, none⟩), (.agg #[.int .i64 4, .int .u64 xv, .int .u64 xt, .int .i64 xs, .int .i64 xa, .int .i64 xc, .slice xD xn xq])] w fun e w' => e = .returned (.int .i64 0) ∧ Gr w w' := by
 have hms := may_s hm
 have hm0 := hm
 obtain ⟨M, mb, h⟩ := h
 have hxo := h.ok.vols _ ((getK_mem h.ok.sort).1 hv)
 have b1 := hxo.s0
 have b2 := hxo.s1
 clear hxo
 rw [OpM.may] at hm
 simp only at hm
 rw [hxn] at hm
 have c9 : lx.length ≤ 2048 := may_len hm0
 rw [hxn] at c9
 have HMay := Lib.hid (fun W (hW : Gr w W) => (hm ▸ mayOp_any 4 xv xt xs xa xc xD xn xq lx W hxn (by omega) (hr.gr hW) : Calls Tryz.prog 59 #[(.agg #[.int .i64 4, .int .u64 xv, .int .u64 xt, .int .i64 xs, .int .i64 xa, .int .i64 xc, .slice xD xn xq])] W fun e w' => e = .returned (.bool true) ∧ Gr W w'))
 have HT := Lib.hid (fun W (hW : Gr w W) => there_yes D M W (h.blk.gr hW))
 haveI := h.blk
 have x0 : w.cell? ⟨D, 0, none⟩ = some (.map (some M)) := (@block_cells _ _ 0 _ _ h.blk).trans rfl
 haveI : Old D w := h.blk.old
 have hlk := look_vol h xv _ hv
 have hlt := look_vol h xt _ ht
 simp only [volV, Option.isSome] at hlt
 simp only [volV, Option.isSome] at hlk
 clear hm hm0 hms hr h hv hxn ht
 obtain ⟨x1, xm⟩ := x
 simp only at b1 b2
 go_enter Tryz.func90, Tryz.ntmps90
 go_wp2_with (first | (go_at_call 50; ((with_reducible refine (HT.out _ gri).mono ?_); rintro _ _ ⟨rfl, g1, rfl⟩)) | (go_at_call 59; ((with_reducible refine (HMay.out _ gri).mono ?_); rintro _ _ ⟨rfl, g2, rfl⟩)))
 refine wp_region_tree (mixw_ghost _) [] (mixw_nil _) [0, 1, 2, 3, 4, 5, 6, 7, 8, 9] 3 (by kernel_rfl) (by kernel_rfl) ?_
 simp only [pick, List.drop, List.take, List.nil_append, List.cons_append]
 repeat (refine wpCalm_step (fun K hK => ?_); go_simp; first | (refine hK _ ?_; clear hK K) | (apply Exists.intro; refine ⟨fun _ => ?_, hK _ ?_⟩; (fail); clear hK K))
 refine wpCalm_nil ?_
 refine fe_mixAlloc 10 (by kernel_rfl) rfl rfl rfl Tryz.zeroValue115 fun b5_0 hb5_0 nb5_0 => ?_
 simp only [Act.put, List.setIfInBounds_toArray, List.set]
 refine fe_mixStore 11 [(b5_0, #[.int .i64 x1, .map (some (mb xv))], 115)] #[.int .i64 x1, .map (some (mb xv))] (by kernel_rfl) rfl rfl rfl rfl List.mem_cons_self hb5_0 rfl rfl rfl rfl (fun z hz => .inl (by simpa using hz)) ?_
 simp only [Act.put, List.setIfInBounds_toArray, List.set]
 refine fe_mixCalm 12 _ (by kernel_rfl) rfl rfl (fun g => calm_assign g rfl) ?_
 simp only [Act.put, List.setIfInBounds_toArray, List.set]
 refine fe_end (by kernel_rfl) ?_
 intro w1 hw1
 have cb5_0 : ∀ o, w1.cell? ⟨b5_0, o, none⟩ = (#[.int .i64 x1, .map (some (mb xv))] : Array Value)[o]? := mix_cell hw1 List.mem_cons_self
 have fb5_0 : ∀ o, w1.frozen? ⟨b5_0, o, none⟩ = false := mix_frozen hw1 List.mem_cons_self
 have ob5_0 : Old b5_0 w1 := mix_old hw1 List.mem_cons_self
 have qb5_0 := @fresh_ne _ _ hb5_0
 have rb5_0 := @fresh_en _ _ hb5_0
 have lb5_0 := fresh_le hb5_0 w.heap.size
 obtain ⟨⟨g5, rfl⟩, hbs⟩ := hw1
 clear hbs nb5_0
 go_wp2_with ((go_at_call 116; ((with_reducible refine (part_4 _ _ _ _ _ _ _ _ (by omega) _).mono ?_); rintro _ _ ⟨rfl, g3, rfl⟩)))
 refine wp_region_tree (mixw_ghost _) [] (mixw_nil _) [0, 1, 2, 3, 4, 5, 6, 7, 8, 9] 3 (by kernel_rfl) (by kernel_rfl) ?_
 simp only [pick, List.drop, List.take, List.nil_append, List.cons_append]
 repeat (refine wpCalm_step (fun K hK => ?_); go_simp; first | (refine hK _ ?_; clear hK K) | (apply Exists.intro; refine ⟨fun _ => ?_, hK _ ?_⟩; (fail); clear hK K))
 refine wpCalm_nil ?_
 refine fe_mixAlloc 10 (by kernel_rfl) rfl rfl rfl Tryz.zeroValue115 fun b15_0 hb15_0 nb15_0 => ?_
 simp only [Act.put, List.setIfInBounds_toArray, List.set]
 refine fe_mixStore 11 [(b15_0, #[.int .i64 0, .map none], 115)] #[.int .i64 0, .map none] (by kernel_rfl) rfl rfl rfl rfl List.mem_cons_self hb15_0 rfl rfl rfl rfl (fun z hz => .inl (by simpa using hz)) ?_
 simp only [Act.put, List.setIfInBounds_toArray, List.set]
 refine fe_mixCalm 12 _ (by kernel_rfl) rfl rfl (fun g => calm_assign g rfl) ?_
 simp only [Act.put, List.setIfInBounds_toArray, List.set]
 refine fe_end (by kernel_rfl) ?_
 intro w1 hw1
 have cb15_0 : ∀ o, w1.cell? ⟨b15_0, o, none⟩ = (#[.int .i64 0, .map none] : Array Value)[o]? := mix_cell hw1 List.mem_cons_self
 have fb15_0 : ∀ o, w1.frozen? ⟨b15_0, o, none⟩ = false := mix_frozen hw1 List.mem_cons_self
 have ob15_0 : Old b15_0 w1 := mix_old hw1 List.mem_cons_self
 have qb15_0 := @fresh_ne _ _ hb15_0
 have rb15_0 := @fresh_en _ _ hb15_0
 have lb15_0 := fresh_le hb15_0 w.heap.size
 obtain ⟨⟨g15, rfl⟩, hbs⟩ := hw1
 clear hbs nb15_0
 go_wp2
 go_ret
 exact ⟨rfl, gri⟩
set_option maxHeartbeats 4000000 in
theorem refused_4_to1 (xv xt xs xa xc : Int) (xD : Option Addr) (xn xq : Nat) (lx : Byt) (hxn : lx.length = xn) (base D : Nat) (d : Dev) (w : World) (h : DevAt base w D d) (hr : Row bv w xD lx) (hm : OpM.may ⟨4, xv, xt, xs, xa, xc, lx⟩ = true) (x : VolM) (hv : getK d xv = some x) (y : VolM) (ht : getK d xt = some y) :
  Calls Tryz.prog 90 #[.pointer (some ⟨D, 0, none⟩), (.agg #[.int .i64 4, .int .u64 xv, .int .u64 xt, .int .i64 xs, .int .i64 xa, .int .i64 xc, .slice xD xn xq])] w fun e w' => e = .returned (.int .i64 7) ∧ Gr w w' := by
 have hms := may_s hm
 have hm0 := hm
 obtain ⟨M, mb, h⟩ := h
 have hxo := h.ok.vols _ ((getK_mem h.ok.sort).1 hv)
 have b1 := hxo.s0
 have b2 := hxo.s1
 clear hxo
 rw [OpM.may] at hm
 simp only at hm
 rw [hxn] at hm
 have c9 : lx.length ≤ 2048 := may_len hm0
 rw [hxn] at c9
 have HMay := Lib.hid (fun W (hW : Gr w W) => (hm ▸ mayOp_any 4 xv xt xs xa xc xD xn xq lx W hxn (by omega) (hr.gr hW) : Calls Tryz.prog 59 #[(.agg #[.int .i64 4, .int .u64 xv, .int .u64 xt, .int .i64 xs, .int .i64 xa, .int .i64 xc, .slice xD xn xq])] W fun e w' => e = .returned (.bool true) ∧ Gr W w'))
 have HT := Lib.hid (fun W (hW : Gr w W) => there_yes D M W (h.blk.gr hW))
 haveI := h.blk
 have x0 : w.cell? ⟨D, 0, none⟩ = some (.map (some M)) := (@block_cells _ _ 0 _ _ h.blk).trans rfl
 haveI : Old D w := h.blk.old
 have hlk := look_vol h xv _ hv
 have hlt := look_vol h xt _ ht
 simp only [volV, Option.isSome] at hlt
 simp only [volV, Option.isSome] at hlk
 clear hm hm0 hms hr h hv hxn ht
 obtain ⟨x1, xm⟩ := x
 simp only at b1 b2
 obtain ⟨y1, ym⟩ := y
 go_enter Tryz.func90, Tryz.ntmps90
 go_wp2_with (first | (go_at_call 50; ((with_reducible refine (HT.out _ gri).mono ?_); rintro _ _ ⟨rfl, g1, rfl⟩)) | (go_at_call 59; ((with_reducible refine (HMay.out _ gri).mono ?_); rintro _ _ ⟨rfl, g2, rfl⟩)))
 refine wp_region_tree (mixw_ghost _) [] (mixw_nil _) [0, 1, 2, 3, 4, 5, 6, 7, 8, 9] 3 (by kernel_rfl) (by kernel_rfl) ?_
 simp only [pick, List.drop, List.take, List.nil_append, List.cons_append]
 repeat (refine wpCalm_step (fun K hK => ?_); go_simp; first | (refine hK _ ?_; clear hK K) | (apply Exists.intro; refine ⟨fun _ => ?_, hK _ ?_⟩; (fail); clear hK K))
 refine wpCalm_nil ?_
 refine fe_mixAlloc 10 (by kernel_rfl) rfl rfl rfl Tryz.zeroValue115 fun b5_0 hb5_0 nb5_0 => ?_
 simp only [Act.put, List.setIfInBounds_toArray, List.set]
 refine fe_mixStore 11 [(b5_0, #[.int .i64 x1, .map (some (mb xv))], 115)] #[.int .i64 x1, .map (some (mb xv))] (by kernel_rfl) rfl rfl rfl rfl List.mem_cons_self hb5_0 rfl rfl rfl rfl (fun z hz => .inl (by simpa using hz)) ?_
 simp only [Act.put, List.setIfInBounds_toArray, List.set]
 refine fe_mixCalm 12 _ (by kernel_rfl) rfl rfl (fun g => calm_assign g rfl) ?_
 simp only [Act.put, List.setIfInBounds_toArray, List.set]
 refine fe_end (by kernel_rfl) ?_
 intro w1 hw1
 have cb5_0 : ∀ o, w1.cell? ⟨b5_0, o, none⟩ = (#[.int .i64 x1, .map (some (mb xv))] : Array Value)[o]? := mix_cell hw1 List.mem_cons_self
 have fb5_0 : ∀ o, w1.frozen? ⟨b5_0, o, none⟩ = false := mix_frozen hw1 List.mem_cons_self
 have ob5_0 : Old b5_0 w1 := mix_old hw1 List.mem_cons_self
 have qb5_0 := @fresh_ne _ _ hb5_0
 have rb5_0 := @fresh_en _ _ hb5_0
 have lb5_0 := fresh_le hb5_0 w.heap.size
 obtain ⟨⟨g5, rfl⟩, hbs⟩ := hw1
 clear hbs nb5_0
 go_wp2_with ((go_at_call 116; ((with_reducible refine (part_4 _ _ _ _ _ _ _ _ (by omega) _).mono ?_); rintro _ _ ⟨rfl, g3, rfl⟩)))
 refine wp_region_tree (mixw_ghost _) [] (mixw_nil _) [0, 1, 2, 3, 4, 5, 6, 7, 8, 9] 3 (by kernel_rfl) (by kernel_rfl) ?_
 simp only [pick, List.drop, List.take, List.nil_append, List.cons_append]
 repeat (refine wpCalm_step (fun K hK => ?_); go_simp; first | (refine hK _ ?_; clear hK K) | (apply Exists.intro; refine ⟨fun _ => ?_, hK _ ?_⟩; (fail); clear hK K))
 refine wpCalm_nil ?_
 refine fe_mixAlloc 10 (by kernel_rfl) rfl rfl rfl Tryz.zeroValue115 fun b15_0 hb15_0 nb15_0 => ?_
 simp only [Act.put, List.setIfInBounds_toArray, List.set]
 refine fe_mixStore 11 [(b15_0, #[.int .i64 y1, .map (some (mb xt))], 115)] #[.int .i64 y1, .map (some (mb xt))] (by kernel_rfl) rfl rfl rfl rfl List.mem_cons_self hb15_0 rfl rfl rfl rfl (fun z hz => .inl (by simpa using hz)) ?_
 simp only [Act.put, List.setIfInBounds_toArray, List.set]
 refine fe_mixCalm 12 _ (by kernel_rfl) rfl rfl (fun g => calm_assign g rfl) ?_
 simp only [Act.put, List.setIfInBounds_toArray, List.set]
 refine fe_end (by kernel_rfl) ?_
 intro w1 hw1
 have cb15_0 : ∀ o, w1.cell? ⟨b15_0, o, none⟩ = (#[.int .i64 y1, .map (some (mb xt))] : Array Value)[o]? := mix_cell hw1 List.mem_cons_self
 have fb15_0 : ∀ o, w1.frozen? ⟨b15_0, o, none⟩ = false := mix_frozen hw1 List.mem_cons_self
 have ob15_0 : Old b15_0 w1 := mix_old hw1 List.mem_cons_self
 have qb15_0 := @fresh_ne _ _ hb15_0
 have rb15_0 := @fresh_en _ _ hb15_0
 have lb15_0 := fresh_le hb15_0 w.heap.size
 obtain ⟨⟨g15, rfl⟩, hbs⟩ := hw1
 clear hbs nb15_0
 go_wp2
 go_ret
 exact ⟨rfl, gri⟩
set_option maxRecDepth 100000
set_option maxHeartbeats 4000000 in
theorem refused_5_none (xv xt xs xa xc : Int) (xD : Option Addr) (xn xq : Nat) (lx : Byt) (hxn : lx.length = xn) (base D : Nat) (d : Dev) (w : World) (h : DevAt base w D d) (hr : Row bv w xD lx) (hm : OpM.may ⟨5, xv, xt, xs, xa, xc, lx⟩ = true) (hv : getK d xv = none)  :
  Calls Tryz.prog 90 #[.pointer (some ⟨D, 0, none⟩), (.agg #[.int .i64 5, .int .u64 xv, .int .u64 xt, .int .i64 xs, .int .i64 xa, .int .i64 xc, .slice xD xn xq])] w fun e w' => e = .returned (.int .i64 6) ∧ Gr w w' := by
 have hms := may_s hm
 have hm0 := hm
 obtain ⟨M, mb, h⟩ := h
 have c1 := hms.at_ (by simp)
 have c2 := hms.dat rfl
 simp only at c1 c2
 rw [OpM.may] at hm
 simp only at hm
 rw [hxn] at hm
 rw [hxn] at c2
 have HMay := Lib.hid (fun W (hW : Gr w W) => (hm ▸ mayOp_any 5 xv xt xs xa xc xD xn xq lx W hxn (by omega) (hr.gr hW) : Calls Tryz.prog 59 #[(.agg #[.int .i64 5, .int .u64 xv, .int .u64 xt, .int .i64 xs, .int .i64 xa, .int .i64 xc, .slice xD xn xq])] W fun e w' => e = .returned (.bool true) ∧ Gr W w'))
 have HT := Lib.hid (fun W (hW : Gr w W) => there_yes D M W (h.blk.gr hW))
 haveI := h.blk
 have x0 : w.cell? ⟨D, 0, none⟩ = some (.map (some M)) := (@block_cells _ _ 0 _ _ h.blk).trans rfl
 haveI : Old D w := h.blk.old
 have hlk := look_vol h xv _ hv
 simp only [volV, Option.isSome] at hlk
 clear hm hm0 hms hr h hv hxn
 go_enter Tryz.func90, Tryz.ntmps90
 go_wp2_with (first | (go_at_call 50; ((with_reducible refine (HT.out _ gri).mono ?_); rintro _ _ ⟨rfl, g1, rfl⟩)) | (go_at_call 59; ((with_reducible refine (HMay.out _ gri).mono ?_); rintro _ _ ⟨rfl, g2, rfl⟩)))
 refine wp_region_tree (mixw_ghost _) [] (mixw_nil _) [0, 1, 2, 3, 4, 5, 6, 7, 8, 9] 3 (by kernel_rfl) (by kernel_rfl) ?_
 simp only [pick, List.drop, List.take, List.nil_append, List.cons_append]
 repeat (refine wpCalm_step (fun K hK => ?_); go_simp; first | (refine hK _ ?_; clear hK K) | (apply Exists.intro; refine ⟨fun _ => ?_, hK _ ?_⟩; (fail); clear hK K))
 refine wpCalm_nil ?_
 refine fe_mixAlloc 10 (by kernel_rfl) rfl rfl rfl Tryz.zeroValue115 fun b5_0 hb5_0 nb5_0 => ?_
 simp only [Act.put, List.setIfInBounds_toArray, List.set]
 refine fe_mixStore 11 [(b5_0, #[.int .i64 0, .map none], 115)] #[.int .i64 0, .map none] (by kernel_rfl) rfl rfl rfl rfl List.mem_cons_self hb5_0 rfl rfl rfl rfl (fun z hz => .inl (by simpa using hz)) ?_
 simp only [Act.put, List.setIfInBounds_toArray, List.set]
 refine fe_mixCalm 12 _ (by kernel_rfl) rfl rfl (fun g => calm_assign g rfl) ?_
 simp only [Act.put, List.setIfInBounds_toArray, List.set]
 refine fe_end (by kernel_rfl) ?_
 intro w1 hw1
 have cb5_0 : ∀ o, w1.cell? ⟨b5_0, o, none⟩ = (#[.int .i64 0, .map none] : Array Value)[o]? := mix_cell hw1 List.mem_cons_self
 have fb5_0 : ∀ o, w1.frozen? ⟨b5_0, o, none⟩ = false := mix_frozen hw1 List.mem_cons_self
 have ob5_0 : Old b5_0 w1 := mix_old hw1 List.mem_cons_self
 have qb5_0 := @fresh_ne _ _ hb5_0
 have rb5_0 := @fresh_en _ _ hb5_0
 have lb5_0 := fresh_le hb5_0 w.heap.size
 obtain ⟨⟨g5, rfl⟩, hbs⟩ := hw1
 clear hbs nb5_0
 go_wp2_with ((go_at_call 116; ((with_reducible refine (part_5 _ _ _ _ _ _ _ _ (by omega) _).mono ?_); rintro _ _ ⟨rfl, g3, rfl⟩)))
 go_ret
 exact ⟨rfl, gri⟩
set_option maxHeartbeats 4000000 in
theorem refused_5_fit (xv xt xs xa xc : Int) (xD : Option Addr) (xn xq : Nat) (lx : Byt) (hxn : lx.length = xn) (base D : Nat) (d : Dev) (w : World) (h : DevAt base w D d) (hr : Row bv w xD lx) (hm : OpM.may ⟨5, xv, xt, xs, xa, xc, lx⟩ = true) (x : VolM) (hv : getK d xv = some x) (hf : ¬ 4 * x.1 < xa + (xn : Int) / 64) :
  Calls Tryz.prog 90 #[.pointer (some ⟨D, 0, none⟩), (.agg #[.int .i64 5, .int .u64 xv, .int .u64 xt, .int .i64 xs, .int .i64 xa, .int .i64 xc, .slice xD xn xq])] w fun e w' => e = .returned (.int .i64 0) ∧ Gr w w' := by
 have hms := may_s hm
 have hm0 := hm
 obtain ⟨M, mb, h⟩ := h
 have hxo := h.ok.vols _ ((getK_mem h.ok.sort).1 hv)
 have b1 := hxo.s0
 have b2 := hxo.s1
 clear hxo
 have c1 := hms.at_ (by simp)
 have c2 := hms.dat rfl
 simp only at c1 c2
 rw [OpM.may] at hm
 simp only at hm
 rw [hxn] at hm
 rw [hxn] at c2
 have HMay := Lib.hid (fun W (hW : Gr w W) => (hm ▸ mayOp_any 5 xv xt xs xa xc xD xn xq lx W hxn (by omega) (hr.gr hW) : Calls Tryz.prog 59 #[(.agg #[.int .i64 5, .int .u64 xv, .int .u64 xt, .int .i64 xs, .int .i64 xa, .int .i64 xc, .slice xD xn xq])] W fun e w' => e = .returned (.bool true) ∧ Gr W w'))
 have HT := Lib.hid (fun W (hW : Gr w W) => there_yes D M W (h.blk.gr hW))
 haveI := h.blk
 have x0 : w.cell? ⟨D, 0, none⟩ = some (.map (some M)) := (@block_cells _ _ 0 _ _ h.blk).trans rfl
 haveI : Old D w := h.blk.old
 have hlk := look_vol h xv _ hv
 simp only [volV, Option.isSome] at hlk
 clear hm hm0 hms hr h hv hxn
 obtain ⟨x1, xm⟩ := x
 simp only at b1 b2 hf
 go_enter Tryz.func90, Tryz.ntmps90
 go_wp2_with (first | (go_at_call 50; ((with_reducible refine (HT.out _ gri).mono ?_); rintro _ _ ⟨rfl, g1, rfl⟩)) | (go_at_call 59; ((with_reducible refine (HMay.out _ gri).mono ?_); rintro _ _ ⟨rfl, g2, rfl⟩)))
 refine wp_region_tree (mixw_ghost _) [] (mixw_nil _) [0, 1, 2, 3, 4, 5, 6, 7, 8, 9] 3 (by kernel_rfl) (by kernel_rfl) ?_
 simp only [pick, List.drop, List.take, List.nil_append, List.cons_append]
 repeat (refine wpCalm_step (fun K hK => ?_); go_simp; first | (refine hK _ ?_; clear hK K) | (apply Exists.intro; refine ⟨fun _ => ?_, hK _ ?_⟩; (fail); clear hK K))
 refine wpCalm_nil ?_
 refine fe_mixAlloc 10 (by kernel_rfl) rfl rfl rfl Tryz.zeroValue115 fun b5_0 hb5_0 nb5_0 => ?_
 simp only [Act.put, List.setIfInBounds_toArray, List.set]
 refine fe_mixStore 11 [(b5_0, #[.int .i64 x1, .map (some (mb xv))], 115)] #[.int .i64 x1, .map (some (mb xv))] (by kernel_rfl) rfl rfl rfl rfl List.mem_cons_self hb5_0 rfl rfl rfl rfl (fun z hz => .inl (by simpa using hz)) ?_
 simp only [Act.put, List.setIfInBounds_toArray, List.set]
 refine fe_mixCalm 12 _ (by kernel_rfl) rfl rfl (fun g => calm_assign g rfl) ?_
 simp only [Act.put, List.setIfInBounds_toArray, List.set]
 refine fe_end (by kernel_rfl) ?_
 intro w1 hw1
 have cb5_0 : ∀ o, w1.cell? ⟨b5_0, o, none⟩ = (#[.int .i64 x1, .map (some (mb xv))] : Array Value)[o]? := mix_cell hw1 List.mem_cons_self
 have fb5_0 : ∀ o, w1.frozen? ⟨b5_0, o, none⟩ = false := mix_frozen hw1 List.mem_cons_self
 have ob5_0 : Old b5_0 w1 := mix_old hw1 List.mem_cons_self
 have qb5_0 := @fresh_ne _ _ hb5_0
 have rb5_0 := @fresh_en _ _ hb5_0
 have lb5_0 := fresh_le hb5_0 w.heap.size
 obtain ⟨⟨g5, rfl⟩, hbs⟩ := hw1
 clear hbs nb5_0
 go_wp2_with ((go_at_call 116; ((with_reducible refine (part_5 _ _ _ _ _ _ _ _ (by omega) _).mono ?_); rintro _ _ ⟨rfl, g3, rfl⟩)))
 go_ret
 exact ⟨rfl, gri⟩
set_option maxHeartbeats 4000000 in
theorem refused_5_over (xv xt xs xa xc : Int) (xD : Option Addr) (xn xq : Nat) (lx : Byt) (hxn : lx.length = xn) (base D : Nat) (d : Dev) (w : World) (h : DevAt base w D d) (hr : Row bv w xD lx) (hm : OpM.may ⟨5, xv, xt, xs, xa, xc, lx⟩ = true) (x : VolM) (hv : getK d xv = some x) (hf : 4 * x.1 < xa + (xn : Int) / 64) :
  Calls Tryz.prog 90 #[.pointer (some ⟨D, 0, none⟩), (.agg #[.int .i64 5, .int .u64 xv, .int .u64 xt, .int .i64 xs, .int .i64 xa, .int .i64 xc, .slice xD xn xq])] w fun e w' => e = .returned (.int .i64 5) ∧ Gr w w' := by
 have hms := may_s hm
 have hm0 := hm
 obtain ⟨M, mb, h⟩ := h
 have hxo := h.ok.vols _ ((getK_mem h.ok.sort).1 hv)
 have b1 := hxo.s0
 have b2 := hxo.s1
 clear hxo
 have c1 := hms.at_ (by simp)
 have c2 := hms.dat rfl
 simp only at c1 c2
 rw [OpM.may] at hm
 simp only at hm
 rw [hxn] at hm
 rw [hxn] at c2
 have HMay := Lib.hid (fun W (hW : Gr w W) => (hm ▸ mayOp_any 5 xv xt xs xa xc xD xn xq lx W hxn (by omega) (hr.gr hW) : Calls Tryz.prog 59 #[(.agg #[.int .i64 5, .int .u64 xv, .int .u64 xt, .int .i64 xs, .int .i64 xa, .int .i64 xc, .slice xD xn xq])] W fun e w' => e = .returned (.bool true) ∧ Gr W w'))
 have HT := Lib.hid (fun W (hW : Gr w W) => there_yes D M W (h.blk.gr hW))
 haveI := h.blk
 have x0 : w.cell? ⟨D, 0, none⟩ = some (.map (some M)) := (@block_cells _ _ 0 _ _ h.blk).trans rfl
 haveI : Old D w := h.blk.old
 have hlk := look_vol h xv _ hv
 simp only [volV, Option.isSome] at hlk
 clear hm hm0 hms hr h hv hxn
 obtain ⟨x1, xm⟩ := x
 simp only at b1 b2 hf
 go_enter Tryz.func90, Tryz.ntmps90
 go_wp2_with (first | (go_at_call 50; ((with_reducible refine (HT.out _ gri).mono ?_); rintro _ _ ⟨rfl, g1, rfl⟩)) | (go_at_call 59; ((with_reducible refine (HMay.out _ gri).mono ?_); rintro _ _ ⟨rfl, g2, rfl⟩)))
 refine wp_region_tree (mixw_ghost _) [] (mixw_nil _) [0, 1, 2, 3, 4, 5, 6, 7, 8, 9] 3 (by kernel_rfl) (by kernel_rfl) ?_
 simp only [pick, List.drop, List.take, List.nil_append, List.cons_append]
 repeat (refine wpCalm_step (fun K hK => ?_); go_simp; first | (refine hK _ ?_; clear hK K) | (apply Exists.intro; refine ⟨fun _ => ?_, hK _ ?_⟩; (fail); clear hK K))
 refine wpCalm_nil ?_
 refine fe_mixAlloc 10 (by kernel_rfl) rfl rfl rfl Tryz.zeroValue115 fun b5_0 hb5_0 nb5_0 => ?_
 simp only [Act.put, List.setIfInBounds_toArray, List.set]
 refine fe_mixStore 11 [(b5_0, #[.int .i64 x1, .map (some (mb xv))], 115)] #[.int .i64 x1, .map (some (mb xv))] (by kernel_rfl) rfl rfl rfl rfl List.mem_cons_self hb5_0 rfl rfl rfl rfl (fun z hz => .inl (by simpa using hz)) ?_
 simp only [Act.put, List.setIfInBounds_toArray, List.set]
 refine fe_mixCalm 12 _ (by kernel_rfl) rfl rfl (fun g => calm_assign g rfl) ?_
 simp only [Act.put, List.setIfInBounds_toArray, List.set]
 refine fe_end (by kernel_rfl) ?_
 intro w1 hw1
 have cb5_0 : ∀ o, w1.cell? ⟨b5_0, o, none⟩ = (#[.int .i64 x1, .map (some (mb xv))] : Array Value)[o]? := mix_cell hw1 List.mem_cons_self
 have fb5_0 : ∀ o, w1.frozen? ⟨b5_0, o, none⟩ = false := mix_frozen hw1 List.mem_cons_self
 have ob5_0 : Old b5_0 w1 := mix_old hw1 List.mem_cons_self
 have qb5_0 := @fresh_ne _ _ hb5_0
 have rb5_0 := @fresh_en _ _ hb5_0
 have lb5_0 := fresh_le hb5_0 w.heap.size
 obtain ⟨⟨g5, rfl⟩, hbs⟩ := hw1
 clear hbs nb5_0
 go_wp2_with ((go_at_call 116; ((with_reducible refine (part_5 _ _ _ _ _ _ _ _ (by omega) _).mono ?_); rintro _ _ ⟨rfl, g3, rfl⟩)))
 go_ret
 exact ⟨rfl, gri⟩
set_option maxHeartbeats 4000000 in
theorem refused_6_none (xv xt xs xa xc : Int) (xD : Option Addr) (xn xq : Nat) (lx : Byt) (hxn : lx.length = xn) (base D : Nat) (d : Dev) (w : World) (h : DevAt base w D d) (hr : Row bv w xD lx) (hm : OpM.may ⟨6, xv, xt, xs, xa, xc, lx⟩ = true) (hv : getK d xv = none)  :
  Calls Tryz.prog 90 #[.pointer (some ⟨D, 0, none⟩), (.agg #[.int .i64 6, .int .u64 xv, .int .u64 xt, .int .i64 xs, .int .i64 xa, .int .i64 xc, .slice xD xn xq])] w fun e w' => e = .returned (.int .i64 6) ∧ Gr w w' := by
 have hms := may_s hm
 have hm0 := hm
 obtain ⟨M, mb, h⟩ := h
 have c1 := hms.at_ (by simp)
 have c2 := hms.cnt (by simp)
 simp only at c1 c2
 rw [OpM.may] at hm
 simp only at hm
 rw [hxn] at hm
 have c9 : lx.length ≤ 2048 := may_len hm0
 rw [hxn] at c9
 have HMay := Lib.hid (fun W (hW : Gr w W) => (hm ▸ mayOp_any 6 xv xt xs xa xc xD xn xq lx W hxn (by omega) (hr.gr hW) : Calls Tryz.prog 59 #[(.agg #[.int .i64 6, .int .u64 xv, .int .u64 xt, .int .i64 xs, .int .i64 xa, .int .i64 xc, .slice xD xn xq])] W fun e w' => e = .returned (.bool true) ∧ Gr W w'))
 have HT := Lib.hid (fun W (hW : Gr w W) => there_yes D M W (h.blk.gr hW))
 haveI := h.blk
 have x0 : w.cell? ⟨D, 0, none⟩ = some (.map (some M)) := (@block_cells _ _ 0 _ _ h.blk).trans rfl
 haveI : Old D w := h.blk.old
 have hlk := look_vol h xv _ hv
 simp only [volV, Option.isSome] at hlk
 clear hm hm0 hms hr h hv hxn
 go_enter Tryz.func90, Tryz.ntmps90
 go_wp2_with (first | (go_at_call 50; ((with_reducible refine (HT.out _ gri).mono ?_); rintro _ _ ⟨rfl, g1, rfl⟩)) | (go_at_call 59; ((with_reducible refine (HMay.out _ gri).mono ?_); rintro _ _ ⟨rfl, g2, rfl⟩)))
 refine wp_region_tree (mixw_ghost _) [] (mixw_nil _) [0, 1, 2, 3, 4, 5, 6, 7, 8, 9] 3 (by kernel_rfl) (by kernel_rfl) ?_
 simp only [pick, List.drop, List.take, List.nil_append, List.cons_append]
 repeat (refine wpCalm_step (fun K hK => ?_); go_simp; first | (refine hK _ ?_; clear hK K) | (apply Exists.intro; refine ⟨fun _ => ?_, hK _ ?_⟩; (fail); clear hK K))
 refine wpCalm_nil ?_
 refine fe_mixAlloc 10 (by kernel_rfl) rfl rfl rfl Tryz.zeroValue115 fun b5_0 hb5_0 nb5_0 => ?_
 simp only [Act.put, List.setIfInBounds_toArray, List.set]
 refine fe_mixStore 11 [(b5_0, #[.int .i64 0, .map none], 115)] #[.int .i64 0, .map none] (by kernel_rfl) rfl rfl rfl rfl List.mem_cons_self hb5_0 rfl rfl rfl rfl (fun z hz => .inl (by simpa using hz)) ?_
 simp only [Act.put, List.setIfInBounds_toArray, List.set]
 refine fe_mixCalm 12 _ (by kernel_rfl) rfl rfl (fun g => calm_assign g rfl) ?_
 simp only [Act.put, List.setIfInBounds_toArray, List.set]
 refine fe_end (by kernel_rfl) ?_
 intro w1 hw1
 have cb5_0 : ∀ o, w1.cell? ⟨b5_0, o, none⟩ = (#[.int .i64 0, .map none] : Array Value)[o]? := mix_cell hw1 List.mem_cons_self
 have fb5_0 : ∀ o, w1.frozen? ⟨b5_0, o, none⟩ = false := mix_frozen hw1 List.mem_cons_self
 have ob5_0 : Old b5_0 w1 := mix_old hw1 List.mem_cons_self
 have qb5_0 := @fresh_ne _ _ hb5_0
 have rb5_0 := @fresh_en _ _ hb5_0
 have lb5_0 := fresh_le hb5_0 w.heap.size
 obtain ⟨⟨g5, rfl⟩, hbs⟩ := hw1
 clear hbs nb5_0
 go_wp2_with ((go_at_call 116; ((with_reducible refine (part_6 _ _ _ _ _ _ _ _ (by omega) _).mono ?_); rintro _ _ ⟨rfl, g3, rfl⟩)))
 go_ret
 exact ⟨rfl, gri⟩
set_option maxHeartbeats 4000000 in
theorem refused_6_fit (xv xt xs xa xc : Int) (xD : Option Addr) (xn xq : Nat) (lx : Byt) (hxn : lx.length = xn) (base D : Nat) (d : Dev) (w : World) (h : DevAt base w D d) (hr : Row bv w xD lx) (hm : OpM.may ⟨6, xv, xt, xs, xa, xc, lx⟩ = true) (x : VolM) (hv : getK d xv = some x) (hf : ¬ 4 * x.1 < xa + xc) :
  Calls Tryz.prog 90 #[.pointer (some ⟨D, 0, none⟩), (.agg #[.int .i64 6, .int .u64 xv, .int .u64 xt, .int .i64 xs, .int .i64 xa, .int .i64 xc, .slice xD xn xq])] w fun e w' => e = .returned (.int .i64 0) ∧ Gr w w' := by
 have hms := may_s hm
 have hm0 := hm
 obtain ⟨M, mb, h⟩ := h
 have hxo := h.ok.vols _ ((getK_mem h.ok.sort).1 hv)
 have b1 := hxo.s0
 have b2 := hxo.s1
 clear hxo
 have c1 := hms.at_ (by simp)
 have c2 := hms.cnt (by simp)
 simp only at c1 c2
 rw [OpM.may] at hm
 simp only at hm
 rw [hxn] at hm
 have c9 : lx.length ≤ 2048 := may_len hm0
 rw [hxn] at c9
 have HMay := Lib.hid (fun W (hW : Gr w W) => (hm ▸ mayOp_any 6 xv xt xs xa xc xD xn xq lx W hxn (by omega) (hr.gr hW) : Calls Tryz.prog 59 #[(.agg #[.int .i64 6, .int .u64 xv, .int .u64 xt, .int .i64 xs, .int .i64 xa, .int .i64 xc, .slice xD xn xq])] W fun e w' => e = .returned (.bool true) ∧ Gr W w'))
 have HT := Lib.hid (fun W (hW : Gr w W) => there_yes D M W (h.blk.gr hW))
 haveI := h.blk
 have x0 : w.cell? ⟨D, 0, none⟩ = some (.map (some M)) := (@block_cells _ _ 0 _ _ h.blk).trans rfl
 haveI : Old D w := h.blk.old
 have hlk := look_vol h xv _ hv
 simp only [volV, Option.isSome] at hlk
 clear hm hm0 hms hr h hv hxn
 obtain ⟨x1, xm⟩ := x
 simp only at b1 b2 hf
 go_enter Tryz.func90, Tryz.ntmps90
 go_wp2_with (first | (go_at_call 50; ((with_reducible refine (HT.out _ gri).mono ?_); rintro _ _ ⟨rfl, g1, rfl⟩)) | (go_at_call 59; ((with_reducible refine (HMay.out _ gri).mono ?_); rintro _ _ ⟨rfl, g2, rfl⟩)))
 refine wp_region_tree (mixw_ghost _) [] (mixw_nil _) [0, 1, 2, 3, 4, 5, 6, 7, 8, 9] 3 (by kernel_rfl) (by kernel_rfl) ?_
 simp only [pick, List.drop, List.take, List.nil_append, List.cons_append]
 repeat (refine wpCalm_step (fun K hK => ?_); go_simp; first | (refine hK _ ?_; clear hK K) | (apply Exists.intro; refine ⟨fun _ => ?_, hK _ ?_⟩; (fail); clear hK K))
 refine wpCalm_nil ?_
 refine fe_mixAlloc 10 (by kernel_rfl) rfl rfl rfl Tryz.zeroValue115 fun b5_0 hb5_0 nb5_0 => ?_
 simp only [Act.put, List.setIfInBounds_toArray, List.set]
 refine fe_mixStore 11 [(b5_0, #[.int .i64 x1, .map (some (mb xv))], 115)] #[.int .i64 x1, .map (some (mb xv))] (by kernel_rfl) rfl rfl rfl rfl List.mem_cons_self hb5_0 rfl rfl rfl rfl (fun z hz => .inl (by simpa using hz)) ?_
 simp only [Act.put, List.setIfInBounds_toArray, List.set]
 refine fe_mixCalm 12 _ (by kernel_rfl) rfl rfl (fun g => calm_assign g rfl) ?_
 simp only [Act.put, List.setIfInBounds_toArray, List.set]
 refine fe_end (by kernel_rfl) ?_
 intro w1 hw1
 have cb5_0 : ∀ o, w1.cell? ⟨b5_0, o, none⟩ = (#[.int .i64 x1, .map (some (mb xv))] : Array Value)[o]? := mix_cell hw1 List.mem_cons_self
 have fb5_0 : ∀ o, w1.frozen? ⟨b5_0, o, none⟩ = false := mix_frozen hw1 List.mem_cons_self
 have ob5_0 : Old b5_0 w1 := mix_old hw1 List.mem_cons_self
 have qb5_0 := @fresh_ne _ _ hb5_0
 have rb5_0 := @fresh_en _ _ hb5_0
 have lb5_0 := fresh_le hb5_0 w.heap.size
 obtain ⟨⟨g5, rfl⟩, hbs⟩ := hw1
 clear hbs nb5_0
 go_wp2_with ((go_at_call 116; ((with_reducible refine (part_6 _ _ _ _ _ _ _ _ (by omega) _).mono ?_); rintro _ _ ⟨rfl, g3, rfl⟩)))
 go_ret
 exact ⟨rfl, gri⟩
set_option maxHeartbeats 4000000 in
theorem refused_6_over (xv xt xs xa xc : Int) (xD : Option Addr) (xn xq : Nat) (lx : Byt) (hxn : lx.length = xn) (base D : Nat) (d : Dev) (w : World) (h : DevAt base w D d) (hr : Row bv w xD lx) (hm : OpM.may ⟨6, xv, xt, xs, xa, xc, lx⟩ = true) (x : VolM) (hv : getK d xv = some x) (hf : 4 * x.1 < xa + xc) :
  Calls Tryz.prog 90 #[.pointer (some ⟨D, 0, none⟩), (.agg #[.int .i64 6, .int .u64 xv, .int .u64 xt, .int .i64 xs, .int .i64 xa, .int .i64 xc, .slice xD xn xq])] w fun e w' => e = .returned (.int .i64 5) ∧ Gr w w' := by
 have hms := may_s hm
 have hm0 := hm
 obtain ⟨M, mb, h⟩ := h
 have hxo := h.ok.vols _ ((getK_mem h.ok.sort).1 hv)
 have b1 := hxo.s0
 have b2 := hxo.s1
 clear hxo
 have c1 := hms.at_ (by simp)
 have c2 := hms.cnt (by simp)
 simp only at c1 c2
 rw [OpM.may] at hm
 simp only at hm
 rw [hxn] at hm
 have c9 : lx.length ≤ 2048 := may_len hm0
 rw [hxn] at c9
 have HMay := Lib.hid (fun W (hW : Gr w W) => (hm ▸ mayOp_any 6 xv xt xs xa xc xD xn xq lx W hxn (by omega) (hr.gr hW) : Calls Tryz.prog 59 #[(.agg #[.int .i64 6, .int .u64 xv, .int .u64 xt, .int .i64 xs, .int .i64 xa, .int .i64 xc, .slice xD xn xq])] W fun e w' => e = .returned (.bool true) ∧ Gr W w'))
 have HT := Lib.hid (fun W (hW : Gr w W) => there_yes D M W (h.blk.gr hW))
 haveI := h.blk
 have x0 : w.cell? ⟨D, 0, none⟩ = some (.map (some M)) := (@block_cells _ _ 0 _ _ h.blk).trans rfl
 haveI : Old D w := h.blk.old
 have hlk := look_vol h xv _ hv
 simp only [volV, Option.isSome] at hlk
 clear hm hm0 hms hr h hv hxn
 obtain ⟨x1, xm⟩ := x
 simp only at b1 b2 hf
 go_enter Tryz.func90, Tryz.ntmps90
 go_wp2_with (first | (go_at_call 50; ((with_reducible refine (HT.out _ gri).mono ?_); rintro _ _ ⟨rfl, g1, rfl⟩)) | (go_at_call 59; ((with_reducible refine (HMay.out _ gri).mono ?_); rintro _ _ ⟨rfl, g2, rfl⟩)))
 refine wp_region_tree (mixw_ghost _) [] (mixw_nil _) [0, 1, 2, 3, 4, 5, 6, 7, 8, 9] 3 (by kernel_rfl) (by kernel_rfl) ?_
 simp only [pick, List.drop, List.take, List.nil_append, List.cons_append]
 repeat (refine wpCalm_step (fun K hK => ?_); go_simp; first | (refine hK _ ?_; clear hK K) | (apply Exists.intro; refine ⟨fun _ => ?_, hK _ ?_⟩; (fail); clear hK K))
 refine wpCalm_nil ?_
 refine fe_mixAlloc 10 (by kernel_rfl) rfl rfl rfl Tryz.zeroValue115 fun b5_0 hb5_0 nb5_0 => ?_
 simp only [Act.put, List.setIfInBounds_toArray, List.set]
 refine fe_mixStore 11 [(b5_0, #[.int .i64 x1, .map (some (mb xv))], 115)] #[.int .i64 x1, .map (some (mb xv))] (by kernel_rfl) rfl rfl rfl rfl List.mem_cons_self hb5_0 rfl rfl rfl rfl (fun z hz => .inl (by simpa using hz)) ?_
 simp only [Act.put, List.setIfInBounds_toArray, List.set]
 refine fe_mixCalm 12 _ (by kernel_rfl) rfl rfl (fun g => calm_assign g rfl) ?_
 simp only [Act.put, List.setIfInBounds_toArray, List.set]
 refine fe_end (by kernel_rfl) ?_
 intro w1 hw1
 have cb5_0 : ∀ o, w1.cell? ⟨b5_0, o, none⟩ = (#[.int .i64 x1, .map (some (mb xv))] : Array Value)[o]? := mix_cell hw1 List.mem_cons_self
 have fb5_0 : ∀ o, w1.frozen? ⟨b5_0, o, none⟩ = false := mix_frozen hw1 List.mem_cons_self
 have ob5_0 : Old b5_0 w1 := mix_old hw1 List.mem_cons_self
 have qb5_0 := @fresh_ne _ _ hb5_0
 have rb5_0 := @fresh_en _ _ hb5_0
 have lb5_0 := fresh_le hb5_0 w.heap.size
 obtain ⟨⟨g5, rfl⟩, hbs⟩ := hw1
 clear hbs nb5_0
 go_wp2_with ((go_at_call 116; ((with_reducible refine (part_6 _ _ _ _ _ _ _ _ (by omega) _).mono ?_); rintro _ _ ⟨rfl, g3, rfl⟩)))
 go_ret
 exact ⟨rfl, gri⟩
set_option maxHeartbeats 4000000 in
theorem refused_7_none (xv xt xs xa xc : Int) (xD : Option Addr) (xn xq : Nat) (lx : Byt) (hxn : lx.length = xn) (base D : Nat) (d : Dev) (w : World) (h : DevAt base w D d) (hr : Row bv w xD lx) (hm : OpM.may ⟨7, xv, xt, xs, xa, xc, lx⟩ = true) (hv : getK d xv = none)  :
  Calls Tryz.prog 90 #[.pointer (some ⟨D, 0, none⟩), (.agg #[.int .i64 7, .int .u64 xv, .int .u64 xt, .int .i64 xs, .int .i64 xa, .int .i64 xc, .slice xD xn xq])] w fun e w' => e = .returned (.int .i64 6) ∧ Gr w w' := by
 have hms := may_s hm
 have hm0 := hm
 obtain ⟨M, mb, h⟩ := h
 have c1 := hms.at_ (by simp)
 have c2 := hms.cnt (by simp)
 simp only at c1 c2
 rw [OpM.may] at hm
 simp only at hm
 rw [hxn] at hm
 have c9 : lx.length ≤ 2048 := may_len hm0
 rw [hxn] at c9
 have HMay := Lib.hid (fun W (hW : Gr w W) => (hm ▸ mayOp_any 7 xv xt xs xa xc xD xn xq lx W hxn (by omega) (hr.gr hW) : Calls Tryz.prog 59 #[(.agg #[.int .i64 7, .int .u64 xv, .int .u64 xt, .int .i64 xs, .int .i64 xa, .int .i64 xc, .slice xD xn xq])] W fun e w' => e = .returned (.bool true) ∧ Gr W w'))
 have HT := Lib.hid (fun W (hW : Gr w W) => there_yes D M W (h.blk.gr hW))
 haveI := h.blk
 have x0 : w.cell? ⟨D, 0, none⟩ = some (.map (some M)) := (@block_cells _ _ 0 _ _ h.blk).trans rfl
 haveI : Old D w := h.blk.old
 have hlk := look_vol h xv _ hv
 simp only [volV, Option.isSome] at hlk
 clear hm hm0 hms hr h hv hxn
 go_enter Tryz.func90, Tryz.ntmps90
 go_wp2_with (first | (go_at_call 50; ((with_reducible refine (HT.out _ gri).mono ?_); rintro _ _ ⟨rfl, g1, rfl⟩)) | (go_at_call 59; ((with_reducible refine (HMay.out _ gri).mono ?_); rintro _ _ ⟨rfl, g2, rfl⟩)))
 refine wp_region_tree (mixw_ghost _) [] (mixw_nil _) [0, 1, 2, 3, 4, 5, 6, 7, 8, 9] 3 (by kernel_rfl) (by kernel_rfl) ?_
 simp only [pick, List.drop, List.take, List.nil_append, List.cons_append]
 repeat (refine wpCalm_step (fun K hK => ?_); go_simp; first | (refine hK _ ?_; clear hK K) | (apply Exists.intro; refine ⟨fun _ => ?_, hK _ ?_⟩; (fail); clear hK K))
 refine wpCalm_nil ?_
 refine fe_mixAlloc 10 (by kernel_rfl) rfl rfl rfl Tryz.zeroValue115 fun b5_0 hb5_0 nb5_0 => ?_
 simp only [Act.put, List.setIfInBounds_toArray, List.set]
 refine fe_mixStore 11 [(b5_0, #[.int .i64 0, .map none], 115)] #[.int .i64 0, .map none] (by kernel_rfl) rfl rfl rfl rfl List.mem_cons_self hb5_0 rfl rfl rfl rfl (fun z hz => .inl (by simpa using hz)) ?_
 simp only [Act.put, List.setIfInBounds_toArray, List.set]
 refine fe_mixCalm 12 _ (by kernel_rfl) rfl rfl (fun g => calm_assign g rfl) ?_
 simp only [Act.put, List.setIfInBounds_toArray, List.set]
 refine fe_end (by kernel_rfl) ?_
 intro w1 hw1
 have cb5_0 : ∀ o, w1.cell? ⟨b5_0, o, none⟩ = (#[.int .i64 0, .map none] : Array Value)[o]? := mix_cell hw1 List.mem_cons_self
 have fb5_0 : ∀ o, w1.frozen? ⟨b5_0, o, none⟩ = false := mix_frozen hw1 List.mem_cons_self
 have ob5_0 : Old b5_0 w1 := mix_old hw1 List.mem_cons_self
 have qb5_0 := @fresh_ne _ _ hb5_0
 have rb5_0 := @fresh_en _ _ hb5_0
 have lb5_0 := fresh_le hb5_0 w.heap.size
 obtain ⟨⟨g5, rfl⟩, hbs⟩ := hw1
 clear hbs nb5_0
 go_wp2_with ((go_at_call 116; ((with_reducible refine (part_7 _ _ _ _ _ _ _ _ (by omega) _).mono ?_); rintro _ _ ⟨rfl, g3, rfl⟩)))
 go_ret
 exact ⟨rfl, gri⟩
set_option maxHeartbeats 4000000 in
theorem refused_7_fit (xv xt xs xa xc : Int) (xD : Option Addr) (xn xq : Nat) (lx : Byt) (hxn : lx.length = xn) (base D : Nat) (d : Dev) (w : World) (h : DevAt base w D d) (hr : Row bv w xD lx) (hm : OpM.may ⟨7, xv, xt, xs, xa, xc, lx⟩ = true) (x : VolM) (hv : getK d xv = some x) (hf : ¬ x.1 < xa + xc) :
  Calls Tryz.prog 90 #[.pointer (some ⟨D, 0, none⟩), (.agg #[.int .i64 7, .int .u64 xv, .int .u64 xt, .int .i64 xs, .int .i64 xa, .int .i64 xc, .slice xD xn xq])] w fun e w' => e = .returned (.int .i64 0) ∧ Gr w w' := by
 have hms := may_s hm
 have hm0 := hm
 obtain ⟨M, mb, h⟩ := h
 have hxo := h.ok.vols _ ((getK_mem h.ok.sort).1 hv)
 have b1 := hxo.s0
 have b2 := hxo.s1
 clear hxo
 have c1 := hms.at_ (by simp)
 have c2 := hms.cnt (by simp)
 simp only at c1 c2
 rw [OpM.may] at hm
 simp only at hm
 rw [hxn] at hm
 have c9 : lx.length ≤ 2048 := may_len hm0
 rw [hxn] at c9
 have HMay := Lib.hid (fun W (hW : Gr w W) => (hm ▸ mayOp_any 7 xv xt xs xa xc xD xn xq lx W hxn (by omega) (hr.gr hW) : Calls Tryz.prog 59 #[(.agg #[.int .i64 7, .int .u64 xv, .int .u64 xt, .int .i64 xs, .int .i64 xa, .int .i64 xc, .slice xD xn xq])] W fun e w' => e = .returned (.bool true) ∧ Gr W w'))
 have HT := Lib.hid (fun W (hW : Gr w W) => there_yes D M W (h.blk.gr hW))
 haveI := h.blk
 have x0 : w.cell? ⟨D, 0, none⟩ = some (.map (some M)) := (@block_cells _ _ 0 _ _ h.blk).trans rfl
 haveI : Old D w := h.blk.old
 have hlk := look_vol h xv _ hv
 simp only [volV, Option.isSome] at hlk
 clear hm hm0 hms hr h hv hxn
 obtain ⟨x1, xm⟩ := x
 simp only at b1 b2 hf
 go_enter Tryz.func90, Tryz.ntmps90
 go_wp2_with (first | (go_at_call 50; ((with_reducible refine (HT.out _ gri).mono ?_); rintro _ _ ⟨rfl, g1, rfl⟩)) | (go_at_call 59; ((with_reducible refine (HMay.out _ gri).mono ?_); rintro _ _ ⟨rfl, g2, rfl⟩)))
 refine wp_region_tree (mixw_ghost _) [] (mixw_nil _) [0, 1, 2, 3, 4, 5, 6, 7, 8, 9] 3 (by kernel_rfl) (by kernel_rfl) ?_
 simp only [pick, List.drop, List.take, List.nil_append, List.cons_append]
 repeat (refine wpCalm_step (fun K hK => ?_); go_simp; first | (refine hK _ ?_; clear hK K) | (apply Exists.intro; refine ⟨fun _ => ?_, hK _ ?_⟩; (fail); clear hK K))
 refine wpCalm_nil ?_
 refine fe_mixAlloc 10 (by kernel_rfl) rfl rfl rfl Tryz.zeroValue115 fun b5_0 hb5_0 nb5_0 => ?_
 simp only [Act.put, List.setIfInBounds_toArray, List.set]
 refine fe_mixStore 11 [(b5_0, #[.int .i64 x1, .map (some (mb xv))], 115)] #[.int .i64 x1, .map (some (mb xv))] (by kernel_rfl) rfl rfl rfl rfl List.mem_cons_self hb5_0 rfl rfl rfl rfl (fun z hz => .inl (by simpa using hz)) ?_
 simp only [Act.put, List.setIfInBounds_toArray, List.set]
 refine fe_mixCalm 12 _ (by kernel_rfl) rfl rfl (fun g => calm_assign g rfl) ?_
 simp only [Act.put, List.setIfInBounds_toArray, List.set]
 refine fe_end (by kernel_rfl) ?_
 intro w1 hw1
 have cb5_0 : ∀ o, w1.cell? ⟨b5_0, o, none⟩ = (#[.int .i64 x1, .map (some (mb xv))] : Array Value)[o]? := mix_cell hw1 List.mem_cons_self
 have fb5_0 : ∀ o, w1.frozen? ⟨b5_0, o, none⟩ = false := mix_frozen hw1 List.mem_cons_self
 have ob5_0 : Old b5_0 w1 := mix_old hw1 List.mem_cons_self
 have qb5_0 := @fresh_ne _ _ hb5_0
 have rb5_0 := @fresh_en _ _ hb5_0
 have lb5_0 := fresh_le hb5_0 w.heap.size
 obtain ⟨⟨g5, rfl⟩, hbs⟩ := hw1
 clear hbs nb5_0
 go_wp2_with ((go_at_call 116; ((with_reducible refine (part_7 _ _ _ _ _ _ _ _ (by omega) _).mono ?_); rintro _ _ ⟨rfl, g3, rfl⟩)))
 go_ret
 exact ⟨rfl, gri⟩
set_option maxHeartbeats 4000000 in
theorem refused_7_over (xv xt xs xa xc : Int) (xD : Option Addr) (xn xq : Nat) (lx : Byt) (hxn : lx.length = xn) (base D : Nat) (d : Dev) (w : World) (h : DevAt base w D d) (hr : Row bv w xD lx) (hm : OpM.may ⟨7, xv, xt, xs, xa, xc, lx⟩ = true) (x : VolM) (hv : getK d xv = some x) (hf : x.1 < xa + xc) :
  Calls Tryz.prog 90 #[.pointer (some ⟨D, 0, none⟩), (.agg #[.int .i64 7, .int .u64 xv, .int .u64 xt, .int .i64 xs, .int .i64 xa, .int .i64 xc, .slice xD xn xq])] w fun e w' => e = .returned (.int .i64 5) ∧ Gr w w' := by
 have hms := may_s hm
 have hm0 := hm
 obtain ⟨M, mb, h⟩ := h
 have hxo := h.ok.vols _ ((getK_mem h.ok.sort).1 hv)
 have b1 := hxo.s0
 have b2 := hxo.s1
 clear hxo
 have c1 := hms.at_ (by simp)
 have c2 := hms.cnt (by simp)
 simp only at c1 c2
 rw [OpM.may] at hm
 simp only at hm
 rw [hxn] at hm
 have c9 : lx.length ≤ 2048 := may_len hm0
 rw [hxn] at c9
 have HMay := Lib.hid (fun W (hW : Gr w W) => (hm ▸ mayOp_any 7 xv xt xs xa xc xD xn xq lx W hxn (by omega) (hr.gr hW) : Calls Tryz.prog 59 #[(.agg #[.int .i64 7, .int .u64 xv, .int .u64 xt, .int .i64 xs, .int .i64 xa, .int .i64 xc, .slice xD xn xq])] W fun e w' => e = .returned (.bool true) ∧ Gr W w'))
 have HT := Lib.hid (fun W (hW : Gr w W) => there_yes D M W (h.blk.gr hW))
 haveI := h.blk
 have x0 : w.cell? ⟨D, 0, none⟩ = some (.map (some M)) := (@block_cells _ _ 0 _ _ h.blk).trans rfl
 haveI : Old D w := h.blk.old
 have hlk := look_vol h xv _ hv
 simp only [volV, Option.isSome] at hlk
 clear hm hm0 hms hr h hv hxn
 obtain ⟨x1, xm⟩ := x
 simp only at b1 b2 hf
 go_enter Tryz.func90, Tryz.ntmps90
 go_wp2_with (first | (go_at_call 50; ((with_reducible refine (HT.out _ gri).mono ?_); rintro _ _ ⟨rfl, g1, rfl⟩)) | (go_at_call 59; ((with_reducible refine (HMay.out _ gri).mono ?_); rintro _ _ ⟨rfl, g2, rfl⟩)))
 refine wp_region_tree (mixw_ghost _) [] (mixw_nil _) [0, 1, 2, 3, 4, 5, 6, 7, 8, 9] 3 (by kernel_rfl) (by kernel_rfl) ?_
 simp only [pick, List.drop, List.take, List.nil_append, List.cons_append]
 repeat (refine wpCalm_step (fun K hK => ?_); go_simp; first | (refine hK _ ?_; clear hK K) | (apply Exists.intro; refine ⟨fun _ => ?_, hK _ ?_⟩; (fail); clear hK K))
 refine wpCalm_nil ?_
 refine fe_mixAlloc 10 (by kernel_rfl) rfl rfl rfl Tryz.zeroValue115 fun b5_0 hb5_0 nb5_0 => ?_
 simp only [Act.put, List.setIfInBounds_toArray, List.set]
 refine fe_mixStore 11 [(b5_0, #[.int .i64 x1, .map (some (mb xv))], 115)] #[.int .i64 x1, .map (some (mb xv))] (by kernel_rfl) rfl rfl rfl rfl List.mem_cons_self hb5_0 rfl rfl rfl rfl (fun z hz => .inl (by simpa using hz)) ?_
 simp only [Act.put, List.setIfInBounds_toArray, List.set]
 refine fe_mixCalm 12 _ (by kernel_rfl) rfl rfl (fun g => calm_assign g rfl) ?_
 simp only [Act.put, List.setIfInBounds_toArray, List.set]
 refine fe_end (by kernel_rfl) ?_
 intro w1 hw1
 have cb5_0 : ∀ o, w1.cell? ⟨b5_0, o, none⟩ = (#[.int .i64 x1, .map (some (mb xv))] : Array Value)[o]? := mix_cell hw1 List.mem_cons_self
 have fb5_0 : ∀ o, w1.frozen? ⟨b5_0, o, none⟩ = false := mix_frozen hw1 List.mem_cons_self
 have ob5_0 : Old b5_0 w1 := mix_old hw1 List.mem_cons_self
 have qb5_0 := @fresh_ne _ _ hb5_0
 have rb5_0 := @fresh_en _ _ hb5_0
 have lb5_0 := fresh_le hb5_0 w.heap.size
 obtain ⟨⟨g5, rfl⟩, hbs⟩ := hw1
 clear hbs nb5_0
 go_wp2_with ((go_at_call 116; ((with_reducible refine (part_7 _ _ _ _ _ _ _ _ (by omega) _).mono ?_); rintro _ _ ⟨rfl, g3, rfl⟩)))
 go_ret
 exact ⟨rfl, gri⟩
set_option maxHeartbeats 4000000 in
theorem refused_8_none (xv xt xs xa xc : Int) (xD : Option Addr) (xn xq : Nat) (lx : Byt) (hxn : lx.length = xn) (base D : Nat) (d : Dev) (w : World) (h : DevAt base w D d) (hr : Row bv w xD lx) (hm : OpM.may ⟨8, xv, xt, xs, xa, xc, lx⟩ = true) (hv : getK d xv = none)  :
  Calls Tryz.prog 90 #[.pointer (some ⟨D, 0, none⟩), (.agg #[.int .i64 8, .int .u64 xv, .int .u64 xt, .int .i64 xs, .int .i64 xa, .int .i64 xc, .slice xD xn xq])] w fun e w' => e = .returned (.int .i64 0) ∧ Gr w w' := by
 have hms := may_s hm
 have hm0 := hm
 obtain ⟨M, mb, h⟩ := h
 rw [OpM.may] at hm
 simp only at hm
 rw [hxn] at hm
 have c9 : lx.length ≤ 2048 := may_len hm0
 rw [hxn] at c9
 have HMay := Lib.hid (fun W (hW : Gr w W) => (hm ▸ mayOp_any 8 xv xt xs xa xc xD xn xq lx W hxn (by omega) (hr.gr hW) : Calls Tryz.prog 59 #[(.agg #[.int .i64 8, .int .u64 xv, .int .u64 xt, .int .i64 xs, .int .i64 xa, .int .i64 xc, .slice xD xn xq])] W fun e w' => e = .returned (.bool true) ∧ Gr W w'))
 have HT := Lib.hid (fun W (hW : Gr w W) => there_yes D M W (h.blk.gr hW))
 haveI := h.blk
 have x0 : w.cell? ⟨D, 0, none⟩ = some (.map (some M)) := (@block_cells _ _ 0 _ _ h.blk).trans rfl
 haveI : Old D w := h.blk.old
 have hlk := look_vol h xv _ hv
 simp only [volV, Option.isSome] at hlk
 clear hm hm0 hms hr h hv hxn
 go_enter Tryz.func90, Tryz.ntmps90
 go_wp2_with (first | (go_at_call 50; ((with_reducible refine (HT.out _ gri).mono ?_); rintro _ _ ⟨rfl, g1, rfl⟩)) | (go_at_call 59; ((with_reducible refine (HMay.out _ gri).mono ?_); rintro _ _ ⟨rfl, g2, rfl⟩)))
 refine wp_region_tree (mixw_ghost _) [] (mixw_nil _) [0, 1, 2, 3, 4, 5, 6, 7, 8, 9] 3 (by kernel_rfl) (by kernel_rfl) ?_
 simp only [pick, List.drop, List.take, List.nil_append, List.cons_append]
 repeat (refine wpCalm_step (fun K hK => ?_); go_simp; first | (refine hK _ ?_; clear hK K) | (apply Exists.intro; refine ⟨fun _ => ?_, hK _ ?_⟩; (fail); clear hK K))
 refine wpCalm_nil ?_
 refine fe_mixAlloc 10 (by kernel_rfl) rfl rfl rfl Tryz.zeroValue115 fun b5_0 hb5_0 nb5_0 => ?_
 simp only [Act.put, List.setIfInBounds_toArray, List.set]
 refine fe_mixStore 11 [(b5_0, #[.int .i64 0, .map none], 115)] #[.int .i64 0, .map none] (by kernel_rfl) rfl rfl rfl rfl List.mem_cons_self hb5_0 rfl rfl rfl rfl (fun z hz => .inl (by simpa using hz)) ?_
 simp only [Act.put, List.setIfInBounds_toArray, List.set]
 refine fe_mixCalm 12 _ (by kernel_rfl) rfl rfl (fun g => calm_assign g rfl) ?_
 simp only [Act.put, List.setIfInBounds_toArray, List.set]
 refine fe_end (by kernel_rfl) ?_
 intro w1 hw1
 have cb5_0 : ∀ o, w1.cell? ⟨b5_0, o, none⟩ = (#[.int .i64 0, .map none] : Array Value)[o]? := mix_cell hw1 List.mem_cons_self
 have fb5_0 : ∀ o, w1.frozen? ⟨b5_0, o, none⟩ = false := mix_frozen hw1 List.mem_cons_self
 have ob5_0 : Old b5_0 w1 := mix_old hw1 List.mem_cons_self
 have qb5_0 := @fresh_ne _ _ hb5_0
 have rb5_0 := @fresh_en _ _ hb5_0
 have lb5_0 := fresh_le hb5_0 w.heap.size
 obtain ⟨⟨g5, rfl⟩, hbs⟩ := hw1
 clear hbs nb5_0
 go_wp2_with fail
 go_ret
 exact ⟨rfl, gri⟩
set_option maxHeartbeats 4000000 in
theorem refused_8_some (xv xt xs xa xc : Int) (xD : Option Addr) (xn xq : Nat) (lx : Byt) (hxn : lx.length = xn) (base D : Nat) (d : Dev) (w : World) (h : DevAt base w D d) (hr : Row bv w xD lx) (hm : OpM.may ⟨8, xv, xt, xs, xa, xc, lx⟩ = true) (x : VolM) (hv : getK d xv = some x)  :
  Calls Tryz.prog 90 #[.pointer (some ⟨D, 0, none⟩), (.agg #[.int .i64 8, .int .u64 xv, .int .u64 xt, .int .i64 xs, .int .i64 xa, .int .i64 xc, .slice xD xn xq])] w fun e w' => e = .returned (.int .i64 0) ∧ Gr w w' := by
 have hms := may_s hm
 have hm0 := hm
 obtain ⟨M, mb, h⟩ := h
 have hxo := h.ok.vols _ ((getK_mem h.ok.sort).1 hv)
 have b1 := hxo.s0
 have b2 := hxo.s1
 clear hxo
 rw [OpM.may] at hm
 simp only at hm
 rw [hxn] at hm
 have c9 : lx.length ≤ 2048 := may_len hm0
 rw [hxn] at c9
 have HMay := Lib.hid (fun W (hW : Gr w W) => (hm ▸ mayOp_any 8 xv xt xs xa xc xD xn xq lx W hxn (by omega) (hr.gr hW) : Calls Tryz.prog 59 #[(.agg #[.int .i64 8, .int .u64 xv, .int .u64 xt, .int .i64 xs, .int .i64 xa, .int .i64 xc, .slice xD xn xq])] W fun e w' => e = .returned (.bool true) ∧ Gr W w'))
 have HT := Lib.hid (fun W (hW : Gr w W) => there_yes D M W (h.blk.gr hW))
 haveI := h.blk
 have x0 : w.cell? ⟨D, 0, none⟩ = some (.map (some M)) := (@block_cells _ _ 0 _ _ h.blk).trans rfl
 haveI : Old D w := h.blk.old
 have hlk := look_vol h xv _ hv
 simp only [volV, Option.isSome] at hlk
 clear hm hm0 hms hr h hv hxn
 obtain ⟨x1, xm⟩ := x
 simp only at b1 b2
 go_enter Tryz.func90, Tryz.ntmps90
 go_wp2_with (first | (go_at_call 50; ((with_reducible refine (HT.out _ gri).mono ?_); rintro _ _ ⟨rfl, g1, rfl⟩)) | (go_at_call 59; ((with_reducible refine (HMay.out _ gri).mono ?_); rintro _ _ ⟨rfl, g2, rfl⟩)))
 refine wp_region_tree (mixw_ghost _) [] (mixw_nil _) [0, 1, 2, 3, 4, 5, 6, 7, 8, 9] 3 (by kernel_rfl) (by kernel_rfl) ?_
 simp only [pick, List.drop, List.take, List.nil_append, List.cons_append]
 repeat (refine wpCalm_step (fun K hK => ?_); go_simp; first | (refine hK _ ?_; clear hK K) | (apply Exists.intro; refine ⟨fun _ => ?_, hK _ ?_⟩; (fail); clear hK K))
 refine wpCalm_nil ?_
 refine fe_mixAlloc 10 (by kernel_rfl) rfl rfl rfl Tryz.zeroValue115 fun b5_0 hb5_0 nb5_0 => ?_
 simp only [Act.put, List.setIfInBounds_toArray, List.set]
 refine fe_mixStore 11 [(b5_0, #[.int .i64 x1, .map (some (mb xv))], 115)] #[.int .i64 x1, .map (some (mb xv))] (by kernel_rfl) rfl rfl rfl rfl List.mem_cons_self hb5_0 rfl rfl rfl rfl (fun z hz => .inl (by simpa using hz)) ?_
 simp only [Act.put, List.setIfInBounds_toArray, List.set]
 refine fe_mixCalm 12 _ (by kernel_rfl) rfl rfl (fun g => calm_assign g rfl) ?_
 simp only [Act.put, List.setIfInBounds_toArray, List.set]
 refine fe_end (by kernel_rfl) ?_
 intro w1 hw1
 have cb5_0 : ∀ o, w1.cell? ⟨b5_0, o, none⟩ = (#[.int .i64 x1, .map (some (mb xv))] : Array Value)[o]? := mix_cell hw1 List.mem_cons_self
 have fb5_0 : ∀ o, w1.frozen? ⟨b5_0, o, none⟩ = false := mix_frozen hw1 List.mem_cons_self
 have ob5_0 : Old b5_0 w1 := mix_old hw1 List.mem_cons_self
 have qb5_0 := @fresh_ne _ _ hb5_0
 have rb5_0 := @fresh_en _ _ hb5_0
 have lb5_0 := fresh_le hb5_0 w.heap.size
 obtain ⟨⟨g5, rfl⟩, hbs⟩ := hw1
 clear hbs nb5_0
 go_wp2_with fail
 go_ret
 exact ⟨rfl, gri⟩
set_option maxHeartbeats 4000000 in
theorem refused_9_none (xv xt xs xa xc : Int) (xD : Option Addr) (xn xq : Nat) (lx : Byt) (hxn : lx.length = xn) (base D : Nat) (d : Dev) (w : World) (h : DevAt base w D d) (hr : Row bv w xD lx) (hm : OpM.may ⟨9, xv, xt, xs, xa, xc, lx⟩ = true) (hv : getK d xv = none)  :
  Calls Tryz.prog 90 #[.pointer (some ⟨D, 0, none⟩), (.agg #[.int .i64 9, .int .u64 xv, .int .u64 xt, .int .i64 xs, .int .i64 xa, .int .i64 xc, .slice xD xn xq])] w fun e w' => e = .returned (.int .i64 6) ∧ Gr w w' := by
 have hms := may_s hm
 have hm0 := hm
 obtain ⟨M, mb, h⟩ := h
 have c1 := hms.at_ (by simp)
 have c2 := hms.cnt (by simp)
 simp only at c1 c2
 rw [OpM.may] at hm
 simp only at hm
 rw [hxn] at hm
 have c9 : lx.length ≤ 2048 := may_len hm0
 rw [hxn] at c9
 have HMay := Lib.hid (fun W (hW : Gr w W) => (hm ▸ mayOp_any 9 xv xt xs xa xc xD xn xq lx W hxn (by omega) (hr.gr hW) : Calls Tryz.prog 59 #[(.agg #[.int .i64 9, .int .u64 xv, .int .u64 xt, .int .i64 xs, .int .i64 xa, .int .i64 xc, .slice xD xn xq])] W fun e w' => e = .returned (.bool true) ∧ Gr W w'))
 have HT := Lib.hid (fun W (hW : Gr w W) => there_yes D M W (h.blk.gr hW))
 haveI := h.blk
 have x0 : w.cell? ⟨D, 0, none⟩ = some (.map (some M)) := (@block_cells _ _ 0 _ _ h.blk).trans rfl
 haveI : Old D w := h.blk.old
 have hlk := look_vol h xv _ hv
 simp only [volV, Option.isSome] at hlk
 clear hm hm0 hms hr h hv hxn
 go_enter Tryz.func90, Tryz.ntmps90
 go_wp2_with (first | (go_at_call 50; ((with_reducible refine (HT.out _ gri).mono ?_); rintro _ _ ⟨rfl, g1, rfl⟩)) | (go_at_call 59; ((with_reducible refine (HMay.out _ gri).mono ?_); rintro _ _ ⟨rfl, g2, rfl⟩)))
 refine wp_region_tree (mixw_ghost _) [] (mixw_nil _) [0, 1, 2, 3, 4, 5, 6, 7, 8, 9] 3 (by kernel_rfl) (by kernel_rfl) ?_
 simp only [pick, List.drop, List.take, List.nil_append, List.cons_append]
 repeat (refine wpCalm_step (fun K hK => ?_); go_simp; first | (refine hK _ ?_; clear hK K) | (apply Exists.intro; refine ⟨fun _ => ?_, hK _ ?_⟩; (fail); clear hK K))
 refine wpCalm_nil ?_
 refine fe_mixAlloc 10 (by kernel_rfl) rfl rfl rfl Tryz.zeroValue115 fun b5_0 hb5_0 nb5_0 => ?_
 simp only [Act.put, List.setIfInBounds_toArray, List.set]
 refine fe_mixStore 11 [(b5_0, #[.int .i64 0, .map none], 115)] #[.int .i64 0, .map none] (by kernel_rfl) rfl rfl rfl rfl List.mem_cons_self hb5_0 rfl rfl rfl rfl (fun z hz => .inl (by simpa using hz)) ?_
 simp only [Act.put, List.setIfInBounds_toArray, List.set]
 refine fe_mixCalm 12 _ (by kernel_rfl) rfl rfl (fun g => calm_assign g rfl) ?_
 simp only [Act.put, List.setIfInBounds_toArray, List.set]
 refine fe_end (by kernel_rfl) ?_
 intro w1 hw1
 have cb5_0 : ∀ o, w1.cell? ⟨b5_0, o, none⟩ = (#[.int .i64 0, .map none] : Array Value)[o]? := mix_cell hw1 List.mem_cons_self
 have fb5_0 : ∀ o, w1.frozen? ⟨b5_0, o, none⟩ = false := mix_frozen hw1 List.mem_cons_self
 have ob5_0 : Old b5_0 w1 := mix_old hw1 List.mem_cons_self
 have qb5_0 := @fresh_ne _ _ hb5_0
 have rb5_0 := @fresh_en _ _ hb5_0
 have lb5_0 := fresh_le hb5_0 w.heap.size
 obtain ⟨⟨g5, rfl⟩, hbs⟩ := hw1
 clear hbs nb5_0
 go_wp2_with ((go_at_call 116; ((with_reducible refine (part_9 _ _ _ _ _ _ _ _ (by omega) _).mono ?_); rintro _ _ ⟨rfl, g3, rfl⟩)))
 go_ret
 exact ⟨rfl, gri⟩
set_option maxHeartbeats 4000000 in
theorem refused_9_fit (xv xt xs xa xc : Int) (xD : Option Addr) (xn xq : Nat) (lx : Byt) (hxn : lx.length = xn) (base D : Nat) (d : Dev) (w : World) (h : DevAt base w D d) (hr : Row bv w xD lx) (hm : OpM.may ⟨9, xv, xt, xs, xa, xc, lx⟩ = true) (x : VolM) (hv : getK d xv = some x) (hf : ¬ 4 * x.1 < xa + xc) :
  Calls Tryz.prog 90 #[.pointer (some ⟨D, 0, none⟩), (.agg #[.int .i64 9, .int .u64 xv, .int .u64 xt, .int .i64 xs, .int .i64 xa, .int .i64 xc, .slice xD xn xq])] w fun e w' => e = .returned (.int .i64 0) ∧ Gr w w' := by
 have hms := may_s hm
 have hm0 := hm
 obtain ⟨M, mb, h⟩ := h
 have hxo := h.ok.vols _ ((getK_mem h.ok.sort).1 hv)
 have b1 := hxo.s0
 have b2 := hxo.s1
 clear hxo
 have c1 := hms.at_ (by simp)
 have c2 := hms.cnt (by simp)
 simp only at c1 c2
 rw [OpM.may] at hm
 simp only at hm
 rw [hxn] at hm
 have c9 : lx.length ≤ 2048 := may_len hm0
 rw [hxn] at c9
 have HMay := Lib.hid (fun W (hW : Gr w W) => (hm ▸ mayOp_any 9 xv xt xs xa xc xD xn xq lx W hxn (by omega) (hr.gr hW) : Calls Tryz.prog 59 #[(.agg #[.int .i64 9, .int .u64 xv, .int .u64 xt, .int .i64 xs, .int .i64 xa, .int .i64 xc, .slice xD xn xq])] W fun e w' => e = .returned (.bool true) ∧ Gr W w'))
 have HT := Lib.hid (fun W (hW : Gr w W) => there_yes D M W (h.blk.gr hW))
 haveI := h.blk
 have x0 : w.cell? ⟨D, 0, none⟩ = some (.map (some M)) := (@block_cells _ _ 0 _ _ h.blk).trans rfl
 haveI : Old D w := h.blk.old
 have hlk := look_vol h xv _ hv
 simp only [volV, Option.isSome] at hlk
 clear hm hm0 hms hr h hv hxn
 obtain ⟨x1, xm⟩ := x
 simp only at b1 b2 hf
 go_enter Tryz.func90, Tryz.ntmps90
 go_wp2_with (first | (go_at_call 50; ((with_reducible refine (HT.out _ gri).mono ?_); rintro _ _ ⟨rfl, g1, rfl⟩)) | (go_at_call 59; ((with_reducible refine (HMay.out _ gri).mono ?_); rintro _ _ ⟨rfl, g2, rfl⟩)))
 refine wp_region_tree (mixw_ghost _) [] (mixw_nil _) [0, 1, 2, 3, 4, 5, 6, 7, 8, 9] 3 (by kernel_rfl) (by kernel_rfl) ?_
 simp only [pick, List.drop, List.take, List.nil_append, List.cons_append]
 repeat (refine wpCalm_step (fun K hK => ?_); go_simp; first | (refine hK _ ?_; clear hK K) | (apply Exists.intro; refine ⟨fun _ => ?_, hK _ ?_⟩; (fail); clear hK K))
 refine wpCalm_nil ?_
 refine fe_mixAlloc 10 (by kernel_rfl) rfl rfl rfl Tryz.zeroValue115 fun b5_0 hb5_0 nb5_0 => ?_
 simp only [Act.put, List.setIfInBounds_toArray, List.set]
 refine fe_mixStore 11 [(b5_0, #[.int .i64 x1, .map (some (mb xv))], 115)] #[.int .i64 x1, .map (some (mb xv))] (by kernel_rfl) rfl rfl rfl rfl List.mem_cons_self hb5_0 rfl rfl rfl rfl (fun z hz => .inl (by simpa using hz)) ?_
 simp only [Act.put, List.setIfInBounds_toArray, List.set]
 refine fe_mixCalm 12 _ (by kernel_rfl) rfl rfl (fun g => calm_assign g rfl) ?_
 simp only [Act.put, List.setIfInBounds_toArray, List.set]
 refine fe_end (by kernel_rfl) ?_
 intro w1 hw1
 have cb5_0 : ∀ o, w1.cell? ⟨b5_0, o, none⟩ = (#[.int .i64 x1, .map (some (mb xv))] : Array Value)[o]? := mix_cell hw1 List.mem_cons_self
 have fb5_0 : ∀ o, w1.frozen? ⟨b5_0, o, none⟩ = false := mix_frozen hw1 List.mem_cons_self
 have ob5_0 : Old b5_0 w1 := mix_old hw1 List.mem_cons_self
 have qb5_0 := @fresh_ne _ _ hb5_0
 have rb5_0 := @fresh_en _ _ hb5_0
 have lb5_0 := fresh_le hb5_0 w.heap.size
 obtain ⟨⟨g5, rfl⟩, hbs⟩ := hw1
 clear hbs nb5_0
 go_wp2_with ((go_at_call 116; ((with_reducible refine (part_9 _ _ _ _ _ _ _ _ (by omega) _).mono ?_); rintro _ _ ⟨rfl, g3, rfl⟩)))
 go_ret
 exact ⟨rfl, gri⟩
set_option maxHeartbeats 4000000 in
theorem refused_9_over (xv xt xs xa xc : Int) (xD : Option Addr) (xn xq : Nat) (lx : Byt) (hxn : lx.length = xn) (base D : Nat) (d : Dev) (w : World) (h : DevAt base w D d) (hr : Row bv w xD lx) (hm : OpM.may ⟨9, xv, xt, xs, xa, xc, lx⟩ = true) (x : VolM) (hv : getK d xv = some x) (hf : 4 * x.1 < xa + xc) :
  Calls Tryz.prog 90 #[.pointer (some ⟨D, 0, none⟩), (.agg #[.int .i64 9, .int .u64 xv, .int .u64 xt, .int .i64 xs, .int .i64 xa, .int .i64 xc, .slice xD xn xq])] w fun e w' => e = .returned (.int .i64 5) ∧ Gr w w' := by
 have hms := may_s hm
 have hm0 := hm
 obtain ⟨M, mb, h⟩ := h
 have hxo := h.ok.vols _ ((getK_mem h.ok.sort).1 hv)
 have b1 := hxo.s0
 have b2 := hxo.s1
 clear hxo
 have c1 := hms.at_ (by simp)
 have c2 := hms.cnt (by simp)
 simp only at c1 c2
 rw [OpM.may] at hm
 simp only at hm
 rw [hxn] at hm
 have c9 : lx.length ≤ 2048 := may_len hm0
 rw [hxn] at c9
 have HMay := Lib.hid (fun W (hW : Gr w W) => (hm ▸ mayOp_any 9 xv xt xs xa xc xD xn xq lx W hxn (by omega) (hr.gr hW) : Calls Tryz.prog 59 #[(.agg #[.int .i64 9, .int .u64 xv, .int .u64 xt, .int .i64 xs, .int .i64 xa, .int .i64 xc, .slice xD xn xq])] W fun e w' => e = .returned (.bool true) ∧ Gr W w'))
 have HT := Lib.hid (fun W (hW : Gr w W) => there_yes D M W (h.blk.gr hW))
 haveI := h.blk
 have x0 : w.cell? ⟨D, 0, none⟩ = some (.map (some M)) := (@block_cells _ _ 0 _ _ h.blk).trans rfl
 haveI : Old D w := h.blk.old
 have hlk := look_vol h xv _ hv
 simp only [volV, Option.isSome] at hlk
 clear hm hm0 hms hr h hv hxn
 obtain ⟨x1, xm⟩ := x
 simp only at b1 b2 hf
 go_enter Tryz.func90, Tryz.ntmps90
 go_wp2_with (first | (go_at_call 50; ((with_reducible refine (HT.out _ gri).mono ?_); rintro _ _ ⟨rfl, g1, rfl⟩)) | (go_at_call 59; ((with_reducible refine (HMay.out _ gri).mono ?_); rintro _ _ ⟨rfl, g2, rfl⟩)))
 refine wp_region_tree (mixw_ghost _) [] (mixw_nil _) [0, 1, 2, 3, 4, 5, 6, 7, 8, 9] 3 (by kernel_rfl) (by kernel_rfl) ?_
 simp only [pick, List.drop, List.take, List.nil_append, List.cons_append]
 repeat (refine wpCalm_step (fun K hK => ?_); go_simp; first | (refine hK _ ?_; clear hK K) | (apply Exists.intro; refine ⟨fun _ => ?_, hK _ ?_⟩; (fail); clear hK K))
 refine wpCalm_nil ?_
 refine fe_mixAlloc 10 (by kernel_rfl) rfl rfl rfl Tryz.zeroValue115 fun b5_0 hb5_0 nb5_0 => ?_
 simp only [Act.put, List.setIfInBounds_toArray, List.set]
 refine fe_mixStore 11 [(b5_0, #[.int .i64 x1, .map (some (mb xv))], 115)] #[.int .i64 x1, .map (some (mb xv))] (by kernel_rfl) rfl rfl rfl rfl List.mem_cons_self hb5_0 rfl rfl rfl rfl (fun z hz => .inl (by simpa using hz)) ?_
 simp only [Act.put, List.setIfInBounds_toArray, List.set]
 refine fe_mixCalm 12 _ (by kernel_rfl) rfl rfl (fun g => calm_assign g rfl) ?_
 simp only [Act.put, List.setIfInBounds_toArray, List.set]
 refine fe_end (by kernel_rfl) ?_
 intro w1 hw1
 have cb5_0 : ∀ o, w1.cell? ⟨b5_0, o, none⟩ = (#[.int .i64 x1, .map (some (mb xv))] : Array Value)[o]? := mix_cell hw1 List.mem_cons_self
 have fb5_0 : ∀ o, w1.frozen? ⟨b5_0, o, none⟩ = false := mix_frozen hw1 List.mem_cons_self
 have ob5_0 : Old b5_0 w1 := mix_old hw1 List.mem_cons_self
 have qb5_0 := @fresh_ne _ _ hb5_0
 have rb5_0 := @fresh_en _ _ hb5_0
 have lb5_0 := fresh_le hb5_0 w.heap.size
 obtain ⟨⟨g5, rfl⟩, hbs⟩ := hw1
 clear hbs nb5_0
 go_wp2_with ((go_at_call 116; ((with_reducible refine (part_9 _ _ _ _ _ _ _ _ (by omega) _).mono ?_); rintro _ _ ⟨rfl, g3, rfl⟩)))
 go_ret
 exact ⟨rfl, gri⟩
set_option maxRecDepth 100000
theorem refused_any (xk : Int) (xv xt xs xa xc : Int) (xD : Option Addr) (xn xq : Nat) (lx : Byt) (hxn : lx.length = xn) (base D : Nat) (d : Dev) (w : World) (h : DevAt base w D d) (hr : Row bv w xD lx) (hn : xn ≤ 9223372036854775807) :
  Calls Tryz.prog 90 #[.pointer (some ⟨D, 0, none⟩), (.agg #[.int .i64 xk, .int .u64 xv, .int .u64 xt, .int .i64 xs, .int .i64 xa, .int .i64 xc, .slice xD xn xq])] w fun e w' => e = .returned (.int .i64 (errK d ⟨xk, xv, xt, xs, xa, xc, lx⟩)) ∧ Gr w w' := by
 cases hm : OpM.may ⟨xk, xv, xt, xs, xa, xc, lx⟩
 ·have e : errK d ⟨xk, xv, xt, xs, xa, xc, lx⟩ = 2 := by rw [errK, if_pos hm]
  rw [e]
  exact refused_bad xk xv xt xs xa xc xD xn xq lx hxn base D d w h hr hn hm
 ·have hk := may_kind hm
  simp only at hk
  have h9 : xk = 1 ∨ xk = 2 ∨ xk = 3 ∨ xk = 4 ∨ xk = 5 ∨ xk = 6 ∨ xk = 7 ∨ xk = 8 ∨ xk = 9 := by omega
  have e0 : errK d ⟨xk, xv, xt, xs, xa, xc, lx⟩ = (if xk = 8 then 0 else match getK d xv with
   | none => if xk = 1 then 0 else 6
   | some x => if xk = 1 then 7 else if xk = 4 then (if (getK d xt).isSome then 7 else 0) else if xk = 5 then (if 4 * x.1 < xa + (lx.length / 64 : Nat) then 5 else 0)
    else if xk = 6 ∨ xk = 9 then (if 4 * x.1 < xa + xc then 5 else 0) else if xk = 7 then (if x.1 < xa + xc then 5 else 0) else 0) := by
   rw [errK, if_neg (by rw [hm]; simp)]; rfl
  rw [e0]
  clear e0
  have e64 : ((lx.length / 64 : Nat) : Int) = (xn : Int) / 64 := by rw [hxn]; omega
  rw [e64]
  clear e64
  rcases h9 with rfl | rfl | rfl | rfl | rfl | rfl | rfl | rfl | rfl
  ·cases hv : getK d xv with
   | none => exact refused_1_none xv xt xs xa xc xD xn xq lx hxn base D d w h hr hm hv
   | some x => exact refused_1_some xv xt xs xa xc xD xn xq lx hxn base D d w h hr hm x hv
  ·cases hv : getK d xv with
   | none => exact refused_2_none xv xt xs xa xc xD xn xq lx hxn base D d w h hr hm hv
   | some x => exact refused_2_some xv xt xs xa xc xD xn xq lx hxn base D d w h hr hm x hv
  ·cases hv : getK d xv with
   | none => exact refused_3_none xv xt xs xa xc xD xn xq lx hxn base D d w h hr hm hv
   | some x => exact refused_3_some xv xt xs xa xc xD xn xq lx hxn base D d w h hr hm x hv
  ·cases hv : getK d xv with
   | none => exact refused_4_none xv xt xs xa xc xD xn xq lx hxn base D d w h hr hm hv
   | some x =>
    cases ht : getK d xt with
    | none => exact refused_4_to0 xv xt xs xa xc xD xn xq lx hxn base D d w h hr hm x hv ht
    | some y => exact refused_4_to1 xv xt xs xa xc xD xn xq lx hxn base D d w h hr hm x hv y ht
  ·cases hv : getK d xv with
   | none => exact refused_5_none xv xt xs xa xc xD xn xq lx hxn base D d w h hr hm hv
   | some x =>
    by_cases hf : 4 * x.1 < xa + (xn : Int) / 64
    ·have := refused_5_over xv xt xs xa xc xD xn xq lx hxn base D d w h hr hm x hv hf
     simpa [hf] using this
    ·have := refused_5_fit xv xt xs xa xc xD xn xq lx hxn base D d w h hr hm x hv hf
     simpa [hf] using this
  ·cases hv : getK d xv with
   | none => exact refused_6_none xv xt xs xa xc xD xn xq lx hxn base D d w h hr hm hv
   | some x =>
    by_cases hf : 4 * x.1 < xa + xc
    ·have := refused_6_over xv xt xs xa xc xD xn xq lx hxn base D d w h hr hm x hv hf
     simpa [hf] using this
    ·have := refused_6_fit xv xt xs xa xc xD xn xq lx hxn base D d w h hr hm x hv hf
     simpa [hf] using this
  ·cases hv : getK d xv with
   | none => exact refused_7_none xv xt xs xa xc xD xn xq lx hxn base D d w h hr hm hv
   | some x =>
    by_cases hf : x.1 < xa + xc
    ·have := refused_7_over xv xt xs xa xc xD xn xq lx hxn base D d w h hr hm x hv hf
     simpa [hf] using this
    ·have := refused_7_fit xv xt xs xa xc xD xn xq lx hxn base D d w h hr hm x hv hf
     simpa [hf] using this
  ·cases hv : getK d xv with
   | none => exact refused_8_none xv xt xs xa xc xD xn xq lx hxn base D d w h hr hm hv
   | some x => exact refused_8_some xv xt xs xa xc xD xn xq lx hxn base D d w h hr hm x hv
  ·cases hv : getK d xv with
   | none => exact refused_9_none xv xt xs xa xc xD xn xq lx hxn base D d w h hr hm hv
   | some x =>
    by_cases hf : 4 * x.1 < xa + xc
    ·have := refused_9_over xv xt xs xa xc xD xn xq lx hxn base D d w h hr hm x hv hf
     simpa [hf] using this
    ·have := refused_9_fit xv xt xs xa xc xD xn xq lx hxn base D d w h hr hm x hv hf
     simpa [hf] using this
end Go.Proofs.YtipeblmgochdfaaGreat
