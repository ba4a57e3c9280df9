/- Device.refused, kinds 5 to 9. Conditions: the device, and what is read, stand in memory. Device.refused. Conditions: the device, and what is read, stand in memory. A region that draws its order: calm operations, others one behind the other among them, and, behind all of these, what comes as the text has it. Conditions: each step is known. What a written device is; map writes in a walk. Conditions: none. Device.create, drop. Conditions: the device stands in memory. What a loop over the parts of a volume's blocks keeps; a look for a block. Conditions: none. -/
import Derived.Test.YtddckdhnolmjoaaGreatV04
import Derived.Test.YtddckdhnolmjoaaGreatV03
import Derived.LoopTactic
namespace Go.Proofs.YtddckdhnolmjoaaGreat
open Go.RowKit
set_option linter.unusedVariables false
set_option linter.unusedSimpArgs false
set_option linter.unnecessarySimpa false
set_option maxRecDepth 100000
set_option maxHeartbeats 4000000 in
theorem refused_5_none (xv xt xs xa xc : Int) (xD : Option Addr) (xn xq : Nat) (lx : Byt) (hxn : lx.length = xn) (base D : Nat) (d : Dev) (w : World) (h : DevAt base w D d) (hr : Row bv w xD lx) (hm : OpM.may ⟨5, xv, xt, xs, xa, xc, lx⟩ = true) (hv : getK d xv = none)  :
  Calls Tryz.prog 37 #[.pointer (some ⟨D, 0, none⟩), (.agg #[.int .i64 5, .int .u64 xv, .int .u64 xt, .int .i64 xs, .int .i64 xa, .int .i64 xc, .slice xD xn xq])] w fun e w' => e = .returned (.int .i64 6) ∧ Gr w w' := by
 have hms := may_s hm
 have hm0 := hm
 obtain ⟨M, mb, h⟩ := h
 have c1 := hms.at_ (by simp)
 have c2 := hms.dat rfl
 simp only at c1 c2
 rw [OpM.may] at hm
 simp only at hm
 rw [hxn] at hm
 rw [hxn] at c2
 have HMay := Lib.hid (fun W (hW : Gr w W) => (hm ▸ mayOp_any 5 xv xt xs xa xc xD xn xq lx W hxn (by omega) (hr.gr hW) : Calls Tryz.prog 70 #[(.agg #[.int .i64 5, .int .u64 xv, .int .u64 xt, .int .i64 xs, .int .i64 xa, .int .i64 xc, .slice xD xn xq])] W fun e w' => e = .returned (.bool true) ∧ Gr W w'))
 have HT := Lib.hid (fun W (hW : Gr w W) => there_yes D M W (h.blk.gr hW))
 haveI := h.blk
 have x0 : w.cell? ⟨D, 0, none⟩ = some (.map (some M)) := (@block_cells _ _ 0 _ _ h.blk).trans rfl
 haveI : Old D w := h.blk.old
 have hlk := look_vol h xv _ hv
 simp only [volV, Option.isSome] at hlk
 clear hm hm0 hms hr h hv hxn
 go_enter Tryz.func37, Tryz.ntmps37
 go_wp2_with (first | (go_at_call 19; ((with_reducible refine (HT.out _ gri).mono ?_); rintro _ _ ⟨rfl, g1, rfl⟩)) | (go_at_call 70; ((with_reducible refine (HMay.out _ gri).mono ?_); rintro _ _ ⟨rfl, g2, rfl⟩)))
 refine wp_region_tree (mixw_ghost _) [] (mixw_nil _) [0, 1, 2, 3, 4, 5, 6, 7, 8, 9] 3 (by kernel_rfl) (by kernel_rfl) ?_
 simp only [pick, List.drop, List.take, List.nil_append, List.cons_append]
 repeat (refine wpCalm_step (fun K hK => ?_); go_simp; first | (refine hK _ ?_; clear hK K) | (apply Exists.intro; refine ⟨fun _ => ?_, hK _ ?_⟩; (fail); clear hK K))
 refine wpCalm_nil ?_
 refine fe_mixAlloc 10 (by kernel_rfl) rfl rfl rfl Tryz.zeroValue64 fun b5_0 hb5_0 nb5_0 => ?_
 simp only [Act.put, List.setIfInBounds_toArray, List.set]
 refine fe_mixStore 11 [(b5_0, #[.int .i64 0, .map none], 64)] #[.int .i64 0, .map none] (by kernel_rfl) rfl rfl rfl rfl List.mem_cons_self hb5_0 rfl rfl rfl rfl (fun z hz => .inl (by simpa using hz)) ?_
 simp only [Act.put, List.setIfInBounds_toArray, List.set]
 refine fe_mixCalm 12 _ (by kernel_rfl) rfl rfl (fun g => calm_assign g rfl) ?_
 simp only [Act.put, List.setIfInBounds_toArray, List.set]
 refine fe_end (by kernel_rfl) ?_
 intro w1 hw1
 have cb5_0 : ∀ o, w1.cell? ⟨b5_0, o, none⟩ = (#[.int .i64 0, .map none] : Array Value)[o]? := mix_cell hw1 List.mem_cons_self
 have fb5_0 : ∀ o, w1.frozen? ⟨b5_0, o, none⟩ = false := mix_frozen hw1 List.mem_cons_self
 have ob5_0 : Old b5_0 w1 := mix_old hw1 List.mem_cons_self
 have qb5_0 := @fresh_ne _ _ hb5_0
 have rb5_0 := @fresh_en _ _ hb5_0
 have lb5_0 := fresh_le hb5_0 w.heap.size
 obtain ⟨⟨g5, rfl⟩, hbs⟩ := hw1
 clear hbs nb5_0
 go_wp2_with ((go_at_call 71; ((with_reducible refine (part_5 _ _ _ _ _ _ _ _ (by omega) _).mono ?_); rintro _ _ ⟨rfl, g3, rfl⟩)))
 go_ret
 exact ⟨rfl, gri⟩
set_option maxHeartbeats 4000000 in
theorem refused_5_fit (xv xt xs xa xc : Int) (xD : Option Addr) (xn xq : Nat) (lx : Byt) (hxn : lx.length = xn) (base D : Nat) (d : Dev) (w : World) (h : DevAt base w D d) (hr : Row bv w xD lx) (hm : OpM.may ⟨5, xv, xt, xs, xa, xc, lx⟩ = true) (x : VolM) (hv : getK d xv = some x) (hf : ¬ 4 * x.1 < xa + (xn : Int) / 64) :
  Calls Tryz.prog 37 #[.pointer (some ⟨D, 0, none⟩), (.agg #[.int .i64 5, .int .u64 xv, .int .u64 xt, .int .i64 xs, .int .i64 xa, .int .i64 xc, .slice xD xn xq])] w fun e w' => e = .returned (.int .i64 0) ∧ Gr w w' := by
 have hms := may_s hm
 have hm0 := hm
 obtain ⟨M, mb, h⟩ := h
 have hxo := h.ok.vols _ ((getK_mem h.ok.sort).1 hv)
 have b1 := hxo.s0
 have b2 := hxo.s1
 clear hxo
 have c1 := hms.at_ (by simp)
 have c2 := hms.dat rfl
 simp only at c1 c2
 rw [OpM.may] at hm
 simp only at hm
 rw [hxn] at hm
 rw [hxn] at c2
 have HMay := Lib.hid (fun W (hW : Gr w W) => (hm ▸ mayOp_any 5 xv xt xs xa xc xD xn xq lx W hxn (by omega) (hr.gr hW) : Calls Tryz.prog 70 #[(.agg #[.int .i64 5, .int .u64 xv, .int .u64 xt, .int .i64 xs, .int .i64 xa, .int .i64 xc, .slice xD xn xq])] W fun e w' => e = .returned (.bool true) ∧ Gr W w'))
 have HT := Lib.hid (fun W (hW : Gr w W) => there_yes D M W (h.blk.gr hW))
 haveI := h.blk
 have x0 : w.cell? ⟨D, 0, none⟩ = some (.map (some M)) := (@block_cells _ _ 0 _ _ h.blk).trans rfl
 haveI : Old D w := h.blk.old
 have hlk := look_vol h xv _ hv
 simp only [volV, Option.isSome] at hlk
 clear hm hm0 hms hr h hv hxn
 obtain ⟨x1, xm⟩ := x
 simp only at b1 b2 hf
 go_enter Tryz.func37, Tryz.ntmps37
 go_wp2_with (first | (go_at_call 19; ((with_reducible refine (HT.out _ gri).mono ?_); rintro _ _ ⟨rfl, g1, rfl⟩)) | (go_at_call 70; ((with_reducible refine (HMay.out _ gri).mono ?_); rintro _ _ ⟨rfl, g2, rfl⟩)))
 refine wp_region_tree (mixw_ghost _) [] (mixw_nil _) [0, 1, 2, 3, 4, 5, 6, 7, 8, 9] 3 (by kernel_rfl) (by kernel_rfl) ?_
 simp only [pick, List.drop, List.take, List.nil_append, List.cons_append]
 repeat (refine wpCalm_step (fun K hK => ?_); go_simp; first | (refine hK _ ?_; clear hK K) | (apply Exists.intro; refine ⟨fun _ => ?_, hK _ ?_⟩; (fail); clear hK K))
 refine wpCalm_nil ?_
 refine fe_mixAlloc 10 (by kernel_rfl) rfl rfl rfl Tryz.zeroValue64 fun b5_0 hb5_0 nb5_0 => ?_
 simp only [Act.put, List.setIfInBounds_toArray, List.set]
 refine fe_mixStore 11 [(b5_0, #[.int .i64 x1, .map (some (mb xv))], 64)] #[.int .i64 x1, .map (some (mb xv))] (by kernel_rfl) rfl rfl rfl rfl List.mem_cons_self hb5_0 rfl rfl rfl rfl (fun z hz => .inl (by simpa using hz)) ?_
 simp only [Act.put, List.setIfInBounds_toArray, List.set]
 refine fe_mixCalm 12 _ (by kernel_rfl) rfl rfl (fun g => calm_assign g rfl) ?_
 simp only [Act.put, List.setIfInBounds_toArray, List.set]
 refine fe_end (by kernel_rfl) ?_
 intro w1 hw1
 have cb5_0 : ∀ o, w1.cell? ⟨b5_0, o, none⟩ = (#[.int .i64 x1, .map (some (mb xv))] : Array Value)[o]? := mix_cell hw1 List.mem_cons_self
 have fb5_0 : ∀ o, w1.frozen? ⟨b5_0, o, none⟩ = false := mix_frozen hw1 List.mem_cons_self
 have ob5_0 : Old b5_0 w1 := mix_old hw1 List.mem_cons_self
 have qb5_0 := @fresh_ne _ _ hb5_0
 have rb5_0 := @fresh_en _ _ hb5_0
 have lb5_0 := fresh_le hb5_0 w.heap.size
 obtain ⟨⟨g5, rfl⟩, hbs⟩ := hw1
 clear hbs nb5_0
 go_wp2_with ((go_at_call 71; ((with_reducible refine (part_5 _ _ _ _ _ _ _ _ (by omega) _).mono ?_); rintro _ _ ⟨rfl, g3, rfl⟩)))
 go_ret
 exact ⟨rfl, gri⟩
set_option maxHeartbeats 4000000 in
theorem refused_5_over (xv xt xs xa xc : Int) (xD : Option Addr) (xn xq : Nat) (lx : Byt) (hxn : lx.length = xn) (base D : Nat) (d : Dev) (w : World) (h : DevAt base w D d) (hr : Row bv w xD lx) (hm : OpM.may ⟨5, xv, xt, xs, xa, xc, lx⟩ = true) (x : VolM) (hv : getK d xv = some x) (hf : 4 * x.1 < xa + (xn : Int) / 64) :
  Calls Tryz.prog 37 #[.pointer (some ⟨D, 0, none⟩), (.agg #[.int .i64 5, .int .u64 xv, .int .u64 xt, .int .i64 xs, .int .i64 xa, .int .i64 xc, .slice xD xn xq])] w fun e w' => e = .returned (.int .i64 5) ∧ Gr w w' := by
 have hms := may_s hm
 have hm0 := hm
 obtain ⟨M, mb, h⟩ := h
 have hxo := h.ok.vols _ ((getK_mem h.ok.sort).1 hv)
 have b1 := hxo.s0
 have b2 := hxo.s1
 clear hxo
 have c1 := hms.at_ (by simp)
 have c2 := hms.dat rfl
 simp only at c1 c2
 rw [OpM.may] at hm
 simp only at hm
 rw [hxn] at hm
 rw [hxn] at c2
 have HMay := Lib.hid (fun W (hW : Gr w W) => (hm ▸ mayOp_any 5 xv xt xs xa xc xD xn xq lx W hxn (by omega) (hr.gr hW) : Calls Tryz.prog 70 #[(.agg #[.int .i64 5, .int .u64 xv, .int .u64 xt, .int .i64 xs, .int .i64 xa, .int .i64 xc, .slice xD xn xq])] W fun e w' => e = .returned (.bool true) ∧ Gr W w'))
 have HT := Lib.hid (fun W (hW : Gr w W) => there_yes D M W (h.blk.gr hW))
 haveI := h.blk
 have x0 : w.cell? ⟨D, 0, none⟩ = some (.map (some M)) := (@block_cells _ _ 0 _ _ h.blk).trans rfl
 haveI : Old D w := h.blk.old
 have hlk := look_vol h xv _ hv
 simp only [volV, Option.isSome] at hlk
 clear hm hm0 hms hr h hv hxn
 obtain ⟨x1, xm⟩ := x
 simp only at b1 b2 hf
 go_enter Tryz.func37, Tryz.ntmps37
 go_wp2_with (first | (go_at_call 19; ((with_reducible refine (HT.out _ gri).mono ?_); rintro _ _ ⟨rfl, g1, rfl⟩)) | (go_at_call 70; ((with_reducible refine (HMay.out _ gri).mono ?_); rintro _ _ ⟨rfl, g2, rfl⟩)))
 refine wp_region_tree (mixw_ghost _) [] (mixw_nil _) [0, 1, 2, 3, 4, 5, 6, 7, 8, 9] 3 (by kernel_rfl) (by kernel_rfl) ?_
 simp only [pick, List.drop, List.take, List.nil_append, List.cons_append]
 repeat (refine wpCalm_step (fun K hK => ?_); go_simp; first | (refine hK _ ?_; clear hK K) | (apply Exists.intro; refine ⟨fun _ => ?_, hK _ ?_⟩; (fail); clear hK K))
 refine wpCalm_nil ?_
 refine fe_mixAlloc 10 (by kernel_rfl) rfl rfl rfl Tryz.zeroValue64 fun b5_0 hb5_0 nb5_0 => ?_
 simp only [Act.put, List.setIfInBounds_toArray, List.set]
 refine fe_mixStore 11 [(b5_0, #[.int .i64 x1, .map (some (mb xv))], 64)] #[.int .i64 x1, .map (some (mb xv))] (by kernel_rfl) rfl rfl rfl rfl List.mem_cons_self hb5_0 rfl rfl rfl rfl (fun z hz => .inl (by simpa using hz)) ?_
 simp only [Act.put, List.setIfInBounds_toArray, List.set]
 refine fe_mixCalm 12 _ (by kernel_rfl) rfl rfl (fun g => calm_assign g rfl) ?_
 simp only [Act.put, List.setIfInBounds_toArray, List.set]
 refine fe_end (by kernel_rfl) ?_
 intro w1 hw1
 have cb5_0 : ∀ o, w1.cell? ⟨b5_0, o, none⟩ = (#[.int .i64 x1, .map (some (mb xv))] : Array Value)[o]? := mix_cell hw1 List.mem_cons_self
 have fb5_0 : ∀ o, w1.frozen? ⟨b5_0, o, none⟩ = false := mix_frozen hw1 List.mem_cons_self
 have ob5_0 : Old b5_0 w1 := mix_old hw1 List.mem_cons_self
 have qb5_0 := @fresh_ne _ _ hb5_0
 have rb5_0 := @fresh_en _ _ hb5_0
 have lb5_0 := fresh_le hb5_0 w.heap.size
 obtain ⟨⟨g5, rfl⟩, hbs⟩ := hw1
 clear hbs nb5_0
 go_wp2_with ((go_at_call 71; ((with_reducible refine (part_5 _ _ _ _ _ _ _ _ (by omega) _).mono ?_); rintro _ _ ⟨rfl, g3, rfl⟩)))
 go_ret
 exact ⟨rfl, gri⟩
set_option maxHeartbeats 4000000 in
theorem refused_6_none (xv xt xs xa xc : Int) (xD : Option Addr) (xn xq : Nat) (lx : Byt) (hxn : lx.length = xn) (base D : Nat) (d : Dev) (w : World) (h : DevAt base w D d) (hr : Row bv w xD lx) (hm : OpM.may ⟨6, xv, xt, xs, xa, xc, lx⟩ = true) (hv : getK d xv = none)  :
  Calls Tryz.prog 37 #[.pointer (some ⟨D, 0, none⟩), (.agg #[.int .i64 6, .int .u64 xv, .int .u64 xt, .int .i64 xs, .int .i64 xa, .int .i64 xc, .slice xD xn xq])] w fun e w' => e = .returned (.int .i64 6) ∧ Gr w w' := by
 have hms := may_s hm
 have hm0 := hm
 obtain ⟨M, mb, h⟩ := h
 have c1 := hms.at_ (by simp)
 have c2 := hms.cnt (by simp)
 simp only at c1 c2
 rw [OpM.may] at hm
 simp only at hm
 rw [hxn] at hm
 have c9 : lx.length ≤ 2048 := may_len hm0
 rw [hxn] at c9
 have HMay := Lib.hid (fun W (hW : Gr w W) => (hm ▸ mayOp_any 6 xv xt xs xa xc xD xn xq lx W hxn (by omega) (hr.gr hW) : Calls Tryz.prog 70 #[(.agg #[.int .i64 6, .int .u64 xv, .int .u64 xt, .int .i64 xs, .int .i64 xa, .int .i64 xc, .slice xD xn xq])] W fun e w' => e = .returned (.bool true) ∧ Gr W w'))
 have HT := Lib.hid (fun W (hW : Gr w W) => there_yes D M W (h.blk.gr hW))
 haveI := h.blk
 have x0 : w.cell? ⟨D, 0, none⟩ = some (.map (some M)) := (@block_cells _ _ 0 _ _ h.blk).trans rfl
 haveI : Old D w := h.blk.old
 have hlk := look_vol h xv _ hv
 simp only [volV, Option.isSome] at hlk
 clear hm hm0 hms hr h hv hxn
 go_enter Tryz.func37, Tryz.ntmps37
 go_wp2_with (first | (go_at_call 19; ((with_reducible refine (HT.out _ gri).mono ?_); rintro _ _ ⟨rfl, g1, rfl⟩)) | (go_at_call 70; ((with_reducible refine (HMay.out _ gri).mono ?_); rintro _ _ ⟨rfl, g2, rfl⟩)))
 refine wp_region_tree (mixw_ghost _) [] (mixw_nil _) [0, 1, 2, 3, 4, 5, 6, 7, 8, 9] 3 (by kernel_rfl) (by kernel_rfl) ?_
 simp only [pick, List.drop, List.take, List.nil_append, List.cons_append]
 repeat (refine wpCalm_step (fun K hK => ?_); go_simp; first | (refine hK _ ?_; clear hK K) | (apply Exists.intro; refine ⟨fun _ => ?_, hK _ ?_⟩; (fail); clear hK K))
 refine wpCalm_nil ?_
 refine fe_mixAlloc 10 (by kernel_rfl) rfl rfl rfl Tryz.zeroValue64 fun b5_0 hb5_0 nb5_0 => ?_
 simp only [Act.put, List.setIfInBounds_toArray, List.set]
 refine fe_mixStore 11 [(b5_0, #[.int .i64 0, .map none], 64)] #[.int .i64 0, .map none] (by kernel_rfl) rfl rfl rfl rfl List.mem_cons_self hb5_0 rfl rfl rfl rfl (fun z hz => .inl (by simpa using hz)) ?_
 simp only [Act.put, List.setIfInBounds_toArray, List.set]
 refine fe_mixCalm 12 _ (by kernel_rfl) rfl rfl (fun g => calm_assign g rfl) ?_
 simp only [Act.put, List.setIfInBounds_toArray, List.set]
 refine fe_end (by kernel_rfl) ?_
 intro w1 hw1
 have cb5_0 : ∀ o, w1.cell? ⟨b5_0, o, none⟩ = (#[.int .i64 0, .map none] : Array Value)[o]? := mix_cell hw1 List.mem_cons_self
 have fb5_0 : ∀ o, w1.frozen? ⟨b5_0, o, none⟩ = false := mix_frozen hw1 List.mem_cons_self
 have ob5_0 : Old b5_0 w1 := mix_old hw1 List.mem_cons_self
 have qb5_0 := @fresh_ne _ _ hb5_0
 have rb5_0 := @fresh_en _ _ hb5_0
 have lb5_0 := fresh_le hb5_0 w.heap.size
 obtain ⟨⟨g5, rfl⟩, hbs⟩ := hw1
 clear hbs nb5_0
 go_wp2_with ((go_at_call 71; ((with_reducible refine (part_6 _ _ _ _ _ _ _ _ (by omega) _).mono ?_); rintro _ _ ⟨rfl, g3, rfl⟩)))
 go_ret
 exact ⟨rfl, gri⟩
set_option maxHeartbeats 4000000 in
theorem refused_6_fit (xv xt xs xa xc : Int) (xD : Option Addr) (xn xq : Nat) (lx : Byt) (hxn : lx.length = xn) (base D : Nat) (d : Dev) (w : World) (h : DevAt base w D d) (hr : Row bv w xD lx) (hm : OpM.may ⟨6, xv, xt, xs, xa, xc, lx⟩ = true) (x : VolM) (hv : getK d xv = some x) (hf : ¬ 4 * x.1 < xa + xc) :
  Calls Tryz.prog 37 #[.pointer (some ⟨D, 0, none⟩), (.agg #[.int .i64 6, .int .u64 xv, .int .u64 xt, .int .i64 xs, .int .i64 xa, .int .i64 xc, .slice xD xn xq])] w fun e w' => e = .returned (.int .i64 0) ∧ Gr w w' := by
 have hms := may_s hm
 have hm0 := hm
 obtain ⟨M, mb, h⟩ := h
 have hxo := h.ok.vols _ ((getK_mem h.ok.sort).1 hv)
 have b1 := hxo.s0
 have b2 := hxo.s1
 clear hxo
 have c1 := hms.at_ (by simp)
 have c2 := hms.cnt (by simp)
 simp only at c1 c2
 rw [OpM.may] at hm
 simp only at hm
 rw [hxn] at hm
 have c9 : lx.length ≤ 2048 := may_len hm0
 rw [hxn] at c9
 have HMay := Lib.hid (fun W (hW : Gr w W) => (hm ▸ mayOp_any 6 xv xt xs xa xc xD xn xq lx W hxn (by omega) (hr.gr hW) : Calls Tryz.prog 70 #[(.agg #[.int .i64 6, .int .u64 xv, .int .u64 xt, .int .i64 xs, .int .i64 xa, .int .i64 xc, .slice xD xn xq])] W fun e w' => e = .returned (.bool true) ∧ Gr W w'))
 have HT := Lib.hid (fun W (hW : Gr w W) => there_yes D M W (h.blk.gr hW))
 haveI := h.blk
 have x0 : w.cell? ⟨D, 0, none⟩ = some (.map (some M)) := (@block_cells _ _ 0 _ _ h.blk).trans rfl
 haveI : Old D w := h.blk.old
 have hlk := look_vol h xv _ hv
 simp only [volV, Option.isSome] at hlk
 clear hm hm0 hms hr h hv hxn
 obtain ⟨x1, xm⟩ := x
 simp only at b1 b2 hf
 go_enter Tryz.func37, Tryz.ntmps37
 go_wp2_with (first | (go_at_call 19; ((with_reducible refine (HT.out _ gri).mono ?_); rintro _ _ ⟨rfl, g1, rfl⟩)) | (go_at_call 70; ((with_reducible refine (HMay.out _ gri).mono ?_); rintro _ _ ⟨rfl, g2, rfl⟩)))
 refine wp_region_tree (mixw_ghost _) [] (mixw_nil _) [0, 1, 2, 3, 4, 5, 6, 7, 8, 9] 3 (by kernel_rfl) (by kernel_rfl) ?_
 simp only [pick, List.drop, List.take, List.nil_append, List.cons_append]
 repeat (refine wpCalm_step (fun K hK => ?_); go_simp; first | (refine hK _ ?_; clear hK K) | (apply Exists.intro; refine ⟨fun _ => ?_, hK _ ?_⟩; (fail); clear hK K))
 refine wpCalm_nil ?_
 refine fe_mixAlloc 10 (by kernel_rfl) rfl rfl rfl Tryz.zeroValue64 fun b5_0 hb5_0 nb5_0 => ?_
 simp only [Act.put, List.setIfInBounds_toArray, List.set]
 refine fe_mixStore 11 [(b5_0, #[.int .i64 x1, .map (some (mb xv))], 64)] #[.int .i64 x1, .map (some (mb xv))] (by kernel_rfl) rfl rfl rfl rfl List.mem_cons_self hb5_0 rfl rfl rfl rfl (fun z hz => .inl (by simpa using hz)) ?_
 simp only [Act.put, List.setIfInBounds_toArray, List.set]
 refine fe_mixCalm 12 _ (by kernel_rfl) rfl rfl (fun g => calm_assign g rfl) ?_
 simp only [Act.put, List.setIfInBounds_toArray, List.set]
 refine fe_end (by kernel_rfl) ?_
 intro w1 hw1
 have cb5_0 : ∀ o, w1.cell? ⟨b5_0, o, none⟩ = (#[.int .i64 x1, .map (some (mb xv))] : Array Value)[o]? := mix_cell hw1 List.mem_cons_self
 have fb5_0 : ∀ o, w1.frozen? ⟨b5_0, o, none⟩ = false := mix_frozen hw1 List.mem_cons_self
 have ob5_0 : Old b5_0 w1 := mix_old hw1 List.mem_cons_self
 have qb5_0 := @fresh_ne _ _ hb5_0
 have rb5_0 := @fresh_en _ _ hb5_0
 have lb5_0 := fresh_le hb5_0 w.heap.size
 obtain ⟨⟨g5, rfl⟩, hbs⟩ := hw1
 clear hbs nb5_0
 go_wp2_with ((go_at_call 71; ((with_reducible refine (part_6 _ _ _ _ _ _ _ _ (by omega) _).mono ?_); rintro _ _ ⟨rfl, g3, rfl⟩)))
 go_ret
 exact ⟨rfl, gri⟩
set_option maxHeartbeats 4000000 in
theorem refused_6_over (xv xt xs xa xc : Int) (xD : Option Addr) (xn xq : Nat) (lx : Byt) (hxn : lx.length = xn) (base D : Nat) (d : Dev) (w : World) (h : DevAt base w D d) (hr : Row bv w xD lx) (hm : OpM.may ⟨6, xv, xt, xs, xa, xc, lx⟩ = true) (x : VolM) (hv : getK d xv = some x) (hf : 4 * x.1 < xa + xc) :
  Calls Tryz.prog 37 #[.pointer (some ⟨D, 0, none⟩), (.agg #[.int .i64 6, .int .u64 xv, .int .u64 xt, .int .i64 xs, .int .i64 xa, .int .i64 xc, .slice xD xn xq])] w fun e w' => e = .returned (.int .i64 5) ∧ Gr w w' := by
 have hms := may_s hm
 have hm0 := hm
 obtain ⟨M, mb, h⟩ := h
 have hxo := h.ok.vols _ ((getK_mem h.ok.sort).1 hv)
 have b1 := hxo.s0
 have b2 := hxo.s1
 clear hxo
 have c1 := hms.at_ (by simp)
 have c2 := hms.cnt (by simp)
 simp only at c1 c2
 rw [OpM.may] at hm
 simp only at hm
 rw [hxn] at hm
 have c9 : lx.length ≤ 2048 := may_len hm0
 rw [hxn] at c9
 have HMay := Lib.hid (fun W (hW : Gr w W) => (hm ▸ mayOp_any 6 xv xt xs xa xc xD xn xq lx W hxn (by omega) (hr.gr hW) : Calls Tryz.prog 70 #[(.agg #[.int .i64 6, .int .u64 xv, .int .u64 xt, .int .i64 xs, .int .i64 xa, .int .i64 xc, .slice xD xn xq])] W fun e w' => e = .returned (.bool true) ∧ Gr W w'))
 have HT := Lib.hid (fun W (hW : Gr w W) => there_yes D M W (h.blk.gr hW))
 haveI := h.blk
 have x0 : w.cell? ⟨D, 0, none⟩ = some (.map (some M)) := (@block_cells _ _ 0 _ _ h.blk).trans rfl
 haveI : Old D w := h.blk.old
 have hlk := look_vol h xv _ hv
 simp only [volV, Option.isSome] at hlk
 clear hm hm0 hms hr h hv hxn
 obtain ⟨x1, xm⟩ := x
 simp only at b1 b2 hf
 go_enter Tryz.func37, Tryz.ntmps37
 go_wp2_with (first | (go_at_call 19; ((with_reducible refine (HT.out _ gri).mono ?_); rintro _ _ ⟨rfl, g1, rfl⟩)) | (go_at_call 70; ((with_reducible refine (HMay.out _ gri).mono ?_); rintro _ _ ⟨rfl, g2, rfl⟩)))
 refine wp_region_tree (mixw_ghost _) [] (mixw_nil _) [0, 1, 2, 3, 4, 5, 6, 7, 8, 9] 3 (by kernel_rfl) (by kernel_rfl) ?_
 simp only [pick, List.drop, List.take, List.nil_append, List.cons_append]
 repeat (refine wpCalm_step (fun K hK => ?_); go_simp; first | (refine hK _ ?_; clear hK K) | (apply Exists.intro; refine ⟨fun _ => ?_, hK _ ?_⟩; (fail); clear hK K))
 refine wpCalm_nil ?_
 refine fe_mixAlloc 10 (by kernel_rfl) rfl rfl rfl Tryz.zeroValue64 fun b5_0 hb5_0 nb5_0 => ?_
 simp only [Act.put, List.setIfInBounds_toArray, List.set]
 refine fe_mixStore 11 [(b5_0, #[.int .i64 x1, .map (some (mb xv))], 64)] #[.int .i64 x1, .map (some (mb xv))] (by kernel_rfl) rfl rfl rfl rfl List.mem_cons_self hb5_0 rfl rfl rfl rfl (fun z hz => .inl (by simpa using hz)) ?_
 simp only [Act.put, List.setIfInBounds_toArray, List.set]
 refine fe_mixCalm 12 _ (by kernel_rfl) rfl rfl (fun g => calm_assign g rfl) ?_
 simp only [Act.put, List.setIfInBounds_toArray, List.set]
 refine fe_end (by kernel_rfl) ?_
 intro w1 hw1
 have cb5_0 : ∀ o, w1.cell? ⟨b5_0, o, none⟩ = (#[.int .i64 x1, .map (some (mb xv))] : Array Value)[o]? := mix_cell hw1 List.mem_cons_self
 have fb5_0 : ∀ o, w1.frozen? ⟨b5_0, o, none⟩ = false := mix_frozen hw1 List.mem_cons_self
 have ob5_0 : Old b5_0 w1 := mix_old hw1 List.mem_cons_self
 have qb5_0 := @fresh_ne _ _ hb5_0
 have rb5_0 := @fresh_en _ _ hb5_0
 have lb5_0 := fresh_le hb5_0 w.heap.size
 obtain ⟨⟨g5, rfl⟩, hbs⟩ := hw1
 clear hbs nb5_0
 go_wp2_with ((go_at_call 71; ((with_reducible refine (part_6 _ _ _ _ _ _ _ _ (by omega) _).mono ?_); rintro _ _ ⟨rfl, g3, rfl⟩)))
 go_ret
 exact ⟨rfl, gri⟩
set_option maxHeartbeats 4000000 in
theorem refused_7_none (xv xt xs xa xc : Int) (xD : Option Addr) (xn xq : Nat) (lx : Byt) (hxn : lx.length = xn) (base D : Nat) (d : Dev) (w : World) (h : DevAt base w D d) (hr : Row bv w xD lx) (hm : OpM.may ⟨7, xv, xt, xs, xa, xc, lx⟩ = true) (hv : getK d xv = none)  :
  Calls Tryz.prog 37 #[.pointer (some ⟨D, 0, none⟩), (.agg #[.int .i64 7, .int .u64 xv, .int .u64 xt, .int .i64 xs, .int .i64 xa, .int .i64 xc, .slice xD xn xq])] w fun e w' => e = .returned (.int .i64 6) ∧ Gr w w' := by
 have hms := may_s hm
 have hm0 := hm
 obtain ⟨M, mb, h⟩ := h
 have c1 := hms.at_ (by simp)
 have c2 := hms.cnt (by simp)
 simp only at c1 c2
 rw [OpM.may] at hm
 simp only at hm
 rw [hxn] at hm
 have c9 : lx.length ≤ 2048 := may_len hm0
 rw [hxn] at c9
 have HMay := Lib.hid (fun W (hW : Gr w W) => (hm ▸ mayOp_any 7 xv xt xs xa xc xD xn xq lx W hxn (by omega) (hr.gr hW) : Calls Tryz.prog 70 #[(.agg #[.int .i64 7, .int .u64 xv, .int .u64 xt, .int .i64 xs, .int .i64 xa, .int .i64 xc, .slice xD xn xq])] W fun e w' => e = .returned (.bool true) ∧ Gr W w'))
 have HT := Lib.hid (fun W (hW : Gr w W) => there_yes D M W (h.blk.gr hW))
 haveI := h.blk
 have x0 : w.cell? ⟨D, 0, none⟩ = some (.map (some M)) := (@block_cells _ _ 0 _ _ h.blk).trans rfl
 haveI : Old D w := h.blk.old
 have hlk := look_vol h xv _ hv
 simp only [volV, Option.isSome] at hlk
 clear hm hm0 hms hr h hv hxn
 go_enter Tryz.func37, Tryz.ntmps37
 go_wp2_with (first | (go_at_call 19; ((with_reducible refine (HT.out _ gri).mono ?_); rintro _ _ ⟨rfl, g1, rfl⟩)) | (go_at_call 70; ((with_reducible refine (HMay.out _ gri).mono ?_); rintro _ _ ⟨rfl, g2, rfl⟩)))
 refine wp_region_tree (mixw_ghost _) [] (mixw_nil _) [0, 1, 2, 3, 4, 5, 6, 7, 8, 9] 3 (by kernel_rfl) (by kernel_rfl) ?_
 simp only [pick, List.drop, List.take, List.nil_append, List.cons_append]
 repeat (refine wpCalm_step (fun K hK => ?_); go_simp; first | (refine hK _ ?_; clear hK K) | (apply Exists.intro; refine ⟨fun _ => ?_, hK _ ?_⟩; (fail); clear hK K))
 refine wpCalm_nil ?_
 refine fe_mixAlloc 10 (by kernel_rfl) rfl rfl rfl Tryz.zeroValue64 fun b5_0 hb5_0 nb5_0 => ?_
 simp only [Act.put, List.setIfInBounds_toArray, List.set]
 refine fe_mixStore 11 [(b5_0, #[.int .i64 0, .map none], 64)] #[.int .i64 0, .map none] (by kernel_rfl) rfl rfl rfl rfl List.mem_cons_self hb5_0 rfl rfl rfl rfl (fun z hz => .inl (by simpa using hz)) ?_
 simp only [Act.put, List.setIfInBounds_toArray, List.set]
 refine fe_mixCalm 12 _ (by kernel_rfl) rfl rfl (fun g => calm_assign g rfl) ?_
 simp only [Act.put, List.setIfInBounds_toArray, List.set]
 refine fe_end (by kernel_rfl) ?_
 intro w1 hw1
 have cb5_0 : ∀ o, w1.cell? ⟨b5_0, o, none⟩ = (#[.int .i64 0, .map none] : Array Value)[o]? := mix_cell hw1 List.mem_cons_self
 have fb5_0 : ∀ o, w1.frozen? ⟨b5_0, o, none⟩ = false := mix_frozen hw1 List.mem_cons_self
 have ob5_0 : Old b5_0 w1 := mix_old hw1 List.mem_cons_self
 have qb5_0 := @fresh_ne _ _ hb5_0
 have rb5_0 := @fresh_en _ _ hb5_0
 have lb5_0 := fresh_le hb5_0 w.heap.size
 obtain ⟨⟨g5, rfl⟩, hbs⟩ := hw1
 clear hbs nb5_0
 go_wp2_with ((go_at_call 71; ((with_reducible refine (part_7 _ _ _ _ _ _ _ _ (by omega) _).mono ?_); rintro _ _ ⟨rfl, g3, rfl⟩)))
 go_ret
 exact ⟨rfl, gri⟩
set_option maxHeartbeats 4000000 in
theorem refused_7_fit (xv xt xs xa xc : Int) (xD : Option Addr) (xn xq : Nat) (lx : Byt) (hxn : lx.length = xn) (base D : Nat) (d : Dev) (w : World) (h : DevAt base w D d) (hr : Row bv w xD lx) (hm : OpM.may ⟨7, xv, xt, xs, xa, xc, lx⟩ = true) (x : VolM) (hv : getK d xv = some x) (hf : ¬ x.1 < xa + xc) :
  Calls Tryz.prog 37 #[.pointer (some ⟨D, 0, none⟩), (.agg #[.int .i64 7, .int .u64 xv, .int .u64 xt, .int .i64 xs, .int .i64 xa, .int .i64 xc, .slice xD xn xq])] w fun e w' => e = .returned (.int .i64 0) ∧ Gr w w' := by
 have hms := may_s hm
 have hm0 := hm
 obtain ⟨M, mb, h⟩ := h
 have hxo := h.ok.vols _ ((getK_mem h.ok.sort).1 hv)
 have b1 := hxo.s0
 have b2 := hxo.s1
 clear hxo
 have c1 := hms.at_ (by simp)
 have c2 := hms.cnt (by simp)
 simp only at c1 c2
 rw [OpM.may] at hm
 simp only at hm
 rw [hxn] at hm
 have c9 : lx.length ≤ 2048 := may_len hm0
 rw [hxn] at c9
 have HMay := Lib.hid (fun W (hW : Gr w W) => (hm ▸ mayOp_any 7 xv xt xs xa xc xD xn xq lx W hxn (by omega) (hr.gr hW) : Calls Tryz.prog 70 #[(.agg #[.int .i64 7, .int .u64 xv, .int .u64 xt, .int .i64 xs, .int .i64 xa, .int .i64 xc, .slice xD xn xq])] W fun e w' => e = .returned (.bool true) ∧ Gr W w'))
 have HT := Lib.hid (fun W (hW : Gr w W) => there_yes D M W (h.blk.gr hW))
 haveI := h.blk
 have x0 : w.cell? ⟨D, 0, none⟩ = some (.map (some M)) := (@block_cells _ _ 0 _ _ h.blk).trans rfl
 haveI : Old D w := h.blk.old
 have hlk := look_vol h xv _ hv
 simp only [volV, Option.isSome] at hlk
 clear hm hm0 hms hr h hv hxn
 obtain ⟨x1, xm⟩ := x
 simp only at b1 b2 hf
 go_enter Tryz.func37, Tryz.ntmps37
 go_wp2_with (first | (go_at_call 19; ((with_reducible refine (HT.out _ gri).mono ?_); rintro _ _ ⟨rfl, g1, rfl⟩)) | (go_at_call 70; ((with_reducible refine (HMay.out _ gri).mono ?_); rintro _ _ ⟨rfl, g2, rfl⟩)))
 refine wp_region_tree (mixw_ghost _) [] (mixw_nil _) [0, 1, 2, 3, 4, 5, 6, 7, 8, 9] 3 (by kernel_rfl) (by kernel_rfl) ?_
 simp only [pick, List.drop, List.take, List.nil_append, List.cons_append]
 repeat (refine wpCalm_step (fun K hK => ?_); go_simp; first | (refine hK _ ?_; clear hK K) | (apply Exists.intro; refine ⟨fun _ => ?_, hK _ ?_⟩; (fail); clear hK K))
 refine wpCalm_nil ?_
 refine fe_mixAlloc 10 (by kernel_rfl) rfl rfl rfl Tryz.zeroValue64 fun b5_0 hb5_0 nb5_0 => ?_
 simp only [Act.put, List.setIfInBounds_toArray, List.set]
 refine fe_mixStore 11 [(b5_0, #[.int .i64 x1, .map (some (mb xv))], 64)] #[.int .i64 x1, .map (some (mb xv))] (by kernel_rfl) rfl rfl rfl rfl List.mem_cons_self hb5_0 rfl rfl rfl rfl (fun z hz => .inl (by simpa using hz)) ?_
 simp only [Act.put, List.setIfInBounds_toArray, List.set]
 refine fe_mixCalm 12 _ (by kernel_rfl) rfl rfl (fun g => calm_assign g rfl) ?_
 simp only [Act.put, List.setIfInBounds_toArray, List.set]
 refine fe_end (by kernel_rfl) ?_
 intro w1 hw1
 have cb5_0 : ∀ o, w1.cell? ⟨b5_0, o, none⟩ = (#[.int .i64 x1, .map (some (mb xv))] : Array Value)[o]? := mix_cell hw1 List.mem_cons_self
 have fb5_0 : ∀ o, w1.frozen? ⟨b5_0, o, none⟩ = false := mix_frozen hw1 List.mem_cons_self
 have ob5_0 : Old b5_0 w1 := mix_old hw1 List.mem_cons_self
 have qb5_0 := @fresh_ne _ _ hb5_0
 have rb5_0 := @fresh_en _ _ hb5_0
 have lb5_0 := fresh_le hb5_0 w.heap.size
 obtain ⟨⟨g5, rfl⟩, hbs⟩ := hw1
 clear hbs nb5_0
 go_wp2_with ((go_at_call 71; ((with_reducible refine (part_7 _ _ _ _ _ _ _ _ (by omega) _).mono ?_); rintro _ _ ⟨rfl, g3, rfl⟩)))
 go_ret
 exact ⟨rfl, gri⟩
set_option maxHeartbeats 4000000 in
theorem refused_7_over (xv xt xs xa xc : Int) (xD : Option Addr) (xn xq : Nat) (lx : Byt) (hxn : lx.length = xn) (base D : Nat) (d : Dev) (w : World) (h : DevAt base w D d) (hr : Row bv w xD lx) (hm : OpM.may ⟨7, xv, xt, xs, xa, xc, lx⟩ = true) (x : VolM) (hv : getK d xv = some x) (hf : x.1 < xa + xc) :
  Calls Tryz.prog 37 #[.pointer (some ⟨D, 0, none⟩), (.agg #[.int .i64 7, .int .u64 xv, .int .u64 xt, .int .i64 xs, .int .i64 xa, .int .i64 xc, .slice xD xn xq])] w fun e w' => e = .returned (.int .i64 5) ∧ Gr w w' := by
 have hms := may_s hm
 have hm0 := hm
 obtain ⟨M, mb, h⟩ := h
 have hxo := h.ok.vols _ ((getK_mem h.ok.sort).1 hv)
 have b1 := hxo.s0
 have b2 := hxo.s1
 clear hxo
 have c1 := hms.at_ (by simp)
 have c2 := hms.cnt (by simp)
 simp only at c1 c2
 rw [OpM.may] at hm
 simp only at hm
 rw [hxn] at hm
 have c9 : lx.length ≤ 2048 := may_len hm0
 rw [hxn] at c9
 have HMay := Lib.hid (fun W (hW : Gr w W) => (hm ▸ mayOp_any 7 xv xt xs xa xc xD xn xq lx W hxn (by omega) (hr.gr hW) : Calls Tryz.prog 70 #[(.agg #[.int .i64 7, .int .u64 xv, .int .u64 xt, .int .i64 xs, .int .i64 xa, .int .i64 xc, .slice xD xn xq])] W fun e w' => e = .returned (.bool true) ∧ Gr W w'))
 have HT := Lib.hid (fun W (hW : Gr w W) => there_yes D M W (h.blk.gr hW))
 haveI := h.blk
 have x0 : w.cell? ⟨D, 0, none⟩ = some (.map (some M)) := (@block_cells _ _ 0 _ _ h.blk).trans rfl
 haveI : Old D w := h.blk.old
 have hlk := look_vol h xv _ hv
 simp only [volV, Option.isSome] at hlk
 clear hm hm0 hms hr h hv hxn
 obtain ⟨x1, xm⟩ := x
 simp only at b1 b2 hf
 go_enter Tryz.func37, Tryz.ntmps37
 go_wp2_with (first | (go_at_call 19; ((with_reducible refine (HT.out _ gri).mono ?_); rintro _ _ ⟨rfl, g1, rfl⟩)) | (go_at_call 70; ((with_reducible refine (HMay.out _ gri).mono ?_); rintro _ _ ⟨rfl, g2, rfl⟩)))
 refine wp_region_tree (mixw_ghost _) [] (mixw_nil _) [0, 1, 2, 3, 4, 5, 6, 7, 8, 9] 3 (by kernel_rfl) (by kernel_rfl) ?_
 simp only [pick, List.drop, List.take, List.nil_append, List.cons_append]
 repeat (refine wpCalm_step (fun K hK => ?_); go_simp; first | (refine hK _ ?_; clear hK K) | (apply Exists.intro; refine ⟨fun _ => ?_, hK _ ?_⟩; (fail); clear hK K))
 refine wpCalm_nil ?_
 refine fe_mixAlloc 10 (by kernel_rfl) rfl rfl rfl Tryz.zeroValue64 fun b5_0 hb5_0 nb5_0 => ?_
 simp only [Act.put, List.setIfInBounds_toArray, List.set]
 refine fe_mixStore 11 [(b5_0, #[.int .i64 x1, .map (some (mb xv))], 64)] #[.int .i64 x1, .map (some (mb xv))] (by kernel_rfl) rfl rfl rfl rfl List.mem_cons_self hb5_0 rfl rfl rfl rfl (fun z hz => .inl (by simpa using hz)) ?_
 simp only [Act.put, List.setIfInBounds_toArray, List.set]
 refine fe_mixCalm 12 _ (by kernel_rfl) rfl rfl (fun g => calm_assign g rfl) ?_
 simp only [Act.put, List.setIfInBounds_toArray, List.set]
 refine fe_end (by kernel_rfl) ?_
 intro w1 hw1
 have cb5_0 : ∀ o, w1.cell? ⟨b5_0, o, none⟩ = (#[.int .i64 x1, .map (some (mb xv))] : Array Value)[o]? := mix_cell hw1 List.mem_cons_self
 have fb5_0 : ∀ o, w1.frozen? ⟨b5_0, o, none⟩ = false := mix_frozen hw1 List.mem_cons_self
 have ob5_0 : Old b5_0 w1 := mix_old hw1 List.mem_cons_self
 have qb5_0 := @fresh_ne _ _ hb5_0
 have rb5_0 := @fresh_en _ _ hb5_0
 have lb5_0 := fresh_le hb5_0 w.heap.size
 obtain ⟨⟨g5, rfl⟩, hbs⟩ := hw1
 clear hbs nb5_0
 go_wp2_with ((go_at_call 71; ((with_reducible refine (part_7 _ _ _ _ _ _ _ _ (by omega) _).mono ?_); rintro _ _ ⟨rfl, g3, rfl⟩)))
 go_ret
 exact ⟨rfl, gri⟩
set_option maxHeartbeats 4000000 in
theorem refused_8_none (xv xt xs xa xc : Int) (xD : Option Addr) (xn xq : Nat) (lx : Byt) (hxn : lx.length = xn) (base D : Nat) (d : Dev) (w : World) (h : DevAt base w D d) (hr : Row bv w xD lx) (hm : OpM.may ⟨8, xv, xt, xs, xa, xc, lx⟩ = true) (hv : getK d xv = none)  :
  Calls Tryz.prog 37 #[.pointer (some ⟨D, 0, none⟩), (.agg #[.int .i64 8, .int .u64 xv, .int .u64 xt, .int .i64 xs, .int .i64 xa, .int .i64 xc, .slice xD xn xq])] w fun e w' => e = .returned (.int .i64 0) ∧ Gr w w' := by
 have hms := may_s hm
 have hm0 := hm
 obtain ⟨M, mb, h⟩ := h
 rw [OpM.may] at hm
 simp only at hm
 rw [hxn] at hm
 have c9 : lx.length ≤ 2048 := may_len hm0
 rw [hxn] at c9
 have HMay := Lib.hid (fun W (hW : Gr w W) => (hm ▸ mayOp_any 8 xv xt xs xa xc xD xn xq lx W hxn (by omega) (hr.gr hW) : Calls Tryz.prog 70 #[(.agg #[.int .i64 8, .int .u64 xv, .int .u64 xt, .int .i64 xs, .int .i64 xa, .int .i64 xc, .slice xD xn xq])] W fun e w' => e = .returned (.bool true) ∧ Gr W w'))
 have HT := Lib.hid (fun W (hW : Gr w W) => there_yes D M W (h.blk.gr hW))
 haveI := h.blk
 have x0 : w.cell? ⟨D, 0, none⟩ = some (.map (some M)) := (@block_cells _ _ 0 _ _ h.blk).trans rfl
 haveI : Old D w := h.blk.old
 have hlk := look_vol h xv _ hv
 simp only [volV, Option.isSome] at hlk
 clear hm hm0 hms hr h hv hxn
 go_enter Tryz.func37, Tryz.ntmps37
 go_wp2_with (first | (go_at_call 19; ((with_reducible refine (HT.out _ gri).mono ?_); rintro _ _ ⟨rfl, g1, rfl⟩)) | (go_at_call 70; ((with_reducible refine (HMay.out _ gri).mono ?_); rintro _ _ ⟨rfl, g2, rfl⟩)))
 refine wp_region_tree (mixw_ghost _) [] (mixw_nil _) [0, 1, 2, 3, 4, 5, 6, 7, 8, 9] 3 (by kernel_rfl) (by kernel_rfl) ?_
 simp only [pick, List.drop, List.take, List.nil_append, List.cons_append]
 repeat (refine wpCalm_step (fun K hK => ?_); go_simp; first | (refine hK _ ?_; clear hK K) | (apply Exists.intro; refine ⟨fun _ => ?_, hK _ ?_⟩; (fail); clear hK K))
 refine wpCalm_nil ?_
 refine fe_mixAlloc 10 (by kernel_rfl) rfl rfl rfl Tryz.zeroValue64 fun b5_0 hb5_0 nb5_0 => ?_
 simp only [Act.put, List.setIfInBounds_toArray, List.set]
 refine fe_mixStore 11 [(b5_0, #[.int .i64 0, .map none], 64)] #[.int .i64 0, .map none] (by kernel_rfl) rfl rfl rfl rfl List.mem_cons_self hb5_0 rfl rfl rfl rfl (fun z hz => .inl (by simpa using hz)) ?_
 simp only [Act.put, List.setIfInBounds_toArray, List.set]
 refine fe_mixCalm 12 _ (by kernel_rfl) rfl rfl (fun g => calm_assign g rfl) ?_
 simp only [Act.put, List.setIfInBounds_toArray, List.set]
 refine fe_end (by kernel_rfl) ?_
 intro w1 hw1
 have cb5_0 : ∀ o, w1.cell? ⟨b5_0, o, none⟩ = (#[.int .i64 0, .map none] : Array Value)[o]? := mix_cell hw1 List.mem_cons_self
 have fb5_0 : ∀ o, w1.frozen? ⟨b5_0, o, none⟩ = false := mix_frozen hw1 List.mem_cons_self
 have ob5_0 : Old b5_0 w1 := mix_old hw1 List.mem_cons_self
 have qb5_0 := @fresh_ne _ _ hb5_0
 have rb5_0 := @fresh_en _ _ hb5_0
 have lb5_0 := fresh_le hb5_0 w.heap.size
 obtain ⟨⟨g5, rfl⟩, hbs⟩ := hw1
 clear hbs nb5_0
 go_wp2_with fail
 go_ret
 exact ⟨rfl, gri⟩
set_option maxHeartbeats 4000000 in
theorem refused_8_some (xv xt xs xa xc : Int) (xD : Option Addr) (xn xq : Nat) (lx : Byt) (hxn : lx.length = xn) (base D : Nat) (d : Dev) (w : World) (h : DevAt base w D d) (hr : Row bv w xD lx) (hm : OpM.may ⟨8, xv, xt, xs, xa, xc, lx⟩ = true) (x : VolM) (hv : getK d xv = some x)  :
  Calls Tryz.prog 37 #[.pointer (some ⟨D, 0, none⟩), (.agg #[.int .i64 8, .int .u64 xv, .int .u64 xt, .int .i64 xs, .int .i64 xa, .int .i64 xc, .slice xD xn xq])] w fun e w' => e = .returned (.int .i64 0) ∧ Gr w w' := by
 have hms := may_s hm
 have hm0 := hm
 obtain ⟨M, mb, h⟩ := h
 have hxo := h.ok.vols _ ((getK_mem h.ok.sort).1 hv)
 have b1 := hxo.s0
 have b2 := hxo.s1
 clear hxo
 rw [OpM.may] at hm
 simp only at hm
 rw [hxn] at hm
 have c9 : lx.length ≤ 2048 := may_len hm0
 rw [hxn] at c9
 have HMay := Lib.hid (fun W (hW : Gr w W) => (hm ▸ mayOp_any 8 xv xt xs xa xc xD xn xq lx W hxn (by omega) (hr.gr hW) : Calls Tryz.prog 70 #[(.agg #[.int .i64 8, .int .u64 xv, .int .u64 xt, .int .i64 xs, .int .i64 xa, .int .i64 xc, .slice xD xn xq])] W fun e w' => e = .returned (.bool true) ∧ Gr W w'))
 have HT := Lib.hid (fun W (hW : Gr w W) => there_yes D M W (h.blk.gr hW))
 haveI := h.blk
 have x0 : w.cell? ⟨D, 0, none⟩ = some (.map (some M)) := (@block_cells _ _ 0 _ _ h.blk).trans rfl
 haveI : Old D w := h.blk.old
 have hlk := look_vol h xv _ hv
 simp only [volV, Option.isSome] at hlk
 clear hm hm0 hms hr h hv hxn
 obtain ⟨x1, xm⟩ := x
 simp only at b1 b2
 go_enter Tryz.func37, Tryz.ntmps37
 go_wp2_with (first | (go_at_call 19; ((with_reducible refine (HT.out _ gri).mono ?_); rintro _ _ ⟨rfl, g1, rfl⟩)) | (go_at_call 70; ((with_reducible refine (HMay.out _ gri).mono ?_); rintro _ _ ⟨rfl, g2, rfl⟩)))
 refine wp_region_tree (mixw_ghost _) [] (mixw_nil _) [0, 1, 2, 3, 4, 5, 6, 7, 8, 9] 3 (by kernel_rfl) (by kernel_rfl) ?_
 simp only [pick, List.drop, List.take, List.nil_append, List.cons_append]
 repeat (refine wpCalm_step (fun K hK => ?_); go_simp; first | (refine hK _ ?_; clear hK K) | (apply Exists.intro; refine ⟨fun _ => ?_, hK _ ?_⟩; (fail); clear hK K))
 refine wpCalm_nil ?_
 refine fe_mixAlloc 10 (by kernel_rfl) rfl rfl rfl Tryz.zeroValue64 fun b5_0 hb5_0 nb5_0 => ?_
 simp only [Act.put, List.setIfInBounds_toArray, List.set]
 refine fe_mixStore 11 [(b5_0, #[.int .i64 x1, .map (some (mb xv))], 64)] #[.int .i64 x1, .map (some (mb xv))] (by kernel_rfl) rfl rfl rfl rfl List.mem_cons_self hb5_0 rfl rfl rfl rfl (fun z hz => .inl (by simpa using hz)) ?_
 simp only [Act.put, List.setIfInBounds_toArray, List.set]
 refine fe_mixCalm 12 _ (by kernel_rfl) rfl rfl (fun g => calm_assign g rfl) ?_
 simp only [Act.put, List.setIfInBounds_toArray, List.set]
 refine fe_end (by kernel_rfl) ?_
 intro w1 hw1
 have cb5_0 : ∀ o, w1.cell? ⟨b5_0, o, none⟩ = (#[.int .i64 x1, .map (some (mb xv))] : Array Value)[o]? := mix_cell hw1 List.mem_cons_self
 have fb5_0 : ∀ o, w1.frozen? ⟨b5_0, o, none⟩ = false := mix_frozen hw1 List.mem_cons_self
 have ob5_0 : Old b5_0 w1 := mix_old hw1 List.mem_cons_self
 have qb5_0 := @fresh_ne _ _ hb5_0
 have rb5_0 := @fresh_en _ _ hb5_0
 have lb5_0 := fresh_le hb5_0 w.heap.size
 obtain ⟨⟨g5, rfl⟩, hbs⟩ := hw1
 clear hbs nb5_0
 go_wp2_with fail
 go_ret
 exact ⟨rfl, gri⟩
set_option maxHeartbeats 4000000 in
theorem refused_9_none (xv xt xs xa xc : Int) (xD : Option Addr) (xn xq : Nat) (lx : Byt) (hxn : lx.length = xn) (base D : Nat) (d : Dev) (w : World) (h : DevAt base w D d) (hr : Row bv w xD lx) (hm : OpM.may ⟨9, xv, xt, xs, xa, xc, lx⟩ = true) (hv : getK d xv = none)  :
  Calls Tryz.prog 37 #[.pointer (some ⟨D, 0, none⟩), (.agg #[.int .i64 9, .int .u64 xv, .int .u64 xt, .int .i64 xs, .int .i64 xa, .int .i64 xc, .slice xD xn xq])] w fun e w' => e = .returned (.int .i64 6) ∧ Gr w w' := by
 have hms := may_s hm
 have hm0 := hm
 obtain ⟨M, mb, h⟩ := h
 have c1 := hms.at_ (by simp)
 have c2 := hms.cnt (by simp)
 simp only at c1 c2
 rw [OpM.may] at hm
 simp only at hm
 rw [hxn] at hm
 have c9 : lx.length ≤ 2048 := may_len hm0
 rw [hxn] at c9
 have HMay := Lib.hid (fun W (hW : Gr w W) => (hm ▸ mayOp_any 9 xv xt xs xa xc xD xn xq lx W hxn (by omega) (hr.gr hW) : Calls Tryz.prog 70 #[(.agg #[.int .i64 9, .int .u64 xv, .int .u64 xt, .int .i64 xs, .int .i64 xa, .int .i64 xc, .slice xD xn xq])] W fun e w' => e = .returned (.bool true) ∧ Gr W w'))
 have HT := Lib.hid (fun W (hW : Gr w W) => there_yes D M W (h.blk.gr hW))
 haveI := h.blk
 have x0 : w.cell? ⟨D, 0, none⟩ = some (.map (some M)) := (@block_cells _ _ 0 _ _ h.blk).trans rfl
 haveI : Old D w := h.blk.old
 have hlk := look_vol h xv _ hv
 simp only [volV, Option.isSome] at hlk
 clear hm hm0 hms hr h hv hxn
 go_enter Tryz.func37, Tryz.ntmps37
 go_wp2_with (first | (go_at_call 19; ((with_reducible refine (HT.out _ gri).mono ?_); rintro _ _ ⟨rfl, g1, rfl⟩)) | (go_at_call 70; ((with_reducible refine (HMay.out _ gri).mono ?_); rintro _ _ ⟨rfl, g2, rfl⟩)))
 refine wp_region_tree (mixw_ghost _) [] (mixw_nil _) [0, 1, 2, 3, 4, 5, 6, 7, 8, 9] 3 (by kernel_rfl) (by kernel_rfl) ?_
 simp only [pick, List.drop, List.take, List.nil_append, List.cons_append]
 repeat (refine wpCalm_step (fun K hK => ?_); go_simp; first | (refine hK _ ?_; clear hK K) | (apply Exists.intro; refine ⟨fun _ => ?_, hK _ ?_⟩; (fail); clear hK K))
 refine wpCalm_nil ?_
 refine fe_mixAlloc 10 (by kernel_rfl) rfl rfl rfl Tryz.zeroValue64 fun b5_0 hb5_0 nb5_0 => ?_
 simp only [Act.put, List.setIfInBounds_toArray, List.set]
 refine fe_mixStore 11 [(b5_0, #[.int .i64 0, .map none], 64)] #[.int .i64 0, .map none] (by kernel_rfl) rfl rfl rfl rfl List.mem_cons_self hb5_0 rfl rfl rfl rfl (fun z hz => .inl (by simpa using hz)) ?_
 simp only [Act.put, List.setIfInBounds_toArray, List.set]
 refine fe_mixCalm 12 _ (by kernel_rfl) rfl rfl (fun g => calm_assign g rfl) ?_
 simp only [Act.put, List.setIfInBounds_toArray, List.set]
 refine fe_end (by kernel_rfl) ?_
 intro w1 hw1
 have cb5_0 : ∀ o, w1.cell? ⟨b5_0, o, none⟩ = (#[.int .i64 0, .map none] : Array Value)[o]? := mix_cell hw1 List.mem_cons_self
 have fb5_0 : ∀ o, w1.frozen? ⟨b5_0, o, none⟩ = false := mix_frozen hw1 List.mem_cons_self
 have ob5_0 : Old b5_0 w1 := mix_old hw1 List.mem_cons_self
 have qb5_0 := @fresh_ne _ _ hb5_0
 have rb5_0 := @fresh_en _ _ hb5_0
 have lb5_0 := fresh_le hb5_0 w.heap.size
 obtain ⟨⟨g5, rfl⟩, hbs⟩ := hw1
 clear hbs nb5_0
 go_wp2_with ((go_at_call 71; ((with_reducible refine (part_9 _ _ _ _ _ _ _ _ (by omega) _).mono ?_); rintro _ _ ⟨rfl, g3, rfl⟩)))
 go_ret
 exact ⟨rfl, gri⟩
set_option maxHeartbeats 4000000 in
theorem refused_9_fit (xv xt xs xa xc : Int) (xD : Option Addr) (xn xq : Nat) (lx : Byt) (hxn : lx.length = xn) (base D : Nat) (d : Dev) (w : World) (h : DevAt base w D d) (hr : Row bv w xD lx) (hm : OpM.may ⟨9, xv, xt, xs, xa, xc, lx⟩ = true) (x : VolM) (hv : getK d xv = some x) (hf : ¬ 4 * x.1 < xa + xc) :
  Calls Tryz.prog 37 #[.pointer (some ⟨D, 0, none⟩), (.agg #[.int .i64 9, .int .u64 xv, .int .u64 xt, .int .i64 xs, .int .i64 xa, .int .i64 xc, .slice xD xn xq])] w fun e w' => e = .returned (.int .i64 0) ∧ Gr w w' := by
 have hms := may_s hm
 have hm0 := hm
 obtain ⟨M, mb, h⟩ := h
 have hxo := h.ok.vols _ ((getK_mem h.ok.sort).1 hv)
 have b1 := hxo.s0
 have b2 := hxo.s1
 clear hxo
 have c1 := hms.at_ (by simp)
 have c2 := hms.cnt (by simp)
 simp only at c1 c2
 rw [OpM.may] at hm
 simp only at hm
 rw [hxn] at hm
 have c9 : lx.length ≤ 2048 := may_len hm0
 rw [hxn] at c9
 have HMay := Lib.hid (fun W (hW : Gr w W) => (hm ▸ mayOp_any 9 xv xt xs xa xc xD xn xq lx W hxn (by omega) (hr.gr hW) : Calls Tryz.prog 70 #[(.agg #[.int .i64 9, .int .u64 xv, .int .u64 xt, .int .i64 xs, .int .i64 xa, .int .i64 xc, .slice xD xn xq])] W fun e w' => e = .returned (.bool true) ∧ Gr W w'))
 have HT := Lib.hid (fun W (hW : Gr w W) => there_yes D M W (h.blk.gr hW))
 haveI := h.blk
 have x0 : w.cell? ⟨D, 0, none⟩ = some (.map (some M)) := (@block_cells _ _ 0 _ _ h.blk).trans rfl
 haveI : Old D w := h.blk.old
 have hlk := look_vol h xv _ hv
 simp only [volV, Option.isSome] at hlk
 clear hm hm0 hms hr h hv hxn
 obtain ⟨x1, xm⟩ := x
 simp only at b1 b2 hf
 go_enter Tryz.func37, Tryz.ntmps37
 go_wp2_with (first | (go_at_call 19; ((with_reducible refine (HT.out _ gri).mono ?_); rintro _ _ ⟨rfl, g1, rfl⟩)) | (go_at_call 70; ((with_reducible refine (HMay.out _ gri).mono ?_); rintro _ _ ⟨rfl, g2, rfl⟩)))
 refine wp_region_tree (mixw_ghost _) [] (mixw_nil _) [0, 1, 2, 3, 4, 5, 6, 7, 8, 9] 3 (by kernel_rfl) (by kernel_rfl) ?_
 simp only [pick, List.drop, List.take, List.nil_append, List.cons_append]
 repeat (refine wpCalm_step (fun K hK => ?_); go_simp; first | (refine hK _ ?_; clear hK K) | (apply Exists.intro; refine ⟨fun _ => ?_, hK _ ?_⟩; (fail); clear hK K))
 refine wpCalm_nil ?_
 refine fe_mixAlloc 10 (by kernel_rfl) rfl rfl rfl Tryz.zeroValue64 fun b5_0 hb5_0 nb5_0 => ?_
 simp only [Act.put, List.setIfInBounds_toArray, List.set]
 refine fe_mixStore 11 [(b5_0, #[.int .i64 x1, .map (some (mb xv))], 64)] #[.int .i64 x1, .map (some (mb xv))] (by kernel_rfl) rfl rfl rfl rfl List.mem_cons_self hb5_0 rfl rfl rfl rfl (fun z hz => .inl (by simpa using hz)) ?_
 simp only [Act.put, List.setIfInBounds_toArray, List.set]
 refine fe_mixCalm 12 _ (by kernel_rfl) rfl rfl (fun g => calm_assign g rfl) ?_
 simp only [Act.put, List.setIfInBounds_toArray, List.set]
 refine fe_end (by kernel_rfl) ?_
 intro w1 hw1
 have cb5_0 : ∀ o, w1.cell? ⟨b5_0, o, none⟩ = (#[.int .i64 x1, .map (some (mb xv))] : Array Value)[o]? := mix_cell hw1 List.mem_cons_self
 have fb5_0 : ∀ o, w1.frozen? ⟨b5_0, o, none⟩ = false := mix_frozen hw1 List.mem_cons_self
 have ob5_0 : Old b5_0 w1 := mix_old hw1 List.mem_cons_self
 have qb5_0 := @fresh_ne _ _ hb5_0
 have rb5_0 := @fresh_en _ _ hb5_0
 have lb5_0 := fresh_le hb5_0 w.heap.size
 obtain ⟨⟨g5, rfl⟩, hbs⟩ := hw1
 clear hbs nb5_0
 go_wp2_with ((go_at_call 71; ((with_reducible refine (part_9 _ _ _ _ _ _ _ _ (by omega) _).mono ?_); rintro _ _ ⟨rfl, g3, rfl⟩)))
 go_ret
 exact ⟨rfl, gri⟩
set_option maxHeartbeats 4000000 in
theorem refused_9_over (xv xt xs xa xc : Int) (xD : Option Addr) (xn xq : Nat) (lx : Byt) (hxn : lx.length = xn) (base D : Nat) (d : Dev) (w : World) (h : DevAt base w D d) (hr : Row bv w xD lx) (hm : OpM.may ⟨9, xv, xt, xs, xa, xc, lx⟩ = true) (x : VolM) (hv : getK d xv = some x) (hf : 4 * x.1 < xa + xc) :
  Calls Tryz.prog 37 #[.pointer (some ⟨D, 0, none⟩), (.agg #[.int .i64 9, .int .u64 xv, .int .u64 xt, .int .i64 xs, .int .i64 xa, .int .i64 xc, .slice xD xn xq])] w fun e w' => e = .returned (.int .i64 5) ∧ Gr w w' := by
 have hms := may_s hm
 have hm0 := hm
 obtain ⟨M, mb, h⟩ := h
 have hxo := h.ok.vols _ ((getK_mem h.ok.sort).1 hv)
 have b1 := hxo.s0
 have b2 := hxo.s1
 clear hxo
 have c1 := hms.at_ (by simp)
 have c2 := hms.cnt (by simp)
 simp only at c1 c2
 rw [OpM.may] at hm
 simp only at hm
 rw [hxn] at hm
 have c9 : lx.length ≤ 2048 := may_len hm0
 rw [hxn] at c9
 have HMay := Lib.hid (fun W (hW : Gr w W) => (hm ▸ mayOp_any 9 xv xt xs xa xc xD xn xq lx W hxn (by omega) (hr.gr hW) : Calls Tryz.prog 70 #[(.agg #[.int .i64 9, .int .u64 xv, .int .u64 xt, .int .i64 xs, .int .i64 xa, .int .i64 xc, .slice xD xn xq])] W fun e w' => e = .returned (.bool true) ∧ Gr W w'))
 have HT := Lib.hid (fun W (hW : Gr w W) => there_yes D M W (h.blk.gr hW))
 haveI := h.blk
 have x0 : w.cell? ⟨D, 0, none⟩ = some (.map (some M)) := (@block_cells _ _ 0 _ _ h.blk).trans rfl
 haveI : Old D w := h.blk.old
 have hlk := look_vol h xv _ hv
 simp only [volV, Option.isSome] at hlk
 clear hm hm0 hms hr h hv hxn
 obtain ⟨x1, xm⟩ := x
 simp only at b1 b2 hf
 go_enter Tryz.func37, Tryz.ntmps37
 go_wp2_with (first | (go_at_call 19; ((with_reducible refine (HT.out _ gri).mono ?_); rintro _ _ ⟨rfl, g1, rfl⟩)) | (go_at_call 70; ((with_reducible refine (HMay.out _ gri).mono ?_); rintro _ _ ⟨rfl, g2, rfl⟩)))
 refine wp_region_tree (mixw_ghost _) [] (mixw_nil _) [0, 1, 2, 3, 4, 5, 6, 7, 8, 9] 3 (by kernel_rfl) (by kernel_rfl) ?_
 simp only [pick, List.drop, List.take, List.nil_append, List.cons_append]
 repeat (refine wpCalm_step (fun K hK => ?_); go_simp; first | (refine hK _ ?_; clear hK K) | (apply Exists.intro; refine ⟨fun _ => ?_, hK _ ?_⟩; (fail); clear hK K))
 refine wpCalm_nil ?_
 refine fe_mixAlloc 10 (by kernel_rfl) rfl rfl rfl Tryz.zeroValue64 fun b5_0 hb5_0 nb5_0 => ?_
 simp only [Act.put, List.setIfInBounds_toArray, List.set]
 refine fe_mixStore 11 [(b5_0, #[.int .i64 x1, .map (some (mb xv))], 64)] #[.int .i64 x1, .map (some (mb xv))] (by kernel_rfl) rfl rfl rfl rfl List.mem_cons_self hb5_0 rfl rfl rfl rfl (fun z hz => .inl (by simpa using hz)) ?_
 simp only [Act.put, List.setIfInBounds_toArray, List.set]
 refine fe_mixCalm 12 _ (by kernel_rfl) rfl rfl (fun g => calm_assign g rfl) ?_
 simp only [Act.put, List.setIfInBounds_toArray, List.set]
 refine fe_end (by kernel_rfl) ?_
 intro w1 hw1
 have cb5_0 : ∀ o, w1.cell? ⟨b5_0, o, none⟩ = (#[.int .i64 x1, .map (some (mb xv))] : Array Value)[o]? := mix_cell hw1 List.mem_cons_self
 have fb5_0 : ∀ o, w1.frozen? ⟨b5_0, o, none⟩ = false := mix_frozen hw1 List.mem_cons_self
 have ob5_0 : Old b5_0 w1 := mix_old hw1 List.mem_cons_self
 have qb5_0 := @fresh_ne _ _ hb5_0
 have rb5_0 := @fresh_en _ _ hb5_0
 have lb5_0 := fresh_le hb5_0 w.heap.size
 obtain ⟨⟨g5, rfl⟩, hbs⟩ := hw1
 clear hbs nb5_0
 go_wp2_with ((go_at_call 71; ((with_reducible refine (part_9 _ _ _ _ _ _ _ _ (by omega) _).mono ?_); rintro _ _ ⟨rfl, g3, rfl⟩)))
 go_ret
 exact ⟨rfl, gri⟩
set_option maxRecDepth 100000
theorem refused_any (xk : Int) (xv xt xs xa xc : Int) (xD : Option Addr) (xn xq : Nat) (lx : Byt) (hxn : lx.length = xn) (base D : Nat) (d : Dev) (w : World) (h : DevAt base w D d) (hr : Row bv w xD lx) (hn : xn ≤ 9223372036854775807) :
  Calls Tryz.prog 37 #[.pointer (some ⟨D, 0, none⟩), (.agg #[.int .i64 xk, .int .u64 xv, .int .u64 xt, .int .i64 xs, .int .i64 xa, .int .i64 xc, .slice xD xn xq])] w fun e w' => e = .returned (.int .i64 (errK d ⟨xk, xv, xt, xs, xa, xc, lx⟩)) ∧ Gr w w' := by
 cases hm : OpM.may ⟨xk, xv, xt, xs, xa, xc, lx⟩
 ·have e : errK d ⟨xk, xv, xt, xs, xa, xc, lx⟩ = 2 := by rw [errK, if_pos hm]
  rw [e]
  exact refused_bad xk xv xt xs xa xc xD xn xq lx hxn base D d w h hr hn hm
 ·have hk := may_kind hm
  simp only at hk
  have h9 : xk = 1 ∨ xk = 2 ∨ xk = 3 ∨ xk = 4 ∨ xk = 5 ∨ xk = 6 ∨ xk = 7 ∨ xk = 8 ∨ xk = 9 := by omega
  have e0 : errK d ⟨xk, xv, xt, xs, xa, xc, lx⟩ = (if xk = 8 then 0 else match getK d xv with
   | none => if xk = 1 then 0 else 6
   | some x => if xk = 1 then 7 else if xk = 4 then (if (getK d xt).isSome then 7 else 0) else if xk = 5 then (if 4 * x.1 < xa + (lx.length / 64 : Nat) then 5 else 0)
    else if xk = 6 ∨ xk = 9 then (if 4 * x.1 < xa + xc then 5 else 0) else if xk = 7 then (if x.1 < xa + xc then 5 else 0) else 0) := by
   rw [errK, if_neg (by rw [hm]; simp)]; rfl
  rw [e0]
  clear e0
  have e64 : ((lx.length / 64 : Nat) : Int) = (xn : Int) / 64 := by rw [hxn]; omega
  rw [e64]
  clear e64
  rcases h9 with rfl | rfl | rfl | rfl | rfl | rfl | rfl | rfl | rfl
  ·cases hv : getK d xv with
   | none => exact refused_1_none xv xt xs xa xc xD xn xq lx hxn base D d w h hr hm hv
   | some x => exact refused_1_some xv xt xs xa xc xD xn xq lx hxn base D d w h hr hm x hv
  ·cases hv : getK d xv with
   | none => exact refused_2_none xv xt xs xa xc xD xn xq lx hxn base D d w h hr hm hv
   | some x => exact refused_2_some xv xt xs xa xc xD xn xq lx hxn base D d w h hr hm x hv
  ·cases hv : getK d xv with
   | none => exact refused_3_none xv xt xs xa xc xD xn xq lx hxn base D d w h hr hm hv
   | some x => exact refused_3_some xv xt xs xa xc xD xn xq lx hxn base D d w h hr hm x hv
  ·cases hv : getK d xv with
   | none => exact refused_4_none xv xt xs xa xc xD xn xq lx hxn base D d w h hr hm hv
   | some x =>
    cases ht : getK d xt with
    | none => exact refused_4_to0 xv xt xs xa xc xD xn xq lx hxn base D d w h hr hm x hv ht
    | some y => exact refused_4_to1 xv xt xs xa xc xD xn xq lx hxn base D d w h hr hm x hv y ht
  ·cases hv : getK d xv with
   | none => exact refused_5_none xv xt xs xa xc xD xn xq lx hxn base D d w h hr hm hv
   | some x =>
    by_cases hf : 4 * x.1 < xa + (xn : Int) / 64
    ·have := refused_5_over xv xt xs xa xc xD xn xq lx hxn base D d w h hr hm x hv hf
     simpa [hf] using this
    ·have := refused_5_fit xv xt xs xa xc xD xn xq lx hxn base D d w h hr hm x hv hf
     simpa [hf] using this
  ·cases hv : getK d xv with
   | none => exact refused_6_none xv xt xs xa xc xD xn xq lx hxn base D d w h hr hm hv
   | some x =>
    by_cases hf : 4 * x.1 < xa + xc
    ·have := refused_6_over xv xt xs xa xc xD xn xq lx hxn base D d w h hr hm x hv hf
     simpa [hf] using this
    ·have := refused_6_fit xv xt xs xa xc xD xn xq lx hxn base D d w h hr hm x hv hf
     simpa [hf] using this
  ·cases hv : getK d xv with
   | none => exact refused_7_none xv xt xs xa xc xD xn xq lx hxn base D d w h hr hm hv
   | some x =>
    by_cases hf : x.1 < xa + xc
    ·have := refused_7_over xv xt xs xa xc xD xn xq lx hxn base D d w h hr hm x hv hf
     simpa [hf] using this
    ·have := refused_7_fit xv xt xs xa xc xD xn xq lx hxn base D d w h hr hm x hv hf
     simpa [hf] using this
  ·cases hv : getK d xv with
   | none => exact refused_8_none xv xt xs xa xc xD xn xq lx hxn base D d w h hr hm hv
   | some x => exact refused_8_some xv xt xs xa xc xD xn xq lx hxn base D d w h hr hm x hv
  ·cases hv : getK d xv with
   | none => exact refused_9_none xv xt xs xa xc xD xn xq lx hxn base D d w h hr hm hv
   | some x =>
    by_cases hf : 4 * x.1 < xa + xc
    ·have := refused_9_over xv xt xs xa xc xD xn xq lx hxn base D d w h hr hm x hv hf
     simpa [hf] using this
    ·have := refused_9_fit xv xt xs xa xc xD xn xq lx hxn base D d w h hr hm x hv hf
     simpa [hf] using this
section
variable {P : Program} {ops : Array Oper} {md : Region.Mode} {W : World} {S : Type} {I : S → World → Prop}
def feT (P : Program) (md : Region.Mode) (ops : Array Oper) (W : World) (I : S → World → Prop) (n : Nat) (L : Array Bool → S → Act → Prop) : Nat → Array Bool → S → Act → Prop
 | 0, listed, s, a => L listed s a
 | f + 1, listed, s, a => Region.ready md ops listed ≠ [] ∧ ∀ i ∈ Region.ready md ops listed, i < n ∧ feOp P ops W I i (feT P md ops W I n L f (listed.setIfInBounds i true)) s a
theorem feT_any (G : Ghost W I) {n g : Nat} {L : Array Bool → S → Act → Prop} {Q' : Exit → Act → World → Prop} (hL : ∀ listed s a w, I s w → L listed s a → wpAny P md ops Q' g listed a w) :
  ∀ (f : Nat) (listed : Array Bool) (s : S) (a : Act) (w : World), I s w → feT P md ops W I n L f listed s a → wpAny P md ops Q' (f + g) listed a w
 | 0, listed, s, a, w, hw, h => by rw [Nat.zero_add]; exact hL _ _ _ _ hw h
 | f + 1, listed, s, a, w, hw, h => by
  rw [show f + 1 + g = (f + g) + 1 by omega]
  refine ⟨fun h0 => absurd h0 h.1, fun i hi => ?_⟩
  unfold wpOp
  rcases (h.2 i hi).2 with ⟨o, ho, v, hv, hk⟩ | ⟨o, ho, hg, hs⟩
  ·simp only [ho]
   rcases hv with ⟨hw1, hc⟩ | ⟨hw1, rfl⟩
   ·simp only [hw1, if_true]
    refine .inl ?_
    obtain ⟨gw, rfl⟩ := G.out _ _ hw
    have h3 := hc gw
    unfold calmAt at h3
    unfold Oper.wp
    generalize (execOp a.eval o).run P (grown W gw) = r at *
    cases r with
    | ok nx w' =>
     cases nx <;> simp only [calmUpon] at h3 <;> simp only [Oper.upon]
     case value u => obtain ⟨e1, e2⟩ := h3; rw [e1, e2]; exact feT_any G hL f _ _ _ _ hw hk
     case skip => obtain ⟨e1, e2⟩ := h3; rw [e1, ← e2]; exact feT_any G hL f _ _ _ _ hw hk
     case enter f' args =>
      obtain ⟨e1, hc'⟩ := h3
      rw [e1]
      exact hc'.mono fun e w'' ⟨he, hw''⟩ => by subst he; exact feT_any G hL f _ _ _ _ (G.grow _ _ _ hw hw'') hk
    | halt x w' => simp only [calmUpon] at h3
   ·simp only [hw1, Bool.false_eq_true, if_false]; exact feT_any G hL f _ _ _ _ hw hk
  ·simp only [ho, hg, if_true]
   refine .inl ?_
   have h3 := hs w hw
   unfold EffAt at h3
   unfold Oper.wp
   generalize (execOp a.eval o).run P w = r at *
   cases r with
   | ok nx w' =>
    cases nx <;> simp only [effUpon] at h3 <;> simp only [Oper.upon]
    case value u => obtain ⟨s', hi', hk⟩ := h3; exact feT_any G hL f _ _ _ _ hi' hk
    case skip => obtain ⟨s', hi', hk⟩ := h3; exact feT_any G hL f _ _ _ _ hi' hk
    case enter f' args => exact h3.mono fun e w'' ⟨v, he, s', hi', hk⟩ => by subst he; exact feT_any G hL f _ _ _ _ hi' hk
   | halt x w' => simp only [effUpon] at h3
theorem feT_first {n i : Nat} {oi : Oper} {v : Value} {L : Array Bool → S → Act → Prop} (hi : ops[i]? = some oi) (hsel : ∀ (j : Nat) (o : Oper) cs b, ops[j]? = some o → o.op ≠ .select cs b)
  (hs : Region.sinkB md ops n = true) (hc : Region.chainB md ops n = true) (hn : n < ops.size) (hin : i < n) (hdone : ∀ listed s a, L listed s a → ∀ j ∈ Region.ready md ops listed, n ≤ j) :
  ∀ (f : Nat) (listed : Array Bool) (s : S) (a : Act), HeadInv md ops n listed →
   (∀ j oj, ops[j]? = some oj → j ≠ i → listed.getD j true = false → (∀ e ∈ oj.after, Region.binds md e = true → e.on ≠ i) → oi.apart ops oj = true) →
   i ∈ Region.ready md ops listed → CalmOp P ops W oi v a →
   feT P md ops W I n L f (listed.setIfInBounds i true) s (a.put oi.dst v) → feT P md ops W I n L (f + 1) listed s a := by
 intro f
 induction f with
 | zero =>
  intro listed s a inv _ hr hy H
  refine ⟨(fun h => by rw [h] at hr; cases hr), fun j hj => ?_⟩
  have hjn : j < n := (Nat.lt_or_ge j n).elim id fun h => absurd hj (tail_waits hs hc hn inv _ i rfl hin (mem_ready.1 hr).1 j h)
  by_cases hji : j = i
  ·subst hji; exact ⟨hjn, .inl ⟨oi, hi, v, hy, H⟩⟩
  ·have := hdone _ _ _ H j (ready_mono hj hji)
   omega
 | succ f ih =>
  intro listed s a inv hfree hr hy H
  have hun := (mem_ready.1 hr).1
  refine ⟨(fun h => by rw [h] at hr; cases hr), fun j hj => ?_⟩
  have hjn : j < n := (Nat.lt_or_ge j n).elim id fun h => absurd hj (tail_waits hs hc hn inv _ i rfl hin hun j h)
  refine ⟨hjn, ?_⟩
  by_cases hji : j = i
  ·subst hji; exact .inl ⟨oi, hi, v, hy, H⟩
  have h1 := (H.2 j (ready_mono hj hji)).2
  obtain ⟨hjun, oj, hoj, hall⟩ := mem_ready.1 hj
  have hnot : ∀ e ∈ oj.after, Region.binds md e = true → e.on ≠ i := fun e he hb heq => by
   have h1 := hall e he hb
   rw [heq, getD_both hun] at h1
   cases h1
  have h2 := feOp_put hoj (hfree j oj hoj hji hjun hnot) (fun cs b => hsel i oi cs b hi) (fun cs b => hsel j oj cs b hoj) hy h1
  have hfree' : ∀ k ok, ops[k]? = some ok → k ≠ i → (listed.setIfInBounds j true).getD k true = false →
    (∀ e ∈ ok.after, Region.binds md e = true → e.on ≠ i) → oi.apart ops ok = true := fun k ok hk hki hu hno => by
   refine hfree k ok hk hki ?_ hno
   by_cases hjk : j = k
   ·subst hjk; exact hjun
   ·rw [getD_set_ne true hjk] at hu; exact hu
  refine feOp_mono (fun s' a' h3 => ih (listed.setIfInBounds j true) s' a' (inv.set hj hjn) hfree' (ready_mono hr (Ne.symm hji)) h3.1 ?_) h2
  rw [Array.setIfInBounds_comm _ _ hji]
  exact h3.2
end
section
variable {P : Program} {md : Region.Mode} {W : World} {S : Type} {I : S → World → Prop} {l : List Oper}
theorem feT_lex {n : Nat} {L : Array Bool → S → Act → Prop} (hsel : Region.noSelect l.toArray = true) (hs : Region.sinkB md l.toArray n = true) (hc : Region.chainB md l.toArray n = true) (hn : n < l.toArray.size) (hdone : ∀ listed s a, L listed s a → ∀ j ∈ Region.ready md l.toArray listed, n ≤ j) (m : Nat) :
  ∀ (qs : List Nat) (listed : Array Bool) (s : S) (a : Act), (∀ k ∈ qs, k < n) → HeadInv md l.toArray n listed → freeAll md l.toArray qs listed = true → wpCalm P l.toArray W (fun a' => feT P md l.toArray W I n L m (listAll qs listed) s a') (pick l qs) a →
   feT P md l.toArray W I n L (qs.length + m) listed s a
 | [], listed, s, a, _, inv, hB, h => by
  rw [List.length_nil, Nat.zero_add]
  exact h
 | k :: r, listed, s, a, hq, inv, hB, h => by
  simp only [freeAll, Bool.and_eq_true] at hB
  obtain ⟨⟨hr, hf⟩, hB'⟩ := hB
  have hr' : k ∈ Region.ready md l.toArray listed := by simpa using hr
  obtain ⟨_, o, ho, _⟩ := mem_ready.1 hr'
  have ho' : l[k]? = some o := by simpa using ho
  have hkn := hq k (.head _)
  rw [pick_cons ho'] at h
  rw [show (k :: r).length + m = (r.length + m) + 1 by simp; omega]
  have hq' : ∀ j ∈ r, j < n := fun j hj => hq j (.tail _ hj)
  unfold wpCalm at h
  by_cases hw : Region.wanted o (yielded l.toArray a.tmps) = true
  ·simp only [hw, if_true] at h
   obtain ⟨v, hv, hk⟩ := h
   exact feT_first ho (Region.noSelect_spec hsel) hs hc hn hkn hdone _ listed s a inv (Region.free_spec ho hf) hr' (.inl ⟨hw, hv⟩) (feT_lex hsel hs hc hn hdone m r _ _ _ hq' (inv.set hr' hkn) hB' hk)
  ·simp only [hw] at h
   exact feT_first ho (Region.noSelect_spec hsel) hs hc hn hkn hdone _ listed s a inv (Region.free_spec ho hf) hr' (.inr ⟨by simpa using hw, rfl⟩) (feT_lex hsel hs hc hn hdone m r _ _ _ hq' (inv.set hr' hkn) hB' h)
def treeTB (md : Region.Mode) (ops : Array Oper) (qs : List Nat) (m n : Nat) : Bool :=
 Region.noSelect ops && decide (n < ops.size) && Region.sinkB md ops n && Region.chainB md ops n && decide (qs.length + m = n) && qs.all (fun k => decide (k < n)) && freeAll md ops qs (Array.replicate ops.size false)
theorem wp_region_treeT {id : Nat} {Q : Exit → Act → World → Prop} {a : Act} {w : World} (G : Ghost W I) (s : S) (hw : I s w.drew) (qs : List Nat) (m n : Nat) (hm : P.follows .mixedOrders = true) (hB : treeTB .any l.toArray qs m n = true)
  (h : wpCalm P l.toArray W (fun a' => feT P .any l.toArray W I n (fun listed s a => Region.seqB .any l.toArray (l.toArray.size - n) n listed = true ∧ ∀ w', I s w' → wpList P l.toArray Q (l.drop n) a w') m (listAll qs (Array.replicate l.toArray.size false)) s a') (pick l qs) a) : (Code.region id l.toArray true).wp P Q a w := by
 simp only [treeTB, Bool.and_eq_true, decide_eq_true_eq] at hB
 obtain ⟨⟨⟨⟨⟨⟨hsel, hn⟩, hs⟩, hc⟩, hlen⟩, hall⟩, hfree⟩ := hB
 have hall' : ∀ k ∈ qs, k < n := fun k hk => by simpa using List.all_eq_true.1 hall k hk
 have hdl : (l.drop n).length = l.toArray.size - n := by simp
 have inv0 : HeadInv .any l.toArray n (Array.replicate l.toArray.size false) :=
  ⟨by simp, (fun j oj _ hl => by rw [getD_replicate_false] at hl; cases hl), fun t _ ht => getD_in (by simpa using ht) (getD_replicate_false _ _)⟩
 have H := feT_lex (md := .any) (P := P) (W := W) (I := I) hsel hs hc hn (fun listed s a hL => seqB_ready hL.1) m qs _ s a hall' inv0 hfree h
 refine wp_region_any hm ?_
 have := feT_any (Q' := Q) (g := l.toArray.size - n) G (fun listed s a' w' hw' hL => by
  have := wpAny_of_seq (md := .any) (Q' := Q) (l.drop n) n listed a' w' (fun j => by simp [List.getElem?_drop]) (by rw [hdl]; exact hL.1) (hL.2 w' hw')
  rwa [hdl] at this) _ _ _ _ _ hw H
 rw [hlen, show n + (l.toArray.size - n) = l.toArray.size by simp at hn ⊢; omega] at this
 exact this
theorem effAt_call' {o : Oper} {a : Act} {w : World} {R : Value → World → Prop} (f : FuncId) (args : Array Value) (he : (execOp a.eval o).run P w = .ok (.enter f args) w) (h : Calls P f args w (fun e w' => ∃ v, e = .returned v ∧ R v w')) : EffAt P o a w R := by
 unfold EffAt
 rw [he]
 exact h
section
variable {ops : Array Oper} {L : Array Bool → S → Act → Prop} {f n : Nat} {listed : Array Bool} {s : S} {a : Act}
theorem ft_one (i : Nat) (hr : Region.ready md ops listed = [i]) (hi : i < n) (h : feOp P ops W I i (feT P md ops W I n L f (listed.setIfInBounds i true)) s a) : feT P md ops W I n L (f + 1) listed s a :=
 ⟨fun h0 => by (rw [hr] at h0; cases h0), fun k hk => by (rw [hr] at hk; obtain rfl : k = i := by simpa using hk); exact ⟨hi, h⟩⟩
theorem ft_eff (i : Nat) {o : Oper} (hr : Region.ready md ops listed = [i]) (hi : i < n) (ho : ops[i]? = some o) (hg : o.guard = none) (h : ∀ w, I s w → EffAt P o a w (fun v w' => ∃ s', I s' w' ∧ feT P md ops W I n L f (listed.setIfInBounds i true) s' (a.put o.dst v))) : feT P md ops W I n L (f + 1) listed s a :=
 ft_one i hr hi (fe_eff o ho hg h)
theorem ft_calm (i : Nat) {o : Oper} (v : Value) (hr : Region.ready md ops listed = [i]) (hi : i < n) (ho : ops[i]? = some o) (hg : o.guard = none) (hc : ∀ g : Growth W, calmAt P o a (grown W g) v) (h : feT P md ops W I n L f (listed.setIfInBounds i true) s (a.put o.dst v)) : feT P md ops W I n L (f + 1) listed s a :=
 ft_one i hr hi (fe_calm o v ho hg hc h)
theorem ft_end (h : L listed s a) : feT P md ops W I n L 0 listed s a := h
end
end
set_option maxRecDepth 100000
section
variable {P : Program} {W : World} {ops : Array Oper} {rest : List Oper} {o : Oper} {a : Act} {Q : Exit → Act → World → Prop} {q : IntKind} {b : Nat} {L : List (Int × Value)} {t kt et : TypeId}
theorem wpList_updateK (hgd : o.guard = none) (m x v : Operand) (ho : o.op = .mapUpdate t m x v) (key : Int) (val : Value) (ht : P.underlying t = some (.map kt et)) (hk : P.underlying kt = some (.int q)) (hm : MapAt q W b L) (hm2 : a.eval m = .map (some b)) (hx : a.eval x = .int q key) (hv : a.eval v = val)
  (h : ∀ W', MapAt q W' b (putK L key val) → OnlyB W W' b → wpList P ops Q rest (a.put o.dst undef) W') : wpList P ops Q (o :: rest) a W := by
 refine wpList_plain hgd fun K hK => ?_
 obtain ⟨W', hrun, h1, h2⟩ := map_update (P := P) ht hk hm key val
 unfold Oper.wp
 simp [execOp, ho, hm2, hx, hv, hrun, Result.andThen]
 exact hK _ _ (h W' h1 h2)
theorem wpList_deleteK (hgd : o.guard = none) (m x : Operand) (ho : o.op = .call { callee := .builtin .delete, args := #[m, x], argTypes := #[t, kt] }) (key : Int) (ht : P.underlying t = some (.map kt et)) (hk : P.underlying kt = some (.int q)) (hm : MapAt q W b L) (hm2 : a.eval m = .map (some b)) (hx : a.eval x = .int q key)
  (h : ∀ W', MapAt q W' b (delK L key) → OnlyB W W' b → wpList P ops Q rest (a.put o.dst (.tuple #[])) W') : wpList P ops Q (o :: rest) a W := by
 refine wpList_plain hgd fun K hK => ?_
 obtain ⟨W', hrun, h1, h2⟩ := map_delete (P := P) ht hk hm key o.type
 unfold Oper.wp
 simp [execOp, ho, resolve, invoke, builtin, hm2, hx, hrun, Result.andThen]
 exact hK _ _ (h W' h1 h2)
theorem effAt_makeMap {w : World} {R : Value → World → Prop} (ho : o.op = .makeMap t none) (h : R (.map (some w.heap.size)) (w.alloc (.map #[] 0))) : EffAt P o a w R := by
 unfold EffAt execOp
 simp only [ho]
 simp [run_makeMap, effUpon]
 exact h
end
theorem OnlyB.blockAt {W W' : World} {b : Nat} (h : OnlyB W W' b) {B : Nat} {cs : Array Value} {t : TypeId} (hB : BlockAt W B cs t) (hne : B ≠ b) : BlockAt W' B cs t := ⟨(h.block hne).trans hB.eq⟩
theorem OnlyB.mapAt {W W' : World} {b : Nat} (h : OnlyB W W' b) {q : IntKind} {B : Nat} {L : List (Int × Value)} (hB : MapAt q W B L) (hne : B ≠ b) : MapAt q W' B L := hB.keep (h.block hne)
def volF (mb : Int → Nat) (p : Int × VolM) : Int × Value := (p.1, .agg #[.int .i64 p.2.1, .map (some (mb p.1))])
theorem putK_vols (d : Dev) (mb : Int → Nat) (b : Nat) (v : Int) (x : VolM) : ∀ (hs : SortK d), putK (d.map (volF mb)) v (.agg #[.int .i64 x.1, .map (some b)]) = (putK d v x).map (volF fun u => if u = v then b else mb u) := by
 have hmap : ∀ (l : Dev), (∀ p ∈ l, p.1 ≠ v) → l.map (volF mb) = l.map (volF fun u => if u = v then b else mb u) := fun l hl => List.map_congr_left fun p hp => by simp [volF, hl p hp]
 induction d with
 | nil => intro _; simp [putK, volF]
 | cons p r ih =>
  obtain ⟨a, y⟩ := p
  intro hs
  have h1 := List.pairwise_cons.1 hs
  simp only [List.map_cons, putK, volF]
  by_cases h2 : v < a
  ·rw [if_pos h2, if_pos h2]
   have h3 := hmap ((a, y) :: r) (fun p hp => by
    rcases List.mem_cons.1 hp with rfl | hp
    ·simp; omega
    ·have := h1.1 p hp; simp at this; omega)
   simp only [List.map_cons, volF] at h3
   simp only [List.map_cons, volF]
   rw [h3]
   simp
  ·rw [if_neg h2, if_neg h2]
   by_cases h3 : v = a
   ·rw [if_pos h3, if_pos h3]
    have h4 := hmap r (fun p hp => by have := h1.1 p hp; simp at this; omega)
    rw [List.map_cons, ← h4]
    simp [volF]
   ·rw [if_neg h3, if_neg h3, List.map_cons]
    have h4 : ¬ a = v := fun e => h3 e.symm
    have h5 := ih h1.2
    unfold volF at h5 ⊢
    rw [h5]
    simp [h4]
theorem DevIn.put {base : Nat} {w W W' : World} {D M : Nat} {mb : Int → Nat} {d : Dev} (h : DevIn base w D M mb d) (g : Gr w W) (v : Int) (x : VolM) (b : Nat) (hm : MapAt .i64 W b (encK bkV x.2)) (hb : w.heap.size ≤ b ∨ (b = mb v ∧ ∃ y, (v, y) ∈ d))
  (h1 : MapAt .u64 W' M (putK (d.map fun p => (p.1, .agg #[.int .i64 p.2.1, .map (some (mb p.1))])) v (.agg #[.int .i64 x.1, .map (some b)]))) (h2 : OnlyB W W' M) (hok : DevOk (putK d v x)) (hbase : base ≤ w.heap.size) : DevIn base W' D M (fun u => if u = v then b else mb u) (putK d v x) := by
 have hlt : ∀ p ∈ d, mb p.1 < w.heap.size := fun p hp => (h.vol p hp).lt
 have hMl := h.all.lt
 have hDM : D ≠ M := by
  rintro rfl
  obtain ⟨es, clock, he, _⟩ := h.all
  have := h.blk.eq
  rw [he] at this
  cases this
 have hbM : b ≠ M := by
  rcases hb with hb | ⟨rfl, y, hy⟩
  ·omega
  ·exact h.ne _ hy
 refine ⟨h2.blockAt (h.blk.gr g) hDM, ?_, fun p hp => ?_, fun p hp r hr => ?_, fun p hp => ?_, h.bD, h.bM, fun p hp => ?_, hok⟩
 ·have := putK_vols d mb b v x h.ok.sort
  unfold volF at this
  rw [← this]
  exact h1
 ·rcases (mem_putK h.ok.sort p).1 hp with rfl | ⟨hp, hne⟩
  ·simp only [if_true]
   exact h2.mapAt hm hbM
  ·simp only [if_neg hne]
   exact h2.mapAt ((h.vol p hp).gr g) (h.ne p hp)
 ·rcases (mem_putK h.ok.sort p).1 hp with rfl | ⟨hp, hne⟩ <;> rcases (mem_putK h.ok.sort r).1 hr with rfl | ⟨hr, hnr⟩
  ·exact fun _ => rfl
  ·simp only [if_true, if_neg hnr]
   intro e
   rcases hb with hb | ⟨rfl, y, hy⟩
   ·have := hlt r hr; omega
   ·exact h.inj _ hy _ hr e
  ·simp only [if_true, if_neg hne]
   intro e
   rcases hb with hb | ⟨rfl, y, hy⟩
   ·have := hlt p hp; omega
   ·exact h.inj _ hp _ hy e
  ·simp only [if_neg hne, if_neg hnr]
   exact h.inj p hp r hr
 ·rcases (mem_putK h.ok.sort p).1 hp with rfl | ⟨hp, hne⟩
  ·simp only [if_true]; exact hbM
  ·simp only [if_neg hne]; exact h.ne p hp
 ·rcases (mem_putK h.ok.sort p).1 hp with rfl | ⟨hp, hne⟩
  ·simp only [if_true]
   rcases hb with hb | ⟨rfl, y, hy⟩
   ·omega
   ·exact h.bV _ hy
  ·simp only [if_neg hne]; exact h.bV p hp
theorem delK_vols (d : Dev) (mb : Int → Nat) (v : Int) : delK (d.map (volF mb)) v = (delK d v).map (volF mb) := by
 simp only [delK, List.filter_map]; rfl
theorem DevIn.del {base : Nat} {w W W' : World} {D M : Nat} {mb : Int → Nat} {d : Dev} (h : DevIn base w D M mb d) (g : Gr w W) (v : Int)
  (h1 : MapAt .u64 W' M (delK (d.map fun p => (p.1, .agg #[.int .i64 p.2.1, .map (some (mb p.1))])) v)) (h2 : OnlyB W W' M) : DevIn base W' D M mb (delK d v) := by
 have hDM : D ≠ M := by
  rintro rfl
  obtain ⟨es, clock, he, _⟩ := h.all
  have := h.blk.eq
  rw [he] at this
  cases this
 have hm : ∀ p ∈ delK d v, p ∈ d := fun p hp => (List.mem_filter.1 hp).1
 refine ⟨h2.blockAt (h.blk.gr g) hDM, ?_, fun p hp => h2.mapAt ((h.vol p (hm p hp)).gr g) (h.ne p (hm p hp)), fun p hp r hr => h.inj p (hm p hp) r (hm r hr), fun p hp => h.ne p (hm p hp), h.bD, h.bM, fun p hp => h.bV p (hm p hp), del_ok h.ok v⟩
 have := delK_vols d mb v
 unfold volF at this
 rw [← this]
 exact h1
theorem DevIn.keep {base : Nat} {W W' : World} {D M : Nat} {mb : Int → Nat} {d : Dev} (h : DevIn base W D M mb d) {B : Nat} {cs : Array Value} {t : TypeId} (hB : BlockAt W B cs t) (ht : t ≠ 55) (hk : ∀ i, i ≠ B → W'.heap[i]? = W.heap[i]?) : DevIn base W' D M mb d := by
 have hmap : ∀ {q : IntKind} {b : Nat} {L : List (Int × Value)}, MapAt q W b L → b ≠ B := fun hm e => by
  obtain ⟨es, clock, he, _⟩ := hm
  subst e
  rw [hB.eq] at he
  cases he
 have hD : D ≠ B := fun e => by
  subst e
  have := h.blk.eq
  rw [hB.eq] at this
  cases this
  exact ht rfl
 exact ⟨⟨(hk D hD).trans h.blk.eq⟩, h.all.keep (hk M (hmap h.all)), fun p hp => (h.vol p hp).keep (hk _ (hmap (h.vol p hp))), h.inj, h.ne, h.bD, h.bM, h.bV, h.ok⟩
theorem DevIn.setCell {base : Nat} {W : World} {D M : Nat} {mb : Int → Nat} {d : Dev} (h : DevIn base W D M mb d) (B o : Nat) (v : Value) {cs : Array Value} {t : TypeId} [hB : BlockAt W B cs t] (ht : t ≠ 55) : DevIn base (W.setCell ⟨B, o, none⟩ v) D M mb d :=
 h.keep hB ht fun i hi => Below.heap_setCell W ⟨B, o, none⟩ v i hi
theorem ans_dev {base : Nat} {W : World} {D M : Nat} {mb : Int → Nat} {d : Dev} (h : DevIn base W D M mb d) {B : Nat} {cs : Array Value} {t : TypeId} (hB : BlockAt W B cs t) (ht : t ≠ 55) (c0 c1 c2 : Value) : DevAt base (((W.setCell ⟨B, 0, none⟩ c0).setCell ⟨B, 1, none⟩ c1).setCell ⟨B, 2, none⟩ c2) D d :=
 ⟨M, mb, ((h.setCell B 0 c0 ht).setCell B 1 c1 ht).setCell B 2 c2 ht⟩
theorem ans_below {base : Nat} {w W : World} (h : Below base w W) {B : Nat} (hB : base ≤ B) (c0 c1 c2 : Value) : Below base w (((W.setCell ⟨B, 0, none⟩ c0).setCell ⟨B, 1, none⟩ c1).setCell ⟨B, 2, none⟩ c2) :=
 ((h.setCell (p := ⟨B, 0, none⟩) hB c0).setCell (p := ⟨B, 1, none⟩) hB c1).setCell (p := ⟨B, 2, none⟩) hB c2
theorem ans_block {W : World} {B : Nat} {z0 z1 z2 : Value} {t : TypeId} (hB : BlockAt W B #[z0, z1, z2] t) (c0 c1 c2 : Value) : BlockAt (((W.setCell ⟨B, 0, none⟩ c0).setCell ⟨B, 1, none⟩ c1).setCell ⟨B, 2, none⟩ c2) B #[c0, c1, c2] t := by
 show BlockAt _ _ (((#[z0, z1, z2].setIfInBounds 0 c0).setIfInBounds 1 c1).setIfInBounds 2 c2) _
 infer_instance
theorem MapAt.ne_block {W : World} {q : IntKind} {b : Nat} {L : List (Int × Value)} (h : MapAt q W b L) {B : Nat} {cs : Array Value} {t : TypeId} (hB : BlockAt W B cs t) : B ≠ b := fun e => by
 obtain ⟨es, clock, he, _⟩ := h
 subst e
 rw [hB.eq] at he
 cases he
theorem OnlyB.blockM {W W' : World} {b : Nat} (h : OnlyB W W' b) {q : IntKind} {L : List (Int × Value)} (hm : MapAt q W b L) {B : Nat} {cs : Array Value} {t : TypeId} (hB : BlockAt W B cs t) : BlockAt W' B cs t := h.blockAt hB (hm.ne_block hB)
theorem putK_same (d : Dev) (mb : Int → Nat) (v : Int) (x : VolM) (m : List (Int × Byt)) : ∀ (hs : SortK d), getK d v = some x → (putK d v (x.1, m)).map (volF mb) = d.map (volF mb) := by
 induction d with
 | nil => intro _ h; cases h
 | cons p r ih =>
  obtain ⟨a, y⟩ := p
  intro hs h
  have h1 := List.pairwise_cons.1 hs
  unfold getK at h
  unfold putK
  by_cases ha : a = v
  ·rw [if_pos ha] at h
   cases h
   subst ha
   rw [if_neg (by omega), if_pos rfl]
   rfl
  ·rw [if_neg ha] at h
   have hm := (getK_mem h1.2).1 h
   have := h1.1 _ hm
   simp only at this
   rw [if_neg (by omega), if_neg (fun e => ha e.symm), List.map_cons, ih h1.2 h, List.map_cons]
theorem DevIn.inner {base : Nat} {W W' : World} {D M : Nat} {mb : Int → Nat} {d : Dev} (h : DevIn base W D M mb d) (v : Int) (x : VolM) (hv : getK d v = some x) (m : List (Int × Byt)) (h1 : MapAt .i64 W' (mb v) (encK bkV m)) (h2 : OnlyB W W' (mb v)) (hok : VolOk (x.1, m)) : DevIn base W' D M mb (putK d v (x.1, m)) := by
 have hx := (getK_mem h.ok.sort).1 hv
 have hm := h.vol _ hx
 have hk := h.ok.keys _ hx
 refine ⟨h2.blockM hm h.blk, ?_, fun p hp => ?_, fun p hp r hr => ?_, fun p hp => ?_, h.bD, h.bM, fun p hp => ?_, put_ok h.ok hk.1 hk.2 hok⟩
 ·have e := putK_same d mb v x m h.ok.sort hv
  unfold volF at e
  rw [e]
  exact h2.mapAt h.all (fun e2 => h.ne _ hx e2.symm)
 ·rcases (mem_putK h.ok.sort p).1 hp with rfl | ⟨hp, hne⟩
  ·exact h1
  ·exact h2.mapAt (h.vol p hp) (fun e2 => hne (h.inj p hp _ hx e2))
 ·rcases (mem_putK h.ok.sort p).1 hp with rfl | ⟨hp, hne⟩ <;> rcases (mem_putK h.ok.sort r).1 hr with rfl | ⟨hr, hnr⟩
  ·exact fun _ => rfl
  ·exact h.inj (v, x) hx r hr
  ·exact h.inj p hp (v, x) hx
  ·exact h.inj p hp r hr
 ·rcases (mem_putK h.ok.sort p).1 hp with rfl | ⟨hp, hne⟩
  ·exact h.ne (v, x) hx
  ·exact h.ne p hp
 ·rcases (mem_putK h.ok.sort p).1 hp with rfl | ⟨hp, hne⟩
  ·exact h.bV (v, x) hx
  ·exact h.bV p hp
theorem getK_put_self {d : Dev} (hs : SortK d) (v : Int) (x : VolM) : getK (putK d v x) v = some x := by rw [getK_put hs, if_pos rfl]
theorem putK_putK (d : Dev) (v : Int) (x y : VolM) (hs : SortK d) : putK (putK d v x) v y = putK d v y := by
 refine sort_ext (sort_putK (sort_putK hs)) (sort_putK hs) fun p => ?_
 rw [mem_putK (sort_putK hs), mem_putK hs, mem_putK hs]
 constructor
 ·rintro (h | ⟨h | h, hn⟩)
  ·exact .inl h
  ·subst h; exact absurd rfl hn
  ·exact .inr h
 ·rintro (h | h)
  ·exact .inl h
  ·exact .inr ⟨.inr h, h.2⟩
theorem putK_own {d : Dev} (hs : SortK d) {v : Int} {x : VolM} (h : getK d v = some x) : putK d v x = d := by
 refine sort_ext (sort_putK hs) hs fun p => ?_
 rw [mem_putK hs]
 constructor
 ·rintro (rfl | h2)
  ·exact (getK_mem hs).1 h
  ·exact h2.1
 ·intro hp
  by_cases hv : p.1 = v
  ·subst hv
   have := (getK_mem hs).2 hp
   rw [h] at this
   cases this
   exact .inl rfl
  ·exact .inr ⟨hp, hv⟩
structure CK (W W' : World) : Prop where
 size : W.heap.size ≤ W'.heap.size
 keep : ∀ (b : Nat) cs t f, W.heap[b]? = some (Obj.cells cs t f) → W'.heap[b]? = W.heap[b]?
theorem CK.refl (W : World) : CK W W := ⟨Nat.le_refl _, fun _ _ _ _ _ => rfl⟩
theorem CK.gr {W W' : World} (g : Gr W W') : CK W W' := ⟨g.below.size, fun b cs t f h => g.below.block b (Array.getElem?_eq_some_iff.1 h).1⟩
theorem CK.trans {A B C : World} (h : CK A B) (k : CK B C) : CK A C := ⟨Nat.le_trans h.size k.size, fun b cs t f hb => (k.keep b cs t f ((h.keep b cs t f hb).trans hb)).trans (h.keep b cs t f hb)⟩
theorem CK.only {W W' : World} {q : IntKind} {b : Nat} {L : List (Int × Value)} (hm : MapAt q W b L) (h : OnlyB W W' b) : CK W W' := ⟨Nat.le_of_eq h.2.symm, fun c cs t f hc => h.block fun e => by
 obtain ⟨es, clock, he, _⟩ := hm
 subst e
 rw [hc] at he
 cases he⟩
theorem CK.block {W W' : World} (h : CK W W') {B : Nat} {cs : Array Value} {t : TypeId} (hB : BlockAt W B cs t) : BlockAt W' B cs t := ⟨(h.keep B _ _ _ hB.eq).trans hB.eq⟩
theorem CK.cell {W W' : World} (h : CK W W') {b o : Nat} {v : Value} (hc : W.cell? ⟨b, o, none⟩ = some v) : W'.cell? ⟨b, o, none⟩ = some v := by
 cases hb : W.heap[b]? with
 | none => simp [World.cell?, hb] at hc
 | some ob =>
  cases ob with
  | cells cs t f =>
   have := h.keep b cs t f hb
   rw [← hc]
   simp [World.cell?, this]
  | _ => simp [World.cell?, hb] at hc
theorem ck_ans {w W : World} (h : CK w W) {B : Nat} (hB : w.heap.size ≤ B) (c0 c1 c2 : Value) : CK w (((W.setCell ⟨B, 0, none⟩ c0).setCell ⟨B, 1, none⟩ c1).setCell ⟨B, 2, none⟩ c2) where
 size := by have := h.size; simpa [World.setCell] using this
 keep := fun b cs t f hb => by
  have hl := (Array.getElem?_eq_some_iff.1 hb).1
  have hne : b ≠ B := by omega
  rw [Below.heap_setCell _ _ _ _ hne, Below.heap_setCell _ _ _ _ hne, Below.heap_setCell _ _ _ _ hne]
  exact h.keep b cs t f hb
def OpPost (base D : Nat) (d : Dev) (code done : Int) (w : World) (e : Ending) (w' : World) : Prop :=
 e = .returned (.agg #[.int .i64 code, .int .i64 done, .slice none 0 0]) ∧ DevAt base w' D d ∧ Below base w w' ∧ CK w w'
theorem run_resCell1 {P : Program} {W : World} {fn : Func} {p : Tmp} {t : TypeId} (h : fn.results = #[.cell p t]) (tmps : Array Value) (B : Nat) (cs : Array Value) (d : TypeDesc) (hp : tmps.getD p undef = .pointer (some ⟨B, 0, none⟩)) (hB : BlockAt W B cs t) (hu : P.underlying t = some d) (hd : (match d with | .struct _ | .array _ _ => true | _ => false) = true) (hi : (P.info? t).map (·.size) = some cs.size) :
  (results fn tmps).run P W = .ok (.agg cs) W := results_cell_row h tmps W B t cs (0, 0) d hp hB.eq hu hd hi
set_option maxRecDepth 100000
set_option maxHeartbeats 4000000 in
theorem create_any (xv xt xs xa xc most : Int) (xD : Option Addr) (xn xq : Nat) (hn : xn ≤ 1000000) (base D : Nat) (d : Dev) (w : World) (h : DevAt base w D d) (hbase : base ≤ w.heap.size) (hok : DevOk (putK d xv (xs, []))) :
  Calls Tryz.prog 38 #[.pointer (some ⟨D, 0, none⟩), .agg #[.int .i64 1, .int .u64 xv, .int .u64 xt, .int .i64 xs, .int .i64 xa, .int .i64 xc, .slice xD xn xq], .int .i64 most] w (OpPost base D (putK d xv (xs, [])) 0 0 w) := by
 obtain ⟨M, mb, h⟩ := h
 haveI := h.blk
 have x0 : w.cell? ⟨D, 0, none⟩ = some (.map (some M)) := (@block_cells _ _ 0 _ _ h.blk).trans rfl
 haveI : Old D w := h.blk.old
 have HD := Lib.hid h
 have HOK := Lib.hid hok
 clear h hok
 go_enter Tryz.func38, Tryz.ntmps38
 go_wp2
 refine wp_region_treeT (inCls_ghost _) (Cls.none _) ⟨Gr.of ((Below.refl _ _).drew), trivial⟩ [0, 1, 2, 3, 4, 5, 6, 7, 8] 2 11 (by kernel_rfl) (by kernel_rfl) ?_
 simp only [pick, List.drop, List.take, List.nil_append, List.cons_append]
 repeat (refine wpCalm_step (fun K hK => ?_); go_simp; first | (refine hK _ ?_; clear hK K) | (apply Exists.intro; refine ⟨fun _ => ?_, hK _ ?_⟩; ((go_at_call 71; exact part_1 _ _ _ _ _ _ _ _ (by omega) _)); clear hK K))
 refine wpCalm_nil ?_
 refine ft_eff 9 (by kernel_rfl) (by omega) rfl rfl fun w1 hw1 => effAt_makeMap rfl ?_
 refine ⟨⟨fun w2 => MapAt .i64 w2 w1.heap.size [], fun a b h g => h.gr g⟩, ⟨hw1.1.trans gri, mapAt_new w1 .i64⟩, ?_⟩
 have hsz := hw1.1.below.size
 generalize w1.heap.size = b at *
 clear hw1 w1
 simp only [Act.put, List.setIfInBounds_toArray, List.set]
 refine ft_calm 10 (.agg #[.int .i64 xs, .map (some b)]) (by kernel_rfl) (by omega) rfl rfl (fun g => by unfold calmAt; go_simp) ?_
 simp only [Act.put, List.setIfInBounds_toArray, List.set]
 refine ft_end ⟨by kernel_rfl, fun w2 hw2 => ?_⟩
 try simp only [List.drop_succ_cons, List.drop_zero]
 have g2 : Gr w w2 := Gr.trans gri hw2.1
 refine wpList_updateK rfl _ _ _ rfl xv _ Tryz.underlying53 Tryz.underlying24 (HD.out.all.gr g2) rfl rfl rfl fun W' h1 h2 => ?_
 have hMl : M < w.heap.size := HD.out.all.lt
 have HD' := HD.out.put g2 xv (xs, []) b hw2.2 (.inl (by simp at hsz; omega)) h1 h2 HOK.out hbase
 haveI hB1 : BlockAt W' (w.heap.size + 1) #[.int .i64 0, .int .i64 0, .slice none 0 0] 38 := h2.blockAt (BlockAt.gr (inferInstance : BlockAt _ (w.heap.size + 1) _ _) hw2.1) (by omega)
 have hck := (CK.gr g2).trans (CK.only (HD.out.all.gr g2) h2)
 have hbel : Below base w W' := h2.below HD.out.bM (Nat.lt_of_lt_of_le hMl g2.below.size) (g2.below.mono hbase)
 have z0 : W'.cell? ⟨w.heap.size + 1, 0, none⟩ = some (.int .i64 0) := (@block_cells _ _ 0 _ _ hB1).trans rfl
 have z1 : W'.cell? ⟨w.heap.size + 1, 1, none⟩ = some (.int .i64 0) := (@block_cells _ _ 1 _ _ hB1).trans rfl
 have z2 : W'.cell? ⟨w.heap.size + 1, 2, none⟩ = some (.slice none 0 0) := (@block_cells _ _ 2 _ _ hB1).trans rfl
 have f0 : ∀ o, W'.frozen? ⟨w.heap.size + 1, o, none⟩ = false := fun o => @block_frozen _ _ o _ _ hB1
 have HN := Lib.hid HD'
 have HB := Lib.hid hbel
 have HCK := Lib.hid hck
 clear HD' hbel hck
 clear h1 h2 hw2 g2 hsz hMl
 simp only [Act.put]
 go_wp2
 exact bodyPost_ret (run_resCell1 rfl _ _ _ _ rfl (ans_block hB1 _ _ _) Tryz.underlying38 rfl (by kernel_rfl)) rfl ⟨rfl, ans_dev HN.out hB1 (by decide) _ _ _, ans_below HB.out (by omega) _ _ _, ck_ans HCK.out (by omega) _ _ _⟩
set_option maxHeartbeats 4000000 in
theorem drop_any (xv xt xs xa xc most : Int) (xD : Option Addr) (xn xq : Nat) (hn : xn ≤ 1000000) (base D : Nat) (d : Dev) (w : World) (h : DevAt base w D d) (hbase : base ≤ w.heap.size)  :
  Calls Tryz.prog 39 #[.pointer (some ⟨D, 0, none⟩), .agg #[.int .i64 2, .int .u64 xv, .int .u64 xt, .int .i64 xs, .int .i64 xa, .int .i64 xc, .slice xD xn xq], .int .i64 most] w (OpPost base D (delK d xv) 0 0 w) := by
 obtain ⟨M, mb, h⟩ := h
 haveI := h.blk
 have x0 : w.cell? ⟨D, 0, none⟩ = some (.map (some M)) := (@block_cells _ _ 0 _ _ h.blk).trans rfl
 haveI : Old D w := h.blk.old
 have HD := Lib.hid h
 clear h
 go_enter Tryz.func39, Tryz.ntmps39
 go_wp2
 refine wp_region_treeT (inCls_ghost _) (Cls.none _) ⟨Gr.of ((Below.refl _ _).drew), trivial⟩ [0, 1, 2, 3, 4, 5] 0 6 (by kernel_rfl) (by kernel_rfl) ?_
 simp only [pick, List.drop, List.take, List.nil_append, List.cons_append]
 repeat (refine wpCalm_step (fun K hK => ?_); go_simp; first | (refine hK _ ?_; clear hK K) | (apply Exists.intro; refine ⟨fun _ => ?_, hK _ ?_⟩; (skip); clear hK K))
 refine wpCalm_nil ?_
 refine ft_end ⟨by kernel_rfl, fun w2 hw2 => ?_⟩
 try simp only [List.drop_succ_cons, List.drop_zero]
 have g2 : Gr w w2 := Gr.trans gri hw2.1
 refine wpList_deleteK rfl _ _ rfl xv Tryz.underlying53 Tryz.underlying24 (HD.out.all.gr g2) rfl rfl fun W' h1 h2 => ?_
 have hMl : M < w.heap.size := HD.out.all.lt
 have HD' := HD.out.del g2 xv h1 h2
 haveI hB1 : BlockAt W' (w.heap.size + 1) #[.int .i64 0, .int .i64 0, .slice none 0 0] 38 := h2.blockAt (BlockAt.gr (inferInstance : BlockAt _ (w.heap.size + 1) _ _) hw2.1) (by omega)
 have hck := (CK.gr g2).trans (CK.only (HD.out.all.gr g2) h2)
 have hbel : Below base w W' := h2.below HD.out.bM (Nat.lt_of_lt_of_le hMl g2.below.size) (g2.below.mono hbase)
 have z0 : W'.cell? ⟨w.heap.size + 1, 0, none⟩ = some (.int .i64 0) := (@block_cells _ _ 0 _ _ hB1).trans rfl
 have z1 : W'.cell? ⟨w.heap.size + 1, 1, none⟩ = some (.int .i64 0) := (@block_cells _ _ 1 _ _ hB1).trans rfl
 have z2 : W'.cell? ⟨w.heap.size + 1, 2, none⟩ = some (.slice none 0 0) := (@block_cells _ _ 2 _ _ hB1).trans rfl
 have f0 : ∀ o, W'.frozen? ⟨w.heap.size + 1, o, none⟩ = false := fun o => @block_frozen _ _ o _ _ hB1
 have HN := Lib.hid HD'
 have HB := Lib.hid hbel
 have HCK := Lib.hid hck
 clear HD' hbel hck
 clear h1 h2 hw2 g2 hMl
 simp only [Act.put]
 go_wp2
 exact bodyPost_ret (run_resCell1 rfl _ _ _ _ rfl (ans_block hB1 _ _ _) Tryz.underlying38 rfl (by kernel_rfl)) rfl ⟨rfl, ans_dev HN.out hB1 (by decide) _ _ _, ans_below HB.out (by omega) _ _ _, ck_ans HCK.out (by omega) _ _ _⟩
set_option maxRecDepth 100000
theorem getK_encB (m : List (Int × Byt)) (k : Nat) (z : Value) (hz : z = .agg (bkC zB)) : (getK (encK bkV m) k).getD z = .agg (bkC (blkM m k)) := by
 rw [getK_enc, blkM]
 cases getK m (k : Int) with
 | none => exact hz
 | some B => rfl
theorem look_blk {w : World} {b : Nat} {m : List (Int × Byt)} (h : MapAt .i64 w b (encK bkV m)) (k : Nat) : ∀ (W : World) [hW : GrC w W], (Instr.lookup 62 (.map (some b)) (.int .i64 (k : Int)) false).run Tryz.prog W = .ok (.agg (bkC (blkM m k))) W := fun W hW => by
 have hl := map_lookup (P := Tryz.prog) Tryz.underlying62 Tryz.underlying3 (h.gr (Gr.of hW.b)) (k : Int) false (Tryz.zeroValue66 _)
 rw [hl]
 have := getK_encB m k (.agg Tryz.zeroCells66) (by rw [zC_bk])
 simpa using this
theorem madeB (n : Nat) : madeCells #[.int .u8 0] n = bkC (List.replicate n 0) := by
 apply Array.toList_inj.1
 rw [toList_madeCells_one]
 simp [bkC, bv]
theorem makeB (c : Nat) (hc : c ≤ 100000) (W : World) : (Instr.makeSlice 25 (.int .i64 ((c : Int) * 64)) (.int .i64 ((c : Int) * 64))).run Tryz.prog W = .ok (.slice (some ⟨W.heap.size, 0, none⟩) (c * 64) (c * 64)) (W.alloc (.cells (bkC (List.replicate (c * 64) 0)) 5)) := by
 obtain ⟨i0, hi, hz0, hz2, hz3⟩ := info_parts bIs.hE
 have hi2 : i0.size = 1 := hz2
 have hi3 : i0.bytes = 1 := hz3
 have h := run_makeSlice (P := Tryz.prog) W 25 5 i0 (.int .u8 0) Tryz.underlying25 hi hz0 .i64 .i64 ((c : Int) * 64) ((c : Int) * 64) (by omega) (Int.le_refl _) (by rw [hi2]; omega) (by rw [hi3]; omega) (by omega)
 rw [h, hi2]
 have e1 : ((c : Int) * 64).toNat = c * 64 := by omega
 rw [e1, Nat.mul_one, show (Value.int .u8 0).cells = #[.int .u8 0] from rfl, madeB]
section
variable {P : Program} {md : Region.Mode} {W : World} {S : Type} {I : S → World → Prop} {ops : Array Oper} {L : Array Bool → S → Act → Prop} {f n : Nat} {listed : Array Bool} {s : S} {a : Act}
end
end Go.Proofs.YtddckdhnolmjoaaGreat
