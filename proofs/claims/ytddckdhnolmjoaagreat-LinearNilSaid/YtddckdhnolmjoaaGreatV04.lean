/- command.Part; a look for a volume. Conditions: the device, and what is read, stand in memory. Device.refused, where the operation may not be. Conditions: the device, and what is read, stand in memory. Device.refused, kinds 1 to 4. Conditions: the device, and what is read, stand in memory. -/
import Derived.Test.YtddckdhnolmjoaaGreatV02
import Derived.Test.YtddckdhnolmjoaaGreatV03
namespace Go.Proofs.YtddckdhnolmjoaaGreat
open Go.RowKit
set_option linter.unusedVariables false
set_option linter.unusedSimpArgs false
set_option linter.unnecessarySimpa false
set_option maxRecDepth 100000
theorem part_1 (xv xt xs xa xc : Int) (xD : Option Addr) (xn xq : Nat) (hn : xn ≤ 1000000000) (w : World) : Calls Tryz.prog 71 #[(.agg #[.int .i64 1, .int .u64 xv, .int .u64 xt, .int .i64 xs, .int .i64 xa, .int .i64 xc, .slice xD xn xq])] w fun e w' => e = .returned (.iface 3 (.int .i64 xs)) ∧ Gr w w' := by
 go_enter Tryz.func71, Tryz.ntmps71
 go_wp2
 go_ret
 exact ⟨rfl, gri⟩
theorem part_2 (xv xt xs xa xc : Int) (xD : Option Addr) (xn xq : Nat) (hn : xn ≤ 1000000000) (w : World) : Calls Tryz.prog 71 #[(.agg #[.int .i64 2, .int .u64 xv, .int .u64 xt, .int .i64 xs, .int .i64 xa, .int .i64 xc, .slice xD xn xq])] w fun e w' => e = .returned (.nilIface) ∧ Gr w w' := by
 go_enter Tryz.func71, Tryz.ntmps71
 go_wp2
 go_ret
 exact ⟨rfl, gri⟩
theorem part_3 (xv xt xs xa xc : Int) (xD : Option Addr) (xn xq : Nat) (hn : xn ≤ 1000000000) (w : World) : Calls Tryz.prog 71 #[(.agg #[.int .i64 3, .int .u64 xv, .int .u64 xt, .int .i64 xs, .int .i64 xa, .int .i64 xc, .slice xD xn xq])] w fun e w' => e = .returned (.iface 3 (.int .i64 xs)) ∧ Gr w w' := by
 go_enter Tryz.func71, Tryz.ntmps71
 go_wp2
 go_ret
 exact ⟨rfl, gri⟩
theorem part_4 (xv xt xs xa xc : Int) (xD : Option Addr) (xn xq : Nat) (hn : xn ≤ 1000000000) (w : World) : Calls Tryz.prog 71 #[(.agg #[.int .i64 4, .int .u64 xv, .int .u64 xt, .int .i64 xs, .int .i64 xa, .int .i64 xc, .slice xD xn xq])] w fun e w' => e = .returned (.iface 146 (.agg #[.int .u64 xv, .int .u64 xt])) ∧ Gr w w' := by
 go_enter Tryz.func71, Tryz.ntmps71
 go_wp2
 go_ret
 exact ⟨rfl, gri⟩
theorem part_5 (xv xt xs xa xc : Int) (xD : Option Addr) (xn xq : Nat) (hn : xn ≤ 1000000000) (w : World) : Calls Tryz.prog 71 #[(.agg #[.int .i64 5, .int .u64 xv, .int .u64 xt, .int .i64 xs, .int .i64 xa, .int .i64 xc, .slice xD xn xq])] w fun e w' => e = .returned (.iface 148 (.agg #[.int .i64 xa, .int .i64 ((xn : Int) / 64)])) ∧ Gr w w' := by
 go_enter Tryz.func71, Tryz.ntmps71
 go_wp2
 go_ret
 exact ⟨rfl, gri⟩
theorem part_6 (xv xt xs xa xc : Int) (xD : Option Addr) (xn xq : Nat) (hn : xn ≤ 1000000000) (w : World) : Calls Tryz.prog 71 #[(.agg #[.int .i64 6, .int .u64 xv, .int .u64 xt, .int .i64 xs, .int .i64 xa, .int .i64 xc, .slice xD xn xq])] w fun e w' => e = .returned (.iface 148 (.agg #[.int .i64 xa, .int .i64 xc])) ∧ Gr w w' := by
 go_enter Tryz.func71, Tryz.ntmps71
 go_wp2
 go_ret
 exact ⟨rfl, gri⟩
theorem part_7 (xv xt xs xa xc : Int) (xD : Option Addr) (xn xq : Nat) (hn : xn ≤ 1000000000) (w : World) : Calls Tryz.prog 71 #[(.agg #[.int .i64 7, .int .u64 xv, .int .u64 xt, .int .i64 xs, .int .i64 xa, .int .i64 xc, .slice xD xn xq])] w fun e w' => e = .returned (.iface 149 (.agg #[.int .i64 xa, .int .i64 xc])) ∧ Gr w w' := by
 go_enter Tryz.func71, Tryz.ntmps71
 go_wp2
 go_ret
 exact ⟨rfl, gri⟩
theorem part_9 (xv xt xs xa xc : Int) (xD : Option Addr) (xn xq : Nat) (hn : xn ≤ 1000000000) (w : World) : Calls Tryz.prog 71 #[(.agg #[.int .i64 9, .int .u64 xv, .int .u64 xt, .int .i64 xs, .int .i64 xa, .int .i64 xc, .slice xD xn xq])] w fun e w' => e = .returned (.iface 148 (.agg #[.int .i64 xa, .int .i64 xc])) ∧ Gr w w' := by
 go_enter Tryz.func71, Tryz.ntmps71
 go_wp2
 go_ret
 exact ⟨rfl, gri⟩
@[go_sem] theorem ta_int_fork (x : Int) (w : World) : (Instr.typeAssert (.iface 3 (.int .i64 x)) 20 146 true).run Tryz.prog w = .ok (.tuple #[.agg #[.int .u64 0, .int .u64 0], .bool false]) w := by kernel_rfl
@[go_sem] theorem ta_int_row (x : Int) (w : World) : (Instr.typeAssert (.iface 3 (.int .i64 x)) 20 148 true).run Tryz.prog w = .ok (.tuple #[.agg #[.int .i64 0, .int .i64 0], .bool false]) w := by kernel_rfl
@[go_sem] theorem ta_int_space (x : Int) (w : World) : (Instr.typeAssert (.iface 3 (.int .i64 x)) 20 149 true).run Tryz.prog w = .ok (.tuple #[.agg #[.int .i64 0, .int .i64 0], .bool false]) w := by kernel_rfl
@[go_sem] theorem tb_int (x : Int) (w : World) : (Instr.typeAssert (.iface 3 (.int .i64 x)) 20 3 false).run Tryz.prog w = .ok (.int .i64 x) w := by kernel_rfl
@[go_sem] theorem ta_fork_fork (x y : Int) (w : World) : (Instr.typeAssert (.iface 146 (.agg #[.int .u64 x, .int .u64 y])) 20 146 true).run Tryz.prog w = .ok (.tuple #[(.agg #[.int .u64 x, .int .u64 y]), .bool true]) w := by kernel_rfl
@[go_sem] theorem ta_fork_row (x y : Int) (w : World) : (Instr.typeAssert (.iface 146 (.agg #[.int .u64 x, .int .u64 y])) 20 148 true).run Tryz.prog w = .ok (.tuple #[.agg #[.int .i64 0, .int .i64 0], .bool false]) w := by kernel_rfl
@[go_sem] theorem ta_fork_space (x y : Int) (w : World) : (Instr.typeAssert (.iface 146 (.agg #[.int .u64 x, .int .u64 y])) 20 149 true).run Tryz.prog w = .ok (.tuple #[.agg #[.int .i64 0, .int .i64 0], .bool false]) w := by kernel_rfl
@[go_sem] theorem tb_fork (x y : Int) (w : World) : (Instr.typeAssert (.iface 146 (.agg #[.int .u64 x, .int .u64 y])) 20 146 false).run Tryz.prog w = .ok (.agg #[.int .u64 x, .int .u64 y]) w := by kernel_rfl
@[go_sem] theorem ta_row_fork (x y : Int) (w : World) : (Instr.typeAssert (.iface 148 (.agg #[.int .i64 x, .int .i64 y])) 20 146 true).run Tryz.prog w = .ok (.tuple #[.agg #[.int .u64 0, .int .u64 0], .bool false]) w := by kernel_rfl
@[go_sem] theorem ta_row_row (x y : Int) (w : World) : (Instr.typeAssert (.iface 148 (.agg #[.int .i64 x, .int .i64 y])) 20 148 true).run Tryz.prog w = .ok (.tuple #[(.agg #[.int .i64 x, .int .i64 y]), .bool true]) w := by kernel_rfl
@[go_sem] theorem ta_row_space (x y : Int) (w : World) : (Instr.typeAssert (.iface 148 (.agg #[.int .i64 x, .int .i64 y])) 20 149 true).run Tryz.prog w = .ok (.tuple #[.agg #[.int .i64 0, .int .i64 0], .bool false]) w := by kernel_rfl
@[go_sem] theorem tb_row (x y : Int) (w : World) : (Instr.typeAssert (.iface 148 (.agg #[.int .i64 x, .int .i64 y])) 20 148 false).run Tryz.prog w = .ok (.agg #[.int .i64 x, .int .i64 y]) w := by kernel_rfl
@[go_sem] theorem ta_space_fork (x y : Int) (w : World) : (Instr.typeAssert (.iface 149 (.agg #[.int .i64 x, .int .i64 y])) 20 146 true).run Tryz.prog w = .ok (.tuple #[.agg #[.int .u64 0, .int .u64 0], .bool false]) w := by kernel_rfl
@[go_sem] theorem ta_space_row (x y : Int) (w : World) : (Instr.typeAssert (.iface 149 (.agg #[.int .i64 x, .int .i64 y])) 20 148 true).run Tryz.prog w = .ok (.tuple #[.agg #[.int .i64 0, .int .i64 0], .bool false]) w := by kernel_rfl
@[go_sem] theorem ta_space_space (x y : Int) (w : World) : (Instr.typeAssert (.iface 149 (.agg #[.int .i64 x, .int .i64 y])) 20 149 true).run Tryz.prog w = .ok (.tuple #[(.agg #[.int .i64 x, .int .i64 y]), .bool true]) w := by kernel_rfl
@[go_sem] theorem tb_space (x y : Int) (w : World) : (Instr.typeAssert (.iface 149 (.agg #[.int .i64 x, .int .i64 y])) 20 149 false).run Tryz.prog w = .ok (.agg #[.int .i64 x, .int .i64 y]) w := by kernel_rfl
@[go_sem] theorem tn_fork (w : World) : (Instr.typeAssert .nilIface 20 146 true).run Tryz.prog w = .ok (.tuple #[.agg #[.int .u64 0, .int .u64 0], .bool false]) w := by kernel_rfl
@[go_sem] theorem tn_row (w : World) : (Instr.typeAssert .nilIface 20 148 true).run Tryz.prog w = .ok (.tuple #[.agg #[.int .i64 0, .int .i64 0], .bool false]) w := by kernel_rfl
@[go_sem] theorem tn_space (w : World) : (Instr.typeAssert .nilIface 20 149 true).run Tryz.prog w = .ok (.tuple #[.agg #[.int .i64 0, .int .i64 0], .bool false]) w := by kernel_rfl
def volV (mb : Nat) : Option VolM → Value
 | some x => .agg #[.int .i64 x.1, .map (some mb)]
 | none => .agg #[.int .i64 0, .map none]
theorem look_vol {base : Nat} {w : World} {D M : Nat} {mb : Int → Nat} {d : Dev} (h : DevIn base w D M mb d) (v : Int) (u : Option VolM) (hu : getK d v = u) : ∀ (W : World) [hW : GrC w W], (Instr.lookup 53 (.map (some M)) (.int .u64 v) true).run Tryz.prog W = .ok (.tuple #[volV (mb v) u, .bool u.isSome]) W := fun W hW => by
 have hl := map_lookup (P := Tryz.prog) Tryz.underlying53 Tryz.underlying24 (h.all.gr (Gr.of hW.b)) v true (Tryz.zeroValue64 _)
 subst hu
 rw [hl, getK_vols]
 cases getK d v <;> rfl
theorem look_vol1 {base : Nat} {w : World} {D M : Nat} {mb : Int → Nat} {d : Dev} (h : DevIn base w D M mb d) (v : Int) (u : Option VolM) (hu : getK d v = u) : ∀ (W : World) [hW : GrC w W], (Instr.lookup 53 (.map (some M)) (.int .u64 v) false).run Tryz.prog W = .ok (volV (mb v) u) W := fun W hW => by
 have hl := map_lookup (P := Tryz.prog) Tryz.underlying53 Tryz.underlying24 (h.all.gr (Gr.of hW.b)) v false (Tryz.zeroValue64 _)
 subst hu
 rw [hl, getK_vols]
 cases getK d v <;> rfl
set_option maxRecDepth 100000
theorem may_len {k v t s a c : Int} {l : Byt} (h : OpM.may ⟨k, v, t, s, a, c, l⟩ = true) : l.length ≤ 2048 := by
 have hk := may_kind h
 simp only at hk
 have h9 : k = 1 ∨ k = 2 ∨ k = 3 ∨ k = 4 ∨ k = 5 ∨ k = 6 ∨ k = 7 ∨ k = 8 ∨ k = 9 := by omega
 rcases h9 with rfl | rfl | rfl | rfl | rfl | rfl | rfl | rfl | rfl
 all_goals
  simp [OpM.may, mayOpB, wVol, wTo, wSize, wAt, wCount, wData] at h
 all_goals
  first
  | omega
  | (simp only [and_assoc] at h
     have e : l = [] := by simp_all
     subst e
     simp)
set_option maxHeartbeats 4000000 in
theorem refused_bad (xk : Int) (xv xt xs xa xc : Int) (xD : Option Addr) (xn xq : Nat) (lx : Byt) (hxn : lx.length = xn) (base D : Nat) (d : Dev) (w : World) (h : DevAt base w D d) (hr : Row bv w xD lx) (hn : xn ≤ 9223372036854775807) (hm : OpM.may ⟨xk, xv, xt, xs, xa, xc, lx⟩ = false) :
  Calls Tryz.prog 37 #[.pointer (some ⟨D, 0, none⟩), (.agg #[.int .i64 xk, .int .u64 xv, .int .u64 xt, .int .i64 xs, .int .i64 xa, .int .i64 xc, .slice xD xn xq])] w fun e w' => e = .returned (.int .i64 2) ∧ Gr w w' := by
 obtain ⟨M, mb, h⟩ := h
 rw [OpM.may] at hm
 simp only at hm
 rw [hxn] at hm
 have HMay := Lib.hid (fun W (hW : Gr w W) => (hm ▸ mayOp_any xk xv xt xs xa xc xD xn xq lx W hxn hn (hr.gr hW) : Calls Tryz.prog 70 #[(.agg #[.int .i64 xk, .int .u64 xv, .int .u64 xt, .int .i64 xs, .int .i64 xa, .int .i64 xc, .slice xD xn xq])] W fun e w' => e = .returned (.bool false) ∧ Gr W w'))
 have HT := Lib.hid (fun W (hW : Gr w W) => there_yes D M W (h.blk.gr hW))
 haveI := h.blk
 haveI : Old D w := h.blk.old
 clear hm hr h hxn
 go_enter Tryz.func37, Tryz.ntmps37
 go_wp2_with (first | (go_at_call 19; ((with_reducible refine (HT.out _ gri).mono ?_); rintro _ _ ⟨rfl, g1, rfl⟩)) | (go_at_call 70; ((with_reducible refine (HMay.out _ gri).mono ?_); rintro _ _ ⟨rfl, g2, rfl⟩)))
 go_ret
 exact ⟨rfl, gri⟩
set_option maxRecDepth 100000
set_option maxHeartbeats 4000000 in
theorem refused_1_none (xv xt xs xa xc : Int) (xD : Option Addr) (xn xq : Nat) (lx : Byt) (hxn : lx.length = xn) (base D : Nat) (d : Dev) (w : World) (h : DevAt base w D d) (hr : Row bv w xD lx) (hm : OpM.may ⟨1, xv, xt, xs, xa, xc, lx⟩ = true) (hv : getK d xv = none)  :
  Calls Tryz.prog 37 #[.pointer (some ⟨D, 0, none⟩), (.agg #[.int .i64 1, .int .u64 xv, .int .u64 xt, .int .i64 xs, .int .i64 xa, .int .i64 xc, .slice xD xn xq])] w fun e w' => e = .returned (.int .i64 0) ∧ Gr w w' := by
 have hms := may_s hm
 have hm0 := hm
 obtain ⟨M, mb, h⟩ := h
 rw [OpM.may] at hm
 simp only at hm
 rw [hxn] at hm
 have c9 : lx.length ≤ 2048 := may_len hm0
 rw [hxn] at c9
 have HMay := Lib.hid (fun W (hW : Gr w W) => (hm ▸ mayOp_any 1 xv xt xs xa xc xD xn xq lx W hxn (by omega) (hr.gr hW) : Calls Tryz.prog 70 #[(.agg #[.int .i64 1, .int .u64 xv, .int .u64 xt, .int .i64 xs, .int .i64 xa, .int .i64 xc, .slice xD xn xq])] W fun e w' => e = .returned (.bool true) ∧ Gr W w'))
 have HT := Lib.hid (fun W (hW : Gr w W) => there_yes D M W (h.blk.gr hW))
 haveI := h.blk
 have x0 : w.cell? ⟨D, 0, none⟩ = some (.map (some M)) := (@block_cells _ _ 0 _ _ h.blk).trans rfl
 haveI : Old D w := h.blk.old
 have hlk := look_vol h xv _ hv
 simp only [volV, Option.isSome] at hlk
 clear hm hm0 hms hr h hv hxn
 go_enter Tryz.func37, Tryz.ntmps37
 go_wp2_with (first | (go_at_call 19; ((with_reducible refine (HT.out _ gri).mono ?_); rintro _ _ ⟨rfl, g1, rfl⟩)) | (go_at_call 70; ((with_reducible refine (HMay.out _ gri).mono ?_); rintro _ _ ⟨rfl, g2, rfl⟩)))
 refine wp_region_tree (mixw_ghost _) [] (mixw_nil _) [0, 1, 2, 3, 4, 5, 6, 7, 8, 9] 3 (by kernel_rfl) (by kernel_rfl) ?_
 simp only [pick, List.drop, List.take, List.nil_append, List.cons_append]
 repeat (refine wpCalm_step (fun K hK => ?_); go_simp; first | (refine hK _ ?_; clear hK K) | (apply Exists.intro; refine ⟨fun _ => ?_, hK _ ?_⟩; (fail); clear hK K))
 refine wpCalm_nil ?_
 refine fe_mixAlloc 10 (by kernel_rfl) rfl rfl rfl Tryz.zeroValue64 fun b5_0 hb5_0 nb5_0 => ?_
 simp only [Act.put, List.setIfInBounds_toArray, List.set]
 refine fe_mixStore 11 [(b5_0, #[.int .i64 0, .map none], 64)] #[.int .i64 0, .map none] (by kernel_rfl) rfl rfl rfl rfl List.mem_cons_self hb5_0 rfl rfl rfl rfl (fun z hz => .inl (by simpa using hz)) ?_
 simp only [Act.put, List.setIfInBounds_toArray, List.set]
 refine fe_mixCalm 12 _ (by kernel_rfl) rfl rfl (fun g => calm_assign g rfl) ?_
 simp only [Act.put, List.setIfInBounds_toArray, List.set]
 refine fe_end (by kernel_rfl) ?_
 intro w1 hw1
 have cb5_0 : ∀ o, w1.cell? ⟨b5_0, o, none⟩ = (#[.int .i64 0, .map none] : Array Value)[o]? := mix_cell hw1 List.mem_cons_self
 have fb5_0 : ∀ o, w1.frozen? ⟨b5_0, o, none⟩ = false := mix_frozen hw1 List.mem_cons_self
 have ob5_0 : Old b5_0 w1 := mix_old hw1 List.mem_cons_self
 have qb5_0 := @fresh_ne _ _ hb5_0
 have rb5_0 := @fresh_en _ _ hb5_0
 have lb5_0 := fresh_le hb5_0 w.heap.size
 obtain ⟨⟨g5, rfl⟩, hbs⟩ := hw1
 clear hbs nb5_0
 go_wp2_with ((go_at_call 71; ((with_reducible refine (part_1 _ _ _ _ _ _ _ _ (by omega) _).mono ?_); rintro _ _ ⟨rfl, g3, rfl⟩)))
 go_ret
 exact ⟨rfl, gri⟩
set_option maxHeartbeats 4000000 in
theorem refused_1_some (xv xt xs xa xc : Int) (xD : Option Addr) (xn xq : Nat) (lx : Byt) (hxn : lx.length = xn) (base D : Nat) (d : Dev) (w : World) (h : DevAt base w D d) (hr : Row bv w xD lx) (hm : OpM.may ⟨1, xv, xt, xs, xa, xc, lx⟩ = true) (x : VolM) (hv : getK d xv = some x)  :
  Calls Tryz.prog 37 #[.pointer (some ⟨D, 0, none⟩), (.agg #[.int .i64 1, .int .u64 xv, .int .u64 xt, .int .i64 xs, .int .i64 xa, .int .i64 xc, .slice xD xn xq])] w fun e w' => e = .returned (.int .i64 7) ∧ Gr w w' := by
 have hms := may_s hm
 have hm0 := hm
 obtain ⟨M, mb, h⟩ := h
 have hxo := h.ok.vols _ ((getK_mem h.ok.sort).1 hv)
 have b1 := hxo.s0
 have b2 := hxo.s1
 clear hxo
 rw [OpM.may] at hm
 simp only at hm
 rw [hxn] at hm
 have c9 : lx.length ≤ 2048 := may_len hm0
 rw [hxn] at c9
 have HMay := Lib.hid (fun W (hW : Gr w W) => (hm ▸ mayOp_any 1 xv xt xs xa xc xD xn xq lx W hxn (by omega) (hr.gr hW) : Calls Tryz.prog 70 #[(.agg #[.int .i64 1, .int .u64 xv, .int .u64 xt, .int .i64 xs, .int .i64 xa, .int .i64 xc, .slice xD xn xq])] W fun e w' => e = .returned (.bool true) ∧ Gr W w'))
 have HT := Lib.hid (fun W (hW : Gr w W) => there_yes D M W (h.blk.gr hW))
 haveI := h.blk
 have x0 : w.cell? ⟨D, 0, none⟩ = some (.map (some M)) := (@block_cells _ _ 0 _ _ h.blk).trans rfl
 haveI : Old D w := h.blk.old
 have hlk := look_vol h xv _ hv
 simp only [volV, Option.isSome] at hlk
 clear hm hm0 hms hr h hv hxn
 obtain ⟨x1, xm⟩ := x
 simp only at b1 b2
 go_enter Tryz.func37, Tryz.ntmps37
 go_wp2_with (first | (go_at_call 19; ((with_reducible refine (HT.out _ gri).mono ?_); rintro _ _ ⟨rfl, g1, rfl⟩)) | (go_at_call 70; ((with_reducible refine (HMay.out _ gri).mono ?_); rintro _ _ ⟨rfl, g2, rfl⟩)))
 refine wp_region_tree (mixw_ghost _) [] (mixw_nil _) [0, 1, 2, 3, 4, 5, 6, 7, 8, 9] 3 (by kernel_rfl) (by kernel_rfl) ?_
 simp only [pick, List.drop, List.take, List.nil_append, List.cons_append]
 repeat (refine wpCalm_step (fun K hK => ?_); go_simp; first | (refine hK _ ?_; clear hK K) | (apply Exists.intro; refine ⟨fun _ => ?_, hK _ ?_⟩; (fail); clear hK K))
 refine wpCalm_nil ?_
 refine fe_mixAlloc 10 (by kernel_rfl) rfl rfl rfl Tryz.zeroValue64 fun b5_0 hb5_0 nb5_0 => ?_
 simp only [Act.put, List.setIfInBounds_toArray, List.set]
 refine fe_mixStore 11 [(b5_0, #[.int .i64 x1, .map (some (mb xv))], 64)] #[.int .i64 x1, .map (some (mb xv))] (by kernel_rfl) rfl rfl rfl rfl List.mem_cons_self hb5_0 rfl rfl rfl rfl (fun z hz => .inl (by simpa using hz)) ?_
 simp only [Act.put, List.setIfInBounds_toArray, List.set]
 refine fe_mixCalm 12 _ (by kernel_rfl) rfl rfl (fun g => calm_assign g rfl) ?_
 simp only [Act.put, List.setIfInBounds_toArray, List.set]
 refine fe_end (by kernel_rfl) ?_
 intro w1 hw1
 have cb5_0 : ∀ o, w1.cell? ⟨b5_0, o, none⟩ = (#[.int .i64 x1, .map (some (mb xv))] : Array Value)[o]? := mix_cell hw1 List.mem_cons_self
 have fb5_0 : ∀ o, w1.frozen? ⟨b5_0, o, none⟩ = false := mix_frozen hw1 List.mem_cons_self
 have ob5_0 : Old b5_0 w1 := mix_old hw1 List.mem_cons_self
 have qb5_0 := @fresh_ne _ _ hb5_0
 have rb5_0 := @fresh_en _ _ hb5_0
 have lb5_0 := fresh_le hb5_0 w.heap.size
 obtain ⟨⟨g5, rfl⟩, hbs⟩ := hw1
 clear hbs nb5_0
 go_wp2_with ((go_at_call 71; ((with_reducible refine (part_1 _ _ _ _ _ _ _ _ (by omega) _).mono ?_); rintro _ _ ⟨rfl, g3, rfl⟩)))
 go_ret
 exact ⟨rfl, gri⟩
set_option maxHeartbeats 4000000 in
theorem refused_2_none (xv xt xs xa xc : Int) (xD : Option Addr) (xn xq : Nat) (lx : Byt) (hxn : lx.length = xn) (base D : Nat) (d : Dev) (w : World) (h : DevAt base w D d) (hr : Row bv w xD lx) (hm : OpM.may ⟨2, xv, xt, xs, xa, xc, lx⟩ = true) (hv : getK d xv = none)  :
  Calls Tryz.prog 37 #[.pointer (some ⟨D, 0, none⟩), (.agg #[.int .i64 2, .int .u64 xv, .int .u64 xt, .int .i64 xs, .int .i64 xa, .int .i64 xc, .slice xD xn xq])] w fun e w' => e = .returned (.int .i64 6) ∧ Gr w w' := by
 have hms := may_s hm
 have hm0 := hm
 obtain ⟨M, mb, h⟩ := h
 rw [OpM.may] at hm
 simp only at hm
 rw [hxn] at hm
 have c9 : lx.length ≤ 2048 := may_len hm0
 rw [hxn] at c9
 have HMay := Lib.hid (fun W (hW : Gr w W) => (hm ▸ mayOp_any 2 xv xt xs xa xc xD xn xq lx W hxn (by omega) (hr.gr hW) : Calls Tryz.prog 70 #[(.agg #[.int .i64 2, .int .u64 xv, .int .u64 xt, .int .i64 xs, .int .i64 xa, .int .i64 xc, .slice xD xn xq])] W fun e w' => e = .returned (.bool true) ∧ Gr W w'))
 have HT := Lib.hid (fun W (hW : Gr w W) => there_yes D M W (h.blk.gr hW))
 haveI := h.blk
 have x0 : w.cell? ⟨D, 0, none⟩ = some (.map (some M)) := (@block_cells _ _ 0 _ _ h.blk).trans rfl
 haveI : Old D w := h.blk.old
 have hlk := look_vol h xv _ hv
 simp only [volV, Option.isSome] at hlk
 clear hm hm0 hms hr h hv hxn
 go_enter Tryz.func37, Tryz.ntmps37
 go_wp2_with (first | (go_at_call 19; ((with_reducible refine (HT.out _ gri).mono ?_); rintro _ _ ⟨rfl, g1, rfl⟩)) | (go_at_call 70; ((with_reducible refine (HMay.out _ gri).mono ?_); rintro _ _ ⟨rfl, g2, rfl⟩)))
 refine wp_region_tree (mixw_ghost _) [] (mixw_nil _) [0, 1, 2, 3, 4, 5, 6, 7, 8, 9] 3 (by kernel_rfl) (by kernel_rfl) ?_
 simp only [pick, List.drop, List.take, List.nil_append, List.cons_append]
 repeat (refine wpCalm_step (fun K hK => ?_); go_simp; first | (refine hK _ ?_; clear hK K) | (apply Exists.intro; refine ⟨fun _ => ?_, hK _ ?_⟩; (fail); clear hK K))
 refine wpCalm_nil ?_
 refine fe_mixAlloc 10 (by kernel_rfl) rfl rfl rfl Tryz.zeroValue64 fun b5_0 hb5_0 nb5_0 => ?_
 simp only [Act.put, List.setIfInBounds_toArray, List.set]
 refine fe_mixStore 11 [(b5_0, #[.int .i64 0, .map none], 64)] #[.int .i64 0, .map none] (by kernel_rfl) rfl rfl rfl rfl List.mem_cons_self hb5_0 rfl rfl rfl rfl (fun z hz => .inl (by simpa using hz)) ?_
 simp only [Act.put, List.setIfInBounds_toArray, List.set]
 refine fe_mixCalm 12 _ (by kernel_rfl) rfl rfl (fun g => calm_assign g rfl) ?_
 simp only [Act.put, List.setIfInBounds_toArray, List.set]
 refine fe_end (by kernel_rfl) ?_
 intro w1 hw1
 have cb5_0 : ∀ o, w1.cell? ⟨b5_0, o, none⟩ = (#[.int .i64 0, .map none] : Array Value)[o]? := mix_cell hw1 List.mem_cons_self
 have fb5_0 : ∀ o, w1.frozen? ⟨b5_0, o, none⟩ = false := mix_frozen hw1 List.mem_cons_self
 have ob5_0 : Old b5_0 w1 := mix_old hw1 List.mem_cons_self
 have qb5_0 := @fresh_ne _ _ hb5_0
 have rb5_0 := @fresh_en _ _ hb5_0
 have lb5_0 := fresh_le hb5_0 w.heap.size
 obtain ⟨⟨g5, rfl⟩, hbs⟩ := hw1
 clear hbs nb5_0
 go_wp2_with ((go_at_call 71; ((with_reducible refine (part_2 _ _ _ _ _ _ _ _ (by omega) _).mono ?_); rintro _ _ ⟨rfl, g3, rfl⟩)))
 go_ret
 exact ⟨rfl, gri⟩
set_option maxHeartbeats 4000000 in
theorem refused_2_some (xv xt xs xa xc : Int) (xD : Option Addr) (xn xq : Nat) (lx : Byt) (hxn : lx.length = xn) (base D : Nat) (d : Dev) (w : World) (h : DevAt base w D d) (hr : Row bv w xD lx) (hm : OpM.may ⟨2, xv, xt, xs, xa, xc, lx⟩ = true) (x : VolM) (hv : getK d xv = some x)  :
  Calls Tryz.prog 37 #[.pointer (some ⟨D, 0, none⟩), (.agg #[.int .i64 2, .int .u64 xv, .int .u64 xt, .int .i64 xs, .int .i64 xa, .int .i64 xc, .slice xD xn xq])] w fun e w' => e = .returned (.int .i64 0) ∧ Gr w w' := by
 have hms := may_s hm
 have hm0 := hm
 obtain ⟨M, mb, h⟩ := h
 have hxo := h.ok.vols _ ((getK_mem h.ok.sort).1 hv)
 have b1 := hxo.s0
 have b2 := hxo.s1
 clear hxo
 rw [OpM.may] at hm
 simp only at hm
 rw [hxn] at hm
 have c9 : lx.length ≤ 2048 := may_len hm0
 rw [hxn] at c9
 have HMay := Lib.hid (fun W (hW : Gr w W) => (hm ▸ mayOp_any 2 xv xt xs xa xc xD xn xq lx W hxn (by omega) (hr.gr hW) : Calls Tryz.prog 70 #[(.agg #[.int .i64 2, .int .u64 xv, .int .u64 xt, .int .i64 xs, .int .i64 xa, .int .i64 xc, .slice xD xn xq])] W fun e w' => e = .returned (.bool true) ∧ Gr W w'))
 have HT := Lib.hid (fun W (hW : Gr w W) => there_yes D M W (h.blk.gr hW))
 haveI := h.blk
 have x0 : w.cell? ⟨D, 0, none⟩ = some (.map (some M)) := (@block_cells _ _ 0 _ _ h.blk).trans rfl
 haveI : Old D w := h.blk.old
 have hlk := look_vol h xv _ hv
 simp only [volV, Option.isSome] at hlk
 clear hm hm0 hms hr h hv hxn
 obtain ⟨x1, xm⟩ := x
 simp only at b1 b2
 go_enter Tryz.func37, Tryz.ntmps37
 go_wp2_with (first | (go_at_call 19; ((with_reducible refine (HT.out _ gri).mono ?_); rintro _ _ ⟨rfl, g1, rfl⟩)) | (go_at_call 70; ((with_reducible refine (HMay.out _ gri).mono ?_); rintro _ _ ⟨rfl, g2, rfl⟩)))
 refine wp_region_tree (mixw_ghost _) [] (mixw_nil _) [0, 1, 2, 3, 4, 5, 6, 7, 8, 9] 3 (by kernel_rfl) (by kernel_rfl) ?_
 simp only [pick, List.drop, List.take, List.nil_append, List.cons_append]
 repeat (refine wpCalm_step (fun K hK => ?_); go_simp; first | (refine hK _ ?_; clear hK K) | (apply Exists.intro; refine ⟨fun _ => ?_, hK _ ?_⟩; (fail); clear hK K))
 refine wpCalm_nil ?_
 refine fe_mixAlloc 10 (by kernel_rfl) rfl rfl rfl Tryz.zeroValue64 fun b5_0 hb5_0 nb5_0 => ?_
 simp only [Act.put, List.setIfInBounds_toArray, List.set]
 refine fe_mixStore 11 [(b5_0, #[.int .i64 x1, .map (some (mb xv))], 64)] #[.int .i64 x1, .map (some (mb xv))] (by kernel_rfl) rfl rfl rfl rfl List.mem_cons_self hb5_0 rfl rfl rfl rfl (fun z hz => .inl (by simpa using hz)) ?_
 simp only [Act.put, List.setIfInBounds_toArray, List.set]
 refine fe_mixCalm 12 _ (by kernel_rfl) rfl rfl (fun g => calm_assign g rfl) ?_
 simp only [Act.put, List.setIfInBounds_toArray, List.set]
 refine fe_end (by kernel_rfl) ?_
 intro w1 hw1
 have cb5_0 : ∀ o, w1.cell? ⟨b5_0, o, none⟩ = (#[.int .i64 x1, .map (some (mb xv))] : Array Value)[o]? := mix_cell hw1 List.mem_cons_self
 have fb5_0 : ∀ o, w1.frozen? ⟨b5_0, o, none⟩ = false := mix_frozen hw1 List.mem_cons_self
 have ob5_0 : Old b5_0 w1 := mix_old hw1 List.mem_cons_self
 have qb5_0 := @fresh_ne _ _ hb5_0
 have rb5_0 := @fresh_en _ _ hb5_0
 have lb5_0 := fresh_le hb5_0 w.heap.size
 obtain ⟨⟨g5, rfl⟩, hbs⟩ := hw1
 clear hbs nb5_0
 go_wp2_with ((go_at_call 71; ((with_reducible refine (part_2 _ _ _ _ _ _ _ _ (by omega) _).mono ?_); rintro _ _ ⟨rfl, g3, rfl⟩)))
 go_ret
 exact ⟨rfl, gri⟩
set_option maxHeartbeats 4000000 in
theorem refused_3_none (xv xt xs xa xc : Int) (xD : Option Addr) (xn xq : Nat) (lx : Byt) (hxn : lx.length = xn) (base D : Nat) (d : Dev) (w : World) (h : DevAt base w D d) (hr : Row bv w xD lx) (hm : OpM.may ⟨3, xv, xt, xs, xa, xc, lx⟩ = true) (hv : getK d xv = none)  :
  Calls Tryz.prog 37 #[.pointer (some ⟨D, 0, none⟩), (.agg #[.int .i64 3, .int .u64 xv, .int .u64 xt, .int .i64 xs, .int .i64 xa, .int .i64 xc, .slice xD xn xq])] w fun e w' => e = .returned (.int .i64 6) ∧ Gr w w' := by
 have hms := may_s hm
 have hm0 := hm
 obtain ⟨M, mb, h⟩ := h
 rw [OpM.may] at hm
 simp only at hm
 rw [hxn] at hm
 have c9 : lx.length ≤ 2048 := may_len hm0
 rw [hxn] at c9
 have HMay := Lib.hid (fun W (hW : Gr w W) => (hm ▸ mayOp_any 3 xv xt xs xa xc xD xn xq lx W hxn (by omega) (hr.gr hW) : Calls Tryz.prog 70 #[(.agg #[.int .i64 3, .int .u64 xv, .int .u64 xt, .int .i64 xs, .int .i64 xa, .int .i64 xc, .slice xD xn xq])] W fun e w' => e = .returned (.bool true) ∧ Gr W w'))
 have HT := Lib.hid (fun W (hW : Gr w W) => there_yes D M W (h.blk.gr hW))
 haveI := h.blk
 have x0 : w.cell? ⟨D, 0, none⟩ = some (.map (some M)) := (@block_cells _ _ 0 _ _ h.blk).trans rfl
 haveI : Old D w := h.blk.old
 have hlk := look_vol h xv _ hv
 simp only [volV, Option.isSome] at hlk
 clear hm hm0 hms hr h hv hxn
 go_enter Tryz.func37, Tryz.ntmps37
 go_wp2_with (first | (go_at_call 19; ((with_reducible refine (HT.out _ gri).mono ?_); rintro _ _ ⟨rfl, g1, rfl⟩)) | (go_at_call 70; ((with_reducible refine (HMay.out _ gri).mono ?_); rintro _ _ ⟨rfl, g2, rfl⟩)))
 refine wp_region_tree (mixw_ghost _) [] (mixw_nil _) [0, 1, 2, 3, 4, 5, 6, 7, 8, 9] 3 (by kernel_rfl) (by kernel_rfl) ?_
 simp only [pick, List.drop, List.take, List.nil_append, List.cons_append]
 repeat (refine wpCalm_step (fun K hK => ?_); go_simp; first | (refine hK _ ?_; clear hK K) | (apply Exists.intro; refine ⟨fun _ => ?_, hK _ ?_⟩; (fail); clear hK K))
 refine wpCalm_nil ?_
 refine fe_mixAlloc 10 (by kernel_rfl) rfl rfl rfl Tryz.zeroValue64 fun b5_0 hb5_0 nb5_0 => ?_
 simp only [Act.put, List.setIfInBounds_toArray, List.set]
 refine fe_mixStore 11 [(b5_0, #[.int .i64 0, .map none], 64)] #[.int .i64 0, .map none] (by kernel_rfl) rfl rfl rfl rfl List.mem_cons_self hb5_0 rfl rfl rfl rfl (fun z hz => .inl (by simpa using hz)) ?_
 simp only [Act.put, List.setIfInBounds_toArray, List.set]
 refine fe_mixCalm 12 _ (by kernel_rfl) rfl rfl (fun g => calm_assign g rfl) ?_
 simp only [Act.put, List.setIfInBounds_toArray, List.set]
 refine fe_end (by kernel_rfl) ?_
 intro w1 hw1
 have cb5_0 : ∀ o, w1.cell? ⟨b5_0, o, none⟩ = (#[.int .i64 0, .map none] : Array Value)[o]? := mix_cell hw1 List.mem_cons_self
 have fb5_0 : ∀ o, w1.frozen? ⟨b5_0, o, none⟩ = false := mix_frozen hw1 List.mem_cons_self
 have ob5_0 : Old b5_0 w1 := mix_old hw1 List.mem_cons_self
 have qb5_0 := @fresh_ne _ _ hb5_0
 have rb5_0 := @fresh_en _ _ hb5_0
 have lb5_0 := fresh_le hb5_0 w.heap.size
 obtain ⟨⟨g5, rfl⟩, hbs⟩ := hw1
 clear hbs nb5_0
 go_wp2_with ((go_at_call 71; ((with_reducible refine (part_3 _ _ _ _ _ _ _ _ (by omega) _).mono ?_); rintro _ _ ⟨rfl, g3, rfl⟩)))
 go_ret
 exact ⟨rfl, gri⟩
set_option maxHeartbeats 4000000 in
theorem refused_3_some (xv xt xs xa xc : Int) (xD : Option Addr) (xn xq : Nat) (lx : Byt) (hxn : lx.length = xn) (base D : Nat) (d : Dev) (w : World) (h : DevAt base w D d) (hr : Row bv w xD lx) (hm : OpM.may ⟨3, xv, xt, xs, xa, xc, lx⟩ = true) (x : VolM) (hv : getK d xv = some x)  :
  Calls Tryz.prog 37 #[.pointer (some ⟨D, 0, none⟩), (.agg #[.int .i64 3, .int .u64 xv, .int .u64 xt, .int .i64 xs, .int .i64 xa, .int .i64 xc, .slice xD xn xq])] w fun e w' => e = .returned (.int .i64 0) ∧ Gr w w' := by
 have hms := may_s hm
 have hm0 := hm
 obtain ⟨M, mb, h⟩ := h
 have hxo := h.ok.vols _ ((getK_mem h.ok.sort).1 hv)
 have b1 := hxo.s0
 have b2 := hxo.s1
 clear hxo
 rw [OpM.may] at hm
 simp only at hm
 rw [hxn] at hm
 have c9 : lx.length ≤ 2048 := may_len hm0
 rw [hxn] at c9
 have HMay := Lib.hid (fun W (hW : Gr w W) => (hm ▸ mayOp_any 3 xv xt xs xa xc xD xn xq lx W hxn (by omega) (hr.gr hW) : Calls Tryz.prog 70 #[(.agg #[.int .i64 3, .int .u64 xv, .int .u64 xt, .int .i64 xs, .int .i64 xa, .int .i64 xc, .slice xD xn xq])] W fun e w' => e = .returned (.bool true) ∧ Gr W w'))
 have HT := Lib.hid (fun W (hW : Gr w W) => there_yes D M W (h.blk.gr hW))
 haveI := h.blk
 have x0 : w.cell? ⟨D, 0, none⟩ = some (.map (some M)) := (@block_cells _ _ 0 _ _ h.blk).trans rfl
 haveI : Old D w := h.blk.old
 have hlk := look_vol h xv _ hv
 simp only [volV, Option.isSome] at hlk
 clear hm hm0 hms hr h hv hxn
 obtain ⟨x1, xm⟩ := x
 simp only at b1 b2
 go_enter Tryz.func37, Tryz.ntmps37
 go_wp2_with (first | (go_at_call 19; ((with_reducible refine (HT.out _ gri).mono ?_); rintro _ _ ⟨rfl, g1, rfl⟩)) | (go_at_call 70; ((with_reducible refine (HMay.out _ gri).mono ?_); rintro _ _ ⟨rfl, g2, rfl⟩)))
 refine wp_region_tree (mixw_ghost _) [] (mixw_nil _) [0, 1, 2, 3, 4, 5, 6, 7, 8, 9] 3 (by kernel_rfl) (by kernel_rfl) ?_
 simp only [pick, List.drop, List.take, List.nil_append, List.cons_append]
 repeat (refine wpCalm_step (fun K hK => ?_); go_simp; first | (refine hK _ ?_; clear hK K) | (apply Exists.intro; refine ⟨fun _ => ?_, hK _ ?_⟩; (fail); clear hK K))
 refine wpCalm_nil ?_
 refine fe_mixAlloc 10 (by kernel_rfl) rfl rfl rfl Tryz.zeroValue64 fun b5_0 hb5_0 nb5_0 => ?_
 simp only [Act.put, List.setIfInBounds_toArray, List.set]
 refine fe_mixStore 11 [(b5_0, #[.int .i64 x1, .map (some (mb xv))], 64)] #[.int .i64 x1, .map (some (mb xv))] (by kernel_rfl) rfl rfl rfl rfl List.mem_cons_self hb5_0 rfl rfl rfl rfl (fun z hz => .inl (by simpa using hz)) ?_
 simp only [Act.put, List.setIfInBounds_toArray, List.set]
 refine fe_mixCalm 12 _ (by kernel_rfl) rfl rfl (fun g => calm_assign g rfl) ?_
 simp only [Act.put, List.setIfInBounds_toArray, List.set]
 refine fe_end (by kernel_rfl) ?_
 intro w1 hw1
 have cb5_0 : ∀ o, w1.cell? ⟨b5_0, o, none⟩ = (#[.int .i64 x1, .map (some (mb xv))] : Array Value)[o]? := mix_cell hw1 List.mem_cons_self
 have fb5_0 : ∀ o, w1.frozen? ⟨b5_0, o, none⟩ = false := mix_frozen hw1 List.mem_cons_self
 have ob5_0 : Old b5_0 w1 := mix_old hw1 List.mem_cons_self
 have qb5_0 := @fresh_ne _ _ hb5_0
 have rb5_0 := @fresh_en _ _ hb5_0
 have lb5_0 := fresh_le hb5_0 w.heap.size
 obtain ⟨⟨g5, rfl⟩, hbs⟩ := hw1
 clear hbs nb5_0
 go_wp2_with ((go_at_call 71; ((with_reducible refine (part_3 _ _ _ _ _ _ _ _ (by omega) _).mono ?_); rintro _ _ ⟨rfl, g3, rfl⟩)))
 go_ret
 exact ⟨rfl, gri⟩
set_option maxHeartbeats 4000000 in
theorem refused_4_none (xv xt xs xa xc : Int) (xD : Option Addr) (xn xq : Nat) (lx : Byt) (hxn : lx.length = xn) (base D : Nat) (d : Dev) (w : World) (h : DevAt base w D d) (hr : Row bv w xD lx) (hm : OpM.may ⟨4, xv, xt, xs, xa, xc, lx⟩ = true) (hv : getK d xv = none)  :
  Calls Tryz.prog 37 #[.pointer (some ⟨D, 0, none⟩), (.agg #[.int .i64 4, .int .u64 xv, .int .u64 xt, .int .i64 xs, .int .i64 xa, .int .i64 xc, .slice xD xn xq])] w fun e w' => e = .returned (.int .i64 6) ∧ Gr w w' := by
 have hms := may_s hm
 have hm0 := hm
 obtain ⟨M, mb, h⟩ := h
 rw [OpM.may] at hm
 simp only at hm
 rw [hxn] at hm
 have c9 : lx.length ≤ 2048 := may_len hm0
 rw [hxn] at c9
 have HMay := Lib.hid (fun W (hW : Gr w W) => (hm ▸ mayOp_any 4 xv xt xs xa xc xD xn xq lx W hxn (by omega) (hr.gr hW) : Calls Tryz.prog 70 #[(.agg #[.int .i64 4, .int .u64 xv, .int .u64 xt, .int .i64 xs, .int .i64 xa, .int .i64 xc, .slice xD xn xq])] W fun e w' => e = .returned (.bool true) ∧ Gr W w'))
 have HT := Lib.hid (fun W (hW : Gr w W) => there_yes D M W (h.blk.gr hW))
 haveI := h.blk
 have x0 : w.cell? ⟨D, 0, none⟩ = some (.map (some M)) := (@block_cells _ _ 0 _ _ h.blk).trans rfl
 haveI : Old D w := h.blk.old
 have hlk := look_vol h xv _ hv
 simp only [volV, Option.isSome] at hlk
 clear hm hm0 hms hr h hv hxn
 go_enter Tryz.func37, Tryz.ntmps37
 go_wp2_with (first | (go_at_call 19; ((with_reducible refine (HT.out _ gri).mono ?_); rintro _ _ ⟨rfl, g1, rfl⟩)) | (go_at_call 70; ((with_reducible refine (HMay.out _ gri).mono ?_); rintro _ _ ⟨rfl, g2, rfl⟩)))
 refine wp_region_tree (mixw_ghost _) [] (mixw_nil _) [0, 1, 2, 3, 4, 5, 6, 7, 8, 9] 3 (by kernel_rfl) (by kernel_rfl) ?_
 simp only [pick, List.drop, List.take, List.nil_append, List.cons_append]
 repeat (refine wpCalm_step (fun K hK => ?_); go_simp; first | (refine hK _ ?_; clear hK K) | (apply Exists.intro; refine ⟨fun _ => ?_, hK _ ?_⟩; (fail); clear hK K))
 refine wpCalm_nil ?_
 refine fe_mixAlloc 10 (by kernel_rfl) rfl rfl rfl Tryz.zeroValue64 fun b5_0 hb5_0 nb5_0 => ?_
 simp only [Act.put, List.setIfInBounds_toArray, List.set]
 refine fe_mixStore 11 [(b5_0, #[.int .i64 0, .map none], 64)] #[.int .i64 0, .map none] (by kernel_rfl) rfl rfl rfl rfl List.mem_cons_self hb5_0 rfl rfl rfl rfl (fun z hz => .inl (by simpa using hz)) ?_
 simp only [Act.put, List.setIfInBounds_toArray, List.set]
 refine fe_mixCalm 12 _ (by kernel_rfl) rfl rfl (fun g => calm_assign g rfl) ?_
 simp only [Act.put, List.setIfInBounds_toArray, List.set]
 refine fe_end (by kernel_rfl) ?_
 intro w1 hw1
 have cb5_0 : ∀ o, w1.cell? ⟨b5_0, o, none⟩ = (#[.int .i64 0, .map none] : Array Value)[o]? := mix_cell hw1 List.mem_cons_self
 have fb5_0 : ∀ o, w1.frozen? ⟨b5_0, o, none⟩ = false := mix_frozen hw1 List.mem_cons_self
 have ob5_0 : Old b5_0 w1 := mix_old hw1 List.mem_cons_self
 have qb5_0 := @fresh_ne _ _ hb5_0
 have rb5_0 := @fresh_en _ _ hb5_0
 have lb5_0 := fresh_le hb5_0 w.heap.size
 obtain ⟨⟨g5, rfl⟩, hbs⟩ := hw1
 clear hbs nb5_0
 go_wp2_with ((go_at_call 71; ((with_reducible refine (part_4 _ _ _ _ _ _ _ _ (by omega) _).mono ?_); rintro _ _ ⟨rfl, g3, rfl⟩)))
 go_ret
 exact ⟨rfl, gri⟩
set_option maxHeartbeats 4000000 in
theorem refused_4_to0 (xv xt xs xa xc : Int) (xD : Option Addr) (xn xq : Nat) (lx : Byt) (hxn : lx.length = xn) (base D : Nat) (d : Dev) (w : World) (h : DevAt base w D d) (hr : Row bv w xD lx) (hm : OpM.may ⟨4, xv, xt, xs, xa, xc, lx⟩ = true) (x : VolM) (hv : getK d xv = some x) (ht : getK d xt = none) :
  Calls Tryz.prog 37 #[.pointer (some ⟨D, 0, none⟩), (.agg #[.int .i64 4, .int .u64 xv, .int .u64 xt, .int .i64 xs, .int .i64 xa, .int .i64 xc, .slice xD xn xq])] w fun e w' => e = .returned (.int .i64 0) ∧ Gr w w' := by
 have hms := may_s hm
 have hm0 := hm
 obtain ⟨M, mb, h⟩ := h
 have hxo := h.ok.vols _ ((getK_mem h.ok.sort).1 hv)
 have b1 := hxo.s0
 have b2 := hxo.s1
 clear hxo
 rw [OpM.may] at hm
 simp only at hm
 rw [hxn] at hm
 have c9 : lx.length ≤ 2048 := may_len hm0
 rw [hxn] at c9
 have HMay := Lib.hid (fun W (hW : Gr w W) => (hm ▸ mayOp_any 4 xv xt xs xa xc xD xn xq lx W hxn (by omega) (hr.gr hW) : Calls Tryz.prog 70 #[(.agg #[.int .i64 4, .int .u64 xv, .int .u64 xt, .int .i64 xs, .int .i64 xa, .int .i64 xc, .slice xD xn xq])] W fun e w' => e = .returned (.bool true) ∧ Gr W w'))
 have HT := Lib.hid (fun W (hW : Gr w W) => there_yes D M W (h.blk.gr hW))
 haveI := h.blk
 have x0 : w.cell? ⟨D, 0, none⟩ = some (.map (some M)) := (@block_cells _ _ 0 _ _ h.blk).trans rfl
 haveI : Old D w := h.blk.old
 have hlk := look_vol h xv _ hv
 have hlt := look_vol h xt _ ht
 simp only [volV, Option.isSome] at hlt
 simp only [volV, Option.isSome] at hlk
 clear hm hm0 hms hr h hv hxn ht
 obtain ⟨x1, xm⟩ := x
 simp only at b1 b2
 go_enter Tryz.func37, Tryz.ntmps37
 go_wp2_with (first | (go_at_call 19; ((with_reducible refine (HT.out _ gri).mono ?_); rintro _ _ ⟨rfl, g1, rfl⟩)) | (go_at_call 70; ((with_reducible refine (HMay.out _ gri).mono ?_); rintro _ _ ⟨rfl, g2, rfl⟩)))
 refine wp_region_tree (mixw_ghost _) [] (mixw_nil _) [0, 1, 2, 3, 4, 5, 6, 7, 8, 9] 3 (by kernel_rfl) (by kernel_rfl) ?_
 simp only [pick, List.drop, List.take, List.nil_append, List.cons_append]
 repeat (refine wpCalm_step (fun K hK => ?_); go_simp; first | (refine hK _ ?_; clear hK K) | (apply Exists.intro; refine ⟨fun _ => ?_, hK _ ?_⟩; (fail); clear hK K))
 refine wpCalm_nil ?_
 refine fe_mixAlloc 10 (by kernel_rfl) rfl rfl rfl Tryz.zeroValue64 fun b5_0 hb5_0 nb5_0 => ?_
 simp only [Act.put, List.setIfInBounds_toArray, List.set]
 refine fe_mixStore 11 [(b5_0, #[.int .i64 x1, .map (some (mb xv))], 64)] #[.int .i64 x1, .map (some (mb xv))] (by kernel_rfl) rfl rfl rfl rfl List.mem_cons_self hb5_0 rfl rfl rfl rfl (fun z hz => .inl (by simpa using hz)) ?_
 simp only [Act.put, List.setIfInBounds_toArray, List.set]
 refine fe_mixCalm 12 _ (by kernel_rfl) rfl rfl (fun g => calm_assign g rfl) ?_
 simp only [Act.put, List.setIfInBounds_toArray, List.set]
 refine fe_end (by kernel_rfl) ?_
 intro w1 hw1
 have cb5_0 : ∀ o, w1.cell? ⟨b5_0, o, none⟩ = (#[.int .i64 x1, .map (some (mb xv))] : Array Value)[o]? := mix_cell hw1 List.mem_cons_self
 have fb5_0 : ∀ o, w1.frozen? ⟨b5_0, o, none⟩ = false := mix_frozen hw1 List.mem_cons_self
 have ob5_0 : Old b5_0 w1 := mix_old hw1 List.mem_cons_self
 have qb5_0 := @fresh_ne _ _ hb5_0
 have rb5_0 := @fresh_en _ _ hb5_0
 have lb5_0 := fresh_le hb5_0 w.heap.size
 obtain ⟨⟨g5, rfl⟩, hbs⟩ := hw1
 clear hbs nb5_0
 go_wp2_with ((go_at_call 71; ((with_reducible refine (part_4 _ _ _ _ _ _ _ _ (by omega) _).mono ?_); rintro _ _ ⟨rfl, g3, rfl⟩)))
 refine wp_region_tree (mixw_ghost _) [] (mixw_nil _) [0, 1, 2, 3, 4, 5, 6, 7, 8, 9] 3 (by kernel_rfl) (by kernel_rfl) ?_
 simp only [pick, List.drop, List.take, List.nil_append, List.cons_append]
 repeat (refine wpCalm_step (fun K hK => ?_); go_simp; first | (refine hK _ ?_; clear hK K) | (apply Exists.intro; refine ⟨fun _ => ?_, hK _ ?_⟩; (fail); clear hK K))
 refine wpCalm_nil ?_
 refine fe_mixAlloc 10 (by kernel_rfl) rfl rfl rfl Tryz.zeroValue64 fun b15_0 hb15_0 nb15_0 => ?_
 simp only [Act.put, List.setIfInBounds_toArray, List.set]
 refine fe_mixStore 11 [(b15_0, #[.int .i64 0, .map none], 64)] #[.int .i64 0, .map none] (by kernel_rfl) rfl rfl rfl rfl List.mem_cons_self hb15_0 rfl rfl rfl rfl (fun z hz => .inl (by simpa using hz)) ?_
 simp only [Act.put, List.setIfInBounds_toArray, List.set]
 refine fe_mixCalm 12 _ (by kernel_rfl) rfl rfl (fun g => calm_assign g rfl) ?_
 simp only [Act.put, List.setIfInBounds_toArray, List.set]
 refine fe_end (by kernel_rfl) ?_
 intro w1 hw1
 have cb15_0 : ∀ o, w1.cell? ⟨b15_0, o, none⟩ = (#[.int .i64 0, .map none] : Array Value)[o]? := mix_cell hw1 List.mem_cons_self
 have fb15_0 : ∀ o, w1.frozen? ⟨b15_0, o, none⟩ = false := mix_frozen hw1 List.mem_cons_self
 have ob15_0 : Old b15_0 w1 := mix_old hw1 List.mem_cons_self
 have qb15_0 := @fresh_ne _ _ hb15_0
 have rb15_0 := @fresh_en _ _ hb15_0
 have lb15_0 := fresh_le hb15_0 w.heap.size
 obtain ⟨⟨g15, rfl⟩, hbs⟩ := hw1
 clear hbs nb15_0
 go_wp2
 go_ret
 exact ⟨rfl, gri⟩
set_option maxHeartbeats 4000000 in
theorem refused_4_to1 (xv xt xs xa xc : Int) (xD : Option Addr) (xn xq : Nat) (lx : Byt) (hxn : lx.length = xn) (base D : Nat) (d : Dev) (w : World) (h : DevAt base w D d) (hr : Row bv w xD lx) (hm : OpM.may ⟨4, xv, xt, xs, xa, xc, lx⟩ = true) (x : VolM) (hv : getK d xv = some x) (y : VolM) (ht : getK d xt = some y) :
  Calls Tryz.prog 37 #[.pointer (some ⟨D, 0, none⟩), (.agg #[.int .i64 4, .int .u64 xv, .int .u64 xt, .int .i64 xs, .int .i64 xa, .int .i64 xc, .slice xD xn xq])] w fun e w' => e = .returned (.int .i64 7) ∧ Gr w w' := by
 have hms := may_s hm
 have hm0 := hm
 obtain ⟨M, mb, h⟩ := h
 have hxo := h.ok.vols _ ((getK_mem h.ok.sort).1 hv)
 have b1 := hxo.s0
 have b2 := hxo.s1
 clear hxo
 rw [OpM.may] at hm
 simp only at hm
 rw [hxn] at hm
 have c9 : lx.length ≤ 2048 := may_len hm0
 rw [hxn] at c9
 have HMay := Lib.hid (fun W (hW : Gr w W) => (hm ▸ mayOp_any 4 xv xt xs xa xc xD xn xq lx W hxn (by omega) (hr.gr hW) : Calls Tryz.prog 70 #[(.agg #[.int .i64 4, .int .u64 xv, .int .u64 xt, .int .i64 xs, .int .i64 xa, .int .i64 xc, .slice xD xn xq])] W fun e w' => e = .returned (.bool true) ∧ Gr W w'))
 have HT := Lib.hid (fun W (hW : Gr w W) => there_yes D M W (h.blk.gr hW))
 haveI := h.blk
 have x0 : w.cell? ⟨D, 0, none⟩ = some (.map (some M)) := (@block_cells _ _ 0 _ _ h.blk).trans rfl
 haveI : Old D w := h.blk.old
 have hlk := look_vol h xv _ hv
 have hlt := look_vol h xt _ ht
 simp only [volV, Option.isSome] at hlt
 simp only [volV, Option.isSome] at hlk
 clear hm hm0 hms hr h hv hxn ht
 obtain ⟨x1, xm⟩ := x
 simp only at b1 b2
 obtain ⟨y1, ym⟩ := y
 go_enter Tryz.func37, Tryz.ntmps37
 go_wp2_with (first | (go_at_call 19; ((with_reducible refine (HT.out _ gri).mono ?_); rintro _ _ ⟨rfl, g1, rfl⟩)) | (go_at_call 70; ((with_reducible refine (HMay.out _ gri).mono ?_); rintro _ _ ⟨rfl, g2, rfl⟩)))
 refine wp_region_tree (mixw_ghost _) [] (mixw_nil _) [0, 1, 2, 3, 4, 5, 6, 7, 8, 9] 3 (by kernel_rfl) (by kernel_rfl) ?_
 simp only [pick, List.drop, List.take, List.nil_append, List.cons_append]
 repeat (refine wpCalm_step (fun K hK => ?_); go_simp; first | (refine hK _ ?_; clear hK K) | (apply Exists.intro; refine ⟨fun _ => ?_, hK _ ?_⟩; (fail); clear hK K))
 refine wpCalm_nil ?_
 refine fe_mixAlloc 10 (by kernel_rfl) rfl rfl rfl Tryz.zeroValue64 fun b5_0 hb5_0 nb5_0 => ?_
 simp only [Act.put, List.setIfInBounds_toArray, List.set]
 refine fe_mixStore 11 [(b5_0, #[.int .i64 x1, .map (some (mb xv))], 64)] #[.int .i64 x1, .map (some (mb xv))] (by kernel_rfl) rfl rfl rfl rfl List.mem_cons_self hb5_0 rfl rfl rfl rfl (fun z hz => .inl (by simpa using hz)) ?_
 simp only [Act.put, List.setIfInBounds_toArray, List.set]
 refine fe_mixCalm 12 _ (by kernel_rfl) rfl rfl (fun g => calm_assign g rfl) ?_
 simp only [Act.put, List.setIfInBounds_toArray, List.set]
 refine fe_end (by kernel_rfl) ?_
 intro w1 hw1
 have cb5_0 : ∀ o, w1.cell? ⟨b5_0, o, none⟩ = (#[.int .i64 x1, .map (some (mb xv))] : Array Value)[o]? := mix_cell hw1 List.mem_cons_self
 have fb5_0 : ∀ o, w1.frozen? ⟨b5_0, o, none⟩ = false := mix_frozen hw1 List.mem_cons_self
 have ob5_0 : Old b5_0 w1 := mix_old hw1 List.mem_cons_self
 have qb5_0 := @fresh_ne _ _ hb5_0
 have rb5_0 := @fresh_en _ _ hb5_0
 have lb5_0 := fresh_le hb5_0 w.heap.size
 obtain ⟨⟨g5, rfl⟩, hbs⟩ := hw1
 clear hbs nb5_0
 go_wp2_with ((go_at_call 71; ((with_reducible refine (part_4 _ _ _ _ _ _ _ _ (by omega) _).mono ?_); rintro _ _ ⟨rfl, g3, rfl⟩)))
 refine wp_region_tree (mixw_ghost _) [] (mixw_nil _) [0, 1, 2, 3, 4, 5, 6, 7, 8, 9] 3 (by kernel_rfl) (by kernel_rfl) ?_
 simp only [pick, List.drop, List.take, List.nil_append, List.cons_append]
 repeat (refine wpCalm_step (fun K hK => ?_); go_simp; first | (refine hK _ ?_; clear hK K) | (apply Exists.intro; refine ⟨fun _ => ?_, hK _ ?_⟩; (fail); clear hK K))
 refine wpCalm_nil ?_
 refine fe_mixAlloc 10 (by kernel_rfl) rfl rfl rfl Tryz.zeroValue64 fun b15_0 hb15_0 nb15_0 => ?_
 simp only [Act.put, List.setIfInBounds_toArray, List.set]
 refine fe_mixStore 11 [(b15_0, #[.int .i64 y1, .map (some (mb xt))], 64)] #[.int .i64 y1, .map (some (mb xt))] (by kernel_rfl) rfl rfl rfl rfl List.mem_cons_self hb15_0 rfl rfl rfl rfl (fun z hz => .inl (by simpa using hz)) ?_
 simp only [Act.put, List.setIfInBounds_toArray, List.set]
 refine fe_mixCalm 12 _ (by kernel_rfl) rfl rfl (fun g => calm_assign g rfl) ?_
 simp only [Act.put, List.setIfInBounds_toArray, List.set]
 refine fe_end (by kernel_rfl) ?_
 intro w1 hw1
 have cb15_0 : ∀ o, w1.cell? ⟨b15_0, o, none⟩ = (#[.int .i64 y1, .map (some (mb xt))] : Array Value)[o]? := mix_cell hw1 List.mem_cons_self
 have fb15_0 : ∀ o, w1.frozen? ⟨b15_0, o, none⟩ = false := mix_frozen hw1 List.mem_cons_self
 have ob15_0 : Old b15_0 w1 := mix_old hw1 List.mem_cons_self
 have qb15_0 := @fresh_ne _ _ hb15_0
 have rb15_0 := @fresh_en _ _ hb15_0
 have lb15_0 := fresh_le hb15_0 w.heap.size
 obtain ⟨⟨g15, rfl⟩, hbs⟩ := hw1
 clear hbs nb15_0
 go_wp2
 go_ret
 exact ⟨rfl, gri⟩
end Go.Proofs.YtddckdhnolmjoaaGreat
