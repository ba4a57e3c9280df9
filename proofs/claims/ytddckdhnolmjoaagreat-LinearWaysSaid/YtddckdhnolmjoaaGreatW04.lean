/- command.Part; a look for a volume. Conditions: the device, and what is read, stand in memory. Device.refused, where the operation may not .. -/
import Derived.Test.YtddckdhnolmjoaaGreatW02
import Derived.Test.YtddckdhnolmjoaaGreatW03
set_option linter.unusedVariables false
set_option linter.unusedSimpArgs false
set_option linter.unnecessarySimpa false
set_option maxRecDepth 100000
set_option maxHeartbeats 8000000
namespace Go.Proofs.YtddckdhnolmjoaaGreat
open Go.RowKit
theorem part_1 (xv xt xs xa xc : Int) (xD : Option Addr) (xn xq : Nat) (hn : xn ≤ 1000000000) (w : World) : Calls Tryz.prog 71 #[(.agg #[.int .i64 1, .int .u64 xv, .int .u64 xt, .int .i64 xs, .int .i64 xa, .int .i64 xc, .slice xD xn xq])] w fun e w' => e = .returned (.iface 3 (.int .i64 xs)) ∧ Gr w w' := by
 go_enter Tryz.func71, Tryz.ntmps71
 go_wp2
 go_ret
 exact ⟨rfl, gri⟩
theorem part_2 (xv xt xs xa xc : Int) (xD : Option Addr) (xn xq : Nat) (hn : xn ≤ 1000000000) (w : World) : Calls Tryz.prog 71 #[(.agg #[.int .i64 2, .int .u64 xv, .int .u64 xt, .int .i64 xs, .int .i64 xa, .int .i64 xc, .slice xD xn xq])] w fun e w' => e = .returned (.nilIface) ∧ Gr w w' := by
 go_enter Tryz.func71, Tryz.ntmps71
 go_wp2
 go_ret
 exact ⟨rfl, gri⟩
theorem part_3 (xv xt xs xa xc : Int) (xD : Option Addr) (xn xq : Nat) (hn : xn ≤ 1000000000) (w : World) : Calls Tryz.prog 71 #[(.agg #[.int .i64 3, .int .u64 xv, .int .u64 xt, .int .i64 xs, .int .i64 xa, .int .i64 xc, .slice xD xn xq])] w fun e w' => e = .returned (.iface 3 (.int .i64 xs)) ∧ Gr w w' := by
 go_enter Tryz.func71, Tryz.ntmps71
 go_wp2
 go_ret
 exact ⟨rfl, gri⟩
theorem part_4 (xv xt xs xa xc : Int) (xD : Option Addr) (xn xq : Nat) (hn : xn ≤ 1000000000) (w : World) : Calls Tryz.prog 71 #[(.agg #[.int .i64 4, .int .u64 xv, .int .u64 xt, .int .i64 xs, .int .i64 xa, .int .i64 xc, .slice xD xn xq])] w fun e w' => e = .returned (.iface 146 (.agg #[.int .u64 xv, .int .u64 xt])) ∧ Gr w w' := by
 go_enter Tryz.func71, Tryz.ntmps71
 go_wp2
 go_ret
 exact ⟨rfl, gri⟩
theorem part_5 (xv xt xs xa xc : Int) (xD : Option Addr) (xn xq : Nat) (hn : xn ≤ 1000000000) (w : World) : Calls Tryz.prog 71 #[(.agg #[.int .i64 5, .int .u64 xv, .int .u64 xt, .int .i64 xs, .int .i64 xa, .int .i64 xc, .slice xD xn xq])] w fun e w' => e = .returned (.iface 148 (.agg #[.int .i64 xa, .int .i64 ((xn : Int) / 64)])) ∧ Gr w w' := by
 go_enter Tryz.func71, Tryz.ntmps71
 go_wp2
 go_ret
 exact ⟨rfl, gri⟩
theorem part_6 (xv xt xs xa xc : Int) (xD : Option Addr) (xn xq : Nat) (hn : xn ≤ 1000000000) (w : World) : Calls Tryz.prog 71 #[(.agg #[.int .i64 6, .int .u64 xv, .int .u64 xt, .int .i64 xs, .int .i64 xa, .int .i64 xc, .slice xD xn xq])] w fun e w' => e = .returned (.iface 148 (.agg #[.int .i64 xa, .int .i64 xc])) ∧ Gr w w' := by
 go_enter Tryz.func71, Tryz.ntmps71
 go_wp2
 go_ret
 exact ⟨rfl, gri⟩
theorem part_7 (xv xt xs xa xc : Int) (xD : Option Addr) (xn xq : Nat) (hn : xn ≤ 1000000000) (w : World) : Calls Tryz.prog 71 #[(.agg #[.int .i64 7, .int .u64 xv, .int .u64 xt, .int .i64 xs, .int .i64 xa, .int .i64 xc, .slice xD xn xq])] w fun e w' => e = .returned (.iface 149 (.agg #[.int .i64 xa, .int .i64 xc])) ∧ Gr w w' := by
 go_enter Tryz.func71, Tryz.ntmps71
 go_wp2
 go_ret
 exact ⟨rfl, gri⟩
theorem part_9 (xv xt xs xa xc : Int) (xD : Option Addr) (xn xq : Nat) (hn : xn ≤ 1000000000) (w : World) : Calls Tryz.prog 71 #[(.agg #[.int .i64 9, .int .u64 xv, .int .u64 xt, .int .i64 xs, .int .i64 xa, .int .i64 xc, .slice xD xn xq])] w fun e w' => e = .returned (.iface 148 (.agg #[.int .i64 xa, .int .i64 xc])) ∧ Gr w w' := by
 go_enter Tryz.func71, Tryz.ntmps71
 go_wp2
 go_ret
 exact ⟨rfl, gri⟩
@[go_sem] theorem ta_int_fork (x : Int) (w : World) : (Instr.typeAssert (.iface 3 (.int .i64 x)) 20 146 true).run Tryz.prog w = .ok (.tuple #[.agg #[.int .u64 0, .int .u64 0], .bool false]) w := by kernel_rfl
@[go_sem] theorem ta_int_row (x : Int) (w : World) : (Instr.typeAssert (.iface 3 (.int .i64 x)) 20 148 true).run Tryz.prog w = .ok (.tuple #[.agg #[.int .i64 0, .int .i64 0], .bool false]) w := by kernel_rfl
@[go_sem] theorem ta_int_space (x : Int) (w : World) : (Instr.typeAssert (.iface 3 (.int .i64 x)) 20 149 true).run Tryz.prog w = .ok (.tuple #[.agg #[.int .i64 0, .int .i64 0], .bool false]) w := by kernel_rfl
@[go_sem] theorem tb_int (x : Int) (w : World) : (Instr.typeAssert (.iface 3 (.int .i64 x)) 20 3 false).run Tryz.prog w = .ok (.int .i64 x) w := by kernel_rfl
@[go_sem] theorem ta_fork_fork (x y : Int) (w : World) : (Instr.typeAssert (.iface 146 (.agg #[.int .u64 x, .int .u64 y])) 20 146 true).run Tryz.prog w = .ok (.tuple #[(.agg #[.int .u64 x, .int .u64 y]), .bool true]) w := by kernel_rfl
@[go_sem] theorem ta_fork_row (x y : Int) (w : World) : (Instr.typeAssert (.iface 146 (.agg #[.int .u64 x, .int .u64 y])) 20 148 true).run Tryz.prog w = .ok (.tuple #[.agg #[.int .i64 0, .int .i64 0], .bool false]) w := by kernel_rfl
@[go_sem] theorem ta_fork_space (x y : Int) (w : World) : (Instr.typeAssert (.iface 146 (.agg #[.int .u64 x, .int .u64 y])) 20 149 true).run Tryz.prog w = .ok (.tuple #[.agg #[.int .i64 0, .int .i64 0], .bool false]) w := by kernel_rfl
@[go_sem] theorem tb_fork (x y : Int) (w : World) : (Instr.typeAssert (.iface 146 (.agg #[.int .u64 x, .int .u64 y])) 20 146 false).run Tryz.prog w = .ok (.agg #[.int .u64 x, .int .u64 y]) w := by kernel_rfl
@[go_sem] theorem ta_row_fork (x y : Int) (w : World) : (Instr.typeAssert (.iface 148 (.agg #[.int .i64 x, .int .i64 y])) 20 146 true).run Tryz.prog w = .ok (.tuple #[.agg #[.int .u64 0, .int .u64 0], .bool false]) w := by kernel_rfl
@[go_sem] theorem ta_row_row (x y : Int) (w : World) : (Instr.typeAssert (.iface 148 (.agg #[.int .i64 x, .int .i64 y])) 20 148 true).run Tryz.prog w = .ok (.tuple #[(.agg #[.int .i64 x, .int .i64 y]), .bool true]) w := by kernel_rfl
@[go_sem] theorem ta_row_space (x y : Int) (w : World) : (Instr.typeAssert (.iface 148 (.agg #[.int .i64 x, .int .i64 y])) 20 149 true).run Tryz.prog w = .ok (.tuple #[.agg #[.int .i64 0, .int .i64 0], .bool false]) w := by kernel_rfl
@[go_sem] theorem tb_row (x y : Int) (w : World) : (Instr.typeAssert (.iface 148 (.agg #[.int .i64 x, .int .i64 y])) 20 148 false).run Tryz.prog w = .ok (.agg #[.int .i64 x, .int .i64 y]) w := by kernel_rfl
@[go_sem] theorem ta_space_fork (x y : Int) (w : World) : (Instr.typeAssert (.iface 149 (.agg #[.int .i64 x, .int .i64 y])) 20 146 true).run Tryz.prog w = .ok (.tuple #[.agg #[.int .u64 0, .int .u64 0], .bool false]) w := by kernel_rfl
@[go_sem] theorem ta_space_row (x y : Int) (w : World) : (Instr.typeAssert (.iface 149 (.agg #[.int .i64 x, .int .i64 y])) 20 148 true).run Tryz.prog w = .ok (.tuple #[.agg #[.int .i64 0, .int .i64 0], .bool false]) w := by kernel_rfl
@[go_sem] theorem ta_space_space (x y : Int) (w : World) : (Instr.typeAssert (.iface 149 (.agg #[.int .i64 x, .int .i64 y])) 20 149 true).run Tryz.prog w = .ok (.tuple #[(.agg #[.int .i64 x, .int .i64 y]), .bool true]) w := by kernel_rfl
@[go_sem] theorem tb_space (x y : Int) (w : World) : (Instr.typeAssert (.iface 149 (.agg #[.int .i64 x, .int .i64 y])) 20 149 false).run Tryz.prog w = .ok (.agg #[.int .i64 x, .int .i64 y]) w := by kernel_rfl
@[go_sem] theorem tn_fork (w : World) : (Instr.typeAssert .nilIface 20 146 true).run Tryz.prog w = .ok (.tuple #[.agg #[.int .u64 0, .int .u64 0], .bool false]) w := by kernel_rfl
@[go_sem] theorem tn_row (w : World) : (Instr.typeAssert .nilIface 20 148 true).run Tryz.prog w = .ok (.tuple #[.agg #[.int .i64 0, .int .i64 0], .bool false]) w := by kernel_rfl
@[go_sem] theorem tn_space (w : World) : (Instr.typeAssert .nilIface 20 149 true).run Tryz.prog w = .ok (.tuple #[.agg #[.int .i64 0, .int .i64 0], .bool false]) w := by kernel_rfl
def volV (mb : Nat) : Option VolM → Value
 | some x => .agg #[.int .i64 x.1, .map (some mb)]
 | none => .agg #[.int .i64 0, .map none]
theorem look_vol {base : Nat} {w : World} {D M : Nat} {mb : Int → Nat} {d : Dev} (h : DevIn base w D M mb d) (v : Int) (u : Option VolM) (hu : getK d v = u) : ∀ (W : World) [hW : GrC w W], (Instr.lookup 53 (.map (some M)) (.int .u64 v) true).run Tryz.prog W = .ok (.tuple #[volV (mb v) u, .bool u.isSome]) W := fun W hW => by
 have hl := map_lookup (P := Tryz.prog) Tryz.underlying53 Tryz.underlying24 (h.all.gr (Gr.of hW.b)) v true (Tryz.zeroValue64 _)
 subst hu
 rw [hl, getK_vols]
 cases getK d v <;> rfl
theorem look_vol1 {base : Nat} {w : World} {D M : Nat} {mb : Int → Nat} {d : Dev} (h : DevIn base w D M mb d) (v : Int) (u : Option VolM) (hu : getK d v = u) : ∀ (W : World) [hW : GrC w W], (Instr.lookup 53 (.map (some M)) (.int .u64 v) false).run Tryz.prog W = .ok (volV (mb v) u) W := fun W hW => by
 have hl := map_lookup (P := Tryz.prog) Tryz.underlying53 Tryz.underlying24 (h.all.gr (Gr.of hW.b)) v false (Tryz.zeroValue64 _)
 subst hu
 rw [hl, getK_vols]
 cases getK d v <;> rfl
theorem may_len {k v t s a c : Int} {l : Byt} (h : OpM.may ⟨k, v, t, s, a, c, l⟩ = true) : l.length ≤ 2048 := by
 have hk := may_kind h
 simp only at hk
 have h9 : k = 1 ∨ k = 2 ∨ k = 3 ∨ k = 4 ∨ k = 5 ∨ k = 6 ∨ k = 7 ∨ k = 8 ∨ k = 9 := by omega
 rcases h9 with rfl | rfl | rfl | rfl | rfl | rfl | rfl | rfl | rfl
 all_goals
  simp [OpM.may, mayOpB, wVol, wTo, wSize, wAt, wCount, wData] at h
 all_goals
  first
  | omega
  | (simp only [and_assoc] at h
     have e : l = [] := by simp_all
     subst e
     simp)
theorem refused_bad (xk : Int) (xv xt xs xa xc : Int) (xD : Option Addr) (xn xq : Nat) (lx : Byt) (hxn : lx.length = xn) (base D : Nat) (d : Dev) (w : World) (h : DevAt base w D d) (hr : Row bv w xD lx) (hn : xn ≤ 9223372036854775807) (hm : OpM.may ⟨xk, xv, xt, xs, xa, xc, lx⟩ = false) :
  Calls Tryz.prog 37 #[.pointer (some ⟨D, 0, none⟩), (.agg #[.int .i64 xk, .int .u64 xv, .int .u64 xt, .int .i64 xs, .int .i64 xa, .int .i64 xc, .slice xD xn xq])] w fun e w' => e = .returned (.int .i64 2) ∧ Gr w w' := by
 obtain ⟨M, mb, h⟩ := h
 rw [OpM.may] at hm
 simp only at hm
 rw [hxn] at hm
 have HMay := hd_ (fun W (hW : Gr w W) => (hm ▸ mayOp_any xk xv xt xs xa xc xD xn xq lx W hxn hn (hr.gr hW) : Calls Tryz.prog 70 #[(.agg #[.int .i64 xk, .int .u64 xv, .int .u64 xt, .int .i64 xs, .int .i64 xa, .int .i64 xc, .slice xD xn xq])] W fun e w' => e = .returned (.bool false) ∧ Gr W w'))
 have HT := hd_ (fun W (hW : Gr w W) => there_yes D M W (h.blk.gr hW))
 haveI := h.blk
 haveI : Old D w := h.blk.old
 clear hm hr h hxn
 go_enter Tryz.func37, Tryz.ntmps37
 go_wp2_with (first | (go_at_call 19; ((with_reducible refine (HT.out _ gri).mono ?_); rintro _ _ ⟨rfl, g1, rfl⟩)) | (go_at_call 70; ((with_reducible refine (HMay.out _ gri).mono ?_); rintro _ _ ⟨rfl, g2, rfl⟩)))
 go_ret
 exact ⟨rfl, gri⟩
theorem refused_1_none (xv xt xs xa xc : Int) (xD : Option Addr) (xn xq : Nat) (lx : Byt) (hxn : lx.length = xn) (base D : Nat) (d : Dev) (w : World) (h : DevAt base w D d) (hr : Row bv w xD lx) (hm : OpM.may ⟨1, xv, xt, xs, xa, xc, lx⟩ = true) (hv : getK d xv = none)  :
  Calls Tryz.prog 37 #[.pointer (some ⟨D, 0, none⟩), (.agg #[.int .i64 1, .int .u64 xv, .int .u64 xt, .int .i64 xs, .int .i64 xa, .int .i64 xc, .slice xD xn xq])] w fun e w' => e = .returned (.int .i64 0) ∧ Gr w w' := by
 have hms := may_s hm
 have hm0 := hm
 obtain ⟨M, mb, h⟩ := h
 rw [OpM.may] at hm
 simp only at hm
 rw [hxn] at hm
 have c9 : lx.length ≤ 2048 := may_len hm0
 rw [hxn] at c9
 have HMay := hd_ (fun W (hW : Gr w W) => (hm ▸ mayOp_any 1 xv xt xs xa xc xD xn xq lx W hxn (by omega) (hr.gr hW) : Calls Tryz.prog 70 #[(.agg #[.int .i64 1, .int .u64 xv, .int .u64 xt, .int .i64 xs, .int .i64 xa, .int .i64 xc, .slice xD xn xq])] W fun e w' => e = .returned (.bool true) ∧ Gr W w'))
 have HT := hd_ (fun W (hW : Gr w W) => there_yes D M W (h.blk.gr hW))
 haveI := h.blk
 have x0 : w.cell? ⟨D, 0, none⟩ = some (.map (some M)) := (bc 0 h.blk).trans rfl
 haveI : Old D w := h.blk.old
 have hlk := look_vol h xv _ hv
 simp only [volV, Option.isSome] at hlk
 clear hm hm0 hms hr h hv hxn
 go_enter Tryz.func37, Tryz.ntmps37
 go_wp2_with (first | (go_at_call 19; ((with_reducible refine (HT.out _ gri).mono ?_); rintro _ _ ⟨rfl, g1, rfl⟩)) | (go_at_call 70; ((with_reducible refine (HMay.out _ gri).mono ?_); rintro _ _ ⟨rfl, g2, rfl⟩)))
 refine wp_region_tree (mixw_ghost _) [] (mixw_nil _) [0, 1, 2, 3, 4, 5, 6, 7, 8, 9] 3 (by kernel_rfl) (by kernel_rfl) ?_
 simp only [pick, List.drop, List.take, List.nil_append, List.cons_append]
 repeat (refine wpCalm_step (fun K hK => ?_); go_simp; first | (refine hK _ ?_; clear hK K) | (apply Exists.intro; refine ⟨fun _ => ?_, hK _ ?_⟩; (fail); clear hK K))
 refine wpCalm_nil ?_
 refine fe_mixAlloc 10 (by kernel_rfl) rfl rfl rfl Tryz.zeroValue64 fun b5_0 hb5_0 nb5_0 => ?_
 simp only [Act.put, stA, List.set]
 refine fe_mixStore 11 [(b5_0, #[.int .i64 0, .map none], 64)] #[.int .i64 0, .map none] (by kernel_rfl) rfl rfl rfl rfl mcs hb5_0 rfl rfl rfl rfl (fun z hz => .inl (by simpa using hz)) ?_
 simp only [Act.put, stA, List.set]
 refine fe_mixCalm 12 _ (by kernel_rfl) rfl rfl (fun g => calm_assign g rfl) ?_
 simp only [Act.put, stA, List.set]
 refine fe_end (by kernel_rfl) ?_
 intro w1 hw1
 have lb5_0 := fresh_le hb5_0 w.heap.size
 obtain ⟨cb5_0, fb5_0, ob5_0, qb5_0, rb5_0, g5, rfl⟩ := mixg hb5_0 hw1
 clear nb5_0
 go_wp2_with ((go_at_call 71; ((with_reducible refine (part_1 _ _ _ _ _ _ _ _ (by omega) _).mono ?_); rintro _ _ ⟨rfl, g3, rfl⟩)))
 go_ret
 exact ⟨rfl, gri⟩
theorem refused_1_some (xv xt xs xa xc : Int) (xD : Option Addr) (xn xq : Nat) (lx : Byt) (hxn : lx.length = xn) (base D : Nat) (d : Dev) (w : World) (h : DevAt base w D d) (hr : Row bv w xD lx) (hm : OpM.may ⟨1, xv, xt, xs, xa, xc, lx⟩ = true) (x : VolM) (hv : getK d xv = some x)  :
  Calls Tryz.prog 37 #[.pointer (some ⟨D, 0, none⟩), (.agg #[.int .i64 1, .int .u64 xv, .int .u64 xt, .int .i64 xs, .int .i64 xa, .int .i64 xc, .slice xD xn xq])] w fun e w' => e = .returned (.int .i64 7) ∧ Gr w w' := by
 have hms := may_s hm
 have hm0 := hm
 obtain ⟨M, mb, h⟩ := h
 have hxo := h.ok.vols _ ((getK_mem h.ok.sort).1 hv)
 have b1 := hxo.s0
 have b2 := hxo.s1
 clear hxo
 rw [OpM.may] at hm
 simp only at hm
 rw [hxn] at hm
 have c9 : lx.length ≤ 2048 := may_len hm0
 rw [hxn] at c9
 have HMay := hd_ (fun W (hW : Gr w W) => (hm ▸ mayOp_any 1 xv xt xs xa xc xD xn xq lx W hxn (by omega) (hr.gr hW) : Calls Tryz.prog 70 #[(.agg #[.int .i64 1, .int .u64 xv, .int .u64 xt, .int .i64 xs, .int .i64 xa, .int .i64 xc, .slice xD xn xq])] W fun e w' => e = .returned (.bool true) ∧ Gr W w'))
 have HT := hd_ (fun W (hW : Gr w W) => there_yes D M W (h.blk.gr hW))
 haveI := h.blk
 have x0 : w.cell? ⟨D, 0, none⟩ = some (.map (some M)) := (bc 0 h.blk).trans rfl
 haveI : Old D w := h.blk.old
 have hlk := look_vol h xv _ hv
 simp only [volV, Option.isSome] at hlk
 clear hm hm0 hms hr h hv hxn
 obtain ⟨x1, xm⟩ := x
 simp only at b1 b2
 go_enter Tryz.func37, Tryz.ntmps37
 go_wp2_with (first | (go_at_call 19; ((with_reducible refine (HT.out _ gri).mono ?_); rintro _ _ ⟨rfl, g1, rfl⟩)) | (go_at_call 70; ((with_reducible refine (HMay.out _ gri).mono ?_); rintro _ _ ⟨rfl, g2, rfl⟩)))
 refine wp_region_tree (mixw_ghost _) [] (mixw_nil _) [0, 1, 2, 3, 4, 5, 6, 7, 8, 9] 3 (by kernel_rfl) (by kernel_rfl) ?_
 simp only [pick, List.drop, List.take, List.nil_append, List.cons_append]
 repeat (refine wpCalm_step (fun K hK => ?_); go_simp; first | (refine hK _ ?_; clear hK K) | (apply Exists.intro; refine ⟨fun _ => ?_, hK _ ?_⟩; (fail); clear hK K))
 refine wpCalm_nil ?_
 refine fe_mixAlloc 10 (by kernel_rfl) rfl rfl rfl Tryz.zeroValue64 fun b5_0 hb5_0 nb5_0 => ?_
 simp only [Act.put, stA, List.set]
 refine fe_mixStore 11 [(b5_0, #[.int .i64 x1, .map (some (mb xv))], 64)] #[.int .i64 x1, .map (some (mb xv))] (by kernel_rfl) rfl rfl rfl rfl mcs hb5_0 rfl rfl rfl rfl (fun z hz => .inl (by simpa using hz)) ?_
 simp only [Act.put, stA, List.set]
 refine fe_mixCalm 12 _ (by kernel_rfl) rfl rfl (fun g => calm_assign g rfl) ?_
 simp only [Act.put, stA, List.set]
 refine fe_end (by kernel_rfl) ?_
 intro w1 hw1
 have lb5_0 := fresh_le hb5_0 w.heap.size
 obtain ⟨cb5_0, fb5_0, ob5_0, qb5_0, rb5_0, g5, rfl⟩ := mixg hb5_0 hw1
 clear nb5_0
 go_wp2_with ((go_at_call 71; ((with_reducible refine (part_1 _ _ _ _ _ _ _ _ (by omega) _).mono ?_); rintro _ _ ⟨rfl, g3, rfl⟩)))
 go_ret
 exact ⟨rfl, gri⟩
theorem refused_2_none (xv xt xs xa xc : Int) (xD : Option Addr) (xn xq : Nat) (lx : Byt) (hxn : lx.length = xn) (base D : Nat) (d : Dev) (w : World) (h : DevAt base w D d) (hr : Row bv w xD lx) (hm : OpM.may ⟨2, xv, xt, xs, xa, xc, lx⟩ = true) (hv : getK d xv = none)  :
  Calls Tryz.prog 37 #[.pointer (some ⟨D, 0, none⟩), (.agg #[.int .i64 2, .int .u64 xv, .int .u64 xt, .int .i64 xs, .int .i64 xa, .int .i64 xc, .slice xD xn xq])] w fun e w' => e = .returned (.int .i64 6) ∧ Gr w w' := by
 have hms := may_s hm
 have hm0 := hm
 obtain ⟨M, mb, h⟩ := h
 rw [OpM.may] at hm
 simp only at hm
 rw [hxn] at hm
 have c9 : lx.length ≤ 2048 := may_len hm0
 rw [hxn] at c9
 have HMay := hd_ (fun W (hW : Gr w W) => (hm ▸ mayOp_any 2 xv xt xs xa xc xD xn xq lx W hxn (by omega) (hr.gr hW) : Calls Tryz.prog 70 #[(.agg #[.int .i64 2, .int .u64 xv, .int .u64 xt, .int .i64 xs, .int .i64 xa, .int .i64 xc, .slice xD xn xq])] W fun e w' => e = .returned (.bool true) ∧ Gr W w'))
 have HT := hd_ (fun W (hW : Gr w W) => there_yes D M W (h.blk.gr hW))
 haveI := h.blk
 have x0 : w.cell? ⟨D, 0, none⟩ = some (.map (some M)) := (bc 0 h.blk).trans rfl
 haveI : Old D w := h.blk.old
 have hlk := look_vol h xv _ hv
 simp only [volV, Option.isSome] at hlk
 clear hm hm0 hms hr h hv hxn
 go_enter Tryz.func37, Tryz.ntmps37
 go_wp2_with (first | (go_at_call 19; ((with_reducible refine (HT.out _ gri).mono ?_); rintro _ _ ⟨rfl, g1, rfl⟩)) | (go_at_call 70; ((with_reducible refine (HMay.out _ gri).mono ?_); rintro _ _ ⟨rfl, g2, rfl⟩)))
 refine wp_region_tree (mixw_ghost _) [] (mixw_nil _) [0, 1, 2, 3, 4, 5, 6, 7, 8, 9] 3 (by kernel_rfl) (by kernel_rfl) ?_
 simp only [pick, List.drop, List.take, List.nil_append, List.cons_append]
 repeat (refine wpCalm_step (fun K hK => ?_); go_simp; first | (refine hK _ ?_; clear hK K) | (apply Exists.intro; refine ⟨fun _ => ?_, hK _ ?_⟩; (fail); clear hK K))
 refine wpCalm_nil ?_
 refine fe_mixAlloc 10 (by kernel_rfl) rfl rfl rfl Tryz.zeroValue64 fun b5_0 hb5_0 nb5_0 => ?_
 simp only [Act.put, stA, List.set]
 refine fe_mixStore 11 [(b5_0, #[.int .i64 0, .map none], 64)] #[.int .i64 0, .map none] (by kernel_rfl) rfl rfl rfl rfl mcs hb5_0 rfl rfl rfl rfl (fun z hz => .inl (by simpa using hz)) ?_
 simp only [Act.put, stA, List.set]
 refine fe_mixCalm 12 _ (by kernel_rfl) rfl rfl (fun g => calm_assign g rfl) ?_
 simp only [Act.put, stA, List.set]
 refine fe_end (by kernel_rfl) ?_
 intro w1 hw1
 have lb5_0 := fresh_le hb5_0 w.heap.size
 obtain ⟨cb5_0, fb5_0, ob5_0, qb5_0, rb5_0, g5, rfl⟩ := mixg hb5_0 hw1
 clear nb5_0
 go_wp2_with ((go_at_call 71; ((with_reducible refine (part_2 _ _ _ _ _ _ _ _ (by omega) _).mono ?_); rintro _ _ ⟨rfl, g3, rfl⟩)))
 go_ret
 exact ⟨rfl, gri⟩
theorem refused_2_some (xv xt xs xa xc : Int) (xD : Option Addr) (xn xq : Nat) (lx : Byt) (hxn : lx.length = xn) (base D : Nat) (d : Dev) (w : World) (h : DevAt base w D d) (hr : Row bv w xD lx) (hm : OpM.may ⟨2, xv, xt, xs, xa, xc, lx⟩ = true) (x : VolM) (hv : getK d xv = some x)  :
  Calls Tryz.prog 37 #[.pointer (some ⟨D, 0, none⟩), (.agg #[.int .i64 2, .int .u64 xv, .int .u64 xt, .int .i64 xs, .int .i64 xa, .int .i64 xc, .slice xD xn xq])] w fun e w' => e = .returned (.int .i64 0) ∧ Gr w w' := by
 have hms := may_s hm
 have hm0 := hm
 obtain ⟨M, mb, h⟩ := h
 have hxo := h.ok.vols _ ((getK_mem h.ok.sort).1 hv)
 have b1 := hxo.s0
 have b2 := hxo.s1
 clear hxo
 rw [OpM.may] at hm
 simp only at hm
 rw [hxn] at hm
 have c9 : lx.length ≤ 2048 := may_len hm0
 rw [hxn] at c9
 have HMay := hd_ (fun W (hW : Gr w W) => (hm ▸ mayOp_any 2 xv xt xs xa xc xD xn xq lx W hxn (by omega) (hr.gr hW) : Calls Tryz.prog 70 #[(.agg #[.int .i64 2, .int .u64 xv, .int .u64 xt, .int .i64 xs, .int .i64 xa, .int .i64 xc, .slice xD xn xq])] W fun e w' => e = .returned (.bool true) ∧ Gr W w'))
 have HT := hd_ (fun W (hW : Gr w W) => there_yes D M W (h.blk.gr hW))
 haveI := h.blk
 have x0 : w.cell? ⟨D, 0, none⟩ = some (.map (some M)) := (bc 0 h.blk).trans rfl
 haveI : Old D w := h.blk.old
 have hlk := look_vol h xv _ hv
 simp only [volV, Option.isSome] at hlk
 clear hm hm0 hms hr h hv hxn
 obtain ⟨x1, xm⟩ := x
 simp only at b1 b2
 go_enter Tryz.func37, Tryz.ntmps37
 go_wp2_with (first | (go_at_call 19; ((with_reducible refine (HT.out _ gri).mono ?_); rintro _ _ ⟨rfl, g1, rfl⟩)) | (go_at_call 70; ((with_reducible refine (HMay.out _ gri).mono ?_); rintro _ _ ⟨rfl, g2, rfl⟩)))
 refine wp_region_tree (mixw_ghost _) [] (mixw_nil _) [0, 1, 2, 3, 4, 5, 6, 7, 8, 9] 3 (by kernel_rfl) (by kernel_rfl) ?_
 simp only [pick, List.drop, List.take, List.nil_append, List.cons_append]
 repeat (refine wpCalm_step (fun K hK => ?_); go_simp; first | (refine hK _ ?_; clear hK K) | (apply Exists.intro; refine ⟨fun _ => ?_, hK _ ?_⟩; (fail); clear hK K))
 refine wpCalm_nil ?_
 refine fe_mixAlloc 10 (by kernel_rfl) rfl rfl rfl Tryz.zeroValue64 fun b5_0 hb5_0 nb5_0 => ?_
 simp only [Act.put, stA, List.set]
 refine fe_mixStore 11 [(b5_0, #[.int .i64 x1, .map (some (mb xv))], 64)] #[.int .i64 x1, .map (some (mb xv))] (by kernel_rfl) rfl rfl rfl rfl mcs hb5_0 rfl rfl rfl rfl (fun z hz => .inl (by simpa using hz)) ?_
 simp only [Act.put, stA, List.set]
 refine fe_mixCalm 12 _ (by kernel_rfl) rfl rfl (fun g => calm_assign g rfl) ?_
 simp only [Act.put, stA, List.set]
 refine fe_end (by kernel_rfl) ?_
 intro w1 hw1
 have lb5_0 := fresh_le hb5_0 w.heap.size
 obtain ⟨cb5_0, fb5_0, ob5_0, qb5_0, rb5_0, g5, rfl⟩ := mixg hb5_0 hw1
 clear nb5_0
 go_wp2_with ((go_at_call 71; ((with_reducible refine (part_2 _ _ _ _ _ _ _ _ (by omega) _).mono ?_); rintro _ _ ⟨rfl, g3, rfl⟩)))
 go_ret
 exact ⟨rfl, gri⟩
theorem refused_3_none (xv xt xs xa xc : Int) (xD : Option Addr) (xn xq : Nat) (lx : Byt) (hxn : lx.length = xn) (base D : Nat) (d : Dev) (w : World) (h : DevAt base w D d) (hr : Row bv w xD lx) (hm : OpM.may ⟨3, xv, xt, xs, xa, xc, lx⟩ = true) (hv : getK d xv = none)  :
  Calls Tryz.prog 37 #[.pointer (some ⟨D, 0, none⟩), (.agg #[.int .i64 3, .int .u64 xv, .int .u64 xt, .int .i64 xs, .int .i64 xa, .int .i64 xc, .slice xD xn xq])] w fun e w' => e = .returned (.int .i64 6) ∧ Gr w w' := by
 have hms := may_s hm
 have hm0 := hm
 obtain ⟨M, mb, h⟩ := h
 rw [OpM.may] at hm
 simp only at hm
 rw [hxn] at hm
 have c9 : lx.length ≤ 2048 := may_len hm0
 rw [hxn] at c9
 have HMay := hd_ (fun W (hW : Gr w W) => (hm ▸ mayOp_any 3 xv xt xs xa xc xD xn xq lx W hxn (by omega) (hr.gr hW) : Calls Tryz.prog 70 #[(.agg #[.int .i64 3, .int .u64 xv, .int .u64 xt, .int .i64 xs, .int .i64 xa, .int .i64 xc, .slice xD xn xq])] W fun e w' => e = .returned (.bool true) ∧ Gr W w'))
 have HT := hd_ (fun W (hW : Gr w W) => there_yes D M W (h.blk.gr hW))
 haveI := h.blk
 have x0 : w.cell? ⟨D, 0, none⟩ = some (.map (some M)) := (bc 0 h.blk).trans rfl
 haveI : Old D w := h.blk.old
 have hlk := look_vol h xv _ hv
 simp only [volV, Option.isSome] at hlk
 clear hm hm0 hms hr h hv hxn
 go_enter Tryz.func37, Tryz.ntmps37
 go_wp2_with (first | (go_at_call 19; ((with_reducible refine (HT.out _ gri).mono ?_); rintro _ _ ⟨rfl, g1, rfl⟩)) | (go_at_call 70; ((with_reducible refine (HMay.out _ gri).mono ?_); rintro _ _ ⟨rfl, g2, rfl⟩)))
 refine wp_region_tree (mixw_ghost _) [] (mixw_nil _) [0, 1, 2, 3, 4, 5, 6, 7, 8, 9] 3 (by kernel_rfl) (by kernel_rfl) ?_
 simp only [pick, List.drop, List.take, List.nil_append, List.cons_append]
 repeat (refine wpCalm_step (fun K hK => ?_); go_simp; first | (refine hK _ ?_; clear hK K) | (apply Exists.intro; refine ⟨fun _ => ?_, hK _ ?_⟩; (fail); clear hK K))
 refine wpCalm_nil ?_
 refine fe_mixAlloc 10 (by kernel_rfl) rfl rfl rfl Tryz.zeroValue64 fun b5_0 hb5_0 nb5_0 => ?_
 simp only [Act.put, stA, List.set]
 refine fe_mixStore 11 [(b5_0, #[.int .i64 0, .map none], 64)] #[.int .i64 0, .map none] (by kernel_rfl) rfl rfl rfl rfl mcs hb5_0 rfl rfl rfl rfl (fun z hz => .inl (by simpa using hz)) ?_
 simp only [Act.put, stA, List.set]
 refine fe_mixCalm 12 _ (by kernel_rfl) rfl rfl (fun g => calm_assign g rfl) ?_
 simp only [Act.put, stA, List.set]
 refine fe_end (by kernel_rfl) ?_
 intro w1 hw1
 have lb5_0 := fresh_le hb5_0 w.heap.size
 obtain ⟨cb5_0, fb5_0, ob5_0, qb5_0, rb5_0, g5, rfl⟩ := mixg hb5_0 hw1
 clear nb5_0
 go_wp2_with ((go_at_call 71; ((with_reducible refine (part_3 _ _ _ _ _ _ _ _ (by omega) _).mono ?_); rintro _ _ ⟨rfl, g3, rfl⟩)))
 go_ret
 exact ⟨rfl, gri⟩
theorem refused_3_some (xv xt xs xa xc : Int) (xD : Option Addr) (xn xq : Nat) (lx : Byt) (hxn : lx.length = xn) (base D : Nat) (d : Dev) (w : World) (h : DevAt base w D d) (hr : Row bv w xD lx) (hm : OpM.may ⟨3, xv, xt, xs, xa, xc, lx⟩ = true) (x : VolM) (hv : getK d xv = some x)  :
  Calls Tryz.prog 37 #[.pointer (some ⟨D, 0, none⟩), (.agg #[.int .i64 3, .int .u64 xv, .int .u64 xt, .int .i64 xs, .int .i64 xa, .int .i64 xc, .slice xD xn xq])] w fun e w' => e = .returned (.int .i64 0) ∧ Gr w w' := by
 have hms := may_s hm
 have hm0 := hm
 obtain ⟨M, mb, h⟩ := h
 have hxo := h.ok.vols _ ((getK_mem h.ok.sort).1 hv)
 have b1 := hxo.s0
 have b2 := hxo.s1
 clear hxo
 rw [OpM.may] at hm
 simp only at hm
 rw [hxn] at hm
 have c9 : lx.length ≤ 2048 := may_len hm0
 rw [hxn] at c9
 have HMay := hd_ (fun W (hW : Gr w W) => (hm ▸ mayOp_any 3 xv xt xs xa xc xD xn xq lx W hxn (by omega) (hr.gr hW) : Calls Tryz.prog 70 #[(.agg #[.int .i64 3, .int .u64 xv, .int .u64 xt, .int .i64 xs, .int .i64 xa, .int .i64 xc, .slice xD xn xq])] W fun e w' => e = .returned (.bool true) ∧ Gr W w'))
 have HT := hd_ (fun W (hW : Gr w W) => there_yes D M W (h.blk.gr hW))
 haveI := h.blk
 have x0 : w.cell? ⟨D, 0, none⟩ = some (.map (some M)) := (bc 0 h.blk).trans rfl
 haveI : Old D w := h.blk.old
 have hlk := look_vol h xv _ hv
 simp only [volV, Option.isSome] at hlk
 clear hm hm0 hms hr h hv hxn
 obtain ⟨x1, xm⟩ := x
 simp only at b1 b2
 go_enter Tryz.func37, Tryz.ntmps37
 go_wp2_with (first | (go_at_call 19; ((with_reducible refine (HT.out _ gri).mono ?_); rintro _ _ ⟨rfl, g1, rfl⟩)) | (go_at_call 70; ((with_reducible refine (HMay.out _ gri).mono ?_); rintro _ _ ⟨rfl, g2, rfl⟩)))
 refine wp_region_tree (mixw_ghost _) [] (mixw_nil _) [0, 1, 2, 3, 4, 5, 6, 7, 8, 9] 3 (by kernel_rfl) (by kernel_rfl) ?_
 simp only [pick, List.drop, List.take, List.nil_append, List.cons_append]
 repeat (refine wpCalm_step (fun K hK => ?_); go_simp; first | (refine hK _ ?_; clear hK K) | (apply Exists.intro; refine ⟨fun _ => ?_, hK _ ?_⟩; (fail); clear hK K))
 refine wpCalm_nil ?_
 refine fe_mixAlloc 10 (by kernel_rfl) rfl rfl rfl Tryz.zeroValue64 fun b5_0 hb5_0 nb5_0 => ?_
 simp only [Act.put, stA, List.set]
 refine fe_mixStore 11 [(b5_0, #[.int .i64 x1, .map (some (mb xv))], 64)] #[.int .i64 x1, .map (some (mb xv))] (by kernel_rfl) rfl rfl rfl rfl mcs hb5_0 rfl rfl rfl rfl (fun z hz => .inl (by simpa using hz)) ?_
 simp only [Act.put, stA, List.set]
 refine fe_mixCalm 12 _ (by kernel_rfl) rfl rfl (fun g => calm_assign g rfl) ?_
 simp only [Act.put, stA, List.set]
 refine fe_end (by kernel_rfl) ?_
 intro w1 hw1
 have lb5_0 := fresh_le hb5_0 w.heap.size
 obtain ⟨cb5_0, fb5_0, ob5_0, qb5_0, rb5_0, g5, rfl⟩ := mixg hb5_0 hw1
 clear nb5_0
 go_wp2_with ((go_at_call 71; ((with_reducible refine (part_3 _ _ _ _ _ _ _ _ (by omega) _).mono ?_); rintro _ _ ⟨rfl, g3, rfl⟩)))
 go_ret
 exact ⟨rfl, gri⟩
theorem refused_4_none (xv xt xs xa xc : Int) (xD : Option Addr) (xn xq : Nat) (lx : Byt) (hxn : lx.length = xn) (base D : Nat) (d : Dev) (w : World) (h : DevAt base w D d) (hr : Row bv w xD lx) (hm : OpM.may ⟨4, xv, xt, xs, xa, xc, lx⟩ = true) (hv : getK d xv = none)  :
  Calls Tryz.prog 37 #[.pointer (some ⟨D, 0, none⟩), (.agg #[.int .i64 4, .int .u64 xv, .int .u64 xt, .int .i64 xs, .int .i64 xa, .int .i64 xc, .slice xD xn xq])] w fun e w' => e = .returned (.int .i64 6) ∧ Gr w w' := by
 have hms := may_s hm
 have hm0 := hm
 obtain ⟨M, mb, h⟩ := h
 rw [OpM.may] at hm
 simp only at hm
 rw [hxn] at hm
 have c9 : lx.length ≤ 2048 := may_len hm0
 rw [hxn] at c9
 have HMay := hd_ (fun W (hW : Gr w W) => (hm ▸ mayOp_any 4 xv xt xs xa xc xD xn xq lx W hxn (by omega) (hr.gr hW) : Calls Tryz.prog 70 #[(.agg #[.int .i64 4, .int .u64 xv, .int .u64 xt, .int .i64 xs, .int .i64 xa, .int .i64 xc, .slice xD xn xq])] W fun e w' => e = .returned (.bool true) ∧ Gr W w'))
 have HT := hd_ (fun W (hW : Gr w W) => there_yes D M W (h.blk.gr hW))
 haveI := h.blk
 have x0 : w.cell? ⟨D, 0, none⟩ = some (.map (some M)) := (bc 0 h.blk).trans rfl
 haveI : Old D w := h.blk.old
 have hlk := look_vol h xv _ hv
 simp only [volV, Option.isSome] at hlk
 clear hm hm0 hms hr h hv hxn
 go_enter Tryz.func37, Tryz.ntmps37
 go_wp2_with (first | (go_at_call 19; ((with_reducible refine (HT.out _ gri).mono ?_); rintro _ _ ⟨rfl, g1, rfl⟩)) | (go_at_call 70; ((with_reducible refine (HMay.out _ gri).mono ?_); rintro _ _ ⟨rfl, g2, rfl⟩)))
 refine wp_region_tree (mixw_ghost _) [] (mixw_nil _) [0, 1, 2, 3, 4, 5, 6, 7, 8, 9] 3 (by kernel_rfl) (by kernel_rfl) ?_
 simp only [pick, List.drop, List.take, List.nil_append, List.cons_append]
 repeat (refine wpCalm_step (fun K hK => ?_); go_simp; first | (refine hK _ ?_; clear hK K) | (apply Exists.intro; refine ⟨fun _ => ?_, hK _ ?_⟩; (fail); clear hK K))
 refine wpCalm_nil ?_
 refine fe_mixAlloc 10 (by kernel_rfl) rfl rfl rfl Tryz.zeroValue64 fun b5_0 hb5_0 nb5_0 => ?_
 simp only [Act.put, stA, List.set]
 refine fe_mixStore 11 [(b5_0, #[.int .i64 0, .map none], 64)] #[.int .i64 0, .map none] (by kernel_rfl) rfl rfl rfl rfl mcs hb5_0 rfl rfl rfl rfl (fun z hz => .inl (by simpa using hz)) ?_
 simp only [Act.put, stA, List.set]
 refine fe_mixCalm 12 _ (by kernel_rfl) rfl rfl (fun g => calm_assign g rfl) ?_
 simp only [Act.put, stA, List.set]
 refine fe_end (by kernel_rfl) ?_
 intro w1 hw1
 have lb5_0 := fresh_le hb5_0 w.heap.size
 obtain ⟨cb5_0, fb5_0, ob5_0, qb5_0, rb5_0, g5, rfl⟩ := mixg hb5_0 hw1
 clear nb5_0
 go_wp2_with ((go_at_call 71; ((with_reducible refine (part_4 _ _ _ _ _ _ _ _ (by omega) _).mono ?_); rintro _ _ ⟨rfl, g3, rfl⟩)))
 go_ret
 exact ⟨rfl, gri⟩
theorem refused_4_to0 (xv xt xs xa xc : Int) (xD : Option Addr) (xn xq : Nat) (lx : Byt) (hxn : lx.length = xn) (base D : Nat) (d : Dev) (w : World) (h : DevAt base w D d) (hr : Row bv w xD lx) (hm : OpM.may ⟨4, xv, xt, xs, xa, xc, lx⟩ = true) (x : VolM) (hv : getK d xv = some x) (ht : getK d xt = none) :
  Calls Tryz.prog 37 #[.pointer (some ⟨D, 0, none⟩), (.agg #[.int .i64 4, .int .u64 xv, .int .u64 xt, .int .i64 xs, .int .i64 xa, .int .i64 xc, .slice xD xn xq])] w fun e w' => e = .returned (.int .i64 0) ∧ Gr w w' := by
 have hms := may_s hm
 have hm0 := hm
 obtain ⟨M, mb, h⟩ := h
 have hxo := h.ok.vols _ ((getK_mem h.ok.sort).1 hv)
 have b1 := hxo.s0
 have b2 := hxo.s1
 clear hxo
 rw [OpM.may] at hm
 simp only at hm
 rw [hxn] at hm
 have c9 : lx.length ≤ 2048 := may_len hm0
 rw [hxn] at c9
 have HMay := hd_ (fun W (hW : Gr w W) => (hm ▸ mayOp_any 4 xv xt xs xa xc xD xn xq lx W hxn (by omega) (hr.gr hW) : Calls Tryz.prog 70 #[(.agg #[.int .i64 4, .int .u64 xv, .int .u64 xt, .int .i64 xs, .int .i64 xa, .int .i64 xc, .slice xD xn xq])] W fun e w' => e = .returned (.bool true) ∧ Gr W w'))
 have HT := hd_ (fun W (hW : Gr w W) => there_yes D M W (h.blk.gr hW))
 haveI := h.blk
 have x0 : w.cell? ⟨D, 0, none⟩ = some (.map (some M)) := (bc 0 h.blk).trans rfl
 haveI : Old D w := h.blk.old
 have hlk := look_vol h xv _ hv
 have hlt := look_vol h xt _ ht
 simp only [volV, Option.isSome] at hlt
 simp only [volV, Option.isSome] at hlk
 clear hm hm0 hms hr h hv hxn ht
 obtain ⟨x1, xm⟩ := x
 simp only at b1 b2
 go_enter Tryz.func37, Tryz.ntmps37
 go_wp2_with (first | (go_at_call 19; ((with_reducible refine (HT.out _ gri).mono ?_); rintro _ _ ⟨rfl, g1, rfl⟩)) | (go_at_call 70; ((with_reducible refine (HMay.out _ gri).mono ?_); rintro _ _ ⟨rfl, g2, rfl⟩)))
 refine wp_region_tree (mixw_ghost _) [] (mixw_nil _) [0, 1, 2, 3, 4, 5, 6, 7, 8, 9] 3 (by kernel_rfl) (by kernel_rfl) ?_
 simp only [pick, List.drop, List.take, List.nil_append, List.cons_append]
 repeat (refine wpCalm_step (fun K hK => ?_); go_simp; first | (refine hK _ ?_; clear hK K) | (apply Exists.intro; refine ⟨fun _ => ?_, hK _ ?_⟩; (fail); clear hK K))
 refine wpCalm_nil ?_
 refine fe_mixAlloc 10 (by kernel_rfl) rfl rfl rfl Tryz.zeroValue64 fun b5_0 hb5_0 nb5_0 => ?_
 simp only [Act.put, stA, List.set]
 refine fe_mixStore 11 [(b5_0, #[.int .i64 x1, .map (some (mb xv))], 64)] #[.int .i64 x1, .map (some (mb xv))] (by kernel_rfl) rfl rfl rfl rfl mcs hb5_0 rfl rfl rfl rfl (fun z hz => .inl (by simpa using hz)) ?_
 simp only [Act.put, stA, List.set]
 refine fe_mixCalm 12 _ (by kernel_rfl) rfl rfl (fun g => calm_assign g rfl) ?_
 simp only [Act.put, stA, List.set]
 refine fe_end (by kernel_rfl) ?_
 intro w1 hw1
 have lb5_0 := fresh_le hb5_0 w.heap.size
 obtain ⟨cb5_0, fb5_0, ob5_0, qb5_0, rb5_0, g5, rfl⟩ := mixg hb5_0 hw1
 clear nb5_0
 go_wp2_with ((go_at_call 71; ((with_reducible refine (part_4 _ _ _ _ _ _ _ _ (by omega) _).mono ?_); rintro _ _ ⟨rfl, g3, rfl⟩)))
 refine wp_region_tree (mixw_ghost _) [] (mixw_nil _) [0, 1, 2, 3, 4, 5, 6, 7, 8, 9] 3 (by kernel_rfl) (by kernel_rfl) ?_
 simp only [pick, List.drop, List.take, List.nil_append, List.cons_append]
 repeat (refine wpCalm_step (fun K hK => ?_); go_simp; first | (refine hK _ ?_; clear hK K) | (apply Exists.intro; refine ⟨fun _ => ?_, hK _ ?_⟩; (fail); clear hK K))
 refine wpCalm_nil ?_
 refine fe_mixAlloc 10 (by kernel_rfl) rfl rfl rfl Tryz.zeroValue64 fun b15_0 hb15_0 nb15_0 => ?_
 simp only [Act.put, stA, List.set]
 refine fe_mixStore 11 [(b15_0, #[.int .i64 0, .map none], 64)] #[.int .i64 0, .map none] (by kernel_rfl) rfl rfl rfl rfl mcs hb15_0 rfl rfl rfl rfl (fun z hz => .inl (by simpa using hz)) ?_
 simp only [Act.put, stA, List.set]
 refine fe_mixCalm 12 _ (by kernel_rfl) rfl rfl (fun g => calm_assign g rfl) ?_
 simp only [Act.put, stA, List.set]
 refine fe_end (by kernel_rfl) ?_
 intro w1 hw1
 have lb15_0 := fresh_le hb15_0 w.heap.size
 obtain ⟨cb15_0, fb15_0, ob15_0, qb15_0, rb15_0, g15, rfl⟩ := mixg hb15_0 hw1
 clear nb15_0
 go_wp2
 go_ret
 exact ⟨rfl, gri⟩
theorem refused_4_to1 (xv xt xs xa xc : Int) (xD : Option Addr) (xn xq : Nat) (lx : Byt) (hxn : lx.length = xn) (base D : Nat) (d : Dev) (w : World) (h : DevAt base w D d) (hr : Row bv w xD lx) (hm : OpM.may ⟨4, xv, xt, xs, xa, xc, lx⟩ = true) (x : VolM) (hv : getK d xv = some x) (y : VolM) (ht : getK d xt = some y) :
  Calls Tryz.prog 37 #[.pointer (some ⟨D, 0, none⟩), (.agg #[.int .i64 4, .int .u64 xv, .int .u64 xt, .int .i64 xs, .int .i64 xa, .int .i64 xc, .slice xD xn xq])] w fun e w' => e = .returned (.int .i64 7) ∧ Gr w w' := by
 have hms := may_s hm
 have hm0 := hm
 obtain ⟨M, mb, h⟩ := h
 have hxo := h.ok.vols _ ((getK_mem h.ok.sort).1 hv)
 have b1 := hxo.s0
 have b2 := hxo.s1
 clear hxo
 rw [OpM.may] at hm
 simp only at hm
 rw [hxn] at hm
 have c9 : lx.length ≤ 2048 := may_len hm0
 rw [hxn] at c9
 have HMay := hd_ (fun W (hW : Gr w W) => (hm ▸ mayOp_any 4 xv xt xs xa xc xD xn xq lx W hxn (by omega) (hr.gr hW) : Calls Tryz.prog 70 #[(.agg #[.int .i64 4, .int .u64 xv, .int .u64 xt, .int .i64 xs, .int .i64 xa, .int .i64 xc, .slice xD xn xq])] W fun e w' => e = .returned (.bool true) ∧ Gr W w'))
 have HT := hd_ (fun W (hW : Gr w W) => there_yes D M W (h.blk.gr hW))
 haveI := h.blk
 have x0 : w.cell? ⟨D, 0, none⟩ = some (.map (some M)) := (bc 0 h.blk).trans rfl
 haveI : Old D w := h.blk.old
 have hlk := look_vol h xv _ hv
 have hlt := look_vol h xt _ ht
 simp only [volV, Option.isSome] at hlt
 simp only [volV, Option.isSome] at hlk
 clear hm hm0 hms hr h hv hxn ht
 obtain ⟨x1, xm⟩ := x
 simp only at b1 b2
 obtain ⟨y1, ym⟩ := y
 go_enter Tryz.func37, Tryz.ntmps37
 go_wp2_with (first | (go_at_call 19; ((with_reducible refine (HT.out _ gri).mono ?_); rintro _ _ ⟨rfl, g1, rfl⟩)) | (go_at_call 70; ((with_reducible refine (HMay.out _ gri).mono ?_); rintro _ _ ⟨rfl, g2, rfl⟩)))
 refine wp_region_tree (mixw_ghost _) [] (mixw_nil _) [0, 1, 2, 3, 4, 5, 6, 7, 8, 9] 3 (by kernel_rfl) (by kernel_rfl) ?_
 simp only [pick, List.drop, List.take, List.nil_append, List.cons_append]
 repeat (refine wpCalm_step (fun K hK => ?_); go_simp; first | (refine hK _ ?_; clear hK K) | (apply Exists.intro; refine ⟨fun _ => ?_, hK _ ?_⟩; (fail); clear hK K))
 refine wpCalm_nil ?_
 refine fe_mixAlloc 10 (by kernel_rfl) rfl rfl rfl Tryz.zeroValue64 fun b5_0 hb5_0 nb5_0 => ?_
 simp only [Act.put, stA, List.set]
 refine fe_mixStore 11 [(b5_0, #[.int .i64 x1, .map (some (mb xv))], 64)] #[.int .i64 x1, .map (some (mb xv))] (by kernel_rfl) rfl rfl rfl rfl mcs hb5_0 rfl rfl rfl rfl (fun z hz => .inl (by simpa using hz)) ?_
 simp only [Act.put, stA, List.set]
 refine fe_mixCalm 12 _ (by kernel_rfl) rfl rfl (fun g => calm_assign g rfl) ?_
 simp only [Act.put, stA, List.set]
 refine fe_end (by kernel_rfl) ?_
 intro w1 hw1
 have lb5_0 := fresh_le hb5_0 w.heap.size
 obtain ⟨cb5_0, fb5_0, ob5_0, qb5_0, rb5_0, g5, rfl⟩ := mixg hb5_0 hw1
 clear nb5_0
 go_wp2_with ((go_at_call 71; ((with_reducible refine (part_4 _ _ _ _ _ _ _ _ (by omega) _).mono ?_); rintro _ _ ⟨rfl, g3, rfl⟩)))
 refine wp_region_tree (mixw_ghost _) [] (mixw_nil _) [0, 1, 2, 3, 4, 5, 6, 7, 8, 9] 3 (by kernel_rfl) (by kernel_rfl) ?_
 simp only [pick, List.drop, List.take, List.nil_append, List.cons_append]
 repeat (refine wpCalm_step (fun K hK => ?_); go_simp; first | (refine hK _ ?_; clear hK K) | (apply Exists.intro; refine ⟨fun _ => ?_, hK _ ?_⟩; (fail); clear hK K))
 refine wpCalm_nil ?_
 refine fe_mixAlloc 10 (by kernel_rfl) rfl rfl rfl Tryz.zeroValue64 fun b15_0 hb15_0 nb15_0 => ?_
 simp only [Act.put, stA, List.set]
 refine fe_mixStore 11 [(b15_0, #[.int .i64 y1, .map (some (mb xt))], 64)] #[.int .i64 y1, .map (some (mb xt))] (by kernel_rfl) rfl rfl rfl rfl mcs hb15_0 rfl rfl rfl rfl (fun z hz => .inl (by simpa using hz)) ?_
 simp only [Act.put, stA, List.set]
 refine fe_mixCalm 12 _ (by kernel_rfl) rfl rfl (fun g => calm_assign g rfl) ?_
 simp only [Act.put, stA, List.set]
 refine fe_end (by kernel_rfl) ?_
 intro w1 hw1
 have lb15_0 := fresh_le hb15_0 w.heap.size
 obtain ⟨cb15_0, fb15_0, ob15_0, qb15_0, rb15_0, g15, rfl⟩ := mixg hb15_0 hw1
 clear nb15_0
 go_wp2
 go_ret
 exact ⟨rfl, gri⟩
theorem refused_5_none (xv xt xs xa xc : Int) (xD : Option Addr) (xn xq : Nat) (lx : Byt) (hxn : lx.length = xn) (base D : Nat) (d : Dev) (w : World) (h : DevAt base w D d) (hr : Row bv w xD lx) (hm : OpM.may ⟨5, xv, xt, xs, xa, xc, lx⟩ = true) (hv : getK d xv = none)  :
  Calls Tryz.prog 37 #[.pointer (some ⟨D, 0, none⟩), (.agg #[.int .i64 5, .int .u64 xv, .int .u64 xt, .int .i64 xs, .int .i64 xa, .int .i64 xc, .slice xD xn xq])] w fun e w' => e = .returned (.int .i64 6) ∧ Gr w w' := by
 have hms := may_s hm
 have hm0 := hm
 obtain ⟨M, mb, h⟩ := h
 have c1 := hms.at_ (by simp)
 have c2 := hms.dat rfl
 simp only at c1 c2
 rw [OpM.may] at hm
 simp only at hm
 rw [hxn] at hm
 rw [hxn] at c2
 have HMay := hd_ (fun W (hW : Gr w W) => (hm ▸ mayOp_any 5 xv xt xs xa xc xD xn xq lx W hxn (by omega) (hr.gr hW) : Calls Tryz.prog 70 #[(.agg #[.int .i64 5, .int .u64 xv, .int .u64 xt, .int .i64 xs, .int .i64 xa, .int .i64 xc, .slice xD xn xq])] W fun e w' => e = .returned (.bool true) ∧ Gr W w'))
 have HT := hd_ (fun W (hW : Gr w W) => there_yes D M W (h.blk.gr hW))
 haveI := h.blk
 have x0 : w.cell? ⟨D, 0, none⟩ = some (.map (some M)) := (bc 0 h.blk).trans rfl
 haveI : Old D w := h.blk.old
 have hlk := look_vol h xv _ hv
 simp only [volV, Option.isSome] at hlk
 clear hm hm0 hms hr h hv hxn
 go_enter Tryz.func37, Tryz.ntmps37
 go_wp2_with (first | (go_at_call 19; ((with_reducible refine (HT.out _ gri).mono ?_); rintro _ _ ⟨rfl, g1, rfl⟩)) | (go_at_call 70; ((with_reducible refine (HMay.out _ gri).mono ?_); rintro _ _ ⟨rfl, g2, rfl⟩)))
 refine wp_region_tree (mixw_ghost _) [] (mixw_nil _) [0, 1, 2, 3, 4, 5, 6, 7, 8, 9] 3 (by kernel_rfl) (by kernel_rfl) ?_
 simp only [pick, List.drop, List.take, List.nil_append, List.cons_append]
 repeat (refine wpCalm_step (fun K hK => ?_); go_simp; first | (refine hK _ ?_; clear hK K) | (apply Exists.intro; refine ⟨fun _ => ?_, hK _ ?_⟩; (fail); clear hK K))
 refine wpCalm_nil ?_
 refine fe_mixAlloc 10 (by kernel_rfl) rfl rfl rfl Tryz.zeroValue64 fun b5_0 hb5_0 nb5_0 => ?_
 simp only [Act.put, stA, List.set]
 refine fe_mixStore 11 [(b5_0, #[.int .i64 0, .map none], 64)] #[.int .i64 0, .map none] (by kernel_rfl) rfl rfl rfl rfl mcs hb5_0 rfl rfl rfl rfl (fun z hz => .inl (by simpa using hz)) ?_
 simp only [Act.put, stA, List.set]
 refine fe_mixCalm 12 _ (by kernel_rfl) rfl rfl (fun g => calm_assign g rfl) ?_
 simp only [Act.put, stA, List.set]
 refine fe_end (by kernel_rfl) ?_
 intro w1 hw1
 have lb5_0 := fresh_le hb5_0 w.heap.size
 obtain ⟨cb5_0, fb5_0, ob5_0, qb5_0, rb5_0, g5, rfl⟩ := mixg hb5_0 hw1
 clear nb5_0
 go_wp2_with ((go_at_call 71; ((with_reducible refine (part_5 _ _ _ _ _ _ _ _ (by omega) _).mono ?_); rintro _ _ ⟨rfl, g3, rfl⟩)))
 go_ret
 exact ⟨rfl, gri⟩
theorem refused_5_fit (xv xt xs xa xc : Int) (xD : Option Addr) (xn xq : Nat) (lx : Byt) (hxn : lx.length = xn) (base D : Nat) (d : Dev) (w : World) (h : DevAt base w D d) (hr : Row bv w xD lx) (hm : OpM.may ⟨5, xv, xt, xs, xa, xc, lx⟩ = true) (x : VolM) (hv : getK d xv = some x) (hf : ¬ 4 * x.1 < xa + (xn : Int) / 64) :
  Calls Tryz.prog 37 #[.pointer (some ⟨D, 0, none⟩), (.agg #[.int .i64 5, .int .u64 xv, .int .u64 xt, .int .i64 xs, .int .i64 xa, .int .i64 xc, .slice xD xn xq])] w fun e w' => e = .returned (.int .i64 0) ∧ Gr w w' := by
 have hms := may_s hm
 have hm0 := hm
 obtain ⟨M, mb, h⟩ := h
 have hxo := h.ok.vols _ ((getK_mem h.ok.sort).1 hv)
 have b1 := hxo.s0
 have b2 := hxo.s1
 clear hxo
 have c1 := hms.at_ (by simp)
 have c2 := hms.dat rfl
 simp only at c1 c2
 rw [OpM.may] at hm
 simp only at hm
 rw [hxn] at hm
 rw [hxn] at c2
 have HMay := hd_ (fun W (hW : Gr w W) => (hm ▸ mayOp_any 5 xv xt xs xa xc xD xn xq lx W hxn (by omega) (hr.gr hW) : Calls Tryz.prog 70 #[(.agg #[.int .i64 5, .int .u64 xv, .int .u64 xt, .int .i64 xs, .int .i64 xa, .int .i64 xc, .slice xD xn xq])] W fun e w' => e = .returned (.bool true) ∧ Gr W w'))
 have HT := hd_ (fun W (hW : Gr w W) => there_yes D M W (h.blk.gr hW))
 haveI := h.blk
 have x0 : w.cell? ⟨D, 0, none⟩ = some (.map (some M)) := (bc 0 h.blk).trans rfl
 haveI : Old D w := h.blk.old
 have hlk := look_vol h xv _ hv
 simp only [volV, Option.isSome] at hlk
 clear hm hm0 hms hr h hv hxn
 obtain ⟨x1, xm⟩ := x
 simp only at b1 b2 hf
 go_enter Tryz.func37, Tryz.ntmps37
 go_wp2_with (first | (go_at_call 19; ((with_reducible refine (HT.out _ gri).mono ?_); rintro _ _ ⟨rfl, g1, rfl⟩)) | (go_at_call 70; ((with_reducible refine (HMay.out _ gri).mono ?_); rintro _ _ ⟨rfl, g2, rfl⟩)))
 refine wp_region_tree (mixw_ghost _) [] (mixw_nil _) [0, 1, 2, 3, 4, 5, 6, 7, 8, 9] 3 (by kernel_rfl) (by kernel_rfl) ?_
 simp only [pick, List.drop, List.take, List.nil_append, List.cons_append]
 repeat (refine wpCalm_step (fun K hK => ?_); go_simp; first | (refine hK _ ?_; clear hK K) | (apply Exists.intro; refine ⟨fun _ => ?_, hK _ ?_⟩; (fail); clear hK K))
 refine wpCalm_nil ?_
 refine fe_mixAlloc 10 (by kernel_rfl) rfl rfl rfl Tryz.zeroValue64 fun b5_0 hb5_0 nb5_0 => ?_
 simp only [Act.put, stA, List.set]
 refine fe_mixStore 11 [(b5_0, #[.int .i64 x1, .map (some (mb xv))], 64)] #[.int .i64 x1, .map (some (mb xv))] (by kernel_rfl) rfl rfl rfl rfl mcs hb5_0 rfl rfl rfl rfl (fun z hz => .inl (by simpa using hz)) ?_
 simp only [Act.put, stA, List.set]
 refine fe_mixCalm 12 _ (by kernel_rfl) rfl rfl (fun g => calm_assign g rfl) ?_
 simp only [Act.put, stA, List.set]
 refine fe_end (by kernel_rfl) ?_
 intro w1 hw1
 have lb5_0 := fresh_le hb5_0 w.heap.size
 obtain ⟨cb5_0, fb5_0, ob5_0, qb5_0, rb5_0, g5, rfl⟩ := mixg hb5_0 hw1
 clear nb5_0
 go_wp2_with ((go_at_call 71; ((with_reducible refine (part_5 _ _ _ _ _ _ _ _ (by omega) _).mono ?_); rintro _ _ ⟨rfl, g3, rfl⟩)))
 go_ret
 exact ⟨rfl, gri⟩
theorem refused_5_over (xv xt xs xa xc : Int) (xD : Option Addr) (xn xq : Nat) (lx : Byt) (hxn : lx.length = xn) (base D : Nat) (d : Dev) (w : World) (h : DevAt base w D d) (hr : Row bv w xD lx) (hm : OpM.may ⟨5, xv, xt, xs, xa, xc, lx⟩ = true) (x : VolM) (hv : getK d xv = some x) (hf : 4 * x.1 < xa + (xn : Int) / 64) :
  Calls Tryz.prog 37 #[.pointer (some ⟨D, 0, none⟩), (.agg #[.int .i64 5, .int .u64 xv, .int .u64 xt, .int .i64 xs, .int .i64 xa, .int .i64 xc, .slice xD xn xq])] w fun e w' => e = .returned (.int .i64 5) ∧ Gr w w' := by
 have hms := may_s hm
 have hm0 := hm
 obtain ⟨M, mb, h⟩ := h
 have hxo := h.ok.vols _ ((getK_mem h.ok.sort).1 hv)
 have b1 := hxo.s0
 have b2 := hxo.s1
 clear hxo
 have c1 := hms.at_ (by simp)
 have c2 := hms.dat rfl
 simp only at c1 c2
 rw [OpM.may] at hm
 simp only at hm
 rw [hxn] at hm
 rw [hxn] at c2
 have HMay := hd_ (fun W (hW : Gr w W) => (hm ▸ mayOp_any 5 xv xt xs xa xc xD xn xq lx W hxn (by omega) (hr.gr hW) : Calls Tryz.prog 70 #[(.agg #[.int .i64 5, .int .u64 xv, .int .u64 xt, .int .i64 xs, .int .i64 xa, .int .i64 xc, .slice xD xn xq])] W fun e w' => e = .returned (.bool true) ∧ Gr W w'))
 have HT := hd_ (fun W (hW : Gr w W) => there_yes D M W (h.blk.gr hW))
 haveI := h.blk
 have x0 : w.cell? ⟨D, 0, none⟩ = some (.map (some M)) := (bc 0 h.blk).trans rfl
 haveI : Old D w := h.blk.old
 have hlk := look_vol h xv _ hv
 simp only [volV, Option.isSome] at hlk
 clear hm hm0 hms hr h hv hxn
 obtain ⟨x1, xm⟩ := x
 simp only at b1 b2 hf
 go_enter Tryz.func37, Tryz.ntmps37
 go_wp2_with (first | (go_at_call 19; ((with_reducible refine (HT.out _ gri).mono ?_); rintro _ _ ⟨rfl, g1, rfl⟩)) | (go_at_call 70; ((with_reducible refine (HMay.out _ gri).mono ?_); rintro _ _ ⟨rfl, g2, rfl⟩)))
 refine wp_region_tree (mixw_ghost _) [] (mixw_nil _) [0, 1, 2, 3, 4, 5, 6, 7, 8, 9] 3 (by kernel_rfl) (by kernel_rfl) ?_
 simp only [pick, List.drop, List.take, List.nil_append, List.cons_append]
 repeat (refine wpCalm_step (fun K hK => ?_); go_simp; first | (refine hK _ ?_; clear hK K) | (apply Exists.intro; refine ⟨fun _ => ?_, hK _ ?_⟩; (fail); clear hK K))
 refine wpCalm_nil ?_
 refine fe_mixAlloc 10 (by kernel_rfl) rfl rfl rfl Tryz.zeroValue64 fun b5_0 hb5_0 nb5_0 => ?_
 simp only [Act.put, stA, List.set]
 refine fe_mixStore 11 [(b5_0, #[.int .i64 x1, .map (some (mb xv))], 64)] #[.int .i64 x1, .map (some (mb xv))] (by kernel_rfl) rfl rfl rfl rfl mcs hb5_0 rfl rfl rfl rfl (fun z hz => .inl (by simpa using hz)) ?_
 simp only [Act.put, stA, List.set]
 refine fe_mixCalm 12 _ (by kernel_rfl) rfl rfl (fun g => calm_assign g rfl) ?_
 simp only [Act.put, stA, List.set]
 refine fe_end (by kernel_rfl) ?_
 intro w1 hw1
 have lb5_0 := fresh_le hb5_0 w.heap.size
 obtain ⟨cb5_0, fb5_0, ob5_0, qb5_0, rb5_0, g5, rfl⟩ := mixg hb5_0 hw1
 clear nb5_0
 go_wp2_with ((go_at_call 71; ((with_reducible refine (part_5 _ _ _ _ _ _ _ _ (by omega) _).mono ?_); rintro _ _ ⟨rfl, g3, rfl⟩)))
 go_ret
 exact ⟨rfl, gri⟩
theorem refused_6_none (xv xt xs xa xc : Int) (xD : Option Addr) (xn xq : Nat) (lx : Byt) (hxn : lx.length = xn) (base D : Nat) (d : Dev) (w : World) (h : DevAt base w D d) (hr : Row bv w xD lx) (hm : OpM.may ⟨6, xv, xt, xs, xa, xc, lx⟩ = true) (hv : getK d xv = none)  :
  Calls Tryz.prog 37 #[.pointer (some ⟨D, 0, none⟩), (.agg #[.int .i64 6, .int .u64 xv, .int .u64 xt, .int .i64 xs, .int .i64 xa, .int .i64 xc, .slice xD xn xq])] w fun e w' => e = .returned (.int .i64 6) ∧ Gr w w' := by
 have hms := may_s hm
 have hm0 := hm
 obtain ⟨M, mb, h⟩ := h
 have c1 := hms.at_ (by simp)
 have c2 := hms.cnt (by simp)
 simp only at c1 c2
 rw [OpM.may] at hm
 simp only at hm
 rw [hxn] at hm
 have c9 : lx.length ≤ 2048 := may_len hm0
 rw [hxn] at c9
 have HMay := hd_ (fun W (hW : Gr w W) => (hm ▸ mayOp_any 6 xv xt xs xa xc xD xn xq lx W hxn (by omega) (hr.gr hW) : Calls Tryz.prog 70 #[(.agg #[.int .i64 6, .int .u64 xv, .int .u64 xt, .int .i64 xs, .int .i64 xa, .int .i64 xc, .slice xD xn xq])] W fun e w' => e = .returned (.bool true) ∧ Gr W w'))
 have HT := hd_ (fun W (hW : Gr w W) => there_yes D M W (h.blk.gr hW))
 haveI := h.blk
 have x0 : w.cell? ⟨D, 0, none⟩ = some (.map (some M)) := (bc 0 h.blk).trans rfl
 haveI : Old D w := h.blk.old
 have hlk := look_vol h xv _ hv
 simp only [volV, Option.isSome] at hlk
 clear hm hm0 hms hr h hv hxn
 go_enter Tryz.func37, Tryz.ntmps37
 go_wp2_with (first | (go_at_call 19; ((with_reducible refine (HT.out _ gri).mono ?_); rintro _ _ ⟨rfl, g1, rfl⟩)) | (go_at_call 70; ((with_reducible refine (HMay.out _ gri).mono ?_); rintro _ _ ⟨rfl, g2, rfl⟩)))
 refine wp_region_tree (mixw_ghost _) [] (mixw_nil _) [0, 1, 2, 3, 4, 5, 6, 7, 8, 9] 3 (by kernel_rfl) (by kernel_rfl) ?_
 simp only [pick, List.drop, List.take, List.nil_append, List.cons_append]
 repeat (refine wpCalm_step (fun K hK => ?_); go_simp; first | (refine hK _ ?_; clear hK K) | (apply Exists.intro; refine ⟨fun _ => ?_, hK _ ?_⟩; (fail); clear hK K))
 refine wpCalm_nil ?_
 refine fe_mixAlloc 10 (by kernel_rfl) rfl rfl rfl Tryz.zeroValue64 fun b5_0 hb5_0 nb5_0 => ?_
 simp only [Act.put, stA, List.set]
 refine fe_mixStore 11 [(b5_0, #[.int .i64 0, .map none], 64)] #[.int .i64 0, .map none] (by kernel_rfl) rfl rfl rfl rfl mcs hb5_0 rfl rfl rfl rfl (fun z hz => .inl (by simpa using hz)) ?_
 simp only [Act.put, stA, List.set]
 refine fe_mixCalm 12 _ (by kernel_rfl) rfl rfl (fun g => calm_assign g rfl) ?_
 simp only [Act.put, stA, List.set]
 refine fe_end (by kernel_rfl) ?_
 intro w1 hw1
 have lb5_0 := fresh_le hb5_0 w.heap.size
 obtain ⟨cb5_0, fb5_0, ob5_0, qb5_0, rb5_0, g5, rfl⟩ := mixg hb5_0 hw1
 clear nb5_0
 go_wp2_with ((go_at_call 71; ((with_reducible refine (part_6 _ _ _ _ _ _ _ _ (by omega) _).mono ?_); rintro _ _ ⟨rfl, g3, rfl⟩)))
 go_ret
 exact ⟨rfl, gri⟩
theorem refused_6_fit (xv xt xs xa xc : Int) (xD : Option Addr) (xn xq : Nat) (lx : Byt) (hxn : lx.length = xn) (base D : Nat) (d : Dev) (w : World) (h : DevAt base w D d) (hr : Row bv w xD lx) (hm : OpM.may ⟨6, xv, xt, xs, xa, xc, lx⟩ = true) (x : VolM) (hv : getK d xv = some x) (hf : ¬ 4 * x.1 < xa + xc) :
  Calls Tryz.prog 37 #[.pointer (some ⟨D, 0, none⟩), (.agg #[.int .i64 6, .int .u64 xv, .int .u64 xt, .int .i64 xs, .int .i64 xa, .int .i64 xc, .slice xD xn xq])] w fun e w' => e = .returned (.int .i64 0) ∧ Gr w w' := by
 have hms := may_s hm
 have hm0 := hm
 obtain ⟨M, mb, h⟩ := h
 have hxo := h.ok.vols _ ((getK_mem h.ok.sort).1 hv)
 have b1 := hxo.s0
 have b2 := hxo.s1
 clear hxo
 have c1 := hms.at_ (by simp)
 have c2 := hms.cnt (by simp)
 simp only at c1 c2
 rw [OpM.may] at hm
 simp only at hm
 rw [hxn] at hm
 have c9 : lx.length ≤ 2048 := may_len hm0
 rw [hxn] at c9
 have HMay := hd_ (fun W (hW : Gr w W) => (hm ▸ mayOp_any 6 xv xt xs xa xc xD xn xq lx W hxn (by omega) (hr.gr hW) : Calls Tryz.prog 70 #[(.agg #[.int .i64 6, .int .u64 xv, .int .u64 xt, .int .i64 xs, .int .i64 xa, .int .i64 xc, .slice xD xn xq])] W fun e w' => e = .returned (.bool true) ∧ Gr W w'))
 have HT := hd_ (fun W (hW : Gr w W) => there_yes D M W (h.blk.gr hW))
 haveI := h.blk
 have x0 : w.cell? ⟨D, 0, none⟩ = some (.map (some M)) := (bc 0 h.blk).trans rfl
 haveI : Old D w := h.blk.old
 have hlk := look_vol h xv _ hv
 simp only [volV, Option.isSome] at hlk
 clear hm hm0 hms hr h hv hxn
 obtain ⟨x1, xm⟩ := x
 simp only at b1 b2 hf
 go_enter Tryz.func37, Tryz.ntmps37
 go_wp2_with (first | (go_at_call 19; ((with_reducible refine (HT.out _ gri).mono ?_); rintro _ _ ⟨rfl, g1, rfl⟩)) | (go_at_call 70; ((with_reducible refine (HMay.out _ gri).mono ?_); rintro _ _ ⟨rfl, g2, rfl⟩)))
 refine wp_region_tree (mixw_ghost _) [] (mixw_nil _) [0, 1, 2, 3, 4, 5, 6, 7, 8, 9] 3 (by kernel_rfl) (by kernel_rfl) ?_
 simp only [pick, List.drop, List.take, List.nil_append, List.cons_append]
 repeat (refine wpCalm_step (fun K hK => ?_); go_simp; first | (refine hK _ ?_; clear hK K) | (apply Exists.intro; refine ⟨fun _ => ?_, hK _ ?_⟩; (fail); clear hK K))
 refine wpCalm_nil ?_
 refine fe_mixAlloc 10 (by kernel_rfl) rfl rfl rfl Tryz.zeroValue64 fun b5_0 hb5_0 nb5_0 => ?_
 simp only [Act.put, stA, List.set]
 refine fe_mixStore 11 [(b5_0, #[.int .i64 x1, .map (some (mb xv))], 64)] #[.int .i64 x1, .map (some (mb xv))] (by kernel_rfl) rfl rfl rfl rfl mcs hb5_0 rfl rfl rfl rfl (fun z hz => .inl (by simpa using hz)) ?_
 simp only [Act.put, stA, List.set]
 refine fe_mixCalm 12 _ (by kernel_rfl) rfl rfl (fun g => calm_assign g rfl) ?_
 simp only [Act.put, stA, List.set]
 refine fe_end (by kernel_rfl) ?_
 intro w1 hw1
 have lb5_0 := fresh_le hb5_0 w.heap.size
 obtain ⟨cb5_0, fb5_0, ob5_0, qb5_0, rb5_0, g5, rfl⟩ := mixg hb5_0 hw1
 clear nb5_0
 go_wp2_with ((go_at_call 71; ((with_reducible refine (part_6 _ _ _ _ _ _ _ _ (by omega) _).mono ?_); rintro _ _ ⟨rfl, g3, rfl⟩)))
 go_ret
 exact ⟨rfl, gri⟩
theorem refused_6_over (xv xt xs xa xc : Int) (xD : Option Addr) (xn xq : Nat) (lx : Byt) (hxn : lx.length = xn) (base D : Nat) (d : Dev) (w : World) (h : DevAt base w D d) (hr : Row bv w xD lx) (hm : OpM.may ⟨6, xv, xt, xs, xa, xc, lx⟩ = true) (x : VolM) (hv : getK d xv = some x) (hf : 4 * x.1 < xa + xc) :
  Calls Tryz.prog 37 #[.pointer (some ⟨D, 0, none⟩), (.agg #[.int .i64 6, .int .u64 xv, .int .u64 xt, .int .i64 xs, .int .i64 xa, .int .i64 xc, .slice xD xn xq])] w fun e w' => e = .returned (.int .i64 5) ∧ Gr w w' := by
 have hms := may_s hm
 have hm0 := hm
 obtain ⟨M, mb, h⟩ := h
 have hxo := h.ok.vols _ ((getK_mem h.ok.sort).1 hv)
 have b1 := hxo.s0
 have b2 := hxo.s1
 clear hxo
 have c1 := hms.at_ (by simp)
 have c2 := hms.cnt (by simp)
 simp only at c1 c2
 rw [OpM.may] at hm
 simp only at hm
 rw [hxn] at hm
 have c9 : lx.length ≤ 2048 := may_len hm0
 rw [hxn] at c9
 have HMay := hd_ (fun W (hW : Gr w W) => (hm ▸ mayOp_any 6 xv xt xs xa xc xD xn xq lx W hxn (by omega) (hr.gr hW) : Calls Tryz.prog 70 #[(.agg #[.int .i64 6, .int .u64 xv, .int .u64 xt, .int .i64 xs, .int .i64 xa, .int .i64 xc, .slice xD xn xq])] W fun e w' => e = .returned (.bool true) ∧ Gr W w'))
 have HT := hd_ (fun W (hW : Gr w W) => there_yes D M W (h.blk.gr hW))
 haveI := h.blk
 have x0 : w.cell? ⟨D, 0, none⟩ = some (.map (some M)) := (bc 0 h.blk).trans rfl
 haveI : Old D w := h.blk.old
 have hlk := look_vol h xv _ hv
 simp only [volV, Option.isSome] at hlk
 clear hm hm0 hms hr h hv hxn
 obtain ⟨x1, xm⟩ := x
 simp only at b1 b2 hf
 go_enter Tryz.func37, Tryz.ntmps37
 go_wp2_with (first | (go_at_call 19; ((with_reducible refine (HT.out _ gri).mono ?_); rintro _ _ ⟨rfl, g1, rfl⟩)) | (go_at_call 70; ((with_reducible refine (HMay.out _ gri).mono ?_); rintro _ _ ⟨rfl, g2, rfl⟩)))
 refine wp_region_tree (mixw_ghost _) [] (mixw_nil _) [0, 1, 2, 3, 4, 5, 6, 7, 8, 9] 3 (by kernel_rfl) (by kernel_rfl) ?_
 simp only [pick, List.drop, List.take, List.nil_append, List.cons_append]
 repeat (refine wpCalm_step (fun K hK => ?_); go_simp; first | (refine hK _ ?_; clear hK K) | (apply Exists.intro; refine ⟨fun _ => ?_, hK _ ?_⟩; (fail); clear hK K))
 refine wpCalm_nil ?_
 refine fe_mixAlloc 10 (by kernel_rfl) rfl rfl rfl Tryz.zeroValue64 fun b5_0 hb5_0 nb5_0 => ?_
 simp only [Act.put, stA, List.set]
 refine fe_mixStore 11 [(b5_0, #[.int .i64 x1, .map (some (mb xv))], 64)] #[.int .i64 x1, .map (some (mb xv))] (by kernel_rfl) rfl rfl rfl rfl mcs hb5_0 rfl rfl rfl rfl (fun z hz => .inl (by simpa using hz)) ?_
 simp only [Act.put, stA, List.set]
 refine fe_mixCalm 12 _ (by kernel_rfl) rfl rfl (fun g => calm_assign g rfl) ?_
 simp only [Act.put, stA, List.set]
 refine fe_end (by kernel_rfl) ?_
 intro w1 hw1
 have lb5_0 := fresh_le hb5_0 w.heap.size
 obtain ⟨cb5_0, fb5_0, ob5_0, qb5_0, rb5_0, g5, rfl⟩ := mixg hb5_0 hw1
 clear nb5_0
 go_wp2_with ((go_at_call 71; ((with_reducible refine (part_6 _ _ _ _ _ _ _ _ (by omega) _).mono ?_); rintro _ _ ⟨rfl, g3, rfl⟩)))
 go_ret
 exact ⟨rfl, gri⟩
theorem refused_7_none (xv xt xs xa xc : Int) (xD : Option Addr) (xn xq : Nat) (lx : Byt) (hxn : lx.length = xn) (base D : Nat) (d : Dev) (w : World) (h : DevAt base w D d) (hr : Row bv w xD lx) (hm : OpM.may ⟨7, xv, xt, xs, xa, xc, lx⟩ = true) (hv : getK d xv = none)  :
  Calls Tryz.prog 37 #[.pointer (some ⟨D, 0, none⟩), (.agg #[.int .i64 7, .int .u64 xv, .int .u64 xt, .int .i64 xs, .int .i64 xa, .int .i64 xc, .slice xD xn xq])] w fun e w' => e = .returned (.int .i64 6) ∧ Gr w w' := by
 have hms := may_s hm
 have hm0 := hm
 obtain ⟨M, mb, h⟩ := h
 have c1 := hms.at_ (by simp)
 have c2 := hms.cnt (by simp)
 simp only at c1 c2
 rw [OpM.may] at hm
 simp only at hm
 rw [hxn] at hm
 have c9 : lx.length ≤ 2048 := may_len hm0
 rw [hxn] at c9
 have HMay := hd_ (fun W (hW : Gr w W) => (hm ▸ mayOp_any 7 xv xt xs xa xc xD xn xq lx W hxn (by omega) (hr.gr hW) : Calls Tryz.prog 70 #[(.agg #[.int .i64 7, .int .u64 xv, .int .u64 xt, .int .i64 xs, .int .i64 xa, .int .i64 xc, .slice xD xn xq])] W fun e w' => e = .returned (.bool true) ∧ Gr W w'))
 have HT := hd_ (fun W (hW : Gr w W) => there_yes D M W (h.blk.gr hW))
 haveI := h.blk
 have x0 : w.cell? ⟨D, 0, none⟩ = some (.map (some M)) := (bc 0 h.blk).trans rfl
 haveI : Old D w := h.blk.old
 have hlk := look_vol h xv _ hv
 simp only [volV, Option.isSome] at hlk
 clear hm hm0 hms hr h hv hxn
 go_enter Tryz.func37, Tryz.ntmps37
 go_wp2_with (first | (go_at_call 19; ((with_reducible refine (HT.out _ gri).mono ?_); rintro _ _ ⟨rfl, g1, rfl⟩)) | (go_at_call 70; ((with_reducible refine (HMay.out _ gri).mono ?_); rintro _ _ ⟨rfl, g2, rfl⟩)))
 refine wp_region_tree (mixw_ghost _) [] (mixw_nil _) [0, 1, 2, 3, 4, 5, 6, 7, 8, 9] 3 (by kernel_rfl) (by kernel_rfl) ?_
 simp only [pick, List.drop, List.take, List.nil_append, List.cons_append]
 repeat (refine wpCalm_step (fun K hK => ?_); go_simp; first | (refine hK _ ?_; clear hK K) | (apply Exists.intro; refine ⟨fun _ => ?_, hK _ ?_⟩; (fail); clear hK K))
 refine wpCalm_nil ?_
 refine fe_mixAlloc 10 (by kernel_rfl) rfl rfl rfl Tryz.zeroValue64 fun b5_0 hb5_0 nb5_0 => ?_
 simp only [Act.put, stA, List.set]
 refine fe_mixStore 11 [(b5_0, #[.int .i64 0, .map none], 64)] #[.int .i64 0, .map none] (by kernel_rfl) rfl rfl rfl rfl mcs hb5_0 rfl rfl rfl rfl (fun z hz => .inl (by simpa using hz)) ?_
 simp only [Act.put, stA, List.set]
 refine fe_mixCalm 12 _ (by kernel_rfl) rfl rfl (fun g => calm_assign g rfl) ?_
 simp only [Act.put, stA, List.set]
 refine fe_end (by kernel_rfl) ?_
 intro w1 hw1
 have lb5_0 := fresh_le hb5_0 w.heap.size
 obtain ⟨cb5_0, fb5_0, ob5_0, qb5_0, rb5_0, g5, rfl⟩ := mixg hb5_0 hw1
 clear nb5_0
 go_wp2_with ((go_at_call 71; ((with_reducible refine (part_7 _ _ _ _ _ _ _ _ (by omega) _).mono ?_); rintro _ _ ⟨rfl, g3, rfl⟩)))
 go_ret
 exact ⟨rfl, gri⟩
theorem refused_7_fit (xv xt xs xa xc : Int) (xD : Option Addr) (xn xq : Nat) (lx : Byt) (hxn : lx.length = xn) (base D : Nat) (d : Dev) (w : World) (h : DevAt base w D d) (hr : Row bv w xD lx) (hm : OpM.may ⟨7, xv, xt, xs, xa, xc, lx⟩ = true) (x : VolM) (hv : getK d xv = some x) (hf : ¬ x.1 < xa + xc) :
  Calls Tryz.prog 37 #[.pointer (some ⟨D, 0, none⟩), (.agg #[.int .i64 7, .int .u64 xv, .int .u64 xt, .int .i64 xs, .int .i64 xa, .int .i64 xc, .slice xD xn xq])] w fun e w' => e = .returned (.int .i64 0) ∧ Gr w w' := by
 have hms := may_s hm
 have hm0 := hm
 obtain ⟨M, mb, h⟩ := h
 have hxo := h.ok.vols _ ((getK_mem h.ok.sort).1 hv)
 have b1 := hxo.s0
 have b2 := hxo.s1
 clear hxo
 have c1 := hms.at_ (by simp)
 have c2 := hms.cnt (by simp)
 simp only at c1 c2
 rw [OpM.may] at hm
 simp only at hm
 rw [hxn] at hm
 have c9 : lx.length ≤ 2048 := may_len hm0
 rw [hxn] at c9
 have HMay := hd_ (fun W (hW : Gr w W) => (hm ▸ mayOp_any 7 xv xt xs xa xc xD xn xq lx W hxn (by omega) (hr.gr hW) : Calls Tryz.prog 70 #[(.agg #[.int .i64 7, .int .u64 xv, .int .u64 xt, .int .i64 xs, .int .i64 xa, .int .i64 xc, .slice xD xn xq])] W fun e w' => e = .returned (.bool true) ∧ Gr W w'))
 have HT := hd_ (fun W (hW : Gr w W) => there_yes D M W (h.blk.gr hW))
 haveI := h.blk
 have x0 : w.cell? ⟨D, 0, none⟩ = some (.map (some M)) := (bc 0 h.blk).trans rfl
 haveI : Old D w := h.blk.old
 have hlk := look_vol h xv _ hv
 simp only [volV, Option.isSome] at hlk
 clear hm hm0 hms hr h hv hxn
 obtain ⟨x1, xm⟩ := x
 simp only at b1 b2 hf
 go_enter Tryz.func37, Tryz.ntmps37
 go_wp2_with (first | (go_at_call 19; ((with_reducible refine (HT.out _ gri).mono ?_); rintro _ _ ⟨rfl, g1, rfl⟩)) | (go_at_call 70; ((with_reducible refine (HMay.out _ gri).mono ?_); rintro _ _ ⟨rfl, g2, rfl⟩)))
 refine wp_region_tree (mixw_ghost _) [] (mixw_nil _) [0, 1, 2, 3, 4, 5, 6, 7, 8, 9] 3 (by kernel_rfl) (by kernel_rfl) ?_
 simp only [pick, List.drop, List.take, List.nil_append, List.cons_append]
 repeat (refine wpCalm_step (fun K hK => ?_); go_simp; first | (refine hK _ ?_; clear hK K) | (apply Exists.intro; refine ⟨fun _ => ?_, hK _ ?_⟩; (fail); clear hK K))
 refine wpCalm_nil ?_
 refine fe_mixAlloc 10 (by kernel_rfl) rfl rfl rfl Tryz.zeroValue64 fun b5_0 hb5_0 nb5_0 => ?_
 simp only [Act.put, stA, List.set]
 refine fe_mixStore 11 [(b5_0, #[.int .i64 x1, .map (some (mb xv))], 64)] #[.int .i64 x1, .map (some (mb xv))] (by kernel_rfl) rfl rfl rfl rfl mcs hb5_0 rfl rfl rfl rfl (fun z hz => .inl (by simpa using hz)) ?_
 simp only [Act.put, stA, List.set]
 refine fe_mixCalm 12 _ (by kernel_rfl) rfl rfl (fun g => calm_assign g rfl) ?_
 simp only [Act.put, stA, List.set]
 refine fe_end (by kernel_rfl) ?_
 intro w1 hw1
 have lb5_0 := fresh_le hb5_0 w.heap.size
 obtain ⟨cb5_0, fb5_0, ob5_0, qb5_0, rb5_0, g5, rfl⟩ := mixg hb5_0 hw1
 clear nb5_0
 go_wp2_with ((go_at_call 71; ((with_reducible refine (part_7 _ _ _ _ _ _ _ _ (by omega) _).mono ?_); rintro _ _ ⟨rfl, g3, rfl⟩)))
 go_ret
 exact ⟨rfl, gri⟩
theorem refused_7_over (xv xt xs xa xc : Int) (xD : Option Addr) (xn xq : Nat) (lx : Byt) (hxn : lx.length = xn) (base D : Nat) (d : Dev) (w : World) (h : DevAt base w D d) (hr : Row bv w xD lx) (hm : OpM.may ⟨7, xv, xt, xs, xa, xc, lx⟩ = true) (x : VolM) (hv : getK d xv = some x) (hf : x.1 < xa + xc) :
  Calls Tryz.prog 37 #[.pointer (some ⟨D, 0, none⟩), (.agg #[.int .i64 7, .int .u64 xv, .int .u64 xt, .int .i64 xs, .int .i64 xa, .int .i64 xc, .slice xD xn xq])] w fun e w' => e = .returned (.int .i64 5) ∧ Gr w w' := by
 have hms := may_s hm
 have hm0 := hm
 obtain ⟨M, mb, h⟩ := h
 have hxo := h.ok.vols _ ((getK_mem h.ok.sort).1 hv)
 have b1 := hxo.s0
 have b2 := hxo.s1
 clear hxo
 have c1 := hms.at_ (by simp)
 have c2 := hms.cnt (by simp)
 simp only at c1 c2
 rw [OpM.may] at hm
 simp only at hm
 rw [hxn] at hm
 have c9 : lx.length ≤ 2048 := may_len hm0
 rw [hxn] at c9
 have HMay := hd_ (fun W (hW : Gr w W) => (hm ▸ mayOp_any 7 xv xt xs xa xc xD xn xq lx W hxn (by omega) (hr.gr hW) : Calls Tryz.prog 70 #[(.agg #[.int .i64 7, .int .u64 xv, .int .u64 xt, .int .i64 xs, .int .i64 xa, .int .i64 xc, .slice xD xn xq])] W fun e w' => e = .returned (.bool true) ∧ Gr W w'))
 have HT := hd_ (fun W (hW : Gr w W) => there_yes D M W (h.blk.gr hW))
 haveI := h.blk
 have x0 : w.cell? ⟨D, 0, none⟩ = some (.map (some M)) := (bc 0 h.blk).trans rfl
 haveI : Old D w := h.blk.old
 have hlk := look_vol h xv _ hv
 simp only [volV, Option.isSome] at hlk
 clear hm hm0 hms hr h hv hxn
 obtain ⟨x1, xm⟩ := x
 simp only at b1 b2 hf
 go_enter Tryz.func37, Tryz.ntmps37
 go_wp2_with (first | (go_at_call 19; ((with_reducible refine (HT.out _ gri).mono ?_); rintro _ _ ⟨rfl, g1, rfl⟩)) | (go_at_call 70; ((with_reducible refine (HMay.out _ gri).mono ?_); rintro _ _ ⟨rfl, g2, rfl⟩)))
 refine wp_region_tree (mixw_ghost _) [] (mixw_nil _) [0, 1, 2, 3, 4, 5, 6, 7, 8, 9] 3 (by kernel_rfl) (by kernel_rfl) ?_
 simp only [pick, List.drop, List.take, List.nil_append, List.cons_append]
 repeat (refine wpCalm_step (fun K hK => ?_); go_simp; first | (refine hK _ ?_; clear hK K) | (apply Exists.intro; refine ⟨fun _ => ?_, hK _ ?_⟩; (fail); clear hK K))
 refine wpCalm_nil ?_
 refine fe_mixAlloc 10 (by kernel_rfl) rfl rfl rfl Tryz.zeroValue64 fun b5_0 hb5_0 nb5_0 => ?_
 simp only [Act.put, stA, List.set]
 refine fe_mixStore 11 [(b5_0, #[.int .i64 x1, .map (some (mb xv))], 64)] #[.int .i64 x1, .map (some (mb xv))] (by kernel_rfl) rfl rfl rfl rfl mcs hb5_0 rfl rfl rfl rfl (fun z hz => .inl (by simpa using hz)) ?_
 simp only [Act.put, stA, List.set]
 refine fe_mixCalm 12 _ (by kernel_rfl) rfl rfl (fun g => calm_assign g rfl) ?_
 simp only [Act.put, stA, List.set]
 refine fe_end (by kernel_rfl) ?_
 intro w1 hw1
 have lb5_0 := fresh_le hb5_0 w.heap.size
 obtain ⟨cb5_0, fb5_0, ob5_0, qb5_0, rb5_0, g5, rfl⟩ := mixg hb5_0 hw1
 clear nb5_0
 go_wp2_with ((go_at_call 71; ((with_reducible refine (part_7 _ _ _ _ _ _ _ _ (by omega) _).mono ?_); rintro _ _ ⟨rfl, g3, rfl⟩)))
 go_ret
 exact ⟨rfl, gri⟩
theorem refused_8_none (xv xt xs xa xc : Int) (xD : Option Addr) (xn xq : Nat) (lx : Byt) (hxn : lx.length = xn) (base D : Nat) (d : Dev) (w : World) (h : DevAt base w D d) (hr : Row bv w xD lx) (hm : OpM.may ⟨8, xv, xt, xs, xa, xc, lx⟩ = true) (hv : getK d xv = none)  :
  Calls Tryz.prog 37 #[.pointer (some ⟨D, 0, none⟩), (.agg #[.int .i64 8, .int .u64 xv, .int .u64 xt, .int .i64 xs, .int .i64 xa, .int .i64 xc, .slice xD xn xq])] w fun e w' => e = .returned (.int .i64 0) ∧ Gr w w' := by
 have hms := may_s hm
 have hm0 := hm
 obtain ⟨M, mb, h⟩ := h
 rw [OpM.may] at hm
 simp only at hm
 rw [hxn] at hm
 have c9 : lx.length ≤ 2048 := may_len hm0
 rw [hxn] at c9
 have HMay := hd_ (fun W (hW : Gr w W) => (hm ▸ mayOp_any 8 xv xt xs xa xc xD xn xq lx W hxn (by omega) (hr.gr hW) : Calls Tryz.prog 70 #[(.agg #[.int .i64 8, .int .u64 xv, .int .u64 xt, .int .i64 xs, .int .i64 xa, .int .i64 xc, .slice xD xn xq])] W fun e w' => e = .returned (.bool true) ∧ Gr W w'))
 have HT := hd_ (fun W (hW : Gr w W) => there_yes D M W (h.blk.gr hW))
 haveI := h.blk
 have x0 : w.cell? ⟨D, 0, none⟩ = some (.map (some M)) := (bc 0 h.blk).trans rfl
 haveI : Old D w := h.blk.old
 have hlk := look_vol h xv _ hv
 simp only [volV, Option.isSome] at hlk
 clear hm hm0 hms hr h hv hxn
 go_enter Tryz.func37, Tryz.ntmps37
 go_wp2_with (first | (go_at_call 19; ((with_reducible refine (HT.out _ gri).mono ?_); rintro _ _ ⟨rfl, g1, rfl⟩)) | (go_at_call 70; ((with_reducible refine (HMay.out _ gri).mono ?_); rintro _ _ ⟨rfl, g2, rfl⟩)))
 refine wp_region_tree (mixw_ghost _) [] (mixw_nil _) [0, 1, 2, 3, 4, 5, 6, 7, 8, 9] 3 (by kernel_rfl) (by kernel_rfl) ?_
 simp only [pick, List.drop, List.take, List.nil_append, List.cons_append]
 repeat (refine wpCalm_step (fun K hK => ?_); go_simp; first | (refine hK _ ?_; clear hK K) | (apply Exists.intro; refine ⟨fun _ => ?_, hK _ ?_⟩; (fail); clear hK K))
 refine wpCalm_nil ?_
 refine fe_mixAlloc 10 (by kernel_rfl) rfl rfl rfl Tryz.zeroValue64 fun b5_0 hb5_0 nb5_0 => ?_
 simp only [Act.put, stA, List.set]
 refine fe_mixStore 11 [(b5_0, #[.int .i64 0, .map none], 64)] #[.int .i64 0, .map none] (by kernel_rfl) rfl rfl rfl rfl mcs hb5_0 rfl rfl rfl rfl (fun z hz => .inl (by simpa using hz)) ?_
 simp only [Act.put, stA, List.set]
 refine fe_mixCalm 12 _ (by kernel_rfl) rfl rfl (fun g => calm_assign g rfl) ?_
 simp only [Act.put, stA, List.set]
 refine fe_end (by kernel_rfl) ?_
 intro w1 hw1
 have lb5_0 := fresh_le hb5_0 w.heap.size
 obtain ⟨cb5_0, fb5_0, ob5_0, qb5_0, rb5_0, g5, rfl⟩ := mixg hb5_0 hw1
 clear nb5_0
 go_wp2_with fail
 go_ret
 exact ⟨rfl, gri⟩
theorem refused_8_some (xv xt xs xa xc : Int) (xD : Option Addr) (xn xq : Nat) (lx : Byt) (hxn : lx.length = xn) (base D : Nat) (d : Dev) (w : World) (h : DevAt base w D d) (hr : Row bv w xD lx) (hm : OpM.may ⟨8, xv, xt, xs, xa, xc, lx⟩ = true) (x : VolM) (hv : getK d xv = some x)  :
  Calls Tryz.prog 37 #[.pointer (some ⟨D, 0, none⟩), (.agg #[.int .i64 8, .int .u64 xv, .int .u64 xt, .int .i64 xs, .int .i64 xa, .int .i64 xc, .slice xD xn xq])] w fun e w' => e = .returned (.int .i64 0) ∧ Gr w w' := by
 have hms := may_s hm
 have hm0 := hm
 obtain ⟨M, mb, h⟩ := h
 have hxo := h.ok.vols _ ((getK_mem h.ok.sort).1 hv)
 have b1 := hxo.s0
 have b2 := hxo.s1
 clear hxo
 rw [OpM.may] at hm
 simp only at hm
 rw [hxn] at hm
 have c9 : lx.length ≤ 2048 := may_len hm0
 rw [hxn] at c9
 have HMay := hd_ (fun W (hW : Gr w W) => (hm ▸ mayOp_any 8 xv xt xs xa xc xD xn xq lx W hxn (by omega) (hr.gr hW) : Calls Tryz.prog 70 #[(.agg #[.int .i64 8, .int .u64 xv, .int .u64 xt, .int .i64 xs, .int .i64 xa, .int .i64 xc, .slice xD xn xq])] W fun e w' => e = .returned (.bool true) ∧ Gr W w'))
 have HT := hd_ (fun W (hW : Gr w W) => there_yes D M W (h.blk.gr hW))
 haveI := h.blk
 have x0 : w.cell? ⟨D, 0, none⟩ = some (.map (some M)) := (bc 0 h.blk).trans rfl
 haveI : Old D w := h.blk.old
 have hlk := look_vol h xv _ hv
 simp only [volV, Option.isSome] at hlk
 clear hm hm0 hms hr h hv hxn
 obtain ⟨x1, xm⟩ := x
 simp only at b1 b2
 go_enter Tryz.func37, Tryz.ntmps37
 go_wp2_with (first | (go_at_call 19; ((with_reducible refine (HT.out _ gri).mono ?_); rintro _ _ ⟨rfl, g1, rfl⟩)) | (go_at_call 70; ((with_reducible refine (HMay.out _ gri).mono ?_); rintro _ _ ⟨rfl, g2, rfl⟩)))
 refine wp_region_tree (mixw_ghost _) [] (mixw_nil _) [0, 1, 2, 3, 4, 5, 6, 7, 8, 9] 3 (by kernel_rfl) (by kernel_rfl) ?_
 simp only [pick, List.drop, List.take, List.nil_append, List.cons_append]
 repeat (refine wpCalm_step (fun K hK => ?_); go_simp; first | (refine hK _ ?_; clear hK K) | (apply Exists.intro; refine ⟨fun _ => ?_, hK _ ?_⟩; (fail); clear hK K))
 refine wpCalm_nil ?_
 refine fe_mixAlloc 10 (by kernel_rfl) rfl rfl rfl Tryz.zeroValue64 fun b5_0 hb5_0 nb5_0 => ?_
 simp only [Act.put, stA, List.set]
 refine fe_mixStore 11 [(b5_0, #[.int .i64 x1, .map (some (mb xv))], 64)] #[.int .i64 x1, .map (some (mb xv))] (by kernel_rfl) rfl rfl rfl rfl mcs hb5_0 rfl rfl rfl rfl (fun z hz => .inl (by simpa using hz)) ?_
 simp only [Act.put, stA, List.set]
 refine fe_mixCalm 12 _ (by kernel_rfl) rfl rfl (fun g => calm_assign g rfl) ?_
 simp only [Act.put, stA, List.set]
 refine fe_end (by kernel_rfl) ?_
 intro w1 hw1
 have lb5_0 := fresh_le hb5_0 w.heap.size
 obtain ⟨cb5_0, fb5_0, ob5_0, qb5_0, rb5_0, g5, rfl⟩ := mixg hb5_0 hw1
 clear nb5_0
 go_wp2_with fail
 go_ret
 exact ⟨rfl, gri⟩
theorem refused_9_none (xv xt xs xa xc : Int) (xD : Option Addr) (xn xq : Nat) (lx : Byt) (hxn : lx.length = xn) (base D : Nat) (d : Dev) (w : World) (h : DevAt base w D d) (hr : Row bv w xD lx) (hm : OpM.may ⟨9, xv, xt, xs, xa, xc, lx⟩ = true) (hv : getK d xv = none)  :
  Calls Tryz.prog 37 #[.pointer (some ⟨D, 0, none⟩), (.agg #[.int .i64 9, .int .u64 xv, .int .u64 xt, .int .i64 xs, .int .i64 xa, .int .i64 xc, .slice xD xn xq])] w fun e w' => e = .returned (.int .i64 6) ∧ Gr w w' := by
 have hms := may_s hm
 have hm0 := hm
 obtain ⟨M, mb, h⟩ := h
 have c1 := hms.at_ (by simp)
 have c2 := hms.cnt (by simp)
 simp only at c1 c2
 rw [OpM.may] at hm
 simp only at hm
 rw [hxn] at hm
 have c9 : lx.length ≤ 2048 := may_len hm0
 rw [hxn] at c9
 have HMay := hd_ (fun W (hW : Gr w W) => (hm ▸ mayOp_any 9 xv xt xs xa xc xD xn xq lx W hxn (by omega) (hr.gr hW) : Calls Tryz.prog 70 #[(.agg #[.int .i64 9, .int .u64 xv, .int .u64 xt, .int .i64 xs, .int .i64 xa, .int .i64 xc, .slice xD xn xq])] W fun e w' => e = .returned (.bool true) ∧ Gr W w'))
 have HT := hd_ (fun W (hW : Gr w W) => there_yes D M W (h.blk.gr hW))
 haveI := h.blk
 have x0 : w.cell? ⟨D, 0, none⟩ = some (.map (some M)) := (bc 0 h.blk).trans rfl
 haveI : Old D w := h.blk.old
 have hlk := look_vol h xv _ hv
 simp only [volV, Option.isSome] at hlk
 clear hm hm0 hms hr h hv hxn
 go_enter Tryz.func37, Tryz.ntmps37
 go_wp2_with (first | (go_at_call 19; ((with_reducible refine (HT.out _ gri).mono ?_); rintro _ _ ⟨rfl, g1, rfl⟩)) | (go_at_call 70; ((with_reducible refine (HMay.out _ gri).mono ?_); rintro _ _ ⟨rfl, g2, rfl⟩)))
 refine wp_region_tree (mixw_ghost _) [] (mixw_nil _) [0, 1, 2, 3, 4, 5, 6, 7, 8, 9] 3 (by kernel_rfl) (by kernel_rfl) ?_
 simp only [pick, List.drop, List.take, List.nil_append, List.cons_append]
 repeat (refine wpCalm_step (fun K hK => ?_); go_simp; first | (refine hK _ ?_; clear hK K) | (apply Exists.intro; refine ⟨fun _ => ?_, hK _ ?_⟩; (fail); clear hK K))
 refine wpCalm_nil ?_
 refine fe_mixAlloc 10 (by kernel_rfl) rfl rfl rfl Tryz.zeroValue64 fun b5_0 hb5_0 nb5_0 => ?_
 simp only [Act.put, stA, List.set]
 refine fe_mixStore 11 [(b5_0, #[.int .i64 0, .map none], 64)] #[.int .i64 0, .map none] (by kernel_rfl) rfl rfl rfl rfl mcs hb5_0 rfl rfl rfl rfl (fun z hz => .inl (by simpa using hz)) ?_
 simp only [Act.put, stA, List.set]
 refine fe_mixCalm 12 _ (by kernel_rfl) rfl rfl (fun g => calm_assign g rfl) ?_
 simp only [Act.put, stA, List.set]
 refine fe_end (by kernel_rfl) ?_
 intro w1 hw1
 have lb5_0 := fresh_le hb5_0 w.heap.size
 obtain ⟨cb5_0, fb5_0, ob5_0, qb5_0, rb5_0, g5, rfl⟩ := mixg hb5_0 hw1
 clear nb5_0
 go_wp2_with ((go_at_call 71; ((with_reducible refine (part_9 _ _ _ _ _ _ _ _ (by omega) _).mono ?_); rintro _ _ ⟨rfl, g3, rfl⟩)))
 go_ret
 exact ⟨rfl, gri⟩
theorem refused_9_fit (xv xt xs xa xc : Int) (xD : Option Addr) (xn xq : Nat) (lx : Byt) (hxn : lx.length = xn) (base D : Nat) (d : Dev) (w : World) (h : DevAt base w D d) (hr : Row bv w xD lx) (hm : OpM.may ⟨9, xv, xt, xs, xa, xc, lx⟩ = true) (x : VolM) (hv : getK d xv = some x) (hf : ¬ 4 * x.1 < xa + xc) :
  Calls Tryz.prog 37 #[.pointer (some ⟨D, 0, none⟩), (.agg #[.int .i64 9, .int .u64 xv, .int .u64 xt, .int .i64 xs, .int .i64 xa, .int .i64 xc, .slice xD xn xq])] w fun e w' => e = .returned (.int .i64 0) ∧ Gr w w' := by
 have hms := may_s hm
 have hm0 := hm
 obtain ⟨M, mb, h⟩ := h
 have hxo := h.ok.vols _ ((getK_mem h.ok.sort).1 hv)
 have b1 := hxo.s0
 have b2 := hxo.s1
 clear hxo
 have c1 := hms.at_ (by simp)
 have c2 := hms.cnt (by simp)
 simp only at c1 c2
 rw [OpM.may] at hm
 simp only at hm
 rw [hxn] at hm
 have c9 : lx.length ≤ 2048 := may_len hm0
 rw [hxn] at c9
 have HMay := hd_ (fun W (hW : Gr w W) => (hm ▸ mayOp_any 9 xv xt xs xa xc xD xn xq lx W hxn (by omega) (hr.gr hW) : Calls Tryz.prog 70 #[(.agg #[.int .i64 9, .int .u64 xv, .int .u64 xt, .int .i64 xs, .int .i64 xa, .int .i64 xc, .slice xD xn xq])] W fun e w' => e = .returned (.bool true) ∧ Gr W w'))
 have HT := hd_ (fun W (hW : Gr w W) => there_yes D M W (h.blk.gr hW))
 haveI := h.blk
 have x0 : w.cell? ⟨D, 0, none⟩ = some (.map (some M)) := (bc 0 h.blk).trans rfl
 haveI : Old D w := h.blk.old
 have hlk := look_vol h xv _ hv
 simp only [volV, Option.isSome] at hlk
 clear hm hm0 hms hr h hv hxn
 obtain ⟨x1, xm⟩ := x
 simp only at b1 b2 hf
 go_enter Tryz.func37, Tryz.ntmps37
 go_wp2_with (first | (go_at_call 19; ((with_reducible refine (HT.out _ gri).mono ?_); rintro _ _ ⟨rfl, g1, rfl⟩)) | (go_at_call 70; ((with_reducible refine (HMay.out _ gri).mono ?_); rintro _ _ ⟨rfl, g2, rfl⟩)))
 refine wp_region_tree (mixw_ghost _) [] (mixw_nil _) [0, 1, 2, 3, 4, 5, 6, 7, 8, 9] 3 (by kernel_rfl) (by kernel_rfl) ?_
 simp only [pick, List.drop, List.take, List.nil_append, List.cons_append]
 repeat (refine wpCalm_step (fun K hK => ?_); go_simp; first | (refine hK _ ?_; clear hK K) | (apply Exists.intro; refine ⟨fun _ => ?_, hK _ ?_⟩; (fail); clear hK K))
 refine wpCalm_nil ?_
 refine fe_mixAlloc 10 (by kernel_rfl) rfl rfl rfl Tryz.zeroValue64 fun b5_0 hb5_0 nb5_0 => ?_
 simp only [Act.put, stA, List.set]
 refine fe_mixStore 11 [(b5_0, #[.int .i64 x1, .map (some (mb xv))], 64)] #[.int .i64 x1, .map (some (mb xv))] (by kernel_rfl) rfl rfl rfl rfl mcs hb5_0 rfl rfl rfl rfl (fun z hz => .inl (by simpa using hz)) ?_
 simp only [Act.put, stA, List.set]
 refine fe_mixCalm 12 _ (by kernel_rfl) rfl rfl (fun g => calm_assign g rfl) ?_
 simp only [Act.put, stA, List.set]
 refine fe_end (by kernel_rfl) ?_
 intro w1 hw1
 have lb5_0 := fresh_le hb5_0 w.heap.size
 obtain ⟨cb5_0, fb5_0, ob5_0, qb5_0, rb5_0, g5, rfl⟩ := mixg hb5_0 hw1
 clear nb5_0
 go_wp2_with ((go_at_call 71; ((with_reducible refine (part_9 _ _ _ _ _ _ _ _ (by omega) _).mono ?_); rintro _ _ ⟨rfl, g3, rfl⟩)))
 go_ret
 exact ⟨rfl, gri⟩
theorem refused_9_over (xv xt xs xa xc : Int) (xD : Option Addr) (xn xq : Nat) (lx : Byt) (hxn : lx.length = xn) (base D : Nat) (d : Dev) (w : World) (h : DevAt base w D d) (hr : Row bv w xD lx) (hm : OpM.may ⟨9, xv, xt, xs, xa, xc, lx⟩ = true) (x : VolM) (hv : getK d xv = some x) (hf : 4 * x.1 < xa + xc) :
  Calls Tryz.prog 37 #[.pointer (some ⟨D, 0, none⟩), (.agg #[.int .i64 9, .int .u64 xv, .int .u64 xt, .int .i64 xs, .int .i64 xa, .int .i64 xc, .slice xD xn xq])] w fun e w' => e = .returned (.int .i64 5) ∧ Gr w w' := by
 have hms := may_s hm
 have hm0 := hm
 obtain ⟨M, mb, h⟩ := h
 have hxo := h.ok.vols _ ((getK_mem h.ok.sort).1 hv)
 have b1 := hxo.s0
 have b2 := hxo.s1
 clear hxo
 have c1 := hms.at_ (by simp)
 have c2 := hms.cnt (by simp)
 simp only at c1 c2
 rw [OpM.may] at hm
 simp only at hm
 rw [hxn] at hm
 have c9 : lx.length ≤ 2048 := may_len hm0
 rw [hxn] at c9
 have HMay := hd_ (fun W (hW : Gr w W) => (hm ▸ mayOp_any 9 xv xt xs xa xc xD xn xq lx W hxn (by omega) (hr.gr hW) : Calls Tryz.prog 70 #[(.agg #[.int .i64 9, .int .u64 xv, .int .u64 xt, .int .i64 xs, .int .i64 xa, .int .i64 xc, .slice xD xn xq])] W fun e w' => e = .returned (.bool true) ∧ Gr W w'))
 have HT := hd_ (fun W (hW : Gr w W) => there_yes D M W (h.blk.gr hW))
 haveI := h.blk
 have x0 : w.cell? ⟨D, 0, none⟩ = some (.map (some M)) := (bc 0 h.blk).trans rfl
 haveI : Old D w := h.blk.old
 have hlk := look_vol h xv _ hv
 simp only [volV, Option.isSome] at hlk
 clear hm hm0 hms hr h hv hxn
 obtain ⟨x1, xm⟩ := x
 simp only at b1 b2 hf
 go_enter Tryz.func37, Tryz.ntmps37
 go_wp2_with (first | (go_at_call 19; ((with_reducible refine (HT.out _ gri).mono ?_); rintro _ _ ⟨rfl, g1, rfl⟩)) | (go_at_call 70; ((with_reducible refine (HMay.out _ gri).mono ?_); rintro _ _ ⟨rfl, g2, rfl⟩)))
 refine wp_region_tree (mixw_ghost _) [] (mixw_nil _) [0, 1, 2, 3, 4, 5, 6, 7, 8, 9] 3 (by kernel_rfl) (by kernel_rfl) ?_
 simp only [pick, List.drop, List.take, List.nil_append, List.cons_append]
 repeat (refine wpCalm_step (fun K hK => ?_); go_simp; first | (refine hK _ ?_; clear hK K) | (apply Exists.intro; refine ⟨fun _ => ?_, hK _ ?_⟩; (fail); clear hK K))
 refine wpCalm_nil ?_
 refine fe_mixAlloc 10 (by kernel_rfl) rfl rfl rfl Tryz.zeroValue64 fun b5_0 hb5_0 nb5_0 => ?_
 simp only [Act.put, stA, List.set]
 refine fe_mixStore 11 [(b5_0, #[.int .i64 x1, .map (some (mb xv))], 64)] #[.int .i64 x1, .map (some (mb xv))] (by kernel_rfl) rfl rfl rfl rfl mcs hb5_0 rfl rfl rfl rfl (fun z hz => .inl (by simpa using hz)) ?_
 simp only [Act.put, stA, List.set]
 refine fe_mixCalm 12 _ (by kernel_rfl) rfl rfl (fun g => calm_assign g rfl) ?_
 simp only [Act.put, stA, List.set]
 refine fe_end (by kernel_rfl) ?_
 intro w1 hw1
 have lb5_0 := fresh_le hb5_0 w.heap.size
 obtain ⟨cb5_0, fb5_0, ob5_0, qb5_0, rb5_0, g5, rfl⟩ := mixg hb5_0 hw1
 clear nb5_0
 go_wp2_with ((go_at_call 71; ((with_reducible refine (part_9 _ _ _ _ _ _ _ _ (by omega) _).mono ?_); rintro _ _ ⟨rfl, g3, rfl⟩)))
 go_ret
 exact ⟨rfl, gri⟩
theorem refused_any (xk : Int) (xv xt xs xa xc : Int) (xD : Option Addr) (xn xq : Nat) (lx : Byt) (hxn : lx.length = xn) (base D : Nat) (d : Dev) (w : World) (h : DevAt base w D d) (hr : Row bv w xD lx) (hn : xn ≤ 9223372036854775807) :
  Calls Tryz.prog 37 #[.pointer (some ⟨D, 0, none⟩), (.agg #[.int .i64 xk, .int .u64 xv, .int .u64 xt, .int .i64 xs, .int .i64 xa, .int .i64 xc, .slice xD xn xq])] w fun e w' => e = .returned (.int .i64 (errK d ⟨xk, xv, xt, xs, xa, xc, lx⟩)) ∧ Gr w w' := by
 cases hm : OpM.may ⟨xk, xv, xt, xs, xa, xc, lx⟩
 ·have e : errK d ⟨xk, xv, xt, xs, xa, xc, lx⟩ = 2 := by rw [errK, if_pos hm]
  rw [e]
  exact refused_bad xk xv xt xs xa xc xD xn xq lx hxn base D d w h hr hn hm
 ·have hk := may_kind hm
  simp only at hk
  have h9 : xk = 1 ∨ xk = 2 ∨ xk = 3 ∨ xk = 4 ∨ xk = 5 ∨ xk = 6 ∨ xk = 7 ∨ xk = 8 ∨ xk = 9 := by omega
  have e0 : errK d ⟨xk, xv, xt, xs, xa, xc, lx⟩ = (if xk = 8 then 0 else match getK d xv with
   | none => if xk = 1 then 0 else 6
   | some x => if xk = 1 then 7 else if xk = 4 then (if (getK d xt).isSome then 7 else 0) else if xk = 5 then (if 4 * x.1 < xa + (lx.length / 64 : Nat) then 5 else 0)
    else if xk = 6 ∨ xk = 9 then (if 4 * x.1 < xa + xc then 5 else 0) else if xk = 7 then (if x.1 < xa + xc then 5 else 0) else 0) := by
   rw [errK, if_neg (by rw [hm]; simp)]; rfl
  rw [e0]
  clear e0
  have e64 : ((lx.length / 64 : Nat) : Int) = (xn : Int) / 64 := by rw [hxn]; omega
  rw [e64]
  clear e64
  rcases h9 with rfl | rfl | rfl | rfl | rfl | rfl | rfl | rfl | rfl
  ·cases hv : getK d xv with
   | none => exact refused_1_none xv xt xs xa xc xD xn xq lx hxn base D d w h hr hm hv
   | some x => exact refused_1_some xv xt xs xa xc xD xn xq lx hxn base D d w h hr hm x hv
  ·cases hv : getK d xv with
   | none => exact refused_2_none xv xt xs xa xc xD xn xq lx hxn base D d w h hr hm hv
   | some x => exact refused_2_some xv xt xs xa xc xD xn xq lx hxn base D d w h hr hm x hv
  ·cases hv : getK d xv with
   | none => exact refused_3_none xv xt xs xa xc xD xn xq lx hxn base D d w h hr hm hv
   | some x => exact refused_3_some xv xt xs xa xc xD xn xq lx hxn base D d w h hr hm x hv
  ·cases hv : getK d xv with
   | none => exact refused_4_none xv xt xs xa xc xD xn xq lx hxn base D d w h hr hm hv
   | some x =>
    cases ht : getK d xt with
    | none => exact refused_4_to0 xv xt xs xa xc xD xn xq lx hxn base D d w h hr hm x hv ht
    | some y => exact refused_4_to1 xv xt xs xa xc xD xn xq lx hxn base D d w h hr hm x hv y ht
  ·cases hv : getK d xv with
   | none => exact refused_5_none xv xt xs xa xc xD xn xq lx hxn base D d w h hr hm hv
   | some x =>
    by_cases hf : 4 * x.1 < xa + (xn : Int) / 64
    ·have := refused_5_over xv xt xs xa xc xD xn xq lx hxn base D d w h hr hm x hv hf
     simpa [hf] using this
    ·have := refused_5_fit xv xt xs xa xc xD xn xq lx hxn base D d w h hr hm x hv hf
     simpa [hf] using this
  ·cases hv : getK d xv with
   | none => exact refused_6_none xv xt xs xa xc xD xn xq lx hxn base D d w h hr hm hv
   | some x =>
    by_cases hf : 4 * x.1 < xa + xc
    ·have := refused_6_over xv xt xs xa xc xD xn xq lx hxn base D d w h hr hm x hv hf
     simpa [hf] using this
    ·have := refused_6_fit xv xt xs xa xc xD xn xq lx hxn base D d w h hr hm x hv hf
     simpa [hf] using this
  ·cases hv : getK d xv with
   | none => exact refused_7_none xv xt xs xa xc xD xn xq lx hxn base D d w h hr hm hv
   | some x =>
    by_cases hf : x.1 < xa + xc
    ·have := refused_7_over xv xt xs xa xc xD xn xq lx hxn base D d w h hr hm x hv hf
     simpa [hf] using this
    ·have := refused_7_fit xv xt xs xa xc xD xn xq lx hxn base D d w h hr hm x hv hf
     simpa [hf] using this
  ·cases hv : getK d xv with
   | none => exact refused_8_none xv xt xs xa xc xD xn xq lx hxn base D d w h hr hm hv
   | some x => exact refused_8_some xv xt xs xa xc xD xn xq lx hxn base D d w h hr hm x hv
  ·cases hv : getK d xv with
   | none => exact refused_9_none xv xt xs xa xc xD xn xq lx hxn base D d w h hr hm hv
   | some x =>
    by_cases hf : 4 * x.1 < xa + xc
    ·have := refused_9_over xv xt xs xa xc xD xn xq lx hxn base D d w h hr hm x hv hf
     simpa [hf] using this
    ·have := refused_9_fit xv xt xs xa xc xD xn xq lx hxn base D d w h hr hm x hv hf
     simpa [hf] using this
end Go.Proofs.YtddckdhnolmjoaaGreat
