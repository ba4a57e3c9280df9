/- The reference of layer 29: join. Conditions: the operations stand in memory; at most 2000. The reference of layer 29: join, the last one made greater. Conditions: as XRJo. The reference of layer 29: join, whole. Conditions: at most 2000 operations; small numbers. Plain: operations of single blocks, joined, are runs. Conditions: none. Plain: what delta.made makes, run by run. Conditions: none. Device.Copy. Conditions: the device stands in memory. delta.sizes. Conditions: the device stands in memory; at most 1000 numbers. -/
import Derived.Test.YtipeblmgochdfaaGreatS12
import Derived.Test.YtipeblmgochdfaaGreatS07
import Derived.Test.YtipeblmgochdfaaGreatS09
import Derived.Test.YtipeblmgochdfaaGreatS08
namespace Go.Proofs.YtipeblmgochdfaaGreat
open Go.RowKit
set_option linter.unusedVariables false
set_option linter.unusedSimpArgs false
set_option linter.unnecessarySimpa false
set_option maxRecDepth 100000
set_option maxHeartbeats 4000000
section
variable {P : Program} {md : Region.Mode} {W : World} {S : Type} {I : S → World → Prop} {ops : Array Oper} {L : Array Bool → S → Act → Prop} {f n : Nat} {listed : Array Bool} {s : S} {a : Act}
theorem ft_two (i j : Nat) (hr : Region.ready md ops listed = [i, j]) (hi : i < n) (hj : j < n) (h1 : feOp P ops W I i (feT P md ops W I n L f (listed.setIfInBounds i true)) s a) (h2 : feOp P ops W I j (feT P md ops W I n L f (listed.setIfInBounds j true)) s a) : feT P md ops W I n L (f + 1) listed s a :=
 ⟨fun h0 => by (rw [hr] at h0; cases h0), fun k hk => by
  rw [hr] at hk
  rcases List.mem_cons.1 hk with rfl | hk
  ·exact ⟨hi, h1⟩
  ·obtain rfl : k = j := by simpa using hk
   exact ⟨hj, h2⟩⟩
theorem fe_effD {K : S → Act → Prop} {i : Nat} {o : Oper} {d : Tmp} (ho : ops[i]? = some o) (hg : o.guard = none) (hd : o.dst = some d) (h : ∀ w, I s w → EffAt P o a w (fun v w' => ∃ s', I s' w' ∧ K s' (a.put (some d) v))) : feOp P ops W I i K s a :=
 fe_eff o ho hg (by rw [hd]; exact h)
end
def joinK (l : List OpM) (o : OpM) (f : Bool) : List OpM := match l.getLast? with
 | none => l ++ [o]
 | some x => if f = false ∨ x.k ≠ o.k ∨ 2048 ≤ x.l.length then l ++ [o] else l.dropLast ++ [⟨x.k, x.v, x.t, x.s, x.a, x.c + o.c, x.l ++ o.l⟩]
theorem joinK_last (l : List OpM) (x o : OpM) (f : Bool) : joinK (l ++ [x]) o f = if f = false ∨ x.k ≠ o.k ∨ 2048 ≤ x.l.length then l ++ [x] ++ [o] else l ++ [⟨x.k, x.v, x.t, x.s, x.a, x.c + o.c, x.l ++ o.l⟩] := by simp [joinK]
theorem opRow {W : World} {B : Nat} (x : OpC) (h : BlockAt W B (opE.cs x).toArray 43) : RowN opE W (some ⟨B, 0, none⟩) [x] :=
 ⟨fun _ _ => trivial, fun _ => ⟨B, 0, rfl, h.lt, CellsN.block x h (by simp)⟩⟩
def JPost (base : Nat) (ys : List OpM) (w : World) (e : Ending) (w' : World) : Prop :=
 ∃ v zs, e = .returned v ∧ OwnN opE w.heap.size w' v zs ∧ zs.map (·.o) = ys ∧ (∀ z ∈ zs, OpOwn base w' z) ∧ Gr w w'
theorem OpOwn.gr {base : Nat} {W W' : World} {x : OpC} (h : OpOwn base W x) (g : Gr W W') : OpOwn base W' x := ⟨h.own.gr g⟩
theorem OpOwn.keepA {base b2 : Nat} {W W' : World} {x : OpC} {v v' : Value} {xs ys : List OpC} (h : OpOwn base W x) (k : AppN opE b2 W v xs ys v' W') : OpOwn base W' x := ⟨h.own.keep fun q hq => by
 rcases h.own.own.2 with ⟨e, _⟩ | ⟨g, cap, cur, e, _, hh, _⟩
 ·simp only [Value.slice.injEq] at e
  rw [e.1] at hq
  cases hq
 ·simp only [Value.slice.injEq] at e
  rw [e.1] at hq
  have : g = q := by simpa [Value.ownBlock] using hq
  subst this
  exact k.block g (Array.getElem?_eq_some_iff.1 hh).1 (fun cs f e2 => by rw [hh] at e2; cases e2)⟩
theorem rjoin_copy1 (xs : List OpC) (n : Nat) (hn : xs.length = n) (hn9 : n ≤ 2000) (A : Option Addr) (c : Nat) (hA : A = none → c = 0) (yk yv yt ys ya yc : Int) (yD : Option Addr) (yn yq : Nat) (yl : Byt) (f : Bool) (base : Nat) (w : World) (hr : RowN opE w A xs) (hx : ∀ x ∈ xs, OpOwn base w x) (hy : OpOwn base w ⟨⟨yk, yv, yt, ys, ya, yc, yl⟩, yD, yn, yq⟩) (hf : f = false) :
  Calls Tryz.prog 56 #[.slice A n c, .agg #[.int .i64 yk, .int .u64 yv, .int .u64 yt, .int .i64 ys, .int .i64 ya, .int .i64 yc, .slice yD yn yq], .bool f] w (JPost base ((xs ++ [(⟨⟨yk, yv, yt, ys, ya, yc, yl⟩, yD, yn, yq⟩ : OpC)]).map OpC.o) w) := by
 have HN := Lib.hid hn
 have HR := Lib.hid hr
 have HX := Lib.hid hx
 have HY := Lib.hid hy
 subst hf
 clear hn hr hx hy
 go_enter Tryz.func56, Tryz.ntmps56
 go_wp2
 refine wp_region_grow (by kernel_rfl) (by kernel_rfl) ?_
 repeat (go_big_quiet_step (fail))
 refine wpQuiet_nil ?_
 intro g1
 obtain ⟨W5, hW5⟩ : ∃ W5, W5 = grown _ g1 := ⟨_, rfl⟩
 have b4 : BlockAt W5 w.heap.size #[.int .i64 yk, .int .u64 yv, .int .u64 yt, .int .i64 ys, .int .i64 ya, .int .i64 yc, .slice yD yn yq] 43 := by rw [hW5]; infer_instance
 have g5 : Gr w W5 := by rw [hW5]; exact gri
 rw [← hW5]
 clear hW5
 haveI := b4.old
 have o0 : W5.cell? ⟨w.heap.size, 0, none⟩ = some (.int .i64 yk) := (@block_cells _ _ 0 _ _ b4).trans rfl
 have o1 : W5.cell? ⟨w.heap.size, 1, none⟩ = some (.int .u64 yv) := (@block_cells _ _ 1 _ _ b4).trans rfl
 have o2 : W5.cell? ⟨w.heap.size, 2, none⟩ = some (.int .u64 yt) := (@block_cells _ _ 2 _ _ b4).trans rfl
 have o3 : W5.cell? ⟨w.heap.size, 3, none⟩ = some (.int .i64 ys) := (@block_cells _ _ 3 _ _ b4).trans rfl
 have o4 : W5.cell? ⟨w.heap.size, 4, none⟩ = some (.int .i64 ya) := (@block_cells _ _ 4 _ _ b4).trans rfl
 have o5 : W5.cell? ⟨w.heap.size, 5, none⟩ = some (.int .i64 yc) := (@block_cells _ _ 5 _ _ b4).trans rfl
 have o6 : W5.cell? ⟨w.heap.size, 6, none⟩ = some (.slice yD yn yq) := (@block_cells _ _ 6 _ _ b4).trans rfl
 have HG5 := Lib.hid g5
 go_wp2
 refine wp_region_treeT (inCls_ghost _) (Cls.none _) ⟨Gr.of ((Below.refl _ _).drew), trivial⟩ [0, 2] 3 5 (by kernel_rfl) (by kernel_rfl) ?_
 simp only [pick, List.drop, List.take, List.nil_append, List.cons_append]
 repeat (refine wpCalm_step (fun K hK => ?_); go_simp; first | (refine hK _ ?_; clear hK K) | (apply Exists.intro; refine ⟨fun _ => ?_, hK _ ?_⟩; (skip); clear hK K))
 refine wpCalm_nil ?_
 refine ft_two 1 3 (by kernel_rfl) (by omega) (by omega) ?_ ?_
 ·refine fe_effD rfl rfl rfl fun w4 hw4 => effAt_append_x opIs _ _ rfl rfl (OwnN.nil W5.heap.size _) A xs n c HN.out rfl hA (HR.out.gr (HG5.out.trans hw4.1)) (by rw [HN.out, List.length_nil]; omega) hw4.1.below.size ?_
  intro v1 W1 h1
  refine ⟨⟨fun w' => OwnN opE W5.heap.size w' v1 xs, fun a b h g => h.gr g⟩, ⟨hw4.1.trans_below h1.below, by have := h1.own; rwa [List.nil_append] at this⟩, ?_⟩
  clear h1 hw4 W1 w4
  simp only [Act.put, List.setIfInBounds_toArray, List.set]
  refine ft_one 3 (by kernel_rfl) (by omega) ?_
  refine fe_effD rfl rfl rfl fun w4 hw4 => effAt_ok (.slice (some ⟨w4.heap.size, 0, none⟩) 1 1) (w' := w4.alloc (.cells #[.int .i64 yk, .int .u64 yv, .int .u64 yt, .int .i64 ys, .int .i64 ya, .int .i64 yc, .slice yD yn yq] 43)) (by go_simp) ?_
  obtain ⟨B2, hB2⟩ : ∃ B2, B2 = w4.heap.size := ⟨_, rfl⟩
  have hbB : BlockAt (w4.alloc (.cells #[.int .i64 yk, .int .u64 yv, .int .u64 yt, .int .i64 ys, .int .i64 ya, .int .i64 yc, .slice yD yn yq] 43)) B2 (opE.cs (⟨⟨yk, yv, yt, ys, ya, yc, yl⟩, yD, yn, yq⟩ : OpC)).toArray 43 := by rw [hB2]; exact (inferInstance : BlockAt (w4.alloc (.cells #[.int .i64 yk, .int .u64 yv, .int .u64 yt, .int .i64 ys, .int .i64 ya, .int .i64 yc, .slice yD yn yq] 43)) w4.heap.size #[.int .i64 yk, .int .u64 yv, .int .u64 yt, .int .i64 ys, .int .i64 ya, .int .i64 yc, .slice yD yn yq] 43)
  rw [← hB2]
  refine ⟨⟨fun w' => BlockAt w' B2 (opE.cs (⟨⟨yk, yv, yt, ys, ya, yc, yl⟩, yD, yn, yq⟩ : OpC)).toArray 43 ∧ OwnN opE W5.heap.size w' v1 xs, fun a b h g => ⟨h.1.gr g, h.2.gr g⟩⟩, ⟨hw4.1.trans gri, ⟨hbB, hw4.2.gr gri⟩⟩, ?_⟩
  clear hw4 hB2 hbB w4
  simp only [Act.put, List.setIfInBounds_toArray, List.set]
  refine ft_one 4 (by kernel_rfl) (by omega) ?_
  refine fe_effD rfl rfl rfl fun w4 hw4 => effAt_append_x opIs _ _ rfl rfl hw4.2.2 (some ⟨B2, 0, none⟩) [⟨⟨yk, yv, yt, ys, ya, yc, yl⟩, yD, yn, yq⟩] 1 1 rfl rfl (fun e => by cases e) (opRow _ hw4.2.1) (by rw [HN.out, List.length_singleton]; omega) hw4.1.below.size ?_
  intro v2 W2 h2
  refine ⟨⟨fun w' => OwnN opE W5.heap.size w' v2 (xs ++ [⟨⟨yk, yv, yt, ys, ya, yc, yl⟩, yD, yn, yq⟩]), fun a b h g => h.gr g⟩, ⟨hw4.1.trans_below h2.below, h2.own⟩, ?_⟩
  clear h2 hw4 W2 w4
  simp only [Act.put, List.setIfInBounds_toArray, List.set]
  refine ft_end ⟨by kernel_rfl, fun w9 hw9 => ?_⟩
  try simp only [List.drop_succ_cons, List.drop_zero]
  obtain ⟨hg9, ho9⟩ := hw9
  have g9 : Gr w w9 := HG5.out.trans hg9
  have HF := Lib.hid (show JPost base ((xs ++ [(⟨⟨yk, yv, yt, ys, ya, yc, yl⟩, yD, yn, yq⟩ : OpC)]).map OpC.o) w (.returned v2) w9 from ⟨v2, xs ++ [⟨⟨yk, yv, yt, ys, ya, yc, yl⟩, yD, yn, yq⟩], rfl, ho9.more HG5.out.below.size, rfl, fun z hz => by
   rcases List.mem_append.1 hz with hz | hz
   ·exact (HX.out z hz).gr g9
   ·rw [List.mem_singleton] at hz; subst hz; exact HY.out.gr g9, g9⟩)
  clear hg9 ho9 g9
  go_wp2
  go_ret
  exact HF.out
 ·refine fe_effD rfl rfl rfl fun w4 hw4 => effAt_ok (.slice (some ⟨w4.heap.size, 0, none⟩) 1 1) (w' := w4.alloc (.cells #[.int .i64 yk, .int .u64 yv, .int .u64 yt, .int .i64 ys, .int .i64 ya, .int .i64 yc, .slice yD yn yq] 43)) (by go_simp) ?_
  obtain ⟨B2, hB2⟩ : ∃ B2, B2 = w4.heap.size := ⟨_, rfl⟩
  have hbB : BlockAt (w4.alloc (.cells #[.int .i64 yk, .int .u64 yv, .int .u64 yt, .int .i64 ys, .int .i64 ya, .int .i64 yc, .slice yD yn yq] 43)) B2 (opE.cs (⟨⟨yk, yv, yt, ys, ya, yc, yl⟩, yD, yn, yq⟩ : OpC)).toArray 43 := by rw [hB2]; exact (inferInstance : BlockAt (w4.alloc (.cells #[.int .i64 yk, .int .u64 yv, .int .u64 yt, .int .i64 ys, .int .i64 ya, .int .i64 yc, .slice yD yn yq] 43)) w4.heap.size #[.int .i64 yk, .int .u64 yv, .int .u64 yt, .int .i64 ys, .int .i64 ya, .int .i64 yc, .slice yD yn yq] 43)
  rw [← hB2]
  refine ⟨⟨fun w' => BlockAt w' B2 (opE.cs (⟨⟨yk, yv, yt, ys, ya, yc, yl⟩, yD, yn, yq⟩ : OpC)).toArray 43, fun a b h g => h.gr g⟩, ⟨hw4.1.trans gri, hbB⟩, ?_⟩
  clear hw4 hB2 hbB w4
  simp only [Act.put, List.setIfInBounds_toArray, List.set]
  refine ft_one 1 (by kernel_rfl) (by omega) ?_
  refine fe_effD rfl rfl rfl fun w4 hw4 => effAt_append_x opIs _ _ rfl rfl (OwnN.nil W5.heap.size _) A xs n c HN.out rfl hA (HR.out.gr (HG5.out.trans hw4.1)) (by rw [HN.out, List.length_nil]; omega) hw4.1.below.size ?_
  intro v1 W1 h1
  refine ⟨⟨fun w' => BlockAt w' B2 (opE.cs (⟨⟨yk, yv, yt, ys, ya, yc, yl⟩, yD, yn, yq⟩ : OpC)).toArray 43 ∧ OwnN opE W5.heap.size w' v1 xs, fun a b h g => ⟨h.1.gr g, h.2.gr g⟩⟩, ⟨hw4.1.trans_below h1.below, ⟨BlockAt.grown hw4.2 h1.gb (fun e => by cases e), by have := h1.own; rwa [List.nil_append] at this⟩⟩, ?_⟩
  clear h1 hw4 W1 w4
  simp only [Act.put, List.setIfInBounds_toArray, List.set]
  refine ft_one 4 (by kernel_rfl) (by omega) ?_
  refine fe_effD rfl rfl rfl fun w4 hw4 => effAt_append_x opIs _ _ rfl rfl hw4.2.2 (some ⟨B2, 0, none⟩) [⟨⟨yk, yv, yt, ys, ya, yc, yl⟩, yD, yn, yq⟩] 1 1 rfl rfl (fun e => by cases e) (opRow _ hw4.2.1) (by rw [HN.out, List.length_singleton]; omega) hw4.1.below.size ?_
  intro v2 W2 h2
  refine ⟨⟨fun w' => OwnN opE W5.heap.size w' v2 (xs ++ [⟨⟨yk, yv, yt, ys, ya, yc, yl⟩, yD, yn, yq⟩]), fun a b h g => h.gr g⟩, ⟨hw4.1.trans_below h2.below, h2.own⟩, ?_⟩
  clear h2 hw4 W2 w4
  simp only [Act.put, List.setIfInBounds_toArray, List.set]
  refine ft_end ⟨by kernel_rfl, fun w9 hw9 => ?_⟩
  try simp only [List.drop_succ_cons, List.drop_zero]
  obtain ⟨hg9, ho9⟩ := hw9
  have g9 : Gr w w9 := HG5.out.trans hg9
  have HF := Lib.hid (show JPost base ((xs ++ [(⟨⟨yk, yv, yt, ys, ya, yc, yl⟩, yD, yn, yq⟩ : OpC)]).map OpC.o) w (.returned v2) w9 from ⟨v2, xs ++ [⟨⟨yk, yv, yt, ys, ya, yc, yl⟩, yD, yn, yq⟩], rfl, ho9.more HG5.out.below.size, rfl, fun z hz => by
   rcases List.mem_append.1 hz with hz | hz
   ·exact (HX.out z hz).gr g9
   ·rw [List.mem_singleton] at hz; subst hz; exact HY.out.gr g9, g9⟩)
  clear hg9 ho9 g9
  go_wp2
  go_ret
  exact HF.out
theorem rjoin_copy2 (xs : List OpC) (n : Nat) (hn : xs.length = n) (hn9 : n ≤ 2000) (A : Option Addr) (c : Nat) (hA : A = none → c = 0) (yk yv yt ys ya yc : Int) (yD : Option Addr) (yn yq : Nat) (yl : Byt) (f : Bool) (base : Nat) (w : World) (hr : RowN opE w A xs) (hx : ∀ x ∈ xs, OpOwn base w x) (hy : OpOwn base w ⟨⟨yk, yv, yt, ys, ya, yc, yl⟩, yD, yn, yq⟩) (hf : f = true) (h0 : n = 0) :
  Calls Tryz.prog 56 #[.slice A n c, .agg #[.int .i64 yk, .int .u64 yv, .int .u64 yt, .int .i64 ys, .int .i64 ya, .int .i64 yc, .slice yD yn yq], .bool f] w (JPost base ((xs ++ [(⟨⟨yk, yv, yt, ys, ya, yc, yl⟩, yD, yn, yq⟩ : OpC)]).map OpC.o) w) := by
 have HN := Lib.hid hn
 have HR := Lib.hid hr
 have HX := Lib.hid hx
 have HY := Lib.hid hy
 subst hf
 subst h0
 clear hn hr hx hy
 go_enter Tryz.func56, Tryz.ntmps56
 go_wp2
 refine wp_region_grow (by kernel_rfl) (by kernel_rfl) ?_
 repeat (go_big_quiet_step (fail))
 refine wpQuiet_nil ?_
 intro g1
 obtain ⟨W5, hW5⟩ : ∃ W5, W5 = grown _ g1 := ⟨_, rfl⟩
 have b4 : BlockAt W5 w.heap.size #[.int .i64 yk, .int .u64 yv, .int .u64 yt, .int .i64 ys, .int .i64 ya, .int .i64 yc, .slice yD yn yq] 43 := by rw [hW5]; infer_instance
 have g5 : Gr w W5 := by rw [hW5]; exact gri
 rw [← hW5]
 clear hW5
 haveI := b4.old
 have o0 : W5.cell? ⟨w.heap.size, 0, none⟩ = some (.int .i64 yk) := (@block_cells _ _ 0 _ _ b4).trans rfl
 have o1 : W5.cell? ⟨w.heap.size, 1, none⟩ = some (.int .u64 yv) := (@block_cells _ _ 1 _ _ b4).trans rfl
 have o2 : W5.cell? ⟨w.heap.size, 2, none⟩ = some (.int .u64 yt) := (@block_cells _ _ 2 _ _ b4).trans rfl
 have o3 : W5.cell? ⟨w.heap.size, 3, none⟩ = some (.int .i64 ys) := (@block_cells _ _ 3 _ _ b4).trans rfl
 have o4 : W5.cell? ⟨w.heap.size, 4, none⟩ = some (.int .i64 ya) := (@block_cells _ _ 4 _ _ b4).trans rfl
 have o5 : W5.cell? ⟨w.heap.size, 5, none⟩ = some (.int .i64 yc) := (@block_cells _ _ 5 _ _ b4).trans rfl
 have o6 : W5.cell? ⟨w.heap.size, 6, none⟩ = some (.slice yD yn yq) := (@block_cells _ _ 6 _ _ b4).trans rfl
 have HG5 := Lib.hid g5
 go_wp2
 refine wp_region_treeT (inCls_ghost _) (Cls.none _) ⟨Gr.of ((Below.refl _ _).drew), trivial⟩ [0, 2] 3 5 (by kernel_rfl) (by kernel_rfl) ?_
 simp only [pick, List.drop, List.take, List.nil_append, List.cons_append]
 repeat (refine wpCalm_step (fun K hK => ?_); go_simp; first | (refine hK _ ?_; clear hK K) | (apply Exists.intro; refine ⟨fun _ => ?_, hK _ ?_⟩; (skip); clear hK K))
 refine wpCalm_nil ?_
 refine ft_two 1 3 (by kernel_rfl) (by omega) (by omega) ?_ ?_
 ·refine fe_effD rfl rfl rfl fun w4 hw4 => effAt_append_x opIs _ _ rfl rfl (OwnN.nil W5.heap.size _) A xs 0 c HN.out rfl hA (HR.out.gr (HG5.out.trans hw4.1)) (by rw [HN.out, List.length_nil]; omega) hw4.1.below.size ?_
  intro v1 W1 h1
  refine ⟨⟨fun w' => OwnN opE W5.heap.size w' v1 xs, fun a b h g => h.gr g⟩, ⟨hw4.1.trans_below h1.below, by have := h1.own; rwa [List.nil_append] at this⟩, ?_⟩
  clear h1 hw4 W1 w4
  simp only [Act.put, List.setIfInBounds_toArray, List.set]
  refine ft_one 3 (by kernel_rfl) (by omega) ?_
  refine fe_effD rfl rfl rfl fun w4 hw4 => effAt_ok (.slice (some ⟨w4.heap.size, 0, none⟩) 1 1) (w' := w4.alloc (.cells #[.int .i64 yk, .int .u64 yv, .int .u64 yt, .int .i64 ys, .int .i64 ya, .int .i64 yc, .slice yD yn yq] 43)) (by go_simp) ?_
  obtain ⟨B2, hB2⟩ : ∃ B2, B2 = w4.heap.size := ⟨_, rfl⟩
  have hbB : BlockAt (w4.alloc (.cells #[.int .i64 yk, .int .u64 yv, .int .u64 yt, .int .i64 ys, .int .i64 ya, .int .i64 yc, .slice yD yn yq] 43)) B2 (opE.cs (⟨⟨yk, yv, yt, ys, ya, yc, yl⟩, yD, yn, yq⟩ : OpC)).toArray 43 := by rw [hB2]; exact (inferInstance : BlockAt (w4.alloc (.cells #[.int .i64 yk, .int .u64 yv, .int .u64 yt, .int .i64 ys, .int .i64 ya, .int .i64 yc, .slice yD yn yq] 43)) w4.heap.size #[.int .i64 yk, .int .u64 yv, .int .u64 yt, .int .i64 ys, .int .i64 ya, .int .i64 yc, .slice yD yn yq] 43)
  rw [← hB2]
  refine ⟨⟨fun w' => BlockAt w' B2 (opE.cs (⟨⟨yk, yv, yt, ys, ya, yc, yl⟩, yD, yn, yq⟩ : OpC)).toArray 43 ∧ OwnN opE W5.heap.size w' v1 xs, fun a b h g => ⟨h.1.gr g, h.2.gr g⟩⟩, ⟨hw4.1.trans gri, ⟨hbB, hw4.2.gr gri⟩⟩, ?_⟩
  clear hw4 hB2 hbB w4
  simp only [Act.put, List.setIfInBounds_toArray, List.set]
  refine ft_one 4 (by kernel_rfl) (by omega) ?_
  refine fe_effD rfl rfl rfl fun w4 hw4 => effAt_append_x opIs _ _ rfl rfl hw4.2.2 (some ⟨B2, 0, none⟩) [⟨⟨yk, yv, yt, ys, ya, yc, yl⟩, yD, yn, yq⟩] 1 1 rfl rfl (fun e => by cases e) (opRow _ hw4.2.1) (by rw [HN.out, List.length_singleton]; omega) hw4.1.below.size ?_
  intro v2 W2 h2
  refine ⟨⟨fun w' => OwnN opE W5.heap.size w' v2 (xs ++ [⟨⟨yk, yv, yt, ys, ya, yc, yl⟩, yD, yn, yq⟩]), fun a b h g => h.gr g⟩, ⟨hw4.1.trans_below h2.below, h2.own⟩, ?_⟩
  clear h2 hw4 W2 w4
  simp only [Act.put, List.setIfInBounds_toArray, List.set]
  refine ft_end ⟨by kernel_rfl, fun w9 hw9 => ?_⟩
  try simp only [List.drop_succ_cons, List.drop_zero]
  obtain ⟨hg9, ho9⟩ := hw9
  have g9 : Gr w w9 := HG5.out.trans hg9
  have HF := Lib.hid (show JPost base ((xs ++ [(⟨⟨yk, yv, yt, ys, ya, yc, yl⟩, yD, yn, yq⟩ : OpC)]).map OpC.o) w (.returned v2) w9 from ⟨v2, xs ++ [⟨⟨yk, yv, yt, ys, ya, yc, yl⟩, yD, yn, yq⟩], rfl, ho9.more HG5.out.below.size, rfl, fun z hz => by
   rcases List.mem_append.1 hz with hz | hz
   ·exact (HX.out z hz).gr g9
   ·rw [List.mem_singleton] at hz; subst hz; exact HY.out.gr g9, g9⟩)
  clear hg9 ho9 g9
  go_wp2
  go_ret
  exact HF.out
 ·refine fe_effD rfl rfl rfl fun w4 hw4 => effAt_ok (.slice (some ⟨w4.heap.size, 0, none⟩) 1 1) (w' := w4.alloc (.cells #[.int .i64 yk, .int .u64 yv, .int .u64 yt, .int .i64 ys, .int .i64 ya, .int .i64 yc, .slice yD yn yq] 43)) (by go_simp) ?_
  obtain ⟨B2, hB2⟩ : ∃ B2, B2 = w4.heap.size := ⟨_, rfl⟩
  have hbB : BlockAt (w4.alloc (.cells #[.int .i64 yk, .int .u64 yv, .int .u64 yt, .int .i64 ys, .int .i64 ya, .int .i64 yc, .slice yD yn yq] 43)) B2 (opE.cs (⟨⟨yk, yv, yt, ys, ya, yc, yl⟩, yD, yn, yq⟩ : OpC)).toArray 43 := by rw [hB2]; exact (inferInstance : BlockAt (w4.alloc (.cells #[.int .i64 yk, .int .u64 yv, .int .u64 yt, .int .i64 ys, .int .i64 ya, .int .i64 yc, .slice yD yn yq] 43)) w4.heap.size #[.int .i64 yk, .int .u64 yv, .int .u64 yt, .int .i64 ys, .int .i64 ya, .int .i64 yc, .slice yD yn yq] 43)
  rw [← hB2]
  refine ⟨⟨fun w' => BlockAt w' B2 (opE.cs (⟨⟨yk, yv, yt, ys, ya, yc, yl⟩, yD, yn, yq⟩ : OpC)).toArray 43, fun a b h g => h.gr g⟩, ⟨hw4.1.trans gri, hbB⟩, ?_⟩
  clear hw4 hB2 hbB w4
  simp only [Act.put, List.setIfInBounds_toArray, List.set]
  refine ft_one 1 (by kernel_rfl) (by omega) ?_
  refine fe_effD rfl rfl rfl fun w4 hw4 => effAt_append_x opIs _ _ rfl rfl (OwnN.nil W5.heap.size _) A xs 0 c HN.out rfl hA (HR.out.gr (HG5.out.trans hw4.1)) (by rw [HN.out, List.length_nil]; omega) hw4.1.below.size ?_
  intro v1 W1 h1
  refine ⟨⟨fun w' => BlockAt w' B2 (opE.cs (⟨⟨yk, yv, yt, ys, ya, yc, yl⟩, yD, yn, yq⟩ : OpC)).toArray 43 ∧ OwnN opE W5.heap.size w' v1 xs, fun a b h g => ⟨h.1.gr g, h.2.gr g⟩⟩, ⟨hw4.1.trans_below h1.below, ⟨BlockAt.grown hw4.2 h1.gb (fun e => by cases e), by have := h1.own; rwa [List.nil_append] at this⟩⟩, ?_⟩
  clear h1 hw4 W1 w4
  simp only [Act.put, List.setIfInBounds_toArray, List.set]
  refine ft_one 4 (by kernel_rfl) (by omega) ?_
  refine fe_effD rfl rfl rfl fun w4 hw4 => effAt_append_x opIs _ _ rfl rfl hw4.2.2 (some ⟨B2, 0, none⟩) [⟨⟨yk, yv, yt, ys, ya, yc, yl⟩, yD, yn, yq⟩] 1 1 rfl rfl (fun e => by cases e) (opRow _ hw4.2.1) (by rw [HN.out, List.length_singleton]; omega) hw4.1.below.size ?_
  intro v2 W2 h2
  refine ⟨⟨fun w' => OwnN opE W5.heap.size w' v2 (xs ++ [⟨⟨yk, yv, yt, ys, ya, yc, yl⟩, yD, yn, yq⟩]), fun a b h g => h.gr g⟩, ⟨hw4.1.trans_below h2.below, h2.own⟩, ?_⟩
  clear h2 hw4 W2 w4
  simp only [Act.put, List.setIfInBounds_toArray, List.set]
  refine ft_end ⟨by kernel_rfl, fun w9 hw9 => ?_⟩
  try simp only [List.drop_succ_cons, List.drop_zero]
  obtain ⟨hg9, ho9⟩ := hw9
  have g9 : Gr w w9 := HG5.out.trans hg9
  have HF := Lib.hid (show JPost base ((xs ++ [(⟨⟨yk, yv, yt, ys, ya, yc, yl⟩, yD, yn, yq⟩ : OpC)]).map OpC.o) w (.returned v2) w9 from ⟨v2, xs ++ [⟨⟨yk, yv, yt, ys, ya, yc, yl⟩, yD, yn, yq⟩], rfl, ho9.more HG5.out.below.size, rfl, fun z hz => by
   rcases List.mem_append.1 hz with hz | hz
   ·exact (HX.out z hz).gr g9
   ·rw [List.mem_singleton] at hz; subst hz; exact HY.out.gr g9, g9⟩)
  clear hg9 ho9 g9
  go_wp2
  go_ret
  exact HF.out
theorem rjoin_copy3 (xs : List OpC) (n : Nat) (hn : xs.length = n) (hn9 : n ≤ 2000) (A : Option Addr) (c : Nat) (hA : A = none → c = 0) (yk yv yt ys ya yc : Int) (yD : Option Addr) (yn yq : Nat) (yl : Byt) (f : Bool) (base : Nat) (w : World) (hr : RowN opE w A xs) (hx : ∀ x ∈ xs, OpOwn base w x) (hy : OpOwn base w ⟨⟨yk, yv, yt, ys, ya, yc, yl⟩, yD, yn, yq⟩) (hf : f = true) (x : OpC) (hl : xs[n - 1]? = some x) (h0 : 0 < n) (hk : x.o.k ≠ yk) :
  Calls Tryz.prog 56 #[.slice A n c, .agg #[.int .i64 yk, .int .u64 yv, .int .u64 yt, .int .i64 ys, .int .i64 ya, .int .i64 yc, .slice yD yn yq], .bool f] w (JPost base ((xs ++ [(⟨⟨yk, yv, yt, ys, ya, yc, yl⟩, yD, yn, yq⟩ : OpC)]).map OpC.o) w) := by
 have HN := Lib.hid hn
 have HR := Lib.hid hr
 have HX := Lib.hid hx
 have HY := Lib.hid hy
 subst hf
 obtain ⟨b, p, rfl, hb9, hcl⟩ := hr.at_ (by rintro rfl; simp at hn; omega)
 obtain ⟨m, hm⟩ : ∃ m, m = n - 1 := ⟨_, rfl⟩
 rw [← hm] at hl
 have hb0 : ((n : Int) == 0) = false := by simp only [beq_eq_false_iff_ne, ne_eq]; omega
 have e1 : (n : Int) - 1 = (m : Int) := by omega
 have hmn : m < n := by omega
 have hw1 : IntKind.i64.wrap (m : Int) = (m : Int) := wrapJ m (by omega)
 clear hm
 obtain ⟨d0, -, -, -, -, -, d6⟩ := opCells hcl hl
 haveI : Old b w := ⟨hb9⟩
 clear hn hr hx hy hcl hl
 have hb : (x.o.k != yk) = true := by rw [bne_iff_ne]; exact hk
 generalize x.o.k = xk at *
 generalize x.D = xD at *
 generalize x.n = xn at *
 generalize x.q = xq at *
 clear hk
 go_enter Tryz.func56, Tryz.ntmps56
 go_wp2
 refine wp_region_grow (by kernel_rfl) (by kernel_rfl) ?_
 repeat (go_big_quiet_step (fail))
 refine wpQuiet_nil ?_
 intro g1
 obtain ⟨W5, hW5⟩ : ∃ W5, W5 = grown _ g1 := ⟨_, rfl⟩
 have b4 : BlockAt W5 w.heap.size #[.int .i64 yk, .int .u64 yv, .int .u64 yt, .int .i64 ys, .int .i64 ya, .int .i64 yc, .slice yD yn yq] 43 := by rw [hW5]; infer_instance
 have g5 : Gr w W5 := by rw [hW5]; exact gri
 rw [← hW5]
 clear hW5
 haveI := b4.old
 have o0 : W5.cell? ⟨w.heap.size, 0, none⟩ = some (.int .i64 yk) := (@block_cells _ _ 0 _ _ b4).trans rfl
 have o1 : W5.cell? ⟨w.heap.size, 1, none⟩ = some (.int .u64 yv) := (@block_cells _ _ 1 _ _ b4).trans rfl
 have o2 : W5.cell? ⟨w.heap.size, 2, none⟩ = some (.int .u64 yt) := (@block_cells _ _ 2 _ _ b4).trans rfl
 have o3 : W5.cell? ⟨w.heap.size, 3, none⟩ = some (.int .i64 ys) := (@block_cells _ _ 3 _ _ b4).trans rfl
 have o4 : W5.cell? ⟨w.heap.size, 4, none⟩ = some (.int .i64 ya) := (@block_cells _ _ 4 _ _ b4).trans rfl
 have o5 : W5.cell? ⟨w.heap.size, 5, none⟩ = some (.int .i64 yc) := (@block_cells _ _ 5 _ _ b4).trans rfl
 have o6 : W5.cell? ⟨w.heap.size, 6, none⟩ = some (.slice yD yn yq) := (@block_cells _ _ 6 _ _ b4).trans rfl
 have HG5 := Lib.hid g5
 go_wp2
 refine wp_region_treeT (inCls_ghost _) (Cls.none _) ⟨Gr.of ((Below.refl _ _).drew), trivial⟩ [0, 2] 3 5 (by kernel_rfl) (by kernel_rfl) ?_
 simp only [pick, List.drop, List.take, List.nil_append, List.cons_append]
 repeat (refine wpCalm_step (fun K hK => ?_); go_simp; first | (refine hK _ ?_; clear hK K) | (apply Exists.intro; refine ⟨fun _ => ?_, hK _ ?_⟩; (skip); clear hK K))
 refine wpCalm_nil ?_
 refine ft_two 1 3 (by kernel_rfl) (by omega) (by omega) ?_ ?_
 ·refine fe_effD rfl rfl rfl fun w4 hw4 => effAt_append_x opIs _ _ rfl rfl (OwnN.nil W5.heap.size _) (some ⟨b, p, none⟩) xs n c HN.out rfl hA (HR.out.gr (HG5.out.trans hw4.1)) (by rw [HN.out, List.length_nil]; omega) hw4.1.below.size ?_
  intro v1 W1 h1
  refine ⟨⟨fun w' => OwnN opE W5.heap.size w' v1 xs, fun a b h g => h.gr g⟩, ⟨hw4.1.trans_below h1.below, by have := h1.own; rwa [List.nil_append] at this⟩, ?_⟩
  clear h1 hw4 W1 w4
  simp only [Act.put, List.setIfInBounds_toArray, List.set]
  refine ft_one 3 (by kernel_rfl) (by omega) ?_
  refine fe_effD rfl rfl rfl fun w4 hw4 => effAt_ok (.slice (some ⟨w4.heap.size, 0, none⟩) 1 1) (w' := w4.alloc (.cells #[.int .i64 yk, .int .u64 yv, .int .u64 yt, .int .i64 ys, .int .i64 ya, .int .i64 yc, .slice yD yn yq] 43)) (by go_simp) ?_
  obtain ⟨B2, hB2⟩ : ∃ B2, B2 = w4.heap.size := ⟨_, rfl⟩
  have hbB : BlockAt (w4.alloc (.cells #[.int .i64 yk, .int .u64 yv, .int .u64 yt, .int .i64 ys, .int .i64 ya, .int .i64 yc, .slice yD yn yq] 43)) B2 (opE.cs (⟨⟨yk, yv, yt, ys, ya, yc, yl⟩, yD, yn, yq⟩ : OpC)).toArray 43 := by rw [hB2]; exact (inferInstance : BlockAt (w4.alloc (.cells #[.int .i64 yk, .int .u64 yv, .int .u64 yt, .int .i64 ys, .int .i64 ya, .int .i64 yc, .slice yD yn yq] 43)) w4.heap.size #[.int .i64 yk, .int .u64 yv, .int .u64 yt, .int .i64 ys, .int .i64 ya, .int .i64 yc, .slice yD yn yq] 43)
  rw [← hB2]
  refine ⟨⟨fun w' => BlockAt w' B2 (opE.cs (⟨⟨yk, yv, yt, ys, ya, yc, yl⟩, yD, yn, yq⟩ : OpC)).toArray 43 ∧ OwnN opE W5.heap.size w' v1 xs, fun a b h g => ⟨h.1.gr g, h.2.gr g⟩⟩, ⟨hw4.1.trans gri, ⟨hbB, hw4.2.gr gri⟩⟩, ?_⟩
  clear hw4 hB2 hbB w4
  simp only [Act.put, List.setIfInBounds_toArray, List.set]
  refine ft_one 4 (by kernel_rfl) (by omega) ?_
  refine fe_effD rfl rfl rfl fun w4 hw4 => effAt_append_x opIs _ _ rfl rfl hw4.2.2 (some ⟨B2, 0, none⟩) [⟨⟨yk, yv, yt, ys, ya, yc, yl⟩, yD, yn, yq⟩] 1 1 rfl rfl (fun e => by cases e) (opRow _ hw4.2.1) (by rw [HN.out, List.length_singleton]; omega) hw4.1.below.size ?_
  intro v2 W2 h2
  refine ⟨⟨fun w' => OwnN opE W5.heap.size w' v2 (xs ++ [⟨⟨yk, yv, yt, ys, ya, yc, yl⟩, yD, yn, yq⟩]), fun a b h g => h.gr g⟩, ⟨hw4.1.trans_below h2.below, h2.own⟩, ?_⟩
  clear h2 hw4 W2 w4
  simp only [Act.put, List.setIfInBounds_toArray, List.set]
  refine ft_end ⟨by kernel_rfl, fun w9 hw9 => ?_⟩
  try simp only [List.drop_succ_cons, List.drop_zero]
  obtain ⟨hg9, ho9⟩ := hw9
  have g9 : Gr w w9 := HG5.out.trans hg9
  have HF := Lib.hid (show JPost base ((xs ++ [(⟨⟨yk, yv, yt, ys, ya, yc, yl⟩, yD, yn, yq⟩ : OpC)]).map OpC.o) w (.returned v2) w9 from ⟨v2, xs ++ [⟨⟨yk, yv, yt, ys, ya, yc, yl⟩, yD, yn, yq⟩], rfl, ho9.more HG5.out.below.size, rfl, fun z hz => by
   rcases List.mem_append.1 hz with hz | hz
   ·exact (HX.out z hz).gr g9
   ·rw [List.mem_singleton] at hz; subst hz; exact HY.out.gr g9, g9⟩)
  clear hg9 ho9 g9
  go_wp2
  go_ret
  exact HF.out
 ·refine fe_effD rfl rfl rfl fun w4 hw4 => effAt_ok (.slice (some ⟨w4.heap.size, 0, none⟩) 1 1) (w' := w4.alloc (.cells #[.int .i64 yk, .int .u64 yv, .int .u64 yt, .int .i64 ys, .int .i64 ya, .int .i64 yc, .slice yD yn yq] 43)) (by go_simp) ?_
  obtain ⟨B2, hB2⟩ : ∃ B2, B2 = w4.heap.size := ⟨_, rfl⟩
  have hbB : BlockAt (w4.alloc (.cells #[.int .i64 yk, .int .u64 yv, .int .u64 yt, .int .i64 ys, .int .i64 ya, .int .i64 yc, .slice yD yn yq] 43)) B2 (opE.cs (⟨⟨yk, yv, yt, ys, ya, yc, yl⟩, yD, yn, yq⟩ : OpC)).toArray 43 := by rw [hB2]; exact (inferInstance : BlockAt (w4.alloc (.cells #[.int .i64 yk, .int .u64 yv, .int .u64 yt, .int .i64 ys, .int .i64 ya, .int .i64 yc, .slice yD yn yq] 43)) w4.heap.size #[.int .i64 yk, .int .u64 yv, .int .u64 yt, .int .i64 ys, .int .i64 ya, .int .i64 yc, .slice yD yn yq] 43)
  rw [← hB2]
  refine ⟨⟨fun w' => BlockAt w' B2 (opE.cs (⟨⟨yk, yv, yt, ys, ya, yc, yl⟩, yD, yn, yq⟩ : OpC)).toArray 43, fun a b h g => h.gr g⟩, ⟨hw4.1.trans gri, hbB⟩, ?_⟩
  clear hw4 hB2 hbB w4
  simp only [Act.put, List.setIfInBounds_toArray, List.set]
  refine ft_one 1 (by kernel_rfl) (by omega) ?_
  refine fe_effD rfl rfl rfl fun w4 hw4 => effAt_append_x opIs _ _ rfl rfl (OwnN.nil W5.heap.size _) (some ⟨b, p, none⟩) xs n c HN.out rfl hA (HR.out.gr (HG5.out.trans hw4.1)) (by rw [HN.out, List.length_nil]; omega) hw4.1.below.size ?_
  intro v1 W1 h1
  refine ⟨⟨fun w' => BlockAt w' B2 (opE.cs (⟨⟨yk, yv, yt, ys, ya, yc, yl⟩, yD, yn, yq⟩ : OpC)).toArray 43 ∧ OwnN opE W5.heap.size w' v1 xs, fun a b h g => ⟨h.1.gr g, h.2.gr g⟩⟩, ⟨hw4.1.trans_below h1.below, ⟨BlockAt.grown hw4.2 h1.gb (fun e => by cases e), by have := h1.own; rwa [List.nil_append] at this⟩⟩, ?_⟩
  clear h1 hw4 W1 w4
  simp only [Act.put, List.setIfInBounds_toArray, List.set]
  refine ft_one 4 (by kernel_rfl) (by omega) ?_
  refine fe_effD rfl rfl rfl fun w4 hw4 => effAt_append_x opIs _ _ rfl rfl hw4.2.2 (some ⟨B2, 0, none⟩) [⟨⟨yk, yv, yt, ys, ya, yc, yl⟩, yD, yn, yq⟩] 1 1 rfl rfl (fun e => by cases e) (opRow _ hw4.2.1) (by rw [HN.out, List.length_singleton]; omega) hw4.1.below.size ?_
  intro v2 W2 h2
  refine ⟨⟨fun w' => OwnN opE W5.heap.size w' v2 (xs ++ [⟨⟨yk, yv, yt, ys, ya, yc, yl⟩, yD, yn, yq⟩]), fun a b h g => h.gr g⟩, ⟨hw4.1.trans_below h2.below, h2.own⟩, ?_⟩
  clear h2 hw4 W2 w4
  simp only [Act.put, List.setIfInBounds_toArray, List.set]
  refine ft_end ⟨by kernel_rfl, fun w9 hw9 => ?_⟩
  try simp only [List.drop_succ_cons, List.drop_zero]
  obtain ⟨hg9, ho9⟩ := hw9
  have g9 : Gr w w9 := HG5.out.trans hg9
  have HF := Lib.hid (show JPost base ((xs ++ [(⟨⟨yk, yv, yt, ys, ya, yc, yl⟩, yD, yn, yq⟩ : OpC)]).map OpC.o) w (.returned v2) w9 from ⟨v2, xs ++ [⟨⟨yk, yv, yt, ys, ya, yc, yl⟩, yD, yn, yq⟩], rfl, ho9.more HG5.out.below.size, rfl, fun z hz => by
   rcases List.mem_append.1 hz with hz | hz
   ·exact (HX.out z hz).gr g9
   ·rw [List.mem_singleton] at hz; subst hz; exact HY.out.gr g9, g9⟩)
  clear hg9 ho9 g9
  go_wp2
  go_ret
  exact HF.out
theorem rjoin_copy4 (xs : List OpC) (n : Nat) (hn : xs.length = n) (hn9 : n ≤ 2000) (A : Option Addr) (c : Nat) (hA : A = none → c = 0) (yk yv yt ys ya yc : Int) (yD : Option Addr) (yn yq : Nat) (yl : Byt) (f : Bool) (base : Nat) (w : World) (hr : RowN opE w A xs) (hx : ∀ x ∈ xs, OpOwn base w x) (hy : OpOwn base w ⟨⟨yk, yv, yt, ys, ya, yc, yl⟩, yD, yn, yq⟩) (hf : f = true) (x : OpC) (hl : xs[n - 1]? = some x) (h0 : 0 < n) (hk : x.o.k = yk) (h2 : 2048 ≤ x.n) (hxn9 : x.n ≤ 1000000) :
  Calls Tryz.prog 56 #[.slice A n c, .agg #[.int .i64 yk, .int .u64 yv, .int .u64 yt, .int .i64 ys, .int .i64 ya, .int .i64 yc, .slice yD yn yq], .bool f] w (JPost base ((xs ++ [(⟨⟨yk, yv, yt, ys, ya, yc, yl⟩, yD, yn, yq⟩ : OpC)]).map OpC.o) w) := by
 have HN := Lib.hid hn
 have HR := Lib.hid hr
 have HX := Lib.hid hx
 have HY := Lib.hid hy
 subst hf
 obtain ⟨b, p, rfl, hb9, hcl⟩ := hr.at_ (by rintro rfl; simp at hn; omega)
 obtain ⟨m, hm⟩ : ∃ m, m = n - 1 := ⟨_, rfl⟩
 rw [← hm] at hl
 have hb0 : ((n : Int) == 0) = false := by simp only [beq_eq_false_iff_ne, ne_eq]; omega
 have e1 : (n : Int) - 1 = (m : Int) := by omega
 have hmn : m < n := by omega
 have hw1 : IntKind.i64.wrap (m : Int) = (m : Int) := wrapJ m (by omega)
 clear hm
 obtain ⟨d0, -, -, -, -, -, d6⟩ := opCells hcl hl
 haveI : Old b w := ⟨hb9⟩
 clear hn hr hx hy hcl hl
 have hb : (x.o.k != yk) = false := by simp [hk]
 have d9 : decide (2048 ≤ (x.n : Int)) = true := decide_eq_true (by omega)
 have hx9 : x.n ≤ 9223372036854775807 := by
  have h9 := hxn9
  omega
 generalize x.o.k = xk at *
 generalize x.D = xD at *
 generalize x.n = xn at *
 generalize x.q = xq at *
 clear hk
 go_enter Tryz.func56, Tryz.ntmps56
 go_wp2
 refine wp_region_grow (by kernel_rfl) (by kernel_rfl) ?_
 repeat (go_big_quiet_step (fail))
 refine wpQuiet_nil ?_
 intro g1
 obtain ⟨W5, hW5⟩ : ∃ W5, W5 = grown _ g1 := ⟨_, rfl⟩
 have b4 : BlockAt W5 w.heap.size #[.int .i64 yk, .int .u64 yv, .int .u64 yt, .int .i64 ys, .int .i64 ya, .int .i64 yc, .slice yD yn yq] 43 := by rw [hW5]; infer_instance
 have g5 : Gr w W5 := by rw [hW5]; exact gri
 rw [← hW5]
 clear hW5
 haveI := b4.old
 have o0 : W5.cell? ⟨w.heap.size, 0, none⟩ = some (.int .i64 yk) := (@block_cells _ _ 0 _ _ b4).trans rfl
 have o1 : W5.cell? ⟨w.heap.size, 1, none⟩ = some (.int .u64 yv) := (@block_cells _ _ 1 _ _ b4).trans rfl
 have o2 : W5.cell? ⟨w.heap.size, 2, none⟩ = some (.int .u64 yt) := (@block_cells _ _ 2 _ _ b4).trans rfl
 have o3 : W5.cell? ⟨w.heap.size, 3, none⟩ = some (.int .i64 ys) := (@block_cells _ _ 3 _ _ b4).trans rfl
 have o4 : W5.cell? ⟨w.heap.size, 4, none⟩ = some (.int .i64 ya) := (@block_cells _ _ 4 _ _ b4).trans rfl
 have o5 : W5.cell? ⟨w.heap.size, 5, none⟩ = some (.int .i64 yc) := (@block_cells _ _ 5 _ _ b4).trans rfl
 have o6 : W5.cell? ⟨w.heap.size, 6, none⟩ = some (.slice yD yn yq) := (@block_cells _ _ 6 _ _ b4).trans rfl
 have HG5 := Lib.hid g5
 go_wp2
 refine wp_region_treeT (inCls_ghost _) (Cls.none _) ⟨Gr.of ((Below.refl _ _).drew), trivial⟩ [0, 2] 3 5 (by kernel_rfl) (by kernel_rfl) ?_
 simp only [pick, List.drop, List.take, List.nil_append, List.cons_append]
 repeat (refine wpCalm_step (fun K hK => ?_); go_simp; first | (refine hK _ ?_; clear hK K) | (apply Exists.intro; refine ⟨fun _ => ?_, hK _ ?_⟩; (skip); clear hK K))
 refine wpCalm_nil ?_
 refine ft_two 1 3 (by kernel_rfl) (by omega) (by omega) ?_ ?_
 ·refine fe_effD rfl rfl rfl fun w4 hw4 => effAt_append_x opIs _ _ rfl rfl (OwnN.nil W5.heap.size _) (some ⟨b, p, none⟩) xs n c HN.out rfl hA (HR.out.gr (HG5.out.trans hw4.1)) (by rw [HN.out, List.length_nil]; omega) hw4.1.below.size ?_
  intro v1 W1 h1
  refine ⟨⟨fun w' => OwnN opE W5.heap.size w' v1 xs, fun a b h g => h.gr g⟩, ⟨hw4.1.trans_below h1.below, by have := h1.own; rwa [List.nil_append] at this⟩, ?_⟩
  clear h1 hw4 W1 w4
  simp only [Act.put, List.setIfInBounds_toArray, List.set]
  refine ft_one 3 (by kernel_rfl) (by omega) ?_
  refine fe_effD rfl rfl rfl fun w4 hw4 => effAt_ok (.slice (some ⟨w4.heap.size, 0, none⟩) 1 1) (w' := w4.alloc (.cells #[.int .i64 yk, .int .u64 yv, .int .u64 yt, .int .i64 ys, .int .i64 ya, .int .i64 yc, .slice yD yn yq] 43)) (by go_simp) ?_
  obtain ⟨B2, hB2⟩ : ∃ B2, B2 = w4.heap.size := ⟨_, rfl⟩
  have hbB : BlockAt (w4.alloc (.cells #[.int .i64 yk, .int .u64 yv, .int .u64 yt, .int .i64 ys, .int .i64 ya, .int .i64 yc, .slice yD yn yq] 43)) B2 (opE.cs (⟨⟨yk, yv, yt, ys, ya, yc, yl⟩, yD, yn, yq⟩ : OpC)).toArray 43 := by rw [hB2]; exact (inferInstance : BlockAt (w4.alloc (.cells #[.int .i64 yk, .int .u64 yv, .int .u64 yt, .int .i64 ys, .int .i64 ya, .int .i64 yc, .slice yD yn yq] 43)) w4.heap.size #[.int .i64 yk, .int .u64 yv, .int .u64 yt, .int .i64 ys, .int .i64 ya, .int .i64 yc, .slice yD yn yq] 43)
  rw [← hB2]
  refine ⟨⟨fun w' => BlockAt w' B2 (opE.cs (⟨⟨yk, yv, yt, ys, ya, yc, yl⟩, yD, yn, yq⟩ : OpC)).toArray 43 ∧ OwnN opE W5.heap.size w' v1 xs, fun a b h g => ⟨h.1.gr g, h.2.gr g⟩⟩, ⟨hw4.1.trans gri, ⟨hbB, hw4.2.gr gri⟩⟩, ?_⟩
  clear hw4 hB2 hbB w4
  simp only [Act.put, List.setIfInBounds_toArray, List.set]
  refine ft_one 4 (by kernel_rfl) (by omega) ?_
  refine fe_effD rfl rfl rfl fun w4 hw4 => effAt_append_x opIs _ _ rfl rfl hw4.2.2 (some ⟨B2, 0, none⟩) [⟨⟨yk, yv, yt, ys, ya, yc, yl⟩, yD, yn, yq⟩] 1 1 rfl rfl (fun e => by cases e) (opRow _ hw4.2.1) (by rw [HN.out, List.length_singleton]; omega) hw4.1.below.size ?_
  intro v2 W2 h2
  refine ⟨⟨fun w' => OwnN opE W5.heap.size w' v2 (xs ++ [⟨⟨yk, yv, yt, ys, ya, yc, yl⟩, yD, yn, yq⟩]), fun a b h g => h.gr g⟩, ⟨hw4.1.trans_below h2.below, h2.own⟩, ?_⟩
  clear h2 hw4 W2 w4
  simp only [Act.put, List.setIfInBounds_toArray, List.set]
  refine ft_end ⟨by kernel_rfl, fun w9 hw9 => ?_⟩
  try simp only [List.drop_succ_cons, List.drop_zero]
  obtain ⟨hg9, ho9⟩ := hw9
  have g9 : Gr w w9 := HG5.out.trans hg9
  have HF := Lib.hid (show JPost base ((xs ++ [(⟨⟨yk, yv, yt, ys, ya, yc, yl⟩, yD, yn, yq⟩ : OpC)]).map OpC.o) w (.returned v2) w9 from ⟨v2, xs ++ [⟨⟨yk, yv, yt, ys, ya, yc, yl⟩, yD, yn, yq⟩], rfl, ho9.more HG5.out.below.size, rfl, fun z hz => by
   rcases List.mem_append.1 hz with hz | hz
   ·exact (HX.out z hz).gr g9
   ·rw [List.mem_singleton] at hz; subst hz; exact HY.out.gr g9, g9⟩)
  clear hg9 ho9 g9
  go_wp2
  go_ret
  exact HF.out
 ·refine fe_effD rfl rfl rfl fun w4 hw4 => effAt_ok (.slice (some ⟨w4.heap.size, 0, none⟩) 1 1) (w' := w4.alloc (.cells #[.int .i64 yk, .int .u64 yv, .int .u64 yt, .int .i64 ys, .int .i64 ya, .int .i64 yc, .slice yD yn yq] 43)) (by go_simp) ?_
  obtain ⟨B2, hB2⟩ : ∃ B2, B2 = w4.heap.size := ⟨_, rfl⟩
  have hbB : BlockAt (w4.alloc (.cells #[.int .i64 yk, .int .u64 yv, .int .u64 yt, .int .i64 ys, .int .i64 ya, .int .i64 yc, .slice yD yn yq] 43)) B2 (opE.cs (⟨⟨yk, yv, yt, ys, ya, yc, yl⟩, yD, yn, yq⟩ : OpC)).toArray 43 := by rw [hB2]; exact (inferInstance : BlockAt (w4.alloc (.cells #[.int .i64 yk, .int .u64 yv, .int .u64 yt, .int .i64 ys, .int .i64 ya, .int .i64 yc, .slice yD yn yq] 43)) w4.heap.size #[.int .i64 yk, .int .u64 yv, .int .u64 yt, .int .i64 ys, .int .i64 ya, .int .i64 yc, .slice yD yn yq] 43)
  rw [← hB2]
  refine ⟨⟨fun w' => BlockAt w' B2 (opE.cs (⟨⟨yk, yv, yt, ys, ya, yc, yl⟩, yD, yn, yq⟩ : OpC)).toArray 43, fun a b h g => h.gr g⟩, ⟨hw4.1.trans gri, hbB⟩, ?_⟩
  clear hw4 hB2 hbB w4
  simp only [Act.put, List.setIfInBounds_toArray, List.set]
  refine ft_one 1 (by kernel_rfl) (by omega) ?_
  refine fe_effD rfl rfl rfl fun w4 hw4 => effAt_append_x opIs _ _ rfl rfl (OwnN.nil W5.heap.size _) (some ⟨b, p, none⟩) xs n c HN.out rfl hA (HR.out.gr (HG5.out.trans hw4.1)) (by rw [HN.out, List.length_nil]; omega) hw4.1.below.size ?_
  intro v1 W1 h1
  refine ⟨⟨fun w' => BlockAt w' B2 (opE.cs (⟨⟨yk, yv, yt, ys, ya, yc, yl⟩, yD, yn, yq⟩ : OpC)).toArray 43 ∧ OwnN opE W5.heap.size w' v1 xs, fun a b h g => ⟨h.1.gr g, h.2.gr g⟩⟩, ⟨hw4.1.trans_below h1.below, ⟨BlockAt.grown hw4.2 h1.gb (fun e => by cases e), by have := h1.own; rwa [List.nil_append] at this⟩⟩, ?_⟩
  clear h1 hw4 W1 w4
  simp only [Act.put, List.setIfInBounds_toArray, List.set]
  refine ft_one 4 (by kernel_rfl) (by omega) ?_
  refine fe_effD rfl rfl rfl fun w4 hw4 => effAt_append_x opIs _ _ rfl rfl hw4.2.2 (some ⟨B2, 0, none⟩) [⟨⟨yk, yv, yt, ys, ya, yc, yl⟩, yD, yn, yq⟩] 1 1 rfl rfl (fun e => by cases e) (opRow _ hw4.2.1) (by rw [HN.out, List.length_singleton]; omega) hw4.1.below.size ?_
  intro v2 W2 h2
  refine ⟨⟨fun w' => OwnN opE W5.heap.size w' v2 (xs ++ [⟨⟨yk, yv, yt, ys, ya, yc, yl⟩, yD, yn, yq⟩]), fun a b h g => h.gr g⟩, ⟨hw4.1.trans_below h2.below, h2.own⟩, ?_⟩
  clear h2 hw4 W2 w4
  simp only [Act.put, List.setIfInBounds_toArray, List.set]
  refine ft_end ⟨by kernel_rfl, fun w9 hw9 => ?_⟩
  try simp only [List.drop_succ_cons, List.drop_zero]
  obtain ⟨hg9, ho9⟩ := hw9
  have g9 : Gr w w9 := HG5.out.trans hg9
  have HF := Lib.hid (show JPost base ((xs ++ [(⟨⟨yk, yv, yt, ys, ya, yc, yl⟩, yD, yn, yq⟩ : OpC)]).map OpC.o) w (.returned v2) w9 from ⟨v2, xs ++ [⟨⟨yk, yv, yt, ys, ya, yc, yl⟩, yD, yn, yq⟩], rfl, ho9.more HG5.out.below.size, rfl, fun z hz => by
   rcases List.mem_append.1 hz with hz | hz
   ·exact (HX.out z hz).gr g9
   ·rw [List.mem_singleton] at hz; subst hz; exact HY.out.gr g9, g9⟩)
  clear hg9 ho9 g9
  go_wp2
  go_ret
  exact HF.out
set_option maxRecDepth 100000
set_option maxHeartbeats 4000000
theorem elemO : Tryz.prog.elem 31 = 43 := by kernel_rfl
theorem sizeO (w : World) : (sizeOf 43).run Tryz.prog w = .ok 7 w := by kernel_rfl
theorem sliceToO (A : Option Addr) (n c k : Nat) (h : k ≤ n) (h3 : n ≤ c) (w : World) : (Instr.slice 31 (.slice A n c) none (some (.int .i64 (k : Int))) none).run Tryz.prog w = .ok (.slice A k c) w := by
 have h := run_slice_h (P := Tryz.prog) w 31 A n c (by rw [elemO]; exact Tryz.underlying31) .i64 (k : Int) (by omega) (by omega)
 rw [h, elemO, sizeO, Int.toNat_natCast]
 simp only [Result.andThen_ok, sliced]
 split
 ·rfl
 ·cases A with
  | none => rfl
  | some a => simp only [Option.map_some, Nat.zero_mul, Nat.sub_zero]; congr 1
theorem own_nn {base : Nat} {W : World} {D : Option Addr} {n q : Nat} {l : Byt} (h : OwnN bE base W (.slice D n q) l) : (D = none → q = 0) ∧ l.length = n ∧ RowN bE W D l := by
 obtain ⟨A, c, e, _, _, hr⟩ := h.form bIs
 simp only [Value.slice.injEq] at e
 obtain ⟨e1, e2, e3⟩ := e
 subst e1
 refine ⟨fun e9 => ?_, e2.symm, hr⟩
 rcases h.own.2 with ⟨e4, _⟩ | ⟨b, cap, cur, e4, _⟩
 ·simp only [Value.slice.injEq] at e4; exact e4.2.2
 ·simp only [Value.slice.injEq] at e4; rw [e9] at e4; cases e4.1
theorem wpStoreOG {w0 W : World} {ops : Array Oper} {rest : List Oper} {o : Oper} {a : Act} {Q : Exit → Act → World → Prop} (hg : Gr w0 W) (hgd : o.guard = none) (x y : Operand) (ho : o.op = .store 43 x y) (B : Nat) (zs cs : Array Value) (hx : a.eval x = .pointer (some ⟨B, 0, none⟩)) (hy : a.eval y = .agg cs) (hB : BlockAt W B zs 43) (hb : w0.heap.size ≤ B) (hi : (Tryz.prog.info? 43).map (·.size) = some cs.size) (hz : zs.size = cs.size) (h1 : ∀ v ∈ cs.toList, v.oneCell' = true)
  (h : ∀ g : Growth w0, BlockAt (grown w0 g) B cs 43 → wpList Tryz.prog ops Q rest (a.put o.dst undef) (grown w0 g)) : wpList Tryz.prog ops Q (o :: rest) a W := by
 refine wpList_storeRow hgd _ x y ho B zs cs hx hy hB hi hz h1 ?_
 have hG := setRow_gr (cs := cs) hg hb
 have hB2 : BlockAt (W.setRow B cs) B cs 43 := setRow_block hB
 obtain ⟨g, e⟩ := hG
 rw [e] at hB2 ⊢
 exact h g hB2
theorem rjoin_more (xs : List OpC) (n : Nat) (hn : xs.length = n) (hn9 : n ≤ 2000) (b p c : Nat) (hnc : n ≤ c) (xk xv xt xs9 xa xc : Int) (xD : Option Addr) (xn xq : Nat) (xl : Byt) (yk yv yt ys ya yc : Int) (yD : Option Addr) (yn yq : Nat) (yl : Byt) (base : Nat) (w : World) (hbase : base ≤ w.heap.size) (hr : RowN opE w (some ⟨b, p, none⟩) xs) (hx : ∀ x ∈ xs, OpOwn base w x) (hy : OpOwn base w ⟨⟨yk, yv, yt, ys, ya, yc, yl⟩, yD, yn, yq⟩) (h0 : 0 < n) (hl : xs[n - 1]? = some ⟨⟨xk, xv, xt, xs9, xa, xc, xl⟩, xD, xn, xq⟩) (hk : xk = yk) (h2 : xn < 2048) (hy9 : yn ≤ 1000000) (x0 : 0 ≤ xc) (x1 : xc ≤ 1000000) (y0 : 0 ≤ yc) (y1 : yc ≤ 1000000) :
  Calls Tryz.prog 56 #[.slice (some ⟨b, p, none⟩) n c, .agg #[.int .i64 yk, .int .u64 yv, .int .u64 yt, .int .i64 ys, .int .i64 ya, .int .i64 yc, .slice yD yn yq], .bool true] w (JPost base ((xs.take (n - 1)).map OpC.o ++ [⟨xk, xv, xt, xs9, xa, xc + yc, xl ++ yl⟩]) w) := by
 have hxo := hx _ (List.mem_of_getElem? hl)
 obtain ⟨hxn, hxl, hxr⟩ := own_nn hxo.own
 obtain ⟨hyn, hyl, hyr⟩ := own_nn hy.own
 have HXR := Lib.hid hxr
 have HYR := Lib.hid hyr
 have HXL := Lib.hid hxl
 have HYL := Lib.hid hyl
 have HN := Lib.hid hn
 have HR := Lib.hid hr
 have HX := Lib.hid hx
 obtain ⟨b', p', e', hb9, hcl⟩ := hr.at_ (by rintro rfl; simp at hn; omega)
 cases e'
 obtain ⟨m, hm⟩ : ∃ m, m = n - 1 := ⟨_, rfl⟩
 rw [← hm] at hl ⊢
 have hb0 : ((n : Int) == 0) = false := by simp only [beq_eq_false_iff_ne, ne_eq]; omega
 have e1 : (n : Int) - 1 = (m : Int) := by omega
 have hmn : m < n := by omega
 have hw1 : IntKind.i64.wrap (m : Int) = (m : Int) := wrapJ m (by omega)
 obtain ⟨d0, d1, d2, d3, d4, d5, d6⟩ := opCells hcl hl
 simp only at d0 d1 d2 d3 d4 d5 d6
 haveI : Old b w := ⟨hb9⟩
 have hkk : (xk != yk) = false := by simp [hk]
 have d9 : decide (2048 ≤ (xn : Int)) = false := decide_eq_false (by omega)
 have hsl := fun W => sliceToO (some ⟨b, p, none⟩) n c m (by omega) hnc W
 have HTK : Hid ((xs.take m).length = m) := Lib.hid (by rw [List.length_take]; omega)
 clear hn hr hx hy hcl hl hm hxo hxr hyr hk hxl hyl
 go_enter Tryz.func56, Tryz.ntmps56
 go_wp2
 refine wp_region_grow (by kernel_rfl) (by kernel_rfl) ?_
 repeat (go_big_quiet_step (fail))
 refine wpQuiet_nil ?_
 intro g1
 go_wp2_with (first | (refine wpStoreOG (w0 := grown _ g1) gri rfl _ _ rfl _ _ #[.int .i64 xk, .int .u64 xv, .int .u64 xt, .int .i64 xs9, .int .i64 xa, .int .i64 xc, .slice xD xn xq] rfl rfl inferInstance (Past.le (a := grown _ g1)) (by kernel_rfl) rfl (List.all_eq_true.1 rfl) ?_; intro g8 hB8; haveI := hB8; haveI := hB8.old; have q5 := @block_cells _ _ 5 _ _ hB8; have f5 := @block_frozen _ _ 5 _ _ hB8))
 obtain ⟨W4, hW4⟩ : ∃ W4, W4 = grown (w.alloc (.cells #[.int .i64 yk, .int .u64 yv, .int .u64 yt, .int .i64 ys, .int .i64 ya, .int .i64 yc, .slice yD yn yq] 43)) g1 := ⟨_, rfl⟩
 obtain ⟨W6, hW6⟩ : ∃ W6, W6 = (grown (grown (w.alloc (.cells #[.int .i64 yk, .int .u64 yv, .int .u64 yt, .int .i64 ys, .int .i64 ya, .int .i64 yc, .slice yD yn yq] 43)) g1) g8).setCell ⟨(grown (w.alloc (.cells #[.int .i64 yk, .int .u64 yv, .int .u64 yt, .int .i64 ys, .int .i64 ya, .int .i64 yc, .slice yD yn yq] 43)) g1).heap.size, 5, none⟩ (.int .i64 (xc + yc)) := ⟨_, rfl⟩
 have hS4 : w.heap.size ≤ (grown (w.alloc (.cells #[.int .i64 yk, .int .u64 yv, .int .u64 yt, .int .i64 ys, .int .i64 ya, .int .i64 yc, .slice yD yn yq] 43)) g1).heap.size := (gri : Gr w _).below.size
 have b4 : BlockAt W6 w.heap.size #[.int .i64 yk, .int .u64 yv, .int .u64 yt, .int .i64 ys, .int .i64 ya, .int .i64 yc, .slice yD yn yq] 43 := by rw [hW6]; infer_instance
 have b8 : BlockAt W6 (grown (w.alloc (.cells #[.int .i64 yk, .int .u64 yv, .int .u64 yt, .int .i64 ys, .int .i64 ya, .int .i64 yc, .slice yD yn yq] 43)) g1).heap.size #[.int .i64 xk, .int .u64 xv, .int .u64 xt, .int .i64 xs9, .int .i64 xa, .int .i64 (xc + yc), .slice xD xn xq] 43 := by
  rw [hW6]
  exact (inferInstance : BlockAt ((grown (grown (w.alloc (.cells #[.int .i64 yk, .int .u64 yv, .int .u64 yt, .int .i64 ys, .int .i64 ya, .int .i64 yc, .slice yD yn yq] 43)) g1) g8).setCell ⟨(grown (w.alloc (.cells #[.int .i64 yk, .int .u64 yv, .int .u64 yt, .int .i64 ys, .int .i64 ya, .int .i64 yc, .slice yD yn yq] 43)) g1).heap.size, 5, none⟩ (.int .i64 (xc + yc))) (grown (w.alloc (.cells #[.int .i64 yk, .int .u64 yv, .int .u64 yt, .int .i64 ys, .int .i64 ya, .int .i64 yc, .slice yD yn yq] 43)) g1).heap.size (#[.int .i64 xk, .int .u64 xv, .int .u64 xt, .int .i64 xs9, .int .i64 xa, .int .i64 xc, .slice xD xn xq].setIfInBounds 5 (.int .i64 (xc + yc))) 43)
 have g6 : Gr w W6 := by rw [hW6]; exact Gr.of (below_set (gri : Gr w (grown (grown (w.alloc (.cells #[.int .i64 yk, .int .u64 yv, .int .u64 yt, .int .i64 ys, .int .i64 ya, .int .i64 yc, .slice yD yn yq] 43)) g1) g8)).below hS4 _)
 rw [← hW6]
 obtain ⟨B8, hB9⟩ : ∃ B8, B8 = (grown (w.alloc (.cells #[.int .i64 yk, .int .u64 yv, .int .u64 yt, .int .i64 ys, .int .i64 ya, .int .i64 yc, .slice yD yn yq] 43)) g1).heap.size := ⟨_, rfl⟩
 rw [← hB9] at b8 hS4 ⊢
 have hb48 : BNe w.heap.size B8 := by rw [hB9]; infer_instance
 clear hB9 hW6 q5 f5
 clear hB8
 haveI := b4.old
 haveI := b8.old
 have o0 : W6.cell? ⟨w.heap.size, 0, none⟩ = some (.int .i64 yk) := (@block_cells _ _ 0 _ _ b4).trans rfl
 have o1 : W6.cell? ⟨w.heap.size, 1, none⟩ = some (.int .u64 yv) := (@block_cells _ _ 1 _ _ b4).trans rfl
 have o2 : W6.cell? ⟨w.heap.size, 2, none⟩ = some (.int .u64 yt) := (@block_cells _ _ 2 _ _ b4).trans rfl
 have o3 : W6.cell? ⟨w.heap.size, 3, none⟩ = some (.int .i64 ys) := (@block_cells _ _ 3 _ _ b4).trans rfl
 have o4 : W6.cell? ⟨w.heap.size, 4, none⟩ = some (.int .i64 ya) := (@block_cells _ _ 4 _ _ b4).trans rfl
 have o5 : W6.cell? ⟨w.heap.size, 5, none⟩ = some (.int .i64 yc) := (@block_cells _ _ 5 _ _ b4).trans rfl
 have o6 : W6.cell? ⟨w.heap.size, 6, none⟩ = some (.slice yD yn yq) := (@block_cells _ _ 6 _ _ b4).trans rfl
 have r0 : W6.cell? ⟨B8, 0, none⟩ = some (.int .i64 xk) := (@block_cells _ _ 0 _ _ b8).trans rfl
 have r1 : W6.cell? ⟨B8, 1, none⟩ = some (.int .u64 xv) := (@block_cells _ _ 1 _ _ b8).trans rfl
 have r2 : W6.cell? ⟨B8, 2, none⟩ = some (.int .u64 xt) := (@block_cells _ _ 2 _ _ b8).trans rfl
 have r3 : W6.cell? ⟨B8, 3, none⟩ = some (.int .i64 xs9) := (@block_cells _ _ 3 _ _ b8).trans rfl
 have r4 : W6.cell? ⟨B8, 4, none⟩ = some (.int .i64 xa) := (@block_cells _ _ 4 _ _ b8).trans rfl
 have r5 : W6.cell? ⟨B8, 5, none⟩ = some (.int .i64 (xc + yc)) := (@block_cells _ _ 5 _ _ b8).trans rfl
 have r6 : W6.cell? ⟨B8, 6, none⟩ = some (.slice xD xn xq) := (@block_cells _ _ 6 _ _ b8).trans rfl
 have HG6 := Lib.hid g6
 have HB4 := Lib.hid b4
 have HB8 := Lib.hid b8
 clear b4 b8
 have HXN := Lib.hid hxn
 have HYN := Lib.hid hyn
 refine wp_region_treeT (inCls_ghost _) (Cls.none _) ⟨Gr.of ((Below.refl _ _).drew), trivial⟩ [0, 1, 3, 4] 2 6 (by kernel_rfl) (by kernel_rfl) ?_
 simp only [pick, List.drop, List.take, List.nil_append, List.cons_append]
 repeat (refine wpCalm_step (fun K hK => ?_); go_simp; first | (refine hK _ ?_; clear hK K) | (apply Exists.intro; refine ⟨fun _ => ?_, hK _ ?_⟩; (skip); clear hK K))
 refine wpCalm_nil ?_
 refine ft_one 2 (by kernel_rfl) (by omega) ?_
 refine fe_effD rfl rfl rfl fun w4 hw4 => effAt_append_x bIs _ _ rfl rfl (OwnN.nil W6.heap.size _) xD xl xn xq HXL.out rfl HXN.out (HXR.out.gr (HG6.out.trans hw4.1)) (by rw [HXL.out, List.length_nil]; omega) hw4.1.below.size ?_
 intro v1 W1 h1
 refine ⟨⟨fun w' => OwnN bE W6.heap.size w' v1 xl, fun a b h g => h.gr g⟩, ⟨hw4.1.trans_below h1.below, by have := h1.own; rwa [List.nil_append] at this⟩, ?_⟩
 clear h1 hw4 W1 w4
 simp only [Act.put, List.setIfInBounds_toArray, List.set]
 refine ft_one 5 (by kernel_rfl) (by omega) ?_
 refine fe_effD rfl rfl rfl fun w4 hw4 => effAt_append_x bIs _ _ rfl rfl hw4.2 yD yl yn yq HYL.out rfl HYN.out (HYR.out.gr (HG6.out.trans hw4.1)) (by rw [HXL.out, HYL.out]; omega) hw4.1.below.size ?_
 intro v2 W2 h2
 refine ⟨⟨fun w' => OwnN bE W6.heap.size w' v2 (xl ++ yl), fun a b h g => h.gr g⟩, ⟨hw4.1.trans_below h2.below, h2.own⟩, ?_⟩
 clear h2 hw4 W2 w4
 simp only [Act.put, List.setIfInBounds_toArray, List.set]
 refine ft_end ⟨by kernel_rfl, fun w9 hw9 => ?_⟩
 try simp only [List.drop_succ_cons, List.drop_zero]
 obtain ⟨hg9, ho9⟩ := hw9
 obtain ⟨vD, vq, rfl, _, _, _⟩ := ho9.form bIs
 have hB6 : B8 < W6.heap.size := HB8.out.lt
 obtain ⟨W8, hW8⟩ : ∃ W8, W8 = w9.setCell ⟨B8, 6, none⟩ (.slice vD (xl ++ yl).length vq) := ⟨_, rfl⟩
 have ho8 : OwnN bE w.heap.size W8 (.slice vD (xl ++ yl).length vq) (xl ++ yl) := by
  rw [hW8]
  refine (ho9.keep fun k hk => Below.heap_setCell w9 ⟨B8, 6, none⟩ _ k ?_).more HG6.out.below.size
  have := (ho9.lt k hk).1
  show k ≠ B8
  omega
 haveI h49 := HB4.out.gr hg9
 haveI h89 := HB8.out.gr hg9
 haveI := hb48
 have b48 : BlockAt W8 w.heap.size #[.int .i64 yk, .int .u64 yv, .int .u64 yt, .int .i64 ys, .int .i64 ya, .int .i64 yc, .slice yD yn yq] 43 := by rw [hW8]; infer_instance
 have b88 : BlockAt W8 B8 #[.int .i64 xk, .int .u64 xv, .int .u64 xt, .int .i64 xs9, .int .i64 xa, .int .i64 (xc + yc), .slice vD (xl ++ yl).length vq] 43 := by
  rw [hW8]
  exact (inferInstance : BlockAt (w9.setCell ⟨B8, 6, none⟩ (.slice vD (xl ++ yl).length vq)) B8 (#[.int .i64 xk, .int .u64 xv, .int .u64 xt, .int .i64 xs9, .int .i64 xa, .int .i64 (xc + yc), .slice xD xn xq].setIfInBounds 6 (.slice vD (xl ++ yl).length vq)) 43)
 have g8 : Gr w W8 := by rw [hW8]; exact Gr.of (below_set (HG6.out.trans hg9).below hS4 _)
 have t6 : w9.cell? ⟨B8, 6, none⟩ = some (.slice xD xn xq) := (@block_cells _ _ 6 _ _ h89).trans rfl
 have t7 : w9.frozen? ⟨B8, 6, none⟩ = false := @block_frozen _ _ 6 _ _ h89
 haveI := h89.old
 have HRUN : Hid ((storeVar 41 ⟨B8, 6, none⟩ (.slice vD (xl ++ yl).length vq)).run Tryz.prog w9 = .ok () W8) := Lib.hid (by rw [hW8]; go_simp)
 have HG8 := Lib.hid g8
 have HO8 := Lib.hid ho8
 have HRT := Lib.hid (show RowN opE w (some ⟨b, p, none⟩) (xs.take m) from by
  obtain ⟨b', p', e', hb9, hcl⟩ := HR.out.at_ (by rintro rfl; have := HN.out; simp at this; omega)
  cases e'
  exact ⟨fun x hx => HR.out.ok x (List.mem_of_mem_take hx), fun _ => ⟨b, p, rfl, hb9, hcl.take m⟩⟩)
 clear t6 t7 h89 h49 ho8 ho9 hg9 hW8 g8
 haveI := b48.old
 haveI := b88.old
 have s0 : W8.cell? ⟨B8, 0, none⟩ = some (.int .i64 xk) := (@block_cells _ _ 0 _ _ b88).trans rfl
 have s1 : W8.cell? ⟨B8, 1, none⟩ = some (.int .u64 xv) := (@block_cells _ _ 1 _ _ b88).trans rfl
 have s2 : W8.cell? ⟨B8, 2, none⟩ = some (.int .u64 xt) := (@block_cells _ _ 2 _ _ b88).trans rfl
 have s3 : W8.cell? ⟨B8, 3, none⟩ = some (.int .i64 xs9) := (@block_cells _ _ 3 _ _ b88).trans rfl
 have s4 : W8.cell? ⟨B8, 4, none⟩ = some (.int .i64 xa) := (@block_cells _ _ 4 _ _ b88).trans rfl
 have s5 : W8.cell? ⟨B8, 5, none⟩ = some (.int .i64 (xc + yc)) := (@block_cells _ _ 5 _ _ b88).trans rfl
 have s6 : W8.cell? ⟨B8, 6, none⟩ = some (.slice vD (xl ++ yl).length vq) := (@block_cells _ _ 6 _ _ b88).trans rfl
 go_wp2_with (first | (refine wpStoreG rfl _ _ rfl ⟨B8, 6, none⟩ _ rfl rfl W8 HRUN.out ?_))
 clear HRUN
 refine wp_region_treeT (inCls_ghost _) (Cls.none _) ⟨Gr.of ((Below.refl _ _).drew), trivial⟩ [0, 1, 2, 3, 5] 3 8 (by kernel_rfl) (by kernel_rfl) ?_
 simp only [pick, List.drop, List.take, List.nil_append, List.cons_append]
 repeat (refine wpCalm_step (fun K hK => ?_); go_simp; first | (refine hK _ ?_; clear hK K) | (apply Exists.intro; refine ⟨fun _ => ?_, hK _ ?_⟩; (skip); clear hK K))
 refine wpCalm_nil ?_
 refine ft_two 4 6 (by kernel_rfl) (by omega) (by omega) ?_ ?_
 ·refine fe_effD rfl rfl rfl fun w4 hw4 => effAt_append_x opIs _ _ rfl rfl (OwnN.nil W8.heap.size _) (some ⟨b, p, none⟩) (xs.take m) m c HTK.out rfl (fun e => by cases e) (HRT.out.gr (HG8.out.trans hw4.1)) (by rw [HTK.out, List.length_nil]; omega) hw4.1.below.size ?_
  intro v1 W1 h1
  refine ⟨⟨fun w' => OwnN opE W8.heap.size w' v1 (xs.take m), fun a b h g => h.gr g⟩, ⟨hw4.1.trans_below h1.below, by have := h1.own; rwa [List.nil_append] at this⟩, ?_⟩
  clear h1 hw4 W1 w4
  simp only [Act.put, List.setIfInBounds_toArray, List.set]
  refine ft_one 6 (by kernel_rfl) (by omega) ?_
  refine fe_effD rfl rfl rfl fun w4 hw4 => effAt_ok (.slice (some ⟨w4.heap.size, 0, none⟩) 1 1) (w' := w4.alloc (.cells #[.int .i64 xk, .int .u64 xv, .int .u64 xt, .int .i64 xs9, .int .i64 xa, .int .i64 (xc + yc), .slice vD (xl ++ yl).length vq] 43)) (by go_simp) ?_
  obtain ⟨B2, hB2⟩ : ∃ B2, B2 = w4.heap.size := ⟨_, rfl⟩
  have hbB : BlockAt (w4.alloc (.cells #[.int .i64 xk, .int .u64 xv, .int .u64 xt, .int .i64 xs9, .int .i64 xa, .int .i64 (xc + yc), .slice vD (xl ++ yl).length vq] 43)) B2 (opE.cs (⟨⟨xk, xv, xt, xs9, xa, xc + yc, xl ++ yl⟩, vD, (xl ++ yl).length, vq⟩ : OpC)).toArray 43 := by rw [hB2]; exact (inferInstance : BlockAt (w4.alloc (.cells #[.int .i64 xk, .int .u64 xv, .int .u64 xt, .int .i64 xs9, .int .i64 xa, .int .i64 (xc + yc), .slice vD (xl ++ yl).length vq] 43)) w4.heap.size #[.int .i64 xk, .int .u64 xv, .int .u64 xt, .int .i64 xs9, .int .i64 xa, .int .i64 (xc + yc), .slice vD (xl ++ yl).length vq] 43)
  rw [← hB2]
  refine ⟨⟨fun w' => BlockAt w' B2 (opE.cs (⟨⟨xk, xv, xt, xs9, xa, xc + yc, xl ++ yl⟩, vD, (xl ++ yl).length, vq⟩ : OpC)).toArray 43 ∧ OwnN opE W8.heap.size w' v1 (xs.take m), fun a b h g => ⟨h.1.gr g, h.2.gr g⟩⟩, ⟨hw4.1.trans gri, ⟨hbB, hw4.2.gr gri⟩⟩, ?_⟩
  clear hw4 hB2 hbB w4
  simp only [Act.put, List.setIfInBounds_toArray, List.set]
  refine ft_one 7 (by kernel_rfl) (by omega) ?_
  refine fe_effD rfl rfl rfl fun w4 hw4 => effAt_append_x opIs _ _ rfl rfl hw4.2.2 (some ⟨B2, 0, none⟩) [(⟨⟨xk, xv, xt, xs9, xa, xc + yc, xl ++ yl⟩, vD, (xl ++ yl).length, vq⟩ : OpC)] 1 1 rfl rfl (fun e => by cases e) (opRow _ hw4.2.1) (by rw [HTK.out, List.length_singleton]; omega) hw4.1.below.size ?_
  intro v5 W5 h5
  refine ⟨⟨fun w' => OwnN opE W8.heap.size w' v5 (xs.take m ++ [(⟨⟨xk, xv, xt, xs9, xa, xc + yc, xl ++ yl⟩, vD, (xl ++ yl).length, vq⟩ : OpC)]), fun a b h g => h.gr g⟩, ⟨hw4.1.trans_below h5.below, h5.own⟩, ?_⟩
  clear h5 hw4 W5 w4
  simp only [Act.put, List.setIfInBounds_toArray, List.set]
  refine ft_end ⟨by kernel_rfl, fun w9 hw9 => ?_⟩
  try simp only [List.drop_succ_cons, List.drop_zero]
  obtain ⟨hg9, ho9⟩ := hw9
  have g9 : Gr w w9 := HG8.out.trans hg9
  have HF := Lib.hid (show JPost base ((xs.take m).map OpC.o ++ [⟨xk, xv, xt, xs9, xa, xc + yc, xl ++ yl⟩]) w (.returned v5) w9 from ⟨v5, xs.take m ++ [(⟨⟨xk, xv, xt, xs9, xa, xc + yc, xl ++ yl⟩, vD, (xl ++ yl).length, vq⟩ : OpC)], rfl, ho9.more HG8.out.below.size, by simp, fun z hz => by
   rcases List.mem_append.1 hz with hz | hz
   ·exact (HX.out z (List.mem_of_mem_take hz)).gr g9
   ·rw [List.mem_singleton] at hz; subst hz; exact OpOwn.gr ⟨HO8.out.more hbase⟩ hg9, g9⟩)
  clear hg9 ho9 g9
  go_wp2
  go_ret
  exact HF.out
 ·refine fe_effD rfl rfl rfl fun w4 hw4 => effAt_ok (.slice (some ⟨w4.heap.size, 0, none⟩) 1 1) (w' := w4.alloc (.cells #[.int .i64 xk, .int .u64 xv, .int .u64 xt, .int .i64 xs9, .int .i64 xa, .int .i64 (xc + yc), .slice vD (xl ++ yl).length vq] 43)) (by go_simp) ?_
  obtain ⟨B2, hB2⟩ : ∃ B2, B2 = w4.heap.size := ⟨_, rfl⟩
  have hbB : BlockAt (w4.alloc (.cells #[.int .i64 xk, .int .u64 xv, .int .u64 xt, .int .i64 xs9, .int .i64 xa, .int .i64 (xc + yc), .slice vD (xl ++ yl).length vq] 43)) B2 (opE.cs (⟨⟨xk, xv, xt, xs9, xa, xc + yc, xl ++ yl⟩, vD, (xl ++ yl).length, vq⟩ : OpC)).toArray 43 := by rw [hB2]; exact (inferInstance : BlockAt (w4.alloc (.cells #[.int .i64 xk, .int .u64 xv, .int .u64 xt, .int .i64 xs9, .int .i64 xa, .int .i64 (xc + yc), .slice vD (xl ++ yl).length vq] 43)) w4.heap.size #[.int .i64 xk, .int .u64 xv, .int .u64 xt, .int .i64 xs9, .int .i64 xa, .int .i64 (xc + yc), .slice vD (xl ++ yl).length vq] 43)
  rw [← hB2]
  refine ⟨⟨fun w' => BlockAt w' B2 (opE.cs (⟨⟨xk, xv, xt, xs9, xa, xc + yc, xl ++ yl⟩, vD, (xl ++ yl).length, vq⟩ : OpC)).toArray 43, fun a b h g => h.gr g⟩, ⟨hw4.1.trans gri, hbB⟩, ?_⟩
  clear hw4 hB2 hbB w4
  simp only [Act.put, List.setIfInBounds_toArray, List.set]
  refine ft_one 4 (by kernel_rfl) (by omega) ?_
  refine fe_effD rfl rfl rfl fun w4 hw4 => effAt_append_x opIs _ _ rfl rfl (OwnN.nil W8.heap.size _) (some ⟨b, p, none⟩) (xs.take m) m c HTK.out rfl (fun e => by cases e) (HRT.out.gr (HG8.out.trans hw4.1)) (by rw [HTK.out, List.length_nil]; omega) hw4.1.below.size ?_
  intro v1 W1 h1
  refine ⟨⟨fun w' => BlockAt w' B2 (opE.cs (⟨⟨xk, xv, xt, xs9, xa, xc + yc, xl ++ yl⟩, vD, (xl ++ yl).length, vq⟩ : OpC)).toArray 43 ∧ OwnN opE W8.heap.size w' v1 (xs.take m), fun a b h g => ⟨h.1.gr g, h.2.gr g⟩⟩, ⟨hw4.1.trans_below h1.below, ⟨BlockAt.grown hw4.2 h1.gb (fun e => by cases e), by have := h1.own; rwa [List.nil_append] at this⟩⟩, ?_⟩
  clear h1 hw4 W1 w4
  simp only [Act.put, List.setIfInBounds_toArray, List.set]
  refine ft_one 7 (by kernel_rfl) (by omega) ?_
  refine fe_effD rfl rfl rfl fun w4 hw4 => effAt_append_x opIs _ _ rfl rfl hw4.2.2 (some ⟨B2, 0, none⟩) [(⟨⟨xk, xv, xt, xs9, xa, xc + yc, xl ++ yl⟩, vD, (xl ++ yl).length, vq⟩ : OpC)] 1 1 rfl rfl (fun e => by cases e) (opRow _ hw4.2.1) (by rw [HTK.out, List.length_singleton]; omega) hw4.1.below.size ?_
  intro v5 W5 h5
  refine ⟨⟨fun w' => OwnN opE W8.heap.size w' v5 (xs.take m ++ [(⟨⟨xk, xv, xt, xs9, xa, xc + yc, xl ++ yl⟩, vD, (xl ++ yl).length, vq⟩ : OpC)]), fun a b h g => h.gr g⟩, ⟨hw4.1.trans_below h5.below, h5.own⟩, ?_⟩
  clear h5 hw4 W5 w4
  simp only [Act.put, List.setIfInBounds_toArray, List.set]
  refine ft_end ⟨by kernel_rfl, fun w9 hw9 => ?_⟩
  try simp only [List.drop_succ_cons, List.drop_zero]
  obtain ⟨hg9, ho9⟩ := hw9
  have g9 : Gr w w9 := HG8.out.trans hg9
  have HF := Lib.hid (show JPost base ((xs.take m).map OpC.o ++ [⟨xk, xv, xt, xs9, xa, xc + yc, xl ++ yl⟩]) w (.returned v5) w9 from ⟨v5, xs.take m ++ [(⟨⟨xk, xv, xt, xs9, xa, xc + yc, xl ++ yl⟩, vD, (xl ++ yl).length, vq⟩ : OpC)], rfl, ho9.more HG8.out.below.size, by simp, fun z hz => by
   rcases List.mem_append.1 hz with hz | hz
   ·exact (HX.out z (List.mem_of_mem_take hz)).gr g9
   ·rw [List.mem_singleton] at hz; subst hz; exact OpOwn.gr ⟨HO8.out.more hbase⟩ hg9, g9⟩)
  clear hg9 ho9 g9
  go_wp2
  go_ret
  exact HF.out
theorem own_op {b1 : Nat} {W : World} {v : Value} {xs : List OpC} (h : OwnN opE b1 W v xs) : ∃ A c, v = .slice A xs.length c ∧ xs.length ≤ c ∧ (A = none → c = 0) ∧ RowN opE W A xs := by
 obtain ⟨A, c, e, hle, _, hr⟩ := h.form opIs
 subst e
 refine ⟨A, c, rfl, hle, fun e9 => ?_, hr⟩
 rcases h.own.2 with ⟨e4, _⟩ | ⟨b, cap, cur, e4, _⟩
 ·simp only [Value.slice.injEq] at e4; exact e4.2.2
 ·simp only [Value.slice.injEq] at e4; rw [e9] at e4; cases e4.1
theorem rjoin_any (xs : List OpC) (hn9 : xs.length ≤ 2000) (v : Value) (y : OpC) (f : Bool) (base b1 : Nat) (w : World) (hbase : base ≤ w.heap.size) (hv : OwnN opE b1 w v xs) (hx : ∀ x ∈ xs, OpOwn base w x) (hy : OpOwn base w y) (h9 : ∀ x ∈ xs, x.o.l.length ≤ 1000000 ∧ 0 ≤ x.o.c ∧ x.o.c ≤ 1000000) (y9 : y.o.l.length ≤ 1000000 ∧ 0 ≤ y.o.c ∧ y.o.c ≤ 1000000) :
  Calls Tryz.prog 56 #[v, .agg (opE.cs y).toArray, .bool f] w (JPost base (joinK (xs.map OpC.o) y.o f) w) := by
 obtain ⟨A, c, rfl, hle, hA, hr⟩ := own_op hv
 obtain ⟨⟨yk, yv, yt, ys, ya, yc, yl⟩, yD, yn, yq⟩ := y
 obtain ⟨_, hyl, _⟩ := own_nn hy.own
 simp only at hyl
 by_cases hf : f = false
 ·have h := rjoin_copy1 xs xs.length rfl hn9 A c hA yk yv yt ys ya yc yD yn yq yl f base w hr hx hy hf
  have e : joinK (xs.map OpC.o) ⟨yk, yv, yt, ys, ya, yc, yl⟩ f = (xs ++ [(⟨⟨yk, yv, yt, ys, ya, yc, yl⟩, yD, yn, yq⟩ : OpC)]).map OpC.o := by
   unfold joinK
   split <;> simp [hf]
  rw [e]; exact h
 ·have hf : f = true := by simpa using hf
  rcases List.eq_nil_or_concat xs with rfl | ⟨zs, x, rfl⟩
  ·exact rjoin_copy2 [] 0 rfl (by omega) A c hA yk yv yt ys ya yc yD yn yq yl f base w hr hx hy hf rfl
  ·rw [List.concat_eq_append] at *
   have hL : (zs ++ [x]).length = zs.length + 1 := by simp
   have hl : (zs ++ [x])[(zs ++ [x]).length - 1]? = some x := by simp
   have hxx : x ∈ zs ++ [x] := by simp
   have hxo := hx x hxx
   obtain ⟨_, hxl, _⟩ := own_nn hxo.own
   have hx9 := h9 x hxx
   have e0 : (zs ++ [x]).map OpC.o = zs.map OpC.o ++ [x.o] := by simp
   rw [e0, joinK_last]
   by_cases hk : x.o.k = yk
   ·by_cases h2 : 2048 ≤ x.n
    ·rw [if_pos (by right; right; rw [hxl]; exact h2)]
     have h := rjoin_copy4 (zs ++ [x]) _ rfl hn9 A c hA yk yv yt ys ya yc yD yn yq yl f base w hr hx hy hf x hl (by omega) hk h2 (by rw [← hxl]; exact hx9.1)
     rw [List.append_assoc] at h
     rwa [show zs.map OpC.o ++ [x.o] ++ [(⟨yk, yv, yt, ys, ya, yc, yl⟩ : OpM)] = (zs ++ ([x] ++ [(⟨⟨yk, yv, yt, ys, ya, yc, yl⟩, yD, yn, yq⟩ : OpC)])).map OpC.o from by simp]
    ·have hno : ¬ (f = false ∨ x.o.k ≠ yk ∨ 2048 ≤ x.o.l.length) := by
      rw [hxl]
      rintro (h | h | h)
      ·rw [hf] at h; cases h
      ·exact h hk
      ·exact h2 h
     rw [if_neg hno]
     obtain ⟨b, p, rfl, _⟩ := hr.at_ (by simp)
     obtain ⟨⟨xk, xv, xt, xs9, xa, xc, xl⟩, xD, xn, xq⟩ := x
     subst hf
     have h := rjoin_more (zs ++ [_]) _ rfl hn9 b p c hle xk xv xt xs9 xa xc xD xn xq xl yk yv yt ys ya yc yD yn yq yl base w hbase hr hx hy (by omega) hl hk (by simpa using h2) (by rw [← hyl]; exact y9.1) hx9.2.1 hx9.2.2 y9.2.1 y9.2.2
     rw [show ∀ z : OpC, (zs ++ [z]).take ((zs ++ [z]).length - 1) = zs from fun z => by simp] at h
     exact h
   ·rw [if_pos (.inr (.inl hk))]
    have h := rjoin_copy3 (zs ++ [x]) _ rfl hn9 A c hA yk yv yt ys ya yc yD yn yq yl f base w hr hx hy hf x hl (by omega) hk
    rw [List.append_assoc] at h
    rwa [show zs.map OpC.o ++ [x.o] ++ [(⟨yk, yv, yt, ys, ya, yc, yl⟩ : OpM)] = (zs ++ ([x] ++ [(⟨⟨yk, yv, yt, ys, ya, yc, yl⟩, yD, yn, yq⟩ : OpC)])).map OpC.o from by simp]
def stepG (g : Nat → Option OpM) (s : List OpM × Bool) (i : Nat) : List OpM × Bool := match g i with
 | none => (s.1, false)
 | some o => (joinK s.1 o s.2, true)
def foldG (g : Nat → Option OpM) : Nat → List OpM × Bool
 | 0 => ([], false)
 | i + 1 => stepG g (foldG g i) i
def mrg (g : Nat → OpM) (i : Nat) : Nat → OpM
 | 0 => g i
 | n + 1 => ⟨(mrg g i n).k, (mrg g i n).v, (mrg g i n).t, (mrg g i n).s, (mrg g i n).a, (mrg g i n).c + (g (i + (n + 1))).c, (mrg g i n).l ++ (g (i + (n + 1))).l⟩
theorem mrg_k (g : Nat → OpM) (i n : Nat) : (mrg g i n).k = (g i).k := by
 induction n with
 | zero => rfl
 | succ n ih => exact ih
def Ends (L : List OpM) (f : Bool) (k : Int) : Prop := f = false ∨ ∀ x, L.getLast? = some x → x.k ≠ k ∨ 2048 ≤ x.l.length
theorem joinK_ends {L : List OpM} {o : OpM} {f : Bool} (h : Ends L f o.k) : joinK L o f = L ++ [o] := by
 unfold joinK
 split
 ·rfl
 ·next x hx =>
  refine if_pos ?_
  rcases h with h | h
  ·exact .inl h
  ·rcases h x hx with h | h
   ·exact .inr (.inl h)
   ·exact .inr (.inr h)
theorem foldG_run (g : Nat → Option OpM) (p : Nat → OpM) (i n : Nat) (L : List OpM) (f : Bool) (h0 : foldG g i = (L, f)) (hg : ∀ j, j ≤ n → g (i + j) = some (p (i + j))) (hk : ∀ j, j ≤ n → (p (i + j)).k = (p i).k) (he : Ends L f (p i).k) (hl : ∀ j, j < n → (mrg p i j).l.length < 2048) : foldG g (i + n + 1) = (L ++ [mrg p i n], true) := by
 induction n with
 | zero =>
  have := hg 0 (Nat.le_refl _)
  rw [Nat.add_zero] at this
  show stepG g (foldG g i) i = _
  rw [h0, stepG, this]
  simp only
  rw [joinK_ends he]
  rfl
 | succ n ih =>
  have h1 := ih (fun j hj => hg j (by omega)) (fun j hj => hk j (by omega)) (fun j hj => hl j (by omega))
  have h2 := hg (n + 1) (Nat.le_refl _)
  have h3 := hk (n + 1) (Nat.le_refl _)
  show stepG g (foldG g (i + n + 1)) (i + n + 1) = _
  rw [h1, stepG, show i + n + 1 = i + (n + 1) from rfl, h2]
  simp only
  rw [joinK_last, if_neg]
  ·rfl
  ·rintro (h | h | h)
   ·cases h
   ·exact h (by rw [mrg_k, h3])
   ·have := hl n (by omega)
    omega
theorem foldG_skip (g : Nat → Option OpM) (i n : Nat) (hg : ∀ j, j < n + 1 → g (i + j) = none) : foldG g (i + n + 1) = ((foldG g i).1, false) := by
 induction n with
 | zero =>
  have := hg 0 (by omega)
  rw [Nat.add_zero] at this
  show stepG g (foldG g i) i = _
  rw [stepG, this]
 | succ n ih =>
  have h1 := ih (fun j hj => hg j (by omega))
  have h2 := hg (n + 1) (by omega)
  show stepG g (foldG g (i + n + 1)) (i + n + 1) = _
  rw [h1, stepG, show i + n + 1 = i + (n + 1) from rfl, h2]
section
variable (d : Dev) (as_ r : Int) (need : Int → Bool × Bool)
def oneN (i : Nat) : OpM := oneK r i ((blkK d as_ i).getD zB) (need i).2
def genN (i : Nat) : Option OpM := if (need i).1 = true then some (oneN d as_ r need i) else none
theorem genN_some {i : Nat} (h : nextK d as_ need i ≠ 0) : genN d as_ r need i = some (oneN d as_ r need i) ∧ (oneN d as_ r need i).k = nextK d as_ need i := by
 unfold nextK at h ⊢
 unfold genN oneN oneK
 by_cases h1 : (need i).1 = false
 ·rw [if_pos h1] at h
  exact absurd rfl h
 ·have h1' : (need i).1 = true := by simpa using h1
  rw [if_neg h1, if_pos h1']
  refine ⟨rfl, ?_⟩
  by_cases h2 : (need i).2 = false
  ·rw [if_pos h2, if_pos h2]
  ·rw [if_neg h2, if_neg h2]
   split <;> rfl
theorem genN_none {i : Nat} (h : nextK d as_ need i = 0) : genN d as_ r need i = none := by
 unfold nextK at h
 unfold genN
 by_cases h1 : (need i).1 = false
 ·rw [if_neg (by rw [h1]; decide)]
 ·rw [if_neg h1] at h
  split at h
  ·cases h
  ·split at h <;> cases h
def datN (b n : Nat) : Byt := (List.range n).flatMap fun j => (blkK d as_ ((b + j : Nat) : Int)).getD zB
theorem datN_succ (b n : Nat) : datN d as_ b (n + 1) = datN d as_ b n ++ (blkK d as_ ((b + n : Nat) : Int)).getD zB := by
 unfold datN
 rw [List.range_succ, List.flatMap_append, List.flatMap_cons, List.flatMap_nil, List.append_nil]
theorem datN_len (hl : ∀ i, ((blkK d as_ i).getD zB).length = 256) (b n : Nat) : (datN d as_ b n).length = 256 * n := by
 induction n with
 | zero => rfl
 | succ n ih => rw [datN_succ, List.length_append, ih, hl]; omega
def runK (k : Int) (b n : Nat) : OpM := if k = 5 then ⟨5, r, 0, 0, 4 * (b : Int), 0, datN d as_ b n⟩ else if k = 6 then ⟨6, r, 0, 0, 4 * (b : Int), 4 * (n : Int), []⟩ else ⟨7, r, 0, 0, b, n, []⟩
theorem oneN_run {i : Nat} (h : nextK d as_ need i ≠ 0) : oneN d as_ r need i = runK d as_ r (nextK d as_ need i) i 1 := by
 have hk := (genN_some d as_ r need h).2
 have hd : datN d as_ i 1 = (blkK d as_ (i : Int)).getD zB := by simp [datN]
 unfold oneN at hk ⊢
 rw [← hk]
 generalize (blkK d as_ (i : Int)).getD zB = B at *
 unfold oneK runK
 by_cases h2 : (need i).2 = false
 ·rw [if_pos h2]; simp
 ·rw [if_neg h2]
  by_cases h3 : (B == zB) = true
  ·rw [if_pos h3]; simp
  ·rw [if_neg h3]; simp [hd]
theorem run_len (hl : ∀ i, ((blkK d as_ i).getD zB).length = 256) (k : Int) (b n : Nat) : (runK d as_ r k b n).l.length = if k = 5 then 256 * n else 0 := by
 unfold runK
 split
 ·exact datN_len d as_ hl b n
 ·split <;> rfl
theorem mrg_run {b n : Nat} (h : nextK d as_ need b ≠ 0) (hs : ∀ j, j ≤ n → nextK d as_ need ((b + j : Nat) : Int) = nextK d as_ need b) : mrg (oneN d as_ r need) b n = runK d as_ r (nextK d as_ need b) b (n + 1) := by
 induction n with
 | zero => exact oneN_run d as_ r need h
 | succ n ih =>
  have h1 := hs (n + 1) (Nat.le_refl _)
  have h2 := oneN_run d as_ r need (i := b + (n + 1)) (by rw [h1]; exact h)
  rw [h1] at h2
  rw [mrg, ih (fun j hj => hs j (by omega)), h2]
  generalize nextK d as_ need b = k at *
  unfold runK
  by_cases h5 : k = 5
  ·simp only [h5, if_true]
   rw [datN_succ d as_ b (n + 1), datN_succ d as_ (b + (n + 1)) 0]
   simp [datN]
  ·by_cases h6 : k = 6
   ·simp only [h6, show ¬ ((6 : Int) = 5) by decide, if_true, if_false, List.append_nil, OpM.mk.injEq, and_true, true_and]
    omega
   ·simp only [h5, h6, if_false, List.append_nil, OpM.mk.injEq, and_true, true_and]
    omega
def AtRun (N b : Nat) (L : List OpM) : Prop := ∃ f, foldG (genN d as_ r need) b = (L, f) ∧ (b < N → nextK d as_ need b ≠ 0 → Ends L f (nextK d as_ need b))
theorem atRun_start (N : Nat) : AtRun d as_ r need N 0 [] := ⟨false, rfl, fun _ _ => .inl rfl⟩
theorem atRun_end {N : Nat} {L : List OpM} (h : AtRun d as_ r need N N L) : (foldG (genN d as_ r need) N).1 = L := by
 obtain ⟨f, h, _⟩ := h
 rw [h]
structure RunIs (N : Nat) (k : Int) (b n : Nat) : Prop where
 one : 1 ≤ n
 most : b + n ≤ N
 same : ∀ j, j < n → nextK d as_ need ((b + j : Nat) : Int) = k
 eight : k = 5 → n ≤ 8
theorem runIs_start {N b : Nat} (h : b < N) : RunIs d as_ need N (nextK d as_ need b) b 1 := ⟨Nat.le_refl _, h, fun j hj => by
 obtain rfl : j = 0 := by omega
 rfl, fun _ => by omega⟩
theorem RunIs.more {N b n : Nat} {k : Int} (h : RunIs d as_ need N k b n) (hb : b + n < N) (hk : nextK d as_ need ((b + n : Nat) : Int) = k) (h8 : k = 5 → n < 8) : RunIs d as_ need N k b (n + 1) := ⟨by omega, hb, fun j hj => by
 rcases Nat.lt_or_ge j n with h1 | h1
 ·exact h.same j h1
 ·obtain rfl : j = n := by omega
  exact hk, fun e => by have := h8 e; omega⟩
theorem run_ex {N b : Nat} (h : b < N) : ∃ n, RunIs d as_ need N (nextK d as_ need b) b n ∧ (b + n < N → nextK d as_ need ((b + n : Nat) : Int) ≠ nextK d as_ need b ∨ (nextK d as_ need b = 5 ∧ n = 8)) := by
 suffices H : ∀ (f n : Nat), N - (b + n) ≤ f → RunIs d as_ need N (nextK d as_ need b) b n → ∃ n, RunIs d as_ need N (nextK d as_ need b) b n ∧ (b + n < N → nextK d as_ need ((b + n : Nat) : Int) ≠ nextK d as_ need b ∨ (nextK d as_ need b = 5 ∧ n = 8)) from H _ 1 (Nat.le_refl _) (runIs_start d as_ need h)
 intro f
 induction f with
 | zero => exact fun n hf hr => ⟨n, hr, fun hb => by omega⟩
 | succ f ih =>
  intro n hf hr
  by_cases hb : b + n < N
  ·by_cases hk : nextK d as_ need ((b + n : Nat) : Int) = nextK d as_ need b
   ·by_cases h8 : nextK d as_ need b = 5 ∧ n = 8
    ·exact ⟨n, hr, fun _ => .inr h8⟩
    ·exact ih (n + 1) (by omega) (hr.more d as_ need hb hk (fun h5 => by have := hr.eight h5; rcases Nat.lt_or_ge n 8 with h | h; exact h; exact absurd ⟨h5, by omega⟩ h8))
   ·exact ⟨n, hr, fun _ => .inl hk⟩
  ·exact ⟨n, hr, fun h => absurd h hb⟩
def behindK (L : List OpM) (k : Int) (b n : Nat) : List OpM := if k = 0 then L else L ++ [runK d as_ r k b n]
theorem atRun_next (hl : ∀ i, ((blkK d as_ i).getD zB).length = 256) {N b n : Nat} {k : Int} {L : List OpM} (hk : nextK d as_ need b = k) (h : AtRun d as_ r need N b L) (hr : RunIs d as_ need N k b n) (hE : b + n < N → nextK d as_ need ((b + n : Nat) : Int) ≠ k ∨ (k = 5 ∧ n = 8)) : AtRun d as_ r need N (b + n) (behindK d as_ r L k b n) := by
 obtain ⟨f, h0, he⟩ := h
 obtain ⟨m, rfl⟩ : ∃ m, n = m + 1 := ⟨n - 1, by have := hr.one; omega⟩
 by_cases hz : k = 0
 ·refine ⟨false, ?_, fun _ _ => .inl rfl⟩
  have := foldG_skip (genN d as_ r need) b m (fun j hj => genN_none d as_ r need (by rw [hr.same j hj, hz]))
  rw [behindK, if_pos hz, ← Nat.add_assoc, this, h0]
 ·have hkz : nextK d as_ need b ≠ 0 := by rw [hk]; exact hz
  have hm : ∀ j, j ≤ m → mrg (oneN d as_ r need) b j = runK d as_ r k b (j + 1) := fun j hj => by
   rw [← hk]
   exact mrg_run d as_ r need hkz (fun i hi => by rw [hr.same i (by omega), hk])
  have hsame : ∀ j, j ≤ m → (oneN d as_ r need (b + j)).k = k := fun j hj => by
   have h1 := hr.same j (by omega)
   have := (genN_some d as_ r need (i := b + j) (by rw [h1]; exact hz)).2
   rw [this, h1]
  have hb0 : (oneN d as_ r need b).k = k := hsame 0 (by omega)
  have := foldG_run (genN d as_ r need) (oneN d as_ r need) b m L f h0 (fun j hj => (genN_some d as_ r need (by rw [hr.same j (by omega)]; exact hz)).1) (fun j hj => by rw [hsame j hj, hb0]) (by rw [hb0, ← hk]; exact he (by have := hr.one; have := hr.most; omega) hkz) (fun j hj => by
   rw [hm j (by omega), run_len d as_ r hl]
   split
   ·next h5 => have := hr.eight h5; omega
   ·omega)
  refine ⟨true, ?_, fun hbn _ => .inr fun x hx => ?_⟩
  ·rw [behindK, if_neg hz, ← Nat.add_assoc, this, hm m (Nat.le_refl _)]
  ·rw [behindK, if_neg hz, List.getLast?_append] at hx
   simp only [List.getLast?_singleton, Option.some_or, Option.some.injEq] at hx
   subst hx
   rcases hE hbn with hE | ⟨h5, h8⟩
   ·left
    have hkk : (runK d as_ r k b (m + 1)).k = k := by rw [← hm m (Nat.le_refl _), mrg_k, hb0]
    rw [hkk]
    exact fun e => hE e.symm
   ·right
    rw [run_len d as_ r hl, if_pos h5]
    omega
end
set_option maxRecDepth 100000
set_option maxHeartbeats 4000000 in
theorem copy_any (base D : Nat) (d : Dev) (w : World) (h : DevAt base w D d) : Calls Tryz.prog 42 #[.pointer (some ⟨D, 0, none⟩)] w fun e w' => ∃ D2, e = .returned (.pointer (some ⟨D2, 0, none⟩)) ∧ DevAt w.heap.size w' D2 d ∧ Gr w w' := by
 obtain ⟨M, mb, h⟩ := h
 haveI := h.blk
 have x0 : w.cell? ⟨D, 0, none⟩ = some (.map (some M)) := (@block_cells _ _ 0 _ _ h.blk).trans rfl
 haveI : Old D w := h.blk.old
 have HD := Lib.hid h
 have HT := Lib.hid (fun W (hW : Gr w W) => there_yes D M W (HD.out.blk.gr hW))
 clear h
 go_enter Tryz.func42, Tryz.ntmps42
 go_wp2_with (first | (go_at_call 50; ((with_reducible refine (HT.out _ gri).mono ?_); rintro _ _ ⟨rfl, g1, rfl⟩)) | (go_at_call 11; ((with_reducible refine (new_any _).mono ?_); rintro _ W2 ⟨D2, rfl, hd2, hg2⟩; have g2 : Gr w W2 := Gr.trans gri hg2; have y0 : W2.cell? ⟨D, 0, none⟩ = some (.map (some M)) := (@block_cells _ _ 0 _ _ (HD.out.blk.gr g2)).trans rfl; have oD : Old D W2 := (HD.out.blk.gr g2).old)) | (at_range; refine wpList_rangeK rfl _ rfl Tryz.underlying99 (HD.out.all.gr g2) rfl ?_; intro w0 cnt0 hrg0 hg0))
 go_frame
 obtain ⟨M2, mb2, hd2⟩ := hd2
 have HD2 := Lib.hid (hd2.lower (Gr.below (gri : Gr w (grown w g1))).size)
 have hMl : M < w.heap.size := HD.out.all.lt
 have hW2 := g2.below.size
 have hR0 := hrg0.lt
 go_loopw [15] (fun _ wr => ∃ left cnt mb2, RangeAt .u64 wr M W2.heap.size (d.map (volF mb)) left cnt ∧ DevIn w.heap.size wr D2 M2 mb2 (goneF left d) ∧ Gr w wr) (fun _ wr => wr.rangeLeft M W2.heap.size)
 case atStart => exact ⟨_, _, mb2, hrg0, by rw [goneF_start]; exact HD2.out.gr hg0, g2.trans hg0⟩
 case round =>
  obtain ⟨left, cnt, mb3, hrg, hdd, hgw⟩ := hrel
  have HR := Lib.hid hrg
  have HDD := Lib.hid hdd
  have HG := Lib.hid hgw
  clear hrg hdd hgw
  go_wp2_with (first | (at_next; refine wpList_nextK rfl _ rfl rfl HR.out ?_ ?_) | go_in)
  ·intro _ hl0
   go_wp2
   go_ret
   exact ⟨D2, rfl, ⟨M2, mb3, by rw [← goneF_end (left := left) (fun p hp => hl0 p.1 _ p.1 p.2.1 p.2.2 hp rfl)]; exact HDD.out⟩, HG.out⟩
  ·intro k v w1 cnt1 k' xn xm hp hpe hlk hrg1 hlt hob hen
   obtain ⟨rfl, rfl⟩ : k' = k ∧ v = .agg #[.int .i64 xn, .map (some (mb k'))] := by
    simp only [volF, Prod.mk.injEq] at hpe
    exact ⟨hpe.1, hpe.2.symm⟩
   have g1w : Gr w w1 := Gr.of (hob.below (by have := g2.below.size; omega) HR.out.lt HG.out.below)
   have hdd1 := HDD.out.iter HR.out hob
   have HDD1 := Lib.hid hdd1
   have HR1 := Lib.hid hrg1
   have HLT := Lib.hid hlt
   have HX := Lib.hid (HD.out.vol _ hp)
   have z0 : w1.cell? ⟨D2, 0, none⟩ = some (.map (some M2)) := (@block_cells _ _ 0 _ _ hdd1.blk).trans rfl
   haveI : Old D2 w1 := hdd1.blk.old
   clear hdd1 hrg1 hlt hpe
   go_wp2_with (first | go_in)
   refine wp_region_treeT (inCls_ghost _) (Cls.none _) ⟨Gr.of ((Below.refl _ _).drew), trivial⟩ [0, 1, 2, 3, 4, 5, 6, 7, 8] 2 11 (by kernel_rfl) (by kernel_rfl) ?_
   simp only [pick, List.drop, List.take, List.nil_append, List.cons_append]
   repeat (refine wpCalm_step (fun K hK => ?_); go_simp; first | (refine hK _ ?_; clear hK K) | (apply Exists.intro; refine ⟨fun _ => ?_, hK _ ?_⟩; (skip); clear hK K))
   refine wpCalm_nil ?_
   refine ft_effD 9 (by kernel_rfl) (by omega) rfl rfl rfl fun w3 hw3 => effAt_call' 70 #[.map (some (mb k'))] (by go_simp) ((cloneMap_any (mb k') _ w3 (HX.out.gr (g1w.trans (Gr.trans gri hw3.1)))).mono fun e w4 hc => ⟨_, hc.1, ?_⟩)
   obtain ⟨he9, hc, hg⟩ := hc
   refine ⟨⟨fun w4 => MapAt .i64 w4 w3.heap.size (encK bkV xm), fun a b h g => h.gr g⟩, ⟨hw3.1.trans hg, hc⟩, ?_⟩
   have hsz := hw3.1.below.size
   have hb0 : w1.heap.size ≤ w3.heap.size := Nat.le_trans (inferInstance : From w1 _).le hsz
   generalize w3.heap.size = b at *
   clear he9 hc hg w4 e hw3 w3
   simp only [Act.put, List.setIfInBounds_toArray, List.set]
   refine ft_calmD 10 (.agg #[.int .i64 xn, .map (some b)]) (by kernel_rfl) (by omega) rfl rfl rfl (fun g => by unfold calmAt; go_simp) ?_
   simp only [Act.put, List.setIfInBounds_toArray, List.set]
   refine ft_end ⟨by kernel_rfl, fun w2 hw2 => ?_⟩
   try simp only [List.drop_succ_cons, List.drop_zero]
   have g3 : Gr w1 w2 := Gr.trans gri hw2.1
   refine wpList_updateK rfl _ _ _ rfl k' _ Tryz.underlying99 Tryz.underlying28 (HDD1.out.all.gr g3) rfl rfl rfl fun W' h1 h2 => ?_
   have hgp := goneF_put (left := left) HD.out.ok.sort hp
   have HD' := HDD1.out.put g3 k' (xn, xm) b hw2.2 (.inl hb0) h1 h2 (by rw [hgp]; exact goneF_ok HD.out.ok) (g1w.below.size)
   rw [hgp] at HD'
   have hr' := (HR1.out.gr g3).only (HDD1.out.all.gr g3) h2 (by have := HDD1.out.bM; omega)
   have hg' : Gr w W' := Gr.of (h2.below HDD1.out.bM (HDD1.out.all.gr g3).lt (g1w.trans g3).below)
   have HDF := Lib.hid HD'
   have HRF := Lib.hid hr'
   have HGF := Lib.hid hg'
   clear HD' hr' hg' h1 h2 hw2 g3 hsz
   try simp only [Act.put]
   go_wp2
   go_roundw
   case rel => exact ⟨fun z => left z && z != k', _, _, HRF.out, HDF.out, HGF.out⟩
   case measure => rw [HRF.out.left_eq, HR.out.left_eq]; exact HLT.out
def i64E : EK Int := ⟨fun x => [.int .i64 x], 1, 3, 34, 8, .int .i64 0, fun _ => True⟩
theorem i64Is : i64E.Is where
 len := fun _ _ => rfl
 one := fun x _ v hv => by
  simp only [i64E, List.mem_cons, List.mem_nil_iff, or_false] at hv
  subst hv; rfl
 pos := by decide
 hT := Tryz.underlying34
 hE := by kernel_rfl
 hz := rfl
 hb := by decide
def u64v (n : Int) : Value := .int .u64 n
theorem not_nodup {l : List Int} {j k : Nat} {y : Int} (hjk : j < k) (hj : l[j]? = some y) (hk : l[k]? = some y) : ¬ l.Nodup := by
 intro h
 obtain ⟨h1, e1⟩ := List.getElem?_eq_some_iff.1 hj
 obtain ⟨h2, e2⟩ := List.getElem?_eq_some_iff.1 hk
 exact List.pairwise_iff_getElem.1 h j k h1 h2 hjk (e1.trans e2.symm)
theorem take_one {l : List Int} {k : Nat} {x : Int} (hk : l[k]? = some x) : l.take (k + 1) = l.take k ++ [x] := by rw [List.take_add_one, hk]; rfl
theorem notin_snoc {l : List Int} {j : Nat} {x y : Int} (h : x ∉ l.take j) (hj : l[j]? = some y) (hne : ¬ y = x) : x ∉ l.take (j + 1) := by
 rw [take_one hj]
 simp only [List.mem_append, List.mem_singleton, not_or]
 exact ⟨h, fun e => hne e.symm⟩
theorem nodup_snoc {l : List Int} {k : Nat} {x : Int} (h : (l.take k).Nodup) (hn : x ∉ l.take k) (hk : l[k]? = some x) : (l.take (k + 1)).Nodup := by
 rw [take_one hk, List.nodup_append]
 exact ⟨h, by simp, fun a ha b hb => by rw [List.mem_singleton] at hb; subst hb; rintro rfl; exact hn ha⟩
theorem chkK_dup {d : Dev} {l : List Int} (h : ¬ l.Nodup) : chkK d l = 2 := by rw [chkK, if_neg h]
theorem chkK_miss {d : Dev} {l : List Int} {k : Nat} {x : Int} (h : l.Nodup) (hk : l[k]? = some x) (hx : (getK d x).isSome = false) : chkK d l = 6 := by
 rw [chkK, if_pos h, if_neg]
 intro ha
 have := List.all_eq_true.1 ha x (List.mem_of_getElem? hk)
 rw [hx] at this; cases this
theorem chkK_ok {d : Dev} {l : List Int} (h : l.Nodup) (hx : ∀ x ∈ l, (getK d x).isSome = true) : chkK d l = 0 := by
 rw [chkK, if_pos h, if_pos (List.all_eq_true.2 hx)]
def SzPost (base : Nat) (d : Dev) (l : List Int) (w : World) (e : Ending) (w' : World) : Prop :=
 ∃ v, e = .returned (.tuple #[v, .int .i64 (chkK d l)]) ∧ (if chkK d l = 0 then OwnN i64E w.heap.size w' v (l.map (sizeK d)) else v = .slice none 0 0) ∧ Gr w w'
set_option maxRecDepth 100000 in
set_option maxHeartbeats 2000000 in
theorem sizes_any (base D : Nat) (d : Dev) (l : List Int) (b p n c : Nat) (w : World) (h : DevAt base w D d) (hl : l.length = n) (hn : n ≤ 1000) (hb : b < w.heap.size) (hnc : n ≤ c) (hc : ∀ (j : Nat) x, l[j]? = some x → w.cell? ⟨b, p + j, none⟩ = some (.int .u64 x)) :
  Calls Tryz.prog 25 #[.pointer (some ⟨D, 0, none⟩), .slice (some ⟨b, p, none⟩) n c] w (SzPost base d l w) := by
 have HL := Lib.hid hl
 have HC := Lib.hid hc
 have HD := Lib.hid h
 haveI : Old b w := ⟨hb⟩
 clear hl hc h
 go_enter Tryz.func25, Tryz.ntmps25
 go_wp2
 go_loopw [19] (fun i wr => ∃ k : Nat, k ≤ n ∧ i = .int .i64 k ∧ (l.take k).Nodup ∧ Gr w wr) (fun i _ => n - (intOf i).toNat)
 case atStart => exact ⟨0, Nat.zero_le _, rfl, List.nodup_nil, Gr.refl _⟩
 case round =>
  obtain ⟨k, hk, rfl, hnd, hg⟩ := hrel
  obtain ⟨wo, hwo⟩ : ∃ wo : World, wo = wr := ⟨_, rfl⟩
  obtain ⟨g, rfl⟩ := hg
  have HN := Lib.hid hnd; clear hnd
  by_cases hlt : k < n
  ·obtain ⟨x, hx⟩ : ∃ x, l[k]? = some x := ⟨_, List.getElem?_eq_getElem (by rw [HL.out]; exact hlt)⟩
   have c1 := HC.out k x hx
   have HX := Lib.hid hx; clear hx
   go_wp2
   go_loopw [28] (fun i wr => ∃ j : Nat, j ≤ k ∧ i = .int .i64 j ∧ (x ∉ l.take j) ∧ wr = grown w g) (fun i _ => k - (intOf i).toNat)
   case atStart => exact ⟨0, Nat.zero_le _, rfl, by simp, rfl⟩
   case round =>
    obtain ⟨j, hj, rfl, hnx, rfl⟩ := hrel
    have HNX := Lib.hid hnx; clear hnx
    by_cases hlt2 : j < k
    ·obtain ⟨y, hy⟩ : ∃ y, l[j]? = some y := ⟨_, List.getElem?_eq_getElem (by rw [HL.out]; omega)⟩
     have c2 := HC.out j y hy
     have HY := Lib.hid hy; clear hy
     by_cases hq : y = x
     ·subst hq
      have hd := not_nodup hlt2 HY.out HX.out
      have HDU := Lib.hid (chkK_dup (d := d) hd)
      clear c1 hd
      go_wp2
      go_ret2
      exact ⟨_, by rw [HDU.out]; rfl, by rw [HDU.out]; exact rfl, gri⟩
     ·have hb : (y == x) = false := by simpa using hq
      have HQ := Lib.hid hq; clear hq
      go_wp2
      go_roundw
      case rel => exact ⟨j + 1, by omega, by go_num, notin_snoc HNX.out HY.out HQ.out, trivial⟩
      case measure => simp [intOf]; omega
    ·have : j = k := by omega
     subst this
     go_wp2
     go_roundw
     case rel => exact ⟨j + 1, by omega, by go_num, nodup_snoc HN.out HNX.out HX.out, gri⟩
     case measure => simp [intOf]; omega
  ·have : k = n := by omega
   subst this
   have hnd : l.Nodup := by have := HN.out; rwa [List.take_of_length_le (by rw [HL.out]; omega)] at this
   have HND := Lib.hid hnd; clear hnd
   go_wp2
   go_loopw [6, 39] (fun v i wr => ∃ j : Nat, j ≤ k ∧ i = .int .i64 j ∧ (∀ x ∈ l.take j, (getK d x).isSome = true) ∧ OwnN i64E w.heap.size wr v ((l.take j).map (sizeK d)) ∧ Gr w wr) (fun _ i _ => k - (intOf i).toNat)
   case atStart => exact ⟨0, Nat.zero_le _, rfl, by simp, OwnN.nil _ _, gri⟩
   case round =>
    obtain ⟨j, hj, rfl, hal, hown, hg⟩ := hrel
    haveI := grc_of hg
    haveI := from_of hg
    have HA := Lib.hid hal
    have HO := Lib.hid hown
    have HG := Lib.hid hg
    clear hal hown hg
    by_cases hlt : j < k
    ·obtain ⟨x, hx⟩ : ∃ x, l[j]? = some x := ⟨_, List.getElem?_eq_getElem (by rw [HL.out]; exact hlt)⟩
     have c1 : wr.cell? ⟨b, p + j, none⟩ = some (.int .u64 x) := (HG.out.below.cell (p := ⟨b, p + j, none⟩) hb).trans (HC.out j x hx)
     have HX := Lib.hid hx; clear hx
     haveI : Old b wr := ⟨Nat.lt_of_lt_of_le hb HG.out.below.size⟩
     cases hs : (getK d x).isSome
     ·have HM := Lib.hid (chkK_miss HND.out HX.out hs); 
      go_wp2_with ((go_at_call 60; ((with_reducible refine (size_any base D d x _ (HD.out.gr gri)).mono ?_); rintro _ _ ⟨rfl, g1, rfl⟩)))
      go_ret2
      exact ⟨_, by rw [HM.out]; rfl, by rw [HM.out]; exact rfl, gri⟩
     ·have HS := Lib.hid hs; 
      go_wp2_with (first | (go_at_call 60; ((with_reducible refine (size_any base D d x _ (HD.out.gr gri)).mono ?_); rintro _ _ ⟨rfl, g1, rfl⟩)) | (at_builtin; refine wp_append_n i64Is rfl _ _ rfl rfl (HO.out.gr gri) _ 0 [sizeK d x] 1 1 rfl rfl (fun _ _ => trivial) (CellsN.block _ inferInstance rfl) (by simp; omega) past (by simp) ?_; intro v1 W1 h1; have H1 := Lib.hid h1; clear h1))
      go_roundw
      case rel => exact ⟨j + 1, by omega, by go_num, by
       intro z hz
       rw [take_one HX.out] at hz
       rcases List.mem_append.1 hz with hz | hz
       ·exact HA.out z hz
       ·rw [List.mem_singleton] at hz; subst hz; exact HS.out, by rw [take_one HX.out, List.map_append]; exact H1.out.own, by haveI := H1.out.grc w (Nat.le_refl _); exact gri⟩
      case measure => simp [intOf]; omega
    ·have : j = k := by omega
     subst this
     have e : l.take j = l := List.take_of_length_le (by rw [HL.out]; omega)
     have HZ := Lib.hid (chkK_ok HND.out (fun x hx => HA.out x (by rw [e]; exact hx)))
     have HE := Lib.hid e; clear e
     go_wp2
     go_ret2
     exact ⟨_, by rw [HZ.out]; rfl, by rw [HZ.out, if_pos rfl]; have := HO.out; rw [HE.out] at this; exact this, gri⟩
end Go.Proofs.YtipeblmgochdfaaGreat
