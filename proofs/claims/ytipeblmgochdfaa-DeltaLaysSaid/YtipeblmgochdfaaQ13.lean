/- The reference of layer 29: join. Conditions: the operations stand in memory; at most 2000. The reference of layer 29: join, the last one made greater. Conditions: as XRJo. The reference of layer 29: join, whole. Conditions: at most 2000 operations; small numbers. delta.sizes. Conditions: the device stands in memory; at most 1000 numbers. The reference of layer 29: Kind, Check. Conditions: the device stands in memory. The reference of layer 29: alike. Conditions: the device stands in memory. -/
import Derived.Test.YtipeblmgochdfaaQ12
import Derived.Test.YtipeblmgochdfaaQ07
import Derived.Test.YtipeblmgochdfaaQ05
namespace Go.Proofs.Ytipeblmgochdfaa
open Go.RowKit
set_option linter.unusedVariables false
set_option linter.unusedSimpArgs false
set_option linter.unnecessarySimpa false
set_option maxRecDepth 100000
set_option maxHeartbeats 4000000
section
variable {P : Program} {md : Region.Mode} {W : World} {S : Type} {I : S → World → Prop} {ops : Array Oper} {L : Array Bool → S → Act → Prop} {f n : Nat} {listed : Array Bool} {s : S} {a : Act}
theorem ft_two (i j : Nat) (hr : Region.ready md ops listed = [i, j]) (hi : i < n) (hj : j < n) (h1 : feOp P ops W I i (feT P md ops W I n L f (listed.setIfInBounds i true)) s a) (h2 : feOp P ops W I j (feT P md ops W I n L f (listed.setIfInBounds j true)) s a) : feT P md ops W I n L (f + 1) listed s a :=
 ⟨fun h0 => by (rw [hr] at h0; cases h0), fun k hk => by
  rw [hr] at hk
  rcases List.mem_cons.1 hk with rfl | hk
  ·exact ⟨hi, h1⟩
  ·obtain rfl : k = j := by simpa using hk
   exact ⟨hj, h2⟩⟩
theorem fe_effD {K : S → Act → Prop} {i : Nat} {o : Oper} {d : Tmp} (ho : ops[i]? = some o) (hg : o.guard = none) (hd : o.dst = some d) (h : ∀ w, I s w → EffAt P o a w (fun v w' => ∃ s', I s' w' ∧ K s' (a.put (some d) v))) : feOp P ops W I i K s a :=
 fe_eff o ho hg (by rw [hd]; exact h)
end
def joinK (l : List OpM) (o : OpM) (f : Bool) : List OpM := match l.getLast? with
 | none => l ++ [o]
 | some x => if f = false ∨ x.k ≠ o.k ∨ 2048 ≤ x.l.length then l ++ [o] else l.dropLast ++ [⟨x.k, x.v, x.t, x.s, x.a, x.c + o.c, x.l ++ o.l⟩]
theorem joinK_last (l : List OpM) (x o : OpM) (f : Bool) : joinK (l ++ [x]) o f = if f = false ∨ x.k ≠ o.k ∨ 2048 ≤ x.l.length then l ++ [x] ++ [o] else l ++ [⟨x.k, x.v, x.t, x.s, x.a, x.c + o.c, x.l ++ o.l⟩] := by simp [joinK]
theorem opRow {W : World} {B : Nat} (x : OpC) (h : BlockAt W B (opE.cs x).toArray 51) : RowN opE W (some ⟨B, 0, none⟩) [x] :=
 ⟨fun _ _ => trivial, fun _ => ⟨B, 0, rfl, h.lt, CellsN.block x h (by simp)⟩⟩
def JPost (base : Nat) (ys : List OpM) (w : World) (e : Ending) (w' : World) : Prop :=
 ∃ v zs, e = .returned v ∧ OwnN opE w.heap.size w' v zs ∧ zs.map (·.o) = ys ∧ (∀ z ∈ zs, OpOwn base w' z) ∧ Gr w w'
theorem OpOwn.gr {base : Nat} {W W' : World} {x : OpC} (h : OpOwn base W x) (g : Gr W W') : OpOwn base W' x := ⟨h.own.gr g⟩
theorem OpOwn.keepA {base b2 : Nat} {W W' : World} {x : OpC} {v v' : Value} {xs ys : List OpC} (h : OpOwn base W x) (k : AppN opE b2 W v xs ys v' W') : OpOwn base W' x := ⟨h.own.keep fun q hq => by
 rcases h.own.own.2 with ⟨e, _⟩ | ⟨g, cap, cur, e, _, hh, _⟩
 ·simp only [Value.slice.injEq] at e
  rw [e.1] at hq
  cases hq
 ·simp only [Value.slice.injEq] at e
  rw [e.1] at hq
  have : g = q := by simpa [Value.ownBlock] using hq
  subst this
  exact k.block g (Array.getElem?_eq_some_iff.1 hh).1 (fun cs f e2 => by rw [hh] at e2; cases e2)⟩
theorem rjoin_copy1 (xs : List OpC) (n : Nat) (hn : xs.length = n) (hn9 : n ≤ 2000) (A : Option Addr) (c : Nat) (hA : A = none → c = 0) (yk yv yt ys ya yc : Int) (yD : Option Addr) (yn yq : Nat) (yl : Byt) (f : Bool) (base : Nat) (w : World) (hr : RowN opE w A xs) (hx : ∀ x ∈ xs, OpOwn base w x) (hy : OpOwn base w ⟨⟨yk, yv, yt, ys, ya, yc, yl⟩, yD, yn, yq⟩) (hf : f = false) :
  Calls Try.prog 30 #[.slice A n c, .agg #[.int .i64 yk, .int .u64 yv, .int .u64 yt, .int .i64 ys, .int .i64 ya, .int .i64 yc, .slice yD yn yq], .bool f] w (JPost base ((xs ++ [(⟨⟨yk, yv, yt, ys, ya, yc, yl⟩, yD, yn, yq⟩ : OpC)]).map OpC.o) w) := by
 have HN := Lib.hid hn
 have HR := Lib.hid hr
 have HX := Lib.hid hx
 have HY := Lib.hid hy
 subst hf
 clear hn hr hx hy
 go_enter Try.func30, Try.ntmps30
 go_wp2
 refine wp_region_grow (by kernel_rfl) (by kernel_rfl) ?_
 repeat (go_big_quiet_step (fail))
 refine wpQuiet_nil ?_
 intro g1
 obtain ⟨W5, hW5⟩ : ∃ W5, W5 = grown _ g1 := ⟨_, rfl⟩
 have b4 : BlockAt W5 w.heap.size #[.int .i64 yk, .int .u64 yv, .int .u64 yt, .int .i64 ys, .int .i64 ya, .int .i64 yc, .slice yD yn yq] 51 := by rw [hW5]; infer_instance
 have g5 : Gr w W5 := by rw [hW5]; exact gri
 rw [← hW5]
 clear hW5
 haveI := b4.old
 have o0 : W5.cell? ⟨w.heap.size, 0, none⟩ = some (.int .i64 yk) := (@block_cells _ _ 0 _ _ b4).trans rfl
 have o1 : W5.cell? ⟨w.heap.size, 1, none⟩ = some (.int .u64 yv) := (@block_cells _ _ 1 _ _ b4).trans rfl
 have o2 : W5.cell? ⟨w.heap.size, 2, none⟩ = some (.int .u64 yt) := (@block_cells _ _ 2 _ _ b4).trans rfl
 have o3 : W5.cell? ⟨w.heap.size, 3, none⟩ = some (.int .i64 ys) := (@block_cells _ _ 3 _ _ b4).trans rfl
 have o4 : W5.cell? ⟨w.heap.size, 4, none⟩ = some (.int .i64 ya) := (@block_cells _ _ 4 _ _ b4).trans rfl
 have o5 : W5.cell? ⟨w.heap.size, 5, none⟩ = some (.int .i64 yc) := (@block_cells _ _ 5 _ _ b4).trans rfl
 have o6 : W5.cell? ⟨w.heap.size, 6, none⟩ = some (.slice yD yn yq) := (@block_cells _ _ 6 _ _ b4).trans rfl
 have HG5 := Lib.hid g5
 go_wp2
 refine wp_region_treeT (inCls_ghost _) (Cls.none _) ⟨Gr.of ((Below.refl _ _).drew), trivial⟩ [0, 2] 3 5 (by kernel_rfl) (by kernel_rfl) ?_
 simp only [pick, List.drop_succ_cons, List.drop_zero, List.take_succ_cons, List.take_zero, List.nil_append, List.cons_append]
 repeat (refine wpCalm_step (fun K hK => ?_); go_simp; first | (refine hK _ ?_; clear hK K) | (apply Exists.intro; refine ⟨fun _ => ?_, hK _ ?_⟩; (skip); clear hK K))
 refine wpCalm_nil ?_
 refine ft_two 1 3 (by kernel_rfl) (by omega) (by omega) ?_ ?_
 ·refine fe_effD rfl rfl rfl fun w4 hw4 => effAt_append_x opIs _ _ rfl rfl (OwnN.nil W5.heap.size _) A xs n c HN.out rfl hA (HR.out.gr (HG5.out.trans hw4.1)) (by rw [HN.out, List.length_nil]; omega) hw4.1.below.size ?_
  intro v1 W1 h1
  refine ⟨⟨fun w' => OwnN opE W5.heap.size w' v1 xs, fun a b h g => h.gr g⟩, ⟨hw4.1.trans_below h1.below, by have := h1.own; rwa [List.nil_append] at this⟩, ?_⟩
  clear h1 hw4 W1 w4
  simp only [Act.put, List.setIfInBounds_toArray, List.set_cons_zero, List.set_cons_succ]
  refine ft_one 3 (by kernel_rfl) (by omega) ?_
  refine fe_effD rfl rfl rfl fun w4 hw4 => effAt_ok (.slice (some ⟨w4.heap.size, 0, none⟩) 1 1) (w' := w4.alloc (.cells #[.int .i64 yk, .int .u64 yv, .int .u64 yt, .int .i64 ys, .int .i64 ya, .int .i64 yc, .slice yD yn yq] 51)) (by go_simp) ?_
  obtain ⟨B2, hB2⟩ : ∃ B2, B2 = w4.heap.size := ⟨_, rfl⟩
  have hbB : BlockAt (w4.alloc (.cells #[.int .i64 yk, .int .u64 yv, .int .u64 yt, .int .i64 ys, .int .i64 ya, .int .i64 yc, .slice yD yn yq] 51)) B2 (opE.cs (⟨⟨yk, yv, yt, ys, ya, yc, yl⟩, yD, yn, yq⟩ : OpC)).toArray 51 := by rw [hB2]; exact (inferInstance : BlockAt (w4.alloc (.cells #[.int .i64 yk, .int .u64 yv, .int .u64 yt, .int .i64 ys, .int .i64 ya, .int .i64 yc, .slice yD yn yq] 51)) w4.heap.size #[.int .i64 yk, .int .u64 yv, .int .u64 yt, .int .i64 ys, .int .i64 ya, .int .i64 yc, .slice yD yn yq] 51)
  rw [← hB2]
  refine ⟨⟨fun w' => BlockAt w' B2 (opE.cs (⟨⟨yk, yv, yt, ys, ya, yc, yl⟩, yD, yn, yq⟩ : OpC)).toArray 51 ∧ OwnN opE W5.heap.size w' v1 xs, fun a b h g => ⟨h.1.gr g, h.2.gr g⟩⟩, ⟨hw4.1.trans gri, ⟨hbB, hw4.2.gr gri⟩⟩, ?_⟩
  clear hw4 hB2 hbB w4
  simp only [Act.put, List.setIfInBounds_toArray, List.set_cons_zero, List.set_cons_succ]
  refine ft_one 4 (by kernel_rfl) (by omega) ?_
  refine fe_effD rfl rfl rfl fun w4 hw4 => effAt_append_x opIs _ _ rfl rfl hw4.2.2 (some ⟨B2, 0, none⟩) [⟨⟨yk, yv, yt, ys, ya, yc, yl⟩, yD, yn, yq⟩] 1 1 rfl rfl (fun e => by cases e) (opRow _ hw4.2.1) (by rw [HN.out, List.length_singleton]; omega) hw4.1.below.size ?_
  intro v2 W2 h2
  refine ⟨⟨fun w' => OwnN opE W5.heap.size w' v2 (xs ++ [⟨⟨yk, yv, yt, ys, ya, yc, yl⟩, yD, yn, yq⟩]), fun a b h g => h.gr g⟩, ⟨hw4.1.trans_below h2.below, h2.own⟩, ?_⟩
  clear h2 hw4 W2 w4
  simp only [Act.put, List.setIfInBounds_toArray, List.set_cons_zero, List.set_cons_succ]
  refine ft_end ⟨by kernel_rfl, fun w9 hw9 => ?_⟩
  try simp only [List.drop_succ_cons, List.drop_zero]
  obtain ⟨hg9, ho9⟩ := hw9
  have g9 : Gr w w9 := HG5.out.trans hg9
  have HF := Lib.hid (show JPost base ((xs ++ [(⟨⟨yk, yv, yt, ys, ya, yc, yl⟩, yD, yn, yq⟩ : OpC)]).map OpC.o) w (.returned v2) w9 from ⟨v2, xs ++ [⟨⟨yk, yv, yt, ys, ya, yc, yl⟩, yD, yn, yq⟩], rfl, ho9.more HG5.out.below.size, rfl, fun z hz => by
   rcases List.mem_append.1 hz with hz | hz
   ·exact (HX.out z hz).gr g9
   ·rw [List.mem_singleton] at hz; subst hz; exact HY.out.gr g9, g9⟩)
  clear hg9 ho9 g9
  go_wp2
  go_ret
  exact HF.out
 ·refine fe_effD rfl rfl rfl fun w4 hw4 => effAt_ok (.slice (some ⟨w4.heap.size, 0, none⟩) 1 1) (w' := w4.alloc (.cells #[.int .i64 yk, .int .u64 yv, .int .u64 yt, .int .i64 ys, .int .i64 ya, .int .i64 yc, .slice yD yn yq] 51)) (by go_simp) ?_
  obtain ⟨B2, hB2⟩ : ∃ B2, B2 = w4.heap.size := ⟨_, rfl⟩
  have hbB : BlockAt (w4.alloc (.cells #[.int .i64 yk, .int .u64 yv, .int .u64 yt, .int .i64 ys, .int .i64 ya, .int .i64 yc, .slice yD yn yq] 51)) B2 (opE.cs (⟨⟨yk, yv, yt, ys, ya, yc, yl⟩, yD, yn, yq⟩ : OpC)).toArray 51 := by rw [hB2]; exact (inferInstance : BlockAt (w4.alloc (.cells #[.int .i64 yk, .int .u64 yv, .int .u64 yt, .int .i64 ys, .int .i64 ya, .int .i64 yc, .slice yD yn yq] 51)) w4.heap.size #[.int .i64 yk, .int .u64 yv, .int .u64 yt, .int .i64 ys, .int .i64 ya, .int .i64 yc, .slice yD yn yq] 51)
  rw [← hB2]
  refine ⟨⟨fun w' => BlockAt w' B2 (opE.cs (⟨⟨yk, yv, yt, ys, ya, yc, yl⟩, yD, yn, yq⟩ : OpC)).toArray 51, fun a b h g => h.gr g⟩, ⟨hw4.1.trans gri, hbB⟩, ?_⟩
  clear hw4 hB2 hbB w4
  simp only [Act.put, List.setIfInBounds_toArray, List.set_cons_zero, List.set_cons_succ]
  refine ft_one 1 (by kernel_rfl) (by omega) ?_
  refine fe_effD rfl rfl rfl fun w4 hw4 => effAt_append_x opIs _ _ rfl rfl (OwnN.nil W5.heap.size _) A xs n c HN.out rfl hA (HR.out.gr (HG5.out.trans hw4.1)) (by rw [HN.out, List.length_nil]; omega) hw4.1.below.size ?_
  intro v1 W1 h1
  refine ⟨⟨fun w' => BlockAt w' B2 (opE.cs (⟨⟨yk, yv, yt, ys, ya, yc, yl⟩, yD, yn, yq⟩ : OpC)).toArray 51 ∧ OwnN opE W5.heap.size w' v1 xs, fun a b h g => ⟨h.1.gr g, h.2.gr g⟩⟩, ⟨hw4.1.trans_below h1.below, ⟨BlockAt.grown hw4.2 h1.gb (fun e => by cases e), by have := h1.own; rwa [List.nil_append] at this⟩⟩, ?_⟩
  clear h1 hw4 W1 w4
  simp only [Act.put, List.setIfInBounds_toArray, List.set_cons_zero, List.set_cons_succ]
  refine ft_one 4 (by kernel_rfl) (by omega) ?_
  refine fe_effD rfl rfl rfl fun w4 hw4 => effAt_append_x opIs _ _ rfl rfl hw4.2.2 (some ⟨B2, 0, none⟩) [⟨⟨yk, yv, yt, ys, ya, yc, yl⟩, yD, yn, yq⟩] 1 1 rfl rfl (fun e => by cases e) (opRow _ hw4.2.1) (by rw [HN.out, List.length_singleton]; omega) hw4.1.below.size ?_
  intro v2 W2 h2
  refine ⟨⟨fun w' => OwnN opE W5.heap.size w' v2 (xs ++ [⟨⟨yk, yv, yt, ys, ya, yc, yl⟩, yD, yn, yq⟩]), fun a b h g => h.gr g⟩, ⟨hw4.1.trans_below h2.below, h2.own⟩, ?_⟩
  clear h2 hw4 W2 w4
  simp only [Act.put, List.setIfInBounds_toArray, List.set_cons_zero, List.set_cons_succ]
  refine ft_end ⟨by kernel_rfl, fun w9 hw9 => ?_⟩
  try simp only [List.drop_succ_cons, List.drop_zero]
  obtain ⟨hg9, ho9⟩ := hw9
  have g9 : Gr w w9 := HG5.out.trans hg9
  have HF := Lib.hid (show JPost base ((xs ++ [(⟨⟨yk, yv, yt, ys, ya, yc, yl⟩, yD, yn, yq⟩ : OpC)]).map OpC.o) w (.returned v2) w9 from ⟨v2, xs ++ [⟨⟨yk, yv, yt, ys, ya, yc, yl⟩, yD, yn, yq⟩], rfl, ho9.more HG5.out.below.size, rfl, fun z hz => by
   rcases List.mem_append.1 hz with hz | hz
   ·exact (HX.out z hz).gr g9
   ·rw [List.mem_singleton] at hz; subst hz; exact HY.out.gr g9, g9⟩)
  clear hg9 ho9 g9
  go_wp2
  go_ret
  exact HF.out
theorem rjoin_copy2 (xs : List OpC) (n : Nat) (hn : xs.length = n) (hn9 : n ≤ 2000) (A : Option Addr) (c : Nat) (hA : A = none → c = 0) (yk yv yt ys ya yc : Int) (yD : Option Addr) (yn yq : Nat) (yl : Byt) (f : Bool) (base : Nat) (w : World) (hr : RowN opE w A xs) (hx : ∀ x ∈ xs, OpOwn base w x) (hy : OpOwn base w ⟨⟨yk, yv, yt, ys, ya, yc, yl⟩, yD, yn, yq⟩) (hf : f = true) (h0 : n = 0) :
  Calls Try.prog 30 #[.slice A n c, .agg #[.int .i64 yk, .int .u64 yv, .int .u64 yt, .int .i64 ys, .int .i64 ya, .int .i64 yc, .slice yD yn yq], .bool f] w (JPost base ((xs ++ [(⟨⟨yk, yv, yt, ys, ya, yc, yl⟩, yD, yn, yq⟩ : OpC)]).map OpC.o) w) := by
 have HN := Lib.hid hn
 have HR := Lib.hid hr
 have HX := Lib.hid hx
 have HY := Lib.hid hy
 subst hf
 subst h0
 clear hn hr hx hy
 go_enter Try.func30, Try.ntmps30
 go_wp2
 refine wp_region_grow (by kernel_rfl) (by kernel_rfl) ?_
 repeat (go_big_quiet_step (fail))
 refine wpQuiet_nil ?_
 intro g1
 obtain ⟨W5, hW5⟩ : ∃ W5, W5 = grown _ g1 := ⟨_, rfl⟩
 have b4 : BlockAt W5 w.heap.size #[.int .i64 yk, .int .u64 yv, .int .u64 yt, .int .i64 ys, .int .i64 ya, .int .i64 yc, .slice yD yn yq] 51 := by rw [hW5]; infer_instance
 have g5 : Gr w W5 := by rw [hW5]; exact gri
 rw [← hW5]
 clear hW5
 haveI := b4.old
 have o0 : W5.cell? ⟨w.heap.size, 0, none⟩ = some (.int .i64 yk) := (@block_cells _ _ 0 _ _ b4).trans rfl
 have o1 : W5.cell? ⟨w.heap.size, 1, none⟩ = some (.int .u64 yv) := (@block_cells _ _ 1 _ _ b4).trans rfl
 have o2 : W5.cell? ⟨w.heap.size, 2, none⟩ = some (.int .u64 yt) := (@block_cells _ _ 2 _ _ b4).trans rfl
 have o3 : W5.cell? ⟨w.heap.size, 3, none⟩ = some (.int .i64 ys) := (@block_cells _ _ 3 _ _ b4).trans rfl
 have o4 : W5.cell? ⟨w.heap.size, 4, none⟩ = some (.int .i64 ya) := (@block_cells _ _ 4 _ _ b4).trans rfl
 have o5 : W5.cell? ⟨w.heap.size, 5, none⟩ = some (.int .i64 yc) := (@block_cells _ _ 5 _ _ b4).trans rfl
 have o6 : W5.cell? ⟨w.heap.size, 6, none⟩ = some (.slice yD yn yq) := (@block_cells _ _ 6 _ _ b4).trans rfl
 have HG5 := Lib.hid g5
 go_wp2
 refine wp_region_treeT (inCls_ghost _) (Cls.none _) ⟨Gr.of ((Below.refl _ _).drew), trivial⟩ [0, 2] 3 5 (by kernel_rfl) (by kernel_rfl) ?_
 simp only [pick, List.drop_succ_cons, List.drop_zero, List.take_succ_cons, List.take_zero, List.nil_append, List.cons_append]
 repeat (refine wpCalm_step (fun K hK => ?_); go_simp; first | (refine hK _ ?_; clear hK K) | (apply Exists.intro; refine ⟨fun _ => ?_, hK _ ?_⟩; (skip); clear hK K))
 refine wpCalm_nil ?_
 refine ft_two 1 3 (by kernel_rfl) (by omega) (by omega) ?_ ?_
 ·refine fe_effD rfl rfl rfl fun w4 hw4 => effAt_append_x opIs _ _ rfl rfl (OwnN.nil W5.heap.size _) A xs 0 c HN.out rfl hA (HR.out.gr (HG5.out.trans hw4.1)) (by rw [HN.out, List.length_nil]; omega) hw4.1.below.size ?_
  intro v1 W1 h1
  refine ⟨⟨fun w' => OwnN opE W5.heap.size w' v1 xs, fun a b h g => h.gr g⟩, ⟨hw4.1.trans_below h1.below, by have := h1.own; rwa [List.nil_append] at this⟩, ?_⟩
  clear h1 hw4 W1 w4
  simp only [Act.put, List.setIfInBounds_toArray, List.set_cons_zero, List.set_cons_succ]
  refine ft_one 3 (by kernel_rfl) (by omega) ?_
  refine fe_effD rfl rfl rfl fun w4 hw4 => effAt_ok (.slice (some ⟨w4.heap.size, 0, none⟩) 1 1) (w' := w4.alloc (.cells #[.int .i64 yk, .int .u64 yv, .int .u64 yt, .int .i64 ys, .int .i64 ya, .int .i64 yc, .slice yD yn yq] 51)) (by go_simp) ?_
  obtain ⟨B2, hB2⟩ : ∃ B2, B2 = w4.heap.size := ⟨_, rfl⟩
  have hbB : BlockAt (w4.alloc (.cells #[.int .i64 yk, .int .u64 yv, .int .u64 yt, .int .i64 ys, .int .i64 ya, .int .i64 yc, .slice yD yn yq] 51)) B2 (opE.cs (⟨⟨yk, yv, yt, ys, ya, yc, yl⟩, yD, yn, yq⟩ : OpC)).toArray 51 := by rw [hB2]; exact (inferInstance : BlockAt (w4.alloc (.cells #[.int .i64 yk, .int .u64 yv, .int .u64 yt, .int .i64 ys, .int .i64 ya, .int .i64 yc, .slice yD yn yq] 51)) w4.heap.size #[.int .i64 yk, .int .u64 yv, .int .u64 yt, .int .i64 ys, .int .i64 ya, .int .i64 yc, .slice yD yn yq] 51)
  rw [← hB2]
  refine ⟨⟨fun w' => BlockAt w' B2 (opE.cs (⟨⟨yk, yv, yt, ys, ya, yc, yl⟩, yD, yn, yq⟩ : OpC)).toArray 51 ∧ OwnN opE W5.heap.size w' v1 xs, fun a b h g => ⟨h.1.gr g, h.2.gr g⟩⟩, ⟨hw4.1.trans gri, ⟨hbB, hw4.2.gr gri⟩⟩, ?_⟩
  clear hw4 hB2 hbB w4
  simp only [Act.put, List.setIfInBounds_toArray, List.set_cons_zero, List.set_cons_succ]
  refine ft_one 4 (by kernel_rfl) (by omega) ?_
  refine fe_effD rfl rfl rfl fun w4 hw4 => effAt_append_x opIs _ _ rfl rfl hw4.2.2 (some ⟨B2, 0, none⟩) [⟨⟨yk, yv, yt, ys, ya, yc, yl⟩, yD, yn, yq⟩] 1 1 rfl rfl (fun e => by cases e) (opRow _ hw4.2.1) (by rw [HN.out, List.length_singleton]; omega) hw4.1.below.size ?_
  intro v2 W2 h2
  refine ⟨⟨fun w' => OwnN opE W5.heap.size w' v2 (xs ++ [⟨⟨yk, yv, yt, ys, ya, yc, yl⟩, yD, yn, yq⟩]), fun a b h g => h.gr g⟩, ⟨hw4.1.trans_below h2.below, h2.own⟩, ?_⟩
  clear h2 hw4 W2 w4
  simp only [Act.put, List.setIfInBounds_toArray, List.set_cons_zero, List.set_cons_succ]
  refine ft_end ⟨by kernel_rfl, fun w9 hw9 => ?_⟩
  try simp only [List.drop_succ_cons, List.drop_zero]
  obtain ⟨hg9, ho9⟩ := hw9
  have g9 : Gr w w9 := HG5.out.trans hg9
  have HF := Lib.hid (show JPost base ((xs ++ [(⟨⟨yk, yv, yt, ys, ya, yc, yl⟩, yD, yn, yq⟩ : OpC)]).map OpC.o) w (.returned v2) w9 from ⟨v2, xs ++ [⟨⟨yk, yv, yt, ys, ya, yc, yl⟩, yD, yn, yq⟩], rfl, ho9.more HG5.out.below.size, rfl, fun z hz => by
   rcases List.mem_append.1 hz with hz | hz
   ·exact (HX.out z hz).gr g9
   ·rw [List.mem_singleton] at hz; subst hz; exact HY.out.gr g9, g9⟩)
  clear hg9 ho9 g9
  go_wp2
  go_ret
  exact HF.out
 ·refine fe_effD rfl rfl rfl fun w4 hw4 => effAt_ok (.slice (some ⟨w4.heap.size, 0, none⟩) 1 1) (w' := w4.alloc (.cells #[.int .i64 yk, .int .u64 yv, .int .u64 yt, .int .i64 ys, .int .i64 ya, .int .i64 yc, .slice yD yn yq] 51)) (by go_simp) ?_
  obtain ⟨B2, hB2⟩ : ∃ B2, B2 = w4.heap.size := ⟨_, rfl⟩
  have hbB : BlockAt (w4.alloc (.cells #[.int .i64 yk, .int .u64 yv, .int .u64 yt, .int .i64 ys, .int .i64 ya, .int .i64 yc, .slice yD yn yq] 51)) B2 (opE.cs (⟨⟨yk, yv, yt, ys, ya, yc, yl⟩, yD, yn, yq⟩ : OpC)).toArray 51 := by rw [hB2]; exact (inferInstance : BlockAt (w4.alloc (.cells #[.int .i64 yk, .int .u64 yv, .int .u64 yt, .int .i64 ys, .int .i64 ya, .int .i64 yc, .slice yD yn yq] 51)) w4.heap.size #[.int .i64 yk, .int .u64 yv, .int .u64 yt, .int .i64 ys, .int .i64 ya, .int .i64 yc, .slice yD yn yq] 51)
  rw [← hB2]
  refine ⟨⟨fun w' => BlockAt w' B2 (opE.cs (⟨⟨yk, yv, yt, ys, ya, yc, yl⟩, yD, yn, yq⟩ : OpC)).toArray 51, fun a b h g => h.gr g⟩, ⟨hw4.1.trans gri, hbB⟩, ?_⟩
  clear hw4 hB2 hbB w4
  simp only [Act.put, List.setIfInBounds_toArray, List.set_cons_zero, List.set_cons_succ]
  refine ft_one 1 (by kernel_rfl) (by omega) ?_
  refine fe_effD rfl rfl rfl fun w4 hw4 => effAt_append_x opIs _ _ rfl rfl (OwnN.nil W5.heap.size _) A xs 0 c HN.out rfl hA (HR.out.gr (HG5.out.trans hw4.1)) (by rw [HN.out, List.length_nil]; omega) hw4.1.below.size ?_
  intro v1 W1 h1
  refine ⟨⟨fun w' => BlockAt w' B2 (opE.cs (⟨⟨yk, yv, yt, ys, ya, yc, yl⟩, yD, yn, yq⟩ : OpC)).toArray 51 ∧ OwnN opE W5.heap.size w' v1 xs, fun a b h g => ⟨h.1.gr g, h.2.gr g⟩⟩, ⟨hw4.1.trans_below h1.below, ⟨BlockAt.grown hw4.2 h1.gb (fun e => by cases e), by have := h1.own; rwa [List.nil_append] at this⟩⟩, ?_⟩
  clear h1 hw4 W1 w4
  simp only [Act.put, List.setIfInBounds_toArray, List.set_cons_zero, List.set_cons_succ]
  refine ft_one 4 (by kernel_rfl) (by omega) ?_
  refine fe_effD rfl rfl rfl fun w4 hw4 => effAt_append_x opIs _ _ rfl rfl hw4.2.2 (some ⟨B2, 0, none⟩) [⟨⟨yk, yv, yt, ys, ya, yc, yl⟩, yD, yn, yq⟩] 1 1 rfl rfl (fun e => by cases e) (opRow _ hw4.2.1) (by rw [HN.out, List.length_singleton]; omega) hw4.1.below.size ?_
  intro v2 W2 h2
  refine ⟨⟨fun w' => OwnN opE W5.heap.size w' v2 (xs ++ [⟨⟨yk, yv, yt, ys, ya, yc, yl⟩, yD, yn, yq⟩]), fun a b h g => h.gr g⟩, ⟨hw4.1.trans_below h2.below, h2.own⟩, ?_⟩
  clear h2 hw4 W2 w4
  simp only [Act.put, List.setIfInBounds_toArray, List.set_cons_zero, List.set_cons_succ]
  refine ft_end ⟨by kernel_rfl, fun w9 hw9 => ?_⟩
  try simp only [List.drop_succ_cons, List.drop_zero]
  obtain ⟨hg9, ho9⟩ := hw9
  have g9 : Gr w w9 := HG5.out.trans hg9
  have HF := Lib.hid (show JPost base ((xs ++ [(⟨⟨yk, yv, yt, ys, ya, yc, yl⟩, yD, yn, yq⟩ : OpC)]).map OpC.o) w (.returned v2) w9 from ⟨v2, xs ++ [⟨⟨yk, yv, yt, ys, ya, yc, yl⟩, yD, yn, yq⟩], rfl, ho9.more HG5.out.below.size, rfl, fun z hz => by
   rcases List.mem_append.1 hz with hz | hz
   ·exact (HX.out z hz).gr g9
   ·rw [List.mem_singleton] at hz; subst hz; exact HY.out.gr g9, g9⟩)
  clear hg9 ho9 g9
  go_wp2
  go_ret
  exact HF.out
theorem rjoin_copy3 (xs : List OpC) (n : Nat) (hn : xs.length = n) (hn9 : n ≤ 2000) (A : Option Addr) (c : Nat) (hA : A = none → c = 0) (yk yv yt ys ya yc : Int) (yD : Option Addr) (yn yq : Nat) (yl : Byt) (f : Bool) (base : Nat) (w : World) (hr : RowN opE w A xs) (hx : ∀ x ∈ xs, OpOwn base w x) (hy : OpOwn base w ⟨⟨yk, yv, yt, ys, ya, yc, yl⟩, yD, yn, yq⟩) (hf : f = true) (x : OpC) (hl : xs[n - 1]? = some x) (h0 : 0 < n) (hk : x.o.k ≠ yk) :
  Calls Try.prog 30 #[.slice A n c, .agg #[.int .i64 yk, .int .u64 yv, .int .u64 yt, .int .i64 ys, .int .i64 ya, .int .i64 yc, .slice yD yn yq], .bool f] w (JPost base ((xs ++ [(⟨⟨yk, yv, yt, ys, ya, yc, yl⟩, yD, yn, yq⟩ : OpC)]).map OpC.o) w) := by
 have HN := Lib.hid hn
 have HR := Lib.hid hr
 have HX := Lib.hid hx
 have HY := Lib.hid hy
 subst hf
 obtain ⟨b, p, rfl, hb9, hcl⟩ := hr.at_ (by rintro rfl; simp at hn; omega)
 obtain ⟨m, hm⟩ : ∃ m, m = n - 1 := ⟨_, rfl⟩
 rw [← hm] at hl
 have hb0 : ((n : Int) == 0) = false := by simp only [beq_eq_false_iff_ne, ne_eq]; omega
 have e1 : (n : Int) - 1 = (m : Int) := by omega
 have hmn : m < n := by omega
 have hw1 : IntKind.i64.wrap (m : Int) = (m : Int) := wrapJ m (by omega)
 clear hm
 obtain ⟨d0, -, -, -, -, -, d6⟩ := opCells hcl hl
 haveI : Old b w := ⟨hb9⟩
 clear hn hr hx hy hcl hl
 have hb : (x.o.k != yk) = true := by rw [bne_iff_ne]; exact hk
 generalize x.o.k = xk at *
 generalize x.D = xD at *
 generalize x.n = xn at *
 generalize x.q = xq at *
 clear hk
 go_enter Try.func30, Try.ntmps30
 go_wp2
 refine wp_region_grow (by kernel_rfl) (by kernel_rfl) ?_
 repeat (go_big_quiet_step (fail))
 refine wpQuiet_nil ?_
 intro g1
 obtain ⟨W5, hW5⟩ : ∃ W5, W5 = grown _ g1 := ⟨_, rfl⟩
 have b4 : BlockAt W5 w.heap.size #[.int .i64 yk, .int .u64 yv, .int .u64 yt, .int .i64 ys, .int .i64 ya, .int .i64 yc, .slice yD yn yq] 51 := by rw [hW5]; infer_instance
 have g5 : Gr w W5 := by rw [hW5]; exact gri
 rw [← hW5]
 clear hW5
 haveI := b4.old
 have o0 : W5.cell? ⟨w.heap.size, 0, none⟩ = some (.int .i64 yk) := (@block_cells _ _ 0 _ _ b4).trans rfl
 have o1 : W5.cell? ⟨w.heap.size, 1, none⟩ = some (.int .u64 yv) := (@block_cells _ _ 1 _ _ b4).trans rfl
 have o2 : W5.cell? ⟨w.heap.size, 2, none⟩ = some (.int .u64 yt) := (@block_cells _ _ 2 _ _ b4).trans rfl
 have o3 : W5.cell? ⟨w.heap.size, 3, none⟩ = some (.int .i64 ys) := (@block_cells _ _ 3 _ _ b4).trans rfl
 have o4 : W5.cell? ⟨w.heap.size, 4, none⟩ = some (.int .i64 ya) := (@block_cells _ _ 4 _ _ b4).trans rfl
 have o5 : W5.cell? ⟨w.heap.size, 5, none⟩ = some (.int .i64 yc) := (@block_cells _ _ 5 _ _ b4).trans rfl
 have o6 : W5.cell? ⟨w.heap.size, 6, none⟩ = some (.slice yD yn yq) := (@block_cells _ _ 6 _ _ b4).trans rfl
 have HG5 := Lib.hid g5
 go_wp2
 refine wp_region_treeT (inCls_ghost _) (Cls.none _) ⟨Gr.of ((Below.refl _ _).drew), trivial⟩ [0, 2] 3 5 (by kernel_rfl) (by kernel_rfl) ?_
 simp only [pick, List.drop_succ_cons, List.drop_zero, List.take_succ_cons, List.take_zero, List.nil_append, List.cons_append]
 repeat (refine wpCalm_step (fun K hK => ?_); go_simp; first | (refine hK _ ?_; clear hK K) | (apply Exists.intro; refine ⟨fun _ => ?_, hK _ ?_⟩; (skip); clear hK K))
 refine wpCalm_nil ?_
 refine ft_two 1 3 (by kernel_rfl) (by omega) (by omega) ?_ ?_
 ·refine fe_effD rfl rfl rfl fun w4 hw4 => effAt_append_x opIs _ _ rfl rfl (OwnN.nil W5.heap.size _) (some ⟨b, p, none⟩) xs n c HN.out rfl hA (HR.out.gr (HG5.out.trans hw4.1)) (by rw [HN.out, List.length_nil]; omega) hw4.1.below.size ?_
  intro v1 W1 h1
  refine ⟨⟨fun w' => OwnN opE W5.heap.size w' v1 xs, fun a b h g => h.gr g⟩, ⟨hw4.1.trans_below h1.below, by have := h1.own; rwa [List.nil_append] at this⟩, ?_⟩
  clear h1 hw4 W1 w4
  simp only [Act.put, List.setIfInBounds_toArray, List.set_cons_zero, List.set_cons_succ]
  refine ft_one 3 (by kernel_rfl) (by omega) ?_
  refine fe_effD rfl rfl rfl fun w4 hw4 => effAt_ok (.slice (some ⟨w4.heap.size, 0, none⟩) 1 1) (w' := w4.alloc (.cells #[.int .i64 yk, .int .u64 yv, .int .u64 yt, .int .i64 ys, .int .i64 ya, .int .i64 yc, .slice yD yn yq] 51)) (by go_simp) ?_
  obtain ⟨B2, hB2⟩ : ∃ B2, B2 = w4.heap.size := ⟨_, rfl⟩
  have hbB : BlockAt (w4.alloc (.cells #[.int .i64 yk, .int .u64 yv, .int .u64 yt, .int .i64 ys, .int .i64 ya, .int .i64 yc, .slice yD yn yq] 51)) B2 (opE.cs (⟨⟨yk, yv, yt, ys, ya, yc, yl⟩, yD, yn, yq⟩ : OpC)).toArray 51 := by rw [hB2]; exact (inferInstance : BlockAt (w4.alloc (.cells #[.int .i64 yk, .int .u64 yv, .int .u64 yt, .int .i64 ys, .int .i64 ya, .int .i64 yc, .slice yD yn yq] 51)) w4.heap.size #[.int .i64 yk, .int .u64 yv, .int .u64 yt, .int .i64 ys, .int .i64 ya, .int .i64 yc, .slice yD yn yq] 51)
  rw [← hB2]
  refine ⟨⟨fun w' => BlockAt w' B2 (opE.cs (⟨⟨yk, yv, yt, ys, ya, yc, yl⟩, yD, yn, yq⟩ : OpC)).toArray 51 ∧ OwnN opE W5.heap.size w' v1 xs, fun a b h g => ⟨h.1.gr g, h.2.gr g⟩⟩, ⟨hw4.1.trans gri, ⟨hbB, hw4.2.gr gri⟩⟩, ?_⟩
  clear hw4 hB2 hbB w4
  simp only [Act.put, List.setIfInBounds_toArray, List.set_cons_zero, List.set_cons_succ]
  refine ft_one 4 (by kernel_rfl) (by omega) ?_
  refine fe_effD rfl rfl rfl fun w4 hw4 => effAt_append_x opIs _ _ rfl rfl hw4.2.2 (some ⟨B2, 0, none⟩) [⟨⟨yk, yv, yt, ys, ya, yc, yl⟩, yD, yn, yq⟩] 1 1 rfl rfl (fun e => by cases e) (opRow _ hw4.2.1) (by rw [HN.out, List.length_singleton]; omega) hw4.1.below.size ?_
  intro v2 W2 h2
  refine ⟨⟨fun w' => OwnN opE W5.heap.size w' v2 (xs ++ [⟨⟨yk, yv, yt, ys, ya, yc, yl⟩, yD, yn, yq⟩]), fun a b h g => h.gr g⟩, ⟨hw4.1.trans_below h2.below, h2.own⟩, ?_⟩
  clear h2 hw4 W2 w4
  simp only [Act.put, List.setIfInBounds_toArray, List.set_cons_zero, List.set_cons_succ]
  refine ft_end ⟨by kernel_rfl, fun w9 hw9 => ?_⟩
  try simp only [List.drop_succ_cons, List.drop_zero]
  obtain ⟨hg9, ho9⟩ := hw9
  have g9 : Gr w w9 := HG5.out.trans hg9
  have HF := Lib.hid (show JPost base ((xs ++ [(⟨⟨yk, yv, yt, ys, ya, yc, yl⟩, yD, yn, yq⟩ : OpC)]).map OpC.o) w (.returned v2) w9 from ⟨v2, xs ++ [⟨⟨yk, yv, yt, ys, ya, yc, yl⟩, yD, yn, yq⟩], rfl, ho9.more HG5.out.below.size, rfl, fun z hz => by
   rcases List.mem_append.1 hz with hz | hz
   ·exact (HX.out z hz).gr g9
   ·rw [List.mem_singleton] at hz; subst hz; exact HY.out.gr g9, g9⟩)
  clear hg9 ho9 g9
  go_wp2
  go_ret
  exact HF.out
 ·refine fe_effD rfl rfl rfl fun w4 hw4 => effAt_ok (.slice (some ⟨w4.heap.size, 0, none⟩) 1 1) (w' := w4.alloc (.cells #[.int .i64 yk, .int .u64 yv, .int .u64 yt, .int .i64 ys, .int .i64 ya, .int .i64 yc, .slice yD yn yq] 51)) (by go_simp) ?_
  obtain ⟨B2, hB2⟩ : ∃ B2, B2 = w4.heap.size := ⟨_, rfl⟩
  have hbB : BlockAt (w4.alloc (.cells #[.int .i64 yk, .int .u64 yv, .int .u64 yt, .int .i64 ys, .int .i64 ya, .int .i64 yc, .slice yD yn yq] 51)) B2 (opE.cs (⟨⟨yk, yv, yt, ys, ya, yc, yl⟩, yD, yn, yq⟩ : OpC)).toArray 51 := by rw [hB2]; exact (inferInstance : BlockAt (w4.alloc (.cells #[.int .i64 yk, .int .u64 yv, .int .u64 yt, .int .i64 ys, .int .i64 ya, .int .i64 yc, .slice yD yn yq] 51)) w4.heap.size #[.int .i64 yk, .int .u64 yv, .int .u64 yt, .int .i64 ys, .int .i64 ya, .int .i64 yc, .slice yD yn yq] 51)
  rw [← hB2]
  refine ⟨⟨fun w' => BlockAt w' B2 (opE.cs (⟨⟨yk, yv, yt, ys, ya, yc, yl⟩, yD, yn, yq⟩ : OpC)).toArray 51, fun a b h g => h.gr g⟩, ⟨hw4.1.trans gri, hbB⟩, ?_⟩
  clear hw4 hB2 hbB w4
  simp only [Act.put, List.setIfInBounds_toArray, List.set_cons_zero, List.set_cons_succ]
  refine ft_one 1 (by kernel_rfl) (by omega) ?_
  refine fe_effD rfl rfl rfl fun w4 hw4 => effAt_append_x opIs _ _ rfl rfl (OwnN.nil W5.heap.size _) (some ⟨b, p, none⟩) xs n c HN.out rfl hA (HR.out.gr (HG5.out.trans hw4.1)) (by rw [HN.out, List.length_nil]; omega) hw4.1.below.size ?_
  intro v1 W1 h1
  refine ⟨⟨fun w' => BlockAt w' B2 (opE.cs (⟨⟨yk, yv, yt, ys, ya, yc, yl⟩, yD, yn, yq⟩ : OpC)).toArray 51 ∧ OwnN opE W5.heap.size w' v1 xs, fun a b h g => ⟨h.1.gr g, h.2.gr g⟩⟩, ⟨hw4.1.trans_below h1.below, ⟨BlockAt.grown hw4.2 h1.gb (fun e => by cases e), by have := h1.own; rwa [List.nil_append] at this⟩⟩, ?_⟩
  clear h1 hw4 W1 w4
  simp only [Act.put, List.setIfInBounds_toArray, List.set_cons_zero, List.set_cons_succ]
  refine ft_one 4 (by kernel_rfl) (by omega) ?_
  refine fe_effD rfl rfl rfl fun w4 hw4 => effAt_append_x opIs _ _ rfl rfl hw4.2.2 (some ⟨B2, 0, none⟩) [⟨⟨yk, yv, yt, ys, ya, yc, yl⟩, yD, yn, yq⟩] 1 1 rfl rfl (fun e => by cases e) (opRow _ hw4.2.1) (by rw [HN.out, List.length_singleton]; omega) hw4.1.below.size ?_
  intro v2 W2 h2
  refine ⟨⟨fun w' => OwnN opE W5.heap.size w' v2 (xs ++ [⟨⟨yk, yv, yt, ys, ya, yc, yl⟩, yD, yn, yq⟩]), fun a b h g => h.gr g⟩, ⟨hw4.1.trans_below h2.below, h2.own⟩, ?_⟩
  clear h2 hw4 W2 w4
  simp only [Act.put, List.setIfInBounds_toArray, List.set_cons_zero, List.set_cons_succ]
  refine ft_end ⟨by kernel_rfl, fun w9 hw9 => ?_⟩
  try simp only [List.drop_succ_cons, List.drop_zero]
  obtain ⟨hg9, ho9⟩ := hw9
  have g9 : Gr w w9 := HG5.out.trans hg9
  have HF := Lib.hid (show JPost base ((xs ++ [(⟨⟨yk, yv, yt, ys, ya, yc, yl⟩, yD, yn, yq⟩ : OpC)]).map OpC.o) w (.returned v2) w9 from ⟨v2, xs ++ [⟨⟨yk, yv, yt, ys, ya, yc, yl⟩, yD, yn, yq⟩], rfl, ho9.more HG5.out.below.size, rfl, fun z hz => by
   rcases List.mem_append.1 hz with hz | hz
   ·exact (HX.out z hz).gr g9
   ·rw [List.mem_singleton] at hz; subst hz; exact HY.out.gr g9, g9⟩)
  clear hg9 ho9 g9
  go_wp2
  go_ret
  exact HF.out
theorem rjoin_copy4 (xs : List OpC) (n : Nat) (hn : xs.length = n) (hn9 : n ≤ 2000) (A : Option Addr) (c : Nat) (hA : A = none → c = 0) (yk yv yt ys ya yc : Int) (yD : Option Addr) (yn yq : Nat) (yl : Byt) (f : Bool) (base : Nat) (w : World) (hr : RowN opE w A xs) (hx : ∀ x ∈ xs, OpOwn base w x) (hy : OpOwn base w ⟨⟨yk, yv, yt, ys, ya, yc, yl⟩, yD, yn, yq⟩) (hf : f = true) (x : OpC) (hl : xs[n - 1]? = some x) (h0 : 0 < n) (hk : x.o.k = yk) (h2 : 2048 ≤ x.n) (hxn9 : x.n ≤ 1000000) :
  Calls Try.prog 30 #[.slice A n c, .agg #[.int .i64 yk, .int .u64 yv, .int .u64 yt, .int .i64 ys, .int .i64 ya, .int .i64 yc, .slice yD yn yq], .bool f] w (JPost base ((xs ++ [(⟨⟨yk, yv, yt, ys, ya, yc, yl⟩, yD, yn, yq⟩ : OpC)]).map OpC.o) w) := by
 have HN := Lib.hid hn
 have HR := Lib.hid hr
 have HX := Lib.hid hx
 have HY := Lib.hid hy
 subst hf
 obtain ⟨b, p, rfl, hb9, hcl⟩ := hr.at_ (by rintro rfl; simp at hn; omega)
 obtain ⟨m, hm⟩ : ∃ m, m = n - 1 := ⟨_, rfl⟩
 rw [← hm] at hl
 have hb0 : ((n : Int) == 0) = false := by simp only [beq_eq_false_iff_ne, ne_eq]; omega
 have e1 : (n : Int) - 1 = (m : Int) := by omega
 have hmn : m < n := by omega
 have hw1 : IntKind.i64.wrap (m : Int) = (m : Int) := wrapJ m (by omega)
 clear hm
 obtain ⟨d0, -, -, -, -, -, d6⟩ := opCells hcl hl
 haveI : Old b w := ⟨hb9⟩
 clear hn hr hx hy hcl hl
 have hb : (x.o.k != yk) = false := by simp [hk]
 have d9 : decide (2048 ≤ (x.n : Int)) = true := decide_eq_true (by omega)
 have hx9 : x.n ≤ 9223372036854775807 := by
  have h9 := hxn9
  omega
 generalize x.o.k = xk at *
 generalize x.D = xD at *
 generalize x.n = xn at *
 generalize x.q = xq at *
 clear hk
 go_enter Try.func30, Try.ntmps30
 go_wp2
 refine wp_region_grow (by kernel_rfl) (by kernel_rfl) ?_
 repeat (go_big_quiet_step (fail))
 refine wpQuiet_nil ?_
 intro g1
 obtain ⟨W5, hW5⟩ : ∃ W5, W5 = grown _ g1 := ⟨_, rfl⟩
 have b4 : BlockAt W5 w.heap.size #[.int .i64 yk, .int .u64 yv, .int .u64 yt, .int .i64 ys, .int .i64 ya, .int .i64 yc, .slice yD yn yq] 51 := by rw [hW5]; infer_instance
 have g5 : Gr w W5 := by rw [hW5]; exact gri
 rw [← hW5]
 clear hW5
 haveI := b4.old
 have o0 : W5.cell? ⟨w.heap.size, 0, none⟩ = some (.int .i64 yk) := (@block_cells _ _ 0 _ _ b4).trans rfl
 have o1 : W5.cell? ⟨w.heap.size, 1, none⟩ = some (.int .u64 yv) := (@block_cells _ _ 1 _ _ b4).trans rfl
 have o2 : W5.cell? ⟨w.heap.size, 2, none⟩ = some (.int .u64 yt) := (@block_cells _ _ 2 _ _ b4).trans rfl
 have o3 : W5.cell? ⟨w.heap.size, 3, none⟩ = some (.int .i64 ys) := (@block_cells _ _ 3 _ _ b4).trans rfl
 have o4 : W5.cell? ⟨w.heap.size, 4, none⟩ = some (.int .i64 ya) := (@block_cells _ _ 4 _ _ b4).trans rfl
 have o5 : W5.cell? ⟨w.heap.size, 5, none⟩ = some (.int .i64 yc) := (@block_cells _ _ 5 _ _ b4).trans rfl
 have o6 : W5.cell? ⟨w.heap.size, 6, none⟩ = some (.slice yD yn yq) := (@block_cells _ _ 6 _ _ b4).trans rfl
 have HG5 := Lib.hid g5
 go_wp2
 refine wp_region_treeT (inCls_ghost _) (Cls.none _) ⟨Gr.of ((Below.refl _ _).drew), trivial⟩ [0, 2] 3 5 (by kernel_rfl) (by kernel_rfl) ?_
 simp only [pick, List.drop_succ_cons, List.drop_zero, List.take_succ_cons, List.take_zero, List.nil_append, List.cons_append]
 repeat (refine wpCalm_step (fun K hK => ?_); go_simp; first | (refine hK _ ?_; clear hK K) | (apply Exists.intro; refine ⟨fun _ => ?_, hK _ ?_⟩; (skip); clear hK K))
 refine wpCalm_nil ?_
 refine ft_two 1 3 (by kernel_rfl) (by omega) (by omega) ?_ ?_
 ·refine fe_effD rfl rfl rfl fun w4 hw4 => effAt_append_x opIs _ _ rfl rfl (OwnN.nil W5.heap.size _) (some ⟨b, p, none⟩) xs n c HN.out rfl hA (HR.out.gr (HG5.out.trans hw4.1)) (by rw [HN.out, List.length_nil]; omega) hw4.1.below.size ?_
  intro v1 W1 h1
  refine ⟨⟨fun w' => OwnN opE W5.heap.size w' v1 xs, fun a b h g => h.gr g⟩, ⟨hw4.1.trans_below h1.below, by have := h1.own; rwa [List.nil_append] at this⟩, ?_⟩
  clear h1 hw4 W1 w4
  simp only [Act.put, List.setIfInBounds_toArray, List.set_cons_zero, List.set_cons_succ]
  refine ft_one 3 (by kernel_rfl) (by omega) ?_
  refine fe_effD rfl rfl rfl fun w4 hw4 => effAt_ok (.slice (some ⟨w4.heap.size, 0, none⟩) 1 1) (w' := w4.alloc (.cells #[.int .i64 yk, .int .u64 yv, .int .u64 yt, .int .i64 ys, .int .i64 ya, .int .i64 yc, .slice yD yn yq] 51)) (by go_simp) ?_
  obtain ⟨B2, hB2⟩ : ∃ B2, B2 = w4.heap.size := ⟨_, rfl⟩
  have hbB : BlockAt (w4.alloc (.cells #[.int .i64 yk, .int .u64 yv, .int .u64 yt, .int .i64 ys, .int .i64 ya, .int .i64 yc, .slice yD yn yq] 51)) B2 (opE.cs (⟨⟨yk, yv, yt, ys, ya, yc, yl⟩, yD, yn, yq⟩ : OpC)).toArray 51 := by rw [hB2]; exact (inferInstance : BlockAt (w4.alloc (.cells #[.int .i64 yk, .int .u64 yv, .int .u64 yt, .int .i64 ys, .int .i64 ya, .int .i64 yc, .slice yD yn yq] 51)) w4.heap.size #[.int .i64 yk, .int .u64 yv, .int .u64 yt, .int .i64 ys, .int .i64 ya, .int .i64 yc, .slice yD yn yq] 51)
  rw [← hB2]
  refine ⟨⟨fun w' => BlockAt w' B2 (opE.cs (⟨⟨yk, yv, yt, ys, ya, yc, yl⟩, yD, yn, yq⟩ : OpC)).toArray 51 ∧ OwnN opE W5.heap.size w' v1 xs, fun a b h g => ⟨h.1.gr g, h.2.gr g⟩⟩, ⟨hw4.1.trans gri, ⟨hbB, hw4.2.gr gri⟩⟩, ?_⟩
  clear hw4 hB2 hbB w4
  simp only [Act.put, List.setIfInBounds_toArray, List.set_cons_zero, List.set_cons_succ]
  refine ft_one 4 (by kernel_rfl) (by omega) ?_
  refine fe_effD rfl rfl rfl fun w4 hw4 => effAt_append_x opIs _ _ rfl rfl hw4.2.2 (some ⟨B2, 0, none⟩) [⟨⟨yk, yv, yt, ys, ya, yc, yl⟩, yD, yn, yq⟩] 1 1 rfl rfl (fun e => by cases e) (opRow _ hw4.2.1) (by rw [HN.out, List.length_singleton]; omega) hw4.1.below.size ?_
  intro v2 W2 h2
  refine ⟨⟨fun w' => OwnN opE W5.heap.size w' v2 (xs ++ [⟨⟨yk, yv, yt, ys, ya, yc, yl⟩, yD, yn, yq⟩]), fun a b h g => h.gr g⟩, ⟨hw4.1.trans_below h2.below, h2.own⟩, ?_⟩
  clear h2 hw4 W2 w4
  simp only [Act.put, List.setIfInBounds_toArray, List.set_cons_zero, List.set_cons_succ]
  refine ft_end ⟨by kernel_rfl, fun w9 hw9 => ?_⟩
  try simp only [List.drop_succ_cons, List.drop_zero]
  obtain ⟨hg9, ho9⟩ := hw9
  have g9 : Gr w w9 := HG5.out.trans hg9
  have HF := Lib.hid (show JPost base ((xs ++ [(⟨⟨yk, yv, yt, ys, ya, yc, yl⟩, yD, yn, yq⟩ : OpC)]).map OpC.o) w (.returned v2) w9 from ⟨v2, xs ++ [⟨⟨yk, yv, yt, ys, ya, yc, yl⟩, yD, yn, yq⟩], rfl, ho9.more HG5.out.below.size, rfl, fun z hz => by
   rcases List.mem_append.1 hz with hz | hz
   ·exact (HX.out z hz).gr g9
   ·rw [List.mem_singleton] at hz; subst hz; exact HY.out.gr g9, g9⟩)
  clear hg9 ho9 g9
  go_wp2
  go_ret
  exact HF.out
 ·refine fe_effD rfl rfl rfl fun w4 hw4 => effAt_ok (.slice (some ⟨w4.heap.size, 0, none⟩) 1 1) (w' := w4.alloc (.cells #[.int .i64 yk, .int .u64 yv, .int .u64 yt, .int .i64 ys, .int .i64 ya, .int .i64 yc, .slice yD yn yq] 51)) (by go_simp) ?_
  obtain ⟨B2, hB2⟩ : ∃ B2, B2 = w4.heap.size := ⟨_, rfl⟩
  have hbB : BlockAt (w4.alloc (.cells #[.int .i64 yk, .int .u64 yv, .int .u64 yt, .int .i64 ys, .int .i64 ya, .int .i64 yc, .slice yD yn yq] 51)) B2 (opE.cs (⟨⟨yk, yv, yt, ys, ya, yc, yl⟩, yD, yn, yq⟩ : OpC)).toArray 51 := by rw [hB2]; exact (inferInstance : BlockAt (w4.alloc (.cells #[.int .i64 yk, .int .u64 yv, .int .u64 yt, .int .i64 ys, .int .i64 ya, .int .i64 yc, .slice yD yn yq] 51)) w4.heap.size #[.int .i64 yk, .int .u64 yv, .int .u64 yt, .int .i64 ys, .int .i64 ya, .int .i64 yc, .slice yD yn yq] 51)
  rw [← hB2]
  refine ⟨⟨fun w' => BlockAt w' B2 (opE.cs (⟨⟨yk, yv, yt, ys, ya, yc, yl⟩, yD, yn, yq⟩ : OpC)).toArray 51, fun a b h g => h.gr g⟩, ⟨hw4.1.trans gri, hbB⟩, ?_⟩
  clear hw4 hB2 hbB w4
  simp only [Act.put, List.setIfInBounds_toArray, List.set_cons_zero, List.set_cons_succ]
  refine ft_one 1 (by kernel_rfl) (by omega) ?_
  refine fe_effD rfl rfl rfl fun w4 hw4 => effAt_append_x opIs _ _ rfl rfl (OwnN.nil W5.heap.size _) (some ⟨b, p, none⟩) xs n c HN.out rfl hA (HR.out.gr (HG5.out.trans hw4.1)) (by rw [HN.out, List.length_nil]; omega) hw4.1.below.size ?_
  intro v1 W1 h1
  refine ⟨⟨fun w' => BlockAt w' B2 (opE.cs (⟨⟨yk, yv, yt, ys, ya, yc, yl⟩, yD, yn, yq⟩ : OpC)).toArray 51 ∧ OwnN opE W5.heap.size w' v1 xs, fun a b h g => ⟨h.1.gr g, h.2.gr g⟩⟩, ⟨hw4.1.trans_below h1.below, ⟨BlockAt.grown hw4.2 h1.gb (fun e => by cases e), by have := h1.own; rwa [List.nil_append] at this⟩⟩, ?_⟩
  clear h1 hw4 W1 w4
  simp only [Act.put, List.setIfInBounds_toArray, List.set_cons_zero, List.set_cons_succ]
  refine ft_one 4 (by kernel_rfl) (by omega) ?_
  refine fe_effD rfl rfl rfl fun w4 hw4 => effAt_append_x opIs _ _ rfl rfl hw4.2.2 (some ⟨B2, 0, none⟩) [⟨⟨yk, yv, yt, ys, ya, yc, yl⟩, yD, yn, yq⟩] 1 1 rfl rfl (fun e => by cases e) (opRow _ hw4.2.1) (by rw [HN.out, List.length_singleton]; omega) hw4.1.below.size ?_
  intro v2 W2 h2
  refine ⟨⟨fun w' => OwnN opE W5.heap.size w' v2 (xs ++ [⟨⟨yk, yv, yt, ys, ya, yc, yl⟩, yD, yn, yq⟩]), fun a b h g => h.gr g⟩, ⟨hw4.1.trans_below h2.below, h2.own⟩, ?_⟩
  clear h2 hw4 W2 w4
  simp only [Act.put, List.setIfInBounds_toArray, List.set_cons_zero, List.set_cons_succ]
  refine ft_end ⟨by kernel_rfl, fun w9 hw9 => ?_⟩
  try simp only [List.drop_succ_cons, List.drop_zero]
  obtain ⟨hg9, ho9⟩ := hw9
  have g9 : Gr w w9 := HG5.out.trans hg9
  have HF := Lib.hid (show JPost base ((xs ++ [(⟨⟨yk, yv, yt, ys, ya, yc, yl⟩, yD, yn, yq⟩ : OpC)]).map OpC.o) w (.returned v2) w9 from ⟨v2, xs ++ [⟨⟨yk, yv, yt, ys, ya, yc, yl⟩, yD, yn, yq⟩], rfl, ho9.more HG5.out.below.size, rfl, fun z hz => by
   rcases List.mem_append.1 hz with hz | hz
   ·exact (HX.out z hz).gr g9
   ·rw [List.mem_singleton] at hz; subst hz; exact HY.out.gr g9, g9⟩)
  clear hg9 ho9 g9
  go_wp2
  go_ret
  exact HF.out
set_option maxRecDepth 100000
set_option maxHeartbeats 4000000
theorem elemO : Try.prog.elem 22 = 51 := by kernel_rfl
theorem sizeO (w : World) : (sizeOf 51).run Try.prog w = .ok 7 w := by kernel_rfl
theorem sliceToO (A : Option Addr) (n c k : Nat) (h : k ≤ n) (h3 : n ≤ c) (w : World) : (Instr.slice 22 (.slice A n c) none (some (.int .i64 (k : Int))) none).run Try.prog w = .ok (.slice A k c) w := by
 have h := run_slice_h (P := Try.prog) w 22 A n c (by rw [elemO]; exact Try.underlying22) .i64 (k : Int) (by omega) (by omega)
 rw [h, elemO, sizeO, Int.toNat_natCast]
 simp only [Result.andThen_ok, sliced]
 split
 ·rfl
 ·cases A with
  | none => rfl
  | some a => simp only [Option.map_some, Nat.zero_mul, Nat.sub_zero]; congr 1
theorem own_nn {base : Nat} {W : World} {D : Option Addr} {n q : Nat} {l : Byt} (h : OwnN bE base W (.slice D n q) l) : (D = none → q = 0) ∧ l.length = n ∧ RowN bE W D l := by
 obtain ⟨A, c, e, _, _, hr⟩ := h.form bIs
 simp only [Value.slice.injEq] at e
 obtain ⟨e1, e2, e3⟩ := e
 subst e1
 refine ⟨fun e9 => ?_, e2.symm, hr⟩
 rcases h.own.2 with ⟨e4, _⟩ | ⟨b, cap, cur, e4, _⟩
 ·simp only [Value.slice.injEq] at e4; exact e4.2.2
 ·simp only [Value.slice.injEq] at e4; rw [e9] at e4; cases e4.1
theorem wpStoreOG {w0 W : World} {ops : Array Oper} {rest : List Oper} {o : Oper} {a : Act} {Q : Exit → Act → World → Prop} (hg : Gr w0 W) (hgd : o.guard = none) (x y : Operand) (ho : o.op = .store 51 x y) (B : Nat) (zs cs : Array Value) (hx : a.eval x = .pointer (some ⟨B, 0, none⟩)) (hy : a.eval y = .agg cs) (hB : BlockAt W B zs 51) (hb : w0.heap.size ≤ B) (hi : (Try.prog.info? 51).map (·.size) = some cs.size) (hz : zs.size = cs.size) (h1 : ∀ v ∈ cs.toList, v.oneCell' = true)
  (h : ∀ g : Growth w0, BlockAt (grown w0 g) B cs 51 → wpList Try.prog ops Q rest (a.put o.dst undef) (grown w0 g)) : wpList Try.prog ops Q (o :: rest) a W := by
 refine wpList_storeRow hgd _ x y ho B zs cs hx hy hB hi hz h1 ?_
 have hG := setRow_gr (cs := cs) hg hb
 have hB2 : BlockAt (W.setRow B cs) B cs 51 := setRow_block hB
 obtain ⟨g, e⟩ := hG
 rw [e] at hB2 ⊢
 exact h g hB2
theorem rjoin_more (xs : List OpC) (n : Nat) (hn : xs.length = n) (hn9 : n ≤ 2000) (b p c : Nat) (hnc : n ≤ c) (xk xv xt xs9 xa xc : Int) (xD : Option Addr) (xn xq : Nat) (xl : Byt) (yk yv yt ys ya yc : Int) (yD : Option Addr) (yn yq : Nat) (yl : Byt) (base : Nat) (w : World) (hbase : base ≤ w.heap.size) (hr : RowN opE w (some ⟨b, p, none⟩) xs) (hx : ∀ x ∈ xs, OpOwn base w x) (hy : OpOwn base w ⟨⟨yk, yv, yt, ys, ya, yc, yl⟩, yD, yn, yq⟩) (h0 : 0 < n) (hl : xs[n - 1]? = some ⟨⟨xk, xv, xt, xs9, xa, xc, xl⟩, xD, xn, xq⟩) (hk : xk = yk) (h2 : xn < 2048) (hy9 : yn ≤ 1000000) (x0 : 0 ≤ xc) (x1 : xc ≤ 1000000) (y0 : 0 ≤ yc) (y1 : yc ≤ 1000000) :
  Calls Try.prog 30 #[.slice (some ⟨b, p, none⟩) n c, .agg #[.int .i64 yk, .int .u64 yv, .int .u64 yt, .int .i64 ys, .int .i64 ya, .int .i64 yc, .slice yD yn yq], .bool true] w (JPost base ((xs.take (n - 1)).map OpC.o ++ [⟨xk, xv, xt, xs9, xa, xc + yc, xl ++ yl⟩]) w) := by
 have hxo := hx _ (List.mem_of_getElem? hl)
 obtain ⟨hxn, hxl, hxr⟩ := own_nn hxo.own
 obtain ⟨hyn, hyl, hyr⟩ := own_nn hy.own
 have HXR := Lib.hid hxr
 have HYR := Lib.hid hyr
 have HXL := Lib.hid hxl
 have HYL := Lib.hid hyl
 have HN := Lib.hid hn
 have HR := Lib.hid hr
 have HX := Lib.hid hx
 obtain ⟨b', p', e', hb9, hcl⟩ := hr.at_ (by rintro rfl; simp at hn; omega)
 cases e'
 obtain ⟨m, hm⟩ : ∃ m, m = n - 1 := ⟨_, rfl⟩
 rw [← hm] at hl ⊢
 have hb0 : ((n : Int) == 0) = false := by simp only [beq_eq_false_iff_ne, ne_eq]; omega
 have e1 : (n : Int) - 1 = (m : Int) := by omega
 have hmn : m < n := by omega
 have hw1 : IntKind.i64.wrap (m : Int) = (m : Int) := wrapJ m (by omega)
 obtain ⟨d0, d1, d2, d3, d4, d5, d6⟩ := opCells hcl hl
 simp only at d0 d1 d2 d3 d4 d5 d6
 haveI : Old b w := ⟨hb9⟩
 have hkk : (xk != yk) = false := by simp [hk]
 have d9 : decide (2048 ≤ (xn : Int)) = false := decide_eq_false (by omega)
 have hsl := fun W => sliceToO (some ⟨b, p, none⟩) n c m (by omega) hnc W
 have HTK : Hid ((xs.take m).length = m) := Lib.hid (by rw [List.length_take]; omega)
 clear hn hr hx hy hcl hl hm hxo hxr hyr hk hxl hyl
 go_enter Try.func30, Try.ntmps30
 go_wp2
 refine wp_region_grow (by kernel_rfl) (by kernel_rfl) ?_
 repeat (go_big_quiet_step (fail))
 refine wpQuiet_nil ?_
 intro g1
 go_wp2_with (first | (refine wpStoreOG (w0 := grown _ g1) gri rfl _ _ rfl _ _ #[.int .i64 xk, .int .u64 xv, .int .u64 xt, .int .i64 xs9, .int .i64 xa, .int .i64 xc, .slice xD xn xq] rfl rfl inferInstance (Past.le (a := grown _ g1)) (by kernel_rfl) rfl (List.all_eq_true.1 rfl) ?_; intro g8 hB8; haveI := hB8; haveI := hB8.old; have q5 := @block_cells _ _ 5 _ _ hB8; have f5 := @block_frozen _ _ 5 _ _ hB8))
 obtain ⟨W4, hW4⟩ : ∃ W4, W4 = grown (w.alloc (.cells #[.int .i64 yk, .int .u64 yv, .int .u64 yt, .int .i64 ys, .int .i64 ya, .int .i64 yc, .slice yD yn yq] 51)) g1 := ⟨_, rfl⟩
 obtain ⟨W6, hW6⟩ : ∃ W6, W6 = (grown (grown (w.alloc (.cells #[.int .i64 yk, .int .u64 yv, .int .u64 yt, .int .i64 ys, .int .i64 ya, .int .i64 yc, .slice yD yn yq] 51)) g1) g8).setCell ⟨(grown (w.alloc (.cells #[.int .i64 yk, .int .u64 yv, .int .u64 yt, .int .i64 ys, .int .i64 ya, .int .i64 yc, .slice yD yn yq] 51)) g1).heap.size, 5, none⟩ (.int .i64 (xc + yc)) := ⟨_, rfl⟩
 have hS4 : w.heap.size ≤ (grown (w.alloc (.cells #[.int .i64 yk, .int .u64 yv, .int .u64 yt, .int .i64 ys, .int .i64 ya, .int .i64 yc, .slice yD yn yq] 51)) g1).heap.size := (gri : Gr w _).below.size
 have b4 : BlockAt W6 w.heap.size #[.int .i64 yk, .int .u64 yv, .int .u64 yt, .int .i64 ys, .int .i64 ya, .int .i64 yc, .slice yD yn yq] 51 := by rw [hW6]; infer_instance
 have b8 : BlockAt W6 (grown (w.alloc (.cells #[.int .i64 yk, .int .u64 yv, .int .u64 yt, .int .i64 ys, .int .i64 ya, .int .i64 yc, .slice yD yn yq] 51)) g1).heap.size #[.int .i64 xk, .int .u64 xv, .int .u64 xt, .int .i64 xs9, .int .i64 xa, .int .i64 (xc + yc), .slice xD xn xq] 51 := by
  rw [hW6]
  exact (inferInstance : BlockAt ((grown (grown (w.alloc (.cells #[.int .i64 yk, .int .u64 yv, .int .u64 yt, .int .i64 ys, .int .i64 ya, .int .i64 yc, .slice yD yn yq] 51)) g1) g8).setCell ⟨(grown (w.alloc (.cells #[.int .i64 yk, .int .u64 yv, .int .u64 yt, .int .i64 ys, .int .i64 ya, .int .i64 yc, .slice yD yn yq] 51)) g1).heap.size, 5, none⟩ (.int .i64 (xc + yc))) (grown (w.alloc (.cells #[.int .i64 yk, .int .u64 yv, .int .u64 yt, .int .i64 ys, .int .i64 ya, .int .i64 yc, .slice yD yn yq] 51)) g1).heap.size (#[.int .i64 xk, .int .u64 xv, .int .u64 xt, .int .i64 xs9, .int .i64 xa, .int .i64 xc, .slice xD xn xq].setIfInBounds 5 (.int .i64 (xc + yc))) 51)
 have g6 : Gr w W6 := by rw [hW6]; exact Gr.of (below_set (gri : Gr w (grown (grown (w.alloc (.cells #[.int .i64 yk, .int .u64 yv, .int .u64 yt, .int .i64 ys, .int .i64 ya, .int .i64 yc, .slice yD yn yq] 51)) g1) g8)).below hS4 _)
 rw [← hW6]
 obtain ⟨B8, hB9⟩ : ∃ B8, B8 = (grown (w.alloc (.cells #[.int .i64 yk, .int .u64 yv, .int .u64 yt, .int .i64 ys, .int .i64 ya, .int .i64 yc, .slice yD yn yq] 51)) g1).heap.size := ⟨_, rfl⟩
 rw [← hB9] at b8 hS4 ⊢
 have hb48 : BNe w.heap.size B8 := by rw [hB9]; infer_instance
 clear hB9 hW6 q5 f5
 clear hB8
 haveI := b4.old
 haveI := b8.old
 have o0 : W6.cell? ⟨w.heap.size, 0, none⟩ = some (.int .i64 yk) := (@block_cells _ _ 0 _ _ b4).trans rfl
 have o1 : W6.cell? ⟨w.heap.size, 1, none⟩ = some (.int .u64 yv) := (@block_cells _ _ 1 _ _ b4).trans rfl
 have o2 : W6.cell? ⟨w.heap.size, 2, none⟩ = some (.int .u64 yt) := (@block_cells _ _ 2 _ _ b4).trans rfl
 have o3 : W6.cell? ⟨w.heap.size, 3, none⟩ = some (.int .i64 ys) := (@block_cells _ _ 3 _ _ b4).trans rfl
 have o4 : W6.cell? ⟨w.heap.size, 4, none⟩ = some (.int .i64 ya) := (@block_cells _ _ 4 _ _ b4).trans rfl
 have o5 : W6.cell? ⟨w.heap.size, 5, none⟩ = some (.int .i64 yc) := (@block_cells _ _ 5 _ _ b4).trans rfl
 have o6 : W6.cell? ⟨w.heap.size, 6, none⟩ = some (.slice yD yn yq) := (@block_cells _ _ 6 _ _ b4).trans rfl
 have r0 : W6.cell? ⟨B8, 0, none⟩ = some (.int .i64 xk) := (@block_cells _ _ 0 _ _ b8).trans rfl
 have r1 : W6.cell? ⟨B8, 1, none⟩ = some (.int .u64 xv) := (@block_cells _ _ 1 _ _ b8).trans rfl
 have r2 : W6.cell? ⟨B8, 2, none⟩ = some (.int .u64 xt) := (@block_cells _ _ 2 _ _ b8).trans rfl
 have r3 : W6.cell? ⟨B8, 3, none⟩ = some (.int .i64 xs9) := (@block_cells _ _ 3 _ _ b8).trans rfl
 have r4 : W6.cell? ⟨B8, 4, none⟩ = some (.int .i64 xa) := (@block_cells _ _ 4 _ _ b8).trans rfl
 have r5 : W6.cell? ⟨B8, 5, none⟩ = some (.int .i64 (xc + yc)) := (@block_cells _ _ 5 _ _ b8).trans rfl
 have r6 : W6.cell? ⟨B8, 6, none⟩ = some (.slice xD xn xq) := (@block_cells _ _ 6 _ _ b8).trans rfl
 have HG6 := Lib.hid g6
 have HB4 := Lib.hid b4
 have HB8 := Lib.hid b8
 clear b4 b8
 have HXN := Lib.hid hxn
 have HYN := Lib.hid hyn
 refine wp_region_treeT (inCls_ghost _) (Cls.none _) ⟨Gr.of ((Below.refl _ _).drew), trivial⟩ [0, 1, 3, 4] 2 6 (by kernel_rfl) (by kernel_rfl) ?_
 simp only [pick, List.drop_succ_cons, List.drop_zero, List.take_succ_cons, List.take_zero, List.nil_append, List.cons_append]
 repeat (refine wpCalm_step (fun K hK => ?_); go_simp; first | (refine hK _ ?_; clear hK K) | (apply Exists.intro; refine ⟨fun _ => ?_, hK _ ?_⟩; (skip); clear hK K))
 refine wpCalm_nil ?_
 refine ft_one 2 (by kernel_rfl) (by omega) ?_
 refine fe_effD rfl rfl rfl fun w4 hw4 => effAt_append_x bIs _ _ rfl rfl (OwnN.nil W6.heap.size _) xD xl xn xq HXL.out rfl HXN.out (HXR.out.gr (HG6.out.trans hw4.1)) (by rw [HXL.out, List.length_nil]; omega) hw4.1.below.size ?_
 intro v1 W1 h1
 refine ⟨⟨fun w' => OwnN bE W6.heap.size w' v1 xl, fun a b h g => h.gr g⟩, ⟨hw4.1.trans_below h1.below, by have := h1.own; rwa [List.nil_append] at this⟩, ?_⟩
 clear h1 hw4 W1 w4
 simp only [Act.put, List.setIfInBounds_toArray, List.set_cons_zero, List.set_cons_succ]
 refine ft_one 5 (by kernel_rfl) (by omega) ?_
 refine fe_effD rfl rfl rfl fun w4 hw4 => effAt_append_x bIs _ _ rfl rfl hw4.2 yD yl yn yq HYL.out rfl HYN.out (HYR.out.gr (HG6.out.trans hw4.1)) (by rw [HXL.out, HYL.out]; omega) hw4.1.below.size ?_
 intro v2 W2 h2
 refine ⟨⟨fun w' => OwnN bE W6.heap.size w' v2 (xl ++ yl), fun a b h g => h.gr g⟩, ⟨hw4.1.trans_below h2.below, h2.own⟩, ?_⟩
 clear h2 hw4 W2 w4
 simp only [Act.put, List.setIfInBounds_toArray, List.set_cons_zero, List.set_cons_succ]
 refine ft_end ⟨by kernel_rfl, fun w9 hw9 => ?_⟩
 try simp only [List.drop_succ_cons, List.drop_zero]
 obtain ⟨hg9, ho9⟩ := hw9
 obtain ⟨vD, vq, rfl, _, _, _⟩ := ho9.form bIs
 have hB6 : B8 < W6.heap.size := HB8.out.lt
 obtain ⟨W8, hW8⟩ : ∃ W8, W8 = w9.setCell ⟨B8, 6, none⟩ (.slice vD (xl ++ yl).length vq) := ⟨_, rfl⟩
 have ho8 : OwnN bE w.heap.size W8 (.slice vD (xl ++ yl).length vq) (xl ++ yl) := by
  rw [hW8]
  refine (ho9.keep fun k hk => Below.heap_setCell w9 ⟨B8, 6, none⟩ _ k ?_).more HG6.out.below.size
  have := (ho9.lt k hk).1
  show k ≠ B8
  omega
 haveI h49 := HB4.out.gr hg9
 haveI h89 := HB8.out.gr hg9
 haveI := hb48
 have b48 : BlockAt W8 w.heap.size #[.int .i64 yk, .int .u64 yv, .int .u64 yt, .int .i64 ys, .int .i64 ya, .int .i64 yc, .slice yD yn yq] 51 := by rw [hW8]; infer_instance
 have b88 : BlockAt W8 B8 #[.int .i64 xk, .int .u64 xv, .int .u64 xt, .int .i64 xs9, .int .i64 xa, .int .i64 (xc + yc), .slice vD (xl ++ yl).length vq] 51 := by
  rw [hW8]
  exact (inferInstance : BlockAt (w9.setCell ⟨B8, 6, none⟩ (.slice vD (xl ++ yl).length vq)) B8 (#[.int .i64 xk, .int .u64 xv, .int .u64 xt, .int .i64 xs9, .int .i64 xa, .int .i64 (xc + yc), .slice xD xn xq].setIfInBounds 6 (.slice vD (xl ++ yl).length vq)) 51)
 have g8 : Gr w W8 := by rw [hW8]; exact Gr.of (below_set (HG6.out.trans hg9).below hS4 _)
 have t6 : w9.cell? ⟨B8, 6, none⟩ = some (.slice xD xn xq) := (@block_cells _ _ 6 _ _ h89).trans rfl
 have t7 : w9.frozen? ⟨B8, 6, none⟩ = false := @block_frozen _ _ 6 _ _ h89
 haveI := h89.old
 have HRUN : Hid ((storeVar 49 ⟨B8, 6, none⟩ (.slice vD (xl ++ yl).length vq)).run Try.prog w9 = .ok () W8) := Lib.hid (by rw [hW8]; go_simp)
 have HG8 := Lib.hid g8
 have HO8 := Lib.hid ho8
 have HRT := Lib.hid (show RowN opE w (some ⟨b, p, none⟩) (xs.take m) from by
  obtain ⟨b', p', e', hb9, hcl⟩ := HR.out.at_ (by rintro rfl; have := HN.out; simp at this; omega)
  cases e'
  exact ⟨fun x hx => HR.out.ok x (List.mem_of_mem_take hx), fun _ => ⟨b, p, rfl, hb9, hcl.take m⟩⟩)
 clear t6 t7 h89 h49 ho8 ho9 hg9 hW8 g8
 haveI := b48.old
 haveI := b88.old
 have s0 : W8.cell? ⟨B8, 0, none⟩ = some (.int .i64 xk) := (@block_cells _ _ 0 _ _ b88).trans rfl
 have s1 : W8.cell? ⟨B8, 1, none⟩ = some (.int .u64 xv) := (@block_cells _ _ 1 _ _ b88).trans rfl
 have s2 : W8.cell? ⟨B8, 2, none⟩ = some (.int .u64 xt) := (@block_cells _ _ 2 _ _ b88).trans rfl
 have s3 : W8.cell? ⟨B8, 3, none⟩ = some (.int .i64 xs9) := (@block_cells _ _ 3 _ _ b88).trans rfl
 have s4 : W8.cell? ⟨B8, 4, none⟩ = some (.int .i64 xa) := (@block_cells _ _ 4 _ _ b88).trans rfl
 have s5 : W8.cell? ⟨B8, 5, none⟩ = some (.int .i64 (xc + yc)) := (@block_cells _ _ 5 _ _ b88).trans rfl
 have s6 : W8.cell? ⟨B8, 6, none⟩ = some (.slice vD (xl ++ yl).length vq) := (@block_cells _ _ 6 _ _ b88).trans rfl
 go_wp2_with (first | (refine wpStoreG rfl _ _ rfl ⟨B8, 6, none⟩ _ rfl rfl W8 HRUN.out ?_))
 clear HRUN
 refine wp_region_treeT (inCls_ghost _) (Cls.none _) ⟨Gr.of ((Below.refl _ _).drew), trivial⟩ [0, 1, 2, 3, 5] 3 8 (by kernel_rfl) (by kernel_rfl) ?_
 simp only [pick, List.drop_succ_cons, List.drop_zero, List.take_succ_cons, List.take_zero, List.nil_append, List.cons_append]
 repeat (refine wpCalm_step (fun K hK => ?_); go_simp; first | (refine hK _ ?_; clear hK K) | (apply Exists.intro; refine ⟨fun _ => ?_, hK _ ?_⟩; (skip); clear hK K))
 refine wpCalm_nil ?_
 refine ft_two 4 6 (by kernel_rfl) (by omega) (by omega) ?_ ?_
 ·refine fe_effD rfl rfl rfl fun w4 hw4 => effAt_append_x opIs _ _ rfl rfl (OwnN.nil W8.heap.size _) (some ⟨b, p, none⟩) (xs.take m) m c HTK.out rfl (fun e => by cases e) (HRT.out.gr (HG8.out.trans hw4.1)) (by rw [HTK.out, List.length_nil]; omega) hw4.1.below.size ?_
  intro v1 W1 h1
  refine ⟨⟨fun w' => OwnN opE W8.heap.size w' v1 (xs.take m), fun a b h g => h.gr g⟩, ⟨hw4.1.trans_below h1.below, by have := h1.own; rwa [List.nil_append] at this⟩, ?_⟩
  clear h1 hw4 W1 w4
  simp only [Act.put, List.setIfInBounds_toArray, List.set_cons_zero, List.set_cons_succ]
  refine ft_one 6 (by kernel_rfl) (by omega) ?_
  refine fe_effD rfl rfl rfl fun w4 hw4 => effAt_ok (.slice (some ⟨w4.heap.size, 0, none⟩) 1 1) (w' := w4.alloc (.cells #[.int .i64 xk, .int .u64 xv, .int .u64 xt, .int .i64 xs9, .int .i64 xa, .int .i64 (xc + yc), .slice vD (xl ++ yl).length vq] 51)) (by go_simp) ?_
  obtain ⟨B2, hB2⟩ : ∃ B2, B2 = w4.heap.size := ⟨_, rfl⟩
  have hbB : BlockAt (w4.alloc (.cells #[.int .i64 xk, .int .u64 xv, .int .u64 xt, .int .i64 xs9, .int .i64 xa, .int .i64 (xc + yc), .slice vD (xl ++ yl).length vq] 51)) B2 (opE.cs (⟨⟨xk, xv, xt, xs9, xa, xc + yc, xl ++ yl⟩, vD, (xl ++ yl).length, vq⟩ : OpC)).toArray 51 := by rw [hB2]; exact (inferInstance : BlockAt (w4.alloc (.cells #[.int .i64 xk, .int .u64 xv, .int .u64 xt, .int .i64 xs9, .int .i64 xa, .int .i64 (xc + yc), .slice vD (xl ++ yl).length vq] 51)) w4.heap.size #[.int .i64 xk, .int .u64 xv, .int .u64 xt, .int .i64 xs9, .int .i64 xa, .int .i64 (xc + yc), .slice vD (xl ++ yl).length vq] 51)
  rw [← hB2]
  refine ⟨⟨fun w' => BlockAt w' B2 (opE.cs (⟨⟨xk, xv, xt, xs9, xa, xc + yc, xl ++ yl⟩, vD, (xl ++ yl).length, vq⟩ : OpC)).toArray 51 ∧ OwnN opE W8.heap.size w' v1 (xs.take m), fun a b h g => ⟨h.1.gr g, h.2.gr g⟩⟩, ⟨hw4.1.trans gri, ⟨hbB, hw4.2.gr gri⟩⟩, ?_⟩
  clear hw4 hB2 hbB w4
  simp only [Act.put, List.setIfInBounds_toArray, List.set_cons_zero, List.set_cons_succ]
  refine ft_one 7 (by kernel_rfl) (by omega) ?_
  refine fe_effD rfl rfl rfl fun w4 hw4 => effAt_append_x opIs _ _ rfl rfl hw4.2.2 (some ⟨B2, 0, none⟩) [(⟨⟨xk, xv, xt, xs9, xa, xc + yc, xl ++ yl⟩, vD, (xl ++ yl).length, vq⟩ : OpC)] 1 1 rfl rfl (fun e => by cases e) (opRow _ hw4.2.1) (by rw [HTK.out, List.length_singleton]; omega) hw4.1.below.size ?_
  intro v5 W5 h5
  refine ⟨⟨fun w' => OwnN opE W8.heap.size w' v5 (xs.take m ++ [(⟨⟨xk, xv, xt, xs9, xa, xc + yc, xl ++ yl⟩, vD, (xl ++ yl).length, vq⟩ : OpC)]), fun a b h g => h.gr g⟩, ⟨hw4.1.trans_below h5.below, h5.own⟩, ?_⟩
  clear h5 hw4 W5 w4
  simp only [Act.put, List.setIfInBounds_toArray, List.set_cons_zero, List.set_cons_succ]
  refine ft_end ⟨by kernel_rfl, fun w9 hw9 => ?_⟩
  try simp only [List.drop_succ_cons, List.drop_zero]
  obtain ⟨hg9, ho9⟩ := hw9
  have g9 : Gr w w9 := HG8.out.trans hg9
  have HF := Lib.hid (show JPost base ((xs.take m).map OpC.o ++ [⟨xk, xv, xt, xs9, xa, xc + yc, xl ++ yl⟩]) w (.returned v5) w9 from ⟨v5, xs.take m ++ [(⟨⟨xk, xv, xt, xs9, xa, xc + yc, xl ++ yl⟩, vD, (xl ++ yl).length, vq⟩ : OpC)], rfl, ho9.more HG8.out.below.size, by simp, fun z hz => by
   rcases List.mem_append.1 hz with hz | hz
   ·exact (HX.out z (List.mem_of_mem_take hz)).gr g9
   ·rw [List.mem_singleton] at hz; subst hz; exact OpOwn.gr ⟨HO8.out.more hbase⟩ hg9, g9⟩)
  clear hg9 ho9 g9
  go_wp2
  go_ret
  exact HF.out
 ·refine fe_effD rfl rfl rfl fun w4 hw4 => effAt_ok (.slice (some ⟨w4.heap.size, 0, none⟩) 1 1) (w' := w4.alloc (.cells #[.int .i64 xk, .int .u64 xv, .int .u64 xt, .int .i64 xs9, .int .i64 xa, .int .i64 (xc + yc), .slice vD (xl ++ yl).length vq] 51)) (by go_simp) ?_
  obtain ⟨B2, hB2⟩ : ∃ B2, B2 = w4.heap.size := ⟨_, rfl⟩
  have hbB : BlockAt (w4.alloc (.cells #[.int .i64 xk, .int .u64 xv, .int .u64 xt, .int .i64 xs9, .int .i64 xa, .int .i64 (xc + yc), .slice vD (xl ++ yl).length vq] 51)) B2 (opE.cs (⟨⟨xk, xv, xt, xs9, xa, xc + yc, xl ++ yl⟩, vD, (xl ++ yl).length, vq⟩ : OpC)).toArray 51 := by rw [hB2]; exact (inferInstance : BlockAt (w4.alloc (.cells #[.int .i64 xk, .int .u64 xv, .int .u64 xt, .int .i64 xs9, .int .i64 xa, .int .i64 (xc + yc), .slice vD (xl ++ yl).length vq] 51)) w4.heap.size #[.int .i64 xk, .int .u64 xv, .int .u64 xt, .int .i64 xs9, .int .i64 xa, .int .i64 (xc + yc), .slice vD (xl ++ yl).length vq] 51)
  rw [← hB2]
  refine ⟨⟨fun w' => BlockAt w' B2 (opE.cs (⟨⟨xk, xv, xt, xs9, xa, xc + yc, xl ++ yl⟩, vD, (xl ++ yl).length, vq⟩ : OpC)).toArray 51, fun a b h g => h.gr g⟩, ⟨hw4.1.trans gri, hbB⟩, ?_⟩
  clear hw4 hB2 hbB w4
  simp only [Act.put, List.setIfInBounds_toArray, List.set_cons_zero, List.set_cons_succ]
  refine ft_one 4 (by kernel_rfl) (by omega) ?_
  refine fe_effD rfl rfl rfl fun w4 hw4 => effAt_append_x opIs _ _ rfl rfl (OwnN.nil W8.heap.size _) (some ⟨b, p, none⟩) (xs.take m) m c HTK.out rfl (fun e => by cases e) (HRT.out.gr (HG8.out.trans hw4.1)) (by rw [HTK.out, List.length_nil]; omega) hw4.1.below.size ?_
  intro v1 W1 h1
  refine ⟨⟨fun w' => BlockAt w' B2 (opE.cs (⟨⟨xk, xv, xt, xs9, xa, xc + yc, xl ++ yl⟩, vD, (xl ++ yl).length, vq⟩ : OpC)).toArray 51 ∧ OwnN opE W8.heap.size w' v1 (xs.take m), fun a b h g => ⟨h.1.gr g, h.2.gr g⟩⟩, ⟨hw4.1.trans_below h1.below, ⟨BlockAt.grown hw4.2 h1.gb (fun e => by cases e), by have := h1.own; rwa [List.nil_append] at this⟩⟩, ?_⟩
  clear h1 hw4 W1 w4
  simp only [Act.put, List.setIfInBounds_toArray, List.set_cons_zero, List.set_cons_succ]
  refine ft_one 7 (by kernel_rfl) (by omega) ?_
  refine fe_effD rfl rfl rfl fun w4 hw4 => effAt_append_x opIs _ _ rfl rfl hw4.2.2 (some ⟨B2, 0, none⟩) [(⟨⟨xk, xv, xt, xs9, xa, xc + yc, xl ++ yl⟩, vD, (xl ++ yl).length, vq⟩ : OpC)] 1 1 rfl rfl (fun e => by cases e) (opRow _ hw4.2.1) (by rw [HTK.out, List.length_singleton]; omega) hw4.1.below.size ?_
  intro v5 W5 h5
  refine ⟨⟨fun w' => OwnN opE W8.heap.size w' v5 (xs.take m ++ [(⟨⟨xk, xv, xt, xs9, xa, xc + yc, xl ++ yl⟩, vD, (xl ++ yl).length, vq⟩ : OpC)]), fun a b h g => h.gr g⟩, ⟨hw4.1.trans_below h5.below, h5.own⟩, ?_⟩
  clear h5 hw4 W5 w4
  simp only [Act.put, List.setIfInBounds_toArray, List.set_cons_zero, List.set_cons_succ]
  refine ft_end ⟨by kernel_rfl, fun w9 hw9 => ?_⟩
  try simp only [List.drop_succ_cons, List.drop_zero]
  obtain ⟨hg9, ho9⟩ := hw9
  have g9 : Gr w w9 := HG8.out.trans hg9
  have HF := Lib.hid (show JPost base ((xs.take m).map OpC.o ++ [⟨xk, xv, xt, xs9, xa, xc + yc, xl ++ yl⟩]) w (.returned v5) w9 from ⟨v5, xs.take m ++ [(⟨⟨xk, xv, xt, xs9, xa, xc + yc, xl ++ yl⟩, vD, (xl ++ yl).length, vq⟩ : OpC)], rfl, ho9.more HG8.out.below.size, by simp, fun z hz => by
   rcases List.mem_append.1 hz with hz | hz
   ·exact (HX.out z (List.mem_of_mem_take hz)).gr g9
   ·rw [List.mem_singleton] at hz; subst hz; exact OpOwn.gr ⟨HO8.out.more hbase⟩ hg9, g9⟩)
  clear hg9 ho9 g9
  go_wp2
  go_ret
  exact HF.out
theorem own_op {b1 : Nat} {W : World} {v : Value} {xs : List OpC} (h : OwnN opE b1 W v xs) : ∃ A c, v = .slice A xs.length c ∧ xs.length ≤ c ∧ (A = none → c = 0) ∧ RowN opE W A xs := by
 obtain ⟨A, c, e, hle, _, hr⟩ := h.form opIs
 subst e
 refine ⟨A, c, rfl, hle, fun e9 => ?_, hr⟩
 rcases h.own.2 with ⟨e4, _⟩ | ⟨b, cap, cur, e4, _⟩
 ·simp only [Value.slice.injEq] at e4; exact e4.2.2
 ·simp only [Value.slice.injEq] at e4; rw [e9] at e4; cases e4.1
theorem rjoin_any (xs : List OpC) (hn9 : xs.length ≤ 2000) (v : Value) (y : OpC) (f : Bool) (base b1 : Nat) (w : World) (hbase : base ≤ w.heap.size) (hv : OwnN opE b1 w v xs) (hx : ∀ x ∈ xs, OpOwn base w x) (hy : OpOwn base w y) (h9 : ∀ x ∈ xs, x.o.l.length ≤ 1000000 ∧ 0 ≤ x.o.c ∧ x.o.c ≤ 1000000) (y9 : y.o.l.length ≤ 1000000 ∧ 0 ≤ y.o.c ∧ y.o.c ≤ 1000000) :
  Calls Try.prog 30 #[v, .agg (opE.cs y).toArray, .bool f] w (JPost base (joinK (xs.map OpC.o) y.o f) w) := by
 obtain ⟨A, c, rfl, hle, hA, hr⟩ := own_op hv
 obtain ⟨⟨yk, yv, yt, ys, ya, yc, yl⟩, yD, yn, yq⟩ := y
 obtain ⟨_, hyl, _⟩ := own_nn hy.own
 simp only at hyl
 by_cases hf : f = false
 ·have h := rjoin_copy1 xs xs.length rfl hn9 A c hA yk yv yt ys ya yc yD yn yq yl f base w hr hx hy hf
  have e : joinK (xs.map OpC.o) ⟨yk, yv, yt, ys, ya, yc, yl⟩ f = (xs ++ [(⟨⟨yk, yv, yt, ys, ya, yc, yl⟩, yD, yn, yq⟩ : OpC)]).map OpC.o := by
   unfold joinK
   split <;> simp [hf]
  rw [e]; exact h
 ·have hf : f = true := by simpa using hf
  rcases List.eq_nil_or_concat xs with rfl | ⟨zs, x, rfl⟩
  ·exact rjoin_copy2 [] 0 rfl (by omega) A c hA yk yv yt ys ya yc yD yn yq yl f base w hr hx hy hf rfl
  ·rw [List.concat_eq_append] at *
   have hL : (zs ++ [x]).length = zs.length + 1 := by simp
   have hl : (zs ++ [x])[(zs ++ [x]).length - 1]? = some x := by simp
   have hxx : x ∈ zs ++ [x] := by simp
   have hxo := hx x hxx
   obtain ⟨_, hxl, _⟩ := own_nn hxo.own
   have hx9 := h9 x hxx
   have e0 : (zs ++ [x]).map OpC.o = zs.map OpC.o ++ [x.o] := by simp
   rw [e0, joinK_last]
   by_cases hk : x.o.k = yk
   ·by_cases h2 : 2048 ≤ x.n
    ·rw [if_pos (by right; right; rw [hxl]; exact h2)]
     have h := rjoin_copy4 (zs ++ [x]) _ rfl hn9 A c hA yk yv yt ys ya yc yD yn yq yl f base w hr hx hy hf x hl (by omega) hk h2 (by rw [← hxl]; exact hx9.1)
     rw [List.append_assoc] at h
     rwa [show zs.map OpC.o ++ [x.o] ++ [(⟨yk, yv, yt, ys, ya, yc, yl⟩ : OpM)] = (zs ++ ([x] ++ [(⟨⟨yk, yv, yt, ys, ya, yc, yl⟩, yD, yn, yq⟩ : OpC)])).map OpC.o from by simp]
    ·have hno : ¬ (f = false ∨ x.o.k ≠ yk ∨ 2048 ≤ x.o.l.length) := by
      rw [hxl]
      rintro (h | h | h)
      ·rw [hf] at h; cases h
      ·exact h hk
      ·exact h2 h
     rw [if_neg hno]
     obtain ⟨b, p, rfl, _⟩ := hr.at_ (by simp)
     obtain ⟨⟨xk, xv, xt, xs9, xa, xc, xl⟩, xD, xn, xq⟩ := x
     subst hf
     have h := rjoin_more (zs ++ [_]) _ rfl hn9 b p c hle xk xv xt xs9 xa xc xD xn xq xl yk yv yt ys ya yc yD yn yq yl base w hbase hr hx hy (by omega) hl hk (by simpa using h2) (by rw [← hyl]; exact y9.1) hx9.2.1 hx9.2.2 y9.2.1 y9.2.2
     rw [show ∀ z : OpC, (zs ++ [z]).take ((zs ++ [z]).length - 1) = zs from fun z => by simp] at h
     exact h
   ·rw [if_pos (.inr (.inl hk))]
    have h := rjoin_copy3 (zs ++ [x]) _ rfl hn9 A c hA yk yv yt ys ya yc yD yn yq yl f base w hr hx hy hf x hl (by omega) hk
    rw [List.append_assoc] at h
    rwa [show zs.map OpC.o ++ [x.o] ++ [(⟨yk, yv, yt, ys, ya, yc, yl⟩ : OpM)] = (zs ++ ([x] ++ [(⟨⟨yk, yv, yt, ys, ya, yc, yl⟩, yD, yn, yq⟩ : OpC)])).map OpC.o from by simp]
def i64E : EK Int := ⟨fun x => [.int .i64 x], 1, 3, 30, 8, .int .i64 0, fun _ => True⟩
theorem i64Is : i64E.Is where
 len := fun _ _ => rfl
 one := fun x _ v hv => by
  simp only [i64E, List.mem_cons, List.mem_nil_iff, or_false] at hv
  subst hv; rfl
 pos := by decide
 hT := Try.underlying30
 hE := by kernel_rfl
 hz := rfl
 hb := by decide
def u64v (n : Int) : Value := .int .u64 n
theorem not_nodup {l : List Int} {j k : Nat} {y : Int} (hjk : j < k) (hj : l[j]? = some y) (hk : l[k]? = some y) : ¬ l.Nodup := by
 intro h
 obtain ⟨h1, e1⟩ := List.getElem?_eq_some_iff.1 hj
 obtain ⟨h2, e2⟩ := List.getElem?_eq_some_iff.1 hk
 exact List.pairwise_iff_getElem.1 h j k h1 h2 hjk (e1.trans e2.symm)
theorem take_one {l : List Int} {k : Nat} {x : Int} (hk : l[k]? = some x) : l.take (k + 1) = l.take k ++ [x] := by rw [List.take_add_one, hk]; rfl
theorem notin_snoc {l : List Int} {j : Nat} {x y : Int} (h : x ∉ l.take j) (hj : l[j]? = some y) (hne : ¬ y = x) : x ∉ l.take (j + 1) := by
 rw [take_one hj]
 simp only [List.mem_append, List.mem_singleton, not_or]
 exact ⟨h, fun e => hne e.symm⟩
theorem nodup_snoc {l : List Int} {k : Nat} {x : Int} (h : (l.take k).Nodup) (hn : x ∉ l.take k) (hk : l[k]? = some x) : (l.take (k + 1)).Nodup := by
 rw [take_one hk, List.nodup_append]
 exact ⟨h, by simp, fun a ha b hb => by rw [List.mem_singleton] at hb; subst hb; rintro rfl; exact hn ha⟩
theorem chkK_dup {d : Dev} {l : List Int} (h : ¬ l.Nodup) : chkK d l = 2 := by rw [chkK, if_neg h]
theorem chkK_miss {d : Dev} {l : List Int} {k : Nat} {x : Int} (h : l.Nodup) (hk : l[k]? = some x) (hx : (getK d x).isSome = false) : chkK d l = 6 := by
 rw [chkK, if_pos h, if_neg]
 intro ha
 have := List.all_eq_true.1 ha x (List.mem_of_getElem? hk)
 rw [hx] at this; cases this
theorem chkK_ok {d : Dev} {l : List Int} (h : l.Nodup) (hx : ∀ x ∈ l, (getK d x).isSome = true) : chkK d l = 0 := by
 rw [chkK, if_pos h, if_pos (List.all_eq_true.2 hx)]
def SzPost (base : Nat) (d : Dev) (l : List Int) (w : World) (e : Ending) (w' : World) : Prop :=
 ∃ v, e = .returned (.tuple #[v, .int .i64 (chkK d l)]) ∧ (if chkK d l = 0 then OwnN i64E w.heap.size w' v (l.map (sizeK d)) else v = .slice none 0 0) ∧ Gr w w'
set_option maxRecDepth 100000 in
set_option maxHeartbeats 2000000 in
theorem sizes_any (base D : Nat) (d : Dev) (l : List Int) (b p n c : Nat) (w : World) (h : DevAt base w D d) (hl : l.length = n) (hn : n ≤ 1000) (hb : b < w.heap.size) (hnc : n ≤ c) (hc : ∀ (j : Nat) x, l[j]? = some x → w.cell? ⟨b, p + j, none⟩ = some (.int .u64 x)) :
  Calls Try.prog 21 #[.pointer (some ⟨D, 0, none⟩), .slice (some ⟨b, p, none⟩) n c] w (SzPost base d l w) := by
 have HL := Lib.hid hl
 have HC := Lib.hid hc
 have HD := Lib.hid h
 haveI : Old b w := ⟨hb⟩
 clear hl hc h
 go_enter Try.func21, Try.ntmps21
 go_wp2
 go_loopw [19] (fun i wr => ∃ k : Nat, k ≤ n ∧ i = .int .i64 k ∧ (l.take k).Nodup ∧ Gr w wr) (fun i _ => n - (intOf i).toNat)
 case atStart => exact ⟨0, Nat.zero_le _, rfl, List.nodup_nil, Gr.refl _⟩
 case round =>
  obtain ⟨k, hk, rfl, hnd, hg⟩ := hrel
  obtain ⟨wo, hwo⟩ : ∃ wo : World, wo = wr := ⟨_, rfl⟩
  obtain ⟨g, rfl⟩ := hg
  have HN := Lib.hid hnd; clear hnd
  by_cases hlt : k < n
  ·obtain ⟨x, hx⟩ : ∃ x, l[k]? = some x := ⟨_, List.getElem?_eq_getElem (by rw [HL.out]; exact hlt)⟩
   have c1 := HC.out k x hx
   have HX := Lib.hid hx; clear hx
   go_wp2
   go_loopw [28] (fun i wr => ∃ j : Nat, j ≤ k ∧ i = .int .i64 j ∧ (x ∉ l.take j) ∧ wr = grown w g) (fun i _ => k - (intOf i).toNat)
   case atStart => exact ⟨0, Nat.zero_le _, rfl, by simp, rfl⟩
   case round =>
    obtain ⟨j, hj, rfl, hnx, rfl⟩ := hrel
    have HNX := Lib.hid hnx; clear hnx
    by_cases hlt2 : j < k
    ·obtain ⟨y, hy⟩ : ∃ y, l[j]? = some y := ⟨_, List.getElem?_eq_getElem (by rw [HL.out]; omega)⟩
     have c2 := HC.out j y hy
     have HY := Lib.hid hy; clear hy
     by_cases hq : y = x
     ·subst hq
      have hd := not_nodup hlt2 HY.out HX.out
      have HDU := Lib.hid (chkK_dup (d := d) hd)
      clear c1 hd
      go_wp2
      go_ret2
      exact ⟨_, by rw [HDU.out]; rfl, by rw [HDU.out]; exact rfl, gri⟩
     ·have hb : (y == x) = false := by simpa using hq
      have HQ := Lib.hid hq; clear hq
      go_wp2
      go_roundw
      case rel => exact ⟨j + 1, by omega, by go_num, notin_snoc HNX.out HY.out HQ.out, trivial⟩
      case measure => simp [intOf]; omega
    ·have : j = k := by omega
     subst this
     go_wp2
     go_roundw
     case rel => exact ⟨j + 1, by omega, by go_num, nodup_snoc HN.out HNX.out HX.out, gri⟩
     case measure => simp [intOf]; omega
  ·have : k = n := by omega
   subst this
   have hnd : l.Nodup := by have := HN.out; rwa [List.take_of_length_le (by rw [HL.out]; omega)] at this
   have HND := Lib.hid hnd; clear hnd
   go_wp2
   go_loopw [6, 39] (fun v i wr => ∃ j : Nat, j ≤ k ∧ i = .int .i64 j ∧ (∀ x ∈ l.take j, (getK d x).isSome = true) ∧ OwnN i64E w.heap.size wr v ((l.take j).map (sizeK d)) ∧ Gr w wr) (fun _ i _ => k - (intOf i).toNat)
   case atStart => exact ⟨0, Nat.zero_le _, rfl, by simp, OwnN.nil _ _, gri⟩
   case round =>
    obtain ⟨j, hj, rfl, hal, hown, hg⟩ := hrel
    haveI := grc_of hg
    haveI := from_of hg
    have HA := Lib.hid hal
    have HO := Lib.hid hown
    have HG := Lib.hid hg
    clear hal hown hg
    by_cases hlt : j < k
    ·obtain ⟨x, hx⟩ : ∃ x, l[j]? = some x := ⟨_, List.getElem?_eq_getElem (by rw [HL.out]; exact hlt)⟩
     have c1 : wr.cell? ⟨b, p + j, none⟩ = some (.int .u64 x) := (HG.out.below.cell (p := ⟨b, p + j, none⟩) hb).trans (HC.out j x hx)
     have HX := Lib.hid hx; clear hx
     haveI : Old b wr := ⟨Nat.lt_of_lt_of_le hb HG.out.below.size⟩
     cases hs : (getK d x).isSome
     ·have HM := Lib.hid (chkK_miss HND.out HX.out hs); 
      go_wp2_with ((go_at_call 12; ((with_reducible refine (size_any base D d x _ (HD.out.gr gri)).mono ?_); rintro _ _ ⟨rfl, g1, rfl⟩)))
      go_ret2
      exact ⟨_, by rw [HM.out]; rfl, by rw [HM.out]; exact rfl, gri⟩
     ·have HS := Lib.hid hs; 
      go_wp2_with (first | (go_at_call 12; ((with_reducible refine (size_any base D d x _ (HD.out.gr gri)).mono ?_); rintro _ _ ⟨rfl, g1, rfl⟩)) | (at_builtin; refine wp_append_n i64Is rfl _ _ rfl rfl (HO.out.gr gri) _ 0 [sizeK d x] 1 1 rfl rfl (fun _ _ => trivial) (CellsN.block _ inferInstance rfl) (by simp; omega) past (by simp) ?_; intro v1 W1 h1; have H1 := Lib.hid h1; clear h1))
      go_roundw
      case rel => exact ⟨j + 1, by omega, by go_num, by
       intro z hz
       rw [take_one HX.out] at hz
       rcases List.mem_append.1 hz with hz | hz
       ·exact HA.out z hz
       ·rw [List.mem_singleton] at hz; subst hz; exact HS.out, by rw [take_one HX.out, List.map_append]; exact H1.out.own, by haveI := H1.out.grc w (Nat.le_refl _); exact gri⟩
      case measure => simp [intOf]; omega
    ·have : j = k := by omega
     subst this
     have e : l.take j = l := List.take_of_length_le (by rw [HL.out]; omega)
     have HZ := Lib.hid (chkK_ok HND.out (fun x hx => HA.out x (by rw [e]; exact hx)))
     have HE := Lib.hid e; clear e
     go_wp2
     go_ret2
     exact ⟨_, by rw [HZ.out]; rfl, by rw [HZ.out, if_pos rfl]; have := HO.out; rw [HE.out] at this; exact this, gri⟩
set_option maxRecDepth 100000
set_option maxHeartbeats 4000000
theorem besK_cases (x y : Option Byt) : besK x y = if x.isSome = false ∧ y.isSome = false then 1 else if y.isSome = false then 5 else if x.isSome = false then 6 else if x.getD zB = y.getD zB then 3 else 4 := by
 cases x <;> cases y <;> simp [besK]
theorem wpStoreBH {w0 W : World} {ops : Array Oper} {rest : List Oper} {o : Oper} {a : Act} {Q : Exit → Act → World → Prop} (hg : Gr w0 W) (hgd : o.guard = none) (x y : Operand) (ho : o.op = .store 43 x y) (B : Nat) (zs cs : Array Value) (hx : a.eval x = .pointer (some ⟨B, 0, none⟩)) (hy : a.eval y = .agg cs) (hB : BlockAt W B zs 43) (hb : w0.heap.size ≤ B) (hz : CellRow 256 zs) (hc : CellRow 256 cs)
  (h : ∀ g : Growth w0, BlockAt (grown w0 g) B cs 43 → wpList Try.prog ops Q rest (a.put o.dst undef) (grown w0 g)) : wpList Try.prog ops Q (o :: rest) a W := by
 refine wpStoreB hgd x y ho B zs cs hx hy hB hz hc ?_
 have hG : Gr w0 (W.setRow B cs) := Gr.of (hg.below.trans ⟨rfl, rfl, rfl, by simp [World.setRow], fun k hk => by
  simp only [World.setRow, Array.getElem?_modify]
  rw [if_neg (by omega)]⟩)
 have hB2 : BlockAt (W.setRow B cs) B cs 43 := ⟨setRow_heap W B zs _ _ _ hB.eq⟩
 obtain ⟨g, e⟩ := hG
 rw [e] at hB2 ⊢
 exact h g hB2
theorem rkind_any (base R : Nat) (d : Dev) (i j : Nat) (pi pj : Int × VolM) (hi : d[i]? = some pi) (hj : d[j]? = some pj) (b : Int) (w : World) (h : RefAt base w R d) :
  Calls Try.prog 43 #[.pointer (some ⟨R, 0, none⟩), .int .i64 (i : Int), .int .i64 (j : Int), .int .i64 b] w fun e w' => e = .returned (.int .i64 (besK (getK pi.2.2 b) (getK pj.2.2 b))) ∧ Gr w w' := by
 obtain ⟨v, vf, h⟩ := h
 have hne : d ≠ [] := by rintro rfl; simp at hi
 obtain ⟨g, c, rfl, hbg, hgl, hgR, hc1, hc2, hty, hcl⟩ := h.form hne
 have hil : i < d.length := (List.getElem?_eq_some_iff.1 hi).1
 have hjl : j < d.length := (List.getElem?_eq_some_iff.1 hj).1
 have hm9 : d.length ≤ maxLen := Nat.le_trans hc1 hc2
 unfold maxLen at hm9
 have x0 : w.cell? ⟨R, 0, none⟩ = some (.slice (some ⟨g, 0, none⟩) d.length c) := (@block_cells _ _ 0 _ _ h.blk).trans rfl
 haveI : Old R w := h.blk.old
 haveI : Old g w := ⟨hgl⟩
 have ci := (hcl i _ hi).2.2
 have cj := (hcl j _ hj).2.2
 have hbi := h.vol _ (List.mem_of_getElem? hi)
 have hbj := h.vol _ (List.mem_of_getElem? hj)
 have H1 := Lib.hid (fun W (hW : Gr w W) => rget_any g (i * 3) (vf pi.1) pi.2.2 b W ((hW.below.cell (p := ⟨g, i * 3 + 2, none⟩) hgl).trans ci) (hbi.gr hW))
 have H2 := Lib.hid (fun W (hW : Gr w W) => rget_any g (j * 3) (vf pj.1) pj.2.2 b W ((hW.below.cell (p := ⟨g, j * 3 + 2, none⟩) hgl).trans cj) (hbj.gr hW))
 have hok1 := h.ok.vols _ (List.mem_of_getElem? hi)
 have hok2 := h.ok.vols _ (List.mem_of_getElem? hj)
 have l1 : ((getK pi.2.2 b).getD zB).length = 256 := by
  cases hg : getK pi.2.2 b with
  | none => exact zB_len
  | some B => exact hok1.len _ ((getK_mem hok1.sort).1 hg)
 have l2 : ((getK pj.2.2 b).getD zB).length = 256 := by
  cases hg : getK pj.2.2 b with
  | none => exact zB_len
  | some B => exact hok2.len _ ((getK_mem hok2.sort).1 hg)
 have HE := fun W => eqBlk _ _ l1 l2 W
 have HK := Lib.hid (besK_cases (getK pi.2.2 b) (getK pj.2.2 b))
 haveI := bkC_row l1
 haveI := bkC_row l2
 obtain ⟨r, hr⟩ : ∃ r, r = besK (getK pi.2.2 b) (getK pj.2.2 b) := ⟨_, rfl⟩
 rw [← hr] at HK ⊢
 generalize (getK pi.2.2 b).isSome = s1 at *
 generalize (getK pj.2.2 b).isSome = s2 at *
 generalize (getK pi.2.2 b).getD zB = B1 at *
 generalize (getK pj.2.2 b).getD zB = B2 at *
 generalize d.length = N at *
 clear hr hcl ci cj hbi hbj hok1 hok2 l1 l2 h hi hj hne
 cases s1 <;> cases s2
 all_goals
  rcases Bool.eq_false_or_eq_true (B1 == B2) with hq | hq
 all_goals
  have HQ := Lib.hid hq
  go_enter Try.func43, Try.ntmps43
  go_wp2_with (first | (go_at_call 29; ((with_reducible refine (H1.out _ gri).mono ?_); rintro _ _ ⟨rfl, g1, rfl⟩)) | (go_at_call 29; ((with_reducible refine (H2.out _ gri).mono ?_); rintro _ _ ⟨rfl, g2, rfl⟩)) | (refine wpStoreBH (w0 := grown w g8) gri rfl _ _ rfl _ _ _ rfl rfl inferInstance (Past.le (a := grown w g8)) inferInstance inferInstance ?_; intro g9 hB9; haveI := hB9; haveI := hB9.old) | (refine wpStoreBH (w0 := w) gri rfl _ _ rfl _ _ _ rfl rfl inferInstance (Past.le (a := w)) inferInstance inferInstance ?_; intro g8 hB8; haveI := hB8; haveI := hB8.old) | (refine wpLoadB rfl _ rfl _ _ rfl inferInstance inferInstance ?_))
  go_ret
  exact ⟨by have h9 := HK.out; have h8 := HQ.out; simp only [beq_iff_eq, beq_eq_false_iff_ne, ne_eq] at h8; simp [h8] at h9; rw [h9]; rfl, gri⟩
theorem idx_neg (d : Dev) (v : Int) : decide (idxK d v < 0) = !(getK d v).isSome := by
 cases h : getK d v with
 | none => rw [idx_none (findN_none.2 h)]; rfl
 | some x =>
  cases hf : findN d v with
  | none => rw [findN_none, h] at hf; cases hf
  | some i => rw [idx_some hf]; simp
theorem rcheck_any (base R : Nat) (d : Dev) (l : List Int) (b p n c : Nat) (w : World) (h : RefAt base w R d) (hd9 : d.length ≤ 1000000) (hl : l.length = n) (hn : n ≤ 1000) (hb : b < w.heap.size) (hnc : n ≤ c) (hc : ∀ (j : Nat) x, l[j]? = some x → w.cell? ⟨b, p + j, none⟩ = some (.int .u64 x)) :
  Calls Try.prog 26 #[.pointer (some ⟨R, 0, none⟩), .slice (some ⟨b, p, none⟩) n c] w fun e w' => e = .returned (.int .i64 (chkK d l)) ∧ Gr w w' := by
 have HL := Lib.hid hl
 have HC := Lib.hid hc
 have HF := Lib.hid (fun W (hW : Gr w W) x => rfind_any base R d x W (h.gr hW) hd9)
 haveI : Old b w := ⟨hb⟩
 obtain ⟨r, hr⟩ : ∃ r, r = chkK d l := ⟨_, rfl⟩
 rw [← hr]
 have HR := Lib.hid hr
 clear hl hc h hr
 go_enter Try.func26, Try.ntmps26
 go_wp2
 go_loopw [5] (fun i wr => ∃ k : Nat, k ≤ n ∧ i = .int .i64 (k : Int) ∧ (l.take k).Nodup ∧ Gr w wr) (fun i _ => n - (intOf i).toNat)
 case atStart => exact ⟨0, Nat.zero_le _, rfl, List.nodup_nil, gri⟩
 case round =>
  obtain ⟨k, hk, rfl, hnd, hg⟩ := hrel
  obtain ⟨g, rfl⟩ := hg
  have HN := Lib.hid hnd; clear hnd
  by_cases hlt : k < n
  ·obtain ⟨x, hx⟩ : ∃ x, l[k]? = some x := ⟨_, List.getElem?_eq_getElem (by rw [HL.out]; exact hlt)⟩
   have c1 := HC.out k x hx
   have HX := Lib.hid hx; clear hx
   go_wp2
   go_loopw [6] (fun i wr => ∃ j : Nat, j ≤ k ∧ i = .int .i64 (j : Int) ∧ (x ∉ l.take j) ∧ Gr w wr) (fun i _ => k - (intOf i).toNat)
   case atStart => exact ⟨0, Nat.zero_le _, rfl, by simp, gri⟩
   case round =>
    obtain ⟨j, hj, rfl, hnx, hg2⟩ := hrel
    obtain ⟨g2, rfl⟩ := hg2
    have HNX := Lib.hid hnx; clear hnx
    by_cases hlt2 : j < k
    ·obtain ⟨y, hy⟩ : ∃ y, l[j]? = some y := ⟨_, List.getElem?_eq_getElem (by rw [HL.out]; omega)⟩
     have c2 := HC.out j y hy
     have HY := Lib.hid hy; clear hy
     by_cases hq : x = y
     ·have hd := not_nodup hlt2 HY.out (by rw [← hq]; exact HX.out)
      have HDU := Lib.hid (chkK_dup (d := d) hd)
      have hb : (x == y) = true := by simpa using hq
      clear hd hq
      go_wp2
      refine wp_region_grow (by kernel_rfl) (by kernel_rfl) ?_
      repeat (go_big_quiet_step (fail))
      refine wpQuiet_nil ?_
      intro g3
      go_wp2
      go_ret
      exact ⟨by rw [HR.out, HDU.out]; rfl, gri⟩
     ·have hb : (x == y) = false := by simpa using hq
      have HQ := Lib.hid hq; clear hq
      go_wp2
      refine wp_region_grow (by kernel_rfl) (by kernel_rfl) ?_
      repeat (go_big_quiet_step (fail))
      refine wpQuiet_nil ?_
      intro g3
      go_wp2
      go_roundw
      case rel => exact ⟨j + 1, by omega, by go_num, notin_snoc HNX.out HY.out (fun e => HQ.out e.symm), gri⟩
      case measure => simp [intOf]; omega
    ·have : j = k := by omega
     subst this
     go_wp2
     go_roundw
     case rel => exact ⟨j + 1, by omega, by go_num, nodup_snoc HN.out HNX.out HX.out, gri⟩
     case measure => simp [intOf]; omega
  ·have : k = n := by omega
   subst this
   have hnd : l.Nodup := by have := HN.out; rwa [List.take_of_length_le (by rw [HL.out]; omega)] at this
   have HND := Lib.hid hnd; clear hnd
   go_wp2
   go_loopw [7] (fun i wr => ∃ j : Nat, j ≤ k ∧ i = .int .i64 (j : Int) ∧ (∀ x ∈ l.take j, (getK d x).isSome = true) ∧ Gr w wr) (fun i _ => k - (intOf i).toNat)
   case atStart => exact ⟨0, Nat.zero_le _, rfl, by simp, gri⟩
   case round =>
    obtain ⟨j, hj, rfl, hal, hg2⟩ := hrel
    obtain ⟨g2, rfl⟩ := hg2
    have HA := Lib.hid hal; clear hal
    by_cases hlt : j < k
    ·obtain ⟨x, hx⟩ : ∃ x, l[j]? = some x := ⟨_, List.getElem?_eq_getElem (by rw [HL.out]; exact hlt)⟩
     have c1 := HC.out j x hx
     have HX := Lib.hid hx; clear hx
     have hneg := idx_neg d x
     have HF2 := Lib.hid (fun W hW => HF.out W hW x)
     generalize idxK d x = ix at *
     cases hs : (getK d x).isSome
     ·have HM := Lib.hid (chkK_miss HND.out HX.out hs)
      rw [hs] at hneg
      simp only [Bool.not_false] at hneg
      clear hs
      go_wp2_with ((go_at_call 27; ((with_reducible refine (HF2.out _ gri).mono ?_); rintro _ _ ⟨rfl, g1, rfl⟩)))
      go_ret
      exact ⟨by rw [HR.out, HM.out]; rfl, gri⟩
     ·have HS := Lib.hid hs
      rw [hs] at hneg
      simp only [Bool.not_true] at hneg
      clear hs
      go_wp2_with ((go_at_call 27; ((with_reducible refine (HF2.out _ gri).mono ?_); rintro _ _ ⟨rfl, g1, rfl⟩)))
      go_roundw
      case rel => exact ⟨j + 1, by omega, by go_num, by
       intro z hz
       rw [take_one HX.out] at hz
       rcases List.mem_append.1 hz with hz | hz
       ·exact HA.out z hz
       ·rw [List.mem_singleton] at hz; subst hz; exact HS.out, gri⟩
      case measure => simp [intOf]; omega
    ·have : j = k := by omega
     subst this
     have e : l.take j = l := List.take_of_length_le (by rw [HL.out]; omega)
     have HZ := Lib.hid (chkK_ok HND.out (fun x hx => HA.out x (by rw [e]; exact hx)))
     clear e
     go_wp2
     go_ret
     exact ⟨by rw [HR.out, HZ.out]; rfl, gri⟩
set_option maxRecDepth 100000
set_option maxHeartbeats 4000000
def aliR (x y : Option Byt) : Bool := besK x y == 1 || besK x y == 3
theorem ralike_any (base R : Nat) (d : Dev) (i j : Nat) (pi pj : Int × VolM) (hi : d[i]? = some pi) (hj : d[j]? = some pj) (b : Int) (w : World) (h : RefAt base w R d) :
  Calls Try.prog 28 #[.pointer (some ⟨R, 0, none⟩), .int .i64 (i : Int), .int .i64 (j : Int), .int .i64 b] w fun e w' => e = .returned (.bool (aliR (getK pi.2.2 b) (getK pj.2.2 b))) ∧ Gr w w' := by
 have HK := Lib.hid (fun W (hW : Gr w W) => rkind_any base R d i j pi pj hi hj b W (h.gr hW))
 obtain ⟨r, hr⟩ : ∃ r, r = besK (getK pi.2.2 b) (getK pj.2.2 b) := ⟨_, rfl⟩
 unfold aliR
 rw [← hr] at HK ⊢
 clear hr h hi hj
 by_cases h1 : (r == 1) = true
 ·rw [h1]
  go_enter Try.func28, Try.ntmps28
  go_wp2_with ((go_at_call 43; ((with_reducible refine (HK.out _ gri).mono ?_); rintro _ _ ⟨rfl, g1, rfl⟩)))
  go_ret
  exact ⟨by simp, gri⟩
 ·have h1 : (r == 1) = false := by simpa using h1
  rw [h1]
  go_enter Try.func28, Try.ntmps28
  go_wp2_with ((go_at_call 43; ((with_reducible refine (HK.out _ gri).mono ?_); rintro _ _ ⟨rfl, g1, rfl⟩)))
  go_ret
  exact ⟨by simp, gri⟩
end Go.Proofs.Ytipeblmgochdfaa
