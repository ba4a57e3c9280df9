/- StateMeets: what two have in common, and whether one may lead, is what the chapter says, for any two states. Conditions: none. -/
import Derived.Test.YtginaleekfljfaaRows
import Derived.Test.YtginaleekfljfaaLaw
import Derived.Test.YtginaleekfljfaaMeet2
namespace Go.Proofs.Ytginaleekfljfaa
open Go.ChangeShapes Go.WideShapes Go.ChangeAt Go.RowKit Go.Deep
open Go.ChangeMaps (open_string shut_string)
set_option linter.unusedVariables false
set_option linter.unusedSimpArgs false
set_option linter.unnecessarySimpa false
namespace stateMeets
set_option maxHeartbeats 2000000 in
theorem walk_same (xe xl xs xb xq ye yl ys yb yq : Int) (xm ym : Bool) (w : World) (hs : n2 xl xs yl ys = true) :
    Calls Try.prog 3 #[(Value.agg #[.int .u64 xe, .int .u64 xl, .int .u64 xs, .int .u64 xb, .int .u64 xq, .bool xm]), (Value.agg #[.int .u64 ye, .int .u64 yl, .int .u64 ys, .int .u64 yb, .int .u64 yq, .bool ym])] w fun e w' => e = .returned (.bool true) ∧ Gr w w' := by
  go_enter Try.func3, Try.ntmps3
  go_wp2
  refine wp_region_all [0, 1, 2, 3, 4, 5, 6, 7, 8, 9] [10, 11] [12, 13] (by kernel_rfl) (by kernel_rfl) ?_
  simp only [pick, List.drop_succ_cons, List.drop_zero, List.take_succ_cons, List.take_zero, List.nil_append, List.cons_append]
  repeat (refine wpCalm_step (fun K hK => ?_); go_simp; first | (refine hK _ ?_; clear hK K) | (apply Exists.intro; refine ⟨fun _ => ?_, hK _ ?_⟩; (fail); clear hK K))
  refine wpCalm_nil ?_
  refine ⟨_, _, _, allocOp_alloc rfl rfl Try.zeroValue26, fun b1_0 hb1_0 nb1_0 => ?_⟩
  refine ⟨_, _, _, allocOp_alloc rfl rfl Try.zeroValue26, fun b1_1 hb1_1 nb1_1 => ?_⟩
  have db1_1_0 : b1_0 ≠ b1_1 := nb1_1 (b1_0, _, _) List.mem_cons_self
  simp only [Act.put, List.setIfInBounds_toArray, List.set_cons_zero, List.set_cons_succ]
  refine ⟨_, _, _, b1_0, #[.int .u64 0, .int .u64 0], _, #[.int .u64 xl, .int .u64 xs], rfl, rfl, rfl, (List.mem_cons_of_mem _ List.mem_cons_self), ?hu, hb1_0, rfl, rfl, rfl, rfl, [(b1_0, #[.int .u64 xl, .int .u64 xs], 26), (b1_1, #[.int .u64 0, .int .u64 0], 26)], ?hs, ?_⟩
  case hu =>
    intro z hz e
    rcases List.mem_cons.1 hz with rfl | hz
    · exact absurd e db1_1_0.symm
    rcases List.mem_cons.1 hz with rfl | hz
    · rfl
    cases hz
  case hs =>
    intro z
    constructor
    · intro hz
      rcases List.mem_cons.1 hz with rfl | hz
      · exact .inl rfl
      rcases List.mem_cons.1 hz with rfl | hz
      · exact .inr ⟨List.mem_cons_self, db1_1_0.symm⟩
      cases hz
    · rintro (rfl | ⟨hz, hne⟩)
      · exact List.mem_cons_self
      rcases List.mem_cons.1 hz with rfl | hz
      · exact (List.mem_cons_of_mem _ List.mem_cons_self)
      rcases List.mem_cons.1 hz with rfl | hz
      · exact absurd rfl hne
      cases hz
  refine ⟨_, _, _, b1_1, #[.int .u64 0, .int .u64 0], _, #[.int .u64 xb, .int .u64 xq], rfl, rfl, rfl, (List.mem_cons_of_mem _ List.mem_cons_self), ?hu, hb1_1, rfl, rfl, rfl, rfl, [(b1_1, #[.int .u64 xb, .int .u64 xq], 26), (b1_0, #[.int .u64 xl, .int .u64 xs], 26)], ?hs, ?_⟩
  case hu =>
    intro z hz e
    rcases List.mem_cons.1 hz with rfl | hz
    · exact absurd e db1_1_0
    rcases List.mem_cons.1 hz with rfl | hz
    · rfl
    cases hz
  case hs =>
    intro z
    constructor
    · intro hz
      rcases List.mem_cons.1 hz with rfl | hz
      · exact .inl rfl
      rcases List.mem_cons.1 hz with rfl | hz
      · exact .inr ⟨List.mem_cons_self, db1_1_0⟩
      cases hz
    · rintro (rfl | ⟨hz, hne⟩)
      · exact List.mem_cons_self
      rcases List.mem_cons.1 hz with rfl | hz
      · exact (List.mem_cons_of_mem _ List.mem_cons_self)
      rcases List.mem_cons.1 hz with rfl | hz
      · exact absurd rfl hne
      cases hz
  intro w1 hw1
  have cb1_1 : ∀ o, w1.cell? ⟨b1_1, o, none⟩ = (#[.int .u64 xb, .int .u64 xq] : Array Value)[o]? := mix_cell hw1 List.mem_cons_self
  have fb1_1 : ∀ o, w1.frozen? ⟨b1_1, o, none⟩ = false := mix_frozen hw1 List.mem_cons_self
  have ob1_1 : Old b1_1 w1 := mix_old hw1 List.mem_cons_self
  have cb1_0 : ∀ o, w1.cell? ⟨b1_0, o, none⟩ = (#[.int .u64 xl, .int .u64 xs] : Array Value)[o]? := mix_cell hw1 (List.mem_cons_of_mem _ List.mem_cons_self)
  have fb1_0 : ∀ o, w1.frozen? ⟨b1_0, o, none⟩ = false := mix_frozen hw1 (List.mem_cons_of_mem _ List.mem_cons_self)
  have ob1_0 : Old b1_0 w1 := mix_old hw1 (List.mem_cons_of_mem _ List.mem_cons_self)
  have qb1_0 := @fresh_ne _ _ hb1_0
  have rb1_0 := @fresh_en _ _ hb1_0
  have lb1_0 := fresh_le hb1_0 w.heap.size
  have qb1_1 := @fresh_ne _ _ hb1_1
  have rb1_1 := @fresh_en _ _ hb1_1
  have lb1_1 := fresh_le hb1_1 w.heap.size
  have eb1_1_0 : ¬ b1_1 = b1_0 := fun e => db1_1_0 e.symm
  obtain ⟨⟨g1, rfl⟩, hbs⟩ := hw1
  clear hbs nb1_0 nb1_1
  go_wp2
  refine wp_region_all [0, 1, 2, 3, 4, 5, 6, 7, 8, 9] [10, 11] [12, 13] (by kernel_rfl) (by kernel_rfl) ?_
  simp only [pick, List.drop_succ_cons, List.drop_zero, List.take_succ_cons, List.take_zero, List.nil_append, List.cons_append]
  repeat (refine wpCalm_step (fun K hK => ?_); go_simp; first | (refine hK _ ?_; clear hK K) | (apply Exists.intro; refine ⟨fun _ => ?_, hK _ ?_⟩; (fail); clear hK K))
  refine wpCalm_nil ?_
  refine ⟨_, _, _, allocOp_alloc rfl rfl Try.zeroValue26, fun b2_0 hb2_0 nb2_0 => ?_⟩
  refine ⟨_, _, _, allocOp_alloc rfl rfl Try.zeroValue26, fun b2_1 hb2_1 nb2_1 => ?_⟩
  have db2_1_0 : b2_0 ≠ b2_1 := nb2_1 (b2_0, _, _) List.mem_cons_self
  simp only [Act.put, List.setIfInBounds_toArray, List.set_cons_zero, List.set_cons_succ]
  refine ⟨_, _, _, b2_0, #[.int .u64 0, .int .u64 0], _, #[.int .u64 yl, .int .u64 ys], rfl, rfl, rfl, (List.mem_cons_of_mem _ List.mem_cons_self), ?hu, hb2_0, rfl, rfl, rfl, rfl, [(b2_0, #[.int .u64 yl, .int .u64 ys], 26), (b2_1, #[.int .u64 0, .int .u64 0], 26)], ?hs, ?_⟩
  case hu =>
    intro z hz e
    rcases List.mem_cons.1 hz with rfl | hz
    · exact absurd e db2_1_0.symm
    rcases List.mem_cons.1 hz with rfl | hz
    · rfl
    cases hz
  case hs =>
    intro z
    constructor
    · intro hz
      rcases List.mem_cons.1 hz with rfl | hz
      · exact .inl rfl
      rcases List.mem_cons.1 hz with rfl | hz
      · exact .inr ⟨List.mem_cons_self, db2_1_0.symm⟩
      cases hz
    · rintro (rfl | ⟨hz, hne⟩)
      · exact List.mem_cons_self
      rcases List.mem_cons.1 hz with rfl | hz
      · exact (List.mem_cons_of_mem _ List.mem_cons_self)
      rcases List.mem_cons.1 hz with rfl | hz
      · exact absurd rfl hne
      cases hz
  refine ⟨_, _, _, b2_1, #[.int .u64 0, .int .u64 0], _, #[.int .u64 yb, .int .u64 yq], rfl, rfl, rfl, (List.mem_cons_of_mem _ List.mem_cons_self), ?hu, hb2_1, rfl, rfl, rfl, rfl, [(b2_1, #[.int .u64 yb, .int .u64 yq], 26), (b2_0, #[.int .u64 yl, .int .u64 ys], 26)], ?hs, ?_⟩
  case hu =>
    intro z hz e
    rcases List.mem_cons.1 hz with rfl | hz
    · exact absurd e db2_1_0
    rcases List.mem_cons.1 hz with rfl | hz
    · rfl
    cases hz
  case hs =>
    intro z
    constructor
    · intro hz
      rcases List.mem_cons.1 hz with rfl | hz
      · exact .inl rfl
      rcases List.mem_cons.1 hz with rfl | hz
      · exact .inr ⟨List.mem_cons_self, db2_1_0⟩
      cases hz
    · rintro (rfl | ⟨hz, hne⟩)
      · exact List.mem_cons_self
      rcases List.mem_cons.1 hz with rfl | hz
      · exact (List.mem_cons_of_mem _ List.mem_cons_self)
      rcases List.mem_cons.1 hz with rfl | hz
      · exact absurd rfl hne
      cases hz
  intro w1 hw1
  have cb2_1 : ∀ o, w1.cell? ⟨b2_1, o, none⟩ = (#[.int .u64 yb, .int .u64 yq] : Array Value)[o]? := mix_cell hw1 List.mem_cons_self
  have fb2_1 : ∀ o, w1.frozen? ⟨b2_1, o, none⟩ = false := mix_frozen hw1 List.mem_cons_self
  have ob2_1 : Old b2_1 w1 := mix_old hw1 List.mem_cons_self
  have cb2_0 : ∀ o, w1.cell? ⟨b2_0, o, none⟩ = (#[.int .u64 yl, .int .u64 ys] : Array Value)[o]? := mix_cell hw1 (List.mem_cons_of_mem _ List.mem_cons_self)
  have fb2_0 : ∀ o, w1.frozen? ⟨b2_0, o, none⟩ = false := mix_frozen hw1 (List.mem_cons_of_mem _ List.mem_cons_self)
  have ob2_0 : Old b2_0 w1 := mix_old hw1 (List.mem_cons_of_mem _ List.mem_cons_self)
  have qb2_0 := @fresh_ne _ _ hb2_0
  have rb2_0 := @fresh_en _ _ hb2_0
  have lb2_0 := fresh_le hb2_0 w.heap.size
  have qb2_1 := @fresh_ne _ _ hb2_1
  have rb2_1 := @fresh_en _ _ hb2_1
  have lb2_1 := fresh_le hb2_1 w.heap.size
  have eb2_1_0 : ¬ b2_1 = b2_0 := fun e => db2_1_0 e.symm
  obtain ⟨⟨g2, rfl⟩, hbs⟩ := hw1
  clear hbs nb2_0 nb2_1
  go_wp2
  all_goals
    refine wp_region_grow (by kernel_rfl) (by kernel_rfl) ?_
    repeat (go_big_quiet_step ((first | (go_at_call 9; exact grow_call (meet_same _ _ _ _ _ _ _ _ _ _ _ _ _ hs)) | (go_at_call 10; exact grow_call (safe_any _ _ _ _ _ _ _ _ _ _ _ _ _)) | (go_at_call 11; exact grow_call (known18_any _)))))
    refine wpQuiet_nil ?_
    intro g9
    go_wp2
    go_ret
    exact ⟨rfl, by (refine Gr.of ?_; repeat (first | with_reducible exact Below.refl _ _ | with_reducible apply below_alloc | ((with_reducible refine below_set ?_ ?hq _); case hq => (first | omega | exact Nat.le_of_lt (grown_lt _ _ _) | assumption)) | with_reducible refine below_trans ?_ (grown_below _ _) | with_reducible apply Below.drew | with_reducible refine below_trans ?_ (by assumption)))⟩
set_option maxHeartbeats 2000000 in
theorem walk_two (xe xl xs xb xq ye yl ys yb yq : Int) (xm ym : Bool) (w : World) (h : n2 xl xs yl ys = false) (h2 : n2 xl xs yb yq = true) :
    Calls Try.prog 3 #[(Value.agg #[.int .u64 xe, .int .u64 xl, .int .u64 xs, .int .u64 xb, .int .u64 xq, .bool xm]), (Value.agg #[.int .u64 ye, .int .u64 yl, .int .u64 ys, .int .u64 yb, .int .u64 yq, .bool ym])] w fun e w' => e = .returned (.bool true) ∧ Gr w w' := by
  go_enter Try.func3, Try.ntmps3
  go_wp2
  refine wp_region_all [0, 1, 2, 3, 4, 5, 6, 7, 8, 9] [10, 11] [12, 13] (by kernel_rfl) (by kernel_rfl) ?_
  simp only [pick, List.drop_succ_cons, List.drop_zero, List.take_succ_cons, List.take_zero, List.nil_append, List.cons_append]
  repeat (refine wpCalm_step (fun K hK => ?_); go_simp; first | (refine hK _ ?_; clear hK K) | (apply Exists.intro; refine ⟨fun _ => ?_, hK _ ?_⟩; (fail); clear hK K))
  refine wpCalm_nil ?_
  refine ⟨_, _, _, allocOp_alloc rfl rfl Try.zeroValue26, fun b1_0 hb1_0 nb1_0 => ?_⟩
  refine ⟨_, _, _, allocOp_alloc rfl rfl Try.zeroValue26, fun b1_1 hb1_1 nb1_1 => ?_⟩
  have db1_1_0 : b1_0 ≠ b1_1 := nb1_1 (b1_0, _, _) List.mem_cons_self
  simp only [Act.put, List.setIfInBounds_toArray, List.set_cons_zero, List.set_cons_succ]
  refine ⟨_, _, _, b1_0, #[.int .u64 0, .int .u64 0], _, #[.int .u64 xl, .int .u64 xs], rfl, rfl, rfl, (List.mem_cons_of_mem _ List.mem_cons_self), ?hu, hb1_0, rfl, rfl, rfl, rfl, [(b1_0, #[.int .u64 xl, .int .u64 xs], 26), (b1_1, #[.int .u64 0, .int .u64 0], 26)], ?hs, ?_⟩
  case hu =>
    intro z hz e
    rcases List.mem_cons.1 hz with rfl | hz
    · exact absurd e db1_1_0.symm
    rcases List.mem_cons.1 hz with rfl | hz
    · rfl
    cases hz
  case hs =>
    intro z
    constructor
    · intro hz
      rcases List.mem_cons.1 hz with rfl | hz
      · exact .inl rfl
      rcases List.mem_cons.1 hz with rfl | hz
      · exact .inr ⟨List.mem_cons_self, db1_1_0.symm⟩
      cases hz
    · rintro (rfl | ⟨hz, hne⟩)
      · exact List.mem_cons_self
      rcases List.mem_cons.1 hz with rfl | hz
      · exact (List.mem_cons_of_mem _ List.mem_cons_self)
      rcases List.mem_cons.1 hz with rfl | hz
      · exact absurd rfl hne
      cases hz
  refine ⟨_, _, _, b1_1, #[.int .u64 0, .int .u64 0], _, #[.int .u64 xb, .int .u64 xq], rfl, rfl, rfl, (List.mem_cons_of_mem _ List.mem_cons_self), ?hu, hb1_1, rfl, rfl, rfl, rfl, [(b1_1, #[.int .u64 xb, .int .u64 xq], 26), (b1_0, #[.int .u64 xl, .int .u64 xs], 26)], ?hs, ?_⟩
  case hu =>
    intro z hz e
    rcases List.mem_cons.1 hz with rfl | hz
    · exact absurd e db1_1_0
    rcases List.mem_cons.1 hz with rfl | hz
    · rfl
    cases hz
  case hs =>
    intro z
    constructor
    · intro hz
      rcases List.mem_cons.1 hz with rfl | hz
      · exact .inl rfl
      rcases List.mem_cons.1 hz with rfl | hz
      · exact .inr ⟨List.mem_cons_self, db1_1_0⟩
      cases hz
    · rintro (rfl | ⟨hz, hne⟩)
      · exact List.mem_cons_self
      rcases List.mem_cons.1 hz with rfl | hz
      · exact (List.mem_cons_of_mem _ List.mem_cons_self)
      rcases List.mem_cons.1 hz with rfl | hz
      · exact absurd rfl hne
      cases hz
  intro w1 hw1
  have cb1_1 : ∀ o, w1.cell? ⟨b1_1, o, none⟩ = (#[.int .u64 xb, .int .u64 xq] : Array Value)[o]? := mix_cell hw1 List.mem_cons_self
  have fb1_1 : ∀ o, w1.frozen? ⟨b1_1, o, none⟩ = false := mix_frozen hw1 List.mem_cons_self
  have ob1_1 : Old b1_1 w1 := mix_old hw1 List.mem_cons_self
  have cb1_0 : ∀ o, w1.cell? ⟨b1_0, o, none⟩ = (#[.int .u64 xl, .int .u64 xs] : Array Value)[o]? := mix_cell hw1 (List.mem_cons_of_mem _ List.mem_cons_self)
  have fb1_0 : ∀ o, w1.frozen? ⟨b1_0, o, none⟩ = false := mix_frozen hw1 (List.mem_cons_of_mem _ List.mem_cons_self)
  have ob1_0 : Old b1_0 w1 := mix_old hw1 (List.mem_cons_of_mem _ List.mem_cons_self)
  have qb1_0 := @fresh_ne _ _ hb1_0
  have rb1_0 := @fresh_en _ _ hb1_0
  have lb1_0 := fresh_le hb1_0 w.heap.size
  have qb1_1 := @fresh_ne _ _ hb1_1
  have rb1_1 := @fresh_en _ _ hb1_1
  have lb1_1 := fresh_le hb1_1 w.heap.size
  have eb1_1_0 : ¬ b1_1 = b1_0 := fun e => db1_1_0 e.symm
  obtain ⟨⟨g1, rfl⟩, hbs⟩ := hw1
  clear hbs nb1_0 nb1_1
  go_wp2
  refine wp_region_all [0, 1, 2, 3, 4, 5, 6, 7, 8, 9] [10, 11] [12, 13] (by kernel_rfl) (by kernel_rfl) ?_
  simp only [pick, List.drop_succ_cons, List.drop_zero, List.take_succ_cons, List.take_zero, List.nil_append, List.cons_append]
  repeat (refine wpCalm_step (fun K hK => ?_); go_simp; first | (refine hK _ ?_; clear hK K) | (apply Exists.intro; refine ⟨fun _ => ?_, hK _ ?_⟩; (fail); clear hK K))
  refine wpCalm_nil ?_
  refine ⟨_, _, _, allocOp_alloc rfl rfl Try.zeroValue26, fun b2_0 hb2_0 nb2_0 => ?_⟩
  refine ⟨_, _, _, allocOp_alloc rfl rfl Try.zeroValue26, fun b2_1 hb2_1 nb2_1 => ?_⟩
  have db2_1_0 : b2_0 ≠ b2_1 := nb2_1 (b2_0, _, _) List.mem_cons_self
  simp only [Act.put, List.setIfInBounds_toArray, List.set_cons_zero, List.set_cons_succ]
  refine ⟨_, _, _, b2_0, #[.int .u64 0, .int .u64 0], _, #[.int .u64 yl, .int .u64 ys], rfl, rfl, rfl, (List.mem_cons_of_mem _ List.mem_cons_self), ?hu, hb2_0, rfl, rfl, rfl, rfl, [(b2_0, #[.int .u64 yl, .int .u64 ys], 26), (b2_1, #[.int .u64 0, .int .u64 0], 26)], ?hs, ?_⟩
  case hu =>
    intro z hz e
    rcases List.mem_cons.1 hz with rfl | hz
    · exact absurd e db2_1_0.symm
    rcases List.mem_cons.1 hz with rfl | hz
    · rfl
    cases hz
  case hs =>
    intro z
    constructor
    · intro hz
      rcases List.mem_cons.1 hz with rfl | hz
      · exact .inl rfl
      rcases List.mem_cons.1 hz with rfl | hz
      · exact .inr ⟨List.mem_cons_self, db2_1_0.symm⟩
      cases hz
    · rintro (rfl | ⟨hz, hne⟩)
      · exact List.mem_cons_self
      rcases List.mem_cons.1 hz with rfl | hz
      · exact (List.mem_cons_of_mem _ List.mem_cons_self)
      rcases List.mem_cons.1 hz with rfl | hz
      · exact absurd rfl hne
      cases hz
  refine ⟨_, _, _, b2_1, #[.int .u64 0, .int .u64 0], _, #[.int .u64 yb, .int .u64 yq], rfl, rfl, rfl, (List.mem_cons_of_mem _ List.mem_cons_self), ?hu, hb2_1, rfl, rfl, rfl, rfl, [(b2_1, #[.int .u64 yb, .int .u64 yq], 26), (b2_0, #[.int .u64 yl, .int .u64 ys], 26)], ?hs, ?_⟩
  case hu =>
    intro z hz e
    rcases List.mem_cons.1 hz with rfl | hz
    · exact absurd e db2_1_0
    rcases List.mem_cons.1 hz with rfl | hz
    · rfl
    cases hz
  case hs =>
    intro z
    constructor
    · intro hz
      rcases List.mem_cons.1 hz with rfl | hz
      · exact .inl rfl
      rcases List.mem_cons.1 hz with rfl | hz
      · exact .inr ⟨List.mem_cons_self, db2_1_0⟩
      cases hz
    · rintro (rfl | ⟨hz, hne⟩)
      · exact List.mem_cons_self
      rcases List.mem_cons.1 hz with rfl | hz
      · exact (List.mem_cons_of_mem _ List.mem_cons_self)
      rcases List.mem_cons.1 hz with rfl | hz
      · exact absurd rfl hne
      cases hz
  intro w1 hw1
  have cb2_1 : ∀ o, w1.cell? ⟨b2_1, o, none⟩ = (#[.int .u64 yb, .int .u64 yq] : Array Value)[o]? := mix_cell hw1 List.mem_cons_self
  have fb2_1 : ∀ o, w1.frozen? ⟨b2_1, o, none⟩ = false := mix_frozen hw1 List.mem_cons_self
  have ob2_1 : Old b2_1 w1 := mix_old hw1 List.mem_cons_self
  have cb2_0 : ∀ o, w1.cell? ⟨b2_0, o, none⟩ = (#[.int .u64 yl, .int .u64 ys] : Array Value)[o]? := mix_cell hw1 (List.mem_cons_of_mem _ List.mem_cons_self)
  have fb2_0 : ∀ o, w1.frozen? ⟨b2_0, o, none⟩ = false := mix_frozen hw1 (List.mem_cons_of_mem _ List.mem_cons_self)
  have ob2_0 : Old b2_0 w1 := mix_old hw1 (List.mem_cons_of_mem _ List.mem_cons_self)
  have qb2_0 := @fresh_ne _ _ hb2_0
  have rb2_0 := @fresh_en _ _ hb2_0
  have lb2_0 := fresh_le hb2_0 w.heap.size
  have qb2_1 := @fresh_ne _ _ hb2_1
  have rb2_1 := @fresh_en _ _ hb2_1
  have lb2_1 := fresh_le hb2_1 w.heap.size
  have eb2_1_0 : ¬ b2_1 = b2_0 := fun e => db2_1_0 e.symm
  obtain ⟨⟨g2, rfl⟩, hbs⟩ := hw1
  clear hbs nb2_0 nb2_1
  go_wp2
  all_goals
    refine wp_region_grow (by kernel_rfl) (by kernel_rfl) ?_
    repeat (go_big_quiet_step ((first | (go_at_call 9; exact grow_call (meet_two _ _ _ _ _ _ _ _ _ _ _ _ _ h h2)) | (go_at_call 10; exact grow_call (safe_any _ _ _ _ _ _ _ _ _ _ _ _ _)) | (go_at_call 11; exact grow_call (known18_any _)))))
    refine wpQuiet_nil ?_
    intro g9
    go_wp2
    go_ret
    exact ⟨rfl, by (refine Gr.of ?_; repeat (first | with_reducible exact Below.refl _ _ | with_reducible apply below_alloc | ((with_reducible refine below_set ?_ ?hq _); case hq => (first | omega | exact Nat.le_of_lt (grown_lt _ _ _) | assumption)) | with_reducible refine below_trans ?_ (grown_below _ _) | with_reducible apply Below.drew | with_reducible refine below_trans ?_ (by assumption)))⟩
set_option maxHeartbeats 2000000 in
theorem walk_three (xe xl xs xb xq ye yl ys yb yq : Int) (xm ym : Bool) (w : World) (h : n2 xl xs yl ys = false) (h2 : n2 xl xs yb yq = false) (h3 : n2 xb xq yl ys = true) :
    Calls Try.prog 3 #[(Value.agg #[.int .u64 xe, .int .u64 xl, .int .u64 xs, .int .u64 xb, .int .u64 xq, .bool xm]), (Value.agg #[.int .u64 ye, .int .u64 yl, .int .u64 ys, .int .u64 yb, .int .u64 yq, .bool ym])] w fun e w' => e = .returned (.bool true) ∧ Gr w w' := by
  go_enter Try.func3, Try.ntmps3
  go_wp2
  refine wp_region_all [0, 1, 2, 3, 4, 5, 6, 7, 8, 9] [10, 11] [12, 13] (by kernel_rfl) (by kernel_rfl) ?_
  simp only [pick, List.drop_succ_cons, List.drop_zero, List.take_succ_cons, List.take_zero, List.nil_append, List.cons_append]
  repeat (refine wpCalm_step (fun K hK => ?_); go_simp; first | (refine hK _ ?_; clear hK K) | (apply Exists.intro; refine ⟨fun _ => ?_, hK _ ?_⟩; (fail); clear hK K))
  refine wpCalm_nil ?_
  refine ⟨_, _, _, allocOp_alloc rfl rfl Try.zeroValue26, fun b1_0 hb1_0 nb1_0 => ?_⟩
  refine ⟨_, _, _, allocOp_alloc rfl rfl Try.zeroValue26, fun b1_1 hb1_1 nb1_1 => ?_⟩
  have db1_1_0 : b1_0 ≠ b1_1 := nb1_1 (b1_0, _, _) List.mem_cons_self
  simp only [Act.put, List.setIfInBounds_toArray, List.set_cons_zero, List.set_cons_succ]
  refine ⟨_, _, _, b1_0, #[.int .u64 0, .int .u64 0], _, #[.int .u64 xl, .int .u64 xs], rfl, rfl, rfl, (List.mem_cons_of_mem _ List.mem_cons_self), ?hu, hb1_0, rfl, rfl, rfl, rfl, [(b1_0, #[.int .u64 xl, .int .u64 xs], 26), (b1_1, #[.int .u64 0, .int .u64 0], 26)], ?hs, ?_⟩
  case hu =>
    intro z hz e
    rcases List.mem_cons.1 hz with rfl | hz
    · exact absurd e db1_1_0.symm
    rcases List.mem_cons.1 hz with rfl | hz
    · rfl
    cases hz
  case hs =>
    intro z
    constructor
    · intro hz
      rcases List.mem_cons.1 hz with rfl | hz
      · exact .inl rfl
      rcases List.mem_cons.1 hz with rfl | hz
      · exact .inr ⟨List.mem_cons_self, db1_1_0.symm⟩
      cases hz
    · rintro (rfl | ⟨hz, hne⟩)
      · exact List.mem_cons_self
      rcases List.mem_cons.1 hz with rfl | hz
      · exact (List.mem_cons_of_mem _ List.mem_cons_self)
      rcases List.mem_cons.1 hz with rfl | hz
      · exact absurd rfl hne
      cases hz
  refine ⟨_, _, _, b1_1, #[.int .u64 0, .int .u64 0], _, #[.int .u64 xb, .int .u64 xq], rfl, rfl, rfl, (List.mem_cons_of_mem _ List.mem_cons_self), ?hu, hb1_1, rfl, rfl, rfl, rfl, [(b1_1, #[.int .u64 xb, .int .u64 xq], 26), (b1_0, #[.int .u64 xl, .int .u64 xs], 26)], ?hs, ?_⟩
  case hu =>
    intro z hz e
    rcases List.mem_cons.1 hz with rfl | hz
    · exact absurd e db1_1_0
    rcases List.mem_cons.1 hz with rfl | hz
    · rfl
    cases hz
  case hs =>
    intro z
    constructor
    · intro hz
      rcases List.mem_cons.1 hz with rfl | hz
      · exact .inl rfl
      rcases List.mem_cons.1 hz with rfl | hz
      · exact .inr ⟨List.mem_cons_self, db1_1_0⟩
      cases hz
    · rintro (rfl | ⟨hz, hne⟩)
      · exact List.mem_cons_self
      rcases List.mem_cons.1 hz with rfl | hz
      · exact (List.mem_cons_of_mem _ List.mem_cons_self)
      rcases List.mem_cons.1 hz with rfl | hz
      · exact absurd rfl hne
      cases hz
  intro w1 hw1
  have cb1_1 : ∀ o, w1.cell? ⟨b1_1, o, none⟩ = (#[.int .u64 xb, .int .u64 xq] : Array Value)[o]? := mix_cell hw1 List.mem_cons_self
  have fb1_1 : ∀ o, w1.frozen? ⟨b1_1, o, none⟩ = false := mix_frozen hw1 List.mem_cons_self
  have ob1_1 : Old b1_1 w1 := mix_old hw1 List.mem_cons_self
  have cb1_0 : ∀ o, w1.cell? ⟨b1_0, o, none⟩ = (#[.int .u64 xl, .int .u64 xs] : Array Value)[o]? := mix_cell hw1 (List.mem_cons_of_mem _ List.mem_cons_self)
  have fb1_0 : ∀ o, w1.frozen? ⟨b1_0, o, none⟩ = false := mix_frozen hw1 (List.mem_cons_of_mem _ List.mem_cons_self)
  have ob1_0 : Old b1_0 w1 := mix_old hw1 (List.mem_cons_of_mem _ List.mem_cons_self)
  have qb1_0 := @fresh_ne _ _ hb1_0
  have rb1_0 := @fresh_en _ _ hb1_0
  have lb1_0 := fresh_le hb1_0 w.heap.size
  have qb1_1 := @fresh_ne _ _ hb1_1
  have rb1_1 := @fresh_en _ _ hb1_1
  have lb1_1 := fresh_le hb1_1 w.heap.size
  have eb1_1_0 : ¬ b1_1 = b1_0 := fun e => db1_1_0 e.symm
  obtain ⟨⟨g1, rfl⟩, hbs⟩ := hw1
  clear hbs nb1_0 nb1_1
  go_wp2
  refine wp_region_all [0, 1, 2, 3, 4, 5, 6, 7, 8, 9] [10, 11] [12, 13] (by kernel_rfl) (by kernel_rfl) ?_
  simp only [pick, List.drop_succ_cons, List.drop_zero, List.take_succ_cons, List.take_zero, List.nil_append, List.cons_append]
  repeat (refine wpCalm_step (fun K hK => ?_); go_simp; first | (refine hK _ ?_; clear hK K) | (apply Exists.intro; refine ⟨fun _ => ?_, hK _ ?_⟩; (fail); clear hK K))
  refine wpCalm_nil ?_
  refine ⟨_, _, _, allocOp_alloc rfl rfl Try.zeroValue26, fun b2_0 hb2_0 nb2_0 => ?_⟩
  refine ⟨_, _, _, allocOp_alloc rfl rfl Try.zeroValue26, fun b2_1 hb2_1 nb2_1 => ?_⟩
  have db2_1_0 : b2_0 ≠ b2_1 := nb2_1 (b2_0, _, _) List.mem_cons_self
  simp only [Act.put, List.setIfInBounds_toArray, List.set_cons_zero, List.set_cons_succ]
  refine ⟨_, _, _, b2_0, #[.int .u64 0, .int .u64 0], _, #[.int .u64 yl, .int .u64 ys], rfl, rfl, rfl, (List.mem_cons_of_mem _ List.mem_cons_self), ?hu, hb2_0, rfl, rfl, rfl, rfl, [(b2_0, #[.int .u64 yl, .int .u64 ys], 26), (b2_1, #[.int .u64 0, .int .u64 0], 26)], ?hs, ?_⟩
  case hu =>
    intro z hz e
    rcases List.mem_cons.1 hz with rfl | hz
    · exact absurd e db2_1_0.symm
    rcases List.mem_cons.1 hz with rfl | hz
    · rfl
    cases hz
  case hs =>
    intro z
    constructor
    · intro hz
      rcases List.mem_cons.1 hz with rfl | hz
      · exact .inl rfl
      rcases List.mem_cons.1 hz with rfl | hz
      · exact .inr ⟨List.mem_cons_self, db2_1_0.symm⟩
      cases hz
    · rintro (rfl | ⟨hz, hne⟩)
      · exact List.mem_cons_self
      rcases List.mem_cons.1 hz with rfl | hz
      · exact (List.mem_cons_of_mem _ List.mem_cons_self)
      rcases List.mem_cons.1 hz with rfl | hz
      · exact absurd rfl hne
      cases hz
  refine ⟨_, _, _, b2_1, #[.int .u64 0, .int .u64 0], _, #[.int .u64 yb, .int .u64 yq], rfl, rfl, rfl, (List.mem_cons_of_mem _ List.mem_cons_self), ?hu, hb2_1, rfl, rfl, rfl, rfl, [(b2_1, #[.int .u64 yb, .int .u64 yq], 26), (b2_0, #[.int .u64 yl, .int .u64 ys], 26)], ?hs, ?_⟩
  case hu =>
    intro z hz e
    rcases List.mem_cons.1 hz with rfl | hz
    · exact absurd e db2_1_0
    rcases List.mem_cons.1 hz with rfl | hz
    · rfl
    cases hz
  case hs =>
    intro z
    constructor
    · intro hz
      rcases List.mem_cons.1 hz with rfl | hz
      · exact .inl rfl
      rcases List.mem_cons.1 hz with rfl | hz
      · exact .inr ⟨List.mem_cons_self, db2_1_0⟩
      cases hz
    · rintro (rfl | ⟨hz, hne⟩)
      · exact List.mem_cons_self
      rcases List.mem_cons.1 hz with rfl | hz
      · exact (List.mem_cons_of_mem _ List.mem_cons_self)
      rcases List.mem_cons.1 hz with rfl | hz
      · exact absurd rfl hne
      cases hz
  intro w1 hw1
  have cb2_1 : ∀ o, w1.cell? ⟨b2_1, o, none⟩ = (#[.int .u64 yb, .int .u64 yq] : Array Value)[o]? := mix_cell hw1 List.mem_cons_self
  have fb2_1 : ∀ o, w1.frozen? ⟨b2_1, o, none⟩ = false := mix_frozen hw1 List.mem_cons_self
  have ob2_1 : Old b2_1 w1 := mix_old hw1 List.mem_cons_self
  have cb2_0 : ∀ o, w1.cell? ⟨b2_0, o, none⟩ = (#[.int .u64 yl, .int .u64 ys] : Array Value)[o]? := mix_cell hw1 (List.mem_cons_of_mem _ List.mem_cons_self)
  have fb2_0 : ∀ o, w1.frozen? ⟨b2_0, o, none⟩ = false := mix_frozen hw1 (List.mem_cons_of_mem _ List.mem_cons_self)
  have ob2_0 : Old b2_0 w1 := mix_old hw1 (List.mem_cons_of_mem _ List.mem_cons_self)
  have qb2_0 := @fresh_ne _ _ hb2_0
  have rb2_0 := @fresh_en _ _ hb2_0
  have lb2_0 := fresh_le hb2_0 w.heap.size
  have qb2_1 := @fresh_ne _ _ hb2_1
  have rb2_1 := @fresh_en _ _ hb2_1
  have lb2_1 := fresh_le hb2_1 w.heap.size
  have eb2_1_0 : ¬ b2_1 = b2_0 := fun e => db2_1_0 e.symm
  obtain ⟨⟨g2, rfl⟩, hbs⟩ := hw1
  clear hbs nb2_0 nb2_1
  go_wp2
  all_goals
    refine wp_region_grow (by kernel_rfl) (by kernel_rfl) ?_
    repeat (go_big_quiet_step ((first | (go_at_call 9; exact grow_call (meet_three _ _ _ _ _ _ _ _ _ _ _ _ _ h h2 h3)) | (go_at_call 10; exact grow_call (safe_any _ _ _ _ _ _ _ _ _ _ _ _ _)) | (go_at_call 11; exact grow_call (known18_any _)))))
    refine wpQuiet_nil ?_
    intro g9
    go_wp2
    go_ret
    exact ⟨rfl, by (refine Gr.of ?_; repeat (first | with_reducible exact Below.refl _ _ | with_reducible apply below_alloc | ((with_reducible refine below_set ?_ ?hq _); case hq => (first | omega | exact Nat.le_of_lt (grown_lt _ _ _) | assumption)) | with_reducible refine below_trans ?_ (grown_below _ _) | with_reducible apply Below.drew | with_reducible refine below_trans ?_ (by assumption)))⟩
set_option maxHeartbeats 2000000 in
theorem walk_four (xe xl xs xb xq ye yl ys yb yq : Int) (xm ym : Bool) (w : World) (h : n2 xl xs yl ys = false) (h2 : n2 xl xs yb yq = false) (h3 : n2 xb xq yl ys = false) (h4 : n2 xb xq yb yq = true) :
    Calls Try.prog 3 #[(Value.agg #[.int .u64 xe, .int .u64 xl, .int .u64 xs, .int .u64 xb, .int .u64 xq, .bool xm]), (Value.agg #[.int .u64 ye, .int .u64 yl, .int .u64 ys, .int .u64 yb, .int .u64 yq, .bool ym])] w fun e w' => e = .returned (.bool true) ∧ Gr w w' := by
  go_enter Try.func3, Try.ntmps3
  go_wp2
  refine wp_region_all [0, 1, 2, 3, 4, 5, 6, 7, 8, 9] [10, 11] [12, 13] (by kernel_rfl) (by kernel_rfl) ?_
  simp only [pick, List.drop_succ_cons, List.drop_zero, List.take_succ_cons, List.take_zero, List.nil_append, List.cons_append]
  repeat (refine wpCalm_step (fun K hK => ?_); go_simp; first | (refine hK _ ?_; clear hK K) | (apply Exists.intro; refine ⟨fun _ => ?_, hK _ ?_⟩; (fail); clear hK K))
  refine wpCalm_nil ?_
  refine ⟨_, _, _, allocOp_alloc rfl rfl Try.zeroValue26, fun b1_0 hb1_0 nb1_0 => ?_⟩
  refine ⟨_, _, _, allocOp_alloc rfl rfl Try.zeroValue26, fun b1_1 hb1_1 nb1_1 => ?_⟩
  have db1_1_0 : b1_0 ≠ b1_1 := nb1_1 (b1_0, _, _) List.mem_cons_self
  simp only [Act.put, List.setIfInBounds_toArray, List.set_cons_zero, List.set_cons_succ]
  refine ⟨_, _, _, b1_0, #[.int .u64 0, .int .u64 0], _, #[.int .u64 xl, .int .u64 xs], rfl, rfl, rfl, (List.mem_cons_of_mem _ List.mem_cons_self), ?hu, hb1_0, rfl, rfl, rfl, rfl, [(b1_0, #[.int .u64 xl, .int .u64 xs], 26), (b1_1, #[.int .u64 0, .int .u64 0], 26)], ?hs, ?_⟩
  case hu =>
    intro z hz e
    rcases List.mem_cons.1 hz with rfl | hz
    · exact absurd e db1_1_0.symm
    rcases List.mem_cons.1 hz with rfl | hz
    · rfl
    cases hz
  case hs =>
    intro z
    constructor
    · intro hz
      rcases List.mem_cons.1 hz with rfl | hz
      · exact .inl rfl
      rcases List.mem_cons.1 hz with rfl | hz
      · exact .inr ⟨List.mem_cons_self, db1_1_0.symm⟩
      cases hz
    · rintro (rfl | ⟨hz, hne⟩)
      · exact List.mem_cons_self
      rcases List.mem_cons.1 hz with rfl | hz
      · exact (List.mem_cons_of_mem _ List.mem_cons_self)
      rcases List.mem_cons.1 hz with rfl | hz
      · exact absurd rfl hne
      cases hz
  refine ⟨_, _, _, b1_1, #[.int .u64 0, .int .u64 0], _, #[.int .u64 xb, .int .u64 xq], rfl, rfl, rfl, (List.mem_cons_of_mem _ List.mem_cons_self), ?hu, hb1_1, rfl, rfl, rfl, rfl, [(b1_1, #[.int .u64 xb, .int .u64 xq], 26), (b1_0, #[.int .u64 xl, .int .u64 xs], 26)], ?hs, ?_⟩
  case hu =>
    intro z hz e
    rcases List.mem_cons.1 hz with rfl | hz
    · exact absurd e db1_1_0
    rcases List.mem_cons.1 hz with rfl | hz
    · rfl
    cases hz
  case hs =>
    intro z
    constructor
    · intro hz
      rcases List.mem_cons.1 hz with rfl | hz
      · exact .inl rfl
      rcases List.mem_cons.1 hz with rfl | hz
      · exact .inr ⟨List.mem_cons_self, db1_1_0⟩
      cases hz
    · rintro (rfl | ⟨hz, hne⟩)
      · exact List.mem_cons_self
      rcases List.mem_cons.1 hz with rfl | hz
      · exact (List.mem_cons_of_mem _ List.mem_cons_self)
      rcases List.mem_cons.1 hz with rfl | hz
      · exact absurd rfl hne
      cases hz
  intro w1 hw1
  have cb1_1 : ∀ o, w1.cell? ⟨b1_1, o, none⟩ = (#[.int .u64 xb, .int .u64 xq] : Array Value)[o]? := mix_cell hw1 List.mem_cons_self
  have fb1_1 : ∀ o, w1.frozen? ⟨b1_1, o, none⟩ = false := mix_frozen hw1 List.mem_cons_self
  have ob1_1 : Old b1_1 w1 := mix_old hw1 List.mem_cons_self
  have cb1_0 : ∀ o, w1.cell? ⟨b1_0, o, none⟩ = (#[.int .u64 xl, .int .u64 xs] : Array Value)[o]? := mix_cell hw1 (List.mem_cons_of_mem _ List.mem_cons_self)
  have fb1_0 : ∀ o, w1.frozen? ⟨b1_0, o, none⟩ = false := mix_frozen hw1 (List.mem_cons_of_mem _ List.mem_cons_self)
  have ob1_0 : Old b1_0 w1 := mix_old hw1 (List.mem_cons_of_mem _ List.mem_cons_self)
  have qb1_0 := @fresh_ne _ _ hb1_0
  have rb1_0 := @fresh_en _ _ hb1_0
  have lb1_0 := fresh_le hb1_0 w.heap.size
  have qb1_1 := @fresh_ne _ _ hb1_1
  have rb1_1 := @fresh_en _ _ hb1_1
  have lb1_1 := fresh_le hb1_1 w.heap.size
  have eb1_1_0 : ¬ b1_1 = b1_0 := fun e => db1_1_0 e.symm
  obtain ⟨⟨g1, rfl⟩, hbs⟩ := hw1
  clear hbs nb1_0 nb1_1
  go_wp2
  refine wp_region_all [0, 1, 2, 3, 4, 5, 6, 7, 8, 9] [10, 11] [12, 13] (by kernel_rfl) (by kernel_rfl) ?_
  simp only [pick, List.drop_succ_cons, List.drop_zero, List.take_succ_cons, List.take_zero, List.nil_append, List.cons_append]
  repeat (refine wpCalm_step (fun K hK => ?_); go_simp; first | (refine hK _ ?_; clear hK K) | (apply Exists.intro; refine ⟨fun _ => ?_, hK _ ?_⟩; (fail); clear hK K))
  refine wpCalm_nil ?_
  refine ⟨_, _, _, allocOp_alloc rfl rfl Try.zeroValue26, fun b2_0 hb2_0 nb2_0 => ?_⟩
  refine ⟨_, _, _, allocOp_alloc rfl rfl Try.zeroValue26, fun b2_1 hb2_1 nb2_1 => ?_⟩
  have db2_1_0 : b2_0 ≠ b2_1 := nb2_1 (b2_0, _, _) List.mem_cons_self
  simp only [Act.put, List.setIfInBounds_toArray, List.set_cons_zero, List.set_cons_succ]
  refine ⟨_, _, _, b2_0, #[.int .u64 0, .int .u64 0], _, #[.int .u64 yl, .int .u64 ys], rfl, rfl, rfl, (List.mem_cons_of_mem _ List.mem_cons_self), ?hu, hb2_0, rfl, rfl, rfl, rfl, [(b2_0, #[.int .u64 yl, .int .u64 ys], 26), (b2_1, #[.int .u64 0, .int .u64 0], 26)], ?hs, ?_⟩
  case hu =>
    intro z hz e
    rcases List.mem_cons.1 hz with rfl | hz
    · exact absurd e db2_1_0.symm
    rcases List.mem_cons.1 hz with rfl | hz
    · rfl
    cases hz
  case hs =>
    intro z
    constructor
    · intro hz
      rcases List.mem_cons.1 hz with rfl | hz
      · exact .inl rfl
      rcases List.mem_cons.1 hz with rfl | hz
      · exact .inr ⟨List.mem_cons_self, db2_1_0.symm⟩
      cases hz
    · rintro (rfl | ⟨hz, hne⟩)
      · exact List.mem_cons_self
      rcases List.mem_cons.1 hz with rfl | hz
      · exact (List.mem_cons_of_mem _ List.mem_cons_self)
      rcases List.mem_cons.1 hz with rfl | hz
      · exact absurd rfl hne
      cases hz
  refine ⟨_, _, _, b2_1, #[.int .u64 0, .int .u64 0], _, #[.int .u64 yb, .int .u64 yq], rfl, rfl, rfl, (List.mem_cons_of_mem _ List.mem_cons_self), ?hu, hb2_1, rfl, rfl, rfl, rfl, [(b2_1, #[.int .u64 yb, .int .u64 yq], 26), (b2_0, #[.int .u64 yl, .int .u64 ys], 26)], ?hs, ?_⟩
  case hu =>
    intro z hz e
    rcases List.mem_cons.1 hz with rfl | hz
    · exact absurd e db2_1_0
    rcases List.mem_cons.1 hz with rfl | hz
    · rfl
    cases hz
  case hs =>
    intro z
    constructor
    · intro hz
      rcases List.mem_cons.1 hz with rfl | hz
      · exact .inl rfl
      rcases List.mem_cons.1 hz with rfl | hz
      · exact .inr ⟨List.mem_cons_self, db2_1_0⟩
      cases hz
    · rintro (rfl | ⟨hz, hne⟩)
      · exact List.mem_cons_self
      rcases List.mem_cons.1 hz with rfl | hz
      · exact (List.mem_cons_of_mem _ List.mem_cons_self)
      rcases List.mem_cons.1 hz with rfl | hz
      · exact absurd rfl hne
      cases hz
  intro w1 hw1
  have cb2_1 : ∀ o, w1.cell? ⟨b2_1, o, none⟩ = (#[.int .u64 yb, .int .u64 yq] : Array Value)[o]? := mix_cell hw1 List.mem_cons_self
  have fb2_1 : ∀ o, w1.frozen? ⟨b2_1, o, none⟩ = false := mix_frozen hw1 List.mem_cons_self
  have ob2_1 : Old b2_1 w1 := mix_old hw1 List.mem_cons_self
  have cb2_0 : ∀ o, w1.cell? ⟨b2_0, o, none⟩ = (#[.int .u64 yl, .int .u64 ys] : Array Value)[o]? := mix_cell hw1 (List.mem_cons_of_mem _ List.mem_cons_self)
  have fb2_0 : ∀ o, w1.frozen? ⟨b2_0, o, none⟩ = false := mix_frozen hw1 (List.mem_cons_of_mem _ List.mem_cons_self)
  have ob2_0 : Old b2_0 w1 := mix_old hw1 (List.mem_cons_of_mem _ List.mem_cons_self)
  have qb2_0 := @fresh_ne _ _ hb2_0
  have rb2_0 := @fresh_en _ _ hb2_0
  have lb2_0 := fresh_le hb2_0 w.heap.size
  have qb2_1 := @fresh_ne _ _ hb2_1
  have rb2_1 := @fresh_en _ _ hb2_1
  have lb2_1 := fresh_le hb2_1 w.heap.size
  have eb2_1_0 : ¬ b2_1 = b2_0 := fun e => db2_1_0 e.symm
  obtain ⟨⟨g2, rfl⟩, hbs⟩ := hw1
  clear hbs nb2_0 nb2_1
  go_wp2
  all_goals
    refine wp_region_grow (by kernel_rfl) (by kernel_rfl) ?_
    repeat (go_big_quiet_step ((first | (go_at_call 9; exact grow_call (meet_four _ _ _ _ _ _ _ _ _ _ _ _ _ h h2 h3 h4)) | (go_at_call 10; exact grow_call (safe_any _ _ _ _ _ _ _ _ _ _ _ _ _)) | (go_at_call 11; exact grow_call (known18_any _)))))
    refine wpQuiet_nil ?_
    intro g9
    go_wp2
    go_ret
    exact ⟨rfl, by (refine Gr.of ?_; repeat (first | with_reducible exact Below.refl _ _ | with_reducible apply below_alloc | ((with_reducible refine below_set ?_ ?hq _); case hq => (first | omega | exact Nat.le_of_lt (grown_lt _ _ _) | assumption)) | with_reducible refine below_trans ?_ (grown_below _ _) | with_reducible apply Below.drew | with_reducible refine below_trans ?_ (by assumption)))⟩
set_option maxHeartbeats 2000000 in
theorem walk_none (xe xl xs xb xq ye yl ys yb yq : Int) (xm ym : Bool) (w : World) (h : n2 xl xs yl ys = false) (h2 : n2 xl xs yb yq = false) (h3 : n2 xb xq yl ys = false) (h4 : n2 xb xq yb yq = false) :
    Calls Try.prog 3 #[(Value.agg #[.int .u64 xe, .int .u64 xl, .int .u64 xs, .int .u64 xb, .int .u64 xq, .bool xm]), (Value.agg #[.int .u64 ye, .int .u64 yl, .int .u64 ys, .int .u64 yb, .int .u64 yq, .bool ym])] w fun e w' => e = .returned (.bool true) ∧ Gr w w' := by
  go_enter Try.func3, Try.ntmps3
  go_wp2
  refine wp_region_all [0, 1, 2, 3, 4, 5, 6, 7, 8, 9] [10, 11] [12, 13] (by kernel_rfl) (by kernel_rfl) ?_
  simp only [pick, List.drop_succ_cons, List.drop_zero, List.take_succ_cons, List.take_zero, List.nil_append, List.cons_append]
  repeat (refine wpCalm_step (fun K hK => ?_); go_simp; first | (refine hK _ ?_; clear hK K) | (apply Exists.intro; refine ⟨fun _ => ?_, hK _ ?_⟩; (fail); clear hK K))
  refine wpCalm_nil ?_
  refine ⟨_, _, _, allocOp_alloc rfl rfl Try.zeroValue26, fun b1_0 hb1_0 nb1_0 => ?_⟩
  refine ⟨_, _, _, allocOp_alloc rfl rfl Try.zeroValue26, fun b1_1 hb1_1 nb1_1 => ?_⟩
  have db1_1_0 : b1_0 ≠ b1_1 := nb1_1 (b1_0, _, _) List.mem_cons_self
  simp only [Act.put, List.setIfInBounds_toArray, List.set_cons_zero, List.set_cons_succ]
  refine ⟨_, _, _, b1_0, #[.int .u64 0, .int .u64 0], _, #[.int .u64 xl, .int .u64 xs], rfl, rfl, rfl, (List.mem_cons_of_mem _ List.mem_cons_self), ?hu, hb1_0, rfl, rfl, rfl, rfl, [(b1_0, #[.int .u64 xl, .int .u64 xs], 26), (b1_1, #[.int .u64 0, .int .u64 0], 26)], ?hs, ?_⟩
  case hu =>
    intro z hz e
    rcases List.mem_cons.1 hz with rfl | hz
    · exact absurd e db1_1_0.symm
    rcases List.mem_cons.1 hz with rfl | hz
    · rfl
    cases hz
  case hs =>
    intro z
    constructor
    · intro hz
      rcases List.mem_cons.1 hz with rfl | hz
      · exact .inl rfl
      rcases List.mem_cons.1 hz with rfl | hz
      · exact .inr ⟨List.mem_cons_self, db1_1_0.symm⟩
      cases hz
    · rintro (rfl | ⟨hz, hne⟩)
      · exact List.mem_cons_self
      rcases List.mem_cons.1 hz with rfl | hz
      · exact (List.mem_cons_of_mem _ List.mem_cons_self)
      rcases List.mem_cons.1 hz with rfl | hz
      · exact absurd rfl hne
      cases hz
  refine ⟨_, _, _, b1_1, #[.int .u64 0, .int .u64 0], _, #[.int .u64 xb, .int .u64 xq], rfl, rfl, rfl, (List.mem_cons_of_mem _ List.mem_cons_self), ?hu, hb1_1, rfl, rfl, rfl, rfl, [(b1_1, #[.int .u64 xb, .int .u64 xq], 26), (b1_0, #[.int .u64 xl, .int .u64 xs], 26)], ?hs, ?_⟩
  case hu =>
    intro z hz e
    rcases List.mem_cons.1 hz with rfl | hz
    · exact absurd e db1_1_0
    rcases List.mem_cons.1 hz with rfl | hz
    · rfl
    cases hz
  case hs =>
    intro z
    constructor
    · intro hz
      rcases List.mem_cons.1 hz with rfl | hz
      · exact .inl rfl
      rcases List.mem_cons.1 hz with rfl | hz
      · exact .inr ⟨List.mem_cons_self, db1_1_0⟩
      cases hz
    · rintro (rfl | ⟨hz, hne⟩)
      · exact List.mem_cons_self
      rcases List.mem_cons.1 hz with rfl | hz
      · exact (List.mem_cons_of_mem _ List.mem_cons_self)
      rcases List.mem_cons.1 hz with rfl | hz
      · exact absurd rfl hne
      cases hz
  intro w1 hw1
  have cb1_1 : ∀ o, w1.cell? ⟨b1_1, o, none⟩ = (#[.int .u64 xb, .int .u64 xq] : Array Value)[o]? := mix_cell hw1 List.mem_cons_self
  have fb1_1 : ∀ o, w1.frozen? ⟨b1_1, o, none⟩ = false := mix_frozen hw1 List.mem_cons_self
  have ob1_1 : Old b1_1 w1 := mix_old hw1 List.mem_cons_self
  have cb1_0 : ∀ o, w1.cell? ⟨b1_0, o, none⟩ = (#[.int .u64 xl, .int .u64 xs] : Array Value)[o]? := mix_cell hw1 (List.mem_cons_of_mem _ List.mem_cons_self)
  have fb1_0 : ∀ o, w1.frozen? ⟨b1_0, o, none⟩ = false := mix_frozen hw1 (List.mem_cons_of_mem _ List.mem_cons_self)
  have ob1_0 : Old b1_0 w1 := mix_old hw1 (List.mem_cons_of_mem _ List.mem_cons_self)
  have qb1_0 := @fresh_ne _ _ hb1_0
  have rb1_0 := @fresh_en _ _ hb1_0
  have lb1_0 := fresh_le hb1_0 w.heap.size
  have qb1_1 := @fresh_ne _ _ hb1_1
  have rb1_1 := @fresh_en _ _ hb1_1
  have lb1_1 := fresh_le hb1_1 w.heap.size
  have eb1_1_0 : ¬ b1_1 = b1_0 := fun e => db1_1_0 e.symm
  obtain ⟨⟨g1, rfl⟩, hbs⟩ := hw1
  clear hbs nb1_0 nb1_1
  go_wp2
  refine wp_region_all [0, 1, 2, 3, 4, 5, 6, 7, 8, 9] [10, 11] [12, 13] (by kernel_rfl) (by kernel_rfl) ?_
  simp only [pick, List.drop_succ_cons, List.drop_zero, List.take_succ_cons, List.take_zero, List.nil_append, List.cons_append]
  repeat (refine wpCalm_step (fun K hK => ?_); go_simp; first | (refine hK _ ?_; clear hK K) | (apply Exists.intro; refine ⟨fun _ => ?_, hK _ ?_⟩; (fail); clear hK K))
  refine wpCalm_nil ?_
  refine ⟨_, _, _, allocOp_alloc rfl rfl Try.zeroValue26, fun b2_0 hb2_0 nb2_0 => ?_⟩
  refine ⟨_, _, _, allocOp_alloc rfl rfl Try.zeroValue26, fun b2_1 hb2_1 nb2_1 => ?_⟩
  have db2_1_0 : b2_0 ≠ b2_1 := nb2_1 (b2_0, _, _) List.mem_cons_self
  simp only [Act.put, List.setIfInBounds_toArray, List.set_cons_zero, List.set_cons_succ]
  refine ⟨_, _, _, b2_0, #[.int .u64 0, .int .u64 0], _, #[.int .u64 yl, .int .u64 ys], rfl, rfl, rfl, (List.mem_cons_of_mem _ List.mem_cons_self), ?hu, hb2_0, rfl, rfl, rfl, rfl, [(b2_0, #[.int .u64 yl, .int .u64 ys], 26), (b2_1, #[.int .u64 0, .int .u64 0], 26)], ?hs, ?_⟩
  case hu =>
    intro z hz e
    rcases List.mem_cons.1 hz with rfl | hz
    · exact absurd e db2_1_0.symm
    rcases List.mem_cons.1 hz with rfl | hz
    · rfl
    cases hz
  case hs =>
    intro z
    constructor
    · intro hz
      rcases List.mem_cons.1 hz with rfl | hz
      · exact .inl rfl
      rcases List.mem_cons.1 hz with rfl | hz
      · exact .inr ⟨List.mem_cons_self, db2_1_0.symm⟩
      cases hz
    · rintro (rfl | ⟨hz, hne⟩)
      · exact List.mem_cons_self
      rcases List.mem_cons.1 hz with rfl | hz
      · exact (List.mem_cons_of_mem _ List.mem_cons_self)
      rcases List.mem_cons.1 hz with rfl | hz
      · exact absurd rfl hne
      cases hz
  refine ⟨_, _, _, b2_1, #[.int .u64 0, .int .u64 0], _, #[.int .u64 yb, .int .u64 yq], rfl, rfl, rfl, (List.mem_cons_of_mem _ List.mem_cons_self), ?hu, hb2_1, rfl, rfl, rfl, rfl, [(b2_1, #[.int .u64 yb, .int .u64 yq], 26), (b2_0, #[.int .u64 yl, .int .u64 ys], 26)], ?hs, ?_⟩
  case hu =>
    intro z hz e
    rcases List.mem_cons.1 hz with rfl | hz
    · exact absurd e db2_1_0
    rcases List.mem_cons.1 hz with rfl | hz
    · rfl
    cases hz
  case hs =>
    intro z
    constructor
    · intro hz
      rcases List.mem_cons.1 hz with rfl | hz
      · exact .inl rfl
      rcases List.mem_cons.1 hz with rfl | hz
      · exact .inr ⟨List.mem_cons_self, db2_1_0⟩
      cases hz
    · rintro (rfl | ⟨hz, hne⟩)
      · exact List.mem_cons_self
      rcases List.mem_cons.1 hz with rfl | hz
      · exact (List.mem_cons_of_mem _ List.mem_cons_self)
      rcases List.mem_cons.1 hz with rfl | hz
      · exact absurd rfl hne
      cases hz
  intro w1 hw1
  have cb2_1 : ∀ o, w1.cell? ⟨b2_1, o, none⟩ = (#[.int .u64 yb, .int .u64 yq] : Array Value)[o]? := mix_cell hw1 List.mem_cons_self
  have fb2_1 : ∀ o, w1.frozen? ⟨b2_1, o, none⟩ = false := mix_frozen hw1 List.mem_cons_self
  have ob2_1 : Old b2_1 w1 := mix_old hw1 List.mem_cons_self
  have cb2_0 : ∀ o, w1.cell? ⟨b2_0, o, none⟩ = (#[.int .u64 yl, .int .u64 ys] : Array Value)[o]? := mix_cell hw1 (List.mem_cons_of_mem _ List.mem_cons_self)
  have fb2_0 : ∀ o, w1.frozen? ⟨b2_0, o, none⟩ = false := mix_frozen hw1 (List.mem_cons_of_mem _ List.mem_cons_self)
  have ob2_0 : Old b2_0 w1 := mix_old hw1 (List.mem_cons_of_mem _ List.mem_cons_self)
  have qb2_0 := @fresh_ne _ _ hb2_0
  have rb2_0 := @fresh_en _ _ hb2_0
  have lb2_0 := fresh_le hb2_0 w.heap.size
  have qb2_1 := @fresh_ne _ _ hb2_1
  have rb2_1 := @fresh_en _ _ hb2_1
  have lb2_1 := fresh_le hb2_1 w.heap.size
  have eb2_1_0 : ¬ b2_1 = b2_0 := fun e => db2_1_0 e.symm
  obtain ⟨⟨g2, rfl⟩, hbs⟩ := hw1
  clear hbs nb2_0 nb2_1
  go_wp2
  all_goals
    refine wp_region_grow (by kernel_rfl) (by kernel_rfl) ?_
    repeat (go_big_quiet_step ((first | (go_at_call 9; exact grow_call (meet_none _ _ _ _ _ _ _ _ _ _ _ _ _ h h2 h3 h4)) | (go_at_call 10; exact grow_call (safe_any _ _ _ _ _ _ _ _ _ _ _ _ _)) | (go_at_call 11; exact grow_call (known18_any _)))))
    refine wpQuiet_nil ?_
    intro g9
    go_wp2
    go_ret
    exact ⟨rfl, by (refine Gr.of ?_; repeat (first | with_reducible exact Below.refl _ _ | with_reducible apply below_alloc | ((with_reducible refine below_set ?_ ?hq _); case hq => (first | omega | exact Nat.le_of_lt (grown_lt _ _ _) | assumption)) | with_reducible refine below_trans ?_ (grown_below _ _) | with_reducible apply Below.drew | with_reducible refine below_trans ?_ (by assumption)))⟩
theorem walk (xe xl xs xb xq ye yl ys yb yq : Int) (xm ym : Bool) (w : World) :
    Calls Try.prog 3 #[(Value.agg #[.int .u64 xe, .int .u64 xl, .int .u64 xs, .int .u64 xb, .int .u64 xq, .bool xm]), (Value.agg #[.int .u64 ye, .int .u64 yl, .int .u64 ys, .int .u64 yb, .int .u64 yq, .bool ym])] w fun e w' => e = .returned (.bool true) ∧ Gr w w' := by
  rcases Bool.eq_false_or_eq_true (n2 xl xs yl ys) with h | h
  · exact walk_same _ _ _ _ _ _ _ _ _ _ _ _ _ h
  rcases Bool.eq_false_or_eq_true (n2 xl xs yb yq) with h2 | h2
  · exact walk_two _ _ _ _ _ _ _ _ _ _ _ _ _ h h2
  rcases Bool.eq_false_or_eq_true (n2 xb xq yl ys) with h3 | h3
  · exact walk_three _ _ _ _ _ _ _ _ _ _ _ _ _ h h2 h3
  rcases Bool.eq_false_or_eq_true (n2 xb xq yb yq) with h4 | h4
  · exact walk_four _ _ _ _ _ _ _ _ _ _ _ _ _ h h2 h3 h4
  · exact walk_none _ _ _ _ _ _ _ _ _ _ _ _ _ h h2 h3 h4
end stateMeets
namespace stateMeets
theorem own : ownKnob Try.prog.godebug = none := by kernel_rfl
theorem laidOut : laidOutB Try.prog = true := by kernel_rfl
set_option maxRecDepth 100000 in
theorem lifted (os : Os) (started : os.Started) (H : Type) (enc : TypeId × Value → H) :
    ReturnsInHanded {} Try.checked os 3 .any (Rows.stateMeetsSpec.pre6 enc Try.prog Try.f3 Rows.stateMeetsRow.domain false) (Rows.stateMeetsSpec.post enc Try.prog Try.f3 false true false false) := by
  refine returnsInHanded_of_change (C := Try.checked) own started (by kernel_rfl) Try.func3
    (ChangeSpec.witness6 (enc := enc) (C := Try.checked) false ⟨#[], #[(Value.agg #[.int .u64 0, .int .u64 0, .int .u64 0, .int .u64 0, .int .u64 0, .bool false]), (Value.agg #[.int .u64 0, .int .u64 0, .int .u64 0, .int .u64 0, .int .u64 0, .bool false])], []⟩ 8 (by kernel_rfl) (by kernel_rfl) (by kernel_rfl) (by kernel_rfl)) ?_
  intro W base args ds gs before hval0 hW hcnd hroom
  have hval : ∀ (j : Nat) t v, Try.f3.params[j]? = some t → args[j]? = some v → Value.okWide Try.prog W .any base t v := hval0
  have hW' := hW
  have hlt0 := hW'.lt
  obtain ⟨p, q, hA0, hV, rfl, hfz, hnd⟩ := hW
  have hA : DataW.TrodAll enc Try.prog W 0 (fun _ => true) true Try.f3.params.toList args.toList ds p := hA0
  rw [Try.params3] at hA hval
  have hA1 := hA
  obtain ⟨v0, vs0, d0, ds0, p0, q0, hargs, rfl, rfl, h0, r0⟩ := trodAll_cons hA
  obtain ⟨v1, vs1, d1, ds1, p1, q1, rfl, rfl, rfl, h1, r1⟩ := trodAll_cons r0
  obtain ⟨rfl, rfl, rfl⟩ := trodAll_nil r1
  obtain rfl : args = #[v0, v1] := by cases args; simp_all
  obtain ⟨rfl, rfl⟩ := trodVars_none hV
  obtain ⟨cs0, rfl, hl0, n0, hf0⟩ := open_fields Try.underlying24 (by kernel_rfl) (by kernel_rfl) (hval 0 24 v0 rfl rfl) h0
  obtain ⟨c0_0, c0_1, c0_2, c0_3, c0_4, c0_5, rfl⟩ := list_len6 hl0
  obtain ⟨xe, rfl, wxe⟩ := field_int Try.underlying22 (hf0 0 _ c0_0 rfl rfl)
  obtain ⟨xl, rfl, wxl⟩ := field_int Try.underlying22 (hf0 1 _ c0_1 rfl rfl)
  obtain ⟨xs, rfl, wxs⟩ := field_int Try.underlying22 (hf0 2 _ c0_2 rfl rfl)
  obtain ⟨xb, rfl, wxb⟩ := field_int Try.underlying22 (hf0 3 _ c0_3 rfl rfl)
  obtain ⟨xq, rfl, wxq⟩ := field_int Try.underlying22 (hf0 4 _ c0_4 rfl rfl)
  obtain ⟨xm, rfl⟩ := field_bool Try.underlying4 (hf0 5 _ c0_5 rfl rfl)
  obtain ⟨cs1, rfl, hl1, n1, hf1⟩ := open_fields Try.underlying24 (by kernel_rfl) (by kernel_rfl) (hval 1 24 v1 rfl rfl) h1
  obtain ⟨c1_0, c1_1, c1_2, c1_3, c1_4, c1_5, rfl⟩ := list_len6 hl1
  obtain ⟨ye, rfl, wye⟩ := field_int Try.underlying22 (hf1 0 _ c1_0 rfl rfl)
  obtain ⟨yl, rfl, wyl⟩ := field_int Try.underlying22 (hf1 1 _ c1_1 rfl rfl)
  obtain ⟨ys, rfl, wys⟩ := field_int Try.underlying22 (hf1 2 _ c1_2 rfl rfl)
  obtain ⟨yb, rfl, wyb⟩ := field_int Try.underlying22 (hf1 3 _ c1_3 rfl rfl)
  obtain ⟨yq, rfl, wyq⟩ := field_int Try.underlying22 (hf1 4 _ c1_4 rfl rfl)
  obtain ⟨ym, rfl⟩ := field_bool Try.underlying4 (hf1 5 _ c1_5 rfl rfl)
  simp only [List.append_nil] at hW'
  refine (walk xe xl xs xb xq ye yl ys yb yq xm ym W).mono fun e W' ⟨he, hg⟩ => ?_
  subst he
  have hb := hg.below
  exact ⟨_, rfl, _, _, _, [], _, [], hW', trodAll_mk1 (shut_bool Try.underlying4 _), trodAll_below laidOut hb (by kernel_rfl) hA1 (fun x hx => by simpa using hlt0 x (by simpa using hx)), rfl, hb.frame _, fun h => by cases h⟩
theorem over : Rows.stateMeetsRow.holds Try.pinned (OpenSpec.ofChange Rows.stateMeetsSpec) :=
  OpenClaim.holds_of_wide 3 Try.f3 rfl rfl rfl rfl rfl rfl rfl ⟨rfl, rfl, rfl, rfl, rfl⟩ rfl rfl rfl rfl rfl (by kernel_rfl) Try.func3 (by kernel_rfl)
    (of_decide_eq_true (by kernel_rfl)) (by unfold Func.isWrapper; first | (rw [if_pos (by decide +kernel)]; kernel_rfl) | (rw [if_neg (by decide +kernel)]; exact ⟨rfl, rfl⟩))
    (fun os started H enc _ => lifted os started H enc)
theorem proved : Rows.StateMeetsSaid := over
end stateMeets
end Go.Proofs.Ytginaleekfljfaa
