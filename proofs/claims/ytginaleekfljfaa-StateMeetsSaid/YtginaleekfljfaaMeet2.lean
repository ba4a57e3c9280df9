/- What state.Meet answers (second part), and the chapter's row. Conditions: none. -/
import Derived.Test.YtginaleekfljfaaRows
import Derived.Test.YtginaleekfljfaaLaw
import Derived.Test.YtginaleekfljfaaMeet
import Derived.Test.YtginaleekfljfaaMix
namespace Go.Proofs.Ytginaleekfljfaa
open Go.ChangeShapes Go.WideShapes Go.ChangeAt Go.RowKit Go.Deep
open Go.ChangeMaps (open_string shut_string)
set_option linter.unusedVariables false
set_option linter.unusedSimpArgs false
set_option linter.unnecessarySimpa false
set_option maxHeartbeats 2000000 in
theorem meet_four (xe xl xs xb xq ye yl ys yb yq : Int) (xm ym : Bool) (w : World) (h : n2 xl xs yl ys = false) (h2 : n2 xl xs yb yq = false) (h3 : n2 xb xq yl ys = false) (h4 : n2 xb xq yb yq = true) :
    Calls Try.prog 9 #[(Value.agg #[.int .u64 xe, .int .u64 xl, .int .u64 xs, .int .u64 xb, .int .u64 xq, .bool xm]), (Value.agg #[.int .u64 ye, .int .u64 yl, .int .u64 ys, .int .u64 yb, .int .u64 yq, .bool ym])] w fun e w' => e = .returned (.agg #[.bool false, .bool false, .int .i64 1]) ∧ Gr w w' := by
  have i0 := fun w => (arr_at w).1
  have i1 := fun w => (arr_at w).2.1
  have i2 := fun w => (arr_at w).2.2
  go_enter Try.func9, Try.ntmps9
  go_wp2
  go_step3
  go_wp2
  refine wp_region_grow (by kernel_rfl) (by kernel_rfl) ?_
  repeat (go_big_quiet_step ((first | (go_at_call 18; exact grow_call (name_any _ _ _ _ _ _ _)))))
  refine wpQuiet_nil ?_
  intro g0
  go_wp2
  go_step3
  go_wp2
  refine wp_loop_rounds 4 ?_
  rw [rounds_succ]
  go_wp2
  refine wp_region_mix [0, 1, 2, 3] [4, 5] 6 (by kernel_rfl) (by kernel_rfl) ?_
  simp only [pick, List.drop_succ_cons, List.drop_zero, List.take_succ_cons, List.take_zero, List.nil_append, List.cons_append]
  repeat (refine wpCalm_step (fun K hK => ?_); go_simp; first | (refine hK _ ?_; clear hK K) | (apply Exists.intro; refine ⟨fun _ => ?_, hK _ ?_⟩; (first | (go_at_call 19; exact (base_any _ _ _ _ _ _ _))); clear hK K))
  refine wpCalm_nil ?_
  refine ⟨_, _, _, allocOp_alloc rfl rfl Try.zeroValue26, fun b1_0 hb1_0 nb1_0 => ?_⟩
  refine ⟨_, _, _, allocOp_alloc rfl rfl Try.zeroValue26, fun b1_1 hb1_1 nb1_1 => ?_⟩
  intro w1 hw1
  have db1_1_0 : b1_0 ≠ b1_1 := nb1_1 (b1_0, _, _) List.mem_cons_self
  simp only [Act.put, List.setIfInBounds_toArray, List.set_cons_zero, List.set_cons_succ]
  refine mix_store [(b1_0, #[.int .u64 xb, .int .u64 xq], 26), (b1_1, #[.int .u64 0, .int .u64 0], 26)] #[.int .u64 xb, .int .u64 xq] hw1 rfl rfl rfl (b := b1_0) (zs := #[.int .u64 0, .int .u64 0]) (List.mem_cons_of_mem _ List.mem_cons_self) hb1_0 rfl rfl rfl rfl ?hp ?_
  case hp =>
    intro z hz
    rcases List.mem_cons.1 hz with rfl | hz
    · exact .inl rfl
    rcases List.mem_cons.1 hz with rfl | hz
    · exact .inr ⟨List.mem_cons_self, db1_1_0.symm⟩
    cases hz
  clear hw1 w1
  intro w1 hw1
  refine mix_store [(b1_1, #[.int .u64 yb, .int .u64 yq], 26), (b1_0, #[.int .u64 xb, .int .u64 xq], 26)] #[.int .u64 yb, .int .u64 yq] hw1 rfl rfl rfl (b := b1_1) (zs := #[.int .u64 0, .int .u64 0]) (List.mem_cons_of_mem _ List.mem_cons_self) hb1_1 rfl rfl rfl rfl ?hp ?_
  case hp =>
    intro z hz
    rcases List.mem_cons.1 hz with rfl | hz
    · exact .inl rfl
    rcases List.mem_cons.1 hz with rfl | hz
    · exact .inr ⟨List.mem_cons_self, db1_1_0⟩
    cases hz
  clear hw1 w1
  intro w1 hw1
  have cb1_1 : ∀ o, w1.cell? ⟨b1_1, o, none⟩ = (#[.int .u64 yb, .int .u64 yq] : Array Value)[o]? := mix_cell hw1 List.mem_cons_self
  have fb1_1 : ∀ o, w1.frozen? ⟨b1_1, o, none⟩ = false := mix_frozen hw1 List.mem_cons_self
  have ob1_1 : Old b1_1 w1 := mix_old hw1 List.mem_cons_self
  have cb1_0 : ∀ o, w1.cell? ⟨b1_0, o, none⟩ = (#[.int .u64 xb, .int .u64 xq] : Array Value)[o]? := mix_cell hw1 (List.mem_cons_of_mem _ List.mem_cons_self)
  have fb1_0 : ∀ o, w1.frozen? ⟨b1_0, o, none⟩ = false := mix_frozen hw1 (List.mem_cons_of_mem _ List.mem_cons_self)
  have ob1_0 : Old b1_0 w1 := mix_old hw1 (List.mem_cons_of_mem _ List.mem_cons_self)
  have qb1_0 := @fresh_ne _ _ hb1_0
  have rb1_0 := @fresh_en _ _ hb1_0
  have lb1_0 := fresh_le hb1_0 w.heap.size
  have qb1_1 := @fresh_ne _ _ hb1_1
  have rb1_1 := @fresh_en _ _ hb1_1
  have lb1_1 := fresh_le hb1_1 w.heap.size
  have eb1_1_0 : ¬ b1_1 = b1_0 := fun e => db1_1_0 e.symm
  obtain ⟨⟨g1, rfl⟩, hbs⟩ := hw1
  clear hbs nb1_0 nb1_1
  go_wp2_with (first | (go_at_call 18; ((with_reducible refine (name_any _ _ _ _ _ _ _).mono ?_); rintro _ _ ⟨rfl, g, rfl⟩)))
  rw [rounds_succ]
  go_wp2
  refine wp_region_mix [0, 1, 2, 3] [4, 5] 6 (by kernel_rfl) (by kernel_rfl) ?_
  simp only [pick, List.drop_succ_cons, List.drop_zero, List.take_succ_cons, List.take_zero, List.nil_append, List.cons_append]
  repeat (refine wpCalm_step (fun K hK => ?_); go_simp; first | (refine hK _ ?_; clear hK K) | (apply Exists.intro; refine ⟨fun _ => ?_, hK _ ?_⟩; (first | (go_at_call 19; exact (base_any _ _ _ _ _ _ _))); clear hK K))
  refine wpCalm_nil ?_
  refine ⟨_, _, _, allocOp_alloc rfl rfl Try.zeroValue26, fun b2_0 hb2_0 nb2_0 => ?_⟩
  refine ⟨_, _, _, allocOp_alloc rfl rfl Try.zeroValue26, fun b2_1 hb2_1 nb2_1 => ?_⟩
  intro w1 hw1
  have db2_1_0 : b2_0 ≠ b2_1 := nb2_1 (b2_0, _, _) List.mem_cons_self
  simp only [Act.put, List.setIfInBounds_toArray, List.set_cons_zero, List.set_cons_succ]
  refine mix_store [(b2_0, #[.int .u64 xb, .int .u64 xq], 26), (b2_1, #[.int .u64 0, .int .u64 0], 26)] #[.int .u64 xb, .int .u64 xq] hw1 rfl rfl rfl (b := b2_0) (zs := #[.int .u64 0, .int .u64 0]) (List.mem_cons_of_mem _ List.mem_cons_self) hb2_0 rfl rfl rfl rfl ?hp ?_
  case hp =>
    intro z hz
    rcases List.mem_cons.1 hz with rfl | hz
    · exact .inl rfl
    rcases List.mem_cons.1 hz with rfl | hz
    · exact .inr ⟨List.mem_cons_self, db2_1_0.symm⟩
    cases hz
  clear hw1 w1
  intro w1 hw1
  refine mix_store [(b2_1, #[.int .u64 yb, .int .u64 yq], 26), (b2_0, #[.int .u64 xb, .int .u64 xq], 26)] #[.int .u64 yb, .int .u64 yq] hw1 rfl rfl rfl (b := b2_1) (zs := #[.int .u64 0, .int .u64 0]) (List.mem_cons_of_mem _ List.mem_cons_self) hb2_1 rfl rfl rfl rfl ?hp ?_
  case hp =>
    intro z hz
    rcases List.mem_cons.1 hz with rfl | hz
    · exact .inl rfl
    rcases List.mem_cons.1 hz with rfl | hz
    · exact .inr ⟨List.mem_cons_self, db2_1_0⟩
    cases hz
  clear hw1 w1
  intro w1 hw1
  have cb2_1 : ∀ o, w1.cell? ⟨b2_1, o, none⟩ = (#[.int .u64 yb, .int .u64 yq] : Array Value)[o]? := mix_cell hw1 List.mem_cons_self
  have fb2_1 : ∀ o, w1.frozen? ⟨b2_1, o, none⟩ = false := mix_frozen hw1 List.mem_cons_self
  have ob2_1 : Old b2_1 w1 := mix_old hw1 List.mem_cons_self
  have cb2_0 : ∀ o, w1.cell? ⟨b2_0, o, none⟩ = (#[.int .u64 xb, .int .u64 xq] : Array Value)[o]? := mix_cell hw1 (List.mem_cons_of_mem _ List.mem_cons_self)
  have fb2_0 : ∀ o, w1.frozen? ⟨b2_0, o, none⟩ = false := mix_frozen hw1 (List.mem_cons_of_mem _ List.mem_cons_self)
  have ob2_0 : Old b2_0 w1 := mix_old hw1 (List.mem_cons_of_mem _ List.mem_cons_self)
  have qb2_0 := @fresh_ne _ _ hb2_0
  have rb2_0 := @fresh_en _ _ hb2_0
  have lb2_0 := fresh_le hb2_0 w.heap.size
  have qb2_1 := @fresh_ne _ _ hb2_1
  have rb2_1 := @fresh_en _ _ hb2_1
  have lb2_1 := fresh_le hb2_1 w.heap.size
  have eb2_1_0 : ¬ b2_1 = b2_0 := fun e => db2_1_0 e.symm
  obtain ⟨⟨g2, rfl⟩, hbs⟩ := hw1
  clear hbs nb2_0 nb2_1
  go_wp2_with (first | (go_at_call 18; ((with_reducible refine (name_any _ _ _ _ _ _ _).mono ?_); rintro _ _ ⟨rfl, g, rfl⟩)))
  rw [rounds_succ]
  go_wp2
  refine wp_region_mix [0, 1, 2, 3] [4, 5] 6 (by kernel_rfl) (by kernel_rfl) ?_
  simp only [pick, List.drop_succ_cons, List.drop_zero, List.take_succ_cons, List.take_zero, List.nil_append, List.cons_append]
  repeat (refine wpCalm_step (fun K hK => ?_); go_simp; first | (refine hK _ ?_; clear hK K) | (apply Exists.intro; refine ⟨fun _ => ?_, hK _ ?_⟩; (first | (go_at_call 19; exact (base_any _ _ _ _ _ _ _))); clear hK K))
  refine wpCalm_nil ?_
  refine ⟨_, _, _, allocOp_alloc rfl rfl Try.zeroValue26, fun b3_0 hb3_0 nb3_0 => ?_⟩
  refine ⟨_, _, _, allocOp_alloc rfl rfl Try.zeroValue26, fun b3_1 hb3_1 nb3_1 => ?_⟩
  intro w1 hw1
  have db3_1_0 : b3_0 ≠ b3_1 := nb3_1 (b3_0, _, _) List.mem_cons_self
  simp only [Act.put, List.setIfInBounds_toArray, List.set_cons_zero, List.set_cons_succ]
  refine mix_store [(b3_0, #[.int .u64 xb, .int .u64 xq], 26), (b3_1, #[.int .u64 0, .int .u64 0], 26)] #[.int .u64 xb, .int .u64 xq] hw1 rfl rfl rfl (b := b3_0) (zs := #[.int .u64 0, .int .u64 0]) (List.mem_cons_of_mem _ List.mem_cons_self) hb3_0 rfl rfl rfl rfl ?hp ?_
  case hp =>
    intro z hz
    rcases List.mem_cons.1 hz with rfl | hz
    · exact .inl rfl
    rcases List.mem_cons.1 hz with rfl | hz
    · exact .inr ⟨List.mem_cons_self, db3_1_0.symm⟩
    cases hz
  clear hw1 w1
  intro w1 hw1
  refine mix_store [(b3_1, #[.int .u64 yb, .int .u64 yq], 26), (b3_0, #[.int .u64 xb, .int .u64 xq], 26)] #[.int .u64 yb, .int .u64 yq] hw1 rfl rfl rfl (b := b3_1) (zs := #[.int .u64 0, .int .u64 0]) (List.mem_cons_of_mem _ List.mem_cons_self) hb3_1 rfl rfl rfl rfl ?hp ?_
  case hp =>
    intro z hz
    rcases List.mem_cons.1 hz with rfl | hz
    · exact .inl rfl
    rcases List.mem_cons.1 hz with rfl | hz
    · exact .inr ⟨List.mem_cons_self, db3_1_0⟩
    cases hz
  clear hw1 w1
  intro w1 hw1
  have cb3_1 : ∀ o, w1.cell? ⟨b3_1, o, none⟩ = (#[.int .u64 yb, .int .u64 yq] : Array Value)[o]? := mix_cell hw1 List.mem_cons_self
  have fb3_1 : ∀ o, w1.frozen? ⟨b3_1, o, none⟩ = false := mix_frozen hw1 List.mem_cons_self
  have ob3_1 : Old b3_1 w1 := mix_old hw1 List.mem_cons_self
  have cb3_0 : ∀ o, w1.cell? ⟨b3_0, o, none⟩ = (#[.int .u64 xb, .int .u64 xq] : Array Value)[o]? := mix_cell hw1 (List.mem_cons_of_mem _ List.mem_cons_self)
  have fb3_0 : ∀ o, w1.frozen? ⟨b3_0, o, none⟩ = false := mix_frozen hw1 (List.mem_cons_of_mem _ List.mem_cons_self)
  have ob3_0 : Old b3_0 w1 := mix_old hw1 (List.mem_cons_of_mem _ List.mem_cons_self)
  have qb3_0 := @fresh_ne _ _ hb3_0
  have rb3_0 := @fresh_en _ _ hb3_0
  have lb3_0 := fresh_le hb3_0 w.heap.size
  have qb3_1 := @fresh_ne _ _ hb3_1
  have rb3_1 := @fresh_en _ _ hb3_1
  have lb3_1 := fresh_le hb3_1 w.heap.size
  have eb3_1_0 : ¬ b3_1 = b3_0 := fun e => db3_1_0 e.symm
  obtain ⟨⟨g3, rfl⟩, hbs⟩ := hw1
  clear hbs nb3_0 nb3_1
  go_wp2_with (first | (go_at_call 18; ((with_reducible refine (name_any _ _ _ _ _ _ _).mono ?_); rintro _ _ ⟨rfl, g, rfl⟩)))
  rw [Exit.noGoto_ret]
  exact bodyPost_ret (v := .agg #[.bool false, .bool false, .int .i64 1]) (by simp [results, Try.results9, go_sem, qb1_0, rb1_0, qb1_1, rb1_1, db1_1_0, eb1_1_0, qb2_0, rb2_0, qb2_1, rb2_1, db2_1_0, eb2_1_0, qb3_0, rb3_0, qb3_1, rb3_1, db3_1_0, eb3_1_0]) rfl ⟨rfl, by (refine Gr.of ?_; repeat (first | with_reducible exact Below.refl _ _ | with_reducible apply below_alloc | ((with_reducible refine below_set ?_ ?hq _); case hq => (first | omega | exact Nat.le_of_lt (grown_lt _ _ _) | assumption)) | with_reducible refine below_trans ?_ (grown_below _ _) | with_reducible apply Below.drew | with_reducible refine below_trans ?_ (by assumption)))⟩
set_option maxHeartbeats 2000000 in
theorem meet_none (xe xl xs xb xq ye yl ys yb yq : Int) (xm ym : Bool) (w : World) (h : n2 xl xs yl ys = false) (h2 : n2 xl xs yb yq = false) (h3 : n2 xb xq yl ys = false) (h4 : n2 xb xq yb yq = false) :
    Calls Try.prog 9 #[(Value.agg #[.int .u64 xe, .int .u64 xl, .int .u64 xs, .int .u64 xb, .int .u64 xq, .bool xm]), (Value.agg #[.int .u64 ye, .int .u64 yl, .int .u64 ys, .int .u64 yb, .int .u64 yq, .bool ym])] w fun e w' => e = .returned (.agg #[.bool false, .bool false, .int .i64 0]) ∧ Gr w w' := by
  have i0 := fun w => (arr_at w).1
  have i1 := fun w => (arr_at w).2.1
  have i2 := fun w => (arr_at w).2.2
  go_enter Try.func9, Try.ntmps9
  go_wp2
  go_step3
  go_wp2
  refine wp_region_grow (by kernel_rfl) (by kernel_rfl) ?_
  repeat (go_big_quiet_step ((first | (go_at_call 18; exact grow_call (name_any _ _ _ _ _ _ _)))))
  refine wpQuiet_nil ?_
  intro g0
  go_wp2
  go_step3
  go_wp2
  refine wp_loop_rounds 4 ?_
  rw [rounds_succ]
  go_wp2
  refine wp_region_mix [0, 1, 2, 3] [4, 5] 6 (by kernel_rfl) (by kernel_rfl) ?_
  simp only [pick, List.drop_succ_cons, List.drop_zero, List.take_succ_cons, List.take_zero, List.nil_append, List.cons_append]
  repeat (refine wpCalm_step (fun K hK => ?_); go_simp; first | (refine hK _ ?_; clear hK K) | (apply Exists.intro; refine ⟨fun _ => ?_, hK _ ?_⟩; (first | (go_at_call 19; exact (base_any _ _ _ _ _ _ _))); clear hK K))
  refine wpCalm_nil ?_
  refine ⟨_, _, _, allocOp_alloc rfl rfl Try.zeroValue26, fun b1_0 hb1_0 nb1_0 => ?_⟩
  refine ⟨_, _, _, allocOp_alloc rfl rfl Try.zeroValue26, fun b1_1 hb1_1 nb1_1 => ?_⟩
  intro w1 hw1
  have db1_1_0 : b1_0 ≠ b1_1 := nb1_1 (b1_0, _, _) List.mem_cons_self
  simp only [Act.put, List.setIfInBounds_toArray, List.set_cons_zero, List.set_cons_succ]
  refine mix_store [(b1_0, #[.int .u64 xb, .int .u64 xq], 26), (b1_1, #[.int .u64 0, .int .u64 0], 26)] #[.int .u64 xb, .int .u64 xq] hw1 rfl rfl rfl (b := b1_0) (zs := #[.int .u64 0, .int .u64 0]) (List.mem_cons_of_mem _ List.mem_cons_self) hb1_0 rfl rfl rfl rfl ?hp ?_
  case hp =>
    intro z hz
    rcases List.mem_cons.1 hz with rfl | hz
    · exact .inl rfl
    rcases List.mem_cons.1 hz with rfl | hz
    · exact .inr ⟨List.mem_cons_self, db1_1_0.symm⟩
    cases hz
  clear hw1 w1
  intro w1 hw1
  refine mix_store [(b1_1, #[.int .u64 yb, .int .u64 yq], 26), (b1_0, #[.int .u64 xb, .int .u64 xq], 26)] #[.int .u64 yb, .int .u64 yq] hw1 rfl rfl rfl (b := b1_1) (zs := #[.int .u64 0, .int .u64 0]) (List.mem_cons_of_mem _ List.mem_cons_self) hb1_1 rfl rfl rfl rfl ?hp ?_
  case hp =>
    intro z hz
    rcases List.mem_cons.1 hz with rfl | hz
    · exact .inl rfl
    rcases List.mem_cons.1 hz with rfl | hz
    · exact .inr ⟨List.mem_cons_self, db1_1_0⟩
    cases hz
  clear hw1 w1
  intro w1 hw1
  have cb1_1 : ∀ o, w1.cell? ⟨b1_1, o, none⟩ = (#[.int .u64 yb, .int .u64 yq] : Array Value)[o]? := mix_cell hw1 List.mem_cons_self
  have fb1_1 : ∀ o, w1.frozen? ⟨b1_1, o, none⟩ = false := mix_frozen hw1 List.mem_cons_self
  have ob1_1 : Old b1_1 w1 := mix_old hw1 List.mem_cons_self
  have cb1_0 : ∀ o, w1.cell? ⟨b1_0, o, none⟩ = (#[.int .u64 xb, .int .u64 xq] : Array Value)[o]? := mix_cell hw1 (List.mem_cons_of_mem _ List.mem_cons_self)
  have fb1_0 : ∀ o, w1.frozen? ⟨b1_0, o, none⟩ = false := mix_frozen hw1 (List.mem_cons_of_mem _ List.mem_cons_self)
  have ob1_0 : Old b1_0 w1 := mix_old hw1 (List.mem_cons_of_mem _ List.mem_cons_self)
  have qb1_0 := @fresh_ne _ _ hb1_0
  have rb1_0 := @fresh_en _ _ hb1_0
  have lb1_0 := fresh_le hb1_0 w.heap.size
  have qb1_1 := @fresh_ne _ _ hb1_1
  have rb1_1 := @fresh_en _ _ hb1_1
  have lb1_1 := fresh_le hb1_1 w.heap.size
  have eb1_1_0 : ¬ b1_1 = b1_0 := fun e => db1_1_0 e.symm
  obtain ⟨⟨g1, rfl⟩, hbs⟩ := hw1
  clear hbs nb1_0 nb1_1
  go_wp2_with (first | (go_at_call 18; ((with_reducible refine (name_any _ _ _ _ _ _ _).mono ?_); rintro _ _ ⟨rfl, g, rfl⟩)))
  rw [rounds_succ]
  go_wp2
  refine wp_region_mix [0, 1, 2, 3] [4, 5] 6 (by kernel_rfl) (by kernel_rfl) ?_
  simp only [pick, List.drop_succ_cons, List.drop_zero, List.take_succ_cons, List.take_zero, List.nil_append, List.cons_append]
  repeat (refine wpCalm_step (fun K hK => ?_); go_simp; first | (refine hK _ ?_; clear hK K) | (apply Exists.intro; refine ⟨fun _ => ?_, hK _ ?_⟩; (first | (go_at_call 19; exact (base_any _ _ _ _ _ _ _))); clear hK K))
  refine wpCalm_nil ?_
  refine ⟨_, _, _, allocOp_alloc rfl rfl Try.zeroValue26, fun b2_0 hb2_0 nb2_0 => ?_⟩
  refine ⟨_, _, _, allocOp_alloc rfl rfl Try.zeroValue26, fun b2_1 hb2_1 nb2_1 => ?_⟩
  intro w1 hw1
  have db2_1_0 : b2_0 ≠ b2_1 := nb2_1 (b2_0, _, _) List.mem_cons_self
  simp only [Act.put, List.setIfInBounds_toArray, List.set_cons_zero, List.set_cons_succ]
  refine mix_store [(b2_0, #[.int .u64 xb, .int .u64 xq], 26), (b2_1, #[.int .u64 0, .int .u64 0], 26)] #[.int .u64 xb, .int .u64 xq] hw1 rfl rfl rfl (b := b2_0) (zs := #[.int .u64 0, .int .u64 0]) (List.mem_cons_of_mem _ List.mem_cons_self) hb2_0 rfl rfl rfl rfl ?hp ?_
  case hp =>
    intro z hz
    rcases List.mem_cons.1 hz with rfl | hz
    · exact .inl rfl
    rcases List.mem_cons.1 hz with rfl | hz
    · exact .inr ⟨List.mem_cons_self, db2_1_0.symm⟩
    cases hz
  clear hw1 w1
  intro w1 hw1
  refine mix_store [(b2_1, #[.int .u64 yb, .int .u64 yq], 26), (b2_0, #[.int .u64 xb, .int .u64 xq], 26)] #[.int .u64 yb, .int .u64 yq] hw1 rfl rfl rfl (b := b2_1) (zs := #[.int .u64 0, .int .u64 0]) (List.mem_cons_of_mem _ List.mem_cons_self) hb2_1 rfl rfl rfl rfl ?hp ?_
  case hp =>
    intro z hz
    rcases List.mem_cons.1 hz with rfl | hz
    · exact .inl rfl
    rcases List.mem_cons.1 hz with rfl | hz
    · exact .inr ⟨List.mem_cons_self, db2_1_0⟩
    cases hz
  clear hw1 w1
  intro w1 hw1
  have cb2_1 : ∀ o, w1.cell? ⟨b2_1, o, none⟩ = (#[.int .u64 yb, .int .u64 yq] : Array Value)[o]? := mix_cell hw1 List.mem_cons_self
  have fb2_1 : ∀ o, w1.frozen? ⟨b2_1, o, none⟩ = false := mix_frozen hw1 List.mem_cons_self
  have ob2_1 : Old b2_1 w1 := mix_old hw1 List.mem_cons_self
  have cb2_0 : ∀ o, w1.cell? ⟨b2_0, o, none⟩ = (#[.int .u64 xb, .int .u64 xq] : Array Value)[o]? := mix_cell hw1 (List.mem_cons_of_mem _ List.mem_cons_self)
  have fb2_0 : ∀ o, w1.frozen? ⟨b2_0, o, none⟩ = false := mix_frozen hw1 (List.mem_cons_of_mem _ List.mem_cons_self)
  have ob2_0 : Old b2_0 w1 := mix_old hw1 (List.mem_cons_of_mem _ List.mem_cons_self)
  have qb2_0 := @fresh_ne _ _ hb2_0
  have rb2_0 := @fresh_en _ _ hb2_0
  have lb2_0 := fresh_le hb2_0 w.heap.size
  have qb2_1 := @fresh_ne _ _ hb2_1
  have rb2_1 := @fresh_en _ _ hb2_1
  have lb2_1 := fresh_le hb2_1 w.heap.size
  have eb2_1_0 : ¬ b2_1 = b2_0 := fun e => db2_1_0 e.symm
  obtain ⟨⟨g2, rfl⟩, hbs⟩ := hw1
  clear hbs nb2_0 nb2_1
  go_wp2_with (first | (go_at_call 18; ((with_reducible refine (name_any _ _ _ _ _ _ _).mono ?_); rintro _ _ ⟨rfl, g, rfl⟩)))
  rw [rounds_succ]
  go_wp2
  refine wp_region_mix [0, 1, 2, 3] [4, 5] 6 (by kernel_rfl) (by kernel_rfl) ?_
  simp only [pick, List.drop_succ_cons, List.drop_zero, List.take_succ_cons, List.take_zero, List.nil_append, List.cons_append]
  repeat (refine wpCalm_step (fun K hK => ?_); go_simp; first | (refine hK _ ?_; clear hK K) | (apply Exists.intro; refine ⟨fun _ => ?_, hK _ ?_⟩; (first | (go_at_call 19; exact (base_any _ _ _ _ _ _ _))); clear hK K))
  refine wpCalm_nil ?_
  refine ⟨_, _, _, allocOp_alloc rfl rfl Try.zeroValue26, fun b3_0 hb3_0 nb3_0 => ?_⟩
  refine ⟨_, _, _, allocOp_alloc rfl rfl Try.zeroValue26, fun b3_1 hb3_1 nb3_1 => ?_⟩
  intro w1 hw1
  have db3_1_0 : b3_0 ≠ b3_1 := nb3_1 (b3_0, _, _) List.mem_cons_self
  simp only [Act.put, List.setIfInBounds_toArray, List.set_cons_zero, List.set_cons_succ]
  refine mix_store [(b3_0, #[.int .u64 xb, .int .u64 xq], 26), (b3_1, #[.int .u64 0, .int .u64 0], 26)] #[.int .u64 xb, .int .u64 xq] hw1 rfl rfl rfl (b := b3_0) (zs := #[.int .u64 0, .int .u64 0]) (List.mem_cons_of_mem _ List.mem_cons_self) hb3_0 rfl rfl rfl rfl ?hp ?_
  case hp =>
    intro z hz
    rcases List.mem_cons.1 hz with rfl | hz
    · exact .inl rfl
    rcases List.mem_cons.1 hz with rfl | hz
    · exact .inr ⟨List.mem_cons_self, db3_1_0.symm⟩
    cases hz
  clear hw1 w1
  intro w1 hw1
  refine mix_store [(b3_1, #[.int .u64 yb, .int .u64 yq], 26), (b3_0, #[.int .u64 xb, .int .u64 xq], 26)] #[.int .u64 yb, .int .u64 yq] hw1 rfl rfl rfl (b := b3_1) (zs := #[.int .u64 0, .int .u64 0]) (List.mem_cons_of_mem _ List.mem_cons_self) hb3_1 rfl rfl rfl rfl ?hp ?_
  case hp =>
    intro z hz
    rcases List.mem_cons.1 hz with rfl | hz
    · exact .inl rfl
    rcases List.mem_cons.1 hz with rfl | hz
    · exact .inr ⟨List.mem_cons_self, db3_1_0⟩
    cases hz
  clear hw1 w1
  intro w1 hw1
  have cb3_1 : ∀ o, w1.cell? ⟨b3_1, o, none⟩ = (#[.int .u64 yb, .int .u64 yq] : Array Value)[o]? := mix_cell hw1 List.mem_cons_self
  have fb3_1 : ∀ o, w1.frozen? ⟨b3_1, o, none⟩ = false := mix_frozen hw1 List.mem_cons_self
  have ob3_1 : Old b3_1 w1 := mix_old hw1 List.mem_cons_self
  have cb3_0 : ∀ o, w1.cell? ⟨b3_0, o, none⟩ = (#[.int .u64 xb, .int .u64 xq] : Array Value)[o]? := mix_cell hw1 (List.mem_cons_of_mem _ List.mem_cons_self)
  have fb3_0 : ∀ o, w1.frozen? ⟨b3_0, o, none⟩ = false := mix_frozen hw1 (List.mem_cons_of_mem _ List.mem_cons_self)
  have ob3_0 : Old b3_0 w1 := mix_old hw1 (List.mem_cons_of_mem _ List.mem_cons_self)
  have qb3_0 := @fresh_ne _ _ hb3_0
  have rb3_0 := @fresh_en _ _ hb3_0
  have lb3_0 := fresh_le hb3_0 w.heap.size
  have qb3_1 := @fresh_ne _ _ hb3_1
  have rb3_1 := @fresh_en _ _ hb3_1
  have lb3_1 := fresh_le hb3_1 w.heap.size
  have eb3_1_0 : ¬ b3_1 = b3_0 := fun e => db3_1_0 e.symm
  obtain ⟨⟨g3, rfl⟩, hbs⟩ := hw1
  clear hbs nb3_0 nb3_1
  go_wp2_with (first | (go_at_call 18; ((with_reducible refine (name_any _ _ _ _ _ _ _).mono ?_); rintro _ _ ⟨rfl, g, rfl⟩)))
  rw [rounds_succ]
  go_wp2
  rw [Exit.noGoto_ret]
  exact bodyPost_ret (v := .agg #[.bool false, .bool false, .int .i64 0]) (by simp [results, Try.results9, go_sem, qb1_0, rb1_0, qb1_1, rb1_1, db1_1_0, eb1_1_0, qb2_0, rb2_0, qb2_1, rb2_1, db2_1_0, eb2_1_0, qb3_0, rb3_0, qb3_1, rb3_1, db3_1_0, eb3_1_0]) rfl ⟨rfl, by (refine Gr.of ?_; repeat (first | with_reducible exact Below.refl _ _ | with_reducible apply below_alloc | ((with_reducible refine below_set ?_ ?hq _); case hq => (first | omega | exact Nat.le_of_lt (grown_lt _ _ _) | assumption)) | with_reducible refine below_trans ?_ (grown_below _ _) | with_reducible apply Below.drew | with_reducible refine below_trans ?_ (by assumption)))⟩
theorem known18_any (w : World) : Calls Try.prog 11 #[] w fun e w' => e = .returned (.bool true) ∧ Gr w w' := by
  go_enter Try.func11, Try.ntmps11
  go_wp2_with (first | (go_at_call 9; ((with_reducible refine (meet_four 2 2 9 1 7 1 1 8 1 7 false false _ (by decide) (by decide) (by decide) (by decide)).mono ?_); rintro _ _ ⟨rfl, g, rfl⟩)))
  go_ret
  exact ⟨rfl, by (refine Gr.of ?_; repeat (first | with_reducible exact Below.refl _ _ | with_reducible apply below_alloc | ((with_reducible refine below_set ?_ ?hq _); case hq => (first | omega | exact Nat.le_of_lt (grown_lt _ _ _) | assumption)) | with_reducible refine below_trans ?_ (grown_below _ _) | with_reducible apply Below.drew | with_reducible refine below_trans ?_ (by assumption)))⟩
end Go.Proofs.Ytginaleekfljfaa
