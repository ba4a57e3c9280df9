/- StateMoves: names, and what becomes of a state, are what the chapter says, for any states and numbers. Conditions: none. -/
import Derived.Test.YtginaleekfljfaaRows
import Derived.Test.YtginaleekfljfaaLaw
import Derived.Test.YtginaleekfljfaaMeet2
namespace Go.Proofs.Ytginaleekfljfaa
open Go.ChangeShapes Go.WideShapes Go.ChangeAt Go.RowKit Go.Deep
open Go.ChangeMaps (open_string shut_string)
set_option linter.unusedVariables false
set_option linter.unusedSimpArgs false
set_option linter.unnecessarySimpa false
namespace stateMoves
set_option maxHeartbeats 2000000 in
theorem walk (xe xl xs xb xq n nl ns : Int) (xm c : Bool) (w : World) :
    Calls Try.prog 5 #[(Value.agg #[.int .u64 xe, .int .u64 xl, .int .u64 xs, .int .u64 xb, .int .u64 xq, .bool xm]), .int .u64 n, .agg #[.int .u64 nl, .int .u64 ns], .bool c] w fun e w' => e = .returned (.bool true) ∧ Gr w w' := by
  have e1 : n2 xl xs xl xs = true := by simp [n2]
  have e2 : n2 xb xq xb xq = true := by simp [n2]
  go_enter Try.func5, Try.ntmps5
  go_wp2
  refine wp_region_grow (by kernel_rfl) (by kernel_rfl) ?_
  repeat (go_big_quiet_step ((first | (go_at_call 16; exact grow_call (may_any _ _ _ _ _ _ _)) | (go_at_call 17; exact grow_call (may18_any _ _ _ _ _ _ _)) | (go_at_call 18; exact grow_call (name_any _ _ _ _ _ _ _)) | (go_at_call 19; exact grow_call (base_any _ _ _ _ _ _ _)))))
  refine wpQuiet_nil ?_
  intro g1
  go_wp2
  go_region
  all_goals go_wp2
  all_goals go_region
  all_goals go_wp2
  all_goals
    refine wp_region_grow (by kernel_rfl) (by kernel_rfl) ?_
    repeat (go_big_quiet_step ((first | (go_at_call 20; exact grow_call (next_any _ _ _ _ _ _ _)) | (go_at_call 21; exact grow_call (rebased_any _ _ _ _ _ _ _)) | (go_at_call 22; exact grow_call (leads_any _ _ _ _ _ _ _ _)) | (go_at_call 23; exact grow_call (ended_any _ _ _ _ _ _ _ _ _ _)) | (go_at_call 24; exact grow_call (marks_any _ _ _ _ _ _ _ _)) | (go_at_call 11; exact grow_call (known18_any _)))))
    refine wpQuiet_nil ?_
    intro g9
    go_wp2
    go_ret
    exact ⟨rfl, by (refine Gr.of ?_; repeat (first | with_reducible exact Below.refl _ _ | with_reducible apply below_alloc | ((with_reducible refine below_set ?_ ?hq _); case hq => (first | omega | exact Nat.le_of_lt (grown_lt _ _ _) | assumption)) | with_reducible refine below_trans ?_ (grown_below _ _) | with_reducible apply Below.drew | with_reducible refine below_trans ?_ (by assumption)))⟩
end stateMoves
namespace stateMoves
theorem own : ownKnob Try.prog.godebug = none := by kernel_rfl
theorem laidOut : laidOutB Try.prog = true := by kernel_rfl
set_option maxRecDepth 100000 in
theorem lifted (os : Os) (started : os.Started) (H : Type) (enc : TypeId × Value → H) :
    ReturnsInHanded {} Try.checked os 5 .any (Rows.stateMovesSpec.pre6 enc Try.prog Try.f5 Rows.stateMovesRow.domain false) (Rows.stateMovesSpec.post enc Try.prog Try.f5 false true false false) := by
  refine returnsInHanded_of_change (C := Try.checked) own started (by kernel_rfl) Try.func5
    (ChangeSpec.witness6 (enc := enc) (C := Try.checked) false ⟨#[], #[(Value.agg #[.int .u64 0, .int .u64 0, .int .u64 0, .int .u64 0, .int .u64 0, .bool false]), .int .u64 0, (Value.agg #[.int .u64 0, .int .u64 0]), .bool false], []⟩ 8 (by kernel_rfl) (by kernel_rfl) (by kernel_rfl) (by kernel_rfl)) ?_
  intro W base args ds gs before hval0 hW hcnd hroom
  have hval : ∀ (j : Nat) t v, Try.f5.params[j]? = some t → args[j]? = some v → Value.okWide Try.prog W .any base t v := hval0
  have hW' := hW
  have hlt0 := hW'.lt
  obtain ⟨p, q, hA0, hV, rfl, hfz, hnd⟩ := hW
  have hA : DataW.TrodAll enc Try.prog W 0 (fun _ => true) true Try.f5.params.toList args.toList ds p := hA0
  rw [Try.params5] at hA hval
  have hA1 := hA
  obtain ⟨v0, vs0, d0, ds0, p0, q0, hargs, rfl, rfl, h0, r0⟩ := trodAll_cons hA
  obtain ⟨v1, vs1, d1, ds1, p1, q1, rfl, rfl, rfl, h1, r1⟩ := trodAll_cons r0
  obtain ⟨v2, vs2, d2, ds2, p2, q2, rfl, rfl, rfl, h2, r2⟩ := trodAll_cons r1
  obtain ⟨v3, vs3, d3, ds3, p3, q3, rfl, rfl, rfl, h3, r3⟩ := trodAll_cons r2
  obtain ⟨rfl, rfl, rfl⟩ := trodAll_nil r3
  obtain rfl : args = #[v0, v1, v2, v3] := by cases args; simp_all
  obtain ⟨rfl, rfl⟩ := trodVars_none hV
  obtain ⟨cs0, rfl, hl0, n0, hf0⟩ := open_fields Try.underlying24 (by kernel_rfl) (by kernel_rfl) (hval 0 24 v0 rfl rfl) h0
  obtain ⟨c0_0, c0_1, c0_2, c0_3, c0_4, c0_5, rfl⟩ := list_len6 hl0
  obtain ⟨xe, rfl, wxe⟩ := field_int Try.underlying22 (hf0 0 _ c0_0 rfl rfl)
  obtain ⟨xl, rfl, wxl⟩ := field_int Try.underlying22 (hf0 1 _ c0_1 rfl rfl)
  obtain ⟨xs, rfl, wxs⟩ := field_int Try.underlying22 (hf0 2 _ c0_2 rfl rfl)
  obtain ⟨xb, rfl, wxb⟩ := field_int Try.underlying22 (hf0 3 _ c0_3 rfl rfl)
  obtain ⟨xq, rfl, wxq⟩ := field_int Try.underlying22 (hf0 4 _ c0_4 rfl rfl)
  obtain ⟨xm, rfl⟩ := field_bool Try.underlying4 (hf0 5 _ c0_5 rfl rfl)
  obtain ⟨n, rfl, rfl, rfl, wn⟩ := open_int Try.underlying22 (hval 1 22 v1 rfl rfl) h1
  obtain ⟨cs2, rfl, hl2, n2, hf2⟩ := open_fields Try.underlying26 (by kernel_rfl) (by kernel_rfl) (hval 2 26 v2 rfl rfl) h2
  obtain ⟨c2_0, c2_1, rfl⟩ := list_len2 hl2
  obtain ⟨nl, rfl, wnl⟩ := field_int Try.underlying22 (hf2 0 _ c2_0 rfl rfl)
  obtain ⟨ns, rfl, wns⟩ := field_int Try.underlying22 (hf2 1 _ c2_1 rfl rfl)
  obtain ⟨c, rfl, rfl, rfl⟩ := open_bool Try.underlying4 (hval 3 4 v3 rfl rfl) h3
  simp only [List.append_nil] at hW'
  refine (walk xe xl xs xb xq n nl ns xm c W).mono fun e W' ⟨he, hg⟩ => ?_
  subst he
  have hb := hg.below
  exact ⟨_, rfl, _, _, _, [], _, [], hW', trodAll_mk1 (shut_bool Try.underlying4 _), trodAll_below laidOut hb (by kernel_rfl) hA1 (fun x hx => by simpa using hlt0 x (by simpa using hx)), rfl, hb.frame _, fun h => by cases h⟩
theorem over : Rows.stateMovesRow.holds Try.pinned (OpenSpec.ofChange Rows.stateMovesSpec) :=
  OpenClaim.holds_of_wide 5 Try.f5 rfl rfl rfl rfl rfl rfl rfl ⟨rfl, rfl, rfl, rfl, rfl⟩ rfl rfl rfl rfl rfl (by kernel_rfl) Try.func5 (by kernel_rfl)
    (of_decide_eq_true (by kernel_rfl)) (by unfold Func.isWrapper; first | (rw [if_pos (by decide +kernel)]; kernel_rfl) | (rw [if_neg (by decide +kernel)]; exact ⟨rfl, rfl⟩))
    (fun os started H enc _ => lifted os started H enc)
theorem proved : Rows.StateMovesSaid := over
end stateMoves
end Go.Proofs.Ytginaleekfljfaa
