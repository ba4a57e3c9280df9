/- OperatorRules: which node may be made to lead, in which epoch, and whether that is safe, which may mark the other one, and which should be chosen, is what the chapter says, for any two states. Conditions: none. -/
import Derived.Test.YtginaleekfljfaaRows
import Derived.Test.YtginaleekfljfaaLaw
import Derived.Test.YtginaleekfljfaaKnown
namespace Go.Proofs.Ytginaleekfljfaa
open Go.ChangeShapes Go.WideShapes Go.ChangeAt Go.RowKit Go.Deep
open Go.ChangeMaps (open_string shut_string)
set_option linter.unusedVariables false
set_option linter.unusedSimpArgs false
set_option linter.unnecessarySimpa false
namespace operatorRules
set_option maxHeartbeats 2000000 in
theorem walk (xe xl xs xb xq ye yl ys yb yq : Int) (xm ym f : Bool) (w : World) (hx : 0 ≤ xe) (hy : 0 ≤ ye) :
    Calls Try.prog 7 #[(Value.agg #[.int .u64 xe, .int .u64 xl, .int .u64 xs, .int .u64 xb, .int .u64 xq, .bool xm]), (Value.agg #[.int .u64 ye, .int .u64 yl, .int .u64 ys, .int .u64 yb, .int .u64 yq, .bool ym]), .bool f] w fun e w' => e = .returned (.bool true) ∧ Gr w w' := by
  go_enter Try.func7, Try.ntmps7
  go_wp2_with (first | (go_at_call 12; ((with_reducible refine (promote_any _ _ _ _ _ _ _ _ _ _ _ _ _ _ hx hy).mono ?_); rintro _ _ ⟨rfl, g, rfl⟩)) | (go_at_call 27; ((with_reducible refine (refPromote_any _ _ _ _ _ _ _ _ _ _ _ _ _ _ hx hy).mono ?_); rintro _ _ ⟨rfl, g, rfl⟩)) | (go_at_call 28; ((with_reducible refine (choose_any _ _ _ _ _ _ _ _ _ _ _ _ _).mono ?_); rintro _ _ ⟨rfl, g, rfl⟩)) | (go_at_call 29; ((with_reducible refine (refChoose_any _ _ _ _ _ _ _ _ _ _ _ _ _).mono ?_); rintro _ _ ⟨rfl, g, rfl⟩)))
  refine wp_region_grow (by kernel_rfl) (by kernel_rfl) ?_
  repeat (go_big_quiet_step ((first | (go_at_call 14; exact grow_call (degrade_any _ _ _ _ _ _ _ _ _ _ _ _ _ _)) | (go_at_call 30; exact grow_call (refDegrade_any _ _ _ _ _ _ _ _ _ _ _ _ _ _)) | (go_at_call 13; exact grow_call_same (num_any _ _)) | (go_at_call 15; exact grow_call (known_any _)))))
  refine wpQuiet_nil ?_
  intro g9
  go_wp2
  go_ret
  exact ⟨rfl, by (refine Gr.of ?_; repeat (first | with_reducible exact Below.refl _ _ | with_reducible apply below_alloc | ((with_reducible refine below_set ?_ ?hq _); case hq => (first | omega | exact Nat.le_of_lt (grown_lt _ _ _) | assumption)) | with_reducible refine below_trans ?_ (grown_below _ _) | with_reducible apply Below.drew | with_reducible refine below_trans ?_ (by assumption)))⟩
end operatorRules
namespace operatorRules
theorem own : ownKnob Try.prog.godebug = none := by kernel_rfl
theorem laidOut : laidOutB Try.prog = true := by kernel_rfl
set_option maxRecDepth 100000 in
theorem lifted (os : Os) (started : os.Started) (H : Type) (enc : TypeId × Value → H) :
    ReturnsInHanded {} Try.checked os 7 .any (Rows.operatorRulesSpec.pre6 enc Try.prog Try.f7 Rows.operatorRulesRow.domain false) (Rows.operatorRulesSpec.post enc Try.prog Try.f7 false true false false) := by
  refine returnsInHanded_of_change (C := Try.checked) own started (by kernel_rfl) Try.func7
    (ChangeSpec.witness6 (enc := enc) (C := Try.checked) false ⟨#[], #[(Value.agg #[.int .u64 0, .int .u64 0, .int .u64 0, .int .u64 0, .int .u64 0, .bool false]), (Value.agg #[.int .u64 0, .int .u64 0, .int .u64 0, .int .u64 0, .int .u64 0, .bool false]), .bool false], []⟩ 8 (by kernel_rfl) (by kernel_rfl) (by kernel_rfl) (by kernel_rfl)) ?_
  intro W base args ds gs before hval0 hW hcnd hroom
  have hval : ∀ (j : Nat) t v, Try.f7.params[j]? = some t → args[j]? = some v → Value.okWide Try.prog W .any base t v := hval0
  have hW' := hW
  have hlt0 := hW'.lt
  obtain ⟨p, q, hA0, hV, rfl, hfz, hnd⟩ := hW
  have hA : DataW.TrodAll enc Try.prog W 0 (fun _ => true) true Try.f7.params.toList args.toList ds p := hA0
  rw [Try.params7] at hA hval
  have hA1 := hA
  obtain ⟨v0, vs0, d0, ds0, p0, q0, hargs, rfl, rfl, h0, r0⟩ := trodAll_cons hA
  obtain ⟨v1, vs1, d1, ds1, p1, q1, rfl, rfl, rfl, h1, r1⟩ := trodAll_cons r0
  obtain ⟨v2, vs2, d2, ds2, p2, q2, rfl, rfl, rfl, h2, r2⟩ := trodAll_cons r1
  obtain ⟨rfl, rfl, rfl⟩ := trodAll_nil r2
  obtain rfl : args = #[v0, v1, v2] := by cases args; simp_all
  obtain ⟨rfl, rfl⟩ := trodVars_none hV
  obtain ⟨cs0, rfl, hl0, n0, hf0⟩ := open_fields Try.underlying24 (by kernel_rfl) (by kernel_rfl) (hval 0 24 v0 rfl rfl) h0
  obtain ⟨c0_0, c0_1, c0_2, c0_3, c0_4, c0_5, rfl⟩ := list_len6 hl0
  obtain ⟨xe, rfl, wxe⟩ := field_int Try.underlying22 (hf0 0 _ c0_0 rfl rfl)
  obtain ⟨xl, rfl, wxl⟩ := field_int Try.underlying22 (hf0 1 _ c0_1 rfl rfl)
  obtain ⟨xs, rfl, wxs⟩ := field_int Try.underlying22 (hf0 2 _ c0_2 rfl rfl)
  obtain ⟨xb, rfl, wxb⟩ := field_int Try.underlying22 (hf0 3 _ c0_3 rfl rfl)
  obtain ⟨xq, rfl, wxq⟩ := field_int Try.underlying22 (hf0 4 _ c0_4 rfl rfl)
  obtain ⟨xm, rfl⟩ := field_bool Try.underlying4 (hf0 5 _ c0_5 rfl rfl)
  obtain ⟨cs1, rfl, hl1, n1, hf1⟩ := open_fields Try.underlying24 (by kernel_rfl) (by kernel_rfl) (hval 1 24 v1 rfl rfl) h1
  obtain ⟨c1_0, c1_1, c1_2, c1_3, c1_4, c1_5, rfl⟩ := list_len6 hl1
  obtain ⟨ye, rfl, wye⟩ := field_int Try.underlying22 (hf1 0 _ c1_0 rfl rfl)
  obtain ⟨yl, rfl, wyl⟩ := field_int Try.underlying22 (hf1 1 _ c1_1 rfl rfl)
  obtain ⟨ys, rfl, wys⟩ := field_int Try.underlying22 (hf1 2 _ c1_2 rfl rfl)
  obtain ⟨yb, rfl, wyb⟩ := field_int Try.underlying22 (hf1 3 _ c1_3 rfl rfl)
  obtain ⟨yq, rfl, wyq⟩ := field_int Try.underlying22 (hf1 4 _ c1_4 rfl rfl)
  obtain ⟨ym, rfl⟩ := field_bool Try.underlying4 (hf1 5 _ c1_5 rfl rfl)
  obtain ⟨f, rfl, rfl, rfl⟩ := open_bool Try.underlying4 (hval 2 4 v2 rfl rfl) h2
  simp only [List.append_nil] at hW'
  refine (walk xe xl xs xb xq ye yl ys yb yq xm ym f W (u64_bounds wxe).1 (u64_bounds wye).1).mono fun e W' ⟨he, hg⟩ => ?_
  subst he
  have hb := hg.below
  exact ⟨_, rfl, _, _, _, [], _, [], hW', trodAll_mk1 (shut_bool Try.underlying4 _), trodAll_below laidOut hb (by kernel_rfl) hA1 (fun x hx => by simpa using hlt0 x (by simpa using hx)), rfl, hb.frame _, fun h => by cases h⟩
theorem over : Rows.operatorRulesRow.holds Try.pinned (OpenSpec.ofChange Rows.operatorRulesSpec) :=
  OpenClaim.holds_of_wide 7 Try.f7 rfl rfl rfl rfl rfl rfl rfl ⟨rfl, rfl, rfl, rfl, rfl⟩ rfl rfl rfl rfl rfl (by kernel_rfl) Try.func7 (by kernel_rfl)
    (of_decide_eq_true (by kernel_rfl)) (by unfold Func.isWrapper; first | (rw [if_pos (by decide +kernel)]; kernel_rfl) | (rw [if_neg (by decide +kernel)]; exact ⟨rfl, rfl⟩))
    (fun os started H enc _ => lifted os started H enc)
theorem proved : Rows.OperatorRulesSaid := over
end operatorRules
end Go.Proofs.Ytginaleekfljfaa
