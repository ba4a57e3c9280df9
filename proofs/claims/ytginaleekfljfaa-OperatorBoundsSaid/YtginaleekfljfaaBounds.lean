/- OperatorBounds: a closed sentence: epochs at their bound. Conditions: none. -/
import Derived.Test.YtginaleekfljfaaRows
import Derived.Test.YtginaleekfljfaaLaw
import Derived.Test.YtginaleekfljfaaKnown
namespace Go.Proofs.Ytginaleekfljfaa
open Go.ChangeShapes Go.WideShapes Go.ChangeAt Go.RowKit Go.Deep
open Go.ChangeMaps (open_string shut_string)
set_option linter.unusedVariables false
set_option linter.unusedSimpArgs false
set_option linter.unnecessarySimpa false
namespace operatorBounds
theorem pro_b (we oe : Int) (f : Bool) (vE vC : Int) (w : World) (h1 : proE (mayB we 0 0 0 0 && mayB oe 0 0 0 0) false f we oe = vE) (h2 : proU (mayB we 0 0 0 0 && mayB oe 0 0 0 0) false f we oe = false) (h3 : proC (mayB we 0 0 0 0 && mayB oe 0 0 0 0) false f we oe = vC) (hw : 0 ≤ we) (ho : 0 ≤ oe) :
    Calls Try.prog 12 #[(Value.agg #[.int .u64 we, .int .u64 0, .int .u64 0, .int .u64 0, .int .u64 0, .bool false]), (Value.agg #[.int .u64 oe, .int .u64 0, .int .u64 0, .int .u64 0, .int .u64 0, .bool false]), .bool f] w fun e w' => e = .returned (.tuple #[.int .u64 vE, .bool false, .int .i64 vC]) ∧ Gr w w' := by
  have h := promote_any we 0 0 0 0 oe 0 0 0 0 false false f w hw ho
  rw [h1, h2, h3] at h
  exact h
theorem deg_b (w : World) : Calls Try.prog 14 #[(Value.agg #[.int .u64 4611686018427387904, .int .u64 0, .int .u64 0, .int .u64 0, .int .u64 0, .bool false]), (Value.agg #[.int .u64 4611686018427387904, .int .u64 0, .int .u64 0, .int .u64 0, .int .u64 0, .bool false]), .bool true] w fun e w' => e = .returned (.int .i64 0) ∧ Gr w w' := by
  have h := degrade_any 4611686018427387904 0 0 0 0 4611686018427387904 0 0 0 0 false false true w
  have e1 : degC (mayB 4611686018427387904 0 0 0 0 && mayB 4611686018427387904 0 0 0 0) true false 4611686018427387904 4611686018427387904 = 0 := by decide
  rw [e1] at h
  exact h
theorem walk (w : World) : Calls Try.prog 4 #[] w fun e w' => e = .returned (.bool true) ∧ Gr w w' := by
  have q1 := fun w => pro_b 4611686018427387904 0 false 0 8 w (by decide) (by decide) (by decide) (by omega) (by omega)
  have q2 := fun w => pro_b 0 4611686018427387904 true 0 8 w (by decide) (by decide) (by decide) (by omega) (by omega)
  have q3 := fun w => pro_b 4611686018427387903 0 false 4611686018427387904 0 w (by decide) (by decide) (by decide) (by omega) (by omega)
  have q4 := fun w => pro_b 4611686018427387905 0 true 0 2 w (by decide) (by decide) (by decide) (by omega) (by omega)
  go_enter Try.func4, Try.ntmps4
  go_wp2_with (first | (go_at_call 12; ((with_reducible refine (q1 _).mono ?_); rintro _ _ ⟨rfl, g, rfl⟩)) | (go_at_call 12; ((with_reducible refine (q2 _).mono ?_); rintro _ _ ⟨rfl, g, rfl⟩)) | (go_at_call 12; ((with_reducible refine (q3 _).mono ?_); rintro _ _ ⟨rfl, g, rfl⟩)) | (go_at_call 12; ((with_reducible refine (q4 _).mono ?_); rintro _ _ ⟨rfl, g, rfl⟩)) | (go_at_call 14; ((with_reducible refine (deg_b _).mono ?_); rintro _ _ ⟨rfl, g, rfl⟩)) | (go_at_call 15; ((with_reducible refine (known_any _).mono ?_); rintro _ _ ⟨rfl, g, rfl⟩)) | (go_at_call 13; ((with_reducible refine (num_any _ _).mono ?_); rintro _ _ ⟨rfl, rfl⟩)))
  go_ret
  exact ⟨rfl, by (refine Gr.of ?_; repeat (first | exact Below.refl _ _ | apply below_alloc | apply Below.drew | refine below_trans ?_ (grown_below _ _) | refine below_trans ?_ (by assumption)))⟩
end operatorBounds
namespace operatorBounds
theorem own : ownKnob Try.prog.godebug = none := by kernel_rfl
theorem laidOut : laidOutB Try.prog = true := by kernel_rfl
set_option maxRecDepth 100000 in
theorem lifted (os : Os) (started : os.Started) (H : Type) (enc : TypeId × Value → H) :
    ReturnsInHanded {} Try.checked os 4 .any (Rows.operatorBoundsSpec.pre6 enc Try.prog Try.f4 Rows.operatorBoundsRow.domain false) (Rows.operatorBoundsSpec.post enc Try.prog Try.f4 false true false false) := by
  refine returnsInHanded_of_change (C := Try.checked) own started (by kernel_rfl) Try.func4
    (ChangeSpec.witness6 (enc := enc) (C := Try.checked) false ⟨#[], #[], []⟩ 8 (by kernel_rfl) (by kernel_rfl) (by kernel_rfl) (by kernel_rfl)) ?_
  intro W base args ds gs before hval0 hW hcnd hroom
  have hval : ∀ (j : Nat) t v, Try.f4.params[j]? = some t → args[j]? = some v → Value.okWide Try.prog W .any base t v := hval0
  have hW' := hW
  have hlt0 := hW'.lt
  obtain ⟨p, q, hA0, hV, rfl, hfz, hnd⟩ := hW
  have hA : DataW.TrodAll enc Try.prog W 0 (fun _ => true) true Try.f4.params.toList args.toList ds p := hA0
  rw [Try.params4] at hA hval
  have hA1 := hA
  obtain ⟨rfl, rfl, rfl⟩ := trodAll_none hA
  obtain ⟨rfl, rfl⟩ := trodVars_none hV
  simp only [List.append_nil] at hW'
  refine (walk W).mono fun e W' ⟨he, hg⟩ => ?_
  subst he
  have hb := hg.below
  exact ⟨_, rfl, _, _, _, [], _, [], hW', trodAll_mk1 (shut_bool Try.underlying4 _), trodAll_below laidOut hb (by kernel_rfl) hA1 (fun x hx => by simpa using hlt0 x (by simpa using hx)), rfl, hb.frame _, fun h => by cases h⟩
theorem over : Rows.operatorBoundsRow.holds Try.pinned (OpenSpec.ofChange Rows.operatorBoundsSpec) :=
  OpenClaim.holds_of_wide 4 Try.f4 rfl rfl rfl rfl rfl rfl rfl ⟨rfl, rfl, rfl, rfl, rfl⟩ rfl rfl rfl rfl rfl (by kernel_rfl) Try.func4 (by kernel_rfl)
    (of_decide_eq_true (by kernel_rfl)) (by unfold Func.isWrapper; first | (rw [if_pos (by decide +kernel)]; kernel_rfl) | (rw [if_neg (by decide +kernel)]; exact ⟨rfl, rfl⟩))
    (fun os started H enc _ => lifted os started H enc)
theorem proved : Rows.OperatorBoundsSaid := over
end operatorBounds
end Go.Proofs.Ytginaleekfljfaa
