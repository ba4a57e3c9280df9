/- 'voilelaw24.LinearNil': what is answered without a cluster, and the chapter's rows. Conditions: none. -/
import Derived.Test.YtddckdhnolmjoaaGreatV14
set_option linter.unusedVariables false
set_option linter.unusedSimpArgs false
set_option linter.unnecessarySimpa false
set_option maxRecDepth 100000
set_option maxHeartbeats 8000000
namespace Go.Proofs.YtddckdhnolmjoaaGreat
open Go.RowKit
theorem linNil_walk (w : World) : Calls Tryz.prog 4 #[] w fun e w' => e = .returned (.bool true) ∧ Gr w w' := by
 have K1 := hd_ (fun W => worlds_nil W)
 have K2 := hd_ (fun W => explain_nil W)
 have K3 := hd_ (fun W => check_nil W)
 have K4 := hd_ (fun W => known24_any W)
 go_enter Tryz.func4, Tryz.ntmps4
 go_wp2_with (first
  | (go_at_call 14; (with_reducible refine (K1.out _).mono ?_); rintro _ _ ⟨rfl, ⟨g1, rfl⟩⟩)
  | (go_at_call 16; (with_reducible refine (K2.out _).mono ?_); rintro _ _ ⟨rfl, ⟨g2, rfl⟩⟩)
  | (go_at_call 15; (with_reducible refine (K3.out _).mono ?_); rintro _ _ ⟨rfl, ⟨g3, rfl⟩⟩)
  | (go_at_call 6; (with_reducible refine (K4.out _).mono ?_); rintro _ _ ⟨rfl, ⟨g4, rfl⟩⟩))
 go_ret
 exact ⟨rfl, gri⟩
end Go.Proofs.YtddckdhnolmjoaaGreat
namespace Go.Proofs.YtddckdhnolmjoaaGreat
open Go.ChangeShapes Go.WideShapes Go.ChangeAt Go.RowKit Go.Deep
open Go.ChangeMaps (open_string shut_string)
namespace linearNil
theorem own : ownKnob Tryz.prog.godebug = none := by kernel_rfl
theorem laidOut : laidOutB Tryz.prog = true := by kernel_rfl
theorem lifted (os : Os) (started : os.Started) (H : Type) (enc : TypeId × Value → H) :
  ReturnsInHanded {} Tryz.checked os 4 .any (Rows.linearNilSpec.pre6 enc Tryz.prog Tryz.f4 Rows.linearNilRow.domain false) (Rows.linearNilSpec.post enc Tryz.prog Tryz.f4 false true false false) := by
 refine returnsInHanded_of_change (C := Tryz.checked) own started (by kernel_rfl) Tryz.func4
  (ChangeSpec.witness6 (enc := enc) (C := Tryz.checked) false ⟨#[], #[], []⟩ 8 (by kernel_rfl) (by kernel_rfl) (by kernel_rfl) (by kernel_rfl)) ?_
 intro W base args ds gs before hval0 hW hcnd hroom
 have hval : ∀ (j : Nat) t v, Tryz.f4.params[j]? = some t → args[j]? = some v → Value.okWide Tryz.prog W .any base t v := hval0
 have hW' := hW
 have hlt0 := hW'.lt
 obtain ⟨p, q, hA0, hV, rfl, hfz, hnd⟩ := hW
 have hA : DataW.TrodAll enc Tryz.prog W 0 (fun _ => true) true Tryz.f4.params.toList args.toList ds p := hA0
 rw [Tryz.params4] at hA hval
 have hA1 := hA
 obtain ⟨rfl, rfl, rfl⟩ := trodAll_none hA
 obtain ⟨rfl, rfl⟩ := trodVars_none hV
 simp only [List.append_nil] at hW'
 refine (linNil_walk W).mono fun e W' ⟨he, hg⟩ => ?_
 subst he
 have hb := hg.below
 exact ⟨_, rfl, _, _, _, [], _, [], hW', trodAll_mk1 (shut_bool Tryz.underlying4 _), trodAll_below laidOut hb (by kernel_rfl) hA1 (fun x hx => by simpa using hlt0 x (by simpa using hx)), rfl, hb.frame _, fun h => by cases h⟩
theorem over : Rows.linearNilRow.holds Tryz.pinned (OpenSpec.ofChange Rows.linearNilSpec) :=
 OpenClaim.holds_of_wide 4 Tryz.f4 rfl rfl rfl rfl rfl rfl rfl ⟨rfl, rfl, rfl, rfl, rfl⟩ rfl rfl rfl rfl rfl (by kernel_rfl) Tryz.func4 (by kernel_rfl)
  (of_decide_eq_true (by kernel_rfl)) (by unfold Func.isWrapper; first | (rw [if_pos (by decide +kernel)]; kernel_rfl) | (rw [if_neg (by decide +kernel)]; exact ⟨rfl, rfl⟩))
  (fun os started H enc _ => lifted os started H enc)
theorem proved : Rows.LinearNilSaid := over
end linearNil
end Go.Proofs.YtddckdhnolmjoaaGreat
