/- 'voilelaw29.DeltaPatch': what makes the left volume the right one, and that behind it it is as the right one, and all else as it was, and that there is nothing to be done any more, is what the chapter says, for at most 40 operations of 9000 bytes. Conditions: none. -/
import Derived.Test.YtipeblmgochdfaaGreatS20
namespace Go.Proofs.YtipeblmgochdfaaGreat
open Go.RowKit
set_option linter.unusedVariables false
set_option linter.unusedSimpArgs false
set_option maxRecDepth 100000 in
theorem open_u64 {W : World} {base : Nat} {v : Value} (hv : Value.okWide Tryz.prog W .any base 28 v) : ∃ n : Int, v = .int .u64 n := by
 simp only [Value.okWide, Tryz.underlying28, Cell.okWide] at hv
 cases v <;> simp_all [Cell.ok]
end Go.Proofs.YtipeblmgochdfaaGreat
namespace Go.Proofs.YtipeblmgochdfaaGreat
open Go.ChangeShapes Go.WideShapes Go.ChangeAt Go.RowKit Go.Deep
open Go.ChangeMaps (open_string shut_string)
set_option linter.unusedVariables false
set_option linter.unusedSimpArgs false
namespace deltaPatch
theorem own : ownKnob Tryz.prog.godebug = none := by kernel_rfl
theorem laidOut : laidOutB Tryz.prog = true := by kernel_rfl
set_option maxRecDepth 100000 in
theorem lifted (os : Os) (started : os.Started) (H : Type) (enc : TypeId × Value → H) :
  ReturnsInHanded {} Tryz.checked os 5 .any (Rows.deltaPatchSpec.pre6 enc Tryz.prog Tryz.f5 Rows.deltaPatchRow.domain false) (Rows.deltaPatchSpec.post enc Tryz.prog Tryz.f5 false true false false) := by
 refine returnsInHanded_of_change (C := Tryz.checked) own started (by kernel_rfl) Tryz.func5
  (ChangeSpec.witness6 (enc := enc) (C := Tryz.checked) false ⟨#[], #[.slice none 0 0, .int .u64 0, .int .u64 0], []⟩ 8 (by kernel_rfl) (by kernel_rfl) (by kernel_rfl) (by kernel_rfl)) ?_
 intro W base args ds gs before hval0 hW hcnd hroom
 have hval : ∀ (j : Nat) t v, Tryz.f5.params[j]? = some t → args[j]? = some v → Value.okWide Tryz.prog W .any base t v := hval0
 have hW' := hW
 have hlt0 := hW'.lt
 obtain ⟨p, q, hA0, hV, rfl, hfz, hnd⟩ := hW
 have hA : DataW.TrodAll enc Tryz.prog W 0 (fun _ => true) true Tryz.f5.params.toList args.toList ds p := hA0
 rw [Tryz.params5] at hA hval
 have hA1 := hA
 obtain ⟨v0, vs0, d0, ds0, p0, q0, hargs, rfl, rfl, h0, r0⟩ := trodAll_cons hA
 obtain ⟨v1, vs1, d1, ds1, p1, q1, rfl, rfl, rfl, h1, r1⟩ := trodAll_cons r0
 obtain ⟨v2, vs2, d2, ds2, p2, q2, rfl, rfl, rfl, h2, r2⟩ := trodAll_cons r1
 obtain ⟨rfl, rfl, rfl⟩ := trodAll_nil r2
 obtain rfl : args = #[v0, v1, v2] := by cases args; simp_all
 obtain ⟨rfl, rfl⟩ := trodVars_none hV
 obtain ⟨A, n, q, l, rfl, hCame⟩ := open_ops (hval 0 _ _ rfl rfl) h0
 obtain ⟨xl, rfl⟩ := open_u64 (hval 1 _ _ rfl rfl)
 obtain ⟨xr, rfl⟩ := open_u64 (hval 2 _ _ rfl rfl)
 simp only [List.append_nil] at hW'
 refine (ptc_walk l n q A xl xr W hCame).mono fun e W' ⟨he, hg⟩ => ?_
 subst he
 have hb := hg.below
 exact ⟨_, rfl, _, _, _, [], _, [], hW', trodAll_mk1 (shut_bool Tryz.underlying4 _), trodAll_below laidOut hb (by kernel_rfl) hA1 (fun x hx => by simpa using hlt0 x (by simpa using hx)), rfl, hb.frame _, fun h => by cases h⟩
theorem over : Rows.deltaPatchRow.holds Tryz.pinned (OpenSpec.ofChange Rows.deltaPatchSpec) :=
 OpenClaim.holds_of_wide 5 Tryz.f5 rfl rfl rfl rfl rfl rfl rfl ⟨rfl, rfl, rfl, rfl, rfl⟩ rfl rfl rfl rfl rfl (by kernel_rfl) Tryz.func5 (by kernel_rfl)
  (of_decide_eq_true (by kernel_rfl)) (by unfold Func.isWrapper; first | (rw [if_pos (by decide +kernel)]; kernel_rfl) | (rw [if_neg (by decide +kernel)]; exact ⟨rfl, rfl⟩))
  (fun os started H enc _ => lifted os started H enc)
theorem proved : Rows.DeltaPatchSaid := over
end deltaPatch
end Go.Proofs.YtipeblmgochdfaaGreat
