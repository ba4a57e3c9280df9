/- 'voilelaw29.DeltaLays': what lays changes on, which blocks clash, and, where none does, that it is so in either order, is what the chapter says, for at most 40 operations of 9000 bytes, any three volumes. Conditions: none. -/
import Derived.Test.YtipeblmgochdfaaQ16
namespace Go.Proofs.Ytipeblmgochdfaa
open Go.RowKit
set_option linter.unusedVariables false
set_option linter.unusedSimpArgs false
theorem lays_walk (l : List OpC) (n q : Nat) (A : Option Addr) (b lf r : Int) (w : World) (hC : CameO w A n q l) :
  Calls Try.prog 3 #[.slice A n q, .int .u64 b, .int .u64 lf, .int .u64 r] w fun e w' => e = .returned (.bool true) ∧ Gr w w' := by
 cases hm : muchK l 40 with
 | true => exact lays_big l n q A b lf r w hC hm
 | false => exact lays_few l n q A b lf r w hC hm
set_option maxRecDepth 100000 in
theorem open_u64 {W : World} {base : Nat} {v : Value} (hv : Value.okWide Try.prog W .any base 23 v) : ∃ n : Int, v = .int .u64 n := by
 simp only [Value.okWide, Try.underlying23, Cell.okWide] at hv
 cases v <;> simp_all [Cell.ok]
end Go.Proofs.Ytipeblmgochdfaa
namespace Go.Proofs.Ytipeblmgochdfaa
open Go.ChangeShapes Go.WideShapes Go.ChangeAt Go.RowKit Go.Deep
open Go.ChangeMaps (open_string shut_string)
set_option linter.unusedVariables false
set_option linter.unusedSimpArgs false
namespace deltaLays
theorem own : ownKnob Try.prog.godebug = none := by kernel_rfl
theorem laidOut : laidOutB Try.prog = true := by kernel_rfl
set_option maxRecDepth 100000 in
theorem lifted (os : Os) (started : os.Started) (H : Type) (enc : TypeId × Value → H) :
  ReturnsInHanded {} Try.checked os 3 .any (Rows.deltaLaysSpec.pre6 enc Try.prog Try.f3 Rows.deltaLaysRow.domain false) (Rows.deltaLaysSpec.post enc Try.prog Try.f3 false true false false) := by
 refine returnsInHanded_of_change (C := Try.checked) own started (by kernel_rfl) Try.func3
  (ChangeSpec.witness6 (enc := enc) (C := Try.checked) false ⟨#[], #[.slice none 0 0, .int .u64 0, .int .u64 0, .int .u64 0], []⟩ 8 (by kernel_rfl) (by kernel_rfl) (by kernel_rfl) (by kernel_rfl)) ?_
 intro W base args ds gs before hval0 hW hcnd hroom
 have hval : ∀ (j : Nat) t v, Try.f3.params[j]? = some t → args[j]? = some v → Value.okWide Try.prog W .any base t v := hval0
 have hW' := hW
 have hlt0 := hW'.lt
 obtain ⟨p, q, hA0, hV, rfl, hfz, hnd⟩ := hW
 have hA : DataW.TrodAll enc Try.prog W 0 (fun _ => true) true Try.f3.params.toList args.toList ds p := hA0
 rw [Try.params3] at hA hval
 have hA1 := hA
 obtain ⟨v0, vs0, d0, ds0, p0, q0, hargs, rfl, rfl, h0, r0⟩ := trodAll_cons hA
 obtain ⟨v1, vs1, d1, ds1, p1, q1, rfl, rfl, rfl, h1, r1⟩ := trodAll_cons r0
 obtain ⟨v2, vs2, d2, ds2, p2, q2, rfl, rfl, rfl, h2, r2⟩ := trodAll_cons r1
 obtain ⟨v3, vs3, d3, ds3, p3, q3, rfl, rfl, rfl, h3, r3⟩ := trodAll_cons r2
 obtain ⟨rfl, rfl, rfl⟩ := trodAll_nil r3
 obtain rfl : args = #[v0, v1, v2, v3] := by cases args; simp_all
 obtain ⟨rfl, rfl⟩ := trodVars_none hV
 obtain ⟨A, n, q, l, rfl, hCame⟩ := open_ops (hval 0 _ _ rfl rfl) h0
 obtain ⟨xb, rfl⟩ := open_u64 (hval 1 _ _ rfl rfl)
 obtain ⟨xl, rfl⟩ := open_u64 (hval 2 _ _ rfl rfl)
 obtain ⟨xr, rfl⟩ := open_u64 (hval 3 _ _ rfl rfl)
 simp only [List.append_nil] at hW'
 refine (lays_walk l n q A xb xl xr W hCame).mono fun e W' ⟨he, hg⟩ => ?_
 subst he
 have hb := hg.below
 exact ⟨_, rfl, _, _, _, [], _, [], hW', trodAll_mk1 (shut_bool Try.underlying4 _), trodAll_below laidOut hb (by kernel_rfl) hA1 (fun x hx => by simpa using hlt0 x (by simpa using hx)), rfl, hb.frame _, fun h => by cases h⟩
theorem over : Rows.deltaLaysRow.holds Try.pinned (OpenSpec.ofChange Rows.deltaLaysSpec) :=
 OpenClaim.holds_of_wide 3 Try.f3 rfl rfl rfl rfl rfl rfl rfl ⟨rfl, rfl, rfl, rfl, rfl⟩ rfl rfl rfl rfl rfl (by kernel_rfl) Try.func3 (by kernel_rfl)
  (of_decide_eq_true (by kernel_rfl)) (by unfold Func.isWrapper; first | (rw [if_pos (by decide +kernel)]; kernel_rfl) | (rw [if_neg (by decide +kernel)]; exact ⟨rfl, rfl⟩))
  (fun os started H enc _ => lifted os started H enc)
theorem proved : Rows.DeltaLaysSaid := over
end deltaLays
end Go.Proofs.Ytipeblmgochdfaa
