/- The row of ScriptEdits, from the walk to the given statement. Conditions: none (the listed tables are the row's own condition). -/
import Derived.Test.YtgjdgafoidppaaaGreatDoorU01
import Derived.Test.YtgjdgafoidppaaaGreatDoorU15
namespace Go.Proofs.YtgjdgafoidppaaaGreatDoor
open Go.RowKit Go.ChangeShapes Go.WideShapes
set_option linter.unusedVariables false
set_option linter.unusedSimpArgs false
set_option linter.unnecessarySimpa false
namespace scriptEdits
set_option maxRecDepth 100000 in
theorem tb_of {W : World} (hs : W.ShapedOpen Tryz.prog) (h : laidMetH Tryz.prog Rows.scriptEditsRow.laid W) : Tb W := by
 have h0 := (laidMetH_iff.1 h).1
 rw [show Rows.scriptEditsRow.laid.filter (fun x => x.2.handleName?.isNone) = Rows.scriptEditsRow.laid from by kernel_rfl] at h0
 have h1 := h0.filter (fun x => x.1 == "internal/strconv.uint64pow10")
 rw [show Rows.scriptEditsRow.laid.filter (fun x => x.1 == "internal/strconv.uint64pow10") = [("internal/strconv.uint64pow10", Lib.tabData .u64 Lib.pow10Tab)] from by simp [Rows.scriptEditsRow, Rows.laid_internal_strconv_uint64pow10, Lib.tabData, Lib.pow10Tab]; kernel_rfl] at h1
 exact tb_laid hs h1
noncomputable abbrev laidWorld (os : Os) : World := World.laidAll Tryz.prog os Rows.scriptEditsRow.laid
set_option maxRecDepth 100000 in
theorem laidWorld_met (os : Os) (args : Array Value) : laidMetH Tryz.prog Rows.scriptEditsRow.laid ((laidWorld os).forCall (fun _ _ => 0) ⟨#[], args, []⟩).memory :=
 laidMetH_of_parts (laidMet_laidAll _ (by kernel_rfl) (by kernel_rfl)) (by kernel_rfl)
set_option maxRecDepth 100000 in
theorem lifted (os : Os) (started : os.Started) (H : Type) (enc : TypeId × Value → H) :
  ReturnsInHanded {} Tryz.checked os 6 .any (fun w args => (Rows.scriptEditsSpec.pre enc Tryz.prog Tryz.f6 [] false w args ∧ laidMetH Tryz.prog Rows.scriptEditsRow.laid w) ∧ sizedMet enc Tryz.prog Tryz.f6 (OpenSpec.ofChange Rows.scriptEditsSpec) false w args)
   (Rows.scriptEditsSpec.post enc Tryz.prog Tryz.f6 false true false false) := by
 refine returns_shaped (C := Tryz.checked) (X := (fun w _ => laidMetH Tryz.prog Rows.scriptEditsRow.laid w)) (fun _ _ _ hh h => h.of_heap hh) own started (by kernel_rfl) Tryz.func6
  (ChangeSpec.witness_shaped (enc := enc) (C := Tryz.checked) (os := os) (X := (fun w _ => laidMetH Tryz.prog Rows.scriptEditsRow.laid w)) false (laidWorld os) #[.agg #[.int .i64 0, .int .i64 0, .int .i64 0, .int .i64 0, .int .i64 0, .slice none 0 0], .int .i64 0, .int .i64 0, .agg #[.int .i64 0, .int .i64 0, .int .i64 0, .int .i64 0, .int .i64 0]] 8 rfl (World.shaped_of_ZipB (by kernel_rfl) (by kernel_rfl)) (by kernel_rfl) (by kernel_rfl) (by kernel_rfl) (laidWorld_met os _)) ?_
 intro W base args ds gs before hval0 hW hL hsh
 haveI htb : Tb W := tb_of hsh hL
 haveI hml : Ml W := ml_shaped hsh
 have hval : ∀ (j : Nat) t v, Tryz.f6.params[j]? = some t → args[j]? = some v → Value.okWide Tryz.prog W .any base t v := hval0
 have hW' := hW
 have hlt0 := hW'.lt
 obtain ⟨p, q, hA0, hV, rfl, hfz, hnd⟩ := hW
 have hA : DataW.TrodAll enc Tryz.prog W 0 (fun _ => true) true Tryz.f6.params.toList args.toList ds p := hA0
 rw [Tryz.params6] at hA hval
 have hA1 := hA
 obtain ⟨v0, vs0, d0, ds0, p0, q0, hargs, rfl, rfl, h0, r0⟩ := trodAll_cons hA
 obtain ⟨v1, vs1, d1, ds1, p1, q1, rfl, rfl, rfl, h1, r1⟩ := trodAll_cons r0
 obtain ⟨v2, vs2, d2, ds2, p2, q2, rfl, rfl, rfl, h2, r2⟩ := trodAll_cons r1
 obtain ⟨v3, vs3, d3, ds3, p3, q3, rfl, rfl, rfl, h3, r3⟩ := trodAll_cons r2
 obtain ⟨rfl, rfl, rfl⟩ := trodAll_nil r3
 obtain rfl : args = #[v0, v1, v2, v3] := by cases args; simp_all
 obtain ⟨rfl, rfl⟩ := trodVars_none hV
 obtain ⟨m0, m1, b0, b1, g, A, n, q, l, rfl, hC⟩ := open_script (hval 0 58 v0 rfl rfl) h0
 obtain ⟨i, rfl, _, _⟩ := open_int' (hval 1 3 v1 rfl rfl)
 obtain ⟨k, rfl, _, _⟩ := open_int' (hval 2 3 v2 rfl rfl)
 obtain ⟨o0, o1, z0, z1, og, rfl⟩ := open_stage (hval 3 55 v3 rfl rfl)
 simp only [List.append_nil] at hW'
 refine (edits_walk m0 m1 b0 b1 g A n q l i k o0 o1 z0 z1 og W hC).mono fun e W' ⟨he, hg⟩ => ?_
 subst he
 have hb := hg.below
 exact ⟨_, rfl, _, _, _, [], _, [], hW', trodAll_mk1 (shut_bool Tryz.underlying4 _), trodAll_below laidOut hb (by kernel_rfl) hA1 (fun x hx => by simpa using hlt0 x (by simpa using hx)), rfl, hb.frame _, fun h => by cases h⟩
theorem over : Rows.ScriptEditsSaid :=
 OpenClaim.holds_of_wide 6 Tryz.f6 rfl rfl rfl rfl rfl rfl rfl ⟨rfl, rfl, rfl, rfl, rfl⟩ rfl rfl rfl rfl rfl (by kernel_rfl) Tryz.func6 (by kernel_rfl)
  (of_decide_eq_true (by kernel_rfl)) (by unfold Func.isWrapper; first | (rw [if_pos (by decide +kernel)]; kernel_rfl) | (rw [if_neg (by decide +kernel)]; exact ⟨rfl, rfl⟩))
  (fun os started H enc _ => lifted os started H enc)
set_option maxRecDepth 100000 in
theorem proved : Rows.ScriptEditsCardSaid :=
 Claim7.holds_tied_plain_at .later [] [.data, .data, .data, .data, .pinned] true (true, "2ccfa833e3c8cad5a33b45240cd0c472695e182eaee75a8c14dad7191cc9835b") false
  over (fun _ h => by cases h) (by kernel_rfl) (fun _ h => by cases h) scriptEdits_row_tie rfl ⟨rfl, rfl⟩ (by kernel_rfl) rfl
  (fun f fn hf hfn => by
    obtain rfl : f = 6 := Option.some.inj ((show Tryz.prog.funcNamed "voile/voilelaw26.ScriptEdits" = some 6 by kernel_rfl).symm.trans hf) |>.symm
    obtain rfl : fn = Tryz.f6 := (Option.some.inj (Tryz.func6.symm.trans hfn)).symm
    exact ⟨by kernel_rfl, fun j t ht => by
     rw [Tryz.params6] at ht
     match j, ht with
     | 0, ht => obtain rfl := (Option.some.inj ht).symm; exact (show Tryz.prog.wantsStandIn 58 = false by kernel_rfl)
     | 1, ht => obtain rfl := (Option.some.inj ht).symm; exact (show Tryz.prog.wantsStandIn 3 = false by kernel_rfl)
     | 2, ht => obtain rfl := (Option.some.inj ht).symm; exact (show Tryz.prog.wantsStandIn 3 = false by kernel_rfl)
     | 3, ht => obtain rfl := (Option.some.inj ht).symm; exact (show Tryz.prog.wantsStandIn 55 = false by kernel_rfl)
     | j + 4, ht => simp at ht⟩)
  (by kernel_rfl)
end scriptEdits
end Go.Proofs.YtgjdgafoidppaaaGreatDoor
