/- The row of ScriptWhole, from the walk to the given statement. Conditions: none (the listed tables are the row's own condition). -/
import Derived.Test.YtgjdgafoidppaaaGreatDoorP01
import Derived.Test.YtgjdgafoidppaaaGreatDoorP19
namespace Go.Proofs.YtgjdgafoidppaaaGreatDoor
open Go.RowKit Go.ChangeShapes Go.WideShapes
set_option linter.unusedVariables false
set_option linter.unusedSimpArgs false
set_option linter.unnecessarySimpa false
namespace scriptWhole
set_option maxRecDepth 100000 in
theorem tb_of {W : World} (hs : W.ShapedOpen Tryz.prog) (h : laidMetH Tryz.prog Rows.scriptWholeRow.laid W) : Tb W := by
 have h0 := (laidMetH_iff.1 h).1
 rw [show Rows.scriptWholeRow.laid.filter (fun x => x.2.handleName?.isNone) = Rows.scriptWholeRow.laid from by kernel_rfl] at h0
 have h1 := h0.filter (fun x => x.1 == "internal/strconv.uint64pow10")
 rw [show Rows.scriptWholeRow.laid.filter (fun x => x.1 == "internal/strconv.uint64pow10") = [("internal/strconv.uint64pow10", Lib.tabData .u64 Lib.pow10Tab)] from by simp [Rows.scriptWholeRow, Rows.laid_internal_strconv_uint64pow10, Lib.tabData, Lib.pow10Tab]; kernel_rfl] at h1
 exact tb_laid hs h1
noncomputable abbrev laidWorld (os : Os) : World := World.laidAll Tryz.prog os Rows.scriptWholeRow.laid
set_option maxRecDepth 100000 in
theorem laidWorld_met (os : Os) (args : Array Value) : laidMetH Tryz.prog Rows.scriptWholeRow.laid ((laidWorld os).forCall (fun _ _ => 0) ⟨#[], args, []⟩).memory :=
 laidMetH_of_parts (laidMet_laidAll _ (by kernel_rfl) (by kernel_rfl)) (by kernel_rfl)
set_option maxRecDepth 100000 in
theorem lifted (os : Os) (started : os.Started) (H : Type) (enc : TypeId × Value → H) :
  ReturnsInHanded {} Tryz.checked os 5 .any (fun w args => (Rows.scriptWholeSpec.pre enc Tryz.prog Tryz.f5 [] false w args ∧ laidMetH Tryz.prog Rows.scriptWholeRow.laid w) ∧ sizedMet enc Tryz.prog Tryz.f5 (OpenSpec.ofChange Rows.scriptWholeSpec) false w args)
   (Rows.scriptWholeSpec.post enc Tryz.prog Tryz.f5 false true false false) := by
 refine returns_shaped (C := Tryz.checked) (X := (fun w _ => laidMetH Tryz.prog Rows.scriptWholeRow.laid w)) (fun _ _ _ hh h => h.of_heap hh) own started (by kernel_rfl) Tryz.func5
  (ChangeSpec.witness_shaped (enc := enc) (C := Tryz.checked) (os := os) (X := (fun w _ => laidMetH Tryz.prog Rows.scriptWholeRow.laid w)) false (laidWorld os) #[.agg #[.int .i64 0, .int .i64 0, .int .i64 0, .int .i64 0, .int .i64 0, .slice none 0 0], .string ⟨#[]⟩] 8 rfl (World.shaped_of_ZipB (by kernel_rfl) (by kernel_rfl)) (by kernel_rfl) (by kernel_rfl) (by kernel_rfl) (laidWorld_met os _)) ?_
 intro W base args ds gs before hval0 hW hL hsh
 haveI htb : Tb W := tb_of hsh hL
 haveI hml : Ml W := ml_shaped hsh
 have hval : ∀ (j : Nat) t v, Tryz.f5.params[j]? = some t → args[j]? = some v → Value.okWide Tryz.prog W .any base t v := hval0
 have hW' := hW
 have hlt0 := hW'.lt
 obtain ⟨p, q, hA0, hV, rfl, hfz, hnd⟩ := hW
 have hA : DataW.TrodAll enc Tryz.prog W 0 (fun _ => true) true Tryz.f5.params.toList args.toList ds p := hA0
 rw [Tryz.params5] at hA hval
 have hA1 := hA
 obtain ⟨v0, vs0, d0, ds0, p0, q0, hargs, rfl, rfl, h0, r0⟩ := trodAll_cons hA
 obtain ⟨v1, vs1, d1, ds1, p1, q1, rfl, rfl, rfl, h1, r1⟩ := trodAll_cons r0
 obtain ⟨rfl, rfl, rfl⟩ := trodAll_nil r1
 obtain rfl : args = #[v0, v1] := by cases args; simp_all
 obtain ⟨rfl, rfl⟩ := trodVars_none hV
 obtain ⟨m0, m1, b0, b1, g, A, n, q, l, rfl, hC⟩ := open_script (hval 0 58 v0 rfl rfl) h0
 obtain ⟨x, rfl⟩ := okWide_string Tryz.underlying9 (hval 1 9 v1 rfl rfl)
 simp only [List.append_nil] at hW'
 refine (whole_walk m0 m1 b0 b1 g A n q l x W hC).mono fun e W' ⟨he, hg⟩ => ?_
 subst he
 have hb := hg.below
 exact ⟨_, rfl, _, _, _, [], _, [], hW', trodAll_mk1 (shut_bool Tryz.underlying4 _), trodAll_below laidOut hb (by kernel_rfl) hA1 (fun x hx => by simpa using hlt0 x (by simpa using hx)), rfl, hb.frame _, fun h => by cases h⟩
theorem over : Rows.ScriptWholeSaid :=
 OpenClaim.holds_of_wide 5 Tryz.f5 rfl rfl rfl rfl rfl rfl rfl ⟨rfl, rfl, rfl, rfl, rfl⟩ rfl rfl rfl rfl rfl (by kernel_rfl) Tryz.func5 (by kernel_rfl)
  (of_decide_eq_true (by kernel_rfl)) (by unfold Func.isWrapper; first | (rw [if_pos (by decide +kernel)]; kernel_rfl) | (rw [if_neg (by decide +kernel)]; exact ⟨rfl, rfl⟩))
  (fun os started H enc _ => lifted os started H enc)
set_option maxRecDepth 100000 in
theorem proved : Rows.ScriptWholeCardSaid :=
 Claim7.holds_tied_plain_at .later [] [.data, .data, .data, .data, .pinned] true (true, "2ccfa833e3c8cad5a33b45240cd0c472695e182eaee75a8c14dad7191cc9835b") false
  over (fun _ h => by cases h) (by kernel_rfl) (fun _ h => by cases h) scriptWhole_row_tie rfl ⟨rfl, rfl⟩ (by kernel_rfl) rfl
  (fun f fn hf hfn => by
    obtain rfl : f = 5 := Option.some.inj ((show Tryz.prog.funcNamed "voile/voilelaw26.ScriptWhole" = some 5 by kernel_rfl).symm.trans hf) |>.symm
    obtain rfl : fn = Tryz.f5 := (Option.some.inj (Tryz.func5.symm.trans hfn)).symm
    exact ⟨by kernel_rfl, fun j t ht => by
     rw [Tryz.params5] at ht
     match j, ht with
     | 0, ht => obtain rfl := (Option.some.inj ht).symm; exact (show Tryz.prog.wantsStandIn 58 = false by kernel_rfl)
     | 1, ht => obtain rfl := (Option.some.inj ht).symm; exact (show Tryz.prog.wantsStandIn 9 = false by kernel_rfl)
     | j + 2, ht => simp at ht⟩)
  (by kernel_rfl)
end scriptWhole
end Go.Proofs.YtgjdgafoidppaaaGreatDoor
