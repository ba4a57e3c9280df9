/- The row of ScriptNames, from the walk to the given statement. Conditions: none (the listed tables are the row's own condition). -/
import Derived.Test.YtgjdgafoidppaaaDoorSKit
import Derived.Test.YtgjdgafoidppaaaDoorCards
import Derived.Test.YtgjdgafoidppaaaDoorTie
import Derived.Test.YtgjdgafoidppaaaDoorSScN
import Derived.SevenTiedAt
import Derived.LaidHandle
import Derived.Handed
import Derived.ChangeSame
import Derived.ChangeVars
import Derived.RowKit
import Derived.LaidLaws
import Derived.LaidSub
import Derived.Lib.LaidTab
import Derived.Lay
import Derived.Test.YtgjdgafoidppaaaDoorLaw
namespace Go.Proofs.YtgjdgafoidppaaaDoor
open Go.RowKit Go.ChangeShapes Go.WideShapes
set_option linter.unusedVariables false
set_option linter.unusedSimpArgs false
set_option linter.unnecessarySimpa false
theorem size_of_var {W : World} {name : String} {g : Nat} {cs : Array Value} (hg : Tryd.prog.globalNamed name = some g) (h : W.var? Tryd.prog name = some cs) : g < W.heap.size := by
  unfold World.var? at h
  rw [hg] at h
  by_cases hlt : g < W.heap.size
  · exact hlt
  · have hn : W.heap[g]? = none := Array.getElem?_eq_none (by omega)
    simp [hn] at h
theorem pow_type : (Tryd.prog.globals[1]?).map (·.type) = some 141 := by kernel_rfl
theorem bru_named : Tryd.prog.globalNamed "math/bits.deBruijn64tab" = some 5 := by kernel_rfl
theorem bru_type : (Tryd.prog.globals[5]?).map (·.type) = some 121 := by kernel_rfl
theorem pow_under : Tryd.prog.underlying 141 = some (.array 20 44) := by kernel_rfl
theorem bru_under : Tryd.prog.underlying 121 = some (.array 64 5) := by kernel_rfl
abbrev bru64 : List Int := [0, 1, 56, 2, 57, 49, 28, 3, 61, 58, 42, 50, 38, 29, 17, 4, 62, 47, 59, 36, 45, 43, 51, 22, 53, 39, 33, 30, 24, 18, 12, 5, 63, 55, 48, 27, 60, 41, 37, 16, 46, 35, 44, 21, 52, 32, 23, 11, 54, 26, 40, 15, 34, 20, 31, 10, 25, 14, 19, 9, 13, 8, 7, 6]
abbrev bru32 : List Int := [0, 1, 28, 2, 29, 14, 24, 3, 30, 22, 20, 15, 25, 17, 4, 8, 31, 27, 13, 23, 21, 19, 16, 7, 26, 12, 18, 6, 11, 5, 10, 9]
theorem tb_of {W : World} (h : laidMet Tryd.prog Rows.scriptNamesRow.laid W) : Tb W := by
  have h1 := h.filter (fun x => x.1 == "internal/strconv.uint64pow10")
  have h2 := h.filter (fun x => x.1 == "math/bits.deBruijn64tab")
  rw [show Rows.scriptNamesRow.laid.filter (fun x => x.1 == "internal/strconv.uint64pow10") = [("internal/strconv.uint64pow10", Lib.tabData .u64 Lib.pow10Tab)] from by simp [Rows.scriptNamesRow, Rows.laid_internal_strconv_uint64pow10, Lib.tabData, Lib.pow10Tab]; kernel_rfl] at h1
  rw [show Rows.scriptNamesRow.laid.filter (fun x => x.1 == "math/bits.deBruijn64tab") = [("math/bits.deBruijn64tab", Lib.tabData .u8 [0, 1, 56, 2, 57, 49, 28, 3, 61, 58, 42, 50, 38, 29, 17, 4, 62, 47, 59, 36, 45, 43, 51, 22, 53, 39, 33, 30, 24, 18, 12, 5, 63, 55, 48, 27, 60, 41, 37, 16, 46, 35, 44, 21, 52, 32, 23, 11, 54, 26, 40, 15, 34, 20, 31, 10, 25, 14, 19, 9, 13, 8, 7, 6])] from by simp [Rows.scriptNamesRow, Rows.laid_math_bits_deBruijn64tab, Lib.tabData]] at h2
  have t1 := Lib.tabIs_of_head global_pow pow_type pow_under (by kernel_rfl) (by kernel_rfl) (by kernel_rfl) h1
  have t2 := Lib.tabIs_of_head bru_named bru_type bru_under (by kernel_rfl) (by kernel_rfl) (by kernel_rfl) h2
  exact ⟨size_of_var bru_named t2, t1⟩
theorem own : ownKnob Tryd.prog.godebug = none := by kernel_rfl
theorem laidOut : laidOutB Tryd.prog = true := by kernel_rfl
theorem tbH_of {W : World} (h : laidMetH Tryd.prog Rows.scriptNamesRow.laid W) : Tb W := by
  have h0 := (laidMetH_iff.1 h).1
  rw [show Rows.scriptNamesRow.laid.filter (fun x => x.2.handleName?.isNone) = Rows.scriptNamesRow.laid from by kernel_rfl] at h0
  exact tb_of h0
/-- A world that meets the condition: the settled one, the tables laid. -/
noncomputable abbrev laidWorld (os : Os) : World := World.laidAll Tryd.prog os Rows.scriptNamesRow.laid
theorem laidWorld_met (os : Os) (args : Array Value) : laidMetH Tryd.prog Rows.scriptNamesRow.laid ((laidWorld os).forCall (fun _ _ => 0) ⟨#[], args, []⟩).memory :=
  laidMetH_of_parts (laidMet_laidAll _ (by kernel_rfl) (by kernel_rfl)) (by kernel_rfl)
set_option maxRecDepth 100000 in
theorem lifted (os : Os) (started : os.Started) (H : Type) (enc : TypeId × Value → H) :
    ReturnsInHanded {} Tryd.checked os 3 .any (fun w args => (Rows.scriptNamesSpec.pre enc Tryd.prog Tryd.f3 [] false w args ∧ laidMetH Tryd.prog Rows.scriptNamesRow.laid w) ∧ sizedMet enc Tryd.prog Tryd.f3 (OpenSpec.ofChange Rows.scriptNamesSpec) false w args)
      (Rows.scriptNamesSpec.post enc Tryd.prog Tryd.f3 false true false false) := by
  refine returnsInHanded_of_change_and (C := Tryd.checked) (X := fun w _ => laidMetH Tryd.prog Rows.scriptNamesRow.laid w) (fun _ _ _ hh h => h.of_heap hh) own started (by kernel_rfl) Tryd.func3
    (ChangeSpec.witness_shaped (enc := enc) (C := Tryd.checked) (os := os) (X := fun w _ => laidMetH Tryd.prog Rows.scriptNamesRow.laid w) false (laidWorld os) #[] 8 rfl (World.shaped_of_ZipB (by kernel_rfl) (by kernel_rfl)) (by kernel_rfl) (by kernel_rfl) (by kernel_rfl) (laidWorld_met os _)) ?_
  intro W base args ds gs before hval0 hW _ _ hL _
  haveI htb : Tb W := tbH_of hL
  have hW' := hW
  have hlt0 := hW'.lt
  obtain ⟨p, q, hA0, hV, rfl, hfz, hnd⟩ := hW
  have hA : DataW.TrodAll enc Tryd.prog W 0 (fun _ => true) true Tryd.f3.params.toList args.toList ds p := hA0
  rw [Tryd.params3] at hA
  have hA1 := hA
  obtain ⟨hargs, rfl, rfl⟩ := trodAll_none hA
  obtain rfl : args = #[] := by cases args; simp_all
  obtain ⟨rfl, rfl⟩ := trodVars_none hV
  simp only [List.append_nil] at hW'
  refine (scriptNames_any W).mono fun e W' ⟨he, hg⟩ => ?_
  subst he
  have hb := hg.below
  exact ⟨_, rfl, _, _, _, [], _, [], hW', trodAll_mk1 (shut_bool Tryd.underlying4 _), trodAll_below laidOut hb (by kernel_rfl) hA1 (fun x hx => by simpa using hlt0 x (by simpa using hx)), rfl, hb.frame _, fun h => by cases h⟩
theorem over : Rows.ScriptNamesSaid :=
  OpenClaim.holds_of_wide 3 Tryd.f3 rfl rfl rfl rfl rfl rfl rfl ⟨rfl, rfl, rfl, rfl, rfl⟩ rfl rfl rfl rfl rfl (by kernel_rfl) Tryd.func3 (by kernel_rfl)
    (of_decide_eq_true (by kernel_rfl)) (by unfold Func.isWrapper; first | (rw [if_pos (by decide +kernel)]; kernel_rfl) | (rw [if_neg (by decide +kernel)]; exact ⟨rfl, rfl⟩))
    (fun os started H enc _ => lifted os started H enc)
theorem proved : Rows.ScriptNamesCardSaid :=
  Claim7.holds_tied_plain_at .later [] [.data, .data, .data] true (true, "e950710c1514cf626c8a6a04b5612aec37671cc861be8073357576b9261fbfc2") false
    over (fun _ h => by cases h) (by kernel_rfl) (fun _ h => by cases h) scriptNames_row_tie rfl ⟨rfl, rfl⟩ (by kernel_rfl) rfl
    (fun f fn hf hfn => by
      obtain rfl : f = 3 := Option.some.inj ((show Tryd.prog.funcNamed "voile/voilelaw26.ScriptNames" = some 3 by kernel_rfl).symm.trans hf) |>.symm
      obtain rfl : fn = Tryd.f3 := (Option.some.inj (Tryd.func3.symm.trans hfn)).symm
      exact ⟨by kernel_rfl, fun j t ht => by
        rw [Tryd.params3] at ht
        simp at ht⟩)
    (by kernel_rfl)
end Go.Proofs.YtgjdgafoidppaaaDoor
