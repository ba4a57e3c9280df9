/- OperatorMeans: of two nodes that lead, mark and are brought together only as the operator lets them, never both are marked; none is made to lead that is marked; the epochs rise; for any at most 200 moves. Conditions: none. -/
import Derived.Test.YtginaleekfljfaaRows
import Derived.Test.YtginaleekfljfaaMeansA
import Derived.Deep.SlicePairs
namespace Go.Proofs.Ytginaleekfljfaa
open Go.ChangeShapes Go.WideShapes Go.ChangeAt Go.RowKit Go.Deep
open Go.ChangeMaps (open_string shut_string)
set_option linter.unusedVariables false
set_option linter.unusedSimpArgs false
set_option linter.unnecessarySimpa false
namespace operatorMeans
set_option maxRecDepth 100000 in
set_option maxHeartbeats 2000000 in
theorem walk_none (A : Option Addr) (c : Nat) (w : World) :
    Calls Try.prog 8 #[.slice A 0 c] w fun e w' => e = .returned (.bool true) ∧ Gr w w' := by
  go_enter Try.func8, Try.ntmps8
  go_wp2_with (first | (go_at_call 15; ((with_reducible refine (known_any _).mono ?_); rintro _ _ ⟨rfl, g, rfl⟩)))
  refine wp_loop_rounds 1 ?_
  rw [rounds_succ]
  go_wp2
  go_ret
  exact ⟨rfl, by (refine Gr.of ?_; repeat (first | with_reducible exact Below.refl _ _ | with_reducible apply below_alloc | ((with_reducible refine below_set ?_ ?hq _); case hq => (first | omega | exact Nat.le_of_lt (grown_lt _ _ _) | assumption)) | with_reducible refine below_trans ?_ (grown_below _ _) | with_reducible apply Below.drew | with_reducible refine below_trans ?_ (by assumption)))⟩
set_option maxRecDepth 100000 in
set_option maxHeartbeats 2000000 in
theorem walk_long (A : Option Addr) (n c : Nat) (w : World) (h : 200 < n) :
    Calls Try.prog 8 #[.slice A n c] w fun e w' => e = .returned (.bool true) ∧ Gr w w' := by
  go_enter Try.func8, Try.ntmps8
  go_wp2_with (first | (go_at_call 15; ((with_reducible refine (known_any _).mono ?_); rintro _ _ ⟨rfl, g, rfl⟩)))
  go_ret
  exact ⟨rfl, by (refine Gr.of ?_; repeat (first | with_reducible exact Below.refl _ _ | with_reducible apply below_alloc | ((with_reducible refine below_set ?_ ?hq _); case hq => (first | omega | exact Nat.le_of_lt (grown_lt _ _ _) | assumption)) | with_reducible refine below_trans ?_ (grown_below _ _) | with_reducible apply Below.drew | with_reducible refine below_trans ?_ (by assumption)))⟩
theorem cell_plain {w : World} {a : Addr} {v : Value} (h : w.cell? a = some v) : a = ⟨a.block, a.off, none⟩ ∧ a.block < w.heap.size := by
  obtain ⟨b, o, s⟩ := a
  refine ⟨?_, ?_⟩
  · cases s with
    | none => rfl
    | some x => simp [World.cell?] at h; split at h <;> simp_all
  · rcases Nat.lt_or_ge b w.heap.size with hlt | hge
    · exact hlt
    · simp [World.cell?, Array.getElem?_eq_none hge] at h
theorem walk (A : Option Addr) (n c : Nat) (w : World) (hc : ∀ i, i < n → ∃ a, A = some a ∧ ∃ kd wh : Int, w.cell? (a.add (i * 2)) = some (.int .i64 kd) ∧ w.cell? (a.add (i * 2 + 1)) = some (.int .i64 wh)) :
    Calls Try.prog 8 #[.slice A n c] w fun e w' => e = .returned (.bool true) ∧ Gr w w' := by
  rcases Nat.eq_zero_or_pos n with rfl | h0
  · exact walk_none A c w
  · rcases Nat.lt_or_ge 200 n with h1 | h1
    · exact walk_long A n c w h1
    · obtain ⟨a, rfl, kd, wh, h2, _⟩ := hc 0 h0
      have h3 := cell_plain h2
      obtain ⟨b, o, s⟩ := a
      have : s = none := by simpa [Addr.add] using h3.1
      subst this
      refine walk_some b o n c w h1 (fun i hi => ?_) (by simpa [Addr.add] using h3.2)
      obtain ⟨a', ha, kd, wh, h4, h5⟩ := hc i hi
      cases ha
      rw [add_plain] at h4 h5
      exact ⟨kd, wh, h4, by rw [Nat.add_assoc]; exact h5⟩
end operatorMeans
namespace operatorMeans
theorem own : ownKnob Try.prog.godebug = none := by kernel_rfl
theorem laidOut : laidOutB Try.prog = true := by kernel_rfl
set_option maxRecDepth 100000 in
theorem lifted (os : Os) (started : os.Started) (H : Type) (enc : TypeId × Value → H) :
    ReturnsInHanded {} Try.checked os 8 .any (Rows.operatorMeansSpec.pre6 enc Try.prog Try.f8 Rows.operatorMeansRow.domain false) (Rows.operatorMeansSpec.post enc Try.prog Try.f8 false true false false) := by
  refine returnsInHanded_of_change (C := Try.checked) own started (by kernel_rfl) Try.func8
    (ChangeSpec.witness6 (enc := enc) (C := Try.checked) false ⟨#[], #[.slice none 0 0], []⟩ 8 (by kernel_rfl) (by kernel_rfl) (by kernel_rfl) (by kernel_rfl)) ?_
  intro W base args ds gs before hval0 hW hcnd hroom
  have hval : ∀ (j : Nat) t v, Try.f8.params[j]? = some t → args[j]? = some v → Value.okWide Try.prog W .any base t v := hval0
  have hW' := hW
  have hlt0 := hW'.lt
  obtain ⟨p, q, hA0, hV, rfl, hfz, hnd⟩ := hW
  have hA : DataW.TrodAll enc Try.prog W 0 (fun _ => true) true Try.f8.params.toList args.toList ds p := hA0
  rw [Try.params8] at hA hval
  have hA1 := hA
  obtain ⟨v0, vs0, d0, ds0, p0, q0, hargs, rfl, rfl, h0, r0⟩ := trodAll_cons hA
  obtain ⟨rfl, rfl, rfl⟩ := trodAll_nil r0
  obtain rfl : args = #[v0] := by cases args; simp_all
  obtain ⟨rfl, rfl⟩ := trodVars_none hV
  obtain ⟨A, n, c, rfl⟩ := okWide_slice Try.underlying53 (hval 0 53 v0 rfl rfl)
  have hcells : ∀ i, i < n → ∃ a, A = some a ∧ ∃ kd wh : Int, W.cell? (a.add (i * 2)) = some (.int .i64 kd) ∧ W.cell? (a.add (i * 2 + 1)) = some (.int .i64 wh) := by
    intro i hi
    obtain ⟨fuel, hfu⟩ := h0
    rcases open_slice_pairs Try.underlying53 Try.underlying57 (by kernel_rfl) rfl rfl (by kernel_rfl) (by kernel_rfl) hfu with ⟨hcs, _⟩ | ⟨a, len, cap, m, k, V0, V1, D0, D1, P0, P1, hcs, _, hl, hm, hmm, hx, hall⟩
    · simp [Value.cells] at hcs; omega
    · simp only [Value.cells, List.cons.injEq, and_true, Value.slice.injEq] at hcs
      obtain ⟨rfl, rfl, rfl⟩ := hcs
      have him : i < m := by rw [hmm]; split <;> omega
      obtain ⟨g0, g1, t0, t1⟩ := hall i him
      obtain ⟨x0, e0, _, _⟩ := DataW.trod_int Try.underlying3 t0
      obtain ⟨x1, e1, _, _⟩ := DataW.trod_int Try.underlying3 t1
      simp only [List.cons.injEq, and_true] at e0 e1
      exact ⟨a, rfl, x0, x1, by rw [g0, e0], by rw [g1, e1]⟩
  simp only [List.append_nil] at hW'
  refine (walk A n c W hcells).mono fun e W' ⟨he, hg⟩ => ?_
  subst he
  have hb := hg.below
  exact ⟨_, rfl, _, _, _, [], _, [], hW', trodAll_mk1 (shut_bool Try.underlying4 _), trodAll_below laidOut hb (by kernel_rfl) hA1 (fun x hx => by simpa using hlt0 x (by simpa using hx)), rfl, hb.frame _, fun h => by cases h⟩
theorem over : Rows.operatorMeansRow.holds Try.pinned (OpenSpec.ofChange Rows.operatorMeansSpec) :=
  OpenClaim.holds_of_wide 8 Try.f8 rfl rfl rfl rfl rfl rfl rfl ⟨rfl, rfl, rfl, rfl, rfl⟩ rfl rfl rfl rfl rfl (by kernel_rfl) Try.func8 (by kernel_rfl)
    (of_decide_eq_true (by kernel_rfl)) (by unfold Func.isWrapper; first | (rw [if_pos (by decide +kernel)]; kernel_rfl) | (rw [if_neg (by decide +kernel)]; exact ⟨rfl, rfl⟩))
    (fun os started H enc _ => lifted os started H enc)
theorem proved : Rows.OperatorMeansSaid := over
end operatorMeans
end Go.Proofs.Ytginaleekfljfaa
