/- OperatorOrders: the order of names is what the chapter says, for any three names. Conditions: none. -/
import Derived.Test.YtginaleekfljfaaRows
import Derived.Test.YtginaleekfljfaaLaw
import Derived.Test.YtginaleekfljfaaKnown
namespace Go.Proofs.Ytginaleekfljfaa
open Go.ChangeShapes Go.WideShapes Go.ChangeAt Go.RowKit Go.Deep
open Go.ChangeMaps (open_string shut_string)
set_option linter.unusedVariables false
set_option linter.unusedSimpArgs false
set_option linter.unnecessarySimpa false
namespace operatorOrders
theorem ord_neg (a b c d : Int) : ord c d a b = -ord a b c d := by
  simp only [ord, cmp3]; split <;> split <;> (try omega) <;> (repeat' split) <;> omega
theorem ord_bd (a b c d : Int) : -1 ≤ ord a b c d ∧ ord a b c d ≤ 1 := by
  simp only [ord, cmp3]; (repeat' split) <;> omega
theorem ord_refl (a b : Int) : ord a b a b = 0 := by simp [ord]
theorem ord_ge (a b c d : Int) : 0 ≤ ord a b c d ↔ (c < a ∨ (a = c ∧ d ≤ b)) := by
  simp only [ord, cmp3]; (repeat' split) <;> omega
theorem ord_trans {a b c d e f : Int} (h1 : 0 ≤ ord a b c d) (h2 : 0 ≤ ord c d e f) : 0 ≤ ord a b e f := by
  rw [ord_ge] at *; omega
set_option maxHeartbeats 1000000 in
theorem walk (ae au be bu ce cu : Int) (w : World) : Calls Try.prog 6 #[.agg #[.int .u64 ae, .int .u64 au], .agg #[.int .u64 be, .int .u64 bu], .agg #[.int .u64 ce, .int .u64 cu]] w fun e w' => e = .returned (.bool true) ∧ Gr w w' := by
  have hn := ord_neg ae au be bu
  obtain ⟨hb1, hb2⟩ := ord_bd ae au be bu
  have hr := ord_refl ae au
  have tr := @ord_trans ae au be bu ce cu
  by_cases h1 : ord ae au be bu < 0
  · clear tr
    go_enter Try.func6, Try.ntmps6
    go_wp2
    refine wp_region_grow (by kernel_rfl) (by kernel_rfl) ?_
    repeat (go_big_quiet_step ((first | (go_at_call 25; exact grow_call (order_any _ _ _ _ _)) | (go_at_call 26; exact grow_call (refOrder_any _ _ _ _ _)))))
    refine wpQuiet_nil ?_
    intro g1
    go_wp2_with (first | (go_at_call 25; ((with_reducible refine (order_any _ _ _ _ _).mono ?_); rintro _ _ ⟨rfl, g, rfl⟩)) | (go_at_call 15; ((with_reducible refine (known_any _).mono ?_); rintro _ _ ⟨rfl, g, rfl⟩)))
    go_ret
    exact ⟨rfl, by (refine Gr.of ?_; repeat (first | with_reducible exact Below.refl _ _ | with_reducible apply below_alloc | ((with_reducible refine below_set ?_ ?hq _); case hq => (first | omega | exact Nat.le_of_lt (grown_lt _ _ _) | assumption)) | with_reducible refine below_trans ?_ (grown_below _ _) | with_reducible apply Below.drew | with_reducible refine below_trans ?_ (by assumption)))⟩
  · by_cases h2 : ord be bu ce cu < 0
    · clear tr
      go_enter Try.func6, Try.ntmps6
      go_wp2
      refine wp_region_grow (by kernel_rfl) (by kernel_rfl) ?_
      repeat (go_big_quiet_step ((first | (go_at_call 25; exact grow_call (order_any _ _ _ _ _)) | (go_at_call 26; exact grow_call (refOrder_any _ _ _ _ _)))))
      refine wpQuiet_nil ?_
      intro g1
      go_wp2_with (first | (go_at_call 25; ((with_reducible refine (order_any _ _ _ _ _).mono ?_); rintro _ _ ⟨rfl, g, rfl⟩)) | (go_at_call 15; ((with_reducible refine (known_any _).mono ?_); rintro _ _ ⟨rfl, g, rfl⟩)))
      go_ret
      exact ⟨rfl, by (refine Gr.of ?_; repeat (first | with_reducible exact Below.refl _ _ | with_reducible apply below_alloc | ((with_reducible refine below_set ?_ ?hq _); case hq => (first | omega | exact Nat.le_of_lt (grown_lt _ _ _) | assumption)) | with_reducible refine below_trans ?_ (grown_below _ _) | with_reducible apply Below.drew | with_reducible refine below_trans ?_ (by assumption)))⟩
    · have h3 := tr (by omega) (by omega)
      clear tr
      go_enter Try.func6, Try.ntmps6
      go_wp2
      refine wp_region_grow (by kernel_rfl) (by kernel_rfl) ?_
      repeat (go_big_quiet_step ((first | (go_at_call 25; exact grow_call (order_any _ _ _ _ _)) | (go_at_call 26; exact grow_call (refOrder_any _ _ _ _ _)))))
      refine wpQuiet_nil ?_
      intro g1
      go_wp2_with (first | (go_at_call 25; ((with_reducible refine (order_any _ _ _ _ _).mono ?_); rintro _ _ ⟨rfl, g, rfl⟩)) | (go_at_call 15; ((with_reducible refine (known_any _).mono ?_); rintro _ _ ⟨rfl, g, rfl⟩)))
      go_ret
      exact ⟨rfl, by (refine Gr.of ?_; repeat (first | with_reducible exact Below.refl _ _ | with_reducible apply below_alloc | ((with_reducible refine below_set ?_ ?hq _); case hq => (first | omega | exact Nat.le_of_lt (grown_lt _ _ _) | assumption)) | with_reducible refine below_trans ?_ (grown_below _ _) | with_reducible apply Below.drew | with_reducible refine below_trans ?_ (by assumption)))⟩
end operatorOrders
namespace operatorOrders
theorem own : ownKnob Try.prog.godebug = none := by kernel_rfl
theorem laidOut : laidOutB Try.prog = true := by kernel_rfl
set_option maxRecDepth 100000 in
theorem lifted (os : Os) (started : os.Started) (H : Type) (enc : TypeId × Value → H) :
    ReturnsInHanded {} Try.checked os 6 .any (Rows.operatorOrdersSpec.pre6 enc Try.prog Try.f6 Rows.operatorOrdersRow.domain false) (Rows.operatorOrdersSpec.post enc Try.prog Try.f6 false true false false) := by
  refine returnsInHanded_of_change (C := Try.checked) own started (by kernel_rfl) Try.func6
    (ChangeSpec.witness6 (enc := enc) (C := Try.checked) false ⟨#[], #[(Value.agg #[.int .u64 0, .int .u64 0]), (Value.agg #[.int .u64 0, .int .u64 0]), (Value.agg #[.int .u64 0, .int .u64 0])], []⟩ 8 (by kernel_rfl) (by kernel_rfl) (by kernel_rfl) (by kernel_rfl)) ?_
  intro W base args ds gs before hval0 hW hcnd hroom
  have hval : ∀ (j : Nat) t v, Try.f6.params[j]? = some t → args[j]? = some v → Value.okWide Try.prog W .any base t v := hval0
  have hW' := hW
  have hlt0 := hW'.lt
  obtain ⟨p, q, hA0, hV, rfl, hfz, hnd⟩ := hW
  have hA : DataW.TrodAll enc Try.prog W 0 (fun _ => true) true Try.f6.params.toList args.toList ds p := hA0
  rw [Try.params6] at hA hval
  have hA1 := hA
  obtain ⟨v0, vs0, d0, ds0, p0, q0, hargs, rfl, rfl, h0, r0⟩ := trodAll_cons hA
  obtain ⟨v1, vs1, d1, ds1, p1, q1, rfl, rfl, rfl, h1, r1⟩ := trodAll_cons r0
  obtain ⟨v2, vs2, d2, ds2, p2, q2, rfl, rfl, rfl, h2, r2⟩ := trodAll_cons r1
  obtain ⟨rfl, rfl, rfl⟩ := trodAll_nil r2
  obtain rfl : args = #[v0, v1, v2] := by cases args; simp_all
  obtain ⟨rfl, rfl⟩ := trodVars_none hV
  obtain ⟨cs0, rfl, hl0, n0, hf0⟩ := open_fields Try.underlying26 (by kernel_rfl) (by kernel_rfl) (hval 0 26 v0 rfl rfl) h0
  obtain ⟨c0_0, c0_1, rfl⟩ := list_len2 hl0
  obtain ⟨ae, rfl, wae⟩ := field_int Try.underlying22 (hf0 0 _ c0_0 rfl rfl)
  obtain ⟨au, rfl, wau⟩ := field_int Try.underlying22 (hf0 1 _ c0_1 rfl rfl)
  obtain ⟨cs1, rfl, hl1, n1, hf1⟩ := open_fields Try.underlying26 (by kernel_rfl) (by kernel_rfl) (hval 1 26 v1 rfl rfl) h1
  obtain ⟨c1_0, c1_1, rfl⟩ := list_len2 hl1
  obtain ⟨be, rfl, wbe⟩ := field_int Try.underlying22 (hf1 0 _ c1_0 rfl rfl)
  obtain ⟨bu, rfl, wbu⟩ := field_int Try.underlying22 (hf1 1 _ c1_1 rfl rfl)
  obtain ⟨cs2, rfl, hl2, n2, hf2⟩ := open_fields Try.underlying26 (by kernel_rfl) (by kernel_rfl) (hval 2 26 v2 rfl rfl) h2
  obtain ⟨c2_0, c2_1, rfl⟩ := list_len2 hl2
  obtain ⟨ce, rfl, wce⟩ := field_int Try.underlying22 (hf2 0 _ c2_0 rfl rfl)
  obtain ⟨cu, rfl, wcu⟩ := field_int Try.underlying22 (hf2 1 _ c2_1 rfl rfl)
  simp only [List.append_nil] at hW'
  refine (walk ae au be bu ce cu W).mono fun e W' ⟨he, hg⟩ => ?_
  subst he
  have hb := hg.below
  exact ⟨_, rfl, _, _, _, [], _, [], hW', trodAll_mk1 (shut_bool Try.underlying4 _), trodAll_below laidOut hb (by kernel_rfl) hA1 (fun x hx => by simpa using hlt0 x (by simpa using hx)), rfl, hb.frame _, fun h => by cases h⟩
theorem over : Rows.operatorOrdersRow.holds Try.pinned (OpenSpec.ofChange Rows.operatorOrdersSpec) :=
  OpenClaim.holds_of_wide 6 Try.f6 rfl rfl rfl rfl rfl rfl rfl ⟨rfl, rfl, rfl, rfl, rfl⟩ rfl rfl rfl rfl rfl (by kernel_rfl) Try.func6 (by kernel_rfl)
    (of_decide_eq_true (by kernel_rfl)) (by unfold Func.isWrapper; first | (rw [if_pos (by decide +kernel)]; kernel_rfl) | (rw [if_neg (by decide +kernel)]; exact ⟨rfl, rfl⟩))
    (fun os started H enc _ => lifted os started H enc)
theorem proved : Rows.OperatorOrdersSaid := over
end operatorOrders
end Go.Proofs.Ytginaleekfljfaa
