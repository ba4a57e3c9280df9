/- The walk of ScriptStages: it returns true. Conditions: the tables stand. -/
import Derived.Test.YtgjdgafoidppaaaDoorSStR
import Derived.Test.YtgjdgafoidppaaaDoorSKnown
namespace Go.Proofs.YtgjdgafoidppaaaDoor
open Go.RowKit
set_option linter.unusedVariables false
set_option linter.unusedSimpArgs false
set_option linter.unnecessarySimpa false
@[go_sem] theorem eql_two (w : World) (a b : Int) : (Op.equalIn 9999 27 (.agg #[.int .i64 a, .int .i64 b]) (.agg #[.int .i64 a, .int .i64 b])).run Tryd.prog w = .ok true w := by
  unfold Op.equalIn
  simp [go_sem, List.range']
theorem mayStB_turn (m0 m1 d0 d1 g : Int) : mayStB m1 m0 d1 d0 g = mayStB m0 m1 d0 d1 g := by
  rw [Bool.eq_iff_iff, mayStB_yes, mayStB_yes]
  omega
theorem stageOf_good (s : ByteArray) (h : goodSt s = true) (hs : s.size ≤ 900000) (w : World) [hk : Tb w] [hm : Ml w] : Calls Tryd.prog 10 #[.string s] w fun e w' => e = .returned (.tuple #[.agg #[.int .i64 (nW s 1), .int .i64 (nW s 3), .int .i64 (nW s 2), .int .i64 (nW s 4), .int .i64 (nW s 5)], .int .i64 0]) ∧ Gr w w' := by
  have := stageOf_any s hs w
  rw [← st_yes h] at this
  exact this
theorem stageOf_poor (s : ByteArray) (h : goodSt s = false) (hs : s.size ≤ 900000) (w : World) [hk : Tb w] [hm : Ml w] : Calls Tryd.prog 10 #[.string s] w fun e w' => e = .returned (.tuple #[.agg #[.int .i64 0, .int .i64 0, .int .i64 0, .int .i64 0, .int .i64 0], .int .i64 4]) ∧ Gr w w' := by
  have := stageOf_any s hs w
  rw [← st_no h] at this
  exact this
theorem stageOf26_good (s : ByteArray) (h : goodSt s = true) (hs : s.size ≤ 800000) (w : World) : Calls Tryd.prog 11 #[.string s] w fun e w' => e = .returned (.tuple #[.agg #[.int .i64 (nW s 1), .int .i64 (nW s 3), .int .i64 (nW s 2), .int .i64 (nW s 4), .int .i64 (nW s 5)], .bool true]) ∧ Gr w w' := by
  have := stageOf26_any s hs w
  rw [← st26_yes h] at this
  exact this
theorem stageOf26_poor (s : ByteArray) (h : goodSt s = false) (hs : s.size ≤ 800000) (w : World) : Calls Tryd.prog 11 #[.string s] w fun e w' => e = .returned (.tuple #[.agg #[.int .i64 0, .int .i64 0, .int .i64 0, .int .i64 0, .int .i64 0], .bool false]) ∧ Gr w w' := by
  have := stageOf26_any s hs w
  rw [← st26_no h] at this
  exact this
set_option maxRecDepth 100000 in
set_option maxHeartbeats 4000000 in
theorem stages_good_may (m0 m1 d0 d1 g : Nat) (t : ByteArray) (ht : t.size ≤ 20000) (hg : goodSt t = true) (hM : mayStB m0 m1 d0 d1 g = true) (w : World) [hk : Tb w] [hm : Ml w] : Calls Tryd.prog 4 #[.agg #[.int .i64 m0, .int .i64 m1, .int .i64 d0, .int .i64 d1, .int .i64 g], .string t] w fun e w' => e = .returned (.bool true) ∧ Gr w w' := by
  have H1 := Lib.hid (fun W (_ : Tb W) (_ : Ml W) => stageOf_good t hg (by omega) W)
  have H2 := Lib.hid (fun W => stageOf26_good t hg (by omega) W)
  have H3 := Lib.hid (fun W => mayStage_any m0 m1 d0 d1 g W)
  have H4 := Lib.hid (fun W => mayStage26_any m0 m1 d0 d1 g W)
  rw [hM] at H3 H4
  have hM2 : mayStB m1 m0 d1 d0 g = true := (mayStB_turn _ _ _ _ _).trans hM
  have H5 := Lib.hid (fun W (_ : Tb W) => StageText_yes m0 m1 d0 d1 g hM W)
  have H6 := Lib.hid (fun W (_ : Tb W) => StageText_yes m1 m0 d1 d0 g hM2 W)
  have H7 := Lib.hid (fun W => stageText26_any m0 m1 d0 d1 g (stBd_of hM) W)
  have H8 := Lib.hid (fun W => stageText26_any m1 m0 d1 d0 g (stBd_of hM2) W)
  clear hM2
  have H9 := Lib.hid (fun W (_ : Tb W) => known26_any W)
  clear hg hM
  go_enter Tryd.func4, Tryd.ntmps4
  go_wp2_with (first | (go_at_call 10; ((with_reducible refine (H1.out _ inferInstance inferInstance).mono ?_); rintro _ _ ⟨rfl, g1, rfl⟩)) | (go_at_call 11; ((with_reducible refine (H2.out _).mono ?_); rintro _ _ ⟨rfl, g2, rfl⟩)))
  refine wp_region_grow (by kernel_rfl) (by kernel_rfl) ?_
  repeat (go_big_quiet_step ((first | (go_at_call 12; exact grow_call_same (num26_any _ _)) | (go_at_call 13; exact grow_call (H3.out _)) | (go_at_call 14; exact grow_call (H4.out _)))))
  refine wpQuiet_nil ?_
  intro g3
  go_wp2_with (first | (go_at_call 15; ((with_reducible refine (H5.out _ inferInstance).mono ?_); rintro _ _ ⟨rfl, g5, rfl⟩)) | (go_at_call 15; ((with_reducible refine (H6.out _ inferInstance).mono ?_); rintro _ _ ⟨rfl, g6, rfl⟩)) | (go_at_call 14; ((with_reducible refine (H4.out _).mono ?_); rintro _ _ ⟨rfl, g4, rfl⟩)) | (go_at_call 12; ((with_reducible refine (num26_any _ _).mono ?_); rintro _ _ ⟨rfl, rfl⟩)) | (go_at_call 9; ((with_reducible refine (H9.out _ inferInstance).mono ?_); rintro _ _ ⟨rfl, g9, rfl⟩)) | (go_at_call 16; ((with_reducible refine (H7.out _).mono ?_); rintro _ _ ⟨rfl, g7, rfl⟩)) | (go_at_call 16; ((with_reducible refine (H8.out _).mono ?_); rintro _ _ ⟨rfl, g8, rfl⟩)))
  go_ret
  exact ⟨rfl, by (refine Gr.of ?_; repeat (first | with_reducible exact Below.refl _ _ | with_reducible apply below_alloc | with_reducible refine below_set' ?_ _ | with_reducible refine below_trans ?_ (grown_below _ _) | with_reducible refine below_iter' ?_ _ _ | with_reducible apply Below.drew | with_reducible refine below_trans ?_ (by assumption)))⟩
set_option maxRecDepth 100000 in
set_option maxHeartbeats 4000000 in
theorem stages_good_not (m0 m1 d0 d1 g : Int) (t : ByteArray) (ht : t.size ≤ 20000) (hg : goodSt t = true) (hM : mayStB m0 m1 d0 d1 g = false) (w : World) [hk : Tb w] [hm : Ml w] : Calls Tryd.prog 4 #[.agg #[.int .i64 m0, .int .i64 m1, .int .i64 d0, .int .i64 d1, .int .i64 g], .string t] w fun e w' => e = .returned (.bool true) ∧ Gr w w' := by
  have H1 := Lib.hid (fun W (_ : Tb W) (_ : Ml W) => stageOf_good t hg (by omega) W)
  have H2 := Lib.hid (fun W => stageOf26_good t hg (by omega) W)
  have H3 := Lib.hid (fun W => mayStage_any m0 m1 d0 d1 g W)
  have H4 := Lib.hid (fun W => mayStage26_any m0 m1 d0 d1 g W)
  rw [hM] at H3 H4
  have hM2 : mayStB m1 m0 d1 d0 g = false := (mayStB_turn _ _ _ _ _).trans hM
  have H5 := Lib.hid (fun W (_ : Tb W) => StageText_no m0 m1 d0 d1 g hM W)
  have H6 := Lib.hid (fun W (_ : Tb W) => StageText_no m1 m0 d1 d0 g hM2 W)
  clear hM2
  have H9 := Lib.hid (fun W (_ : Tb W) => known26_any W)
  clear hg hM
  go_enter Tryd.func4, Tryd.ntmps4
  go_wp2_with (first | (go_at_call 10; ((with_reducible refine (H1.out _ inferInstance inferInstance).mono ?_); rintro _ _ ⟨rfl, g1, rfl⟩)) | (go_at_call 11; ((with_reducible refine (H2.out _).mono ?_); rintro _ _ ⟨rfl, g2, rfl⟩)))
  refine wp_region_grow (by kernel_rfl) (by kernel_rfl) ?_
  repeat (go_big_quiet_step ((first | (go_at_call 12; exact grow_call_same (num26_any _ _)) | (go_at_call 13; exact grow_call (H3.out _)) | (go_at_call 14; exact grow_call (H4.out _)))))
  refine wpQuiet_nil ?_
  intro g3
  go_wp2_with (first | (go_at_call 15; ((with_reducible refine (H5.out _ inferInstance).mono ?_); rintro _ _ ⟨rfl, g5, rfl⟩)) | (go_at_call 15; ((with_reducible refine (H6.out _ inferInstance).mono ?_); rintro _ _ ⟨rfl, g6, rfl⟩)) | (go_at_call 14; ((with_reducible refine (H4.out _).mono ?_); rintro _ _ ⟨rfl, g4, rfl⟩)) | (go_at_call 12; ((with_reducible refine (num26_any _ _).mono ?_); rintro _ _ ⟨rfl, rfl⟩)) | (go_at_call 9; ((with_reducible refine (H9.out _ inferInstance).mono ?_); rintro _ _ ⟨rfl, g9, rfl⟩)))
  go_ret
  exact ⟨rfl, by (refine Gr.of ?_; repeat (first | with_reducible exact Below.refl _ _ | with_reducible apply below_alloc | with_reducible refine below_set' ?_ _ | with_reducible refine below_trans ?_ (grown_below _ _) | with_reducible refine below_iter' ?_ _ _ | with_reducible apply Below.drew | with_reducible refine below_trans ?_ (by assumption)))⟩
set_option maxRecDepth 100000 in
set_option maxHeartbeats 4000000 in
theorem stages_poor_may (m0 m1 d0 d1 g : Nat) (t : ByteArray) (ht : t.size ≤ 20000) (hg : goodSt t = false) (hM : mayStB m0 m1 d0 d1 g = true) (w : World) [hk : Tb w] [hm : Ml w] : Calls Tryd.prog 4 #[.agg #[.int .i64 m0, .int .i64 m1, .int .i64 d0, .int .i64 d1, .int .i64 g], .string t] w fun e w' => e = .returned (.bool true) ∧ Gr w w' := by
  have H1 := Lib.hid (fun W (_ : Tb W) (_ : Ml W) => stageOf_poor t hg (by omega) W)
  have H2 := Lib.hid (fun W => stageOf26_poor t hg (by omega) W)
  have H3 := Lib.hid (fun W => mayStage_any m0 m1 d0 d1 g W)
  have H4 := Lib.hid (fun W => mayStage26_any m0 m1 d0 d1 g W)
  rw [hM] at H3 H4
  have hM2 : mayStB m1 m0 d1 d0 g = true := (mayStB_turn _ _ _ _ _).trans hM
  have H5 := Lib.hid (fun W (_ : Tb W) => StageText_yes m0 m1 d0 d1 g hM W)
  have H6 := Lib.hid (fun W (_ : Tb W) => StageText_yes m1 m0 d1 d0 g hM2 W)
  have H7 := Lib.hid (fun W => stageText26_any m0 m1 d0 d1 g (stBd_of hM) W)
  have H8 := Lib.hid (fun W => stageText26_any m1 m0 d1 d0 g (stBd_of hM2) W)
  clear hM2
  have H9 := Lib.hid (fun W (_ : Tb W) => known26_any W)
  clear hg hM
  go_enter Tryd.func4, Tryd.ntmps4
  go_wp2_with (first | (go_at_call 10; ((with_reducible refine (H1.out _ inferInstance inferInstance).mono ?_); rintro _ _ ⟨rfl, g1, rfl⟩)) | (go_at_call 11; ((with_reducible refine (H2.out _).mono ?_); rintro _ _ ⟨rfl, g2, rfl⟩)))
  refine wp_region_grow (by kernel_rfl) (by kernel_rfl) ?_
  repeat (go_big_quiet_step ((first | (go_at_call 12; exact grow_call_same (num26_any _ _)) | (go_at_call 13; exact grow_call (H3.out _)) | (go_at_call 14; exact grow_call (H4.out _)))))
  refine wpQuiet_nil ?_
  intro g3
  go_wp2_with (first | (go_at_call 15; ((with_reducible refine (H5.out _ inferInstance).mono ?_); rintro _ _ ⟨rfl, g5, rfl⟩)) | (go_at_call 15; ((with_reducible refine (H6.out _ inferInstance).mono ?_); rintro _ _ ⟨rfl, g6, rfl⟩)) | (go_at_call 14; ((with_reducible refine (H4.out _).mono ?_); rintro _ _ ⟨rfl, g4, rfl⟩)) | (go_at_call 12; ((with_reducible refine (num26_any _ _).mono ?_); rintro _ _ ⟨rfl, rfl⟩)) | (go_at_call 9; ((with_reducible refine (H9.out _ inferInstance).mono ?_); rintro _ _ ⟨rfl, g9, rfl⟩)) | (go_at_call 16; ((with_reducible refine (H7.out _).mono ?_); rintro _ _ ⟨rfl, g7, rfl⟩)) | (go_at_call 16; ((with_reducible refine (H8.out _).mono ?_); rintro _ _ ⟨rfl, g8, rfl⟩)))
  go_ret
  exact ⟨rfl, by (refine Gr.of ?_; repeat (first | with_reducible exact Below.refl _ _ | with_reducible apply below_alloc | with_reducible refine below_set' ?_ _ | with_reducible refine below_trans ?_ (grown_below _ _) | with_reducible refine below_iter' ?_ _ _ | with_reducible apply Below.drew | with_reducible refine below_trans ?_ (by assumption)))⟩
set_option maxRecDepth 100000 in
set_option maxHeartbeats 4000000 in
theorem stages_poor_not (m0 m1 d0 d1 g : Int) (t : ByteArray) (ht : t.size ≤ 20000) (hg : goodSt t = false) (hM : mayStB m0 m1 d0 d1 g = false) (w : World) [hk : Tb w] [hm : Ml w] : Calls Tryd.prog 4 #[.agg #[.int .i64 m0, .int .i64 m1, .int .i64 d0, .int .i64 d1, .int .i64 g], .string t] w fun e w' => e = .returned (.bool true) ∧ Gr w w' := by
  have H1 := Lib.hid (fun W (_ : Tb W) (_ : Ml W) => stageOf_poor t hg (by omega) W)
  have H2 := Lib.hid (fun W => stageOf26_poor t hg (by omega) W)
  have H3 := Lib.hid (fun W => mayStage_any m0 m1 d0 d1 g W)
  have H4 := Lib.hid (fun W => mayStage26_any m0 m1 d0 d1 g W)
  rw [hM] at H3 H4
  have hM2 : mayStB m1 m0 d1 d0 g = false := (mayStB_turn _ _ _ _ _).trans hM
  have H5 := Lib.hid (fun W (_ : Tb W) => StageText_no m0 m1 d0 d1 g hM W)
  have H6 := Lib.hid (fun W (_ : Tb W) => StageText_no m1 m0 d1 d0 g hM2 W)
  clear hM2
  have H9 := Lib.hid (fun W (_ : Tb W) => known26_any W)
  clear hg hM
  go_enter Tryd.func4, Tryd.ntmps4
  go_wp2_with (first | (go_at_call 10; ((with_reducible refine (H1.out _ inferInstance inferInstance).mono ?_); rintro _ _ ⟨rfl, g1, rfl⟩)) | (go_at_call 11; ((with_reducible refine (H2.out _).mono ?_); rintro _ _ ⟨rfl, g2, rfl⟩)))
  refine wp_region_grow (by kernel_rfl) (by kernel_rfl) ?_
  repeat (go_big_quiet_step ((first | (go_at_call 12; exact grow_call_same (num26_any _ _)) | (go_at_call 13; exact grow_call (H3.out _)) | (go_at_call 14; exact grow_call (H4.out _)))))
  refine wpQuiet_nil ?_
  intro g3
  go_wp2_with (first | (go_at_call 15; ((with_reducible refine (H5.out _ inferInstance).mono ?_); rintro _ _ ⟨rfl, g5, rfl⟩)) | (go_at_call 15; ((with_reducible refine (H6.out _ inferInstance).mono ?_); rintro _ _ ⟨rfl, g6, rfl⟩)) | (go_at_call 14; ((with_reducible refine (H4.out _).mono ?_); rintro _ _ ⟨rfl, g4, rfl⟩)) | (go_at_call 12; ((with_reducible refine (num26_any _ _).mono ?_); rintro _ _ ⟨rfl, rfl⟩)) | (go_at_call 9; ((with_reducible refine (H9.out _ inferInstance).mono ?_); rintro _ _ ⟨rfl, g9, rfl⟩)))
  go_ret
  exact ⟨rfl, by (refine Gr.of ?_; repeat (first | with_reducible exact Below.refl _ _ | with_reducible apply below_alloc | with_reducible refine below_set' ?_ _ | with_reducible refine below_trans ?_ (grown_below _ _) | with_reducible refine below_iter' ?_ _ _ | with_reducible apply Below.drew | with_reducible refine below_trans ?_ (by assumption)))⟩
theorem stages_walk (m0 m1 d0 d1 g : Int) (t : ByteArray) (w : World) [hk : Tb w] [hm : Ml w] : Calls Tryd.prog 4 #[.agg #[.int .i64 m0, .int .i64 m1, .int .i64 d0, .int .i64 d1, .int .i64 g], .string t] w fun e w' => e = .returned (.bool true) ∧ Gr w w' := by
  by_cases ht : t.size ≤ 20000
  · rcases Bool.eq_false_or_eq_true (goodSt t) with hg | hg
    · rcases Bool.eq_false_or_eq_true (mayStB m0 m1 d0 d1 g) with hM | hM
      · have h := mayStB_yes.1 hM
        obtain ⟨m0, rfl⟩ := Int.eq_ofNat_of_zero_le (by omega : 0 ≤ m0)
        obtain ⟨m1, rfl⟩ := Int.eq_ofNat_of_zero_le (by omega : 0 ≤ m1)
        obtain ⟨d0, rfl⟩ := Int.eq_ofNat_of_zero_le (by omega : 0 ≤ d0)
        obtain ⟨d1, rfl⟩ := Int.eq_ofNat_of_zero_le (by omega : 0 ≤ d1)
        obtain ⟨g, rfl⟩ := Int.eq_ofNat_of_zero_le (by omega : 0 ≤ g)
        exact stages_good_may m0 m1 d0 d1 g t ht hg hM w
      · exact stages_good_not m0 m1 d0 d1 g t ht hg hM w
    · rcases Bool.eq_false_or_eq_true (mayStB m0 m1 d0 d1 g) with hM | hM
      · have h := mayStB_yes.1 hM
        obtain ⟨m0, rfl⟩ := Int.eq_ofNat_of_zero_le (by omega : 0 ≤ m0)
        obtain ⟨m1, rfl⟩ := Int.eq_ofNat_of_zero_le (by omega : 0 ≤ m1)
        obtain ⟨d0, rfl⟩ := Int.eq_ofNat_of_zero_le (by omega : 0 ≤ d0)
        obtain ⟨d1, rfl⟩ := Int.eq_ofNat_of_zero_le (by omega : 0 ≤ d1)
        obtain ⟨g, rfl⟩ := Int.eq_ofNat_of_zero_le (by omega : 0 ≤ g)
        exact stages_poor_may m0 m1 d0 d1 g t ht hg hM w
      · exact stages_poor_not m0 m1 d0 d1 g t ht hg hM w
  · have H9 := Lib.hid (fun W (_ : Tb W) => known26_any W)
    have h2 : 20000 < t.size := by omega
    clear ht
    go_enter Tryd.func4, Tryd.ntmps4
    go_wp2_with (go_at_call 9; ((with_reducible refine (H9.out _ inferInstance).mono ?_); rintro _ _ ⟨rfl, g9, rfl⟩))
    go_ret
    exact ⟨rfl, by (refine Gr.of ?_; repeat (first | with_reducible exact Below.refl _ _ | with_reducible apply below_alloc | with_reducible refine below_set' ?_ _ | with_reducible refine below_trans ?_ (grown_below _ _) | with_reducible refine below_iter' ?_ _ _ | with_reducible apply Below.drew | with_reducible refine below_trans ?_ (by assumption)))⟩
end Go.Proofs.YtgjdgafoidppaaaDoor
