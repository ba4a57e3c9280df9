/- script.stageText, StageText; voileref26.StageText: a stage's words. Conditions: the numbers are a stage's that may be told; strconv's table stands. -/
import Derived.Test.YtgjdgafoidppaaaDoorSStg
import Derived.Test.YtgjdgafoidppaaaDoorSRf
namespace Go.Proofs.YtgjdgafoidppaaaDoor
open Go.RowKit
set_option linter.unusedVariables false
set_option linter.unusedSimpArgs false
set_option linter.unnecessarySimpa false
def stageWords (m0 m1 d0 d1 g : Int) : List ByteArray := [⟨#[115, 116, 97, 103, 101]⟩, ⟨(Lib.itoa m0).toArray⟩, ⟨(Lib.itoa d0).toArray⟩, ⟨(Lib.itoa m1).toArray⟩, ⟨(Lib.itoa d1).toArray⟩, ⟨(Lib.itoa g).toArray⟩]
def stageTextL (m0 m1 d0 d1 g : Int) : List UInt8 := Lib.join ((stageWords m0 m1 d0 d1 g).map (·.data.toList)) [32]
/-- Numbers that a stage may have. -/
structure StBd (m0 m1 d0 d1 g : Int) : Prop where
  is : 0 ≤ m0 ∧ m0 ≤ 1000000 ∧ 0 ≤ m1 ∧ m1 ≤ 1000000 ∧ 0 ≤ d0 ∧ d0 ≤ 1000000 ∧ 0 ≤ d1 ∧ d1 ≤ 1000000 ∧ 0 ≤ g ∧ g ≤ 1000000
theorem stageWords_len {m0 m1 d0 d1 g : Int} (b : StBd m0 m1 d0 d1 g) : (stageTextL m0 m1 d0 d1 g).length ≤ 1000 := by
  have h := b.is
  have i0 := itoa_len m0 (by omega) (by omega)
  have i1 := itoa_len m1 (by omega) (by omega)
  have i2 := itoa_len d0 (by omega) (by omega)
  have i3 := itoa_len d1 (by omega) (by omega)
  have i4 := itoa_len g (by omega) (by omega)
  have := join_len [32] rfl 21 ((stageWords m0 m1 d0 d1 g).map (·.data.toList)) (fun y hy => by
    simp only [stageWords, List.map_cons, List.map_nil, List.mem_cons, List.mem_nil_iff, or_false] at hy
    rcases hy with rfl | rfl | rfl | rfl | rfl | rfl
    all_goals (first | omega | (simp; done)))
  unfold stageTextL
  simp only [stageWords, List.length_map, List.length_cons, List.length_nil] at this ⊢
  omega
set_option maxRecDepth 100000 in
set_option maxHeartbeats 4000000 in
theorem stageText_any (m0 m1 d0 d1 g : Int) (b : StBd m0 m1 d0 d1 g) (w : World) [hk : Tb w] : Calls Tryd.prog 30 #[.agg #[.int .i64 m0, .int .i64 m1, .int .i64 d0, .int .i64 d1, .int .i64 g]] w fun e w' => e = .returned (.string ⟨(stageTextL m0 m1 d0 d1 g).toArray⟩) ∧ Gr w w' := by
  have hb := b.is
  have HJ := Lib.hid (stageWords_len b)
  have hle6 : 6 ≤ w.heap.size + 1 := Nat.le_succ_of_le hk.size
  go_enter Tryd.func30, Tryd.ntmps30
  go_wp2
  refine wp_loop_rounds 6 ?_
  rw [rounds_succ]
  go_wp2_with (go_at_call 56; ((with_reducible refine (itoa_any m0 (by omega) (by omega) _).mono ?_)))
  rintro _ _ ⟨rfl, g0, rfl⟩
  go_wp2_with (at_builtin; refine wp_append_strs rfl _ _ rfl (w.heap.size + 1) (.slice (some ⟨w.heap.size + 1, 0, none⟩) 1 1) ([⟨#[115, 116, 97, 103, 101]⟩] : List ByteArray) ?hs0 ?own0 _ [⟨(Lib.itoa m0).toArray⟩] 1 rfl rfl ?hc0 (by simp) ?hb0 ?_)
  case hs0 => rfl
  case own0 => repeat (first | with_reducible exact OwnS.new _ _ _ (Nat.le_refl _) | with_reducible refine OwnS.alloc_ ?_ _ | with_reducible refine OwnS.grown_ ?_ _)
  case hc0 =>
    intro j y hj
    match j, hj with
    | 0, hj => simp at hj; subst hj; simp [go_sem]
  case hb0 => exact Nat.succ_le_of_lt (inferInstance : Old w.heap.size _).lt
  intro v0 w0 a0
  haveI : Tb w0 := a0.tb hle6
  haveI : From w w0 := a0.from_ w
  haveI : Old w.heap.size w0 := a0.old _
  haveI : BlockAt w0 (w.heap.size + 1 + 1) #[.int .i64 m0, .int .i64 d0, .int .i64 m1, .int .i64 d1, .int .i64 g] 3 := a0.keep _ _ _ inferInstance (by decide)
  have c0 : w0.cell? ⟨w.heap.size + 1 + 1, 1, none⟩ = some (.int .i64 d0) := (block_cells _ _ _ _ _).trans rfl
  have hown0 := a0.own
  have hbw0 := a0.chain (a := w) (by repeat (first | with_reducible exact Below.refl _ _ | with_reducible apply below_alloc | with_reducible refine below_trans ?_ (grown_below _ _))) (Nat.le_succ _)
  clear a0
  simp only [List.cons_append, List.nil_append] at hown0
  go_wp2
  rw [rounds_succ]
  go_wp2_with (go_at_call 56; ((with_reducible refine (itoa_any d0 (by omega) (by omega) _).mono ?_)))
  rintro _ _ ⟨rfl, g1, rfl⟩
  go_wp2_with (at_builtin; refine wp_append_strs rfl _ _ rfl (w.heap.size + 1) v0 ([⟨#[115, 116, 97, 103, 101]⟩, ⟨(Lib.itoa m0).toArray⟩] : List ByteArray) ?hs1 ?own1 _ [⟨(Lib.itoa d0).toArray⟩] 1 rfl rfl ?hc1 (by simp) ?hb1 ?_)
  case hs1 => rfl
  case own1 => repeat (first | with_reducible exact hown0 | with_reducible refine OwnS.alloc_ ?_ _ | with_reducible refine OwnS.grown_ ?_ _)
  case hc1 =>
    intro j y hj
    match j, hj with
    | 0, hj => simp at hj; subst hj; simp [go_sem]
  case hb1 => exact Nat.succ_le_of_lt (inferInstance : Old w.heap.size _).lt
  intro v1 w1 a1
  haveI : Tb w1 := a1.tb hle6
  haveI : From w w1 := a1.from_ w
  haveI : Old w.heap.size w1 := a1.old _
  haveI : BlockAt w1 (w.heap.size + 1 + 1) #[.int .i64 m0, .int .i64 d0, .int .i64 m1, .int .i64 d1, .int .i64 g] 3 := a1.keep _ _ _ inferInstance (by decide)
  have c1 : w1.cell? ⟨w.heap.size + 1 + 1, 2, none⟩ = some (.int .i64 m1) := (block_cells _ _ _ _ _).trans rfl
  have hown1 := a1.own
  have hbw1 := a1.chain (a := w) (by repeat (first | with_reducible exact Below.refl _ _ | with_reducible apply below_alloc | with_reducible exact hbw0 | with_reducible refine below_trans ?_ (grown_below _ _))) (Nat.le_succ _)
  clear a1
  simp only [List.cons_append, List.nil_append] at hown1
  go_wp2
  rw [rounds_succ]
  go_wp2_with (go_at_call 56; ((with_reducible refine (itoa_any m1 (by omega) (by omega) _).mono ?_)))
  rintro _ _ ⟨rfl, g2, rfl⟩
  go_wp2_with (at_builtin; refine wp_append_strs rfl _ _ rfl (w.heap.size + 1) v1 ([⟨#[115, 116, 97, 103, 101]⟩, ⟨(Lib.itoa m0).toArray⟩, ⟨(Lib.itoa d0).toArray⟩] : List ByteArray) ?hs2 ?own2 _ [⟨(Lib.itoa m1).toArray⟩] 1 rfl rfl ?hc2 (by simp) ?hb2 ?_)
  case hs2 => rfl
  case own2 => repeat (first | with_reducible exact hown1 | with_reducible refine OwnS.alloc_ ?_ _ | with_reducible refine OwnS.grown_ ?_ _)
  case hc2 =>
    intro j y hj
    match j, hj with
    | 0, hj => simp at hj; subst hj; simp [go_sem]
  case hb2 => exact Nat.succ_le_of_lt (inferInstance : Old w.heap.size _).lt
  intro v2 w2 a2
  haveI : Tb w2 := a2.tb hle6
  haveI : From w w2 := a2.from_ w
  haveI : Old w.heap.size w2 := a2.old _
  haveI : BlockAt w2 (w.heap.size + 1 + 1) #[.int .i64 m0, .int .i64 d0, .int .i64 m1, .int .i64 d1, .int .i64 g] 3 := a2.keep _ _ _ inferInstance (by decide)
  have c2 : w2.cell? ⟨w.heap.size + 1 + 1, 3, none⟩ = some (.int .i64 d1) := (block_cells _ _ _ _ _).trans rfl
  have hown2 := a2.own
  have hbw2 := a2.chain (a := w) (by repeat (first | with_reducible exact Below.refl _ _ | with_reducible apply below_alloc | with_reducible exact hbw1 | with_reducible refine below_trans ?_ (grown_below _ _))) (Nat.le_succ _)
  clear a2
  simp only [List.cons_append, List.nil_append] at hown2
  go_wp2
  rw [rounds_succ]
  go_wp2_with (go_at_call 56; ((with_reducible refine (itoa_any d1 (by omega) (by omega) _).mono ?_)))
  rintro _ _ ⟨rfl, g3, rfl⟩
  go_wp2_with (at_builtin; refine wp_append_strs rfl _ _ rfl (w.heap.size + 1) v2 ([⟨#[115, 116, 97, 103, 101]⟩, ⟨(Lib.itoa m0).toArray⟩, ⟨(Lib.itoa d0).toArray⟩, ⟨(Lib.itoa m1).toArray⟩] : List ByteArray) ?hs3 ?own3 _ [⟨(Lib.itoa d1).toArray⟩] 1 rfl rfl ?hc3 (by simp) ?hb3 ?_)
  case hs3 => rfl
  case own3 => repeat (first | with_reducible exact hown2 | with_reducible refine OwnS.alloc_ ?_ _ | with_reducible refine OwnS.grown_ ?_ _)
  case hc3 =>
    intro j y hj
    match j, hj with
    | 0, hj => simp at hj; subst hj; simp [go_sem]
  case hb3 => exact Nat.succ_le_of_lt (inferInstance : Old w.heap.size _).lt
  intro v3 w3 a3
  haveI : Tb w3 := a3.tb hle6
  haveI : From w w3 := a3.from_ w
  haveI : Old w.heap.size w3 := a3.old _
  haveI : BlockAt w3 (w.heap.size + 1 + 1) #[.int .i64 m0, .int .i64 d0, .int .i64 m1, .int .i64 d1, .int .i64 g] 3 := a3.keep _ _ _ inferInstance (by decide)
  have c3 : w3.cell? ⟨w.heap.size + 1 + 1, 4, none⟩ = some (.int .i64 g) := (block_cells _ _ _ _ _).trans rfl
  have hown3 := a3.own
  have hbw3 := a3.chain (a := w) (by repeat (first | with_reducible exact Below.refl _ _ | with_reducible apply below_alloc | with_reducible exact hbw2 | with_reducible refine below_trans ?_ (grown_below _ _))) (Nat.le_succ _)
  clear a3
  simp only [List.cons_append, List.nil_append] at hown3
  go_wp2
  rw [rounds_succ]
  go_wp2_with (go_at_call 56; ((with_reducible refine (itoa_any g (by omega) (by omega) _).mono ?_)))
  rintro _ _ ⟨rfl, g4, rfl⟩
  go_wp2_with (at_builtin; refine wp_append_strs rfl _ _ rfl (w.heap.size + 1) v3 ([⟨#[115, 116, 97, 103, 101]⟩, ⟨(Lib.itoa m0).toArray⟩, ⟨(Lib.itoa d0).toArray⟩, ⟨(Lib.itoa m1).toArray⟩, ⟨(Lib.itoa d1).toArray⟩] : List ByteArray) ?hs4 ?own4 _ [⟨(Lib.itoa g).toArray⟩] 1 rfl rfl ?hc4 (by simp) ?hb4 ?_)
  case hs4 => rfl
  case own4 => repeat (first | with_reducible exact hown3 | with_reducible refine OwnS.alloc_ ?_ _ | with_reducible refine OwnS.grown_ ?_ _)
  case hc4 =>
    intro j y hj
    match j, hj with
    | 0, hj => simp at hj; subst hj; simp [go_sem]
  case hb4 => exact Nat.succ_le_of_lt (inferInstance : Old w.heap.size _).lt
  intro v4 w4 a4
  haveI : Tb w4 := a4.tb hle6
  haveI : From w w4 := a4.from_ w
  haveI : Old w.heap.size w4 := a4.old _
  haveI : BlockAt w4 (w.heap.size + 1 + 1) #[.int .i64 m0, .int .i64 d0, .int .i64 m1, .int .i64 d1, .int .i64 g] 3 := a4.keep _ _ _ inferInstance (by decide)
  have hown4 := a4.own
  have hbw4 := a4.chain (a := w) (by repeat (first | with_reducible exact Below.refl _ _ | with_reducible apply below_alloc | with_reducible exact hbw3 | with_reducible refine below_trans ?_ (grown_below _ _))) (Nat.le_succ _)
  clear a4
  simp only [List.cons_append, List.nil_append] at hown4
  go_wp2
  rw [rounds_succ]
  obtain ⟨VA, vc, hv, hvc, hrow⟩ := hown4.form
  subst hv
  have hvc2 : 6 ≤ vc := hvc
  clear hvc
  have HR := Lib.hid hrow; clear hrow hown4
  go_wp2_with (go_at_call 57; ((with_reducible refine (join_any VA 6 vc (stageWords m0 m1 d0 d1 g) _ _ rfl hvc2 (Nat.le_trans HJ.out (by omega)) (by omega) HR.out).mono ?_); rintro _ _ ⟨rfl, g9, rfl⟩))
  go_ret
  exact ⟨rfl, Gr.of (below_trans hbw4 (grown_below _ _))⟩
theorem stBd_of {m0 m1 d0 d1 g : Int} (h : mayStB m0 m1 d0 d1 g = true) : StBd m0 m1 d0 d1 g := ⟨by have := mayStB_yes.1 h; omega⟩
theorem StageText_yes (m0 m1 d0 d1 g : Int) (h : mayStB m0 m1 d0 d1 g = true) (w : World) [hk : Tb w] : Calls Tryd.prog 15 #[.agg #[.int .i64 m0, .int .i64 m1, .int .i64 d0, .int .i64 d1, .int .i64 g]] w fun e w' => e = .returned (.tuple #[.string ⟨(stageTextL m0 m1 d0 d1 g).toArray⟩, .int .i64 0]) ∧ Gr w w' := by
  have HM := Lib.hid (fun W => mayStage_any m0 m1 d0 d1 g W)
  rw [h] at HM
  have HT := Lib.hid (fun W (_ : Tb W) => stageText_any m0 m1 d0 d1 g (stBd_of h) W)
  clear h
  go_enter Tryd.func15, Tryd.ntmps15
  go_wp2_with (first | (go_at_call 13; ((with_reducible refine (HM.out _).mono ?_); rintro _ _ ⟨rfl, g1, rfl⟩)) | (go_at_call 30; ((with_reducible refine (HT.out _ inferInstance).mono ?_); rintro _ _ ⟨rfl, g2, rfl⟩)))
  go_ret2
  exact ⟨rfl, by (refine Gr.of ?_; repeat (first | with_reducible exact Below.refl _ _ | with_reducible apply below_alloc | with_reducible refine below_set' ?_ _ | with_reducible refine below_trans ?_ (grown_below _ _) | with_reducible refine below_iter' ?_ _ _ | with_reducible apply Below.drew | with_reducible refine below_trans ?_ (by assumption)))⟩
theorem StageText_no (m0 m1 d0 d1 g : Int) (h : mayStB m0 m1 d0 d1 g = false) (w : World) : Calls Tryd.prog 15 #[.agg #[.int .i64 m0, .int .i64 m1, .int .i64 d0, .int .i64 d1, .int .i64 g]] w fun e w' => e = .returned (.tuple #[.string ⟨#[]⟩, .int .i64 2]) ∧ Gr w w' := by
  have HM := Lib.hid (fun W => mayStage_any m0 m1 d0 d1 g W)
  rw [h] at HM
  clear h
  go_enter Tryd.func15, Tryd.ntmps15
  go_wp2_with ((go_at_call 13; ((with_reducible refine (HM.out _).mono ?_); rintro _ _ ⟨rfl, g1, rfl⟩)))
  go_ret2
  exact ⟨rfl, by (refine Gr.of ?_; repeat (first | with_reducible exact Below.refl _ _ | with_reducible apply below_alloc | with_reducible refine below_set' ?_ _ | with_reducible refine below_trans ?_ (grown_below _ _) | with_reducible refine below_iter' ?_ _ _ | with_reducible apply Below.drew | with_reducible refine below_trans ?_ (by assumption)))⟩
theorem stage26_text (m0 m1 d0 d1 g : Nat) : (⟨#[115, 116, 97, 103, 101, 32]⟩ ++ ⟨(Lib.decDigits m0).toArray⟩ ++ ⟨#[32]⟩ ++ ⟨(Lib.decDigits d0).toArray⟩ ++ ⟨#[32]⟩ ++ ⟨(Lib.decDigits m1).toArray⟩ ++ ⟨#[32]⟩ ++ ⟨(Lib.decDigits d1).toArray⟩ ++ ⟨#[32]⟩ ++ ⟨(Lib.decDigits g).toArray⟩ : ByteArray) = ⟨(stageTextL m0 m1 d0 d1 g).toArray⟩ := by
  apply ByteArray.ext
  simp [stageTextL, stageWords, Lib.itoa_nonneg, join_one, join_two]
set_option maxRecDepth 100000 in
set_option maxHeartbeats 4000000 in
theorem stageText26_any (m0 m1 d0 d1 g : Nat) (b : StBd m0 m1 d0 d1 g) (w : World) : Calls Tryd.prog 16 #[.agg #[.int .i64 m0, .int .i64 m1, .int .i64 d0, .int .i64 d1, .int .i64 g]] w fun e w' => e = .returned (.string ⟨(stageTextL m0 m1 d0 d1 g).toArray⟩) ∧ Gr w w' := by
  have hb := b.is
  have l0 := dec_len m0 (by omega)
  have l1 := dec_len m1 (by omega)
  have l2 := dec_len d0 (by omega)
  have l3 := dec_len d1 (by omega)
  have l4 := dec_len g (by omega)
  go_enter Tryd.func16, Tryd.ntmps16
  go_wp2
  refine wp_region_grow (by kernel_rfl) (by kernel_rfl) ?_
  repeat (go_big_quiet_step ((go_at_call 33; exact grow_call (text26_any _ (by omega) _))))
  refine wpQuiet_nil ?_
  intro g1
  go_wp2
  go_ret
  exact ⟨by rw [stage26_text]; rfl, by (refine Gr.of ?_; repeat (first | with_reducible exact Below.refl _ _ | with_reducible apply below_alloc | with_reducible refine below_set' ?_ _ | with_reducible refine below_trans ?_ (grown_below _ _) | with_reducible refine below_iter' ?_ _ _ | with_reducible apply Below.drew | with_reducible refine below_trans ?_ (by assumption)))⟩
end Go.Proofs.YtgjdgafoidppaaaDoor
