/- The loop of OperatorMeans. Conditions: none. -/
import Derived.Test.YtginaleekfljfaaRows
import Derived.Test.YtginaleekfljfaaLaw
import Derived.Test.YtginaleekfljfaaMeansC
import Derived.Test.YtginaleekfljfaaBit
import Derived.Deep.DeepCutAuto
import Derived.Deep.CutBlock
import Derived.Lib.Hide
import Derived.LoopTactic
import Derived.Outline
namespace Go.Proofs.Ytginaleekfljfaa
open Go.ChangeShapes Go.WideShapes Go.ChangeAt Go.RowKit Go.Deep
open Go.ChangeMaps (open_string shut_string)
set_option linter.unusedVariables false
set_option linter.unusedSimpArgs false
set_option linter.unnecessarySimpa false
namespace operatorMeans
/-- The two states' cells, and who leads. -/
structure Cells (wr : World) (bx bl : Nat) (e0 l0 s0 b0 q0 e1 l1 s1 b1 q1 : Int) (m0 m1 d0 d1 : Bool) : Prop where
  c0 : wr.cell? ⟨bx, 0, none⟩ = some (.int .u64 e0)
  c1 : wr.cell? ⟨bx, 1, none⟩ = some (.int .u64 l0)
  c2 : wr.cell? ⟨bx, 2, none⟩ = some (.int .u64 s0)
  c3 : wr.cell? ⟨bx, 3, none⟩ = some (.int .u64 b0)
  c4 : wr.cell? ⟨bx, 4, none⟩ = some (.int .u64 q0)
  c5 : wr.cell? ⟨bx, 5, none⟩ = some (.bool m0)
  c6 : wr.cell? ⟨bx, 6, none⟩ = some (.int .u64 e1)
  c7 : wr.cell? ⟨bx, 7, none⟩ = some (.int .u64 l1)
  c8 : wr.cell? ⟨bx, 8, none⟩ = some (.int .u64 s1)
  c9 : wr.cell? ⟨bx, 9, none⟩ = some (.int .u64 b1)
  c10 : wr.cell? ⟨bx, 10, none⟩ = some (.int .u64 q1)
  c11 : wr.cell? ⟨bx, 11, none⟩ = some (.bool m1)
  k0 : wr.cell? ⟨bl, 0, none⟩ = some (.bool d0)
  k1 : wr.cell? ⟨bl, 1, none⟩ = some (.bool d1)
  fx : ∀ o, wr.frozen? ⟨bx, o, none⟩ = false
  fl : ∀ o, wr.frozen? ⟨bl, o, none⟩ = false
/-- What holds at a round's head. -/
def Head (w : World) (bx bl len : Nat) (la i : Value) (wr : World) : Prop := ∃ (k : Nat) (e0 l0 s0 b0 q0 e1 l1 s1 b1 q1 z : Int) (m0 m1 d0 d1 : Bool), i = .int .i64 k ∧ la = .int .u64 z ∧ k ≤ len ∧ One k e0 l0 s0 b0 q0 ∧ One k e1 l1 s1 b1 q1 ∧ Two e0 e1 m0 m1 d0 d1 z ∧
  Cells wr bx bl e0 l0 s0 b0 q0 e1 l1 s1 b1 q1 m0 m1 d0 d1 ∧ Below w.heap.size w wr
/-- What holds behind a round's switch. -/
def Mid (w : World) (bx bl : Nat) (k : Nat) (la : Value) (wr : World) : Prop := ∃ (e0 l0 s0 b0 q0 e1 l1 s1 b1 q1 z : Int) (m0 m1 d0 d1 : Bool), la = .int .u64 z ∧ One (k + 1) e0 l0 s0 b0 q0 ∧ One (k + 1) e1 l1 s1 b1 q1 ∧ Two e0 e1 m0 m1 d0 d1 z ∧
  Cells wr bx bl e0 l0 s0 b0 q0 e1 l1 s1 b1 q1 m0 m1 d0 d1 ∧ Below w.heap.size w wr
set_option maxRecDepth 100000 in
set_option maxHeartbeats 2000000 in
theorem walk_nil (c : Nat) (w : World) :
    Calls Try.prog 8 #[.slice none 0 c] w fun e w' => e = .returned (.bool true) ∧ Gr w w' := by
  go_enter Try.func8, Try.ntmps8
  go_wp2_with (first | (go_at_call 15; ((with_reducible refine (known_any _).mono ?_); rintro _ _ ⟨rfl, g, rfl⟩)))
  refine wp_loop_rounds 1 ?_
  rw [rounds_succ]
  go_wp2
  go_ret
  exact ⟨rfl, by (refine Gr.of ?_; repeat (first | with_reducible exact Below.refl _ _ | with_reducible apply below_alloc | ((with_reducible refine below_set ?_ ?hq _); case hq => (first | omega | exact Nat.le_of_lt (grown_lt _ _ _) | assumption)) | with_reducible refine below_trans ?_ (grown_below _ _) | with_reducible apply Below.drew | with_reducible refine below_trans ?_ (by assumption)))⟩
set_option maxRecDepth 100000 in
set_option maxHeartbeats 20000000 in
theorem walk_some (lb lo len cap : Nat) (w : World) (hlen : len ≤ 200) (hc : ∀ i, i < len → ∃ kd wh : Int, w.cell? ⟨lb, lo + i * 2, none⟩ = some (.int .i64 kd) ∧ w.cell? ⟨lb, lo + i * 2 + 1, none⟩ = some (.int .i64 wh)) (hlb : lb < w.heap.size) :
    Calls Try.prog 8 #[.slice (some ⟨lb, lo, none⟩) len cap] w fun e w' => e = .returned (.bool true) ∧ Gr w w' := by
  have HC := Lib.hid hc; clear hc
  go_enter Try.func8, Try.ntmps8
  go_wp2_with (first | (go_at_call 15; ((with_reducible refine (known_any _).mono ?_); rintro _ _ ⟨rfl, g, rfl⟩)))
  have hg := grown_below w g
  generalize hWg : grown w g = W1 at *
  clear hWg
  have hle := hg.size
  go_loopw [5, 6] (fun la i wr => Head w W1.heap.size (W1.heap.size + 1) len la i wr) (fun _ i _ => len - (intOf i).toNat)
  case atStart =>
    refine ⟨0, 0, 0, 0, 0, 0, 0, 0, 0, 0, 0, 0, false, false, false, false, rfl, rfl, Nat.zero_le _, by simp [One], by simp [One], by simp [Two], ?_, ?_⟩
    · constructor <;> simp [go_sem]
    · repeat (first | with_reducible exact hg | with_reducible apply below_alloc)
  case round =>
    clear hg
    obtain ⟨k, e0, l0, s0, b0, q0, e1, l1, s1, b1, q1, z, m0, m1, d0, d1, rfl, rfl, hk, o0, o1, tw, cs, hb⟩ := hrel
    by_cases hlt : k < len
    · obtain ⟨kd, wh, hkd, hwh⟩ := HC.out k hlt
      have hkd' := (hb.cell (p := ⟨lb, lo + k * 2, none⟩) hlb).trans hkd
      have hwh' := (hb.cell (p := ⟨lb, lo + k * 2 + 1, none⟩) hlb).trans hwh
      clear hkd hwh hlb
      have hk200 : k ≤ 200 := by omega
      have hk201 : k + 1 ≤ 201 := by omega
      obtain ⟨c0, c1, c2, c3, c4, c5, c6, c7, c8, c9, c10, c11, k0, k1, fx, fl⟩ := cs
      haveI ix : Old W1.heap.size wr := old_of_cell c0
      haveI il : Old (W1.heap.size + 1) wr := old_of_cell k0
      rcases and_one_i64 wh with hw | hw
      · go_wp2_with (fail)
        go_region
        go_upto_block 2 with fail
        go_cut [5, 42] (fun la _ wx => Mid w W1.heap.size (W1.heap.size + 1) k la wx)
        case first =>
          by_cases h1 : kd = 1
          · as_aux_lemma =>
              cases m1
              · obtain ⟨n, n0, n1, n2, HP0⟩ := promote_ok m0 o0 o1 hk200
                have HP := Lib.hid HP0; clear HP0
                have nz : z < n := by obtain ⟨_, _, _, _, h5, _⟩ := tw; omega
                cases d0
                · go_wp2_with (fail)
                  refine wp_region_grow (by kernel_rfl) (by kernel_rfl) ?_
                  repeat (go_big_quiet_step ((first | (go_at_call 12; exact grow_call (HP.out _)))))
                  refine wpQuiet_nil ?_
                  intro gr
                  go_wp2_with (first | (go_at_call 13; ((with_reducible refine (num_any _ _).mono ?_); rintro _ _ ⟨rfl, rfl⟩)) | (go_at_call 22; ((with_reducible refine (leads_any _ _ _ _ _ _ _ _).mono ?_); rintro _ _ ⟨rfl, g, rfl⟩)))
                  go_meet
                  case rel =>
                    exact ⟨n, l0, s0, l0, s0, e1, l1, s1, b1, q1, n, _, _, _, _, rfl, (o0.leads (by omega) (by omega)), o1.mono, (tw).promote (by omega) (by omega), (by constructor <;> simp [go_sem, c0, c1, c2, c3, c4, c5, c6, c7, c8, c9, c10, c11, k0, k1, fx, fl]), (by (repeat (first | with_reducible exact hb | with_reducible apply below_alloc | ((with_reducible refine below_set ?_ ?hq _); case hq => omega) | with_reducible refine below_trans ?_ (grown_below _ _) | with_reducible apply Below.drew)))⟩
                · go_wp2_with (fail)
                  refine wp_region_grow (by kernel_rfl) (by kernel_rfl) ?_
                  repeat (go_big_quiet_step ((first | (go_at_call 12; exact grow_call (HP.out _)))))
                  refine wpQuiet_nil ?_
                  intro gr
                  go_wp2_with (first | (go_at_call 13; ((with_reducible refine (num_any _ _).mono ?_); rintro _ _ ⟨rfl, rfl⟩)))
                  go_roundw
                  case rel => exact ⟨k + 1, e0, l0, s0, b0, q0, e1, l1, s1, b1, q1, z, _, _, _, _, by go_num, rfl, by omega, o0.mono, o1.mono, tw, (by constructor <;> simp [go_sem, c0, c1, c2, c3, c4, c5, c6, c7, c8, c9, c10, c11, k0, k1, fx, fl]), (by (repeat (first | with_reducible exact hb | with_reducible apply below_alloc | ((with_reducible refine below_set ?_ ?hq _); case hq => omega) | with_reducible refine below_trans ?_ (grown_below _ _) | with_reducible apply Below.drew)))⟩
                  case measure => simp [intOf]; omega
              · have HP0 := promote_no m0 o0 o1 hk200
                have HP := Lib.hid HP0; clear HP0
                go_wp2_with (fail)
                refine wp_region_grow (by kernel_rfl) (by kernel_rfl) ?_
                repeat (go_big_quiet_step ((first | (go_at_call 12; exact grow_call (HP.out _)))))
                refine wpQuiet_nil ?_
                intro gr
                go_wp2_with (first | (go_at_call 13; ((with_reducible refine (num_any _ _).mono ?_); rintro _ _ ⟨rfl, rfl⟩)))
                go_roundw
                case rel => exact ⟨k + 1, e0, l0, s0, b0, q0, e1, l1, s1, b1, q1, z, _, _, _, _, by go_num, rfl, by omega, o0.mono, o1.mono, tw, (by constructor <;> simp [go_sem, c0, c1, c2, c3, c4, c5, c6, c7, c8, c9, c10, c11, k0, k1, fx, fl]), (by (repeat (first | with_reducible exact hb | with_reducible apply below_alloc | ((with_reducible refine below_set ?_ ?hq _); case hq => omega) | with_reducible refine below_trans ?_ (grown_below _ _) | with_reducible apply Below.drew)))⟩
                case measure => simp [intOf]; omega
          · by_cases h2 : kd = 2
            · as_aux_lemma =>
                cases d0
                · obtain ⟨n, n0, HD0⟩ := degrade_no m0 m1 o0 o1 hk200 (d := false) (.inl rfl)
                  have HD := Lib.hid HD0; clear HD0
                  go_wp2_with (fail)
                  refine wp_region_grow (by kernel_rfl) (by kernel_rfl) ?_
                  repeat (go_big_quiet_step ((first | (go_at_call 14; exact grow_call (HD.out _)) | (go_at_call 13; exact grow_call_same (num_any _ _)))))
                  refine wpQuiet_nil ?_
                  intro gr
                  go_wp2_with (fail)
                  go_meet
                  case rel =>
                    exact ⟨e0, l0, s0, b0, q0, e1, l1, s1, b1, q1, z, _, _, _, _, rfl, o0.mono, o1.mono, tw, (by constructor <;> simp [go_sem, c0, c1, c2, c3, c4, c5, c6, c7, c8, c9, c10, c11, k0, k1, fx, fl]), (by (repeat (first | with_reducible exact hb | with_reducible apply below_alloc | ((with_reducible refine below_set ?_ ?hq _); case hq => omega) | with_reducible refine below_trans ?_ (grown_below _ _) | with_reducible apply Below.drew)))⟩
                · cases m0
                  · by_cases hle2 : e1 ≤ e0
                    · have HD0 := degrade_yes m1 o0 o1 hk200 hle2
                      have HD := Lib.hid HD0; clear HD0
                      go_wp2_with (fail)
                      refine wp_region_grow (by kernel_rfl) (by kernel_rfl) ?_
                      repeat (go_big_quiet_step ((first | (go_at_call 14; exact grow_call (HD.out _)) | (go_at_call 13; exact grow_call_same (num_any _ _)))))
                      refine wpQuiet_nil ?_
                      intro gr
                      go_wp2_with (go_at_call 24; ((with_reducible refine (marks_any _ _ _ _ _ _ _ _).mono ?_); rintro _ _ ⟨rfl, g, rfl⟩))
                      go_meet
                      case rel =>
                        exact ⟨e0, l0, s0, b0, q0, e1, l1, s1, b1, q1, z, _, _, _, _, rfl, o0.mono, o1.mono, (tw).mark hle2, (by constructor <;> simp [go_sem, c0, c1, c2, c3, c4, c5, c6, c7, c8, c9, c10, c11, k0, k1, fx, fl]), (by (repeat (first | with_reducible exact hb | with_reducible apply below_alloc | ((with_reducible refine below_set ?_ ?hq _); case hq => omega) | with_reducible refine below_trans ?_ (grown_below _ _) | with_reducible apply Below.drew)))⟩
                    · obtain ⟨n, n0, HD0⟩ := degrade_no false m1 o0 o1 hk200 (d := true) (.inr (.inr (by omega)))
                      have HD := Lib.hid HD0; clear HD0
                      go_wp2_with (fail)
                      refine wp_region_grow (by kernel_rfl) (by kernel_rfl) ?_
                      repeat (go_big_quiet_step ((first | (go_at_call 14; exact grow_call (HD.out _)) | (go_at_call 13; exact grow_call_same (num_any _ _)))))
                      refine wpQuiet_nil ?_
                      intro gr
                      go_wp2_with (fail)
                      go_meet
                      case rel =>
                        exact ⟨e0, l0, s0, b0, q0, e1, l1, s1, b1, q1, z, _, _, _, _, rfl, o0.mono, o1.mono, tw, (by constructor <;> simp [go_sem, c0, c1, c2, c3, c4, c5, c6, c7, c8, c9, c10, c11, k0, k1, fx, fl]), (by (repeat (first | with_reducible exact hb | with_reducible apply below_alloc | ((with_reducible refine below_set ?_ ?hq _); case hq => omega) | with_reducible refine below_trans ?_ (grown_below _ _) | with_reducible apply Below.drew)))⟩
                  · obtain ⟨n, n0, HD0⟩ := degrade_no true m1 o0 o1 hk200 (d := true) (.inr (.inl rfl))
                    have HD := Lib.hid HD0; clear HD0
                    go_wp2_with (fail)
                    refine wp_region_grow (by kernel_rfl) (by kernel_rfl) ?_
                    repeat (go_big_quiet_step ((first | (go_at_call 14; exact grow_call (HD.out _)) | (go_at_call 13; exact grow_call_same (num_any _ _)))))
                    refine wpQuiet_nil ?_
                    intro gr
                    go_wp2_with (fail)
                    go_meet
                    case rel =>
                      exact ⟨e0, l0, s0, b0, q0, e1, l1, s1, b1, q1, z, _, _, _, _, rfl, o0.mono, o1.mono, tw, (by constructor <;> simp [go_sem, c0, c1, c2, c3, c4, c5, c6, c7, c8, c9, c10, c11, k0, k1, fx, fl]), (by (repeat (first | with_reducible exact hb | with_reducible apply below_alloc | ((with_reducible refine below_set ?_ ?hq _); case hq => omega) | with_reducible refine below_trans ?_ (grown_below _ _) | with_reducible apply Below.drew)))⟩
            · by_cases h3 : kd = 3
              · as_aux_lemma =>
                  go_wp2_with (fail)
                  go_meet
                  case rel =>
                    exact ⟨e0, l0, s0, b0, q0, e1, l1, s1, b1, q1, z, _, _, _, _, rfl, o0.mono, o1.mono, (tw).stop, (by constructor <;> simp [go_sem, c0, c1, c2, c3, c4, c5, c6, c7, c8, c9, c10, c11, k0, k1, fx, fl]), (by (repeat (first | with_reducible exact hb | with_reducible apply below_alloc | ((with_reducible refine below_set ?_ ?hq _); case hq => omega) | with_reducible refine below_trans ?_ (grown_below _ _) | with_reducible apply Below.drew)))⟩
              · by_cases h4 : kd = 4
                · as_aux_lemma =>
                    cases d0
                    · go_wp2_with (fail)
                      go_meet
                      case rel =>
                        exact ⟨e0, l0, s0, b0, q0, e1, l1, s1, b1, q1, z, _, _, _, _, rfl, o0.mono, o1.mono, tw, (by constructor <;> simp [go_sem, c0, c1, c2, c3, c4, c5, c6, c7, c8, c9, c10, c11, k0, k1, fx, fl]), (by (repeat (first | with_reducible exact hb | with_reducible apply below_alloc | ((with_reducible refine below_set ?_ ?hq _); case hq => omega) | with_reducible refine below_trans ?_ (grown_below _ _) | with_reducible apply Below.drew)))⟩
                    · have hs0 : 0 ≤ s0 := by obtain ⟨_, _, _, _, _, h6, h7, _⟩ := o0; exact h6
                      have hs1 : s0 ≤ 200 := by obtain ⟨_, _, _, _, _, h6, h7, _⟩ := o0; omega
                      go_wp2_with (go_at_call 20; ((with_reducible refine (next_any _ _ _ _ _ _ _).mono ?_); rintro _ _ ⟨rfl, g, rfl⟩))
                      go_meet
                      case rel =>
                        exact ⟨e0, e0, (s0 + 1), b0, q0, e1, l1, s1, b1, q1, z, _, _, _, _, rfl, o0.next, o1.mono, tw, (by constructor <;> simp [go_sem, c0, c1, c2, c3, c4, c5, c6, c7, c8, c9, c10, c11, k0, k1, fx, fl]), (by (repeat (first | with_reducible exact hb | with_reducible apply below_alloc | ((with_reducible refine below_set ?_ ?hq _); case hq => omega) | with_reducible refine below_trans ?_ (grown_below _ _) | with_reducible apply Below.drew)))⟩
                · by_cases h5 : kd = 5
                  · cases d0
                    · as_aux_lemma =>
                        go_wp2_with (fail)
                        refine wp_region_grow (by kernel_rfl) (by kernel_rfl) ?_
                        repeat (go_big_quiet_step (fail))
                        refine wpQuiet_nil ?_
                        intro gr
                        go_wp2_with (fail)
                        go_meet
                        case rel =>
                          exact ⟨e0, l0, s0, b0, q0, e1, l1, s1, b1, q1, z, _, _, _, _, rfl, o0.mono, o1.mono, tw, (by constructor <;> simp [go_sem, c0, c1, c2, c3, c4, c5, c6, c7, c8, c9, c10, c11, k0, k1, fx, fl]), (by (repeat (first | with_reducible exact hb | with_reducible apply below_alloc | ((with_reducible refine below_set ?_ ?hq _); case hq => omega) | with_reducible refine below_trans ?_ (grown_below _ _) | with_reducible apply Below.drew)))⟩
                    · by_cases hle2 : e1 ≤ e0
                      · go_wp2_with (fail)
                        refine wp_region_grow (by kernel_rfl) (by kernel_rfl) ?_
                        repeat (go_big_quiet_step (fail))
                        refine wpQuiet_nil ?_
                        intro gr
                        go_wp2_with (fail)
                        refine wp_region_grow_tail 14 (by kernel_rfl) (by kernel_rfl) ?_
                        simp only [List.take_succ_cons, List.take_zero, List.drop_succ_cons, List.drop_zero]
                        repeat (go_big_quiet_step ((first | (go_at_call 18; exact grow_call (name_any _ _ _ _ _ _ _)) | (go_at_call 23; exact grow_call (ended_any _ _ _ _ _ _ _ _ _ _)))))
                        refine wpQuiet_nil ?_
                        intro gt
                        go_wp2_with (first | (go_at_call 21; ((with_reducible refine (rebased_any _ _ _ _ _ _ _).mono ?_); rintro _ _ ⟨rfl, g, rfl⟩)) | (go_at_call 24; ((with_reducible refine (marks_any _ _ _ _ _ _ _ _).mono ?_); rintro _ _ ⟨rfl, g, rfl⟩)))
                        go_meet
                        case rel =>
                          exact ⟨e0, l0, s0, l0, s0, e0, l0, s0, l0, s0, z, _, _, _, _, rfl, o0.ended, o0.ended, (tw).joined hle2, (by constructor <;> simp [go_sem, c0, c1, c2, c3, c4, c5, c6, c7, c8, c9, c10, c11, k0, k1, fx, fl]), (by (repeat (first | with_reducible exact hb | with_reducible apply below_alloc | ((with_reducible refine below_set ?_ ?hq _); case hq => omega) | with_reducible refine below_trans ?_ (grown_below _ _) | with_reducible apply Below.drew)))⟩
                      · as_aux_lemma =>
                          have hle3 : e0 < e1 := by omega
                          go_wp2_with (fail)
                          refine wp_region_grow (by kernel_rfl) (by kernel_rfl) ?_
                          repeat (go_big_quiet_step (fail))
                          refine wpQuiet_nil ?_
                          intro gr
                          go_wp2_with (fail)
                          go_meet
                          case rel =>
                            exact ⟨e0, l0, s0, b0, q0, e1, l1, s1, b1, q1, z, _, _, _, _, rfl, o0.mono, o1.mono, tw, (by constructor <;> simp [go_sem, c0, c1, c2, c3, c4, c5, c6, c7, c8, c9, c10, c11, k0, k1, fx, fl]), (by (repeat (first | with_reducible exact hb | with_reducible apply below_alloc | ((with_reducible refine below_set ?_ ?hq _); case hq => omega) | with_reducible refine below_trans ?_ (grown_below _ _) | with_reducible apply Below.drew)))⟩
                  · as_aux_lemma =>
                      go_wp2_with (fail)
                      go_meet
                      case rel =>
                        exact ⟨e0, l0, s0, b0, q0, e1, l1, s1, b1, q1, z, _, _, _, _, rfl, o0.mono, o1.mono, tw, (by constructor <;> simp [go_sem, c0, c1, c2, c3, c4, c5, c6, c7, c8, c9, c10, c11, k0, k1, fx, fl]), (by (repeat (first | with_reducible exact hb | with_reducible apply below_alloc | ((with_reducible refine below_set ?_ ?hq _); case hq => omega) | with_reducible refine below_trans ?_ (grown_below _ _) | with_reducible apply Below.drew)))⟩
        case rest =>
          obtain ⟨e0, l0, s0, b0, q0, e1, l1, s1, b1, q1, z, m0, m1, d0, d1, rfl, o0, o1, tw, cs, hb⟩ := hcut
          obtain ⟨c0, c1, c2, c3, c4, c5, c6, c7, c8, c9, c10, c11, k0, k1, fx, fl⟩ := cs
          haveI ix : Old W1.heap.size wc := old_of_cell c0
          haveI il : Old (W1.heap.size + 1) wc := old_of_cell k0
          obtain ⟨n, hn, hm1, hm0, HB0⟩ := choose_ok o0 o1 tw hk201
          have HB := Lib.hid HB0; clear HB0
          have HM0 := may_ok o0 hk201 m0
          have HM := Lib.hid HM0; clear HM0
          have HN0 := may_ok o1 hk201 m1
          have HN := Lib.hid HN0; clear HN0
          rcases hn with rfl | rfl
          · have hm1 : m1 = false := hm1 rfl
            subst hm1
            cases m0
            · as_aux_lemma =>
                go_wp2_with (first | (go_at_call 31; ((with_reducible refine (HM.out _).mono ?_); rintro _ _ ⟨rfl, g, rfl⟩)) | (go_at_call 31; ((with_reducible refine (HN.out _).mono ?_); rintro _ _ ⟨rfl, g, rfl⟩)) | (go_at_call 28; ((with_reducible refine (HB.out _).mono ?_); rintro _ _ ⟨rfl, g, rfl⟩)))
                go_roundw
                case rel => exact ⟨k + 1, e0, l0, s0, b0, q0, e1, l1, s1, b1, q1, z, _, _, _, _, by go_num, rfl, by omega, o0, o1, tw, (by constructor <;> simp [go_sem, c0, c1, c2, c3, c4, c5, c6, c7, c8, c9, c10, c11, k0, k1, fx, fl]), (by (repeat (first | with_reducible exact hb | with_reducible apply below_alloc | ((with_reducible refine below_set ?_ ?hq _); case hq => omega) | with_reducible refine below_trans ?_ (grown_below _ _) | with_reducible apply Below.drew)))⟩
                case measure => simp [intOf]; omega
            · as_aux_lemma =>
                go_wp2_with (first | (go_at_call 31; ((with_reducible refine (HM.out _).mono ?_); rintro _ _ ⟨rfl, g, rfl⟩)) | (go_at_call 31; ((with_reducible refine (HN.out _).mono ?_); rintro _ _ ⟨rfl, g, rfl⟩)) | (go_at_call 28; ((with_reducible refine (HB.out _).mono ?_); rintro _ _ ⟨rfl, g, rfl⟩)))
                go_roundw
                case rel => exact ⟨k + 1, e0, l0, s0, b0, q0, e1, l1, s1, b1, q1, z, _, _, _, _, by go_num, rfl, by omega, o0, o1, tw, (by constructor <;> simp [go_sem, c0, c1, c2, c3, c4, c5, c6, c7, c8, c9, c10, c11, k0, k1, fx, fl]), (by (repeat (first | with_reducible exact hb | with_reducible apply below_alloc | ((with_reducible refine below_set ?_ ?hq _); case hq => omega) | with_reducible refine below_trans ?_ (grown_below _ _) | with_reducible apply Below.drew)))⟩
                case measure => simp [intOf]; omega
          · have hm0 : m0 = false := hm0 rfl
            subst hm0
            as_aux_lemma =>
              go_wp2_with (first | (go_at_call 31; ((with_reducible refine (HM.out _).mono ?_); rintro _ _ ⟨rfl, g, rfl⟩)) | (go_at_call 31; ((with_reducible refine (HN.out _).mono ?_); rintro _ _ ⟨rfl, g, rfl⟩)) | (go_at_call 28; ((with_reducible refine (HB.out _).mono ?_); rintro _ _ ⟨rfl, g, rfl⟩)))
              go_roundw
              case rel => exact ⟨k + 1, e0, l0, s0, b0, q0, e1, l1, s1, b1, q1, z, _, _, _, _, by go_num, rfl, by omega, o0, o1, tw, (by constructor <;> simp [go_sem, c0, c1, c2, c3, c4, c5, c6, c7, c8, c9, c10, c11, k0, k1, fx, fl]), (by (repeat (first | with_reducible exact hb | with_reducible apply below_alloc | ((with_reducible refine below_set ?_ ?hq _); case hq => omega) | with_reducible refine below_trans ?_ (grown_below _ _) | with_reducible apply Below.drew)))⟩
              case measure => simp [intOf]; omega
      · go_wp2_with (fail)
        go_region
        go_upto_block 2 with fail
        go_cut [5, 42] (fun la _ wx => Mid w W1.heap.size (W1.heap.size + 1) k la wx)
        case first =>
          by_cases h1 : kd = 1
          · as_aux_lemma =>
              cases m0
              · obtain ⟨n, n0, n1, n2, HP0⟩ := promote_ok m1 o1 o0 hk200
                have HP := Lib.hid HP0; clear HP0
                have nz : z < n := by obtain ⟨_, _, _, _, h5, _⟩ := tw; omega
                cases d1
                · go_wp2_with (fail)
                  refine wp_region_grow (by kernel_rfl) (by kernel_rfl) ?_
                  repeat (go_big_quiet_step ((first | (go_at_call 12; exact grow_call (HP.out _)))))
                  refine wpQuiet_nil ?_
                  intro gr
                  go_wp2_with (first | (go_at_call 13; ((with_reducible refine (num_any _ _).mono ?_); rintro _ _ ⟨rfl, rfl⟩)) | (go_at_call 22; ((with_reducible refine (leads_any _ _ _ _ _ _ _ _).mono ?_); rintro _ _ ⟨rfl, g, rfl⟩)))
                  go_meet
                  case rel =>
                    exact ⟨e0, l0, s0, b0, q0, n, l1, s1, l1, s1, n, _, _, _, _, rfl, o0.mono, (o1.leads (by omega) (by omega)), ((tw.swap).promote (by omega) (by omega)).swap, (by constructor <;> simp [go_sem, c0, c1, c2, c3, c4, c5, c6, c7, c8, c9, c10, c11, k0, k1, fx, fl]), (by (repeat (first | with_reducible exact hb | with_reducible apply below_alloc | ((with_reducible refine below_set ?_ ?hq _); case hq => omega) | with_reducible refine below_trans ?_ (grown_below _ _) | with_reducible apply Below.drew)))⟩
                · go_wp2_with (fail)
                  refine wp_region_grow (by kernel_rfl) (by kernel_rfl) ?_
                  repeat (go_big_quiet_step ((first | (go_at_call 12; exact grow_call (HP.out _)))))
                  refine wpQuiet_nil ?_
                  intro gr
                  go_wp2_with (first | (go_at_call 13; ((with_reducible refine (num_any _ _).mono ?_); rintro _ _ ⟨rfl, rfl⟩)))
                  go_roundw
                  case rel => exact ⟨k + 1, e0, l0, s0, b0, q0, e1, l1, s1, b1, q1, z, _, _, _, _, by go_num, rfl, by omega, o0.mono, o1.mono, tw, (by constructor <;> simp [go_sem, c0, c1, c2, c3, c4, c5, c6, c7, c8, c9, c10, c11, k0, k1, fx, fl]), (by (repeat (first | with_reducible exact hb | with_reducible apply below_alloc | ((with_reducible refine below_set ?_ ?hq _); case hq => omega) | with_reducible refine below_trans ?_ (grown_below _ _) | with_reducible apply Below.drew)))⟩
                  case measure => simp [intOf]; omega
              · have HP0 := promote_no m1 o1 o0 hk200
                have HP := Lib.hid HP0; clear HP0
                go_wp2_with (fail)
                refine wp_region_grow (by kernel_rfl) (by kernel_rfl) ?_
                repeat (go_big_quiet_step ((first | (go_at_call 12; exact grow_call (HP.out _)))))
                refine wpQuiet_nil ?_
                intro gr
                go_wp2_with (first | (go_at_call 13; ((with_reducible refine (num_any _ _).mono ?_); rintro _ _ ⟨rfl, rfl⟩)))
                go_roundw
                case rel => exact ⟨k + 1, e0, l0, s0, b0, q0, e1, l1, s1, b1, q1, z, _, _, _, _, by go_num, rfl, by omega, o0.mono, o1.mono, tw, (by constructor <;> simp [go_sem, c0, c1, c2, c3, c4, c5, c6, c7, c8, c9, c10, c11, k0, k1, fx, fl]), (by (repeat (first | with_reducible exact hb | with_reducible apply below_alloc | ((with_reducible refine below_set ?_ ?hq _); case hq => omega) | with_reducible refine below_trans ?_ (grown_below _ _) | with_reducible apply Below.drew)))⟩
                case measure => simp [intOf]; omega
          · by_cases h2 : kd = 2
            · as_aux_lemma =>
                cases d1
                · obtain ⟨n, n0, HD0⟩ := degrade_no m1 m0 o1 o0 hk200 (d := false) (.inl rfl)
                  have HD := Lib.hid HD0; clear HD0
                  go_wp2_with (fail)
                  refine wp_region_grow (by kernel_rfl) (by kernel_rfl) ?_
                  repeat (go_big_quiet_step ((first | (go_at_call 14; exact grow_call (HD.out _)) | (go_at_call 13; exact grow_call_same (num_any _ _)))))
                  refine wpQuiet_nil ?_
                  intro gr
                  go_wp2_with (fail)
                  go_meet
                  case rel =>
                    exact ⟨e0, l0, s0, b0, q0, e1, l1, s1, b1, q1, z, _, _, _, _, rfl, o0.mono, o1.mono, (tw.swap).swap, (by constructor <;> simp [go_sem, c0, c1, c2, c3, c4, c5, c6, c7, c8, c9, c10, c11, k0, k1, fx, fl]), (by (repeat (first | with_reducible exact hb | with_reducible apply below_alloc | ((with_reducible refine below_set ?_ ?hq _); case hq => omega) | with_reducible refine below_trans ?_ (grown_below _ _) | with_reducible apply Below.drew)))⟩
                · cases m1
                  · by_cases hle2 : e0 ≤ e1
                    · have HD0 := degrade_yes m0 o1 o0 hk200 hle2
                      have HD := Lib.hid HD0; clear HD0
                      go_wp2_with (fail)
                      refine wp_region_grow (by kernel_rfl) (by kernel_rfl) ?_
                      repeat (go_big_quiet_step ((first | (go_at_call 14; exact grow_call (HD.out _)) | (go_at_call 13; exact grow_call_same (num_any _ _)))))
                      refine wpQuiet_nil ?_
                      intro gr
                      go_wp2_with (go_at_call 24; ((with_reducible refine (marks_any _ _ _ _ _ _ _ _).mono ?_); rintro _ _ ⟨rfl, g, rfl⟩))
                      go_meet
                      case rel =>
                        exact ⟨e0, l0, s0, b0, q0, e1, l1, s1, b1, q1, z, _, _, _, _, rfl, o0.mono, o1.mono, ((tw.swap).mark hle2).swap, (by constructor <;> simp [go_sem, c0, c1, c2, c3, c4, c5, c6, c7, c8, c9, c10, c11, k0, k1, fx, fl]), (by (repeat (first | with_reducible exact hb | with_reducible apply below_alloc | ((with_reducible refine below_set ?_ ?hq _); case hq => omega) | with_reducible refine below_trans ?_ (grown_below _ _) | with_reducible apply Below.drew)))⟩
                    · obtain ⟨n, n0, HD0⟩ := degrade_no false m0 o1 o0 hk200 (d := true) (.inr (.inr (by omega)))
                      have HD := Lib.hid HD0; clear HD0
                      go_wp2_with (fail)
                      refine wp_region_grow (by kernel_rfl) (by kernel_rfl) ?_
                      repeat (go_big_quiet_step ((first | (go_at_call 14; exact grow_call (HD.out _)) | (go_at_call 13; exact grow_call_same (num_any _ _)))))
                      refine wpQuiet_nil ?_
                      intro gr
                      go_wp2_with (fail)
                      go_meet
                      case rel =>
                        exact ⟨e0, l0, s0, b0, q0, e1, l1, s1, b1, q1, z, _, _, _, _, rfl, o0.mono, o1.mono, (tw.swap).swap, (by constructor <;> simp [go_sem, c0, c1, c2, c3, c4, c5, c6, c7, c8, c9, c10, c11, k0, k1, fx, fl]), (by (repeat (first | with_reducible exact hb | with_reducible apply below_alloc | ((with_reducible refine below_set ?_ ?hq _); case hq => omega) | with_reducible refine below_trans ?_ (grown_below _ _) | with_reducible apply Below.drew)))⟩
                  · obtain ⟨n, n0, HD0⟩ := degrade_no true m0 o1 o0 hk200 (d := true) (.inr (.inl rfl))
                    have HD := Lib.hid HD0; clear HD0
                    go_wp2_with (fail)
                    refine wp_region_grow (by kernel_rfl) (by kernel_rfl) ?_
                    repeat (go_big_quiet_step ((first | (go_at_call 14; exact grow_call (HD.out _)) | (go_at_call 13; exact grow_call_same (num_any _ _)))))
                    refine wpQuiet_nil ?_
                    intro gr
                    go_wp2_with (fail)
                    go_meet
                    case rel =>
                      exact ⟨e0, l0, s0, b0, q0, e1, l1, s1, b1, q1, z, _, _, _, _, rfl, o0.mono, o1.mono, (tw.swap).swap, (by constructor <;> simp [go_sem, c0, c1, c2, c3, c4, c5, c6, c7, c8, c9, c10, c11, k0, k1, fx, fl]), (by (repeat (first | with_reducible exact hb | with_reducible apply below_alloc | ((with_reducible refine below_set ?_ ?hq _); case hq => omega) | with_reducible refine below_trans ?_ (grown_below _ _) | with_reducible apply Below.drew)))⟩
            · by_cases h3 : kd = 3
              · as_aux_lemma =>
                  go_wp2_with (fail)
                  go_meet
                  case rel =>
                    exact ⟨e0, l0, s0, b0, q0, e1, l1, s1, b1, q1, z, _, _, _, _, rfl, o0.mono, o1.mono, ((tw.swap).stop).swap, (by constructor <;> simp [go_sem, c0, c1, c2, c3, c4, c5, c6, c7, c8, c9, c10, c11, k0, k1, fx, fl]), (by (repeat (first | with_reducible exact hb | with_reducible apply below_alloc | ((with_reducible refine below_set ?_ ?hq _); case hq => omega) | with_reducible refine below_trans ?_ (grown_below _ _) | with_reducible apply Below.drew)))⟩
              · by_cases h4 : kd = 4
                · as_aux_lemma =>
                    cases d1
                    · go_wp2_with (fail)
                      go_meet
                      case rel =>
                        exact ⟨e0, l0, s0, b0, q0, e1, l1, s1, b1, q1, z, _, _, _, _, rfl, o0.mono, o1.mono, (tw.swap).swap, (by constructor <;> simp [go_sem, c0, c1, c2, c3, c4, c5, c6, c7, c8, c9, c10, c11, k0, k1, fx, fl]), (by (repeat (first | with_reducible exact hb | with_reducible apply below_alloc | ((with_reducible refine below_set ?_ ?hq _); case hq => omega) | with_reducible refine below_trans ?_ (grown_below _ _) | with_reducible apply Below.drew)))⟩
                    · have hs0 : 0 ≤ s1 := by obtain ⟨_, _, _, _, _, h6, h7, _⟩ := o1; exact h6
                      have hs1 : s1 ≤ 200 := by obtain ⟨_, _, _, _, _, h6, h7, _⟩ := o1; omega
                      go_wp2_with (go_at_call 20; ((with_reducible refine (next_any _ _ _ _ _ _ _).mono ?_); rintro _ _ ⟨rfl, g, rfl⟩))
                      go_meet
                      case rel =>
                        exact ⟨e0, l0, s0, b0, q0, e1, e1, (s1 + 1), b1, q1, z, _, _, _, _, rfl, o0.mono, o1.next, (tw.swap).swap, (by constructor <;> simp [go_sem, c0, c1, c2, c3, c4, c5, c6, c7, c8, c9, c10, c11, k0, k1, fx, fl]), (by (repeat (first | with_reducible exact hb | with_reducible apply below_alloc | ((with_reducible refine below_set ?_ ?hq _); case hq => omega) | with_reducible refine below_trans ?_ (grown_below _ _) | with_reducible apply Below.drew)))⟩
                · by_cases h5 : kd = 5
                  · cases d1
                    · as_aux_lemma =>
                        go_wp2_with (fail)
                        refine wp_region_grow (by kernel_rfl) (by kernel_rfl) ?_
                        repeat (go_big_quiet_step (fail))
                        refine wpQuiet_nil ?_
                        intro gr
                        go_wp2_with (fail)
                        go_meet
                        case rel =>
                          exact ⟨e0, l0, s0, b0, q0, e1, l1, s1, b1, q1, z, _, _, _, _, rfl, o0.mono, o1.mono, (tw.swap).swap, (by constructor <;> simp [go_sem, c0, c1, c2, c3, c4, c5, c6, c7, c8, c9, c10, c11, k0, k1, fx, fl]), (by (repeat (first | with_reducible exact hb | with_reducible apply below_alloc | ((with_reducible refine below_set ?_ ?hq _); case hq => omega) | with_reducible refine below_trans ?_ (grown_below _ _) | with_reducible apply Below.drew)))⟩
                    · by_cases hle2 : e0 ≤ e1
                      · go_wp2_with (fail)
                        refine wp_region_grow (by kernel_rfl) (by kernel_rfl) ?_
                        repeat (go_big_quiet_step (fail))
                        refine wpQuiet_nil ?_
                        intro gr
                        go_wp2_with (fail)
                        refine wp_region_grow_tail 14 (by kernel_rfl) (by kernel_rfl) ?_
                        simp only [List.take_succ_cons, List.take_zero, List.drop_succ_cons, List.drop_zero]
                        repeat (go_big_quiet_step ((first | (go_at_call 18; exact grow_call (name_any _ _ _ _ _ _ _)) | (go_at_call 23; exact grow_call (ended_any _ _ _ _ _ _ _ _ _ _)))))
                        refine wpQuiet_nil ?_
                        intro gt
                        go_wp2_with (first | (go_at_call 21; ((with_reducible refine (rebased_any _ _ _ _ _ _ _).mono ?_); rintro _ _ ⟨rfl, g, rfl⟩)) | (go_at_call 24; ((with_reducible refine (marks_any _ _ _ _ _ _ _ _).mono ?_); rintro _ _ ⟨rfl, g, rfl⟩)))
                        go_meet
                        case rel =>
                          exact ⟨e1, l1, s1, l1, s1, e1, l1, s1, l1, s1, z, _, _, _, _, rfl, o1.ended, o1.ended, ((tw.swap).joined hle2).swap, (by constructor <;> simp [go_sem, c0, c1, c2, c3, c4, c5, c6, c7, c8, c9, c10, c11, k0, k1, fx, fl]), (by (repeat (first | with_reducible exact hb | with_reducible apply below_alloc | ((with_reducible refine below_set ?_ ?hq _); case hq => omega) | with_reducible refine below_trans ?_ (grown_below _ _) | with_reducible apply Below.drew)))⟩
                      · as_aux_lemma =>
                          have hle3 : e1 < e0 := by omega
                          go_wp2_with (fail)
                          refine wp_region_grow (by kernel_rfl) (by kernel_rfl) ?_
                          repeat (go_big_quiet_step (fail))
                          refine wpQuiet_nil ?_
                          intro gr
                          go_wp2_with (fail)
                          go_meet
                          case rel =>
                            exact ⟨e0, l0, s0, b0, q0, e1, l1, s1, b1, q1, z, _, _, _, _, rfl, o0.mono, o1.mono, (tw.swap).swap, (by constructor <;> simp [go_sem, c0, c1, c2, c3, c4, c5, c6, c7, c8, c9, c10, c11, k0, k1, fx, fl]), (by (repeat (first | with_reducible exact hb | with_reducible apply below_alloc | ((with_reducible refine below_set ?_ ?hq _); case hq => omega) | with_reducible refine below_trans ?_ (grown_below _ _) | with_reducible apply Below.drew)))⟩
                  · as_aux_lemma =>
                      go_wp2_with (fail)
                      go_meet
                      case rel =>
                        exact ⟨e0, l0, s0, b0, q0, e1, l1, s1, b1, q1, z, _, _, _, _, rfl, o0.mono, o1.mono, (tw.swap).swap, (by constructor <;> simp [go_sem, c0, c1, c2, c3, c4, c5, c6, c7, c8, c9, c10, c11, k0, k1, fx, fl]), (by (repeat (first | with_reducible exact hb | with_reducible apply below_alloc | ((with_reducible refine below_set ?_ ?hq _); case hq => omega) | with_reducible refine below_trans ?_ (grown_below _ _) | with_reducible apply Below.drew)))⟩
        case rest =>
          obtain ⟨e0, l0, s0, b0, q0, e1, l1, s1, b1, q1, z, m0, m1, d0, d1, rfl, o0, o1, tw, cs, hb⟩ := hcut
          obtain ⟨c0, c1, c2, c3, c4, c5, c6, c7, c8, c9, c10, c11, k0, k1, fx, fl⟩ := cs
          haveI ix : Old W1.heap.size wc := old_of_cell c0
          haveI il : Old (W1.heap.size + 1) wc := old_of_cell k0
          obtain ⟨n, hn, hm1, hm0, HB0⟩ := choose_ok o0 o1 tw hk201
          have HB := Lib.hid HB0; clear HB0
          have HM0 := may_ok o0 hk201 m0
          have HM := Lib.hid HM0; clear HM0
          have HN0 := may_ok o1 hk201 m1
          have HN := Lib.hid HN0; clear HN0
          rcases hn with rfl | rfl
          · have hm1 : m1 = false := hm1 rfl
            subst hm1
            cases m0
            · as_aux_lemma =>
                go_wp2_with (first | (go_at_call 31; ((with_reducible refine (HM.out _).mono ?_); rintro _ _ ⟨rfl, g, rfl⟩)) | (go_at_call 31; ((with_reducible refine (HN.out _).mono ?_); rintro _ _ ⟨rfl, g, rfl⟩)) | (go_at_call 28; ((with_reducible refine (HB.out _).mono ?_); rintro _ _ ⟨rfl, g, rfl⟩)))
                go_roundw
                case rel => exact ⟨k + 1, e0, l0, s0, b0, q0, e1, l1, s1, b1, q1, z, _, _, _, _, by go_num, rfl, by omega, o0, o1, tw, (by constructor <;> simp [go_sem, c0, c1, c2, c3, c4, c5, c6, c7, c8, c9, c10, c11, k0, k1, fx, fl]), (by (repeat (first | with_reducible exact hb | with_reducible apply below_alloc | ((with_reducible refine below_set ?_ ?hq _); case hq => omega) | with_reducible refine below_trans ?_ (grown_below _ _) | with_reducible apply Below.drew)))⟩
                case measure => simp [intOf]; omega
            · as_aux_lemma =>
                go_wp2_with (first | (go_at_call 31; ((with_reducible refine (HM.out _).mono ?_); rintro _ _ ⟨rfl, g, rfl⟩)) | (go_at_call 31; ((with_reducible refine (HN.out _).mono ?_); rintro _ _ ⟨rfl, g, rfl⟩)) | (go_at_call 28; ((with_reducible refine (HB.out _).mono ?_); rintro _ _ ⟨rfl, g, rfl⟩)))
                go_roundw
                case rel => exact ⟨k + 1, e0, l0, s0, b0, q0, e1, l1, s1, b1, q1, z, _, _, _, _, by go_num, rfl, by omega, o0, o1, tw, (by constructor <;> simp [go_sem, c0, c1, c2, c3, c4, c5, c6, c7, c8, c9, c10, c11, k0, k1, fx, fl]), (by (repeat (first | with_reducible exact hb | with_reducible apply below_alloc | ((with_reducible refine below_set ?_ ?hq _); case hq => omega) | with_reducible refine below_trans ?_ (grown_below _ _) | with_reducible apply Below.drew)))⟩
                case measure => simp [intOf]; omega
          · have hm0 : m0 = false := hm0 rfl
            subst hm0
            as_aux_lemma =>
              go_wp2_with (first | (go_at_call 31; ((with_reducible refine (HM.out _).mono ?_); rintro _ _ ⟨rfl, g, rfl⟩)) | (go_at_call 31; ((with_reducible refine (HN.out _).mono ?_); rintro _ _ ⟨rfl, g, rfl⟩)) | (go_at_call 28; ((with_reducible refine (HB.out _).mono ?_); rintro _ _ ⟨rfl, g, rfl⟩)))
              go_roundw
              case rel => exact ⟨k + 1, e0, l0, s0, b0, q0, e1, l1, s1, b1, q1, z, _, _, _, _, by go_num, rfl, by omega, o0, o1, tw, (by constructor <;> simp [go_sem, c0, c1, c2, c3, c4, c5, c6, c7, c8, c9, c10, c11, k0, k1, fx, fl]), (by (repeat (first | with_reducible exact hb | with_reducible apply below_alloc | ((with_reducible refine below_set ?_ ?hq _); case hq => omega) | with_reducible refine below_trans ?_ (grown_below _ _) | with_reducible apply Below.drew)))⟩
              case measure => simp [intOf]; omega
    · go_wp2
      go_ret
      exact ⟨rfl, Gr.of hb⟩
end operatorMeans
end Go.Proofs.Ytginaleekfljfaa
