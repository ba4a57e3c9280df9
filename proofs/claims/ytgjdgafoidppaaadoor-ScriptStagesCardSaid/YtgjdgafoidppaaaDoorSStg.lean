/- script.MayStage, voileref26.MayStage. Conditions: none. -/
import Derived.Test.YtgjdgafoidppaaaDoorSLeaf
import Derived.Test.YtgjdgafoidppaaaDoorSTab
import Derived.Test.YtgjdgafoidppaaaDoorSOp
import Derived.BigQuiet
import Derived.Deep.QuietTactic
import Derived.Outline
namespace Go.Proofs.YtgjdgafoidppaaaDoor
open Go.RowKit
set_option linter.unusedVariables false
set_option linter.unusedSimpArgs false
set_option linter.unnecessarySimpa false
def mayStB (m0 m1 d0 d1 g : Int) : Bool := decide (16 ≤ m0) && decide (m0 ≤ 240) && decide (16 ≤ m1) && decide (m1 ≤ 240) && decide (1 ≤ d0) && decide (d0 ≤ 480) && decide (1 ≤ d1) && decide (d1 ≤ 480) && decide (0 ≤ g) && decide (g ≤ 480)
theorem mayStB_no {m0 m1 d0 d1 g : Int} (h : m0 < 16 ∨ 240 < m0 ∨ m1 < 16 ∨ 240 < m1 ∨ d0 < 1 ∨ 480 < d0 ∨ d1 < 1 ∨ 480 < d1 ∨ g < 0 ∨ 480 < g) : mayStB m0 m1 d0 d1 g = false := by
  cases e : mayStB m0 m1 d0 d1 g with
  | false => rfl
  | true => simp [mayStB] at e; omega
theorem mayStB_yes {m0 m1 d0 d1 g : Int} : mayStB m0 m1 d0 d1 g = true ↔ 16 ≤ m0 ∧ m0 ≤ 240 ∧ 16 ≤ m1 ∧ m1 ≤ 240 ∧ 1 ≤ d0 ∧ d0 ≤ 480 ∧ 1 ≤ d1 ∧ d1 ≤ 480 ∧ 0 ≤ g ∧ g ≤ 480 := by
  simp [mayStB, and_assoc]
set_option maxHeartbeats 4000000 in
theorem mayStage_any (m0 m1 d0 d1 g : Int) (w : World) : Calls Tryd.prog 13 #[.agg #[.int .i64 m0, .int .i64 m1, .int .i64 d0, .int .i64 d1, .int .i64 g]] w fun e w' => e = .returned (.bool (mayStB m0 m1 d0 d1 g)) ∧ Gr w w' := by
  rcases (by omega : m0 < 16 ∨ 16 ≤ m0) with a0 | a0
  · have E := Lib.hid (mayStB_no (m0 := m0) (m1 := m1) (d0 := d0) (d1 := d1) (g := g) (by omega))
    have f0 : decide (16 ≤ m0) = false := by simp; omega
    go_enter Tryd.func13, Tryd.ntmps13
    go_wp2
    refine wp_loop_rounds 3 ?_
    rw [rounds_succ]
    go_wp2
    go_ret
    exact ⟨by rw [E.out]; rfl, by (refine Gr.of ?_; repeat (first | with_reducible exact Below.refl _ _ | with_reducible apply below_alloc | with_reducible refine below_set' ?_ _ | with_reducible refine below_trans ?_ (grown_below _ _) | with_reducible refine below_iter' ?_ _ _ | with_reducible apply Below.drew | with_reducible refine below_trans ?_ (by assumption)))⟩
  · have t0 : True := trivial
    rcases (by omega : 240 < m0 ∨ m0 ≤ 240) with a1 | a1
    · have E := Lib.hid (mayStB_no (m0 := m0) (m1 := m1) (d0 := d0) (d1 := d1) (g := g) (by omega))
      have f1 : decide (m0 ≤ 240) = false := by simp; omega
      go_enter Tryd.func13, Tryd.ntmps13
      go_wp2
      refine wp_loop_rounds 3 ?_
      rw [rounds_succ]
      go_wp2
      go_ret
      exact ⟨by rw [E.out]; rfl, by (refine Gr.of ?_; repeat (first | with_reducible exact Below.refl _ _ | with_reducible apply below_alloc | with_reducible refine below_set' ?_ _ | with_reducible refine below_trans ?_ (grown_below _ _) | with_reducible refine below_iter' ?_ _ _ | with_reducible apply Below.drew | with_reducible refine below_trans ?_ (by assumption)))⟩
    · have t1 : True := trivial
      rcases (by omega : d0 < 1 ∨ 1 ≤ d0) with a2 | a2
      · have E := Lib.hid (mayStB_no (m0 := m0) (m1 := m1) (d0 := d0) (d1 := d1) (g := g) (by omega))
        have f2 : decide (1 ≤ d0) = false := by simp; omega
        go_enter Tryd.func13, Tryd.ntmps13
        go_wp2
        refine wp_loop_rounds 3 ?_
        rw [rounds_succ]
        go_wp2
        go_ret
        exact ⟨by rw [E.out]; rfl, by (refine Gr.of ?_; repeat (first | with_reducible exact Below.refl _ _ | with_reducible apply below_alloc | with_reducible refine below_set' ?_ _ | with_reducible refine below_trans ?_ (grown_below _ _) | with_reducible refine below_iter' ?_ _ _ | with_reducible apply Below.drew | with_reducible refine below_trans ?_ (by assumption)))⟩
      · have t2 : True := trivial
        rcases (by omega : 480 < d0 ∨ d0 ≤ 480) with a3 | a3
        · have E := Lib.hid (mayStB_no (m0 := m0) (m1 := m1) (d0 := d0) (d1 := d1) (g := g) (by omega))
          have f3 : decide (d0 ≤ 480) = false := by simp; omega
          go_enter Tryd.func13, Tryd.ntmps13
          go_wp2
          refine wp_loop_rounds 3 ?_
          rw [rounds_succ]
          go_wp2
          go_ret
          exact ⟨by rw [E.out]; rfl, by (refine Gr.of ?_; repeat (first | with_reducible exact Below.refl _ _ | with_reducible apply below_alloc | with_reducible refine below_set' ?_ _ | with_reducible refine below_trans ?_ (grown_below _ _) | with_reducible refine below_iter' ?_ _ _ | with_reducible apply Below.drew | with_reducible refine below_trans ?_ (by assumption)))⟩
        · have t3 : True := trivial
          rcases (by omega : m1 < 16 ∨ 16 ≤ m1) with a4 | a4
          · have E := Lib.hid (mayStB_no (m0 := m0) (m1 := m1) (d0 := d0) (d1 := d1) (g := g) (by omega))
            have f4 : decide (16 ≤ m1) = false := by simp; omega
            go_enter Tryd.func13, Tryd.ntmps13
            go_wp2
            refine wp_loop_rounds 3 ?_
            rw [rounds_succ]
            go_wp2
            rw [rounds_succ]
            go_wp2
            go_ret
            exact ⟨by rw [E.out]; rfl, by (refine Gr.of ?_; repeat (first | with_reducible exact Below.refl _ _ | with_reducible apply below_alloc | with_reducible refine below_set' ?_ _ | with_reducible refine below_trans ?_ (grown_below _ _) | with_reducible refine below_iter' ?_ _ _ | with_reducible apply Below.drew | with_reducible refine below_trans ?_ (by assumption)))⟩
          · have t4 : True := trivial
            rcases (by omega : 240 < m1 ∨ m1 ≤ 240) with a5 | a5
            · have E := Lib.hid (mayStB_no (m0 := m0) (m1 := m1) (d0 := d0) (d1 := d1) (g := g) (by omega))
              have f5 : decide (m1 ≤ 240) = false := by simp; omega
              go_enter Tryd.func13, Tryd.ntmps13
              go_wp2
              refine wp_loop_rounds 3 ?_
              rw [rounds_succ]
              go_wp2
              rw [rounds_succ]
              go_wp2
              go_ret
              exact ⟨by rw [E.out]; rfl, by (refine Gr.of ?_; repeat (first | with_reducible exact Below.refl _ _ | with_reducible apply below_alloc | with_reducible refine below_set' ?_ _ | with_reducible refine below_trans ?_ (grown_below _ _) | with_reducible refine below_iter' ?_ _ _ | with_reducible apply Below.drew | with_reducible refine below_trans ?_ (by assumption)))⟩
            · have t5 : True := trivial
              rcases (by omega : d1 < 1 ∨ 1 ≤ d1) with a6 | a6
              · have E := Lib.hid (mayStB_no (m0 := m0) (m1 := m1) (d0 := d0) (d1 := d1) (g := g) (by omega))
                have f6 : decide (1 ≤ d1) = false := by simp; omega
                go_enter Tryd.func13, Tryd.ntmps13
                go_wp2
                refine wp_loop_rounds 3 ?_
                rw [rounds_succ]
                go_wp2
                rw [rounds_succ]
                go_wp2
                go_ret
                exact ⟨by rw [E.out]; rfl, by (refine Gr.of ?_; repeat (first | with_reducible exact Below.refl _ _ | with_reducible apply below_alloc | with_reducible refine below_set' ?_ _ | with_reducible refine below_trans ?_ (grown_below _ _) | with_reducible refine below_iter' ?_ _ _ | with_reducible apply Below.drew | with_reducible refine below_trans ?_ (by assumption)))⟩
              · have t6 : True := trivial
                rcases (by omega : 480 < d1 ∨ d1 ≤ 480) with a7 | a7
                · have E := Lib.hid (mayStB_no (m0 := m0) (m1 := m1) (d0 := d0) (d1 := d1) (g := g) (by omega))
                  have f7 : decide (d1 ≤ 480) = false := by simp; omega
                  go_enter Tryd.func13, Tryd.ntmps13
                  go_wp2
                  refine wp_loop_rounds 3 ?_
                  rw [rounds_succ]
                  go_wp2
                  rw [rounds_succ]
                  go_wp2
                  go_ret
                  exact ⟨by rw [E.out]; rfl, by (refine Gr.of ?_; repeat (first | with_reducible exact Below.refl _ _ | with_reducible apply below_alloc | with_reducible refine below_set' ?_ _ | with_reducible refine below_trans ?_ (grown_below _ _) | with_reducible refine below_iter' ?_ _ _ | with_reducible apply Below.drew | with_reducible refine below_trans ?_ (by assumption)))⟩
                · have t7 : True := trivial
                  rcases (by omega : g < 0 ∨ 0 ≤ g) with a8 | a8
                  · have E := Lib.hid (mayStB_no (m0 := m0) (m1 := m1) (d0 := d0) (d1 := d1) (g := g) (by omega))
                    have f8 : decide (0 ≤ g) = false := by simp; omega
                    go_enter Tryd.func13, Tryd.ntmps13
                    go_wp2
                    refine wp_loop_rounds 3 ?_
                    rw [rounds_succ]
                    go_wp2
                    rw [rounds_succ]
                    go_wp2
                    rw [rounds_succ]
                    go_wp2
                    go_ret
                    exact ⟨by rw [E.out]; rfl, by (refine Gr.of ?_; repeat (first | with_reducible exact Below.refl _ _ | with_reducible apply below_alloc | with_reducible refine below_set' ?_ _ | with_reducible refine below_trans ?_ (grown_below _ _) | with_reducible refine below_iter' ?_ _ _ | with_reducible apply Below.drew | with_reducible refine below_trans ?_ (by assumption)))⟩
                  · have t8 : True := trivial
                    rcases (by omega : 480 < g ∨ g ≤ 480) with a9 | a9
                    · have E := Lib.hid (mayStB_no (m0 := m0) (m1 := m1) (d0 := d0) (d1 := d1) (g := g) (by omega))
                      have f9 : decide (g ≤ 480) = false := by simp; omega
                      go_enter Tryd.func13, Tryd.ntmps13
                      go_wp2
                      refine wp_loop_rounds 3 ?_
                      rw [rounds_succ]
                      go_wp2
                      rw [rounds_succ]
                      go_wp2
                      rw [rounds_succ]
                      go_wp2
                      go_ret
                      exact ⟨by rw [E.out]; rfl, by (refine Gr.of ?_; repeat (first | with_reducible exact Below.refl _ _ | with_reducible apply below_alloc | with_reducible refine below_set' ?_ _ | with_reducible refine below_trans ?_ (grown_below _ _) | with_reducible refine below_iter' ?_ _ _ | with_reducible apply Below.drew | with_reducible refine below_trans ?_ (by assumption)))⟩
                    · have t9 : True := trivial
                      have E := Lib.hid (mayStB_yes.2 (by omega : 16 ≤ m0 ∧ m0 ≤ 240 ∧ 16 ≤ m1 ∧ m1 ≤ 240 ∧ 1 ≤ d0 ∧ d0 ≤ 480 ∧ 1 ≤ d1 ∧ d1 ≤ 480 ∧ 0 ≤ g ∧ g ≤ 480))
                      go_enter Tryd.func13, Tryd.ntmps13
                      go_wp2
                      refine wp_loop_rounds 3 ?_
                      rw [rounds_succ]
                      go_wp2
                      rw [rounds_succ]
                      go_wp2
                      rw [rounds_succ]
                      go_wp2
                      go_ret
                      exact ⟨by rw [E.out]; rfl, by (refine Gr.of ?_; repeat (first | with_reducible exact Below.refl _ _ | with_reducible apply below_alloc | with_reducible refine below_set' ?_ _ | with_reducible refine below_trans ?_ (grown_below _ _) | with_reducible refine below_iter' ?_ _ _ | with_reducible apply Below.drew | with_reducible refine below_trans ?_ (by assumption)))⟩
set_option maxHeartbeats 4000000 in
theorem mayStage26_any (m0 m1 d0 d1 g : Int) (w : World) : Calls Tryd.prog 14 #[.agg #[.int .i64 m0, .int .i64 m1, .int .i64 d0, .int .i64 d1, .int .i64 g]] w fun e w' => e = .returned (.bool (mayStB m0 m1 d0 d1 g)) ∧ Gr w w' := by
  rcases (by omega : m0 < 16 ∨ 16 ≤ m0) with a0 | a0
  · have E := Lib.hid (mayStB_no (m0 := m0) (m1 := m1) (d0 := d0) (d1 := d1) (g := g) (by omega))
    have f0 : decide (16 ≤ m0) = false := by simp; omega
    go_enter Tryd.func14, Tryd.ntmps14
    go_wp2
    go_ret
    exact ⟨by rw [E.out]; rfl, by (refine Gr.of ?_; repeat (first | with_reducible exact Below.refl _ _ | with_reducible apply below_alloc | with_reducible refine below_set' ?_ _ | with_reducible refine below_trans ?_ (grown_below _ _) | with_reducible refine below_iter' ?_ _ _ | with_reducible apply Below.drew | with_reducible refine below_trans ?_ (by assumption)))⟩
  · have t0 : True := trivial
    rcases (by omega : 240 < m0 ∨ m0 ≤ 240) with a1 | a1
    · have E := Lib.hid (mayStB_no (m0 := m0) (m1 := m1) (d0 := d0) (d1 := d1) (g := g) (by omega))
      have f1 : decide (m0 ≤ 240) = false := by simp; omega
      go_enter Tryd.func14, Tryd.ntmps14
      go_wp2
      go_ret
      exact ⟨by rw [E.out]; rfl, by (refine Gr.of ?_; repeat (first | with_reducible exact Below.refl _ _ | with_reducible apply below_alloc | with_reducible refine below_set' ?_ _ | with_reducible refine below_trans ?_ (grown_below _ _) | with_reducible refine below_iter' ?_ _ _ | with_reducible apply Below.drew | with_reducible refine below_trans ?_ (by assumption)))⟩
    · have t1 : True := trivial
      rcases (by omega : m1 < 16 ∨ 16 ≤ m1) with a2 | a2
      · have E := Lib.hid (mayStB_no (m0 := m0) (m1 := m1) (d0 := d0) (d1 := d1) (g := g) (by omega))
        have f2 : decide (16 ≤ m1) = false := by simp; omega
        go_enter Tryd.func14, Tryd.ntmps14
        go_wp2
        go_ret
        exact ⟨by rw [E.out]; rfl, by (refine Gr.of ?_; repeat (first | with_reducible exact Below.refl _ _ | with_reducible apply below_alloc | with_reducible refine below_set' ?_ _ | with_reducible refine below_trans ?_ (grown_below _ _) | with_reducible refine below_iter' ?_ _ _ | with_reducible apply Below.drew | with_reducible refine below_trans ?_ (by assumption)))⟩
      · have t2 : True := trivial
        rcases (by omega : 240 < m1 ∨ m1 ≤ 240) with a3 | a3
        · have E := Lib.hid (mayStB_no (m0 := m0) (m1 := m1) (d0 := d0) (d1 := d1) (g := g) (by omega))
          have f3 : decide (m1 ≤ 240) = false := by simp; omega
          go_enter Tryd.func14, Tryd.ntmps14
          go_wp2
          go_ret
          exact ⟨by rw [E.out]; rfl, by (refine Gr.of ?_; repeat (first | with_reducible exact Below.refl _ _ | with_reducible apply below_alloc | with_reducible refine below_set' ?_ _ | with_reducible refine below_trans ?_ (grown_below _ _) | with_reducible refine below_iter' ?_ _ _ | with_reducible apply Below.drew | with_reducible refine below_trans ?_ (by assumption)))⟩
        · have t3 : True := trivial
          rcases (by omega : d0 < 1 ∨ 1 ≤ d0) with a4 | a4
          · have E := Lib.hid (mayStB_no (m0 := m0) (m1 := m1) (d0 := d0) (d1 := d1) (g := g) (by omega))
            have f4 : decide (1 ≤ d0) = false := by simp; omega
            go_enter Tryd.func14, Tryd.ntmps14
            go_wp2
            go_ret
            exact ⟨by rw [E.out]; rfl, by (refine Gr.of ?_; repeat (first | with_reducible exact Below.refl _ _ | with_reducible apply below_alloc | with_reducible refine below_set' ?_ _ | with_reducible refine below_trans ?_ (grown_below _ _) | with_reducible refine below_iter' ?_ _ _ | with_reducible apply Below.drew | with_reducible refine below_trans ?_ (by assumption)))⟩
          · have t4 : True := trivial
            rcases (by omega : 480 < d0 ∨ d0 ≤ 480) with a5 | a5
            · have E := Lib.hid (mayStB_no (m0 := m0) (m1 := m1) (d0 := d0) (d1 := d1) (g := g) (by omega))
              have f5 : decide (d0 ≤ 480) = false := by simp; omega
              go_enter Tryd.func14, Tryd.ntmps14
              go_wp2
              go_ret
              exact ⟨by rw [E.out]; rfl, by (refine Gr.of ?_; repeat (first | with_reducible exact Below.refl _ _ | with_reducible apply below_alloc | with_reducible refine below_set' ?_ _ | with_reducible refine below_trans ?_ (grown_below _ _) | with_reducible refine below_iter' ?_ _ _ | with_reducible apply Below.drew | with_reducible refine below_trans ?_ (by assumption)))⟩
            · have t5 : True := trivial
              rcases (by omega : d1 < 1 ∨ 1 ≤ d1) with a6 | a6
              · have E := Lib.hid (mayStB_no (m0 := m0) (m1 := m1) (d0 := d0) (d1 := d1) (g := g) (by omega))
                have f6 : decide (1 ≤ d1) = false := by simp; omega
                go_enter Tryd.func14, Tryd.ntmps14
                go_wp2
                go_ret
                exact ⟨by rw [E.out]; rfl, by (refine Gr.of ?_; repeat (first | with_reducible exact Below.refl _ _ | with_reducible apply below_alloc | with_reducible refine below_set' ?_ _ | with_reducible refine below_trans ?_ (grown_below _ _) | with_reducible refine below_iter' ?_ _ _ | with_reducible apply Below.drew | with_reducible refine below_trans ?_ (by assumption)))⟩
              · have t6 : True := trivial
                rcases (by omega : 480 < d1 ∨ d1 ≤ 480) with a7 | a7
                · have E := Lib.hid (mayStB_no (m0 := m0) (m1 := m1) (d0 := d0) (d1 := d1) (g := g) (by omega))
                  have f7 : decide (d1 ≤ 480) = false := by simp; omega
                  go_enter Tryd.func14, Tryd.ntmps14
                  go_wp2
                  go_ret
                  exact ⟨by rw [E.out]; rfl, by (refine Gr.of ?_; repeat (first | with_reducible exact Below.refl _ _ | with_reducible apply below_alloc | with_reducible refine below_set' ?_ _ | with_reducible refine below_trans ?_ (grown_below _ _) | with_reducible refine below_iter' ?_ _ _ | with_reducible apply Below.drew | with_reducible refine below_trans ?_ (by assumption)))⟩
                · have t7 : True := trivial
                  rcases (by omega : g < 0 ∨ 0 ≤ g) with a8 | a8
                  · have E := Lib.hid (mayStB_no (m0 := m0) (m1 := m1) (d0 := d0) (d1 := d1) (g := g) (by omega))
                    have f8 : decide (0 ≤ g) = false := by simp; omega
                    go_enter Tryd.func14, Tryd.ntmps14
                    go_wp2
                    go_ret
                    exact ⟨by rw [E.out]; rfl, by (refine Gr.of ?_; repeat (first | with_reducible exact Below.refl _ _ | with_reducible apply below_alloc | with_reducible refine below_set' ?_ _ | with_reducible refine below_trans ?_ (grown_below _ _) | with_reducible refine below_iter' ?_ _ _ | with_reducible apply Below.drew | with_reducible refine below_trans ?_ (by assumption)))⟩
                  · have t8 : True := trivial
                    rcases (by omega : 480 < g ∨ g ≤ 480) with a9 | a9
                    · have E := Lib.hid (mayStB_no (m0 := m0) (m1 := m1) (d0 := d0) (d1 := d1) (g := g) (by omega))
                      have f9 : decide (g ≤ 480) = false := by simp; omega
                      go_enter Tryd.func14, Tryd.ntmps14
                      go_wp2
                      go_ret
                      exact ⟨by rw [E.out]; rfl, by (refine Gr.of ?_; repeat (first | with_reducible exact Below.refl _ _ | with_reducible apply below_alloc | with_reducible refine below_set' ?_ _ | with_reducible refine below_trans ?_ (grown_below _ _) | with_reducible refine below_iter' ?_ _ _ | with_reducible apply Below.drew | with_reducible refine below_trans ?_ (by assumption)))⟩
                    · have t9 : True := trivial
                      have E := Lib.hid (mayStB_yes.2 (by omega : 16 ≤ m0 ∧ m0 ≤ 240 ∧ 16 ≤ m1 ∧ m1 ≤ 240 ∧ 1 ≤ d0 ∧ d0 ≤ 480 ∧ 1 ≤ d1 ∧ d1 ≤ 480 ∧ 0 ≤ g ∧ g ≤ 480))
                      go_enter Tryd.func14, Tryd.ntmps14
                      go_wp2
                      go_ret
                      exact ⟨by rw [E.out]; rfl, by (refine Gr.of ?_; repeat (first | with_reducible exact Below.refl _ _ | with_reducible apply below_alloc | with_reducible refine below_set' ?_ _ | with_reducible refine below_trans ?_ (grown_below _ _) | with_reducible refine below_iter' ?_ _ _ | with_reducible apply Below.drew | with_reducible refine below_trans ?_ (by assumption)))⟩
end Go.Proofs.YtgjdgafoidppaaaDoor
