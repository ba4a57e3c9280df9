/- Picks: slices.Equal at []int, slices.ContainsFunc with 'it may not be told', script.SameAct. Conditions: what is read stands in memory. -/
import Derived.Test.YtgjdgafoidppaaaDoorSOp
import Derived.Test.YtgjdgafoidppaaaDoorIter
import Derived.Test.YtgjdgafoidppaaaDoorShelf
import Derived.LoopTactic
namespace Go.Proofs.YtgjdgafoidppaaaDoor
open Go.RowKit
set_option linter.unusedVariables false
set_option linter.unusedSimpArgs false
set_option linter.unnecessarySimpa false
theorem gr_drewN {w w' : World} (h : ∃ q, w' = w.drewN q) : Gr w w' := by
  obtain ⟨q, rfl⟩ := h
  exact Gr.of ⟨rfl, rfl, rfl, Nat.le_refl _, fun _ _ => rfl⟩
theorem equalI_any (A B : Option Addr) (n c m d : Nat) (xs ys : List Int) (w : World) (hx : xs.length = n) (hy : ys.length = m) (hn : n ≤ 9223372036854775807) (hm : m ≤ 9223372036854775807) (h1 : Row (Value.int .i64) w A xs) (h2 : Row (Value.int .i64) w B ys) :
    Calls Tryd.prog 76 #[.slice A n c, .slice B m d] w fun e w' => e = .returned (.bool (xs == ys)) ∧ Gr w w' := by
  by_cases h : n = m
  · subst h
    rcases Nat.eq_zero_or_pos n with h0 | h0
    · subst h0
      have e1 : xs = [] := List.eq_nil_of_length_eq_zero hx
      have e2 : ys = [] := List.eq_nil_of_length_eq_zero hy
      subst e1 e2
      exact (Tryd.slices_Equal_int_empty A B c 0 d w (by omega)).mono fun _ _ ⟨he, hw⟩ => ⟨he, hw ▸ Gr.refl _⟩
    · obtain ⟨b1, o1, rfl, _, hc1⟩ := h1.at_ (by rintro rfl; simp at hx; omega)
      obtain ⟨b2, o2, rfl, _, hc2⟩ := h2.at_ (by rintro rfl; simp at hy; omega)
      refine (Tryd.slices_Equal_int b1 o1 n c b2 o2 n d xs ys w (by omega) (by omega) hn hn (fun j hj => ?_) (fun j hj => ?_)).mono fun _ _ ⟨he, hw⟩ => ⟨?_, gr_drewN hw⟩
      · rw [hc1 j _ (List.getElem?_eq_getElem hj)]; simp [List.getD, hj]
      · rw [hc2 j _ (List.getElem?_eq_getElem hj)]; simp [List.getD, hj]
      · rw [he, List.take_of_length_le (by omega), List.take_of_length_le (by omega)]
  · have : (xs == ys) = false := by simp only [beq_eq_false_iff_ne, ne_eq]; rintro rfl; omega
    rw [this]
    exact (Tryd.slices_Equal_int_lens A B n c m d w h).mono fun _ _ ⟨he, hw⟩ => ⟨he, hw ▸ Gr.refl _⟩
def mayN (n : Int) : Bool := decide (0 ≤ n) && decide (n ≤ 1000000)
theorem mayAct1_any (n : Int) (w : World) : Calls Tryd.prog 52 #[.int .i64 n] w fun e w' => e = .returned (.bool (!(mayN n))) ∧ w = w' := by
  have HM := Lib.hid (fun W => (may26_any n W).mono (R' := fun e w' => e = .returned (.bool (mayN n)) ∧ W = w') fun _ _ h => h)
  go_enter Tryd.func52, Tryd.ntmps52
  go_wp2_with (go_at_call 50; ((with_reducible refine (HM.out _).mono ?_); rintro _ _ ⟨rfl, rfl⟩))
  go_ret
  exact ⟨rfl, rfl⟩
def SomeIdx (p : Bool) (w : World) (e : Ending) (w' : World) : Prop := ∃ r : Int, decide (0 ≤ r) = p ∧ e = .returned (.int .i64 r) ∧ Gr w w'
set_option maxRecDepth 100000 in
set_option maxHeartbeats 2000000 in
theorem indexFuncI_some (b o n c : Nat) (xs : List Int) (w : World) (hx : xs.length = n) (hn : n ≤ 9223372036854775807) (hb : b < w.heap.size) (hc : ∀ (j : Nat) x, xs[j]? = some x → w.cell? ⟨b, o + j, none⟩ = some (.int .i64 x)) :
    Calls Tryd.prog 75 #[.slice (some ⟨b, o, none⟩) n c, .func (.func 52) #[] #[]] w (SomeIdx (xs.any fun n => !(mayN n)) w) := by
  have HC := Lib.hid hc; clear hc
  have HL := Lib.hid hx; clear hx
  haveI io : Old b w := ⟨hb⟩
  go_enter Tryd.func75, Tryd.ntmps75
  go_wp2
  go_loopw [8] (fun i wr => ∃ k : Nat, i = .int .i64 k ∧ k ≤ n ∧ Hid ((xs.take k).any (fun n => !(mayN n)) = false) ∧ wr = w) (fun i _ => n - (intOf i).toNat)
  case atStart => exact ⟨0, rfl, Nat.zero_le _, Lib.hid (by simp), rfl⟩
  case round =>
    obtain ⟨k, rfl, hk, hg, rfl⟩ := hrel
    by_cases hlt : k < n
    · have hkx : k < xs.length := by have := HL.out; omega
      obtain ⟨x, hxk⟩ : ∃ x, xs[k]? = some x := ⟨xs[k], List.getElem?_eq_getElem hkx⟩
      have c1 := HC.out k x hxk
      have HX := Lib.hid hxk; clear hxk hkx
      have HA := Lib.hid (fun W => mayAct1_any x W)
      rcases Bool.eq_false_or_eq_true (mayN x) with hm | hm
      · have HM := Lib.hid hm
        go_wp2_with (go_at_call 52; ((with_reducible refine (HA.out _).mono ?_); rintro _ _ ⟨rfl, rfl⟩))
        go_roundw
        case rel => exact ⟨k + 1, by go_num, by omega, Lib.hid (by
          have e1 : xs.take (k + 1) = xs.take k ++ [x] := by rw [List.take_add_one, HX.out]; rfl
          rw [e1, List.any_append, hg.out]
          simp [HM.out]), trivial⟩
        case measure => simp [intOf]; omega
      · have HM := Lib.hid hm
        have hp : decide (0 ≤ (k : Int)) = xs.any (fun n => !(mayN n)) := by
          have : xs.any (fun n => !(mayN n)) = true := List.any_eq_true.2 ⟨x, List.mem_of_getElem? HX.out, by simp [HM.out]⟩
          rw [this]; simp
        have HP := Lib.hid hp; clear hp
        go_wp2_with (go_at_call 52; ((with_reducible refine (HA.out _).mono ?_); rintro _ _ ⟨rfl, rfl⟩))
        go_ret
        exact ⟨k, HP.out, rfl, Gr.refl _⟩
    · have hp : decide (0 ≤ (-1 : Int)) = xs.any (fun n => !(mayN n)) := by
        have := hg.out
        rw [List.take_of_length_le (by have := HL.out; omega)] at this
        rw [this]; rfl
      have HP := Lib.hid hp; clear hp
      go_wp2
      go_ret
      exact ⟨-1, HP.out, rfl, Gr.refl _⟩
theorem indexFuncI_any (A : Option Addr) (n c : Nat) (xs : List Int) (w : World) (hx : xs.length = n) (hn : n ≤ 9223372036854775807) (h : Row (Value.int .i64) w A xs) :
    Calls Tryd.prog 75 #[.slice A n c, .func (.func 52) #[] #[]] w (SomeIdx (xs.any fun n => !(mayN n)) w) := by
  rcases Nat.eq_zero_or_pos n with h0 | h0
  · subst h0
    obtain rfl : xs = [] := List.eq_nil_of_length_eq_zero hx
    go_enter Tryd.func75, Tryd.ntmps75
    go_wp2
    refine wp_loop_rounds 1 ?_
    rw [rounds_succ]
    go_wp2
    go_ret
    exact ⟨-1, rfl, rfl, by (refine Gr.of ?_; repeat (first | with_reducible exact Below.refl _ _ | with_reducible apply below_alloc | with_reducible refine below_set' ?_ _ | with_reducible refine below_trans ?_ (grown_below _ _) | with_reducible refine below_iter' ?_ _ _ | with_reducible apply Below.drew | with_reducible refine below_trans ?_ (by assumption)))⟩
  · obtain ⟨b, o, rfl, hb, hc⟩ := h.at_ (by rintro rfl; simp at hx; omega)
    exact indexFuncI_some b o n c xs w hx hn hb hc
theorem containsI_any (A : Option Addr) (n c : Nat) (xs : List Int) (w : World) (hx : xs.length = n) (hn : n ≤ 9223372036854775807) (h : Row (Value.int .i64) w A xs) :
    Calls Tryd.prog 51 #[.slice A n c, .func (.func 52) #[] #[]] w fun e w' => e = .returned (.bool (xs.any fun n => !(mayN n))) ∧ Gr w w' := by
  have HI := Lib.hid (indexFuncI_any A n c xs w hx hn h); clear h hx
  go_enter Tryd.func51, Tryd.ntmps51
  go_wp2_with (go_at_call 75; ((with_reducible refine HI.out.mono ?_); rintro _ _ ⟨r, hr, rfl, g, rfl⟩; have HR := Lib.hid hr; clear hr))
  go_ret
  exact ⟨by rw [← HR.out]; rfl, by (refine Gr.of ?_; repeat (first | with_reducible exact Below.refl _ _ | with_reducible apply below_alloc | with_reducible refine below_set' ?_ _ | with_reducible refine below_trans ?_ (grown_below _ _) | with_reducible refine below_iter' ?_ _ _ | with_reducible apply Below.drew | with_reducible refine below_trans ?_ (by assumption)))⟩
end Go.Proofs.YtgjdgafoidppaaaDoor
