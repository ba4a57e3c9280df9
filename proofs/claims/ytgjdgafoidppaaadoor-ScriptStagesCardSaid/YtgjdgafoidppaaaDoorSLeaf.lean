/- What small functions of layers 13, 26 answer. Conditions: what is read stands in memory. -/
import Derived.Test.YtgjdgafoidppaaaDoorSKit
import Derived.LoopTactic
namespace Go.Proofs.YtgjdgafoidppaaaDoor
open Go.RowKit
set_option linter.unusedVariables false
set_option linter.unusedSimpArgs false
set_option linter.unnecessarySimpa false
def bv (b : UInt8) : Value := .int .u8 (b.toNat : Int)
def iv (n : Int) : Value := .int .i64 n
/-- A slice's elements. -/
structure Row {α : Type} (enc : α → Value) (W : World) (A : Option Addr) (l : List α) : Prop where
  at_ : l ≠ [] → ∃ b o, A = some ⟨b, o, none⟩ ∧ b < W.heap.size ∧ ∀ j x, l[j]? = some x → W.cell? ⟨b, o + j, none⟩ = some (enc x)
theorem Row.nil {α : Type} {enc : α → Value} {W : World} {A : Option Addr} : Row enc W A [] := ⟨fun h => absurd rfl h⟩
theorem Row.gr {α : Type} {enc : α → Value} {W W' : World} {A : Option Addr} {l : List α} (h : Row enc W A l) (hg : Gr W W') : Row enc W' A l :=
  ⟨fun h0 => by
    obtain ⟨b, o, rfl, hb, hc⟩ := h.at_ h0
    exact ⟨b, o, rfl, Nat.lt_of_lt_of_le hb hg.below.size, fun j x hx => (hg.below.cell (p := ⟨b, o + j, none⟩) hb).trans (hc j x hx)⟩⟩
theorem may26_any (n : Int) (w : World) : Calls Tryd.prog 50 #[.int .i64 n] w fun e w' => e = .returned (.bool (decide (0 ≤ n) && decide (n ≤ 1000000))) ∧ w = w' := by
  by_cases h : 0 ≤ n
  · by_cases h2 : n ≤ 1000000
    · go_enter Tryd.func50, Tryd.ntmps50
      go_wp2
      go_ret
      exact ⟨by simp [h, h2], rfl⟩
    · have h3 : decide (n ≤ 1000000) = false := by simpa using h2
      go_enter Tryd.func50, Tryd.ntmps50
      go_wp2
      go_ret
      exact ⟨by simp [h, h2], rfl⟩
  · have h3 : decide (0 ≤ n) = false := by simpa using h
    go_enter Tryd.func50, Tryd.ntmps50
    go_wp2
    go_ret
    exact ⟨by simp [h], rfl⟩
theorem beq_snoc {α : Type} [BEq α] [LawfulBEq α] {xs ys : List α} {k : Nat} (hx : k < xs.length) (hy : k < ys.length) (h : xs.take k = ys.take k) (he : xs[k] = ys[k]) : xs.take (k + 1) = ys.take (k + 1) := by
  rw [List.take_succ_eq_append_getElem hx, List.take_succ_eq_append_getElem hy, h, he]
theorem equalB_lens (A B : Option Addr) (n c m d : Nat) (w : World) (h : n ≠ m) :
    Calls Tryd.prog 85 #[.slice A n c, .slice B m d] w fun e w' => e = .returned (.bool false) ∧ Gr w w' := by
  have h2 : ((n : Int) != (m : Int)) = true := by simp; omega
  go_enter Tryd.func85, Tryd.ntmps85
  go_wp2
  go_ret
  exact ⟨rfl, by (refine Gr.of ?_; repeat (first | with_reducible exact Below.refl _ _ | with_reducible apply below_alloc | ((with_reducible refine below_set ?_ ?hq _); case hq => (first | omega | exact Nat.le_of_lt (grown_lt _ _ _) | assumption)) | with_reducible refine below_trans ?_ (grown_below _ _) | ((with_reducible refine below_iter ?_ ?hq _ _); case hq => (first | omega | exact Nat.le_of_lt (grown_lt _ _ _) | (simp; omega))) | with_reducible apply Below.drew | with_reducible refine below_trans ?_ (by assumption)))⟩
theorem equalB_empty (A B : Option Addr) (c d : Nat) (w : World) :
    Calls Tryd.prog 85 #[.slice A 0 c, .slice B 0 d] w fun e w' => e = .returned (.bool true) ∧ Gr w w' := by
  go_enter Tryd.func85, Tryd.ntmps85
  go_wp2
  refine wp_loop_rounds 1 ?_
  rw [rounds_succ]
  go_wp2
  go_ret
  exact ⟨rfl, by (refine Gr.of ?_; repeat (first | with_reducible exact Below.refl _ _ | with_reducible apply below_alloc | ((with_reducible refine below_set ?_ ?hq _); case hq => (first | omega | exact Nat.le_of_lt (grown_lt _ _ _) | assumption)) | with_reducible refine below_trans ?_ (grown_below _ _) | ((with_reducible refine below_iter ?_ ?hq _ _); case hq => (first | omega | exact Nat.le_of_lt (grown_lt _ _ _) | (simp; omega))) | with_reducible apply Below.drew | with_reducible refine below_trans ?_ (by assumption)))⟩
set_option maxHeartbeats 1000000 in
theorem equalB_some (b1 o1 b2 o2 n c d : Nat) (xs ys : List UInt8) (w : World) (hx : xs.length = n) (hy : ys.length = n) (hn : n ≤ 9223372036854775807)
    (h1 : ∀ (j : Nat) (x : UInt8), xs[j]? = some x → w.cell? ⟨b1, o1 + j, none⟩ = some (bv x)) (h2 : ∀ (j : Nat) (x : UInt8), ys[j]? = some x → w.cell? ⟨b2, o2 + j, none⟩ = some (bv x)) :
    Calls Tryd.prog 85 #[.slice (some ⟨b1, o1, none⟩) n c, .slice (some ⟨b2, o2, none⟩) n d] w fun e w' => e = .returned (.bool (xs == ys)) ∧ Gr w w' := by
  have H1 := Lib.hid h1; clear h1
  have H2 := Lib.hid h2; clear h2
  have HX := Lib.hid hx; clear hx
  have HY := Lib.hid hy; clear hy
  go_enter Tryd.func85, Tryd.ntmps85
  go_wp2
  go_loopw [13] (fun i wr => ∃ k : Nat, i = .int .i64 k ∧ k ≤ n ∧ xs.take k = ys.take k ∧ Gr w wr) (fun i _ => n - (intOf i).toNat)
  case atStart => exact ⟨0, rfl, by omega, rfl, Gr.refl _⟩
  case round =>
    obtain ⟨k, rfl, hk, he, hg⟩ := hrel
    obtain ⟨g, rfl⟩ := hg
    by_cases hlt : k < n
    · have hkx : k < xs.length := by have := HX.out; omega
      have hky : k < ys.length := by have := HY.out; omega
      have c1 := H1.out k xs[k] (List.getElem?_eq_getElem hkx)
      have c2 := H2.out k ys[k] (List.getElem?_eq_getElem hky)
      simp only [bv] at c1 c2
      haveI i1 : Old b1 w := old_of_cell c1
      haveI i2 : Old b2 w := old_of_cell c2
      have HE := Lib.hid he; clear he
      by_cases hq : xs[k] = ys[k]
      · have hb : ((xs[k].toNat : Int) != (ys[k].toNat : Int)) = false := by rw [hq]; simp
        have HQ := Lib.hid hq; clear hq
        go_wp2
        go_region
        all_goals go_wp2
        all_goals go_roundw
        case rel => exact ⟨k + 1, by go_num, by omega, beq_snoc hkx hky HE.out HQ.out, by (refine Gr.of ?_; repeat (first | with_reducible exact Below.refl _ _ | with_reducible apply below_alloc | ((with_reducible refine below_set ?_ ?hq _); case hq => (first | omega | exact Nat.le_of_lt (grown_lt _ _ _) | assumption)) | with_reducible refine below_trans ?_ (grown_below _ _) | ((with_reducible refine below_iter ?_ ?hq _ _); case hq => (first | omega | exact Nat.le_of_lt (grown_lt _ _ _) | (simp; omega))) | with_reducible apply Below.drew | with_reducible refine below_trans ?_ (by assumption)))⟩
        case measure => simp [intOf]; omega
      · have hb : ((xs[k].toNat : Int) != (ys[k].toNat : Int)) = true := by
          simp only [bne_iff_ne, ne_eq]; intro h; exact hq (UInt8.toNat_inj.1 (by omega))
        have hne : (xs == ys) = false := by
          simp only [beq_eq_false_iff_ne, ne_eq]; intro h; subst h; exact hq rfl
        have HN := Lib.hid hne; clear hne hq
        go_wp2
        go_region
        all_goals go_wp2
        all_goals go_ret
        exact ⟨by rw [HN.out]; rfl, by (refine Gr.of ?_; repeat (first | with_reducible exact Below.refl _ _ | with_reducible apply below_alloc | ((with_reducible refine below_set ?_ ?hq _); case hq => (first | omega | exact Nat.le_of_lt (grown_lt _ _ _) | assumption)) | with_reducible refine below_trans ?_ (grown_below _ _) | ((with_reducible refine below_iter ?_ ?hq _ _); case hq => (first | omega | exact Nat.le_of_lt (grown_lt _ _ _) | (simp; omega))) | with_reducible apply Below.drew | with_reducible refine below_trans ?_ (by assumption)))⟩
    · have hkn : k = n := by omega
      have hne : (xs == ys) = true := by
        have e1 : xs.take k = xs := List.take_of_length_le (by have := HX.out; omega)
        have e2 : ys.take k = ys := List.take_of_length_le (by have := HY.out; omega)
        rw [e1, e2] at he
        subst he; simp
      have HN := Lib.hid hne; clear hne he hkn
      go_wp2
      go_ret
      exact ⟨by rw [HN.out]; rfl, by (refine Gr.of ?_; repeat (first | with_reducible exact Below.refl _ _ | with_reducible apply below_alloc | ((with_reducible refine below_set ?_ ?hq _); case hq => (first | omega | exact Nat.le_of_lt (grown_lt _ _ _) | assumption)) | with_reducible refine below_trans ?_ (grown_below _ _) | ((with_reducible refine below_iter ?_ ?hq _ _); case hq => (first | omega | exact Nat.le_of_lt (grown_lt _ _ _) | (simp; omega))) | with_reducible apply Below.drew | with_reducible refine below_trans ?_ (by assumption)))⟩
theorem equalB_any (A B : Option Addr) (n c m d : Nat) (xs ys : List UInt8) (w : World) (hx : xs.length = n) (hy : ys.length = m) (hn : n ≤ 9223372036854775807) (h1 : Row bv w A xs) (h2 : Row bv w B ys) :
    Calls Tryd.prog 85 #[.slice A n c, .slice B m d] w fun e w' => e = .returned (.bool (xs == ys)) ∧ Gr w w' := by
  by_cases h : n = m
  · subst h
    rcases Nat.eq_zero_or_pos n with h0 | h0
    · subst h0
      have e1 : xs = [] := List.eq_nil_of_length_eq_zero hx
      have e2 : ys = [] := List.eq_nil_of_length_eq_zero hy
      subst e1 e2
      exact equalB_empty A B c d w
    · obtain ⟨b1, o1, rfl, _, hc1⟩ := h1.at_ (by rintro rfl; simp at hx; omega)
      obtain ⟨b2, o2, rfl, _, hc2⟩ := h2.at_ (by rintro rfl; simp at hy; omega)
      exact equalB_some b1 o1 b2 o2 n c d xs ys w hx hy hn hc1 hc2
  · have : (xs == ys) = false := by simp only [beq_eq_false_iff_ne, ne_eq]; rintro rfl; omega
    rw [this]
    exact equalB_lens A B n c m d w h
end Go.Proofs.YtgjdgafoidppaaaDoor
