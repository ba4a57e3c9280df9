/- script.sectorText, script.rowText. Conditions: what is read stands in memory. -/
import Derived.Test.YtgjdgafoidppaaaDoorSHex
namespace Go.Proofs.YtgjdgafoidppaaaDoor
open Go.RowKit
set_option linter.unusedVariables false
set_option linter.unusedSimpArgs false
set_option linter.unnecessarySimpa false
def trimZ (l : List UInt8) : List UInt8 := (l.reverse.dropWhile (· == 0)).reverse
def secL (l : List UInt8) : List UInt8 := if trimZ l = [] then [45] else hexL (trimZ l)
theorem trimZ_zero (l : List UInt8) : trimZ (l ++ [0]) = trimZ l := by simp [trimZ]
theorem trimZ_ne (l : List UInt8) (c : UInt8) (h : c ≠ 0) : trimZ (l ++ [c]) = l ++ [c] := by simp [trimZ, h]
theorem ret_str {a b : ByteArray} (h : a = b) : Ending.returned (.string a) = .returned (.string b) := by rw [h]
theorem take_snoc1 {α : Type} {l : List α} {k : Nat} {x : α} (h : l[k]? = some x) : l.take (k + 1) = l.take k ++ [x] := by
  rw [List.take_add_one, h]; rfl
theorem sectorText_none (A : Option Addr) (c : Nat) (w : World) :
    Calls Tryd.prog 34 #[.slice A 0 c] w fun e w' => e = .returned (.string ⟨#[45]⟩) ∧ Gr w w' := by
  go_enter Tryd.func34, Tryd.ntmps34
  go_wp2
  refine wp_loop_rounds 1 ?_
  rw [rounds_succ]
  go_wp2
  go_ret
  exact ⟨rfl, by (refine Gr.of ?_; repeat (first | with_reducible exact Below.refl _ _ | with_reducible apply below_alloc | with_reducible refine below_set' ?_ _ | with_reducible refine below_trans ?_ (grown_below _ _) | with_reducible refine below_iter' ?_ _ _ | with_reducible apply Below.drew | with_reducible refine below_trans ?_ (by assumption)))⟩
set_option maxRecDepth 100000 in
set_option maxHeartbeats 2000000 in
theorem sectorText_some (b o n c : Nat) (l : List UInt8) (w : World) (hl : l.length = n) (hnc : n ≤ c) (hn : n ≤ 35184372088832) (hb : b < w.heap.size) (hc : ∀ (j : Nat) (x : UInt8), l[j]? = some x → w.cell? ⟨b, o + j, none⟩ = some (bv x)) :
    Calls Tryd.prog 34 #[.slice (some ⟨b, o, none⟩) n c] w fun e w' => e = .returned (.string ⟨(secL l).toArray⟩) ∧ Gr w w' := by
  have HC := Lib.hid hc; clear hc
  have HL := Lib.hid hl; clear hl
  go_enter Tryd.func34, Tryd.ntmps34
  go_wp2
  go_loopw [3] (fun i wr => ∃ m : Nat, i = .int .i64 m ∧ m ≤ n ∧ Hid (trimZ (l.take m) = trimZ l) ∧ wr = w) (fun i _ => (intOf i).toNat)
  case atStart => exact ⟨n, rfl, Nat.le_refl _, by rw [List.take_of_length_le (by have := HL.out; omega)]; exact Lib.hid rfl, rfl⟩
  case round =>
    obtain ⟨m, rfl, hm, hT, rfl⟩ := hrel
    rcases Nat.eq_zero_or_pos m with h0 | h0
    · subst h0
      have e0 : (⟨(secL l).toArray⟩ : ByteArray) = ⟨#[45]⟩ := by
        have := hT.out
        have e1 : trimZ l = [] := by rw [← this]; rfl
        simp [secL, e1]
      have E := Lib.hid e0; clear e0
      go_wp2
      go_ret
      exact ⟨by rw [E.out]; rfl, Gr.refl _⟩
    · obtain ⟨q, rfl⟩ : ∃ q, m = q + 1 := ⟨m - 1, by omega⟩
      have hqx : q < l.length := by have := HL.out; omega
      obtain ⟨x, hx⟩ : ∃ x, l[q]? = some x := ⟨l[q], List.getElem?_eq_getElem hqx⟩
      have c1 := HC.out q x hx
      simp only [bv] at c1
      have HX := Lib.hid hx; clear hx hqx h0
      by_cases hz : x = 0
      · have hxu : x.toNat = 0 := by rw [hz]; rfl
        have hb0 : ((x.toNat : Int) == 0) = true := by simp [hxu]
        have HZ := Lib.hid hz; clear hz hxu
        go_wp2
        go_roundw
        case rel => exact ⟨q, by go_num, by omega, by
          have := hT.out
          rw [take_snoc1 HX.out, HZ.out, trimZ_zero] at this
          exact Lib.hid this, trivial⟩
        case measure => simp [intOf]
      · have hxu : x.toNat ≠ 0 := fun h => hz (UInt8.toNat_inj.1 (by simpa using h))
        have hb0 : ((x.toNat : Int) == 0) = false := by simp; omega
        have e1 : trimZ l = l.take (q + 1) := by
          have := hT.out
          rw [take_snoc1 HX.out, trimZ_ne _ _ hz] at this
          rw [take_snoc1 HX.out]; exact this.symm
        have e2 : secL l = hexL (l.take (q + 1)) := by
          have hne : l.take (q + 1) ≠ [] := by rw [take_snoc1 HX.out]; simp
          rw [secL, e1, if_neg hne]
        have E := Lib.hid e2; clear e2 e1 hz hxu hT
        have hlt : (l.take (q + 1)).length = q + 1 := by
          have := HL.out; rw [List.length_take]; omega
        have HT := Lib.hid hlt; clear hlt
        have HR : Hid (Row bv wr (some ⟨b, o, none⟩) (l.take (q + 1))) := ⟨fun _ => ⟨b, o, rfl, hb, fun j y hy => HC.out j y (by
          rw [List.getElem?_take] at hy
          split at hy
          · exact hy
          · cases hy)⟩⟩
        go_wp2_with (go_at_call 60; ((with_reducible refine (hex_any _ _ _ (l.take (q + 1)) _ HT.out (by omega) HR.out).mono ?_); rintro _ _ ⟨rfl, g, rfl⟩))
        go_ret
        exact ⟨by rw [E.out]; rfl, by (refine Gr.of ?_; repeat (first | with_reducible exact Below.refl _ _ | with_reducible apply below_alloc | with_reducible refine below_set' ?_ _ | with_reducible refine below_trans ?_ (grown_below _ _) | with_reducible refine below_iter' ?_ _ _ | with_reducible apply Below.drew | with_reducible refine below_trans ?_ (by assumption)))⟩
theorem sectorText_any (A : Option Addr) (n c : Nat) (l : List UInt8) (w : World) (hl : l.length = n) (hnc : n ≤ c) (hn : n ≤ 35184372088832) (h : Row bv w A l) :
    Calls Tryd.prog 34 #[.slice A n c] w fun e w' => e = .returned (.string ⟨(secL l).toArray⟩) ∧ Gr w w' := by
  rcases Nat.eq_zero_or_pos n with h0 | h0
  · subst h0
    obtain rfl : l = [] := List.eq_nil_of_length_eq_zero hl
    exact sectorText_none A c w
  · obtain ⟨b, o, rfl, hb, hc⟩ := h.at_ (by rintro rfl; simp at hl; omega)
    exact sectorText_some b o n c l w hl hnc hn hb hc
/-- Words with a letter between. -/
def rowL (xs : List ByteArray) : List UInt8 := if xs = [] then [45] else Lib.join (xs.map (·.data.toList)) [44]
theorem rowText_any (A : Option Addr) (n c : Nat) (xs : List ByteArray) (w : World) (hl : xs.length = n) (hnc : n ≤ c) (hn : n ≤ 140737488355328) (hj : (Lib.join (xs.map (·.data.toList)) [44]).length ≤ 140737488355328) (h : Row Value.string w A xs) :
    Calls Tryd.prog 35 #[.slice A n c] w fun e w' => e = .returned (.string ⟨(rowL xs).toArray⟩) ∧ Gr w w' := by
  rcases Nat.eq_zero_or_pos n with h0 | h0
  · subst h0
    obtain rfl : xs = [] := List.eq_nil_of_length_eq_zero hl
    go_enter Tryd.func35, Tryd.ntmps35
    go_wp2
    go_ret
    exact ⟨rfl, by (refine Gr.of ?_; repeat (first | with_reducible exact Below.refl _ _ | with_reducible apply below_alloc | with_reducible refine below_set' ?_ _ | with_reducible refine below_trans ?_ (grown_below _ _) | with_reducible refine below_iter' ?_ _ _ | with_reducible apply Below.drew | with_reducible refine below_trans ?_ (by assumption)))⟩
  · obtain ⟨b, o, rfl, hb, hc⟩ := h.at_ (by rintro rfl; simp at hl; omega)
    have hne : xs ≠ [] := by rintro rfl; simp at hl; omega
    have e0 : rowL xs = Lib.join (xs.map (·.data.toList)) [44] := by rw [rowL, if_neg hne]
    have E := Lib.hid e0; clear e0 hne
    have hJ := Lib.hid (fun W (hb' : b < W.heap.size) (hc' : ∀ (j : Nat) x, xs[j]? = some x → W.cell? ⟨b, o + j, none⟩ = some (.string x)) => Tryd.strings_Join b o c xs ⟨#[44]⟩ W hc' hb' (by omega) (by omega) hj)
    subst hl
    have hc' : ∀ (j : Nat) x, xs[j]? = some x → w.cell? ⟨b, o + j, none⟩ = some (.string x) := hc
    have HC := Lib.hid hc'; clear hc hc' hj
    have h0' : ((xs.length : Int) == 0) = false := by simp; rintro rfl; simp at h0
    go_enter Tryd.func35, Tryd.ntmps35
    go_wp2_with (go_at_call 57; ((with_reducible refine (hJ.out _ hb HC.out).mono ?_); rintro _ w1 ⟨rfl, hb1⟩))
    go_ret
    exact ⟨by rw [E.out]; rfl, Gr.of hb1⟩
end Go.Proofs.YtgjdgafoidppaaaDoor
