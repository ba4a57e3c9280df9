/- wire.Hex, script.sectorText. Conditions: what is read stands in memory. -/
import Derived.Test.YtgjdgafoidppaaaDoorSBld
import Derived.Test.YtgjdgafoidppaaaDoorSLeaf
import Derived.LoopTactic
import Derived.Outline
namespace Go.Proofs.YtgjdgafoidppaaaDoor
open Go.RowKit
set_option linter.unusedVariables false
set_option linter.unusedSimpArgs false
set_option linter.unnecessarySimpa false
def hexd (n : Nat) : UInt8 := if n < 10 then (48 + n).toUInt8 else (87 + n).toUInt8
def hexL (l : List UInt8) : List UInt8 := l.flatMap fun c => [hexd (c.toNat / 16), hexd (c.toNat % 16)]
theorem hexL_snoc (l : List UInt8) (c : UInt8) : hexL (l ++ [c]) = hexL l ++ [hexd (c.toNat / 16), hexd (c.toNat % 16)] := by simp [hexL]
theorem hexL_len (l : List UInt8) : (hexL l).length = 2 * l.length := by
  induction l with
  | nil => rfl
  | cons c l ih => simp [hexL] at ih ⊢; omega
theorem letter_fin : ∀ i : Fin 16, (#[48, 49, 50, 51, 52, 53, 54, 55, 56, 57, 97, 98, 99, 100, 101, 102] : Array UInt8)[i.val]'(by have := i.isLt; simpa using this) = hexd i.val := by decide
theorem letter_at (i : Nat) (h : i < 16) {hp} : ((⟨#[48, 49, 50, 51, 52, 53, 54, 55, 56, 57, 97, 98, 99, 100, 101, 102]⟩ : ByteArray)[i]'hp) = hexd i := letter_fin ⟨i, h⟩
set_option maxRecDepth 100000 in
set_option maxHeartbeats 2000000 in
theorem hex_some (b o n c : Nat) (l : List UInt8) (w : World) (hl : l.length = n) (hn : n ≤ 35184372088832) (hb : b < w.heap.size) (hc : ∀ (j : Nat) (x : UInt8), l[j]? = some x → w.cell? ⟨b, o + j, none⟩ = some (bv x)) :
    Calls Tryd.prog 60 #[.slice (some ⟨b, o, none⟩) n c] w fun e w' => e = .returned (.string ⟨(hexL l).toArray⟩) ∧ Gr w w' := by
  have HC := Lib.hid hc; clear hc
  have HL := Lib.hid hl; clear hl
  go_enter Tryd.func60, Tryd.ntmps60
  go_wp2
  go_loopw [8] (fun i wr => ∃ k : Nat, i = .int .i64 k ∧ k ≤ n ∧ Lib.IsBuilderF 83 5 w.heap.size w.heap.size (Lib.byteCells (hexL (l.take k))) wr ∧ Below w.heap.size w wr) (fun i _ => n - (intOf i).toNat)
  case atStart => exact ⟨0, rfl, Nat.zero_le _, (Lib.IsBuilderF.of (Lib.fresh_isBuilder 83 5 w)), (Below.refl _ _).alloc (Nat.le_refl _) _⟩
  case round =>
    obtain ⟨k, rfl, hk, hI, hbw⟩ := hrel
    by_cases hlt : k < n
    · have hkx : k < l.length := by have := HL.out; omega
      obtain ⟨x, hx⟩ : ∃ x, l[k]? = some x := ⟨l[k], List.getElem?_eq_getElem hkx⟩
      have c1 := (hbw.cell (p := ⟨b, o + k, none⟩) hb).trans (HC.out k x hx)
      simp only [bv] at c1
      have hu := x.toNat_lt
      have HX := Lib.hid hx; clear hx hkx
      generalize hxu : x.toNat = u at c1 hu
      have HU := Lib.hid hxu; clear hxu
      have hu2 : u < 256 := by omega
      clear hu
      have hln : (Lib.byteCells (hexL (l.take k))).length ≤ 2 * k := by
        rw [Lib.byteCells_length, hexL_len, List.length_take]; omega
      have hsz := hbw.size
      go_wp2_with (go_at_call 83; refine (writeByte_k w.heap.size w.heap.size _ _ _ hI (by omega) (by simpa using hsz)).mono ?_)
      rintro e W1 ⟨rfl, h1, b1, k1⟩
      have hI1 : Lib.IsBuilderF 83 5 w.heap.size w.heap.size _ W1 := Or.inr h1
      have hsz1 := b1.size
      go_wp2_with (go_at_call 83; refine (writeByte_k w.heap.size w.heap.size _ _ _ hI1 (by simp only [List.length_append, List.length_cons, List.length_nil]; omega) (by omega)).mono ?_)
      rintro e W2 ⟨rfl, h2, b2, k2⟩
      go_wp2
      go_roundw
      case rel =>
        refine ⟨k + 1, by go_num, by omega, ?_, (hbw.trans b1).trans b2⟩
        have hx := HX.out
        have hkx : k < l.length := (List.getElem?_eq_some_iff.1 hx).1
        have e1 : l.take (k + 1) = l.take k ++ [x] := by
          rw [List.take_add_one, hx]; rfl
        have e2 : x.toNat = u := HU.out
        rw [e1, hexL_snoc, e2, Lib.byteCells_append]
        have h3 : Lib.IsBuilderF 83 5 w.heap.size w.heap.size _ W2 := Or.inr h2
        rw [letter_at (u / 16) (by omega), letter_at (u % 16) (by omega)] at h3
        rw [List.append_assoc] at h3
        exact h3
      case measure => simp [intOf]; omega
    · have hkn : k = n := by omega
      have e1 : l.take k = l := List.take_of_length_le (by have := HL.out; omega)
      rw [e1] at hI
      have HK := Lib.hid hkn; clear hkn e1
      have hsz := hbw.size
      go_wp2_with (go_at_call 46; refine (Tryd.Builder_String_any_k w.heap.size w.heap.size (hexL l) _ hI (by simpa using hsz)).mono ?_)
      rintro e W1 ⟨rfl, _, b1, _⟩
      go_wp2
      go_ret
      exact ⟨rfl, Gr.of (hbw.trans b1)⟩
theorem hex_none (A : Option Addr) (c : Nat) (w : World) :
    Calls Tryd.prog 60 #[.slice A 0 c] w fun e w' => e = .returned (.string ⟨#[]⟩) ∧ Gr w w' := by
  have hI : Lib.IsBuilderF 83 5 w.heap.size w.heap.size (Lib.byteCells []) (w.alloc (.cells #[.pointer none, .slice none 0 0] 83)) := Lib.IsBuilderF.of (Lib.fresh_isBuilder 83 5 w)
  go_enter Tryd.func60, Tryd.ntmps60
  go_wp2
  refine wp_loop_rounds 1 ?_
  rw [rounds_succ]
  go_wp2_with (go_at_call 46; refine (Tryd.Builder_String_any_k w.heap.size w.heap.size [] _ hI (by simp)).mono ?_)
  rintro e W1 ⟨rfl, _, b1, _⟩
  go_wp2
  go_ret
  exact ⟨rfl, Gr.of (((Below.refl _ _).alloc (Nat.le_refl _) _).trans b1)⟩
theorem hex_any (A : Option Addr) (n c : Nat) (l : List UInt8) (w : World) (hl : l.length = n) (hn : n ≤ 35184372088832) (h : Row bv w A l) :
    Calls Tryd.prog 60 #[.slice A n c] w fun e w' => e = .returned (.string ⟨(hexL l).toArray⟩) ∧ Gr w w' := by
  rcases Nat.eq_zero_or_pos n with h0 | h0
  · subst h0
    obtain rfl : l = [] := List.eq_nil_of_length_eq_zero hl
    exact hex_none A c w
  · obtain ⟨b, o, rfl, hb, hc⟩ := h.at_ (by rintro rfl; simp at hl; omega)
    exact hex_some b o n c l w hl hn hb hc
end Go.Proofs.YtgjdgafoidppaaaDoor
