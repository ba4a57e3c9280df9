/- What small functions of layers 13, 26 answer. Conditions: what is read stands in memory. wire.Hex, script.sectorText. Conditions: what is read stands in memory. script.sectorText, script.rowText. Conditions: what is read stands in memory. script.DataText: whole sectors, told one behind the other. Conditions: what is read stands in memory; at most 100000 bytes. Blocks whose cells are known, found by instances at any depth. Conditions: none. A slice of the call's own, of elements of one cell: what keeps it, and 'l = append(l, x..)'. Conditions: at most 10^8 elements. The letters of what the kinds have, one by one. Conditions: none. strings.IndexRune at hex's letters. Conditions: the rune is at most 0x10FFFF. wire.Unhex: the bytes of hex's letters. Conditions: a text of at most 10^7 bytes. wire.Decimal: a number that is read. Conditions: a text of at most 10^9 bytes. -/
import Derived.Test.YtgjdgafoidppaaaGreatDoorP01
import Derived.LoopTactic
import Derived.Outline
import Derived.Deep.AppendLies
import Derived.OwnWalk
import Derived.WalkKit
import Derived.BigQuiet
import Derived.Deep.QuietTactic
import Derived.WalkSmall
import Derived.Lib.RuneCount
import Derived.Lib.QuoteLoop
import Derived.Lib.Strings
namespace Go.Proofs.YtgjdgafoidppaaaGreatDoor
open Go.RowKit
set_option linter.unusedVariables false
set_option linter.unusedSimpArgs false
set_option linter.unnecessarySimpa false
def bv (b : UInt8) : Value := .int .u8 (b.toNat : Int)
def iv (n : Int) : Value := .int .i64 n
structure Row {α : Type} (enc : α → Value) (W : World) (A : Option Addr) (l : List α) : Prop where
 at_ : l ≠ [] → ∃ b o, A = some ⟨b, o, none⟩ ∧ b < W.heap.size ∧ ∀ j x, l[j]? = some x → W.cell? ⟨b, o + j, none⟩ = some (enc x)
theorem Row.nil {α : Type} {enc : α → Value} {W : World} {A : Option Addr} : Row enc W A [] := ⟨fun h => absurd rfl h⟩
theorem Row.gr {α : Type} {enc : α → Value} {W W' : World} {A : Option Addr} {l : List α} (h : Row enc W A l) (hg : Gr W W') : Row enc W' A l :=
 ⟨fun h0 => by
  obtain ⟨b, o, rfl, hb, hc⟩ := h.at_ h0
  exact ⟨b, o, rfl, Nat.lt_of_lt_of_le hb hg.below.size, fun j x hx => (hg.below.cell (p := ⟨b, o + j, none⟩) hb).trans (hc j x hx)⟩⟩
theorem may26_any (n : Int) (w : World) : Calls Tryz.prog 60 #[.int .i64 n] w fun e w' => e = .returned (.bool (decide (0 ≤ n) && decide (n ≤ 1000000))) ∧ w = w' := by
 by_cases h : 0 ≤ n
 ·by_cases h2 : n ≤ 1000000
  ·go_enter Tryz.func60, Tryz.ntmps60
   go_wp2
   go_ret
   exact ⟨by simp [h, h2], rfl⟩
  ·have h3 : decide (n ≤ 1000000) = false := by simpa using h2
   go_enter Tryz.func60, Tryz.ntmps60
   go_wp2
   go_ret
   exact ⟨by simp [h, h2], rfl⟩
 ·have h3 : decide (0 ≤ n) = false := by simpa using h
  go_enter Tryz.func60, Tryz.ntmps60
  go_wp2
  go_ret
  exact ⟨by simp [h], rfl⟩
theorem beq_snoc {α : Type} [BEq α] [LawfulBEq α] {xs ys : List α} {k : Nat} (hx : k < xs.length) (hy : k < ys.length) (h : xs.take k = ys.take k) (he : xs[k] = ys[k]) : xs.take (k + 1) = ys.take (k + 1) := by
 rw [List.take_succ_eq_append_getElem hx, List.take_succ_eq_append_getElem hy, h, he]
theorem equalB_lens (A B : Option Addr) (n c m d : Nat) (w : World) (h : n ≠ m) :
  Calls Tryz.prog 99 #[.slice A n c, .slice B m d] w fun e w' => e = .returned (.bool false) ∧ Gr w w' := by
 have h2 : ((n : Int) != (m : Int)) = true := by simp; omega
 go_enter Tryz.func99, Tryz.ntmps99
 go_wp2
 go_ret
 exact ⟨rfl, gri⟩
theorem equalB_empty (A B : Option Addr) (c d : Nat) (w : World) :
  Calls Tryz.prog 99 #[.slice A 0 c, .slice B 0 d] w fun e w' => e = .returned (.bool true) ∧ Gr w w' := by
 go_enter Tryz.func99, Tryz.ntmps99
 go_wp2
 refine wp_loop_rounds 1 ?_
 rw [rounds_succ]
 go_wp2
 go_ret
 exact ⟨rfl, gri⟩
set_option maxHeartbeats 1000000 in
theorem equalB_some (b1 o1 b2 o2 n c d : Nat) (xs ys : List UInt8) (w : World) (hx : xs.length = n) (hy : ys.length = n) (hn : n ≤ 9223372036854775807)
  (h1 : ∀ (j : Nat) (x : UInt8), xs[j]? = some x → w.cell? ⟨b1, o1 + j, none⟩ = some (bv x)) (h2 : ∀ (j : Nat) (x : UInt8), ys[j]? = some x → w.cell? ⟨b2, o2 + j, none⟩ = some (bv x)) :
  Calls Tryz.prog 99 #[.slice (some ⟨b1, o1, none⟩) n c, .slice (some ⟨b2, o2, none⟩) n d] w fun e w' => e = .returned (.bool (xs == ys)) ∧ Gr w w' := by
 have H1 := Lib.hid h1; clear h1
 have H2 := Lib.hid h2; clear h2
 have HX := Lib.hid hx; clear hx
 have HY := Lib.hid hy; clear hy
 go_enter Tryz.func99, Tryz.ntmps99
 go_wp2
 go_loopw [13] (fun i wr => ∃ k : Nat, i = .int .i64 k ∧ k ≤ n ∧ xs.take k = ys.take k ∧ Gr w wr) (fun i _ => n - (intOf i).toNat)
 case atStart => exact ⟨0, rfl, by omega, rfl, Gr.refl _⟩
 case round =>
  obtain ⟨k, rfl, hk, he, hg⟩ := hrel
  obtain ⟨g, rfl⟩ := hg
  by_cases hlt : k < n
  ·have hkx : k < xs.length := by have := HX.out; omega
   have hky : k < ys.length := by have := HY.out; omega
   have c1 := H1.out k xs[k] (List.getElem?_eq_getElem hkx)
   have c2 := H2.out k ys[k] (List.getElem?_eq_getElem hky)
   simp only [bv] at c1 c2
   haveI i1 : Old b1 w := old_of_cell c1
   haveI i2 : Old b2 w := old_of_cell c2
   have HE := Lib.hid he; clear he
   by_cases hq : xs[k] = ys[k]
   ·have hb : ((xs[k].toNat : Int) != (ys[k].toNat : Int)) = false := by rw [hq]; simp
    have HQ := Lib.hid hq; clear hq
    go_wp2
    go_region
    all_goals go_wp2
    all_goals go_roundw
    case rel => exact ⟨k + 1, by go_num, by omega, beq_snoc hkx hky HE.out HQ.out, gri⟩
    case measure => simp [intOf]; omega
   ·have hb : ((xs[k].toNat : Int) != (ys[k].toNat : Int)) = true := by
     simp only [bne_iff_ne, ne_eq]; intro h; exact hq (UInt8.toNat_inj.1 (by omega))
    have hne : (xs == ys) = false := by
     simp only [beq_eq_false_iff_ne, ne_eq]; intro h; subst h; exact hq rfl
    have HN := Lib.hid hne; clear hne hq
    go_wp2
    go_region
    all_goals go_wp2
    all_goals go_ret
    exact ⟨by rw [HN.out]; rfl, gri⟩
  ·have hkn : k = n := by omega
   have hne : (xs == ys) = true := by
    have e1 : xs.take k = xs := List.take_of_length_le (by have := HX.out; omega)
    have e2 : ys.take k = ys := List.take_of_length_le (by have := HY.out; omega)
    rw [e1, e2] at he
    subst he; simp
   have HN := Lib.hid hne; clear hne he hkn
   go_wp2
   go_ret
   exact ⟨by rw [HN.out]; rfl, gri⟩
theorem equalB_any (A B : Option Addr) (n c m d : Nat) (xs ys : List UInt8) (w : World) (hx : xs.length = n) (hy : ys.length = m) (hn : n ≤ 9223372036854775807) (h1 : Row bv w A xs) (h2 : Row bv w B ys) :
  Calls Tryz.prog 99 #[.slice A n c, .slice B m d] w fun e w' => e = .returned (.bool (xs == ys)) ∧ Gr w w' := by
 by_cases h : n = m
 ·subst h
  rcases Nat.eq_zero_or_pos n with h0 | h0
  ·subst h0
   have e1 : xs = [] := List.eq_nil_of_length_eq_zero hx
   have e2 : ys = [] := List.eq_nil_of_length_eq_zero hy
   subst e1 e2
   exact equalB_empty A B c d w
  ·obtain ⟨b1, o1, rfl, _, hc1⟩ := h1.at_ (by rintro rfl; simp at hx; omega)
   obtain ⟨b2, o2, rfl, _, hc2⟩ := h2.at_ (by rintro rfl; simp at hy; omega)
   exact equalB_some b1 o1 b2 o2 n c d xs ys w hx hy hn hc1 hc2
 ·have : (xs == ys) = false := by simp only [beq_eq_false_iff_ne, ne_eq]; rintro rfl; omega
  rw [this]
  exact equalB_lens A B n c m d w h
def hexd (n : Nat) : UInt8 := if n < 10 then (48 + n).toUInt8 else (87 + n).toUInt8
def hexL (l : List UInt8) : List UInt8 := l.flatMap fun c => [hexd (c.toNat / 16), hexd (c.toNat % 16)]
theorem hexL_snoc (l : List UInt8) (c : UInt8) : hexL (l ++ [c]) = hexL l ++ [hexd (c.toNat / 16), hexd (c.toNat % 16)] := by simp [hexL]
theorem hexL_len (l : List UInt8) : (hexL l).length = 2 * l.length := by
 induction l with
 | nil => rfl
 | cons c l ih => simp [hexL] at ih ⊢; omega
theorem letter_fin : ∀ i : Fin 16, (#[48, 49, 50, 51, 52, 53, 54, 55, 56, 57, 97, 98, 99, 100, 101, 102] : Array UInt8)[i.val]'(by have := i.isLt; simpa using this) = hexd i.val := by decide
theorem letter_at (i : Nat) (h : i < 16) {hp} : ((⟨#[48, 49, 50, 51, 52, 53, 54, 55, 56, 57, 97, 98, 99, 100, 101, 102]⟩ : ByteArray)[i]'hp) = hexd i := letter_fin ⟨i, h⟩
set_option maxRecDepth 100000 in
set_option maxHeartbeats 2000000 in
theorem hex_some (b o n c : Nat) (l : List UInt8) (w : World) (hl : l.length = n) (hn : n ≤ 35184372088832) (hb : b < w.heap.size) (hc : ∀ (j : Nat) (x : UInt8), l[j]? = some x → w.cell? ⟨b, o + j, none⟩ = some (bv x)) :
  Calls Tryz.prog 121 #[.slice (some ⟨b, o, none⟩) n c] w fun e w' => e = .returned (.string ⟨(hexL l).toArray⟩) ∧ Gr w w' := by
 have HC := Lib.hid hc; clear hc
 have HL := Lib.hid hl; clear hl
 go_enter Tryz.func121, Tryz.ntmps121
 go_wp2
 go_loopw [8] (fun i wr => ∃ k : Nat, i = .int .i64 k ∧ k ≤ n ∧ Lib.IsBuilderF 110 5 w.heap.size w.heap.size (Lib.byteCells (hexL (l.take k))) wr ∧ Below w.heap.size w wr) (fun i _ => n - (intOf i).toNat)
 case atStart => exact ⟨0, rfl, Nat.zero_le _, (Lib.IsBuilderF.of (Lib.fresh_isBuilder 110 5 w)), (Below.refl _ _).alloc (Nat.le_refl _) _⟩
 case round =>
  obtain ⟨k, rfl, hk, hI, hbw⟩ := hrel
  by_cases hlt : k < n
  ·have hkx : k < l.length := by have := HL.out; omega
   obtain ⟨x, hx⟩ : ∃ x, l[k]? = some x := ⟨l[k], List.getElem?_eq_getElem hkx⟩
   have c1 := (hbw.cell (p := ⟨b, o + k, none⟩) hb).trans (HC.out k x hx)
   simp only [bv] at c1
   have hu := x.toNat_lt
   have HX := Lib.hid hx; clear hx hkx
   generalize hxu : x.toNat = u at c1 hu
   have HU := Lib.hid hxu; clear hxu
   have hu2 : u < 256 := by omega
   clear hu
   have hln : (Lib.byteCells (hexL (l.take k))).length ≤ 2 * k := by
    rw [Lib.byteCells_length, hexL_len, List.length_take]; omega
   have hsz := hbw.size
   go_wp2_with (go_at_call 136; refine (writeByte_k w.heap.size w.heap.size _ _ _ hI (by omega) (by simpa using hsz)).mono ?_)
   rintro e W1 ⟨rfl, h1, b1, k1⟩
   have hI1 : Lib.IsBuilderF 110 5 w.heap.size w.heap.size _ W1 := Or.inr h1
   have hsz1 := b1.size
   go_wp2_with (go_at_call 136; refine (writeByte_k w.heap.size w.heap.size _ _ _ hI1 (by simp only [List.length_append, List.length_cons, List.length_nil]; omega) (by omega)).mono ?_)
   rintro e W2 ⟨rfl, h2, b2, k2⟩
   go_wp2
   go_roundw
   case rel =>
    refine ⟨k + 1, by go_num, by omega, ?_, (hbw.trans b1).trans b2⟩
    have hx := HX.out
    have hkx : k < l.length := (List.getElem?_eq_some_iff.1 hx).1
    have e1 : l.take (k + 1) = l.take k ++ [x] := by
     rw [List.take_add_one, hx]; rfl
    have e2 : x.toNat = u := HU.out
    rw [e1, hexL_snoc, e2, Lib.byteCells_append]
    have h3 : Lib.IsBuilderF 110 5 w.heap.size w.heap.size _ W2 := Or.inr h2
    rw [letter_at (u / 16) (by omega), letter_at (u % 16) (by omega)] at h3
    rw [List.append_assoc] at h3
    exact h3
   case measure => simp [intOf]; omega
  ·have hkn : k = n := by omega
   have e1 : l.take k = l := List.take_of_length_le (by have := HL.out; omega)
   rw [e1] at hI
   have HK := Lib.hid hkn; clear hkn e1
   have hsz := hbw.size
   go_wp2_with (go_at_call 73; refine (Tryz.Builder_String_any_k w.heap.size w.heap.size (hexL l) _ hI (by simpa using hsz)).mono ?_)
   rintro e W1 ⟨rfl, _, b1, _⟩
   go_wp2
   go_ret
   exact ⟨rfl, Gr.of (hbw.trans b1)⟩
theorem hex_none (A : Option Addr) (c : Nat) (w : World) :
  Calls Tryz.prog 121 #[.slice A 0 c] w fun e w' => e = .returned (.string ⟨#[]⟩) ∧ Gr w w' := by
 have hI : Lib.IsBuilderF 110 5 w.heap.size w.heap.size (Lib.byteCells []) (w.alloc (.cells #[.pointer none, .slice none 0 0] 110)) := Lib.IsBuilderF.of (Lib.fresh_isBuilder 110 5 w)
 go_enter Tryz.func121, Tryz.ntmps121
 go_wp2
 refine wp_loop_rounds 1 ?_
 rw [rounds_succ]
 go_wp2_with (go_at_call 73; refine (Tryz.Builder_String_any_k w.heap.size w.heap.size [] _ hI (by simp)).mono ?_)
 rintro e W1 ⟨rfl, _, b1, _⟩
 go_wp2
 go_ret
 exact ⟨rfl, Gr.of (((Below.refl _ _).alloc (Nat.le_refl _) _).trans b1)⟩
theorem hex_any (A : Option Addr) (n c : Nat) (l : List UInt8) (w : World) (hl : l.length = n) (hn : n ≤ 35184372088832) (h : Row bv w A l) :
  Calls Tryz.prog 121 #[.slice A n c] w fun e w' => e = .returned (.string ⟨(hexL l).toArray⟩) ∧ Gr w w' := by
 rcases Nat.eq_zero_or_pos n with h0 | h0
 ·subst h0
  obtain rfl : l = [] := List.eq_nil_of_length_eq_zero hl
  exact hex_none A c w
 ·obtain ⟨b, o, rfl, hb, hc⟩ := h.at_ (by rintro rfl; simp at hl; omega)
  exact hex_some b o n c l w hl hn hb hc
def trimZ (l : List UInt8) : List UInt8 := (l.reverse.dropWhile (· == 0)).reverse
def secL (l : List UInt8) : List UInt8 := if trimZ l = [] then [45] else hexL (trimZ l)
theorem trimZ_zero (l : List UInt8) : trimZ (l ++ [0]) = trimZ l := by simp [trimZ]
theorem trimZ_ne (l : List UInt8) (c : UInt8) (h : c ≠ 0) : trimZ (l ++ [c]) = l ++ [c] := by simp [trimZ, h]
theorem take_snoc1 {α : Type} {l : List α} {k : Nat} {x : α} (h : l[k]? = some x) : l.take (k + 1) = l.take k ++ [x] := by
 rw [List.take_add_one, h]; rfl
theorem sectorText_none (A : Option Addr) (c : Nat) (w : World) :
  Calls Tryz.prog 106 #[.slice A 0 c] w fun e w' => e = .returned (.string ⟨#[45]⟩) ∧ Gr w w' := by
 go_enter Tryz.func106, Tryz.ntmps106
 go_wp2
 refine wp_loop_rounds 1 ?_
 rw [rounds_succ]
 go_wp2
 go_ret
 exact ⟨rfl, gri⟩
set_option maxRecDepth 100000 in
set_option maxHeartbeats 2000000 in
theorem sectorText_some (b o n c : Nat) (l : List UInt8) (w : World) (hl : l.length = n) (hnc : n ≤ c) (hn : n ≤ 35184372088832) (hb : b < w.heap.size) (hc : ∀ (j : Nat) (x : UInt8), l[j]? = some x → w.cell? ⟨b, o + j, none⟩ = some (bv x)) :
  Calls Tryz.prog 106 #[.slice (some ⟨b, o, none⟩) n c] w fun e w' => e = .returned (.string ⟨(secL l).toArray⟩) ∧ Gr w w' := by
 have HC := Lib.hid hc; clear hc
 have HL := Lib.hid hl; clear hl
 go_enter Tryz.func106, Tryz.ntmps106
 go_wp2
 go_loopw [3] (fun i wr => ∃ m : Nat, i = .int .i64 m ∧ m ≤ n ∧ Hid (trimZ (l.take m) = trimZ l) ∧ wr = w) (fun i _ => (intOf i).toNat)
 case atStart => exact ⟨n, rfl, Nat.le_refl _, by rw [List.take_of_length_le (by have := HL.out; omega)]; exact Lib.hid rfl, rfl⟩
 case round =>
  obtain ⟨m, rfl, hm, hT, rfl⟩ := hrel
  rcases Nat.eq_zero_or_pos m with h0 | h0
  ·subst h0
   have e0 : (⟨(secL l).toArray⟩ : ByteArray) = ⟨#[45]⟩ := by
    have := hT.out
    have e1 : trimZ l = [] := by rw [← this]; rfl
    simp [secL, e1]
   have E := Lib.hid e0; clear e0
   go_wp2
   go_ret
   exact ⟨by rw [E.out]; rfl, Gr.refl _⟩
  ·obtain ⟨q, rfl⟩ : ∃ q, m = q + 1 := ⟨m - 1, by omega⟩
   have hqx : q < l.length := by have := HL.out; omega
   obtain ⟨x, hx⟩ : ∃ x, l[q]? = some x := ⟨l[q], List.getElem?_eq_getElem hqx⟩
   have c1 := HC.out q x hx
   simp only [bv] at c1
   have HX := Lib.hid hx; clear hx hqx h0
   by_cases hz : x = 0
   ·have hxu : x.toNat = 0 := by rw [hz]; rfl
    have hb0 : ((x.toNat : Int) == 0) = true := by simp [hxu]
    have HZ := Lib.hid hz; clear hz hxu
    go_wp2
    go_roundw
    case rel => exact ⟨q, by go_num, by omega, by
     have := hT.out
     rw [take_snoc1 HX.out, HZ.out, trimZ_zero] at this
     exact Lib.hid this, trivial⟩
    case measure => simp [intOf]
   ·have hxu : x.toNat ≠ 0 := fun h => hz (UInt8.toNat_inj.1 (by simpa using h))
    have hb0 : ((x.toNat : Int) == 0) = false := by simp; omega
    have e1 : trimZ l = l.take (q + 1) := by
     have := hT.out
     rw [take_snoc1 HX.out, trimZ_ne _ _ hz] at this
     rw [take_snoc1 HX.out]; exact this.symm
    have e2 : secL l = hexL (l.take (q + 1)) := by
     have hne : l.take (q + 1) ≠ [] := by rw [take_snoc1 HX.out]; simp
     rw [secL, e1, if_neg hne]
    have E := Lib.hid e2; clear e2 e1 hz hxu hT
    have hlt : (l.take (q + 1)).length = q + 1 := by
     have := HL.out; rw [List.length_take]; omega
    have HT := Lib.hid hlt; clear hlt
    have HR : Hid (Row bv wr (some ⟨b, o, none⟩) (l.take (q + 1))) := ⟨fun _ => ⟨b, o, rfl, hb, fun j y hy => HC.out j y (by
     rw [List.getElem?_take] at hy
     split at hy
     ·exact hy
     ·cases hy)⟩⟩
    go_wp2_with (go_at_call 121; ((with_reducible refine (hex_any _ _ _ (l.take (q + 1)) _ HT.out (by omega) HR.out).mono ?_); rintro _ _ ⟨rfl, g, rfl⟩))
    go_ret
    exact ⟨by rw [E.out]; rfl, gri⟩
theorem sectorText_any (A : Option Addr) (n c : Nat) (l : List UInt8) (w : World) (hl : l.length = n) (hnc : n ≤ c) (hn : n ≤ 35184372088832) (h : Row bv w A l) :
  Calls Tryz.prog 106 #[.slice A n c] w fun e w' => e = .returned (.string ⟨(secL l).toArray⟩) ∧ Gr w w' := by
 rcases Nat.eq_zero_or_pos n with h0 | h0
 ·subst h0
  obtain rfl : l = [] := List.eq_nil_of_length_eq_zero hl
  exact sectorText_none A c w
 ·obtain ⟨b, o, rfl, hb, hc⟩ := h.at_ (by rintro rfl; simp at hl; omega)
  exact sectorText_some b o n c l w hl hnc hn hb hc
def rowL (xs : List ByteArray) : List UInt8 := if xs = [] then [45] else Lib.join (xs.map (·.data.toList)) [44]
theorem rowText_any (A : Option Addr) (n c : Nat) (xs : List ByteArray) (w : World) (hl : xs.length = n) (hnc : n ≤ c) (hn : n ≤ 140737488355328) (hj : (Lib.join (xs.map (·.data.toList)) [44]).length ≤ 140737488355328) (h : Row Value.string w A xs) :
  Calls Tryz.prog 92 #[.slice A n c] w fun e w' => e = .returned (.string ⟨(rowL xs).toArray⟩) ∧ Gr w w' := by
 rcases Nat.eq_zero_or_pos n with h0 | h0
 ·subst h0
  obtain rfl : xs = [] := List.eq_nil_of_length_eq_zero hl
  go_enter Tryz.func92, Tryz.ntmps92
  go_wp2
  go_ret
  exact ⟨rfl, gri⟩
 ·obtain ⟨b, o, rfl, hb, hc⟩ := h.at_ (by rintro rfl; simp at hl; omega)
  have hne : xs ≠ [] := by rintro rfl; simp at hl; omega
  have e0 : rowL xs = Lib.join (xs.map (·.data.toList)) [44] := by rw [rowL, if_neg hne]
  have E := Lib.hid e0; clear e0 hne
  have hJ := Lib.hid (fun W (hb' : b < W.heap.size) (hc' : ∀ (j : Nat) x, xs[j]? = some x → W.cell? ⟨b, o + j, none⟩ = some (.string x)) => Tryz.strings_Join b o c xs ⟨#[44]⟩ W hc' hb' (by omega) (by omega) hj)
  subst hl
  have hc' : ∀ (j : Nat) x, xs[j]? = some x → w.cell? ⟨b, o + j, none⟩ = some (.string x) := hc
  have HC := Lib.hid hc'; clear hc hc' hj
  have h0' : ((xs.length : Int) == 0) = false := by simp; rintro rfl; simp at h0
  go_enter Tryz.func92, Tryz.ntmps92
  go_wp2_with (go_at_call 89; ((with_reducible refine (hJ.out _ hb HC.out).mono ?_); rintro _ w1 ⟨rfl, hb1⟩))
  go_ret
  exact ⟨by rw [E.out]; rfl, Gr.of hb1⟩
theorem infoString : (Tryz.prog.info? 9).map (fun i => (i.zero, i.size, i.bytes)) = some (some (.string ⟨#[]⟩), 1, 16) := by kernel_rfl
def OwnS (base : Nat) (W : World) (v : Value) (xs : List ByteArray) : Prop := W.ownsRow base 9 1 v xs.length (xs.map Value.string)
theorem only_of_gr {W W' : World} (h : Gr W W') (row : Option Nat) : W.grownBy W' row := ⟨h.below.os, h.below.tape, h.below.output, h.below.size, fun i hi _ => h.below.block i hi⟩
theorem OwnS.gr {base : Nat} {W W' : World} {v : Value} {xs : List ByteArray} (h : OwnS base W v xs) (hg : Gr W W') : OwnS base W' v xs := by
 refine World.ownsRow.kept h (only_of_gr hg none) ?_
 cases hv : v.ownBlock with
 | none => exact .inl rfl
 | some g => exact .inr (by simp)
theorem OwnS.form {base : Nat} {W : World} {v : Value} {xs : List ByteArray} (h : OwnS base W v xs) : ∃ A c, v = .slice A xs.length c ∧ xs.length ≤ c ∧ Row Value.string W A xs := by
 have h0 := h
 rcases h.2 with ⟨rfl, hn⟩ | ⟨g, cap, cur, rfl, hb, hh, hnc, _⟩
 ·have : xs = [] := List.eq_nil_of_length_eq_zero hn
  subst this
  exact ⟨none, 0, rfl, Nat.le_refl _, Row.nil⟩
 ·refine ⟨_, _, rfl, hnc, ⟨fun _ => ⟨g, 0, rfl, (Array.getElem?_eq_some_iff.1 hh).1, fun j x hx => ?_⟩⟩⟩
  have := World.ownsRow.cells h0 (g := g) rfl j (.string x) (by simp [hx])
  rw [Go.WideShapes.add_plain] at this
  exact this
theorem OwnS.nil (base : Nat) (W : World) : OwnS base W (.slice none 0 0) [] := World.ownsRow_nil _ _ _ _
theorem Row.cut {α : Type} {enc : α → Value} {W : World} {A : Option Addr} {l : List α} (h : Row enc W A l) (k m : Nat) : Row enc W (A.map (·.add k)) ((l.drop k).take m) :=
 ⟨fun h0 => by
  have hl : l ≠ [] := by rintro rfl; simp at h0
  obtain ⟨b, o, rfl, hb, hc⟩ := h.at_ hl
  refine ⟨b, o + k, by simp [Go.WideShapes.add_plain], hb, fun j x hx => ?_⟩
  rw [List.getElem?_take] at hx
  split at hx
  ·rw [List.getElem?_drop] at hx
   rw [Nat.add_assoc]
   exact hc (k + j) x hx
  ·cases hx⟩
def secAt (l : List UInt8) (j : Nat) : ByteArray := ⟨(secL ((l.drop (64 * j)).take 64)).toArray⟩
def secs (l : List UInt8) (k : Nat) : List ByteArray := (List.range k).map (secAt l)
theorem secs_succ (l : List UInt8) (k : Nat) : secs l (k + 1) = secs l k ++ [secAt l k] := by simp [secs, List.range_succ]
theorem secs_len (l : List UInt8) (k : Nat) : (secs l k).length = k := by simp [secs]
def dataL (l : List UInt8) : List UInt8 := rowL (secs l (l.length / 64))
theorem trimZ_len (l : List UInt8) : (trimZ l).length ≤ l.length := by
 unfold trimZ
 rw [List.length_reverse]
 have := (List.dropWhile_suffix (fun x : UInt8 => x == 0) (l := l.reverse)).length_le
 simpa using this
theorem secL_len (l : List UInt8) : (secL l).length ≤ 2 * l.length + 1 := by
 unfold secL
 split
 ·simp
 ·rw [hexL_len]; have := trimZ_len l; omega
theorem join_len (sep : List UInt8) (hs : sep.length = 1) (m : Nat) : ∀ (xs : List (List UInt8)), (∀ x ∈ xs, x.length ≤ m) → (Lib.join xs sep).length ≤ xs.length * (m + 1)
 | [], _ => by simp [Lib.join]
 | [x], h => by
  have := h x (by simp)
  simp [Lib.join]; omega
 | x :: y :: r, h => by
  have h1 := h x (by simp)
  have h2 := join_len sep hs m (y :: r) (fun z hz => h z (by simp at hz ⊢; exact .inr hz))
  have e : Lib.join (x :: y :: r) sep = x ++ sep ++ Lib.join (y :: r) sep := by simp [Lib.join]
  rw [e]
  simp only [List.length_append, List.length_cons, hs] at h2 ⊢
  rw [Nat.add_mul] 
  omega
theorem secs_join (l : List UInt8) (k : Nat) : (Lib.join ((secs l k).map (·.data.toList)) [44]).length ≤ k * 130 := by
 have := join_len [44] rfl 129 ((secs l k).map (·.data.toList)) (fun x hx => by
  simp only [secs, List.map_map, List.mem_map, List.mem_range] at hx
  obtain ⟨j, _, rfl⟩ := hx
  have := secL_len ((l.drop (64 * j)).take 64)
  have h2 : ((l.drop (64 * j)).take 64).length ≤ 64 := by rw [List.length_take]; omega
  simp only [Function.comp, secAt]
  simp
  omega)
 simpa [secs_len] using this
set_option maxRecDepth 100000 in
set_option maxHeartbeats 4000000 in
theorem dataText_any (A : Option Addr) (n c : Nat) (l : List UInt8) (w : World) (hl : l.length = n) (hnc : n ≤ c) (hn : n ≤ 100000) (hr : Row bv w A l) :
  Calls Tryz.prog 88 #[.slice A n c] w fun e w' => e = .returned (.string ⟨(dataL l).toArray⟩) ∧ Gr w w' := by
 obtain ⟨i0, hi, hz0, hz1, hz2⟩ := info_parts infoString
 have HR := Lib.hid hr; clear hr
 have HL := Lib.hid hl; clear hl
 have HI := Lib.hid hi; clear hi
 have HZ := Lib.hid (And.intro hz0 (And.intro hz1 hz2)); clear hz0 hz1 hz2
 go_enter Tryz.func88, Tryz.ntmps88
 go_wp2
 go_loopw [3, 4] (fun v i wr => ∃ k : Nat, i = .int .i64 (64 * k : Nat) ∧ 64 * k ≤ n ∧ OwnS w.heap.size wr v (secs l k) ∧ Below w.heap.size w wr) (fun _ i _ => n - (intOf i).toNat)
 case atStart => exact ⟨0, rfl, Nat.zero_le _, OwnS.nil _ _, Below.refl _ _⟩
 case round =>
  obtain ⟨k, rfl, hk, hown, hbw⟩ := hrel
  obtain ⟨VA, vc, rfl, hvc, hrow⟩ := hown.form
  have hsz := hbw.size
  rw [secs_len] at hvc
  simp only [secs_len] at hown ⊢
  by_cases hlt : 64 * k + 64 ≤ n
  ·have hcut : Row bv wr (A.map (·.add (64 * k))) ((l.drop (64 * k)).take 64) := (HR.out.gr (Gr.of hbw)).cut _ _
   have HCUT := Lib.hid hcut; clear hcut
   have hlen : ((l.drop (64 * k)).take 64).length = 64 := by
    have := HL.out; rw [List.length_take, List.length_drop]; omega
   have HLEN := Lib.hid hlen; clear hlen
   go_wp2_with (go_at_call 106; ((with_reducible refine (sectorText_any _ _ _ ((l.drop (64 * k)).take 64) _ HLEN.out (by omega) (by omega) HCUT.out).mono ?_)))
   rintro _ _ ⟨rfl, hg⟩
   obtain ⟨g, rfl⟩ := hg
   have hown1 : (grown wr g).ownsRow w.heap.size 9 1 (.slice VA k vc) k ((secs l k).map Value.string) := by
    have h1 : OwnS w.heap.size wr (.slice VA k vc) (secs l k) := by simpa only [OwnS, secs_len] using hown
    simpa only [OwnS, secs_len] using h1.gr (Gr.of (grown_below wr g))
   have hi := HI.out
   have hz0 := HZ.out.1
   have hz1 := HZ.out.2.1
   have hz2 := HZ.out.2.2
   have hsz1 := (grown_below wr g).size
   go_wp2_with (at_builtin; refine wpList_append_own _ rfl _ _ 69 rfl w.heap.size 9 i0 (.string ⟨#[]⟩) 1 16 Tryz.underlying69 hi hz0 hz1 hz2 rfl (by decide) _ _ _ rfl (hown1.alloc _) ⟨(grown wr g).heap.size, 0, none⟩ 1 1 [.string ⟨(secL ((l.drop (64 * k)).take 64)).toArray⟩] rfl rfl ?c1 ?c2 ?c3 ?c4 ?c5 ?_)
   case c1 =>
    intro j u hj
    match j, hj with
    | 0, hj => simp at hj; subst hj; simp [Addr.add]
   case c2 => intro u hu; simp at hu; subst hu; rfl
   case c3 => unfold maxLen; omega
   case c4 => omega
   case c5 => simp; omega
   intro v' w2 hown' hgrow _
   have hb2 : Below w.heap.size w w2 := ((below_trans hbw (grown_below wr g)).alloc (Nat.le_trans hsz hsz1) _).grown hgrow (by simp; omega) (fun q hq => (hown1.lt q hq).1)
   clear hi hz0 hz1 hz2 hown1 hgrow
   go_wp2
   go_roundw
   case rel =>
    refine ⟨k + 1, by go_num, by omega, ?_, hb2⟩
    rw [secs_succ]
    simpa [OwnS, secs_len, secAt] using hown'
   case measure => simp [intOf]; omega
  ·have hkn : n / 64 = k := by omega
   have e0 : dataL l = rowL (secs l k) := by rw [dataL, HL.out, hkn]
   have E := Lib.hid e0; clear e0 hkn
   have hJ := Lib.hid (secs_join l k)
   have hSL := Lib.hid (secs_len l k)
   have HROW := Lib.hid hrow; clear hrow hown
   have hlt2 : decide (64 * (k : Int) + 64 ≤ (n : Int)) = false := by simp; omega
   go_wp2_with (go_at_call 92; ((with_reducible refine (rowText_any _ _ _ (secs l k) _ hSL.out hvc (by omega) (by have := hJ.out; omega) HROW.out).mono ?_); rintro _ _ ⟨rfl, g, rfl⟩))
   go_ret
   exact ⟨by rw [E.out]; rfl, Gr.of (below_trans hbw (grown_below _ _))⟩
class BNe (a b : Nat) : Prop where
 ne : a ≠ b
class BlockAt (W : World) (B : Nat) (cs : outParam (Array Value)) (t : outParam TypeId) : Prop where
 eq : W.heap[B]? = some (.cells cs t (0, 0))
theorem BlockAt.lt {W : World} {B : Nat} {cs : Array Value} {t : TypeId} (h : BlockAt W B cs t) : B < W.heap.size := (Array.getElem?_eq_some_iff.1 h.eq).1
theorem BlockAt.old {W : World} {B : Nat} {cs : Array Value} {t : TypeId} (h : BlockAt W B cs t) : Old B W := ⟨h.lt⟩
instance blockAt_new (W : World) (cs : Array Value) (t : TypeId) (n : Nat) [h : SizeN W n] : BlockAt (W.alloc (.cells cs t)) n cs t := ⟨by have := h.eq; subst this; exact heap_alloc_new W _⟩
instance (priority := low) (W : World) (o : Obj) (B : Nat) (cs : Array Value) (t : TypeId) [h : BlockAt W B cs t] : BlockAt (W.alloc o) B cs t := ⟨(Below.heap_alloc W o B h.lt).trans h.eq⟩
instance (W : World) (g : Growth W) (B : Nat) (cs : Array Value) (t : TypeId) [h : BlockAt W B cs t] : BlockAt (grown W g) B cs t := ⟨(g.below.block B h.lt).trans h.eq⟩
instance (W : World) (B : Nat) (cs : Array Value) (t : TypeId) [h : BlockAt W B cs t] : BlockAt W.drew B cs t := ⟨h.eq⟩
instance (W : World) (B o : Nat) (v : Value) (cs : Array Value) (t : TypeId) [h : BlockAt W B cs t] : BlockAt (W.setCell ⟨B, o, none⟩ v) B (cs.setIfInBounds o v) t := ⟨by
 have := h.eq
 simp only [World.setCell, Array.getElem?_modify, this]
 simp [Array.set!_eq_setIfInBounds]⟩
instance (priority := low) (W : World) (B C o : Nat) (v : Value) (cs : Array Value) (t : TypeId) [h : BlockAt W B cs t] [k : BNe B C] : BlockAt (W.setCell ⟨C, o, none⟩ v) B cs t := ⟨(Below.heap_setCell W ⟨C, o, none⟩ v B k.ne).trans h.eq⟩
instance (W : World) (k : Nat) (s : ByteArray) (pos : Nat) (B : Nat) (cs : Array Value) (t : TypeId) [h : BlockAt W B cs t] [hi : IterAt W k s pos] (s' : ByteArray) (pos' : Nat) : BlockAt (W.iterAt k s' pos') B cs t := ⟨by
 have hne : B ≠ k := by
  rintro rfl
  have := hi.eq
  rw [h.eq] at this
  cases this
 exact (Lib.iterAt_other W k B s' pos' hne).trans h.eq⟩
theorem block_cells (W : World) (B o : Nat) (cs : Array Value) (t : TypeId) [h : BlockAt W B cs t] : W.cell? ⟨B, o, none⟩ = cs[o]? := by
 simp [World.cell?, h.eq]
theorem block_frozen (W : World) (B o : Nat) (cs : Array Value) (t : TypeId) [h : BlockAt W B cs t] : W.frozen? ⟨B, o, none⟩ = false := by
 simp [World.frozen?, h.eq]
theorem BlockAt.gr {W W' : World} {B : Nat} {cs : Array Value} {t : TypeId} (h : BlockAt W B cs t) (g : Gr W W') : BlockAt W' B cs t := ⟨(g.below.block B h.lt).trans h.eq⟩
theorem BlockAt.grown {W W' : World} {B : Nat} {cs : Array Value} {t : TypeId} {row : Option Nat} (h : BlockAt W B cs t) (g : W.grownBy W' row) (hne : some B ≠ row) : BlockAt W' B cs t := ⟨(g.block B h.lt hne).trans h.eq⟩
instance bne_old (W : World) (B : Nat) [h : Old B W] : BNe B W.heap.size := ⟨Nat.ne_of_lt h.lt⟩
instance bne_old' (W : World) (B : Nat) [h : Old B W] : BNe W.heap.size B := ⟨(Nat.ne_of_lt h.lt).symm⟩
instance bne_succ (B : Nat) : BNe B (B + 1) := ⟨by omega⟩
instance bne_succ' (B : Nat) : BNe (B + 1) B := ⟨by omega⟩
def OwnR {α : Type} (enc : α → Value) (E : TypeId) (base : Nat) (W : World) (v : Value) (xs : List α) : Prop := W.ownsRow base E 1 v xs.length (xs.map enc)
section
variable {α : Type} {enc : α → Value} {E : TypeId} {base : Nat} {W W' : World} {v : Value} {xs : List α}
theorem OwnR.nil (base : Nat) (W : World) : OwnR enc E base W (.slice none 0 0) [] := World.ownsRow_nil _ _ _ _
theorem OwnR.gr (h : OwnR enc E base W v xs) (hg : Gr W W') : OwnR enc E base W' v xs := by
 refine World.ownsRow.kept h (only_of_gr hg none) ?_
 cases hv : v.ownBlock with
 | none => exact .inl rfl
 | some g => exact .inr (by simp)
theorem OwnR.alloc_ (h : OwnR enc E base W v xs) (o : Obj) : OwnR enc E base (W.alloc o) v xs := World.ownsRow.alloc h o
theorem OwnR.drew_ (h : OwnR enc E base W v xs) : OwnR enc E base W.drew v xs := h
theorem OwnR.grown_ (h : OwnR enc E base W v xs) (g : Growth W) : OwnR enc E base (grown W g) v xs := h.gr (Gr.of (grown_below W g))
theorem OwnR.iter_ (h : OwnR enc E base W v xs) (k : Nat) {s : ByteArray} {pos : Nat} (hi : W.heap[k]? = some (.stringIter s pos)) (s' : ByteArray) (pos' : Nat) : OwnR enc E base (W.iterAt k s' pos') v xs := by
 refine ⟨h.1, ?_⟩
 rcases h.2 with h2 | ⟨g, cap, cur, hv, hb, hh, h4⟩
 ·exact .inl h2
 ·refine .inr ⟨g, cap, cur, hv, hb, ?_, h4⟩
  have hne : g ≠ k := by
   rintro rfl
   rw [hh] at hi
   cases hi
  rw [Lib.iterAt_other W k g s' pos' hne]
  exact hh
theorem OwnR.set_ (h : OwnR enc E base W v xs) (B o : Nat) (u : Value) {cs : Array Value} {T : TypeId} [hB : BlockAt W B cs T] (hT : T ≠ E) : OwnR enc E base (W.setCell ⟨B, o, none⟩ u) v xs := by
 refine ⟨h.1, ?_⟩
 rcases h.2 with h2 | ⟨g, cap, cur, hv, hb, hh, h4⟩
 ·exact .inl h2
 ·refine .inr ⟨g, cap, cur, hv, hb, ?_, h4⟩
  have hne : g ≠ B := by
   rintro rfl
   have := hB.eq
   rw [hh] at this
   cases this
   exact hT rfl
  exact (Below.heap_setCell W ⟨B, o, none⟩ u g hne).trans hh
theorem OwnR.lt (h : OwnR enc E base W v xs) : ∀ k, v.ownBlock = some k → base ≤ k ∧ k < W.heap.size := World.ownsRow.lt h
theorem OwnR.more {base2 : Nat} (h : OwnR enc E base2 W v xs) (hb : base ≤ base2) : OwnR enc E base W v xs := by
 refine ⟨h.1, ?_⟩
 rcases h.2 with h2 | ⟨g, cap, cur, hv, hb2, h4⟩
 ·exact .inl h2
 ·exact .inr ⟨g, cap, cur, hv, Nat.le_trans hb hb2, h4⟩
theorem OwnR.form (h : OwnR enc E base W v xs) : ∃ A c, v = .slice A xs.length c ∧ xs.length ≤ c ∧ Row enc W A xs := by
 have h0 := h
 rcases h.2 with ⟨rfl, hn⟩ | ⟨g, cap, cur, rfl, hb, hh, hnc, _⟩
 ·have : xs = [] := List.eq_nil_of_length_eq_zero hn
  subst this
  exact ⟨none, 0, rfl, Nat.le_refl _, Row.nil⟩
 ·refine ⟨_, _, rfl, hnc, ⟨fun _ => ⟨g, 0, rfl, (Array.getElem?_eq_some_iff.1 hh).1, fun j x hx => ?_⟩⟩⟩
  have := World.ownsRow.cells h0 (g := g) rfl j (enc x) (by simp [hx])
  rw [Go.WideShapes.add_plain] at this
  exact this
end
structure AppR {α : Type} (enc : α → Value) (E : TypeId) (base : Nat) (W : World) (xs ys : List α) (v' : Value) (W' : World) : Prop where
 own : OwnR enc E base W' v' (xs ++ ys)
 below : Below base W W'
 size : W.heap.size ≤ W'.heap.size
 keep : ∀ B cs t, BlockAt W B cs t → t ≠ E → BlockAt W' B cs t
 iter : ∀ (k : Nat) (s : ByteArray) (pos : Nat), W.heap[k]? = some (Obj.stringIter s pos) → W'.heap[k]? = some (Obj.stringIter s pos)
section
variable {α : Type} {enc : α → Value} {E : TypeId} {base : Nat} {W W' : World} {v' : Value} {xs ys : List α}
theorem AppR.tb (h : AppR enc E base W xs ys v' W') (hf : 6 ≤ base) [ht : Tb W] : Tb W' := ht.keep h.size (fun b hb => h.below.block b (by omega))
theorem AppR.ml (h : AppR enc E base W xs ys v' W') (hf : 6 ≤ base) [ht : Ml W] : Ml W' := ht.keep (h.below.block _ (by omega))
theorem AppR.from_ (h : AppR enc E base W xs ys v' W') (a : World) [ht : From a W] : From a W' := ⟨Nat.le_trans ht.le h.size⟩
theorem AppR.old (h : AppR enc E base W xs ys v' W') (b : Nat) [ht : Old b W] : Old b W' := ⟨Nat.lt_of_lt_of_le ht.lt h.size⟩
theorem AppR.chain (h : AppR enc E base W xs ys v' W') {a : World} (hb : Below a.heap.size a W) (hl : a.heap.size ≤ base) : Below a.heap.size a W' := hb.trans (h.below.mono hl)
end
theorem wp_append_row {α : Type} (enc : α → Value) (E T : TypeId) (z : Value) (bytes : Nat) (hT : Tryz.prog.underlying T = some (.slice E)) (hE : (Tryz.prog.info? E).map (fun i => (i.zero, i.size, i.bytes)) = some (some z, 1, bytes)) (hby : bytes ≤ 16)
  (h1 : ∀ x, (enc x).oneCell' = true) (hz1 : z.cells = #[z])
  {ops : Array Oper} {rest : List Oper} {o : Oper} {a : Act} {Q : Exit → Act → World → Prop} (hgd : o.guard = none) (s x : Operand)
  (ho : o.op = .call { callee := .builtin .append, args := #[s, x], argTypes := #[T, T] })
  (base : Nat) {W : World} (v : Value) (xs : List α) (hs : a.eval s = v) (hown : OwnR enc E base W v xs) (ad of c : Nat) (ys : List α) (m : Nat) (hm : ys.length = m) (hx : a.eval x = .slice (some ⟨ad, of, none⟩) m c)
  (hc : ∀ j y, ys[j]? = some y → W.cell? ⟨ad, of + j, none⟩ = some (enc y)) (hlen : xs.length + ys.length ≤ 100000000) (hbase : base ≤ W.heap.size)
  (h : ∀ v' W', AppR enc E base W xs ys v' W' → wpList Tryz.prog ops Q rest (a.put o.dst v') W') : wpList Tryz.prog ops Q (o :: rest) a W := by
 subst hm
 obtain ⟨i0, hi, hz0, hz2, hz3⟩ := info_parts hE
 refine wpList_append_own W hgd s x T ho base E i0 z 1 bytes hT hi hz0 hz2 hz3 (by rw [hz1]; rfl) (by decide) v xs.length (xs.map enc) hs hown ⟨ad, of, none⟩ ys.length c (ys.map enc) hx (by simp) ?_ ?_ ?_ ?_ hbase ?_
 ·intro j u hj
  rw [List.getElem?_map] at hj
  cases hy : ys[j]? with
  | none => rw [hy] at hj; cases hj
  | some y =>
   rw [hy] at hj
   cases hj
   rw [Go.WideShapes.add_plain]
   exact hc j y hy
 ·intro u hu
  simp only [List.mem_map] at hu
  obtain ⟨y, _, rfl⟩ := hu
  exact h1 y
 ·unfold maxLen; omega
 ·have := Nat.mul_le_mul hlen hby
  omega
 ·intro v' W' hown' hgrow _
  refine h v' W' ⟨by simpa [OwnR] using hown', (Below.refl base W).grown hgrow hbase (fun q hq => (hown.lt q hq).1), hgrow.size, fun B cs t hB ht => hB.grown hgrow (fun e => ?_), fun k st pos hk => (hgrow.block k (Array.getElem?_eq_some_iff.1 hk).1 (fun e => ?_)).trans hk⟩
  ·rcases hown.2 with ⟨rfl, _⟩ | ⟨g, cap, cur, rfl, _, hh, _⟩
   ·simp [Value.ownBlock] at e
   ·have : B = g := by simpa [Value.ownBlock] using e
    subst this
    have := hB.eq
    rw [hh] at this
    cases this
    exact ht rfl
  ·rcases hown.2 with ⟨rfl, _⟩ | ⟨g, cap, cur, rfl, _, hh, _⟩
   ·simp [Value.ownBlock] at e
   ·have : k = g := by simpa [Value.ownBlock] using e
    subst this
    rw [hh] at hk
    cases hk
theorem infoU8 : (Tryz.prog.info? 5).map (fun i => (i.zero, i.size, i.bytes)) = some (some (.int .u8 0), 1, 1) := by kernel_rfl
theorem wp_append_byte {ops : Array Oper} {rest : List Oper} {o : Oper} {a : Act} {Q : Exit → Act → World → Prop} (hgd : o.guard = none) (s x : Operand)
  (ho : o.op = .call { callee := .builtin .append, args := #[s, x], argTypes := #[24, 24] })
  (base : Nat) {W : World} (v : Value) (xs : List UInt8) (hs : a.eval s = v) (hown : OwnR bv 5 base W v xs) (ad of c : Nat) (ys : List UInt8) (m : Nat) (hm : ys.length = m) (hx : a.eval x = .slice (some ⟨ad, of, none⟩) m c)
  (hc : ∀ j y, ys[j]? = some y → W.cell? ⟨ad, of + j, none⟩ = some (bv y)) (hlen : xs.length + ys.length ≤ 100000000) (hbase : base ≤ W.heap.size)
  (h : ∀ v' W', AppR bv 5 base W xs ys v' W' → wpList Tryz.prog ops Q rest (a.put o.dst v') W') : wpList Tryz.prog ops Q (o :: rest) a W :=
 wp_append_row bv 5 24 (.int .u8 0) 1 Tryz.underlying24 infoU8 (by omega) (fun _ => rfl) rfl hgd s x ho base v xs hs hown ad of c ys m hm hx hc hlen hbase h
@[go_sem] theorem dec_d_0 : Utf8.decode ⟨#[100]⟩ 0 = (100, 1) := by decide +kernel
@[go_sem] theorem dec_dn_0 : Utf8.decode ⟨#[100, 110]⟩ 0 = (100, 1) := by decide +kernel
@[go_sem] theorem dec_dn_1 : Utf8.decode ⟨#[100, 110]⟩ 1 = (110, 1) := by decide +kernel
@[go_sem] theorem dec_do_0 : Utf8.decode ⟨#[100, 111]⟩ 0 = (100, 1) := by decide +kernel
@[go_sem] theorem dec_do_1 : Utf8.decode ⟨#[100, 111]⟩ 1 = (111, 1) := by decide +kernel
@[go_sem] theorem dec_dp_0 : Utf8.decode ⟨#[100, 112]⟩ 0 = (100, 1) := by decide +kernel
@[go_sem] theorem dec_dp_1 : Utf8.decode ⟨#[100, 112]⟩ 1 = (112, 1) := by decide +kernel
@[go_sem] theorem dec_n_0 : Utf8.decode ⟨#[110]⟩ 0 = (110, 1) := by decide +kernel
@[go_sem] theorem dec_v_0 : Utf8.decode ⟨#[118]⟩ 0 = (118, 1) := by decide +kernel
@[go_sem] theorem dec_vac_0 : Utf8.decode ⟨#[118, 97, 99]⟩ 0 = (118, 1) := by decide +kernel
@[go_sem] theorem dec_vac_1 : Utf8.decode ⟨#[118, 97, 99]⟩ 1 = (97, 1) := by decide +kernel
@[go_sem] theorem dec_vac_2 : Utf8.decode ⟨#[118, 97, 99]⟩ 2 = (99, 1) := by decide +kernel
@[go_sem] theorem dec_vad_0 : Utf8.decode ⟨#[118, 97, 100]⟩ 0 = (118, 1) := by decide +kernel
@[go_sem] theorem dec_vad_1 : Utf8.decode ⟨#[118, 97, 100]⟩ 1 = (97, 1) := by decide +kernel
@[go_sem] theorem dec_vad_2 : Utf8.decode ⟨#[118, 97, 100]⟩ 2 = (100, 1) := by decide +kernel
@[go_sem] theorem dec_vs_0 : Utf8.decode ⟨#[118, 115]⟩ 0 = (118, 1) := by decide +kernel
@[go_sem] theorem dec_vs_1 : Utf8.decode ⟨#[118, 115]⟩ 1 = (115, 1) := by decide +kernel
@[go_sem] theorem dec_vt_0 : Utf8.decode ⟨#[118, 116]⟩ 0 = (118, 1) := by decide +kernel
@[go_sem] theorem dec_vt_1 : Utf8.decode ⟨#[118, 116]⟩ 1 = (116, 1) := by decide +kernel
instance (a W : World) (n : Nat) [h : GrC a W] : GrC a (W.drewN n) := ⟨h.b.trans ⟨rfl, rfl, rfl, Nat.le_refl _, fun _ _ => rfl⟩⟩
def hexv (r : Nat) : Int := if 48 ≤ r ∧ r ≤ 57 then (r : Int) - 48 else if 97 ≤ r ∧ r ≤ 102 then (r : Int) - 87 else -1
theorem hexv_high {r : Nat} (h : 128 ≤ r) : hexv r = -1 := by unfold hexv; rw [if_neg (by omega), if_neg (by omega)]
theorem hexv_fin : ∀ i : Fin 128, Lib.indexByte [48, 49, 50, 51, 52, 53, 54, 55, 56, 57, 97, 98, 99, 100, 101, 102] i.val.toUInt8 = hexv i.val := by decide +kernel
theorem hex_high_fin : ∀ c : Fin 256, 128 ≤ c.val → Lib.indexByte [49, 50, 51, 52, 53, 54, 55, 56, 57, 97, 98, 99, 100, 101, 102] c.val.toUInt8 = -1 ∧ Lib.indexByte [50, 51, 52, 53, 54, 55, 56, 57, 97, 98, 99, 100, 101, 102] c.val.toUInt8 = -1 ∧ Lib.indexByte [51, 52, 53, 54, 55, 56, 57, 97, 98, 99, 100, 101, 102] c.val.toUInt8 = -1 ∧ Lib.indexByte [52, 53, 54, 55, 56, 57, 97, 98, 99, 100, 101, 102] c.val.toUInt8 = -1 := by decide +kernel
theorem enc_high (r : Nat) (h : 128 ≤ r) : (∃ a c : UInt8, Utf8.encode r = ⟨#[a, c]⟩ ∧ 128 ≤ c.toNat) ∨ (∃ a b c : UInt8, Utf8.encode r = ⟨#[a, b, c]⟩ ∧ 128 ≤ c.toNat) ∨ (∃ a b b2 c : UInt8, Utf8.encode r = ⟨#[a, b, b2, c]⟩ ∧ 128 ≤ c.toNat) := by
 have hl : ∀ k : Nat, 128 ≤ (UInt8.ofNat (0x80 + k % 64)).toNat := fun k => by
  rw [UInt8.toNat_ofNat', Nat.mod_eq_of_lt (by omega)]; omega
 have hc : 128 ≤ (if Utf8.valid (r : Int) then ((r : Int)).toNat else Utf8.runeError) := by
  split
  ·simpa using h
  ·decide
 unfold Utf8.encode
 simp only
 generalize (if Utf8.valid (r : Int) then ((r : Int)).toNat else Utf8.runeError) = c at hc
 rw [if_neg (by omega)]
 split
 ·exact .inl ⟨_, _, rfl, hl c⟩
 split
 ·exact .inr (.inl ⟨_, _, _, rfl, hl c⟩)
 ·exact .inr (.inr ⟨_, _, _, _, rfl, hl c⟩)
theorem validRune_w (r : Int) (w : World) : Calls Tryz.prog 130 #[.int .i32 r] w fun e w' => e = .returned (.bool (Lib.validRune r)) ∧ w = w' := (Tryz.utf8_ValidRune r w).mono fun _ _ ⟨a, b⟩ => ⟨a, b.symm⟩
theorem idxByte_w (k : Nat) (hk : k = 2 ∨ k = 3 ∨ k = 4) (c : UInt8) (hc : 128 ≤ c.toNat) (w : World) : Calls Tryz.prog 129 #[.string ((⟨#[48, 49, 50, 51, 52, 53, 54, 55, 56, 57, 97, 98, 99, 100, 101, 102]⟩ : ByteArray).extract k 16), .int .u8 c.toNat] w fun e w' => e = .returned (.int .i64 (-1)) ∧ w = w' := by
 refine (Tryz.strings_IndexByte ((⟨#[48, 49, 50, 51, 52, 53, 54, 55, 56, 57, 97, 98, 99, 100, 101, 102]⟩ : ByteArray).extract k 16) c.toNat w).mono fun e w' ⟨he, hw⟩ => ⟨?_, hw.symm⟩
 rw [he]
 obtain ⟨h1, h2, h3, h4⟩ := hex_high_fin ⟨c.toNat, c.toNat_lt⟩ hc
 have e : ((c.toNat : Int)).toNat.toUInt8 = c := by simp
 have e2 : (⟨c.toNat, c.toNat_lt⟩ : Fin 256).val.toUInt8 = c := by simp
 rw [e2] at h2 h3 h4
 rw [e]
 rcases hk with rfl | rfl | rfl
 ·rw [show ((⟨#[48, 49, 50, 51, 52, 53, 54, 55, 56, 57, 97, 98, 99, 100, 101, 102]⟩ : ByteArray).extract 2 16).data.toList = [50, 51, 52, 53, 54, 55, 56, 57, 97, 98, 99, 100, 101, 102] from by decide +kernel, h2]
 ·rw [show ((⟨#[48, 49, 50, 51, 52, 53, 54, 55, 56, 57, 97, 98, 99, 100, 101, 102]⟩ : ByteArray).extract 3 16).data.toList = [51, 52, 53, 54, 55, 56, 57, 97, 98, 99, 100, 101, 102] from by decide +kernel, h3]
 ·rw [show ((⟨#[48, 49, 50, 51, 52, 53, 54, 55, 56, 57, 97, 98, 99, 100, 101, 102]⟩ : ByteArray).extract 4 16).data.toList = [52, 53, 54, 55, 56, 57, 97, 98, 99, 100, 101, 102] from by decide +kernel, h4]
theorem hexs_low : ∀ i : Fin 16, ((⟨#[48, 49, 50, 51, 52, 53, 54, 55, 56, 57, 97, 98, 99, 100, 101, 102]⟩ : ByteArray)[i.val]'i.isLt).toNat < 128 := by decide
set_option maxRecDepth 100000 in
set_option maxHeartbeats 4000000 in
theorem idx_any (r : Nat) (hr : r ≤ 1114111) (w : World) :
  Calls Tryz.prog 115 #[.string ⟨#[48, 49, 50, 51, 52, 53, 54, 55, 56, 57, 97, 98, 99, 100, 101, 102]⟩, .int .i32 r] w fun e w' => e = .returned (.int .i64 (hexv r)) ∧ Gr w w' := by
 by_cases h0 : r < 128
 ·refine (Tryz.strings_IndexRune_ascii ⟨#[48, 49, 50, 51, 52, 53, 54, 55, 56, 57, 97, 98, 99, 100, 101, 102]⟩ r w (by omega) (by omega)).mono fun e w' ⟨he, hw⟩ => ⟨?_, hw ▸ Gr.refl _⟩
  rw [he]
  have := hexv_fin ⟨r, h0⟩
  simp only at this
  rw [← this]
  simp
 have E := Lib.hid (hexv_high (r := r) (by omega))
 by_cases h1 : r = 65533
 ·subst h1
  go_enter Tryz.func115, Tryz.ntmps115
  go_wp2
  go_loopw [] (fun wr => ∃ pos : Nat, pos ≤ 16 ∧ wr.heap[w.heap.size]? = some (.stringIter ⟨#[48, 49, 50, 51, 52, 53, 54, 55, 56, 57, 97, 98, 99, 100, 101, 102]⟩ pos) ∧ Below w.heap.size w wr) (fun wr => 16 - wr.iterPos w.heap.size)
  case atStart => exact ⟨0, by omega, World.iter_heap w _ 0, (Below.refl _ _).alloc (Nat.le_refl _) _⟩
  case round =>
   obtain ⟨pos, hp, hit, hbw⟩ := hrel
   by_cases hp2 : pos < 16
   ·obtain ⟨u, hu, hdec⟩ : ∃ u : Nat, u < 128 ∧ Utf8.decode (⟨#[48, 49, 50, 51, 52, 53, 54, 55, 56, 57, 97, 98, 99, 100, 101, 102]⟩ : ByteArray) pos = (u, 1) := ⟨_, hexs_low ⟨pos, hp2⟩, decode_ascii (⟨#[48, 49, 50, 51, 52, 53, 54, 55, 56, 57, 97, 98, 99, 100, 101, 102]⟩ : ByteArray) pos hp2 (hexs_low ⟨pos, hp2⟩)⟩
    have hnx : ∀ ty, (Instr.next (.pointer (some ⟨w.heap.size, 0, none⟩)) true ty).run Tryz.prog wr = .ok (.tuple #[.bool true, .int .i64 pos, .int .i32 u]) (wr.iterAt w.heap.size (⟨#[48, 49, 50, 51, 52, 53, 54, 55, 56, 57, 97, 98, 99, 100, 101, 102]⟩ : ByteArray) (pos + 1)) := fun ty => by
     have := Lib.run_next_any_at (P := Tryz.prog) wr w.heap.size (⟨#[48, 49, 50, 51, 52, 53, 54, 55, 56, 57, 97, 98, 99, 100, 101, 102]⟩ : ByteArray) pos ty hit hp2
     rw [hdec] at this
     exact this
    have hit2 := Lib.iterAt_heap wr w.heap.size (⟨#[48, 49, 50, 51, 52, 53, 54, 55, 56, 57, 97, 98, 99, 100, 101, 102]⟩ : ByteArray) pos (pos + 1) hit
    have hbw2 := Lib.below_iterAt hbw (k := w.heap.size) (Nat.le_refl _) (⟨#[48, 49, 50, 51, 52, 53, 54, 55, 56, 57, 97, 98, 99, 100, 101, 102]⟩ : ByteArray) (pos + 1)
    have hne : ((u : Int) == 65533) = false := by simp; omega
    clear hdec
    go_wp2
    go_roundw
    case rel => exact ⟨pos + 1, by omega, hit2, hbw2⟩
    case measure => rw [iterPos_of hit2, iterPos_of hit]; omega
   ·have hnx : ∀ ty, (Instr.next (.pointer (some ⟨w.heap.size, 0, none⟩)) true ty).run Tryz.prog wr = _ := fun ty => Lib.run_next_end_at wr w.heap.size (⟨#[48, 49, 50, 51, 52, 53, 54, 55, 56, 57, 97, 98, 99, 100, 101, 102]⟩ : ByteArray) pos ty hit hp2
    go_wp2
    go_ret
    exact ⟨by rw [E.out]; rfl, Gr.of hbw⟩
 ·rcases Bool.eq_false_or_eq_true (Lib.validRune r) with hv | hv
  ·rcases enc_high r (by omega) with ⟨a, c, he, hc⟩ | ⟨a, b, c, he, hc⟩ | ⟨a, b, b2, c, he, hc⟩
   ·have HV := Lib.hid (fun W => validRune_w r W)
    rw [hv] at HV
    clear hv
    have hcv : ∀ W, (convert 21 9 (.int .i32 r)).run Tryz.prog W = .ok (.string (⟨#[a, c]⟩ : ByteArray)) W := fun W => by rw [← he]; go_simp
    clear he
    have h65 : ((r : Int) == 65533) = false := by simp; omega
    have h128 : decide ((r : Int) < 128) = false := by simp; omega
    have hK : 1 < (⟨#[a, c]⟩ : ByteArray).size := (by omega : 1 < 2)
    have hn : (((⟨#[48, 49, 50, 51, 52, 53, 54, 55, 56, 57, 97, 98, 99, 100, 101, 102]⟩ : ByteArray)[1].toNat : Int) != (((⟨#[a, c]⟩ : ByteArray)[1]'hK).toNat : Int)) = true := by
     have e1 : (⟨#[a, c]⟩ : ByteArray)[1]'hK = c := rfl
     have e2 : (⟨#[48, 49, 50, 51, 52, 53, 54, 55, 56, 57, 97, 98, 99, 100, 101, 102]⟩ : ByteArray)[1].toNat = 49 := rfl
     rw [e1, e2]; simp; omega
    have HI := Lib.hid (fun W => idxByte_w (2) (by omega) ((⟨#[a, c]⟩ : ByteArray)[1]'hK) hc W)
    have mixed : Tryz.prog.follows .mixedOrders = true := by kernel_rfl
    go_enter Tryz.func115, Tryz.ntmps115
    go_wp2_with ((go_at_call 130; ((with_reducible refine (HV.out _).mono ?_); rintro _ _ ⟨rfl, rfl⟩)))
    go_step3
    go_wp2
    refine wp_loop_rounds 1 ?_
    rw [rounds_succ]
    go_wp2
    go_step3
    go_wp2
    go_quiet (fail)
    go_wp2
    refine wp_region_grow (by kernel_rfl) (by kernel_rfl) ?_
    repeat (go_big_quiet_step ((go_at_call 129; exact grow_call_same (HI.out _))))
    refine wpQuiet_nil ?_
    intro g3
    go_wp2
    rw [Exit.noGoto_ret]
    go_simp
    go_ret
    exact ⟨by rw [E.out]; rfl, gri⟩
   ·have HV := Lib.hid (fun W => validRune_w r W)
    rw [hv] at HV
    clear hv
    have hcv : ∀ W, (convert 21 9 (.int .i32 r)).run Tryz.prog W = .ok (.string (⟨#[a, b, c]⟩ : ByteArray)) W := fun W => by rw [← he]; go_simp
    clear he
    have h65 : ((r : Int) == 65533) = false := by simp; omega
    have h128 : decide ((r : Int) < 128) = false := by simp; omega
    have hK : 2 < (⟨#[a, b, c]⟩ : ByteArray).size := (by omega : 2 < 3)
    have hn : (((⟨#[48, 49, 50, 51, 52, 53, 54, 55, 56, 57, 97, 98, 99, 100, 101, 102]⟩ : ByteArray)[2].toNat : Int) != (((⟨#[a, b, c]⟩ : ByteArray)[2]'hK).toNat : Int)) = true := by
     have e1 : (⟨#[a, b, c]⟩ : ByteArray)[2]'hK = c := rfl
     have e2 : (⟨#[48, 49, 50, 51, 52, 53, 54, 55, 56, 57, 97, 98, 99, 100, 101, 102]⟩ : ByteArray)[2].toNat = 50 := rfl
     rw [e1, e2]; simp; omega
    have HI := Lib.hid (fun W => idxByte_w (3) (by omega) ((⟨#[a, b, c]⟩ : ByteArray)[2]'hK) hc W)
    have mixed : Tryz.prog.follows .mixedOrders = true := by kernel_rfl
    go_enter Tryz.func115, Tryz.ntmps115
    go_wp2_with ((go_at_call 130; ((with_reducible refine (HV.out _).mono ?_); rintro _ _ ⟨rfl, rfl⟩)))
    go_step3
    go_wp2
    refine wp_loop_rounds 1 ?_
    rw [rounds_succ]
    go_wp2
    go_step3
    go_wp2
    go_quiet (fail)
    go_wp2
    refine wp_region_grow (by kernel_rfl) (by kernel_rfl) ?_
    repeat (go_big_quiet_step ((go_at_call 129; exact grow_call_same (HI.out _))))
    refine wpQuiet_nil ?_
    intro g3
    go_wp2
    rw [Exit.noGoto_ret]
    go_simp
    go_ret
    exact ⟨by rw [E.out]; rfl, gri⟩
   ·have HV := Lib.hid (fun W => validRune_w r W)
    rw [hv] at HV
    clear hv
    have hcv : ∀ W, (convert 21 9 (.int .i32 r)).run Tryz.prog W = .ok (.string (⟨#[a, b, b2, c]⟩ : ByteArray)) W := fun W => by rw [← he]; go_simp
    clear he
    have h65 : ((r : Int) == 65533) = false := by simp; omega
    have h128 : decide ((r : Int) < 128) = false := by simp; omega
    have hK : 3 < (⟨#[a, b, b2, c]⟩ : ByteArray).size := (by omega : 3 < 4)
    have hn : (((⟨#[48, 49, 50, 51, 52, 53, 54, 55, 56, 57, 97, 98, 99, 100, 101, 102]⟩ : ByteArray)[3].toNat : Int) != (((⟨#[a, b, b2, c]⟩ : ByteArray)[3]'hK).toNat : Int)) = true := by
     have e1 : (⟨#[a, b, b2, c]⟩ : ByteArray)[3]'hK = c := rfl
     have e2 : (⟨#[48, 49, 50, 51, 52, 53, 54, 55, 56, 57, 97, 98, 99, 100, 101, 102]⟩ : ByteArray)[3].toNat = 51 := rfl
     rw [e1, e2]; simp; omega
    have HI := Lib.hid (fun W => idxByte_w (4) (by omega) ((⟨#[a, b, b2, c]⟩ : ByteArray)[3]'hK) hc W)
    have mixed : Tryz.prog.follows .mixedOrders = true := by kernel_rfl
    go_enter Tryz.func115, Tryz.ntmps115
    go_wp2_with ((go_at_call 130; ((with_reducible refine (HV.out _).mono ?_); rintro _ _ ⟨rfl, rfl⟩)))
    go_step3
    go_wp2
    refine wp_loop_rounds 1 ?_
    rw [rounds_succ]
    go_wp2
    go_step3
    go_wp2
    go_quiet (fail)
    go_wp2
    refine wp_region_grow (by kernel_rfl) (by kernel_rfl) ?_
    repeat (go_big_quiet_step ((go_at_call 129; exact grow_call_same (HI.out _))))
    refine wpQuiet_nil ?_
    intro g3
    go_wp2
    rw [Exit.noGoto_ret]
    go_simp
    go_ret
    exact ⟨by rw [E.out]; rfl, gri⟩
  ·have HV := Lib.hid (fun W => validRune_w r W)
   rw [hv] at HV
   clear hv
   have h65 : ((r : Int) == 65533) = false := by simp; omega
   have h128 : decide ((r : Int) < 128) = false := by simp; omega
   go_enter Tryz.func115, Tryz.ntmps115
   go_wp2_with ((go_at_call 130; ((with_reducible refine (HV.out _).mono ?_); rintro _ _ ⟨rfl, rfl⟩)))
   go_ret
   exact ⟨by rw [E.out]; rfl, gri⟩
def unhexL : List UInt8 → Option (List UInt8)
 | [] => some []
 | [_] => none
 | a :: b :: r => if hexv a.toNat < 0 ∨ hexv b.toNat < 0 then none else (unhexL r).map ((UInt8.ofNat (16 * hexv a.toNat + hexv b.toNat).toNat) :: ·)
theorem hexv_range (r : Nat) : -1 ≤ hexv r ∧ hexv r ≤ 15 := by
 unfold hexv
 split
 ·omega
 ·split <;> omega
theorem unhexL_bad : ∀ (l : List UInt8) (x : UInt8), x ∈ l → hexv x.toNat < 0 → unhexL l = none
 | [], x, h, _ => by cases h
 | [a], x, h, _ => rfl
 | a :: b :: r, x, h, hx => by
  unfold unhexL
  rcases List.mem_cons.1 h with rfl | h
  ·rw [if_pos (.inl hx)]
  ·rcases List.mem_cons.1 h with rfl | h
   ·rw [if_pos (.inr hx)]
   ·split
    ·rfl
    ·rw [unhexL_bad r x h hx]; rfl
theorem unhexL_odd : ∀ (l : List UInt8), l.length % 2 = 1 → unhexL l = none
 | [], h => by simp at h
 | [a], h => rfl
 | a :: b :: r, h => by
  unfold unhexL
  split
  ·rfl
  ·rw [unhexL_odd r (by simp at h; omega)]; rfl
theorem unhexL_snoc : ∀ (l o : List UInt8) (a b : UInt8), unhexL l = some o → 0 ≤ hexv a.toNat → 0 ≤ hexv b.toNat → unhexL (l ++ [a, b]) = some (o ++ [UInt8.ofNat (16 * hexv a.toNat + hexv b.toNat).toNat])
 | [], o, a, b, h, ha, hb => by
  simp [unhexL] at h
  subst h
  simp only [List.nil_append, unhexL]
  rw [if_neg (by omega)]; rfl
 | [c], o, a, b, h, _, _ => by simp [unhexL] at h
 | c :: d :: r, o, a, b, h, ha, hb => by
  rw [List.cons_append, List.cons_append]
  unfold unhexL at h ⊢
  split at h
  ·cases h
  ·rename_i hn
   rw [if_neg hn]
   cases hr : unhexL r with
   | none => rw [hr] at h; cases h
   | some o' =>
    rw [hr] at h
    simp at h
    subst h
    rw [unhexL_snoc r o' a b hr ha hb]; rfl
theorem unhexL_len : ∀ (l o : List UInt8), unhexL l = some o → l.length = 2 * o.length
 | [], o, h => by simp [unhexL] at h; subst h; rfl
 | [a], o, h => by simp [unhexL] at h
 | a :: b :: r, o, h => by
  unfold unhexL at h
  split at h
  ·cases h
  ·cases hr : unhexL r with
   | none => rw [hr] at h; cases h
   | some o' =>
    rw [hr] at h
    simp at h
    subst h
    have := unhexL_len r o' hr
    simp; omega
theorem hexd_back : ∀ i : Fin 16, hexv (hexd i.val).toNat = i.val := by decide +kernel
theorem unhexL_hex : ∀ l : List UInt8, unhexL (hexL l) = some l
 | [] => rfl
 | c :: l => by
  have e : hexL (c :: l) = hexd (c.toNat / 16) :: hexd (c.toNat % 16) :: hexL l := rfl
  have h1 := hexd_back ⟨c.toNat / 16, by have := c.toNat_lt; omega⟩
  have h2 := hexd_back ⟨c.toNat % 16, by omega⟩
  simp only at h1 h2
  rw [e, unhexL, h1, h2, if_neg (by omega), unhexL_hex l]
  simp only [Option.map_some]
  congr 2
  rw [show (16 * ((c.toNat / 16 : Nat) : Int) + ((c.toNat % 16 : Nat) : Int)).toNat = c.toNat by omega]
  simp
def USt (l : List UInt8) (pos : Nat) (half : Int) (out : List UInt8) : Prop :=
 (half = -1 ∧ pos % 2 = 0 ∧ unhexL (l.take pos) = some out) ∨ (0 ≤ half ∧ pos % 2 = 1 ∧ ∃ x, l[pos - 1]? = some x ∧ hexv x.toNat = half ∧ unhexL (l.take (pos - 1)) = some out)
theorem rune_hex (s : ByteArray) (pos : Nat) (h : pos < s.data.toList.length) : (hexv (Utf8.decode s pos).1 = hexv (s.data.toList[pos]).toNat ∧ (Utf8.decode s pos).2 = 1) ∨ (hexv (Utf8.decode s pos).1 = -1 ∧ hexv (s.data.toList[pos]).toNat = -1) := by
 have hs : pos < s.size := by rw [Lib.size_eq]; exact h
 have e : s.data.toList[pos] = s[pos] := rfl
 by_cases ha : (s[pos]'hs).toNat < 128
 ·rw [decode_ascii s pos hs ha, e]; exact .inl ⟨rfl, rfl⟩
 ·have h1 := (decode_high s pos hs (by omega)).1
  rw [e]
  exact .inr ⟨hexv_high h1, hexv_high (by omega)⟩
theorem rune_max (s : ByteArray) (pos : Nat) : (Utf8.decode s pos).1 ≤ 1114111 := by
 rw [Lib.decode_at]
 have h0 : (s.get! pos).toNat < 256 := (s.get! pos).toNat_lt
 rcases Lib.decodeN_valid (s.size - pos) (s.get! pos).toNat (s.get! (pos + 1)).toNat (s.get! (pos + 2)).toNat (s.get! (pos + 3)).toNat h0 with h | ⟨_, h⟩
 ·omega
 ·exact h
set_option maxRecDepth 100000 in
set_option maxHeartbeats 4000000 in
theorem unhex_any (s : ByteArray) (hs : s.size ≤ 10000000) (w : World) :
  Calls Tryz.prog 103 #[.string s] w fun e w' => ∃ v, e = .returned (.tuple #[v, .bool (unhexL s.data.toList).isSome]) ∧ OwnR bv 5 w.heap.size w' v ((unhexL s.data.toList).getD []) ∧ Below w.heap.size w w' := by
 go_enter Tryz.func103, Tryz.ntmps103
 go_wp2
 go_loopw [4, 5] (fun hf v wr => ∃ (pos : Nat) (half : Int) (out : List UInt8), hf = .int .i64 half ∧ OwnR bv 5 w.heap.size wr v out ∧ USt s.data.toList pos half out ∧ out.length ≤ pos ∧ pos ≤ s.size ∧ wr.heap[w.heap.size + 1]? = some (.stringIter s pos) ∧ Below w.heap.size w wr) (fun _ _ wr => s.size - wr.iterPos (w.heap.size + 1))
 case atStart =>
  refine ⟨0, -1, [], rfl, ?_, .inl ⟨rfl, rfl, rfl⟩, by simp, by omega, ?_, ((Below.refl _ _).alloc (Nat.le_refl _) _).alloc (by simp) _⟩
  ·exact (OwnR.alloc_ ⟨rfl, .inr ⟨w.heap.size, 0, #[], rfl, Nat.le_refl _, heap_alloc_new w _, Nat.le_refl _, by unfold maxLen; omega, rfl, rfl⟩⟩ _)
  ·have := World.iter_heap (w.alloc (.cells #[] 5)) s 0
   have e : (w.alloc (.cells #[] 5)).heap.size = w.heap.size + 1 := by simp
   rw [e] at this
   exact this
 case round =>
  obtain ⟨pos, half, out, rfl, hown, hst, hol, hps, hit, hbw⟩ := hrel
  have HST := Lib.hid hst; clear hst
  have hsz : w.heap.size + 1 < wr.heap.size := (Array.getElem?_eq_some_iff.1 hit).1
  by_cases hp2 : pos < s.size
  ·have hpl : pos < s.data.toList.length := by rw [← Lib.size_eq]; exact hp2
   have hnx : ∀ ty, (Instr.next (.pointer (some ⟨w.heap.size + 1, 0, none⟩)) true ty).run Tryz.prog wr = _ := fun ty => Lib.run_next_any_at wr (w.heap.size + 1) s pos ty hit hp2
   have hrh := Lib.hid (rune_hex s pos hpl)
   have hmx := rune_max s pos
   have hrg := hexv_range (Utf8.decode s pos).1
   have HI := Lib.hid (fun W => idx_any (Utf8.decode s pos).1 hmx W)
   generalize hr : (Utf8.decode s pos).1 = r at *
   generalize hk : (Utf8.decode s pos).2 = k at *
   clear hr hk
   have hit2 := Lib.iterAt_heap wr (w.heap.size + 1) s pos (pos + k) hit
   have hbw2 := Lib.below_iterAt hbw (k := w.heap.size + 1) (by omega) s (pos + k)
   have hown2 := hown.iter_ (w.heap.size + 1) hit s (pos + k)
   have hsz2 : w.heap.size + 1 < (wr.iterAt (w.heap.size + 1) s (pos + k)).heap.size := by rw [Lib.iterAt_size]; exact hsz
   generalize hd : hexv r = d at *
   clear hd
   by_cases hneg : d < 0
   ·have hbad : unhexL s.data.toList = none := unhexL_bad _ _ (List.getElem_mem hpl) (by rcases hrh.out with ⟨h, _⟩ | ⟨_, h⟩ <;> omega)
    have HB := Lib.hid hbad; clear hbad
    go_wp2_with ((go_at_call 115; ((with_reducible refine (HI.out _).mono ?_); rintro _ _ ⟨rfl, g, rfl⟩)))
    go_ret2
    exact ⟨_, by rw [HB.out]; rfl, by rw [HB.out]; exact OwnR.nil _ _, below_trans hbw2 (grown_below _ _)⟩
   ·have hk1 : k = 1 ∧ hexv (s.data.toList[pos]).toNat = d := by rcases hrh.out with ⟨h, h2⟩ | ⟨h, _⟩ <;> omega
    obtain ⟨rfl, hx⟩ := hk1
    have HX := Lib.hid hx; clear hx
    rcases HST.out with ⟨rfl, hev, hun⟩ | ⟨hh0, hev, x, hx1, hx2, hun⟩
    ·have HU := Lib.hid hun; clear hun
     go_wp2_with ((go_at_call 115; ((with_reducible refine (HI.out _).mono ?_); rintro _ _ ⟨rfl, g, rfl⟩)))
     have hit3 : (grown (wr.iterAt (w.heap.size + 1) s (pos + 1)) g).heap[w.heap.size + 1]? = some (.stringIter s (pos + 1)) := (g.below.block _ hsz2).trans hit2
     have HIT3 := Lib.hid hit3; clear hit3
     go_roundw
     case rel =>
      refine ⟨pos + 1, d, out, rfl, hown2.grown_ g, .inr ⟨by omega, by omega, _, ?_, HX.out, HU.out⟩, by omega, by omega, HIT3.out, below_trans hbw2 (grown_below _ _)⟩
      simp
     case measure => rw [iterPos_of HIT3.out, iterPos_of hit]; omega
    ·have HU := Lib.hid hun; clear hun
     have HX1 := Lib.hid hx1; clear hx1
     have HX2 := Lib.hid hx2; clear hx2
     have hhr : half ≤ 15 := by have := (hexv_range x.toNat).2; have := HX2.out; omega
     have hwr : IntKind.u8.wrap (16 * half + d) = 16 * half + d := by simp [IntKind.wrap, IntKind.signed, IntKind.bits]; omega
     go_wp2_with ((go_at_call 115; ((with_reducible refine (HI.out _).mono ?_))))
     rintro _ _ rfl ⟨g, rfl⟩
     go_wp2_with (at_builtin; refine wp_append_byte rfl _ _ rfl w.heap.size ?vv out ?hs1 ?own1 _ 0 1 [UInt8.ofNat (16 * half + d).toNat] 1 rfl rfl ?hc1 ?hl1 ?hb1 ?_)
     case hs1 => rfl
     case own1 => exact (hown2.grown_ g).alloc_ _
     case hc1 =>
      intro j y hj
      match j, hj with
      | 0, hj =>
       simp only [List.getElem?_cons_zero, Option.some.injEq] at hj
       subst hj
       have e8 : ((UInt8.ofNat (16 * half + d).toNat).toNat : Int) = 16 * half + d := by
        rw [UInt8.toNat_ofNat', Nat.mod_eq_of_lt (by omega)]; omega
       simp only [bv, e8]
       simp [go_sem]
     case hl1 => simp; omega
     case hb1 => exact Nat.le_trans hbw2.size (Nat.le_trans (grown_below _ g).size (by simp))
     intro v2 w2 a2
     have hit4 : w2.heap[w.heap.size + 1]? = some (.stringIter s (pos + 1)) := a2.iter _ _ _ ((Below.heap_alloc _ _ _ (Nat.lt_of_lt_of_le hsz2 (grown_below _ g).size)).trans ((g.below.block _ hsz2).trans hit2))
     have HIT4 := Lib.hid hit4; clear hit4
     have hown3 := a2.own
     have hbw3 : Below w.heap.size w w2 := Below.trans ((below_trans hbw2 (grown_below _ g)).alloc (Nat.le_trans hbw2.size (grown_below _ g).size) _) a2.below
     clear a2
     go_wp2
     go_roundw
     case rel =>
      refine ⟨pos + 1, -1, _, rfl, hown3, .inl ⟨rfl, by omega, ?_⟩, by simp; omega, by omega, HIT4.out, hbw3⟩
      have hx1 := HX1.out
      have e1 : s.data.toList.take (pos + 1) = s.data.toList.take (pos - 1) ++ [x, s.data.toList[pos]] := by
       have h1 : s.data.toList.take pos = s.data.toList.take (pos - 1) ++ [x] := by
        have := List.take_add_one (l := s.data.toList) (i := pos - 1)
        rw [hx1, show pos - 1 + 1 = pos by omega] at this
        exact this
       rw [List.take_succ_eq_append_getElem hpl, h1]; simp
      rw [e1, unhexL_snoc _ _ _ _ HU.out (by have := HX2.out; omega) (by have := HX.out; omega), HX2.out, HX.out]
     case measure => rw [iterPos_of HIT4.out, iterPos_of hit]; omega
  ·have hnx : ∀ ty, (Instr.next (.pointer (some ⟨w.heap.size + 1, 0, none⟩)) true ty).run Tryz.prog wr = _ := fun ty => Lib.run_next_end_at wr (w.heap.size + 1) s pos ty hit hp2
   have hpe : pos = s.data.toList.length := by rw [← Lib.size_eq]; omega
   rcases HST.out with ⟨rfl, hev, hun⟩ | ⟨hh0, hev, x, hx1, hx2, hun⟩
   ·rw [List.take_of_length_le (by omega)] at hun
    have HU := Lib.hid hun; clear hun hpe
    go_wp2
    go_ret2
    exact ⟨_, by rw [HU.out]; rfl, by rw [HU.out]; exact hown, hbw⟩
   ·have hbad : unhexL s.data.toList = none := unhexL_odd _ (by omega)
    have HB := Lib.hid hbad; clear hbad hpe hx1 hun
    go_wp2
    go_ret2
    exact ⟨_, by rw [HB.out]; rfl, by rw [HB.out]; exact OwnR.nil _ _, hbw⟩
def DSt (l : List UInt8) (most : Nat) (pos : Nat) (z : Int) (g : Bool) : Prop :=
 if g then headB l = true ∧ (l.take pos).all digB = true ∧ z = dval (l.take pos) ∧ z ≤ most else decOk l most = false
theorem head_cases (s : ByteArray) : (s = ⟨#[]⟩) ∨ (s = ⟨#[48]⟩) ∨ (∃ h : 0 < s.size, (s.toList == [48]) = false ∧ s.toList.isEmpty = false ∧ headB s.data.toList = (s[0] != 48)) := by
 obtain ⟨⟨l⟩⟩ := s
 match l with
 | [] => exact .inl rfl
 | [x] =>
  by_cases h : x = 48
  ·subst h; exact .inr (.inl rfl)
  ·refine .inr (.inr ⟨by simp [ByteArray.size], by simp [Lib.toList_data, h], by simp [Lib.toList_data], ?_⟩)
   show (x != 48 || true) = (x != 48)
   simp [h]
 | x :: y :: r =>
  refine .inr (.inr ⟨by simp [ByteArray.size], by simp [Lib.toList_data], by simp [Lib.toList_data], ?_⟩)
  show (x != 48 || false) = (x != 48)
  simp
theorem dst_start (l : List UInt8) (most : Nat) : DSt l most 0 0 (headB l) := by
 unfold DSt
 cases h : headB l with
 | true => simp [dval]
 | false => simp [decOk, h]
theorem dst_false {l : List UInt8} {most pos : Nat} {z : Int} (h : DSt l most pos z false) (pos' : Nat) (z' : Int) : DSt l most pos' z' false := h
theorem take_at (l : List UInt8) (pos : Nat) (h : pos < l.length) : l.take (pos + 1) = l.take pos ++ [l[pos]] := List.take_succ_eq_append_getElem h
theorem dst_bad {l : List UInt8} {most pos : Nat} (h : pos < l.length) (hb : digB l[pos] = false) (pos' : Nat) (z' : Int) : DSt l most pos' z' false := by
 unfold DSt
 have h1 : l.all digB = false := by
  rw [List.all_eq_false]
  exact ⟨l[pos], List.getElem_mem h, by simp [hb]⟩
 simp [decOk, h1]
theorem dst_over {l : List UInt8} {most pos : Nat} (h : pos < l.length) (hb : most < dval (l.take (pos + 1))) (pos' : Nat) (z' : Int) : DSt l most pos' z' false := by
 unfold DSt
 have h1 : most < dval l := by
  have h2 := dval_app (l.take (pos + 1)) (l.drop (pos + 1))
  rw [List.take_append_drop] at h2
  omega
 have h3 : decide (dval l ≤ most) = false := by simp; omega
 simp [decOk, h3]
theorem dst_next {l : List UInt8} {most pos : Nat} {z : Int} (hd : DSt l most pos z true) (h : pos < l.length) (hb : digB l[pos] = true) (hm : 10 * z + ((l[pos].toNat : Int) - 48) ≤ most) : DSt l most (pos + 1) (z * 10 + ((l[pos].toNat : Int) - 48)) true := by
 unfold DSt at hd ⊢
 simp only [if_true] at hd ⊢
 obtain ⟨h1, h2, h3, h4⟩ := hd
 have h5 : 48 ≤ l[pos].toNat := by simp [digB] at hb; omega
 rw [take_at l pos h]
 refine ⟨h1, ?_, ?_, by omega⟩
 ·rw [List.all_append, h2]; simp [hb]
 ·rw [dval_snoc, h3]; omega
theorem dst_val {l : List UInt8} {most pos : Nat} {z : Int} (hd : DSt l most pos z true) (h : pos < l.length) (hb : digB l[pos] = true) : (dval (l.take (pos + 1)) : Int) = 10 * z + ((l[pos].toNat : Int) - 48) := by
 unfold DSt at hd
 simp only [if_true] at hd
 have h5 : 48 ≤ l[pos].toNat := by simp [digB] at hb; omega
 rw [take_at l pos h, dval_snoc, hd.2.2.1]; omega
theorem dst_end {l : List UInt8} {most pos : Nat} {z : Int} {g : Bool} (hd : DSt l most pos z g) (h : l.length ≤ pos) : decOk l most = g ∧ (g = true → z = decV l most) := by
 unfold DSt at hd
 rw [List.take_of_length_le h] at hd
 cases g with
 | false => exact ⟨by simpa using hd, by simp⟩
 | true =>
  simp only [if_true] at hd
  obtain ⟨h1, h2, h3, h4⟩ := hd
  have e : decOk l most = true := by simp [decOk, h1, h2]; omega
  exact ⟨e, fun _ => by rw [decV, if_pos e, h3]⟩
theorem decV_bad {l : List UInt8} {most : Nat} (h : decOk l most = false) : decV l most = 0 := by simp [decV, h]
theorem u64_in (x : Int) : 0 ≤ IntKind.u64.wrap x ∧ IntKind.u64.wrap x ≤ 18446744073709551615 := by
 have e : IntKind.u64.wrap x = x % 18446744073709551616 := by simp [IntKind.wrap, IntKind.signed, IntKind.bits]
 rw [e]; omega
theorem u64_wrap (x : Int) : IntKind.u64.wrap x = x % 18446744073709551616 := by simp [IntKind.wrap, IntKind.signed, IntKind.bits]
def LR (s : ByteArray) (most : Nat) (w : World) (n good : Value) (wr : World) : Prop :=
 ∃ (pos : Nat) (z : Int) (g : Bool), n = .int .u64 z ∧ 0 ≤ z ∧ z ≤ 18446744073709551615 ∧ good = .bool g ∧ DSt s.data.toList most pos z g ∧ wr.heap[w.heap.size]? = some (.stringIter s pos) ∧ Below w.heap.size w wr
theorem lr_start (s : ByteArray) (most : Nat) (w : World) (n : Nat) (g : Bool) (h : g = headB s.data.toList) : LR s most w (.int .u64 0) (.bool g) ((w.drewN n).alloc (.stringIter s 0)) := by
 subst h
 have hb : Below w.heap.size w (w.drewN n) := ⟨rfl, rfl, rfl, Nat.le_refl _, fun _ _ => rfl⟩
 exact ⟨0, 0, _, rfl, by omega, by omega, rfl, dst_start _ _, World.iter_heap (w.drewN n) s 0, hb.alloc (Nat.le_refl _) _⟩
theorem lr_step {s : ByteArray} {most : Nat} {w wr : World} {pos k S : Nat} {z' : Int} {g' : Bool} (hit : wr.heap[w.heap.size]? = some (.stringIter s pos)) (hbw : Below w.heap.size w wr) (hk : 1 ≤ k) (hp : pos < S)
  (hd : DSt s.data.toList most (pos + k) z' g') (z0 : 0 ≤ z') (z1 : z' ≤ 18446744073709551615) :
  LR s most w (.int .u64 z') (.bool g') (wr.iterAt w.heap.size s (pos + k)) ∧ S - (wr.iterAt w.heap.size s (pos + k)).iterPos w.heap.size < S - wr.iterPos w.heap.size := by
 have hit2 := Lib.iterAt_heap wr w.heap.size s pos (pos + k) hit
 refine ⟨⟨pos + k, z', g', rfl, z0, z1, rfl, hd, hit2, Lib.below_iterAt hbw (Nat.le_refl _) s (pos + k)⟩, ?_⟩
 rw [iterPos_of hit2, iterPos_of hit]; omega
theorem width_pos (s : ByteArray) (pos : Nat) (h : pos < s.size) : 1 ≤ (Utf8.decode s pos).2 := Lib.decode_width_pos s pos h
theorem rune_digit (s : ByteArray) (pos : Nat) (h : pos < s.data.toList.length) : (48 ≤ (Utf8.decode s pos).1 ∧ (Utf8.decode s pos).1 ≤ 57 ∧ (Utf8.decode s pos).2 = 1 ∧ (s.data.toList[pos]).toNat = (Utf8.decode s pos).1 ∧ digB s.data.toList[pos] = true) ∨ ((Utf8.decode s pos).1 < 48 ∧ digB s.data.toList[pos] = false) ∨ (57 < (Utf8.decode s pos).1 ∧ digB s.data.toList[pos] = false) := by
 have hs : pos < s.size := by rw [Lib.size_eq]; exact h
 have e : s.data.toList[pos] = s[pos] := rfl
 by_cases ha : (s[pos]'hs).toNat < 128
 ·rw [decode_ascii s pos hs ha, e]
  by_cases h1 : 48 ≤ s[pos].toNat
  ·by_cases h2 : s[pos].toNat ≤ 57
   ·exact .inl ⟨h1, h2, rfl, rfl, by simp [digB, h1, h2]⟩
   ·exact .inr (.inr ⟨by omega, by simp [digB]; omega⟩)
  ·exact .inr (.inl ⟨by omega, by simp [digB]; omega⟩)
 ·have h1 := (decode_high s pos hs (by omega)).1
  rw [e]
  exact .inr (.inr ⟨by omega, by simp [digB]; omega⟩)
theorem ret_dec {a b : Int} {c d : Bool} (h : a = b) (k : c = d) : Ending.returned (.tuple #[.int .u64 a, .bool c]) = .returned (.tuple #[.int .u64 b, .bool d]) := by rw [h, k]
set_option maxRecDepth 100000 in
set_option maxHeartbeats 4000000 in
theorem dec_any (s : ByteArray) (most : Nat) (hm : most ≤ 18446744073709551615) (hs : s.size ≤ 1000000000) (w : World) :
  Calls Tryz.prog 56 #[.string s, .int .u64 most] w fun e w' => e = .returned (.tuple #[.int .u64 (decV s.data.toList most), .bool (decOk s.data.toList most)]) ∧ Gr w w' := by
 have hst := Lib.hid (lr_start s most w)
 rcases head_cases s with rfl | rfl | ⟨h0, h1, h2, h3⟩
 ·go_enter Tryz.func56, Tryz.ntmps56
  go_wp2
  go_quiet (fail)
  go_wp2
  go_loopw [6, 7] (fun n good wr => LR ⟨#[]⟩ most w n good wr) (fun _ _ wr => 0 - wr.iterPos w.heap.size)
  case atStart => exact hst.out _ _ rfl
  case round =>
   obtain ⟨pos, z, g, rfl, z0, z1, rfl, hd, hit, hbw⟩ := hrel
   have HD := Lib.hid hd; clear hd
   by_cases hp2 : pos < (⟨#[]⟩ : ByteArray).size
   ·have hnx : ∀ ty, (Instr.next (.pointer (some ⟨w.heap.size, 0, none⟩)) true ty).run Tryz.prog wr = _ := fun ty => Lib.run_next_any_at wr w.heap.size (⟨#[]⟩ : ByteArray) pos ty hit hp2
    have hit2 := Lib.iterAt_heap wr w.heap.size (⟨#[]⟩ : ByteArray) pos (pos + (Utf8.decode (⟨#[]⟩ : ByteArray) pos).2) hit
    have hbw2 := Lib.below_iterAt hbw (k := w.heap.size) (Nat.le_refl _) (⟨#[]⟩ : ByteArray) (pos + (Utf8.decode (⟨#[]⟩ : ByteArray) pos).2)
    have hd1 := decode_le (⟨#[]⟩ : ByteArray) pos
    have hk1 := Lib.hid (width_pos (⟨#[]⟩ : ByteArray) pos hp2)
    have hrd := Lib.hid (rune_digit (⟨#[]⟩ : ByteArray) pos (by rw [← Lib.size_eq]; exact hp2))
    generalize hr : (Utf8.decode (⟨#[]⟩ : ByteArray) pos).1 = r at *
    generalize hk : (Utf8.decode (⟨#[]⟩ : ByteArray) pos).2 = k at *
    clear hr hk
    cases g
    ·go_wp2
     exact lr_step hit hbw hk1.out (by exact hp2) (dst_false HD.out _ _) (u64_in _).1 (u64_in _).2
    ·rcases hrd.out with ⟨d1, d2, rfl, d4, d5⟩ | ⟨d1, d2⟩ | ⟨d1, d2⟩
     ·have hs1 : IntKind.i32.wrap ((r : Int) - 48) = (r : Int) - 48 := by simp [IntKind.wrap, IntKind.signed, IntKind.bits]; omega
      have hs2 : IntKind.u64.wrap ((r : Int) - 48) = (r : Int) - 48 := by rw [u64_wrap]; omega
      by_cases hq : z ≤ (most : Int) / 10
      ·have hs3 : IntKind.u64.wrap (z * 10) = z * 10 := by rw [u64_wrap]; omega
       by_cases hq2 : (r : Int) - 48 ≤ most - z * 10
       ·have hs4 : IntKind.u64.wrap (z * 10 + ((r : Int) - 48)) = z * 10 + ((r : Int) - 48) := by rw [u64_wrap]; omega
        have HE := Lib.hid d4; clear d4
        have HE5 := Lib.hid d5; clear d5
        go_wp2
        all_goals
         have e : decide ((r : Int) - 48 ≤ (most : Int) - min (z * 10) most) = true := by rw [decide_eq_true_eq, Int.min_eq_left (by omega)]; omega
         rw [e]
         exact lr_step hit hbw (Nat.le_refl 1) (by exact hp2) (by
          have h5 := dst_next HD.out (by rw [← Lib.size_eq]; exact hp2) HE5.out (by rw [HE.out]; omega)
          rw [HE.out] at h5
          exact h5) (by omega) (by omega)
       ·have HE := Lib.hid d4; clear d4
        have HE5 := Lib.hid d5; clear d5
        go_wp2
        all_goals
         have e : decide ((r : Int) - 48 ≤ (most : Int) - min (z * 10) most) = false := by rw [decide_eq_false_iff_not, Int.min_eq_left (by omega)]; omega
         rw [e]
         exact lr_step hit hbw (Nat.le_refl 1) (by exact hp2) (dst_over (by rw [← Lib.size_eq]; exact hp2) (by
          have h5 := dst_val HD.out (by rw [← Lib.size_eq]; exact hp2) HE5.out
          rw [HE.out] at h5
          omega) _ _) (u64_in _).1 (u64_in _).2
      ·have HE := Lib.hid d4; clear d4
       have HE5 := Lib.hid d5; clear d5
       go_wp2
       all_goals
        exact lr_step hit hbw (Nat.le_refl 1) (by exact hp2) (dst_over (by rw [← Lib.size_eq]; exact hp2) (by
         have h5 := dst_val HD.out (by rw [← Lib.size_eq]; exact hp2) HE5.out
         rw [HE.out] at h5
         omega) _ _) (u64_in _).1 (u64_in _).2
     ·go_wp2
      all_goals exact lr_step hit hbw hk1.out (by exact hp2) (dst_bad (by rw [← Lib.size_eq]; exact hp2) d2 _ _) (u64_in _).1 (u64_in _).2
     ·go_wp2
      all_goals exact lr_step hit hbw hk1.out (by exact hp2) (dst_bad (by rw [← Lib.size_eq]; exact hp2) d2 _ _) (u64_in _).1 (u64_in _).2
   ·have hnx : ∀ ty, (Instr.next (.pointer (some ⟨w.heap.size, 0, none⟩)) true ty).run Tryz.prog wr = _ := fun ty => Lib.run_next_end_at wr w.heap.size (⟨#[]⟩ : ByteArray) pos ty hit hp2
    have hfin := dst_end HD.out (by rw [← Lib.size_eq]; omega)
    have HF := Lib.hid hfin; clear hfin
    cases g
    ·go_wp2
     go_ret2
     have h1 : decOk (⟨#[]⟩ : ByteArray).data.toList most = false := HF.out.1
     exact ⟨ret_dec (by rw [decV_bad h1]; rfl) h1.symm, Gr.of hbw⟩
    ·go_wp2
     go_ret2
     have h1 : decOk (⟨#[]⟩ : ByteArray).data.toList most = true := HF.out.1
     exact ⟨ret_dec (HF.out.2 (by trivial)) h1.symm, Gr.of hbw⟩
 ·go_enter Tryz.func56, Tryz.ntmps56
  go_wp2
  go_quiet (fail)
  go_wp2
  go_loopw [6, 7] (fun n good wr => LR ⟨#[48]⟩ most w n good wr) (fun _ _ wr => 1 - wr.iterPos w.heap.size)
  case atStart => exact hst.out _ _ rfl
  case round =>
   obtain ⟨pos, z, g, rfl, z0, z1, rfl, hd, hit, hbw⟩ := hrel
   have HD := Lib.hid hd; clear hd
   by_cases hp2 : pos < (⟨#[48]⟩ : ByteArray).size
   ·have hnx : ∀ ty, (Instr.next (.pointer (some ⟨w.heap.size, 0, none⟩)) true ty).run Tryz.prog wr = _ := fun ty => Lib.run_next_any_at wr w.heap.size (⟨#[48]⟩ : ByteArray) pos ty hit hp2
    have hit2 := Lib.iterAt_heap wr w.heap.size (⟨#[48]⟩ : ByteArray) pos (pos + (Utf8.decode (⟨#[48]⟩ : ByteArray) pos).2) hit
    have hbw2 := Lib.below_iterAt hbw (k := w.heap.size) (Nat.le_refl _) (⟨#[48]⟩ : ByteArray) (pos + (Utf8.decode (⟨#[48]⟩ : ByteArray) pos).2)
    have hd1 := decode_le (⟨#[48]⟩ : ByteArray) pos
    have hk1 := Lib.hid (width_pos (⟨#[48]⟩ : ByteArray) pos hp2)
    have hrd := Lib.hid (rune_digit (⟨#[48]⟩ : ByteArray) pos (by rw [← Lib.size_eq]; exact hp2))
    generalize hr : (Utf8.decode (⟨#[48]⟩ : ByteArray) pos).1 = r at *
    generalize hk : (Utf8.decode (⟨#[48]⟩ : ByteArray) pos).2 = k at *
    clear hr hk
    cases g
    ·go_wp2
     exact lr_step hit hbw hk1.out (by exact hp2) (dst_false HD.out _ _) (u64_in _).1 (u64_in _).2
    ·rcases hrd.out with ⟨d1, d2, rfl, d4, d5⟩ | ⟨d1, d2⟩ | ⟨d1, d2⟩
     ·have hs1 : IntKind.i32.wrap ((r : Int) - 48) = (r : Int) - 48 := by simp [IntKind.wrap, IntKind.signed, IntKind.bits]; omega
      have hs2 : IntKind.u64.wrap ((r : Int) - 48) = (r : Int) - 48 := by rw [u64_wrap]; omega
      by_cases hq : z ≤ (most : Int) / 10
      ·have hs3 : IntKind.u64.wrap (z * 10) = z * 10 := by rw [u64_wrap]; omega
       by_cases hq2 : (r : Int) - 48 ≤ most - z * 10
       ·have hs4 : IntKind.u64.wrap (z * 10 + ((r : Int) - 48)) = z * 10 + ((r : Int) - 48) := by rw [u64_wrap]; omega
        have HE := Lib.hid d4; clear d4
        have HE5 := Lib.hid d5; clear d5
        go_wp2
        all_goals
         have e : decide ((r : Int) - 48 ≤ (most : Int) - min (z * 10) most) = true := by rw [decide_eq_true_eq, Int.min_eq_left (by omega)]; omega
         rw [e]
         exact lr_step hit hbw (Nat.le_refl 1) (by exact hp2) (by
          have h5 := dst_next HD.out (by rw [← Lib.size_eq]; exact hp2) HE5.out (by rw [HE.out]; omega)
          rw [HE.out] at h5
          exact h5) (by omega) (by omega)
       ·have HE := Lib.hid d4; clear d4
        have HE5 := Lib.hid d5; clear d5
        go_wp2
        all_goals
         have e : decide ((r : Int) - 48 ≤ (most : Int) - min (z * 10) most) = false := by rw [decide_eq_false_iff_not, Int.min_eq_left (by omega)]; omega
         rw [e]
         exact lr_step hit hbw (Nat.le_refl 1) (by exact hp2) (dst_over (by rw [← Lib.size_eq]; exact hp2) (by
          have h5 := dst_val HD.out (by rw [← Lib.size_eq]; exact hp2) HE5.out
          rw [HE.out] at h5
          omega) _ _) (u64_in _).1 (u64_in _).2
      ·have HE := Lib.hid d4; clear d4
       have HE5 := Lib.hid d5; clear d5
       go_wp2
       all_goals
        exact lr_step hit hbw (Nat.le_refl 1) (by exact hp2) (dst_over (by rw [← Lib.size_eq]; exact hp2) (by
         have h5 := dst_val HD.out (by rw [← Lib.size_eq]; exact hp2) HE5.out
         rw [HE.out] at h5
         omega) _ _) (u64_in _).1 (u64_in _).2
     ·go_wp2
      all_goals exact lr_step hit hbw hk1.out (by exact hp2) (dst_bad (by rw [← Lib.size_eq]; exact hp2) d2 _ _) (u64_in _).1 (u64_in _).2
     ·go_wp2
      all_goals exact lr_step hit hbw hk1.out (by exact hp2) (dst_bad (by rw [← Lib.size_eq]; exact hp2) d2 _ _) (u64_in _).1 (u64_in _).2
   ·have hnx : ∀ ty, (Instr.next (.pointer (some ⟨w.heap.size, 0, none⟩)) true ty).run Tryz.prog wr = _ := fun ty => Lib.run_next_end_at wr w.heap.size (⟨#[48]⟩ : ByteArray) pos ty hit hp2
    have hfin := dst_end HD.out (by rw [← Lib.size_eq]; omega)
    have HF := Lib.hid hfin; clear hfin
    cases g
    ·go_wp2
     go_ret2
     have h1 : decOk (⟨#[48]⟩ : ByteArray).data.toList most = false := HF.out.1
     exact ⟨ret_dec (by rw [decV_bad h1]; rfl) h1.symm, Gr.of hbw⟩
    ·go_wp2
     go_ret2
     have h1 : decOk (⟨#[48]⟩ : ByteArray).data.toList most = true := HF.out.1
     exact ⟨ret_dec (HF.out.2 (by trivial)) h1.symm, Gr.of hbw⟩
 ·have H3 := Lib.hid h3; clear h3
  go_enter Tryz.func56, Tryz.ntmps56
  go_wp2
  go_quiet (fail)
  go_wp2
  go_loopw [6, 7] (fun n good wr => LR s most w n good wr) (fun _ _ wr => s.size - wr.iterPos w.heap.size)
  case atStart => exact hst.out _ _ (by rw [H3.out, Bool.eq_iff_iff]; simp only [bne_iff_ne, ne_eq]; exact not_congr ⟨fun h => UInt8.toNat_inj.1 (by simpa using (by omega : s[0].toNat = 48)), fun h => by rw [h]; rfl⟩)
  case round =>
   obtain ⟨pos, z, g, rfl, z0, z1, rfl, hd, hit, hbw⟩ := hrel
   have HD := Lib.hid hd; clear hd
   by_cases hp2 : pos < s.size
   ·have hnx : ∀ ty, (Instr.next (.pointer (some ⟨w.heap.size, 0, none⟩)) true ty).run Tryz.prog wr = _ := fun ty => Lib.run_next_any_at wr w.heap.size s pos ty hit hp2
    have hit2 := Lib.iterAt_heap wr w.heap.size s pos (pos + (Utf8.decode s pos).2) hit
    have hbw2 := Lib.below_iterAt hbw (k := w.heap.size) (Nat.le_refl _) s (pos + (Utf8.decode s pos).2)
    have hd1 := decode_le s pos
    have hk1 := Lib.hid (width_pos s pos hp2)
    have hrd := Lib.hid (rune_digit s pos (by rw [← Lib.size_eq]; exact hp2))
    generalize hr : (Utf8.decode s pos).1 = r at *
    generalize hk : (Utf8.decode s pos).2 = k at *
    clear hr hk
    cases g
    ·go_wp2
     exact lr_step hit hbw hk1.out (by exact hp2) (dst_false HD.out _ _) (u64_in _).1 (u64_in _).2
    ·rcases hrd.out with ⟨d1, d2, rfl, d4, d5⟩ | ⟨d1, d2⟩ | ⟨d1, d2⟩
     ·have hs1 : IntKind.i32.wrap ((r : Int) - 48) = (r : Int) - 48 := by simp [IntKind.wrap, IntKind.signed, IntKind.bits]; omega
      have hs2 : IntKind.u64.wrap ((r : Int) - 48) = (r : Int) - 48 := by rw [u64_wrap]; omega
      by_cases hq : z ≤ (most : Int) / 10
      ·have hs3 : IntKind.u64.wrap (z * 10) = z * 10 := by rw [u64_wrap]; omega
       by_cases hq2 : (r : Int) - 48 ≤ most - z * 10
       ·have hs4 : IntKind.u64.wrap (z * 10 + ((r : Int) - 48)) = z * 10 + ((r : Int) - 48) := by rw [u64_wrap]; omega
        have HE := Lib.hid d4; clear d4
        have HE5 := Lib.hid d5; clear d5
        go_wp2
        all_goals
         have e : decide ((r : Int) - 48 ≤ (most : Int) - min (z * 10) most) = true := by rw [decide_eq_true_eq, Int.min_eq_left (by omega)]; omega
         rw [e]
         exact lr_step hit hbw (Nat.le_refl 1) (by exact hp2) (by
          have h5 := dst_next HD.out (by rw [← Lib.size_eq]; exact hp2) HE5.out (by rw [HE.out]; omega)
          rw [HE.out] at h5
          exact h5) (by omega) (by omega)
       ·have HE := Lib.hid d4; clear d4
        have HE5 := Lib.hid d5; clear d5
        go_wp2
        all_goals
         have e : decide ((r : Int) - 48 ≤ (most : Int) - min (z * 10) most) = false := by rw [decide_eq_false_iff_not, Int.min_eq_left (by omega)]; omega
         rw [e]
         exact lr_step hit hbw (Nat.le_refl 1) (by exact hp2) (dst_over (by rw [← Lib.size_eq]; exact hp2) (by
          have h5 := dst_val HD.out (by rw [← Lib.size_eq]; exact hp2) HE5.out
          rw [HE.out] at h5
          omega) _ _) (u64_in _).1 (u64_in _).2
      ·have HE := Lib.hid d4; clear d4
       have HE5 := Lib.hid d5; clear d5
       go_wp2
       all_goals
        exact lr_step hit hbw (Nat.le_refl 1) (by exact hp2) (dst_over (by rw [← Lib.size_eq]; exact hp2) (by
         have h5 := dst_val HD.out (by rw [← Lib.size_eq]; exact hp2) HE5.out
         rw [HE.out] at h5
         omega) _ _) (u64_in _).1 (u64_in _).2
     ·go_wp2
      all_goals exact lr_step hit hbw hk1.out (by exact hp2) (dst_bad (by rw [← Lib.size_eq]; exact hp2) d2 _ _) (u64_in _).1 (u64_in _).2
     ·go_wp2
      all_goals exact lr_step hit hbw hk1.out (by exact hp2) (dst_bad (by rw [← Lib.size_eq]; exact hp2) d2 _ _) (u64_in _).1 (u64_in _).2
   ·have hnx : ∀ ty, (Instr.next (.pointer (some ⟨w.heap.size, 0, none⟩)) true ty).run Tryz.prog wr = _ := fun ty => Lib.run_next_end_at wr w.heap.size s pos ty hit hp2
    have hfin := dst_end HD.out (by rw [← Lib.size_eq]; omega)
    have HF := Lib.hid hfin; clear hfin
    cases g
    ·go_wp2
     go_ret2
     have h1 : decOk s.data.toList most = false := HF.out.1
     exact ⟨ret_dec (by rw [decV_bad h1]; rfl) h1.symm, Gr.of hbw⟩
    ·go_wp2
     go_ret2
     have h1 : decOk s.data.toList most = true := HF.out.1
     exact ⟨ret_dec (HF.out.2 (by trivial)) h1.symm, Gr.of hbw⟩
end Go.Proofs.YtgjdgafoidppaaaGreatDoor
