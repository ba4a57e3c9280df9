/- A line's words, taken one by one: word, number, small. Conditions: the words stand in memory. The tables of layers 13, 26: what the kinds have. Conditions: none. command.within, command.Same. Conditions: what is read stands in memory. script.MayStage, voileref26.MayStage. Conditions: none. 'l = append(l, word)' onto a slice of the call's own, with all that stays as it was. Conditions: at most 1000 words. 'l = append(l, words..)' onto a slice of the call's own: some words at once. Conditions: at most 10^6 words. voileref01.Decimal, voileref26.number, small: numbers that the reference reads; Text, text: numbers that it tells. Conditions: a text of at most 10^9 bytes. strconv.FormatUint at base 10, strconv.Itoa. Conditions: strconv's table of powers stands. -/
import Derived.Test.YtgjdgafoidppaaaGreatDoorP01
import Derived.Test.YtgjdgafoidppaaaGreatDoorP02
import Derived.Outline
import Derived.BigQuiet
import Derived.Deep.QuietTactic
import Derived.Shelf.Strconv.Itoa3
namespace Go.Proofs.YtgjdgafoidppaaaGreatDoor
open Go.RowKit
set_option linter.unusedVariables false
set_option linter.unusedSimpArgs false
set_option linter.unnecessarySimpa false
structure Wrd (p : Nat) (W W' : World) : Prop where
 g : W.grownBy W' (some p)
theorem Wrd.refl (p : Nat) (W : World) : Wrd p W W := ⟨rfl, rfl, rfl, Nat.le_refl _, fun _ _ _ => rfl⟩
theorem Wrd.trans {p : Nat} {A B C : World} (h : Wrd p A B) (k : Wrd p B C) : Wrd p A C :=
 ⟨k.g.os.trans h.g.os, k.g.tape.trans h.g.tape, k.g.output.trans h.g.output, Nat.le_trans h.g.size k.g.size, fun i hi hne => (k.g.block i (Nat.lt_of_lt_of_le hi h.g.size) hne).trans (h.g.block i hi hne)⟩
theorem Wrd.gr {p : Nat} {W W' : World} (h : Gr W W') : Wrd p W W' := ⟨h.below.os, h.below.tape, h.below.output, h.below.size, fun i hi _ => h.below.block i hi⟩
theorem Wrd.set (p o : Nat) (W : World) (v : Value) : Wrd p W (W.setCell ⟨p, o, none⟩ v) :=
 ⟨rfl, rfl, rfl, by simp [World.setCell], fun i _ hne => Below.heap_setCell W ⟨p, o, none⟩ v i (fun e => hne (by rw [e]))⟩
theorem Wrd.below {p base : Nat} {W W' : World} (h : Wrd p W W') (hb : base ≤ p) (hw : base ≤ W.heap.size) : Below base W W' := ⟨h.g.os, h.g.tape, h.g.output, h.g.size, fun i hi => h.g.block i (Nat.lt_of_lt_of_le hi hw) (fun e => by cases e; omega)⟩
theorem Wrd.old {p : Nat} {W W' : World} (h : Wrd p W W') (b : Nat) [k : Old b W] : Old b W' := ⟨Nat.lt_of_lt_of_le k.lt h.g.size⟩
theorem Wrd.from_ {p : Nat} {W W' : World} (h : Wrd p W W') (a : World) [k : From a W] : From a W' := ⟨Nat.le_trans k.le h.g.size⟩
theorem Wrd.tb {p : Nat} {W W' : World} (h : Wrd p W W') [hf : Far p] [k : Tb W] : Tb W' := k.keep h.g.size (fun b hb => h.g.block b (Nat.lt_of_lt_of_le hb k.size) (fun e => by cases e; have := hf.le; omega))
theorem Wrd.ml {p : Nat} {W W' : World} (h : Wrd p W W') [hf : Far p] [k : Ml W] : Ml W' := k.keep (h.g.block _ k.lt (fun e => by have := hf.le; simp at e; omega))
theorem Wrd.cell {p b o : Nat} {W W' : World} (h : Wrd p W W') (hne : b ≠ p) {v : Value} (hc : W.cell? ⟨b, o, none⟩ = some v) : W'.cell? ⟨b, o, none⟩ = some v := by
 have hb := (old_of_cell hc).lt
 simp only [World.cell?] at hc ⊢
 rw [h.g.block b hb (fun e => hne (by cases e; rfl))]; exact hc
theorem Row.wrd {α : Type} {enc : α → Value} {p : Nat} {W W' : World} {A : Option Addr} {l : List α} (hr : Row enc W A l) (h : Wrd p W W') (hne : ∀ a, A = some a → a.block ≠ p) : Row enc W' A l :=
 ⟨fun h0 => by
  obtain ⟨b, o, rfl, hb, hc⟩ := hr.at_ h0
  exact ⟨b, o, rfl, Nat.lt_of_lt_of_le hb h.g.size, fun j x hx => h.cell (hne _ rfl) (hc j x hx)⟩⟩
structure WS (p : Nat) (W : World) (ws : List ByteArray) (bad : Bool) : Prop where
 f0 : W.frozen? ⟨p, 0, none⟩ = false
 f1 : W.frozen? ⟨p, 1, none⟩ = false
 c1 : W.cell? ⟨p, 1, none⟩ = some (.bool bad)
 c0 : ∃ A c, W.cell? ⟨p, 0, none⟩ = some (.slice A ws.length c) ∧ ws.length ≤ c ∧ (∀ a, A = some a → a.block ≠ p) ∧ Row Value.string W A ws
 few : ws.length ≤ 1000000
 short : ∀ x ∈ ws, x.size ≤ 1000000000
theorem Row.set {p o : Nat} {W : World} {A : Option Addr} {l : List ByteArray} (h : Row Value.string W A l) (v : Value) (hne : ∀ a, A = some a → a.block ≠ p) : Row Value.string (W.setCell ⟨p, o, none⟩ v) A l := h.wrd (Wrd.set p o W v) hne
theorem WS.bad {p : Nat} {W : World} {ws : List ByteArray} {bad : Bool} (h : WS p W ws bad) (b : Bool) : WS p (W.setCell ⟨p, 1, none⟩ (.bool b)) ws b := by
 obtain ⟨f0, f1, c1, ⟨A, c, c0, hc, hne, hr⟩, few, short⟩ := h
 refine ⟨by rw [World.frozen?_setCell]; exact f0, by rw [World.frozen?_setCell]; exact f1, World.cell?_setCell_same _ _ _ c1, ⟨A, c, ?_, hc, hne, hr.set _ hne⟩, few, short⟩
 rw [World.cell?_setCell_other _ _ _ _ (by intro e; cases e)]; exact c0
theorem WS.drop {p : Nat} {W : World} {x : ByteArray} {ws : List ByteArray} {bad : Bool} (h : WS p W (x :: ws) bad) (A : Option Addr) (c : Nat) (hc : ws.length ≤ c) (hne : ∀ a, A = some a → a.block ≠ p) (hr : Row Value.string W A ws) : WS p (W.setCell ⟨p, 0, none⟩ (.slice A ws.length c)) ws bad := by
 obtain ⟨f0, f1, c1, ⟨A0, c', c0, _, _, _⟩, few, short⟩ := h
 refine ⟨by rw [World.frozen?_setCell]; exact f0, by rw [World.frozen?_setCell]; exact f1, ?_, ⟨A, c, World.cell?_setCell_same _ _ _ c0, hc, hne, hr.set _ hne⟩, Nat.le_of_succ_le few, fun y hy => short y (List.mem_cons_of_mem _ hy)⟩
 rw [World.cell?_setCell_other _ _ _ _ (by intro e; cases e)]; exact c1
theorem WS.gr {p : Nat} {W : World} {ws : List ByteArray} {bad : Bool} (h : WS p W ws bad) (g : Growth W) : WS p (grown W g) ws bad := by
 obtain ⟨f0, f1, c1, ⟨A, c, c0, hc, hne, hr⟩, few, short⟩ := h
 haveI := old_of_cell c1
 exact ⟨by rw [grown_frozen]; exact f0, by rw [grown_frozen]; exact f1, by rw [grown_cells]; exact c1, ⟨A, c, by rw [grown_cells]; exact c0, hc, hne, hr.gr (Gr.of (grown_below W g))⟩, few, short⟩
theorem WS.old {p : Nat} {W : World} {ws : List ByteArray} {bad : Bool} (h : WS p W ws bad) : Old p W := old_of_cell h.c1
def hdW : List ByteArray → ByteArray
 | [] => ⟨#[]⟩
 | x :: _ => x
theorem word_any (p : Nat) (W : World) (ws : List ByteArray) (bad : Bool) (h : WS p W ws bad) :
  Calls Tryz.prog 49 #[.pointer (some ⟨p, 0, none⟩)] W fun e W' => e = .returned (.string (hdW ws)) ∧ WS p W' ws.tail (bad || ws.isEmpty) ∧ Wrd p W W' := by
 have H := Lib.hid h
 obtain ⟨f0, f1, c1, ⟨A, c, c0, hc, hne, hr⟩, few, short⟩ := h
 cases ws with
 | nil =>
  go_enter Tryz.func49, Tryz.ntmps49
  go_wp2
  go_ret
  exact ⟨rfl, by simpa using H.out.bad true, Wrd.set _ _ _ _⟩
 | cons x r =>
  obtain ⟨b, o, rfl, hb, hx⟩ := hr.at_ (by simp)
  have hx0 : W.cell? ⟨b, o, none⟩ = some (.string x) := hx 0 x rfl
  have HX := Lib.hid hx; clear hx
  have HR : ∀ o', o' = o + 1 ∨ r = [] → Row Value.string W (some ⟨b, o', none⟩) r := fun o' ho => ⟨fun h0 => ⟨b, o', rfl, hb, fun j y hj => by
   rcases ho with rfl | e
   ·have := HX.out (j + 1) y hj
    rwa [show o + (j + 1) = o + 1 + j by omega] at this
   ·exact absurd e h0⟩⟩
  have HRH := Lib.hid HR; clear HR
  have hcl : r.length + 1 ≤ c := hc
  have hbp : b ≠ p := hne _ rfl
  have HNE := Lib.hid hbp; clear hne hbp
  go_enter Tryz.func49, Tryz.ntmps49
  go_wp2
  all_goals go_ret
  all_goals refine ⟨rfl, ?_, Wrd.set _ _ _ _⟩
  all_goals first
   | exact H.out.drop _ _ (by omega) (fun a e => by cases e; exact HNE.out) (HRH.out _ (.inl rfl))
   | exact H.out.drop _ _ (by omega) (fun a e => by cases e; exact HNE.out) (HRH.out _ (.inr (List.eq_nil_of_length_eq_zero (by omega))))
theorem headD_short {ws : List ByteArray} (h : ∀ x ∈ ws, x.size ≤ 1000000000) : (hdW ws).size ≤ 1000000000 := by
 cases ws with
 | nil => exact Nat.zero_le _
 | cons x r => exact h x (by simp)
theorem number_any (p : Nat) (most : Nat) (hm : most ≤ 18446744073709551615) (W : World) (ws : List ByteArray) (bad : Bool) (h : WS p W ws bad) :
  Calls Tryz.prog 82 #[.pointer (some ⟨p, 0, none⟩), .int .u64 most] W fun e W' => e = .returned (.int .u64 (decV (hdW ws).data.toList most)) ∧ WS p W' ws.tail (bad || !decOk (hdW ws).data.toList most) ∧ Wrd p W W' := by
 have H := Lib.hid h
 have HD := Lib.hid (dec_any (hdW ws) most hm (headD_short h.short))
 clear h
 go_enter Tryz.func82, Tryz.ntmps82
 go_wp2_with ((go_at_call 49; ((with_reducible refine (word_any p _ ws bad H.out).mono ?_))))
 rintro _ W1 ⟨rfl, h1, r1⟩
 have c1 := h1.c1
 have f1 := h1.f1
 haveI := h1.old
 have H1 := Lib.hid h1; clear h1
 have R1 := Lib.hid r1; clear r1
 rcases Bool.eq_false_or_eq_true (bad || ws.isEmpty) with hb | hb
 ·rw [hb] at c1
  have HB := Lib.hid hb; clear hb
  go_wp2_with ((go_at_call 56; ((with_reducible refine (HD.out _).mono ?_); rintro _ _ ⟨rfl, g, rfl⟩)))
  go_ret
  have hB : (bad || !decOk (hdW ws).data.toList most) = true := by
   have := HB.out
   cases bad with
   | true => rfl
   | false => simp at this; subst this; rfl
  exact ⟨rfl, by rw [hB]; exact (H1.out.gr g).bad true, (R1.out.trans (Wrd.gr (Gr.of (grown_below W1 g)))).trans (Wrd.set _ _ _ _)⟩
 ·rw [hb] at c1
  have HB := Lib.hid hb; clear hb
  go_wp2_with ((go_at_call 56; ((with_reducible refine (HD.out _).mono ?_); rintro _ _ ⟨rfl, g, rfl⟩)))
  go_ret
  have hB : (bad || !decOk (hdW ws).data.toList most) = !decOk (hdW ws).data.toList most := by
   have := HB.out
   cases bad with
   | true => cases this
   | false => rfl
  exact ⟨rfl, by rw [hB]; exact (H1.out.gr g).bad _, (R1.out.trans (Wrd.gr (Gr.of (grown_below W1 g)))).trans (Wrd.set _ _ _ _)⟩
theorem small_any (p : Nat) (most : Nat) (hm : most ≤ 9223372036854775807) (W : World) (ws : List ByteArray) (bad : Bool) (h : WS p W ws bad) :
  Calls Tryz.prog 53 #[.pointer (some ⟨p, 0, none⟩), .int .i64 most] W fun e W' => e = .returned (.int .i64 (decV (hdW ws).data.toList most)) ∧ WS p W' ws.tail (bad || !decOk (hdW ws).data.toList most) ∧ Wrd p W W' := by
 have H := Lib.hid h; clear h
 have hv := decV_le (hdW ws).data.toList most
 have hw : IntKind.i64.wrap (decV (hdW ws).data.toList most : Int) = (decV (hdW ws).data.toList most : Int) := by rw [IntKind.wrap_i64]; omega
 have hw2 : IntKind.u64.wrap (most : Int) = (most : Int) := by rw [u64_wrap]; omega
 go_enter Tryz.func53, Tryz.ntmps53
 go_wp2_with ((go_at_call 82; ((with_reducible refine (number_any p most (by omega) _ ws bad H.out).mono ?_))))
 rintro _ W1 ⟨rfl, h1, r1⟩
 have H1 := Lib.hid h1; clear h1
 have R1 := Lib.hid r1; clear r1
 go_wp2
 go_ret
 exact ⟨rfl, H1.out, R1.out⟩
def namesB (k : Int) : ByteArray := if k = 1 then ⟨#[118, 115]⟩ else if k = 2 then ⟨#[118]⟩ else if k = 3 then ⟨#[118, 115]⟩ else if k = 4 then ⟨#[118, 116]⟩ else if k = 5 then ⟨#[118, 97, 100]⟩ else if k = 6 then ⟨#[118, 97, 99]⟩ else if k = 7 then ⟨#[118, 97, 99]⟩ else if k = 9 then ⟨#[118, 97, 99]⟩ else ⟨#[]⟩
theorem namesB_off (k : Int) (h : k < 1 ∨ 9 < k) : namesB k = ⟨#[]⟩ := by
 unfold namesB
 repeat (rw [if_neg (by omega)])
set_option maxHeartbeats 1000000 in
theorem namesB_any (k : Int) (w : World) : Calls Tryz.prog 84 #[.int .i64 k] w fun e w' => e = .returned (.string (namesB k)) ∧ Gr w w' := by
 by_cases h1 : k < 1
 ·have e0 := namesB_off k (by omega)
  have e := Lib.hid e0; clear e0
  go_enter Tryz.func84, Tryz.ntmps84
  go_wp2
  go_ret
  exact ⟨by rw [e.out]; rfl, gri⟩
 by_cases h2 : 9 < k
 ·have e0 := namesB_off k (by omega)
  have e := Lib.hid e0; clear e0
  go_enter Tryz.func84, Tryz.ntmps84
  go_wp2
  go_ret
  exact ⟨by rw [e.out]; rfl, gri⟩
 have h3 : k = 1 ∨ k = 2 ∨ k = 3 ∨ k = 4 ∨ k = 5 ∨ k = 6 ∨ k = 7 ∨ k = 8 ∨ k = 9 := by omega
 clear h1 h2
 rcases h3 with rfl | rfl | rfl | rfl | rfl | rfl | rfl | rfl | rfl
 all_goals
  go_enter Tryz.func84, Tryz.ntmps84
  go_wp2
  go_ret
  exact ⟨rfl, gri⟩
def opPartsB (k : Int) : ByteArray := if k = 1 then ⟨#[118, 115]⟩ else if k = 2 then ⟨#[118]⟩ else if k = 3 then ⟨#[118, 115]⟩ else if k = 4 then ⟨#[118, 116]⟩ else if k = 5 then ⟨#[118, 97, 100]⟩ else if k = 6 then ⟨#[118, 97, 99]⟩ else if k = 7 then ⟨#[118, 97, 99]⟩ else if k = 9 then ⟨#[118, 97, 99]⟩ else ⟨#[]⟩
theorem opPartsB_off (k : Int) (h : k < 0 ∨ 9 < k) : opPartsB k = ⟨#[]⟩ := by
 unfold opPartsB
 repeat (rw [if_neg (by omega)])
set_option maxHeartbeats 1000000 in
theorem opPartsB_any (k : Int) (w : World) : Calls Tryz.prog 81 #[.int .i64 k] w fun e w' => e = .returned (.string (opPartsB k)) ∧ Gr w w' := by
 by_cases h1 : k < 0
 ·have e0 := opPartsB_off k (by omega)
  have e := Lib.hid e0; clear e0
  go_enter Tryz.func81, Tryz.ntmps81
  go_wp2
  go_ret
  exact ⟨by rw [e.out]; rfl, gri⟩
 by_cases h2 : 9 < k
 ·have e0 := opPartsB_off k (by omega)
  have e := Lib.hid e0; clear e0
  go_enter Tryz.func81, Tryz.ntmps81
  go_wp2
  go_ret
  exact ⟨by rw [e.out]; rfl, gri⟩
 have h3 : k = 0 ∨ k = 1 ∨ k = 2 ∨ k = 3 ∨ k = 4 ∨ k = 5 ∨ k = 6 ∨ k = 7 ∨ k = 8 ∨ k = 9 := by omega
 clear h1 h2
 rcases h3 with rfl | rfl | rfl | rfl | rfl | rfl | rfl | rfl | rfl | rfl
 all_goals
  go_enter Tryz.func81, Tryz.ntmps81
  go_wp2
  go_ret
  exact ⟨rfl, gri⟩
def actPartsB (k : Int) : ByteArray := if k = 1 then ⟨#[100, 111]⟩ else if k = 2 then ⟨#[110]⟩ else if k = 3 then ⟨#[100]⟩ else if k = 4 then ⟨#[100, 112]⟩ else if k = 5 then ⟨#[100, 112]⟩ else if k = 6 then ⟨#[100, 110]⟩ else if k = 7 then ⟨#[100]⟩ else if k = 8 then ⟨#[100]⟩ else if k = 9 then ⟨#[100, 110]⟩ else ⟨#[]⟩
theorem actPartsB_off (k : Int) (h : k < 0 ∨ 10 < k) : actPartsB k = ⟨#[]⟩ := by
 unfold actPartsB
 repeat (rw [if_neg (by omega)])
set_option maxHeartbeats 1000000 in
theorem actPartsB_any (k : Int) (w : World) : Calls Tryz.prog 52 #[.int .i64 k] w fun e w' => e = .returned (.string (actPartsB k)) ∧ Gr w w' := by
 by_cases h1 : k < 0
 ·have e0 := actPartsB_off k (by omega)
  have e := Lib.hid e0; clear e0
  go_enter Tryz.func52, Tryz.ntmps52
  go_wp2
  go_ret
  exact ⟨by rw [e.out]; rfl, gri⟩
 by_cases h2 : 10 < k
 ·have e0 := actPartsB_off k (by omega)
  have e := Lib.hid e0; clear e0
  go_enter Tryz.func52, Tryz.ntmps52
  go_wp2
  go_ret
  exact ⟨by rw [e.out]; rfl, gri⟩
 have h3 : k = 0 ∨ k = 1 ∨ k = 2 ∨ k = 3 ∨ k = 4 ∨ k = 5 ∨ k = 6 ∨ k = 7 ∨ k = 8 ∨ k = 9 ∨ k = 10 := by omega
 clear h1 h2
 rcases h3 with rfl | rfl | rfl | rfl | rfl | rfl | rfl | rfl | rfl | rfl | rfl
 all_goals
  go_enter Tryz.func52, Tryz.ntmps52
  go_wp2
  go_ret
  exact ⟨rfl, gri⟩
theorem ret_bool {a b : Bool} (h : a = b) : Ending.returned (.bool a) = .returned (.bool b) := by rw [h]
def wVol (v : Int) : Bool := decide (1 ≤ v) && decide (v < 4294967296)
def wTo (t v : Int) : Bool := decide (1 ≤ t) && decide (t < 4294967296) && (t != v)
def wSize (s : Int) : Bool := decide (0 ≤ s) && decide (s ≤ 256)
def wAt (a : Int) : Bool := decide (0 ≤ a) && decide (a ≤ 1048576)
def wCount (c : Int) : Bool := decide (1 ≤ c) && decide (c ≤ 1024)
def wData (n : Nat) : Bool := decide (64 ≤ n) && decide (n % 64 = 0) && decide (n ≤ 2048)
set_option maxHeartbeats 1000000 in
theorem within_v (xk xv xt xs xa xc : Int) (xD : Option Addr) (xn xq : Nat) (w : World) : Calls Tryz.prog 85 #[.int .i32 118, (Value.agg #[.int .i64 xk, .int .u64 xv, .int .u64 xt, .int .i64 xs, .int .i64 xa, .int .i64 xc, .slice xD xn xq])] w fun e w' => e = .returned (.bool (wVol xv)) ∧ Gr w w' := by
 by_cases h0 : 1 ≤ xv
 ·by_cases h1 : xv < 4294967296
  ·go_enter Tryz.func85, Tryz.ntmps85
   go_wp2
   go_ret
   exact ⟨ret_bool (by simp [wVol, wSize, wAt, wCount, *]), gri⟩
  ·have f1 : decide (xv < 4294967296) = false := by simpa using h1
   go_enter Tryz.func85, Tryz.ntmps85
   go_wp2
   go_ret
   exact ⟨ret_bool (by simp [wVol, wSize, wAt, wCount, *]), gri⟩
 ·have f0 : decide (1 ≤ xv) = false := by simpa using h0
  go_enter Tryz.func85, Tryz.ntmps85
  go_wp2
  go_ret
  exact ⟨ret_bool (by simp [wVol, wSize, wAt, wCount, *]), gri⟩
set_option maxHeartbeats 1000000 in
theorem within_s (xk xv xt xs xa xc : Int) (xD : Option Addr) (xn xq : Nat) (w : World) : Calls Tryz.prog 85 #[.int .i32 115, (Value.agg #[.int .i64 xk, .int .u64 xv, .int .u64 xt, .int .i64 xs, .int .i64 xa, .int .i64 xc, .slice xD xn xq])] w fun e w' => e = .returned (.bool (wSize xs)) ∧ Gr w w' := by
 by_cases h0 : 0 ≤ xs
 ·by_cases h1 : xs ≤ 256
  ·go_enter Tryz.func85, Tryz.ntmps85
   go_wp2
   go_ret
   exact ⟨ret_bool (by simp [wVol, wSize, wAt, wCount, *]), gri⟩
  ·have f1 : decide (xs ≤ 256) = false := by simpa using h1
   go_enter Tryz.func85, Tryz.ntmps85
   go_wp2
   go_ret
   exact ⟨ret_bool (by simp [wVol, wSize, wAt, wCount, *]), gri⟩
 ·have f0 : decide (0 ≤ xs) = false := by simpa using h0
  go_enter Tryz.func85, Tryz.ntmps85
  go_wp2
  go_ret
  exact ⟨ret_bool (by simp [wVol, wSize, wAt, wCount, *]), gri⟩
set_option maxHeartbeats 1000000 in
theorem within_a (xk xv xt xs xa xc : Int) (xD : Option Addr) (xn xq : Nat) (w : World) : Calls Tryz.prog 85 #[.int .i32 97, (Value.agg #[.int .i64 xk, .int .u64 xv, .int .u64 xt, .int .i64 xs, .int .i64 xa, .int .i64 xc, .slice xD xn xq])] w fun e w' => e = .returned (.bool (wAt xa)) ∧ Gr w w' := by
 by_cases h0 : 0 ≤ xa
 ·by_cases h1 : xa ≤ 1048576
  ·go_enter Tryz.func85, Tryz.ntmps85
   go_wp2
   go_ret
   exact ⟨ret_bool (by simp [wVol, wSize, wAt, wCount, *]), gri⟩
  ·have f1 : decide (xa ≤ 1048576) = false := by simpa using h1
   go_enter Tryz.func85, Tryz.ntmps85
   go_wp2
   go_ret
   exact ⟨ret_bool (by simp [wVol, wSize, wAt, wCount, *]), gri⟩
 ·have f0 : decide (0 ≤ xa) = false := by simpa using h0
  go_enter Tryz.func85, Tryz.ntmps85
  go_wp2
  go_ret
  exact ⟨ret_bool (by simp [wVol, wSize, wAt, wCount, *]), gri⟩
set_option maxHeartbeats 1000000 in
theorem within_c (xk xv xt xs xa xc : Int) (xD : Option Addr) (xn xq : Nat) (w : World) : Calls Tryz.prog 85 #[.int .i32 99, (Value.agg #[.int .i64 xk, .int .u64 xv, .int .u64 xt, .int .i64 xs, .int .i64 xa, .int .i64 xc, .slice xD xn xq])] w fun e w' => e = .returned (.bool (wCount xc)) ∧ Gr w w' := by
 by_cases h0 : 1 ≤ xc
 ·by_cases h1 : xc ≤ 1024
  ·go_enter Tryz.func85, Tryz.ntmps85
   go_wp2
   go_ret
   exact ⟨ret_bool (by simp [wVol, wSize, wAt, wCount, *]), gri⟩
  ·have f1 : decide (xc ≤ 1024) = false := by simpa using h1
   go_enter Tryz.func85, Tryz.ntmps85
   go_wp2
   go_ret
   exact ⟨ret_bool (by simp [wVol, wSize, wAt, wCount, *]), gri⟩
 ·have f0 : decide (1 ≤ xc) = false := by simpa using h0
  go_enter Tryz.func85, Tryz.ntmps85
  go_wp2
  go_ret
  exact ⟨ret_bool (by simp [wVol, wSize, wAt, wCount, *]), gri⟩
set_option maxHeartbeats 1000000 in
theorem within_t (xk xv xt xs xa xc : Int) (xD : Option Addr) (xn xq : Nat) (w : World) : Calls Tryz.prog 85 #[.int .i32 116, (Value.agg #[.int .i64 xk, .int .u64 xv, .int .u64 xt, .int .i64 xs, .int .i64 xa, .int .i64 xc, .slice xD xn xq])] w fun e w' => e = .returned (.bool (wTo xt xv)) ∧ Gr w w' := by
 by_cases h0 : 1 ≤ xt
 ·by_cases h1 : xt < 4294967296
  ·rcases Bool.eq_false_or_eq_true (xt != xv) with h2 | h2
   all_goals
    go_enter Tryz.func85, Tryz.ntmps85
    go_wp2
    go_ret
    exact ⟨ret_bool (by simp only [wTo, h2, decide_eq_true h0, decide_eq_true h1]; rfl), gri⟩
  ·have f1 : decide (xt < 4294967296) = false := by simpa using h1
   go_enter Tryz.func85, Tryz.ntmps85
   go_wp2
   go_ret
   exact ⟨ret_bool (by simp [wTo, f1]), gri⟩
 ·have f0 : decide (1 ≤ xt) = false := by simpa using h0
  go_enter Tryz.func85, Tryz.ntmps85
  go_wp2
  go_ret
  exact ⟨ret_bool (by simp [wTo, f0]), gri⟩
set_option maxHeartbeats 1000000 in
theorem within_d (xk xv xt xs xa xc : Int) (xD : Option Addr) (xn xq : Nat) (w : World) : Calls Tryz.prog 85 #[.int .i32 100, (Value.agg #[.int .i64 xk, .int .u64 xv, .int .u64 xt, .int .i64 xs, .int .i64 xa, .int .i64 xc, .slice xD xn xq])] w fun e w' => e = .returned (.bool (wData xn)) ∧ Gr w w' := by
 go_enter Tryz.func85, Tryz.ntmps85
 go_wp2
 all_goals go_ret
 all_goals exact ⟨ret_bool (by rw [Bool.eq_iff_iff]; simp [wData]; omega), gri⟩
def sameB (xk xv xt xs xa xc yk yv yt ys ya yc : Int) (lx ly : List UInt8) : Bool := xk == yk && xv == yv && xt == yt && xs == ys && xa == ya && xc == yc && lx == ly
set_option maxHeartbeats 2000000 in
theorem same13_any (xk xv xt xs xa xc yk yv yt ys ya yc : Int) (xD yD : Option Addr) (xn xq yn yq : Nat) (lx ly : List UInt8) (w : World) (hx : lx.length = xn) (hy : ly.length = yn) (hn : xn ≤ 9223372036854775807) (h1 : Row bv w xD lx) (h2 : Row bv w yD ly) :
  Calls Tryz.prog 76 #[(Value.agg #[.int .i64 xk, .int .u64 xv, .int .u64 xt, .int .i64 xs, .int .i64 xa, .int .i64 xc, .slice xD xn xq]), (Value.agg #[.int .i64 yk, .int .u64 yv, .int .u64 yt, .int .i64 ys, .int .i64 ya, .int .i64 yc, .slice yD yn yq])] w fun e w' => e = .returned (.bool (sameB xk xv xt xs xa xc yk yv yt ys ya yc lx ly)) ∧ Gr w w' := by
 have HX := Lib.hid hx; clear hx
 have HY := Lib.hid hy; clear hy
 rcases Bool.eq_false_or_eq_true (xk == yk) with k1 | k1
 rotate_left
 ·go_enter Tryz.func76, Tryz.ntmps76
  go_wp2
  go_ret
  exact ⟨ret_bool (by simp [sameB, k1]), gri⟩
 rcases Bool.eq_false_or_eq_true (xv == yv) with k2 | k2
 rotate_left
 ·go_enter Tryz.func76, Tryz.ntmps76
  go_wp2
  go_ret
  exact ⟨ret_bool (by simp [sameB, k2]), gri⟩
 rcases Bool.eq_false_or_eq_true (xt == yt) with k3 | k3
 rotate_left
 ·go_enter Tryz.func76, Tryz.ntmps76
  go_wp2
  go_ret
  exact ⟨ret_bool (by simp [sameB, k3]), gri⟩
 rcases Bool.eq_false_or_eq_true (xs == ys) with k4 | k4
 rotate_left
 ·go_enter Tryz.func76, Tryz.ntmps76
  go_wp2
  go_ret
  exact ⟨ret_bool (by simp [sameB, k4]), gri⟩
 rcases Bool.eq_false_or_eq_true (xa == ya) with k5 | k5
 rotate_left
 ·go_enter Tryz.func76, Tryz.ntmps76
  go_wp2
  go_ret
  exact ⟨ret_bool (by simp [sameB, k5]), gri⟩
 rcases Bool.eq_false_or_eq_true (xc == yc) with k6 | k6
 rotate_left
 ·go_enter Tryz.func76, Tryz.ntmps76
  go_wp2
  go_ret
  exact ⟨ret_bool (by simp [sameB, k6]), gri⟩
 go_enter Tryz.func76, Tryz.ntmps76
 go_wp2_with (go_at_call 99; ((with_reducible refine (equalB_any _ _ _ _ _ _ lx ly _ HX.out HY.out hn (h1.gr (gri)) (h2.gr (gri))).mono ?_); rintro _ _ ⟨rfl, g, rfl⟩))
 go_ret
 exact ⟨ret_bool (by simp [sameB, k1, k2, k3, k4, k5, k6]), gri⟩
def mayStB (m0 m1 d0 d1 g : Int) : Bool := decide (16 ≤ m0) && decide (m0 ≤ 240) && decide (16 ≤ m1) && decide (m1 ≤ 240) && decide (1 ≤ d0) && decide (d0 ≤ 480) && decide (1 ≤ d1) && decide (d1 ≤ 480) && decide (0 ≤ g) && decide (g ≤ 480)
theorem mayStB_no {m0 m1 d0 d1 g : Int} (h : m0 < 16 ∨ 240 < m0 ∨ m1 < 16 ∨ 240 < m1 ∨ d0 < 1 ∨ 480 < d0 ∨ d1 < 1 ∨ 480 < d1 ∨ g < 0 ∨ 480 < g) : mayStB m0 m1 d0 d1 g = false := by
 cases e : mayStB m0 m1 d0 d1 g with
 | false => rfl
 | true => simp [mayStB] at e; omega
theorem mayStB_yes {m0 m1 d0 d1 g : Int} : mayStB m0 m1 d0 d1 g = true ↔ 16 ≤ m0 ∧ m0 ≤ 240 ∧ 16 ≤ m1 ∧ m1 ≤ 240 ∧ 1 ≤ d0 ∧ d0 ≤ 480 ∧ 1 ≤ d1 ∧ d1 ≤ 480 ∧ 0 ≤ g ∧ g ≤ 480 := by
 simp [mayStB, and_assoc]
set_option maxHeartbeats 4000000 in
theorem mayStage_any (m0 m1 d0 d1 g : Int) (w : World) : Calls Tryz.prog 67 #[.agg #[.int .i64 m0, .int .i64 m1, .int .i64 d0, .int .i64 d1, .int .i64 g]] w fun e w' => e = .returned (.bool (mayStB m0 m1 d0 d1 g)) ∧ Gr w w' := by
 rcases (by omega : m0 < 16 ∨ 16 ≤ m0) with a0 | a0
 ·have E := Lib.hid (mayStB_no (m0 := m0) (m1 := m1) (d0 := d0) (d1 := d1) (g := g) (by omega))
  have f0 : decide (16 ≤ m0) = false := by simp; omega
  go_enter Tryz.func67, Tryz.ntmps67
  go_wp2
  refine wp_loop_rounds 3 ?_
  rw [rounds_succ]
  go_wp2
  go_ret
  exact ⟨by rw [E.out]; rfl, gri⟩
 ·have t0 : True := trivial
  rcases (by omega : 240 < m0 ∨ m0 ≤ 240) with a1 | a1
  ·have E := Lib.hid (mayStB_no (m0 := m0) (m1 := m1) (d0 := d0) (d1 := d1) (g := g) (by omega))
   have f1 : decide (m0 ≤ 240) = false := by simp; omega
   go_enter Tryz.func67, Tryz.ntmps67
   go_wp2
   refine wp_loop_rounds 3 ?_
   rw [rounds_succ]
   go_wp2
   go_ret
   exact ⟨by rw [E.out]; rfl, gri⟩
  ·have t1 : True := trivial
   rcases (by omega : d0 < 1 ∨ 1 ≤ d0) with a2 | a2
   ·have E := Lib.hid (mayStB_no (m0 := m0) (m1 := m1) (d0 := d0) (d1 := d1) (g := g) (by omega))
    have f2 : decide (1 ≤ d0) = false := by simp; omega
    go_enter Tryz.func67, Tryz.ntmps67
    go_wp2
    refine wp_loop_rounds 3 ?_
    rw [rounds_succ]
    go_wp2
    go_ret
    exact ⟨by rw [E.out]; rfl, gri⟩
   ·have t2 : True := trivial
    rcases (by omega : 480 < d0 ∨ d0 ≤ 480) with a3 | a3
    ·have E := Lib.hid (mayStB_no (m0 := m0) (m1 := m1) (d0 := d0) (d1 := d1) (g := g) (by omega))
     have f3 : decide (d0 ≤ 480) = false := by simp; omega
     go_enter Tryz.func67, Tryz.ntmps67
     go_wp2
     refine wp_loop_rounds 3 ?_
     rw [rounds_succ]
     go_wp2
     go_ret
     exact ⟨by rw [E.out]; rfl, gri⟩
    ·have t3 : True := trivial
     rcases (by omega : m1 < 16 ∨ 16 ≤ m1) with a4 | a4
     ·have E := Lib.hid (mayStB_no (m0 := m0) (m1 := m1) (d0 := d0) (d1 := d1) (g := g) (by omega))
      have f4 : decide (16 ≤ m1) = false := by simp; omega
      go_enter Tryz.func67, Tryz.ntmps67
      go_wp2
      refine wp_loop_rounds 3 ?_
      rw [rounds_succ]
      go_wp2
      rw [rounds_succ]
      go_wp2
      go_ret
      exact ⟨by rw [E.out]; rfl, gri⟩
     ·have t4 : True := trivial
      rcases (by omega : 240 < m1 ∨ m1 ≤ 240) with a5 | a5
      ·have E := Lib.hid (mayStB_no (m0 := m0) (m1 := m1) (d0 := d0) (d1 := d1) (g := g) (by omega))
       have f5 : decide (m1 ≤ 240) = false := by simp; omega
       go_enter Tryz.func67, Tryz.ntmps67
       go_wp2
       refine wp_loop_rounds 3 ?_
       rw [rounds_succ]
       go_wp2
       rw [rounds_succ]
       go_wp2
       go_ret
       exact ⟨by rw [E.out]; rfl, gri⟩
      ·have t5 : True := trivial
       rcases (by omega : d1 < 1 ∨ 1 ≤ d1) with a6 | a6
       ·have E := Lib.hid (mayStB_no (m0 := m0) (m1 := m1) (d0 := d0) (d1 := d1) (g := g) (by omega))
        have f6 : decide (1 ≤ d1) = false := by simp; omega
        go_enter Tryz.func67, Tryz.ntmps67
        go_wp2
        refine wp_loop_rounds 3 ?_
        rw [rounds_succ]
        go_wp2
        rw [rounds_succ]
        go_wp2
        go_ret
        exact ⟨by rw [E.out]; rfl, gri⟩
       ·have t6 : True := trivial
        rcases (by omega : 480 < d1 ∨ d1 ≤ 480) with a7 | a7
        ·have E := Lib.hid (mayStB_no (m0 := m0) (m1 := m1) (d0 := d0) (d1 := d1) (g := g) (by omega))
         have f7 : decide (d1 ≤ 480) = false := by simp; omega
         go_enter Tryz.func67, Tryz.ntmps67
         go_wp2
         refine wp_loop_rounds 3 ?_
         rw [rounds_succ]
         go_wp2
         rw [rounds_succ]
         go_wp2
         go_ret
         exact ⟨by rw [E.out]; rfl, gri⟩
        ·have t7 : True := trivial
         rcases (by omega : g < 0 ∨ 0 ≤ g) with a8 | a8
         ·have E := Lib.hid (mayStB_no (m0 := m0) (m1 := m1) (d0 := d0) (d1 := d1) (g := g) (by omega))
          have f8 : decide (0 ≤ g) = false := by simp; omega
          go_enter Tryz.func67, Tryz.ntmps67
          go_wp2
          refine wp_loop_rounds 3 ?_
          rw [rounds_succ]
          go_wp2
          rw [rounds_succ]
          go_wp2
          rw [rounds_succ]
          go_wp2
          go_ret
          exact ⟨by rw [E.out]; rfl, gri⟩
         ·have t8 : True := trivial
          rcases (by omega : 480 < g ∨ g ≤ 480) with a9 | a9
          ·have E := Lib.hid (mayStB_no (m0 := m0) (m1 := m1) (d0 := d0) (d1 := d1) (g := g) (by omega))
           have f9 : decide (g ≤ 480) = false := by simp; omega
           go_enter Tryz.func67, Tryz.ntmps67
           go_wp2
           refine wp_loop_rounds 3 ?_
           rw [rounds_succ]
           go_wp2
           rw [rounds_succ]
           go_wp2
           rw [rounds_succ]
           go_wp2
           go_ret
           exact ⟨by rw [E.out]; rfl, gri⟩
          ·have t9 : True := trivial
           have E := Lib.hid (mayStB_yes.2 (by omega : 16 ≤ m0 ∧ m0 ≤ 240 ∧ 16 ≤ m1 ∧ m1 ≤ 240 ∧ 1 ≤ d0 ∧ d0 ≤ 480 ∧ 1 ≤ d1 ∧ d1 ≤ 480 ∧ 0 ≤ g ∧ g ≤ 480))
           go_enter Tryz.func67, Tryz.ntmps67
           go_wp2
           refine wp_loop_rounds 3 ?_
           rw [rounds_succ]
           go_wp2
           rw [rounds_succ]
           go_wp2
           rw [rounds_succ]
           go_wp2
           go_ret
           exact ⟨by rw [E.out]; rfl, gri⟩
set_option maxHeartbeats 4000000 in
theorem mayStage26_any (m0 m1 d0 d1 g : Int) (w : World) : Calls Tryz.prog 74 #[.agg #[.int .i64 m0, .int .i64 m1, .int .i64 d0, .int .i64 d1, .int .i64 g]] w fun e w' => e = .returned (.bool (mayStB m0 m1 d0 d1 g)) ∧ Gr w w' := by
 rcases (by omega : m0 < 16 ∨ 16 ≤ m0) with a0 | a0
 ·have E := Lib.hid (mayStB_no (m0 := m0) (m1 := m1) (d0 := d0) (d1 := d1) (g := g) (by omega))
  have f0 : decide (16 ≤ m0) = false := by simp; omega
  go_enter Tryz.func74, Tryz.ntmps74
  go_wp2
  go_ret
  exact ⟨by rw [E.out]; rfl, gri⟩
 ·have t0 : True := trivial
  rcases (by omega : 240 < m0 ∨ m0 ≤ 240) with a1 | a1
  ·have E := Lib.hid (mayStB_no (m0 := m0) (m1 := m1) (d0 := d0) (d1 := d1) (g := g) (by omega))
   have f1 : decide (m0 ≤ 240) = false := by simp; omega
   go_enter Tryz.func74, Tryz.ntmps74
   go_wp2
   go_ret
   exact ⟨by rw [E.out]; rfl, gri⟩
  ·have t1 : True := trivial
   rcases (by omega : m1 < 16 ∨ 16 ≤ m1) with a2 | a2
   ·have E := Lib.hid (mayStB_no (m0 := m0) (m1 := m1) (d0 := d0) (d1 := d1) (g := g) (by omega))
    have f2 : decide (16 ≤ m1) = false := by simp; omega
    go_enter Tryz.func74, Tryz.ntmps74
    go_wp2
    go_ret
    exact ⟨by rw [E.out]; rfl, gri⟩
   ·have t2 : True := trivial
    rcases (by omega : 240 < m1 ∨ m1 ≤ 240) with a3 | a3
    ·have E := Lib.hid (mayStB_no (m0 := m0) (m1 := m1) (d0 := d0) (d1 := d1) (g := g) (by omega))
     have f3 : decide (m1 ≤ 240) = false := by simp; omega
     go_enter Tryz.func74, Tryz.ntmps74
     go_wp2
     go_ret
     exact ⟨by rw [E.out]; rfl, gri⟩
    ·have t3 : True := trivial
     rcases (by omega : d0 < 1 ∨ 1 ≤ d0) with a4 | a4
     ·have E := Lib.hid (mayStB_no (m0 := m0) (m1 := m1) (d0 := d0) (d1 := d1) (g := g) (by omega))
      have f4 : decide (1 ≤ d0) = false := by simp; omega
      go_enter Tryz.func74, Tryz.ntmps74
      go_wp2
      go_ret
      exact ⟨by rw [E.out]; rfl, gri⟩
     ·have t4 : True := trivial
      rcases (by omega : 480 < d0 ∨ d0 ≤ 480) with a5 | a5
      ·have E := Lib.hid (mayStB_no (m0 := m0) (m1 := m1) (d0 := d0) (d1 := d1) (g := g) (by omega))
       have f5 : decide (d0 ≤ 480) = false := by simp; omega
       go_enter Tryz.func74, Tryz.ntmps74
       go_wp2
       go_ret
       exact ⟨by rw [E.out]; rfl, gri⟩
      ·have t5 : True := trivial
       rcases (by omega : d1 < 1 ∨ 1 ≤ d1) with a6 | a6
       ·have E := Lib.hid (mayStB_no (m0 := m0) (m1 := m1) (d0 := d0) (d1 := d1) (g := g) (by omega))
        have f6 : decide (1 ≤ d1) = false := by simp; omega
        go_enter Tryz.func74, Tryz.ntmps74
        go_wp2
        go_ret
        exact ⟨by rw [E.out]; rfl, gri⟩
       ·have t6 : True := trivial
        rcases (by omega : 480 < d1 ∨ d1 ≤ 480) with a7 | a7
        ·have E := Lib.hid (mayStB_no (m0 := m0) (m1 := m1) (d0 := d0) (d1 := d1) (g := g) (by omega))
         have f7 : decide (d1 ≤ 480) = false := by simp; omega
         go_enter Tryz.func74, Tryz.ntmps74
         go_wp2
         go_ret
         exact ⟨by rw [E.out]; rfl, gri⟩
        ·have t7 : True := trivial
         rcases (by omega : g < 0 ∨ 0 ≤ g) with a8 | a8
         ·have E := Lib.hid (mayStB_no (m0 := m0) (m1 := m1) (d0 := d0) (d1 := d1) (g := g) (by omega))
          have f8 : decide (0 ≤ g) = false := by simp; omega
          go_enter Tryz.func74, Tryz.ntmps74
          go_wp2
          go_ret
          exact ⟨by rw [E.out]; rfl, gri⟩
         ·have t8 : True := trivial
          rcases (by omega : 480 < g ∨ g ≤ 480) with a9 | a9
          ·have E := Lib.hid (mayStB_no (m0 := m0) (m1 := m1) (d0 := d0) (d1 := d1) (g := g) (by omega))
           have f9 : decide (g ≤ 480) = false := by simp; omega
           go_enter Tryz.func74, Tryz.ntmps74
           go_wp2
           go_ret
           exact ⟨by rw [E.out]; rfl, gri⟩
          ·have t9 : True := trivial
           have E := Lib.hid (mayStB_yes.2 (by omega : 16 ≤ m0 ∧ m0 ≤ 240 ∧ 16 ≤ m1 ∧ m1 ≤ 240 ∧ 1 ≤ d0 ∧ d0 ≤ 480 ∧ 1 ≤ d1 ∧ d1 ≤ 480 ∧ 0 ≤ g ∧ g ≤ 480))
           go_enter Tryz.func74, Tryz.ntmps74
           go_wp2
           go_ret
           exact ⟨by rw [E.out]; rfl, gri⟩
theorem OwnS.alloc_ {base : Nat} {W : World} {v : Value} {xs : List ByteArray} (h : OwnS base W v xs) (o : Obj) : OwnS base (W.alloc o) v xs := World.ownsRow.alloc h o
theorem OwnS.drew_ {base : Nat} {W : World} {v : Value} {xs : List ByteArray} (h : OwnS base W v xs) : OwnS base W.drew v xs := h
theorem OwnS.grown_ {base : Nat} {W : World} {v : Value} {xs : List ByteArray} (h : OwnS base W v xs) (g : Growth W) : OwnS base (grown W g) v xs := h.gr (Gr.of (grown_below W g))
theorem OwnS.iter_ {base : Nat} {W : World} {v : Value} {xs : List ByteArray} (h : OwnS base W v xs) (k : Nat) {s : ByteArray} {pos : Nat} [hi : IterAt W k s pos] (s' : ByteArray) (pos' : Nat) : OwnS base (W.iterAt k s' pos') v xs := by
 refine ⟨h.1, ?_⟩
 rcases h.2 with h2 | ⟨g, cap, cur, hv, hb, hh, h4⟩
 ·exact .inl h2
 ·refine .inr ⟨g, cap, cur, hv, hb, ?_, h4⟩
  have hne : g ≠ k := by
   rintro rfl
   have := hi.eq
   rw [hh] at this
   cases this
  rw [Lib.iterAt_other W k g s' pos' hne]
  exact hh
theorem OwnS.lt {base : Nat} {W : World} {v : Value} {xs : List ByteArray} (h : OwnS base W v xs) : ∀ k, v.ownBlock = some k → base ≤ k ∧ k < W.heap.size := World.ownsRow.lt h
structure App (base : Nat) (W : World) (v : Value) (xs : List ByteArray) (y : ByteArray) (v' : Value) (W' : World) : Prop where
 own : OwnS base W' v' (xs ++ [y])
 below : Below base W W'
 size : W.heap.size ≤ W'.heap.size
 iter : ∀ k s pos, IterAt W k s pos → IterAt W' k s pos
theorem App.tb {base : Nat} {W : World} {v : Value} {xs : List ByteArray} {y : ByteArray} {v' : Value} {W' : World} (h : App base W v xs y v' W') (hf : 6 ≤ base) [ht : Tb W] : Tb W' :=
 ht.keep h.size (fun b hb => h.below.block b (by omega))
theorem App.from_ {base : Nat} {W : World} {v : Value} {xs : List ByteArray} {y : ByteArray} {v' : Value} {W' : World} (h : App base W v xs y v' W') (a : World) [ht : From a W] : From a W' := ⟨Nat.le_trans ht.le h.size⟩
theorem App.old {base : Nat} {W : World} {v : Value} {xs : List ByteArray} {y : ByteArray} {v' : Value} {W' : World} (h : App base W v xs y v' W') (b : Nat) [ht : Old b W] : Old b W' := ⟨Nat.lt_of_lt_of_le ht.lt h.size⟩
theorem App.cell {base : Nat} {W : World} {v : Value} {xs : List ByteArray} {y : ByteArray} {v' : Value} {W' : World} (h : App base W v xs y v' W') {b o : Nat} {u : Value} (hb : b < base) (hc : W.cell? ⟨b, o, none⟩ = some u) : W'.cell? ⟨b, o, none⟩ = some u := (h.below.cell (p := ⟨b, o, none⟩) hb).trans hc
theorem App.chain {base : Nat} {W : World} {v : Value} {xs : List ByteArray} {y : ByteArray} {v' : Value} {W' : World} (h : App base W v xs y v' W') {a : World} (hb : Below a.heap.size a W) (hl : a.heap.size ≤ base) : Below a.heap.size a W' := hb.trans (h.below.mono hl)
theorem wp_append_str {ops : Array Oper} {rest : List Oper} {o : Oper} {a : Act} {Q : Exit → Act → World → Prop} (hgd : o.guard = none) (s x : Operand)
  (ho : o.op = .call { callee := .builtin .append, args := #[s, x], argTypes := #[69, 69] })
  (base : Nat) {W : World} (v : Value) (xs : List ByteArray) (hs : a.eval s = v) (hown : OwnS base W v xs) (ad : Nat) (y : ByteArray) (hx : a.eval x = .slice (some ⟨ad, 0, none⟩) 1 1)
  (hc : W.cell? ⟨ad, 0, none⟩ = some (.string y)) (hlen : xs.length ≤ 1000) (hbase : base ≤ W.heap.size)
  (h : ∀ v' W', App base W v xs y v' W' → wpList Tryz.prog ops Q rest (a.put o.dst v') W') : wpList Tryz.prog ops Q (o :: rest) a W := by
 obtain ⟨i0, hi, hz0, hz1, hz2⟩ := info_parts infoString
 refine wpList_append_own W hgd s x 69 ho base 9 i0 (.string ⟨#[]⟩) 1 16 Tryz.underlying69 hi hz0 hz1 hz2 rfl (by decide) v xs.length (xs.map Value.string) hs hown ⟨ad, 0, none⟩ 1 1 [.string y] hx rfl ?_ ?_ ?_ ?_ hbase ?_
 ·intro j u hj
  match j, hj with
  | 0, hj => simp at hj; subst hj; simpa [Addr.add] using hc
 ·intro u hu; simp at hu; subst hu; rfl
 ·unfold maxLen; omega
 ·omega
 ·intro v' W' hown' hgrow _
  refine h v' W' ⟨by simpa [OwnS] using hown', (Below.refl base W).grown hgrow hbase (fun q hq => (hown.lt q hq).1), hgrow.size, fun k st pos hk => ⟨?_⟩⟩
  refine (hgrow.block k hk.lt ?_).trans hk.eq
  intro e
  rcases hown.2 with ⟨rfl, _⟩ | ⟨g, cap, cur, rfl, _, hh, _⟩
  ·simp [Value.ownBlock] at e
  ·have : k = g := by simpa [Value.ownBlock] using e
   subst this
   have := hk.eq
   rw [hh] at this
   cases this
structure Apps (base : Nat) (W : World) (v : Value) (xs ys : List ByteArray) (v' : Value) (W' : World) : Prop where
 own : OwnS base W' v' (xs ++ ys)
 below : Below base W W'
 size : W.heap.size ≤ W'.heap.size
 keep : ∀ B cs t, BlockAt W B cs t → t ≠ 9 → BlockAt W' B cs t
theorem Apps.tb {base : Nat} {W W' : World} {v v' : Value} {xs ys : List ByteArray} (h : Apps base W v xs ys v' W') (hf : 6 ≤ base) [ht : Tb W] : Tb W' := ht.keep h.size (fun b hb => h.below.block b (by omega))
theorem Apps.ml {base : Nat} {W W' : World} {v v' : Value} {xs ys : List ByteArray} (h : Apps base W v xs ys v' W') (hf : 6 ≤ base) [ht : Ml W] : Ml W' := ht.keep (h.below.block _ (by omega))
theorem Apps.from_ {base : Nat} {W W' : World} {v v' : Value} {xs ys : List ByteArray} (h : Apps base W v xs ys v' W') (a : World) [ht : From a W] : From a W' := ⟨Nat.le_trans ht.le h.size⟩
theorem Apps.old {base : Nat} {W W' : World} {v v' : Value} {xs ys : List ByteArray} (h : Apps base W v xs ys v' W') (b : Nat) [ht : Old b W] : Old b W' := ⟨Nat.lt_of_lt_of_le ht.lt h.size⟩
theorem Apps.cell {base : Nat} {W W' : World} {v v' : Value} {xs ys : List ByteArray} (h : Apps base W v xs ys v' W') {b o : Nat} {u : Value} (hb : b < base) (hc : W.cell? ⟨b, o, none⟩ = some u) : W'.cell? ⟨b, o, none⟩ = some u := (h.below.cell (p := ⟨b, o, none⟩) hb).trans hc
theorem Apps.chain {base : Nat} {W W' : World} {v v' : Value} {xs ys : List ByteArray} (h : Apps base W v xs ys v' W') {a : World} (hb : Below a.heap.size a W) (hl : a.heap.size ≤ base) : Below a.heap.size a W' := hb.trans (h.below.mono hl)
theorem wp_append_strs {ops : Array Oper} {rest : List Oper} {o : Oper} {a : Act} {Q : Exit → Act → World → Prop} (hgd : o.guard = none) (s x : Operand)
  (ho : o.op = .call { callee := .builtin .append, args := #[s, x], argTypes := #[69, 69] })
  (base : Nat) {W : World} (v : Value) (xs : List ByteArray) (hs : a.eval s = v) (hown : OwnS base W v xs) (ad : Nat) (ys : List ByteArray) (m : Nat) (hm : ys.length = m) (hx : a.eval x = .slice (some ⟨ad, 0, none⟩) m m)
  (hc : ∀ j y, ys[j]? = some y → W.cell? ⟨ad, j, none⟩ = some (.string y)) (hlen : xs.length + ys.length ≤ 2000000) (hbase : base ≤ W.heap.size)
  (h : ∀ v' W', Apps base W v xs ys v' W' → wpList Tryz.prog ops Q rest (a.put o.dst v') W') : wpList Tryz.prog ops Q (o :: rest) a W := by
 subst hm
 obtain ⟨i0, hi, hz0, hz1, hz2⟩ := info_parts infoString
 refine wpList_append_own W hgd s x 69 ho base 9 i0 (.string ⟨#[]⟩) 1 16 Tryz.underlying69 hi hz0 hz1 hz2 rfl (by decide) v xs.length (xs.map Value.string) hs hown ⟨ad, 0, none⟩ ys.length ys.length (ys.map Value.string) hx (by simp) ?_ ?_ ?_ ?_ hbase ?_
 ·intro j u hj
  rw [List.getElem?_map] at hj
  cases hy : ys[j]? with
  | none => rw [hy] at hj; cases hj
  | some y =>
   rw [hy] at hj
   cases hj
   rw [Go.WideShapes.add_plain, Nat.zero_add]
   exact hc j y hy
 ·intro u hu
  simp only [List.mem_map] at hu
  obtain ⟨y, _, rfl⟩ := hu
  rfl
 ·unfold maxLen; omega
 ·omega
 ·intro v' W' hown' hgrow _
  refine h v' W' ⟨by simpa [OwnS] using hown', (Below.refl base W).grown hgrow hbase (fun q hq => (hown.lt q hq).1), hgrow.size, fun B cs t hB ht => hB.grown hgrow (fun e => ?_)⟩
  rcases hown.2 with ⟨rfl, _⟩ | ⟨g, cap, cur, rfl, _, hh, _⟩
  ·simp [Value.ownBlock] at e
  ·have : B = g := by simpa [Value.ownBlock] using e
   subst this
   have := hB.eq
   rw [hh] at this
   cases this
   exact ht rfl
def RSt (l : List UInt8) (pos : Nat) (z : Int) : Prop := headB l = true ∧ (l.take pos).all digB = true ∧ z = dval (l.take pos) ∧ z ≤ 18446744073709551615
theorem rst_bad {l : List UInt8} {most pos : Nat} (h : pos < l.length) (hb : digB l[pos] = false) : decOk l most = false := dst_bad (z' := 0) (pos' := 0) h hb
theorem headless {l : List UInt8} {most : Nat} (h : headB l = false) : decOk l most = false := by simp [decOk, h]
theorem too_long {l : List UInt8} {most : Nat} (hm : most ≤ 18446744073709551615) (h : 20 < l.length) : decOk l most = false := by
 cases h1 : decOk l most with
 | false => rfl
 | true =>
  simp only [decOk, Bool.and_eq_true, decide_eq_true_eq] at h1
  have := long_big h1.1.1 h1.1.2 h
  omega
theorem rst_over {l : List UInt8} {most pos : Nat} {z : Int} (hm : most ≤ 18446744073709551615) (hd : RSt l pos z) (h : pos < l.length) (hb : digB l[pos] = true) (hq : (18446744073709551615 - ((l[pos].toNat : Int) - 48)) / 10 < z) : decOk l most = false := by
 have h5 : 48 ≤ l[pos].toNat := by simp [digB] at hb; omega
 have e : (dval (l.take (pos + 1)) : Int) = 10 * z + ((l[pos].toNat : Int) - 48) := by rw [take_at l pos h, dval_snoc, hd.2.2.1]; omega
 exact dst_over (z' := 0) (pos' := 0) h (by omega)
theorem rst_next {l : List UInt8} {pos : Nat} {z : Int} (hd : RSt l pos z) (h : pos < l.length) (hb : digB l[pos] = true) (hq : z ≤ (18446744073709551615 - ((l[pos].toNat : Int) - 48)) / 10) : RSt l (pos + 1) (10 * z + ((l[pos].toNat : Int) - 48)) := by
 have h5 : 48 ≤ l[pos].toNat := by simp [digB] at hb; omega
 obtain ⟨h1, h2, h3, h4⟩ := hd
 refine ⟨h1, ?_, ?_, by omega⟩
 ·rw [take_at l pos h, List.all_append, h2]; simp [hb]
 ·rw [take_at l pos h, dval_snoc, h3]; omega
theorem rst_end {l : List UInt8} {most pos : Nat} {z : Int} (hd : RSt l pos z) (h : l.length ≤ pos) : decOk l most = decide (z ≤ most) ∧ z = dval l := by
 obtain ⟨h1, h2, h3, h4⟩ := hd
 rw [List.take_of_length_le h] at h2 h3
 refine ⟨?_, h3⟩
 simp [decOk, h1, h2, h3]
theorem rst_start {l : List UInt8} (h : headB l = true) : RSt l 0 0 := ⟨h, rfl, rfl, by omega⟩
theorem head_cases2 (s : ByteArray) : (s = ⟨#[]⟩) ∨ (s.size = 1 ∧ headB s.data.toList = true ∧ s.toList.isEmpty = false) ∨ (∃ h : 0 < s.size, 1 < s.size ∧ s.toList.isEmpty = false ∧ headB s.data.toList = (s[0] != 48)) := by
 obtain ⟨⟨l⟩⟩ := s
 match l with
 | [] => exact .inl rfl
 | [x] => exact .inr (.inl ⟨rfl, by simp [headB], by simp [Lib.toList_data]⟩)
 | x :: y :: r =>
  refine .inr (.inr ⟨by simp [ByteArray.size], by simp [ByteArray.size], by simp [Lib.toList_data], ?_⟩)
  show (x != 48 || false) = (x != 48)
  simp
theorem ret_no {l : List UInt8} {most : Nat} (h : decOk l most = false) : Ending.returned (.tuple #[.int .u64 0, .bool false]) = .returned (.tuple #[.int .u64 (decV l most), .bool (decOk l most)]) := ret_dec (by rw [decV_bad h]; rfl) h.symm
set_option maxRecDepth 100000 in
set_option maxHeartbeats 4000000 in
theorem dec01_any (s : ByteArray) (most : Nat) (hm : most ≤ 18446744073709551615) (hs : s.size ≤ 1000000000) (w : World) :
  Calls Tryz.prog 108 #[.string s, .int .u64 most] w fun e w' => e = .returned (.tuple #[.int .u64 (decV s.data.toList most), .bool (decOk s.data.toList most)]) ∧ Gr w w' := by
 rcases head_cases2 s with rfl | ⟨h1, h2, h3⟩ | ⟨h0, h1, h2, h3⟩
 ·go_enter Tryz.func108, Tryz.ntmps108
  go_wp2
  go_ret2
  exact ⟨ret_no rfl, gri⟩
 ·have H2 := Lib.hid h2; clear h2
  go_enter Tryz.func108, Tryz.ntmps108
  go_wp2
  go_loop [6, 7] (fun n i => ∃ (pos : Nat) (z : Int), i = .int .i64 pos ∧ pos ≤ s.size ∧ n = .int .u64 z ∧ 0 ≤ z ∧ Hid (RSt s.data.toList pos z)) (fun _ i => s.size - (intOf i).toNat)
  case atStart => exact ⟨0, 0, rfl, Nat.zero_le _, rfl, by omega, Lib.hid (rst_start H2.out)⟩
  case round =>
   obtain ⟨pos, z, rfl, hp, rfl, z0, hd⟩ := hrel
   by_cases hlt : pos < s.size
   ·have hz1 : z ≤ 18446744073709551615 := hd.out.2.2.2
    by_cases c1 : (s[pos]'hlt).toNat < 48
    ·have hbad := rst_bad (most := most) (pos := pos) (by rw [← Lib.size_eq]; exact hlt) (show digB (s[pos]'hlt) = false by simp [digB]; omega)
     have HB := Lib.hid hbad; clear hbad
     go_wp2
     go_ret2
     exact ⟨ret_no HB.out, Gr.refl _⟩
    ·by_cases c2 : 57 < (s[pos]'hlt).toNat
     ·have hbad := rst_bad (most := most) (pos := pos) (by rw [← Lib.size_eq]; exact hlt) (show digB (s[pos]'hlt) = false by simp [digB]; omega)
      have HB := Lib.hid hbad; clear hbad
      go_wp2
      go_ret2
      exact ⟨ret_no HB.out, Gr.refl _⟩
     ·have hdig : digB (s[pos]'hlt) = true := by simp [digB]; omega
      have HG := Lib.hid hdig; clear hdig
      by_cases c3 : (18446744073709551615 - (((s[pos]'hlt).toNat : Int) - 48)) / 10 < z
      ·have hbad := rst_over (l := s.data.toList) hm hd.out (by rw [← Lib.size_eq]; exact hlt) HG.out c3
       have HB := Lib.hid hbad; clear hbad
       go_wp2
       go_ret2
       exact ⟨ret_no HB.out, Gr.refl _⟩
      ·have hnx := rst_next (l := s.data.toList) hd.out (by rw [← Lib.size_eq]; exact hlt) HG.out (Int.not_lt.1 c3)
       have HN := Lib.hid hnx; clear hnx
       go_wp2
       go_round
       case rel => exact ⟨pos + 1, 10 * z + (((s[pos]'hlt).toNat : Int) - 48), by go_num, by omega, rfl, by omega, HN⟩
       case measure => simp [intOf]; omega
   ·obtain ⟨he, hv⟩ := rst_end (most := most) hd.out (by rw [← Lib.size_eq]; omega)
    have HE := Lib.hid he; have HV := Lib.hid hv; clear he hv
    by_cases c4 : (most : Int) < z
    ·go_wp2
     go_ret2
     exact ⟨ret_no (by rw [HE.out]; simpa using c4), Gr.refl _⟩
    ·have h5 : decOk s.data.toList most = true := by rw [HE.out]; simpa using c4
     have H5 := Lib.hid h5; clear h5
     go_wp2
     go_ret2
     exact ⟨ret_dec (by rw [decV, if_pos H5.out]; exact HV.out) H5.out.symm, Gr.refl _⟩
 ·by_cases hx : s[0] = 48
  ·have hbad : decOk s.data.toList most = false := headless (by rw [h3, hx]; rfl)
   have HB := Lib.hid hbad; clear hbad h3
   have h4 : s[0].toNat = 48 := by rw [hx]; rfl
   clear hx
   go_enter Tryz.func108, Tryz.ntmps108
   go_wp2
   go_ret2
   exact ⟨ret_no HB.out, Gr.refl _⟩
  ·have h6 : headB s.data.toList = true := by rw [h3]; simpa using hx
   have H6 := Lib.hid h6; clear h6 h3
   have h4 : ((s[0].toNat : Int) == 48) = false := by
    simp only [beq_eq_false_iff_ne, ne_eq]; intro h; exact hx (UInt8.toNat_inj.1 (by simpa using (by omega : s[0].toNat = 48)))
   clear hx
   by_cases h7 : 20 < s.size
   ·have hbad : decOk s.data.toList most = false := too_long hm (by rw [← Lib.size_eq]; exact h7)
    have HB := Lib.hid hbad; clear hbad
    go_enter Tryz.func108, Tryz.ntmps108
    go_wp2
    go_ret2
    exact ⟨ret_no HB.out, Gr.refl _⟩
   ·go_enter Tryz.func108, Tryz.ntmps108
    go_wp2
    go_loop [6, 7] (fun n i => ∃ (pos : Nat) (z : Int), i = .int .i64 pos ∧ pos ≤ s.size ∧ n = .int .u64 z ∧ 0 ≤ z ∧ Hid (RSt s.data.toList pos z)) (fun _ i => s.size - (intOf i).toNat)
    case atStart => exact ⟨0, 0, rfl, Nat.zero_le _, rfl, by omega, Lib.hid (rst_start H6.out)⟩
    case round =>
     obtain ⟨pos, z, rfl, hp, rfl, z0, hd⟩ := hrel
     by_cases hlt : pos < s.size
     ·have hz1 : z ≤ 18446744073709551615 := hd.out.2.2.2
      by_cases c1 : (s[pos]'hlt).toNat < 48
      ·have hbad := rst_bad (most := most) (pos := pos) (by rw [← Lib.size_eq]; exact hlt) (show digB (s[pos]'hlt) = false by simp [digB]; omega)
       have HB := Lib.hid hbad; clear hbad
       go_wp2
       go_ret2
       exact ⟨ret_no HB.out, Gr.refl _⟩
      ·by_cases c2 : 57 < (s[pos]'hlt).toNat
       ·have hbad := rst_bad (most := most) (pos := pos) (by rw [← Lib.size_eq]; exact hlt) (show digB (s[pos]'hlt) = false by simp [digB]; omega)
        have HB := Lib.hid hbad; clear hbad
        go_wp2
        go_ret2
        exact ⟨ret_no HB.out, Gr.refl _⟩
       ·have hdig : digB (s[pos]'hlt) = true := by simp [digB]; omega
        have HG := Lib.hid hdig; clear hdig
        by_cases c3 : (18446744073709551615 - (((s[pos]'hlt).toNat : Int) - 48)) / 10 < z
        ·have hbad := rst_over (l := s.data.toList) hm hd.out (by rw [← Lib.size_eq]; exact hlt) HG.out c3
         have HB := Lib.hid hbad; clear hbad
         go_wp2
         go_ret2
         exact ⟨ret_no HB.out, Gr.refl _⟩
        ·have hnx := rst_next (l := s.data.toList) hd.out (by rw [← Lib.size_eq]; exact hlt) HG.out (Int.not_lt.1 c3)
         have HN := Lib.hid hnx; clear hnx
         go_wp2
         go_round
         case rel => exact ⟨pos + 1, 10 * z + (((s[pos]'hlt).toNat : Int) - 48), by go_num, by omega, rfl, by omega, HN⟩
         case measure => simp [intOf]; omega
     ·obtain ⟨he, hv⟩ := rst_end (most := most) hd.out (by rw [← Lib.size_eq]; omega)
      have HE := Lib.hid he; have HV := Lib.hid hv; clear he hv
      by_cases c4 : (most : Int) < z
      ·go_wp2
       go_ret2
       exact ⟨ret_no (by rw [HE.out]; simpa using c4), Gr.refl _⟩
      ·have h5 : decOk s.data.toList most = true := by rw [HE.out]; simpa using c4
       have H5 := Lib.hid h5; clear h5
       go_wp2
       go_ret2
       exact ⟨ret_dec (by rw [decV, if_pos H5.out]; exact HV.out) H5.out.symm, Gr.refl _⟩
end Go.Proofs.YtgjdgafoidppaaaGreatDoor
namespace Go.Proofs.YtgjdgafoidppaaaGreatDoor
open Go.RowKit Go.Sort Go.Lib
set_option linter.unusedVariables false
set_option linter.unusedSimpArgs false
set_option linter.unnecessarySimpa false
theorem below_grow_os {w : World} (os : Array Obj) : Below w.heap.size w (grow w os) :=
 ⟨rfl, rfl, rfl, by simp [grow], fun i hi => by simp [grow, Array.getElem?_append, hi]⟩
theorem gr_grow {w w' : World} (h : ∃ k os, w' = grow (w.drewN k) os) : Gr w w' := by
 obtain ⟨k, os, rfl⟩ := h
 refine Gr.of ?_
 have h1 : Below w.heap.size w (w.drewN k) := ⟨rfl, rfl, rfl, Nat.le_refl _, fun _ _ => rfl⟩
 exact h1.trans (below_grow_os (w := w.drewN k) os)
theorem holds_zero0 (w : World) (T : TypeId) (nd : Nat) (hs : nd ≤ 24) : Holds (fun (b : UInt8) => Value.int .u8 (b.toNat : Int)) (w.alloc (.cells zeros24 T)) w.heap.size 0 (Array.replicate nd (0 : UInt8)) := fun j hj => by
 have hj' : j < nd := by simpa using hj
 refine ⟨?_, World.frozen?_alloc_new _ _ _ _⟩
 rw [World.cell?_alloc_new, zeros24_at _ (by omega), getElem!_pos _ j hj]
 simp
theorem fin_pos0 (w : World) (o : Obj) (dk : Array UInt8) (k : Nat) : ∃ os, (putRow (fun (b : UInt8) => Value.int .u8 (b.toNat : Int)) (w.alloc o) w.heap.size 0 dk).drewN k = grow (w.drewN k) os := by
 rw [alloc_eq_grow]
 obtain ⟨os', _, e⟩ := putRow_grow_new (fun (b : UInt8) => Value.int .u8 (b.toNat : Int)) w #[o] w.heap.size 0 dk (Nat.le_refl _)
 exact ⟨os', by rw [e]; rfl⟩
theorem itoa_any (n : Int) (h0 : -9223372036854775808 ≤ n) (h1 : n ≤ 9223372036854775807) (w : World) [hk : Tb w] :
  Calls Tryz.prog 87 #[.int .i64 n] w fun e w' => e = .returned (.string ⟨(Lib.itoa n).toArray⟩) ∧ Gr w w' :=
 (Tryz.strconv_Itoa n h0 h1 w hk.pow).mono fun _ _ ⟨he, hw⟩ => ⟨he, gr_grow hw⟩
set_option maxHeartbeats 2000000 in
theorem formatUintI_any (u : Nat) (hu64 : u < 18446744073709551616) (w : World) [hk : Tb w] :
  Calls Tryz.prog 104 #[.int .u64 u, .int .i64 10] w fun e w' => e = .returned (.string ⟨(Lib.decDigits u).toArray⟩) ∧ Gr w w' := by
 by_cases hs : u < 100
 ·go_enter Tryz.func104, Tryz.ntmps104
  go_wp2_with (go_at_call 116; ((with_reducible refine (Tryz.internal_strconv_small u hs _).mono ?_); rintro e w' ⟨rfl, rfl⟩))
  go_ret
  exact ⟨rfl, gri⟩
 ·have hu1 : 1 ≤ u := by omega
  have hnd20 : Lib.nDigits u ≤ 20 := by have := Lib.numDigits_eq u hu1 hu64; split at this <;> omega
  have hal : Tryz.prog.arrayLen 148 = 24 := by simp [Program.arrayLen, Tryz.underlying148]
  have hsl1 : ∀ W, (Instr.sliceAt 148 (.pointer (some ⟨w.heap.size, 0, none⟩)) none (some (.int .i64 (Lib.nDigits u : Int))) none).run Tryz.prog W = .ok (.slice (some ⟨w.heap.size, 0, none⟩) (Lib.nDigits u) 24) W := fun W => by
   rw [run_sliceAt_array_h W 148 ⟨w.heap.size, 0, none⟩ (by simp [Program.arrayLen, Program.elem, Tryz.underlying148]) .i64 (Lib.nDigits u : Int) (by omega) (by rw [hal]; omega)]
   go_simp
  have hH0 := holds_zero0 w 148 (Lib.nDigits u) (by omega)
  have hfmt := Tryz.internal_strconv_formatBase10 w.heap.size 0 24 u (Array.replicate (Lib.nDigits u) 0) (w.alloc (.cells Lib.zeros24 148)) hH0 (by rw [Array.size_replicate]; exact Lib.lt_pow_nDigits u) hu64 (by rw [Array.size_replicate]; omega)
  rw [Array.size_replicate] at hfmt
  have HH0 := Lib.hid hH0
  clear hH0 hal
  have h24 : (100 : Int) ≤ u := by omega
  have HF := Lib.hid hfmt; clear hfmt
  go_enter Tryz.func104, Tryz.ntmps104
  go_wp2_with (go_at_call 117; refine (Tryz.internal_strconv_numDigits u hu1 hu64 _ (Lib.tabIs_alloc hk.pow _)).mono ?_; rintro e w' ⟨rfl, rfl⟩)
  refine HF.out.mono ?_
  rintro e w' ⟨rfl, k, v', dk, rfl, hF⟩
  have hcv : (convert 24 9 (.slice (some ⟨w.heap.size, 0, none⟩) (Lib.nDigits u) 24)).run Tryz.prog ((putRow (fun (b : UInt8) => Value.int .u8 (b.toNat : Int)) (w.alloc (.cells Lib.zeros24 148)) w.heap.size 0 dk).drewN k) = .ok (.string ⟨(Lib.decDigits u).toArray⟩) ((putRow (fun (b : UInt8) => Value.int .u8 (b.toNat : Int)) (w.alloc (.cells Lib.zeros24 148)) w.heap.size 0 dk).drewN k) := by
   have h := run_convert_bytes_back (P := Tryz.prog) ((putRow (fun (b : UInt8) => Value.int .u8 (b.toNat : Int)) (w.alloc (.cells Lib.zeros24 148)) w.heap.size 0 dk).drewN k) 24 9 5 ⟨w.heap.size, 0, none⟩ 24 (Lib.decDigits u) Tryz.underlying24 Tryz.underlying5 Tryz.underlying9 (fun j hj => by
    rw [Lib.row_is_numeral hF j hj, Lib.add_plain, World.cell?_drewN]
    exact cell?_putRow (fun (b : UInt8) => Value.int .u8 (b.toNat : Int)) _ w.heap.size 0 _ dk HH0.out (by rw [hF.size, Array.size_replicate]) j (by rw [hF.size]; rw [Lib.decDigits_length] at hj; exact hj))
   rw [Lib.decDigits_length] at h
   exact h
  go_wp2
  go_ret
  exact ⟨rfl, gr_grow ⟨k, fin_pos0 w (.cells Lib.zeros24 148) dk k⟩⟩
theorem formatUint_any (u : Int) (h0 : 0 ≤ u) (h1 : u ≤ 18446744073709551615) (w : World) [hk : Tb w] :
  Calls Tryz.prog 86 #[.int .u64 u, .int .i64 10] w fun e w' => e = .returned (.string ⟨(Lib.decDigits u.toNat).toArray⟩) ∧ Gr w w' := by
 obtain ⟨n, rfl⟩ := Int.eq_ofNat_of_zero_le h0
 rw [Int.toNat_natCast]
 have h2 : n < 18446744073709551616 := by omega
 have HI := Lib.hid (fun W (hk : Tb W) => formatUintI_any n h2 W); clear h1 h0 h2
 go_enter Tryz.func86, Tryz.ntmps86
 go_wp2_with (go_at_call 104; ((with_reducible refine (HI.out _ inferInstance).mono ?_); rintro _ _ ⟨rfl, g, rfl⟩))
 go_ret
 exact ⟨rfl, gri⟩
end Go.Proofs.YtgjdgafoidppaaaGreatDoor
