/- A line's words, taken one by one: word, number, small. Conditions: the words stand in memory. -/
import Derived.Test.YtgjdgafoidppaaaDoorSMl
import Derived.Test.YtgjdgafoidppaaaDoorSLeaf
import Derived.Test.YtgjdgafoidppaaaDoorSDcm
import Derived.Outline
namespace Go.Proofs.YtgjdgafoidppaaaDoor
open Go.RowKit
set_option linter.unusedVariables false
set_option linter.unusedSimpArgs false
set_option linter.unnecessarySimpa false
/-- What a store into block p, and new blocks, leave. -/
structure Wrd (p : Nat) (W W' : World) : Prop where
  g : W.grownBy W' (some p)
theorem Wrd.refl (p : Nat) (W : World) : Wrd p W W := ⟨rfl, rfl, rfl, Nat.le_refl _, fun _ _ _ => rfl⟩
theorem Wrd.trans {p : Nat} {A B C : World} (h : Wrd p A B) (k : Wrd p B C) : Wrd p A C :=
  ⟨k.g.os.trans h.g.os, k.g.tape.trans h.g.tape, k.g.output.trans h.g.output, Nat.le_trans h.g.size k.g.size, fun i hi hne => (k.g.block i (Nat.lt_of_lt_of_le hi h.g.size) hne).trans (h.g.block i hi hne)⟩
theorem Wrd.gr {p : Nat} {W W' : World} (h : Gr W W') : Wrd p W W' := ⟨h.below.os, h.below.tape, h.below.output, h.below.size, fun i hi _ => h.below.block i hi⟩
theorem Wrd.set (p o : Nat) (W : World) (v : Value) : Wrd p W (W.setCell ⟨p, o, none⟩ v) :=
  ⟨rfl, rfl, rfl, by simp [World.setCell], fun i _ hne => Below.heap_setCell W ⟨p, o, none⟩ v i (fun e => hne (by rw [e]))⟩
theorem Wrd.below {p base : Nat} {W W' : World} (h : Wrd p W W') (hb : base ≤ p) (hw : base ≤ W.heap.size) : Below base W W' := ⟨h.g.os, h.g.tape, h.g.output, h.g.size, fun i hi => h.g.block i (Nat.lt_of_lt_of_le hi hw) (fun e => by cases e; omega)⟩
theorem Wrd.old {p : Nat} {W W' : World} (h : Wrd p W W') (b : Nat) [k : Old b W] : Old b W' := ⟨Nat.lt_of_lt_of_le k.lt h.g.size⟩
theorem Wrd.from_ {p : Nat} {W W' : World} (h : Wrd p W W') (a : World) [k : From a W] : From a W' := ⟨Nat.le_trans k.le h.g.size⟩
theorem Wrd.tb {p : Nat} {W W' : World} (h : Wrd p W W') [hf : Far p] [k : Tb W] : Tb W' := k.keep h.g.size (fun b hb => h.g.block b (Nat.lt_of_lt_of_le hb k.size) (fun e => by cases e; have := hf.le; omega))
theorem Wrd.ml {p : Nat} {W W' : World} (h : Wrd p W W') [hf : Far p] [k : Ml W] : Ml W' := k.keep (h.g.block _ k.lt (fun e => by have := hf.le; simp at e; omega))
theorem Wrd.cell {p b o : Nat} {W W' : World} (h : Wrd p W W') (hne : b ≠ p) {v : Value} (hc : W.cell? ⟨b, o, none⟩ = some v) : W'.cell? ⟨b, o, none⟩ = some v := by
  have hb := (old_of_cell hc).lt
  simp only [World.cell?] at hc ⊢
  rw [h.g.block b hb (fun e => hne (by cases e; rfl))]; exact hc
theorem Row.wrd {α : Type} {enc : α → Value} {p : Nat} {W W' : World} {A : Option Addr} {l : List α} (hr : Row enc W A l) (h : Wrd p W W') (hne : ∀ a, A = some a → a.block ≠ p) : Row enc W' A l :=
  ⟨fun h0 => by
    obtain ⟨b, o, rfl, hb, hc⟩ := hr.at_ h0
    exact ⟨b, o, rfl, Nat.lt_of_lt_of_le hb h.g.size, fun j x hx => h.cell (hne _ rfl) (hc j x hx)⟩⟩
/-- Block p holds the words that are left, and whether one was bad. -/
structure WS (p : Nat) (W : World) (ws : List ByteArray) (bad : Bool) : Prop where
  f0 : W.frozen? ⟨p, 0, none⟩ = false
  f1 : W.frozen? ⟨p, 1, none⟩ = false
  c1 : W.cell? ⟨p, 1, none⟩ = some (.bool bad)
  c0 : ∃ A c, W.cell? ⟨p, 0, none⟩ = some (.slice A ws.length c) ∧ ws.length ≤ c ∧ (∀ a, A = some a → a.block ≠ p) ∧ Row Value.string W A ws
  few : ws.length ≤ 1000000
  short : ∀ x ∈ ws, x.size ≤ 1000000000
theorem Row.set {p o : Nat} {W : World} {A : Option Addr} {l : List ByteArray} (h : Row Value.string W A l) (v : Value) (hne : ∀ a, A = some a → a.block ≠ p) : Row Value.string (W.setCell ⟨p, o, none⟩ v) A l := h.wrd (Wrd.set p o W v) hne
theorem WS.bad {p : Nat} {W : World} {ws : List ByteArray} {bad : Bool} (h : WS p W ws bad) (b : Bool) : WS p (W.setCell ⟨p, 1, none⟩ (.bool b)) ws b := by
  obtain ⟨f0, f1, c1, ⟨A, c, c0, hc, hne, hr⟩, few, short⟩ := h
  refine ⟨by rw [World.frozen?_setCell]; exact f0, by rw [World.frozen?_setCell]; exact f1, World.cell?_setCell_same _ _ _ c1, ⟨A, c, ?_, hc, hne, hr.set _ hne⟩, few, short⟩
  rw [World.cell?_setCell_other _ _ _ _ (by intro e; cases e)]; exact c0
theorem WS.drop {p : Nat} {W : World} {x : ByteArray} {ws : List ByteArray} {bad : Bool} (h : WS p W (x :: ws) bad) (A : Option Addr) (c : Nat) (hc : ws.length ≤ c) (hne : ∀ a, A = some a → a.block ≠ p) (hr : Row Value.string W A ws) : WS p (W.setCell ⟨p, 0, none⟩ (.slice A ws.length c)) ws bad := by
  obtain ⟨f0, f1, c1, ⟨A0, c', c0, _, _, _⟩, few, short⟩ := h
  refine ⟨by rw [World.frozen?_setCell]; exact f0, by rw [World.frozen?_setCell]; exact f1, ?_, ⟨A, c, World.cell?_setCell_same _ _ _ c0, hc, hne, hr.set _ hne⟩, Nat.le_of_succ_le few, fun y hy => short y (List.mem_cons_of_mem _ hy)⟩
  rw [World.cell?_setCell_other _ _ _ _ (by intro e; cases e)]; exact c1
theorem WS.gr {p : Nat} {W : World} {ws : List ByteArray} {bad : Bool} (h : WS p W ws bad) (g : Growth W) : WS p (grown W g) ws bad := by
  obtain ⟨f0, f1, c1, ⟨A, c, c0, hc, hne, hr⟩, few, short⟩ := h
  haveI := old_of_cell c1
  exact ⟨by rw [grown_frozen]; exact f0, by rw [grown_frozen]; exact f1, by rw [grown_cells]; exact c1, ⟨A, c, by rw [grown_cells]; exact c0, hc, hne, hr.gr (Gr.of (grown_below W g))⟩, few, short⟩
theorem WS.old {p : Nat} {W : World} {ws : List ByteArray} {bad : Bool} (h : WS p W ws bad) : Old p W := old_of_cell h.c1
/-- The first word; the empty one, where there is none. -/
def hdW : List ByteArray → ByteArray
  | [] => ⟨#[]⟩
  | x :: _ => x
theorem word_any (p : Nat) (W : World) (ws : List ByteArray) (bad : Bool) (h : WS p W ws bad) :
    Calls Tryd.prog 28 #[.pointer (some ⟨p, 0, none⟩)] W fun e W' => e = .returned (.string (hdW ws)) ∧ WS p W' ws.tail (bad || ws.isEmpty) ∧ Wrd p W W' := by
  have H := Lib.hid h
  obtain ⟨f0, f1, c1, ⟨A, c, c0, hc, hne, hr⟩, few, short⟩ := h
  cases ws with
  | nil =>
    go_enter Tryd.func28, Tryd.ntmps28
    go_wp2
    go_ret
    exact ⟨rfl, by simpa using H.out.bad true, Wrd.set _ _ _ _⟩
  | cons x r =>
    obtain ⟨b, o, rfl, hb, hx⟩ := hr.at_ (by simp)
    have hx0 : W.cell? ⟨b, o, none⟩ = some (.string x) := hx 0 x rfl
    have HX := Lib.hid hx; clear hx
    have HR : ∀ o', o' = o + 1 ∨ r = [] → Row Value.string W (some ⟨b, o', none⟩) r := fun o' ho => ⟨fun h0 => ⟨b, o', rfl, hb, fun j y hj => by
      rcases ho with rfl | e
      · have := HX.out (j + 1) y hj
        rwa [show o + (j + 1) = o + 1 + j by omega] at this
      · exact absurd e h0⟩⟩
    have HRH := Lib.hid HR; clear HR
    have hcl : r.length + 1 ≤ c := hc
    have hbp : b ≠ p := hne _ rfl
    have HNE := Lib.hid hbp; clear hne hbp
    go_enter Tryd.func28, Tryd.ntmps28
    go_wp2
    all_goals go_ret
    all_goals refine ⟨rfl, ?_, Wrd.set _ _ _ _⟩
    all_goals first
      | exact H.out.drop _ _ (by omega) (fun a e => by cases e; exact HNE.out) (HRH.out _ (.inl rfl))
      | exact H.out.drop _ _ (by omega) (fun a e => by cases e; exact HNE.out) (HRH.out _ (.inr (List.eq_nil_of_length_eq_zero (by omega))))
theorem headD_short {ws : List ByteArray} (h : ∀ x ∈ ws, x.size ≤ 1000000000) : (hdW ws).size ≤ 1000000000 := by
  cases ws with
  | nil => exact Nat.zero_le _
  | cons x r => exact h x (by simp)
theorem number_any (p : Nat) (most : Nat) (hm : most ≤ 18446744073709551615) (W : World) (ws : List ByteArray) (bad : Bool) (h : WS p W ws bad) :
    Calls Tryd.prog 55 #[.pointer (some ⟨p, 0, none⟩), .int .u64 most] W fun e W' => e = .returned (.int .u64 (decV (hdW ws).data.toList most)) ∧ WS p W' ws.tail (bad || !decOk (hdW ws).data.toList most) ∧ Wrd p W W' := by
  have H := Lib.hid h
  have HD := Lib.hid (dec_any (hdW ws) most hm (headD_short h.short))
  clear h
  go_enter Tryd.func55, Tryd.ntmps55
  go_wp2_with ((go_at_call 28; ((with_reducible refine (word_any p _ ws bad H.out).mono ?_))))
  rintro _ W1 ⟨rfl, h1, r1⟩
  have c1 := h1.c1
  have f1 := h1.f1
  haveI := h1.old
  have H1 := Lib.hid h1; clear h1
  have R1 := Lib.hid r1; clear r1
  rcases Bool.eq_false_or_eq_true (bad || ws.isEmpty) with hb | hb
  · rw [hb] at c1
    have HB := Lib.hid hb; clear hb
    go_wp2_with ((go_at_call 74; ((with_reducible refine (HD.out _).mono ?_); rintro _ _ ⟨rfl, g, rfl⟩)))
    go_ret
    have hB : (bad || !decOk (hdW ws).data.toList most) = true := by
      have := HB.out
      cases bad with
      | true => rfl
      | false => simp at this; subst this; rfl
    exact ⟨rfl, by rw [hB]; exact (H1.out.gr g).bad true, (R1.out.trans (Wrd.gr (Gr.of (grown_below W1 g)))).trans (Wrd.set _ _ _ _)⟩
  · rw [hb] at c1
    have HB := Lib.hid hb; clear hb
    go_wp2_with ((go_at_call 74; ((with_reducible refine (HD.out _).mono ?_); rintro _ _ ⟨rfl, g, rfl⟩)))
    go_ret
    have hB : (bad || !decOk (hdW ws).data.toList most) = !decOk (hdW ws).data.toList most := by
      have := HB.out
      cases bad with
      | true => cases this
      | false => rfl
    exact ⟨rfl, by rw [hB]; exact (H1.out.gr g).bad _, (R1.out.trans (Wrd.gr (Gr.of (grown_below W1 g)))).trans (Wrd.set _ _ _ _)⟩
theorem small_any (p : Nat) (most : Nat) (hm : most ≤ 9223372036854775807) (W : World) (ws : List ByteArray) (bad : Bool) (h : WS p W ws bad) :
    Calls Tryd.prog 29 #[.pointer (some ⟨p, 0, none⟩), .int .i64 most] W fun e W' => e = .returned (.int .i64 (decV (hdW ws).data.toList most)) ∧ WS p W' ws.tail (bad || !decOk (hdW ws).data.toList most) ∧ Wrd p W W' := by
  have H := Lib.hid h; clear h
  have hv := decV_le (hdW ws).data.toList most
  have hw : IntKind.i64.wrap (decV (hdW ws).data.toList most : Int) = (decV (hdW ws).data.toList most : Int) := by rw [IntKind.wrap_i64]; omega
  have hw2 : IntKind.u64.wrap (most : Int) = (most : Int) := by rw [u64_wrap]; omega
  go_enter Tryd.func29, Tryd.ntmps29
  go_wp2_with ((go_at_call 55; ((with_reducible refine (number_any p most (by omega) _ ws bad H.out).mono ?_))))
  rintro _ W1 ⟨rfl, h1, r1⟩
  have H1 := Lib.hid h1; clear h1
  have R1 := Lib.hid r1; clear r1
  go_wp2
  go_ret
  exact ⟨rfl, H1.out, R1.out⟩
end Go.Proofs.YtgjdgafoidppaaaDoor
