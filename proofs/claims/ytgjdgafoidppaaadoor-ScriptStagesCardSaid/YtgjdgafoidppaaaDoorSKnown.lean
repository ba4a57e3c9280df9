/- 'known' of layer 26: the chapter's rows. Conditions: strconv's table stands. -/
import Derived.Test.YtgjdgafoidppaaaDoorSAT
namespace Go.Proofs.YtgjdgafoidppaaaDoor
open Go.RowKit
set_option linter.unusedVariables false
set_option linter.unusedSimpArgs false
set_option linter.unnecessarySimpa false
theorem num26_any (n : Int) (w : World) : Calls Tryd.prog 12 #[.int .i64 n] w fun e w' => e = .returned (.int .i64 n) ∧ w = w' := by
  go_enter Tryd.func12, Tryd.ntmps12
  go_wp2
  go_ret
  exact ⟨rfl, rfl⟩
theorem dec_small (u : Nat) (h : u < 10) : Lib.decDigits u = [UInt8.ofNat (48 + u)] := by rw [Lib.decDigits, dif_pos h]
theorem itoa_small (u : Nat) (h : u < 10) : Lib.itoa (u : Int) = [UInt8.ofNat (48 + u)] := by rw [Lib.itoa_nonneg, dec_small u h]
theorem known_text1 : actTextL 4 1 0 0 0 0 0 0 0 false [] [0, 2] = [111, 102, 102, 32, 49, 32, 48, 44, 50] := by
  have e0 : Lib.itoa 0 = [48] := itoa_small 0 (by omega)
  have e1 : Lib.itoa 1 = [49] := itoa_small 1 (by omega)
  have e2 : Lib.itoa 2 = [50] := itoa_small 2 (by omega)
  simp [actTextL, actPieces, rowL, pickT, e0, e1, e2, Lib.join, List.intercalate]
def blk7 : List UInt8 := 7 :: List.replicate 127 0
theorem known_data : dataL blk7 = [48, 55, 44, 45] := by decide +kernel
theorem known_text2 : actTextL 1 0 0 5 3 0 0 5 0 false blk7 [] = [97, 115, 107, 32, 48, 32, 119, 114, 105, 116, 101, 32, 51, 32, 53, 32, 48, 55, 44, 45] := by
  have e0 : Lib.itoa 0 = [48] := itoa_small 0 (by omega)
  have e5 : Lib.itoa 5 = [53] := itoa_small 5 (by omega)
  have e3 : Lib.decDigits 3 = [51] := dec_small 3 (by omega)
  simp [actTextL, actPieces, opTextL, opPieces, known_data, e0, e3, e5, Lib.join, List.intercalate]
theorem known_may1 : mayActB 4 1 0 0 0 0 0 0 0 false 0 2 [] [0, 2] = true := by decide
theorem known_may2 : mayActB 1 0 0 5 3 0 0 5 0 false 128 0 blk7 [] = true := by decide +kernel
theorem bd0 : Bd 0 0 0 0 0 := ⟨by omega, by omega, by omega, by omega, by omega, by omega, by omega, by omega, by omega, by omega⟩
theorem bd1 : Bd 3 0 0 5 0 := ⟨by omega, by omega, by omega, by omega, by omega, by omega, by omega, by omega, by omega, by omega⟩
theorem known_call1 (b : Nat) (W : World) [hk : Tb W] (hb : b < W.heap.size) (c0 : W.cell? ⟨b, 0, none⟩ = some (.int .i64 0)) (c1 : W.cell? ⟨b, 1, none⟩ = some (.int .i64 2)) :
    Calls Tryd.prog 26 #[(Value.agg #[.int .i64 4, .int .i64 1, .int .i64 0, .int .i64 0, .int .u64 0, .int .u64 0, .int .i64 0, .int .i64 0, .int .i64 0, .slice none 0 0, .bool false, .slice (some ⟨b, 0, none⟩) 2 2])] W fun e w' => e = .returned (.tuple #[.string ⟨#[111, 102, 102, 32, 49, 32, 48, 44, 50]⟩, .int .i64 0]) ∧ Gr W w' := by
  have h := ActText_any 4 1 0 0 0 0 0 0 0 none (some ⟨b, 0, none⟩) 0 0 2 2 false [] [0, 2] W (by omega) (by omega) (by omega) (by omega) bd0 rfl (by omega) Row.nil rfl (by omega) ⟨by intro n hn; simp at hn; omega, by intro n hn; simp at hn; omega⟩ ⟨fun _ => ⟨b, 0, rfl, hb, fun j x hx => by
    match j, hx with
    | 0, hx => simp at hx; subst hx; exact c0
    | 1, hx => simp at hx; subst hx; exact c1⟩⟩ (by omega) (by omega)
  rw [known_may1, known_text1] at h
  exact h
theorem known_call2 (b : Nat) (W : World) [hk : Tb W] (hr : Row bv W (some ⟨b, 0, none⟩) blk7) :
    Calls Tryd.prog 26 #[(Value.agg #[.int .i64 1, .int .i64 0, .int .i64 0, .int .i64 5, .int .u64 3, .int .u64 0, .int .i64 0, .int .i64 5, .int .i64 0, .slice (some ⟨b, 0, none⟩) 128 128, .bool false, .slice none 0 0])] W fun e w' => e = .returned (.tuple #[.string ⟨#[97, 115, 107, 32, 48, 32, 119, 114, 105, 116, 101, 32, 51, 32, 53, 32, 48, 55, 44, 45]⟩, .int .i64 0]) ∧ Gr W w' := by
  have h := ActText_any 1 0 0 5 3 0 0 5 0 (some ⟨b, 0, none⟩) none 128 128 0 0 false blk7 [] W (by omega) (by omega) (by omega) (by omega) bd1 rfl (by omega) hr rfl (by omega) ⟨by intro n hn; simp at hn, by intro n hn; simp at hn⟩ Row.nil (by omega) (by omega)
  rw [known_may2, known_text2] at h
  exact h
def zeros128 : Array Value := Array.replicate 128 (.int .u8 0)
theorem make128 (W : World) : (Instr.makeSlice 41 (.int .i64 128) (.int .i64 128)).run Tryd.prog W = .ok (.slice (some ⟨W.heap.size, 0, none⟩) 128 128) (W.alloc (.cells zeros128 5)) := by kernel_rfl
theorem zeros128_at (j : Nat) (h : j < 128) : zeros128[j]? = some (.int .u8 0) := by
  unfold zeros128; rw [Array.getElem?_replicate, if_pos h]
theorem blk7_at (j : Nat) (x : UInt8) (h : blk7[j]? = some x) : j < 128 ∧ (j = 0 ∧ x = 7 ∨ j ≠ 0 ∧ x = 0) := by
  have hl : j < 128 := by
    have := (List.getElem?_eq_some_iff.1 h).1
    simpa [blk7] using this
  refine ⟨hl, ?_⟩
  cases j with
  | zero => left; simp [blk7] at h; exact ⟨rfl, h.symm⟩
  | succ j =>
    right
    have h2 : j < 127 := by omega
    have h3 : (List.replicate 127 (0 : UInt8))[j]? = some x := h
    rw [List.getElem?_replicate, if_pos h2] at h3
    exact ⟨by omega, (Option.some.inj h3).symm⟩
set_option maxRecDepth 100000 in
set_option maxHeartbeats 2000000 in
theorem known26_any (w : World) [hk : Tb w] : Calls Tryd.prog 9 #[] w fun e w' => e = .returned (.bool true) ∧ Gr w w' := by
  have C1 := Lib.hid (fun b W (_ : Tb W) hb c0 c1 => known_call1 b W hb c0 c1)
  have C2 := Lib.hid (fun b W (_ : Tb W) hr => known_call2 b W hr)
  go_enter Tryd.func9, Tryd.ntmps9
  go_wp2_with (go_at_call 26; ((with_reducible refine (C1.out w.heap.size _ inferInstance ?h1 ?h2 ?h3).mono ?_)))
  case h1 => exact (inferInstance : Old _ _).lt
  case h2 => simp [go_sem]
  case h3 => simp [go_sem]
  rintro _ _ ⟨rfl, g, rfl⟩
  clear C1
  have hmk := fun W => make128 W
  have z0 : ∀ W : World, (W.alloc (.cells zeros128 5)).cell? ⟨W.heap.size, 0, none⟩ = some (.int .u8 0) := fun W => by rw [World.cell?_alloc_new]; exact zeros128_at 0 (by omega)
  go_wp2_with (go_at_call 26; ((with_reducible refine (C2.out _ _ inferInstance ?h4).mono ?_)))
  case h4 =>
    refine ⟨fun _ => ⟨_, 0, rfl, (inferInstance : Old _ _).lt, fun j x hx => ?_⟩⟩
    obtain ⟨hj, h5⟩ := blk7_at j x hx
    have hs : zeros128.size = 128 := by unfold zeros128; simp
    rw [Nat.zero_add, World.cell?_alloc_new, Array.getElem?_setIfInBounds]
    rcases h5 with ⟨rfl, rfl⟩ | ⟨h6, rfl⟩
    · simp [hs]; rfl
    · rw [if_neg (fun e => h6 e.symm)]
      exact zeros128_at j hj
  rintro _ _ ⟨rfl, g2, rfl⟩
  go_wp2_with (go_at_call 12; ((with_reducible refine (num26_any _ _).mono ?_); rintro _ _ ⟨rfl, rfl⟩))
  go_ret
  exact ⟨rfl, by (refine Gr.of ?_; repeat (first | with_reducible exact Below.refl _ _ | with_reducible apply below_alloc | with_reducible refine below_set' ?_ _ | with_reducible refine below_trans ?_ (grown_below _ _) | with_reducible refine below_iter' ?_ _ _ | with_reducible apply Below.drew | with_reducible refine below_trans ?_ (by assumption)))⟩
end Go.Proofs.YtgjdgafoidppaaaDoor
