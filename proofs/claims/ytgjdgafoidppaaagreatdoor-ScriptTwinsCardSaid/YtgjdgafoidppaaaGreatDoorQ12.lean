/- An act that may be told, told as x, is read back (no program in sight). Conditions: none. A script's text is its lines, read again as it was told (no program in sight). Conditions: none. A region that draws its order, among whose operations are some that read, compute, or call functions that only make new memory, some that lay a new block, and, behind them all, some that come one behind the other: one walk, with the new blocks' numbers as variables. A region that draws its order, among whose operations are some that read, compute, or call functions that only make new memory, and stores, one behind the other, into memory that none of the others reads: one walk, the stores last. Conditions: each store's step is known. voileref26.StageOf: the stage of a text, as the reference reads it. Conditions: a text of at most 800000 bytes. The reference's Lines. Conditions: a text of at most 900000 bytes. A text cut at its line ends, line by line, against its lines (no program in sight). Conditions: none. -/
import Derived.Test.YtgjdgafoidppaaaGreatDoorQ11
import Derived.Test.YtgjdgafoidppaaaGreatDoorQ10
import Derived.Test.YtgjdgafoidppaaaGreatDoorQ01
import Derived.Test.YtgjdgafoidppaaaGreatDoorQ02
import Derived.Test.YtgjdgafoidppaaaGreatDoorQ05
namespace Go.Proofs.YtgjdgafoidppaaaGreatDoor
open Go.RowKit
set_option linter.unusedVariables false
set_option linter.unusedSimpArgs false
set_option linter.unnecessarySimpa false
theorem dec_no (c : UInt8) (hc : digB c = false) (n : Nat) : c ∉ Lib.decDigits n := by
 intro hm
 have h2 := (decDigits_all n).2.1
 rw [List.all_eq_true] at h2
 rw [h2 c hm] at hc
 cases hc
theorem pick_no (c : UInt8) (hc : digB c = false) {px : List Int} (h : ∀ n ∈ px, 0 ≤ n ∧ n ≤ 1000000) : ∀ y ∈ (pickT px).map (·.data.toList), c ∉ y := by
 intro y hy
 simp only [pickT, List.map_map, List.mem_map, Function.comp] at hy
 obtain ⟨n, hn, rfl⟩ := hy
 obtain ⟨u, rfl⟩ := Int.eq_ofNat_of_zero_le (h n hn).1
 simpa [Lib.itoa_nonneg] using dec_no c hc u
theorem pick_words {px : List Int} (hne : px ≠ []) (h : ∀ n ∈ px, 0 ≤ n ∧ n ≤ 1000000) : rowL (pickT px) = Lib.join ((pickT px).map (·.data.toList)) [44] ∧ wordsB 44 ⟨(rowL (pickT px)).toArray⟩ = pickT px := by
 have h0 : pickT px ≠ [] := by simpa [pickT] using hne
 have e : rowL (pickT px) = Lib.join ((pickT px).map (·.data.toList)) [44] := by rw [rowL, if_neg h0]
 refine ⟨e, ?_⟩
 have h1 : cutL 44 (rowL (pickT px)) = (pickT px).map (·.data.toList) := by
  rw [e]
  exact cutL_join 44 _ (by simpa using h0) (pick_no 44 (by decide) h)
 have h2 : wordsB 44 ⟨(rowL (pickT px)).toArray⟩ = (cutL 44 (rowL (pickT px))).map fun l => (⟨l.toArray⟩ : ByteArray) := by simp [wordsB]
 rw [h2, h1, List.map_map]
 simp [Function.comp_def]
theorem pick_nodash {px : List Int} (hne : px ≠ []) (h : ∀ n ∈ px, 0 ≤ n ∧ n ≤ 1000000) : isDash ⟨(rowL (pickT px)).toArray⟩ = false := by
 by_cases hd : isDash ⟨(rowL (pickT px)).toArray⟩ = true
 ·exfalso
  have h1 : rowL (pickT px) = [45] := by simpa [isDash] using hd
  have h2 := (pick_words hne h).2
  rw [h1] at h2
  have h3 : wordsB 44 ⟨([45] : List UInt8).toArray⟩ = [⟨#[45]⟩] := by decide
  rw [h3] at h2
  have h4 := pick_no 45 (by decide) h [45] (by rw [← h2]; simp)
  simp at h4
 ·simpa using hd
theorem pick_back {px : List Int} (h : ∀ n ∈ px, 0 ≤ n ∧ n ≤ 1000000) : pkOf ⟨(rowL (pickT px)).toArray⟩ = px ∧ pkBad ⟨(rowL (pickT px)).toArray⟩ = false ∧ (32 : UInt8) ∉ rowL (pickT px) := by
 by_cases hne : px = []
 ·subst hne
  exact ⟨by rfl, by rfl, by decide⟩
 ·have h1 := pick_nodash hne h
  have h2 := (pick_words hne h).2
  have h3 : (pickT px).map numN = px := by
   simp only [pickT, List.map_map]
   conv => rhs; rw [← List.map_id px]
   refine List.map_congr_left (fun n hn => ?_)
   obtain ⟨u, rfl⟩ := Int.eq_ofNat_of_zero_le (h n hn).1
   have := (h _ hn).2
   simp only [Function.comp, numN, id, Lib.itoa_nonneg]
   have := decV_digits u 1000000 (by omega)
   show ((decV (Lib.decDigits u) 1000000 : Nat) : Int) = (u : Int)
   rw [this]
  have h4 : (pickT px).any badN = false := by
   rw [List.any_eq_false]
   intro y hy
   simp only [pickT, List.mem_map] at hy
   obtain ⟨n, hn, rfl⟩ := hy
   obtain ⟨u, rfl⟩ := Int.eq_ofNat_of_zero_le (h n hn).1
   have := (h _ hn).2
   simp [badN, Lib.itoa_nonneg, decOk_digits u 1000000 (by omega)]
  refine ⟨?_, ?_, ?_⟩
  ·rw [pkOf, h1, h2]; simpa using h3
  ·rw [pkBad, h1, h2, h4]; rfl
  ·rw [(pick_words hne h).1]
   exact join_no 32 [44] (by decide) _ (pick_no 32 (by decide) h)
structure BackA (a : ActV) (x : ByteArray) : Prop where
 k : aKOf (hdW (wordsB 32 x)) = a.k
 f : isForce (hdW (wordsB 32 x)) = a.f
 v : acV a.k a.f (wordsB 32 x) = a
 bad : acBad a.k (wordsB 32 x) = false
 rest : acRest a.k (wordsB 32 x) = []
theorem actRound_1 (nd : Nat) (hnd : nd ≤ 1) (op : OpV) (hop : op.may = true) (x : ByteArray) (hx : ActV.text ⟨1, (nd : Int), 0, op, false, []⟩ = x.data.toList) : BackA ⟨1, (nd : Int), 0, op, false, []⟩ x := by
 have hp : actPieces 1 (nd : Int) 0 op.k op.v op.t op.s op.a op.c false op.d [] = [⟨#[97, 115, 107]⟩, ⟨(Lib.itoa (nd : Int)).toArray⟩, ⟨op.text.toArray⟩] := rfl
 have hx2 : Lib.join (([⟨#[97, 115, 107]⟩, ⟨(Lib.itoa (nd : Int)).toArray⟩, ⟨op.text.toArray⟩] : List ByteArray).map (·.data.toList)) [32] = x.data.toList := by rw [← hx]; rfl
 have hw : wordsB 32 x = ⟨#[97, 115, 107]⟩ :: ⟨(Lib.itoa (nd : Int)).toArray⟩ :: wordsB 32 ⟨op.text.toArray⟩ := by
  have e9 : x.data.toList = ([97, 115, 107] : List UInt8) ++ 32 :: (Lib.itoa (nd : Int) ++ 32 :: op.text) := by
   rw [← hx2]
   simp [join_two, join_one]
  have h1 : cutL 32 x.data.toList = ([97, 115, 107] : List UInt8) :: Lib.itoa (nd : Int) :: cutL 32 op.text := by
   rw [e9, cutL_app (by decide), cutL_app (itoa_no32 _ (by omega))]
  rw [wordsB, h1]
  simp [wordsB]
 obtain ⟨o1, o2, o3, o4⟩ := opRound op ⟨op.text.toArray⟩ hop (by simp)
 have hwo : ∃ us, wordsB 32 ⟨op.text.toArray⟩ = us := ⟨_, rfl⟩
 obtain ⟨us, hus⟩ := hwo
 rw [hus] at o1 o2 o3 o4 hw
 have nn := num_back nd 1 hnd
 refine ⟨?_, ?_, ?_, ?_, ?_⟩
 ·rw [hw]; exact (show aKOf ⟨#[97, 115, 107]⟩ = 1 by decide)
 ·rw [hw]; exact (show isForce ⟨#[97, 115, 107]⟩ = false by decide)
 ·rw [hw]; show (⟨1, ((decV (Lib.itoa ((nd : Nat) : Int)) 1 : Nat) : Int), 0, opValK (kOf (hdW us)) us, false, []⟩ : ActV) = ⟨1, (nd : Int), 0, op, false, []⟩
  rw [o1, o2, Lib.itoa_nonneg, nn.1]
 ·rw [hw]; show opBadK (kOf (hdW us)) us (false || !decOk (Lib.itoa ((nd : Nat) : Int)) 1) = false
  rw [Lib.itoa_nonneg, nn.2, o1]; exact o3
 ·rw [hw]; show us.drop (opLenK (kOf (hdW us))) = []
  rw [o1]; exact o4
theorem actRound_2 (m : Nat) (hmm : m ≤ 1000000) (x : ByteArray) (hx : ActV.text ⟨2, 0, (m : Int), zOp, false, []⟩ = x.data.toList) : BackA ⟨2, 0, (m : Int), zOp, false, []⟩ x := by
 have hp : actPieces 2 0 (m : Int) 0 0 0 0 0 0 false [] [] = [⟨#[99, 97, 114, 114, 121]⟩, ⟨(Lib.itoa (m : Int)).toArray⟩] := rfl
 have hx2 : Lib.join (([⟨#[99, 97, 114, 114, 121]⟩, ⟨(Lib.itoa (m : Int)).toArray⟩] : List ByteArray).map (·.data.toList)) [32] = x.data.toList := by rw [← hx]; exact congrArg (fun z : List ByteArray => Lib.join (z.map (·.data.toList)) [32]) hp.symm
 have hw : wordsB 32 x = [⟨#[99, 97, 114, 114, 121]⟩, ⟨(Lib.itoa (m : Int)).toArray⟩] := by
  have h1 : cutL 32 x.data.toList = ([⟨#[99, 97, 114, 114, 121]⟩, ⟨(Lib.itoa (m : Int)).toArray⟩] : List ByteArray).map (·.data.toList) := by
   rw [← hx2]
   refine cutL_join 32 _ (by simp) (fun y hy => ?_)
   simp only [List.map_cons, List.map_nil, List.mem_cons, List.mem_nil_iff, or_false] at hy
   rcases hy with rfl | rfl
   ·decide
   ·exact itoa_no32 _ (by omega)
  rw [wordsB, h1, List.map_map]
  simp [Function.comp_def]
 have nm := num_back m 1000000 hmm
 refine ⟨?_, ?_, ?_, ?_, ?_⟩
 ·rw [hw]; exact (show aKOf ⟨#[99, 97, 114, 114, 121]⟩ = 2 by decide)
 ·rw [hw]; exact (show isForce ⟨#[99, 97, 114, 114, 121]⟩ = false by decide)
 ·rw [hw]; show (⟨2, 0, ((decV (Lib.itoa ((m : Nat) : Int)) 1000000 : Nat) : Int), zOp, false, []⟩ : ActV) = ⟨2, 0, (m : Int), zOp, false, []⟩
  simp only [Lib.itoa_nonneg, nm.1, nm.2, Bool.or_false, Bool.false_or]
 ·rw [hw]; show (false || !decOk (Lib.itoa ((m : Nat) : Int)) 1000000) = false
  simp only [Lib.itoa_nonneg, nm.1, nm.2, Bool.or_false, Bool.false_or]
 ·rw [hw]; rfl
theorem actRound_3 (nd : Nat) (hnd : nd ≤ 1) (x : ByteArray) (hx : ActV.text ⟨3, (nd : Int), 0, zOp, false, []⟩ = x.data.toList) : BackA ⟨3, (nd : Int), 0, zOp, false, []⟩ x := by
 have hp : actPieces 3 (nd : Int) 0 0 0 0 0 0 0 false [] [] = [⟨#[116, 105, 99, 107]⟩, ⟨(Lib.itoa (nd : Int)).toArray⟩] := rfl
 have hx2 : Lib.join (([⟨#[116, 105, 99, 107]⟩, ⟨(Lib.itoa (nd : Int)).toArray⟩] : List ByteArray).map (·.data.toList)) [32] = x.data.toList := by rw [← hx]; exact congrArg (fun z : List ByteArray => Lib.join (z.map (·.data.toList)) [32]) hp.symm
 have hw : wordsB 32 x = [⟨#[116, 105, 99, 107]⟩, ⟨(Lib.itoa (nd : Int)).toArray⟩] := by
  have h1 : cutL 32 x.data.toList = ([⟨#[116, 105, 99, 107]⟩, ⟨(Lib.itoa (nd : Int)).toArray⟩] : List ByteArray).map (·.data.toList) := by
   rw [← hx2]
   refine cutL_join 32 _ (by simp) (fun y hy => ?_)
   simp only [List.map_cons, List.map_nil, List.mem_cons, List.mem_nil_iff, or_false] at hy
   rcases hy with rfl | rfl
   ·decide
   ·exact itoa_no32 _ (by omega)
  rw [wordsB, h1, List.map_map]
  simp [Function.comp_def]
 have nn := num_back nd 1 hnd
 refine ⟨?_, ?_, ?_, ?_, ?_⟩
 ·rw [hw]; exact (show aKOf ⟨#[116, 105, 99, 107]⟩ = 3 by decide)
 ·rw [hw]; exact (show isForce ⟨#[116, 105, 99, 107]⟩ = false by decide)
 ·rw [hw]; show (⟨3, ((decV (Lib.itoa ((nd : Nat) : Int)) 1 : Nat) : Int), 0, zOp, false, []⟩ : ActV) = ⟨3, (nd : Int), 0, zOp, false, []⟩
  simp only [Lib.itoa_nonneg, nn.1, nn.2, Bool.or_false, Bool.false_or]
 ·rw [hw]; show (false || !decOk (Lib.itoa ((nd : Nat) : Int)) 1) = false
  simp only [Lib.itoa_nonneg, nn.1, nn.2, Bool.or_false, Bool.false_or]
 ·rw [hw]; rfl
theorem actRound_4 (nd : Nat) (hnd : nd ≤ 1) (px : List Int) (hpx : ∀ n ∈ px, 0 ≤ n ∧ n ≤ 1000000) (x : ByteArray) (hx : ActV.text ⟨4, (nd : Int), 0, zOp, false, px⟩ = x.data.toList) : BackA ⟨4, (nd : Int), 0, zOp, false, px⟩ x := by
 have hp : actPieces 4 (nd : Int) 0 0 0 0 0 0 0 false [] px = [⟨#[111, 102, 102]⟩, ⟨(Lib.itoa (nd : Int)).toArray⟩, ⟨(rowL (pickT px)).toArray⟩] := rfl
 have hx2 : Lib.join (([⟨#[111, 102, 102]⟩, ⟨(Lib.itoa (nd : Int)).toArray⟩, ⟨(rowL (pickT px)).toArray⟩] : List ByteArray).map (·.data.toList)) [32] = x.data.toList := by rw [← hx]; exact congrArg (fun z : List ByteArray => Lib.join (z.map (·.data.toList)) [32]) hp.symm
 have hpk := pick_back hpx
 have hw : wordsB 32 x = [⟨#[111, 102, 102]⟩, ⟨(Lib.itoa (nd : Int)).toArray⟩, ⟨(rowL (pickT px)).toArray⟩] := by
  have h1 : cutL 32 x.data.toList = ([⟨#[111, 102, 102]⟩, ⟨(Lib.itoa (nd : Int)).toArray⟩, ⟨(rowL (pickT px)).toArray⟩] : List ByteArray).map (·.data.toList) := by
   rw [← hx2]
   refine cutL_join 32 _ (by simp) (fun y hy => ?_)
   simp only [List.map_cons, List.map_nil, List.mem_cons, List.mem_nil_iff, or_false] at hy
   rcases hy with rfl | rfl | rfl
   ·decide
   ·exact itoa_no32 _ (by omega)
   ·exact hpk.2.2
  rw [wordsB, h1, List.map_map]
  simp [Function.comp_def]
 have nn := num_back nd 1 hnd
 refine ⟨?_, ?_, ?_, ?_, ?_⟩
 ·rw [hw]; exact (show aKOf ⟨#[111, 102, 102]⟩ = 4 by decide)
 ·rw [hw]; exact (show isForce ⟨#[111, 102, 102]⟩ = false by decide)
 ·rw [hw]; show (⟨4, ((decV (Lib.itoa ((nd : Nat) : Int)) 1 : Nat) : Int), 0, zOp, false, pkOf ⟨(rowL (pickT px)).toArray⟩⟩ : ActV) = ⟨4, (nd : Int), 0, zOp, false, px⟩
  simp only [Lib.itoa_nonneg, nn.1, nn.2, hpk.1, hpk.2.1, Bool.or_false, Bool.false_or]
 ·rw [hw]; show (((false || !decOk (Lib.itoa ((nd : Nat) : Int)) 1) || false) || pkBad ⟨(rowL (pickT px)).toArray⟩) = false
  simp only [Lib.itoa_nonneg, nn.1, nn.2, hpk.1, hpk.2.1, Bool.or_false, Bool.false_or]
 ·rw [hw]; rfl
theorem actRound_5 (nd : Nat) (hnd : nd ≤ 1) (px : List Int) (hpx : ∀ n ∈ px, 0 ≤ n ∧ n ≤ 1000000) (x : ByteArray) (hx : ActV.text ⟨5, (nd : Int), 0, zOp, false, px⟩ = x.data.toList) : BackA ⟨5, (nd : Int), 0, zOp, false, px⟩ x := by
 have hp : actPieces 5 (nd : Int) 0 0 0 0 0 0 0 false [] px = [⟨#[111, 110]⟩, ⟨(Lib.itoa (nd : Int)).toArray⟩, ⟨(rowL (pickT px)).toArray⟩] := rfl
 have hx2 : Lib.join (([⟨#[111, 110]⟩, ⟨(Lib.itoa (nd : Int)).toArray⟩, ⟨(rowL (pickT px)).toArray⟩] : List ByteArray).map (·.data.toList)) [32] = x.data.toList := by rw [← hx]; exact congrArg (fun z : List ByteArray => Lib.join (z.map (·.data.toList)) [32]) hp.symm
 have hpk := pick_back hpx
 have hw : wordsB 32 x = [⟨#[111, 110]⟩, ⟨(Lib.itoa (nd : Int)).toArray⟩, ⟨(rowL (pickT px)).toArray⟩] := by
  have h1 : cutL 32 x.data.toList = ([⟨#[111, 110]⟩, ⟨(Lib.itoa (nd : Int)).toArray⟩, ⟨(rowL (pickT px)).toArray⟩] : List ByteArray).map (·.data.toList) := by
   rw [← hx2]
   refine cutL_join 32 _ (by simp) (fun y hy => ?_)
   simp only [List.map_cons, List.map_nil, List.mem_cons, List.mem_nil_iff, or_false] at hy
   rcases hy with rfl | rfl | rfl
   ·decide
   ·exact itoa_no32 _ (by omega)
   ·exact hpk.2.2
  rw [wordsB, h1, List.map_map]
  simp [Function.comp_def]
 have nn := num_back nd 1 hnd
 refine ⟨?_, ?_, ?_, ?_, ?_⟩
 ·rw [hw]; exact (show aKOf ⟨#[111, 110]⟩ = 5 by decide)
 ·rw [hw]; exact (show isForce ⟨#[111, 110]⟩ = false by decide)
 ·rw [hw]; show (⟨5, ((decV (Lib.itoa ((nd : Nat) : Int)) 1 : Nat) : Int), 0, zOp, false, pkOf ⟨(rowL (pickT px)).toArray⟩⟩ : ActV) = ⟨5, (nd : Int), 0, zOp, false, px⟩
  simp only [Lib.itoa_nonneg, nn.1, nn.2, hpk.1, hpk.2.1, Bool.or_false, Bool.false_or]
 ·rw [hw]; show (((false || !decOk (Lib.itoa ((nd : Nat) : Int)) 1) || false) || pkBad ⟨(rowL (pickT px)).toArray⟩) = false
  simp only [Lib.itoa_nonneg, nn.1, nn.2, hpk.1, hpk.2.1, Bool.or_false, Bool.false_or]
 ·rw [hw]; rfl
theorem actRound_6 (nd : Nat) (hnd : nd ≤ 1) (m : Nat) (hmm : m ≤ 1000000) (x : ByteArray) (hx : ActV.text ⟨6, (nd : Int), (m : Int), zOp, false, []⟩ = x.data.toList) : BackA ⟨6, (nd : Int), (m : Int), zOp, false, []⟩ x := by
 have hp : actPieces 6 (nd : Int) (m : Int) 0 0 0 0 0 0 false [] [] = [⟨#[102, 117, 115, 101]⟩, ⟨(Lib.itoa (nd : Int)).toArray⟩, ⟨(Lib.itoa (m : Int)).toArray⟩] := rfl
 have hx2 : Lib.join (([⟨#[102, 117, 115, 101]⟩, ⟨(Lib.itoa (nd : Int)).toArray⟩, ⟨(Lib.itoa (m : Int)).toArray⟩] : List ByteArray).map (·.data.toList)) [32] = x.data.toList := by rw [← hx]; exact congrArg (fun z : List ByteArray => Lib.join (z.map (·.data.toList)) [32]) hp.symm
 have hw : wordsB 32 x = [⟨#[102, 117, 115, 101]⟩, ⟨(Lib.itoa (nd : Int)).toArray⟩, ⟨(Lib.itoa (m : Int)).toArray⟩] := by
  have h1 : cutL 32 x.data.toList = ([⟨#[102, 117, 115, 101]⟩, ⟨(Lib.itoa (nd : Int)).toArray⟩, ⟨(Lib.itoa (m : Int)).toArray⟩] : List ByteArray).map (·.data.toList) := by
   rw [← hx2]
   refine cutL_join 32 _ (by simp) (fun y hy => ?_)
   simp only [List.map_cons, List.map_nil, List.mem_cons, List.mem_nil_iff, or_false] at hy
   rcases hy with rfl | rfl | rfl
   ·decide
   ·exact itoa_no32 _ (by omega)
   ·exact itoa_no32 _ (by omega)
  rw [wordsB, h1, List.map_map]
  simp [Function.comp_def]
 have nn := num_back nd 1 hnd
 have nm := num_back m 1000000 hmm
 refine ⟨?_, ?_, ?_, ?_, ?_⟩
 ·rw [hw]; exact (show aKOf ⟨#[102, 117, 115, 101]⟩ = 6 by decide)
 ·rw [hw]; exact (show isForce ⟨#[102, 117, 115, 101]⟩ = false by decide)
 ·rw [hw]; show (⟨6, ((decV (Lib.itoa ((nd : Nat) : Int)) 1 : Nat) : Int), ((decV (Lib.itoa ((m : Nat) : Int)) 1000000 : Nat) : Int), zOp, false, []⟩ : ActV) = ⟨6, (nd : Int), (m : Int), zOp, false, []⟩
  simp only [Lib.itoa_nonneg, nn.1, nn.2, nm.1, nm.2, Bool.or_false, Bool.false_or]
 ·rw [hw]; show ((false || !decOk (Lib.itoa ((nd : Nat) : Int)) 1) || !decOk (Lib.itoa ((m : Nat) : Int)) 1000000) = false
  simp only [Lib.itoa_nonneg, nn.1, nn.2, nm.1, nm.2, Bool.or_false, Bool.false_or]
 ·rw [hw]; rfl
theorem actRound_7 (nd : Nat) (hnd : nd ≤ 1) (x : ByteArray) (hx : ActV.text ⟨7, (nd : Int), 0, zOp, false, []⟩ = x.data.toList) : BackA ⟨7, (nd : Int), 0, zOp, false, []⟩ x := by
 have hp : actPieces 7 (nd : Int) 0 0 0 0 0 0 0 false [] [] = [⟨#[108, 101, 97, 100]⟩, ⟨(Lib.itoa (nd : Int)).toArray⟩] := rfl
 have hx2 : Lib.join (([⟨#[108, 101, 97, 100]⟩, ⟨(Lib.itoa (nd : Int)).toArray⟩] : List ByteArray).map (·.data.toList)) [32] = x.data.toList := by rw [← hx]; exact congrArg (fun z : List ByteArray => Lib.join (z.map (·.data.toList)) [32]) hp.symm
 have hw : wordsB 32 x = [⟨#[108, 101, 97, 100]⟩, ⟨(Lib.itoa (nd : Int)).toArray⟩] := by
  have h1 : cutL 32 x.data.toList = ([⟨#[108, 101, 97, 100]⟩, ⟨(Lib.itoa (nd : Int)).toArray⟩] : List ByteArray).map (·.data.toList) := by
   rw [← hx2]
   refine cutL_join 32 _ (by simp) (fun y hy => ?_)
   simp only [List.map_cons, List.map_nil, List.mem_cons, List.mem_nil_iff, or_false] at hy
   rcases hy with rfl | rfl
   ·decide
   ·exact itoa_no32 _ (by omega)
  rw [wordsB, h1, List.map_map]
  simp [Function.comp_def]
 have nn := num_back nd 1 hnd
 refine ⟨?_, ?_, ?_, ?_, ?_⟩
 ·rw [hw]; exact (show aKOf ⟨#[108, 101, 97, 100]⟩ = 7 by decide)
 ·rw [hw]; exact (show isForce ⟨#[108, 101, 97, 100]⟩ = false by decide)
 ·rw [hw]; show (⟨7, ((decV (Lib.itoa ((nd : Nat) : Int)) 1 : Nat) : Int), 0, zOp, false, []⟩ : ActV) = ⟨7, (nd : Int), 0, zOp, false, []⟩
  simp only [Lib.itoa_nonneg, nn.1, nn.2, Bool.or_false, Bool.false_or]
 ·rw [hw]; show (false || !decOk (Lib.itoa ((nd : Nat) : Int)) 1) = false
  simp only [Lib.itoa_nonneg, nn.1, nn.2, Bool.or_false, Bool.false_or]
 ·rw [hw]; rfl
theorem actRound_8 (nd : Nat) (hnd : nd ≤ 1) (x : ByteArray) (hx : ActV.text ⟨8, (nd : Int), 0, zOp, false, []⟩ = x.data.toList) : BackA ⟨8, (nd : Int), 0, zOp, false, []⟩ x := by
 have hp : actPieces 8 (nd : Int) 0 0 0 0 0 0 0 false [] [] = [⟨#[100, 101, 103, 114, 97, 100, 101]⟩, ⟨(Lib.itoa (nd : Int)).toArray⟩] := rfl
 have hx2 : Lib.join (([⟨#[100, 101, 103, 114, 97, 100, 101]⟩, ⟨(Lib.itoa (nd : Int)).toArray⟩] : List ByteArray).map (·.data.toList)) [32] = x.data.toList := by rw [← hx]; exact congrArg (fun z : List ByteArray => Lib.join (z.map (·.data.toList)) [32]) hp.symm
 have hw : wordsB 32 x = [⟨#[100, 101, 103, 114, 97, 100, 101]⟩, ⟨(Lib.itoa (nd : Int)).toArray⟩] := by
  have h1 : cutL 32 x.data.toList = ([⟨#[100, 101, 103, 114, 97, 100, 101]⟩, ⟨(Lib.itoa (nd : Int)).toArray⟩] : List ByteArray).map (·.data.toList) := by
   rw [← hx2]
   refine cutL_join 32 _ (by simp) (fun y hy => ?_)
   simp only [List.map_cons, List.map_nil, List.mem_cons, List.mem_nil_iff, or_false] at hy
   rcases hy with rfl | rfl
   ·decide
   ·exact itoa_no32 _ (by omega)
  rw [wordsB, h1, List.map_map]
  simp [Function.comp_def]
 have nn := num_back nd 1 hnd
 refine ⟨?_, ?_, ?_, ?_, ?_⟩
 ·rw [hw]; exact (show aKOf ⟨#[100, 101, 103, 114, 97, 100, 101]⟩ = 8 by decide)
 ·rw [hw]; exact (show isForce ⟨#[100, 101, 103, 114, 97, 100, 101]⟩ = false by decide)
 ·rw [hw]; show (⟨8, ((decV (Lib.itoa ((nd : Nat) : Int)) 1 : Nat) : Int), 0, zOp, false, []⟩ : ActV) = ⟨8, (nd : Int), 0, zOp, false, []⟩
  simp only [Lib.itoa_nonneg, nn.1, nn.2, Bool.or_false, Bool.false_or]
 ·rw [hw]; show (false || !decOk (Lib.itoa ((nd : Nat) : Int)) 1) = false
  simp only [Lib.itoa_nonneg, nn.1, nn.2, Bool.or_false, Bool.false_or]
 ·rw [hw]; rfl
theorem actRound_9 (nd : Nat) (hnd : nd ≤ 1) (m : Nat) (hmm : m ≤ 1000000) (x : ByteArray) (hx : ActV.text ⟨9, (nd : Int), (m : Int), zOp, false, []⟩ = x.data.toList) : BackA ⟨9, (nd : Int), (m : Int), zOp, false, []⟩ x := by
 have hp : actPieces 9 (nd : Int) (m : Int) 0 0 0 0 0 0 false [] [] = [⟨#[103, 114, 111, 119]⟩, ⟨(Lib.itoa (nd : Int)).toArray⟩, ⟨(Lib.itoa (m : Int)).toArray⟩] := rfl
 have hx2 : Lib.join (([⟨#[103, 114, 111, 119]⟩, ⟨(Lib.itoa (nd : Int)).toArray⟩, ⟨(Lib.itoa (m : Int)).toArray⟩] : List ByteArray).map (·.data.toList)) [32] = x.data.toList := by rw [← hx]; exact congrArg (fun z : List ByteArray => Lib.join (z.map (·.data.toList)) [32]) hp.symm
 have hw : wordsB 32 x = [⟨#[103, 114, 111, 119]⟩, ⟨(Lib.itoa (nd : Int)).toArray⟩, ⟨(Lib.itoa (m : Int)).toArray⟩] := by
  have h1 : cutL 32 x.data.toList = ([⟨#[103, 114, 111, 119]⟩, ⟨(Lib.itoa (nd : Int)).toArray⟩, ⟨(Lib.itoa (m : Int)).toArray⟩] : List ByteArray).map (·.data.toList) := by
   rw [← hx2]
   refine cutL_join 32 _ (by simp) (fun y hy => ?_)
   simp only [List.map_cons, List.map_nil, List.mem_cons, List.mem_nil_iff, or_false] at hy
   rcases hy with rfl | rfl | rfl
   ·decide
   ·exact itoa_no32 _ (by omega)
   ·exact itoa_no32 _ (by omega)
  rw [wordsB, h1, List.map_map]
  simp [Function.comp_def]
 have nn := num_back nd 1 hnd
 have nm := num_back m 1000000 hmm
 refine ⟨?_, ?_, ?_, ?_, ?_⟩
 ·rw [hw]; exact (show aKOf ⟨#[103, 114, 111, 119]⟩ = 9 by decide)
 ·rw [hw]; exact (show isForce ⟨#[103, 114, 111, 119]⟩ = false by decide)
 ·rw [hw]; show (⟨9, ((decV (Lib.itoa ((nd : Nat) : Int)) 1 : Nat) : Int), ((decV (Lib.itoa ((m : Nat) : Int)) 1000000 : Nat) : Int), zOp, false, []⟩ : ActV) = ⟨9, (nd : Int), (m : Int), zOp, false, []⟩
  simp only [Lib.itoa_nonneg, nn.1, nn.2, nm.1, nm.2, Bool.or_false, Bool.false_or]
 ·rw [hw]; show ((false || !decOk (Lib.itoa ((nd : Nat) : Int)) 1) || !decOk (Lib.itoa ((m : Nat) : Int)) 1000000) = false
  simp only [Lib.itoa_nonneg, nn.1, nn.2, nm.1, nm.2, Bool.or_false, Bool.false_or]
 ·rw [hw]; rfl
theorem actRound_10  (x : ByteArray) (hx : ActV.text ⟨10, 0, 0, zOp, false, []⟩ = x.data.toList) : BackA ⟨10, 0, 0, zOp, false, []⟩ x := by
 have hp : actPieces 10 0 0 0 0 0 0 0 0 false [] [] = [⟨#[97, 108, 108]⟩] := rfl
 have hx2 : Lib.join (([⟨#[97, 108, 108]⟩] : List ByteArray).map (·.data.toList)) [32] = x.data.toList := by rw [← hx]; exact congrArg (fun z : List ByteArray => Lib.join (z.map (·.data.toList)) [32]) hp.symm
 have hw : wordsB 32 x = [⟨#[97, 108, 108]⟩] := by
  have h1 : cutL 32 x.data.toList = ([⟨#[97, 108, 108]⟩] : List ByteArray).map (·.data.toList) := by
   rw [← hx2]
   refine cutL_join 32 _ (by simp) (fun y hy => ?_)
   simp only [List.map_cons, List.map_nil, List.mem_cons, List.mem_nil_iff, or_false] at hy
   rcases hy with rfl
   ·decide
  rw [wordsB, h1, List.map_map]
  simp [Function.comp_def]
 refine ⟨?_, ?_, ?_, ?_, ?_⟩
 ·rw [hw]; exact (show aKOf ⟨#[97, 108, 108]⟩ = 10 by decide)
 ·rw [hw]; exact (show isForce ⟨#[97, 108, 108]⟩ = false by decide)
 ·rw [hw]; show (⟨10, 0, 0, zOp, false, []⟩ : ActV) = ⟨10, 0, 0, zOp, false, []⟩
  rfl
 ·rw [hw]; show false = false
  rfl
 ·rw [hw]; rfl
theorem actRound_17 (nd : Nat) (hnd : nd ≤ 1) (x : ByteArray) (hx : ActV.text ⟨7, (nd : Int), 0, zOp, true, []⟩ = x.data.toList) : BackA ⟨7, (nd : Int), 0, zOp, true, []⟩ x := by
 have hp : actPieces 7 (nd : Int) 0 0 0 0 0 0 0 true [] [] = [⟨#[102, 111, 114, 99, 101]⟩, ⟨(Lib.itoa (nd : Int)).toArray⟩] := rfl
 have hx2 : Lib.join (([⟨#[102, 111, 114, 99, 101]⟩, ⟨(Lib.itoa (nd : Int)).toArray⟩] : List ByteArray).map (·.data.toList)) [32] = x.data.toList := by rw [← hx]; exact congrArg (fun z : List ByteArray => Lib.join (z.map (·.data.toList)) [32]) hp.symm
 have hw : wordsB 32 x = [⟨#[102, 111, 114, 99, 101]⟩, ⟨(Lib.itoa (nd : Int)).toArray⟩] := by
  have h1 : cutL 32 x.data.toList = ([⟨#[102, 111, 114, 99, 101]⟩, ⟨(Lib.itoa (nd : Int)).toArray⟩] : List ByteArray).map (·.data.toList) := by
   rw [← hx2]
   refine cutL_join 32 _ (by simp) (fun y hy => ?_)
   simp only [List.map_cons, List.map_nil, List.mem_cons, List.mem_nil_iff, or_false] at hy
   rcases hy with rfl | rfl
   ·decide
   ·exact itoa_no32 _ (by omega)
  rw [wordsB, h1, List.map_map]
  simp [Function.comp_def]
 have nn := num_back nd 1 hnd
 refine ⟨?_, ?_, ?_, ?_, ?_⟩
 ·rw [hw]; exact (show aKOf ⟨#[102, 111, 114, 99, 101]⟩ = 7 by decide)
 ·rw [hw]; exact (show isForce ⟨#[102, 111, 114, 99, 101]⟩ = true by decide)
 ·rw [hw]; show (⟨7, ((decV (Lib.itoa ((nd : Nat) : Int)) 1 : Nat) : Int), 0, zOp, true, []⟩ : ActV) = ⟨7, (nd : Int), 0, zOp, true, []⟩
  simp only [Lib.itoa_nonneg, nn.1, nn.2, Bool.or_false, Bool.false_or]
 ·rw [hw]; show (false || !decOk (Lib.itoa ((nd : Nat) : Int)) 1) = false
  simp only [Lib.itoa_nonneg, nn.1, nn.2, Bool.or_false, Bool.false_or]
 ·rw [hw]; rfl
set_option maxHeartbeats 2000000 in
theorem actRound (a : ActV) (x : ByteArray) (h : a.may = true) (hx : a.text = x.data.toList) : BackA a x := by
 obtain ⟨k, nd, m, ⟨ok, ov, ot, os, oa, oc, ol⟩, f, px⟩ := a
 have hm : mayActB k nd m ok ov ot os oa oc f ol.length px.length ol px = true := h
 by_cases hk9 : 1 ≤ k ∧ k ≤ 10
 ·have h3 : k = 1 ∨ k = 2 ∨ k = 3 ∨ k = 4 ∨ k = 5 ∨ k = 6 ∨ k = 7 ∨ k = 8 ∨ k = 9 ∨ k = 10 := by omega
  rcases h3 with rfl | rfl | rfl | rfl | rfl | rfl | rfl | rfl | rfl | rfl
  ·simp only [mayActB, if_true, reduceCtorEq, Int.reduceEq, if_false, Bool.and_eq_true, beq_iff_eq, nodeB, Bool.or_eq_true] at hm
   obtain rfl : f = false := by first | exact hm.1.2 | exact hm.2 | exact hm.1.1.2
   obtain rfl : px = [] := by first | exact hm.2 | exact hm.1.2
   obtain ⟨nd, rfl⟩ := Int.eq_ofNat_of_zero_le (show 0 ≤ nd by omega)
   obtain rfl : m = 0 := by omega
   exact actRound_1 nd (by omega) ⟨ok, ov, ot, os, oa, oc, ol⟩ hm.1.1.1.2 x hx
  ·simp only [mayActB, if_true, reduceCtorEq, Int.reduceEq, if_false, Bool.and_eq_true, beq_iff_eq, nodeB, Bool.or_eq_true] at hm
   obtain ⟨rfl, rfl, rfl, rfl, rfl, rfl, rfl⟩ := same_zero (by first | exact hm.2.1 | exact hm.1.2 | exact hm.1.1.2 | exact hm.1.1.1.2 | exact hm.2)
   obtain rfl : f = false := by first | exact hm.1.2 | exact hm.2 | exact hm.1.1.2
   obtain rfl : px = [] := by first | exact hm.2 | exact hm.1.2
   obtain rfl : nd = 0 := by omega
   have hmn : mayN m = true := by first | exact hm.1.1.1.1 | exact hm.1.1.1.2 | exact hm.1.1.2
   simp only [mayN, Bool.and_eq_true, decide_eq_true_eq] at hmn
   obtain ⟨m, rfl⟩ := Int.eq_ofNat_of_zero_le hmn.1
   exact actRound_2 m (by omega) x hx
  ·simp only [mayActB, if_true, reduceCtorEq, Int.reduceEq, if_false, Bool.and_eq_true, beq_iff_eq, nodeB, Bool.or_eq_true] at hm
   obtain ⟨rfl, rfl, rfl, rfl, rfl, rfl, rfl⟩ := same_zero (by first | exact hm.2.1 | exact hm.1.2 | exact hm.1.1.2 | exact hm.1.1.1.2 | exact hm.2)
   obtain rfl : f = false := by first | exact hm.1.2 | exact hm.2 | exact hm.1.1.2
   obtain rfl : px = [] := by first | exact hm.2 | exact hm.1.2
   obtain ⟨nd, rfl⟩ := Int.eq_ofNat_of_zero_le (show 0 ≤ nd by omega)
   obtain rfl : m = 0 := by omega
   exact actRound_3 nd (by omega) x hx
  ·simp only [mayActB, if_true, reduceCtorEq, Int.reduceEq, if_false, Bool.and_eq_true, beq_iff_eq, nodeB, Bool.or_eq_true] at hm
   obtain ⟨rfl, rfl, rfl, rfl, rfl, rfl, rfl⟩ := same_zero (by first | exact hm.2.1 | exact hm.1.2 | exact hm.1.1.2 | exact hm.1.1.1.2 | exact hm.2)
   obtain rfl : f = false := by first | exact hm.1.2 | exact hm.2 | exact hm.1.1.2
   obtain ⟨nd, rfl⟩ := Int.eq_ofNat_of_zero_le (show 0 ≤ nd by omega)
   obtain rfl : m = 0 := by omega
   have hpp := picks_ok (show picksB px.length px = true by first | exact hm.1.1.1.2 | exact hm.1.1.2)
   exact actRound_4 nd (by omega) px hpp.2 x hx
  ·simp only [mayActB, if_true, reduceCtorEq, Int.reduceEq, if_false, Bool.and_eq_true, beq_iff_eq, nodeB, Bool.or_eq_true] at hm
   obtain ⟨rfl, rfl, rfl, rfl, rfl, rfl, rfl⟩ := same_zero (by first | exact hm.2.1 | exact hm.1.2 | exact hm.1.1.2 | exact hm.1.1.1.2 | exact hm.2)
   obtain rfl : f = false := by first | exact hm.1.2 | exact hm.2 | exact hm.1.1.2
   obtain ⟨nd, rfl⟩ := Int.eq_ofNat_of_zero_le (show 0 ≤ nd by omega)
   obtain rfl : m = 0 := by omega
   have hpp := picks_ok (show picksB px.length px = true by first | exact hm.1.1.1.2 | exact hm.1.1.2)
   exact actRound_5 nd (by omega) px hpp.2 x hx
  ·simp only [mayActB, if_true, reduceCtorEq, Int.reduceEq, if_false, Bool.and_eq_true, beq_iff_eq, nodeB, Bool.or_eq_true] at hm
   obtain ⟨rfl, rfl, rfl, rfl, rfl, rfl, rfl⟩ := same_zero (by first | exact hm.2.1 | exact hm.1.2 | exact hm.1.1.2 | exact hm.1.1.1.2 | exact hm.2)
   obtain rfl : f = false := by first | exact hm.1.2 | exact hm.2 | exact hm.1.1.2
   obtain rfl : px = [] := by first | exact hm.2 | exact hm.1.2
   obtain ⟨nd, rfl⟩ := Int.eq_ofNat_of_zero_le (show 0 ≤ nd by omega)
   have hmn : mayN m = true := by first | exact hm.1.1.1.1 | exact hm.1.1.1.2 | exact hm.1.1.2
   simp only [mayN, Bool.and_eq_true, decide_eq_true_eq] at hmn
   obtain ⟨m, rfl⟩ := Int.eq_ofNat_of_zero_le hmn.1
   exact actRound_6 nd (by omega) m (by omega) x hx
  ·simp only [mayActB, if_true, reduceCtorEq, Int.reduceEq, if_false, Bool.and_eq_true, beq_iff_eq, nodeB, Bool.or_eq_true] at hm
   obtain ⟨rfl, rfl, rfl, rfl, rfl, rfl, rfl⟩ := same_zero (by first | exact hm.2.1 | exact hm.1.2 | exact hm.1.1.2 | exact hm.1.1.1.2 | exact hm.2)
   obtain rfl : px = [] := by first | exact hm.2 | exact hm.1.2
   obtain ⟨nd, rfl⟩ := Int.eq_ofNat_of_zero_le (show 0 ≤ nd by omega)
   obtain rfl : m = 0 := by omega
   cases f
   ·exact actRound_7 nd (by omega) x hx
   ·exact actRound_17 nd (by omega) x hx
  ·simp only [mayActB, if_true, reduceCtorEq, Int.reduceEq, if_false, Bool.and_eq_true, beq_iff_eq, nodeB, Bool.or_eq_true] at hm
   obtain ⟨rfl, rfl, rfl, rfl, rfl, rfl, rfl⟩ := same_zero (by first | exact hm.2.1 | exact hm.1.2 | exact hm.1.1.2 | exact hm.1.1.1.2 | exact hm.2)
   obtain rfl : f = false := by first | exact hm.1.2 | exact hm.2 | exact hm.1.1.2
   obtain rfl : px = [] := by first | exact hm.2 | exact hm.1.2
   obtain ⟨nd, rfl⟩ := Int.eq_ofNat_of_zero_le (show 0 ≤ nd by omega)
   obtain rfl : m = 0 := by omega
   exact actRound_8 nd (by omega) x hx
  ·simp only [mayActB, if_true, reduceCtorEq, Int.reduceEq, if_false, Bool.and_eq_true, beq_iff_eq, nodeB, Bool.or_eq_true] at hm
   obtain ⟨rfl, rfl, rfl, rfl, rfl, rfl, rfl⟩ := same_zero (by first | exact hm.2.1 | exact hm.1.2 | exact hm.1.1.2 | exact hm.1.1.1.2 | exact hm.2)
   obtain rfl : f = false := by first | exact hm.1.2 | exact hm.2 | exact hm.1.1.2
   obtain rfl : px = [] := by first | exact hm.2 | exact hm.1.2
   obtain ⟨nd, rfl⟩ := Int.eq_ofNat_of_zero_le (show 0 ≤ nd by omega)
   have hmn : mayN m = true := by first | exact hm.1.1.1.1 | exact hm.1.1.1.2 | exact hm.1.1.2
   simp only [mayN, Bool.and_eq_true, decide_eq_true_eq] at hmn
   obtain ⟨m, rfl⟩ := Int.eq_ofNat_of_zero_le hmn.1
   exact actRound_9 nd (by omega) m (by omega) x hx
  ·simp only [mayActB, if_true, reduceCtorEq, Int.reduceEq, if_false, Bool.and_eq_true, beq_iff_eq, nodeB, Bool.or_eq_true] at hm
   obtain ⟨rfl, rfl, rfl, rfl, rfl, rfl, rfl⟩ := same_zero (by first | exact hm.2.1 | exact hm.1.2 | exact hm.1.1.2 | exact hm.1.1.1.2 | exact hm.2)
   obtain rfl : f = false := by first | exact hm.1.2 | exact hm.2 | exact hm.1.1.2
   obtain rfl : px = [] := by first | exact hm.2 | exact hm.1.2
   obtain rfl : nd = 0 := by omega
   obtain rfl : m = 0 := by omega
   exact actRound_10  x hx
 ·unfold mayActB at hm
  repeat (rw [if_neg (by omega)] at hm)
  cases hm
theorem goodA_text (a : ActV) (x : ByteArray) (h : a.may = true) (hx : a.text = x.data.toList) : goodA x = true ∧ acX x = a := by
 obtain ⟨h1, h2, h3, h4, h5⟩ := actRound a x h hx
 have e : acX x = a := by rw [acX, h1, h2, h3]
 refine ⟨?_, e⟩
 rw [goodA, e, h1, h4, h5, h, hx]
 simp
theorem itoa_no10 (n : Int) : (10 : UInt8) ∉ Lib.itoa n := by
 unfold Lib.itoa
 split
 ·simp only [List.mem_cons, not_or]; exact ⟨by decide, dec_no 10 (by decide) _⟩
 ·exact dec_no 10 (by decide) _
theorem hexd_no10 : ∀ i : Fin 16, hexd i.val ≠ 10 := by decide
theorem secL_no10 (b : List UInt8) : (10 : UInt8) ∉ secL b := by
 unfold secL
 split
 ·decide
 ·intro hx
  simp only [hexL, List.mem_flatMap, List.mem_cons, List.mem_nil_iff, or_false] at hx
  obtain ⟨c, _, h | h⟩ := hx
  ·exact hexd_no10 ⟨c.toNat / 16, by have := c.toNat_lt; omega⟩ h.symm
  ·exact hexd_no10 ⟨c.toNat % 16, by omega⟩ h.symm
theorem dataL_no10 (l : List UInt8) : (10 : UInt8) ∉ dataL l := by
 unfold dataL rowL
 split
 ·decide
 ·refine join_no 10 [44] (by decide) _ (fun x hx => ?_)
  simp only [secs, List.map_map, List.mem_map, Function.comp] at hx
  obtain ⟨j, _, rfl⟩ := hx
  simpa [secAt] using secL_no10 _
theorem pickR_no10 (px : List Int) : (10 : UInt8) ∉ rowL (pickT px) := by
 unfold rowL
 split
 ·decide
 ·refine join_no 10 [44] (by decide) _ (fun x hx => ?_)
  simp only [pickT, List.map_map, List.mem_map, Function.comp] at hx
  obtain ⟨n, _, rfl⟩ := hx
  exact itoa_no10 n
theorem opText_no10 (xk xv xt xs xa xc : Int) (lx : List UInt8) : (10 : UInt8) ∉ opTextL xk xv xt xs xa xc lx := by
 unfold opTextL opPieces
 have hd := fun n => dec_no 10 (by decide) n
 have hi := itoa_no10
 have hD := dataL_no10
 refine join_no 10 [32] (by decide) _ (fun x hx => ?_)
 repeat' split at hx
 all_goals
  simp only [List.map_cons, List.map_nil, List.mem_cons, List.mem_nil_iff, or_false] at hx
 ·rcases hx with rfl | rfl | rfl <;> first | decide | exact hd _ | exact hi _ | exact hD _
 ·rcases hx with rfl | rfl <;> first | decide | exact hd _ | exact hi _ | exact hD _
 ·rcases hx with rfl | rfl | rfl <;> first | decide | exact hd _ | exact hi _ | exact hD _
 ·rcases hx with rfl | rfl | rfl <;> first | decide | exact hd _ | exact hi _ | exact hD _
 ·rcases hx with rfl | rfl | rfl | rfl <;> first | decide | exact hd _ | exact hi _ | exact hD _
 ·rcases hx with rfl | rfl | rfl | rfl <;> first | decide | exact hd _ | exact hi _ | exact hD _
 ·rcases hx with rfl | rfl | rfl | rfl <;> first | decide | exact hd _ | exact hi _ | exact hD _
 ·rcases hx with rfl; decide
 ·rcases hx with rfl | rfl | rfl | rfl <;> first | decide | exact hd _ | exact hi _ | exact hD _
theorem actText_no10 (a : ActV) : (10 : UInt8) ∉ a.text := by
 unfold ActV.text actTextL actPieces
 have hi := itoa_no10
 have hO := opText_no10 a.o.k a.o.v a.o.t a.o.s a.o.a a.o.c a.o.d
 have hP := pickR_no10 a.pk
 refine join_no 10 [32] (by decide) _ (fun x hx => ?_)
 repeat' split at hx
 all_goals
  simp only [List.map_cons, List.map_nil, List.mem_cons, List.mem_nil_iff, or_false] at hx
 ·rcases hx with rfl | rfl | rfl <;> first | decide | exact hi _ | exact hO | exact hP
 ·rcases hx with rfl | rfl <;> first | decide | exact hi _ | exact hO | exact hP
 ·rcases hx with rfl | rfl <;> first | decide | exact hi _ | exact hO | exact hP
 ·rcases hx with rfl | rfl | rfl <;> first | decide | exact hi _ | exact hO | exact hP
 ·rcases hx with rfl | rfl | rfl <;> first | decide | exact hi _ | exact hO | exact hP
 ·rcases hx with rfl | rfl | rfl <;> first | decide | exact hi _ | exact hO | exact hP
 ·rcases hx with rfl | rfl <;> first | decide | exact hi _ | exact hO | exact hP
 ·rcases hx with rfl | rfl <;> first | decide | exact hi _ | exact hO | exact hP
 ·rcases hx with rfl | rfl <;> first | decide | exact hi _ | exact hO | exact hP
 ·rcases hx with rfl | rfl | rfl <;> first | decide | exact hi _ | exact hO | exact hP
 ·rcases hx with rfl; decide
theorem stageText_no10 (m0 m1 d0 d1 g : Int) : (10 : UInt8) ∉ stageTextL m0 m1 d0 d1 g := by
 have hi := itoa_no10
 refine join_no 10 [32] (by decide) _ (fun x hx => ?_)
 simp only [stageWords, List.map_cons, List.map_nil, List.mem_cons, List.mem_nil_iff, or_false] at hx
 rcases hx with rfl | rfl | rfl | rfl | rfl | rfl <;> first | decide | exact hi _
def glueL : List (List UInt8) → List UInt8
 | [] => []
 | x :: r => x ++ 10 :: glueL r
theorem glueL_snoc (L : List (List UInt8)) (x : List UInt8) : glueL (L ++ [x]) = glueL L ++ x ++ [10] := by
 induction L with
 | nil => simp [glueL]
 | cons y L ih => simp [glueL, ih]
theorem glue_cut : ∀ L : List (List UInt8), (∀ x ∈ L, (10 : UInt8) ∉ x) → cutL 10 (glueL L) = L ++ [[]]
 | [], _ => rfl
 | x :: r, h => by
  rw [glueL, cutL_app (h x (by simp)), glue_cut r fun y hy => h y (List.mem_cons_of_mem _ hy)]
  rfl
def lineB (l : List UInt8) : ByteArray := ⟨l.toArray⟩
theorem glue_words (L : List (List UInt8)) (h : ∀ x ∈ L, (10 : UInt8) ∉ x) (t : ByteArray) (ht : t.data.toList = glueL L) : wordsB 10 t = L.map lineB ++ [⟨#[]⟩] := by
 rw [wordsB, ht, glue_cut L h, List.map_append]; rfl
theorem glue_lines (L : List (List UInt8)) (h : ∀ x ∈ L, (10 : UInt8) ∉ x) (t : ByteArray) (ht : t.data.toList = glueL L) : linesB t = L.map lineB ∧ restB t = ⟨#[]⟩ := by
 have e := glue_words L h t ht
 constructor
 ·rw [linesB, e, List.dropLast_concat]
 ·rw [restB, e]; simp
theorem stage_back (m0 m1 d0 d1 g : Int) (h : mayStB m0 m1 d0 d1 g = true) : goodSt (lineB (stageTextL m0 m1 d0 d1 g)) = true ∧ (nW (lineB (stageTextL m0 m1 d0 d1 g)) 1 : Int) = m0 ∧ (nW (lineB (stageTextL m0 m1 d0 d1 g)) 3 : Int) = m1 ∧ (nW (lineB (stageTextL m0 m1 d0 d1 g)) 2 : Int) = d0 ∧ (nW (lineB (stageTextL m0 m1 d0 d1 g)) 4 : Int) = d1 ∧ (nW (lineB (stageTextL m0 m1 d0 d1 g)) 5 : Int) = g := by
 have hm := h
 simp only [mayStB, Bool.and_eq_true, decide_eq_true_eq] at h
 have b : StBd m0 m1 d0 d1 g := ⟨by omega⟩
 have hw := stageWords_cut m0 m1 d0 d1 g b (lineB (stageTextL m0 m1 d0 d1 g)) (by simp [lineB])
 have nat : ∀ n : Int, 0 ≤ n → n ≤ 1000000 → ((decV (Lib.itoa n) 1000000 : Nat) : Int) = n := fun n h0 h1 => by
  obtain ⟨k, rfl⟩ := Int.eq_ofNat_of_zero_le h0
  rw [Lib.itoa_nonneg, decV_digits k 1000000 (by omega)]
 have e1 : (nW (lineB (stageTextL m0 m1 d0 d1 g)) 1 : Int) = m0 := by rw [nW, hw]; exact nat m0 (by omega) (by omega)
 have e2 : (nW (lineB (stageTextL m0 m1 d0 d1 g)) 2 : Int) = d0 := by rw [nW, hw]; exact nat d0 (by omega) (by omega)
 have e3 : (nW (lineB (stageTextL m0 m1 d0 d1 g)) 3 : Int) = m1 := by rw [nW, hw]; exact nat m1 (by omega) (by omega)
 have e4 : (nW (lineB (stageTextL m0 m1 d0 d1 g)) 4 : Int) = d1 := by rw [nW, hw]; exact nat d1 (by omega) (by omega)
 have e5 : (nW (lineB (stageTextL m0 m1 d0 d1 g)) 5 : Int) = g := by rw [nW, hw]; exact nat g (by omega) (by omega)
 refine ⟨?_, e1, e3, e2, e4, e5⟩
 rw [goodSt, e1, e2, e3, e4, e5, hm]
 simp [lineB]
theorem act_back (a : ActV) (h : a.may = true) : goodA (lineB a.text) = true ∧ actRes (lineB a.text) = a := by
 obtain ⟨h1, h2⟩ := goodA_text a (lineB a.text) h (by simp [lineB])
 exact ⟨h1, by rw [actRes, if_pos h1, h2]⟩
def linesOf (m0 m1 d0 d1 g : Int) (l : List ActV) : List (List UInt8) := stageTextL m0 m1 d0 d1 g :: l.map ActV.text
def scTextL (m0 m1 d0 d1 g : Int) (l : List ActV) : List UInt8 := glueL (linesOf m0 m1 d0 d1 g l)
theorem linesOf_no (m0 m1 d0 d1 g : Int) (l : List ActV) : ∀ x ∈ linesOf m0 m1 d0 d1 g l, (10 : UInt8) ∉ x := by
 intro x hx
 simp only [linesOf, List.mem_cons, List.mem_map] at hx
 rcases hx with rfl | ⟨a, _, rfl⟩
 ·exact stageText_no10 _ _ _ _ _
 ·exact actText_no10 a
theorem badAt_acts : ∀ (l : List ActV) (i : Nat), 1 ≤ i → i + l.length ≤ 5001 → (∀ a ∈ l, a.may = true) → badAt i ((l.map ActV.text).map lineB) = i + l.length
 | [], i, _, _, _ => rfl
 | a :: r, i, h1, h2, h => by
  have hg : goodL i (lineB a.text) = true := by
   simp only [List.length_cons] at h2
   rw [goodL, if_neg (by omega), (act_back a (h a (by simp))).1, Bool.and_true]
   exact decide_eq_true (by omega)
  simp only [List.map_cons, badAt, hg, if_true]
  rw [badAt_acts r (i + 1) (by omega) (by simp only [List.length_cons] at h2; omega) fun b hb => h b (List.mem_cons_of_mem _ hb), List.length_cons]
  omega
structure BackS (t : ByteArray) (m0 m1 d0 d1 g : Int) (l : List ActV) : Prop where
 good : pGood t = true
 st : (nW (hdW (linesB t)) 1 : Int) = m0 ∧ (nW (hdW (linesB t)) 3 : Int) = m1 ∧ (nW (hdW (linesB t)) 2 : Int) = d0 ∧ (nW (hdW (linesB t)) 4 : Int) = d1 ∧ (nW (hdW (linesB t)) 5 : Int) = g
 acts : pActs t = l
 at_ : pAt t = 0
 e : pE t = 0
theorem script_back (t : ByteArray) (m0 m1 d0 d1 g : Int) (l : List ActV) (hs : mayStB m0 m1 d0 d1 g = true) (hl : ∀ a ∈ l, a.may = true) (hn : l.length ≤ 5000) (ht : t.data.toList = scTextL m0 m1 d0 d1 g l) : BackS t m0 m1 d0 d1 g l := by
 obtain ⟨e1, e2⟩ := glue_lines _ (linesOf_no m0 m1 d0 d1 g l) t ht
 obtain ⟨s0, s1⟩ := stage_back m0 m1 d0 d1 g hs
 have e3 : linesB t = lineB (stageTextL m0 m1 d0 d1 g) :: (l.map ActV.text).map lineB := by rw [e1]; rfl
 have hg : pGood t = true := by
  rw [pGood, e2, e3, badAt, if_pos (by rw [goodL, if_pos rfl]; exact s0), badAt_acts l 1 (by omega) (by omega) hl]
  simp
  omega
 refine ⟨hg, by rw [e3]; exact s1, ?_, by rw [pAt, if_pos hg], by rw [pE, if_pos hg]⟩
 rw [pActs, if_pos hg, e3, List.tail_cons, List.map_map, List.map_map]
 conv => rhs; rw [← List.map_id l]
 exact List.map_congr_left fun a ha => (act_back a (hl a ha)).2
theorem scText_inj {m0 m1 d0 d1 g m0' m1' d0' d1' g' : Int} {l l' : List ActV} (hs : mayStB m0 m1 d0 d1 g = true) (hl : ∀ a ∈ l, a.may = true) (hn : l.length ≤ 5000) (hs' : mayStB m0' m1' d0' d1' g' = true) (hl' : ∀ a ∈ l', a.may = true) (hn' : l'.length ≤ 5000) (h : scTextL m0 m1 d0 d1 g l = scTextL m0' m1' d0' d1' g' l') : (m0 = m0' ∧ m1 = m1' ∧ d0 = d0' ∧ d1 = d1' ∧ g = g') ∧ l = l' := by
 have b := script_back (lineB (scTextL m0 m1 d0 d1 g l)) m0 m1 d0 d1 g l hs hl hn (by simp [lineB])
 have b' := script_back (lineB (scTextL m0 m1 d0 d1 g l)) m0' m1' d0' d1' g' l' hs' hl' hn' (by simp [lineB, h])
 obtain ⟨p1, p2, p3, p4, p5⟩ := b.st
 obtain ⟨q1, q2, q3, q4, q5⟩ := b'.st
 exact ⟨⟨p1.symm.trans q1, p2.symm.trans q2, p3.symm.trans q3, p4.symm.trans q4, p5.symm.trans q5⟩, b.acts.symm.trans b'.acts⟩
theorem actText_inj {a b : ActV} (ha : a.may = true) (hb : b.may = true) (h : a.text = b.text) : a = b := by
 have h1 := (act_back a ha).2
 rw [h, (act_back b hb).2] at h1
 exact h1.symm
theorem may_small (a : ActV) (h : a.may = true) : a.o.d.length ≤ 2048 ∧ a.pk.length ≤ 100 := by
 unfold ActV.may mayActB at h
 have hz : ∀ {k v t s a c : Int} {l : List UInt8}, sameB k v t s a c 0 0 0 0 0 0 l [] = true → l.length ≤ 2048 := fun h => by rw [(same_zero h).2.2.2.2.2.2]; simp
 have hp : ∀ {l : List Int}, l = [] → l.length ≤ 100 := fun h => by rw [h]; simp
 have hq : ∀ {n : Nat} {l : List Int}, picksB n l = true → n ≤ 100 := fun h => by simp only [picksB, Bool.and_eq_true, decide_eq_true_eq] at h; exact h.1
 repeat' split at h
 all_goals (try simp only [Bool.and_eq_true, beq_iff_eq] at h)
 ·exact ⟨(mayOpB_kind h.1.1.1.2 rfl).2.2, hp h.2⟩
 ·exact ⟨hz h.1.1.2, hp h.2⟩
 ·exact ⟨hz h.1.1.2, hp h.2⟩
 ·exact ⟨hz h.1.2, hq h.1.1.1.2⟩
 ·exact ⟨hz h.1.2, hq h.1.1.1.2⟩
 ·exact ⟨hz h.1.1.2, hp h.2⟩
 ·exact ⟨hz h.1.2, hp h.2⟩
 ·exact ⟨hz h.1.1.2, hp h.2⟩
 ·exact ⟨hz h.1.1.2, hp h.2⟩
 ·exact ⟨hz h.1.1.2, hp h.2⟩
 ·exact absurd h (by simp)
theorem data_small (l : List UInt8) (h : l.length ≤ 2048) : (dataL l).length ≤ 4160 := by
 unfold dataL rowL
 split
 ·simp
 ·have := join_len [44] rfl 129 ((secs l (l.length / 64)).map (·.data.toList)) (fun x hx => by
   simp only [secs, List.map_map, List.mem_map, Function.comp] at hx
   obtain ⟨j, _, rfl⟩ := hx
   have := secL_len ((l.drop (64 * j)).take 64)
   simp only [secAt, List.length_take] at this ⊢
   omega)
  rw [List.length_map, secs_len] at this
  omega
theorem opText_small (xk xv xt xs xa xc : Int) (lx : List UInt8) (B : Bd xv xt xs xa xc) (h : lx.length ≤ 2048) : (opTextL xk xv xt xs xa xc lx).length ≤ 4250 := by
 have hd := dec_len xv.toNat (by have := B.v1; omega)
 have ht := dec_len xt.toNat (by have := B.t1; omega)
 have hs := itoa_len _ B.s0 B.s1
 have ha := itoa_len _ B.a0 B.a1
 have hc := itoa_len _ B.c0 B.c1
 have hx := data_small lx h
 unfold opTextL opPieces
 repeat' split
 all_goals
  simp only [List.map_cons, List.map_nil, join_two, join_one, List.length_append, List.length_cons, List.length_nil]
  first
   | omega
   | (simp [Lib.join]; done)
theorem pick_small (px : List Int) (h : Pk px) (hl : px.length ≤ 100) : (rowL (pickT px)).length ≤ 2200 := by
 unfold rowL
 split
 ·simp
 ·have := join_len [44] rfl 21 ((pickT px).map (·.data.toList)) (fun x hx => by
   simp only [pickT, List.map_map, List.mem_map, Function.comp] at hx
   obtain ⟨n, hn, rfl⟩ := hx
   exact itoa_len n (h.lo n hn) (h.hi n hn))
  rw [List.length_map] at this
  have e : (pickT px).length = px.length := by simp [pickT]
  omega
structure ABd (a : ActV) : Prop where
 bd : Bd a.o.v a.o.t a.o.s a.o.a a.o.c
 n0 : -9223372036854775808 ≤ a.nd
 n1 : a.nd ≤ 9223372036854775807
 m0 : -9223372036854775808 ≤ a.m
 m1 : a.m ≤ 9223372036854775807
 bq : a.o.d.length ≤ 9223372036854775807
 bv : a.pk.length ≤ 9223372036854775807
 pk : Pk a.pk
theorem actText_small (a : ActV) (b : ABd a) (h : a.may = true) : a.text.length ≤ 4400 := by
 obtain ⟨hd, hp⟩ := may_small a h
 have h1 := opText_small a.o.k a.o.v a.o.t a.o.s a.o.a a.o.c a.o.d b.bd hd
 have h2 := pick_small a.pk b.pk hp
 have h3 := itoa_len _ b.n0 b.n1
 have h4 := itoa_len _ b.m0 b.m1
 unfold ActV.text actTextL actPieces
 repeat' split
 all_goals
  simp only [List.map_cons, List.map_nil, join_two, join_one, List.length_append, List.length_cons, List.length_nil]
  first
   | omega
   | (simp [Lib.join]; done)
theorem glue_len (k : Nat) : ∀ L : List (List UInt8), (∀ x ∈ L, x.length ≤ k) → (glueL L).length ≤ L.length * (k + 1)
 | [], _ => by simp [glueL]
 | x :: r, h => by
  have h1 := h x (by simp)
  have h2 := glue_len k r fun y hy => h y (List.mem_cons_of_mem _ hy)
  simp only [glueL, List.length_append, List.length_cons, Nat.add_mul]
  omega
theorem stage_small {m0 m1 d0 d1 g : Int} (h : mayStB m0 m1 d0 d1 g = true) : (stageTextL m0 m1 d0 d1 g).length ≤ 1000 := by
 simp only [mayStB, Bool.and_eq_true, decide_eq_true_eq] at h
 exact stageWords_len ⟨by omega⟩
theorem script_small (m0 m1 d0 d1 g : Int) (l : List ActV) (hs : mayStB m0 m1 d0 d1 g = true) (hl : ∀ a ∈ l, a.may = true) (hb : ∀ a ∈ l, ABd a) (hn : l.length ≤ 30) : (scTextL m0 m1 d0 d1 g l).length ≤ 140000 := by
 have h1 := stage_small hs
 have h2 := glue_len 4400 (l.map ActV.text) (fun x hx => by
  obtain ⟨a, ha, rfl⟩ := List.mem_map.1 hx
  exact actText_small a (hb a ha) (hl a ha))
 rw [List.length_map] at h2
 simp only [scTextL, linesOf, glueL, List.length_append, List.length_cons]
 omega
section
variable {P : Program} {ops : Array Oper} {md : Region.Mode} {W : World}
def calmUpon (P : Program) (w : World) (v : Value) : Result Next → Prop
 | .ok (.value u) w' => w' = w ∧ u = v
 | .ok .skip w' => w' = w ∧ v = undef
 | .ok (.enter f args) w' => w' = w ∧ Calls P f args w (fun e w'' => e = .returned v ∧ Gr w w'')
 | _ => False
def calmAt (P : Program) (o : Oper) (a : Act) (w : World) (v : Value) : Prop := calmUpon P w v ((execOp a.eval o).run P w)
def calm (P : Program) (o : Oper) (a : Act) (W : World) (next : Act → Prop) : Prop := ∃ v, (∀ g : Growth W, calmAt P o a (grown W g) v) ∧ next (a.put o.dst v)
attribute [go_sem] calmUpon calmAt calm
def CalmOp (P : Program) (ops : Array Oper) (W : World) (o : Oper) (v : Value) (a : Act) : Prop :=
 (Region.wanted o (yielded ops a.tmps) = true ∧ ∀ g : Growth W, calmAt P o a (grown W g) v) ∨ (Region.wanted o (yielded ops a.tmps) = false ∧ v = undef)
def AllocOp (P : Program) (ops : Array Oper) (o : Oper) (mk : Nat → Value) (zs : Array Value) (T : TypeId) (a : Act) : Prop :=
 Region.wanted o (yielded ops a.tmps) = true ∧ ∀ w, (execOp a.eval o).run P w = .ok (.value (mk w.heap.size)) (w.alloc (.cells zs T))
abbrev Blocks := List (Nat × Array Value × TypeId)
theorem CalmOp.put {o oj : Oper} {v u : Value} {a : Act} (hs : ∀ cs b, o.op ≠ .select cs b) (h3 : ∀ d, oj.dst = some d → d ∉ o.looksAt ops) (h : CalmOp P ops W o v a) : CalmOp P ops W o v (a.put oj.dst u) := by
 unfold CalmOp calmAt at *
 rw [execOp_put o hs a oj.dst u h3, wanted_put o a oj.dst u h3]
 exact h
theorem AllocOp.put {o oj : Oper} {mk : Nat → Value} {zs : Array Value} {T : TypeId} {u : Value} {a : Act} (hs : ∀ cs b, o.op ≠ .select cs b) (h3 : ∀ d, oj.dst = some d → d ∉ o.looksAt ops) (h : AllocOp P ops o mk zs T a) : AllocOp P ops o mk zs T (a.put oj.dst u) := by
 unfold AllocOp at *
 rw [execOp_put o hs a oj.dst u h3, wanted_put o a oj.dst u h3]
 exact h
def MixWorld (W : World) (bs : Blocks) (w : World) : Prop := Gr W w ∧ ∀ x ∈ bs, w.heap[x.1]? = some (.cells x.2.1 x.2.2)
theorem MixWorld.grow {bs : Blocks} {w w' : World} (h : MixWorld W bs w) (hg : Gr w w') : MixWorld W bs w' :=
 ⟨h.1.trans hg, fun x hx => by
  have h1 := h.2 x hx
  have hlt : x.1 < w.heap.size := (Array.getElem?_eq_some_iff.1 h1).1
  rw [hg.below.block x.1 hlt]; exact h1⟩
section
variable {l : List Oper} {n g : Nat} {Lq : Blocks → Act → Prop}
end
/-! A region all of whose operations read, compute, call functions that only make new memory, lay a new block, or store into one laid here, whole. -/
section
end
section
end
section
variable {l : List Oper} {Lq : Blocks → Act → Prop}
end
end
section
variable {P : Program} {ops : Array Oper} {md : Region.Mode} {W : World} {S : Type} {I : S → World → Prop}
end
section
variable {P : Program} {md : Region.Mode} {W : World} {S : Type} {I : S → World → Prop} {l : List Oper} {Lq : S → Act → Prop}
end
section
variable {P : Program} {W : World}
end

theorem OwnS.blk {base : Nat} {W : World} {v : Value} {l : List ByteArray} (h : OwnS base W v l) (hne : l ≠ []) : ∃ (g cap : Nat) (cur : Array Value), v = .slice (some ⟨g, 0, none⟩) l.length cap ∧ base ≤ g ∧ BlockAt W g cur 9 ∧ l.length ≤ cap ∧ ∀ (j : Nat) (y : ByteArray), l[j]? = some y → cur[j]? = some (Value.string y) := by
 have h0 := h
 rcases h.2 with ⟨_, hn⟩ | ⟨g, cap, cur, rfl, hb9, hh, hnc, _⟩
 ·exact absurd (List.eq_nil_of_length_eq_zero hn) hne
 ·refine ⟨g, cap, cur, rfl, hb9, ⟨hh⟩, hnc, fun j y hj => ?_⟩
  have h1 := World.ownsRow.cells h0 (g := g) rfl j (Value.string y) (by rw [List.getElem?_map, hj]; rfl)
  rw [Go.WideShapes.add_plain] at h1
  have h2 : W.cell? ⟨g, 0 + j, none⟩ = cur[0 + j]? := @block_cells W g (0 + j) cur 9 ⟨hh⟩
  rw [Nat.zero_add] at h2
  simp only [Nat.zero_add] at h1
  rw [h2] at h1
  exact h1
def strLen : Value → Nat
 | .string s => s.size
 | _ => 0
def cutX (r : ByteArray) : ByteArray := ⟨(Lib.cut r.data.toList [10]).1.toArray⟩
def cutM (r : ByteArray) : ByteArray := ⟨(Lib.cut r.data.toList [10]).2.1.toArray⟩
def cutB (r : ByteArray) : Bool := (Lib.cut r.data.toList [10]).2.2
theorem first10 : ∀ l : List UInt8, (10 : UInt8) ∈ l → ∃ a b, l = a ++ 10 :: b ∧ (10 : UInt8) ∉ a
 | x :: l, h => by
  by_cases e : x = 10
  ·exact ⟨[], l, by rw [e]; rfl, by simp⟩
  ·have h1 : (10 : UInt8) ∈ l := by
    rcases List.mem_cons.1 h with h | h
    ·exact absurd h.symm e
    ·exact h
   obtain ⟨a, b, rfl, hb⟩ := first10 l h1
   exact ⟨x :: a, b, rfl, by simp only [List.mem_cons, not_or]; exact ⟨fun h => e h.symm, hb⟩⟩
theorem words_cut (r : ByteArray) : (cutB r = false ∧ wordsB 10 r = [r]) ∨ (cutB r = true ∧ wordsB 10 r = cutX r :: wordsB 10 (cutM r) ∧ (cutM r).size < r.size) := by
 have hsz : r.data.toList.length = r.size := by simp
 by_cases h : (10 : UInt8) ∈ r.data.toList
 ·right
  obtain ⟨a, b, hab, ha⟩ := first10 _ h
  have hc := cut_app (c := 10) b ha
  rw [← hab] at hc
  have hl := congrArg List.length hab
  rw [List.length_append, List.length_cons] at hl
  refine ⟨by rw [cutB, hc], ?_, ?_⟩
  ·have h1 : wordsB 10 r = (a :: cutL 10 b).map fun l => (⟨l.toArray⟩ : ByteArray) := by rw [wordsB, hab, cutL_app ha]
   rw [h1, cutX, cutM, hc]
   simp [wordsB]
  ·have : (cutM r).size = b.length := by rw [cutM, hc]; rfl
   omega
 ·left
  have hc := cut_free h
  refine ⟨by rw [cutB, hc], ?_⟩
  rw [wordsB, cutL_free h]
  simp
theorem cutX_le (r : ByteArray) : (cutX r).size ≤ r.size := by
 rcases words_cut r with ⟨_, _⟩ | ⟨_, h, _⟩
 ·have h1 := wordsB_each 10 r
  by_cases h : (10 : UInt8) ∈ r.data.toList
  ·obtain ⟨a, b, hab, ha⟩ := first10 _ h
   have hc := cut_app (c := 10) b ha
   rw [← hab] at hc
   have hl := congrArg List.length hab
   rw [List.length_append, List.length_cons] at hl
   have hs : (cutX r).size = a.length := by rw [cutX, hc]; rfl
   have hsz : r.data.toList.length = r.size := by simp
   omega
  ·have hc := cut_free h
   have hs : (cutX r).size = r.data.toList.length := by rw [cutX, hc]; rfl
   have hsz : r.data.toList.length = r.size := by simp
   omega
 ·exact wordsB_each 10 r _ (by rw [h]; simp)
theorem cutM_lt {r : ByteArray} (h : cutB r = true) : (cutM r).size < r.size := by
 rcases words_cut r with ⟨h1, _⟩ | ⟨_, _, h2⟩
 ·rw [h1] at h; cases h
 ·exact h2
theorem badAt_app : ∀ (p q : List ByteArray) (i : Nat), badAt i p = i + p.length → badAt i (p ++ q) = badAt (i + p.length) q
 | [], q, i, _ => rfl
 | x :: p, q, i, h => by
  unfold badAt at h
  split at h
  ·rename_i hg
   rw [List.cons_append, badAt, if_pos hg, badAt_app p q (i + 1) (by rw [h, List.length_cons]; omega), List.length_cons]
   congr 1; omega
  ·rw [List.length_cons] at h; omega
theorem words_nil : wordsB 10 ⟨#[]⟩ = [⟨#[]⟩] := by decide
structure LSt (t : ByteArray) (pre : List ByteArray) (r : ByteArray) : Prop where
 words : wordsB 10 t = pre ++ wordsB 10 r
 good : badAt 0 pre = pre.length
 size : r.size ≤ t.size
section
variable {t : ByteArray} {pre : List ByteArray} {r : ByteArray}
theorem LSt.start (t : ByteArray) : LSt t [] t := ⟨rfl, rfl, Nat.le_refl _⟩
theorem LSt.next (h : LSt t pre r) (hb : cutB r = true) (hg : goodL pre.length (cutX r) = true) : LSt t (pre ++ [cutX r]) (cutM r) := by
 rcases words_cut r with ⟨h1, _⟩ | ⟨_, h1, h2⟩
 ·rw [h1] at hb; cases hb
 ·refine ⟨by rw [h.words, h1, List.append_assoc]; rfl, ?_, by have := h.size; omega⟩
  have := badAt_app pre [cutX r] 0 (by rw [h.good]; omega)
  rw [this, Nat.zero_add, badAt, if_pos hg, badAt]
  simp
theorem LSt.short (h : LSt t pre r) : pre.length ≤ t.size := by
 have := wordsB_le 10 t
 have h1 := wordsB_ne 10 r
 have h2 : 0 < (wordsB 10 r).length := List.length_pos_iff.2 h1
 have h3 := congrArg List.length h.words
 rw [List.length_append] at h3
 omega
theorem LSt.last (h : LSt t pre r) (hw : wordsB 10 r = [r]) : linesB t = pre ∧ restB t = r := by
 have hh := h.words
 rw [hw] at hh
 exact ⟨by rw [linesB, hh, List.dropLast_concat], by rw [restB, hh]; simp⟩
theorem LSt.done (h : LSt t pre ⟨#[]⟩) (hne : pre ≠ []) : pGood t = true ∧ linesB t = pre := by
 obtain ⟨e1, e2⟩ := h.last words_nil
 refine ⟨?_, e1⟩
 rw [pGood, e1, e2, h.good]
 cases pre with
 | nil => exact absurd rfl hne
 | cons => simp
theorem LSt.none (h : LSt t [] ⟨#[]⟩) : pGood t = false ∧ pAt t = 0 := by
 obtain ⟨e1, e2⟩ := h.last words_nil
 have hg : pGood t = false := by rw [pGood, e1]; simp
 exact ⟨hg, by rw [pAt, if_neg (by rw [hg]; simp), e1]; rfl⟩
theorem LSt.open_ (h : LSt t pre r) (hr : r.data.toList ≠ []) (hb : cutB r = false) : pGood t = false ∧ pAt t = pre.length := by
 rcases words_cut r with ⟨_, h1⟩ | ⟨h1, _⟩
 ·obtain ⟨e1, e2⟩ := h.last h1
  have hg : pGood t = false := by
   rw [pGood, e2]
   cases hd : r.data.toList with
   | nil => exact absurd hd hr
   | cons => simp
  exact ⟨hg, by rw [pAt, if_neg (by rw [hg]; simp), e1, h.good]⟩
 ·rw [h1] at hb; cases hb
theorem LSt.bad (h : LSt t pre r) (hb : cutB r = true) (hg : goodL pre.length (cutX r) = false) : pGood t = false ∧ pAt t = pre.length := by
 rcases words_cut r with ⟨h1, _⟩ | ⟨_, h1, _⟩
 ·rw [h1] at hb; cases hb
 ·obtain ⟨q, hq⟩ : ∃ q, linesB t = pre ++ cutX r :: q := by
   refine ⟨(wordsB 10 (cutM r)).dropLast, ?_⟩
   have hne := wordsB_ne 10 (cutM r)
   rw [linesB, h.words, h1, List.dropLast_append_of_ne_nil (by simp)]
   congr 1
   cases hw : wordsB 10 (cutM r) with
   | nil => exact absurd hw hne
   | cons => rfl
  have hat : badAt 0 (linesB t) = pre.length := by
   rw [hq, badAt_app pre _ 0 (by rw [h.good]; omega), Nat.zero_add, badAt, if_neg (by rw [hg]; simp)]
  have hgd : pGood t = false := by
   rw [pGood, hat, hq]
   have : (pre.length == (pre ++ cutX r :: q).length) = false := by simp
   rw [this]; rfl
  exact ⟨hgd, by rw [pAt, if_neg (by rw [hgd]; simp), hat]⟩
end
end Go.Proofs.YtgjdgafoidppaaaGreatDoor
