/- An act that may be told, told as x, is read back (no program in sight). Conditions: none. A script's text is its lines, read again as it was told (no program in sight). Conditions: none. A text cut at its line ends, line by line, against its lines (no program in sight). Conditions: none. script.Parse. Conditions: a text of at most 200000 bytes; the tables stand. -/
import Derived.Test.YtgjdgafoidppaaaGreatDoorU11
import Derived.Test.YtgjdgafoidppaaaGreatDoorU10
namespace Go.Proofs.YtgjdgafoidppaaaGreatDoor
open Go.RowKit
set_option linter.unusedVariables false
set_option linter.unusedSimpArgs false
set_option linter.unnecessarySimpa false
theorem dec_no (c : UInt8) (hc : digB c = false) (n : Nat) : c ∉ Lib.decDigits n := by
 intro hm
 have h2 := (decDigits_all n).2.1
 rw [List.all_eq_true] at h2
 rw [h2 c hm] at hc
 cases hc
theorem pick_no (c : UInt8) (hc : digB c = false) {px : List Int} (h : ∀ n ∈ px, 0 ≤ n ∧ n ≤ 1000000) : ∀ y ∈ (pickT px).map (·.data.toList), c ∉ y := by
 intro y hy
 simp only [pickT, List.map_map, List.mem_map, Function.comp] at hy
 obtain ⟨n, hn, rfl⟩ := hy
 obtain ⟨u, rfl⟩ := Int.eq_ofNat_of_zero_le (h n hn).1
 simpa [Lib.itoa_nonneg] using dec_no c hc u
theorem pick_words {px : List Int} (hne : px ≠ []) (h : ∀ n ∈ px, 0 ≤ n ∧ n ≤ 1000000) : rowL (pickT px) = Lib.join ((pickT px).map (·.data.toList)) [44] ∧ wordsB 44 ⟨(rowL (pickT px)).toArray⟩ = pickT px := by
 have h0 : pickT px ≠ [] := by simpa [pickT] using hne
 have e : rowL (pickT px) = Lib.join ((pickT px).map (·.data.toList)) [44] := by rw [rowL, if_neg h0]
 refine ⟨e, ?_⟩
 have h1 : cutL 44 (rowL (pickT px)) = (pickT px).map (·.data.toList) := by
  rw [e]
  exact cutL_join 44 _ (by simpa using h0) (pick_no 44 (by decide) h)
 have h2 : wordsB 44 ⟨(rowL (pickT px)).toArray⟩ = (cutL 44 (rowL (pickT px))).map fun l => (⟨l.toArray⟩ : ByteArray) := by simp [wordsB]
 rw [h2, h1, List.map_map]
 simp [Function.comp_def]
theorem pick_nodash {px : List Int} (hne : px ≠ []) (h : ∀ n ∈ px, 0 ≤ n ∧ n ≤ 1000000) : isDash ⟨(rowL (pickT px)).toArray⟩ = false := by
 by_cases hd : isDash ⟨(rowL (pickT px)).toArray⟩ = true
 ·exfalso
  have h1 : rowL (pickT px) = [45] := by simpa [isDash] using hd
  have h2 := (pick_words hne h).2
  rw [h1] at h2
  have h3 : wordsB 44 ⟨([45] : List UInt8).toArray⟩ = [⟨#[45]⟩] := by decide
  rw [h3] at h2
  have h4 := pick_no 45 (by decide) h [45] (by rw [← h2]; simp)
  simp at h4
 ·simpa using hd
theorem pick_back {px : List Int} (h : ∀ n ∈ px, 0 ≤ n ∧ n ≤ 1000000) : pkOf ⟨(rowL (pickT px)).toArray⟩ = px ∧ pkBad ⟨(rowL (pickT px)).toArray⟩ = false ∧ (32 : UInt8) ∉ rowL (pickT px) := by
 by_cases hne : px = []
 ·subst hne
  exact ⟨by rfl, by rfl, by decide⟩
 ·have h1 := pick_nodash hne h
  have h2 := (pick_words hne h).2
  have h3 : (pickT px).map numN = px := by
   simp only [pickT, List.map_map]
   conv => rhs; rw [← List.map_id px]
   refine List.map_congr_left (fun n hn => ?_)
   obtain ⟨u, rfl⟩ := Int.eq_ofNat_of_zero_le (h n hn).1
   have := (h _ hn).2
   simp only [Function.comp, numN, id, Lib.itoa_nonneg]
   have := decV_digits u 1000000 (by omega)
   show ((decV (Lib.decDigits u) 1000000 : Nat) : Int) = (u : Int)
   rw [this]
  have h4 : (pickT px).any badN = false := by
   rw [List.any_eq_false]
   intro y hy
   simp only [pickT, List.mem_map] at hy
   obtain ⟨n, hn, rfl⟩ := hy
   obtain ⟨u, rfl⟩ := Int.eq_ofNat_of_zero_le (h n hn).1
   have := (h _ hn).2
   simp [badN, Lib.itoa_nonneg, decOk_digits u 1000000 (by omega)]
  refine ⟨?_, ?_, ?_⟩
  ·rw [pkOf, h1, h2]; simpa using h3
  ·rw [pkBad, h1, h2, h4]; rfl
  ·rw [(pick_words hne h).1]
   exact join_no 32 [44] (by decide) _ (pick_no 32 (by decide) h)
structure BackA (a : ActV) (x : ByteArray) : Prop where
 k : aKOf (hdW (wordsB 32 x)) = a.k
 f : isForce (hdW (wordsB 32 x)) = a.f
 v : acV a.k a.f (wordsB 32 x) = a
 bad : acBad a.k (wordsB 32 x) = false
 rest : acRest a.k (wordsB 32 x) = []
theorem actRound_1 (nd : Nat) (hnd : nd ≤ 1) (op : OpV) (hop : op.may = true) (x : ByteArray) (hx : ActV.text ⟨1, (nd : Int), 0, op, false, []⟩ = x.data.toList) : BackA ⟨1, (nd : Int), 0, op, false, []⟩ x := by
 have hp : actPieces 1 (nd : Int) 0 op.k op.v op.t op.s op.a op.c false op.d [] = [⟨#[97, 115, 107]⟩, ⟨(Lib.itoa (nd : Int)).toArray⟩, ⟨op.text.toArray⟩] := rfl
 have hx2 : Lib.join (([⟨#[97, 115, 107]⟩, ⟨(Lib.itoa (nd : Int)).toArray⟩, ⟨op.text.toArray⟩] : List ByteArray).map (·.data.toList)) [32] = x.data.toList := by rw [← hx]; rfl
 have hw : wordsB 32 x = ⟨#[97, 115, 107]⟩ :: ⟨(Lib.itoa (nd : Int)).toArray⟩ :: wordsB 32 ⟨op.text.toArray⟩ := by
  have e9 : x.data.toList = ([97, 115, 107] : List UInt8) ++ 32 :: (Lib.itoa (nd : Int) ++ 32 :: op.text) := by
   rw [← hx2]
   simp [join_two, join_one]
  have h1 : cutL 32 x.data.toList = ([97, 115, 107] : List UInt8) :: Lib.itoa (nd : Int) :: cutL 32 op.text := by
   rw [e9, cutL_app (by decide), cutL_app (itoa_no32 _ (by omega))]
  rw [wordsB, h1]
  simp [wordsB]
 obtain ⟨o1, o2, o3, o4⟩ := opRound op ⟨op.text.toArray⟩ hop (by simp)
 have hwo : ∃ us, wordsB 32 ⟨op.text.toArray⟩ = us := ⟨_, rfl⟩
 obtain ⟨us, hus⟩ := hwo
 rw [hus] at o1 o2 o3 o4 hw
 have nn := num_back nd 1 hnd
 refine ⟨?_, ?_, ?_, ?_, ?_⟩
 ·rw [hw]; exact (show aKOf ⟨#[97, 115, 107]⟩ = 1 by decide)
 ·rw [hw]; exact (show isForce ⟨#[97, 115, 107]⟩ = false by decide)
 ·rw [hw]; show (⟨1, ((decV (Lib.itoa ((nd : Nat) : Int)) 1 : Nat) : Int), 0, opValK (kOf (hdW us)) us, false, []⟩ : ActV) = ⟨1, (nd : Int), 0, op, false, []⟩
  rw [o1, o2, Lib.itoa_nonneg, nn.1]
 ·rw [hw]; show opBadK (kOf (hdW us)) us (false || !decOk (Lib.itoa ((nd : Nat) : Int)) 1) = false
  rw [Lib.itoa_nonneg, nn.2, o1]; exact o3
 ·rw [hw]; show us.drop (opLenK (kOf (hdW us))) = []
  rw [o1]; exact o4
theorem actRound_2 (m : Nat) (hmm : m ≤ 1000000) (x : ByteArray) (hx : ActV.text ⟨2, 0, (m : Int), zOp, false, []⟩ = x.data.toList) : BackA ⟨2, 0, (m : Int), zOp, false, []⟩ x := by
 have hp : actPieces 2 0 (m : Int) 0 0 0 0 0 0 false [] [] = [⟨#[99, 97, 114, 114, 121]⟩, ⟨(Lib.itoa (m : Int)).toArray⟩] := rfl
 have hx2 : Lib.join (([⟨#[99, 97, 114, 114, 121]⟩, ⟨(Lib.itoa (m : Int)).toArray⟩] : List ByteArray).map (·.data.toList)) [32] = x.data.toList := by rw [← hx]; exact congrArg (fun z : List ByteArray => Lib.join (z.map (·.data.toList)) [32]) hp.symm
 have hw : wordsB 32 x = [⟨#[99, 97, 114, 114, 121]⟩, ⟨(Lib.itoa (m : Int)).toArray⟩] := by
  have h1 : cutL 32 x.data.toList = ([⟨#[99, 97, 114, 114, 121]⟩, ⟨(Lib.itoa (m : Int)).toArray⟩] : List ByteArray).map (·.data.toList) := by
   rw [← hx2]
   refine cutL_join 32 _ (by simp) (fun y hy => ?_)
   simp only [List.map_cons, List.map_nil, List.mem_cons, List.mem_nil_iff, or_false] at hy
   rcases hy with rfl | rfl
   ·decide
   ·exact itoa_no32 _ (by omega)
  rw [wordsB, h1, List.map_map]
  simp [Function.comp_def]
 have nm := num_back m 1000000 hmm
 refine ⟨?_, ?_, ?_, ?_, ?_⟩
 ·rw [hw]; exact (show aKOf ⟨#[99, 97, 114, 114, 121]⟩ = 2 by decide)
 ·rw [hw]; exact (show isForce ⟨#[99, 97, 114, 114, 121]⟩ = false by decide)
 ·rw [hw]; show (⟨2, 0, ((decV (Lib.itoa ((m : Nat) : Int)) 1000000 : Nat) : Int), zOp, false, []⟩ : ActV) = ⟨2, 0, (m : Int), zOp, false, []⟩
  simp only [Lib.itoa_nonneg, nm.1, nm.2, Bool.or_false, Bool.false_or]
 ·rw [hw]; show (false || !decOk (Lib.itoa ((m : Nat) : Int)) 1000000) = false
  simp only [Lib.itoa_nonneg, nm.1, nm.2, Bool.or_false, Bool.false_or]
 ·rw [hw]; rfl
theorem actRound_3 (nd : Nat) (hnd : nd ≤ 1) (x : ByteArray) (hx : ActV.text ⟨3, (nd : Int), 0, zOp, false, []⟩ = x.data.toList) : BackA ⟨3, (nd : Int), 0, zOp, false, []⟩ x := by
 have hp : actPieces 3 (nd : Int) 0 0 0 0 0 0 0 false [] [] = [⟨#[116, 105, 99, 107]⟩, ⟨(Lib.itoa (nd : Int)).toArray⟩] := rfl
 have hx2 : Lib.join (([⟨#[116, 105, 99, 107]⟩, ⟨(Lib.itoa (nd : Int)).toArray⟩] : List ByteArray).map (·.data.toList)) [32] = x.data.toList := by rw [← hx]; exact congrArg (fun z : List ByteArray => Lib.join (z.map (·.data.toList)) [32]) hp.symm
 have hw : wordsB 32 x = [⟨#[116, 105, 99, 107]⟩, ⟨(Lib.itoa (nd : Int)).toArray⟩] := by
  have h1 : cutL 32 x.data.toList = ([⟨#[116, 105, 99, 107]⟩, ⟨(Lib.itoa (nd : Int)).toArray⟩] : List ByteArray).map (·.data.toList) := by
   rw [← hx2]
   refine cutL_join 32 _ (by simp) (fun y hy => ?_)
   simp only [List.map_cons, List.map_nil, List.mem_cons, List.mem_nil_iff, or_false] at hy
   rcases hy with rfl | rfl
   ·decide
   ·exact itoa_no32 _ (by omega)
  rw [wordsB, h1, List.map_map]
  simp [Function.comp_def]
 have nn := num_back nd 1 hnd
 refine ⟨?_, ?_, ?_, ?_, ?_⟩
 ·rw [hw]; exact (show aKOf ⟨#[116, 105, 99, 107]⟩ = 3 by decide)
 ·rw [hw]; exact (show isForce ⟨#[116, 105, 99, 107]⟩ = false by decide)
 ·rw [hw]; show (⟨3, ((decV (Lib.itoa ((nd : Nat) : Int)) 1 : Nat) : Int), 0, zOp, false, []⟩ : ActV) = ⟨3, (nd : Int), 0, zOp, false, []⟩
  simp only [Lib.itoa_nonneg, nn.1, nn.2, Bool.or_false, Bool.false_or]
 ·rw [hw]; show (false || !decOk (Lib.itoa ((nd : Nat) : Int)) 1) = false
  simp only [Lib.itoa_nonneg, nn.1, nn.2, Bool.or_false, Bool.false_or]
 ·rw [hw]; rfl
theorem actRound_4 (nd : Nat) (hnd : nd ≤ 1) (px : List Int) (hpx : ∀ n ∈ px, 0 ≤ n ∧ n ≤ 1000000) (x : ByteArray) (hx : ActV.text ⟨4, (nd : Int), 0, zOp, false, px⟩ = x.data.toList) : BackA ⟨4, (nd : Int), 0, zOp, false, px⟩ x := by
 have hp : actPieces 4 (nd : Int) 0 0 0 0 0 0 0 false [] px = [⟨#[111, 102, 102]⟩, ⟨(Lib.itoa (nd : Int)).toArray⟩, ⟨(rowL (pickT px)).toArray⟩] := rfl
 have hx2 : Lib.join (([⟨#[111, 102, 102]⟩, ⟨(Lib.itoa (nd : Int)).toArray⟩, ⟨(rowL (pickT px)).toArray⟩] : List ByteArray).map (·.data.toList)) [32] = x.data.toList := by rw [← hx]; exact congrArg (fun z : List ByteArray => Lib.join (z.map (·.data.toList)) [32]) hp.symm
 have hpk := pick_back hpx
 have hw : wordsB 32 x = [⟨#[111, 102, 102]⟩, ⟨(Lib.itoa (nd : Int)).toArray⟩, ⟨(rowL (pickT px)).toArray⟩] := by
  have h1 : cutL 32 x.data.toList = ([⟨#[111, 102, 102]⟩, ⟨(Lib.itoa (nd : Int)).toArray⟩, ⟨(rowL (pickT px)).toArray⟩] : List ByteArray).map (·.data.toList) := by
   rw [← hx2]
   refine cutL_join 32 _ (by simp) (fun y hy => ?_)
   simp only [List.map_cons, List.map_nil, List.mem_cons, List.mem_nil_iff, or_false] at hy
   rcases hy with rfl | rfl | rfl
   ·decide
   ·exact itoa_no32 _ (by omega)
   ·exact hpk.2.2
  rw [wordsB, h1, List.map_map]
  simp [Function.comp_def]
 have nn := num_back nd 1 hnd
 refine ⟨?_, ?_, ?_, ?_, ?_⟩
 ·rw [hw]; exact (show aKOf ⟨#[111, 102, 102]⟩ = 4 by decide)
 ·rw [hw]; exact (show isForce ⟨#[111, 102, 102]⟩ = false by decide)
 ·rw [hw]; show (⟨4, ((decV (Lib.itoa ((nd : Nat) : Int)) 1 : Nat) : Int), 0, zOp, false, pkOf ⟨(rowL (pickT px)).toArray⟩⟩ : ActV) = ⟨4, (nd : Int), 0, zOp, false, px⟩
  simp only [Lib.itoa_nonneg, nn.1, nn.2, hpk.1, hpk.2.1, Bool.or_false, Bool.false_or]
 ·rw [hw]; show (((false || !decOk (Lib.itoa ((nd : Nat) : Int)) 1) || false) || pkBad ⟨(rowL (pickT px)).toArray⟩) = false
  simp only [Lib.itoa_nonneg, nn.1, nn.2, hpk.1, hpk.2.1, Bool.or_false, Bool.false_or]
 ·rw [hw]; rfl
theorem actRound_5 (nd : Nat) (hnd : nd ≤ 1) (px : List Int) (hpx : ∀ n ∈ px, 0 ≤ n ∧ n ≤ 1000000) (x : ByteArray) (hx : ActV.text ⟨5, (nd : Int), 0, zOp, false, px⟩ = x.data.toList) : BackA ⟨5, (nd : Int), 0, zOp, false, px⟩ x := by
 have hp : actPieces 5 (nd : Int) 0 0 0 0 0 0 0 false [] px = [⟨#[111, 110]⟩, ⟨(Lib.itoa (nd : Int)).toArray⟩, ⟨(rowL (pickT px)).toArray⟩] := rfl
 have hx2 : Lib.join (([⟨#[111, 110]⟩, ⟨(Lib.itoa (nd : Int)).toArray⟩, ⟨(rowL (pickT px)).toArray⟩] : List ByteArray).map (·.data.toList)) [32] = x.data.toList := by rw [← hx]; exact congrArg (fun z : List ByteArray => Lib.join (z.map (·.data.toList)) [32]) hp.symm
 have hpk := pick_back hpx
 have hw : wordsB 32 x = [⟨#[111, 110]⟩, ⟨(Lib.itoa (nd : Int)).toArray⟩, ⟨(rowL (pickT px)).toArray⟩] := by
  have h1 : cutL 32 x.data.toList = ([⟨#[111, 110]⟩, ⟨(Lib.itoa (nd : Int)).toArray⟩, ⟨(rowL (pickT px)).toArray⟩] : List ByteArray).map (·.data.toList) := by
   rw [← hx2]
   refine cutL_join 32 _ (by simp) (fun y hy => ?_)
   simp only [List.map_cons, List.map_nil, List.mem_cons, List.mem_nil_iff, or_false] at hy
   rcases hy with rfl | rfl | rfl
   ·decide
   ·exact itoa_no32 _ (by omega)
   ·exact hpk.2.2
  rw [wordsB, h1, List.map_map]
  simp [Function.comp_def]
 have nn := num_back nd 1 hnd
 refine ⟨?_, ?_, ?_, ?_, ?_⟩
 ·rw [hw]; exact (show aKOf ⟨#[111, 110]⟩ = 5 by decide)
 ·rw [hw]; exact (show isForce ⟨#[111, 110]⟩ = false by decide)
 ·rw [hw]; show (⟨5, ((decV (Lib.itoa ((nd : Nat) : Int)) 1 : Nat) : Int), 0, zOp, false, pkOf ⟨(rowL (pickT px)).toArray⟩⟩ : ActV) = ⟨5, (nd : Int), 0, zOp, false, px⟩
  simp only [Lib.itoa_nonneg, nn.1, nn.2, hpk.1, hpk.2.1, Bool.or_false, Bool.false_or]
 ·rw [hw]; show (((false || !decOk (Lib.itoa ((nd : Nat) : Int)) 1) || false) || pkBad ⟨(rowL (pickT px)).toArray⟩) = false
  simp only [Lib.itoa_nonneg, nn.1, nn.2, hpk.1, hpk.2.1, Bool.or_false, Bool.false_or]
 ·rw [hw]; rfl
theorem actRound_6 (nd : Nat) (hnd : nd ≤ 1) (m : Nat) (hmm : m ≤ 1000000) (x : ByteArray) (hx : ActV.text ⟨6, (nd : Int), (m : Int), zOp, false, []⟩ = x.data.toList) : BackA ⟨6, (nd : Int), (m : Int), zOp, false, []⟩ x := by
 have hp : actPieces 6 (nd : Int) (m : Int) 0 0 0 0 0 0 false [] [] = [⟨#[102, 117, 115, 101]⟩, ⟨(Lib.itoa (nd : Int)).toArray⟩, ⟨(Lib.itoa (m : Int)).toArray⟩] := rfl
 have hx2 : Lib.join (([⟨#[102, 117, 115, 101]⟩, ⟨(Lib.itoa (nd : Int)).toArray⟩, ⟨(Lib.itoa (m : Int)).toArray⟩] : List ByteArray).map (·.data.toList)) [32] = x.data.toList := by rw [← hx]; exact congrArg (fun z : List ByteArray => Lib.join (z.map (·.data.toList)) [32]) hp.symm
 have hw : wordsB 32 x = [⟨#[102, 117, 115, 101]⟩, ⟨(Lib.itoa (nd : Int)).toArray⟩, ⟨(Lib.itoa (m : Int)).toArray⟩] := by
  have h1 : cutL 32 x.data.toList = ([⟨#[102, 117, 115, 101]⟩, ⟨(Lib.itoa (nd : Int)).toArray⟩, ⟨(Lib.itoa (m : Int)).toArray⟩] : List ByteArray).map (·.data.toList) := by
   rw [← hx2]
   refine cutL_join 32 _ (by simp) (fun y hy => ?_)
   simp only [List.map_cons, List.map_nil, List.mem_cons, List.mem_nil_iff, or_false] at hy
   rcases hy with rfl | rfl | rfl
   ·decide
   ·exact itoa_no32 _ (by omega)
   ·exact itoa_no32 _ (by omega)
  rw [wordsB, h1, List.map_map]
  simp [Function.comp_def]
 have nn := num_back nd 1 hnd
 have nm := num_back m 1000000 hmm
 refine ⟨?_, ?_, ?_, ?_, ?_⟩
 ·rw [hw]; exact (show aKOf ⟨#[102, 117, 115, 101]⟩ = 6 by decide)
 ·rw [hw]; exact (show isForce ⟨#[102, 117, 115, 101]⟩ = false by decide)
 ·rw [hw]; show (⟨6, ((decV (Lib.itoa ((nd : Nat) : Int)) 1 : Nat) : Int), ((decV (Lib.itoa ((m : Nat) : Int)) 1000000 : Nat) : Int), zOp, false, []⟩ : ActV) = ⟨6, (nd : Int), (m : Int), zOp, false, []⟩
  simp only [Lib.itoa_nonneg, nn.1, nn.2, nm.1, nm.2, Bool.or_false, Bool.false_or]
 ·rw [hw]; show ((false || !decOk (Lib.itoa ((nd : Nat) : Int)) 1) || !decOk (Lib.itoa ((m : Nat) : Int)) 1000000) = false
  simp only [Lib.itoa_nonneg, nn.1, nn.2, nm.1, nm.2, Bool.or_false, Bool.false_or]
 ·rw [hw]; rfl
theorem actRound_7 (nd : Nat) (hnd : nd ≤ 1) (x : ByteArray) (hx : ActV.text ⟨7, (nd : Int), 0, zOp, false, []⟩ = x.data.toList) : BackA ⟨7, (nd : Int), 0, zOp, false, []⟩ x := by
 have hp : actPieces 7 (nd : Int) 0 0 0 0 0 0 0 false [] [] = [⟨#[108, 101, 97, 100]⟩, ⟨(Lib.itoa (nd : Int)).toArray⟩] := rfl
 have hx2 : Lib.join (([⟨#[108, 101, 97, 100]⟩, ⟨(Lib.itoa (nd : Int)).toArray⟩] : List ByteArray).map (·.data.toList)) [32] = x.data.toList := by rw [← hx]; exact congrArg (fun z : List ByteArray => Lib.join (z.map (·.data.toList)) [32]) hp.symm
 have hw : wordsB 32 x = [⟨#[108, 101, 97, 100]⟩, ⟨(Lib.itoa (nd : Int)).toArray⟩] := by
  have h1 : cutL 32 x.data.toList = ([⟨#[108, 101, 97, 100]⟩, ⟨(Lib.itoa (nd : Int)).toArray⟩] : List ByteArray).map (·.data.toList) := by
   rw [← hx2]
   refine cutL_join 32 _ (by simp) (fun y hy => ?_)
   simp only [List.map_cons, List.map_nil, List.mem_cons, List.mem_nil_iff, or_false] at hy
   rcases hy with rfl | rfl
   ·decide
   ·exact itoa_no32 _ (by omega)
  rw [wordsB, h1, List.map_map]
  simp [Function.comp_def]
 have nn := num_back nd 1 hnd
 refine ⟨?_, ?_, ?_, ?_, ?_⟩
 ·rw [hw]; exact (show aKOf ⟨#[108, 101, 97, 100]⟩ = 7 by decide)
 ·rw [hw]; exact (show isForce ⟨#[108, 101, 97, 100]⟩ = false by decide)
 ·rw [hw]; show (⟨7, ((decV (Lib.itoa ((nd : Nat) : Int)) 1 : Nat) : Int), 0, zOp, false, []⟩ : ActV) = ⟨7, (nd : Int), 0, zOp, false, []⟩
  simp only [Lib.itoa_nonneg, nn.1, nn.2, Bool.or_false, Bool.false_or]
 ·rw [hw]; show (false || !decOk (Lib.itoa ((nd : Nat) : Int)) 1) = false
  simp only [Lib.itoa_nonneg, nn.1, nn.2, Bool.or_false, Bool.false_or]
 ·rw [hw]; rfl
theorem actRound_8 (nd : Nat) (hnd : nd ≤ 1) (x : ByteArray) (hx : ActV.text ⟨8, (nd : Int), 0, zOp, false, []⟩ = x.data.toList) : BackA ⟨8, (nd : Int), 0, zOp, false, []⟩ x := by
 have hp : actPieces 8 (nd : Int) 0 0 0 0 0 0 0 false [] [] = [⟨#[100, 101, 103, 114, 97, 100, 101]⟩, ⟨(Lib.itoa (nd : Int)).toArray⟩] := rfl
 have hx2 : Lib.join (([⟨#[100, 101, 103, 114, 97, 100, 101]⟩, ⟨(Lib.itoa (nd : Int)).toArray⟩] : List ByteArray).map (·.data.toList)) [32] = x.data.toList := by rw [← hx]; exact congrArg (fun z : List ByteArray => Lib.join (z.map (·.data.toList)) [32]) hp.symm
 have hw : wordsB 32 x = [⟨#[100, 101, 103, 114, 97, 100, 101]⟩, ⟨(Lib.itoa (nd : Int)).toArray⟩] := by
  have h1 : cutL 32 x.data.toList = ([⟨#[100, 101, 103, 114, 97, 100, 101]⟩, ⟨(Lib.itoa (nd : Int)).toArray⟩] : List ByteArray).map (·.data.toList) := by
   rw [← hx2]
   refine cutL_join 32 _ (by simp) (fun y hy => ?_)
   simp only [List.map_cons, List.map_nil, List.mem_cons, List.mem_nil_iff, or_false] at hy
   rcases hy with rfl | rfl
   ·decide
   ·exact itoa_no32 _ (by omega)
  rw [wordsB, h1, List.map_map]
  simp [Function.comp_def]
 have nn := num_back nd 1 hnd
 refine ⟨?_, ?_, ?_, ?_, ?_⟩
 ·rw [hw]; exact (show aKOf ⟨#[100, 101, 103, 114, 97, 100, 101]⟩ = 8 by decide)
 ·rw [hw]; exact (show isForce ⟨#[100, 101, 103, 114, 97, 100, 101]⟩ = false by decide)
 ·rw [hw]; show (⟨8, ((decV (Lib.itoa ((nd : Nat) : Int)) 1 : Nat) : Int), 0, zOp, false, []⟩ : ActV) = ⟨8, (nd : Int), 0, zOp, false, []⟩
  simp only [Lib.itoa_nonneg, nn.1, nn.2, Bool.or_false, Bool.false_or]
 ·rw [hw]; show (false || !decOk (Lib.itoa ((nd : Nat) : Int)) 1) = false
  simp only [Lib.itoa_nonneg, nn.1, nn.2, Bool.or_false, Bool.false_or]
 ·rw [hw]; rfl
theorem actRound_9 (nd : Nat) (hnd : nd ≤ 1) (m : Nat) (hmm : m ≤ 1000000) (x : ByteArray) (hx : ActV.text ⟨9, (nd : Int), (m : Int), zOp, false, []⟩ = x.data.toList) : BackA ⟨9, (nd : Int), (m : Int), zOp, false, []⟩ x := by
 have hp : actPieces 9 (nd : Int) (m : Int) 0 0 0 0 0 0 false [] [] = [⟨#[103, 114, 111, 119]⟩, ⟨(Lib.itoa (nd : Int)).toArray⟩, ⟨(Lib.itoa (m : Int)).toArray⟩] := rfl
 have hx2 : Lib.join (([⟨#[103, 114, 111, 119]⟩, ⟨(Lib.itoa (nd : Int)).toArray⟩, ⟨(Lib.itoa (m : Int)).toArray⟩] : List ByteArray).map (·.data.toList)) [32] = x.data.toList := by rw [← hx]; exact congrArg (fun z : List ByteArray => Lib.join (z.map (·.data.toList)) [32]) hp.symm
 have hw : wordsB 32 x = [⟨#[103, 114, 111, 119]⟩, ⟨(Lib.itoa (nd : Int)).toArray⟩, ⟨(Lib.itoa (m : Int)).toArray⟩] := by
  have h1 : cutL 32 x.data.toList = ([⟨#[103, 114, 111, 119]⟩, ⟨(Lib.itoa (nd : Int)).toArray⟩, ⟨(Lib.itoa (m : Int)).toArray⟩] : List ByteArray).map (·.data.toList) := by
   rw [← hx2]
   refine cutL_join 32 _ (by simp) (fun y hy => ?_)
   simp only [List.map_cons, List.map_nil, List.mem_cons, List.mem_nil_iff, or_false] at hy
   rcases hy with rfl | rfl | rfl
   ·decide
   ·exact itoa_no32 _ (by omega)
   ·exact itoa_no32 _ (by omega)
  rw [wordsB, h1, List.map_map]
  simp [Function.comp_def]
 have nn := num_back nd 1 hnd
 have nm := num_back m 1000000 hmm
 refine ⟨?_, ?_, ?_, ?_, ?_⟩
 ·rw [hw]; exact (show aKOf ⟨#[103, 114, 111, 119]⟩ = 9 by decide)
 ·rw [hw]; exact (show isForce ⟨#[103, 114, 111, 119]⟩ = false by decide)
 ·rw [hw]; show (⟨9, ((decV (Lib.itoa ((nd : Nat) : Int)) 1 : Nat) : Int), ((decV (Lib.itoa ((m : Nat) : Int)) 1000000 : Nat) : Int), zOp, false, []⟩ : ActV) = ⟨9, (nd : Int), (m : Int), zOp, false, []⟩
  simp only [Lib.itoa_nonneg, nn.1, nn.2, nm.1, nm.2, Bool.or_false, Bool.false_or]
 ·rw [hw]; show ((false || !decOk (Lib.itoa ((nd : Nat) : Int)) 1) || !decOk (Lib.itoa ((m : Nat) : Int)) 1000000) = false
  simp only [Lib.itoa_nonneg, nn.1, nn.2, nm.1, nm.2, Bool.or_false, Bool.false_or]
 ·rw [hw]; rfl
theorem actRound_10  (x : ByteArray) (hx : ActV.text ⟨10, 0, 0, zOp, false, []⟩ = x.data.toList) : BackA ⟨10, 0, 0, zOp, false, []⟩ x := by
 have hp : actPieces 10 0 0 0 0 0 0 0 0 false [] [] = [⟨#[97, 108, 108]⟩] := rfl
 have hx2 : Lib.join (([⟨#[97, 108, 108]⟩] : List ByteArray).map (·.data.toList)) [32] = x.data.toList := by rw [← hx]; exact congrArg (fun z : List ByteArray => Lib.join (z.map (·.data.toList)) [32]) hp.symm
 have hw : wordsB 32 x = [⟨#[97, 108, 108]⟩] := by
  have h1 : cutL 32 x.data.toList = ([⟨#[97, 108, 108]⟩] : List ByteArray).map (·.data.toList) := by
   rw [← hx2]
   refine cutL_join 32 _ (by simp) (fun y hy => ?_)
   simp only [List.map_cons, List.map_nil, List.mem_cons, List.mem_nil_iff, or_false] at hy
   rcases hy with rfl
   ·decide
  rw [wordsB, h1, List.map_map]
  simp [Function.comp_def]
 refine ⟨?_, ?_, ?_, ?_, ?_⟩
 ·rw [hw]; exact (show aKOf ⟨#[97, 108, 108]⟩ = 10 by decide)
 ·rw [hw]; exact (show isForce ⟨#[97, 108, 108]⟩ = false by decide)
 ·rw [hw]; show (⟨10, 0, 0, zOp, false, []⟩ : ActV) = ⟨10, 0, 0, zOp, false, []⟩
  rfl
 ·rw [hw]; show false = false
  rfl
 ·rw [hw]; rfl
theorem actRound_17 (nd : Nat) (hnd : nd ≤ 1) (x : ByteArray) (hx : ActV.text ⟨7, (nd : Int), 0, zOp, true, []⟩ = x.data.toList) : BackA ⟨7, (nd : Int), 0, zOp, true, []⟩ x := by
 have hp : actPieces 7 (nd : Int) 0 0 0 0 0 0 0 true [] [] = [⟨#[102, 111, 114, 99, 101]⟩, ⟨(Lib.itoa (nd : Int)).toArray⟩] := rfl
 have hx2 : Lib.join (([⟨#[102, 111, 114, 99, 101]⟩, ⟨(Lib.itoa (nd : Int)).toArray⟩] : List ByteArray).map (·.data.toList)) [32] = x.data.toList := by rw [← hx]; exact congrArg (fun z : List ByteArray => Lib.join (z.map (·.data.toList)) [32]) hp.symm
 have hw : wordsB 32 x = [⟨#[102, 111, 114, 99, 101]⟩, ⟨(Lib.itoa (nd : Int)).toArray⟩] := by
  have h1 : cutL 32 x.data.toList = ([⟨#[102, 111, 114, 99, 101]⟩, ⟨(Lib.itoa (nd : Int)).toArray⟩] : List ByteArray).map (·.data.toList) := by
   rw [← hx2]
   refine cutL_join 32 _ (by simp) (fun y hy => ?_)
   simp only [List.map_cons, List.map_nil, List.mem_cons, List.mem_nil_iff, or_false] at hy
   rcases hy with rfl | rfl
   ·decide
   ·exact itoa_no32 _ (by omega)
  rw [wordsB, h1, List.map_map]
  simp [Function.comp_def]
 have nn := num_back nd 1 hnd
 refine ⟨?_, ?_, ?_, ?_, ?_⟩
 ·rw [hw]; exact (show aKOf ⟨#[102, 111, 114, 99, 101]⟩ = 7 by decide)
 ·rw [hw]; exact (show isForce ⟨#[102, 111, 114, 99, 101]⟩ = true by decide)
 ·rw [hw]; show (⟨7, ((decV (Lib.itoa ((nd : Nat) : Int)) 1 : Nat) : Int), 0, zOp, true, []⟩ : ActV) = ⟨7, (nd : Int), 0, zOp, true, []⟩
  simp only [Lib.itoa_nonneg, nn.1, nn.2, Bool.or_false, Bool.false_or]
 ·rw [hw]; show (false || !decOk (Lib.itoa ((nd : Nat) : Int)) 1) = false
  simp only [Lib.itoa_nonneg, nn.1, nn.2, Bool.or_false, Bool.false_or]
 ·rw [hw]; rfl
set_option maxHeartbeats 2000000 in
theorem actRound (a : ActV) (x : ByteArray) (h : a.may = true) (hx : a.text = x.data.toList) : BackA a x := by
 obtain ⟨k, nd, m, ⟨ok, ov, ot, os, oa, oc, ol⟩, f, px⟩ := a
 have hm : mayActB k nd m ok ov ot os oa oc f ol.length px.length ol px = true := h
 by_cases hk9 : 1 ≤ k ∧ k ≤ 10
 ·have h3 : k = 1 ∨ k = 2 ∨ k = 3 ∨ k = 4 ∨ k = 5 ∨ k = 6 ∨ k = 7 ∨ k = 8 ∨ k = 9 ∨ k = 10 := by omega
  rcases h3 with rfl | rfl | rfl | rfl | rfl | rfl | rfl | rfl | rfl | rfl
  ·simp only [mayActB, if_true, reduceCtorEq, Int.reduceEq, if_false, Bool.and_eq_true, beq_iff_eq, nodeB, Bool.or_eq_true] at hm
   obtain rfl : f = false := by first | exact hm.1.2 | exact hm.2 | exact hm.1.1.2
   obtain rfl : px = [] := by first | exact hm.2 | exact hm.1.2
   obtain ⟨nd, rfl⟩ := Int.eq_ofNat_of_zero_le (show 0 ≤ nd by omega)
   obtain rfl : m = 0 := by omega
   exact actRound_1 nd (by omega) ⟨ok, ov, ot, os, oa, oc, ol⟩ hm.1.1.1.2 x hx
  ·simp only [mayActB, if_true, reduceCtorEq, Int.reduceEq, if_false, Bool.and_eq_true, beq_iff_eq, nodeB, Bool.or_eq_true] at hm
   obtain ⟨rfl, rfl, rfl, rfl, rfl, rfl, rfl⟩ := same_zero (by first | exact hm.2.1 | exact hm.1.2 | exact hm.1.1.2 | exact hm.1.1.1.2 | exact hm.2)
   obtain rfl : f = false := by first | exact hm.1.2 | exact hm.2 | exact hm.1.1.2
   obtain rfl : px = [] := by first | exact hm.2 | exact hm.1.2
   obtain rfl : nd = 0 := by omega
   have hmn : mayN m = true := by first | exact hm.1.1.1.1 | exact hm.1.1.1.2 | exact hm.1.1.2
   simp only [mayN, Bool.and_eq_true, decide_eq_true_eq] at hmn
   obtain ⟨m, rfl⟩ := Int.eq_ofNat_of_zero_le hmn.1
   exact actRound_2 m (by omega) x hx
  ·simp only [mayActB, if_true, reduceCtorEq, Int.reduceEq, if_false, Bool.and_eq_true, beq_iff_eq, nodeB, Bool.or_eq_true] at hm
   obtain ⟨rfl, rfl, rfl, rfl, rfl, rfl, rfl⟩ := same_zero (by first | exact hm.2.1 | exact hm.1.2 | exact hm.1.1.2 | exact hm.1.1.1.2 | exact hm.2)
   obtain rfl : f = false := by first | exact hm.1.2 | exact hm.2 | exact hm.1.1.2
   obtain rfl : px = [] := by first | exact hm.2 | exact hm.1.2
   obtain ⟨nd, rfl⟩ := Int.eq_ofNat_of_zero_le (show 0 ≤ nd by omega)
   obtain rfl : m = 0 := by omega
   exact actRound_3 nd (by omega) x hx
  ·simp only [mayActB, if_true, reduceCtorEq, Int.reduceEq, if_false, Bool.and_eq_true, beq_iff_eq, nodeB, Bool.or_eq_true] at hm
   obtain ⟨rfl, rfl, rfl, rfl, rfl, rfl, rfl⟩ := same_zero (by first | exact hm.2.1 | exact hm.1.2 | exact hm.1.1.2 | exact hm.1.1.1.2 | exact hm.2)
   obtain rfl : f = false := by first | exact hm.1.2 | exact hm.2 | exact hm.1.1.2
   obtain ⟨nd, rfl⟩ := Int.eq_ofNat_of_zero_le (show 0 ≤ nd by omega)
   obtain rfl : m = 0 := by omega
   have hpp := picks_ok (show picksB px.length px = true by first | exact hm.1.1.1.2 | exact hm.1.1.2)
   exact actRound_4 nd (by omega) px hpp.2 x hx
  ·simp only [mayActB, if_true, reduceCtorEq, Int.reduceEq, if_false, Bool.and_eq_true, beq_iff_eq, nodeB, Bool.or_eq_true] at hm
   obtain ⟨rfl, rfl, rfl, rfl, rfl, rfl, rfl⟩ := same_zero (by first | exact hm.2.1 | exact hm.1.2 | exact hm.1.1.2 | exact hm.1.1.1.2 | exact hm.2)
   obtain rfl : f = false := by first | exact hm.1.2 | exact hm.2 | exact hm.1.1.2
   obtain ⟨nd, rfl⟩ := Int.eq_ofNat_of_zero_le (show 0 ≤ nd by omega)
   obtain rfl : m = 0 := by omega
   have hpp := picks_ok (show picksB px.length px = true by first | exact hm.1.1.1.2 | exact hm.1.1.2)
   exact actRound_5 nd (by omega) px hpp.2 x hx
  ·simp only [mayActB, if_true, reduceCtorEq, Int.reduceEq, if_false, Bool.and_eq_true, beq_iff_eq, nodeB, Bool.or_eq_true] at hm
   obtain ⟨rfl, rfl, rfl, rfl, rfl, rfl, rfl⟩ := same_zero (by first | exact hm.2.1 | exact hm.1.2 | exact hm.1.1.2 | exact hm.1.1.1.2 | exact hm.2)
   obtain rfl : f = false := by first | exact hm.1.2 | exact hm.2 | exact hm.1.1.2
   obtain rfl : px = [] := by first | exact hm.2 | exact hm.1.2
   obtain ⟨nd, rfl⟩ := Int.eq_ofNat_of_zero_le (show 0 ≤ nd by omega)
   have hmn : mayN m = true := by first | exact hm.1.1.1.1 | exact hm.1.1.1.2 | exact hm.1.1.2
   simp only [mayN, Bool.and_eq_true, decide_eq_true_eq] at hmn
   obtain ⟨m, rfl⟩ := Int.eq_ofNat_of_zero_le hmn.1
   exact actRound_6 nd (by omega) m (by omega) x hx
  ·simp only [mayActB, if_true, reduceCtorEq, Int.reduceEq, if_false, Bool.and_eq_true, beq_iff_eq, nodeB, Bool.or_eq_true] at hm
   obtain ⟨rfl, rfl, rfl, rfl, rfl, rfl, rfl⟩ := same_zero (by first | exact hm.2.1 | exact hm.1.2 | exact hm.1.1.2 | exact hm.1.1.1.2 | exact hm.2)
   obtain rfl : px = [] := by first | exact hm.2 | exact hm.1.2
   obtain ⟨nd, rfl⟩ := Int.eq_ofNat_of_zero_le (show 0 ≤ nd by omega)
   obtain rfl : m = 0 := by omega
   cases f
   ·exact actRound_7 nd (by omega) x hx
   ·exact actRound_17 nd (by omega) x hx
  ·simp only [mayActB, if_true, reduceCtorEq, Int.reduceEq, if_false, Bool.and_eq_true, beq_iff_eq, nodeB, Bool.or_eq_true] at hm
   obtain ⟨rfl, rfl, rfl, rfl, rfl, rfl, rfl⟩ := same_zero (by first | exact hm.2.1 | exact hm.1.2 | exact hm.1.1.2 | exact hm.1.1.1.2 | exact hm.2)
   obtain rfl : f = false := by first | exact hm.1.2 | exact hm.2 | exact hm.1.1.2
   obtain rfl : px = [] := by first | exact hm.2 | exact hm.1.2
   obtain ⟨nd, rfl⟩ := Int.eq_ofNat_of_zero_le (show 0 ≤ nd by omega)
   obtain rfl : m = 0 := by omega
   exact actRound_8 nd (by omega) x hx
  ·simp only [mayActB, if_true, reduceCtorEq, Int.reduceEq, if_false, Bool.and_eq_true, beq_iff_eq, nodeB, Bool.or_eq_true] at hm
   obtain ⟨rfl, rfl, rfl, rfl, rfl, rfl, rfl⟩ := same_zero (by first | exact hm.2.1 | exact hm.1.2 | exact hm.1.1.2 | exact hm.1.1.1.2 | exact hm.2)
   obtain rfl : f = false := by first | exact hm.1.2 | exact hm.2 | exact hm.1.1.2
   obtain rfl : px = [] := by first | exact hm.2 | exact hm.1.2
   obtain ⟨nd, rfl⟩ := Int.eq_ofNat_of_zero_le (show 0 ≤ nd by omega)
   have hmn : mayN m = true := by first | exact hm.1.1.1.1 | exact hm.1.1.1.2 | exact hm.1.1.2
   simp only [mayN, Bool.and_eq_true, decide_eq_true_eq] at hmn
   obtain ⟨m, rfl⟩ := Int.eq_ofNat_of_zero_le hmn.1
   exact actRound_9 nd (by omega) m (by omega) x hx
  ·simp only [mayActB, if_true, reduceCtorEq, Int.reduceEq, if_false, Bool.and_eq_true, beq_iff_eq, nodeB, Bool.or_eq_true] at hm
   obtain ⟨rfl, rfl, rfl, rfl, rfl, rfl, rfl⟩ := same_zero (by first | exact hm.2.1 | exact hm.1.2 | exact hm.1.1.2 | exact hm.1.1.1.2 | exact hm.2)
   obtain rfl : f = false := by first | exact hm.1.2 | exact hm.2 | exact hm.1.1.2
   obtain rfl : px = [] := by first | exact hm.2 | exact hm.1.2
   obtain rfl : nd = 0 := by omega
   obtain rfl : m = 0 := by omega
   exact actRound_10  x hx
 ·unfold mayActB at hm
  repeat (rw [if_neg (by omega)] at hm)
  cases hm
theorem goodA_text (a : ActV) (x : ByteArray) (h : a.may = true) (hx : a.text = x.data.toList) : goodA x = true ∧ acX x = a := by
 obtain ⟨h1, h2, h3, h4, h5⟩ := actRound a x h hx
 have e : acX x = a := by rw [acX, h1, h2, h3]
 refine ⟨?_, e⟩
 rw [goodA, e, h1, h4, h5, h, hx]
 simp
theorem itoa_no10 (n : Int) : (10 : UInt8) ∉ Lib.itoa n := by
 unfold Lib.itoa
 split
 ·simp only [List.mem_cons, not_or]; exact ⟨by decide, dec_no 10 (by decide) _⟩
 ·exact dec_no 10 (by decide) _
theorem hexd_no10 : ∀ i : Fin 16, hexd i.val ≠ 10 := by decide
theorem secL_no10 (b : List UInt8) : (10 : UInt8) ∉ secL b := by
 unfold secL
 split
 ·decide
 ·intro hx
  simp only [hexL, List.mem_flatMap, List.mem_cons, List.mem_nil_iff, or_false] at hx
  obtain ⟨c, _, h | h⟩ := hx
  ·exact hexd_no10 ⟨c.toNat / 16, by have := c.toNat_lt; omega⟩ h.symm
  ·exact hexd_no10 ⟨c.toNat % 16, by omega⟩ h.symm
theorem dataL_no10 (l : List UInt8) : (10 : UInt8) ∉ dataL l := by
 unfold dataL rowL
 split
 ·decide
 ·refine join_no 10 [44] (by decide) _ (fun x hx => ?_)
  simp only [secs, List.map_map, List.mem_map, Function.comp] at hx
  obtain ⟨j, _, rfl⟩ := hx
  simpa [secAt] using secL_no10 _
theorem pickR_no10 (px : List Int) : (10 : UInt8) ∉ rowL (pickT px) := by
 unfold rowL
 split
 ·decide
 ·refine join_no 10 [44] (by decide) _ (fun x hx => ?_)
  simp only [pickT, List.map_map, List.mem_map, Function.comp] at hx
  obtain ⟨n, _, rfl⟩ := hx
  exact itoa_no10 n
theorem opText_no10 (xk xv xt xs xa xc : Int) (lx : List UInt8) : (10 : UInt8) ∉ opTextL xk xv xt xs xa xc lx := by
 unfold opTextL opPieces
 have hd := fun n => dec_no 10 (by decide) n
 have hi := itoa_no10
 have hD := dataL_no10
 refine join_no 10 [32] (by decide) _ (fun x hx => ?_)
 repeat' split at hx
 all_goals
  simp only [List.map_cons, List.map_nil, List.mem_cons, List.mem_nil_iff, or_false] at hx
 ·rcases hx with rfl | rfl | rfl <;> first | decide | exact hd _ | exact hi _ | exact hD _
 ·rcases hx with rfl | rfl <;> first | decide | exact hd _ | exact hi _ | exact hD _
 ·rcases hx with rfl | rfl | rfl <;> first | decide | exact hd _ | exact hi _ | exact hD _
 ·rcases hx with rfl | rfl | rfl <;> first | decide | exact hd _ | exact hi _ | exact hD _
 ·rcases hx with rfl | rfl | rfl | rfl <;> first | decide | exact hd _ | exact hi _ | exact hD _
 ·rcases hx with rfl | rfl | rfl | rfl <;> first | decide | exact hd _ | exact hi _ | exact hD _
 ·rcases hx with rfl | rfl | rfl | rfl <;> first | decide | exact hd _ | exact hi _ | exact hD _
 ·rcases hx with rfl; decide
 ·rcases hx with rfl | rfl | rfl | rfl <;> first | decide | exact hd _ | exact hi _ | exact hD _
theorem actText_no10 (a : ActV) : (10 : UInt8) ∉ a.text := by
 unfold ActV.text actTextL actPieces
 have hi := itoa_no10
 have hO := opText_no10 a.o.k a.o.v a.o.t a.o.s a.o.a a.o.c a.o.d
 have hP := pickR_no10 a.pk
 refine join_no 10 [32] (by decide) _ (fun x hx => ?_)
 repeat' split at hx
 all_goals
  simp only [List.map_cons, List.map_nil, List.mem_cons, List.mem_nil_iff, or_false] at hx
 ·rcases hx with rfl | rfl | rfl <;> first | decide | exact hi _ | exact hO | exact hP
 ·rcases hx with rfl | rfl <;> first | decide | exact hi _ | exact hO | exact hP
 ·rcases hx with rfl | rfl <;> first | decide | exact hi _ | exact hO | exact hP
 ·rcases hx with rfl | rfl | rfl <;> first | decide | exact hi _ | exact hO | exact hP
 ·rcases hx with rfl | rfl | rfl <;> first | decide | exact hi _ | exact hO | exact hP
 ·rcases hx with rfl | rfl | rfl <;> first | decide | exact hi _ | exact hO | exact hP
 ·rcases hx with rfl | rfl <;> first | decide | exact hi _ | exact hO | exact hP
 ·rcases hx with rfl | rfl <;> first | decide | exact hi _ | exact hO | exact hP
 ·rcases hx with rfl | rfl <;> first | decide | exact hi _ | exact hO | exact hP
 ·rcases hx with rfl | rfl | rfl <;> first | decide | exact hi _ | exact hO | exact hP
 ·rcases hx with rfl; decide
theorem stageText_no10 (m0 m1 d0 d1 g : Int) : (10 : UInt8) ∉ stageTextL m0 m1 d0 d1 g := by
 have hi := itoa_no10
 refine join_no 10 [32] (by decide) _ (fun x hx => ?_)
 simp only [stageWords, List.map_cons, List.map_nil, List.mem_cons, List.mem_nil_iff, or_false] at hx
 rcases hx with rfl | rfl | rfl | rfl | rfl | rfl <;> first | decide | exact hi _
def glueL : List (List UInt8) → List UInt8
 | [] => []
 | x :: r => x ++ 10 :: glueL r
theorem glueL_snoc (L : List (List UInt8)) (x : List UInt8) : glueL (L ++ [x]) = glueL L ++ x ++ [10] := by
 induction L with
 | nil => simp [glueL]
 | cons y L ih => simp [glueL, ih]
theorem glue_cut : ∀ L : List (List UInt8), (∀ x ∈ L, (10 : UInt8) ∉ x) → cutL 10 (glueL L) = L ++ [[]]
 | [], _ => rfl
 | x :: r, h => by
  rw [glueL, cutL_app (h x (by simp)), glue_cut r fun y hy => h y (List.mem_cons_of_mem _ hy)]
  rfl
def lineB (l : List UInt8) : ByteArray := ⟨l.toArray⟩
theorem glue_words (L : List (List UInt8)) (h : ∀ x ∈ L, (10 : UInt8) ∉ x) (t : ByteArray) (ht : t.data.toList = glueL L) : wordsB 10 t = L.map lineB ++ [⟨#[]⟩] := by
 rw [wordsB, ht, glue_cut L h, List.map_append]; rfl
theorem glue_lines (L : List (List UInt8)) (h : ∀ x ∈ L, (10 : UInt8) ∉ x) (t : ByteArray) (ht : t.data.toList = glueL L) : linesB t = L.map lineB ∧ restB t = ⟨#[]⟩ := by
 have e := glue_words L h t ht
 constructor
 ·rw [linesB, e, List.dropLast_concat]
 ·rw [restB, e]; simp
theorem stage_back (m0 m1 d0 d1 g : Int) (h : mayStB m0 m1 d0 d1 g = true) : goodSt (lineB (stageTextL m0 m1 d0 d1 g)) = true ∧ (nW (lineB (stageTextL m0 m1 d0 d1 g)) 1 : Int) = m0 ∧ (nW (lineB (stageTextL m0 m1 d0 d1 g)) 3 : Int) = m1 ∧ (nW (lineB (stageTextL m0 m1 d0 d1 g)) 2 : Int) = d0 ∧ (nW (lineB (stageTextL m0 m1 d0 d1 g)) 4 : Int) = d1 ∧ (nW (lineB (stageTextL m0 m1 d0 d1 g)) 5 : Int) = g := by
 have hm := h
 simp only [mayStB, Bool.and_eq_true, decide_eq_true_eq] at h
 have b : StBd m0 m1 d0 d1 g := ⟨by omega⟩
 have hw := stageWords_cut m0 m1 d0 d1 g b (lineB (stageTextL m0 m1 d0 d1 g)) (by simp [lineB])
 have nat : ∀ n : Int, 0 ≤ n → n ≤ 1000000 → ((decV (Lib.itoa n) 1000000 : Nat) : Int) = n := fun n h0 h1 => by
  obtain ⟨k, rfl⟩ := Int.eq_ofNat_of_zero_le h0
  rw [Lib.itoa_nonneg, decV_digits k 1000000 (by omega)]
 have e1 : (nW (lineB (stageTextL m0 m1 d0 d1 g)) 1 : Int) = m0 := by rw [nW, hw]; exact nat m0 (by omega) (by omega)
 have e2 : (nW (lineB (stageTextL m0 m1 d0 d1 g)) 2 : Int) = d0 := by rw [nW, hw]; exact nat d0 (by omega) (by omega)
 have e3 : (nW (lineB (stageTextL m0 m1 d0 d1 g)) 3 : Int) = m1 := by rw [nW, hw]; exact nat m1 (by omega) (by omega)
 have e4 : (nW (lineB (stageTextL m0 m1 d0 d1 g)) 4 : Int) = d1 := by rw [nW, hw]; exact nat d1 (by omega) (by omega)
 have e5 : (nW (lineB (stageTextL m0 m1 d0 d1 g)) 5 : Int) = g := by rw [nW, hw]; exact nat g (by omega) (by omega)
 refine ⟨?_, e1, e3, e2, e4, e5⟩
 rw [goodSt, e1, e2, e3, e4, e5, hm]
 simp [lineB]
theorem act_back (a : ActV) (h : a.may = true) : goodA (lineB a.text) = true ∧ actRes (lineB a.text) = a := by
 obtain ⟨h1, h2⟩ := goodA_text a (lineB a.text) h (by simp [lineB])
 exact ⟨h1, by rw [actRes, if_pos h1, h2]⟩
def linesOf (m0 m1 d0 d1 g : Int) (l : List ActV) : List (List UInt8) := stageTextL m0 m1 d0 d1 g :: l.map ActV.text
def scTextL (m0 m1 d0 d1 g : Int) (l : List ActV) : List UInt8 := glueL (linesOf m0 m1 d0 d1 g l)
theorem linesOf_no (m0 m1 d0 d1 g : Int) (l : List ActV) : ∀ x ∈ linesOf m0 m1 d0 d1 g l, (10 : UInt8) ∉ x := by
 intro x hx
 simp only [linesOf, List.mem_cons, List.mem_map] at hx
 rcases hx with rfl | ⟨a, _, rfl⟩
 ·exact stageText_no10 _ _ _ _ _
 ·exact actText_no10 a
theorem badAt_acts : ∀ (l : List ActV) (i : Nat), 1 ≤ i → i + l.length ≤ 5001 → (∀ a ∈ l, a.may = true) → badAt i ((l.map ActV.text).map lineB) = i + l.length
 | [], i, _, _, _ => rfl
 | a :: r, i, h1, h2, h => by
  have hg : goodL i (lineB a.text) = true := by
   simp only [List.length_cons] at h2
   rw [goodL, if_neg (by omega), (act_back a (h a (by simp))).1, Bool.and_true]
   exact decide_eq_true (by omega)
  simp only [List.map_cons, badAt, hg, if_true]
  rw [badAt_acts r (i + 1) (by omega) (by simp only [List.length_cons] at h2; omega) fun b hb => h b (List.mem_cons_of_mem _ hb), List.length_cons]
  omega
structure BackS (t : ByteArray) (m0 m1 d0 d1 g : Int) (l : List ActV) : Prop where
 good : pGood t = true
 st : (nW (hdW (linesB t)) 1 : Int) = m0 ∧ (nW (hdW (linesB t)) 3 : Int) = m1 ∧ (nW (hdW (linesB t)) 2 : Int) = d0 ∧ (nW (hdW (linesB t)) 4 : Int) = d1 ∧ (nW (hdW (linesB t)) 5 : Int) = g
 acts : pActs t = l
 at_ : pAt t = 0
 e : pE t = 0
theorem script_back (t : ByteArray) (m0 m1 d0 d1 g : Int) (l : List ActV) (hs : mayStB m0 m1 d0 d1 g = true) (hl : ∀ a ∈ l, a.may = true) (hn : l.length ≤ 5000) (ht : t.data.toList = scTextL m0 m1 d0 d1 g l) : BackS t m0 m1 d0 d1 g l := by
 obtain ⟨e1, e2⟩ := glue_lines _ (linesOf_no m0 m1 d0 d1 g l) t ht
 obtain ⟨s0, s1⟩ := stage_back m0 m1 d0 d1 g hs
 have e3 : linesB t = lineB (stageTextL m0 m1 d0 d1 g) :: (l.map ActV.text).map lineB := by rw [e1]; rfl
 have hg : pGood t = true := by
  rw [pGood, e2, e3, badAt, if_pos (by rw [goodL, if_pos rfl]; exact s0), badAt_acts l 1 (by omega) (by omega) hl]
  simp
  omega
 refine ⟨hg, by rw [e3]; exact s1, ?_, by rw [pAt, if_pos hg], by rw [pE, if_pos hg]⟩
 rw [pActs, if_pos hg, e3, List.tail_cons, List.map_map, List.map_map]
 conv => rhs; rw [← List.map_id l]
 exact List.map_congr_left fun a ha => (act_back a (hl a ha)).2
theorem may_small (a : ActV) (h : a.may = true) : a.o.d.length ≤ 2048 ∧ a.pk.length ≤ 100 := by
 unfold ActV.may mayActB at h
 have hz : ∀ {k v t s a c : Int} {l : List UInt8}, sameB k v t s a c 0 0 0 0 0 0 l [] = true → l.length ≤ 2048 := fun h => by rw [(same_zero h).2.2.2.2.2.2]; simp
 have hp : ∀ {l : List Int}, l = [] → l.length ≤ 100 := fun h => by rw [h]; simp
 have hq : ∀ {n : Nat} {l : List Int}, picksB n l = true → n ≤ 100 := fun h => by simp only [picksB, Bool.and_eq_true, decide_eq_true_eq] at h; exact h.1
 repeat' split at h
 all_goals (try simp only [Bool.and_eq_true, beq_iff_eq] at h)
 ·exact ⟨(mayOpB_kind h.1.1.1.2 rfl).2.2, hp h.2⟩
 ·exact ⟨hz h.1.1.2, hp h.2⟩
 ·exact ⟨hz h.1.1.2, hp h.2⟩
 ·exact ⟨hz h.1.2, hq h.1.1.1.2⟩
 ·exact ⟨hz h.1.2, hq h.1.1.1.2⟩
 ·exact ⟨hz h.1.1.2, hp h.2⟩
 ·exact ⟨hz h.1.2, hp h.2⟩
 ·exact ⟨hz h.1.1.2, hp h.2⟩
 ·exact ⟨hz h.1.1.2, hp h.2⟩
 ·exact ⟨hz h.1.1.2, hp h.2⟩
 ·exact absurd h (by simp)
theorem data_small (l : List UInt8) (h : l.length ≤ 2048) : (dataL l).length ≤ 4160 := by
 unfold dataL rowL
 split
 ·simp
 ·have := join_len [44] rfl 129 ((secs l (l.length / 64)).map (·.data.toList)) (fun x hx => by
   simp only [secs, List.map_map, List.mem_map, Function.comp] at hx
   obtain ⟨j, _, rfl⟩ := hx
   have := secL_len ((l.drop (64 * j)).take 64)
   simp only [secAt, List.length_take] at this ⊢
   omega)
  rw [List.length_map, secs_len] at this
  omega
theorem opText_small (xk xv xt xs xa xc : Int) (lx : List UInt8) (B : Bd xv xt xs xa xc) (h : lx.length ≤ 2048) : (opTextL xk xv xt xs xa xc lx).length ≤ 4250 := by
 have hd := dec_len xv.toNat (by have := B.v1; omega)
 have ht := dec_len xt.toNat (by have := B.t1; omega)
 have hs := itoa_len _ B.s0 B.s1
 have ha := itoa_len _ B.a0 B.a1
 have hc := itoa_len _ B.c0 B.c1
 have hx := data_small lx h
 unfold opTextL opPieces
 repeat' split
 all_goals
  simp only [List.map_cons, List.map_nil, join_two, join_one, List.length_append, List.length_cons, List.length_nil]
  first
   | omega
   | (simp [Lib.join]; done)
theorem pick_small (px : List Int) (h : Pk px) (hl : px.length ≤ 100) : (rowL (pickT px)).length ≤ 2200 := by
 unfold rowL
 split
 ·simp
 ·have := join_len [44] rfl 21 ((pickT px).map (·.data.toList)) (fun x hx => by
   simp only [pickT, List.map_map, List.mem_map, Function.comp] at hx
   obtain ⟨n, hn, rfl⟩ := hx
   exact itoa_len n (h.lo n hn) (h.hi n hn))
  rw [List.length_map] at this
  have e : (pickT px).length = px.length := by simp [pickT]
  omega
structure ABd (a : ActV) : Prop where
 bd : Bd a.o.v a.o.t a.o.s a.o.a a.o.c
 n0 : -9223372036854775808 ≤ a.nd
 n1 : a.nd ≤ 9223372036854775807
 m0 : -9223372036854775808 ≤ a.m
 m1 : a.m ≤ 9223372036854775807
 bq : a.o.d.length ≤ 9223372036854775807
 bv : a.pk.length ≤ 9223372036854775807
 pk : Pk a.pk
theorem actText_small (a : ActV) (b : ABd a) (h : a.may = true) : a.text.length ≤ 4400 := by
 obtain ⟨hd, hp⟩ := may_small a h
 have h1 := opText_small a.o.k a.o.v a.o.t a.o.s a.o.a a.o.c a.o.d b.bd hd
 have h2 := pick_small a.pk b.pk hp
 have h3 := itoa_len _ b.n0 b.n1
 have h4 := itoa_len _ b.m0 b.m1
 unfold ActV.text actTextL actPieces
 repeat' split
 all_goals
  simp only [List.map_cons, List.map_nil, join_two, join_one, List.length_append, List.length_cons, List.length_nil]
  first
   | omega
   | (simp [Lib.join]; done)
theorem glue_len (k : Nat) : ∀ L : List (List UInt8), (∀ x ∈ L, x.length ≤ k) → (glueL L).length ≤ L.length * (k + 1)
 | [], _ => by simp [glueL]
 | x :: r, h => by
  have h1 := h x (by simp)
  have h2 := glue_len k r fun y hy => h y (List.mem_cons_of_mem _ hy)
  simp only [glueL, List.length_append, List.length_cons, Nat.add_mul]
  omega
theorem stage_small {m0 m1 d0 d1 g : Int} (h : mayStB m0 m1 d0 d1 g = true) : (stageTextL m0 m1 d0 d1 g).length ≤ 1000 := by
 simp only [mayStB, Bool.and_eq_true, decide_eq_true_eq] at h
 exact stageWords_len ⟨by omega⟩
theorem script_small (m0 m1 d0 d1 g : Int) (l : List ActV) (hs : mayStB m0 m1 d0 d1 g = true) (hl : ∀ a ∈ l, a.may = true) (hb : ∀ a ∈ l, ABd a) (hn : l.length ≤ 30) : (scTextL m0 m1 d0 d1 g l).length ≤ 140000 := by
 have h1 := stage_small hs
 have h2 := glue_len 4400 (l.map ActV.text) (fun x hx => by
  obtain ⟨a, ha, rfl⟩ := List.mem_map.1 hx
  exact actText_small a (hb a ha) (hl a ha))
 rw [List.length_map] at h2
 simp only [scTextL, linesOf, glueL, List.length_append, List.length_cons]
 omega
def strLen : Value → Nat
 | .string s => s.size
 | _ => 0
def cutX (r : ByteArray) : ByteArray := ⟨(Lib.cut r.data.toList [10]).1.toArray⟩
def cutM (r : ByteArray) : ByteArray := ⟨(Lib.cut r.data.toList [10]).2.1.toArray⟩
def cutB (r : ByteArray) : Bool := (Lib.cut r.data.toList [10]).2.2
theorem first10 : ∀ l : List UInt8, (10 : UInt8) ∈ l → ∃ a b, l = a ++ 10 :: b ∧ (10 : UInt8) ∉ a
 | x :: l, h => by
  by_cases e : x = 10
  ·exact ⟨[], l, by rw [e]; rfl, by simp⟩
  ·have h1 : (10 : UInt8) ∈ l := by
    rcases List.mem_cons.1 h with h | h
    ·exact absurd h.symm e
    ·exact h
   obtain ⟨a, b, rfl, hb⟩ := first10 l h1
   exact ⟨x :: a, b, rfl, by simp only [List.mem_cons, not_or]; exact ⟨fun h => e h.symm, hb⟩⟩
theorem words_cut (r : ByteArray) : (cutB r = false ∧ wordsB 10 r = [r]) ∨ (cutB r = true ∧ wordsB 10 r = cutX r :: wordsB 10 (cutM r) ∧ (cutM r).size < r.size) := by
 have hsz : r.data.toList.length = r.size := by simp
 by_cases h : (10 : UInt8) ∈ r.data.toList
 ·right
  obtain ⟨a, b, hab, ha⟩ := first10 _ h
  have hc := cut_app (c := 10) b ha
  rw [← hab] at hc
  have hl := congrArg List.length hab
  rw [List.length_append, List.length_cons] at hl
  refine ⟨by rw [cutB, hc], ?_, ?_⟩
  ·have h1 : wordsB 10 r = (a :: cutL 10 b).map fun l => (⟨l.toArray⟩ : ByteArray) := by rw [wordsB, hab, cutL_app ha]
   rw [h1, cutX, cutM, hc]
   simp [wordsB]
  ·have : (cutM r).size = b.length := by rw [cutM, hc]; rfl
   omega
 ·left
  have hc := cut_free h
  refine ⟨by rw [cutB, hc], ?_⟩
  rw [wordsB, cutL_free h]
  simp
theorem cutX_le (r : ByteArray) : (cutX r).size ≤ r.size := by
 rcases words_cut r with ⟨_, _⟩ | ⟨_, h, _⟩
 ·have h1 := wordsB_each 10 r
  by_cases h : (10 : UInt8) ∈ r.data.toList
  ·obtain ⟨a, b, hab, ha⟩ := first10 _ h
   have hc := cut_app (c := 10) b ha
   rw [← hab] at hc
   have hl := congrArg List.length hab
   rw [List.length_append, List.length_cons] at hl
   have hs : (cutX r).size = a.length := by rw [cutX, hc]; rfl
   have hsz : r.data.toList.length = r.size := by simp
   omega
  ·have hc := cut_free h
   have hs : (cutX r).size = r.data.toList.length := by rw [cutX, hc]; rfl
   have hsz : r.data.toList.length = r.size := by simp
   omega
 ·exact wordsB_each 10 r _ (by rw [h]; simp)
theorem cutM_lt {r : ByteArray} (h : cutB r = true) : (cutM r).size < r.size := by
 rcases words_cut r with ⟨h1, _⟩ | ⟨_, _, h2⟩
 ·rw [h1] at h; cases h
 ·exact h2
theorem badAt_app : ∀ (p q : List ByteArray) (i : Nat), badAt i p = i + p.length → badAt i (p ++ q) = badAt (i + p.length) q
 | [], q, i, _ => rfl
 | x :: p, q, i, h => by
  unfold badAt at h
  split at h
  ·rename_i hg
   rw [List.cons_append, badAt, if_pos hg, badAt_app p q (i + 1) (by rw [h, List.length_cons]; omega), List.length_cons]
   congr 1; omega
  ·rw [List.length_cons] at h; omega
theorem words_nil : wordsB 10 ⟨#[]⟩ = [⟨#[]⟩] := by decide
structure LSt (t : ByteArray) (pre : List ByteArray) (r : ByteArray) : Prop where
 words : wordsB 10 t = pre ++ wordsB 10 r
 good : badAt 0 pre = pre.length
 size : r.size ≤ t.size
section
variable {t : ByteArray} {pre : List ByteArray} {r : ByteArray}
theorem LSt.start (t : ByteArray) : LSt t [] t := ⟨rfl, rfl, Nat.le_refl _⟩
theorem LSt.next (h : LSt t pre r) (hb : cutB r = true) (hg : goodL pre.length (cutX r) = true) : LSt t (pre ++ [cutX r]) (cutM r) := by
 rcases words_cut r with ⟨h1, _⟩ | ⟨_, h1, h2⟩
 ·rw [h1] at hb; cases hb
 ·refine ⟨by rw [h.words, h1, List.append_assoc]; rfl, ?_, by have := h.size; omega⟩
  have := badAt_app pre [cutX r] 0 (by rw [h.good]; omega)
  rw [this, Nat.zero_add, badAt, if_pos hg, badAt]
  simp
theorem LSt.short (h : LSt t pre r) : pre.length ≤ t.size := by
 have := wordsB_le 10 t
 have h1 := wordsB_ne 10 r
 have h2 : 0 < (wordsB 10 r).length := List.length_pos_iff.2 h1
 have h3 := congrArg List.length h.words
 rw [List.length_append] at h3
 omega
theorem LSt.last (h : LSt t pre r) (hw : wordsB 10 r = [r]) : linesB t = pre ∧ restB t = r := by
 have hh := h.words
 rw [hw] at hh
 exact ⟨by rw [linesB, hh, List.dropLast_concat], by rw [restB, hh]; simp⟩
theorem LSt.done (h : LSt t pre ⟨#[]⟩) (hne : pre ≠ []) : pGood t = true ∧ linesB t = pre := by
 obtain ⟨e1, e2⟩ := h.last words_nil
 refine ⟨?_, e1⟩
 rw [pGood, e1, e2, h.good]
 cases pre with
 | nil => exact absurd rfl hne
 | cons => simp
theorem LSt.none (h : LSt t [] ⟨#[]⟩) : pGood t = false ∧ pAt t = 0 := by
 obtain ⟨e1, e2⟩ := h.last words_nil
 have hg : pGood t = false := by rw [pGood, e1]; simp
 exact ⟨hg, by rw [pAt, if_neg (by rw [hg]; simp), e1]; rfl⟩
theorem LSt.open_ (h : LSt t pre r) (hr : r.data.toList ≠ []) (hb : cutB r = false) : pGood t = false ∧ pAt t = pre.length := by
 rcases words_cut r with ⟨_, h1⟩ | ⟨h1, _⟩
 ·obtain ⟨e1, e2⟩ := h.last h1
  have hg : pGood t = false := by
   rw [pGood, e2]
   cases hd : r.data.toList with
   | nil => exact absurd hd hr
   | cons => simp
  exact ⟨hg, by rw [pAt, if_neg (by rw [hg]; simp), e1, h.good]⟩
 ·rw [h1] at hb; cases hb
theorem LSt.bad (h : LSt t pre r) (hb : cutB r = true) (hg : goodL pre.length (cutX r) = false) : pGood t = false ∧ pAt t = pre.length := by
 rcases words_cut r with ⟨h1, _⟩ | ⟨_, h1, _⟩
 ·rw [h1] at hb; cases hb
 ·obtain ⟨q, hq⟩ : ∃ q, linesB t = pre ++ cutX r :: q := by
   refine ⟨(wordsB 10 (cutM r)).dropLast, ?_⟩
   have hne := wordsB_ne 10 (cutM r)
   rw [linesB, h.words, h1, List.dropLast_append_of_ne_nil (by simp)]
   congr 1
   cases hw : wordsB 10 (cutM r) with
   | nil => exact absurd hw hne
   | cons => rfl
  have hat : badAt 0 (linesB t) = pre.length := by
   rw [hq, badAt_app pre _ 0 (by rw [h.good]; omega), Nat.zero_add, badAt, if_neg (by rw [hg]; simp)]
  have hgd : pGood t = false := by
   rw [pGood, hat, hq]
   have : (pre.length == (pre ++ cutX r :: q).length) = false := by simp
   rw [this]; rfl
  exact ⟨hgd, by rw [pAt, if_neg (by rw [hgd]; simp), hat]⟩
end
def pS (t : ByteArray) (i : Nat) : Int := if pGood t then (nW (hdW (linesB t)) i : Nat) else 0
theorem actRes_bd (x : ByteArray) (hx : x.size ≤ 200000) : ABd (actRes x) := by
 unfold actRes
 split
 ·have hw : ∀ y ∈ wordsB 32 x, y.size ≤ 200000 := fun y hy => Nat.le_trans (wordsB_each 32 x y hy) hx
  obtain ⟨h1, h2, h3, h4, h5, h6⟩ := acV_bd (aKOf (hdW (wordsB 32 x))) (aKOf_le _) (isForce (hdW (wordsB 32 x))) (wordsB 32 x) hw
  exact ⟨h1, by unfold acX; omega, by unfold acX; omega, by unfold acX; omega, by unfold acX; omega, Nat.le_trans h4 (by omega), Nat.le_trans h5 (by omega), ⟨fun n hn => by have := h6 n hn; omega, fun n hn => by have := h6 n hn; omega⟩⟩
 ·exact ⟨⟨by decide, by decide, by decide, by decide, by decide, by decide, by decide, by decide, by decide, by decide⟩, by decide, by decide, by decide, by decide, by decide, by decide, ⟨fun n hn => by simp [zA] at hn, fun n hn => by simp [zA] at hn⟩⟩
theorem stageOf_row (s : ByteArray) (hs : s.size ≤ 800000) (G : Bool) (hG : goodSt s = G) (m0 m1 d0 d1 g E : Int) (h0 : (if G then (nW s 1 : Int) else 0) = m0) (h1 : (if G then (nW s 3 : Int) else 0) = m1) (h2 : (if G then (nW s 2 : Int) else 0) = d0) (h3 : (if G then (nW s 4 : Int) else 0) = d1) (h4 : (if G then (nW s 5 : Int) else 0) = g) (hE : (if G then (0 : Int) else 4) = E) (w : World) [hk : Tb w] [hm : Ml w] :
  Calls Tryz.prog 65 #[.string s] w fun e w' => e = .returned (.tuple #[.agg #[.int .i64 m0, .int .i64 m1, .int .i64 d0, .int .i64 d1, .int .i64 g], .int .i64 E]) ∧ Gr w w' := by
 have h := stageOf_any s (by omega) w
 subst hG h0 h1 h2 h3 h4 hE
 cases hg : goodSt s
 ·rw [← st_no hg] at h; simpa [hg] using h
 ·rw [← st_yes hg] at h; simpa [hg] using h
theorem hdW_app {p q : List ByteArray} (h : p ≠ []) : hdW (p ++ q) = hdW p := by
 cases p with
 | nil => exact absurd rfl h
 | cons x p => rfl
structure RA (base : Nat) (W : World) (v : Value) (xs : List AM) : Prop where
 own : OwnA base W v xs
 oks : ∀ x ∈ xs, x.Ok W
theorem RA.set_ {base : Nat} {W : World} {v : Value} {xs : List AM} (h : RA base W v xs) (B o : Nat) (u : Value) {cs : Array Value} [hB : BlockAt W B cs 58] : RA base (W.setCell ⟨B, o, none⟩ u) v xs :=
 ⟨h.own.set_ B o u (by decide), fun x hx => by
  obtain ⟨bd, n0, n1, m0, m1, ld, bq, d, lv, bv, pk, vv⟩ := h.oks x hx
  exact ⟨bd, n0, n1, m0, m1, ld, bq, d.imp fun _ z => z.set_ B o u (by decide), lv, bv, pk, vv.imp fun _ z => z.set_ B o u (by decide)⟩⟩
theorem RA.gr {base : Nat} {W W' : World} {v : Value} {xs : List AM} (h : RA base W v xs) (g : Gr W W') : RA base W' v xs := ⟨h.own.gr g, fun x hx => (h.oks x hx).gr g⟩
theorem RA.row {base : Nat} {W : World} {A : Option Addr} {n c : Nat} {xs : List AM} (h : RA base W (.slice A n c) xs) : RowA W A (xs.map (·.a)) := by
 obtain ⟨A2, c2, e, _, hr⟩ := h.own.row h.oks
 cases e
 exact hr
theorem RA.put {base : Nat} {W W' : World} {v v' : Value} {xs : List AM} {y : AM} (h : RA base W v xs) (hy : y.Ok W) (a : AppA base W xs y v' W') : RA base W' v' (xs ++ [y]) :=
 ⟨a.own, fun x hx => by
  rcases List.mem_append.1 hx with hx | hx
  ·exact (h.oks x hx).keep a.keep
  ·obtain rfl : x = y := by simpa using hx
   exact hy.keep a.keep⟩
def RP (W : World) (A : Option Addr) (q : Nat) (l : List ActV) : Prop := ∃ base xs, RA base W (.slice A l.length q) xs ∧ xs.map (·.a) = l
theorem RP.nil (W : World) : RP W none 0 [] := ⟨0, [], ⟨OwnA.nil _ _, fun x hx => by simp at hx⟩, rfl⟩
theorem RP.of {base : Nat} {W : World} {A : Option Addr} {n q : Nat} {xs : List AM} (h : RA base W (.slice A n q) xs) : RP W A q (xs.map (·.a)) := by
 obtain ⟨A2, c2, e, _, _⟩ := h.own.row h.oks
 cases e
 exact ⟨base, xs, by rw [List.length_map]; exact h, rfl⟩
theorem RP.row {W : World} {A : Option Addr} {q : Nat} {l : List ActV} (h : RP W A q l) : RowA W A l := by
 obtain ⟨base, xs, h, rfl⟩ := h
 exact h.row
theorem RP.gr {W W' : World} {A : Option Addr} {q : Nat} {l : List ActV} (h : RP W A q l) (g : Gr W W') : RP W' A q l := by
 obtain ⟨base, xs, h, e⟩ := h
 exact ⟨base, xs, h.gr g, e⟩
theorem RP.set_ {W : World} {A : Option Addr} {q : Nat} {l : List ActV} (h : RP W A q l) (B o : Nat) (u : Value) {cs : Array Value} [hB : BlockAt W B cs 58] : RP (W.setCell ⟨B, o, none⟩ u) A q l := by
 obtain ⟨base, xs, h, e⟩ := h
 exact ⟨base, xs, h.set_ B o u, e⟩
set_option maxRecDepth 100000 in
set_option maxHeartbeats 8000000 in
theorem parse_own (t : ByteArray) (ht : t.size ≤ 200000) (w : World) [hk : Tb w] [hml : Ml w] : Calls Tryz.prog 26 #[.string t] w fun e w' => ∃ A q, e = .returned (.tuple #[.agg #[.int .i64 (pS t 1), .int .i64 (pS t 3), .int .i64 (pS t 2), .int .i64 (pS t 4), .int .i64 (pS t 5), .slice A (pActs t).length q], .int .i64 (pAt t), .int .i64 (pE t)]) ∧ (pActs t).length ≤ q ∧ RP w' A q (pActs t) ∧ Gr w w' := by
 have hsz : ¬ (16777216 : Int) < (t.size : Int) := by omega
 have hno : pGood t = false → pS t 1 = 0 ∧ pS t 3 = 0 ∧ pS t 2 = 0 ∧ pS t 4 = 0 ∧ pS t 5 = 0 ∧ pActs t = [] ∧ pE t = 4 := fun h => by simp [pS, pActs, pAt, pE, h]
 have hyes : pGood t = true → pS t 1 = (nW (hdW (linesB t)) 1 : Nat) ∧ pS t 3 = (nW (hdW (linesB t)) 3 : Nat) ∧ pS t 2 = (nW (hdW (linesB t)) 2 : Nat) ∧ pS t 4 = (nW (hdW (linesB t)) 4 : Nat) ∧ pS t 5 = (nW (hdW (linesB t)) 5 : Nat) ∧ pActs t = (linesB t).tail.map actRes ∧ pAt t = 0 ∧ pE t = 0 := fun h => by simp [pS, pActs, pAt, pE, h]
 have HNO := Lib.hid hno; have HYES := Lib.hid hyes; have HT := Lib.hid ht
 clear hno hyes ht
 obtain ⟨W1, hW1⟩ : ∃ W1, w.alloc (.cells #[.int .i64 0, .int .i64 0, .int .i64 0, .int .i64 0, .int .i64 0, .slice none 0 0] 58) = W1 := ⟨_, rfl⟩
 have hn1 : W1.heap.size = w.heap.size + 1 := by rw [← hW1]; simp
 go_enter Tryz.func26, Tryz.ntmps26
 go_wp2
 go_step3
 go_wp2
 go_step3
 go_wp2
 have HN1 := Lib.hid hn1; have HW1 := Lib.hid hW1
 have hgw : Gr w W1 := by rw [← hW1]; exact gri
 haveI htb1 : Tb W1 := by rw [← hW1]; infer_instance
 haveI hml1 : Ml W1 := by rw [← hW1]; infer_instance
 have HTB := Lib.hid (fun W (h : Gr W1 W) => (htb1.of_below h.below : Tb W))
 have HML := Lib.hid (fun W (h : Gr W1 W) => (hml1.keep (h.below.block _ (by have := htb1.size; omega)) : Ml W))
 go_loopw [6, 7, 8] (fun nv ev rv wr => ∃ (i : Nat) (pre : List ByteArray) (r : ByteArray) (m0 m1 d0 d1 g : Int) (xs : List AM) (v : Value), nv = .int .i64 i ∧ ev = .int .i64 0 ∧ rv = .string r ∧ pre.length = i ∧ LSt t pre r ∧ (0 < i → m0 = (nW (hdW pre) 1 : Nat) ∧ m1 = (nW (hdW pre) 3 : Nat) ∧ d0 = (nW (hdW pre) 2 : Nat) ∧ d1 = (nW (hdW pre) 4 : Nat) ∧ g = (nW (hdW pre) 5 : Nat)) ∧ BlockAt wr (w.heap.size + 1) #[.int .i64 m0, .int .i64 m1, .int .i64 d0, .int .i64 d1, .int .i64 g, v] 58 ∧ OwnA (w.heap.size + 2) wr v xs ∧ (∀ x ∈ xs, x.Ok wr) ∧ xs.map (·.a) = pre.tail.map actRes ∧ Gr W1 wr ∧ w.heap.size + 2 ≤ wr.heap.size) (fun _ _ rv _ => strLen rv)
 case atStart => exact ⟨0, [], t, 0, 0, 0, 0, 0, [], .slice none 0 0, rfl, rfl, rfl, rfl, LSt.start t, fun h => absurd h (Nat.lt_irrefl _), by rw [← hn1]; infer_instance, OwnA.nil _ _, (fun x hx => by simp at hx), rfl, gri, by simp [hn1]⟩
 case round =>
  obtain ⟨i, pre, r, m0, m1, d0, d1, g, xs, v, rfl, rfl, rfl, hpl, hst, hnum, bX, hown, hoks, hmap, hgr, hsz2⟩ := hrel
  have HGR := Lib.hid hgr; have HOW := Lib.hid hown; have HOK := Lib.hid hoks; have HMAP := Lib.hid hmap; have HST := Lib.hid hst; have HNUM := Lib.hid hnum; have HSZ := Lib.hid hsz2; have HPL := Lib.hid hpl
  clear hgr hown hoks hmap hst hnum hsz2 hpl
  haveI : Tb wr := HTB.out _ HGR.out
  haveI : Ml wr := HML.out _ HGR.out
  haveI : Old (w.heap.size + 1) wr := bX.old
  haveI : Old w.heap.size wr := ⟨by have := HSZ.out; omega⟩
  have HCUT := Lib.hid (fun W (hm : Ml W) => (show Calls Tryz.prog 64 #[.string r, .string ⟨#[10]⟩] W (fun e w' => e = .returned (.tuple #[.string (cutX r), .string (cutM r), .bool (cutB r)]) ∧ Gr W w') from cut_any r W (by have := HST.out.size; have := HT.out; omega)))
  have hrs : r.size ≤ 200000 := Nat.le_trans HST.out.size HT.out
  have hxs : (cutX r).size ≤ 200000 := Nat.le_trans (cutX_le r) hrs
  have HRS := Lib.hid hrs; have HXS := Lib.hid hxs; clear hrs hxs
  have bR : BlockAt wr w.heap.size #[.int .i64 0, .int .i64 0, .int .i64 0, .int .i64 0, .int .i64 0, .slice none 0 0] 58 := by
   have h1 : BlockAt W1 w.heap.size #[.int .i64 0, .int .i64 0, .int .i64 0, .int .i64 0, .int .i64 0, .slice none 0 0] 58 := by rw [← HW1.out]; infer_instance
   exact h1.gr HGR.out
  have y0 : wr.cell? ⟨w.heap.size, 0, none⟩ = some (.int .i64 0) := (@block_cells _ _ 0 _ _ bR).trans rfl
  have y1 : wr.cell? ⟨w.heap.size, 1, none⟩ = some (.int .i64 0) := (@block_cells _ _ 1 _ _ bR).trans rfl
  have y2 : wr.cell? ⟨w.heap.size, 2, none⟩ = some (.int .i64 0) := (@block_cells _ _ 2 _ _ bR).trans rfl
  have y3 : wr.cell? ⟨w.heap.size, 3, none⟩ = some (.int .i64 0) := (@block_cells _ _ 3 _ _ bR).trans rfl
  have y4 : wr.cell? ⟨w.heap.size, 4, none⟩ = some (.int .i64 0) := (@block_cells _ _ 4 _ _ bR).trans rfl
  have y5 : wr.cell? ⟨w.heap.size, 5, none⟩ = some (.slice none 0 0) := (@block_cells _ _ 5 _ _ bR).trans rfl
  have z0 : wr.frozen? ⟨w.heap.size, 0, none⟩ = false := @block_frozen _ _ 0 _ _ bR
  have z1 : wr.frozen? ⟨w.heap.size, 1, none⟩ = false := @block_frozen _ _ 1 _ _ bR
  have z2 : wr.frozen? ⟨w.heap.size, 2, none⟩ = false := @block_frozen _ _ 2 _ _ bR
  have z3 : wr.frozen? ⟨w.heap.size, 3, none⟩ = false := @block_frozen _ _ 3 _ _ bR
  have z4 : wr.frozen? ⟨w.heap.size, 4, none⟩ = false := @block_frozen _ _ 4 _ _ bR
  have z5 : wr.frozen? ⟨w.heap.size, 5, none⟩ = false := @block_frozen _ _ 5 _ _ bR
  obtain ⟨Av, cv, rfl, hcv, hrow⟩ := HOW.out.row HOK.out
  have x0 : wr.cell? ⟨w.heap.size + 1, 0, none⟩ = some (.int .i64 m0) := (@block_cells _ _ 0 _ _ bX).trans rfl
  have x1 : wr.cell? ⟨w.heap.size + 1, 1, none⟩ = some (.int .i64 m1) := (@block_cells _ _ 1 _ _ bX).trans rfl
  have x2 : wr.cell? ⟨w.heap.size + 1, 2, none⟩ = some (.int .i64 d0) := (@block_cells _ _ 2 _ _ bX).trans rfl
  have x3 : wr.cell? ⟨w.heap.size + 1, 3, none⟩ = some (.int .i64 d1) := (@block_cells _ _ 3 _ _ bX).trans rfl
  have x4 : wr.cell? ⟨w.heap.size + 1, 4, none⟩ = some (.int .i64 g) := (@block_cells _ _ 4 _ _ bX).trans rfl
  have x5 : wr.cell? ⟨w.heap.size + 1, 5, none⟩ = some (.slice Av xs.length cv) := (@block_cells _ _ 5 _ _ bX).trans rfl
  have u0 : wr.frozen? ⟨w.heap.size + 1, 0, none⟩ = false := @block_frozen _ _ 0 _ _ bX
  have u1 : wr.frozen? ⟨w.heap.size + 1, 1, none⟩ = false := @block_frozen _ _ 1 _ _ bX
  have u2 : wr.frozen? ⟨w.heap.size + 1, 2, none⟩ = false := @block_frozen _ _ 2 _ _ bX
  have u3 : wr.frozen? ⟨w.heap.size + 1, 3, none⟩ = false := @block_frozen _ _ 3 _ _ bX
  have u4 : wr.frozen? ⟨w.heap.size + 1, 4, none⟩ = false := @block_frozen _ _ 4 _ _ bX
  have u5 : wr.frozen? ⟨w.heap.size + 1, 5, none⟩ = false := @block_frozen _ _ 5 _ _ bX
  have BR := Lib.hid bR; have BX := Lib.hid bX; have HROW := Lib.hid hrow; have HCV := Lib.hid hcv
  clear bR bX hrow hcv
  haveI : GrC w wr := ⟨(Gr.trans (by rw [← HW1.out]; exact gri) HGR.out).below⟩
  by_cases hr0 : r.data.toList = []
  ·have hre : r.toList.isEmpty = true := by rw [Lib.toList_data, hr0]; rfl
   have hr1 : r = ⟨#[]⟩ := by cases r; simp_all
   have hst9 : LSt t pre ⟨#[]⟩ := by rw [← hr1]; exact HST.out
   have HST9 := Lib.hid hst9
   clear hr0 hr1 hst9 HST
   rcases Nat.eq_zero_or_pos i with hi | hi
   ·subst hi
    obtain rfl : pre = [] := List.eq_nil_of_length_eq_zero HPL.out
    have HG := Lib.hid HST9.out.none
    go_wp2
    rw [Exit.noGoto_ret]
    (try rw [Exit.noGoto_ret]); exact bodyPost_ret (v := .tuple #[.agg #[.int .i64 0, .int .i64 0, .int .i64 0, .int .i64 0, .int .i64 0, .slice none 0 0], .int .i64 0, .int .i64 4]) (by simp [results, Tryz.results26, go_sem, x0, x1, x2, x3, x4, x5, y0, y1, y2, y3, y4, y5, z0, z1, z2, z3, z4, z5, u0, u1, u2, u3, u4, u5]) rfl ⟨none, 0, by obtain ⟨h1, h2, h3, h4, h5, h6, h7⟩ := HNO.out HG.out.1; rw [h1, h2, h3, h4, h5, h6, h7, HG.out.2]; first | rfl | (rw [HPL.out]; rfl), Nat.le_trans (by rw [(HNO.out HG.out.1).2.2.2.2.2.1]; exact Nat.le_refl _) (Nat.le_refl _), by rw [(HNO.out HG.out.1).2.2.2.2.2.1]; exact RP.nil _, gri⟩
   ·have hi9 : ((i : Int) == 0) = false := by simp; omega
    have hne : pre ≠ [] := by rintro rfl; have := HPL.out; simp at this; omega
    have HG := Lib.hid (HST9.out.done hne)
    have hf : pS t 1 = m0 ∧ pS t 3 = m1 ∧ pS t 2 = d0 ∧ pS t 4 = d1 ∧ pS t 5 = g ∧ pActs t = xs.map (·.a) ∧ pAt t = 0 ∧ pE t = 0 := by
     obtain ⟨h1, h2, h3, h4, h5, h6, h7, h8⟩ := HYES.out HG.out.1
     obtain ⟨n1, n2, n3, n4, n5⟩ := HNUM.out hi
     rw [h1, h2, h3, h4, h5, h6, HG.out.2, HMAP.out]
     exact ⟨n1.symm, n2.symm, n3.symm, n4.symm, n5.symm, rfl, h7, h8⟩
    have HF := Lib.hid hf; clear hf hne
    haveI := BR.out
    go_wp2
    rw [Exit.noGoto_ret]
    exact bodyPost_ret (v := .tuple #[.agg #[.int .i64 m0, .int .i64 m1, .int .i64 d0, .int .i64 d1, .int .i64 g, .slice Av xs.length cv], .int .i64 0, .int .i64 0]) (by simp [results, Tryz.results26, go_sem, x0, x1, x2, x3, x4, x5, y0, y1, y2, y3, y4, y5, z0, z1, z2, z3, z4, z5, u0, u1, u2, u3, u4, u5]) rfl ⟨Av, cv, by obtain ⟨h1, h2, h3, h4, h5, h6, h7, h8⟩ := HF.out; rw [h1, h2, h3, h4, h5, h6, h7, h8, List.length_map]; rfl, by rw [HF.out.2.2.2.2.2.1, List.length_map]; exact HCV.out, by rw [HF.out.2.2.2.2.2.1]; exact RP.of ((((((RA.set_ ⟨HOW.out, HOK.out⟩ w.heap.size 0 _).set_ w.heap.size 1 _).set_ w.heap.size 2 _).set_ w.heap.size 3 _).set_ w.heap.size 4 _).set_ w.heap.size 5 _), gri⟩
  ·have hre : r.toList.isEmpty = false := by
    rw [Lib.toList_data]
    cases hd : r.data.toList with
    | nil => exact absurd hd hr0
    | cons => rfl
   have HR0 := Lib.hid hr0; clear hr0
   rcases Nat.eq_zero_or_pos i with hi | hi
   ·subst hi
    obtain rfl : pre = [] := List.eq_nil_of_length_eq_zero HPL.out
    obtain rfl : xs = [] := by have := HMAP.out; simpa using this
    obtain ⟨a1, ha1⟩ : ∃ a : Int, ((nW (cutX r) 1 : Nat) : Int) = a := ⟨_, rfl⟩
    obtain ⟨a2, ha2⟩ : ∃ a : Int, ((nW (cutX r) 2 : Nat) : Int) = a := ⟨_, rfl⟩
    obtain ⟨a3, ha3⟩ : ∃ a : Int, ((nW (cutX r) 3 : Nat) : Int) = a := ⟨_, rfl⟩
    obtain ⟨a4, ha4⟩ : ∃ a : Int, ((nW (cutX r) 4 : Nat) : Int) = a := ⟨_, rfl⟩
    obtain ⟨a5, ha5⟩ : ∃ a : Int, ((nW (cutX r) 5 : Nat) : Int) = a := ⟨_, rfl⟩
    have HA := Lib.hid (And.intro ha1 (And.intro ha2 (And.intro ha3 (And.intro ha4 ha5))))
    rcases Bool.eq_false_or_eq_true (goodSt (cutX r)) with hG | hG
    ·have HSO := Lib.hid (fun W (_ : Tb W) (_ : Ml W) => stageOf_row (cutX r) (by have := HXS.out; omega) true hG a1 a3 a2 a4 a5 0 ha1 ha3 ha2 ha4 ha5 rfl W)
     clear ha1 ha2 ha3 ha4 ha5
     rcases Bool.eq_false_or_eq_true (cutB r) with hC | hC
     ·rw [hC] at HCUT
      have HNX := Lib.hid (HST.out.next hC hG)
      go_wp2_with (first | (go_at_call 64; ((with_reducible refine (HCUT.out _ inferInstance).mono ?_); rintro _ _ ⟨rfl, g1, rfl⟩)) | (go_at_call 65; ((with_reducible refine (HSO.out _ inferInstance inferInstance).mono ?_); rintro _ _ ⟨rfl, g2, rfl⟩)))
      go_roundw
      case rel => exact ⟨1, [cutX r], cutM r, a1, a3, a2, a4, a5, [], .slice Av 0 cv, by go_num, rfl, rfl, rfl, HNX.out, fun _ => ⟨HA.out.1.symm, HA.out.2.2.1.symm, HA.out.2.1.symm, HA.out.2.2.2.1.symm, HA.out.2.2.2.2.symm⟩, by haveI := BX.out; show BlockAt _ _ #[.int .i64 a1, .int .i64 a3, .int .i64 a2, .int .i64 a4, .int .i64 a5, .slice Av 0 cv] _; infer_instance, (by haveI := BX.out; exact ((((((RA.gr ⟨HOW.out, HOK.out⟩ gri).set_ (w.heap.size + 1) 0 _).set_ (w.heap.size + 1) 1 _).set_ (w.heap.size + 1) 2 _).set_ (w.heap.size + 1) 3 _).set_ (w.heap.size + 1) 4 _).own), (fun x hx => by simp at hx), rfl, Gr.of (by have hz := HN1.out; (with_reducible repeat (first | exact HGR.out.below | apply below_alloc | refine below_set_le ?_ (by omega) _ | refine below_trans ?_ (grown_below _ _) | apply Below.drew))), (inferInstance : Old (w.heap.size + 1) _).lt⟩
      case measure => exact cutM_lt hC
     ·rw [hC] at HCUT
      have HG := Lib.hid (HST.out.open_ HR0.out hC)
      go_wp2_with (first | (go_at_call 64; ((with_reducible refine (HCUT.out _ inferInstance).mono ?_); rintro _ _ ⟨rfl, g1, rfl⟩)) | (go_at_call 65; ((with_reducible refine (HSO.out _ inferInstance inferInstance).mono ?_); rintro _ _ ⟨rfl, g2, rfl⟩)))
      (try rw [Exit.noGoto_ret]); exact bodyPost_ret (v := .tuple #[.agg #[.int .i64 0, .int .i64 0, .int .i64 0, .int .i64 0, .int .i64 0, .slice none 0 0], .int .i64 0, .int .i64 4]) (by simp [results, Tryz.results26, go_sem, x0, x1, x2, x3, x4, x5, y0, y1, y2, y3, y4, y5, z0, z1, z2, z3, z4, z5, u0, u1, u2, u3, u4, u5]) rfl ⟨none, 0, by obtain ⟨h1, h2, h3, h4, h5, h6, h7⟩ := HNO.out HG.out.1; rw [h1, h2, h3, h4, h5, h6, h7, HG.out.2]; first | rfl | (rw [HPL.out]; rfl), Nat.le_trans (by rw [(HNO.out HG.out.1).2.2.2.2.2.1]; exact Nat.le_refl _) (Nat.le_refl _), by rw [(HNO.out HG.out.1).2.2.2.2.2.1]; exact RP.nil _, gri⟩
    ·have HSO := Lib.hid (fun W (_ : Tb W) (_ : Ml W) => stageOf_row (cutX r) (by have := HXS.out; omega) false hG 0 0 0 0 0 4 rfl rfl rfl rfl rfl rfl W)
     clear ha1 ha2 ha3 ha4 ha5
     rcases Bool.eq_false_or_eq_true (cutB r) with hC | hC
     ·rw [hC] at HCUT
      have HG := Lib.hid (HST.out.bad hC hG)
      go_wp2_with (first | (go_at_call 64; ((with_reducible refine (HCUT.out _ inferInstance).mono ?_); rintro _ _ ⟨rfl, g1, rfl⟩)) | (go_at_call 65; ((with_reducible refine (HSO.out _ inferInstance inferInstance).mono ?_); rintro _ _ ⟨rfl, g2, rfl⟩)))
      (try rw [Exit.noGoto_ret]); exact bodyPost_ret (v := .tuple #[.agg #[.int .i64 0, .int .i64 0, .int .i64 0, .int .i64 0, .int .i64 0, .slice none 0 0], .int .i64 0, .int .i64 4]) (by simp [results, Tryz.results26, go_sem, x0, x1, x2, x3, x4, x5, y0, y1, y2, y3, y4, y5, z0, z1, z2, z3, z4, z5, u0, u1, u2, u3, u4, u5]) rfl ⟨none, 0, by obtain ⟨h1, h2, h3, h4, h5, h6, h7⟩ := HNO.out HG.out.1; rw [h1, h2, h3, h4, h5, h6, h7, HG.out.2]; first | rfl | (rw [HPL.out]; rfl), Nat.le_trans (by rw [(HNO.out HG.out.1).2.2.2.2.2.1]; exact Nat.le_refl _) (Nat.le_refl _), by rw [(HNO.out HG.out.1).2.2.2.2.2.1]; exact RP.nil _, gri⟩
     ·rw [hC] at HCUT
      have HG := Lib.hid (HST.out.open_ HR0.out hC)
      go_wp2_with (first | (go_at_call 64; ((with_reducible refine (HCUT.out _ inferInstance).mono ?_); rintro _ _ ⟨rfl, g1, rfl⟩)) | (go_at_call 65; ((with_reducible refine (HSO.out _ inferInstance inferInstance).mono ?_); rintro _ _ ⟨rfl, g2, rfl⟩)))
      (try rw [Exit.noGoto_ret]); exact bodyPost_ret (v := .tuple #[.agg #[.int .i64 0, .int .i64 0, .int .i64 0, .int .i64 0, .int .i64 0, .slice none 0 0], .int .i64 0, .int .i64 4]) (by simp [results, Tryz.results26, go_sem, x0, x1, x2, x3, x4, x5, y0, y1, y2, y3, y4, y5, z0, z1, z2, z3, z4, z5, u0, u1, u2, u3, u4, u5]) rfl ⟨none, 0, by obtain ⟨h1, h2, h3, h4, h5, h6, h7⟩ := HNO.out HG.out.1; rw [h1, h2, h3, h4, h5, h6, h7, HG.out.2]; first | rfl | (rw [HPL.out]; rfl), Nat.le_trans (by rw [(HNO.out HG.out.1).2.2.2.2.2.1]; exact Nat.le_refl _) (Nat.le_refl _), by rw [(HNO.out HG.out.1).2.2.2.2.2.1]; exact RP.nil _, gri⟩
   ·have hi9 : ((i : Int) == 0) = false := by simp; omega
    have HI := Lib.hid hi
    have hne : pre ≠ [] := by rintro rfl; have := HPL.out; simp at this; omega
    have HNE := Lib.hid hne; clear hi hne
    have HAO := Lib.hid (fun W (_ : Tb W) (_ : Ml W) => actOf_own (cutX r) HXS.out W)
    have hle : i ≤ 200001 := by have := HST.out.short; have := HPL.out; have := HT.out; omega
    have hlen : xs.length + 1 = i := by
     have h1 := congrArg List.length HMAP.out
     have h2 := HPL.out
     have h3 := HI.out
     simp only [List.length_map, List.length_tail] at h1
     omega
    have hbd := actRes_bd (cutX r) HXS.out
    have hgl : goodL pre.length (cutX r) = (decide (i ≤ 5000) && goodA (cutX r)) := by rw [goodL, if_neg (by have := HPL.out; have := HI.out; omega), HPL.out]
    obtain ⟨a9, hA9⟩ : ∃ a9, actRes (cutX r) = a9 := ⟨_, rfl⟩
    obtain ⟨E9, hE9⟩ : ∃ E9, actE (cutX r) = E9 := ⟨_, rfl⟩
    rw [hA9, hE9] at HAO
    rw [hA9] at hbd
    obtain ⟨ak, an, am, ⟨ok, ov, ot, os, oa, oc, od⟩, af, ap⟩ := a9
    have HAO := Lib.hid (fun W (h1 : Tb W) (h2 : Ml W) => (show Calls Tryz.prog 19 #[.string (cutX r)] W (fun e w' => ∃ Ad qd Av qv, e = .returned (.tuple #[.agg #[.int .i64 ak, .int .i64 an, .int .i64 am, .int .i64 ok, .int .u64 ov, .int .u64 ot, .int .i64 os, .int .i64 oa, .int .i64 oc, .slice Ad od.length qd, .bool af, .slice Av ap.length qv], .int .i64 E9]) ∧ od.length ≤ qd ∧ (∃ b, OwnR bv 5 b w' (.slice Ad od.length qd) od) ∧ ap.length ≤ qv ∧ (∃ b, OwnR (Value.int .i64) 3 b w' (.slice Av ap.length qv) ap) ∧ Gr W w') from HAO.out W h1 h2))
    have HLE := Lib.hid hle; have HLN := Lib.hid hlen; have HBD := Lib.hid hbd; have HGL := Lib.hid hgl; have HA9 := Lib.hid hA9
    clear hle hlen hbd hgl hA9
    have hE0 : goodA (cutX r) = true → E9 = 0 := fun h => by rw [← hE9, actE, if_pos h]
    have hE4 : goodA (cutX r) = false → E9 = 4 := fun h => by rw [← hE9, actE, h]; rfl
    clear hE9
    rcases Bool.eq_false_or_eq_true (goodA (cutX r)) with hG | hG
    ·obtain rfl := hE0 hG
     clear hE0 hE4
     go_wp2_with (first | (go_at_call 64; ((with_reducible refine (HCUT.out _ inferInstance).mono ?_); rintro _ _ ⟨rfl, g1, rfl⟩)) | (go_at_call 19; ((with_reducible refine (HAO.out _ inferInstance inferInstance).mono ?_); rintro _ _ ⟨Ad, qd, Ap, qp, rfl, hd1, hd2, hp1, hp2, g2, rfl⟩; have HD1 := Lib.hid hd1; have HD2 := Lib.hid hd2; have HP1 := Lib.hid hp1; have HP2 := Lib.hid hp2; clear hd1 hd2 hp1 hp2)) | (at_builtin; refine wp_append_act rfl _ _ rfl (w.heap.size + 2) (.slice Av xs.length cv) xs ?hs1 ?own1 ⟨⟨ak, an, am, ⟨ok, ov, ot, os, oa, oc, od⟩, af, ap⟩, Ad, qd, Ap, qp⟩ _ rfl ?hc1 ?len1 ?base1 ?_))
     case hs1 => rfl
     case own1 => exact HOW.out.gr gri
     case hc1 => show BlockAt _ _ #[.int .i64 ak, .int .i64 an, .int .i64 am, .int .i64 ok, .int .u64 ov, .int .u64 ot, .int .i64 os, .int .i64 oa, .int .i64 oc, .slice Ad od.length qd, .bool af, .slice Ap ap.length qp] 42; infer_instance
     case len1 => have := HLE.out; have := HLN.out; omega
     case base1 => exact Nat.le_trans HSZ.out (gri : Gr wr _).below.size
     intro v4 W4 a4
     have hy : AM.Ok (grown (grown wr g1) g2) ⟨⟨ak, an, am, ⟨ok, ov, ot, os, oa, oc, od⟩, af, ap⟩, Ad, qd, Ap, qp⟩ := ⟨HBD.out.bd, HBD.out.n0, HBD.out.n1, HBD.out.m0, HBD.out.m1, HD1.out, HBD.out.bq, HD2.out, HP1.out, HBD.out.bv, HBD.out.pk, HP2.out⟩
     have hra := RA.put (RA.gr (W := wr) ⟨HOW.out, HOK.out⟩ gri) (hy.gr gri) a4
     obtain ⟨A4, c4, rfl, hc4, _⟩ := hra.own.row hra.oks
     have hl4 : (xs ++ [(⟨⟨ak, an, am, ⟨ok, ov, ot, os, oa, oc, od⟩, af, ap⟩, Ad, qd, Ap, qp⟩ : AM)]).length = i := by have := HLN.out; simpa using this
     have bX4 : BlockAt W4 (w.heap.size + 1) #[.int .i64 m0, .int .i64 m1, .int .i64 d0, .int .i64 d1, .int .i64 g, (.slice Av xs.length cv)] 58 := a4.keep _ _ _ (BX.out.gr gri) (by decide)
     have bR4 : BlockAt W4 w.heap.size #[.int .i64 0, .int .i64 0, .int .i64 0, .int .i64 0, .int .i64 0, .slice none 0 0] 58 := a4.keep _ _ _ (BR.out.gr gri) (by decide)
     haveI : GrC w W4 := ⟨(show GrC w _ from inferInstance).b.trans (a4.below.mono (by omega))⟩
     have hw4 : Gr W1 W4 := Gr.of (((HGR.out.trans gri : Gr W1 _)).below.trans (a4.below.mono (by have := HN1.out; omega)))
     rw [hl4] at hc4
     have hsz4 : w.heap.size + 2 ≤ W4.heap.size := Nat.le_trans (Nat.le_trans HSZ.out (gri : Gr wr _).below.size) a4.size
     have HRA := Lib.hid hra; have HC4 := Lib.hid hc4; have BX4 := Lib.hid bX4; have BR4 := Lib.hid bR4; have HW4 := Lib.hid hw4; have HL4 := Lib.hid hl4; have HSZ4 := Lib.hid hsz4
     rw [hl4]
     haveI : Old (w.heap.size + 1) W4 := bX4.old
     haveI : Old w.heap.size W4 := bR4.old
     clear x0 x1 x2 x3 x4 x5 y0 y1 y2 y3 y4 y5 z0 z1 z2 z3 z4 z5 u0 u1 u2 u3 u4 u5 hy hra a4 hl4 hw4 hsz4 hc4
     have x0 : W4.cell? ⟨w.heap.size + 1, 0, none⟩ = some (.int .i64 m0) := (@block_cells _ _ 0 _ _ bX4).trans rfl
     have u0 : W4.frozen? ⟨w.heap.size + 1, 0, none⟩ = false := @block_frozen _ _ 0 _ _ bX4
     have y0 : W4.cell? ⟨w.heap.size, 0, none⟩ = some (.int .i64 0) := (@block_cells _ _ 0 _ _ bR4).trans rfl
     have z0 : W4.frozen? ⟨w.heap.size, 0, none⟩ = false := @block_frozen _ _ 0 _ _ bR4
     have x1 : W4.cell? ⟨w.heap.size + 1, 1, none⟩ = some (.int .i64 m1) := (@block_cells _ _ 1 _ _ bX4).trans rfl
     have u1 : W4.frozen? ⟨w.heap.size + 1, 1, none⟩ = false := @block_frozen _ _ 1 _ _ bX4
     have y1 : W4.cell? ⟨w.heap.size, 1, none⟩ = some (.int .i64 0) := (@block_cells _ _ 1 _ _ bR4).trans rfl
     have z1 : W4.frozen? ⟨w.heap.size, 1, none⟩ = false := @block_frozen _ _ 1 _ _ bR4
     have x2 : W4.cell? ⟨w.heap.size + 1, 2, none⟩ = some (.int .i64 d0) := (@block_cells _ _ 2 _ _ bX4).trans rfl
     have u2 : W4.frozen? ⟨w.heap.size + 1, 2, none⟩ = false := @block_frozen _ _ 2 _ _ bX4
     have y2 : W4.cell? ⟨w.heap.size, 2, none⟩ = some (.int .i64 0) := (@block_cells _ _ 2 _ _ bR4).trans rfl
     have z2 : W4.frozen? ⟨w.heap.size, 2, none⟩ = false := @block_frozen _ _ 2 _ _ bR4
     have x3 : W4.cell? ⟨w.heap.size + 1, 3, none⟩ = some (.int .i64 d1) := (@block_cells _ _ 3 _ _ bX4).trans rfl
     have u3 : W4.frozen? ⟨w.heap.size + 1, 3, none⟩ = false := @block_frozen _ _ 3 _ _ bX4
     have y3 : W4.cell? ⟨w.heap.size, 3, none⟩ = some (.int .i64 0) := (@block_cells _ _ 3 _ _ bR4).trans rfl
     have z3 : W4.frozen? ⟨w.heap.size, 3, none⟩ = false := @block_frozen _ _ 3 _ _ bR4
     have x4 : W4.cell? ⟨w.heap.size + 1, 4, none⟩ = some (.int .i64 g) := (@block_cells _ _ 4 _ _ bX4).trans rfl
     have u4 : W4.frozen? ⟨w.heap.size + 1, 4, none⟩ = false := @block_frozen _ _ 4 _ _ bX4
     have y4 : W4.cell? ⟨w.heap.size, 4, none⟩ = some (.int .i64 0) := (@block_cells _ _ 4 _ _ bR4).trans rfl
     have z4 : W4.frozen? ⟨w.heap.size, 4, none⟩ = false := @block_frozen _ _ 4 _ _ bR4
     have x5 : W4.cell? ⟨w.heap.size + 1, 5, none⟩ = some (.slice Av xs.length cv) := (@block_cells _ _ 5 _ _ bX4).trans rfl
     have u5 : W4.frozen? ⟨w.heap.size + 1, 5, none⟩ = false := @block_frozen _ _ 5 _ _ bX4
     have y5 : W4.cell? ⟨w.heap.size, 5, none⟩ = some (.slice none 0 0) := (@block_cells _ _ 5 _ _ bR4).trans rfl
     have z5 : W4.frozen? ⟨w.heap.size, 5, none⟩ = false := @block_frozen _ _ 5 _ _ bR4
     clear bX4 bR4
     rcases Bool.eq_false_or_eq_true (cutB r) with hC | hC
     ·by_cases h5 : i ≤ 5000
      ·have hGL : goodL pre.length (cutX r) = true := by rw [HGL.out, hG, decide_eq_true h5]; rfl
       have HNX := Lib.hid (HST.out.next hC hGL)
       have h5i : ¬ (5000 : Int) < (i : Int) := by omega
       go_wp2
       go_roundw
       case rel =>
        haveI := BX4.out
        have hr9 : RA (w.heap.size + 2) W4 (.slice A4 i c4) (xs ++ [⟨⟨ak, an, am, ⟨ok, ov, ot, os, oa, oc, od⟩, af, ap⟩, Ad, qd, Ap, qp⟩]) := by have h := HRA.out; rw [HL4.out] at h; exact h
        have hr8 := hr9.set_ (w.heap.size + 1) 5 (.slice A4 i c4)
        refine ⟨i + 1, pre ++ [cutX r], cutM r, m0, m1, d0, d1, g, xs ++ [⟨⟨ak, an, am, ⟨ok, ov, ot, os, oa, oc, od⟩, af, ap⟩, Ad, qd, Ap, qp⟩], .slice A4 i c4, by go_num, rfl, rfl, by have := HPL.out; simpa using this, HNX.out, fun _ => ?_, by show BlockAt _ _ #[.int .i64 m0, .int .i64 m1, .int .i64 d0, .int .i64 d1, .int .i64 g, .slice A4 i c4] _; infer_instance, hr8.own, hr8.oks, ?_, Gr.of (below_set_le HW4.out.below (by have := HN1.out; omega) _), Nat.le_trans HSZ4.out (by simp [World.setCell])⟩
        ·rw [hdW_app HNE.out]; exact HNUM.out HI.out
        ·rw [List.tail_append_of_ne_nil HNE.out, List.map_append, List.map_append, HMAP.out]
         simp only [List.map_cons, List.map_nil, HA9.out]
       case measure => exact cutM_lt hC
      ·have hGL : goodL pre.length (cutX r) = false := by rw [HGL.out, hG, decide_eq_false h5]; rfl
       have HG := Lib.hid (HST.out.bad hC hGL)
       have h5i : (5000 : Int) < (i : Int) := by omega
       go_wp2
       (try rw [Exit.noGoto_ret]); exact bodyPost_ret (v := .tuple #[.agg #[.int .i64 0, .int .i64 0, .int .i64 0, .int .i64 0, .int .i64 0, .slice none 0 0], .int .i64 i, .int .i64 4]) (by simp [results, Tryz.results26, go_sem, x0, x1, x2, x3, x4, x5, y0, y1, y2, y3, y4, y5, z0, z1, z2, z3, z4, z5, u0, u1, u2, u3, u4, u5]) rfl ⟨none, 0, by obtain ⟨h1, h2, h3, h4, h5, h6, h7⟩ := HNO.out HG.out.1; rw [h1, h2, h3, h4, h5, h6, h7, HG.out.2]; first | rfl | (rw [HPL.out]; rfl), Nat.le_trans (by rw [(HNO.out HG.out.1).2.2.2.2.2.1]; exact Nat.le_refl _) (Nat.le_refl _), by rw [(HNO.out HG.out.1).2.2.2.2.2.1]; exact RP.nil _, gri⟩
     ·have HG := Lib.hid (HST.out.open_ HR0.out hC)
      go_wp2
      (try rw [Exit.noGoto_ret]); exact bodyPost_ret (v := .tuple #[.agg #[.int .i64 0, .int .i64 0, .int .i64 0, .int .i64 0, .int .i64 0, .slice none 0 0], .int .i64 i, .int .i64 4]) (by simp [results, Tryz.results26, go_sem, x0, x1, x2, x3, x4, x5, y0, y1, y2, y3, y4, y5, z0, z1, z2, z3, z4, z5, u0, u1, u2, u3, u4, u5]) rfl ⟨none, 0, by obtain ⟨h1, h2, h3, h4, h5, h6, h7⟩ := HNO.out HG.out.1; rw [h1, h2, h3, h4, h5, h6, h7, HG.out.2]; first | rfl | (rw [HPL.out]; rfl), Nat.le_trans (by rw [(HNO.out HG.out.1).2.2.2.2.2.1]; exact Nat.le_refl _) (Nat.le_refl _), by rw [(HNO.out HG.out.1).2.2.2.2.2.1]; exact RP.nil _, gri⟩
    ·obtain rfl := hE4 hG
     clear hE0 hE4
     have hgood : pGood t = false ∧ pAt t = pre.length := by
      rcases Bool.eq_false_or_eq_true (cutB r) with hC | hC
      ·exact HST.out.bad hC (by rw [HGL.out, hG, Bool.and_false])
      ·exact HST.out.open_ HR0.out hC
     have HG := Lib.hid hgood
     go_wp2_with (first | (go_at_call 64; ((with_reducible refine (HCUT.out _ inferInstance).mono ?_); rintro _ _ ⟨rfl, g1, rfl⟩)) | (go_at_call 19; ((with_reducible refine (HAO.out _ inferInstance inferInstance).mono ?_); rintro _ _ ⟨Ad, qd, Ap, qp, rfl, hd1, hd2, hp1, hp2, g2, rfl⟩; have HD1 := Lib.hid hd1; have HD2 := Lib.hid hd2; have HP1 := Lib.hid hp1; have HP2 := Lib.hid hp2; clear hd1 hd2 hp1 hp2)) | (at_builtin; refine wp_append_act rfl _ _ rfl (w.heap.size + 2) (.slice Av xs.length cv) xs ?hs2 ?own2 ⟨⟨ak, an, am, ⟨ok, ov, ot, os, oa, oc, od⟩, af, ap⟩, Ad, qd, Ap, qp⟩ _ rfl ?hc2 ?len2 ?base2 ?_))
     case hs2 => rfl
     case own2 => exact HOW.out.gr gri
     case hc2 => show BlockAt _ _ #[.int .i64 ak, .int .i64 an, .int .i64 am, .int .i64 ok, .int .u64 ov, .int .u64 ot, .int .i64 os, .int .i64 oa, .int .i64 oc, .slice Ad od.length qd, .bool af, .slice Ap ap.length qp] 42; infer_instance
     case len2 => have := HLE.out; have := HLN.out; omega
     case base2 => exact Nat.le_trans HSZ.out (gri : Gr wr _).below.size
     intro v4 W4 a4
     have hy : AM.Ok (grown (grown wr g1) g2) ⟨⟨ak, an, am, ⟨ok, ov, ot, os, oa, oc, od⟩, af, ap⟩, Ad, qd, Ap, qp⟩ := ⟨HBD.out.bd, HBD.out.n0, HBD.out.n1, HBD.out.m0, HBD.out.m1, HD1.out, HBD.out.bq, HD2.out, HP1.out, HBD.out.bv, HBD.out.pk, HP2.out⟩
     have hra := RA.put (RA.gr (W := wr) ⟨HOW.out, HOK.out⟩ gri) (hy.gr gri) a4
     obtain ⟨A4, c4, rfl, hc4, _⟩ := hra.own.row hra.oks
     have hl4 : (xs ++ [(⟨⟨ak, an, am, ⟨ok, ov, ot, os, oa, oc, od⟩, af, ap⟩, Ad, qd, Ap, qp⟩ : AM)]).length = i := by have := HLN.out; simpa using this
     have bX4 : BlockAt W4 (w.heap.size + 1) #[.int .i64 m0, .int .i64 m1, .int .i64 d0, .int .i64 d1, .int .i64 g, (.slice Av xs.length cv)] 58 := a4.keep _ _ _ (BX.out.gr gri) (by decide)
     have bR4 : BlockAt W4 w.heap.size #[.int .i64 0, .int .i64 0, .int .i64 0, .int .i64 0, .int .i64 0, .slice none 0 0] 58 := a4.keep _ _ _ (BR.out.gr gri) (by decide)
     haveI : GrC w W4 := ⟨(show GrC w _ from inferInstance).b.trans (a4.below.mono (by omega))⟩
     have hw4 : Gr W1 W4 := Gr.of (((HGR.out.trans gri : Gr W1 _)).below.trans (a4.below.mono (by have := HN1.out; omega)))
     rw [hl4] at hc4
     have hsz4 : w.heap.size + 2 ≤ W4.heap.size := Nat.le_trans (Nat.le_trans HSZ.out (gri : Gr wr _).below.size) a4.size
     have HRA := Lib.hid hra; have HC4 := Lib.hid hc4; have BX4 := Lib.hid bX4; have BR4 := Lib.hid bR4; have HW4 := Lib.hid hw4; have HL4 := Lib.hid hl4; have HSZ4 := Lib.hid hsz4
     rw [hl4]
     haveI : Old (w.heap.size + 1) W4 := bX4.old
     haveI : Old w.heap.size W4 := bR4.old
     clear x0 x1 x2 x3 x4 x5 y0 y1 y2 y3 y4 y5 z0 z1 z2 z3 z4 z5 u0 u1 u2 u3 u4 u5 hy hra a4 hl4 hw4 hsz4 hc4
     have x0 : W4.cell? ⟨w.heap.size + 1, 0, none⟩ = some (.int .i64 m0) := (@block_cells _ _ 0 _ _ bX4).trans rfl
     have u0 : W4.frozen? ⟨w.heap.size + 1, 0, none⟩ = false := @block_frozen _ _ 0 _ _ bX4
     have y0 : W4.cell? ⟨w.heap.size, 0, none⟩ = some (.int .i64 0) := (@block_cells _ _ 0 _ _ bR4).trans rfl
     have z0 : W4.frozen? ⟨w.heap.size, 0, none⟩ = false := @block_frozen _ _ 0 _ _ bR4
     have x1 : W4.cell? ⟨w.heap.size + 1, 1, none⟩ = some (.int .i64 m1) := (@block_cells _ _ 1 _ _ bX4).trans rfl
     have u1 : W4.frozen? ⟨w.heap.size + 1, 1, none⟩ = false := @block_frozen _ _ 1 _ _ bX4
     have y1 : W4.cell? ⟨w.heap.size, 1, none⟩ = some (.int .i64 0) := (@block_cells _ _ 1 _ _ bR4).trans rfl
     have z1 : W4.frozen? ⟨w.heap.size, 1, none⟩ = false := @block_frozen _ _ 1 _ _ bR4
     have x2 : W4.cell? ⟨w.heap.size + 1, 2, none⟩ = some (.int .i64 d0) := (@block_cells _ _ 2 _ _ bX4).trans rfl
     have u2 : W4.frozen? ⟨w.heap.size + 1, 2, none⟩ = false := @block_frozen _ _ 2 _ _ bX4
     have y2 : W4.cell? ⟨w.heap.size, 2, none⟩ = some (.int .i64 0) := (@block_cells _ _ 2 _ _ bR4).trans rfl
     have z2 : W4.frozen? ⟨w.heap.size, 2, none⟩ = false := @block_frozen _ _ 2 _ _ bR4
     have x3 : W4.cell? ⟨w.heap.size + 1, 3, none⟩ = some (.int .i64 d1) := (@block_cells _ _ 3 _ _ bX4).trans rfl
     have u3 : W4.frozen? ⟨w.heap.size + 1, 3, none⟩ = false := @block_frozen _ _ 3 _ _ bX4
     have y3 : W4.cell? ⟨w.heap.size, 3, none⟩ = some (.int .i64 0) := (@block_cells _ _ 3 _ _ bR4).trans rfl
     have z3 : W4.frozen? ⟨w.heap.size, 3, none⟩ = false := @block_frozen _ _ 3 _ _ bR4
     have x4 : W4.cell? ⟨w.heap.size + 1, 4, none⟩ = some (.int .i64 g) := (@block_cells _ _ 4 _ _ bX4).trans rfl
     have u4 : W4.frozen? ⟨w.heap.size + 1, 4, none⟩ = false := @block_frozen _ _ 4 _ _ bX4
     have y4 : W4.cell? ⟨w.heap.size, 4, none⟩ = some (.int .i64 0) := (@block_cells _ _ 4 _ _ bR4).trans rfl
     have z4 : W4.frozen? ⟨w.heap.size, 4, none⟩ = false := @block_frozen _ _ 4 _ _ bR4
     have x5 : W4.cell? ⟨w.heap.size + 1, 5, none⟩ = some (.slice Av xs.length cv) := (@block_cells _ _ 5 _ _ bX4).trans rfl
     have u5 : W4.frozen? ⟨w.heap.size + 1, 5, none⟩ = false := @block_frozen _ _ 5 _ _ bX4
     have y5 : W4.cell? ⟨w.heap.size, 5, none⟩ = some (.slice none 0 0) := (@block_cells _ _ 5 _ _ bR4).trans rfl
     have z5 : W4.frozen? ⟨w.heap.size, 5, none⟩ = false := @block_frozen _ _ 5 _ _ bR4
     clear bX4 bR4
     go_wp2
     (try rw [Exit.noGoto_ret]); exact bodyPost_ret (v := .tuple #[.agg #[.int .i64 0, .int .i64 0, .int .i64 0, .int .i64 0, .int .i64 0, .slice none 0 0], .int .i64 i, .int .i64 4]) (by simp [results, Tryz.results26, go_sem, x0, x1, x2, x3, x4, x5, y0, y1, y2, y3, y4, y5, z0, z1, z2, z3, z4, z5, u0, u1, u2, u3, u4, u5]) rfl ⟨none, 0, by obtain ⟨h1, h2, h3, h4, h5, h6, h7⟩ := HNO.out HG.out.1; rw [h1, h2, h3, h4, h5, h6, h7, HG.out.2]; first | rfl | (rw [HPL.out]; rfl), Nat.le_trans (by rw [(HNO.out HG.out.1).2.2.2.2.2.1]; exact Nat.le_refl _) (Nat.le_refl _), by rw [(HNO.out HG.out.1).2.2.2.2.2.1]; exact RP.nil _, gri⟩
end Go.Proofs.YtgjdgafoidppaaaGreatDoor
