/- An act that may be told, told as x, is read back (no program in sight). Conditions: none. A script's text is its lines, read again as it was told (no program in sight). Conditions: none. A region that draws its order, among whose operations are some that read, compute, or call functions that only make new memory, some that lay a new block, and, behind them all, some that come one behind the other: one walk, with the new blocks' numbers as variables. A region that draws its order, among whose operations are some that read, compute, or call functions that only make new memory, and stores, one behind the other, into memory that none of the others reads: one walk, the stores last. Conditions: each store's step is known. voileref26.StageOf: the stage of a text, as the reference reads it. Conditions: a text of at most 800000 bytes. -/
import Derived.Test.YtgjdgafoidppaaaGreatDoorP11
import Derived.Test.YtgjdgafoidppaaaGreatDoorP10
import Derived.Test.YtgjdgafoidppaaaGreatDoorP01
import Derived.Test.YtgjdgafoidppaaaGreatDoorP02
import Derived.Test.YtgjdgafoidppaaaGreatDoorP05
namespace Go.Proofs.YtgjdgafoidppaaaGreatDoor
open Go.RowKit
set_option linter.unusedVariables false
set_option linter.unusedSimpArgs false
set_option linter.unnecessarySimpa false
theorem dec_no (c : UInt8) (hc : digB c = false) (n : Nat) : c ∉ Lib.decDigits n := by
 intro hm
 have h2 := (decDigits_all n).2.1
 rw [List.all_eq_true] at h2
 rw [h2 c hm] at hc
 cases hc
theorem pick_no (c : UInt8) (hc : digB c = false) {px : List Int} (h : ∀ n ∈ px, 0 ≤ n ∧ n ≤ 1000000) : ∀ y ∈ (pickT px).map (·.data.toList), c ∉ y := by
 intro y hy
 simp only [pickT, List.map_map, List.mem_map, Function.comp] at hy
 obtain ⟨n, hn, rfl⟩ := hy
 obtain ⟨u, rfl⟩ := Int.eq_ofNat_of_zero_le (h n hn).1
 simpa [Lib.itoa_nonneg] using dec_no c hc u
theorem pick_words {px : List Int} (hne : px ≠ []) (h : ∀ n ∈ px, 0 ≤ n ∧ n ≤ 1000000) : rowL (pickT px) = Lib.join ((pickT px).map (·.data.toList)) [44] ∧ wordsB 44 ⟨(rowL (pickT px)).toArray⟩ = pickT px := by
 have h0 : pickT px ≠ [] := by simpa [pickT] using hne
 have e : rowL (pickT px) = Lib.join ((pickT px).map (·.data.toList)) [44] := by rw [rowL, if_neg h0]
 refine ⟨e, ?_⟩
 have h1 : cutL 44 (rowL (pickT px)) = (pickT px).map (·.data.toList) := by
  rw [e]
  exact cutL_join 44 _ (by simpa using h0) (pick_no 44 (by decide) h)
 have h2 : wordsB 44 ⟨(rowL (pickT px)).toArray⟩ = (cutL 44 (rowL (pickT px))).map fun l => (⟨l.toArray⟩ : ByteArray) := by simp [wordsB]
 rw [h2, h1, List.map_map]
 simp [Function.comp_def]
theorem pick_nodash {px : List Int} (hne : px ≠ []) (h : ∀ n ∈ px, 0 ≤ n ∧ n ≤ 1000000) : isDash ⟨(rowL (pickT px)).toArray⟩ = false := by
 by_cases hd : isDash ⟨(rowL (pickT px)).toArray⟩ = true
 ·exfalso
  have h1 : rowL (pickT px) = [45] := by simpa [isDash] using hd
  have h2 := (pick_words hne h).2
  rw [h1] at h2
  have h3 : wordsB 44 ⟨([45] : List UInt8).toArray⟩ = [⟨#[45]⟩] := by decide
  rw [h3] at h2
  have h4 := pick_no 45 (by decide) h [45] (by rw [← h2]; simp)
  simp at h4
 ·simpa using hd
theorem pick_back {px : List Int} (h : ∀ n ∈ px, 0 ≤ n ∧ n ≤ 1000000) : pkOf ⟨(rowL (pickT px)).toArray⟩ = px ∧ pkBad ⟨(rowL (pickT px)).toArray⟩ = false ∧ (32 : UInt8) ∉ rowL (pickT px) := by
 by_cases hne : px = []
 ·subst hne
  exact ⟨by rfl, by rfl, by decide⟩
 ·have h1 := pick_nodash hne h
  have h2 := (pick_words hne h).2
  have h3 : (pickT px).map numN = px := by
   simp only [pickT, List.map_map]
   conv => rhs; rw [← List.map_id px]
   refine List.map_congr_left (fun n hn => ?_)
   obtain ⟨u, rfl⟩ := Int.eq_ofNat_of_zero_le (h n hn).1
   have := (h _ hn).2
   simp only [Function.comp, numN, id, Lib.itoa_nonneg]
   have := decV_digits u 1000000 (by omega)
   show ((decV (Lib.decDigits u) 1000000 : Nat) : Int) = (u : Int)
   rw [this]
  have h4 : (pickT px).any badN = false := by
   rw [List.any_eq_false]
   intro y hy
   simp only [pickT, List.mem_map] at hy
   obtain ⟨n, hn, rfl⟩ := hy
   obtain ⟨u, rfl⟩ := Int.eq_ofNat_of_zero_le (h n hn).1
   have := (h _ hn).2
   simp [badN, Lib.itoa_nonneg, decOk_digits u 1000000 (by omega)]
  refine ⟨?_, ?_, ?_⟩
  ·rw [pkOf, h1, h2]; simpa using h3
  ·rw [pkBad, h1, h2, h4]; rfl
  ·rw [(pick_words hne h).1]
   exact join_no 32 [44] (by decide) _ (pick_no 32 (by decide) h)
structure BackA (a : ActV) (x : ByteArray) : Prop where
 k : aKOf (hdW (wordsB 32 x)) = a.k
 f : isForce (hdW (wordsB 32 x)) = a.f
 v : acV a.k a.f (wordsB 32 x) = a
 bad : acBad a.k (wordsB 32 x) = false
 rest : acRest a.k (wordsB 32 x) = []
theorem actRound_1 (nd : Nat) (hnd : nd ≤ 1) (op : OpV) (hop : op.may = true) (x : ByteArray) (hx : ActV.text ⟨1, (nd : Int), 0, op, false, []⟩ = x.data.toList) : BackA ⟨1, (nd : Int), 0, op, false, []⟩ x := by
 have hp : actPieces 1 (nd : Int) 0 op.k op.v op.t op.s op.a op.c false op.d [] = [⟨#[97, 115, 107]⟩, ⟨(Lib.itoa (nd : Int)).toArray⟩, ⟨op.text.toArray⟩] := rfl
 have hx2 : Lib.join (([⟨#[97, 115, 107]⟩, ⟨(Lib.itoa (nd : Int)).toArray⟩, ⟨op.text.toArray⟩] : List ByteArray).map (·.data.toList)) [32] = x.data.toList := by rw [← hx]; rfl
 have hw : wordsB 32 x = ⟨#[97, 115, 107]⟩ :: ⟨(Lib.itoa (nd : Int)).toArray⟩ :: wordsB 32 ⟨op.text.toArray⟩ := by
  have e9 : x.data.toList = ([97, 115, 107] : List UInt8) ++ 32 :: (Lib.itoa (nd : Int) ++ 32 :: op.text) := by
   rw [← hx2]
   simp [join_two, join_one]
  have h1 : cutL 32 x.data.toList = ([97, 115, 107] : List UInt8) :: Lib.itoa (nd : Int) :: cutL 32 op.text := by
   rw [e9, cutL_app (by decide), cutL_app (itoa_no32 _ (by omega))]
  rw [wordsB, h1]
  simp [wordsB]
 obtain ⟨o1, o2, o3, o4⟩ := opRound op ⟨op.text.toArray⟩ hop (by simp)
 have hwo : ∃ us, wordsB 32 ⟨op.text.toArray⟩ = us := ⟨_, rfl⟩
 obtain ⟨us, hus⟩ := hwo
 rw [hus] at o1 o2 o3 o4 hw
 have nn := num_back nd 1 hnd
 refine ⟨?_, ?_, ?_, ?_, ?_⟩
 ·rw [hw]; exact (show aKOf ⟨#[97, 115, 107]⟩ = 1 by decide)
 ·rw [hw]; exact (show isForce ⟨#[97, 115, 107]⟩ = false by decide)
 ·rw [hw]; show (⟨1, ((decV (Lib.itoa ((nd : Nat) : Int)) 1 : Nat) : Int), 0, opValK (kOf (hdW us)) us, false, []⟩ : ActV) = ⟨1, (nd : Int), 0, op, false, []⟩
  rw [o1, o2, Lib.itoa_nonneg, nn.1]
 ·rw [hw]; show opBadK (kOf (hdW us)) us (false || !decOk (Lib.itoa ((nd : Nat) : Int)) 1) = false
  rw [Lib.itoa_nonneg, nn.2, o1]; exact o3
 ·rw [hw]; show us.drop (opLenK (kOf (hdW us))) = []
  rw [o1]; exact o4
theorem actRound_2 (m : Nat) (hmm : m ≤ 1000000) (x : ByteArray) (hx : ActV.text ⟨2, 0, (m : Int), zOp, false, []⟩ = x.data.toList) : BackA ⟨2, 0, (m : Int), zOp, false, []⟩ x := by
 have hp : actPieces 2 0 (m : Int) 0 0 0 0 0 0 false [] [] = [⟨#[99, 97, 114, 114, 121]⟩, ⟨(Lib.itoa (m : Int)).toArray⟩] := rfl
 have hx2 : Lib.join (([⟨#[99, 97, 114, 114, 121]⟩, ⟨(Lib.itoa (m : Int)).toArray⟩] : List ByteArray).map (·.data.toList)) [32] = x.data.toList := by rw [← hx]; exact congrArg (fun z : List ByteArray => Lib.join (z.map (·.data.toList)) [32]) hp.symm
 have hw : wordsB 32 x = [⟨#[99, 97, 114, 114, 121]⟩, ⟨(Lib.itoa (m : Int)).toArray⟩] := by
  have h1 : cutL 32 x.data.toList = ([⟨#[99, 97, 114, 114, 121]⟩, ⟨(Lib.itoa (m : Int)).toArray⟩] : List ByteArray).map (·.data.toList) := by
   rw [← hx2]
   refine cutL_join 32 _ (by simp) (fun y hy => ?_)
   simp only [List.map_cons, List.map_nil, List.mem_cons, List.mem_nil_iff, or_false] at hy
   rcases hy with rfl | rfl
   ·decide
   ·exact itoa_no32 _ (by omega)
  rw [wordsB, h1, List.map_map]
  simp [Function.comp_def]
 have nm := num_back m 1000000 hmm
 refine ⟨?_, ?_, ?_, ?_, ?_⟩
 ·rw [hw]; exact (show aKOf ⟨#[99, 97, 114, 114, 121]⟩ = 2 by decide)
 ·rw [hw]; exact (show isForce ⟨#[99, 97, 114, 114, 121]⟩ = false by decide)
 ·rw [hw]; show (⟨2, 0, ((decV (Lib.itoa ((m : Nat) : Int)) 1000000 : Nat) : Int), zOp, false, []⟩ : ActV) = ⟨2, 0, (m : Int), zOp, false, []⟩
  simp only [Lib.itoa_nonneg, nm.1, nm.2, Bool.or_false, Bool.false_or]
 ·rw [hw]; show (false || !decOk (Lib.itoa ((m : Nat) : Int)) 1000000) = false
  simp only [Lib.itoa_nonneg, nm.1, nm.2, Bool.or_false, Bool.false_or]
 ·rw [hw]; rfl
theorem actRound_3 (nd : Nat) (hnd : nd ≤ 1) (x : ByteArray) (hx : ActV.text ⟨3, (nd : Int), 0, zOp, false, []⟩ = x.data.toList) : BackA ⟨3, (nd : Int), 0, zOp, false, []⟩ x := by
 have hp : actPieces 3 (nd : Int) 0 0 0 0 0 0 0 false [] [] = [⟨#[116, 105, 99, 107]⟩, ⟨(Lib.itoa (nd : Int)).toArray⟩] := rfl
 have hx2 : Lib.join (([⟨#[116, 105, 99, 107]⟩, ⟨(Lib.itoa (nd : Int)).toArray⟩] : List ByteArray).map (·.data.toList)) [32] = x.data.toList := by rw [← hx]; exact congrArg (fun z : List ByteArray => Lib.join (z.map (·.data.toList)) [32]) hp.symm
 have hw : wordsB 32 x = [⟨#[116, 105, 99, 107]⟩, ⟨(Lib.itoa (nd : Int)).toArray⟩] := by
  have h1 : cutL 32 x.data.toList = ([⟨#[116, 105, 99, 107]⟩, ⟨(Lib.itoa (nd : Int)).toArray⟩] : List ByteArray).map (·.data.toList) := by
   rw [← hx2]
   refine cutL_join 32 _ (by simp) (fun y hy => ?_)
   simp only [List.map_cons, List.map_nil, List.mem_cons, List.mem_nil_iff, or_false] at hy
   rcases hy with rfl | rfl
   ·decide
   ·exact itoa_no32 _ (by omega)
  rw [wordsB, h1, List.map_map]
  simp [Function.comp_def]
 have nn := num_back nd 1 hnd
 refine ⟨?_, ?_, ?_, ?_, ?_⟩
 ·rw [hw]; exact (show aKOf ⟨#[116, 105, 99, 107]⟩ = 3 by decide)
 ·rw [hw]; exact (show isForce ⟨#[116, 105, 99, 107]⟩ = false by decide)
 ·rw [hw]; show (⟨3, ((decV (Lib.itoa ((nd : Nat) : Int)) 1 : Nat) : Int), 0, zOp, false, []⟩ : ActV) = ⟨3, (nd : Int), 0, zOp, false, []⟩
  simp only [Lib.itoa_nonneg, nn.1, nn.2, Bool.or_false, Bool.false_or]
 ·rw [hw]; show (false || !decOk (Lib.itoa ((nd : Nat) : Int)) 1) = false
  simp only [Lib.itoa_nonneg, nn.1, nn.2, Bool.or_false, Bool.false_or]
 ·rw [hw]; rfl
theorem actRound_4 (nd : Nat) (hnd : nd ≤ 1) (px : List Int) (hpx : ∀ n ∈ px, 0 ≤ n ∧ n ≤ 1000000) (x : ByteArray) (hx : ActV.text ⟨4, (nd : Int), 0, zOp, false, px⟩ = x.data.toList) : BackA ⟨4, (nd : Int), 0, zOp, false, px⟩ x := by
 have hp : actPieces 4 (nd : Int) 0 0 0 0 0 0 0 false [] px = [⟨#[111, 102, 102]⟩, ⟨(Lib.itoa (nd : Int)).toArray⟩, ⟨(rowL (pickT px)).toArray⟩] := rfl
 have hx2 : Lib.join (([⟨#[111, 102, 102]⟩, ⟨(Lib.itoa (nd : Int)).toArray⟩, ⟨(rowL (pickT px)).toArray⟩] : List ByteArray).map (·.data.toList)) [32] = x.data.toList := by rw [← hx]; exact congrArg (fun z : List ByteArray => Lib.join (z.map (·.data.toList)) [32]) hp.symm
 have hpk := pick_back hpx
 have hw : wordsB 32 x = [⟨#[111, 102, 102]⟩, ⟨(Lib.itoa (nd : Int)).toArray⟩, ⟨(rowL (pickT px)).toArray⟩] := by
  have h1 : cutL 32 x.data.toList = ([⟨#[111, 102, 102]⟩, ⟨(Lib.itoa (nd : Int)).toArray⟩, ⟨(rowL (pickT px)).toArray⟩] : List ByteArray).map (·.data.toList) := by
   rw [← hx2]
   refine cutL_join 32 _ (by simp) (fun y hy => ?_)
   simp only [List.map_cons, List.map_nil, List.mem_cons, List.mem_nil_iff, or_false] at hy
   rcases hy with rfl | rfl | rfl
   ·decide
   ·exact itoa_no32 _ (by omega)
   ·exact hpk.2.2
  rw [wordsB, h1, List.map_map]
  simp [Function.comp_def]
 have nn := num_back nd 1 hnd
 refine ⟨?_, ?_, ?_, ?_, ?_⟩
 ·rw [hw]; exact (show aKOf ⟨#[111, 102, 102]⟩ = 4 by decide)
 ·rw [hw]; exact (show isForce ⟨#[111, 102, 102]⟩ = false by decide)
 ·rw [hw]; show (⟨4, ((decV (Lib.itoa ((nd : Nat) : Int)) 1 : Nat) : Int), 0, zOp, false, pkOf ⟨(rowL (pickT px)).toArray⟩⟩ : ActV) = ⟨4, (nd : Int), 0, zOp, false, px⟩
  simp only [Lib.itoa_nonneg, nn.1, nn.2, hpk.1, hpk.2.1, Bool.or_false, Bool.false_or]
 ·rw [hw]; show (((false || !decOk (Lib.itoa ((nd : Nat) : Int)) 1) || false) || pkBad ⟨(rowL (pickT px)).toArray⟩) = false
  simp only [Lib.itoa_nonneg, nn.1, nn.2, hpk.1, hpk.2.1, Bool.or_false, Bool.false_or]
 ·rw [hw]; rfl
theorem actRound_5 (nd : Nat) (hnd : nd ≤ 1) (px : List Int) (hpx : ∀ n ∈ px, 0 ≤ n ∧ n ≤ 1000000) (x : ByteArray) (hx : ActV.text ⟨5, (nd : Int), 0, zOp, false, px⟩ = x.data.toList) : BackA ⟨5, (nd : Int), 0, zOp, false, px⟩ x := by
 have hp : actPieces 5 (nd : Int) 0 0 0 0 0 0 0 false [] px = [⟨#[111, 110]⟩, ⟨(Lib.itoa (nd : Int)).toArray⟩, ⟨(rowL (pickT px)).toArray⟩] := rfl
 have hx2 : Lib.join (([⟨#[111, 110]⟩, ⟨(Lib.itoa (nd : Int)).toArray⟩, ⟨(rowL (pickT px)).toArray⟩] : List ByteArray).map (·.data.toList)) [32] = x.data.toList := by rw [← hx]; exact congrArg (fun z : List ByteArray => Lib.join (z.map (·.data.toList)) [32]) hp.symm
 have hpk := pick_back hpx
 have hw : wordsB 32 x = [⟨#[111, 110]⟩, ⟨(Lib.itoa (nd : Int)).toArray⟩, ⟨(rowL (pickT px)).toArray⟩] := by
  have h1 : cutL 32 x.data.toList = ([⟨#[111, 110]⟩, ⟨(Lib.itoa (nd : Int)).toArray⟩, ⟨(rowL (pickT px)).toArray⟩] : List ByteArray).map (·.data.toList) := by
   rw [← hx2]
   refine cutL_join 32 _ (by simp) (fun y hy => ?_)
   simp only [List.map_cons, List.map_nil, List.mem_cons, List.mem_nil_iff, or_false] at hy
   rcases hy with rfl | rfl | rfl
   ·decide
   ·exact itoa_no32 _ (by omega)
   ·exact hpk.2.2
  rw [wordsB, h1, List.map_map]
  simp [Function.comp_def]
 have nn := num_back nd 1 hnd
 refine ⟨?_, ?_, ?_, ?_, ?_⟩
 ·rw [hw]; exact (show aKOf ⟨#[111, 110]⟩ = 5 by decide)
 ·rw [hw]; exact (show isForce ⟨#[111, 110]⟩ = false by decide)
 ·rw [hw]; show (⟨5, ((decV (Lib.itoa ((nd : Nat) : Int)) 1 : Nat) : Int), 0, zOp, false, pkOf ⟨(rowL (pickT px)).toArray⟩⟩ : ActV) = ⟨5, (nd : Int), 0, zOp, false, px⟩
  simp only [Lib.itoa_nonneg, nn.1, nn.2, hpk.1, hpk.2.1, Bool.or_false, Bool.false_or]
 ·rw [hw]; show (((false || !decOk (Lib.itoa ((nd : Nat) : Int)) 1) || false) || pkBad ⟨(rowL (pickT px)).toArray⟩) = false
  simp only [Lib.itoa_nonneg, nn.1, nn.2, hpk.1, hpk.2.1, Bool.or_false, Bool.false_or]
 ·rw [hw]; rfl
theorem actRound_6 (nd : Nat) (hnd : nd ≤ 1) (m : Nat) (hmm : m ≤ 1000000) (x : ByteArray) (hx : ActV.text ⟨6, (nd : Int), (m : Int), zOp, false, []⟩ = x.data.toList) : BackA ⟨6, (nd : Int), (m : Int), zOp, false, []⟩ x := by
 have hp : actPieces 6 (nd : Int) (m : Int) 0 0 0 0 0 0 false [] [] = [⟨#[102, 117, 115, 101]⟩, ⟨(Lib.itoa (nd : Int)).toArray⟩, ⟨(Lib.itoa (m : Int)).toArray⟩] := rfl
 have hx2 : Lib.join (([⟨#[102, 117, 115, 101]⟩, ⟨(Lib.itoa (nd : Int)).toArray⟩, ⟨(Lib.itoa (m : Int)).toArray⟩] : List ByteArray).map (·.data.toList)) [32] = x.data.toList := by rw [← hx]; exact congrArg (fun z : List ByteArray => Lib.join (z.map (·.data.toList)) [32]) hp.symm
 have hw : wordsB 32 x = [⟨#[102, 117, 115, 101]⟩, ⟨(Lib.itoa (nd : Int)).toArray⟩, ⟨(Lib.itoa (m : Int)).toArray⟩] := by
  have h1 : cutL 32 x.data.toList = ([⟨#[102, 117, 115, 101]⟩, ⟨(Lib.itoa (nd : Int)).toArray⟩, ⟨(Lib.itoa (m : Int)).toArray⟩] : List ByteArray).map (·.data.toList) := by
   rw [← hx2]
   refine cutL_join 32 _ (by simp) (fun y hy => ?_)
   simp only [List.map_cons, List.map_nil, List.mem_cons, List.mem_nil_iff, or_false] at hy
   rcases hy with rfl | rfl | rfl
   ·decide
   ·exact itoa_no32 _ (by omega)
   ·exact itoa_no32 _ (by omega)
  rw [wordsB, h1, List.map_map]
  simp [Function.comp_def]
 have nn := num_back nd 1 hnd
 have nm := num_back m 1000000 hmm
 refine ⟨?_, ?_, ?_, ?_, ?_⟩
 ·rw [hw]; exact (show aKOf ⟨#[102, 117, 115, 101]⟩ = 6 by decide)
 ·rw [hw]; exact (show isForce ⟨#[102, 117, 115, 101]⟩ = false by decide)
 ·rw [hw]; show (⟨6, ((decV (Lib.itoa ((nd : Nat) : Int)) 1 : Nat) : Int), ((decV (Lib.itoa ((m : Nat) : Int)) 1000000 : Nat) : Int), zOp, false, []⟩ : ActV) = ⟨6, (nd : Int), (m : Int), zOp, false, []⟩
  simp only [Lib.itoa_nonneg, nn.1, nn.2, nm.1, nm.2, Bool.or_false, Bool.false_or]
 ·rw [hw]; show ((false || !decOk (Lib.itoa ((nd : Nat) : Int)) 1) || !decOk (Lib.itoa ((m : Nat) : Int)) 1000000) = false
  simp only [Lib.itoa_nonneg, nn.1, nn.2, nm.1, nm.2, Bool.or_false, Bool.false_or]
 ·rw [hw]; rfl
theorem actRound_7 (nd : Nat) (hnd : nd ≤ 1) (x : ByteArray) (hx : ActV.text ⟨7, (nd : Int), 0, zOp, false, []⟩ = x.data.toList) : BackA ⟨7, (nd : Int), 0, zOp, false, []⟩ x := by
 have hp : actPieces 7 (nd : Int) 0 0 0 0 0 0 0 false [] [] = [⟨#[108, 101, 97, 100]⟩, ⟨(Lib.itoa (nd : Int)).toArray⟩] := rfl
 have hx2 : Lib.join (([⟨#[108, 101, 97, 100]⟩, ⟨(Lib.itoa (nd : Int)).toArray⟩] : List ByteArray).map (·.data.toList)) [32] = x.data.toList := by rw [← hx]; exact congrArg (fun z : List ByteArray => Lib.join (z.map (·.data.toList)) [32]) hp.symm
 have hw : wordsB 32 x = [⟨#[108, 101, 97, 100]⟩, ⟨(Lib.itoa (nd : Int)).toArray⟩] := by
  have h1 : cutL 32 x.data.toList = ([⟨#[108, 101, 97, 100]⟩, ⟨(Lib.itoa (nd : Int)).toArray⟩] : List ByteArray).map (·.data.toList) := by
   rw [← hx2]
   refine cutL_join 32 _ (by simp) (fun y hy => ?_)
   simp only [List.map_cons, List.map_nil, List.mem_cons, List.mem_nil_iff, or_false] at hy
   rcases hy with rfl | rfl
   ·decide
   ·exact itoa_no32 _ (by omega)
  rw [wordsB, h1, List.map_map]
  simp [Function.comp_def]
 have nn := num_back nd 1 hnd
 refine ⟨?_, ?_, ?_, ?_, ?_⟩
 ·rw [hw]; exact (show aKOf ⟨#[108, 101, 97, 100]⟩ = 7 by decide)
 ·rw [hw]; exact (show isForce ⟨#[108, 101, 97, 100]⟩ = false by decide)
 ·rw [hw]; show (⟨7, ((decV (Lib.itoa ((nd : Nat) : Int)) 1 : Nat) : Int), 0, zOp, false, []⟩ : ActV) = ⟨7, (nd : Int), 0, zOp, false, []⟩
  simp only [Lib.itoa_nonneg, nn.1, nn.2, Bool.or_false, Bool.false_or]
 ·rw [hw]; show (false || !decOk (Lib.itoa ((nd : Nat) : Int)) 1) = false
  simp only [Lib.itoa_nonneg, nn.1, nn.2, Bool.or_false, Bool.false_or]
 ·rw [hw]; rfl
theorem actRound_8 (nd : Nat) (hnd : nd ≤ 1) (x : ByteArray) (hx : ActV.text ⟨8, (nd : Int), 0, zOp, false, []⟩ = x.data.toList) : BackA ⟨8, (nd : Int), 0, zOp, false, []⟩ x := by
 have hp : actPieces 8 (nd : Int) 0 0 0 0 0 0 0 false [] [] = [⟨#[100, 101, 103, 114, 97, 100, 101]⟩, ⟨(Lib.itoa (nd : Int)).toArray⟩] := rfl
 have hx2 : Lib.join (([⟨#[100, 101, 103, 114, 97, 100, 101]⟩, ⟨(Lib.itoa (nd : Int)).toArray⟩] : List ByteArray).map (·.data.toList)) [32] = x.data.toList := by rw [← hx]; exact congrArg (fun z : List ByteArray => Lib.join (z.map (·.data.toList)) [32]) hp.symm
 have hw : wordsB 32 x = [⟨#[100, 101, 103, 114, 97, 100, 101]⟩, ⟨(Lib.itoa (nd : Int)).toArray⟩] := by
  have h1 : cutL 32 x.data.toList = ([⟨#[100, 101, 103, 114, 97, 100, 101]⟩, ⟨(Lib.itoa (nd : Int)).toArray⟩] : List ByteArray).map (·.data.toList) := by
   rw [← hx2]
   refine cutL_join 32 _ (by simp) (fun y hy => ?_)
   simp only [List.map_cons, List.map_nil, List.mem_cons, List.mem_nil_iff, or_false] at hy
   rcases hy with rfl | rfl
   ·decide
   ·exact itoa_no32 _ (by omega)
  rw [wordsB, h1, List.map_map]
  simp [Function.comp_def]
 have nn := num_back nd 1 hnd
 refine ⟨?_, ?_, ?_, ?_, ?_⟩
 ·rw [hw]; exact (show aKOf ⟨#[100, 101, 103, 114, 97, 100, 101]⟩ = 8 by decide)
 ·rw [hw]; exact (show isForce ⟨#[100, 101, 103, 114, 97, 100, 101]⟩ = false by decide)
 ·rw [hw]; show (⟨8, ((decV (Lib.itoa ((nd : Nat) : Int)) 1 : Nat) : Int), 0, zOp, false, []⟩ : ActV) = ⟨8, (nd : Int), 0, zOp, false, []⟩
  simp only [Lib.itoa_nonneg, nn.1, nn.2, Bool.or_false, Bool.false_or]
 ·rw [hw]; show (false || !decOk (Lib.itoa ((nd : Nat) : Int)) 1) = false
  simp only [Lib.itoa_nonneg, nn.1, nn.2, Bool.or_false, Bool.false_or]
 ·rw [hw]; rfl
theorem actRound_9 (nd : Nat) (hnd : nd ≤ 1) (m : Nat) (hmm : m ≤ 1000000) (x : ByteArray) (hx : ActV.text ⟨9, (nd : Int), (m : Int), zOp, false, []⟩ = x.data.toList) : BackA ⟨9, (nd : Int), (m : Int), zOp, false, []⟩ x := by
 have hp : actPieces 9 (nd : Int) (m : Int) 0 0 0 0 0 0 false [] [] = [⟨#[103, 114, 111, 119]⟩, ⟨(Lib.itoa (nd : Int)).toArray⟩, ⟨(Lib.itoa (m : Int)).toArray⟩] := rfl
 have hx2 : Lib.join (([⟨#[103, 114, 111, 119]⟩, ⟨(Lib.itoa (nd : Int)).toArray⟩, ⟨(Lib.itoa (m : Int)).toArray⟩] : List ByteArray).map (·.data.toList)) [32] = x.data.toList := by rw [← hx]; exact congrArg (fun z : List ByteArray => Lib.join (z.map (·.data.toList)) [32]) hp.symm
 have hw : wordsB 32 x = [⟨#[103, 114, 111, 119]⟩, ⟨(Lib.itoa (nd : Int)).toArray⟩, ⟨(Lib.itoa (m : Int)).toArray⟩] := by
  have h1 : cutL 32 x.data.toList = ([⟨#[103, 114, 111, 119]⟩, ⟨(Lib.itoa (nd : Int)).toArray⟩, ⟨(Lib.itoa (m : Int)).toArray⟩] : List ByteArray).map (·.data.toList) := by
   rw [← hx2]
   refine cutL_join 32 _ (by simp) (fun y hy => ?_)
   simp only [List.map_cons, List.map_nil, List.mem_cons, List.mem_nil_iff, or_false] at hy
   rcases hy with rfl | rfl | rfl
   ·decide
   ·exact itoa_no32 _ (by omega)
   ·exact itoa_no32 _ (by omega)
  rw [wordsB, h1, List.map_map]
  simp [Function.comp_def]
 have nn := num_back nd 1 hnd
 have nm := num_back m 1000000 hmm
 refine ⟨?_, ?_, ?_, ?_, ?_⟩
 ·rw [hw]; exact (show aKOf ⟨#[103, 114, 111, 119]⟩ = 9 by decide)
 ·rw [hw]; exact (show isForce ⟨#[103, 114, 111, 119]⟩ = false by decide)
 ·rw [hw]; show (⟨9, ((decV (Lib.itoa ((nd : Nat) : Int)) 1 : Nat) : Int), ((decV (Lib.itoa ((m : Nat) : Int)) 1000000 : Nat) : Int), zOp, false, []⟩ : ActV) = ⟨9, (nd : Int), (m : Int), zOp, false, []⟩
  simp only [Lib.itoa_nonneg, nn.1, nn.2, nm.1, nm.2, Bool.or_false, Bool.false_or]
 ·rw [hw]; show ((false || !decOk (Lib.itoa ((nd : Nat) : Int)) 1) || !decOk (Lib.itoa ((m : Nat) : Int)) 1000000) = false
  simp only [Lib.itoa_nonneg, nn.1, nn.2, nm.1, nm.2, Bool.or_false, Bool.false_or]
 ·rw [hw]; rfl
theorem actRound_10  (x : ByteArray) (hx : ActV.text ⟨10, 0, 0, zOp, false, []⟩ = x.data.toList) : BackA ⟨10, 0, 0, zOp, false, []⟩ x := by
 have hp : actPieces 10 0 0 0 0 0 0 0 0 false [] [] = [⟨#[97, 108, 108]⟩] := rfl
 have hx2 : Lib.join (([⟨#[97, 108, 108]⟩] : List ByteArray).map (·.data.toList)) [32] = x.data.toList := by rw [← hx]; exact congrArg (fun z : List ByteArray => Lib.join (z.map (·.data.toList)) [32]) hp.symm
 have hw : wordsB 32 x = [⟨#[97, 108, 108]⟩] := by
  have h1 : cutL 32 x.data.toList = ([⟨#[97, 108, 108]⟩] : List ByteArray).map (·.data.toList) := by
   rw [← hx2]
   refine cutL_join 32 _ (by simp) (fun y hy => ?_)
   simp only [List.map_cons, List.map_nil, List.mem_cons, List.mem_nil_iff, or_false] at hy
   rcases hy with rfl
   ·decide
  rw [wordsB, h1, List.map_map]
  simp [Function.comp_def]
 refine ⟨?_, ?_, ?_, ?_, ?_⟩
 ·rw [hw]; exact (show aKOf ⟨#[97, 108, 108]⟩ = 10 by decide)
 ·rw [hw]; exact (show isForce ⟨#[97, 108, 108]⟩ = false by decide)
 ·rw [hw]; show (⟨10, 0, 0, zOp, false, []⟩ : ActV) = ⟨10, 0, 0, zOp, false, []⟩
  rfl
 ·rw [hw]; show false = false
  rfl
 ·rw [hw]; rfl
theorem actRound_17 (nd : Nat) (hnd : nd ≤ 1) (x : ByteArray) (hx : ActV.text ⟨7, (nd : Int), 0, zOp, true, []⟩ = x.data.toList) : BackA ⟨7, (nd : Int), 0, zOp, true, []⟩ x := by
 have hp : actPieces 7 (nd : Int) 0 0 0 0 0 0 0 true [] [] = [⟨#[102, 111, 114, 99, 101]⟩, ⟨(Lib.itoa (nd : Int)).toArray⟩] := rfl
 have hx2 : Lib.join (([⟨#[102, 111, 114, 99, 101]⟩, ⟨(Lib.itoa (nd : Int)).toArray⟩] : List ByteArray).map (·.data.toList)) [32] = x.data.toList := by rw [← hx]; exact congrArg (fun z : List ByteArray => Lib.join (z.map (·.data.toList)) [32]) hp.symm
 have hw : wordsB 32 x = [⟨#[102, 111, 114, 99, 101]⟩, ⟨(Lib.itoa (nd : Int)).toArray⟩] := by
  have h1 : cutL 32 x.data.toList = ([⟨#[102, 111, 114, 99, 101]⟩, ⟨(Lib.itoa (nd : Int)).toArray⟩] : List ByteArray).map (·.data.toList) := by
   rw [← hx2]
   refine cutL_join 32 _ (by simp) (fun y hy => ?_)
   simp only [List.map_cons, List.map_nil, List.mem_cons, List.mem_nil_iff, or_false] at hy
   rcases hy with rfl | rfl
   ·decide
   ·exact itoa_no32 _ (by omega)
  rw [wordsB, h1, List.map_map]
  simp [Function.comp_def]
 have nn := num_back nd 1 hnd
 refine ⟨?_, ?_, ?_, ?_, ?_⟩
 ·rw [hw]; exact (show aKOf ⟨#[102, 111, 114, 99, 101]⟩ = 7 by decide)
 ·rw [hw]; exact (show isForce ⟨#[102, 111, 114, 99, 101]⟩ = true by decide)
 ·rw [hw]; show (⟨7, ((decV (Lib.itoa ((nd : Nat) : Int)) 1 : Nat) : Int), 0, zOp, true, []⟩ : ActV) = ⟨7, (nd : Int), 0, zOp, true, []⟩
  simp only [Lib.itoa_nonneg, nn.1, nn.2, Bool.or_false, Bool.false_or]
 ·rw [hw]; show (false || !decOk (Lib.itoa ((nd : Nat) : Int)) 1) = false
  simp only [Lib.itoa_nonneg, nn.1, nn.2, Bool.or_false, Bool.false_or]
 ·rw [hw]; rfl
set_option maxHeartbeats 2000000 in
theorem actRound (a : ActV) (x : ByteArray) (h : a.may = true) (hx : a.text = x.data.toList) : BackA a x := by
 obtain ⟨k, nd, m, ⟨ok, ov, ot, os, oa, oc, ol⟩, f, px⟩ := a
 have hm : mayActB k nd m ok ov ot os oa oc f ol.length px.length ol px = true := h
 by_cases hk9 : 1 ≤ k ∧ k ≤ 10
 ·have h3 : k = 1 ∨ k = 2 ∨ k = 3 ∨ k = 4 ∨ k = 5 ∨ k = 6 ∨ k = 7 ∨ k = 8 ∨ k = 9 ∨ k = 10 := by omega
  rcases h3 with rfl | rfl | rfl | rfl | rfl | rfl | rfl | rfl | rfl | rfl
  ·simp only [mayActB, if_true, reduceCtorEq, Int.reduceEq, if_false, Bool.and_eq_true, beq_iff_eq, nodeB, Bool.or_eq_true] at hm
   obtain rfl : f = false := by first | exact hm.1.2 | exact hm.2 | exact hm.1.1.2
   obtain rfl : px = [] := by first | exact hm.2 | exact hm.1.2
   obtain ⟨nd, rfl⟩ := Int.eq_ofNat_of_zero_le (show 0 ≤ nd by omega)
   obtain rfl : m = 0 := by omega
   exact actRound_1 nd (by omega) ⟨ok, ov, ot, os, oa, oc, ol⟩ hm.1.1.1.2 x hx
  ·simp only [mayActB, if_true, reduceCtorEq, Int.reduceEq, if_false, Bool.and_eq_true, beq_iff_eq, nodeB, Bool.or_eq_true] at hm
   obtain ⟨rfl, rfl, rfl, rfl, rfl, rfl, rfl⟩ := same_zero (by first | exact hm.2.1 | exact hm.1.2 | exact hm.1.1.2 | exact hm.1.1.1.2 | exact hm.2)
   obtain rfl : f = false := by first | exact hm.1.2 | exact hm.2 | exact hm.1.1.2
   obtain rfl : px = [] := by first | exact hm.2 | exact hm.1.2
   obtain rfl : nd = 0 := by omega
   have hmn : mayN m = true := by first | exact hm.1.1.1.1 | exact hm.1.1.1.2 | exact hm.1.1.2
   simp only [mayN, Bool.and_eq_true, decide_eq_true_eq] at hmn
   obtain ⟨m, rfl⟩ := Int.eq_ofNat_of_zero_le hmn.1
   exact actRound_2 m (by omega) x hx
  ·simp only [mayActB, if_true, reduceCtorEq, Int.reduceEq, if_false, Bool.and_eq_true, beq_iff_eq, nodeB, Bool.or_eq_true] at hm
   obtain ⟨rfl, rfl, rfl, rfl, rfl, rfl, rfl⟩ := same_zero (by first | exact hm.2.1 | exact hm.1.2 | exact hm.1.1.2 | exact hm.1.1.1.2 | exact hm.2)
   obtain rfl : f = false := by first | exact hm.1.2 | exact hm.2 | exact hm.1.1.2
   obtain rfl : px = [] := by first | exact hm.2 | exact hm.1.2
   obtain ⟨nd, rfl⟩ := Int.eq_ofNat_of_zero_le (show 0 ≤ nd by omega)
   obtain rfl : m = 0 := by omega
   exact actRound_3 nd (by omega) x hx
  ·simp only [mayActB, if_true, reduceCtorEq, Int.reduceEq, if_false, Bool.and_eq_true, beq_iff_eq, nodeB, Bool.or_eq_true] at hm
   obtain ⟨rfl, rfl, rfl, rfl, rfl, rfl, rfl⟩ := same_zero (by first | exact hm.2.1 | exact hm.1.2 | exact hm.1.1.2 | exact hm.1.1.1.2 | exact hm.2)
   obtain rfl : f = false := by first | exact hm.1.2 | exact hm.2 | exact hm.1.1.2
   obtain ⟨nd, rfl⟩ := Int.eq_ofNat_of_zero_le (show 0 ≤ nd by omega)
   obtain rfl : m = 0 := by omega
   have hpp := picks_ok (show picksB px.length px = true by first | exact hm.1.1.1.2 | exact hm.1.1.2)
   exact actRound_4 nd (by omega) px hpp.2 x hx
  ·simp only [mayActB, if_true, reduceCtorEq, Int.reduceEq, if_false, Bool.and_eq_true, beq_iff_eq, nodeB, Bool.or_eq_true] at hm
   obtain ⟨rfl, rfl, rfl, rfl, rfl, rfl, rfl⟩ := same_zero (by first | exact hm.2.1 | exact hm.1.2 | exact hm.1.1.2 | exact hm.1.1.1.2 | exact hm.2)
   obtain rfl : f = false := by first | exact hm.1.2 | exact hm.2 | exact hm.1.1.2
   obtain ⟨nd, rfl⟩ := Int.eq_ofNat_of_zero_le (show 0 ≤ nd by omega)
   obtain rfl : m = 0 := by omega
   have hpp := picks_ok (show picksB px.length px = true by first | exact hm.1.1.1.2 | exact hm.1.1.2)
   exact actRound_5 nd (by omega) px hpp.2 x hx
  ·simp only [mayActB, if_true, reduceCtorEq, Int.reduceEq, if_false, Bool.and_eq_true, beq_iff_eq, nodeB, Bool.or_eq_true] at hm
   obtain ⟨rfl, rfl, rfl, rfl, rfl, rfl, rfl⟩ := same_zero (by first | exact hm.2.1 | exact hm.1.2 | exact hm.1.1.2 | exact hm.1.1.1.2 | exact hm.2)
   obtain rfl : f = false := by first | exact hm.1.2 | exact hm.2 | exact hm.1.1.2
   obtain rfl : px = [] := by first | exact hm.2 | exact hm.1.2
   obtain ⟨nd, rfl⟩ := Int.eq_ofNat_of_zero_le (show 0 ≤ nd by omega)
   have hmn : mayN m = true := by first | exact hm.1.1.1.1 | exact hm.1.1.1.2 | exact hm.1.1.2
   simp only [mayN, Bool.and_eq_true, decide_eq_true_eq] at hmn
   obtain ⟨m, rfl⟩ := Int.eq_ofNat_of_zero_le hmn.1
   exact actRound_6 nd (by omega) m (by omega) x hx
  ·simp only [mayActB, if_true, reduceCtorEq, Int.reduceEq, if_false, Bool.and_eq_true, beq_iff_eq, nodeB, Bool.or_eq_true] at hm
   obtain ⟨rfl, rfl, rfl, rfl, rfl, rfl, rfl⟩ := same_zero (by first | exact hm.2.1 | exact hm.1.2 | exact hm.1.1.2 | exact hm.1.1.1.2 | exact hm.2)
   obtain rfl : px = [] := by first | exact hm.2 | exact hm.1.2
   obtain ⟨nd, rfl⟩ := Int.eq_ofNat_of_zero_le (show 0 ≤ nd by omega)
   obtain rfl : m = 0 := by omega
   cases f
   ·exact actRound_7 nd (by omega) x hx
   ·exact actRound_17 nd (by omega) x hx
  ·simp only [mayActB, if_true, reduceCtorEq, Int.reduceEq, if_false, Bool.and_eq_true, beq_iff_eq, nodeB, Bool.or_eq_true] at hm
   obtain ⟨rfl, rfl, rfl, rfl, rfl, rfl, rfl⟩ := same_zero (by first | exact hm.2.1 | exact hm.1.2 | exact hm.1.1.2 | exact hm.1.1.1.2 | exact hm.2)
   obtain rfl : f = false := by first | exact hm.1.2 | exact hm.2 | exact hm.1.1.2
   obtain rfl : px = [] := by first | exact hm.2 | exact hm.1.2
   obtain ⟨nd, rfl⟩ := Int.eq_ofNat_of_zero_le (show 0 ≤ nd by omega)
   obtain rfl : m = 0 := by omega
   exact actRound_8 nd (by omega) x hx
  ·simp only [mayActB, if_true, reduceCtorEq, Int.reduceEq, if_false, Bool.and_eq_true, beq_iff_eq, nodeB, Bool.or_eq_true] at hm
   obtain ⟨rfl, rfl, rfl, rfl, rfl, rfl, rfl⟩ := same_zero (by first | exact hm.2.1 | exact hm.1.2 | exact hm.1.1.2 | exact hm.1.1.1.2 | exact hm.2)
   obtain rfl : f = false := by first | exact hm.1.2 | exact hm.2 | exact hm.1.1.2
   obtain rfl : px = [] := by first | exact hm.2 | exact hm.1.2
   obtain ⟨nd, rfl⟩ := Int.eq_ofNat_of_zero_le (show 0 ≤ nd by omega)
   have hmn : mayN m = true := by first | exact hm.1.1.1.1 | exact hm.1.1.1.2 | exact hm.1.1.2
   simp only [mayN, Bool.and_eq_true, decide_eq_true_eq] at hmn
   obtain ⟨m, rfl⟩ := Int.eq_ofNat_of_zero_le hmn.1
   exact actRound_9 nd (by omega) m (by omega) x hx
  ·simp only [mayActB, if_true, reduceCtorEq, Int.reduceEq, if_false, Bool.and_eq_true, beq_iff_eq, nodeB, Bool.or_eq_true] at hm
   obtain ⟨rfl, rfl, rfl, rfl, rfl, rfl, rfl⟩ := same_zero (by first | exact hm.2.1 | exact hm.1.2 | exact hm.1.1.2 | exact hm.1.1.1.2 | exact hm.2)
   obtain rfl : f = false := by first | exact hm.1.2 | exact hm.2 | exact hm.1.1.2
   obtain rfl : px = [] := by first | exact hm.2 | exact hm.1.2
   obtain rfl : nd = 0 := by omega
   obtain rfl : m = 0 := by omega
   exact actRound_10  x hx
 ·unfold mayActB at hm
  repeat (rw [if_neg (by omega)] at hm)
  cases hm
theorem goodA_text (a : ActV) (x : ByteArray) (h : a.may = true) (hx : a.text = x.data.toList) : goodA x = true ∧ acX x = a := by
 obtain ⟨h1, h2, h3, h4, h5⟩ := actRound a x h hx
 have e : acX x = a := by rw [acX, h1, h2, h3]
 refine ⟨?_, e⟩
 rw [goodA, e, h1, h4, h5, h, hx]
 simp
def glueL : List (List UInt8) → List UInt8
 | [] => []
 | x :: r => x ++ 10 :: glueL r
theorem glueL_snoc (L : List (List UInt8)) (x : List UInt8) : glueL (L ++ [x]) = glueL L ++ x ++ [10] := by
 induction L with
 | nil => simp [glueL]
 | cons y L ih => simp [glueL, ih]
def linesOf (m0 m1 d0 d1 g : Int) (l : List ActV) : List (List UInt8) := stageTextL m0 m1 d0 d1 g :: l.map ActV.text
def scTextL (m0 m1 d0 d1 g : Int) (l : List ActV) : List UInt8 := glueL (linesOf m0 m1 d0 d1 g l)
theorem may_small (a : ActV) (h : a.may = true) : a.o.d.length ≤ 2048 ∧ a.pk.length ≤ 100 := by
 unfold ActV.may mayActB at h
 have hz : ∀ {k v t s a c : Int} {l : List UInt8}, sameB k v t s a c 0 0 0 0 0 0 l [] = true → l.length ≤ 2048 := fun h => by rw [(same_zero h).2.2.2.2.2.2]; simp
 have hp : ∀ {l : List Int}, l = [] → l.length ≤ 100 := fun h => by rw [h]; simp
 have hq : ∀ {n : Nat} {l : List Int}, picksB n l = true → n ≤ 100 := fun h => by simp only [picksB, Bool.and_eq_true, decide_eq_true_eq] at h; exact h.1
 repeat' split at h
 all_goals (try simp only [Bool.and_eq_true, beq_iff_eq] at h)
 ·exact ⟨(mayOpB_kind h.1.1.1.2 rfl).2.2, hp h.2⟩
 ·exact ⟨hz h.1.1.2, hp h.2⟩
 ·exact ⟨hz h.1.1.2, hp h.2⟩
 ·exact ⟨hz h.1.2, hq h.1.1.1.2⟩
 ·exact ⟨hz h.1.2, hq h.1.1.1.2⟩
 ·exact ⟨hz h.1.1.2, hp h.2⟩
 ·exact ⟨hz h.1.2, hp h.2⟩
 ·exact ⟨hz h.1.1.2, hp h.2⟩
 ·exact ⟨hz h.1.1.2, hp h.2⟩
 ·exact ⟨hz h.1.1.2, hp h.2⟩
 ·exact absurd h (by simp)
theorem data_small (l : List UInt8) (h : l.length ≤ 2048) : (dataL l).length ≤ 4160 := by
 unfold dataL rowL
 split
 ·simp
 ·have := join_len [44] rfl 129 ((secs l (l.length / 64)).map (·.data.toList)) (fun x hx => by
   simp only [secs, List.map_map, List.mem_map, Function.comp] at hx
   obtain ⟨j, _, rfl⟩ := hx
   have := secL_len ((l.drop (64 * j)).take 64)
   simp only [secAt, List.length_take] at this ⊢
   omega)
  rw [List.length_map, secs_len] at this
  omega
theorem opText_small (xk xv xt xs xa xc : Int) (lx : List UInt8) (B : Bd xv xt xs xa xc) (h : lx.length ≤ 2048) : (opTextL xk xv xt xs xa xc lx).length ≤ 4250 := by
 have hd := dec_len xv.toNat (by have := B.v1; omega)
 have ht := dec_len xt.toNat (by have := B.t1; omega)
 have hs := itoa_len _ B.s0 B.s1
 have ha := itoa_len _ B.a0 B.a1
 have hc := itoa_len _ B.c0 B.c1
 have hx := data_small lx h
 unfold opTextL opPieces
 repeat' split
 all_goals
  simp only [List.map_cons, List.map_nil, join_two, join_one, List.length_append, List.length_cons, List.length_nil]
  first
   | omega
   | (simp [Lib.join]; done)
theorem pick_small (px : List Int) (h : Pk px) (hl : px.length ≤ 100) : (rowL (pickT px)).length ≤ 2200 := by
 unfold rowL
 split
 ·simp
 ·have := join_len [44] rfl 21 ((pickT px).map (·.data.toList)) (fun x hx => by
   simp only [pickT, List.map_map, List.mem_map, Function.comp] at hx
   obtain ⟨n, hn, rfl⟩ := hx
   exact itoa_len n (h.lo n hn) (h.hi n hn))
  rw [List.length_map] at this
  have e : (pickT px).length = px.length := by simp [pickT]
  omega
structure ABd (a : ActV) : Prop where
 bd : Bd a.o.v a.o.t a.o.s a.o.a a.o.c
 n0 : -9223372036854775808 ≤ a.nd
 n1 : a.nd ≤ 9223372036854775807
 m0 : -9223372036854775808 ≤ a.m
 m1 : a.m ≤ 9223372036854775807
 bq : a.o.d.length ≤ 9223372036854775807
 bv : a.pk.length ≤ 9223372036854775807
 pk : Pk a.pk
theorem actText_small (a : ActV) (b : ABd a) (h : a.may = true) : a.text.length ≤ 4400 := by
 obtain ⟨hd, hp⟩ := may_small a h
 have h1 := opText_small a.o.k a.o.v a.o.t a.o.s a.o.a a.o.c a.o.d b.bd hd
 have h2 := pick_small a.pk b.pk hp
 have h3 := itoa_len _ b.n0 b.n1
 have h4 := itoa_len _ b.m0 b.m1
 unfold ActV.text actTextL actPieces
 repeat' split
 all_goals
  simp only [List.map_cons, List.map_nil, join_two, join_one, List.length_append, List.length_cons, List.length_nil]
  first
   | omega
   | (simp [Lib.join]; done)
theorem glue_len (k : Nat) : ∀ L : List (List UInt8), (∀ x ∈ L, x.length ≤ k) → (glueL L).length ≤ L.length * (k + 1)
 | [], _ => by simp [glueL]
 | x :: r, h => by
  have h1 := h x (by simp)
  have h2 := glue_len k r fun y hy => h y (List.mem_cons_of_mem _ hy)
  simp only [glueL, List.length_append, List.length_cons, Nat.add_mul]
  omega
theorem stage_small {m0 m1 d0 d1 g : Int} (h : mayStB m0 m1 d0 d1 g = true) : (stageTextL m0 m1 d0 d1 g).length ≤ 1000 := by
 simp only [mayStB, Bool.and_eq_true, decide_eq_true_eq] at h
 exact stageWords_len ⟨by omega⟩
theorem script_small (m0 m1 d0 d1 g : Int) (l : List ActV) (hs : mayStB m0 m1 d0 d1 g = true) (hl : ∀ a ∈ l, a.may = true) (hb : ∀ a ∈ l, ABd a) (hn : l.length ≤ 30) : (scTextL m0 m1 d0 d1 g l).length ≤ 140000 := by
 have h1 := stage_small hs
 have h2 := glue_len 4400 (l.map ActV.text) (fun x hx => by
  obtain ⟨a, ha, rfl⟩ := List.mem_map.1 hx
  exact actText_small a (hb a ha) (hl a ha))
 rw [List.length_map] at h2
 simp only [scTextL, linesOf, glueL, List.length_append, List.length_cons]
 omega
section
variable {P : Program} {ops : Array Oper} {md : Region.Mode} {W : World}
def calmUpon (P : Program) (w : World) (v : Value) : Result Next → Prop
 | .ok (.value u) w' => w' = w ∧ u = v
 | .ok .skip w' => w' = w ∧ v = undef
 | .ok (.enter f args) w' => w' = w ∧ Calls P f args w (fun e w'' => e = .returned v ∧ Gr w w'')
 | _ => False
def calmAt (P : Program) (o : Oper) (a : Act) (w : World) (v : Value) : Prop := calmUpon P w v ((execOp a.eval o).run P w)
def calm (P : Program) (o : Oper) (a : Act) (W : World) (next : Act → Prop) : Prop := ∃ v, (∀ g : Growth W, calmAt P o a (grown W g) v) ∧ next (a.put o.dst v)
attribute [go_sem] calmUpon calmAt calm
def wpCalm (P : Program) (ops : Array Oper) (W : World) (Q : Act → Prop) : List Oper → Act → Prop
 | [], a => Q a
 | o :: rest, a => if Region.wanted o (yielded ops a.tmps) then calm P o a W (wpCalm P ops W Q rest) else wpCalm P ops W Q rest (a.put o.dst undef)
theorem wpCalm_nil {Q : Act → Prop} {a : Act} (h : Q a) : wpCalm P ops W Q [] a := h
theorem wpCalm_step {Q : Act → Prop} {a : Act} {o : Oper} {rest : List Oper}
  (h : ∀ K : Act → Prop, (∀ a, wpCalm P ops W Q rest a → K a) → if Region.wanted o (yielded ops a.tmps) then calm P o a W K else K (a.put o.dst undef)) : wpCalm P ops W Q (o :: rest) a :=
 h _ (fun _ h => h)
def CalmOp (P : Program) (ops : Array Oper) (W : World) (o : Oper) (v : Value) (a : Act) : Prop :=
 (Region.wanted o (yielded ops a.tmps) = true ∧ ∀ g : Growth W, calmAt P o a (grown W g) v) ∨ (Region.wanted o (yielded ops a.tmps) = false ∧ v = undef)
def AllocOp (P : Program) (ops : Array Oper) (o : Oper) (mk : Nat → Value) (zs : Array Value) (T : TypeId) (a : Act) : Prop :=
 Region.wanted o (yielded ops a.tmps) = true ∧ ∀ w, (execOp a.eval o).run P w = .ok (.value (mk w.heap.size)) (w.alloc (.cells zs T))
abbrev Blocks := List (Nat × Array Value × TypeId)
def aOp (P : Program) (ops : Array Oper) (W : World) (i : Nat) (K : Blocks → Act → Prop) (bs : Blocks) (a : Act) : Prop :=
 ∃ o, ops[i]? = some o ∧ ∃ mk zs T, AllocOp P ops o mk zs T a ∧ ∀ b, W.heap.size ≤ b → (∀ x ∈ bs, x.1 ≠ b) → K ((b, zs, T) :: bs) (a.put o.dst (mk b))
def mOp (P : Program) (ops : Array Oper) (W : World) (i : Nat) (K : Blocks → Act → Prop) (bs : Blocks) (a : Act) : Prop :=
 (∃ o, ops[i]? = some o ∧ ∃ v, CalmOp P ops W o v a ∧ K bs (a.put o.dst v)) ∨ aOp P ops W i K bs a
theorem aOp_mono {i : Nat} {K K' : Blocks → Act → Prop} {bs : Blocks} {a : Act} (h : ∀ bs a, K bs a → K' bs a) (hh : aOp P ops W i K bs a) : aOp P ops W i K' bs a :=
 let ⟨o, ho, mk, zs, T, hA, hk⟩ := hh; ⟨o, ho, mk, zs, T, hA, fun b h1 h2 => h _ _ (hk b h1 h2)⟩
theorem mOp_mono {i : Nat} {K K' : Blocks → Act → Prop} {bs : Blocks} {a : Act} (h : ∀ bs a, K bs a → K' bs a) (hh : mOp P ops W i K bs a) : mOp P ops W i K' bs a :=
 hh.imp (fun ⟨o, ho, v, hv, hk⟩ => ⟨o, ho, v, hv, h _ _ hk⟩) (aOp_mono h)
theorem CalmOp.put {o oj : Oper} {v u : Value} {a : Act} (hs : ∀ cs b, o.op ≠ .select cs b) (h3 : ∀ d, oj.dst = some d → d ∉ o.looksAt ops) (h : CalmOp P ops W o v a) : CalmOp P ops W o v (a.put oj.dst u) := by
 unfold CalmOp calmAt at *
 rw [execOp_put o hs a oj.dst u h3, wanted_put o a oj.dst u h3]
 exact h
theorem CalmOp.unput {o oj : Oper} {v u : Value} {a : Act} (hs : ∀ cs b, o.op ≠ .select cs b) (h3 : ∀ d, oj.dst = some d → d ∉ o.looksAt ops) (h : CalmOp P ops W o v (a.put oj.dst u)) : CalmOp P ops W o v a := by
 unfold CalmOp calmAt at *
 rw [execOp_put o hs a oj.dst u h3, wanted_put o a oj.dst u h3] at h
 exact h
theorem AllocOp.put {o oj : Oper} {mk : Nat → Value} {zs : Array Value} {T : TypeId} {u : Value} {a : Act} (hs : ∀ cs b, o.op ≠ .select cs b) (h3 : ∀ d, oj.dst = some d → d ∉ o.looksAt ops) (h : AllocOp P ops o mk zs T a) : AllocOp P ops o mk zs T (a.put oj.dst u) := by
 unfold AllocOp at *
 rw [execOp_put o hs a oj.dst u h3, wanted_put o a oj.dst u h3]
 exact h
theorem AllocOp.unput {o oj : Oper} {mk : Nat → Value} {zs : Array Value} {T : TypeId} {u : Value} {a : Act} (hs : ∀ cs b, o.op ≠ .select cs b) (h3 : ∀ d, oj.dst = some d → d ∉ o.looksAt ops) (h : AllocOp P ops o mk zs T (a.put oj.dst u)) : AllocOp P ops o mk zs T a := by
 unfold AllocOp at *
 rw [execOp_put o hs a oj.dst u h3, wanted_put o a oj.dst u h3] at h
 exact h
def mixAny (P : Program) (md : Region.Mode) (ops : Array Oper) (W : World) (n : Nat) (L : Blocks → Array Bool → Act → Prop) : Nat → Array Bool → Blocks → Act → Prop
 | 0, listed, bs, a => L bs listed a
 | f + 1, listed, bs, a => Region.ready md ops listed ≠ [] ∧ ∀ i ∈ Region.ready md ops listed, i < n ∧ mOp P ops W i (mixAny P md ops W n L f (listed.setIfInBounds i true)) bs a
def layAny (P : Program) (md : Region.Mode) (ops : Array Oper) (W : World) (n : Nat) (L : Blocks → Array Bool → Act → Prop) : Nat → Array Bool → Blocks → Act → Prop
 | 0, listed, bs, a => L bs listed a
 | f + 1, listed, bs, a => Region.ready md ops listed ≠ [] ∧ ∀ i ∈ Region.ready md ops listed, i < n ∧ aOp P ops W i (layAny P md ops W n L f (listed.setIfInBounds i true)) bs a
theorem mix_of_lay {n : Nat} {L : Blocks → Array Bool → Act → Prop} : ∀ (f : Nat) (listed : Array Bool) (bs : Blocks) (a : Act), layAny P md ops W n L f listed bs a → mixAny P md ops W n L f listed bs a
 | 0, _, _, _, h => h
 | f + 1, _, _, _, h => ⟨h.1, fun i hi => ⟨(h.2 i hi).1, .inr (aOp_mono (fun bs a => mix_of_lay f _ bs a) (h.2 i hi).2)⟩⟩
def MixWorld (W : World) (bs : Blocks) (w : World) : Prop := Gr W w ∧ ∀ x ∈ bs, w.heap[x.1]? = some (.cells x.2.1 x.2.2)
theorem MixWorld.grow {bs : Blocks} {w w' : World} (h : MixWorld W bs w) (hg : Gr w w') : MixWorld W bs w' :=
 ⟨h.1.trans hg, fun x hx => by
  have h1 := h.2 x hx
  have hlt : x.1 < w.heap.size := (Array.getElem?_eq_some_iff.1 h1).1
  rw [hg.below.block x.1 hlt]; exact h1⟩
theorem mixAny_any {n g : Nat} {L : Blocks → Array Bool → Act → Prop} {Q' : Exit → Act → World → Prop} (hL : ∀ listed bs a w, MixWorld W bs w → L bs listed a → wpAny P md ops Q' g listed a w) :
  ∀ (f : Nat) (listed : Array Bool) (bs : Blocks) (a : Act) (w : World), MixWorld W bs w → mixAny P md ops W n L f listed bs a → wpAny P md ops Q' (f + g) listed a w
 | 0, listed, bs, a, w, hw, h => by rw [Nat.zero_add]; exact hL _ _ _ _ hw h
 | f + 1, listed, bs, a, w, hw, h => by
  rw [show f + 1 + g = (f + g) + 1 by omega]
  refine ⟨fun h0 => absurd h0 h.1, fun i hi => ?_⟩
  unfold wpOp
  rcases (h.2 i hi).2 with ⟨o, ho, v, hv, hk⟩ | ⟨o, ho, mk, zs, T, ⟨hw1, hrun⟩, hk⟩
  ·simp only [ho]
   rcases hv with ⟨hw1, hc⟩ | ⟨hw1, rfl⟩
   ·simp only [hw1, if_true]
    refine .inl ?_
    obtain ⟨gw, rfl⟩ := hw.1
    have h3 := hc gw
    unfold calmAt at h3
    unfold Oper.wp
    generalize (execOp a.eval o).run P (grown W gw) = r at *
    cases r with
    | ok nx w' =>
     cases nx <;> simp only [calmUpon] at h3 <;> simp only [Oper.upon]
     case value u => obtain ⟨e1, e2⟩ := h3; rw [e1, e2]; exact mixAny_any hL f _ _ _ _ hw hk
     case skip => obtain ⟨e1, e2⟩ := h3; rw [e1, ← e2]; exact mixAny_any hL f _ _ _ _ hw hk
     case enter f' args =>
      obtain ⟨e1, hc'⟩ := h3
      rw [e1]
      exact hc'.mono fun e w'' ⟨he, hw''⟩ => by subst he; exact mixAny_any hL f _ _ _ _ (hw.grow hw'') hk
    | halt x w' => simp only [calmUpon] at h3
   ·simp only [hw1, Bool.false_eq_true, if_false]; exact mixAny_any hL f _ _ _ _ hw hk
  ·simp only [ho, hw1, if_true]
   refine .inl ?_
   unfold Oper.wp
   rw [hrun w]
   simp only [Oper.upon]
   refine mixAny_any hL f _ _ _ _ ⟨hw.1.trans (Gr.of (below_alloc (Below.refl _ _) _)), fun x hx => ?_⟩ (hk w.heap.size hw.1.below.size fun x hx e => ?_)
   ·rcases List.mem_cons.1 hx with rfl | hx
    ·show (w.heap.push _)[w.heap.size]? = _
     simp
    ·have h1 := hw.2 x hx
     have hlt : x.1 < w.heap.size := (Array.getElem?_eq_some_iff.1 h1).1
     rw [Below.heap_alloc w _ x.1 hlt]; exact h1
   ·have hlt : x.1 < w.heap.size := (Array.getElem?_eq_some_iff.1 (hw.2 x hx)).1
    omega
theorem mOp_put {j : Nat} {oi oj : Oper} {v : Value} (hj : ops[j]? = some oj) (hap : oi.apart ops oj = true)
  (hsi : ∀ cs b, oi.op ≠ .select cs b) (hsj : ∀ cs b, oj.op ≠ .select cs b) {K : Blocks → Act → Prop} {bs : Blocks} {a : Act}
  (hy : CalmOp P ops W oi v a) (h : mOp P ops W j K bs (a.put oi.dst v)) :
  mOp P ops W j (fun bs' a' => CalmOp P ops W oi v a' ∧ K bs' (a'.put oi.dst v)) bs a := by
 obtain ⟨h1, h2, h3⟩ := Oper.apart_spec hap
 rcases h with ⟨o, ho, u, hu, hk⟩ | ⟨o, ho, mk, zs, T, hA, hk⟩
 ·obtain rfl : o = oj := Option.some.inj (ho.symm.trans hj)
  exact .inl ⟨o, hj, u, hu.unput hsj h1, hy.put hsi h3, by rw [← Act.put_comm a v u h2]; exact hk⟩
 ·obtain rfl : o = oj := Option.some.inj (ho.symm.trans hj)
  exact .inr ⟨o, hj, mk, zs, T, hA.unput hsj h1, fun b hb hn => ⟨hy.put hsi h3, by rw [← Act.put_comm a v _ h2]; exact hk b hb hn⟩⟩
theorem mixAny_first {n i : Nat} {oi : Oper} {v : Value} {L : Blocks → Array Bool → Act → Prop} (hi : ops[i]? = some oi) (hsel : ∀ (j : Nat) (o : Oper) cs b, ops[j]? = some o → o.op ≠ .select cs b)
  (hs : Region.sinkB md ops n = true) (hc : Region.chainB md ops n = true) (hn : n < ops.size) (hin : i < n)
  (hdone : ∀ bs listed a, L bs listed a → ∀ j ∈ Region.ready md ops listed, n ≤ j) :
  ∀ (f : Nat) (listed : Array Bool) (bs : Blocks) (a : Act), HeadInv md ops n listed →
   (∀ j oj, ops[j]? = some oj → j ≠ i → listed.getD j true = false → (∀ e ∈ oj.after, Region.binds md e = true → e.on ≠ i) → oi.apart ops oj = true) →
   i ∈ Region.ready md ops listed → CalmOp P ops W oi v a →
   mixAny P md ops W n L f (listed.setIfInBounds i true) bs (a.put oi.dst v) → mixAny P md ops W n L (f + 1) listed bs a := by
 intro f
 induction f with
 | zero =>
  intro listed bs a inv _ hr hy H
  refine ⟨(fun h => by rw [h] at hr; cases hr), fun j hj => ?_⟩
  have hjn : j < n := (Nat.lt_or_ge j n).elim id fun h => absurd hj (tail_waits hs hc hn inv _ i rfl hin (mem_ready.1 hr).1 j h)
  by_cases hji : j = i
  ·subst hji; exact ⟨hjn, .inl ⟨oi, hi, v, hy, H⟩⟩
  ·have := hdone _ _ _ H j (ready_mono hj hji)
   omega
 | succ f ih =>
  intro listed bs a inv hfree hr hy H
  have hun := (mem_ready.1 hr).1
  refine ⟨(fun h => by rw [h] at hr; cases hr), fun j hj => ?_⟩
  have hjn : j < n := (Nat.lt_or_ge j n).elim id fun h => absurd hj (tail_waits hs hc hn inv _ i rfl hin hun j h)
  refine ⟨hjn, ?_⟩
  by_cases hji : j = i
  ·subst hji; exact .inl ⟨oi, hi, v, hy, H⟩
  have h1 := (H.2 j (ready_mono hj hji)).2
  obtain ⟨hjun, oj, hoj, hall⟩ := mem_ready.1 hj
  have hnot : ∀ e ∈ oj.after, Region.binds md e = true → e.on ≠ i := fun e he hb heq => by
   have h1 := hall e he hb
   rw [heq, getD_both hun] at h1
   cases h1
  have h2 := mOp_put hoj (hfree j oj hoj hji hjun hnot) (fun cs b => hsel i oi cs b hi) (fun cs b => hsel j oj cs b hoj) hy h1
  have hfree' : ∀ k ok, ops[k]? = some ok → k ≠ i → (listed.setIfInBounds j true).getD k true = false →
    (∀ e ∈ ok.after, Region.binds md e = true → e.on ≠ i) → oi.apart ops ok = true := fun k ok hk hki hu hno => by
   refine hfree k ok hk hki ?_ hno
   by_cases hjk : j = k
   ·subst hjk; exact hjun
   ·rw [getD_set_ne true hjk] at hu; exact hu
  refine mOp_mono (fun bs' a' h3 => ih (listed.setIfInBounds j true) bs' a' (inv.set hj hjn) hfree' (ready_mono hr (Ne.symm hji)) h3.1 ?_) h2
  rw [Array.setIfInBounds_comm _ _ hji]
  exact h3.2
theorem layAny_perm {n : Nat} {L : Blocks → Array Bool → Act → Prop} (hP : ∀ bs bs' l a, bs.Perm bs' → L bs l a → L bs' l a) : ∀ (f : Nat) (listed : Array Bool) (bs bs' : Blocks) (a : Act), bs.Perm bs' → layAny P md ops W n L f listed bs a → layAny P md ops W n L f listed bs' a
 | 0, _, _, _, _, hp, h => hP _ _ _ _ hp h
 | f + 1, _, _, _, _, hp, h => ⟨h.1, fun i hi => ⟨(h.2 i hi).1, by
   obtain ⟨o, ho, mk, zs, T, hA, hk⟩ := (h.2 i hi).2
   exact ⟨o, ho, mk, zs, T, hA, fun b hb hn => layAny_perm hP f _ _ _ _ (hp.cons _) (hk b hb fun x hx => hn x (hp.mem_iff.1 hx))⟩⟩⟩
theorem layAny_first {n i : Nat} {oi : Oper} {mk : Nat → Value} {zs : Array Value} {T : TypeId} {L : Blocks → Array Bool → Act → Prop} (hP : ∀ bs bs' l a, bs.Perm bs' → L bs l a → L bs' l a) (hi : ops[i]? = some oi) (hsel : ∀ (j : Nat) (o : Oper) cs b, ops[j]? = some o → o.op ≠ .select cs b)
  (hs : Region.sinkB md ops n = true) (hc : Region.chainB md ops n = true) (hn : n < ops.size) (hin : i < n)
  (hdone : ∀ bs listed a, L bs listed a → ∀ j ∈ Region.ready md ops listed, n ≤ j) :
  ∀ (f : Nat) (listed : Array Bool) (bs : Blocks) (a : Act), HeadInv md ops n listed →
   (∀ j oj, ops[j]? = some oj → j ≠ i → listed.getD j true = false → (∀ e ∈ oj.after, Region.binds md e = true → e.on ≠ i) → oi.apart ops oj = true) →
   i ∈ Region.ready md ops listed → AllocOp P ops oi mk zs T a →
   (∀ b, W.heap.size ≤ b → (∀ x ∈ bs, x.1 ≠ b) → layAny P md ops W n L f (listed.setIfInBounds i true) ((b, zs, T) :: bs) (a.put oi.dst (mk b))) → layAny P md ops W n L (f + 1) listed bs a := by
 have fresh : ∀ bs : Blocks, ∃ b, W.heap.size ≤ b ∧ ∀ x ∈ bs, x.1 ≠ b := by
  intro bs
  have : ∃ m, W.heap.size ≤ m ∧ ∀ x ∈ bs, x.1 < m := by
   induction bs with
   | nil => exact ⟨W.heap.size, Nat.le_refl _, fun x hx => by cases hx⟩
   | cons y r ih =>
    obtain ⟨m, h1, h2⟩ := ih
    refine ⟨max m (y.1 + 1), by omega, fun x hx => ?_⟩
    rcases List.mem_cons.1 hx with rfl | hx
    ·omega
    ·have := h2 x hx; omega
  obtain ⟨m, h1, h2⟩ := this
  exact ⟨m, h1, fun x hx e => by have := h2 x hx; omega⟩
 intro f
 induction f with
 | zero =>
  intro listed bs a inv _ hr hy H
  refine ⟨(fun h => by rw [h] at hr; cases hr), fun j hj => ?_⟩
  have hjn : j < n := (Nat.lt_or_ge j n).elim id fun h => absurd hj (tail_waits hs hc hn inv _ i rfl hin (mem_ready.1 hr).1 j h)
  by_cases hji : j = i
  ·subst hji; exact ⟨hjn, oi, hi, mk, zs, T, hy, H⟩
  ·obtain ⟨b, hb, hnb⟩ := fresh bs
   have := hdone _ _ _ (H b hb hnb) j (ready_mono hj hji)
   omega
 | succ f ih =>
  intro listed bs a inv hfree hr hy H
  have hun := (mem_ready.1 hr).1
  refine ⟨(fun h => by rw [h] at hr; cases hr), fun j hj => ?_⟩
  have hjn : j < n := (Nat.lt_or_ge j n).elim id fun h => absurd hj (tail_waits hs hc hn inv _ i rfl hin hun j h)
  refine ⟨hjn, ?_⟩
  by_cases hji : j = i
  ·subst hji; exact ⟨oi, hi, mk, zs, T, hy, H⟩
  obtain ⟨hjun, oj, hoj, hall⟩ := mem_ready.1 hj
  have hnot : ∀ e ∈ oj.after, Region.binds md e = true → e.on ≠ i := fun e he hb heq => by
   have h1 := hall e he hb
   rw [heq, getD_both hun] at h1
   cases h1
  obtain ⟨p1, p2, p3⟩ := Oper.apart_spec (hfree j oj hoj hji hjun hnot)
  have hfree' : ∀ k ok, ops[k]? = some ok → k ≠ i → (listed.setIfInBounds j true).getD k true = false →
    (∀ e ∈ ok.after, Region.binds md e = true → e.on ≠ i) → oi.apart ops ok = true := fun k ok hk hki hu hno => by
   refine hfree k ok hk hki ?_ hno
   by_cases hjk : j = k
   ·subst hjk; exact hjun
   ·rw [getD_set_ne true hjk] at hu; exact hu
  obtain ⟨b0, hb0, hnb0⟩ := fresh bs
  obtain ⟨o', ho', mk', zs', T', hA', _⟩ := ((H b0 hb0 hnb0).2 j (ready_mono hj hji)).2
  obtain rfl : o' = oj := Option.some.inj (ho'.symm.trans hoj)
  have hAj := hA'.unput (oj := oi) (fun cs b => hsel j o' cs b hoj) p1
  refine ⟨o', hoj, mk', zs', T', hAj, fun b' hb' hnb' => ?_⟩
  refine ih (listed.setIfInBounds j true) _ _ (inv.set hj hjn) hfree' (ready_mono hr (Ne.symm hji)) (hy.put (fun cs b => hsel i oi cs b hi) p3) fun b hb hnb => ?_
  have hbs : ∀ x ∈ bs, x.1 ≠ b := fun x hx => hnb x (List.mem_cons_of_mem _ hx)
  obtain ⟨o2, ho2, mk2, zs2, T2, hA2, hk2⟩ := ((H b hb hbs).2 j (ready_mono hj hji)).2
  obtain rfl : o2 = o' := Option.some.inj (ho2.symm.trans hoj)
  have hAj2 := hA2.unput (oj := oi) (fun cs b => hsel j o2 cs b hoj) p1
  have e := (hAj.2 W).symm.trans (hAj2.2 W)
  have ez : zs' = zs2 ∧ T' = T2 := by
   have e2 : W.alloc (.cells zs' T') = W.alloc (.cells zs2 T2) := by injection e
   have e3 : (W.alloc (.cells zs' T')).heap[W.heap.size]? = (W.alloc (.cells zs2 T2)).heap[W.heap.size]? := by rw [e2]
   have e4 : some (Obj.cells zs' T') = some (Obj.cells zs2 T2) := by
    have q : ∀ ob : Obj, (W.alloc ob).heap[W.heap.size]? = some ob := fun ob => by show (W.heap.push ob)[W.heap.size]? = _; simp
    rw [q, q] at e3; exact e3
   injection e4 with e5
   injection e5 with e6 e7
   exact ⟨e6, e7⟩
  obtain ⟨rfl, rfl⟩ := ez
  have em : mk' = mk2 := by
   funext m
   have e1 := (hAj.2 { W with heap := Array.replicate m default }).symm.trans (hAj2.2 { W with heap := Array.replicate m default })
   have e2 : Next.value (mk' (Array.replicate m (default : Obj)).size) = Next.value (mk2 (Array.replicate m (default : Obj)).size) := by injection e1
   rw [Array.size_replicate] at e2
   injection e2
  subst em
  have hne : b ≠ b' := fun e => hnb _ (List.mem_cons_self) e.symm
  have h4 := hk2 b' hb' (fun x hx => by
   rcases List.mem_cons.1 hx with rfl | hx
   ·exact hne
   ·exact hnb' x hx)
  rw [Array.setIfInBounds_comm _ _ hji, ← Act.put_comm a _ _ p2]
  exact layAny_perm hP f _ _ _ _ (List.Perm.swap _ _ _) h4
def wpLay (P : Program) (ops : Array Oper) (W : World) (Q : Blocks → Act → Prop) : List Oper → Blocks → Act → Prop
 | [], bs, a => Q bs a
 | o :: r, bs, a => ∃ mk zs T, AllocOp P ops o mk zs T a ∧ ∀ b, W.heap.size ≤ b → (∀ x ∈ bs, x.1 ≠ b) → wpLay P ops W Q r ((b, zs, T) :: bs) (a.put o.dst (mk b))
def pick (l : List Oper) : List Nat → List Oper
 | [] => []
 | k :: r => (l.drop k).take 1 ++ pick l r
def mixSeq (md : Region.Mode) (ops : Array Oper) (g n : Nat) : List Nat → Array Bool → Bool
 | [], listed => Region.seqB md ops g n listed
 | k :: r, listed => decide (k < n) && (Region.ready md ops listed).contains k && Region.free md ops listed k && mixSeq md ops g n r (listed.setIfInBounds k true)
def mixB (md : Region.Mode) (ops : Array Oper) (qs asx : List Nat) (n : Nat) : Bool :=
 Region.noSelect ops && decide (n < ops.size) && Region.sinkB md ops n && Region.chainB md ops n && decide (qs.length + asx.length = n) && mixSeq md ops (ops.size - n) n (qs ++ asx) (Array.replicate ops.size false)
theorem pick_cons {l : List Oper} {k : Nat} {r : List Nat} {o : Oper} (h : l[k]? = some o) : pick l (k :: r) = o :: pick l r := by
 obtain ⟨hl, hv⟩ := List.getElem?_eq_some_iff.1 h
 simp [pick, List.drop_eq_getElem_cons hl, hv]
section
variable {l : List Oper} {n g : Nat} {Lq : Blocks → Act → Prop}
theorem layAny_lex (hP : ∀ bs bs' a, bs.Perm bs' → Lq bs a → Lq bs' a) (hsel : Region.noSelect l.toArray = true) (hs : Region.sinkB md l.toArray n = true) (hc : Region.chainB md l.toArray n = true) (hn : n < l.toArray.size) :
  ∀ (asx : List Nat) (listed : Array Bool) (bs : Blocks) (a : Act), HeadInv md l.toArray n listed → mixSeq md l.toArray g n asx listed = true → wpLay P l.toArray W Lq (pick l asx) bs a →
   layAny P md l.toArray W n (fun bs' listed' a' => Region.seqB md l.toArray g n listed' = true ∧ Lq bs' a') asx.length listed bs a
 | [], listed, bs, a, _, hB, h => ⟨hB, h⟩
 | k :: r, listed, bs, a, inv, hB, h => by
  simp only [mixSeq, Bool.and_eq_true, decide_eq_true_eq] at hB
  obtain ⟨⟨⟨hkn, hr⟩, hf⟩, hB'⟩ := hB
  have hr' : k ∈ Region.ready md l.toArray listed := by simpa using hr
  obtain ⟨_, o, ho, _⟩ := mem_ready.1 hr'
  have ho' : l[k]? = some o := by simpa using ho
  rw [pick_cons ho'] at h
  obtain ⟨mk, zs, T, hA, hk⟩ := h
  exact layAny_first (fun bs bs' l' a hp hL => ⟨hL.1, hP _ _ _ hp hL.2⟩) ho (Region.noSelect_spec hsel) hs hc hn hkn (fun bs' listed' a' hL => seqB_ready hL.1) r.length listed bs a inv (Region.free_spec ho hf) hr' hA
   fun b hb hnb => layAny_lex hP hsel hs hc hn r _ _ _ (inv.set hr' hkn) hB' (hk b hb hnb)
theorem mixAny_lex (hP : ∀ bs bs' a, bs.Perm bs' → Lq bs a → Lq bs' a) (hsel : Region.noSelect l.toArray = true) (hs : Region.sinkB md l.toArray n = true) (hc : Region.chainB md l.toArray n = true) (hn : n < l.toArray.size) (asx : List Nat) :
  ∀ (qs : List Nat) (listed : Array Bool) (a : Act), HeadInv md l.toArray n listed → mixSeq md l.toArray g n (qs ++ asx) listed = true → wpCalm P l.toArray W (fun a' => wpLay P l.toArray W Lq (pick l asx) [] a') (pick l qs) a →
   mixAny P md l.toArray W n (fun bs' listed' a' => Region.seqB md l.toArray g n listed' = true ∧ Lq bs' a') (qs.length + asx.length) listed [] a
 | [], listed, a, inv, hB, h => by
  rw [List.length_nil, Nat.zero_add]
  exact mix_of_lay _ _ _ _ (layAny_lex hP hsel hs hc hn asx listed [] a inv hB h)
 | k :: r, listed, a, inv, hB, h => by
  simp only [List.cons_append, mixSeq, Bool.and_eq_true, decide_eq_true_eq] at hB
  obtain ⟨⟨⟨hkn, hr⟩, hf⟩, hB'⟩ := hB
  have hr' : k ∈ Region.ready md l.toArray listed := by simpa using hr
  obtain ⟨_, o, ho, _⟩ := mem_ready.1 hr'
  have ho' : l[k]? = some o := by simpa using ho
  rw [pick_cons ho'] at h
  rw [show (k :: r).length + asx.length = (r.length + asx.length) + 1 by simp; omega]
  unfold wpCalm at h
  by_cases hw : Region.wanted o (yielded l.toArray a.tmps) = true
  ·simp only [hw, if_true] at h
   obtain ⟨v, hv, hk⟩ := h
   exact mixAny_first ho (Region.noSelect_spec hsel) hs hc hn hkn (fun bs' listed' a' hL => seqB_ready hL.1) _ listed [] a inv (Region.free_spec ho hf) hr' (.inl ⟨hw, hv⟩)
    (mixAny_lex hP hsel hs hc hn asx r _ _ (inv.set hr' hkn) hB' hk)
  ·simp only [hw] at h
   exact mixAny_first ho (Region.noSelect_spec hsel) hs hc hn hkn (fun bs' listed' a' hL => seqB_ready hL.1) _ listed [] a inv (Region.free_spec ho hf) hr' (.inr ⟨by simpa using hw, rfl⟩)
    (mixAny_lex hP hsel hs hc hn asx r _ _ (inv.set hr' hkn) hB' h)
end
theorem wp_region_mix {id : Nat} {Q : Exit → Act → World → Prop} {a : Act} {l : List Oper} (qs asx : List Nat) (n : Nat) (hm : P.follows .mixedOrders = true) (hB : mixB .any l.toArray qs asx n = true)
  (h : wpCalm P l.toArray W (fun a' => wpLay P l.toArray W (fun bs a'' => ∀ w', MixWorld W bs w' → wpList P l.toArray Q (l.drop n) a'' w') (pick l asx) [] a') (pick l qs) a) : (Code.region id l.toArray true).wp P Q a W := by
 simp only [mixB, Bool.and_eq_true, decide_eq_true_eq] at hB
 obtain ⟨⟨⟨⟨⟨hsel, hn⟩, hs⟩, hc⟩, hlen⟩, hlex⟩ := hB
 have hdl : (l.drop n).length = l.toArray.size - n := by simp
 have inv0 : HeadInv .any l.toArray n (Array.replicate l.toArray.size false) :=
  ⟨by simp, (fun j oj _ hl => by rw [getD_replicate_false] at hl; cases hl), fun t _ ht => getD_in (by simpa using ht) (getD_replicate_false _ _)⟩
 have H := mixAny_lex (md := .any) (g := l.toArray.size - n) (P := P) (W := W) (fun bs bs' a hp (hL : ∀ w', MixWorld W bs w' → wpList P l.toArray Q (l.drop n) a w') w' hw' => hL w' ⟨hw'.1, fun x hx => hw'.2 x (hp.mem_iff.1 hx)⟩) hsel hs hc hn asx qs _ a inv0 hlex h
 refine wp_region_any hm ?_
 have := mixAny_any (Q' := Q) (g := l.toArray.size - n) (fun listed bs a' w' hw' hL => by
  have := wpAny_of_seq (md := .any) (Q' := Q) (l.drop n) n listed a' w' (fun j => by simp [List.getElem?_drop]) (by rw [hdl]; exact hL.1) (hL.2 w' hw')
  rwa [hdl] at this) _ _ _ _ _ ⟨Gr.of ((Below.refl _ _).drew), fun x hx => by cases hx⟩ H
 rw [hlen, show n + (l.toArray.size - n) = l.toArray.size by simp at hn ⊢; omega] at this
 exact this
/-! A region all of whose operations read, compute, call functions that only make new memory, lay a new block, or store into one laid here, whole. -/
section
theorem not_looks {o : Oper} {d : Tmp} {ty : TypeId} {x y : Operand} (ho : o.op = .store ty x y) (h : d ∉ o.looksAt ops) : x ≠ .tmp d ∧ y ≠ .tmp d := by
 constructor <;> (rintro rfl; exact h (by simp [Oper.looksAt, ho, Op.operands]))
end
section
end
section
variable {l : List Oper} {Lq : Blocks → Act → Prop}
def seqOne (md : Region.Mode) (ops : Array Oper) : List Nat → Array Bool → Bool
 | [], listed => decide (Region.ready md ops listed = [])
 | k :: r, listed => decide (Region.ready md ops listed = [k]) && seqOne md ops r (listed.setIfInBounds k true)
def seqFree (md : Region.Mode) (ops : Array Oper) (ss : List Nat) : List Nat → Array Bool → Bool
 | [], listed => seqOne md ops ss listed
 | k :: r, listed => (Region.ready md ops listed).contains k && Region.free md ops listed k && seqFree md ops ss r (listed.setIfInBounds k true)
end
end
section
variable {P : Program} {ops : Array Oper} {md : Region.Mode} {W : World} {S : Type} {I : S → World → Prop}
structure Ghost (W : World) (I : S → World → Prop) : Prop where
 grow : ∀ s w w', I s w → Gr w w' → I s w'
 out : ∀ s w, I s w → Gr W w
def StStep (P : Program) (I : S → World → Prop) (s : S) (ty : TypeId) (ad : Addr) (v : Value) (s' : S) : Prop := ∀ w, I s w → ∃ w', (storeVar ty ad v).run P w = .ok () w' ∧ I s' w'
def stOp (P : Program) (ops : Array Oper) (I : S → World → Prop) (i : Nat) (K : S → Act → Prop) (s : S) (a : Act) : Prop :=
 ∃ o, ops[i]? = some o ∧ ∃ ty x y ad s', o.op = .store ty x y ∧ o.guard = none ∧ a.eval x = .pointer (some ad) ∧ StStep P I s ty ad (a.eval y) s' ∧ K s' (a.put o.dst undef)
def clOp (P : Program) (ops : Array Oper) (W : World) (i : Nat) (K : S → Act → Prop) (s : S) (a : Act) : Prop := ∃ o, ops[i]? = some o ∧ ∃ v, CalmOp P ops W o v a ∧ K s (a.put o.dst v)
def eiOp (P : Program) (ops : Array Oper) (W : World) (I : S → World → Prop) (i : Nat) (K : S → Act → Prop) (s : S) (a : Act) : Prop := clOp P ops W i K s a ∨ stOp P ops I i K s a
theorem eiOp_mono {i : Nat} {K K' : S → Act → Prop} {s : S} {a : Act} (h : ∀ s a, K s a → K' s a) (hh : eiOp P ops W I i K s a) : eiOp P ops W I i K' s a :=
 hh.imp (fun ⟨o, ho, v, hv, hk⟩ => ⟨o, ho, v, hv, h _ _ hk⟩) (fun ⟨o, ho, ty, x, y, ad, s', h1, h2, h3, h4, hk⟩ => ⟨o, ho, ty, x, y, ad, s', h1, h2, h3, h4, h _ _ hk⟩)
def eiAny (P : Program) (md : Region.Mode) (ops : Array Oper) (W : World) (I : S → World → Prop) (L : S → Act → Prop) : Nat → Array Bool → S → Act → Prop
 | 0, listed, s, a => Region.ready md ops listed = [] ∧ L s a
 | f + 1, listed, s, a => (Region.ready md ops listed = [] → L s a) ∧ ∀ i ∈ Region.ready md ops listed, eiOp P ops W I i (eiAny P md ops W I L f (listed.setIfInBounds i true)) s a
theorem eiAny_any (G : Ghost W I) {L : S → Act → Prop} {Q' : Exit → Act → World → Prop} (hL : ∀ s a w, I s w → L s a → Q' .normal a w) :
  ∀ (f : Nat) (listed : Array Bool) (s : S) (a : Act) (w : World), I s w → eiAny P md ops W I L f listed s a → wpAny P md ops Q' f listed a w
 | 0, listed, s, a, w, hw, h => ⟨h.1, hL _ _ _ hw h.2⟩
 | f + 1, listed, s, a, w, hw, h => by
  refine ⟨fun h0 => hL _ _ _ hw (h.1 h0), fun i hi => ?_⟩
  unfold wpOp
  rcases h.2 i hi with ⟨o, ho, v, hv, hk⟩ | ⟨o, ho, ty, x, y, ad, s', h1, h2, h3, h4, hk⟩
  ·simp only [ho]
   rcases hv with ⟨hw1, hc⟩ | ⟨hw1, rfl⟩
   ·simp only [hw1, if_true]
    refine .inl ?_
    obtain ⟨gw, rfl⟩ := G.out _ _ hw
    have h3 := hc gw
    unfold calmAt at h3
    unfold Oper.wp
    generalize (execOp a.eval o).run P (grown W gw) = r at *
    cases r with
    | ok nx w' =>
     cases nx <;> simp only [calmUpon] at h3 <;> simp only [Oper.upon]
     case value u => obtain ⟨e1, e2⟩ := h3; rw [e1, e2]; exact eiAny_any G hL f _ _ _ _ hw hk
     case skip => obtain ⟨e1, e2⟩ := h3; rw [e1, ← e2]; exact eiAny_any G hL f _ _ _ _ hw hk
     case enter f' args =>
      obtain ⟨e1, hc'⟩ := h3
      rw [e1]
      exact hc'.mono fun e w'' ⟨he, hw''⟩ => by subst he; exact eiAny_any G hL f _ _ _ _ (G.grow _ _ _ hw hw'') hk
    | halt x w' => simp only [calmUpon] at h3
   ·simp only [hw1, Bool.false_eq_true, if_false]; exact eiAny_any G hL f _ _ _ _ hw hk
  ·have hwant : Region.wanted o (yielded ops a.tmps) = true := by simp [Region.wanted, h2]
   simp only [ho, hwant, if_true]
   refine .inl ?_
   obtain ⟨w', hrun, hw'⟩ := h4 w hw
   unfold Oper.wp execOp
   simp only [h1, h3, Instr.storeAt, Instr.sureAddr, Sem.run_bind, Sem.run_pure, Result.andThen_ok, hrun]
   exact eiAny_any G hL f _ _ _ _ hw' hk
theorem eiOp_put {j : Nat} {oi oj : Oper} {v : Value} (hj : ops[j]? = some oj) (hap : oi.apart ops oj = true)
  (hsi : ∀ cs b, oi.op ≠ .select cs b) (hsj : ∀ cs b, oj.op ≠ .select cs b) {K : S → Act → Prop} {s : S} {a : Act}
  (hy : CalmOp P ops W oi v a) (h : eiOp P ops W I j K s (a.put oi.dst v)) :
  eiOp P ops W I j (fun s' a' => CalmOp P ops W oi v a' ∧ K s' (a'.put oi.dst v)) s a := by
 obtain ⟨p1, p2, p3⟩ := Oper.apart_spec hap
 rcases h with ⟨o, ho, u, hu, hk⟩ | ⟨o, ho, ty, x, y, ad, s', h1, h2, h3, h4, hk⟩
 ·obtain rfl : o = oj := Option.some.inj (ho.symm.trans hj)
  exact .inl ⟨o, hj, u, hu.unput hsj p1, hy.put hsi p3, by rw [← Act.put_comm a v u p2]; exact hk⟩
 ·obtain rfl : o = oj := Option.some.inj (ho.symm.trans hj)
  have e1 := Act.eval_put (a := a) (dst := oi.dst) (v := v) (x := x) (fun d hd => (not_looks h1 (p1 d hd)).1)
  have e2 := Act.eval_put (a := a) (dst := oi.dst) (v := v) (x := y) (fun d hd => (not_looks h1 (p1 d hd)).2)
  refine .inr ⟨o, hj, ty, x, y, ad, s', h1, h2, by rw [← e1]; exact h3, by rw [← e2]; exact h4, hy.put hsi p3, by rw [← Act.put_comm a v _ p2]; exact hk⟩
theorem eiAny_first {i : Nat} {oi : Oper} {v : Value} {L : S → Act → Prop} (hi : ops[i]? = some oi) (hsel : ∀ (j : Nat) (o : Oper) cs b, ops[j]? = some o → o.op ≠ .select cs b) :
  ∀ (f : Nat) (listed : Array Bool) (s : S) (a : Act),
   (∀ j oj, ops[j]? = some oj → j ≠ i → listed.getD j true = false → (∀ e ∈ oj.after, Region.binds md e = true → e.on ≠ i) → oi.apart ops oj = true) →
   i ∈ Region.ready md ops listed → CalmOp P ops W oi v a →
   eiAny P md ops W I L f (listed.setIfInBounds i true) s (a.put oi.dst v) → eiAny P md ops W I L (f + 1) listed s a := by
 intro f
 induction f with
 | zero =>
  intro listed s a _ hr hy H
  refine ⟨(fun h => by rw [h] at hr; cases hr), fun j hj => ?_⟩
  by_cases hji : j = i
  ·subst hji; exact .inl ⟨oi, hi, v, hy, H⟩
  ·have := ready_mono hj hji
   rw [H.1] at this
   cases this
 | succ f ih =>
  intro listed s a hfree hr hy H
  have hun := (mem_ready.1 hr).1
  refine ⟨(fun h => by rw [h] at hr; cases hr), fun j hj => ?_⟩
  by_cases hji : j = i
  ·subst hji; exact .inl ⟨oi, hi, v, hy, H⟩
  have h1 := H.2 j (ready_mono hj hji)
  obtain ⟨hjun, oj, hoj, hall⟩ := mem_ready.1 hj
  have hnot : ∀ e ∈ oj.after, Region.binds md e = true → e.on ≠ i := fun e he hb heq => by
   have h1 := hall e he hb
   rw [heq, getD_both hun] at h1
   cases h1
  have h2 := eiOp_put hoj (hfree j oj hoj hji hjun hnot) (fun cs b => hsel i oi cs b hi) (fun cs b => hsel j oj cs b hoj) hy h1
  have hfree' : ∀ k ok, ops[k]? = some ok → k ≠ i → (listed.setIfInBounds j true).getD k true = false →
    (∀ e ∈ ok.after, Region.binds md e = true → e.on ≠ i) → oi.apart ops ok = true := fun k ok hk hki hu hno => by
   refine hfree k ok hk hki ?_ hno
   by_cases hjk : j = k
   ·subst hjk; exact hjun
   ·rw [getD_set_ne true hjk] at hu; exact hu
  refine eiOp_mono (fun s' a' h3 => ih (listed.setIfInBounds j true) s' a' hfree' (ready_mono hr (Ne.symm hji)) h3.1 ?_) h2
  rw [Array.setIfInBounds_comm _ _ hji]
  exact h3.2
end
section
variable {P : Program} {md : Region.Mode} {W : World} {S : Type} {I : S → World → Prop} {l : List Oper} {Lq : S → Act → Prop}
def wpSts (P : Program) (ops : Array Oper) (W : World) (I : S → World → Prop) (Q : S → Act → Prop) : List Oper → S → Act → Prop
 | [], s, a => Q s a
 | o :: r, s, a => (∃ v, CalmOp P ops W o v a ∧ wpSts P ops W I Q r s (a.put o.dst v)) ∨ ∃ ty x y ad s', o.op = .store ty x y ∧ o.guard = none ∧ a.eval x = .pointer (some ad) ∧ StStep P I s ty ad (a.eval y) s' ∧ wpSts P ops W I Q r s' (a.put o.dst undef)
theorem wpSts_nil {ops : Array Oper} {Q : S → Act → Prop} {s : S} {a : Act} (h : Q s a) : wpSts P ops W I Q [] s a := h
theorem wpSts_calm {ops : Array Oper} {Q : S → Act → Prop} {s : S} {a : Act} {o : Oper} {r : List Oper} (v : Value) (hg : o.guard = none) (hc : ∀ g : Growth W, calmAt P o a (grown W g) v) (h : wpSts P ops W I Q r s (a.put o.dst v)) : wpSts P ops W I Q (o :: r) s a :=
 .inl ⟨v, .inl ⟨by simp [Region.wanted, hg], hc⟩, h⟩
theorem wpSts_store {ops : Array Oper} {Q : S → Act → Prop} {s : S} {a : Act} {o : Oper} {r : List Oper} {ty : TypeId} {x y : Operand} (ad : Addr) (s' : S) (ho : o.op = .store ty x y) (hg : o.guard = none) (hx : a.eval x = .pointer (some ad)) (hs : StStep P I s ty ad (a.eval y) s') (h : wpSts P ops W I Q r s' (a.put o.dst undef)) : wpSts P ops W I Q (o :: r) s a :=
 .inr ⟨ty, x, y, ad, s', ho, hg, hx, hs, h⟩
def lateB (md : Region.Mode) (ops : Array Oper) (qs ss : List Nat) : Bool :=
 Region.noSelect ops && decide (qs.length + ss.length = ops.size) && seqFree md ops ss qs (Array.replicate ops.size false)
theorem eiAny_seq : ∀ (ss : List Nat) (listed : Array Bool) (s : S) (a : Act), seqOne md l.toArray ss listed = true → wpSts P l.toArray W I Lq (pick l ss) s a → eiAny P md l.toArray W I Lq ss.length listed s a
 | [], listed, s, a, hB, h => ⟨by simpa [seqOne] using hB, h⟩
 | k :: r, listed, s, a, hB, h => by
  simp only [seqOne, Bool.and_eq_true, decide_eq_true_eq] at hB
  refine ⟨(fun h0 => by rw [hB.1] at h0; cases h0), fun i hi => ?_⟩
  have hk : k ∈ Region.ready md l.toArray listed := by rw [hB.1]; simp
  obtain ⟨_, o, ho, _⟩ := mem_ready.1 hk
  have ho' : l[k]? = some o := by simpa using ho
  rw [hB.1] at hi
  obtain rfl : i = k := by simpa using hi
  rw [pick_cons ho'] at h
  rcases h with ⟨v, hv, hr⟩ | ⟨ty, x, y, ad, s', h1, h2, h3, h4, hr⟩
  ·exact .inl ⟨o, ho, v, hv, eiAny_seq r _ _ _ hB.2 hr⟩
  exact .inr ⟨o, ho, ty, x, y, ad, s', h1, h2, h3, h4, eiAny_seq r _ _ _ hB.2 hr⟩
theorem eiAny_lex (hsel : Region.noSelect l.toArray = true) (ss : List Nat) :
  ∀ (qs : List Nat) (listed : Array Bool) (s : S) (a : Act), seqFree md l.toArray ss qs listed = true → wpCalm P l.toArray W (fun a' => wpSts P l.toArray W I Lq (pick l ss) s a') (pick l qs) a →
   eiAny P md l.toArray W I Lq (qs.length + ss.length) listed s a
 | [], listed, s, a, hB, h => by
  rw [List.length_nil, Nat.zero_add]
  exact eiAny_seq ss listed s a hB h
 | k :: r, listed, s, a, hB, h => by
  simp only [seqFree, Bool.and_eq_true] at hB
  obtain ⟨⟨hr, hf⟩, hB'⟩ := hB
  have hr' : k ∈ Region.ready md l.toArray listed := by simpa using hr
  obtain ⟨_, o, ho, _⟩ := mem_ready.1 hr'
  have ho' : l[k]? = some o := by simpa using ho
  rw [pick_cons ho'] at h
  rw [show (k :: r).length + ss.length = (r.length + ss.length) + 1 by simp; omega]
  unfold wpCalm at h
  by_cases hw : Region.wanted o (yielded l.toArray a.tmps) = true
  ·simp only [hw, if_true] at h
   obtain ⟨v, hv, hk⟩ := h
   exact eiAny_first ho (Region.noSelect_spec hsel) _ listed s a (Region.free_spec ho hf) hr' (.inl ⟨hw, hv⟩) (eiAny_lex hsel ss r _ _ _ hB' hk)
  ·simp only [hw] at h
   exact eiAny_first ho (Region.noSelect_spec hsel) _ listed s a (Region.free_spec ho hf) hr' (.inr ⟨by simpa using hw, rfl⟩) (eiAny_lex hsel ss r _ _ _ hB' h)
theorem wp_region_late {id : Nat} {Q : Exit → Act → World → Prop} {a : Act} {w : World} (G : Ghost W I) (s : S) (hw : I s w.drew) (qs ss : List Nat) (hm : P.follows .mixedOrders = true) (hB : lateB .any l.toArray qs ss = true)
  (h : wpCalm P l.toArray W (fun a' => wpSts P l.toArray W I (fun s a3 => ∀ w', I s w' → Q .normal a3 w') (pick l ss) s a') (pick l qs) a) : (Code.region id l.toArray true).wp P Q a w := by
 simp only [lateB, Bool.and_eq_true, decide_eq_true_eq] at hB
 obtain ⟨⟨hsel, hlen⟩, hlex⟩ := hB
 have H := eiAny_lex (md := .any) (P := P) (W := W) (I := I) hsel ss qs _ s a hlex h
 refine wp_region_any hm ?_
 have := eiAny_any (Q' := Q) G (fun s a' w' hw' (hL : ∀ w', I s w' → Q .normal a' w') => hL w' hw') _ _ _ _ _ hw H
 rw [hlen] at this
 exact this
end
section
variable {P : Program} {W : World}
def OneBlock (W : World) (X : Nat) (T : TypeId) (cs : Array Value) (w : World) : Prop := Gr W w ∧ BlockAt w X cs T
theorem oneBlock_ghost (W : World) (X : Nat) (T : TypeId) : Ghost W (OneBlock W X T) := ⟨fun s w w' h g => ⟨h.1.trans g, h.2.gr g⟩, fun s w h => h.1⟩
theorem oneBlock_store {X : Nat} {T ty : TypeId} {cs : Array Value} {o : Nat} {v : Value} (hX : W.heap.size ≤ X) (ho : o < cs.size) (h1 : ∀ w : World, w.cell? ⟨X, o, none⟩ = some cs[o] → w.frozen? ⟨X, o, none⟩ = false → (storeVar ty ⟨X, o, none⟩ v).run P w = .ok () (w.setCell ⟨X, o, none⟩ v)) :
  StStep P (OneBlock W X T) cs ty ⟨X, o, none⟩ v (cs.setIfInBounds o v) := fun w ⟨hg, hb⟩ =>
 ⟨_, h1 w (by rw [block_cells]; simp) (block_frozen _ _ _ _ _), Gr.of (below_set hg.below hX v), inferInstance⟩
end
theorem wd_at (ws : List ByteArray) (k j : Nat) (hj : j < ws.length + k) : (ws ++ List.replicate k (⟨#[]⟩ : ByteArray))[j]? = some (wd ws j) := by
 unfold wd
 by_cases h : j < ws.length
 ·rw [List.getElem?_append_left h, List.getElem?_eq_getElem h, List.drop_eq_getElem_cons h]; rfl
 ·rw [List.getElem?_append_right (by omega), List.getElem?_replicate, if_pos (by omega), List.drop_eq_nil_of_le (by omega)]; rfl
theorem wd_short {ws : List ByteArray} (h : ∀ x ∈ ws, x.size ≤ 1000000000) (j : Nat) : (wd ws j).size ≤ 1000000000 := headD_short (fun x hx => h x (List.mem_of_mem_drop hx))
theorem Row.cellAt {W : World} {b o : Nat} {l : List ByteArray} (h : Row Value.string W (some ⟨b, o, none⟩) l) (j : Nat) (x : ByteArray) (hj : l[j]? = some x) : W.cell? ⟨b, o + j, none⟩ = some (.string x) := by
 obtain ⟨b', o', e, hb, hc⟩ := h.at_ (by rintro rfl; simp at hj)
 cases e
 exact hc j x hj
theorem words26_32 (s : ByteArray) (hs : s.size ≤ 900000) (w : World) :
  Calls Tryz.prog 41 #[.string s, .int .u8 32] w fun e w' => ∃ v, e = .returned v ∧ OwnS w.heap.size w' v (wordsB 32 s) ∧ Below w.heap.size w w' := words26_any s 32 hs w
theorem small26_w (s : ByteArray) (i : Nat) (h : (wd (wordsB 32 s) i).size ≤ 1000000000) (W : World) :
  Calls Tryz.prog 59 #[.string (wd (wordsB 32 s) i), .int .i64 1000000] W fun e W' => e = .returned (.int .i64 (nW s i)) ∧ Gr W W' := small26_any _ 1000000 (by omega) h W
theorem st26_no {s : ByteArray} (h : goodSt s = false) : Ending.returned (.tuple #[.agg #[.int .i64 0, .int .i64 0, .int .i64 0, .int .i64 0, .int .i64 0], .bool false]) = .returned (.tuple #[.agg (stV s), .bool (goodSt s)]) := by simp [stV, h]
theorem st26_yes {s : ByteArray} (h : goodSt s = true) : Ending.returned (.tuple #[.agg #[.int .i64 (nW s 1), .int .i64 (nW s 3), .int .i64 (nW s 2), .int .i64 (nW s 4), .int .i64 (nW s 5)], .bool true]) = .returned (.tuple #[.agg (stV s), .bool (goodSt s)]) := by simp [stV, h]
theorem store_int {w : World} {X o : Nat} {u : Value} {z : Int} (hc : w.cell? ⟨X, o, none⟩ = some u) (hf : w.frozen? ⟨X, o, none⟩ = false) : (storeVar 3 ⟨X, o, none⟩ (.int .i64 z)).run Tryz.prog w = .ok () (w.setCell ⟨X, o, none⟩ (.int .i64 z)) := by
 go_simp
set_option maxRecDepth 100000 in
set_option maxHeartbeats 4000000 in
theorem stageOf26_any (s : ByteArray) (hs : s.size ≤ 800000) (w : World) : Calls Tryz.prog 66 #[.string s] w fun e w' => e = .returned (.tuple #[.agg (stV s), .bool (goodSt s)]) ∧ Gr w w' := by
 have few : (wordsB 32 s).length ≤ 1000000 := by have := wordsB_le 32 s; omega
 have SH := Lib.hid (fun j => wd_short (fun x hx => by have := wordsB_each 32 s x hx; omega : ∀ x ∈ wordsB 32 s, x.size ≤ 1000000000) j)
 have hne : 1 ≤ (wordsB 32 s).length := by
  have := wordsB_ne 32 s
  cases h : wordsB 32 s with
  | nil => exact absurd h this
  | cons x r => simp
 go_enter Tryz.func66, Tryz.ntmps66
 go_wp2_with ((go_at_call 41; ((with_reducible refine (words26_32 s (by omega) _).mono ?_))))
 rintro _ W1 ⟨v1, rfl, hown0, hbw0⟩
 have hown : OwnS (w.heap.size + 1) W1 v1 (wordsB 32 s) := by simpa using hown0
 have hbw1 : Below (w.heap.size + 1) (w.alloc (.cells #[.int .i64 0, .int .i64 0, .int .i64 0, .int .i64 0, .int .i64 0] 55)) W1 := by simpa using hbw0
 have hsz : w.heap.size + 1 ≤ W1.heap.size := by simpa using hbw0.size
 clear hown0 hbw0
 go_wp2_with (at_builtin; refine wp_append_strs rfl _ _ rfl (w.heap.size + 1) v1 (wordsB 32 s) ?hs1 ?own1 _ (List.replicate 5 (⟨#[]⟩ : ByteArray)) 5 rfl rfl ?hc1 (by simp; omega) ?hb1 ?_)
 case hs1 => rfl
 case own1 => exact hown.alloc_ _
 case hc1 =>
  intro j y hj
  match j, hj with
  | 0, hj => simp at hj; subst hj; simp [go_sem]
  | 1, hj => simp at hj; subst hj; simp [go_sem]
  | 2, hj => simp at hj; subst hj; simp [go_sem]
  | 3, hj => simp at hj; subst hj; simp [go_sem]
  | 4, hj => simp at hj; subst hj; simp [go_sem]
 case hb1 => simp; omega
 intro v2 W2 a2
 have hb2 : Below w.heap.size w W2 := Below.trans (below_alloc (Below.refl _ _) (.cells #[.int .i64 0, .int .i64 0, .int .i64 0, .int .i64 0, .int .i64 0] 55)) (((hbw1.alloc hsz _).trans a2.below).mono (by omega))
 have bR0 : BlockAt W1 w.heap.size #[.int .i64 0, .int .i64 0, .int .i64 0, .int .i64 0, .int .i64 0] 55 := ⟨(hbw1.block w.heap.size (by omega)).trans (inferInstance : BlockAt (w.alloc (.cells #[.int .i64 0, .int .i64 0, .int .i64 0, .int .i64 0, .int .i64 0] 55)) w.heap.size _ _).eq⟩
 haveI bR : BlockAt W2 w.heap.size #[.int .i64 0, .int .i64 0, .int .i64 0, .int .i64 0, .int .i64 0] 55 := a2.keep _ _ _ inferInstance (by decide)
 haveI : Old w.heap.size W2 := bR.old
 obtain ⟨VA, vc, rfl, hvc, hrow⟩ := a2.own.form
 obtain ⟨b, o, rfl, hb, hxx⟩ := hrow.at_ (by simp)
 clear hxx
 have y1 := hrow.cellAt 1 _ (wd_at (wordsB 32 s) 5 1 (by omega))
 have y2 := hrow.cellAt 2 _ (wd_at (wordsB 32 s) 5 2 (by omega))
 have y3 := hrow.cellAt 3 _ (wd_at (wordsB 32 s) 5 3 (by omega))
 have y4 := hrow.cellAt 4 _ (wd_at (wordsB 32 s) 5 4 (by omega))
 have y5 := hrow.cellAt 5 _ (wd_at (wordsB 32 s) 5 5 (by omega))
 haveI : Old b W2 := ⟨hb⟩
 obtain ⟨n, hn⟩ : ∃ n, (wordsB 32 s ++ [(⟨#[]⟩ : ByteArray), ⟨#[]⟩, ⟨#[]⟩, ⟨#[]⟩, ⟨#[]⟩]).length = n + 6 := ⟨(wordsB 32 s).length - 1, by simp; omega⟩
 rw [hn]
 clear a2 hown hbw1 hrow few hne hn
 go_wp2
 have i1 : (1 : Int) < (n : Int) + 6 := by omega
 have i2 : (2 : Int) < (n : Int) + 6 := by omega
 have i3 : (3 : Int) < (n : Int) + 6 := by omega
 have i4 : (4 : Int) < (n : Int) + 6 := by omega
 have i5 : (5 : Int) < (n : Int) + 6 := by omega
 refine wp_region_late (W := W2) (I := OneBlock W2 W2.heap.size 55) (oneBlock_ghost _ _ _) #[.int .i64 0, .int .i64 0, .int .i64 0, .int .i64 0, .int .i64 0] ?hst [0, 1, 2, 3, 4, 5, 6, 7, 8, 9, 10, 11, 12, 13, 14, 15, 16, 17, 18, 19, 20, 21, 23, 26, 29] [22, 24, 25, 27, 28, 30, 31, 32, 33] (by kernel_rfl) (by kernel_rfl) ?_
 case hst => exact ⟨Gr.of (by (with_reducible repeat (first | exact Below.refl _ _ | apply below_alloc | apply Below.drew))), inferInstance⟩
 simp only [pick, List.drop_succ_cons, List.drop_zero, List.take_succ_cons, List.take_zero, List.nil_append, List.cons_append]
 repeat (refine wpCalm_step (fun K hK => ?_); go_simp; first | (refine hK _ ?_; clear hK K) | (apply Exists.intro; refine ⟨fun _ => ?_, hK _ ?_⟩; ((go_at_call 59; exact (small26_w s _ (SH.out _) _))); clear hK K))
 refine wpCalm_nil ?_
 refine wpSts_store ⟨W2.heap.size, 0, none⟩ #[.int .i64 (nW s 1), .int .i64 0, .int .i64 0, .int .i64 0, .int .i64 0] rfl rfl rfl (oneBlock_store (Nat.le_refl _) (by simp) (fun _ hc hf => store_int hc hf)) ?_
 refine wpSts_calm (.pointer (some ⟨W2.heap.size, 2, none⟩)) rfl (fun g => by go_simp) ?_
 refine wpSts_store ⟨W2.heap.size, 2, none⟩ #[.int .i64 (nW s 1), .int .i64 0, .int .i64 (nW s 2), .int .i64 0, .int .i64 0] rfl rfl rfl (oneBlock_store (Nat.le_refl _) (by simp) (fun _ hc hf => store_int hc hf)) ?_
 refine wpSts_calm (.pointer (some ⟨W2.heap.size, 1, none⟩)) rfl (fun g => by go_simp) ?_
 refine wpSts_store ⟨W2.heap.size, 1, none⟩ #[.int .i64 (nW s 1), .int .i64 (nW s 3), .int .i64 (nW s 2), .int .i64 0, .int .i64 0] rfl rfl rfl (oneBlock_store (Nat.le_refl _) (by simp) (fun _ hc hf => store_int hc hf)) ?_
 refine wpSts_calm (.pointer (some ⟨W2.heap.size, 3, none⟩)) rfl (fun g => by go_simp) ?_
 refine wpSts_store ⟨W2.heap.size, 3, none⟩ #[.int .i64 (nW s 1), .int .i64 (nW s 3), .int .i64 (nW s 2), .int .i64 (nW s 4), .int .i64 0] rfl rfl rfl (oneBlock_store (Nat.le_refl _) (by simp) (fun _ hc hf => store_int hc hf)) ?_
 refine wpSts_calm (.pointer (some ⟨W2.heap.size, 4, none⟩)) rfl (fun g => by go_simp) ?_
 refine wpSts_store ⟨W2.heap.size, 4, none⟩ #[.int .i64 (nW s 1), .int .i64 (nW s 3), .int .i64 (nW s 2), .int .i64 (nW s 4), .int .i64 (nW s 5)] rfl rfl rfl (oneBlock_store (Nat.le_refl _) (by simp) (fun _ hc hf => store_int hc hf)) ?_
 refine wpSts_nil ?_
 rintro _ ⟨⟨g3, rfl⟩, bX⟩
 have x0 : (grown W2 g3).cell? ⟨W2.heap.size, 0, none⟩ = some (.int .i64 (nW s 1)) := (block_cells _ _ _ _ _).trans rfl
 have y0' : W2.cell? ⟨w.heap.size, 0, none⟩ = some (.int .i64 0) := (block_cells _ _ _ _ _).trans rfl
 have z0 : W2.frozen? ⟨w.heap.size, 0, none⟩ = false := block_frozen _ _ _ _ _
 have x1 : (grown W2 g3).cell? ⟨W2.heap.size, 1, none⟩ = some (.int .i64 (nW s 3)) := (block_cells _ _ _ _ _).trans rfl
 have y1' : W2.cell? ⟨w.heap.size, 1, none⟩ = some (.int .i64 0) := (block_cells _ _ _ _ _).trans rfl
 have z1 : W2.frozen? ⟨w.heap.size, 1, none⟩ = false := block_frozen _ _ _ _ _
 have x2 : (grown W2 g3).cell? ⟨W2.heap.size, 2, none⟩ = some (.int .i64 (nW s 2)) := (block_cells _ _ _ _ _).trans rfl
 have y2' : W2.cell? ⟨w.heap.size, 2, none⟩ = some (.int .i64 0) := (block_cells _ _ _ _ _).trans rfl
 have z2 : W2.frozen? ⟨w.heap.size, 2, none⟩ = false := block_frozen _ _ _ _ _
 have x3 : (grown W2 g3).cell? ⟨W2.heap.size, 3, none⟩ = some (.int .i64 (nW s 4)) := (block_cells _ _ _ _ _).trans rfl
 have y3' : W2.cell? ⟨w.heap.size, 3, none⟩ = some (.int .i64 0) := (block_cells _ _ _ _ _).trans rfl
 have z3 : W2.frozen? ⟨w.heap.size, 3, none⟩ = false := block_frozen _ _ _ _ _
 have x4 : (grown W2 g3).cell? ⟨W2.heap.size, 4, none⟩ = some (.int .i64 (nW s 5)) := (block_cells _ _ _ _ _).trans rfl
 have y4' : W2.cell? ⟨w.heap.size, 4, none⟩ = some (.int .i64 0) := (block_cells _ _ _ _ _).trans rfl
 have z4 : W2.frozen? ⟨w.heap.size, 4, none⟩ = false := block_frozen _ _ _ _ _
 haveI : Old W2.heap.size (grown W2 g3) := bX.old
 have hb3 : Below w.heap.size w (grown W2 g3) := below_trans hb2 (grown_below _ _)
 rcases Bool.eq_false_or_eq_true (mayStB (nW s 1) (nW s 3) (nW s 2) (nW s 4) (nW s 5)) with hM | hM
 ·have HM := Lib.hid (fun W => mayStage26_any (nW s 1) (nW s 3) (nW s 2) (nW s 4) (nW s 5) W)
  rw [hM] at HM
  have HT := Lib.hid (fun W => stageText26_any (nW s 1) (nW s 3) (nW s 2) (nW s 4) (nW s 5) (bd_nW s) W)
  rcases Bool.eq_false_or_eq_true (stageTextL (nW s 1) (nW s 3) (nW s 2) (nW s 4) (nW s 5) == s.data.toList) with hS | hS
  ·have hg : goodSt s = true := by rw [goodSt, hM, hS]; rfl
   have HG := Lib.hid hg; clear hg
   have hne : (stageTextL (nW s 1) (nW s 3) (nW s 2) (nW s 4) (nW s 5) == s.toList) = true := by rw [Lib.toList_data]; exact hS
   clear hS hM
   go_wp2_with (first | (go_at_call 74; ((with_reducible refine (HM.out _).mono ?_); rintro _ _ ⟨rfl, g4, rfl⟩)) | (go_at_call 75; ((with_reducible refine (HT.out _).mono ?_); rintro _ _ ⟨rfl, g5, rfl⟩)))
   exact bodyPost_ret (v := .tuple #[.agg #[.int .i64 (nW s 1), .int .i64 (nW s 3), .int .i64 (nW s 2), .int .i64 (nW s 4), .int .i64 (nW s 5)], .bool true]) (by simp [results, Tryz.results66, go_sem, x0, x1, x2, x3, x4, y0', y1', y2', y3', y4', z0, z1, z2, z3, z4]) rfl ⟨st26_yes HG.out, Gr.of (by (with_reducible repeat (first | exact hb3 | refine below_set_le ?_ (by omega) _ | refine below_trans ?_ (grown_below _ _))))⟩
  ·have hg : goodSt s = false := by rw [goodSt, hM, hS]; rfl
   have HG := Lib.hid hg; clear hg
   have hne : (stageTextL (nW s 1) (nW s 3) (nW s 2) (nW s 4) (nW s 5) == s.toList) = false := by rw [Lib.toList_data]; exact hS
   clear hS hM
   go_wp2_with (first | (go_at_call 74; ((with_reducible refine (HM.out _).mono ?_); rintro _ _ ⟨rfl, g4, rfl⟩)) | (go_at_call 75; ((with_reducible refine (HT.out _).mono ?_); rintro _ _ ⟨rfl, g5, rfl⟩)))
   exact bodyPost_ret (v := .tuple #[.agg #[.int .i64 0, .int .i64 0, .int .i64 0, .int .i64 0, .int .i64 0], .bool false]) (by simp [results, Tryz.results66, go_sem, x0, x1, x2, x3, x4, y0', y1', y2', y3', y4', z0, z1, z2, z3, z4]) rfl ⟨st26_no HG.out, Gr.of (by (with_reducible repeat (first | exact hb3 | refine below_set_le ?_ (by omega) _ | refine below_trans ?_ (grown_below _ _))))⟩
 ·have HM := Lib.hid (fun W => mayStage26_any (nW s 1) (nW s 3) (nW s 2) (nW s 4) (nW s 5) W)
  rw [hM] at HM
  have hg : goodSt s = false := by rw [goodSt, hM]; rfl
  have HG := Lib.hid hg; clear hg hM
  go_wp2_with ((go_at_call 74; ((with_reducible refine (HM.out _).mono ?_); rintro _ _ ⟨rfl, g4, rfl⟩)))
  exact bodyPost_ret (v := .tuple #[.agg #[.int .i64 0, .int .i64 0, .int .i64 0, .int .i64 0, .int .i64 0], .bool false]) (by simp [results, Tryz.results66, go_sem, x0, x1, x2, x3, x4, y0', y1', y2', y3', y4', z0, z1, z2, z3, z4]) rfl ⟨st26_no HG.out, Gr.of (by (with_reducible repeat (first | exact hb3 | refine below_set_le ?_ (by omega) _ | refine below_trans ?_ (grown_below _ _))))⟩
end Go.Proofs.YtgjdgafoidppaaaGreatDoor
