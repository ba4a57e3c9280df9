/- The reference's ActText, of any act that may be told. Conditions: what is read stands in memory. An act that may be told, told as x, is read back (no program in sight). Conditions: none. -/
import Derived.Test.YtgjdgafoidppaaaGreatDoorQ16
import Derived.Test.YtgjdgafoidppaaaGreatDoorQ12
namespace Go.Proofs.YtgjdgafoidppaaaGreatDoor
open Go.RowKit
set_option linter.unusedVariables false
set_option linter.unusedSimpArgs false
set_option linter.unnecessarySimpa false
theorem picks_ok {n : Nat} {px : List Int} (h : picksB n px = true) : n ≤ 100 ∧ ∀ x ∈ px, 0 ≤ x ∧ x ≤ 1000000 := by
  simp only [picksB, badP, mayN, Bool.and_eq_true, decide_eq_true_eq, Bool.not_eq_true', List.any_eq_false, Bool.not_eq_true, Bool.not_eq_false'] at h
  refine ⟨h.1, fun x hx => ?_⟩
  have := h.2 x hx
  simpa using this
theorem same_zero {k v t s a c : Int} {l : List UInt8} (h : sameB k v t s a c 0 0 0 0 0 0 l [] = true) : k = 0 ∧ v = 0 ∧ t = 0 ∧ s = 0 ∧ a = 0 ∧ c = 0 ∧ l = [] := by
  simp only [sameB, Bool.and_eq_true, beq_iff_eq, decide_eq_true_eq] at h
  simp_all
set_option maxHeartbeats 2000000 in
theorem ractText_any (k nd m ok ov ot os oa oc : Int) (f : Bool) (OD P : Option Addr) (on oq pn pq : Nat) (ol : List UInt8) (px : List Int) (w : World) [hk : Tb w] (hm : mayActB k nd m ok ov ot os oa oc f on pn ol px = true) (B : Bd ov ot os oa oc)
    (hol : ol.length = on) (hoq : on ≤ oq) (hor : Row bv w OD ol) (hpl : px.length = pn) (hpr : Row (Value.int .i64) w P px) :
    Calls Tryz.prog 24 #[.agg #[.int .i64 k, .int .i64 nd, .int .i64 m, .int .i64 ok, .int .u64 ov, .int .u64 ot, .int .i64 os, .int .i64 oa, .int .i64 oc, .slice OD on oq, .bool f, .slice P pn pq]] w fun e w' => e = .returned (.string ⟨(actTextL k nd m ok ov ot os oa oc f ol px).toArray⟩) ∧ Gr w w' := by
  by_cases hk9 : 1 ≤ k ∧ k ≤ 10
  · have h3 : k = 1 ∨ k = 2 ∨ k = 3 ∨ k = 4 ∨ k = 5 ∨ k = 6 ∨ k = 7 ∨ k = 8 ∨ k = 9 ∨ k = 10 := by omega
    rcases h3 with rfl | rfl | rfl | rfl | rfl | rfl | rfl | rfl | rfl | rfl
    · simp only [mayActB, if_true, reduceCtorEq, Int.reduceEq, if_false, Bool.and_eq_true, beq_iff_eq, nodeB, Bool.or_eq_true] at hm
      obtain rfl : f = false := by first | exact hm.1.2 | exact hm.2 | exact hm.1.1.2
      obtain rfl : px = [] := by first | exact hm.2 | exact hm.1.2
      obtain rfl : pn = 0 := by simpa using hpl.symm
      obtain ⟨nd, rfl⟩ := Int.eq_ofNat_of_zero_le (show 0 ≤ nd by omega)
      obtain rfl : m = 0 := by omega
      exact ractText_1 nd ok ov ot os oa oc on ol OD P oq pq w (by omega) B hm.1.1.1.2 hol hoq hor
    · simp only [mayActB, if_true, reduceCtorEq, Int.reduceEq, if_false, Bool.and_eq_true, beq_iff_eq, nodeB, Bool.or_eq_true] at hm
      obtain ⟨rfl, rfl, rfl, rfl, rfl, rfl, rfl⟩ := same_zero (by first | exact hm.2.1 | exact hm.1.2 | exact hm.1.1.2 | exact hm.1.1.1.2 | exact hm.2)
      obtain rfl : on = 0 := by simpa using hol.symm
      obtain rfl : f = false := by first | exact hm.1.2 | exact hm.2 | exact hm.1.1.2
      obtain rfl : px = [] := by first | exact hm.2 | exact hm.1.2
      obtain rfl : pn = 0 := by simpa using hpl.symm
      obtain rfl : nd = 0 := by omega
      have hmn : mayN m = true := by first | exact hm.1.1.1.1 | exact hm.1.1.1.2 | exact hm.1.1.2
      simp only [mayN, Bool.and_eq_true, decide_eq_true_eq] at hmn
      obtain ⟨m, rfl⟩ := Int.eq_ofNat_of_zero_le hmn.1
      exact ractText_2 m OD P oq pq w (by omega)
    · simp only [mayActB, if_true, reduceCtorEq, Int.reduceEq, if_false, Bool.and_eq_true, beq_iff_eq, nodeB, Bool.or_eq_true] at hm
      obtain ⟨rfl, rfl, rfl, rfl, rfl, rfl, rfl⟩ := same_zero (by first | exact hm.2.1 | exact hm.1.2 | exact hm.1.1.2 | exact hm.1.1.1.2 | exact hm.2)
      obtain rfl : on = 0 := by simpa using hol.symm
      obtain rfl : f = false := by first | exact hm.1.2 | exact hm.2 | exact hm.1.1.2
      obtain rfl : px = [] := by first | exact hm.2 | exact hm.1.2
      obtain rfl : pn = 0 := by simpa using hpl.symm
      obtain ⟨nd, rfl⟩ := Int.eq_ofNat_of_zero_le (show 0 ≤ nd by omega)
      obtain rfl : m = 0 := by omega
      exact ractText_3 nd OD P oq pq w (by omega)
    · simp only [mayActB, if_true, reduceCtorEq, Int.reduceEq, if_false, Bool.and_eq_true, beq_iff_eq, nodeB, Bool.or_eq_true] at hm
      obtain ⟨rfl, rfl, rfl, rfl, rfl, rfl, rfl⟩ := same_zero (by first | exact hm.2.1 | exact hm.1.2 | exact hm.1.1.2 | exact hm.1.1.1.2 | exact hm.2)
      obtain rfl : on = 0 := by simpa using hol.symm
      obtain rfl : f = false := by first | exact hm.1.2 | exact hm.2 | exact hm.1.1.2
      obtain ⟨nd, rfl⟩ := Int.eq_ofNat_of_zero_le (show 0 ≤ nd by omega)
      obtain rfl : m = 0 := by omega
      have hpp := picks_ok (show picksB pn px = true by first | exact hm.1.1.1.2 | exact hm.1.1.2)
      exact ractText_4 nd pn px OD P oq pq w (by omega) hpl hpp.1 hpp.2 hpr
    · simp only [mayActB, if_true, reduceCtorEq, Int.reduceEq, if_false, Bool.and_eq_true, beq_iff_eq, nodeB, Bool.or_eq_true] at hm
      obtain ⟨rfl, rfl, rfl, rfl, rfl, rfl, rfl⟩ := same_zero (by first | exact hm.2.1 | exact hm.1.2 | exact hm.1.1.2 | exact hm.1.1.1.2 | exact hm.2)
      obtain rfl : on = 0 := by simpa using hol.symm
      obtain rfl : f = false := by first | exact hm.1.2 | exact hm.2 | exact hm.1.1.2
      obtain ⟨nd, rfl⟩ := Int.eq_ofNat_of_zero_le (show 0 ≤ nd by omega)
      obtain rfl : m = 0 := by omega
      have hpp := picks_ok (show picksB pn px = true by first | exact hm.1.1.1.2 | exact hm.1.1.2)
      exact ractText_5 nd pn px OD P oq pq w (by omega) hpl hpp.1 hpp.2 hpr
    · simp only [mayActB, if_true, reduceCtorEq, Int.reduceEq, if_false, Bool.and_eq_true, beq_iff_eq, nodeB, Bool.or_eq_true] at hm
      obtain ⟨rfl, rfl, rfl, rfl, rfl, rfl, rfl⟩ := same_zero (by first | exact hm.2.1 | exact hm.1.2 | exact hm.1.1.2 | exact hm.1.1.1.2 | exact hm.2)
      obtain rfl : on = 0 := by simpa using hol.symm
      obtain rfl : f = false := by first | exact hm.1.2 | exact hm.2 | exact hm.1.1.2
      obtain rfl : px = [] := by first | exact hm.2 | exact hm.1.2
      obtain rfl : pn = 0 := by simpa using hpl.symm
      obtain ⟨nd, rfl⟩ := Int.eq_ofNat_of_zero_le (show 0 ≤ nd by omega)
      have hmn : mayN m = true := by first | exact hm.1.1.1.1 | exact hm.1.1.1.2 | exact hm.1.1.2
      simp only [mayN, Bool.and_eq_true, decide_eq_true_eq] at hmn
      obtain ⟨m, rfl⟩ := Int.eq_ofNat_of_zero_le hmn.1
      exact ractText_6 nd m OD P oq pq w (by omega) (by omega)
    · simp only [mayActB, if_true, reduceCtorEq, Int.reduceEq, if_false, Bool.and_eq_true, beq_iff_eq, nodeB, Bool.or_eq_true] at hm
      obtain ⟨rfl, rfl, rfl, rfl, rfl, rfl, rfl⟩ := same_zero (by first | exact hm.2.1 | exact hm.1.2 | exact hm.1.1.2 | exact hm.1.1.1.2 | exact hm.2)
      obtain rfl : on = 0 := by simpa using hol.symm
      obtain rfl : px = [] := by first | exact hm.2 | exact hm.1.2
      obtain rfl : pn = 0 := by simpa using hpl.symm
      obtain ⟨nd, rfl⟩ := Int.eq_ofNat_of_zero_le (show 0 ≤ nd by omega)
      obtain rfl : m = 0 := by omega
      cases f
      · exact ractText_7 nd OD P oq pq w (by omega)
      · exact ractText_17 nd OD P oq pq w (by omega)
    · simp only [mayActB, if_true, reduceCtorEq, Int.reduceEq, if_false, Bool.and_eq_true, beq_iff_eq, nodeB, Bool.or_eq_true] at hm
      obtain ⟨rfl, rfl, rfl, rfl, rfl, rfl, rfl⟩ := same_zero (by first | exact hm.2.1 | exact hm.1.2 | exact hm.1.1.2 | exact hm.1.1.1.2 | exact hm.2)
      obtain rfl : on = 0 := by simpa using hol.symm
      obtain rfl : f = false := by first | exact hm.1.2 | exact hm.2 | exact hm.1.1.2
      obtain rfl : px = [] := by first | exact hm.2 | exact hm.1.2
      obtain rfl : pn = 0 := by simpa using hpl.symm
      obtain ⟨nd, rfl⟩ := Int.eq_ofNat_of_zero_le (show 0 ≤ nd by omega)
      obtain rfl : m = 0 := by omega
      exact ractText_8 nd OD P oq pq w (by omega)
    · simp only [mayActB, if_true, reduceCtorEq, Int.reduceEq, if_false, Bool.and_eq_true, beq_iff_eq, nodeB, Bool.or_eq_true] at hm
      obtain ⟨rfl, rfl, rfl, rfl, rfl, rfl, rfl⟩ := same_zero (by first | exact hm.2.1 | exact hm.1.2 | exact hm.1.1.2 | exact hm.1.1.1.2 | exact hm.2)
      obtain rfl : on = 0 := by simpa using hol.symm
      obtain rfl : f = false := by first | exact hm.1.2 | exact hm.2 | exact hm.1.1.2
      obtain rfl : px = [] := by first | exact hm.2 | exact hm.1.2
      obtain rfl : pn = 0 := by simpa using hpl.symm
      obtain ⟨nd, rfl⟩ := Int.eq_ofNat_of_zero_le (show 0 ≤ nd by omega)
      have hmn : mayN m = true := by first | exact hm.1.1.1.1 | exact hm.1.1.1.2 | exact hm.1.1.2
      simp only [mayN, Bool.and_eq_true, decide_eq_true_eq] at hmn
      obtain ⟨m, rfl⟩ := Int.eq_ofNat_of_zero_le hmn.1
      exact ractText_9 nd m OD P oq pq w (by omega) (by omega)
    · simp only [mayActB, if_true, reduceCtorEq, Int.reduceEq, if_false, Bool.and_eq_true, beq_iff_eq, nodeB, Bool.or_eq_true] at hm
      obtain ⟨rfl, rfl, rfl, rfl, rfl, rfl, rfl⟩ := same_zero (by first | exact hm.2.1 | exact hm.1.2 | exact hm.1.1.2 | exact hm.1.1.1.2 | exact hm.2)
      obtain rfl : on = 0 := by simpa using hol.symm
      obtain rfl : f = false := by first | exact hm.1.2 | exact hm.2 | exact hm.1.1.2
      obtain rfl : px = [] := by first | exact hm.2 | exact hm.1.2
      obtain rfl : pn = 0 := by simpa using hpl.symm
      obtain rfl : nd = 0 := by omega
      obtain rfl : m = 0 := by omega
      exact ractText_10 OD P oq pq w
  · unfold mayActB at hm
    repeat (rw [if_neg (by omega)] at hm)
    cases hm
end Go.Proofs.YtgjdgafoidppaaaGreatDoor
namespace Go.Proofs.YtgjdgafoidppaaaGreatDoor
open Go.RowKit
set_option linter.unusedVariables false
set_option linter.unusedSimpArgs false
set_option linter.unnecessarySimpa false
theorem dec_no (c : UInt8) (hc : digB c = false) (n : Nat) : c ∉ Lib.decDigits n := by
  intro hm
  have h2 := (decDigits_all n).2.1
  rw [List.all_eq_true] at h2
  rw [h2 c hm] at hc
  cases hc
theorem pick_no (c : UInt8) (hc : digB c = false) {px : List Int} (h : ∀ n ∈ px, 0 ≤ n ∧ n ≤ 1000000) : ∀ y ∈ (pickT px).map (·.data.toList), c ∉ y := by
  intro y hy
  simp only [pickT, List.map_map, List.mem_map, Function.comp] at hy
  obtain ⟨n, hn, rfl⟩ := hy
  obtain ⟨u, rfl⟩ := Int.eq_ofNat_of_zero_le (h n hn).1
  simpa [Lib.itoa_nonneg] using dec_no c hc u
theorem pick_words {px : List Int} (hne : px ≠ []) (h : ∀ n ∈ px, 0 ≤ n ∧ n ≤ 1000000) : rowL (pickT px) = Lib.join ((pickT px).map (·.data.toList)) [44] ∧ wordsB 44 ⟨(rowL (pickT px)).toArray⟩ = pickT px := by
  have h0 : pickT px ≠ [] := by simpa [pickT] using hne
  have e : rowL (pickT px) = Lib.join ((pickT px).map (·.data.toList)) [44] := by rw [rowL, if_neg h0]
  refine ⟨e, ?_⟩
  have h1 : cutL 44 (rowL (pickT px)) = (pickT px).map (·.data.toList) := by
    rw [e]
    exact cutL_join 44 _ (by simpa using h0) (pick_no 44 (by decide) h)
  have h2 : wordsB 44 ⟨(rowL (pickT px)).toArray⟩ = (cutL 44 (rowL (pickT px))).map fun l => (⟨l.toArray⟩ : ByteArray) := by simp [wordsB]
  rw [h2, h1, List.map_map]
  simp [Function.comp_def]
theorem pick_nodash {px : List Int} (hne : px ≠ []) (h : ∀ n ∈ px, 0 ≤ n ∧ n ≤ 1000000) : isDash ⟨(rowL (pickT px)).toArray⟩ = false := by
  by_cases hd : isDash ⟨(rowL (pickT px)).toArray⟩ = true
  · exfalso
    have h1 : rowL (pickT px) = [45] := by simpa [isDash] using hd
    have h2 := (pick_words hne h).2
    rw [h1] at h2
    have h3 : wordsB 44 ⟨([45] : List UInt8).toArray⟩ = [⟨#[45]⟩] := by decide
    rw [h3] at h2
    have h4 := pick_no 45 (by decide) h [45] (by rw [← h2]; simp)
    simp at h4
  · simpa using hd
theorem pick_back {px : List Int} (h : ∀ n ∈ px, 0 ≤ n ∧ n ≤ 1000000) : pkOf ⟨(rowL (pickT px)).toArray⟩ = px ∧ pkBad ⟨(rowL (pickT px)).toArray⟩ = false ∧ (32 : UInt8) ∉ rowL (pickT px) := by
  by_cases hne : px = []
  · subst hne
    exact ⟨by rfl, by rfl, by decide⟩
  · have h1 := pick_nodash hne h
    have h2 := (pick_words hne h).2
    have h3 : (pickT px).map numN = px := by
      simp only [pickT, List.map_map]
      conv => rhs; rw [← List.map_id px]
      refine List.map_congr_left (fun n hn => ?_)
      obtain ⟨u, rfl⟩ := Int.eq_ofNat_of_zero_le (h n hn).1
      have := (h _ hn).2
      simp only [Function.comp, numN, id, Lib.itoa_nonneg]
      have := decV_digits u 1000000 (by omega)
      show ((decV (Lib.decDigits u) 1000000 : Nat) : Int) = (u : Int)
      rw [this]
    have h4 : (pickT px).any badN = false := by
      rw [List.any_eq_false]
      intro y hy
      simp only [pickT, List.mem_map] at hy
      obtain ⟨n, hn, rfl⟩ := hy
      obtain ⟨u, rfl⟩ := Int.eq_ofNat_of_zero_le (h n hn).1
      have := (h _ hn).2
      simp [badN, Lib.itoa_nonneg, decOk_digits u 1000000 (by omega)]
    refine ⟨?_, ?_, ?_⟩
    · rw [pkOf, h1, h2]; simpa using h3
    · rw [pkBad, h1, h2, h4]; rfl
    · rw [(pick_words hne h).1]
      exact join_no 32 [44] (by decide) _ (pick_no 32 (by decide) h)
structure BackA (a : ActV) (x : ByteArray) : Prop where
  k : aKOf (hdW (wordsB 32 x)) = a.k
  f : isForce (hdW (wordsB 32 x)) = a.f
  v : acV a.k a.f (wordsB 32 x) = a
  bad : acBad a.k (wordsB 32 x) = false
  rest : acRest a.k (wordsB 32 x) = []
theorem actRound_1 (nd : Nat) (hnd : nd ≤ 1) (op : OpV) (hop : op.may = true) (x : ByteArray) (hx : ActV.text ⟨1, (nd : Int), 0, op, false, []⟩ = x.data.toList) : BackA ⟨1, (nd : Int), 0, op, false, []⟩ x := by
  have hp : actPieces 1 (nd : Int) 0 op.k op.v op.t op.s op.a op.c false op.d [] = [⟨#[97, 115, 107]⟩, ⟨(Lib.itoa (nd : Int)).toArray⟩, ⟨op.text.toArray⟩] := rfl
  have hx2 : Lib.join (([⟨#[97, 115, 107]⟩, ⟨(Lib.itoa (nd : Int)).toArray⟩, ⟨op.text.toArray⟩] : List ByteArray).map (·.data.toList)) [32] = x.data.toList := by rw [← hx]; rfl
  have hw : wordsB 32 x = ⟨#[97, 115, 107]⟩ :: ⟨(Lib.itoa (nd : Int)).toArray⟩ :: wordsB 32 ⟨op.text.toArray⟩ := by
    have e9 : x.data.toList = ([97, 115, 107] : List UInt8) ++ 32 :: (Lib.itoa (nd : Int) ++ 32 :: op.text) := by
      rw [← hx2]
      simp [join_two, join_one]
    have h1 : cutL 32 x.data.toList = ([97, 115, 107] : List UInt8) :: Lib.itoa (nd : Int) :: cutL 32 op.text := by
      rw [e9, cutL_app (by decide), cutL_app (itoa_no32 _ (by omega))]
    rw [wordsB, h1]
    simp [wordsB]
  obtain ⟨o1, o2, o3, o4⟩ := opRound op ⟨op.text.toArray⟩ hop (by simp)
  have hwo : ∃ us, wordsB 32 ⟨op.text.toArray⟩ = us := ⟨_, rfl⟩
  obtain ⟨us, hus⟩ := hwo
  rw [hus] at o1 o2 o3 o4 hw
  have nn := num_back nd 1 hnd
  refine ⟨?_, ?_, ?_, ?_, ?_⟩
  · rw [hw]; exact (show aKOf ⟨#[97, 115, 107]⟩ = 1 by decide)
  · rw [hw]; exact (show isForce ⟨#[97, 115, 107]⟩ = false by decide)
  · rw [hw]; show (⟨1, ((decV (Lib.itoa ((nd : Nat) : Int)) 1 : Nat) : Int), 0, opValK (kOf (hdW us)) us, false, []⟩ : ActV) = ⟨1, (nd : Int), 0, op, false, []⟩
    rw [o1, o2, Lib.itoa_nonneg, nn.1]
  · rw [hw]; show opBadK (kOf (hdW us)) us (false || !decOk (Lib.itoa ((nd : Nat) : Int)) 1) = false
    rw [Lib.itoa_nonneg, nn.2, o1]; exact o3
  · rw [hw]; show us.drop (opLenK (kOf (hdW us))) = []
    rw [o1]; exact o4
theorem actRound_2 (m : Nat) (hmm : m ≤ 1000000) (x : ByteArray) (hx : ActV.text ⟨2, 0, (m : Int), zOp, false, []⟩ = x.data.toList) : BackA ⟨2, 0, (m : Int), zOp, false, []⟩ x := by
  have hp : actPieces 2 0 (m : Int) 0 0 0 0 0 0 false [] [] = [⟨#[99, 97, 114, 114, 121]⟩, ⟨(Lib.itoa (m : Int)).toArray⟩] := rfl
  have hx2 : Lib.join (([⟨#[99, 97, 114, 114, 121]⟩, ⟨(Lib.itoa (m : Int)).toArray⟩] : List ByteArray).map (·.data.toList)) [32] = x.data.toList := by rw [← hx]; exact congrArg (fun z : List ByteArray => Lib.join (z.map (·.data.toList)) [32]) hp.symm
  have hw : wordsB 32 x = [⟨#[99, 97, 114, 114, 121]⟩, ⟨(Lib.itoa (m : Int)).toArray⟩] := by
    have h1 : cutL 32 x.data.toList = ([⟨#[99, 97, 114, 114, 121]⟩, ⟨(Lib.itoa (m : Int)).toArray⟩] : List ByteArray).map (·.data.toList) := by
      rw [← hx2]
      refine cutL_join 32 _ (by simp) (fun y hy => ?_)
      simp only [List.map_cons, List.map_nil, List.mem_cons, List.mem_nil_iff, or_false] at hy
      rcases hy with rfl | rfl
      · decide
      · exact itoa_no32 _ (by omega)
    rw [wordsB, h1, List.map_map]
    simp [Function.comp_def]
  have nm := num_back m 1000000 hmm
  refine ⟨?_, ?_, ?_, ?_, ?_⟩
  · rw [hw]; exact (show aKOf ⟨#[99, 97, 114, 114, 121]⟩ = 2 by decide)
  · rw [hw]; exact (show isForce ⟨#[99, 97, 114, 114, 121]⟩ = false by decide)
  · rw [hw]; show (⟨2, 0, ((decV (Lib.itoa ((m : Nat) : Int)) 1000000 : Nat) : Int), zOp, false, []⟩ : ActV) = ⟨2, 0, (m : Int), zOp, false, []⟩
    simp only [Lib.itoa_nonneg, nm.1, nm.2, Bool.or_false, Bool.false_or]
  · rw [hw]; show (false || !decOk (Lib.itoa ((m : Nat) : Int)) 1000000) = false
    simp only [Lib.itoa_nonneg, nm.1, nm.2, Bool.or_false, Bool.false_or]
  · rw [hw]; rfl
theorem actRound_3 (nd : Nat) (hnd : nd ≤ 1) (x : ByteArray) (hx : ActV.text ⟨3, (nd : Int), 0, zOp, false, []⟩ = x.data.toList) : BackA ⟨3, (nd : Int), 0, zOp, false, []⟩ x := by
  have hp : actPieces 3 (nd : Int) 0 0 0 0 0 0 0 false [] [] = [⟨#[116, 105, 99, 107]⟩, ⟨(Lib.itoa (nd : Int)).toArray⟩] := rfl
  have hx2 : Lib.join (([⟨#[116, 105, 99, 107]⟩, ⟨(Lib.itoa (nd : Int)).toArray⟩] : List ByteArray).map (·.data.toList)) [32] = x.data.toList := by rw [← hx]; exact congrArg (fun z : List ByteArray => Lib.join (z.map (·.data.toList)) [32]) hp.symm
  have hw : wordsB 32 x = [⟨#[116, 105, 99, 107]⟩, ⟨(Lib.itoa (nd : Int)).toArray⟩] := by
    have h1 : cutL 32 x.data.toList = ([⟨#[116, 105, 99, 107]⟩, ⟨(Lib.itoa (nd : Int)).toArray⟩] : List ByteArray).map (·.data.toList) := by
      rw [← hx2]
      refine cutL_join 32 _ (by simp) (fun y hy => ?_)
      simp only [List.map_cons, List.map_nil, List.mem_cons, List.mem_nil_iff, or_false] at hy
      rcases hy with rfl | rfl
      · decide
      · exact itoa_no32 _ (by omega)
    rw [wordsB, h1, List.map_map]
    simp [Function.comp_def]
  have nn := num_back nd 1 hnd
  refine ⟨?_, ?_, ?_, ?_, ?_⟩
  · rw [hw]; exact (show aKOf ⟨#[116, 105, 99, 107]⟩ = 3 by decide)
  · rw [hw]; exact (show isForce ⟨#[116, 105, 99, 107]⟩ = false by decide)
  · rw [hw]; show (⟨3, ((decV (Lib.itoa ((nd : Nat) : Int)) 1 : Nat) : Int), 0, zOp, false, []⟩ : ActV) = ⟨3, (nd : Int), 0, zOp, false, []⟩
    simp only [Lib.itoa_nonneg, nn.1, nn.2, Bool.or_false, Bool.false_or]
  · rw [hw]; show (false || !decOk (Lib.itoa ((nd : Nat) : Int)) 1) = false
    simp only [Lib.itoa_nonneg, nn.1, nn.2, Bool.or_false, Bool.false_or]
  · rw [hw]; rfl
theorem actRound_4 (nd : Nat) (hnd : nd ≤ 1) (px : List Int) (hpx : ∀ n ∈ px, 0 ≤ n ∧ n ≤ 1000000) (x : ByteArray) (hx : ActV.text ⟨4, (nd : Int), 0, zOp, false, px⟩ = x.data.toList) : BackA ⟨4, (nd : Int), 0, zOp, false, px⟩ x := by
  have hp : actPieces 4 (nd : Int) 0 0 0 0 0 0 0 false [] px = [⟨#[111, 102, 102]⟩, ⟨(Lib.itoa (nd : Int)).toArray⟩, ⟨(rowL (pickT px)).toArray⟩] := rfl
  have hx2 : Lib.join (([⟨#[111, 102, 102]⟩, ⟨(Lib.itoa (nd : Int)).toArray⟩, ⟨(rowL (pickT px)).toArray⟩] : List ByteArray).map (·.data.toList)) [32] = x.data.toList := by rw [← hx]; exact congrArg (fun z : List ByteArray => Lib.join (z.map (·.data.toList)) [32]) hp.symm
  have hpk := pick_back hpx
  have hw : wordsB 32 x = [⟨#[111, 102, 102]⟩, ⟨(Lib.itoa (nd : Int)).toArray⟩, ⟨(rowL (pickT px)).toArray⟩] := by
    have h1 : cutL 32 x.data.toList = ([⟨#[111, 102, 102]⟩, ⟨(Lib.itoa (nd : Int)).toArray⟩, ⟨(rowL (pickT px)).toArray⟩] : List ByteArray).map (·.data.toList) := by
      rw [← hx2]
      refine cutL_join 32 _ (by simp) (fun y hy => ?_)
      simp only [List.map_cons, List.map_nil, List.mem_cons, List.mem_nil_iff, or_false] at hy
      rcases hy with rfl | rfl | rfl
      · decide
      · exact itoa_no32 _ (by omega)
      · exact hpk.2.2
    rw [wordsB, h1, List.map_map]
    simp [Function.comp_def]
  have nn := num_back nd 1 hnd
  refine ⟨?_, ?_, ?_, ?_, ?_⟩
  · rw [hw]; exact (show aKOf ⟨#[111, 102, 102]⟩ = 4 by decide)
  · rw [hw]; exact (show isForce ⟨#[111, 102, 102]⟩ = false by decide)
  · rw [hw]; show (⟨4, ((decV (Lib.itoa ((nd : Nat) : Int)) 1 : Nat) : Int), 0, zOp, false, pkOf ⟨(rowL (pickT px)).toArray⟩⟩ : ActV) = ⟨4, (nd : Int), 0, zOp, false, px⟩
    simp only [Lib.itoa_nonneg, nn.1, nn.2, hpk.1, hpk.2.1, Bool.or_false, Bool.false_or]
  · rw [hw]; show (((false || !decOk (Lib.itoa ((nd : Nat) : Int)) 1) || false) || pkBad ⟨(rowL (pickT px)).toArray⟩) = false
    simp only [Lib.itoa_nonneg, nn.1, nn.2, hpk.1, hpk.2.1, Bool.or_false, Bool.false_or]
  · rw [hw]; rfl
theorem actRound_5 (nd : Nat) (hnd : nd ≤ 1) (px : List Int) (hpx : ∀ n ∈ px, 0 ≤ n ∧ n ≤ 1000000) (x : ByteArray) (hx : ActV.text ⟨5, (nd : Int), 0, zOp, false, px⟩ = x.data.toList) : BackA ⟨5, (nd : Int), 0, zOp, false, px⟩ x := by
  have hp : actPieces 5 (nd : Int) 0 0 0 0 0 0 0 false [] px = [⟨#[111, 110]⟩, ⟨(Lib.itoa (nd : Int)).toArray⟩, ⟨(rowL (pickT px)).toArray⟩] := rfl
  have hx2 : Lib.join (([⟨#[111, 110]⟩, ⟨(Lib.itoa (nd : Int)).toArray⟩, ⟨(rowL (pickT px)).toArray⟩] : List ByteArray).map (·.data.toList)) [32] = x.data.toList := by rw [← hx]; exact congrArg (fun z : List ByteArray => Lib.join (z.map (·.data.toList)) [32]) hp.symm
  have hpk := pick_back hpx
  have hw : wordsB 32 x = [⟨#[111, 110]⟩, ⟨(Lib.itoa (nd : Int)).toArray⟩, ⟨(rowL (pickT px)).toArray⟩] := by
    have h1 : cutL 32 x.data.toList = ([⟨#[111, 110]⟩, ⟨(Lib.itoa (nd : Int)).toArray⟩, ⟨(rowL (pickT px)).toArray⟩] : List ByteArray).map (·.data.toList) := by
      rw [← hx2]
      refine cutL_join 32 _ (by simp) (fun y hy => ?_)
      simp only [List.map_cons, List.map_nil, List.mem_cons, List.mem_nil_iff, or_false] at hy
      rcases hy with rfl | rfl | rfl
      · decide
      · exact itoa_no32 _ (by omega)
      · exact hpk.2.2
    rw [wordsB, h1, List.map_map]
    simp [Function.comp_def]
  have nn := num_back nd 1 hnd
  refine ⟨?_, ?_, ?_, ?_, ?_⟩
  · rw [hw]; exact (show aKOf ⟨#[111, 110]⟩ = 5 by decide)
  · rw [hw]; exact (show isForce ⟨#[111, 110]⟩ = false by decide)
  · rw [hw]; show (⟨5, ((decV (Lib.itoa ((nd : Nat) : Int)) 1 : Nat) : Int), 0, zOp, false, pkOf ⟨(rowL (pickT px)).toArray⟩⟩ : ActV) = ⟨5, (nd : Int), 0, zOp, false, px⟩
    simp only [Lib.itoa_nonneg, nn.1, nn.2, hpk.1, hpk.2.1, Bool.or_false, Bool.false_or]
  · rw [hw]; show (((false || !decOk (Lib.itoa ((nd : Nat) : Int)) 1) || false) || pkBad ⟨(rowL (pickT px)).toArray⟩) = false
    simp only [Lib.itoa_nonneg, nn.1, nn.2, hpk.1, hpk.2.1, Bool.or_false, Bool.false_or]
  · rw [hw]; rfl
theorem actRound_6 (nd : Nat) (hnd : nd ≤ 1) (m : Nat) (hmm : m ≤ 1000000) (x : ByteArray) (hx : ActV.text ⟨6, (nd : Int), (m : Int), zOp, false, []⟩ = x.data.toList) : BackA ⟨6, (nd : Int), (m : Int), zOp, false, []⟩ x := by
  have hp : actPieces 6 (nd : Int) (m : Int) 0 0 0 0 0 0 false [] [] = [⟨#[102, 117, 115, 101]⟩, ⟨(Lib.itoa (nd : Int)).toArray⟩, ⟨(Lib.itoa (m : Int)).toArray⟩] := rfl
  have hx2 : Lib.join (([⟨#[102, 117, 115, 101]⟩, ⟨(Lib.itoa (nd : Int)).toArray⟩, ⟨(Lib.itoa (m : Int)).toArray⟩] : List ByteArray).map (·.data.toList)) [32] = x.data.toList := by rw [← hx]; exact congrArg (fun z : List ByteArray => Lib.join (z.map (·.data.toList)) [32]) hp.symm
  have hw : wordsB 32 x = [⟨#[102, 117, 115, 101]⟩, ⟨(Lib.itoa (nd : Int)).toArray⟩, ⟨(Lib.itoa (m : Int)).toArray⟩] := by
    have h1 : cutL 32 x.data.toList = ([⟨#[102, 117, 115, 101]⟩, ⟨(Lib.itoa (nd : Int)).toArray⟩, ⟨(Lib.itoa (m : Int)).toArray⟩] : List ByteArray).map (·.data.toList) := by
      rw [← hx2]
      refine cutL_join 32 _ (by simp) (fun y hy => ?_)
      simp only [List.map_cons, List.map_nil, List.mem_cons, List.mem_nil_iff, or_false] at hy
      rcases hy with rfl | rfl | rfl
      · decide
      · exact itoa_no32 _ (by omega)
      · exact itoa_no32 _ (by omega)
    rw [wordsB, h1, List.map_map]
    simp [Function.comp_def]
  have nn := num_back nd 1 hnd
  have nm := num_back m 1000000 hmm
  refine ⟨?_, ?_, ?_, ?_, ?_⟩
  · rw [hw]; exact (show aKOf ⟨#[102, 117, 115, 101]⟩ = 6 by decide)
  · rw [hw]; exact (show isForce ⟨#[102, 117, 115, 101]⟩ = false by decide)
  · rw [hw]; show (⟨6, ((decV (Lib.itoa ((nd : Nat) : Int)) 1 : Nat) : Int), ((decV (Lib.itoa ((m : Nat) : Int)) 1000000 : Nat) : Int), zOp, false, []⟩ : ActV) = ⟨6, (nd : Int), (m : Int), zOp, false, []⟩
    simp only [Lib.itoa_nonneg, nn.1, nn.2, nm.1, nm.2, Bool.or_false, Bool.false_or]
  · rw [hw]; show ((false || !decOk (Lib.itoa ((nd : Nat) : Int)) 1) || !decOk (Lib.itoa ((m : Nat) : Int)) 1000000) = false
    simp only [Lib.itoa_nonneg, nn.1, nn.2, nm.1, nm.2, Bool.or_false, Bool.false_or]
  · rw [hw]; rfl
theorem actRound_7 (nd : Nat) (hnd : nd ≤ 1) (x : ByteArray) (hx : ActV.text ⟨7, (nd : Int), 0, zOp, false, []⟩ = x.data.toList) : BackA ⟨7, (nd : Int), 0, zOp, false, []⟩ x := by
  have hp : actPieces 7 (nd : Int) 0 0 0 0 0 0 0 false [] [] = [⟨#[108, 101, 97, 100]⟩, ⟨(Lib.itoa (nd : Int)).toArray⟩] := rfl
  have hx2 : Lib.join (([⟨#[108, 101, 97, 100]⟩, ⟨(Lib.itoa (nd : Int)).toArray⟩] : List ByteArray).map (·.data.toList)) [32] = x.data.toList := by rw [← hx]; exact congrArg (fun z : List ByteArray => Lib.join (z.map (·.data.toList)) [32]) hp.symm
  have hw : wordsB 32 x = [⟨#[108, 101, 97, 100]⟩, ⟨(Lib.itoa (nd : Int)).toArray⟩] := by
    have h1 : cutL 32 x.data.toList = ([⟨#[108, 101, 97, 100]⟩, ⟨(Lib.itoa (nd : Int)).toArray⟩] : List ByteArray).map (·.data.toList) := by
      rw [← hx2]
      refine cutL_join 32 _ (by simp) (fun y hy => ?_)
      simp only [List.map_cons, List.map_nil, List.mem_cons, List.mem_nil_iff, or_false] at hy
      rcases hy with rfl | rfl
      · decide
      · exact itoa_no32 _ (by omega)
    rw [wordsB, h1, List.map_map]
    simp [Function.comp_def]
  have nn := num_back nd 1 hnd
  refine ⟨?_, ?_, ?_, ?_, ?_⟩
  · rw [hw]; exact (show aKOf ⟨#[108, 101, 97, 100]⟩ = 7 by decide)
  · rw [hw]; exact (show isForce ⟨#[108, 101, 97, 100]⟩ = false by decide)
  · rw [hw]; show (⟨7, ((decV (Lib.itoa ((nd : Nat) : Int)) 1 : Nat) : Int), 0, zOp, false, []⟩ : ActV) = ⟨7, (nd : Int), 0, zOp, false, []⟩
    simp only [Lib.itoa_nonneg, nn.1, nn.2, Bool.or_false, Bool.false_or]
  · rw [hw]; show (false || !decOk (Lib.itoa ((nd : Nat) : Int)) 1) = false
    simp only [Lib.itoa_nonneg, nn.1, nn.2, Bool.or_false, Bool.false_or]
  · rw [hw]; rfl
theorem actRound_8 (nd : Nat) (hnd : nd ≤ 1) (x : ByteArray) (hx : ActV.text ⟨8, (nd : Int), 0, zOp, false, []⟩ = x.data.toList) : BackA ⟨8, (nd : Int), 0, zOp, false, []⟩ x := by
  have hp : actPieces 8 (nd : Int) 0 0 0 0 0 0 0 false [] [] = [⟨#[100, 101, 103, 114, 97, 100, 101]⟩, ⟨(Lib.itoa (nd : Int)).toArray⟩] := rfl
  have hx2 : Lib.join (([⟨#[100, 101, 103, 114, 97, 100, 101]⟩, ⟨(Lib.itoa (nd : Int)).toArray⟩] : List ByteArray).map (·.data.toList)) [32] = x.data.toList := by rw [← hx]; exact congrArg (fun z : List ByteArray => Lib.join (z.map (·.data.toList)) [32]) hp.symm
  have hw : wordsB 32 x = [⟨#[100, 101, 103, 114, 97, 100, 101]⟩, ⟨(Lib.itoa (nd : Int)).toArray⟩] := by
    have h1 : cutL 32 x.data.toList = ([⟨#[100, 101, 103, 114, 97, 100, 101]⟩, ⟨(Lib.itoa (nd : Int)).toArray⟩] : List ByteArray).map (·.data.toList) := by
      rw [← hx2]
      refine cutL_join 32 _ (by simp) (fun y hy => ?_)
      simp only [List.map_cons, List.map_nil, List.mem_cons, List.mem_nil_iff, or_false] at hy
      rcases hy with rfl | rfl
      · decide
      · exact itoa_no32 _ (by omega)
    rw [wordsB, h1, List.map_map]
    simp [Function.comp_def]
  have nn := num_back nd 1 hnd
  refine ⟨?_, ?_, ?_, ?_, ?_⟩
  · rw [hw]; exact (show aKOf ⟨#[100, 101, 103, 114, 97, 100, 101]⟩ = 8 by decide)
  · rw [hw]; exact (show isForce ⟨#[100, 101, 103, 114, 97, 100, 101]⟩ = false by decide)
  · rw [hw]; show (⟨8, ((decV (Lib.itoa ((nd : Nat) : Int)) 1 : Nat) : Int), 0, zOp, false, []⟩ : ActV) = ⟨8, (nd : Int), 0, zOp, false, []⟩
    simp only [Lib.itoa_nonneg, nn.1, nn.2, Bool.or_false, Bool.false_or]
  · rw [hw]; show (false || !decOk (Lib.itoa ((nd : Nat) : Int)) 1) = false
    simp only [Lib.itoa_nonneg, nn.1, nn.2, Bool.or_false, Bool.false_or]
  · rw [hw]; rfl
theorem actRound_9 (nd : Nat) (hnd : nd ≤ 1) (m : Nat) (hmm : m ≤ 1000000) (x : ByteArray) (hx : ActV.text ⟨9, (nd : Int), (m : Int), zOp, false, []⟩ = x.data.toList) : BackA ⟨9, (nd : Int), (m : Int), zOp, false, []⟩ x := by
  have hp : actPieces 9 (nd : Int) (m : Int) 0 0 0 0 0 0 false [] [] = [⟨#[103, 114, 111, 119]⟩, ⟨(Lib.itoa (nd : Int)).toArray⟩, ⟨(Lib.itoa (m : Int)).toArray⟩] := rfl
  have hx2 : Lib.join (([⟨#[103, 114, 111, 119]⟩, ⟨(Lib.itoa (nd : Int)).toArray⟩, ⟨(Lib.itoa (m : Int)).toArray⟩] : List ByteArray).map (·.data.toList)) [32] = x.data.toList := by rw [← hx]; exact congrArg (fun z : List ByteArray => Lib.join (z.map (·.data.toList)) [32]) hp.symm
  have hw : wordsB 32 x = [⟨#[103, 114, 111, 119]⟩, ⟨(Lib.itoa (nd : Int)).toArray⟩, ⟨(Lib.itoa (m : Int)).toArray⟩] := by
    have h1 : cutL 32 x.data.toList = ([⟨#[103, 114, 111, 119]⟩, ⟨(Lib.itoa (nd : Int)).toArray⟩, ⟨(Lib.itoa (m : Int)).toArray⟩] : List ByteArray).map (·.data.toList) := by
      rw [← hx2]
      refine cutL_join 32 _ (by simp) (fun y hy => ?_)
      simp only [List.map_cons, List.map_nil, List.mem_cons, List.mem_nil_iff, or_false] at hy
      rcases hy with rfl | rfl | rfl
      · decide
      · exact itoa_no32 _ (by omega)
      · exact itoa_no32 _ (by omega)
    rw [wordsB, h1, List.map_map]
    simp [Function.comp_def]
  have nn := num_back nd 1 hnd
  have nm := num_back m 1000000 hmm
  refine ⟨?_, ?_, ?_, ?_, ?_⟩
  · rw [hw]; exact (show aKOf ⟨#[103, 114, 111, 119]⟩ = 9 by decide)
  · rw [hw]; exact (show isForce ⟨#[103, 114, 111, 119]⟩ = false by decide)
  · rw [hw]; show (⟨9, ((decV (Lib.itoa ((nd : Nat) : Int)) 1 : Nat) : Int), ((decV (Lib.itoa ((m : Nat) : Int)) 1000000 : Nat) : Int), zOp, false, []⟩ : ActV) = ⟨9, (nd : Int), (m : Int), zOp, false, []⟩
    simp only [Lib.itoa_nonneg, nn.1, nn.2, nm.1, nm.2, Bool.or_false, Bool.false_or]
  · rw [hw]; show ((false || !decOk (Lib.itoa ((nd : Nat) : Int)) 1) || !decOk (Lib.itoa ((m : Nat) : Int)) 1000000) = false
    simp only [Lib.itoa_nonneg, nn.1, nn.2, nm.1, nm.2, Bool.or_false, Bool.false_or]
  · rw [hw]; rfl
theorem actRound_10  (x : ByteArray) (hx : ActV.text ⟨10, 0, 0, zOp, false, []⟩ = x.data.toList) : BackA ⟨10, 0, 0, zOp, false, []⟩ x := by
  have hp : actPieces 10 0 0 0 0 0 0 0 0 false [] [] = [⟨#[97, 108, 108]⟩] := rfl
  have hx2 : Lib.join (([⟨#[97, 108, 108]⟩] : List ByteArray).map (·.data.toList)) [32] = x.data.toList := by rw [← hx]; exact congrArg (fun z : List ByteArray => Lib.join (z.map (·.data.toList)) [32]) hp.symm
  have hw : wordsB 32 x = [⟨#[97, 108, 108]⟩] := by
    have h1 : cutL 32 x.data.toList = ([⟨#[97, 108, 108]⟩] : List ByteArray).map (·.data.toList) := by
      rw [← hx2]
      refine cutL_join 32 _ (by simp) (fun y hy => ?_)
      simp only [List.map_cons, List.map_nil, List.mem_cons, List.mem_nil_iff, or_false] at hy
      rcases hy with rfl
      · decide
    rw [wordsB, h1, List.map_map]
    simp [Function.comp_def]
  refine ⟨?_, ?_, ?_, ?_, ?_⟩
  · rw [hw]; exact (show aKOf ⟨#[97, 108, 108]⟩ = 10 by decide)
  · rw [hw]; exact (show isForce ⟨#[97, 108, 108]⟩ = false by decide)
  · rw [hw]; show (⟨10, 0, 0, zOp, false, []⟩ : ActV) = ⟨10, 0, 0, zOp, false, []⟩
    rfl
  · rw [hw]; show false = false
    rfl
  · rw [hw]; rfl
theorem actRound_17 (nd : Nat) (hnd : nd ≤ 1) (x : ByteArray) (hx : ActV.text ⟨7, (nd : Int), 0, zOp, true, []⟩ = x.data.toList) : BackA ⟨7, (nd : Int), 0, zOp, true, []⟩ x := by
  have hp : actPieces 7 (nd : Int) 0 0 0 0 0 0 0 true [] [] = [⟨#[102, 111, 114, 99, 101]⟩, ⟨(Lib.itoa (nd : Int)).toArray⟩] := rfl
  have hx2 : Lib.join (([⟨#[102, 111, 114, 99, 101]⟩, ⟨(Lib.itoa (nd : Int)).toArray⟩] : List ByteArray).map (·.data.toList)) [32] = x.data.toList := by rw [← hx]; exact congrArg (fun z : List ByteArray => Lib.join (z.map (·.data.toList)) [32]) hp.symm
  have hw : wordsB 32 x = [⟨#[102, 111, 114, 99, 101]⟩, ⟨(Lib.itoa (nd : Int)).toArray⟩] := by
    have h1 : cutL 32 x.data.toList = ([⟨#[102, 111, 114, 99, 101]⟩, ⟨(Lib.itoa (nd : Int)).toArray⟩] : List ByteArray).map (·.data.toList) := by
      rw [← hx2]
      refine cutL_join 32 _ (by simp) (fun y hy => ?_)
      simp only [List.map_cons, List.map_nil, List.mem_cons, List.mem_nil_iff, or_false] at hy
      rcases hy with rfl | rfl
      · decide
      · exact itoa_no32 _ (by omega)
    rw [wordsB, h1, List.map_map]
    simp [Function.comp_def]
  have nn := num_back nd 1 hnd
  refine ⟨?_, ?_, ?_, ?_, ?_⟩
  · rw [hw]; exact (show aKOf ⟨#[102, 111, 114, 99, 101]⟩ = 7 by decide)
  · rw [hw]; exact (show isForce ⟨#[102, 111, 114, 99, 101]⟩ = true by decide)
  · rw [hw]; show (⟨7, ((decV (Lib.itoa ((nd : Nat) : Int)) 1 : Nat) : Int), 0, zOp, true, []⟩ : ActV) = ⟨7, (nd : Int), 0, zOp, true, []⟩
    simp only [Lib.itoa_nonneg, nn.1, nn.2, Bool.or_false, Bool.false_or]
  · rw [hw]; show (false || !decOk (Lib.itoa ((nd : Nat) : Int)) 1) = false
    simp only [Lib.itoa_nonneg, nn.1, nn.2, Bool.or_false, Bool.false_or]
  · rw [hw]; rfl
set_option maxHeartbeats 2000000 in
theorem actRound (a : ActV) (x : ByteArray) (h : a.may = true) (hx : a.text = x.data.toList) : BackA a x := by
  obtain ⟨k, nd, m, ⟨ok, ov, ot, os, oa, oc, ol⟩, f, px⟩ := a
  have hm : mayActB k nd m ok ov ot os oa oc f ol.length px.length ol px = true := h
  by_cases hk9 : 1 ≤ k ∧ k ≤ 10
  · have h3 : k = 1 ∨ k = 2 ∨ k = 3 ∨ k = 4 ∨ k = 5 ∨ k = 6 ∨ k = 7 ∨ k = 8 ∨ k = 9 ∨ k = 10 := by omega
    rcases h3 with rfl | rfl | rfl | rfl | rfl | rfl | rfl | rfl | rfl | rfl
    · simp only [mayActB, if_true, reduceCtorEq, Int.reduceEq, if_false, Bool.and_eq_true, beq_iff_eq, nodeB, Bool.or_eq_true] at hm
      obtain rfl : f = false := by first | exact hm.1.2 | exact hm.2 | exact hm.1.1.2
      obtain rfl : px = [] := by first | exact hm.2 | exact hm.1.2
      obtain ⟨nd, rfl⟩ := Int.eq_ofNat_of_zero_le (show 0 ≤ nd by omega)
      obtain rfl : m = 0 := by omega
      exact actRound_1 nd (by omega) ⟨ok, ov, ot, os, oa, oc, ol⟩ hm.1.1.1.2 x hx
    · simp only [mayActB, if_true, reduceCtorEq, Int.reduceEq, if_false, Bool.and_eq_true, beq_iff_eq, nodeB, Bool.or_eq_true] at hm
      obtain ⟨rfl, rfl, rfl, rfl, rfl, rfl, rfl⟩ := same_zero (by first | exact hm.2.1 | exact hm.1.2 | exact hm.1.1.2 | exact hm.1.1.1.2 | exact hm.2)
      obtain rfl : f = false := by first | exact hm.1.2 | exact hm.2 | exact hm.1.1.2
      obtain rfl : px = [] := by first | exact hm.2 | exact hm.1.2
      obtain rfl : nd = 0 := by omega
      have hmn : mayN m = true := by first | exact hm.1.1.1.1 | exact hm.1.1.1.2 | exact hm.1.1.2
      simp only [mayN, Bool.and_eq_true, decide_eq_true_eq] at hmn
      obtain ⟨m, rfl⟩ := Int.eq_ofNat_of_zero_le hmn.1
      exact actRound_2 m (by omega) x hx
    · simp only [mayActB, if_true, reduceCtorEq, Int.reduceEq, if_false, Bool.and_eq_true, beq_iff_eq, nodeB, Bool.or_eq_true] at hm
      obtain ⟨rfl, rfl, rfl, rfl, rfl, rfl, rfl⟩ := same_zero (by first | exact hm.2.1 | exact hm.1.2 | exact hm.1.1.2 | exact hm.1.1.1.2 | exact hm.2)
      obtain rfl : f = false := by first | exact hm.1.2 | exact hm.2 | exact hm.1.1.2
      obtain rfl : px = [] := by first | exact hm.2 | exact hm.1.2
      obtain ⟨nd, rfl⟩ := Int.eq_ofNat_of_zero_le (show 0 ≤ nd by omega)
      obtain rfl : m = 0 := by omega
      exact actRound_3 nd (by omega) x hx
    · simp only [mayActB, if_true, reduceCtorEq, Int.reduceEq, if_false, Bool.and_eq_true, beq_iff_eq, nodeB, Bool.or_eq_true] at hm
      obtain ⟨rfl, rfl, rfl, rfl, rfl, rfl, rfl⟩ := same_zero (by first | exact hm.2.1 | exact hm.1.2 | exact hm.1.1.2 | exact hm.1.1.1.2 | exact hm.2)
      obtain rfl : f = false := by first | exact hm.1.2 | exact hm.2 | exact hm.1.1.2
      obtain ⟨nd, rfl⟩ := Int.eq_ofNat_of_zero_le (show 0 ≤ nd by omega)
      obtain rfl : m = 0 := by omega
      have hpp := picks_ok (show picksB px.length px = true by first | exact hm.1.1.1.2 | exact hm.1.1.2)
      exact actRound_4 nd (by omega) px hpp.2 x hx
    · simp only [mayActB, if_true, reduceCtorEq, Int.reduceEq, if_false, Bool.and_eq_true, beq_iff_eq, nodeB, Bool.or_eq_true] at hm
      obtain ⟨rfl, rfl, rfl, rfl, rfl, rfl, rfl⟩ := same_zero (by first | exact hm.2.1 | exact hm.1.2 | exact hm.1.1.2 | exact hm.1.1.1.2 | exact hm.2)
      obtain rfl : f = false := by first | exact hm.1.2 | exact hm.2 | exact hm.1.1.2
      obtain ⟨nd, rfl⟩ := Int.eq_ofNat_of_zero_le (show 0 ≤ nd by omega)
      obtain rfl : m = 0 := by omega
      have hpp := picks_ok (show picksB px.length px = true by first | exact hm.1.1.1.2 | exact hm.1.1.2)
      exact actRound_5 nd (by omega) px hpp.2 x hx
    · simp only [mayActB, if_true, reduceCtorEq, Int.reduceEq, if_false, Bool.and_eq_true, beq_iff_eq, nodeB, Bool.or_eq_true] at hm
      obtain ⟨rfl, rfl, rfl, rfl, rfl, rfl, rfl⟩ := same_zero (by first | exact hm.2.1 | exact hm.1.2 | exact hm.1.1.2 | exact hm.1.1.1.2 | exact hm.2)
      obtain rfl : f = false := by first | exact hm.1.2 | exact hm.2 | exact hm.1.1.2
      obtain rfl : px = [] := by first | exact hm.2 | exact hm.1.2
      obtain ⟨nd, rfl⟩ := Int.eq_ofNat_of_zero_le (show 0 ≤ nd by omega)
      have hmn : mayN m = true := by first | exact hm.1.1.1.1 | exact hm.1.1.1.2 | exact hm.1.1.2
      simp only [mayN, Bool.and_eq_true, decide_eq_true_eq] at hmn
      obtain ⟨m, rfl⟩ := Int.eq_ofNat_of_zero_le hmn.1
      exact actRound_6 nd (by omega) m (by omega) x hx
    · simp only [mayActB, if_true, reduceCtorEq, Int.reduceEq, if_false, Bool.and_eq_true, beq_iff_eq, nodeB, Bool.or_eq_true] at hm
      obtain ⟨rfl, rfl, rfl, rfl, rfl, rfl, rfl⟩ := same_zero (by first | exact hm.2.1 | exact hm.1.2 | exact hm.1.1.2 | exact hm.1.1.1.2 | exact hm.2)
      obtain rfl : px = [] := by first | exact hm.2 | exact hm.1.2
      obtain ⟨nd, rfl⟩ := Int.eq_ofNat_of_zero_le (show 0 ≤ nd by omega)
      obtain rfl : m = 0 := by omega
      cases f
      · exact actRound_7 nd (by omega) x hx
      · exact actRound_17 nd (by omega) x hx
    · simp only [mayActB, if_true, reduceCtorEq, Int.reduceEq, if_false, Bool.and_eq_true, beq_iff_eq, nodeB, Bool.or_eq_true] at hm
      obtain ⟨rfl, rfl, rfl, rfl, rfl, rfl, rfl⟩ := same_zero (by first | exact hm.2.1 | exact hm.1.2 | exact hm.1.1.2 | exact hm.1.1.1.2 | exact hm.2)
      obtain rfl : f = false := by first | exact hm.1.2 | exact hm.2 | exact hm.1.1.2
      obtain rfl : px = [] := by first | exact hm.2 | exact hm.1.2
      obtain ⟨nd, rfl⟩ := Int.eq_ofNat_of_zero_le (show 0 ≤ nd by omega)
      obtain rfl : m = 0 := by omega
      exact actRound_8 nd (by omega) x hx
    · simp only [mayActB, if_true, reduceCtorEq, Int.reduceEq, if_false, Bool.and_eq_true, beq_iff_eq, nodeB, Bool.or_eq_true] at hm
      obtain ⟨rfl, rfl, rfl, rfl, rfl, rfl, rfl⟩ := same_zero (by first | exact hm.2.1 | exact hm.1.2 | exact hm.1.1.2 | exact hm.1.1.1.2 | exact hm.2)
      obtain rfl : f = false := by first | exact hm.1.2 | exact hm.2 | exact hm.1.1.2
      obtain rfl : px = [] := by first | exact hm.2 | exact hm.1.2
      obtain ⟨nd, rfl⟩ := Int.eq_ofNat_of_zero_le (show 0 ≤ nd by omega)
      have hmn : mayN m = true := by first | exact hm.1.1.1.1 | exact hm.1.1.1.2 | exact hm.1.1.2
      simp only [mayN, Bool.and_eq_true, decide_eq_true_eq] at hmn
      obtain ⟨m, rfl⟩ := Int.eq_ofNat_of_zero_le hmn.1
      exact actRound_9 nd (by omega) m (by omega) x hx
    · simp only [mayActB, if_true, reduceCtorEq, Int.reduceEq, if_false, Bool.and_eq_true, beq_iff_eq, nodeB, Bool.or_eq_true] at hm
      obtain ⟨rfl, rfl, rfl, rfl, rfl, rfl, rfl⟩ := same_zero (by first | exact hm.2.1 | exact hm.1.2 | exact hm.1.1.2 | exact hm.1.1.1.2 | exact hm.2)
      obtain rfl : f = false := by first | exact hm.1.2 | exact hm.2 | exact hm.1.1.2
      obtain rfl : px = [] := by first | exact hm.2 | exact hm.1.2
      obtain rfl : nd = 0 := by omega
      obtain rfl : m = 0 := by omega
      exact actRound_10  x hx
  · unfold mayActB at hm
    repeat (rw [if_neg (by omega)] at hm)
    cases hm
theorem goodA_text (a : ActV) (x : ByteArray) (h : a.may = true) (hx : a.text = x.data.toList) : goodA x = true ∧ acX x = a := by
  obtain ⟨h1, h2, h3, h4, h5⟩ := actRound a x h hx
  have e : acX x = a := by rw [acX, h1, h2, h3]
  refine ⟨?_, e⟩
  rw [goodA, e, h1, h4, h5, h, hx]
  simp
/-- The reference's operation of some words. -/
def rO (us : List ByteArray) : OpV := rV (kOf (hdW us)) (nD us 1 4294967295) (nD us 2 4294967295) (nD us 2 256) (nD us 2 1048576) (nD us 3 1024) (dataR (hdW (us.drop 3)))
/-- The reference's act of some words. -/
def racV (K : Int) (F : Bool) (ws : List ByteArray) : ActV :=
  if K = 1 then ⟨1, nD ws 1 1, 0, rO (ws.drop 2), F, []⟩ else if K = 0 then ⟨0, nD ws 1 1, 0, zOp, F, []⟩ else acV K F ws
def racX (x : ByteArray) : ActV := racV (aKOf (hdW (wordsB 32 x))) (isForce (hdW (wordsB 32 x))) (wordsB 32 x)
theorem racX_good (x : ByteArray) (h : goodA x = true) : racX x = acX x := by
  have h0 := h
  simp only [goodA, Bool.and_eq_true, beq_iff_eq] at h0
  obtain ⟨⟨_, hm⟩, ht⟩ := h0
  obtain ⟨a, ha⟩ : ∃ a, acX x = a := ⟨_, rfl⟩
  rw [ha] at hm ht ⊢
  obtain ⟨b1, b2, b3, b4, b5⟩ := actRound a x hm ht
  unfold racX
  rw [b1, b2]
  by_cases k1 : a.k = 1
  · obtain ⟨k, nd, m, op, f, px⟩ := a
    simp only at k1
    subst k1
    have hm9 : mayActB 1 nd m op.k op.v op.t op.s op.a op.c f op.d.length px.length op.d px = true := hm
    simp only [mayActB, if_true, Bool.and_eq_true, beq_iff_eq] at hm9
    have hop : op.may = true := hm9.1.1.1.2
    have hnd : nd = 0 ∨ nd = 1 := by have := hm9.1.1.1.1; simpa [nodeB] using this
    -- the words behind the second are the operation's text's
    have hw : ∃ y z, wordsB 32 x = y :: z :: wordsB 32 ⟨op.text.toArray⟩ := by
      obtain ⟨u, rfl⟩ := Int.eq_ofNat_of_zero_le (show 0 ≤ nd by omega)
      have hp : actPieces 1 (u : Int) m op.k op.v op.t op.s op.a op.c f op.d px = [⟨#[97, 115, 107]⟩, ⟨(Lib.itoa (u : Int)).toArray⟩, ⟨op.text.toArray⟩] := rfl
      have hx2 : Lib.join (([⟨#[97, 115, 107]⟩, ⟨(Lib.itoa (u : Int)).toArray⟩, ⟨op.text.toArray⟩] : List ByteArray).map (·.data.toList)) [32] = x.data.toList := by rw [← ht]; rfl
      refine ⟨⟨#[97, 115, 107]⟩, ⟨(Lib.itoa (u : Int)).toArray⟩, ?_⟩
      have e9 : x.data.toList = ([97, 115, 107] : List UInt8) ++ 32 :: (Lib.itoa (u : Int) ++ 32 :: op.text) := by
        rw [← hx2]
        simp [join_two, join_one]
      have h1 : cutL 32 x.data.toList = ([97, 115, 107] : List UInt8) :: Lib.itoa (u : Int) :: cutL 32 op.text := by
        rw [e9, cutL_app (by decide), cutL_app (itoa_no32 _ (by omega))]
      rw [wordsB, h1]
      simp [wordsB]
    obtain ⟨y, z, hw⟩ := hw
    have hg := goodOp_text op ⟨op.text.toArray⟩ hop (by simp)
    have hr := rX_good _ hg.1
    rw [hg.2] at hr
    have hd2 : (wordsB 32 x).drop 2 = wordsB 32 ⟨op.text.toArray⟩ := by rw [hw]; rfl
    have hrO : rO ((wordsB 32 x).drop 2) = op := by rw [hd2]; exact hr
    have e1 : acV 1 f (wordsB 32 x) = ⟨1, nD (wordsB 32 x) 1 1, 0, opValK (kOf (hdW ((wordsB 32 x).drop 2))) ((wordsB 32 x).drop 2), f, []⟩ := rfl
    have e2 : racV 1 f (wordsB 32 x) = ⟨1, nD (wordsB 32 x) 1 1, 0, rO ((wordsB 32 x).drop 2), f, []⟩ := rfl
    simp only at b3 ⊢
    rw [e1] at b3
    rw [e2, hrO]
    cases b3
    rfl
  · by_cases k0 : a.k = 0
    · exfalso
      obtain ⟨k, nd, m, op, f, px⟩ := a
      simp only at k0
      subst k0
      have hm9 : mayActB 0 nd m op.k op.v op.t op.s op.a op.c f op.d.length px.length op.d px = true := hm
      unfold mayActB at hm9
      repeat (rw [if_neg (by omega)] at hm9)
      cases hm9
    · rw [racV, if_neg k1, if_neg k0, b3]
theorem goodA_rac (x : ByteArray) : goodA x = ((racX x).may && ((racX x).text == x.data.toList)) := by
  rcases Bool.eq_false_or_eq_true ((racX x).may && ((racX x).text == x.data.toList)) with h | h
  · have h1 := h
    simp only [Bool.and_eq_true, beq_iff_eq] at h1
    rw [h, (goodA_text _ x h1.1 h1.2).1]
  · rw [h]
    cases hg : goodA x with
    | false => rfl
    | true =>
      rw [racX_good x hg] at h
      have h0 := hg
      simp only [goodA, Bool.and_eq_true] at h0
      rw [h0.1.2, h0.2] at h
      cases h
theorem rO_bd (us : List ByteArray) : Bd (rO us).v (rO us).t (rO us).s (rO us).a (rO us).c := by
  have h1 := nD_le us 1 4294967295
  have h2 := nD_le us 2 4294967295
  have h3 := nD_le us 2 256
  have h4 := nD_le us 2 1048576
  have h5 := nD_le us 3 1024
  unfold rO rV
  repeat' split
  all_goals exact ⟨by simp only []; omega, by simp only []; omega, by simp only []; omega, by simp only []; omega, by simp only []; omega, by simp only []; omega, by simp only []; omega, by simp only []; omega, by simp only []; omega, by simp only []; omega⟩
theorem rO_d (us : List ByteArray) (hw : ∀ y ∈ us, y.size ≤ 200000) : (rO us).d.length ≤ 64000000 := by
  have h : (dataR (hdW (us.drop 3))).length ≤ 64000000 := by
    have h1 := hd_short hw 3
    have h2 := wordsB_le 44 (hdW (us.drop 3))
    rw [dataR, flatR_len]
    omega
  unfold rO rV
  repeat' split
  all_goals first | exact h | exact Nat.zero_le _
theorem racV_bd (K : Int) (hK : 0 ≤ K ∧ K ≤ 10) (F : Bool) (ws : List ByteArray) (hw : ∀ y ∈ ws, y.size ≤ 200000) : Bd (racV K F ws).o.v (racV K F ws).o.t (racV K F ws).o.s (racV K F ws).o.a (racV K F ws).o.c ∧ (0 ≤ (racV K F ws).nd ∧ (racV K F ws).nd ≤ 1) ∧ (0 ≤ (racV K F ws).m ∧ (racV K F ws).m ≤ 1000000) ∧ (racV K F ws).o.d.length ≤ 64000000 ∧ (racV K F ws).pk.length ≤ 300000 ∧ (∀ n ∈ (racV K F ws).pk, 0 ≤ n ∧ n ≤ 1000000) := by
  have h0 := acV_bd K hK F ws hw
  have b1 := rO_bd (ws.drop 2)
  have b2 := rO_d (ws.drop 2) (fun y hy => hw y (List.mem_of_mem_drop hy))
  have z1 : Bd 0 0 0 0 0 := ⟨by omega, by omega, by omega, by omega, by omega, by omega, by omega, by omega, by omega, by omega⟩
  have n1 := nD_le ws 1 1
  unfold racV
  split
  · exact ⟨b1, by simp only []; omega, by simp only []; omega, b2, Nat.zero_le _, fun n hn => by cases hn⟩
  · split
    · exact ⟨z1, by simp only []; omega, by simp only []; omega, Nat.zero_le _, Nat.zero_le _, fun n hn => by cases hn⟩
    · exact h0
end Go.Proofs.YtgjdgafoidppaaaGreatDoor
