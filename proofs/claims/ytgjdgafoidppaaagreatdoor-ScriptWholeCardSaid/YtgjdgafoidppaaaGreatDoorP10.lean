/- An operation's text, cut and read again. Plain Lean, no program in sight. script.OpOf: the operation of a text. Conditions: a text of at most 200000 bytes; the tables stand. -/
import Derived.Test.YtgjdgafoidppaaaGreatDoorP07
import Derived.Test.YtgjdgafoidppaaaGreatDoorP09
namespace Go.Proofs.YtgjdgafoidppaaaGreatDoor
open Go.RowKit
set_option linter.unusedVariables false
set_option linter.unusedSimpArgs false
set_option linter.unnecessarySimpa false
theorem dec_no32 (n : Nat) : (32 : UInt8) ∉ Lib.decDigits n := by
 have := itoa_no32 (n : Int) (by omega)
 rwa [Lib.itoa_nonneg] at this
theorem num_back (n most : Nat) (h : n ≤ most) : decV (Lib.decDigits n) most = n ∧ (!decOk (Lib.decDigits n) most) = false := ⟨decV_digits n most h, by rw [decOk_digits n most h]; rfl⟩
def OpV.may (o : OpV) : Bool := mayOpB o.k o.v o.t o.s o.a o.c o.d.length o.d
def OpV.text (o : OpV) : List UInt8 := opTextL o.k o.v o.t o.s o.a o.c o.d
theorem opRound_1 (v t s a c : Int) (d : List UInt8) (x : ByteArray) (h : mayOpB 1 v t s a c d.length d = true) (hx : opTextL 1 v t s a c d = x.data.toList) :
  kOf (hdW (wordsB 32 x)) = 1 ∧ opValK 1 (wordsB 32 x) = ⟨1, v, t, s, a, c, d⟩ ∧ opBadK 1 (wordsB 32 x) false = false ∧ (wordsB 32 x).drop (opLenK 1) = [] := by
 have E0 : mayOpB 1 v t s a c d.length d = (wVol v && wSize s && (t == 0) && (a == 0) && (c == 0) && (d == [])) := rfl
 rw [E0] at h
 simp only [Bool.and_eq_true, beq_iff_eq, wVol, wTo, wSize, wAt, wCount, wData, decide_eq_true_eq, bne_iff_ne] at h
 have hp : opPieces 1 v t s a c d = [⟨#[99, 114, 101, 97, 116, 101]⟩, ⟨(Lib.decDigits v.toNat).toArray⟩, ⟨(Lib.itoa s).toArray⟩] := rfl
 obtain ⟨v, rfl⟩ := Int.eq_ofNat_of_zero_le (show 0 ≤ v by omega)
 obtain ⟨s, rfl⟩ := Int.eq_ofNat_of_zero_le (show 0 ≤ s by omega)
 have ht : t = 0 := by first | omega | simp_all
 subst ht
 have ha : a = 0 := by first | omega | simp_all
 subst ha
 have hc : c = 0 := by first | omega | simp_all
 subst hc
 have hd : d = [] := by simp_all
 subst hd
 have hw : wordsB 32 x = [⟨#[99, 114, 101, 97, 116, 101]⟩, ⟨(Lib.decDigits (v : Int).toNat).toArray⟩, ⟨(Lib.itoa (s : Int)).toArray⟩] := by
  have h1 : cutL 32 x.data.toList = ([⟨#[99, 114, 101, 97, 116, 101]⟩, ⟨(Lib.decDigits (v : Int).toNat).toArray⟩, ⟨(Lib.itoa (s : Int)).toArray⟩] : List ByteArray).map (·.data.toList) := by
   rw [← hx, opTextL, hp]
   refine cutL_join 32 _ (by simp) (fun y hy => ?_)
   simp only [List.map_cons, List.map_nil, List.mem_cons, List.mem_nil_iff, or_false] at hy
   rcases hy with rfl | rfl | rfl
   ·decide
   ·exact dec_no32 _
   ·exact itoa_no32 _ (by omega)
  rw [wordsB, h1, List.map_map]
  simp [Function.comp_def]
 rw [hw]
 have nv := num_back v 4294967295 (by omega)
 have ns := num_back s 256 (by omega)
 refine ⟨(show kOf ⟨#[99, 114, 101, 97, 116, 101]⟩ = 1 by decide), ?_, ?_, rfl⟩
 ·show (⟨1, ((decV (Lib.decDigits ((v : Nat) : Int).toNat) 4294967295 : Nat) : Int), 0, ((decV (Lib.itoa ((s : Nat) : Int)) 256 : Nat) : Int), 0, 0, []⟩ : OpV) = ⟨1, ((v : Nat) : Int), 0, ((s : Nat) : Int), 0, 0, []⟩
  simp only [Int.toNat_natCast, Lib.itoa_nonneg, nv.1, ns.1]
 ·show (((false || false) || !decOk (Lib.decDigits ((v : Nat) : Int).toNat) 4294967295) || !decOk (Lib.itoa ((s : Nat) : Int)) 256) = false
  simp only [Int.toNat_natCast, Lib.itoa_nonneg, nv.2, ns.2, Bool.or_false]
theorem opRound_2 (v t s a c : Int) (d : List UInt8) (x : ByteArray) (h : mayOpB 2 v t s a c d.length d = true) (hx : opTextL 2 v t s a c d = x.data.toList) :
  kOf (hdW (wordsB 32 x)) = 2 ∧ opValK 2 (wordsB 32 x) = ⟨2, v, t, s, a, c, d⟩ ∧ opBadK 2 (wordsB 32 x) false = false ∧ (wordsB 32 x).drop (opLenK 2) = [] := by
 have E0 : mayOpB 2 v t s a c d.length d = (wVol v && (t == 0) && (s == 0) && (a == 0) && (c == 0) && (d == [])) := rfl
 rw [E0] at h
 simp only [Bool.and_eq_true, beq_iff_eq, wVol, wTo, wSize, wAt, wCount, wData, decide_eq_true_eq, bne_iff_ne] at h
 have hp : opPieces 2 v t s a c d = [⟨#[100, 101, 108, 101, 116, 101]⟩, ⟨(Lib.decDigits v.toNat).toArray⟩] := rfl
 obtain ⟨v, rfl⟩ := Int.eq_ofNat_of_zero_le (show 0 ≤ v by omega)
 have ht : t = 0 := by first | omega | simp_all
 subst ht
 have hs : s = 0 := by first | omega | simp_all
 subst hs
 have ha : a = 0 := by first | omega | simp_all
 subst ha
 have hc : c = 0 := by first | omega | simp_all
 subst hc
 have hd : d = [] := by simp_all
 subst hd
 have hw : wordsB 32 x = [⟨#[100, 101, 108, 101, 116, 101]⟩, ⟨(Lib.decDigits (v : Int).toNat).toArray⟩] := by
  have h1 : cutL 32 x.data.toList = ([⟨#[100, 101, 108, 101, 116, 101]⟩, ⟨(Lib.decDigits (v : Int).toNat).toArray⟩] : List ByteArray).map (·.data.toList) := by
   rw [← hx, opTextL, hp]
   refine cutL_join 32 _ (by simp) (fun y hy => ?_)
   simp only [List.map_cons, List.map_nil, List.mem_cons, List.mem_nil_iff, or_false] at hy
   rcases hy with rfl | rfl
   ·decide
   ·exact dec_no32 _
  rw [wordsB, h1, List.map_map]
  simp [Function.comp_def]
 rw [hw]
 have nv := num_back v 4294967295 (by omega)
 refine ⟨(show kOf ⟨#[100, 101, 108, 101, 116, 101]⟩ = 2 by decide), ?_, ?_, rfl⟩
 ·show (⟨2, ((decV (Lib.decDigits ((v : Nat) : Int).toNat) 4294967295 : Nat) : Int), 0, 0, 0, 0, []⟩ : OpV) = ⟨2, ((v : Nat) : Int), 0, 0, 0, 0, []⟩
  simp only [Int.toNat_natCast, Lib.itoa_nonneg, nv.1]
 ·show ((false || false) || !decOk (Lib.decDigits ((v : Nat) : Int).toNat) 4294967295) = false
  simp only [Int.toNat_natCast, Lib.itoa_nonneg, nv.2, Bool.or_false]
theorem opRound_3 (v t s a c : Int) (d : List UInt8) (x : ByteArray) (h : mayOpB 3 v t s a c d.length d = true) (hx : opTextL 3 v t s a c d = x.data.toList) :
  kOf (hdW (wordsB 32 x)) = 3 ∧ opValK 3 (wordsB 32 x) = ⟨3, v, t, s, a, c, d⟩ ∧ opBadK 3 (wordsB 32 x) false = false ∧ (wordsB 32 x).drop (opLenK 3) = [] := by
 have E0 : mayOpB 3 v t s a c d.length d = (wVol v && wSize s && (t == 0) && (a == 0) && (c == 0) && (d == [])) := rfl
 rw [E0] at h
 simp only [Bool.and_eq_true, beq_iff_eq, wVol, wTo, wSize, wAt, wCount, wData, decide_eq_true_eq, bne_iff_ne] at h
 have hp : opPieces 3 v t s a c d = [⟨#[114, 101, 115, 105, 122, 101]⟩, ⟨(Lib.decDigits v.toNat).toArray⟩, ⟨(Lib.itoa s).toArray⟩] := rfl
 obtain ⟨v, rfl⟩ := Int.eq_ofNat_of_zero_le (show 0 ≤ v by omega)
 obtain ⟨s, rfl⟩ := Int.eq_ofNat_of_zero_le (show 0 ≤ s by omega)
 have ht : t = 0 := by first | omega | simp_all
 subst ht
 have ha : a = 0 := by first | omega | simp_all
 subst ha
 have hc : c = 0 := by first | omega | simp_all
 subst hc
 have hd : d = [] := by simp_all
 subst hd
 have hw : wordsB 32 x = [⟨#[114, 101, 115, 105, 122, 101]⟩, ⟨(Lib.decDigits (v : Int).toNat).toArray⟩, ⟨(Lib.itoa (s : Int)).toArray⟩] := by
  have h1 : cutL 32 x.data.toList = ([⟨#[114, 101, 115, 105, 122, 101]⟩, ⟨(Lib.decDigits (v : Int).toNat).toArray⟩, ⟨(Lib.itoa (s : Int)).toArray⟩] : List ByteArray).map (·.data.toList) := by
   rw [← hx, opTextL, hp]
   refine cutL_join 32 _ (by simp) (fun y hy => ?_)
   simp only [List.map_cons, List.map_nil, List.mem_cons, List.mem_nil_iff, or_false] at hy
   rcases hy with rfl | rfl | rfl
   ·decide
   ·exact dec_no32 _
   ·exact itoa_no32 _ (by omega)
  rw [wordsB, h1, List.map_map]
  simp [Function.comp_def]
 rw [hw]
 have nv := num_back v 4294967295 (by omega)
 have ns := num_back s 256 (by omega)
 refine ⟨(show kOf ⟨#[114, 101, 115, 105, 122, 101]⟩ = 3 by decide), ?_, ?_, rfl⟩
 ·show (⟨3, ((decV (Lib.decDigits ((v : Nat) : Int).toNat) 4294967295 : Nat) : Int), 0, ((decV (Lib.itoa ((s : Nat) : Int)) 256 : Nat) : Int), 0, 0, []⟩ : OpV) = ⟨3, ((v : Nat) : Int), 0, ((s : Nat) : Int), 0, 0, []⟩
  simp only [Int.toNat_natCast, Lib.itoa_nonneg, nv.1, ns.1]
 ·show (((false || false) || !decOk (Lib.decDigits ((v : Nat) : Int).toNat) 4294967295) || !decOk (Lib.itoa ((s : Nat) : Int)) 256) = false
  simp only [Int.toNat_natCast, Lib.itoa_nonneg, nv.2, ns.2, Bool.or_false]
theorem opRound_4 (v t s a c : Int) (d : List UInt8) (x : ByteArray) (h : mayOpB 4 v t s a c d.length d = true) (hx : opTextL 4 v t s a c d = x.data.toList) :
  kOf (hdW (wordsB 32 x)) = 4 ∧ opValK 4 (wordsB 32 x) = ⟨4, v, t, s, a, c, d⟩ ∧ opBadK 4 (wordsB 32 x) false = false ∧ (wordsB 32 x).drop (opLenK 4) = [] := by
 have E0 : mayOpB 4 v t s a c d.length d = (wVol v && wTo t v && (s == 0) && (a == 0) && (c == 0) && (d == [])) := rfl
 rw [E0] at h
 simp only [Bool.and_eq_true, beq_iff_eq, wVol, wTo, wSize, wAt, wCount, wData, decide_eq_true_eq, bne_iff_ne] at h
 have hp : opPieces 4 v t s a c d = [⟨#[115, 110, 97, 112]⟩, ⟨(Lib.decDigits v.toNat).toArray⟩, ⟨(Lib.decDigits t.toNat).toArray⟩] := rfl
 obtain ⟨v, rfl⟩ := Int.eq_ofNat_of_zero_le (show 0 ≤ v by omega)
 obtain ⟨t, rfl⟩ := Int.eq_ofNat_of_zero_le (show 0 ≤ t by omega)
 have hs : s = 0 := by first | omega | simp_all
 subst hs
 have ha : a = 0 := by first | omega | simp_all
 subst ha
 have hc : c = 0 := by first | omega | simp_all
 subst hc
 have hd : d = [] := by simp_all
 subst hd
 have hw : wordsB 32 x = [⟨#[115, 110, 97, 112]⟩, ⟨(Lib.decDigits (v : Int).toNat).toArray⟩, ⟨(Lib.decDigits (t : Int).toNat).toArray⟩] := by
  have h1 : cutL 32 x.data.toList = ([⟨#[115, 110, 97, 112]⟩, ⟨(Lib.decDigits (v : Int).toNat).toArray⟩, ⟨(Lib.decDigits (t : Int).toNat).toArray⟩] : List ByteArray).map (·.data.toList) := by
   rw [← hx, opTextL, hp]
   refine cutL_join 32 _ (by simp) (fun y hy => ?_)
   simp only [List.map_cons, List.map_nil, List.mem_cons, List.mem_nil_iff, or_false] at hy
   rcases hy with rfl | rfl | rfl
   ·decide
   ·exact dec_no32 _
   ·exact dec_no32 _
  rw [wordsB, h1, List.map_map]
  simp [Function.comp_def]
 rw [hw]
 have nv := num_back v 4294967295 (by omega)
 have nt := num_back t 4294967295 (by omega)
 refine ⟨(show kOf ⟨#[115, 110, 97, 112]⟩ = 4 by decide), ?_, ?_, rfl⟩
 ·show (⟨4, ((decV (Lib.decDigits ((v : Nat) : Int).toNat) 4294967295 : Nat) : Int), ((decV (Lib.decDigits ((t : Nat) : Int).toNat) 4294967295 : Nat) : Int), 0, 0, 0, []⟩ : OpV) = ⟨4, ((v : Nat) : Int), ((t : Nat) : Int), 0, 0, 0, []⟩
  simp only [Int.toNat_natCast, Lib.itoa_nonneg, nv.1, nt.1]
 ·show (((false || false) || !decOk (Lib.decDigits ((v : Nat) : Int).toNat) 4294967295) || !decOk (Lib.decDigits ((t : Nat) : Int).toNat) 4294967295) = false
  simp only [Int.toNat_natCast, Lib.itoa_nonneg, nv.2, nt.2, Bool.or_false]
theorem opRound_5 (v t s a c : Int) (d : List UInt8) (x : ByteArray) (h : mayOpB 5 v t s a c d.length d = true) (hx : opTextL 5 v t s a c d = x.data.toList) :
  kOf (hdW (wordsB 32 x)) = 5 ∧ opValK 5 (wordsB 32 x) = ⟨5, v, t, s, a, c, d⟩ ∧ opBadK 5 (wordsB 32 x) false = false ∧ (wordsB 32 x).drop (opLenK 5) = [] := by
 have E0 : mayOpB 5 v t s a c d.length d = (wVol v && wAt a && wData d.length && (t == 0) && (s == 0) && (c == 0)) := rfl
 rw [E0] at h
 simp only [Bool.and_eq_true, beq_iff_eq, wVol, wTo, wSize, wAt, wCount, wData, decide_eq_true_eq, bne_iff_ne] at h
 have hp : opPieces 5 v t s a c d = [⟨#[119, 114, 105, 116, 101]⟩, ⟨(Lib.decDigits v.toNat).toArray⟩, ⟨(Lib.itoa a).toArray⟩, ⟨(dataL d).toArray⟩] := rfl
 obtain ⟨v, rfl⟩ := Int.eq_ofNat_of_zero_le (show 0 ≤ v by omega)
 obtain ⟨a, rfl⟩ := Int.eq_ofNat_of_zero_le (show 0 ≤ a by omega)
 have ht : t = 0 := by first | omega | simp_all
 subst ht
 have hs : s = 0 := by first | omega | simp_all
 subst hs
 have hc : c = 0 := by first | omega | simp_all
 subst hc
 have hw : wordsB 32 x = [⟨#[119, 114, 105, 116, 101]⟩, ⟨(Lib.decDigits (v : Int).toNat).toArray⟩, ⟨(Lib.itoa (a : Int)).toArray⟩, ⟨(dataL d).toArray⟩] := by
  have h1 : cutL 32 x.data.toList = ([⟨#[119, 114, 105, 116, 101]⟩, ⟨(Lib.decDigits (v : Int).toNat).toArray⟩, ⟨(Lib.itoa (a : Int)).toArray⟩, ⟨(dataL d).toArray⟩] : List ByteArray).map (·.data.toList) := by
   rw [← hx, opTextL, hp]
   refine cutL_join 32 _ (by simp) (fun y hy => ?_)
   simp only [List.map_cons, List.map_nil, List.mem_cons, List.mem_nil_iff, or_false] at hy
   rcases hy with rfl | rfl | rfl | rfl
   ·decide
   ·exact dec_no32 _
   ·exact itoa_no32 _ (by omega)
   ·exact dataL_no _
  rw [wordsB, h1, List.map_map]
  simp [Function.comp_def]
 rw [hw]
 have nv := num_back v 4294967295 (by omega)
 have na := num_back a 1048576 (by omega)
 have hdo := data_ok d (by omega)
 have hdt : d.take (64 * (d.length / 64)) = d := List.take_of_length_le (by omega)
 rw [hdt] at hdo
 refine ⟨(show kOf ⟨#[119, 114, 105, 116, 101]⟩ = 5 by decide), ?_, ?_, rfl⟩
 ·show (⟨5, ((decV (Lib.decDigits ((v : Nat) : Int).toNat) 4294967295 : Nat) : Int), 0, 0, ((decV (Lib.itoa ((a : Nat) : Int)) 1048576 : Nat) : Int), 0, (dataOf ⟨(dataL d).toArray⟩)⟩ : OpV) = ⟨5, ((v : Nat) : Int), 0, 0, ((a : Nat) : Int), 0, d⟩
  simp only [Int.toNat_natCast, Lib.itoa_nonneg, nv.1, na.1, hdo.1]
 ·show (((((false || false) || !decOk (Lib.decDigits ((v : Nat) : Int).toNat) 4294967295) || !decOk (Lib.itoa ((a : Nat) : Int)) 1048576) || false) || dataBad ⟨(dataL d).toArray⟩) = false
  simp only [Int.toNat_natCast, Lib.itoa_nonneg, nv.2, na.2, hdo.2, Bool.or_false]
theorem opRound_6 (v t s a c : Int) (d : List UInt8) (x : ByteArray) (h : mayOpB 6 v t s a c d.length d = true) (hx : opTextL 6 v t s a c d = x.data.toList) :
  kOf (hdW (wordsB 32 x)) = 6 ∧ opValK 6 (wordsB 32 x) = ⟨6, v, t, s, a, c, d⟩ ∧ opBadK 6 (wordsB 32 x) false = false ∧ (wordsB 32 x).drop (opLenK 6) = [] := by
 have E0 : mayOpB 6 v t s a c d.length d = (wVol v && wAt a && wCount c && (t == 0) && (s == 0) && (d == [])) := rfl
 rw [E0] at h
 simp only [Bool.and_eq_true, beq_iff_eq, wVol, wTo, wSize, wAt, wCount, wData, decide_eq_true_eq, bne_iff_ne] at h
 have hp : opPieces 6 v t s a c d = [⟨#[122, 101, 114, 111]⟩, ⟨(Lib.decDigits v.toNat).toArray⟩, ⟨(Lib.itoa a).toArray⟩, ⟨(Lib.itoa c).toArray⟩] := rfl
 obtain ⟨v, rfl⟩ := Int.eq_ofNat_of_zero_le (show 0 ≤ v by omega)
 obtain ⟨a, rfl⟩ := Int.eq_ofNat_of_zero_le (show 0 ≤ a by omega)
 obtain ⟨c, rfl⟩ := Int.eq_ofNat_of_zero_le (show 0 ≤ c by omega)
 have ht : t = 0 := by first | omega | simp_all
 subst ht
 have hs : s = 0 := by first | omega | simp_all
 subst hs
 have hd : d = [] := by simp_all
 subst hd
 have hw : wordsB 32 x = [⟨#[122, 101, 114, 111]⟩, ⟨(Lib.decDigits (v : Int).toNat).toArray⟩, ⟨(Lib.itoa (a : Int)).toArray⟩, ⟨(Lib.itoa (c : Int)).toArray⟩] := by
  have h1 : cutL 32 x.data.toList = ([⟨#[122, 101, 114, 111]⟩, ⟨(Lib.decDigits (v : Int).toNat).toArray⟩, ⟨(Lib.itoa (a : Int)).toArray⟩, ⟨(Lib.itoa (c : Int)).toArray⟩] : List ByteArray).map (·.data.toList) := by
   rw [← hx, opTextL, hp]
   refine cutL_join 32 _ (by simp) (fun y hy => ?_)
   simp only [List.map_cons, List.map_nil, List.mem_cons, List.mem_nil_iff, or_false] at hy
   rcases hy with rfl | rfl | rfl | rfl
   ·decide
   ·exact dec_no32 _
   ·exact itoa_no32 _ (by omega)
   ·exact itoa_no32 _ (by omega)
  rw [wordsB, h1, List.map_map]
  simp [Function.comp_def]
 rw [hw]
 have nv := num_back v 4294967295 (by omega)
 have na := num_back a 1048576 (by omega)
 have nc := num_back c 1024 (by omega)
 refine ⟨(show kOf ⟨#[122, 101, 114, 111]⟩ = 6 by decide), ?_, ?_, rfl⟩
 ·show (⟨6, ((decV (Lib.decDigits ((v : Nat) : Int).toNat) 4294967295 : Nat) : Int), 0, 0, ((decV (Lib.itoa ((a : Nat) : Int)) 1048576 : Nat) : Int), ((decV (Lib.itoa ((c : Nat) : Int)) 1024 : Nat) : Int), []⟩ : OpV) = ⟨6, ((v : Nat) : Int), 0, 0, ((a : Nat) : Int), ((c : Nat) : Int), []⟩
  simp only [Int.toNat_natCast, Lib.itoa_nonneg, nv.1, na.1, nc.1]
 ·show ((((false || false) || !decOk (Lib.decDigits ((v : Nat) : Int).toNat) 4294967295) || !decOk (Lib.itoa ((a : Nat) : Int)) 1048576) || !decOk (Lib.itoa ((c : Nat) : Int)) 1024) = false
  simp only [Int.toNat_natCast, Lib.itoa_nonneg, nv.2, na.2, nc.2, Bool.or_false]
theorem opRound_7 (v t s a c : Int) (d : List UInt8) (x : ByteArray) (h : mayOpB 7 v t s a c d.length d = true) (hx : opTextL 7 v t s a c d = x.data.toList) :
  kOf (hdW (wordsB 32 x)) = 7 ∧ opValK 7 (wordsB 32 x) = ⟨7, v, t, s, a, c, d⟩ ∧ opBadK 7 (wordsB 32 x) false = false ∧ (wordsB 32 x).drop (opLenK 7) = [] := by
 have E0 : mayOpB 7 v t s a c d.length d = (wVol v && wAt a && wCount c && (t == 0) && (s == 0) && (d == [])) := rfl
 rw [E0] at h
 simp only [Bool.and_eq_true, beq_iff_eq, wVol, wTo, wSize, wAt, wCount, wData, decide_eq_true_eq, bne_iff_ne] at h
 have hp : opPieces 7 v t s a c d = [⟨#[100, 105, 115, 99, 97, 114, 100]⟩, ⟨(Lib.decDigits v.toNat).toArray⟩, ⟨(Lib.itoa a).toArray⟩, ⟨(Lib.itoa c).toArray⟩] := rfl
 obtain ⟨v, rfl⟩ := Int.eq_ofNat_of_zero_le (show 0 ≤ v by omega)
 obtain ⟨a, rfl⟩ := Int.eq_ofNat_of_zero_le (show 0 ≤ a by omega)
 obtain ⟨c, rfl⟩ := Int.eq_ofNat_of_zero_le (show 0 ≤ c by omega)
 have ht : t = 0 := by first | omega | simp_all
 subst ht
 have hs : s = 0 := by first | omega | simp_all
 subst hs
 have hd : d = [] := by simp_all
 subst hd
 have hw : wordsB 32 x = [⟨#[100, 105, 115, 99, 97, 114, 100]⟩, ⟨(Lib.decDigits (v : Int).toNat).toArray⟩, ⟨(Lib.itoa (a : Int)).toArray⟩, ⟨(Lib.itoa (c : Int)).toArray⟩] := by
  have h1 : cutL 32 x.data.toList = ([⟨#[100, 105, 115, 99, 97, 114, 100]⟩, ⟨(Lib.decDigits (v : Int).toNat).toArray⟩, ⟨(Lib.itoa (a : Int)).toArray⟩, ⟨(Lib.itoa (c : Int)).toArray⟩] : List ByteArray).map (·.data.toList) := by
   rw [← hx, opTextL, hp]
   refine cutL_join 32 _ (by simp) (fun y hy => ?_)
   simp only [List.map_cons, List.map_nil, List.mem_cons, List.mem_nil_iff, or_false] at hy
   rcases hy with rfl | rfl | rfl | rfl
   ·decide
   ·exact dec_no32 _
   ·exact itoa_no32 _ (by omega)
   ·exact itoa_no32 _ (by omega)
  rw [wordsB, h1, List.map_map]
  simp [Function.comp_def]
 rw [hw]
 have nv := num_back v 4294967295 (by omega)
 have na := num_back a 1048576 (by omega)
 have nc := num_back c 1024 (by omega)
 refine ⟨(show kOf ⟨#[100, 105, 115, 99, 97, 114, 100]⟩ = 7 by decide), ?_, ?_, rfl⟩
 ·show (⟨7, ((decV (Lib.decDigits ((v : Nat) : Int).toNat) 4294967295 : Nat) : Int), 0, 0, ((decV (Lib.itoa ((a : Nat) : Int)) 1048576 : Nat) : Int), ((decV (Lib.itoa ((c : Nat) : Int)) 1024 : Nat) : Int), []⟩ : OpV) = ⟨7, ((v : Nat) : Int), 0, 0, ((a : Nat) : Int), ((c : Nat) : Int), []⟩
  simp only [Int.toNat_natCast, Lib.itoa_nonneg, nv.1, na.1, nc.1]
 ·show ((((false || false) || !decOk (Lib.decDigits ((v : Nat) : Int).toNat) 4294967295) || !decOk (Lib.itoa ((a : Nat) : Int)) 1048576) || !decOk (Lib.itoa ((c : Nat) : Int)) 1024) = false
  simp only [Int.toNat_natCast, Lib.itoa_nonneg, nv.2, na.2, nc.2, Bool.or_false]
theorem opRound_8 (v t s a c : Int) (d : List UInt8) (x : ByteArray) (h : mayOpB 8 v t s a c d.length d = true) (hx : opTextL 8 v t s a c d = x.data.toList) :
  kOf (hdW (wordsB 32 x)) = 8 ∧ opValK 8 (wordsB 32 x) = ⟨8, v, t, s, a, c, d⟩ ∧ opBadK 8 (wordsB 32 x) false = false ∧ (wordsB 32 x).drop (opLenK 8) = [] := by
 have E0 : mayOpB 8 v t s a c d.length d = ((v == 0) && (t == 0) && (s == 0) && (a == 0) && (c == 0) && (d == [])) := rfl
 rw [E0] at h
 simp only [Bool.and_eq_true, beq_iff_eq, wVol, wTo, wSize, wAt, wCount, wData, decide_eq_true_eq, bne_iff_ne] at h
 have hp : opPieces 8 v t s a c d = [⟨#[102, 108, 117, 115, 104]⟩] := rfl
 have hv : v = 0 := by first | omega | simp_all
 subst hv
 have ht : t = 0 := by first | omega | simp_all
 subst ht
 have hs : s = 0 := by first | omega | simp_all
 subst hs
 have ha : a = 0 := by first | omega | simp_all
 subst ha
 have hc : c = 0 := by first | omega | simp_all
 subst hc
 have hd : d = [] := by simp_all
 subst hd
 have hw : wordsB 32 x = [⟨#[102, 108, 117, 115, 104]⟩] := by
  have h1 : cutL 32 x.data.toList = ([⟨#[102, 108, 117, 115, 104]⟩] : List ByteArray).map (·.data.toList) := by
   rw [← hx, opTextL, hp]
   refine cutL_join 32 _ (by simp) (fun y hy => ?_)
   simp only [List.map_cons, List.map_nil, List.mem_cons, List.mem_nil_iff, or_false] at hy
   rcases hy with rfl
   ·decide
  rw [wordsB, h1, List.map_map]
  simp [Function.comp_def]
 rw [hw]
 refine ⟨(show kOf ⟨#[102, 108, 117, 115, 104]⟩ = 8 by decide), ?_, ?_, rfl⟩
 ·show (⟨8, 0, 0, 0, 0, 0, []⟩ : OpV) = ⟨8, 0, 0, 0, 0, 0, []⟩
  simp only [Int.toNat_natCast, Lib.itoa_nonneg]
 ·show (false || false) = false
  simp only [Int.toNat_natCast, Lib.itoa_nonneg, Bool.or_false]
theorem opRound_9 (v t s a c : Int) (d : List UInt8) (x : ByteArray) (h : mayOpB 9 v t s a c d.length d = true) (hx : opTextL 9 v t s a c d = x.data.toList) :
  kOf (hdW (wordsB 32 x)) = 9 ∧ opValK 9 (wordsB 32 x) = ⟨9, v, t, s, a, c, d⟩ ∧ opBadK 9 (wordsB 32 x) false = false ∧ (wordsB 32 x).drop (opLenK 9) = [] := by
 have E0 : mayOpB 9 v t s a c d.length d = (wVol v && wAt a && wCount c && (t == 0) && (s == 0) && (d == [])) := rfl
 rw [E0] at h
 simp only [Bool.and_eq_true, beq_iff_eq, wVol, wTo, wSize, wAt, wCount, wData, decide_eq_true_eq, bne_iff_ne] at h
 have hp : opPieces 9 v t s a c d = [⟨#[114, 101, 97, 100]⟩, ⟨(Lib.decDigits v.toNat).toArray⟩, ⟨(Lib.itoa a).toArray⟩, ⟨(Lib.itoa c).toArray⟩] := rfl
 obtain ⟨v, rfl⟩ := Int.eq_ofNat_of_zero_le (show 0 ≤ v by omega)
 obtain ⟨a, rfl⟩ := Int.eq_ofNat_of_zero_le (show 0 ≤ a by omega)
 obtain ⟨c, rfl⟩ := Int.eq_ofNat_of_zero_le (show 0 ≤ c by omega)
 have ht : t = 0 := by first | omega | simp_all
 subst ht
 have hs : s = 0 := by first | omega | simp_all
 subst hs
 have hd : d = [] := by simp_all
 subst hd
 have hw : wordsB 32 x = [⟨#[114, 101, 97, 100]⟩, ⟨(Lib.decDigits (v : Int).toNat).toArray⟩, ⟨(Lib.itoa (a : Int)).toArray⟩, ⟨(Lib.itoa (c : Int)).toArray⟩] := by
  have h1 : cutL 32 x.data.toList = ([⟨#[114, 101, 97, 100]⟩, ⟨(Lib.decDigits (v : Int).toNat).toArray⟩, ⟨(Lib.itoa (a : Int)).toArray⟩, ⟨(Lib.itoa (c : Int)).toArray⟩] : List ByteArray).map (·.data.toList) := by
   rw [← hx, opTextL, hp]
   refine cutL_join 32 _ (by simp) (fun y hy => ?_)
   simp only [List.map_cons, List.map_nil, List.mem_cons, List.mem_nil_iff, or_false] at hy
   rcases hy with rfl | rfl | rfl | rfl
   ·decide
   ·exact dec_no32 _
   ·exact itoa_no32 _ (by omega)
   ·exact itoa_no32 _ (by omega)
  rw [wordsB, h1, List.map_map]
  simp [Function.comp_def]
 rw [hw]
 have nv := num_back v 4294967295 (by omega)
 have na := num_back a 1048576 (by omega)
 have nc := num_back c 1024 (by omega)
 refine ⟨(show kOf ⟨#[114, 101, 97, 100]⟩ = 9 by decide), ?_, ?_, rfl⟩
 ·show (⟨9, ((decV (Lib.decDigits ((v : Nat) : Int).toNat) 4294967295 : Nat) : Int), 0, 0, ((decV (Lib.itoa ((a : Nat) : Int)) 1048576 : Nat) : Int), ((decV (Lib.itoa ((c : Nat) : Int)) 1024 : Nat) : Int), []⟩ : OpV) = ⟨9, ((v : Nat) : Int), 0, 0, ((a : Nat) : Int), ((c : Nat) : Int), []⟩
  simp only [Int.toNat_natCast, Lib.itoa_nonneg, nv.1, na.1, nc.1]
 ·show ((((false || false) || !decOk (Lib.decDigits ((v : Nat) : Int).toNat) 4294967295) || !decOk (Lib.itoa ((a : Nat) : Int)) 1048576) || !decOk (Lib.itoa ((c : Nat) : Int)) 1024) = false
  simp only [Int.toNat_natCast, Lib.itoa_nonneg, nv.2, na.2, nc.2, Bool.or_false]
theorem opRound (o : OpV) (x : ByteArray) (h : o.may = true) (hx : o.text = x.data.toList) :
  kOf (hdW (wordsB 32 x)) = o.k ∧ opValK o.k (wordsB 32 x) = o ∧ opBadK o.k (wordsB 32 x) false = false ∧ (wordsB 32 x).drop (opLenK o.k) = [] := by
 obtain ⟨k, v, t, s, a, c, d⟩ := o
 simp only [OpV.may, OpV.text] at h hx ⊢
 have hk := mayOpB_kind h rfl
 have h3 : k = 1 ∨ k = 2 ∨ k = 3 ∨ k = 4 ∨ k = 5 ∨ k = 6 ∨ k = 7 ∨ k = 8 ∨ k = 9 := by omega
 rcases h3 with rfl | rfl | rfl | rfl | rfl | rfl | rfl | rfl | rfl
 ·exact opRound_1 v t s a c d x h hx
 ·exact opRound_2 v t s a c d x h hx
 ·exact opRound_3 v t s a c d x h hx
 ·exact opRound_4 v t s a c d x h hx
 ·exact opRound_5 v t s a c d x h hx
 ·exact opRound_6 v t s a c d x h hx
 ·exact opRound_7 v t s a c d x h hx
 ·exact opRound_8 v t s a c d x h hx
 ·exact opRound_9 v t s a c d x h hx
def opV (x : ByteArray) : OpV := opValK (kOf (hdW (wordsB 32 x))) (wordsB 32 x)
def goodOp (x : ByteArray) : Bool := (opV x).may && ((opV x).text == x.data.toList)
theorem goodOp_text (o : OpV) (x : ByteArray) (h : o.may = true) (hx : o.text = x.data.toList) : goodOp x = true ∧ opV x = o := by
 obtain ⟨h1, h2, _, _⟩ := opRound o x h hx
 have e : opV x = o := by rw [opV, h1, h2]
 exact ⟨by rw [goodOp, e, h, hx]; simp, e⟩
theorem opValK_bd (k : Int) (ws : List ByteArray) : Bd (opValK k ws).v (opValK k ws).t (opValK k ws).s (opValK k ws).a (opValK k ws).c := by
 have h1 := nD_le ws 1 4294967295
 have h2 := nD_le ws 2 4294967295
 have h3 := nD_le ws 2 256
 have h4 := nD_le ws 2 1048576
 have h5 := nD_le ws 3 1024
 unfold opValK
 repeat' split
 all_goals exact ⟨by simp only [zOp]; omega, by simp only [zOp]; omega, by simp only [zOp]; omega, by simp only [zOp]; omega, by simp only [zOp]; omega, by simp only [zOp]; omega, by simp only [zOp]; omega, by simp only [zOp]; omega, by simp only [zOp]; omega, by simp only [zOp]; omega⟩
theorem opValK_d (k : Int) (ws : List ByteArray) (hw : ∀ y ∈ ws, y.size ≤ 200000) : (opValK k ws).d.length ≤ 64000000 := by
 have h : (dD ws 3).length ≤ 64000000 := by
  have h1 : (hdW (ws.drop 3)).size ≤ 200000 := by
   unfold hdW
   cases hd : ws.drop 3 with
   | nil => exact Nat.zero_le _
   | cons y r => exact hw y (List.mem_of_mem_drop (i := 3) (by rw [hd]; simp))
  have h2 := wordsB_le 44 (hdW (ws.drop 3))
  rw [dD, dataOf, flat_len]
  omega
 unfold opValK
 repeat' split
 all_goals first | exact h | exact Nat.zero_le _
end Go.Proofs.YtgjdgafoidppaaaGreatDoor
