/- Plain: rows that are turned about in a range, and are sorted. Conditions: .. -/
import Derived.Test.YtddckdhnolmjoaaGreatW01
import Derived.Test.YtddckdhnolmjoaaGreatW10
import Derived.Test.YtddckdhnolmjoaaGreatW02
import Derived.Test.YtddckdhnolmjoaaGreatW03
set_option linter.unusedVariables false
set_option linter.unusedSimpArgs false
set_option linter.unnecessarySimpa false
set_option maxRecDepth 100000
set_option maxHeartbeats 8000000
namespace Go.Proofs.YtddckdhnolmjoaaGreat
open Go.RowKit
def at0 (xs : List Int) (i : Nat) : Int := xs.getD i 0
def swp (xs : List Int) (i j : Nat) : List Int := (xs.set i (at0 xs j)).set j (at0 xs i)
theorem at0_get {xs : List Int} {i : Nat} (h : i < xs.length) : xs[i]? = some (at0 xs i) := by
 unfold at0
 rw [List.getD_eq_getElem?_getD, List.getElem?_eq_getElem h]
 rfl
theorem swp_len (xs : List Int) (i j : Nat) : (swp xs i j).length = xs.length := by simp [swp]
theorem at0_swp {xs : List Int} {i j : Nat} (hi : i < xs.length) (hj : j < xs.length) (k : Nat) : at0 (swp xs i j) k = if k = j then at0 xs i else if k = i then at0 xs j else at0 xs k := by
 unfold swp at0
 simp only [List.getD_eq_getElem?_getD]
 by_cases h1 : k = j
 ·subst h1
  rw [if_pos rfl, List.getElem?_set_self (by simpa using hj)]
  rfl
 ·rw [if_neg h1, List.getElem?_set_ne (fun e => h1 e.symm)]
  by_cases h2 : k = i
  ·subst h2
   rw [if_pos rfl, List.getElem?_set_self hi]
   rfl
  ·rw [if_neg h2, List.getElem?_set_ne (fun e => h2 e.symm)]
inductive RP (a b : Nat) (xs : List Int) : List Int → Prop
 | refl : RP a b xs xs
 | swap {ys : List Int} (h : RP a b xs ys) (i j : Nat) (hi : a ≤ i) (hi2 : i < b) (hj : a ≤ j) (hj2 : j < b) (hb : b ≤ ys.length) : RP a b xs (swp ys i j)
theorem RP.trans {a b : Nat} {xs ys zs : List Int} (h1 : RP a b xs ys) (h2 : RP a b ys zs) : RP a b xs zs := by
 induction h2 with
 | refl => exact h1
 | swap h i j hi hi2 hj hj2 hb ih => exact .swap ih i j hi hi2 hj hj2 hb
theorem RP.mono {a b a' b' : Nat} {xs ys : List Int} (h : RP a b xs ys) (ha : a' ≤ a) (hb : b ≤ b') (hl : b' ≤ xs.length) : RP a' b' xs ys := by
 induction h with
 | refl => exact .refl
 | swap h i j hi hi2 hj hj2 hb2 ih =>
  refine .swap ih i j (by omega) (by omega) (by omega) (by omega) ?_
  have : ∀ ys, RP a b xs ys → ys.length = xs.length := fun ys h => by
   induction h with
   | refl => rfl
   | swap _ _ _ _ _ _ _ _ ih => rw [swp_len, ih]
  rw [this _ h]
  exact hl
theorem RP.len {a b : Nat} {xs ys : List Int} (h : RP a b xs ys) : ys.length = xs.length := by
 induction h with
 | refl => rfl
 | swap _ _ _ _ _ _ _ _ ih => rw [swp_len, ih]
theorem RP.out {a b : Nat} {xs ys : List Int} (h : RP a b xs ys) (k : Nat) (hk : k < a ∨ b ≤ k) : at0 ys k = at0 xs k := by
 induction h with
 | refl => rfl
 | swap h i j hi hi2 hj hj2 hb ih => rw [at0_swp (by omega) (by omega), if_neg (by omega), if_neg (by omega), ih]
theorem RP.from_ {a b : Nat} {xs ys : List Int} (h : RP a b xs ys) : ∀ k, a ≤ k → k < b → ∃ m, a ≤ m ∧ m < b ∧ at0 ys k = at0 xs m := by
 induction h with
 | refl => exact fun k h1 h2 => ⟨k, h1, h2, rfl⟩
 | swap h i j hi hi2 hj hj2 hb ih =>
  intro k h1 h2
  rw [at0_swp (by omega) (by omega)]
  split
  ·exact ih i hi hi2
  ·split
   ·exact ih j hj hj2
   ·exact ih k h1 h2
theorem RP.perm {a b : Nat} {xs ys : List Int} (h : RP a b xs ys) : ys.Perm xs := by
 induction h with
 | refl => exact .refl _
 | swap h i j hi hi2 hj hj2 hb ih =>
  rename_i ys
  refine .trans ?_ ih
  have h1 : i < ys.length := by omega
  have h2 : j < ys.length := by omega
  have := List.set_set_perm h1 h2
  have e1 : at0 ys i = ys[i] := by have := at0_get h1; rw [List.getElem?_eq_getElem h1] at this; exact (Option.some.inj this).symm
  have e2 : at0 ys j = ys[j] := by have := at0_get h2; rw [List.getElem?_eq_getElem h2] at this; exact (Option.some.inj this).symm
  unfold swp
  rw [e1, e2]
  exact this
def Srt (xs : List Int) (a b : Nat) : Prop := ∀ i j, a ≤ i → i < j → j < b → at0 xs i ≤ at0 xs j
theorem Srt.pair {xs : List Int} (h : Srt xs 0 xs.length) : xs.Pairwise (· ≤ ·) := by
 rw [List.pairwise_iff_getElem]
 intro i j hi hj hij
 have := h i j (Nat.zero_le _) hij hj
 have e1 : at0 xs i = xs[i] := by have := at0_get hi; rw [List.getElem?_eq_getElem hi] at this; exact (Option.some.inj this).symm
 have e2 : at0 xs j = xs[j] := by have := at0_get hj; rw [List.getElem?_eq_getElem hj] at this; exact (Option.some.inj this).symm
 rwa [e1, e2] at this
def Ins (xs : List Int) (a i j : Nat) : Prop := ∀ p q, a ≤ p → p < q → q ≤ i → q ≠ j → at0 xs p ≤ at0 xs q
theorem ins_start {xs : List Int} {a i : Nat} (h : Srt xs a i) : Ins xs a i i := fun p q h1 h2 h3 h4 => h p q h1 h2 (by omega)
theorem ins_end {xs : List Int} {a i j : Nat} (h : Ins xs a i j) (hj : j ≤ i) (hs : j = a ∨ ¬ at0 xs j < at0 xs (j - 1)) : Srt xs a (i + 1) := by
 intro p q h1 h2 h3
 by_cases hq : q = j
 ·subst hq
  rcases hs with hs | hs
  ·omega
  ·have hle : at0 xs (q - 1) ≤ at0 xs q := by omega
   by_cases hp : p = q - 1
   ·subst hp; exact hle
   ·exact Int.le_trans (h p (q - 1) h1 (by omega) (by omega) (by omega)) hle
 ·exact h p q h1 h2 (by omega) hq
theorem ins_step {xs : List Int} {a i j : Nat} (h : Ins xs a i j) (ha : a < j) (hj : j ≤ i) (hi : i < xs.length) (hs : at0 xs j < at0 xs (j - 1)) : Ins (swp xs j (j - 1)) a i (j - 1) := by
 intro p q h1 h2 h3 h4
 rw [at0_swp (by omega) (by omega), at0_swp (by omega) (by omega)]
 rw [if_neg h4]
 by_cases hq : q = j
 ·rw [if_pos hq]
  by_cases hp : p = j - 1
  ·rw [if_pos hp]; omega
  ·rw [if_neg hp, if_neg (by omega)]
   exact h p (j - 1) h1 (by omega) (by omega) (by omega)
 ·rw [if_neg hq]
  by_cases hp : p = j - 1
  ·rw [if_pos hp]
   exact h j q (by omega) (by omega) h3 hq
  ·rw [if_neg hp]
   by_cases hp2 : p = j
   ·rw [if_pos hp2]
    exact h (j - 1) q (by omega) (by omega) h3 hq
   ·rw [if_neg hp2]
    exact h p q h1 h2 h3 hq
def Prt (xs : List Int) (a b i j : Nat) : Prop := (∀ k, a < k → k < i → at0 xs k < at0 xs a) ∧ ∀ k, j < k → k < b → at0 xs a ≤ at0 xs k
theorem prt_swap {xs : List Int} {a b i j : Nat} (h : Prt xs a b i j) (hai : a < i) (hij : i < j) (hjb : j < b) (hb : b ≤ xs.length) (h1 : at0 xs a ≤ at0 xs i) (h2 : at0 xs j < at0 xs a) : Prt (swp xs i j) a b (i + 1) (j - 1) := by
 have ea : at0 (swp xs i j) a = at0 xs a := by rw [at0_swp (by omega) (by omega), if_neg (by omega), if_neg (by omega)]
 refine ⟨fun k hk1 hk2 => ?_, fun k hk1 hk2 => ?_⟩
 ·rw [ea, at0_swp (by omega) (by omega)]
  by_cases e : k = i
  ·rw [if_neg (by omega), if_pos e]; exact h2
  ·rw [if_neg (by omega), if_neg e]; exact h.1 k hk1 (by omega)
 ·rw [ea, at0_swp (by omega) (by omega)]
  by_cases e : k = j
  ·rw [if_pos e]; exact h1
  ·rw [if_neg e, if_neg (by omega)]; exact h.2 k (by omega) hk2
theorem prt_end {xs : List Int} {a b i j : Nat} (h : Prt xs a b i j) (haj : a ≤ j) (hij : j + 1 = i) (hjb : j < b) (hb : b ≤ xs.length) : (∀ k, a ≤ k → k < j → at0 (swp xs j a) k ≤ at0 (swp xs j a) j) ∧ ∀ k, j < k → k < b → at0 (swp xs j a) j ≤ at0 (swp xs j a) k := by
 have ej : at0 (swp xs j a) j = at0 xs a := by
  rw [at0_swp (by omega) (by omega)]
  by_cases e : j = a
  ·rw [if_pos e, e]
  ·rw [if_neg e, if_pos rfl]
 refine ⟨fun k hk1 hk2 => ?_, fun k hk1 hk2 => ?_⟩
 ·rw [ej, at0_swp (by omega) (by omega)]
  by_cases e : k = a
  ·rw [if_pos e]
   have := h.1 j (by omega) (by omega)
   omega
  ·rw [if_neg e, if_neg (by omega)]
   have := h.1 k (by omega) (by omega)
   omega
 ·rw [ej, at0_swp (by omega) (by omega), if_neg (by omega), if_neg (by omega)]
  have := h.2 k hk1 hk2
  omega
def Pre (xs : List Int) (a b i j : Nat) : Prop := (∀ k, a ≤ k → k < i → at0 xs k ≤ at0 xs a) ∧ ∀ k, j < k → k < b → at0 xs a < at0 xs k
theorem pre_swap {xs : List Int} {a b i j : Nat} (h : Pre xs a b i j) (hai : a < i) (hij : i < j) (hjb : j < b) (hb : b ≤ xs.length) (h1 : at0 xs a < at0 xs i) (h2 : at0 xs j ≤ at0 xs a) : Pre (swp xs i j) a b (i + 1) (j - 1) := by
 have ea : at0 (swp xs i j) a = at0 xs a := by rw [at0_swp (by omega) (by omega), if_neg (by omega), if_neg (by omega)]
 refine ⟨fun k hk1 hk2 => ?_, fun k hk1 hk2 => ?_⟩
 ·rw [ea, at0_swp (by omega) (by omega)]
  by_cases e : k = i
  ·rw [if_neg (by omega), if_pos e]; exact h2
  ·rw [if_neg (by omega), if_neg e]; exact h.1 k hk1 (by omega)
 ·rw [ea, at0_swp (by omega) (by omega)]
  by_cases e : k = j
  ·rw [if_pos e]; exact h1
  ·rw [if_neg e, if_neg (by omega)]; exact h.2 k (by omega) hk2
def Lft (xs : List Int) (a b c d : Nat) : Prop := ∀ i j, a ≤ i → i < j → j < b → ¬ (c ≤ i ∧ j < d) → at0 xs i ≤ at0 xs j
theorem lft_start (xs : List Int) (a b : Nat) : Lft xs a b a b := fun i j h1 h2 h3 h4 => absurd ⟨h1, h3⟩ h4
theorem lft_end {xs : List Int} {a b c d : Nat} (h : Lft xs a b c d) (hs : Srt xs c d) : Srt xs a b := fun i j h1 h2 h3 => by
 by_cases hin : c ≤ i ∧ j < d
 ·exact hs i j hin.1 h2 hin.2
 ·exact h i j h1 h2 h3 hin
theorem Lft.rp {xs ys : List Int} {a b c d : Nat} (h : Lft xs a b c d) (hr : RP c d xs ys) (ha : a ≤ c) (hb : d ≤ b) : Lft ys a b c d := fun i j h1 h2 h3 h4 => by
 by_cases hi : c ≤ i ∧ i < d
 ·obtain ⟨m, m1, m2, e⟩ := hr.from_ i hi.1 hi.2
  have hj : d ≤ j := by
   rcases Nat.lt_or_ge j d with h | h
   ·exact absurd ⟨hi.1, h⟩ h4
   ·exact h
  rw [e, hr.out j (.inr hj)]
  exact h m j (by omega) (by omega) h3 (by omega)
 ·rw [hr.out i (by omega)]
  by_cases hj : c ≤ j ∧ j < d
  ·obtain ⟨m, m1, m2, e⟩ := hr.from_ j hj.1 hj.2
   rw [e]
   exact h i m h1 (by omega) (by omega) (by omega)
  ·rw [hr.out j (by omega)]
   exact h i j h1 h2 h3 h4
theorem lft_left {xs : List Int} {a b c d m : Nat} (h : Lft xs a b c d) (hm : c ≤ m) (hd : m < d) (hs : Srt xs c m) (h1 : ∀ k, c ≤ k → k < m → at0 xs k ≤ at0 xs m) (h2 : ∀ k, m < k → k < d → at0 xs m ≤ at0 xs k) : Lft xs a b (m + 1) d := fun i j q1 q2 q3 q4 => by
 by_cases hin : c ≤ i ∧ j < d
 ·by_cases hi : i < m
  ·by_cases hj : j < m
   ·exact hs i j hin.1 q2 hj
   ·by_cases hj2 : j = m
    ·subst hj2; exact h1 i hin.1 hi
    ·exact Int.le_trans (h1 i hin.1 hi) (h2 j (by omega) hin.2)
  ·have : i = m := by omega
   subst this
   exact h2 j q2 hin.2
 ·exact h i j q1 q2 q3 hin
theorem lft_right {xs : List Int} {a b c d m : Nat} (h : Lft xs a b c d) (hm : c ≤ m) (hd : m < d) (hs : Srt xs (m + 1) d) (h1 : ∀ k, c ≤ k → k < m → at0 xs k ≤ at0 xs m) (h2 : ∀ k, m < k → k < d → at0 xs m ≤ at0 xs k) : Lft xs a b c m := fun i j q1 q2 q3 q4 => by
 by_cases hin : c ≤ i ∧ j < d
 ·by_cases hj : m < j
  ·by_cases hi : m < i
   ·exact hs i j hi q2 hin.2
   ·by_cases hi2 : i = m
    ·subst hi2; exact h2 j hj hin.2
    ·exact Int.le_trans (h1 i hin.1 (by omega)) (h2 j hj hin.2)
  ·have : j = m := by omega
   subst this
   exact h1 i hin.1 q2
 ·exact h i j q1 q2 q3 hin
theorem lft_equal {xs : List Int} {a b c d m : Nat} (h : Lft xs a b c d) (hm : c < m) (hd : m ≤ d) (h1 : ∀ k, c ≤ k → k < m → ∀ l, c ≤ l → l < d → at0 xs k ≤ at0 xs l) : Lft xs a b m d := fun i j q1 q2 q3 q4 => by
 by_cases hin : c ≤ i ∧ j < d
 ·exact h1 i hin.1 (by omega) j (by omega) hin.2
 ·exact h i j q1 q2 q3 hin
/-! Heaps: the places are counted from f. -/
def Hp (xs : List Int) (f lo hi : Nat) : Prop := ∀ k c, lo ≤ k → c = 2 * k + 1 ∨ c = 2 * k + 2 → c < hi → at0 xs (f + c) ≤ at0 xs (f + k)
def Hq (xs : List Int) (f lo hi r : Nat) : Prop := (∀ k c, lo ≤ k → k ≠ r → c = 2 * k + 1 ∨ c = 2 * k + 2 → c < hi → at0 xs (f + c) ≤ at0 xs (f + k)) ∧ ∀ p c, lo ≤ p → r = 2 * p + 1 ∨ r = 2 * p + 2 → c = 2 * r + 1 ∨ c = 2 * r + 2 → c < hi → at0 xs (f + c) ≤ at0 xs (f + p)
theorem hq_start {xs : List Int} {f lo hi : Nat} (h : Hp xs f (lo + 1) hi) : Hq xs f lo hi lo := ⟨fun k c h1 h2 h3 h4 => h k c (by omega) h3 h4, fun p c h1 h2 => by omega⟩
theorem hq_end {xs : List Int} {f lo hi r : Nat} (h : Hq xs f lo hi r) (hr : ∀ c, c = 2 * r + 1 ∨ c = 2 * r + 2 → c < hi → at0 xs (f + c) ≤ at0 xs (f + r)) : Hp xs f lo hi := fun k c h1 h2 h3 => by
 by_cases hk : k = r
 ·subst hk; exact hr c h2 h3
 ·exact h.1 k c h1 hk h2 h3
theorem hq_step {xs : List Int} {f lo hi r c : Nat} (h : Hq xs f lo hi r) (hlo : lo ≤ r) (hc : c = 2 * r + 1 ∨ c = 2 * r + 2) (hch : c < hi) (hl : f + hi ≤ xs.length) (hmax : ∀ e, e = 2 * r + 1 ∨ e = 2 * r + 2 → e < hi → at0 xs (f + e) ≤ at0 xs (f + c)) (hlt : at0 xs (f + r) < at0 xs (f + c)) : Hq (swp xs (f + r) (f + c)) f lo hi c := by
 have E : ∀ k, k < hi → at0 (swp xs (f + r) (f + c)) (f + k) = if k = c then at0 xs (f + r) else if k = r then at0 xs (f + c) else at0 xs (f + k) := fun k hk => by
  rw [at0_swp (by omega) (by omega)]
  by_cases e1 : k = c
  ·rw [if_pos (by omega), if_pos e1]
  ·rw [if_neg (by omega), if_neg e1]
   by_cases e2 : k = r
   ·rw [if_pos (by omega), if_pos e2]
   ·rw [if_neg (by omega), if_neg e2]
 refine ⟨fun k e h1 h2 h3 h4 => ?_, fun p e h1 h2 h3 h4 => ?_⟩
 ·rw [E e h4, E k (by omega), if_neg h2]
  by_cases hk : k = r
  ·rw [if_pos hk]
   subst hk
   by_cases he : e = c
   ·rw [if_pos he]; omega
   ·rw [if_neg he, if_neg (by omega)]
    exact hmax e h3 h4
  ·rw [if_neg hk]
   by_cases he : e = c
   ·omega
   ·rw [if_neg he]
    by_cases he2 : e = r
    ·rw [if_pos he2]
     exact h.2 k c h1 (by omega) hc hch
    ·rw [if_neg he2]
     exact h.1 k e h1 hk h3 h4
 ·have hp : p = r := by omega
  subst hp
  rw [E e h4, E p (by omega), if_neg (by omega), if_neg (by omega), if_neg (by omega), if_pos rfl]
  exact h.1 c e (by omega) (by omega) h3 h4
theorem hp_leaf (xs : List Int) (f lo hi : Nat) (h : hi ≤ 2 * lo + 1) : Hp xs f lo hi := fun k c h1 h2 h3 => by omega
theorem hp_top {xs : List Int} {f hi : Nat} (h : Hp xs f 0 hi) : ∀ k, k < hi → at0 xs (f + k) ≤ at0 xs (f + 0) := by
 intro k
 induction k using Nat.strongRecOn with
 | _ k ih =>
  intro hk
  by_cases h0 : k = 0
  ·subst h0; exact Int.le_refl _
  ·exact Int.le_trans (h ((k - 1) / 2) k (Nat.zero_le _) (by omega) hk) (ih ((k - 1) / 2) (by omega) (by omega))
def Tl (xs : List Int) (a t m : Nat) : Prop := ∀ k l, k < l → t ≤ l → l < m → at0 xs (a + k) ≤ at0 xs (a + l)
theorem tl_start (xs : List Int) (a m : Nat) : Tl xs a m m := fun k l h1 h2 h3 => by omega
theorem tl_end {xs : List Int} {a b : Nat} (hab : a ≤ b) (h : Tl xs a 0 (b - a)) : Srt xs a b := fun i j h1 h2 h3 => by
 have := h (i - a) (j - a) (by omega) (by omega) (by omega)
 rwa [show a + (i - a) = i by omega, show a + (j - a) = j by omega] at this
theorem hs_heap {ys : List Int} {a j m : Nat} (hj : j < m) (hl : a + m ≤ ys.length) (hp : Hp ys a 0 (j + 1)) : Hp (swp ys a (a + j)) a 1 j := fun k c h1 h2 h3 => by
 rw [at0_swp (by omega) (by omega), at0_swp (by omega) (by omega), if_neg (by omega), if_neg (by omega), if_neg (by omega), if_neg (by omega)]
 exact hp k c (by omega) h2 (by omega)
theorem hs_step {ys ws : List Int} {a j m : Nat} (hj : j < m) (hl : a + m ≤ ys.length) (hp : Hp ys a 0 (j + 1)) (ht : Tl ys a (j + 1) m) (hr : RP a (a + j) (swp ys a (a + j)) ws) : Tl ws a j m := by
 have E : ∀ k, k < m → at0 (swp ys a (a + j)) (a + k) = if k = j then at0 ys (a + 0) else if k = 0 then at0 ys (a + j) else at0 ys (a + k) := fun k hk => by
  rw [at0_swp (by omega) (by omega)]
  by_cases e1 : k = j
  ·rw [if_pos (by omega), if_pos e1, Nat.add_zero]
  ·rw [if_neg (by omega), if_neg e1]
   by_cases e2 : k = 0
   ·rw [if_pos (by omega), if_pos e2]
   ·rw [if_neg (by omega), if_neg e2]
 have hfrom : ∀ k, k < j → ∃ q, q ≤ j ∧ at0 ws (a + k) = at0 ys (a + q) := fun k hk => by
  obtain ⟨p, p1, p2, e⟩ := hr.from_ (a + k) (by omega) (by omega)
  have h2 := E (p - a) (by omega)
  rw [show a + (p - a) = p by omega, if_neg (by omega)] at h2
  by_cases e0 : p - a = 0
  ·rw [if_pos e0] at h2
   exact ⟨j, Nat.le_refl _, by rw [e, h2]⟩
  ·rw [if_neg e0] at h2
   exact ⟨p - a, by omega, by rw [e, h2]; congr 1; omega⟩
 have hout : ∀ k, j ≤ k → k < m → at0 ws (a + k) = if k = j then at0 ys (a + 0) else at0 ys (a + k) := fun k h1 h2 => by
  rw [hr.out (a + k) (.inr (by omega)), E k h2]
  by_cases e : k = j
  ·rw [if_pos e, if_pos e]
  ·rw [if_neg e, if_neg e, if_neg (by omega)]
 intro k l h1 h2 h3
 by_cases hlj : l = j
 ·subst hlj
  rw [hout l (Nat.le_refl _) h3, if_pos rfl]
  obtain ⟨q, q1, e⟩ := hfrom k h1
  rw [e]
  exact hp_top hp q (by omega)
 ·rw [hout l h2 h3, if_neg hlj]
  by_cases hk : k < j
  ·obtain ⟨q, q1, e⟩ := hfrom k hk
   rw [e]
   exact ht q l (by omega) (by omega) h3
  ·rw [hout k (by omega) (by omega)]
   by_cases hkj : k = j
   ·rw [if_pos hkj]
    exact ht 0 l (by omega) (by omega) h3
   ·rw [if_neg hkj]
    exact ht k l h1 (by omega) h3
theorem Srt.one {xs : List Int} {a i : Nat} (h : i ≤ a + 1) : Srt xs a i := fun p q h1 h2 h3 => by omega
theorem Srt.more {xs : List Int} {a i m : Nat} (h : Srt xs a i) (hm : m + 1 = i) (ha : a ≤ m) (hl : ¬ at0 xs i < at0 xs m) : Srt xs a (i + 1) := fun p q h1 h2 h3 => by
 by_cases hq : q = i
 ·subst hq
  by_cases hp : p = m
  ·subst hp; omega
  ·have := h p m h1 (by omega) (by omega)
   omega
 ·exact h p q h1 h2 (by omega)
theorem Srt.far {xs : List Int} {a i u v : Nat} (h : Srt xs a i) (hu : i ≤ u) (hv : i ≤ v) (hul : u < xs.length) (hvl : v < xs.length) : Srt (swp xs u v) a i := fun p q h1 h2 h3 => by
 rw [at0_swp hul hvl, at0_swp hul hvl, if_neg (by omega), if_neg (by omega), if_neg (by omega), if_neg (by omega)]
 exact h p q h1 h2 h3
def PureAt (P : Program) (o : Oper) (v : Value) (a : Act) : Prop := ∀ w, (execOp a.eval o).run P w = .ok (.value v) w
section
variable {P : Program} {md : Region.Mode} {ops : Array Oper} {W : World}
theorem PureAt.put {o : Oper} {v u : Value} {a : Act} {d : Option Tmp} (h : PureAt P o v a) (hs : ∀ cs b, o.op ≠ .select cs b) (hp : ∀ e, d = some e → e ∉ o.looksAt ops) : PureAt P o v (a.put d u) := fun w => by
 rw [execOp_put o hs a d u hp]
 exact h w
theorem feOpG_putP {n j : Nat} {oi oj : Oper} {v : Value} (hj : ops[j]? = some oj) (hap : oi.apart ops oj = true)
  (hsi : ∀ cs b, oi.op ≠ .select cs b) (hsj : ∀ cs b, oj.op ≠ .select cs b) {K : StG W → Act → Prop} {s : StG W} {a : Act}
  (hy : PureAt P oi v a) (h : feOpG P ops W n j K s (a.put oi.dst v)) :
  feOpG P ops W n j (fun s' a' => PureAt P oi v a' ∧ K s' (a'.put oi.dst v)) s a := by
 obtain ⟨p1, p2, p3⟩ := Oper.apart_spec hap
 rcases h with ⟨hsc, o, ho, u, hu, hk⟩ | ⟨o, ho, hg, hs⟩
 ·obtain rfl : o = oj := Option.some.inj (ho.symm.trans hj)
  exact .inl ⟨hsc, o, hj, u, hu.unput hsj p1, hy.put hsi p3, by rw [← Act.put_comm a v u p2]; exact hk⟩
 ·obtain rfl : o = oj := Option.some.inj (ho.symm.trans hj)
  refine .inr ⟨o, hj, by rw [wanted_put o a oi.dst v p1] at hg; exact hg, fun w hw => ?_⟩
  have h3 := hs w hw
  unfold EffAt at *
  rw [execOp_put o hsj a oi.dst v p1] at h3
  exact effUpon_mono (fun u w' ⟨s', h1, h4, h2⟩ => ⟨s', h1, h4, hy.put hsi p3, by rw [← Act.put_comm a v u p2]; exact h2⟩) _ h3
theorem feOp_pure {n i : Nat} {oi : Oper} {v : Value} {K : StG W → Act → Prop} {s : StG W} {a : Act} (hi : ops[i]? = some oi) (hg : oi.guard = none) (hy : PureAt P oi v a) (h : K s (a.put oi.dst v)) : feOpG P ops W n i K s a :=
 fg_eff hi hg fun w hw => by
  unfold EffAt
  rw [hy w]
  exact ⟨s, hw, fun _ h => h, h⟩
theorem feG_firstP {n i : Nat} {oi : Oper} {v : Value} {L : StG W → Act → Prop} (hi : ops[i]? = some oi) (hg : oi.guard = none) (hsel : ∀ (j : Nat) (o : Oper) cs b, ops[j]? = some o → o.op ≠ .select cs b) :
  ∀ (f : Nat) (listed : Array Bool) (s : StG W) (a : Act),
   (∀ j oj, ops[j]? = some oj → j ≠ i → listed.getD j true = false → (∀ e ∈ oj.after, Region.binds md e = true → e.on ≠ i) → oi.apart ops oj = true) →
   i ∈ Region.ready md ops listed → PureAt P oi v a →
   feG P md ops W n L f (listed.setIfInBounds i true) s (a.put oi.dst v) → feG P md ops W n L (f + 1) listed s a := by
 intro f
 induction f with
 | zero =>
  intro listed s a _ hr hy H
  refine ⟨(fun h => by rw [h] at hr; cases hr), fun j hj => ?_⟩
  by_cases hji : j = i
  ·subst hji; exact feOp_pure hi hg hy H
  ·have := ready_mono hj hji
   rw [H.1] at this
   cases this
 | succ f ih =>
  intro listed s a hfree hr hy H
  have hun := (mem_ready.1 hr).1
  refine ⟨(fun h => by rw [h] at hr; cases hr), fun j hj => ?_⟩
  by_cases hji : j = i
  ·subst hji; exact feOp_pure hi hg hy H
  have h1 := H.2 j (ready_mono hj hji)
  obtain ⟨hjun, oj, hoj, hall⟩ := mem_ready.1 hj
  have hnot : ∀ e ∈ oj.after, Region.binds md e = true → e.on ≠ i := fun e he hb heq => by
   have h1 := hall e he hb
   rw [heq, getD_both hun] at h1
   cases h1
  have h2 := feOpG_putP hoj (hfree j oj hoj hji hjun hnot) (fun cs b => hsel i oi cs b hi) (fun cs b => hsel j oj cs b hoj) hy h1
  have hfree' : ∀ k ok, ops[k]? = some ok → k ≠ i → (listed.setIfInBounds j true).getD k true = false →
    (∀ e ∈ ok.after, Region.binds md e = true → e.on ≠ i) → oi.apart ops ok = true := fun k ok hk hki hu hno => by
   refine hfree k ok hk hki ?_ hno
   by_cases hjk : j = k
   ·subst hjk; exact hjun
   ·rw [getD_set_ne true hjk] at hu; exact hu
  refine feOpG_mono (fun s' a' h3 => ih (listed.setIfInBounds j true) s' a' hfree' (ready_mono hr (Ne.symm hji)) h3.1 ?_) h2
  rw [Array.setIfInBounds_comm _ _ hji]
  exact h3.2
def wpPure (P : Program) (K : Act → Prop) : List Oper → Act → Prop
 | [], a => K a
 | o :: r, a => o.guard = none ∧ ∃ v, PureAt P o v a ∧ wpPure P K r (a.put o.dst v)
end
section
variable {P : Program} {md : Region.Mode} {W : World} {l : List Oper} {L : StG W → Act → Prop}
theorem feG_lexP {n : Nat} (hsel : Region.noSelect l.toArray = true) (m : Nat) :
  ∀ (ps : List Nat) (listed : Array Bool) (s : StG W) (a : Act), Closed md l.toArray listed → freeAll md l.toArray ps listed = true → wpPure P (fun a' => Closed md l.toArray (listAll ps listed) → feG P md l.toArray W n L m (listAll ps listed) s a') (pick l ps) a →
   feG P md l.toArray W n L (ps.length + m) listed s a
 | [], listed, s, a, hcl, hB, h => by
  rw [List.length_nil, Nat.zero_add]
  exact h hcl
 | k :: r, listed, s, a, hcl, hB, h => by
  simp only [freeAll, Bool.and_eq_true] at hB
  obtain ⟨⟨hr, hf⟩, hB'⟩ := hB
  have hr' : k ∈ Region.ready md l.toArray listed := by simpa using hr
  obtain ⟨hun, o, ho, hall⟩ := mem_ready.1 hr'
  have ho' : l[k]? = some o := by simpa using ho
  have hks : k < listed.size := by
   rcases Nat.lt_or_ge k listed.size with h | h
   ·exact h
   ·simp [Array.getD, Nat.not_lt.2 h] at hun
  have hcl' := closed_set hcl ho hall hks
  rw [pick_cons ho'] at h
  rw [show (k :: r).length + m = (r.length + m) + 1 by simp; omega]
  obtain ⟨hg, v, hv, hk⟩ := h
  exact feG_firstP ho hg (Region.noSelect_spec hsel) _ listed s a (Region.free_spec ho hf) hr' hv (feG_lexP hsel m r _ _ _ hcl' hB' hk)
def treeJB (md : Region.Mode) (ops : Array Oper) (ps qs : List Nat) (m n : Nat) : Bool :=
 Region.noSelect ops && decide (ps.length + (qs.length + m) = ops.size) && qs.all (waitsK md ops 6 n) && freeAll md ops ps (Array.replicate ops.size false) && freeAll md ops qs (listAll ps (Array.replicate ops.size false))
theorem wp_region_treeJ {id : Nat} {Q : Exit → Act → World → Prop} {a : Act} {w : World} (s : StG W) (hsc : s.c = true) (hw : s.e w.drew) (ps qs : List Nat) (m n : Nat) (hm : P.follows .mixedOrders = true) (hB : treeJB .any l.toArray ps qs m n = true)
  (h : wpPure P (fun a2 => wpCalm P l.toArray W (fun a' => feG P .any l.toArray W n (fun s a3 => ∀ w', s.e w' → Q .normal a3 w') m (listAll qs (listAll ps (Array.replicate l.toArray.size false))) s a') (pick l qs) a2) (pick l ps) a) : (Code.region id l.toArray true).wp P Q a w := by
 simp only [treeJB, Bool.and_eq_true, decide_eq_true_eq] at hB
 obtain ⟨⟨⟨⟨hsel, hlen⟩, hq⟩, hfp⟩, hfq⟩ := hB
 have hcl : Closed .any l.toArray (Array.replicate l.toArray.size false) := fun k o ho hk => by
  rw [getD_replicate_false] at hk
  cases hk
 have hmono : ∀ (os : List Oper) (a : Act) (K K' : Act → Prop), (∀ a, K a → K' a) → wpPure P K os a → wpPure P K' os a := by
  intro os
  induction os with
  | nil => exact fun a K K' hK h => hK a h
  | cons o r ih => exact fun a K K' hK ⟨hg, v, hv, hk⟩ => ⟨hg, v, hv, ih _ K K' hK hk⟩
 have H := feG_lexP (md := .any) (P := P) (W := W) (n := n) (L := fun s a3 => ∀ w', s.e w' → Q .normal a3 w') hsel (qs.length + m) ps _ s a hcl hfp (hmono _ _ _ _ (fun a' ha hc => feG_lexT (md := .any) (P := P) (W := W) hsel m qs _ s a' hsc hc hq hfq ha) h)
 refine wp_region_any hm ?_
 have := feG_any (Q' := Q) (fun s a' w' hw' (hL : ∀ w', s.e w' → Q .normal a' w') => hL w' hw') _ _ _ _ _ hw H
 rw [hlen] at this
 exact this
theorem wpPure_step {K : Act → Prop} {o : Oper} {r : List Oper} {a : Act} (v : Value) (hg : o.guard = none) (hv : ∀ w, (execOp a.eval o).run P w = .ok (.value v) w) (h : wpPure P K r (a.put o.dst v)) : wpPure P K (o :: r) a := ⟨hg, v, hv, h⟩
end
structure Bs where
 b : Nat
 k : IntKind
 t : TypeId
abbrev Bs.two (s : Bs) : Prop := (s.k = .u64 ∧ s.t = 24) ∨ (s.k = .i64 ∧ s.t = 3)
abbrev Bs.is (s : Bs) (f a F : Nat) : Prop := (s.k = .u64 ∧ s.t = 24 ∧ F = f) ∨ (s.k = .i64 ∧ s.t = 3 ∧ F = a)
def slS (t : TypeId) : TypeId := if t = 24 then 57 else 60
def sE (k : IntKind) (t : TypeId) : EK Int := ⟨fun x => [.int k x], 1, t, slS t, 8, .int k 0, fun _ => True⟩
theorem sIs {k : IntKind} {t : TypeId} (hq : (k = .u64 ∧ t = 24) ∨ (k = .i64 ∧ t = 3)) : (sE k t).Is := by
 rcases hq with ⟨rfl, rfl⟩ | ⟨rfl, rfl⟩
 ·exact ⟨fun _ _ => rfl, fun x _ v hv => by (simp only [sE, List.mem_cons, List.mem_nil_iff, or_false] at hv; subst hv; rfl), by decide, Tryz.underlying57, by kernel_rfl, rfl, by decide⟩
 ·exact ⟨fun _ _ => rfl, fun x _ v hv => by (simp only [sE, List.mem_cons, List.mem_nil_iff, or_false] at hv; subst hv; rfl), by decide, Tryz.underlying60, by kernel_rfl, rfl, by decide⟩
abbrev uE : EK Int := sE .u64 24
theorem uIs : uE.Is := sIs (.inl ⟨rfl, rfl⟩)
abbrev I.sE : EK Int := Go.Proofs.YtddckdhnolmjoaaGreat.sE .i64 3
theorem I.sIs : I.sE.Is := Go.Proofs.YtddckdhnolmjoaaGreat.sIs (.inr ⟨rfl, rfl⟩)
structure SA (base : Bs) (W : World) (g n c : Nat) (xs : List Int) : Prop where
 own : OwnN (sE base.k base.t) base.b W (.slice (some ⟨g, 0, none⟩) n c) xs
 two : base.two
theorem SA.gr {base : Bs} {W W' : World} {g n c : Nat} {xs : List Int} (h : SA base W g n c xs) (k : Gr W W') : SA base W' g n c xs := ⟨h.own.gr k, h.two⟩
theorem SA.blk {base : Bs} {W : World} {g n c : Nat} {xs : List Int} (h : SA base W g n c xs) : ∃ cs, W.heap[g]? = some (.cells cs base.t (0, 0)) := by
 rcases h.own.own.2 with ⟨e, _⟩ | ⟨g', cap, cur, e, _, hh, _⟩
 ·cases e
 ·cases e
  exact ⟨cur, hh⟩
theorem SA.lt {base : Bs} {W : World} {g n c : Nat} {xs : List Int} (h : SA base W g n c xs) : g < W.heap.size := by
 obtain ⟨cs, e⟩ := h.blk
 exact (Array.getElem?_eq_some_iff.1 e).1
theorem SA.ge {base : Bs} {W : World} {g n c : Nat} {xs : List Int} (h : SA base W g n c xs) : base.b ≤ g := (h.own.lt g rfl).1
theorem SA.len {base : Bs} {W : World} {g n c : Nat} {xs : List Int} (h : SA base W g n c xs) : xs.length = n := by
 rcases h.own.own.2 with ⟨e, _⟩ | ⟨g', cap, cur, e, _⟩
 ·cases e
 ·simp only [Value.slice.injEq] at e; exact e.2.1.symm
theorem SA.frozen {base : Bs} {W : World} {g n c : Nat} {xs : List Int} (h : SA base W g n c xs) (i : Nat) : W.frozen? ⟨g, i, none⟩ = false := by
 obtain ⟨cs, e⟩ := h.blk
 simp [World.frozen?, e]
theorem SA.cell {base : Bs} {k : IntKind} (hk : base.k = k) {W : World} {g n c : Nat} {xs : List Int} (h : SA base W g n c xs) (i : Nat) (hi : i < xs.length) : W.cell? ⟨g, i, none⟩ = some (.int k (at0 xs i)) := by
 subst hk
 have hne : xs ≠ [] := by rintro rfl; simp at hi
 obtain ⟨g', c', e, _, _, _, _, hc, _⟩ := h.own.cells (sIs h.two) hne
 simp only [Value.slice.injEq, Option.some.injEq, Addr.mk.injEq] at e
 have := hc i (at0 xs i) (at0_get hi) 0 _ rfl
 have e1 : (sE base.k base.t).k = 1 := rfl
 rw [e1, Nat.mul_one, Nat.zero_add, Nat.add_zero, ← e.1.1] at this
 exact this
theorem SA.put {base : Bs} {k : IntKind} (hk : base.k = k) {W : World} {g n c : Nat} {xs : List Int} (h : SA base W g n c xs) (i : Nat) (y : Int) (hi : i < xs.length) : SA base (W.setCell ⟨g, i, none⟩ (.int k y)) g n c (xs.set i y) := by
 subst hk
 have := h.own.store (sIs h.two) i 0 (at0 xs i) y (.int base.k y) (at0_get hi) (show 0 < 1 by decide) rfl trivial
 have e1 : (sE base.k base.t).k = 1 := rfl
 rw [e1, Nat.mul_one, Nat.add_zero] at this
 exact ⟨this, h.two⟩
theorem st_run {base : Bs} {k : IntKind} {t : TypeId} (hk : base.k = k) (ht : base.t = t) (g i : Nat) (w1 : World) (y : Int) {v0 : Value} (hc : w1.cell? ⟨g, i, none⟩ = some v0) (hf : w1.frozen? ⟨g, i, none⟩ = false) (hq : (k = .u64 ∧ t = 24) ∨ (k = .i64 ∧ t = 3) := by first | exact .inl ⟨rfl, rfl⟩ | exact .inr ⟨rfl, rfl⟩) :
  (storeVar t ⟨g, i, none⟩ (.int k y)).run Tryz.prog w1 = .ok () (w1.setCell ⟨g, i, none⟩ (.int k y)) := by
 rcases hq with ⟨rfl, rfl⟩ | ⟨rfl, rfl⟩ <;> go_simp
theorem effAt_stS {w w' : World} {o : Oper} {a : Act} {K : Value → World → Prop} {ty : TypeId} {x y : Operand} {ad : Addr} {u : Value} (ho : o.op = .store ty x y) (hx : a.eval x = .pointer (some ad)) (hy : a.eval y = u) (hrun : (storeVar ty ad u).run Tryz.prog w = .ok () w') (h : K undef w') : EffAt Tryz.prog o a w K := by
 unfold EffAt execOp
 simp only [ho, hx, hy, Instr.storeAt, Instr.sureAddr, Sem.run_bind, Sem.run_pure, Result.andThen_ok, hrun, effUpon]
 exact h
def Onl (W W' : World) (g : Nat) : Prop := W.grownBy W' (some g)
theorem Onl.refl (W : World) (g : Nat) : Onl W W g := World.grownBy.refl W (some g)
theorem Onl.size {W W' : World} {g : Nat} (h : Onl W W' g) : W.heap.size ≤ W'.heap.size := World.grownBy.size h
theorem Onl.block {W W' : World} {g : Nat} (h : Onl W W' g) {k : Nat} (hk : k < W.heap.size) (hn : k ≠ g) : W'.heap[k]? = W.heap[k]? := World.grownBy.block h k hk (fun e => hn (Option.some.inj e))
theorem Onl.trans {W W' W2 : World} {g : Nat} (h : Onl W W' g) (h2 : Onl W' W2 g) : Onl W W2 g :=
 ⟨h2.os.trans h.os, h2.tape.trans h.tape, h2.output.trans h.output, Nat.le_trans (World.grownBy.size h) (World.grownBy.size h2), fun k hk hn => (World.grownBy.block h2 k (Nat.lt_of_lt_of_le hk (World.grownBy.size h)) hn).trans (World.grownBy.block h k hk hn)⟩
theorem Onl.of_gr {W W' : World} (h : Gr W W') (g : Nat) : Onl W W' g := by
 have b := h.below
 exact ⟨b.os, b.tape, b.output, b.size, fun k hk _ => b.block k hk⟩
theorem Onl.set (W : World) (g i : Nat) (v : Value) : Onl W (W.setCell ⟨g, i, none⟩ v) g :=
 ⟨rfl, rfl, rfl, by simp [World.setCell], fun k hk hn => Below.heap_setCell W ⟨g, i, none⟩ v k (fun e => hn (by rw [e]))⟩
theorem Onl.gr {w0 W W' : World} {g : Nat} (h : Onl W W' g) (h0 : Gr w0 W) (hg : w0.heap.size ≤ g) : Gr w0 W' := by
 have b := h0.below
 exact Gr.of ⟨h.os.trans b.os, h.tape.trans b.tape, h.output.trans b.output, Nat.le_trans b.size h.size, fun k hk => (h.block (Nat.lt_of_lt_of_le hk b.size) (by omega)).trans (b.block k hk)⟩
theorem Onl.old {W W' : World} {g b : Nat} (h : Onl W W' g) [o : Old b W] : Old b W' := ⟨Nat.lt_of_lt_of_le o.lt h.size⟩
theorem wrapS (n : Nat) (h : n < 9223372036854775808) : IntKind.i64.wrap (n : Int) = (n : Int) := by rw [IntKind.wrap_i64]; omega
def fLs : IntKind → Nat
 | .u64 => 124
 | _ => 135
theorem nan_u (x : Int) (w : World) : Calls Tryz.prog 149 #[.int .u64 x] w fun e w' => e = .returned (.bool false) ∧ Gr w w' := by
 have h : (x != x) = false := by simp
 go_enter Tryz.func149, Tryz.ntmps149
 go_wp2
 go_ret
 exact ⟨by simp, gri⟩
theorem nan_i (x : Int) (w : World) : Calls Tryz.prog 153 #[.int .i64 x] w fun e w' => e = .returned (.bool false) ∧ Gr w w' := by
 have h : (x != x) = false := by simp
 go_enter Tryz.func153, Tryz.ntmps153
 go_wp2
 go_ret
 exact ⟨by simp, gri⟩
theorem less_u (x y : Int) (w : World) : Calls Tryz.prog 124 #[.int .u64 x, .int .u64 y] w fun e w' => e = .returned (.bool (decide (x < y))) ∧ Gr w w' := by
 have HN := hd_ (fun z W => nan_u z W)
 go_enter Tryz.func124, Tryz.ntmps124
 go_wp2_with ((go_at_call 149; ((with_reducible refine (HN.out _ _).mono ?_); rintro _ _ ⟨rfl, g, rfl⟩)))
 go_ret
 exact ⟨by simp, gri⟩
theorem less_i (x y : Int) (w : World) : Calls Tryz.prog 135 #[.int .i64 x, .int .i64 y] w fun e w' => e = .returned (.bool (decide (x < y))) ∧ Gr w w' := by
 have HN := hd_ (fun z W => nan_i z W)
 go_enter Tryz.func135, Tryz.ntmps135
 go_wp2_with ((go_at_call 153; ((with_reducible refine (HN.out _ _).mono ?_); rintro _ _ ⟨rfl, g, rfl⟩)))
 go_ret
 exact ⟨by simp, gri⟩
theorem less_any {base : Bs} {k : IntKind} (_hk : base.k = k) (x y : Int) (w : World) (hq : k = .u64 ∨ k = .i64 := by first | exact .inl rfl | exact .inr rfl) : Calls Tryz.prog (fLs k) #[.int k x, .int k y] w fun e w' => e = .returned (.bool (decide (x < y))) ∧ Gr w w' := by
 rcases hq with rfl | rfl
 ·exact less_u x y w
 ·exact less_i x y w
theorem less_yes {base : Bs} {k : IntKind} (_hk : base.k = k) {x y : Int} (h : x < y) (w : World) (hq : k = .u64 ∨ k = .i64 := by first | exact .inl rfl | exact .inr rfl) : Calls Tryz.prog (fLs k) #[.int k x, .int k y] w fun e w' => e = .returned (.bool true) ∧ Gr w w' := by
 have := less_any _hk x y w hq
 rwa [decide_eq_true h] at this
theorem less_no {base : Bs} {k : IntKind} (_hk : base.k = k) {x y : Int} (h : ¬ x < y) (w : World) (hq : k = .u64 ∨ k = .i64 := by first | exact .inl rfl | exact .inr rfl) : Calls Tryz.prog (fLs k) #[.int k x, .int k y] w fun e w' => e = .returned (.bool false) ∧ Gr w w' := by
 have := less_any _hk x y w hq
 rwa [decide_eq_false h] at this
end Go.Proofs.YtddckdhnolmjoaaGreat
namespace Go.Proofs.YtddckdhnolmjoaaGreat
open Go.RowKit Go.Shelf
attribute [local go_sem] Oper.semAt_some
section
variable {α β : Type} {e : EK α}
def LJ (e : EK α) (base X m : Nat) (T : TypeId) (w : World) (f : List β → List α) (pre : List β) (W : World) : Prop := (∃ v, BlockAt W X #[v] T ∧ OwnN e base W v (f pre)) ∧ Below base w W ∧ m ≤ W.heap.size
theorem LJ.own {base X m : Nat} {T : TypeId} {w : World} {f : List β → List α} {B : Nat} (hB : base ≤ B) (hw : base ≤ w.heap.size) : OwnFrom B (LJ e base X m T w f) := fun s W W' row hs hg hr => by
 obtain ⟨⟨v, hv, ho⟩, hb, hm⟩ := hs
 have hc : ∀ (k : Nat) cs t fz, W.heap[k]? = some (Obj.cells cs t fz) → W'.heap[k]? = W.heap[k]? := fun k cs t fz hk => hg.block k (Array.getElem?_eq_some_iff.1 hk).1 (fun e2 => by
  obtain ⟨_, o, h1, h2⟩ := hr k e2.symm
  rw [hk] at h1; cases h1; cases h2)
 refine ⟨⟨v, ⟨(hc X _ _ _ hv.eq).trans hv.eq⟩, ho.keep fun k hk => ?_⟩, hb.grown hg (Nat.le_trans hw hb.size) (fun k e2 => Nat.le_trans hB (hr k e2).1), Nat.le_trans hm hg.size⟩
 rcases ho.own.2 with ⟨rfl, _⟩ | ⟨g, cap, cur, rfl, _, hh, _⟩
 ·cases hk
 ·have : k = g := by simpa [Value.ownBlock] using hk.symm
  subst this
  exact hc _ _ _ _ hh
theorem KeepsWalks.of_app {base : Nat} {W W' : World} {v v' : Value} {xs ys : List α} (h : AppN e base W v xs ys v' W') : KeepsWalks W W' := ⟨h.size, fun k o hk ho => (h.block k (Array.getElem?_eq_some_iff.1 hk).1 (fun cs f h2 => by rw [hk] at h2; cases h2; cases ho)).trans hk⟩
theorem KeepsWalks.of_gr {W W' : World} (g : Gr W W') : KeepsWalks W W' := ⟨g.below.size, fun k o hk _ => (g.below.block k (Array.getElem?_eq_some_iff.1 hk).1).trans hk⟩
end
theorem appseqU (Bm b : Nat) (L : List (Int × Value)) (hL : L.length ≤ 1000000) (w : World) (h1m : BlockAt w Bm #[.map (some b)] 53) (hm : MapAt .u64 w b L) : Calls Tryz.prog 107 #[.slice none 0 0, .func (.func 83) #[] #[.pointer (some ⟨Bm, 0, none⟩)]] w fun e w' => ∃ v xs, e = .returned v ∧ OwnN uE w.heap.size w' v xs ∧ xs.Perm (L.map (·.1)) ∧ Gr w w' := by
 refine (callsIn_wide (n := 3)).1 ?_
 have h1 : 1 ≤ 3 := by omega
 refine callsIn_of_wp_marks Tryz.func107 rfl trivial ?_ rfl
 simp only [Tryz.ntmps107, List.size_toArray, List.length_cons, List.length_nil, Nat.reduceAdd, Nat.reduceSub, Array.replicate_succ, Array.replicate_zero, List.push_toArray, List.append_toArray, List.nil_append, List.cons_append]
 have hnf : ∀ (W : World) (A : Array Value), (binOp .eql 115 (.func (.func 83) #[] A) .nilFunc).run Tryz.prog W = .ok (.bool false) W := fun W A => by kernel_rfl
 gi_wp2
 obtain ⟨W0, hW0⟩ : ∃ W0, w.alloc (.cells #[.slice none 0 0] 57) = W0 := ⟨_, rfl⟩
 have hs0 : W0.heap.size = w.heap.size + 1 := by rw [← hW0]; simp
 have hbX : BlockAt W0 w.heap.size #[.slice none 0 0] 57 := by rw [← hW0]; infer_instance
 have hg0 : Gr w W0 := by rw [← hW0]; exact gri
 rw [hW0]
 refine wpIn_rangeFunc_ownH (F := Fence.wide) (n := 3) rfl h1 (gf := 83) (lb := #[.pointer (some ⟨Bm, 0, none⟩)]) rfl trivial (enters_of Tryz.func83 (by kernel_rfl) rfl)
  (keysu_stops (3 - 1) (by omega) Bm b L W0 (h1m.gr hg0) (hm.gr hg0)) (fun h k => h.trans k) (fun W l o o' hl ho _ hc' => KeepsWalks.putObj _ ho hc') (Below.refl _ _) (fun _ => rfl)
  (LJ uE w.heap.size w.heap.size W0.heap.size 57 w (fun pre : List Int => pre)) (fun _ _ _ => False) (LJ.own (by omega) (Nat.le_refl _)) (fun _ _ _ _ _ h _ _ => h.elim) ⟨⟨_, hbX, OwnN.nil _ _⟩, hg0.below, Nat.le_refl _⟩
  (fun x a' W => a' = { tmps := #[.slice none 0 0, .func (.func 83) #[] #[.pointer (some ⟨Bm, 0, none⟩)], .pointer (some ⟨w.heap.size, 0, none⟩), undef, .slice none 0 0, .int .u64 x, .func (.func 83) #[] #[.pointer (some ⟨Bm, 0, none⟩)], .int .u64 x, undef, undef, undef, undef, undef], defers := [] })
  (fun x a' s W W' row hs hg hr => hs) ?assign ?body ?done ?stop
 case assign =>
  rintro l pre x W K ⟨⟨v, hv, ho⟩, hb, hm⟩ hK
  gi_wp2
  exact hK _ _ ((KeepsOthers.refl _).from _) (KeepsWalks.refl _) ⟨⟨v, hv, ho⟩, hb, hm⟩ rfl
 case body =>
  rintro l pre x a' W hl ⟨r, hr⟩ ⟨⟨v, hv, ho⟩, hb, hm⟩ rfl hN
  have x0 : W.cell? ⟨w.heap.size, 0, none⟩ = some v := (bc 0 hv).trans rfl
  have u0 : W.frozen? ⟨w.heap.size, 0, none⟩ = false := @block_frozen _ _ 0 _ _ hv
  haveI := hv.old
  have hsz := hb.size
  have HV := hd_ hv
  have HO := hd_ ho
  have HB := hd_ hb
  have HL : Hid (pre.length ≤ 2000000) := hd_ (by omega)
  have HSZ := hd_ hsz
  clear hv ho hb hr hN hsz hbX hg0 hW0 h1m
  gi_wp2_with (first | (gi_at_builtin; refine wpIn_append_n (v := v) uIs rfl _ _ rfl rfl (HO.out.gr gri) _ 0 [x] 1 1 rfl rfl (fun _ _ => trivial) (CellsN.block _ inferInstance rfl) (by have := HL.out; simp; omega) (by have := HSZ.out; simp; omega) (by simp) ?_; intro v1 W1 h1; obtain ⟨A1, c1, hv1, _, _, _⟩ := h1.own.form uIs; simp only [List.length_append, List.length_map, List.length_cons, List.length_nil, Nat.zero_add] at hv1; subst hv1; have H1 := hd_ h1; clear h1; have z0 := (bc 0 (H1.out.keep _ _ _ (HV.out.gr gri) (by decide))).trans rfl; have zf := @block_frozen _ _ 0 _ _ (H1.out.keep _ _ _ (HV.out.gr gri) (by decide))))
  haveI hX1 := H1.out.keep _ _ _ (HV.out.gr gri) (by decide)
  refine ⟨(((KeepsOthers.of_gr (gri : Gr W _)).trans (KeepsOthers.of_app H1.out)).trans (KeepsOthers.setCell _ _ _)).from _, ((KeepsWalks.of_gr (gri : Gr W _)).trans (KeepsWalks.of_app H1.out)).trans (KeepsWalks.setCell _ _ _), ⟨(.slice A1 (pre.length + 1) c1 : Value), ?blk, ?own⟩, ?bel, ?siz⟩
  case blk =>
   show BlockAt _ _ (#[v].setIfInBounds 0 _) _
   infer_instance
  case own =>
   exact H1.out.own.set_ w.heap.size 0 (.slice A1 (pre.length + 1) c1) (by decide)
  case bel =>
   exact ((HB.out.alloc HSZ.out _).trans (H1.out.below)).setCell (p := ⟨w.heap.size, 0, none⟩) (Nat.le_refl _) _
  case siz =>
   have := H1.out.size
   simp [World.setCell] at this ⊢
   omega
 case done =>
  rintro D ys W hD hS ⟨⟨v, hv, ho⟩, hb, hm⟩ hK
  have x0 : W.cell? ⟨w.heap.size, 0, none⟩ = some v := (bc 0 hv).trans rfl
  have HO := hd_ ho
  have HB := hd_ hb
  have HV := hd_ hv
  have HS := hd_ hS
  clear ho hb hv hbX hg0 hW0 hS
  gi_wp2
  refine ⟨by simp, .inl ⟨_, _, rfl, run_takeDeferred hK, ?_⟩⟩
  exact ⟨_, results_tmp rfl _ _ _, v, rfl, ys, HO.out.put D _ _ hK rfl, HS.out, Gr.of (HB.out.trans (belowK_b (Nat.le_refl _) W D _ _ (by omega) hK rfl rfl))⟩
 case stop =>
  rintro D c pre W hD _ h _
  exact h.elim
end Go.Proofs.YtddckdhnolmjoaaGreat
namespace Go.Proofs.YtddckdhnolmjoaaGreat.A
open Go.RowKit Go.Shelf Go.MapKept
attribute [local go_sem] Oper.semAt_some
theorem appseqU (Bm b : Nat) (L : List (Int × Value)) (hL : L.length ≤ 1000000) (w : World) (h1m : BlockAt w Bm #[.map (some b)] 77) (hm : MapAt .u64 w b L) : Calls Tryz.prog 107 #[.slice none 0 0, .func (.func 143) #[] #[.pointer (some ⟨Bm, 0, none⟩)]] w fun e w' => ∃ v xs, e = .returned v ∧ OwnN uE w.heap.size w' v xs ∧ xs.Perm (L.map (·.1)) ∧ Gr w w' := by
 refine (callsIn_wide (n := 3)).1 ?_
 have h1 : 1 ≤ 3 := by omega
 refine callsIn_of_wp_marks Tryz.func107 rfl trivial ?_ rfl
 simp only [Tryz.ntmps107, List.size_toArray, List.length_cons, List.length_nil, Nat.reduceAdd, Nat.reduceSub, Array.replicate_succ, Array.replicate_zero, List.push_toArray, List.append_toArray, List.nil_append, List.cons_append]
 have hnf : ∀ (W : World) (A : Array Value), (binOp .eql 115 (.func (.func 143) #[] A) .nilFunc).run Tryz.prog W = .ok (.bool false) W := fun W A => by kernel_rfl
 gi_wp2
 obtain ⟨W0, hW0⟩ : ∃ W0, w.alloc (.cells #[.slice none 0 0] 57) = W0 := ⟨_, rfl⟩
 have hs0 : W0.heap.size = w.heap.size + 1 := by rw [← hW0]; simp
 have hbX : BlockAt W0 w.heap.size #[.slice none 0 0] 57 := by rw [← hW0]; infer_instance
 have hg0 : Gr w W0 := by rw [← hW0]; exact gri
 rw [hW0]
 refine wpIn_rangeFunc_ownH (F := Fence.wide) (n := 3) rfl h1 (gf := 143) (lb := #[.pointer (some ⟨Bm, 0, none⟩)]) rfl trivial (enters_of Tryz.func143 (by kernel_rfl) rfl)
  (keysu_stops (3 - 1) (by omega) Bm b L W0 (h1m.gr hg0) (hm.gr hg0)) (fun h k => h.trans k) (fun W l o o' hl ho _ hc' => KeepsWalks.putObj _ ho hc') (Below.refl _ _) (fun _ => rfl)
  (LJ uE w.heap.size w.heap.size W0.heap.size 57 w (fun pre : List Int => pre)) (fun _ _ _ => False) (LJ.own (by omega) (Nat.le_refl _)) (fun _ _ _ _ _ h _ _ => h.elim) ⟨⟨_, hbX, OwnN.nil _ _⟩, hg0.below, Nat.le_refl _⟩
  (fun x a' W => a' = { tmps := #[.slice none 0 0, .func (.func 143) #[] #[.pointer (some ⟨Bm, 0, none⟩)], .pointer (some ⟨w.heap.size, 0, none⟩), undef, .slice none 0 0, .int .u64 x, .func (.func 143) #[] #[.pointer (some ⟨Bm, 0, none⟩)], .int .u64 x, undef, undef, undef, undef, undef], defers := [] })
  (fun x a' s W W' row hs hg hr => hs) ?assign ?body ?done ?stop
 case assign =>
  rintro l pre x W K ⟨⟨v, hv, ho⟩, hb, hm⟩ hK
  gi_wp2
  exact hK _ _ ((KeepsOthers.refl _).from _) (KeepsWalks.refl _) ⟨⟨v, hv, ho⟩, hb, hm⟩ rfl
 case body =>
  rintro l pre x a' W hl ⟨r, hr⟩ ⟨⟨v, hv, ho⟩, hb, hm⟩ rfl hN
  have x0 : W.cell? ⟨w.heap.size, 0, none⟩ = some v := (bc 0 hv).trans rfl
  have u0 : W.frozen? ⟨w.heap.size, 0, none⟩ = false := @block_frozen _ _ 0 _ _ hv
  haveI := hv.old
  have hsz := hb.size
  have HV := hd_ hv
  have HO := hd_ ho
  have HB := hd_ hb
  have HL : Hid (pre.length ≤ 2000000) := hd_ (by omega)
  have HSZ := hd_ hsz
  clear hv ho hb hr hN hsz hbX hg0 hW0 h1m
  gi_wp2_with (first | (gi_at_builtin; refine wpIn_append_n (v := v) uIs rfl _ _ rfl rfl (HO.out.gr gri) _ 0 [x] 1 1 rfl rfl (fun _ _ => trivial) (CellsN.block _ inferInstance rfl) (by have := HL.out; simp; omega) (by have := HSZ.out; simp; omega) (by simp) ?_; intro v1 W1 h1; obtain ⟨A1, c1, hv1, _, _, _⟩ := h1.own.form uIs; simp only [List.length_append, List.length_map, List.length_cons, List.length_nil, Nat.zero_add] at hv1; subst hv1; have H1 := hd_ h1; clear h1; have z0 := (bc 0 (H1.out.keep _ _ _ (HV.out.gr gri) (by decide))).trans rfl; have zf := @block_frozen _ _ 0 _ _ (H1.out.keep _ _ _ (HV.out.gr gri) (by decide))))
  haveI hX1 := H1.out.keep _ _ _ (HV.out.gr gri) (by decide)
  refine ⟨(((KeepsOthers.of_gr (gri : Gr W _)).trans (KeepsOthers.of_app H1.out)).trans (KeepsOthers.setCell _ _ _)).from _, ((KeepsWalks.of_gr (gri : Gr W _)).trans (KeepsWalks.of_app H1.out)).trans (KeepsWalks.setCell _ _ _), ⟨(.slice A1 (pre.length + 1) c1 : Value), ?blk, ?own⟩, ?bel, ?siz⟩
  case blk =>
   show BlockAt _ _ (#[v].setIfInBounds 0 _) _
   infer_instance
  case own =>
   exact H1.out.own.set_ w.heap.size 0 (.slice A1 (pre.length + 1) c1) (by decide)
  case bel =>
   exact ((HB.out.alloc HSZ.out _).trans (H1.out.below)).setCell (p := ⟨w.heap.size, 0, none⟩) (Nat.le_refl _) _
  case siz =>
   have := H1.out.size
   simp [World.setCell] at this ⊢
   omega
 case done =>
  rintro D ys W hD hS ⟨⟨v, hv, ho⟩, hb, hm⟩ hK
  have x0 : W.cell? ⟨w.heap.size, 0, none⟩ = some v := (bc 0 hv).trans rfl
  have HO := hd_ ho
  have HB := hd_ hb
  have HV := hd_ hv
  have HS := hd_ hS
  clear ho hb hv hbX hg0 hW0 hS
  gi_wp2
  refine ⟨by simp, .inl ⟨_, _, rfl, run_takeDeferred hK, ?_⟩⟩
  exact ⟨_, results_tmp rfl _ _ _, v, rfl, ys, HO.out.put D _ _ hK rfl, HS.out, Gr.of (HB.out.trans (belowK_b (Nat.le_refl _) W D _ _ (by omega) hK rfl rfl))⟩
 case stop =>
  rintro D c pre W hD _ h _
  exact h.elim
end Go.Proofs.YtddckdhnolmjoaaGreat.A
namespace Go.Proofs.YtddckdhnolmjoaaGreat
open Go.RowKit
theorem insertion_any {F : Nat} (base : Bs) (g n c : Nat) (xs : List Int) (a b : Nat) (w : World) (h : SA base w g n c xs) (hn : n ≤ 1000000) (hab : a ≤ b) (hb : b ≤ n) (hq : base.is 118 129 F := by first | exact .inl ⟨by assumption, by assumption, rfl⟩ | exact .inr ⟨by assumption, by assumption, rfl⟩) :
  Calls Tryz.prog F #[.slice (some ⟨g, 0, none⟩) n c, .int .i64 (a : Int), .int .i64 (b : Int)] w fun e w' => e = .returned (.tuple #[]) ∧ ∃ ys, SA base w' g n c ys ∧ RP a b xs ys ∧ Srt ys a b ∧ Onl w w' g := by
 rcases hq with ⟨kq, tq, rfl⟩ | ⟨kq, tq, rfl⟩
 all_goals
  have H := hd_ h
  clear h
  first | go_enter Tryz.func118, Tryz.ntmps118 | go_enter Tryz.func129, Tryz.ntmps129
  go_wp2
  go_loopw [6] (fun v6 wr => ∃ (i : Nat) (ys : List Int), a + 1 ≤ i ∧ (i ≤ b ∨ i = a + 1) ∧ v6 = .int .i64 (i : Int) ∧ SA base wr g n c ys ∧ RP a b xs ys ∧ Srt ys a i ∧ Onl w wr g) (fun v _ => b - (intOf v).toNat)
  case atStart => exact ⟨a + 1, xs, Nat.le_refl _, .inr rfl, by go_num, H.out.gr gri, .refl, fun i j h1 h2 h3 => by omega, Onl.of_gr gri g⟩
  case round =>
   obtain ⟨i, ys, hi1, hi2, rfl, hsa, hrp, hs, ho⟩ := hrel
   have HSA := hd_ hsa
   have HRP := hd_ hrp
   have HS := hd_ hs
   have HO := hd_ ho
   have hyl := hsa.len
   clear hsa hrp hs ho hi2
   obtain ⟨wo, rfl⟩ : ∃ wo : World, wo = wr := ⟨_, rfl⟩
   by_cases hib : i < b
   ·go_wp2
    go_loopw [7] (fun v7 wr => ∃ (j : Nat) (zs : List Int), a ≤ j ∧ j ≤ i ∧ v7 = .int .i64 (j : Int) ∧ SA base wr g n c zs ∧ RP a b xs zs ∧ Ins zs a i j ∧ Onl w wr g) (fun v _ => (intOf v).toNat)
    case atStart => exact ⟨i, ys, by omega, Nat.le_refl _, rfl, HSA.out.gr gri, HRP.out, ins_start HS.out, HO.out.trans (Onl.of_gr gri g)⟩
    case round =>
     obtain ⟨j, zs, hj1, hj2, rfl, hsa, hrp, hin, ho⟩ := hrel
     have HSA2 := hd_ hsa
     have HRP2 := hd_ hrp
     have HIN := hd_ hin
     have HO2 := hd_ ho
     have hzl := hsa.len
     haveI : Old g wr := ⟨hsa.lt⟩
     by_cases hja : a < j
     ·obtain ⟨m, hmj⟩ : ∃ m, m + 1 = j := ⟨j - 1, by omega⟩
      have c0 := hsa.cell kq j (by omega)
      have c1 := hsa.cell kq m (by omega)
      have hja2 : (a : Int) < (j : Int) := by omega
      have hjm : (j : Int) - 1 = (m : Int) := by omega
      have hw1 : IntKind.i64.wrap (m : Int) = (m : Int) := wrapS m (by omega)
      have hm1 : (m : Int) < (n : Int) := by omega
      have hm2 : (j : Int) < (n : Int) := by omega
      clear hsa hrp hin ho
      by_cases hlt : at0 zs j < at0 zs m
      ·have HL := hd_ (fun W => less_yes kq hlt W)
       have HLT := hd_ hlt
       clear hlt
       go_wp2
       refine wp_region_grow (by kernel_rfl) (by kernel_rfl) ?_
       repeat (go_big_quiet_step ((first | ((first | go_at_call 124 | go_at_call 135); exact grow_call (HL.out _)))))
       refine wpQuiet_nil ?_
       intro g1
       go_wp2
       have HSA3 := HSA2.out.gr (gri : Gr wr (grown wr g1))
       refine wp_region_treeJ ⟨fun w' => Gr (grown wr g1) w', true, fun _ _ h => h, fun _ _ _ h g => h.trans g⟩ rfl (Gr.of ((Below.refl _ _).drew)) [2, 3, 4] [0, 1, 5, 6, 7, 8, 9, 10, 11, 12, 13] 4 15 (by kernel_rfl) (by kernel_rfl) ?_
       simp only [pick, List.drop, List.take, List.nil_append, List.cons_append]
       refine wpPure_step (.slice (some ⟨g, 0, none⟩) n c) rfl (fun w => by go_simp) ?_
       simp only [Act.put, stA, List.set]
       refine wpPure_step (.int .i64 (j : Int)) rfl (fun w => by go_simp) ?_
       simp only [Act.put, stA, List.set]
       refine wpPure_step (.int .i64 (m : Int)) rfl (fun w => by go_simp) ?_
       simp only [Act.put, stA, List.set]
       show wpCalm _ _ _ _ _ _
       repeat (refine wpCalm_step (fun K hK => ?_); go_simp; first | (refine hK _ ?_; clear hK K) | (apply Exists.intro; refine ⟨fun _ => ?_, hK _ ?_⟩; (skip); clear hK K))
       refine wpCalm_nil ?_
       refine fg_one 14 (by kernel_rfl) ?_
       refine fg_pure (.pointer (some ⟨g, j, none⟩)) rfl rfl rfl (fun w => by go_simp) ?_
       simp only [Act.put, stA, List.set]
       refine fg_one 15 (by kernel_rfl) ?_
       refine fg_effN rfl rfl rfl (fun w1 hw1 => ?_)
       have sa1 := SA.gr HSA3 hw1
       have t0 := sa1.cell kq j (by have := hzl; omega)
       have t1 := sa1.frozen j
       haveI oG : Old g w1 := ⟨sa1.lt⟩
       have hrun := st_run kq tq g j w1 ((at0 zs m)) (by assumption) (by assumption)
       refine effAt_stS rfl rfl rfl hrun ⟨⟨fun w2 => SA base w2 g n c (zs.set j (at0 zs m)) ∧ Onl (grown wr g1) w2 g, false, fun e => Bool.noConfusion e, fun e => Bool.noConfusion e⟩, ⟨sa1.put kq j _ (by have := hzl; omega), (Onl.of_gr hw1 g).trans (Onl.set _ g j _)⟩, fun e => absurd rfl e, ?_⟩
       clear oG sa1 t0 t1 hrun hw1 w1
       try simp only [Act.put, stA, List.set]
       refine fg_one 16 (by kernel_rfl) ?_
       refine fg_pure (.pointer (some ⟨g, m, none⟩)) rfl rfl rfl (fun w => by go_simp) ?_
       simp only [Act.put, stA, List.set]
       refine fg_one 17 (by kernel_rfl) ?_
       refine fg_effN rfl rfl rfl (fun w1 hw1 => ?_)
       have t0 := hw1.1.cell kq m (by rw [List.length_set]; have := hzl; omega)
       have t1 := hw1.1.frozen m
       haveI oG : Old g w1 := ⟨hw1.1.lt⟩
       have hrun := st_run kq tq g m w1 ((at0 zs j)) (by assumption) (by assumption)
       refine effAt_stS rfl rfl rfl hrun ⟨⟨fun w2 => SA base w2 g n c (swp zs j m) ∧ Onl (grown wr g1) w2 g, false, fun e => Bool.noConfusion e, fun e => Bool.noConfusion e⟩, ⟨hw1.1.put kq m _ (by rw [List.length_set]; have := hzl; omega), hw1.2.trans (Onl.set _ g m _)⟩, fun _ e => Bool.noConfusion e, ?_⟩
       clear oG t0 t1 hrun hw1 w1
       refine fg_end (by kernel_rfl) (fun w5 hw5 => ?_)
       try simp only [Act.put]
       have HF := hd_ hw5
       clear hw5
       go_wp2
       go_roundw
       case rel =>
        have e : m = j - 1 := by omega
        subst e
        exact ⟨j - 1, swp zs j (j - 1), by omega, by omega, by first | rfl | go_num, HF.out.1.gr gri, .swap HRP2.out j (j - 1) (by omega) (by omega) (by omega) (by omega) (by omega), ins_step HIN.out (by omega) hj2 (by omega) HLT.out, (HO2.out.trans (Onl.of_gr gri g)).trans (HF.out.2.trans (Onl.of_gr gri g))⟩
       case measure => simp [intOf] <;> omega
      ·have HL := hd_ (fun W => less_no kq hlt W)
       have HLT := hd_ hlt
       clear hlt
       go_wp2
       refine wp_region_grow (by kernel_rfl) (by kernel_rfl) ?_
       repeat (go_big_quiet_step ((first | ((first | go_at_call 124 | go_at_call 135); exact grow_call (HL.out _)))))
       refine wpQuiet_nil ?_
       intro g1
       go_wp2
       go_roundw
       case rel => exact ⟨i + 1, zs, by omega, .inl (by omega), by go_num, HSA2.out.gr gri, HRP2.out, ins_end HIN.out hj2 (.inr (by rw [← hmj, Nat.add_sub_cancel, hmj]; exact Int.not_lt.2 HLT.out)), HO2.out.trans (Onl.of_gr gri g)⟩
       case measure => simp [intOf] <;> omega
     ·have e : j = a := by omega
      have hja2 : ¬ (a : Int) < (j : Int) := by omega
      clear hsa hrp hin ho
      go_wp2
      refine wp_region_grow (by kernel_rfl) (by kernel_rfl) ?_
      repeat (go_big_quiet_step (fail))
      refine wpQuiet_nil ?_
      intro g1
      go_wp2
      go_roundw
      case rel => exact ⟨i + 1, zs, by omega, .inl (by omega), by go_num, HSA2.out.gr gri, HRP2.out, ins_end HIN.out hj2 (.inl e), HO2.out.trans (Onl.of_gr gri g)⟩
      case measure => simp [intOf] <;> omega
   ·go_wp2
    exact ⟨rfl, .tuple #[], by simp [results, go_sem], ⟨rfl, ys, HSA.out.gr gri, HRP.out, fun p q h1 h2 h3 => HS.out p q h1 h2 (by omega), HO.out.trans (Onl.of_gr gri g)⟩⟩
theorem sift_any {F : Nat} (base : Bs) (g n c : Nat) (xs : List Int) (lo hi f : Nat) (w : World) (h : SA base w g n c xs) (hn : n ≤ 1000000) (hlo : lo ≤ hi) (hfn : f + hi ≤ n) (hp : Hp xs f (lo + 1) hi) (hq : base.is 144 150 F := by first | exact .inl ⟨by assumption, by assumption, rfl⟩ | exact .inr ⟨by assumption, by assumption, rfl⟩) :
  Calls Tryz.prog F #[.slice (some ⟨g, 0, none⟩) n c, .int .i64 (lo : Int), .int .i64 (hi : Int), .int .i64 (f : Int)] w fun e w' => e = .returned (.tuple #[]) ∧ ∃ ys, SA base w' g n c ys ∧ RP f (f + hi) xs ys ∧ Hp ys f lo hi ∧ Onl w w' g := by
 rcases hq with ⟨kq, tq, rfl⟩ | ⟨kq, tq, rfl⟩
 all_goals
  have H := hd_ h
  have HP := hd_ hp
  clear h hp
  first | go_enter Tryz.func144, Tryz.ntmps144 | go_enter Tryz.func150, Tryz.ntmps150
  go_wp2
  go_loopw [8] (fun v8 wr => ∃ (r : Nat) (ys : List Int), lo ≤ r ∧ (r < hi ∨ r = lo) ∧ v8 = .int .i64 (r : Int) ∧ SA base wr g n c ys ∧ RP f (f + hi) xs ys ∧ Hq ys f lo hi r ∧ Onl w wr g) (fun v _ => hi - (intOf v).toNat)
  case atStart => exact ⟨lo, xs, Nat.le_refl _, .inr rfl, rfl, H.out.gr gri, .refl, hq_start HP.out, Onl.of_gr gri g⟩
  case round =>
   obtain ⟨r, ys, hr1, hr2, rfl, hsa, hrp, hq, ho⟩ := hrel
   have HSA := hd_ hsa
   have HRP := hd_ hrp
   have HQ := hd_ hq
   have HO := hd_ ho
   have hyl := hsa.len
   haveI : Old g wr := ⟨hsa.lt⟩
   obtain ⟨q, hq⟩ : ∃ q, 2 * r = q := ⟨_, rfl⟩
   have rq : (2 : Int) * (r : Int) = (q : Int) := by omega
   have wq : IntKind.i64.wrap (q : Int) = (q : Int) := wrapS q (by omega)
   obtain ⟨e, he⟩ : ∃ e, q + 1 = e := ⟨_, rfl⟩
   have re : (q : Int) + 1 = (e : Int) := by omega
   have we : IntKind.i64.wrap (e : Int) = (e : Int) := wrapS e (by omega)
   by_cases hch : e < hi
   ·have hch2 : ¬ (hi : Int) ≤ (e : Int) := by omega
    obtain ⟨e1, he1⟩ : ∃ e1, e + 1 = e1 := ⟨_, rfl⟩
    have re1 : (e : Int) + 1 = (e1 : Int) := by omega
    have we1 : IntKind.i64.wrap (e1 : Int) = (e1 : Int) := wrapS e1 (by omega)
    obtain ⟨fe, hfe⟩ : ∃ fe, f + e = fe := ⟨_, rfl⟩
    have rfe : (f : Int) + (e : Int) = (fe : Int) := by omega
    have wfe : IntKind.i64.wrap (fe : Int) = (fe : Int) := wrapS fe (by omega)
    have bfe : (fe : Int) < (n : Int) := by omega
    obtain ⟨fr, hfr⟩ : ∃ fr, f + r = fr := ⟨_, rfl⟩
    have rfr : (f : Int) + (r : Int) = (fr : Int) := by omega
    have wfr : IntKind.i64.wrap (fr : Int) = (fr : Int) := wrapS fr (by omega)
    have bfr : (fr : Int) < (n : Int) := by omega
    have c0 := hsa.cell kq fe (by omega)
    have c1 := hsa.cell kq fr (by omega)
    by_cases hc2 : e1 < hi
    ·have hc3 : (e1 : Int) < (hi : Int) := by omega
     obtain ⟨fe1, hfe1⟩ : ∃ fe1, fe + 1 = fe1 := ⟨_, rfl⟩
     have rfe1 : (fe : Int) + 1 = (fe1 : Int) := by omega
     have wfe1 : IntKind.i64.wrap (fe1 : Int) = (fe1 : Int) := wrapS fe1 (by omega)
     have bfe1 : (fe1 : Int) < (n : Int) := by omega
     have rfe2 : (f : Int) + (e1 : Int) = (fe1 : Int) := by omega
     have c2 := hsa.cell kq fe1 (by omega)
     clear hsa hrp hq ho
     by_cases hl1 : at0 ys fe < at0 ys fe1
     ·have HL1 := hd_ (fun W => less_yes kq hl1 W)
      have HMAX := hd_ (show ∀ k, k = 2 * r + 1 ∨ k = 2 * r + 2 → k < hi → at0 ys (f + k) ≤ at0 ys (f + e1) from fun k hk1 hk2 => by
       rcases hk1 with rfl | rfl
       ·rw [show f + (2 * r + 1) = fe by omega, show f + e1 = fe1 by omega]; omega
       ·rw [show f + (2 * r + 2) = f + e1 by omega]; exact Int.le_refl _)
      clear hl1
      go_wp2
      refine wp_region_grow (by kernel_rfl) (by kernel_rfl) ?_
      repeat (go_big_quiet_step ((first | ((first | go_at_call 124 | go_at_call 135); exact grow_call (HL1.out _)))))
      refine wpQuiet_nil ?_
      intro g1
      go_wp2
      by_cases hl2 : at0 ys fr < at0 ys fe1
      ·have HL2 := hd_ (fun W => less_yes kq hl2 W)
       have HLT := hd_ hl2
       clear hl2
       go_wp2
       refine wp_region_grow (by kernel_rfl) (by kernel_rfl) ?_
       repeat (go_big_quiet_step ((first | ((first | go_at_call 124 | go_at_call 135); exact grow_call (HL2.out _)))))
       refine wpQuiet_nil ?_
       intro g2
       go_wp2
       have HSA3 := HSA.out.gr (gri : Gr wr (grown (grown wr g1) g2))
       refine wp_region_treeJ ⟨fun w' => Gr (grown (grown wr g1) g2) w', true, fun _ _ h => h, fun _ _ _ h g => h.trans g⟩ rfl (Gr.of ((Below.refl _ _).drew)) [4, 5, 6, 7] [0, 1, 2, 3, 8, 9, 10, 11, 12, 13, 14, 15, 16, 17, 18, 19] 4 21 (by kernel_rfl) (by kernel_rfl) ?_
       simp only [pick, List.drop, List.take, List.nil_append, List.cons_append]
       refine wpPure_step (.slice (some ⟨g, 0, none⟩) n c) rfl (fun w => by go_simp) ?_
       simp only [Act.put, stA, List.set]
       refine wpPure_step (.int .i64 (f : Int)) rfl (fun w => by go_simp) ?_
       simp only [Act.put, stA, List.set]
       refine wpPure_step (.int .i64 (e1 : Int)) rfl (fun w => by go_simp) ?_
       simp only [Act.put, stA, List.set]
       refine wpPure_step (.int .i64 (fe1 : Int)) rfl (fun w => by go_simp) ?_
       simp only [Act.put, stA, List.set]
       show wpCalm _ _ _ _ _ _
       repeat (refine wpCalm_step (fun K hK => ?_); go_simp; first | (refine hK _ ?_; clear hK K) | (apply Exists.intro; refine ⟨fun _ => ?_, hK _ ?_⟩; (skip); clear hK K))
       refine wpCalm_nil ?_
       refine fg_one 20 (by kernel_rfl) ?_
       refine fg_pure (.pointer (some ⟨g, fr, none⟩)) rfl rfl rfl (fun w => by go_simp) ?_
       simp only [Act.put, stA, List.set]
       refine fg_one 21 (by kernel_rfl) ?_
       refine fg_effN rfl rfl rfl (fun w1 hw1 => ?_)
       have sa1 := SA.gr HSA3 hw1
       have t0 := sa1.cell kq fr (by have := hyl; omega)
       have t1 := sa1.frozen fr
       haveI oG : Old g w1 := ⟨sa1.lt⟩
       have hrun := st_run kq tq g fr w1 ((at0 ys fe1)) (by assumption) (by assumption)
       refine effAt_stS rfl rfl rfl hrun ⟨⟨fun w2 => SA base w2 g n c (ys.set fr (at0 ys fe1)) ∧ Onl (grown (grown wr g1) g2) w2 g, false, fun e => Bool.noConfusion e, fun e => Bool.noConfusion e⟩, ⟨sa1.put kq fr _ (by have := hyl; omega), (Onl.of_gr hw1 g).trans (Onl.set _ g fr _)⟩, fun e => absurd rfl e, ?_⟩
       clear oG sa1 t0 t1 hrun hw1 w1
       try simp only [Act.put, stA, List.set]
       refine fg_one 22 (by kernel_rfl) ?_
       refine fg_pure (.pointer (some ⟨g, fe1, none⟩)) rfl rfl rfl (fun w => by go_simp) ?_
       simp only [Act.put, stA, List.set]
       refine fg_one 23 (by kernel_rfl) ?_
       refine fg_effN rfl rfl rfl (fun w1 hw1 => ?_)
       have t0 := hw1.1.cell kq fe1 (by rw [List.length_set]; have := hyl; omega)
       have t1 := hw1.1.frozen fe1
       haveI oG : Old g w1 := ⟨hw1.1.lt⟩
       have hrun := st_run kq tq g fe1 w1 ((at0 ys fr)) (by assumption) (by assumption)
       refine effAt_stS rfl rfl rfl hrun ⟨⟨fun w2 => SA base w2 g n c (swp ys fr fe1) ∧ Onl (grown (grown wr g1) g2) w2 g, false, fun e => Bool.noConfusion e, fun e => Bool.noConfusion e⟩, ⟨hw1.1.put kq fe1 _ (by rw [List.length_set]; have := hyl; omega), hw1.2.trans (Onl.set _ g fe1 _)⟩, fun _ e => Bool.noConfusion e, ?_⟩
       clear oG t0 t1 hrun hw1 w1
       refine fg_end (by kernel_rfl) (fun w5 hw5 => ?_)
       try simp only [Act.put]
       have HF := hd_ hw5
       clear hw5
       go_wp2
       go_roundw
       case rel =>
        subst hfr
        have e9 : f + e1 = fe1 := by omega
        subst e9
        exact ⟨e1, swp ys (f + r) (f + e1), by omega, by omega, rfl, HF.out.1.gr gri, .swap HRP.out (f + r) (f + e1) (by omega) (by omega) (by omega) (by omega) (by omega), hq_step HQ.out hr1 (by omega) (by omega) (by omega) HMAX.out HLT.out, (HO.out.trans (Onl.of_gr gri g)).trans (HF.out.2.trans (Onl.of_gr gri g))⟩
       case measure => simp [intOf] <;> omega
      ·have HL2 := hd_ (fun W => less_no kq hl2 W)
       have HLT := hd_ hl2
       clear hl2
       go_wp2
       refine wp_region_grow (by kernel_rfl) (by kernel_rfl) ?_
       repeat (go_big_quiet_step ((first | ((first | go_at_call 124 | go_at_call 135); exact grow_call (HL2.out _)))))
       refine wpQuiet_nil ?_
       intro g2
       go_wp2
       refine bodyPost_ret (v := .tuple #[]) (by simp [results, go_sem]) rfl ⟨rfl, ys, HSA.out.gr gri, HRP.out, hq_end HQ.out fun k9 h1 h2 => (by
        have e9 : f + e1 = fe1 := by omega
        have h3 := HMAX.out k9 h1 h2
        have h4 := Int.not_lt.2 HLT.out
        subst hfr
        rw [e9] at h3
        omega), HO.out.trans (Onl.of_gr gri g)⟩
     ·have HL1 := hd_ (fun W => less_no kq hl1 W)
      have HMAX := hd_ (show ∀ k, k = 2 * r + 1 ∨ k = 2 * r + 2 → k < hi → at0 ys (f + k) ≤ at0 ys (f + e) from fun k hk1 hk2 => by
       rcases hk1 with rfl | rfl
       ·rw [show f + (2 * r + 1) = f + e by omega]; exact Int.le_refl _
       ·rw [show f + (2 * r + 2) = fe1 by omega, show f + e = fe by omega]; omega)
      clear hl1
      go_wp2
      refine wp_region_grow (by kernel_rfl) (by kernel_rfl) ?_
      repeat (go_big_quiet_step ((first | ((first | go_at_call 124 | go_at_call 135); exact grow_call (HL1.out _)))))
      refine wpQuiet_nil ?_
      intro g1
      go_wp2
      by_cases hl2 : at0 ys fr < at0 ys fe
      ·have HL2 := hd_ (fun W => less_yes kq hl2 W)
       have HLT := hd_ hl2
       clear hl2
       go_wp2
       refine wp_region_grow (by kernel_rfl) (by kernel_rfl) ?_
       repeat (go_big_quiet_step ((first | ((first | go_at_call 124 | go_at_call 135); exact grow_call (HL2.out _)))))
       refine wpQuiet_nil ?_
       intro g2
       go_wp2
       have HSA3 := HSA.out.gr (gri : Gr wr (grown (grown wr g1) g2))
       refine wp_region_treeJ ⟨fun w' => Gr (grown (grown wr g1) g2) w', true, fun _ _ h => h, fun _ _ _ h g => h.trans g⟩ rfl (Gr.of ((Below.refl _ _).drew)) [4, 5, 6, 7] [0, 1, 2, 3, 8, 9, 10, 11, 12, 13, 14, 15, 16, 17, 18, 19] 4 21 (by kernel_rfl) (by kernel_rfl) ?_
       simp only [pick, List.drop, List.take, List.nil_append, List.cons_append]
       refine wpPure_step (.slice (some ⟨g, 0, none⟩) n c) rfl (fun w => by go_simp) ?_
       simp only [Act.put, stA, List.set]
       refine wpPure_step (.int .i64 (f : Int)) rfl (fun w => by go_simp) ?_
       simp only [Act.put, stA, List.set]
       refine wpPure_step (.int .i64 (e : Int)) rfl (fun w => by go_simp) ?_
       simp only [Act.put, stA, List.set]
       refine wpPure_step (.int .i64 (fe : Int)) rfl (fun w => by go_simp) ?_
       simp only [Act.put, stA, List.set]
       show wpCalm _ _ _ _ _ _
       repeat (refine wpCalm_step (fun K hK => ?_); go_simp; first | (refine hK _ ?_; clear hK K) | (apply Exists.intro; refine ⟨fun _ => ?_, hK _ ?_⟩; (skip); clear hK K))
       refine wpCalm_nil ?_
       refine fg_one 20 (by kernel_rfl) ?_
       refine fg_pure (.pointer (some ⟨g, fr, none⟩)) rfl rfl rfl (fun w => by go_simp) ?_
       simp only [Act.put, stA, List.set]
       refine fg_one 21 (by kernel_rfl) ?_
       refine fg_effN rfl rfl rfl (fun w1 hw1 => ?_)
       have sa1 := SA.gr HSA3 hw1
       have t0 := sa1.cell kq fr (by have := hyl; omega)
       have t1 := sa1.frozen fr
       haveI oG : Old g w1 := ⟨sa1.lt⟩
       have hrun := st_run kq tq g fr w1 ((at0 ys fe)) (by assumption) (by assumption)
       refine effAt_stS rfl rfl rfl hrun ⟨⟨fun w2 => SA base w2 g n c (ys.set fr (at0 ys fe)) ∧ Onl (grown (grown wr g1) g2) w2 g, false, fun e => Bool.noConfusion e, fun e => Bool.noConfusion e⟩, ⟨sa1.put kq fr _ (by have := hyl; omega), (Onl.of_gr hw1 g).trans (Onl.set _ g fr _)⟩, fun e => absurd rfl e, ?_⟩
       clear oG sa1 t0 t1 hrun hw1 w1
       try simp only [Act.put, stA, List.set]
       refine fg_one 22 (by kernel_rfl) ?_
       refine fg_pure (.pointer (some ⟨g, fe, none⟩)) rfl rfl rfl (fun w => by go_simp) ?_
       simp only [Act.put, stA, List.set]
       refine fg_one 23 (by kernel_rfl) ?_
       refine fg_effN rfl rfl rfl (fun w1 hw1 => ?_)
       have t0 := hw1.1.cell kq fe (by rw [List.length_set]; have := hyl; omega)
       have t1 := hw1.1.frozen fe
       haveI oG : Old g w1 := ⟨hw1.1.lt⟩
       have hrun := st_run kq tq g fe w1 ((at0 ys fr)) (by assumption) (by assumption)
       refine effAt_stS rfl rfl rfl hrun ⟨⟨fun w2 => SA base w2 g n c (swp ys fr fe) ∧ Onl (grown (grown wr g1) g2) w2 g, false, fun e => Bool.noConfusion e, fun e => Bool.noConfusion e⟩, ⟨hw1.1.put kq fe _ (by rw [List.length_set]; have := hyl; omega), hw1.2.trans (Onl.set _ g fe _)⟩, fun _ e => Bool.noConfusion e, ?_⟩
       clear oG t0 t1 hrun hw1 w1
       refine fg_end (by kernel_rfl) (fun w5 hw5 => ?_)
       try simp only [Act.put]
       have HF := hd_ hw5
       clear hw5
       go_wp2
       go_roundw
       case rel =>
        subst hfr
        have e9 : f + e = fe := by omega
        subst e9
        exact ⟨e, swp ys (f + r) (f + e), by omega, by omega, rfl, HF.out.1.gr gri, .swap HRP.out (f + r) (f + e) (by omega) (by omega) (by omega) (by omega) (by omega), hq_step HQ.out hr1 (by omega) (by omega) (by omega) HMAX.out HLT.out, (HO.out.trans (Onl.of_gr gri g)).trans (HF.out.2.trans (Onl.of_gr gri g))⟩
       case measure => simp [intOf] <;> omega
      ·have HL2 := hd_ (fun W => less_no kq hl2 W)
       have HLT := hd_ hl2
       clear hl2
       go_wp2
       refine wp_region_grow (by kernel_rfl) (by kernel_rfl) ?_
       repeat (go_big_quiet_step ((first | ((first | go_at_call 124 | go_at_call 135); exact grow_call (HL2.out _)))))
       refine wpQuiet_nil ?_
       intro g2
       go_wp2
       refine bodyPost_ret (v := .tuple #[]) (by simp [results, go_sem]) rfl ⟨rfl, ys, HSA.out.gr gri, HRP.out, hq_end HQ.out fun k9 h1 h2 => (by
        have e9 : f + e = fe := by omega
        have h3 := HMAX.out k9 h1 h2
        have h4 := Int.not_lt.2 HLT.out
        subst hfr
        rw [e9] at h3
        omega), HO.out.trans (Onl.of_gr gri g)⟩
    ·have hc3 : ¬ (e1 : Int) < (hi : Int) := by omega
     have HMAX := hd_ (show ∀ k, k = 2 * r + 1 ∨ k = 2 * r + 2 → k < hi → at0 ys (f + k) ≤ at0 ys (f + e) from fun k hk1 hk2 => by
      rcases hk1 with rfl | rfl
      ·rw [show f + (2 * r + 1) = f + e by omega]; exact Int.le_refl _
      ·omega)
     clear hsa hrp hq ho
     go_wp2
     refine wp_region_grow (by kernel_rfl) (by kernel_rfl) ?_
     repeat (go_big_quiet_step (fail))
     refine wpQuiet_nil ?_
     intro g1
     go_wp2
     by_cases hl2 : at0 ys fr < at0 ys fe
     ·have HL2 := hd_ (fun W => less_yes kq hl2 W)
      have HLT := hd_ hl2
      clear hl2
      go_wp2
      refine wp_region_grow (by kernel_rfl) (by kernel_rfl) ?_
      repeat (go_big_quiet_step ((first | ((first | go_at_call 124 | go_at_call 135); exact grow_call (HL2.out _)))))
      refine wpQuiet_nil ?_
      intro g2
      go_wp2
      have HSA3 := HSA.out.gr (gri : Gr wr (grown (grown wr g1) g2))
      refine wp_region_treeJ ⟨fun w' => Gr (grown (grown wr g1) g2) w', true, fun _ _ h => h, fun _ _ _ h g => h.trans g⟩ rfl (Gr.of ((Below.refl _ _).drew)) [4, 5, 6, 7] [0, 1, 2, 3, 8, 9, 10, 11, 12, 13, 14, 15, 16, 17, 18, 19] 4 21 (by kernel_rfl) (by kernel_rfl) ?_
      simp only [pick, List.drop, List.take, List.nil_append, List.cons_append]
      refine wpPure_step (.slice (some ⟨g, 0, none⟩) n c) rfl (fun w => by go_simp) ?_
      simp only [Act.put, stA, List.set]
      refine wpPure_step (.int .i64 (f : Int)) rfl (fun w => by go_simp) ?_
      simp only [Act.put, stA, List.set]
      refine wpPure_step (.int .i64 (e : Int)) rfl (fun w => by go_simp) ?_
      simp only [Act.put, stA, List.set]
      refine wpPure_step (.int .i64 (fe : Int)) rfl (fun w => by go_simp) ?_
      simp only [Act.put, stA, List.set]
      show wpCalm _ _ _ _ _ _
      repeat (refine wpCalm_step (fun K hK => ?_); go_simp; first | (refine hK _ ?_; clear hK K) | (apply Exists.intro; refine ⟨fun _ => ?_, hK _ ?_⟩; (skip); clear hK K))
      refine wpCalm_nil ?_
      refine fg_one 20 (by kernel_rfl) ?_
      refine fg_pure (.pointer (some ⟨g, fr, none⟩)) rfl rfl rfl (fun w => by go_simp) ?_
      simp only [Act.put, stA, List.set]
      refine fg_one 21 (by kernel_rfl) ?_
      refine fg_effN rfl rfl rfl (fun w1 hw1 => ?_)
      have sa1 := SA.gr HSA3 hw1
      have t0 := sa1.cell kq fr (by have := hyl; omega)
      have t1 := sa1.frozen fr
      haveI oG : Old g w1 := ⟨sa1.lt⟩
      have hrun := st_run kq tq g fr w1 ((at0 ys fe)) (by assumption) (by assumption)
      refine effAt_stS rfl rfl rfl hrun ⟨⟨fun w2 => SA base w2 g n c (ys.set fr (at0 ys fe)) ∧ Onl (grown (grown wr g1) g2) w2 g, false, fun e => Bool.noConfusion e, fun e => Bool.noConfusion e⟩, ⟨sa1.put kq fr _ (by have := hyl; omega), (Onl.of_gr hw1 g).trans (Onl.set _ g fr _)⟩, fun e => absurd rfl e, ?_⟩
      clear oG sa1 t0 t1 hrun hw1 w1
      try simp only [Act.put, stA, List.set]
      refine fg_one 22 (by kernel_rfl) ?_
      refine fg_pure (.pointer (some ⟨g, fe, none⟩)) rfl rfl rfl (fun w => by go_simp) ?_
      simp only [Act.put, stA, List.set]
      refine fg_one 23 (by kernel_rfl) ?_
      refine fg_effN rfl rfl rfl (fun w1 hw1 => ?_)
      have t0 := hw1.1.cell kq fe (by rw [List.length_set]; have := hyl; omega)
      have t1 := hw1.1.frozen fe
      haveI oG : Old g w1 := ⟨hw1.1.lt⟩
      have hrun := st_run kq tq g fe w1 ((at0 ys fr)) (by assumption) (by assumption)
      refine effAt_stS rfl rfl rfl hrun ⟨⟨fun w2 => SA base w2 g n c (swp ys fr fe) ∧ Onl (grown (grown wr g1) g2) w2 g, false, fun e => Bool.noConfusion e, fun e => Bool.noConfusion e⟩, ⟨hw1.1.put kq fe _ (by rw [List.length_set]; have := hyl; omega), hw1.2.trans (Onl.set _ g fe _)⟩, fun _ e => Bool.noConfusion e, ?_⟩
      clear oG t0 t1 hrun hw1 w1
      refine fg_end (by kernel_rfl) (fun w5 hw5 => ?_)
      try simp only [Act.put]
      have HF := hd_ hw5
      clear hw5
      go_wp2
      go_roundw
      case rel =>
       subst hfr
       have e9 : f + e = fe := by omega
       subst e9
       exact ⟨e, swp ys (f + r) (f + e), by omega, by omega, rfl, HF.out.1.gr gri, .swap HRP.out (f + r) (f + e) (by omega) (by omega) (by omega) (by omega) (by omega), hq_step HQ.out hr1 (by omega) (by omega) (by omega) HMAX.out HLT.out, (HO.out.trans (Onl.of_gr gri g)).trans (HF.out.2.trans (Onl.of_gr gri g))⟩
      case measure => simp [intOf] <;> omega
     ·have HL2 := hd_ (fun W => less_no kq hl2 W)
      have HLT := hd_ hl2
      clear hl2
      go_wp2
      refine wp_region_grow (by kernel_rfl) (by kernel_rfl) ?_
      repeat (go_big_quiet_step ((first | ((first | go_at_call 124 | go_at_call 135); exact grow_call (HL2.out _)))))
      refine wpQuiet_nil ?_
      intro g2
      go_wp2
      refine bodyPost_ret (v := .tuple #[]) (by simp [results, go_sem]) rfl ⟨rfl, ys, HSA.out.gr gri, HRP.out, hq_end HQ.out fun k9 h1 h2 => (by
       have e9 : f + e = fe := by omega
       have h3 := HMAX.out k9 h1 h2
       have h4 := Int.not_lt.2 HLT.out
       subst hfr
       rw [e9] at h3
       omega), HO.out.trans (Onl.of_gr gri g)⟩
   ·have hch2 : (hi : Int) ≤ (e : Int) := by omega
    clear hsa hrp hq ho
    go_wp2
    exact ⟨rfl, .tuple #[], by simp [results, go_sem], ⟨rfl, ys, HSA.out.gr gri, HRP.out, hq_end HQ.out (fun k h1 h2 => by omega), HO.out.trans (Onl.of_gr gri g)⟩⟩
theorem sift0_any {F : Nat} (base : Bs) (g n c : Nat) (xs : List Int) (hi f : Nat) (w : World) (h : SA base w g n c xs) (hn : n ≤ 1000000) (hfn : f + hi ≤ n) (hp : Hp xs f 1 hi) (hq : base.is 144 150 F := by first | exact .inl ⟨by assumption, by assumption, rfl⟩ | exact .inr ⟨by assumption, by assumption, rfl⟩) :
  Calls Tryz.prog F #[.slice (some ⟨g, 0, none⟩) n c, .int .i64 0, .int .i64 (hi : Int), .int .i64 (f : Int)] w fun e w' => e = .returned (.tuple #[]) ∧ ∃ ys, SA base w' g n c ys ∧ RP f (f + hi) xs ys ∧ Hp ys f 0 hi ∧ Onl w w' g :=
 sift_any base g n c xs 0 hi f w h hn (Nat.zero_le _) hfn hp (hq := hq)
theorem heap_any {F : Nat} (base : Bs) (g n c : Nat) (xs : List Int) (a b : Nat) (w : World) (h : SA base w g n c xs) (hn : n ≤ 1000000) (hab : a < b) (hb : b ≤ n) (hq : base.is 119 130 F := by first | exact .inl ⟨by assumption, by assumption, rfl⟩ | exact .inr ⟨by assumption, by assumption, rfl⟩) :
  Calls Tryz.prog F #[.slice (some ⟨g, 0, none⟩) n c, .int .i64 (a : Int), .int .i64 (b : Int)] w fun e w' => e = .returned (.tuple #[]) ∧ ∃ ys, SA base w' g n c ys ∧ RP a b xs ys ∧ Srt ys a b ∧ Onl w w' g := by
 rcases hq with ⟨kq, tq, rfl⟩ | ⟨kq, tq, rfl⟩
 all_goals
  have H := hd_ h
  have hxl := h.len
  clear h
  obtain ⟨m, hm⟩ : ∃ m, b - a = m := ⟨_, rfl⟩
  have rm : (b : Int) - (a : Int) = (m : Int) := by omega
  have wm : IntKind.i64.wrap (m : Int) = (m : Int) := wrapS m (by omega)
  obtain ⟨m1, hm1⟩ : ∃ m1, m - 1 = m1 := ⟨_, rfl⟩
  have rm1 : (m : Int) - 1 = (m1 : Int) := by omega
  have wm1 : IntKind.i64.wrap (m1 : Int) = (m1 : Int) := wrapS m1 (by omega)
  obtain ⟨m2, hm2⟩ : ∃ m2, m1 / 2 = m2 := ⟨_, rfl⟩
  have rt : (m1 : Int) / 2 = (m2 : Int) := by omega
  have w2 : IntKind.i64.wrap (m2 : Int) = (m2 : Int) := wrapS m2 (by omega)
  have hmab : a + m = b := by omega
  first | go_enter Tryz.func119, Tryz.ntmps119 | go_enter Tryz.func130, Tryz.ntmps130
  go_wp2
  go_loopw [9] (fun v9 wr => ∃ (z : Int) (ys : List Int), -1 ≤ z ∧ z ≤ m2 ∧ v9 = .int .i64 z ∧ SA base wr g n c ys ∧ RP a b xs ys ∧ Hp ys a (z + 1).toNat m ∧ Onl w wr g) (fun v _ => (intOf v + 1).toNat)
  case atStart => exact ⟨m2, xs, by omega, Int.le_refl _, rfl, H.out.gr gri, .refl, hp_leaf _ _ _ _ (by omega), Onl.of_gr gri g⟩
  case round =>
   obtain ⟨z, ys, hz1, hz2, rfl, hsa, hrp, hp, ho⟩ := hrel
   have HSA := hd_ hsa
   have HRP := hd_ hrp
   have HP := hd_ hp
   have HO := hd_ ho
   have hyl := hsa.len
   haveI : Old g wr := ⟨hsa.lt⟩
   clear hsa hrp hp ho
   by_cases hz : 0 ≤ z
   ·obtain ⟨j, rfl⟩ : ∃ j : Nat, z = (j : Int) := ⟨z.toNat, by omega⟩
    have wj : IntKind.i64.wrap ((j : Int) - 1) = (j : Int) - 1 := by rw [IntKind.wrap_i64]; omega
    have HC := hd_ (fun W (hW : Gr wr W) => sift_any base g n c ys j m a W (HSA.out.gr hW) hn (by omega) (by omega) (by have := HP.out; rwa [show ((j : Int) + 1).toNat = j + 1 by omega] at this))
    go_wp2_with (first | ((first | go_at_call 144 | go_at_call 150); ((with_reducible refine (HC.out _ gri).mono ?_))))
    rintro _ W2 ⟨rfl, zs, hsa2, hrp2, hp2, ho2⟩
    have ho3 : Onl w W2 g := (HO.out.trans (Onl.of_gr gri g)).trans ho2
    go_wp2
    go_roundw
    case rel => exact ⟨(j : Int) - 1, zs, by omega, by omega, rfl, hsa2.gr gri, HRP.out.trans (by rw [← hmab]; exact hrp2), by rw [show ((j : Int) - 1 + 1).toNat = j by omega]; exact hp2, ho3.trans (Onl.of_gr gri g)⟩
    case measure => simp [intOf] <;> omega
   ·obtain rfl : z = -1 := by omega
    go_wp2
    go_loopw [10] (fun v10 wr => ∃ (z : Int) (ys : List Int), -1 ≤ z ∧ z < m ∧ v10 = .int .i64 z ∧ SA base wr g n c ys ∧ RP a b xs ys ∧ Hp ys a 0 (z + 1).toNat ∧ Tl ys a (z + 1).toNat m ∧ Onl w wr g) (fun v _ => (intOf v + 1).toNat)
    case atStart => exact ⟨m1, ys, by omega, by omega, rfl, HSA.out.gr gri, HRP.out, by rw [show ((m1 : Int) + 1).toNat = m by omega]; exact HP.out, by rw [show ((m1 : Int) + 1).toNat = m by omega]; exact tl_start _ _ _, HO.out.trans (Onl.of_gr gri g)⟩
    case round =>
     clear HSA HRP HP HO hyl hz hz1 hz2 ys
     obtain ⟨z, ys, hz1, hz2, rfl, hsa, hrp, hp, ht, ho⟩ := hrel
     have HSA := hd_ hsa
     have HRP := hd_ hrp
     have HP := hd_ hp
     have HT := hd_ ht
     have HO := hd_ ho
     have hyl := hsa.len
     haveI : Old g wr := ⟨hsa.lt⟩
     by_cases hz : 0 ≤ z
     ·obtain ⟨j, rfl⟩ : ∃ j : Nat, z = (j : Int) := ⟨z.toNat, by omega⟩
      have wj : IntKind.i64.wrap ((j : Int) - 1) = (j : Int) - 1 := by rw [IntKind.wrap_i64]; omega
      obtain ⟨aj, haj⟩ : ∃ aj, a + j = aj := ⟨_, rfl⟩
      have raj : (a : Int) + (j : Int) = (aj : Int) := by omega
      have waj : IntKind.i64.wrap (aj : Int) = (aj : Int) := wrapS aj (by omega)
      have baj : (aj : Int) < (n : Int) := by omega
      have c0 := hsa.cell kq aj (by omega)
      have c1 := hsa.cell kq a (by omega)
      have ba : (a : Int) < (n : Int) := by omega
      have HJ1 := hd_ (show ((j : Int) + 1).toNat = j + 1 by omega)
      clear hsa hrp hp ht ho
      go_wp2
      have HSA3 := HSA.out.gr (gri : Gr wr wr)
      refine wp_region_treeJ ⟨fun w' => Gr wr w', true, fun _ _ h => h, fun _ _ _ h g => h.trans g⟩ rfl (Gr.of ((Below.refl _ _).drew)) [2, 3, 4, 5] [0, 1, 6, 7, 8, 9, 10, 11, 12, 13, 14, 15] 4 17 (by kernel_rfl) (by kernel_rfl) ?_
      simp only [pick, List.drop, List.take, List.nil_append, List.cons_append]
      refine wpPure_step (.slice (some ⟨g, 0, none⟩) n c) rfl (fun w => by go_simp) ?_
      simp only [Act.put, stA, List.set]
      refine wpPure_step (.int .i64 (a : Int)) rfl (fun w => by go_simp) ?_
      simp only [Act.put, stA, List.set]
      refine wpPure_step (.int .i64 (j : Int)) rfl (fun w => by go_simp) ?_
      simp only [Act.put, stA, List.set]
      refine wpPure_step (.int .i64 (aj : Int)) rfl (fun w => by go_simp) ?_
      simp only [Act.put, stA, List.set]
      show wpCalm _ _ _ _ _ _
      repeat (refine wpCalm_step (fun K hK => ?_); go_simp; first | (refine hK _ ?_; clear hK K) | (apply Exists.intro; refine ⟨fun _ => ?_, hK _ ?_⟩; (skip); clear hK K))
      refine wpCalm_nil ?_
      refine fg_one 16 (by kernel_rfl) ?_
      refine fg_pure (.pointer (some ⟨g, a, none⟩)) rfl rfl rfl (fun w => by go_simp) ?_
      simp only [Act.put, stA, List.set]
      refine fg_one 17 (by kernel_rfl) ?_
      refine fg_effN rfl rfl rfl (fun w1 hw1 => ?_)
      have sa1 := SA.gr HSA3 hw1
      have t0 := sa1.cell kq a (by have := hyl; omega)
      have t1 := sa1.frozen a
      haveI oG : Old g w1 := ⟨sa1.lt⟩
      have hrun := st_run kq tq g a w1 ((at0 ys aj)) (by assumption) (by assumption)
      refine effAt_stS rfl rfl rfl hrun ⟨⟨fun w2 => SA base w2 g n c (ys.set a (at0 ys aj)) ∧ Onl wr w2 g, false, fun e => Bool.noConfusion e, fun e => Bool.noConfusion e⟩, ⟨sa1.put kq a _ (by have := hyl; omega), (Onl.of_gr hw1 g).trans (Onl.set _ g a _)⟩, fun e => absurd rfl e, ?_⟩
      clear oG sa1 t0 t1 hrun hw1 w1
      try simp only [Act.put, stA, List.set]
      refine fg_one 18 (by kernel_rfl) ?_
      refine fg_pure (.pointer (some ⟨g, aj, none⟩)) rfl rfl rfl (fun w => by go_simp) ?_
      simp only [Act.put, stA, List.set]
      refine fg_one 19 (by kernel_rfl) ?_
      refine fg_effN rfl rfl rfl (fun w1 hw1 => ?_)
      have t0 := hw1.1.cell kq aj (by rw [List.length_set]; have := hyl; omega)
      have t1 := hw1.1.frozen aj
      haveI oG : Old g w1 := ⟨hw1.1.lt⟩
      have hrun := st_run kq tq g aj w1 ((at0 ys a)) (by assumption) (by assumption)
      refine effAt_stS rfl rfl rfl hrun ⟨⟨fun w2 => SA base w2 g n c (swp ys a aj) ∧ Onl wr w2 g, false, fun e => Bool.noConfusion e, fun e => Bool.noConfusion e⟩, ⟨hw1.1.put kq aj _ (by rw [List.length_set]; have := hyl; omega), hw1.2.trans (Onl.set _ g aj _)⟩, fun _ e => Bool.noConfusion e, ?_⟩
      clear oG t0 t1 hrun hw1 w1
      refine fg_end (by kernel_rfl) (fun w5 hw5 => ?_)
      try simp only [Act.put]
      have HF := hd_ hw5
      have HO5 := hd_ (HO.out.trans hw5.2)
      have hp5 : Hp (swp ys a aj) a 1 j := by
       have := HP.out
       rw [HJ1.out] at this
       rw [show aj = a + j by omega]
       exact hs_heap (m := m) (by omega) (by omega) this
      have HC := hd_ (fun W (hW : Gr w5 W) => sift0_any base g n c (swp ys a aj) j a W (HF.out.1.gr hW) hn (by omega) hp5)
      haveI : Old g w5 := ⟨hw5.1.lt⟩
      clear hw5 hp5
      go_wp2_with (first | ((first | go_at_call 144 | go_at_call 150); ((with_reducible refine (HC.out _ gri).mono ?_); rintro _ W2 ⟨rfl, zs, hsa2, hrp2, hp2, ho2⟩)))
      have ho3 : Onl w W2 g := (HO5.out.trans (Onl.of_gr gri g)).trans ho2
      have ht2 : Tl zs a j m := by
       have h1 := HP.out
       have h2 := HT.out
       rw [HJ1.out] at h1 h2
       rw [show aj = a + j by omega] at hrp2
       exact hs_step (by omega) (by omega) h1 h2 hrp2
      have hr2 : RP a b xs zs := (HRP.out.swap a aj (Nat.le_refl _) hab (by omega) (by omega) (by omega)).trans (hrp2.mono (Nat.le_refl _) (by omega) (by rw [swp_len]; omega))
      go_roundw
      case rel => exact ⟨(j : Int) - 1, zs, by omega, by omega, rfl, hsa2.gr gri, hr2, by rw [show ((j : Int) - 1 + 1).toNat = j by omega]; exact hp2, by rw [show ((j : Int) - 1 + 1).toNat = j by omega]; exact ht2, ho3.trans (Onl.of_gr gri g)⟩
      case measure => simp [intOf] <;> omega
     ·obtain rfl : z = -1 := by omega
      clear hsa hrp hp ht ho
      go_wp2
      exact ⟨rfl, .tuple #[], by simp [results, go_sem], ⟨rfl, ys, HSA.out.gr gri, HRP.out, tl_end (by omega) (by rw [show b - a = m by omega]; exact HT.out), HO.out.trans (Onl.of_gr gri g)⟩⟩
end Go.Proofs.YtddckdhnolmjoaaGreat
