/- Plain words: a text cut at a letter and joined again; decimal numbers, read and told. Conditions: none. -/
import Derived.Lib.SplitLaws
import Derived.Lib.Join
import Derived.Lib.ItoaMem
namespace Go.Proofs.YtgjdgafoidppaaaDoor
open Go
set_option linter.unusedVariables false
set_option linter.unusedSimpArgs false
/-- A text cut at a letter. -/
def cutL (c : UInt8) : List UInt8 → List (List UInt8)
  | [] => [[]]
  | x :: l => if x = c then [] :: cutL c l else match cutL c l with | [] => [[x]] | y :: r => (x :: y) :: r
theorem cutL_ne (c : UInt8) (l : List UInt8) : cutL c l ≠ [] := by
  cases l with
  | nil => simp [cutL]
  | cons x l =>
    unfold cutL
    split
    · simp
    · split <;> simp
theorem cutL_form (c : UInt8) (l : List UInt8) : ∃ y r, cutL c l = y :: r := by
  have h := cutL_ne c l
  cases e : cutL c l with
  | nil => exact absurd e h
  | cons y r => exact ⟨y, r, rfl⟩
theorem cutL_sep (c : UInt8) (l : List UInt8) : cutL c (c :: l) = [] :: cutL c l := by rw [cutL, if_pos rfl]
theorem cutL_cons {c x : UInt8} {l y : List UInt8} {r : List (List UInt8)} (h : x ≠ c) (e : cutL c l = y :: r) : cutL c (x :: l) = (x :: y) :: r := by
  rw [cutL, if_neg h, e]
theorem cutL_snoc_sep (c : UInt8) (l : List UInt8) : cutL c (l ++ [c]) = cutL c l ++ [[]] := by
  induction l with
  | nil => simp [cutL]
  | cons x l ih =>
    by_cases h : x = c
    · subst h; rw [List.cons_append, cutL_sep, ih, cutL_sep]; rfl
    · obtain ⟨y, r, e⟩ := cutL_form c l
      rw [List.cons_append, cutL_cons h (y := y) (r := r ++ [[]]) (by rw [ih, e]; rfl), cutL_cons h e]; rfl
theorem cutL_snoc_ne {c x : UInt8} (h : x ≠ c) : ∀ (l : List UInt8) (d : List (List UInt8)) (y : List UInt8), cutL c l = d ++ [y] → cutL c (l ++ [x]) = d ++ [y ++ [x]] := by
  intro l
  induction l with
  | nil =>
    intro d y e
    cases d with
    | nil => simp [cutL] at e; subst e; simp [cutL, h]
    | cons a d => simp [cutL] at e
  | cons z l ih =>
    intro d y e
    by_cases hz : z = c
    · subst hz
      rw [cutL_sep] at e
      cases d with
      | nil => simp at e; exact absurd e.2 (cutL_ne _ _)
      | cons a d =>
        simp only [List.cons_append, List.cons.injEq] at e
        rw [List.cons_append, cutL_sep, ih d y e.2, ← e.1]; rfl
    · obtain ⟨u, r, e2⟩ := cutL_form c l
      rw [cutL_cons hz e2] at e
      cases d with
      | nil =>
        simp only [List.nil_append, List.cons.injEq] at e
        obtain ⟨rfl, rfl⟩ := e
        rw [List.cons_append, cutL_cons hz (ih [] u e2)]; rfl
      | cons a d =>
        simp only [List.cons_append, List.cons.injEq] at e
        obtain ⟨rfl, rfl⟩ := e
        rw [List.cons_append, cutL_cons hz (y := u) (r := d ++ [y ++ [x]]) (ih (u :: d) y e2)]; rfl
theorem cutL_free {c : UInt8} {l : List UInt8} (h : c ∉ l) : cutL c l = [l] := by
  induction l with
  | nil => rfl
  | cons x l ih =>
    simp only [List.mem_cons, not_or] at h
    rw [cutL_cons (Ne.symm h.1) (ih h.2)]
theorem cutL_app {c : UInt8} {a : List UInt8} (h : c ∉ a) (b : List UInt8) : cutL c (a ++ c :: b) = a :: cutL c b := by
  induction a with
  | nil => exact cutL_sep c b
  | cons x l ih =>
    simp only [List.mem_cons, not_or] at h
    rw [List.cons_append, cutL_cons (Ne.symm h.1) (ih h.2)]
theorem cutL_mem (c : UInt8) : ∀ (l x : List UInt8), x ∈ cutL c l → c ∉ x := by
  intro l
  induction l with
  | nil => intro x h; simp [cutL] at h; subst h; simp
  | cons z l ih =>
    intro x h
    by_cases hz : z = c
    · subst hz
      rw [cutL_sep] at h
      rcases List.mem_cons.1 h with rfl | h
      · simp
      · exact ih x h
    · obtain ⟨u, r, e2⟩ := cutL_form c l
      rw [cutL_cons hz e2] at h
      rcases List.mem_cons.1 h with rfl | h
      · have := ih u (by rw [e2]; simp)
        simp only [List.mem_cons, not_or]; exact ⟨Ne.symm hz, this⟩
      · exact ih x (by rw [e2]; exact List.mem_cons_of_mem _ h)
theorem join_one (x sep : List UInt8) : Lib.join [x] sep = x := by simp [Lib.join, List.intercalate]
theorem join_two (x y sep : List UInt8) (r : List (List UInt8)) : Lib.join (x :: y :: r) sep = x ++ sep ++ Lib.join (y :: r) sep := by simp [Lib.join, List.intercalate]
theorem join_cutL (c : UInt8) (l : List UInt8) : Lib.join (cutL c l) [c] = l := by
  induction l with
  | nil => rfl
  | cons x l ih =>
    obtain ⟨u, r, e2⟩ := cutL_form c l
    by_cases h : x = c
    · subst h
      rw [cutL_sep, e2, join_two, ← e2, ih]; rfl
    · rw [cutL_cons h e2]
      rw [e2] at ih
      cases r with
      | nil => rw [join_one] at ih ⊢; rw [ih]
      | cons v r => rw [join_two] at ih ⊢; rw [List.cons_append, List.cons_append, ih]
theorem cutL_join (c : UInt8) : ∀ (xs : List (List UInt8)), xs ≠ [] → (∀ x ∈ xs, c ∉ x) → cutL c (Lib.join xs [c]) = xs
  | [], h, _ => absurd rfl h
  | [x], _, h => by rw [join_one]; exact cutL_free (h x (by simp))
  | x :: y :: r, _, h => by
    rw [join_two, List.append_assoc, List.singleton_append, cutL_app (h x (by simp)), cutL_join c (y :: r) (by simp) (fun z hz => h z (List.mem_cons_of_mem _ hz))]
theorem cutL_length (c : UInt8) (l : List UInt8) : (cutL c l).length = l.count c + 1 := by
  induction l with
  | nil => rfl
  | cons x l ih =>
    obtain ⟨u, r, e2⟩ := cutL_form c l
    by_cases h : x = c
    · subst h; rw [cutL_sep, List.length_cons, ih, List.count_cons_self]
    · rw [cutL_cons h e2, List.count_cons_of_ne h, ← ih, e2]; rfl
theorem cutL_len_le (c : UInt8) (l : List UInt8) : (cutL c l).length ≤ l.length + 1 := by
  rw [cutL_length]; have := List.count_le_length (a := c) (l := l); omega
theorem cutL_each (c : UInt8) : ∀ (l x : List UInt8), x ∈ cutL c l → x.length ≤ l.length := by
  intro l
  induction l with
  | nil => intro x h; simp [cutL] at h; subst h; simp
  | cons z l ih =>
    intro x h
    by_cases hz : z = c
    · subst hz
      rw [cutL_sep] at h
      rcases List.mem_cons.1 h with rfl | h
      · simp
      · exact Nat.le_succ_of_le (ih x h)
    · obtain ⟨u, r, e2⟩ := cutL_form c l
      rw [cutL_cons hz e2] at h
      rcases List.mem_cons.1 h with rfl | h
      · have := ih u (by rw [e2]; simp)
        simpa using this
      · exact Nat.le_succ_of_le (ih x (by rw [e2]; exact List.mem_cons_of_mem _ h))
theorem index_one (c : UInt8) : ∀ (s : List UInt8), (Lib.index s [c] = -1 ∧ c ∉ s) ∨ ∃ i : Nat, Lib.index s [c] = i ∧ c ∉ s.take i ∧ s = s.take i ++ c :: s.drop (i + 1)
  | [] => .inl ⟨by simp [Lib.index], by simp⟩
  | x :: l => by
    by_cases h : x = c
    · subst h
      exact .inr ⟨0, by simp [Lib.index, List.isPrefixOf], by simp, by simp⟩
    · have hp : ([c] : List UInt8).isPrefixOf (x :: l) = false := by simp [List.isPrefixOf, Ne.symm h]
      rcases index_one c l with ⟨h1, h2⟩ | ⟨i, h1, h2, h3⟩
      · exact .inl ⟨by rw [Lib.index, hp, h1]; simp, by simp [Ne.symm h, h2]⟩
      · refine .inr ⟨i + 1, ?_, ?_, ?_⟩
        · rw [Lib.index, hp, h1]
          have : ¬ ((i : Int) == -1) = true := by simp <;> omega
          rw [if_neg (by simp), if_neg this]; omega
        · simp [Ne.symm h, h2]
        · simp only [List.take_succ_cons, List.drop_succ_cons, List.cons_append]
          rw [← h3]
theorem splitK_one (c : UInt8) : ∀ (k : Nat) (s : List UInt8), s.count c = k → Lib.splitK [c] 0 k s = cutL c s
  | 0, s, h => by
    rw [Lib.splitK, cutL_free (List.count_eq_zero.1 h)]
  | k + 1, s, h => by
    rcases index_one c s with ⟨h1, h2⟩ | ⟨i, h1, h2, h3⟩
    · rw [List.count_eq_zero.2 h2] at h; cases h
    · have hm : ¬ (Lib.index s [c] == -1) = true := by rw [h1]; simp <;> omega
      have hc : (s.drop (i + 1)).count c = k := by
        have h4 := congrArg (List.count c) h3
        rw [List.count_append, List.count_cons_self, List.count_eq_zero.2 h2, h] at h4
        omega
      rw [Lib.splitK, if_neg hm, h1, Int.toNat_natCast, Nat.add_zero, List.length_singleton, splitK_one c k _ hc]
      conv => rhs; rw [h3]
      rw [cutL_app h2]
theorem splitB_one (c : UInt8) (s : ByteArray) : (Lib.splitB ⟨#[c]⟩ 0 (Lib.countB s ⟨#[c]⟩) s).map (·.data.toList) = cutL c s.data.toList := by
  rw [Lib.splitB_data]
  exact splitK_one c _ _ (Lib.count_one c s.data.toList).symm
/-! Decimal numbers. -/
def dval (l : List UInt8) : Nat := l.foldl (fun n c => 10 * n + (c.toNat - 48)) 0
def digB (c : UInt8) : Bool := decide (48 ≤ c.toNat) && decide (c.toNat ≤ 57)
def headB : List UInt8 → Bool
  | [] => false
  | x :: r => x != 48 || r.isEmpty
def decOk (l : List UInt8) (most : Nat) : Bool := headB l && l.all digB && decide (dval l ≤ most)
def decV (l : List UInt8) (most : Nat) : Nat := if decOk l most then dval l else 0
theorem dval_snoc (l : List UInt8) (c : UInt8) : dval (l ++ [c]) = 10 * dval l + (c.toNat - 48) := by simp [dval, List.foldl_append]
theorem dval_app (l : List UInt8) : ∀ (r : List UInt8), dval l ≤ dval (l ++ r) := by
  intro r
  induction r generalizing l with
  | nil => simp
  | cons x r ih =>
    have h1 := ih (l ++ [x])
    rw [dval_snoc, List.append_assoc, List.singleton_append] at h1
    omega
theorem digs_small (u : Nat) (h : u < 10) : (UInt8.ofNat (48 + u)).toNat = 48 + u := by
  rw [UInt8.toNat_ofNat']; exact Nat.mod_eq_of_lt (by omega)
theorem decDigits_all (u : Nat) : dval (Lib.decDigits u) = u ∧ (Lib.decDigits u).all digB = true ∧ ∃ x r, Lib.decDigits u = x :: r ∧ (1 ≤ u → x ≠ 48) := by
  induction u using Nat.strongRecOn with
  | ind u ih =>
    by_cases h : u < 10
    · have e := digs_small u h
      rw [Lib.decDigits_one h]
      refine ⟨by simp only [dval, List.foldl]; rw [e]; omega, by simp only [List.all_cons, List.all_nil, digB, e]; simp; omega, _, _, rfl, ?_⟩
      intro h1 h2
      have := congrArg UInt8.toNat h2
      rw [e] at this
      simp at this
      omega
    · obtain ⟨h1, h2, x, r, h3, h4⟩ := ih (u / 10) (by omega)
      have e := digs_small (u % 10) (by omega)
      rw [Lib.decDigits, dif_neg h]
      refine ⟨?_, ?_, ?_⟩
      · rw [dval_snoc, h1, e]; omega
      · rw [List.all_append, h2]; simp [digB, e]; omega
      · exact ⟨x, r ++ [_], by rw [h3]; rfl, fun _ => h4 (by omega)⟩
theorem decDigits_head (u : Nat) : headB (Lib.decDigits u) = true := by
  by_cases h : u < 10
  · rw [Lib.decDigits_one h]; simp [headB]
  · obtain ⟨_, _, x, r, h3, h4⟩ := decDigits_all u
    have := h4 (by omega)
    rw [h3]; simp [headB, this]
theorem decOk_digits (u most : Nat) (h : u ≤ most) : decOk (Lib.decDigits u) most = true := by
  obtain ⟨h1, h2, _⟩ := decDigits_all u
  simp only [decOk, decDigits_head, h1, h2, Bool.true_and, decide_eq_true_eq]
  exact h
theorem decV_digits (u most : Nat) (h : u ≤ most) : decV (Lib.decDigits u) most = u := by
  rw [decV, if_pos (decOk_digits u most h)]; exact (decDigits_all u).1
theorem decV_le (l : List UInt8) (most : Nat) : decV l most ≤ most := by
  unfold decV
  split
  · rename_i h; simp [decOk] at h; exact h.2
  · exact Nat.zero_le _
/-- A digit more. -/
theorem digits_snoc (u d : Nat) (hu : 1 ≤ u) (hd : d < 10) : Lib.decDigits (10 * u + d) = Lib.decDigits u ++ [UInt8.ofNat (48 + d)] := by
  rw [Lib.decDigits, dif_neg (by omega), show (10 * u + d) / 10 = u by omega, show (10 * u + d) % 10 = d by omega]
theorem digB_form {c : UInt8} (h : digB c = true) : ∃ d, d < 10 ∧ c = UInt8.ofNat (48 + d) ∧ c.toNat = 48 + d := by
  simp [digB] at h
  refine ⟨c.toNat - 48, by omega, ?_, by omega⟩
  rw [show 48 + (c.toNat - 48) = c.toNat by omega]
  simp
theorem dval_pow (x : UInt8) (hx : digB x = true) (h0 : x ≠ 48) : ∀ (n : Nat) (r : List UInt8), r.length = n → r.all digB = true → 10 ^ r.length ≤ dval (x :: r) ∧ Lib.decDigits (dval (x :: r)) = x :: r := by
  intro n
  induction n with
  | zero =>
    intro r hr _
    obtain rfl := List.eq_nil_of_length_eq_zero hr
    obtain ⟨d, hd, e, e2⟩ := digB_form hx
    have hd0 : d ≠ 0 := by rintro rfl; exact h0 (by rw [e]; rfl)
    have e3 : dval [x] = d := by simp [dval, e2]
    rw [e3, Lib.decDigits_one hd, e]
    exact ⟨by simp; omega, rfl⟩
  | succ n ih =>
    intro r hr ha
    have hne : r ≠ [] := by rintro rfl; simp at hr
    obtain ⟨q, z, rfl⟩ : ∃ q z, r = q ++ [z] := ⟨r.dropLast, r.getLast hne, (List.dropLast_concat_getLast hne).symm⟩
    rw [List.all_append] at ha
    simp only [Bool.and_eq_true] at ha
    have hz : digB z = true := by simpa using ha.2
    obtain ⟨h1, h2⟩ := ih q (by simpa using hr) ha.1
    obtain ⟨d, hd, e, e2⟩ := digB_form hz
    have e3 : dval (x :: (q ++ [z])) = 10 * dval (x :: q) + d := by
      rw [← List.cons_append, dval_snoc, e2]; omega
    have h3 : 1 ≤ dval (x :: q) := Nat.le_trans (Nat.one_le_pow _ _ (by omega)) h1
    refine ⟨?_, ?_⟩
    · rw [e3, List.length_append, List.length_singleton, Nat.pow_succ]; omega
    · rw [e3, digits_snoc _ _ h3 hd, h2, e]; rfl
/-- What is read is told as it was. -/
theorem digits_decOk {l : List UInt8} {most : Nat} (h : decOk l most = true) : Lib.decDigits (dval l) = l := by
  simp only [decOk, Bool.and_eq_true] at h
  obtain ⟨⟨h1, h2⟩, _⟩ := h
  cases l with
  | nil => simp [headB] at h1
  | cons x r =>
    simp only [List.all_cons, Bool.and_eq_true] at h2
    by_cases h0 : x = 48
    · subst h0
      cases r with
      | nil => rw [Lib.decDigits_one (by simp [dval])]; simp [dval]
      | cons y r => simp [headB] at h1
    · exact (dval_pow x h2.1 h0 _ r rfl h2.2).2
/-- Who has more than 20 digits is greater than any number of 64 bits. -/
theorem long_big {l : List UInt8} (h1 : headB l = true) (h2 : l.all digB = true) (hl : 20 < l.length) : 18446744073709551615 < dval l := by
  cases l with
  | nil => simp at hl
  | cons x r =>
    simp only [List.all_cons, Bool.and_eq_true] at h2
    by_cases h0 : x = 48
    · subst h0
      cases r with
      | nil => simp at hl
      | cons y r => simp [headB] at h1
    · have h3 := (dval_pow x h2.1 h0 _ r rfl h2.2).1
      have h4 : 10 ^ 20 ≤ 10 ^ r.length := Nat.pow_le_pow_right (by omega) (by simp at hl; omega)
      have h5 : (10 : Nat) ^ 20 = 100000000000000000000 := by decide
      omega
end Go.Proofs.YtgjdgafoidppaaaDoor
