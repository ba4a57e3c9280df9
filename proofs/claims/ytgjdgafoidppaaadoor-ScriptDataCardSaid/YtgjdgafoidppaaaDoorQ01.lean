/- Plain words: a text cut at a letter and joined again; decimal numbers, read and told. Conditions: none. A region that draws its order, whose operations read, compute, or call functions that only make new memory: walked once, in the order of the text. Conditions: each call returns one value in whatever grown world. What stands below the call's own blocks, for the laws of layer 26. Conditions: none. A range over a string whose bytes are known: the iterator in whatever block. Conditions: the block holds an iterator. -/
import Derived.Lib.SplitLaws
import Derived.Lib.Join
import Derived.Lib.ItoaMem
import Derived.WalkKit
import Derived.ProofKit
import Derived.Deep.QuietTactic
import Derived.BigQuiet
import Derived.WalkLawsBesides
import Derived.WalkSpells
import Derived.StillTailTactics
import Derived.Test.YtgjdgafoidppaaaDoorRows
import Derived.Lib.LaidTab
import Derived.Shelf.Unicode.DecodeSlow
import Derived.Lib.Hide
import Derived.Lib.OthersKept
import Derived.Laws.RangeString
namespace Go.Proofs.YtgjdgafoidppaaaDoor
open Go
set_option linter.unusedVariables false
set_option linter.unusedSimpArgs false
/-- A text cut at a letter. -/
def cutL (c : UInt8) : List UInt8 → List (List UInt8)
  | [] => [[]]
  | x :: l => if x = c then [] :: cutL c l else match cutL c l with | [] => [[x]] | y :: r => (x :: y) :: r
theorem cutL_ne (c : UInt8) (l : List UInt8) : cutL c l ≠ [] := by
  cases l with
  | nil => simp [cutL]
  | cons x l =>
    unfold cutL
    split
    · simp
    · split <;> simp
theorem cutL_form (c : UInt8) (l : List UInt8) : ∃ y r, cutL c l = y :: r := by
  have h := cutL_ne c l
  cases e : cutL c l with
  | nil => exact absurd e h
  | cons y r => exact ⟨y, r, rfl⟩
theorem cutL_sep (c : UInt8) (l : List UInt8) : cutL c (c :: l) = [] :: cutL c l := by rw [cutL, if_pos rfl]
theorem cutL_cons {c x : UInt8} {l y : List UInt8} {r : List (List UInt8)} (h : x ≠ c) (e : cutL c l = y :: r) : cutL c (x :: l) = (x :: y) :: r := by
  rw [cutL, if_neg h, e]
theorem cutL_snoc_sep (c : UInt8) (l : List UInt8) : cutL c (l ++ [c]) = cutL c l ++ [[]] := by
  induction l with
  | nil => simp [cutL]
  | cons x l ih =>
    by_cases h : x = c
    · subst h; rw [List.cons_append, cutL_sep, ih, cutL_sep]; rfl
    · obtain ⟨y, r, e⟩ := cutL_form c l
      rw [List.cons_append, cutL_cons h (y := y) (r := r ++ [[]]) (by rw [ih, e]; rfl), cutL_cons h e]; rfl
theorem cutL_snoc_ne {c x : UInt8} (h : x ≠ c) : ∀ (l : List UInt8) (d : List (List UInt8)) (y : List UInt8), cutL c l = d ++ [y] → cutL c (l ++ [x]) = d ++ [y ++ [x]] := by
  intro l
  induction l with
  | nil =>
    intro d y e
    cases d with
    | nil => simp [cutL] at e; subst e; simp [cutL, h]
    | cons a d => simp [cutL] at e
  | cons z l ih =>
    intro d y e
    by_cases hz : z = c
    · subst hz
      rw [cutL_sep] at e
      cases d with
      | nil => simp at e; exact absurd e.2 (cutL_ne _ _)
      | cons a d =>
        simp only [List.cons_append, List.cons.injEq] at e
        rw [List.cons_append, cutL_sep, ih d y e.2, ← e.1]; rfl
    · obtain ⟨u, r, e2⟩ := cutL_form c l
      rw [cutL_cons hz e2] at e
      cases d with
      | nil =>
        simp only [List.nil_append, List.cons.injEq] at e
        obtain ⟨rfl, rfl⟩ := e
        rw [List.cons_append, cutL_cons hz (ih [] u e2)]; rfl
      | cons a d =>
        simp only [List.cons_append, List.cons.injEq] at e
        obtain ⟨rfl, rfl⟩ := e
        rw [List.cons_append, cutL_cons hz (y := u) (r := d ++ [y ++ [x]]) (ih (u :: d) y e2)]; rfl
theorem cutL_free {c : UInt8} {l : List UInt8} (h : c ∉ l) : cutL c l = [l] := by
  induction l with
  | nil => rfl
  | cons x l ih =>
    simp only [List.mem_cons, not_or] at h
    rw [cutL_cons (Ne.symm h.1) (ih h.2)]
theorem cutL_app {c : UInt8} {a : List UInt8} (h : c ∉ a) (b : List UInt8) : cutL c (a ++ c :: b) = a :: cutL c b := by
  induction a with
  | nil => exact cutL_sep c b
  | cons x l ih =>
    simp only [List.mem_cons, not_or] at h
    rw [List.cons_append, cutL_cons (Ne.symm h.1) (ih h.2)]
theorem cutL_mem (c : UInt8) : ∀ (l x : List UInt8), x ∈ cutL c l → c ∉ x := by
  intro l
  induction l with
  | nil => intro x h; simp [cutL] at h; subst h; simp
  | cons z l ih =>
    intro x h
    by_cases hz : z = c
    · subst hz
      rw [cutL_sep] at h
      rcases List.mem_cons.1 h with rfl | h
      · simp
      · exact ih x h
    · obtain ⟨u, r, e2⟩ := cutL_form c l
      rw [cutL_cons hz e2] at h
      rcases List.mem_cons.1 h with rfl | h
      · have := ih u (by rw [e2]; simp)
        simp only [List.mem_cons, not_or]; exact ⟨Ne.symm hz, this⟩
      · exact ih x (by rw [e2]; exact List.mem_cons_of_mem _ h)
theorem join_one (x sep : List UInt8) : Lib.join [x] sep = x := by simp [Lib.join, List.intercalate]
theorem join_two (x y sep : List UInt8) (r : List (List UInt8)) : Lib.join (x :: y :: r) sep = x ++ sep ++ Lib.join (y :: r) sep := by simp [Lib.join, List.intercalate]
theorem join_cutL (c : UInt8) (l : List UInt8) : Lib.join (cutL c l) [c] = l := by
  induction l with
  | nil => rfl
  | cons x l ih =>
    obtain ⟨u, r, e2⟩ := cutL_form c l
    by_cases h : x = c
    · subst h
      rw [cutL_sep, e2, join_two, ← e2, ih]; rfl
    · rw [cutL_cons h e2]
      rw [e2] at ih
      cases r with
      | nil => rw [join_one] at ih ⊢; rw [ih]
      | cons v r => rw [join_two] at ih ⊢; rw [List.cons_append, List.cons_append, ih]
theorem cutL_join (c : UInt8) : ∀ (xs : List (List UInt8)), xs ≠ [] → (∀ x ∈ xs, c ∉ x) → cutL c (Lib.join xs [c]) = xs
  | [], h, _ => absurd rfl h
  | [x], _, h => by rw [join_one]; exact cutL_free (h x (by simp))
  | x :: y :: r, _, h => by
    rw [join_two, List.append_assoc, List.singleton_append, cutL_app (h x (by simp)), cutL_join c (y :: r) (by simp) (fun z hz => h z (List.mem_cons_of_mem _ hz))]
theorem cutL_length (c : UInt8) (l : List UInt8) : (cutL c l).length = l.count c + 1 := by
  induction l with
  | nil => rfl
  | cons x l ih =>
    obtain ⟨u, r, e2⟩ := cutL_form c l
    by_cases h : x = c
    · subst h; rw [cutL_sep, List.length_cons, ih, List.count_cons_self]
    · rw [cutL_cons h e2, List.count_cons_of_ne h, ← ih, e2]; rfl
theorem cutL_len_le (c : UInt8) (l : List UInt8) : (cutL c l).length ≤ l.length + 1 := by
  rw [cutL_length]; have := List.count_le_length (a := c) (l := l); omega
theorem cutL_each (c : UInt8) : ∀ (l x : List UInt8), x ∈ cutL c l → x.length ≤ l.length := by
  intro l
  induction l with
  | nil => intro x h; simp [cutL] at h; subst h; simp
  | cons z l ih =>
    intro x h
    by_cases hz : z = c
    · subst hz
      rw [cutL_sep] at h
      rcases List.mem_cons.1 h with rfl | h
      · simp
      · exact Nat.le_succ_of_le (ih x h)
    · obtain ⟨u, r, e2⟩ := cutL_form c l
      rw [cutL_cons hz e2] at h
      rcases List.mem_cons.1 h with rfl | h
      · have := ih u (by rw [e2]; simp)
        simpa using this
      · exact Nat.le_succ_of_le (ih x (by rw [e2]; exact List.mem_cons_of_mem _ h))
theorem index_one (c : UInt8) : ∀ (s : List UInt8), (Lib.index s [c] = -1 ∧ c ∉ s) ∨ ∃ i : Nat, Lib.index s [c] = i ∧ c ∉ s.take i ∧ s = s.take i ++ c :: s.drop (i + 1)
  | [] => .inl ⟨by simp [Lib.index], by simp⟩
  | x :: l => by
    by_cases h : x = c
    · subst h
      exact .inr ⟨0, by simp [Lib.index, List.isPrefixOf], by simp, by simp⟩
    · have hp : ([c] : List UInt8).isPrefixOf (x :: l) = false := by simp [List.isPrefixOf, Ne.symm h]
      rcases index_one c l with ⟨h1, h2⟩ | ⟨i, h1, h2, h3⟩
      · exact .inl ⟨by rw [Lib.index, hp, h1]; simp, by simp [Ne.symm h, h2]⟩
      · refine .inr ⟨i + 1, ?_, ?_, ?_⟩
        · rw [Lib.index, hp, h1]
          have : ¬ ((i : Int) == -1) = true := by simp <;> omega
          rw [if_neg (by simp), if_neg this]; omega
        · simp [Ne.symm h, h2]
        · simp only [List.take_succ_cons, List.drop_succ_cons, List.cons_append]
          rw [← h3]
theorem splitK_one (c : UInt8) : ∀ (k : Nat) (s : List UInt8), s.count c = k → Lib.splitK [c] 0 k s = cutL c s
  | 0, s, h => by
    rw [Lib.splitK, cutL_free (List.count_eq_zero.1 h)]
  | k + 1, s, h => by
    rcases index_one c s with ⟨h1, h2⟩ | ⟨i, h1, h2, h3⟩
    · rw [List.count_eq_zero.2 h2] at h; cases h
    · have hm : ¬ (Lib.index s [c] == -1) = true := by rw [h1]; simp <;> omega
      have hc : (s.drop (i + 1)).count c = k := by
        have h4 := congrArg (List.count c) h3
        rw [List.count_append, List.count_cons_self, List.count_eq_zero.2 h2, h] at h4
        omega
      rw [Lib.splitK, if_neg hm, h1, Int.toNat_natCast, Nat.add_zero, List.length_singleton, splitK_one c k _ hc]
      conv => rhs; rw [h3]
      rw [cutL_app h2]
theorem splitB_one (c : UInt8) (s : ByteArray) : (Lib.splitB ⟨#[c]⟩ 0 (Lib.countB s ⟨#[c]⟩) s).map (·.data.toList) = cutL c s.data.toList := by
  rw [Lib.splitB_data]
  exact splitK_one c _ _ (Lib.count_one c s.data.toList).symm
/-! Decimal numbers. -/
def dval (l : List UInt8) : Nat := l.foldl (fun n c => 10 * n + (c.toNat - 48)) 0
def digB (c : UInt8) : Bool := decide (48 ≤ c.toNat) && decide (c.toNat ≤ 57)
def headB : List UInt8 → Bool
  | [] => false
  | x :: r => x != 48 || r.isEmpty
def decOk (l : List UInt8) (most : Nat) : Bool := headB l && l.all digB && decide (dval l ≤ most)
def decV (l : List UInt8) (most : Nat) : Nat := if decOk l most then dval l else 0
theorem dval_snoc (l : List UInt8) (c : UInt8) : dval (l ++ [c]) = 10 * dval l + (c.toNat - 48) := by simp [dval, List.foldl_append]
theorem dval_app (l : List UInt8) : ∀ (r : List UInt8), dval l ≤ dval (l ++ r) := by
  intro r
  induction r generalizing l with
  | nil => simp
  | cons x r ih =>
    have h1 := ih (l ++ [x])
    rw [dval_snoc, List.append_assoc, List.singleton_append] at h1
    omega
theorem digs_small (u : Nat) (h : u < 10) : (UInt8.ofNat (48 + u)).toNat = 48 + u := by
  rw [UInt8.toNat_ofNat']; exact Nat.mod_eq_of_lt (by omega)
theorem decDigits_all (u : Nat) : dval (Lib.decDigits u) = u ∧ (Lib.decDigits u).all digB = true ∧ ∃ x r, Lib.decDigits u = x :: r ∧ (1 ≤ u → x ≠ 48) := by
  induction u using Nat.strongRecOn with
  | ind u ih =>
    by_cases h : u < 10
    · have e := digs_small u h
      rw [Lib.decDigits_one h]
      refine ⟨by simp only [dval, List.foldl]; rw [e]; omega, by simp only [List.all_cons, List.all_nil, digB, e]; simp; omega, _, _, rfl, ?_⟩
      intro h1 h2
      have := congrArg UInt8.toNat h2
      rw [e] at this
      simp at this
      omega
    · obtain ⟨h1, h2, x, r, h3, h4⟩ := ih (u / 10) (by omega)
      have e := digs_small (u % 10) (by omega)
      rw [Lib.decDigits, dif_neg h]
      refine ⟨?_, ?_, ?_⟩
      · rw [dval_snoc, h1, e]; omega
      · rw [List.all_append, h2]; simp [digB, e]; omega
      · exact ⟨x, r ++ [_], by rw [h3]; rfl, fun _ => h4 (by omega)⟩
theorem decDigits_head (u : Nat) : headB (Lib.decDigits u) = true := by
  by_cases h : u < 10
  · rw [Lib.decDigits_one h]; simp [headB]
  · obtain ⟨_, _, x, r, h3, h4⟩ := decDigits_all u
    have := h4 (by omega)
    rw [h3]; simp [headB, this]
theorem decOk_digits (u most : Nat) (h : u ≤ most) : decOk (Lib.decDigits u) most = true := by
  obtain ⟨h1, h2, _⟩ := decDigits_all u
  simp only [decOk, decDigits_head, h1, h2, Bool.true_and, decide_eq_true_eq]
  exact h
theorem decV_digits (u most : Nat) (h : u ≤ most) : decV (Lib.decDigits u) most = u := by
  rw [decV, if_pos (decOk_digits u most h)]; exact (decDigits_all u).1
theorem decV_le (l : List UInt8) (most : Nat) : decV l most ≤ most := by
  unfold decV
  split
  · rename_i h; simp [decOk] at h; exact h.2
  · exact Nat.zero_le _
/-- A digit more. -/
theorem digits_snoc (u d : Nat) (hu : 1 ≤ u) (hd : d < 10) : Lib.decDigits (10 * u + d) = Lib.decDigits u ++ [UInt8.ofNat (48 + d)] := by
  rw [Lib.decDigits, dif_neg (by omega), show (10 * u + d) / 10 = u by omega, show (10 * u + d) % 10 = d by omega]
theorem digB_form {c : UInt8} (h : digB c = true) : ∃ d, d < 10 ∧ c = UInt8.ofNat (48 + d) ∧ c.toNat = 48 + d := by
  simp [digB] at h
  refine ⟨c.toNat - 48, by omega, ?_, by omega⟩
  rw [show 48 + (c.toNat - 48) = c.toNat by omega]
  simp
theorem dval_pow (x : UInt8) (hx : digB x = true) (h0 : x ≠ 48) : ∀ (n : Nat) (r : List UInt8), r.length = n → r.all digB = true → 10 ^ r.length ≤ dval (x :: r) ∧ Lib.decDigits (dval (x :: r)) = x :: r := by
  intro n
  induction n with
  | zero =>
    intro r hr _
    obtain rfl := List.eq_nil_of_length_eq_zero hr
    obtain ⟨d, hd, e, e2⟩ := digB_form hx
    have hd0 : d ≠ 0 := by rintro rfl; exact h0 (by rw [e]; rfl)
    have e3 : dval [x] = d := by simp [dval, e2]
    rw [e3, Lib.decDigits_one hd, e]
    exact ⟨by simp; omega, rfl⟩
  | succ n ih =>
    intro r hr ha
    have hne : r ≠ [] := by rintro rfl; simp at hr
    obtain ⟨q, z, rfl⟩ : ∃ q z, r = q ++ [z] := ⟨r.dropLast, r.getLast hne, (List.dropLast_concat_getLast hne).symm⟩
    rw [List.all_append] at ha
    simp only [Bool.and_eq_true] at ha
    have hz : digB z = true := by simpa using ha.2
    obtain ⟨h1, h2⟩ := ih q (by simpa using hr) ha.1
    obtain ⟨d, hd, e, e2⟩ := digB_form hz
    have e3 : dval (x :: (q ++ [z])) = 10 * dval (x :: q) + d := by
      rw [← List.cons_append, dval_snoc, e2]; omega
    have h3 : 1 ≤ dval (x :: q) := Nat.le_trans (Nat.one_le_pow _ _ (by omega)) h1
    refine ⟨?_, ?_⟩
    · rw [e3, List.length_append, List.length_singleton, Nat.pow_succ]; omega
    · rw [e3, digits_snoc _ _ h3 hd, h2, e]; rfl
/-- What is read is told as it was. -/
theorem digits_decOk {l : List UInt8} {most : Nat} (h : decOk l most = true) : Lib.decDigits (dval l) = l := by
  simp only [decOk, Bool.and_eq_true] at h
  obtain ⟨⟨h1, h2⟩, _⟩ := h
  cases l with
  | nil => simp [headB] at h1
  | cons x r =>
    simp only [List.all_cons, Bool.and_eq_true] at h2
    by_cases h0 : x = 48
    · subst h0
      cases r with
      | nil => rw [Lib.decDigits_one (by simp [dval])]; simp [dval]
      | cons y r => simp [headB] at h1
    · exact (dval_pow x h2.1 h0 _ r rfl h2.2).2
/-- Who has more than 20 digits is greater than any number of 64 bits. -/
theorem long_big {l : List UInt8} (h1 : headB l = true) (h2 : l.all digB = true) (hl : 20 < l.length) : 18446744073709551615 < dval l := by
  cases l with
  | nil => simp at hl
  | cons x r =>
    simp only [List.all_cons, Bool.and_eq_true] at h2
    by_cases h0 : x = 48
    · subst h0
      cases r with
      | nil => simp at hl
      | cons y r => simp [headB] at h1
    · have h3 := (dval_pow x h2.1 h0 _ r rfl h2.2).1
      have h4 : 10 ^ 20 ≤ 10 ^ r.length := Nat.pow_le_pow_right (by omega) (by simp at hl; omega)
      have h5 : (10 : Nat) ^ 20 = 100000000000000000000 := by decide
      omega
end Go.Proofs.YtgjdgafoidppaaaDoor
namespace Go.Proofs.YtgjdgafoidppaaaDoor
open Go.RowKit

/-- A world that has grown out of w. -/
structure Growth (w : World) where
  to : World
  below : Below w.heap.size w to
def grown (w : World) (g : Growth w) : World := g.to
def Gr (w w' : World) : Prop := ∃ g : Growth w, w' = grown w g
def Growth.zero (w : World) : Growth w := ⟨w, Below.refl _ _⟩
instance (w : World) : Nonempty (Growth w) := ⟨Growth.zero w⟩
theorem grown_below (w : World) (g : Growth w) : Below w.heap.size w (grown w g) := g.below
theorem Gr.of {w w' : World} (h : Below w.heap.size w w') : Gr w w' := ⟨⟨w', h⟩, rfl⟩
theorem Gr.below {w w' : World} (h : Gr w w') : Below w.heap.size w w' := by obtain ⟨g, rfl⟩ := h; exact g.below
theorem Gr.refl (w : World) : Gr w w := Gr.of (Below.refl _ _)
theorem below_trans {a b c : World} (h : Below a.heap.size a b) (k : Below b.heap.size b c) : Below a.heap.size a c := h.trans (k.mono h.size)
theorem below_alloc {a w : World} (h : Below a.heap.size a w) (o : Obj) : Below a.heap.size a (w.alloc o) := h.alloc h.size o
theorem below_set {a w : World} (h : Below a.heap.size a w) {b o : Nat} (hp : a.heap.size ≤ b) (u : Value) : Below a.heap.size a (w.setCell ⟨b, o, none⟩ u) := h.setCell (p := ⟨b, o, none⟩) hp u
theorem Gr.trans {a b c : World} (h : Gr a b) (k : Gr b c) : Gr a c := Gr.of (below_trans h.below k.below)
/-- A block that stands in a world. -/
class Old (b : Nat) (W : World) : Prop where
  lt : b < W.heap.size
/-- A world's number of blocks, as the walk writes it. -/
class SizeN (W : World) (n : outParam Nat) : Prop where
  eq : W.heap.size = n
instance (priority := low) sizeN_base (W : World) : SizeN W W.heap.size := ⟨rfl⟩
instance sizeN_alloc (W : World) (o : Obj) (n : Nat) [h : SizeN W n] : SizeN (W.alloc o) (n + 1) := ⟨by have := h.eq; simp [this]⟩
instance sizeN_set (W : World) (a : Addr) (v : Value) (n : Nat) [h : SizeN W n] : SizeN (W.setCell a v) n := ⟨by have := h.eq; simpa [World.setCell] using this⟩
instance sizeN_drew (W : World) (n : Nat) [h : SizeN W n] : SizeN W.drew n := ⟨h.eq⟩
instance old_new (W : World) (o : Obj) (n : Nat) [h : SizeN W n] : Old n (W.alloc o) := ⟨by have := h.eq; simp [this]⟩
instance (b : Nat) (W : World) (o : Obj) [h : Old b W] : Old b (W.alloc o) := ⟨by have := h.lt; simp; omega⟩
instance (b : Nat) (W : World) (g : Growth W) [h : Old b W] : Old b (grown W g) := ⟨Nat.lt_of_lt_of_le h.lt g.below.size⟩
instance (b : Nat) (W : World) (a : Addr) (v : Value) [h : Old b W] : Old b (W.setCell a v) := ⟨by have := h.lt; simpa [World.setCell] using this⟩
instance (b : Nat) (W : World) [h : Old b W] : Old b W.drew := ⟨h.lt⟩
theorem old_of_cell {b o : Nat} {W : World} {v : Value} (h : W.cell? ⟨b, o, none⟩ = some v) : Old b W := ⟨by
  rcases Nat.lt_or_ge b W.heap.size with h1 | h1
  · exact h1
  · simp [World.cell?, Array.getElem?_eq_none h1] at h⟩
@[go_sem] theorem grown_cells (W : World) (g : Growth W) (b o : Nat) [h : Old b W] : (grown W g).cell? ⟨b, o, none⟩ = W.cell? ⟨b, o, none⟩ := g.below.cell (p := ⟨b, o, none⟩) h.lt
@[go_sem] theorem grown_frozen (W : World) (g : Growth W) (b o : Nat) [h : Old b W] : (grown W g).frozen? ⟨b, o, none⟩ = W.frozen? ⟨b, o, none⟩ := g.below.frozen (p := ⟨b, o, none⟩) h.lt
@[go_sem] theorem alloc_cells (W : World) (ob : Obj) (b o : Nat) [h : Old b W] : (W.alloc ob).cell? ⟨b, o, none⟩ = W.cell? ⟨b, o, none⟩ := ((Below.refl _ W).alloc (Nat.le_refl _) ob).cell (p := ⟨b, o, none⟩) h.lt
@[go_sem] theorem alloc_frozen (W : World) (ob : Obj) (b o : Nat) [h : Old b W] : (W.alloc ob).frozen? ⟨b, o, none⟩ = W.frozen? ⟨b, o, none⟩ := ((Below.refl _ W).alloc (Nat.le_refl _) ob).frozen (p := ⟨b, o, none⟩) h.lt
theorem grown_lt (W : World) (g : Growth W) (b : Nat) [h : Old b W] : b < (grown W g).heap.size := Nat.lt_of_lt_of_le h.lt g.below.size
@[go_sem] theorem grown_ne0 (W : World) (g : Growth W) (b : Nat) [h : Old b W] : (b = (grown W g).heap.size) = False := by have := grown_lt W g b; simp; omega
@[go_sem] theorem grown_en0 (W : World) (g : Growth W) (b : Nat) [h : Old b W] : ((grown W g).heap.size = b) = False := by have := grown_lt W g b; simp; omega
@[go_sem] theorem grown_ne1 (W : World) (g : Growth W) (b : Nat) [h : Old b W] : (b = (grown W g).heap.size + 1) = False := by have := grown_lt W g b; simp; omega
@[go_sem] theorem grown_en1 (W : World) (g : Growth W) (b : Nat) [h : Old b W] : ((grown W g).heap.size + 1 = b) = False := by have := grown_lt W g b; simp; omega
@[go_sem] theorem grown_ne2 (W : World) (g : Growth W) (b : Nat) [h : Old b W] : (b = (grown W g).heap.size + 1 + 1) = False := by have := grown_lt W g b; simp; omega
@[go_sem] theorem grown_en2 (W : World) (g : Growth W) (b : Nat) [h : Old b W] : ((grown W g).heap.size + 1 + 1 = b) = False := by have := grown_lt W g b; simp; omega
@[go_sem] theorem grown_ne3 (W : World) (g : Growth W) (b : Nat) [h : Old b W] : (b = (grown W g).heap.size + 1 + 1 + 1) = False := by have := grown_lt W g b; simp; omega
@[go_sem] theorem grown_en3 (W : World) (g : Growth W) (b : Nat) [h : Old b W] : ((grown W g).heap.size + 1 + 1 + 1 = b) = False := by have := grown_lt W g b; simp; omega
@[go_sem] theorem grown_ne4 (W : World) (g : Growth W) (b : Nat) [h : Old b W] : (b = (grown W g).heap.size + 1 + 1 + 1 + 1) = False := by have := grown_lt W g b; simp; omega
@[go_sem] theorem grown_en4 (W : World) (g : Growth W) (b : Nat) [h : Old b W] : ((grown W g).heap.size + 1 + 1 + 1 + 1 = b) = False := by have := grown_lt W g b; simp; omega
theorem fresh_ne {W : World} {b : Nat} (hb : W.heap.size ≤ b) (c : Nat) [h : Old c W] : (c = b) = False := by have := h.lt; simp; omega
theorem fresh_en {W : World} {b : Nat} (hb : W.heap.size ≤ b) (c : Nat) [h : Old c W] : (b = c) = False := by have := h.lt; simp; omega
theorem fresh_le {W : World} {b : Nat} (hb : W.heap.size ≤ b) (c : Nat) [h : Old c W] : c ≤ b := by have := h.lt; omega
def Growth.comp {w : World} (g : Growth w) (k : Growth (grown w g)) : Growth w := ⟨k.to, below_trans g.below k.below⟩
theorem grown_grown (W : World) (g : Growth W) (k : Growth (grown W g)) : grown (grown W g) k = grown W (g.comp k) := rfl
def Growth.drew {w : World} (g : Growth w) : Growth w := ⟨g.to.drew, g.below.drew⟩
theorem grown_drew (W : World) (g : Growth W) : (grown W g).drew = grown W g.drew := rfl

section
variable {P : Program}
/-- ONE WALK IN THE ORDER OF THE TEXT: the class of the worlds that have grown out of w. -/
theorem wp_region_grow {id : Nat} {Q : Exit → Act → World → Prop} {a : Act} {w : World} {l : List Oper} (hm : P.follows .mixedOrders = true) (hB : Region.lexB .any l.toArray = true)
    (h : wpQuiet P l.toArray (fun w' => ∃ g : Growth w, w' = grown w g) (fun a' => ∀ g : Growth w, Q .normal a' (grown w g)) l a) : (Code.region id l.toArray true).wp P Q a w := by
  refine wp_region_quiet (C := fun w' => ∃ g : Growth w, w' = grown w g) hm hB ⟨⟨{ w with drawn := w.drawn + 1 }, (Below.refl _ _).drew⟩, rfl⟩ ?_
  have e : ∀ Q1 Q2 : Act → Prop, (∀ a, Q1 a → Q2 a) → ∀ (l1 : List Oper) (a : Act), wpQuiet P l.toArray (fun w' => ∃ g : Growth w, w' = grown w g) Q1 l1 a → wpQuiet P l.toArray (fun w' => ∃ g : Growth w, w' = grown w g) Q2 l1 a := by
    intro Q1 Q2 hq l1
    induction l1 with
    | nil => exact fun a h => hq a h
    | cons o r ih =>
      intro a h
      unfold wpQuiet at h ⊢
      split at h
      · rename_i hw; simp only [hw, if_true]; exact Oper.quiet_mono ih h
      · rename_i hw; simp only [hw]; exact ih _ h
  refine e _ _ ?_ _ _ (by simpa using h)
  rintro a' hq w' ⟨g, rfl⟩
  exact hq _
/-- A callee's contract, met in a grown world. -/
theorem grow_call {f : FuncId} {args : Array Value} {w : World} {g : Growth w} {v : Value}
    (h : Calls P f args (grown w g) fun e w' => e = .returned v ∧ Gr (grown w g) w') :
    Calls P f args (grown w g) fun e w'' => e = .returned v ∧ ∃ g' : Growth w, w'' = grown w g' :=
  h.mono fun _ _ ⟨he, hb⟩ => ⟨he, Gr.trans ⟨g, rfl⟩ hb⟩
theorem grow_call_same {f : FuncId} {args : Array Value} {w : World} {g : Growth w} {v : Value}
    (h : Calls P f args (grown w g) fun e w' => e = .returned v ∧ grown w g = w') :
    Calls P f args (grown w g) fun e w'' => e = .returned v ∧ ∃ g' : Growth w, w'' = grown w g' :=
  h.mono fun _ _ ⟨he, hb⟩ => ⟨he, g, hb.symm⟩
end

/-! A region that draws its order, in whose first n operations each reads, computes, or calls a function that only makes new memory, and whose other operations come one behind the other. -/
section
variable {P : Program} {ops : Array Oper} {md : Region.Mode} {C : World → Prop}
/-- The first n operations, in whatever order; behind them L. -/
def headAny (P : Program) (md : Region.Mode) (ops : Array Oper) (C : World → Prop) (n : Nat) (L : Array Bool → Act → Prop) : Nat → Array Bool → Act → Prop
  | 0, listed, a => L listed a
  | f + 1, listed, a => Region.ready md ops listed ≠ [] ∧ ∀ i ∈ Region.ready md ops listed, i < n ∧ qOp P ops C i (headAny P md ops C n L f (listed.setIfInBounds i true)) a
theorem headAny_any {n g : Nat} {L : Array Bool → Act → Prop} {Q' : Exit → Act → World → Prop} (hL : ∀ listed a w, C w → L listed a → wpAny P md ops Q' g listed a w) :
    ∀ (f : Nat) (listed : Array Bool) (a : Act) (w : World), C w → headAny P md ops C n L f listed a → wpAny P md ops Q' (f + g) listed a w
  | 0, listed, a, w, hw, h => by rw [Nat.zero_add]; exact hL _ _ _ hw h
  | f + 1, listed, a, w, hw, h => by
    rw [show f + 1 + g = (f + g) + 1 by omega]
    exact ⟨fun h0 => absurd h0 h.1, fun i hi => wpOp_of_qOp hw (fun a' w' hw' h' => headAny_any hL f _ a' w' hw' h') (h.2 i hi).2⟩
theorem headAny_first {n i : Nat} {oi : Oper} {v : Value} {L : Array Bool → Act → Prop} (hi : ops[i]? = some oi) (hsel : ∀ (j : Nat) (o : Oper) cs b, ops[j]? = some o → o.op ≠ .select cs b)
    (hs : Region.sinkB md ops n = true) (hc : Region.chainB md ops n = true) (hn : n < ops.size) (hin : i < n)
    (hdone : ∀ listed a, L listed a → ∀ j ∈ Region.ready md ops listed, n ≤ j) :
    ∀ (f : Nat) (listed : Array Bool) (a : Act), HeadInv md ops n listed →
      (∀ j oj, ops[j]? = some oj → j ≠ i → listed.getD j true = false → (∀ e ∈ oj.after, Region.binds md e = true → e.on ≠ i) → oi.apart ops oj = true) →
      i ∈ Region.ready md ops listed → YieldsIn P ops C oi v a →
      headAny P md ops C n L f (listed.setIfInBounds i true) (a.put oi.dst v) → headAny P md ops C n L (f + 1) listed a := by
  intro f
  induction f with
  | zero =>
    intro listed a inv _ hr hy H
    refine ⟨(fun h => by rw [h] at hr; cases hr), fun j hj => ?_⟩
    have hjn : j < n := (Nat.lt_or_ge j n).elim id fun h => absurd hj (tail_waits hs hc hn inv _ i rfl hin (mem_ready.1 hr).1 j h)
    by_cases hji : j = i
    · subst hji; exact ⟨hjn, hy.qOp hi H⟩
    · have := hdone _ _ H j (ready_mono hj hji)
      omega
  | succ f ih =>
    intro listed a inv hfree hr hy H
    have hun := (mem_ready.1 hr).1
    refine ⟨(fun h => by rw [h] at hr; cases hr), fun j hj => ?_⟩
    have hjn : j < n := (Nat.lt_or_ge j n).elim id fun h => absurd hj (tail_waits hs hc hn inv _ i rfl hin hun j h)
    refine ⟨hjn, ?_⟩
    by_cases hji : j = i
    · subst hji; exact hy.qOp hi H
    have h1 := (H.2 j (ready_mono hj hji)).2
    obtain ⟨hjun, oj, hoj, hall⟩ := mem_ready.1 hj
    have hnot : ∀ e ∈ oj.after, Region.binds md e = true → e.on ≠ i := fun e he hb heq => by
      have h1 := hall e he hb
      rw [heq, getD_both hun] at h1
      cases h1
    have h2 := qOp_put hoj (hfree j oj hoj hji hjun hnot) (fun cs b => hsel i oi cs b hi) (fun cs b => hsel j oj cs b hoj) hy h1
    have hfree' : ∀ k ok, ops[k]? = some ok → k ≠ i → (listed.setIfInBounds j true).getD k true = false →
        (∀ e ∈ ok.after, Region.binds md e = true → e.on ≠ i) → oi.apart ops ok = true := fun k ok hk hki hu hno => by
      refine hfree k ok hk hki ?_ hno
      by_cases hjk : j = k
      · subst hjk; exact hjun
      · rw [getD_set_ne true hjk] at hu; exact hu
    refine qOp_mono (fun a' h3 => ih (listed.setIfInBounds j true) a' (inv.set hj hjn) hfree' (ready_mono hr (Ne.symm hji)) h3.1 ?_) h2
    rw [Array.setIfInBounds_comm _ _ hji]
    exact h3.2
theorem headAny_lex {n g : Nat} {Lq : Act → Prop} (hsel : Region.noSelect ops = true) (hs : Region.sinkB md ops n = true) (hc : Region.chainB md ops n = true) (hn : n < ops.size) :
    ∀ (l : List Oper) (k : Nat) (listed : Array Bool) (a : Act), (∀ j, j < l.length → l[j]? = ops[k + j]?) → k + l.length = n → HeadInv md ops n listed →
    Region.lexHead md ops g l.length k listed = true → wpQuiet P ops C Lq l a →
    headAny P md ops C n (fun listed' a' => Region.seqB md ops g n listed' = true ∧ Lq a') l.length listed a
  | [], k, listed, a, _, hk, _, hB, h => by
    have : k = n := by simpa using hk
    subst this
    exact ⟨by simpa [Region.lexHead] using hB, h⟩
  | o :: l, k, listed, a, hl, hk, inv, hB, h => by
    have h0 : ops[k]? = some o := by simpa using (hl 0 (by simp)).symm
    simp only [List.length_cons, Region.lexHead, Bool.and_eq_true] at hB
    obtain ⟨⟨hr, hf⟩, hB'⟩ := hB
    have hkn : k < n := by simp only [List.length_cons] at hk; omega
    have hr' : k ∈ Region.ready md ops listed := by simpa using hr
    have hst : qOp P ops C k (wpQuiet P ops C Lq l) a := by unfold qOp; simp only [h0]; exact h
    obtain ⟨v, hy, hK⟩ := yieldsIn_of_qOp h0 hst
    exact headAny_first h0 (Region.noSelect_spec hsel) hs hc hn hkn (fun listed' a' hL => seqB_ready hL.1) l.length listed a inv (Region.free_spec h0 hf) hr' hy
      (headAny_lex hsel hs hc hn l (k + 1) _ _ (fun j hj => by have := hl (j + 1) (by simp; omega); simpa [Nat.add_assoc, Nat.add_comm 1 j] using this) (by simp only [List.length_cons] at hk; omega) (inv.set hr' hkn) hB' hK)
theorem wp_region_class_tail {id : Nat} {Q : Exit → Act → World → Prop} {a : Act} {w : World} {l : List Oper} (n : Nat) (hm : P.follows .mixedOrders = true) (hB : Region.lexTailB .any l.toArray n = true)
    (hC : C { w with drawn := w.drawn + 1 })
    (h : wpQuiet P l.toArray C (fun a' => ∀ w', C w' → wpList P l.toArray Q (l.drop n) a' w') (l.take n) a) : (Code.region id l.toArray true).wp P Q a w := by
  simp only [Region.lexTailB, Bool.and_eq_true, decide_eq_true_eq] at hB
  obtain ⟨⟨⟨⟨hsel, hn⟩, hs⟩, hc⟩, hlex⟩ := hB
  have htl : (l.take n).length = n := by simp at hn ⊢; omega
  have hdl : (l.drop n).length = l.toArray.size - n := by simp
  have inv0 : HeadInv .any l.toArray n (Array.replicate l.toArray.size false) :=
    ⟨by simp, (fun j oj _ hl => by rw [getD_replicate_false] at hl; cases hl), fun t _ ht => getD_in (by simpa using ht) (getD_replicate_false _ _)⟩
  have H := headAny_lex (md := .any) (g := l.toArray.size - n) hsel hs hc hn (l.take n) 0 _ a (fun j hj => by
    have hj' : j < n := by rw [htl] at hj; exact hj
    simp [hj']) (by simpa using htl) inv0 (by rw [htl]; exact hlex) h
  refine wp_region_any hm ?_
  have := headAny_any (Q' := Q) (g := l.toArray.size - n) (fun listed a' w' hw' hL => by
    have := wpAny_of_seq (md := .any) (Q' := Q) (l.drop n) n listed a' w' (fun j => by simp [List.getElem?_drop]) (by rw [hdl]; exact hL.1) (hL.2 w' hw')
    rwa [hdl] at this) _ _ _ _ hC H
  rw [htl, show n + (l.toArray.size - n) = l.toArray.size by simp at hn ⊢; omega] at this
  exact this
theorem quiet_impl {Q1 Q2 : Act → Prop} (hq : ∀ a, Q1 a → Q2 a) : ∀ (l : List Oper) (a : Act), wpQuiet P ops C Q1 l a → wpQuiet P ops C Q2 l a
  | [], _, h => hq _ h
  | o :: r, a, h => by
    unfold wpQuiet at h ⊢
    split at h
    · rename_i hw; simp only [hw, if_true]; exact Oper.quiet_mono (quiet_impl hq r) h
    · rename_i hw; simp only [hw]; exact quiet_impl hq r _ h
/-- The same at the worlds that have grown out of w. -/
theorem wp_region_grow_tail {id : Nat} {Q : Exit → Act → World → Prop} {a : Act} {w : World} {l : List Oper} (n : Nat) (hm : P.follows .mixedOrders = true) (hB : Region.lexTailB .any l.toArray n = true)
    (h : wpQuiet P l.toArray (fun w' => ∃ g : Growth w, w' = grown w g) (fun a' => ∀ g : Growth w, wpList P l.toArray Q (l.drop n) a' (grown w g)) (l.take n) a) : (Code.region id l.toArray true).wp P Q a w := by
  refine wp_region_class_tail (C := fun w' => ∃ g : Growth w, w' = grown w g) n hm hB ⟨⟨{ w with drawn := w.drawn + 1 }, (Below.refl _ _).drew⟩, rfl⟩ (quiet_impl ?_ _ _ h)
  rintro a' hq w' ⟨g, rfl⟩
  exact hq _
end
end Go.Proofs.YtgjdgafoidppaaaDoor
namespace Go.Proofs.YtgjdgafoidppaaaDoor
open Go.RowKit
set_option linter.unusedVariables false
set_option linter.unusedSimpArgs false
/-- A block that no package-level variable has. -/
class Far (b : Nat) : Prop where
  le : 6 ≤ b
/-- The table of strconv's powers stands. -/
class Tb (W : World) : Prop where
  size : 6 ≤ W.heap.size
  pow : Lib.TabIs Tryd.prog W "internal/strconv.uint64pow10" .u64 Lib.pow10Tab
theorem global_pow : Tryd.prog.globalNamed "internal/strconv.uint64pow10" = some 1 := by kernel_rfl
theorem Tb.keep {W W' : World} (h : Tb W) (hs : W.heap.size ≤ W'.heap.size) (hk : ∀ b, b < 6 → W'.heap[b]? = W.heap[b]?) : Tb W' :=
  ⟨Nat.le_trans h.size hs, by
    have := h.pow
    unfold Lib.TabIs World.var? at this ⊢
    rw [global_pow] at this ⊢
    simpa [hk 1 (by omega)] using this⟩
instance far_size (W : World) [h : Tb W] : Far W.heap.size := ⟨h.size⟩
instance far_succ (b : Nat) [h : Far b] : Far (b + 1) := ⟨Nat.le_succ_of_le h.le⟩
instance (W : World) (o : Obj) [h : Tb W] : Tb (W.alloc o) := h.keep (by simp) (fun b hb => Below.heap_alloc W o b (Nat.lt_of_lt_of_le hb h.size))
instance (W : World) (g : Growth W) [h : Tb W] : Tb (grown W g) := h.keep g.below.size (fun b hb => g.below.block b (Nat.lt_of_lt_of_le hb h.size))
instance (W : World) [h : Tb W] : Tb W.drew := h.keep (Nat.le_refl _) (fun b hb => rfl)
instance (W : World) (b o : Nat) (v : Value) [h : Tb W] [hf : Far b] : Tb (W.setCell ⟨b, o, none⟩ v) :=
  h.keep (by simp [World.setCell]) (fun c hc => Below.heap_setCell W ⟨b, o, none⟩ v c (by have := hf.le; show c ≠ b; omega))
theorem Tb.of_below {W W' : World} [h : Tb W] (hb : Below W.heap.size W W') : Tb W' := h.keep hb.size (fun b hb' => hb.block b (Nat.lt_of_lt_of_le hb' h.size))
end Go.Proofs.YtgjdgafoidppaaaDoor
namespace Go.Proofs.YtgjdgafoidppaaaDoor
open Go.RowKit
set_option linter.unusedVariables false
set_option linter.unusedSimpArgs false
/-- Block k is an iterator over s, at a place. -/
class IterAt (W : World) (k : Nat) (s : outParam ByteArray) (pos : outParam Nat) : Prop where
  eq : W.heap[k]? = some (.stringIter s pos)
@[go_sem] theorem iter_alloc (W : World) (s : ByteArray) (pos : Nat) : W.iter s pos = W.alloc (.stringIter s pos) := rfl
instance (W : World) (s : ByteArray) (pos n : Nat) [h : SizeN W n] : IterAt (W.alloc (.stringIter s pos)) n s pos := ⟨by have := h.eq; subst this; simpa [World.iter] using World.iter_heap W s pos⟩
theorem IterAt.lt {W : World} {k : Nat} {s : ByteArray} {pos : Nat} (h : IterAt W k s pos) : k < W.heap.size := (Array.getElem?_eq_some_iff.1 h.eq).1
theorem IterAt.old {W : World} {k : Nat} {s : ByteArray} {pos : Nat} (h : IterAt W k s pos) : Old k W := ⟨h.lt⟩
instance (priority := low) (W : World) (o : Obj) (k : Nat) (s : ByteArray) (pos : Nat) [h : IterAt W k s pos] : IterAt (W.alloc o) k s pos := ⟨(Below.heap_alloc W o k h.lt).trans h.eq⟩
instance (W : World) (g : Growth W) (k : Nat) (s : ByteArray) (pos : Nat) [h : IterAt W k s pos] : IterAt (grown W g) k s pos := ⟨(g.below.block k h.lt).trans h.eq⟩
instance (W : World) (k : Nat) (s : ByteArray) (pos : Nat) [h : IterAt W k s pos] : IterAt W.drew k s pos := ⟨h.eq⟩
instance (W : World) (a : Addr) (v : Value) (k : Nat) (s : ByteArray) (pos : Nat) [h : IterAt W k s pos] : IterAt (W.setCell a v) k s pos := ⟨by
  have := h.eq
  by_cases e : k = a.block
  · subst e; simp [World.setCell, Array.getElem?_modify, this]
  · exact (Below.heap_setCell W a v k e).trans this⟩
instance (W : World) (k : Nat) (s s' : ByteArray) (pos pos' : Nat) [h : IterAt W k s pos] : IterAt (W.iterAt k s' pos') k s' pos' := ⟨by
  have := h.lt
  simp [World.iterAt, this]⟩
section
variable {P : Program}
@[go_sem] theorem run_next_at (W : World) (k : Nat) (s : ByteArray) (pos : Nat) (ty : TypeId) [h : IterAt W k s pos] :
    (Instr.next (.pointer (some ⟨k, 0, none⟩)) true ty).run P W = if pos < s.size then .ok (.tuple #[.bool true, .int .i64 pos, .int .i32 (Utf8.decode s pos).1]) (W.iterAt k s (pos + (Utf8.decode s pos).2)) else .ok (.tuple #[.bool false]) W := by
  by_cases hp : pos < s.size
  · rw [if_pos hp]; exact Lib.run_next_any_at W k s pos ty h.eq hp
  · rw [if_neg hp]; exact Lib.run_next_end_at W k s pos ty h.eq hp
end
@[go_sem] theorem iterAt_cells (W : World) (k b o : Nat) (s : ByteArray) (pos pos' : Nat) [h : IterAt W k s pos] : (W.iterAt k s pos').cell? ⟨b, o, none⟩ = W.cell? ⟨b, o, none⟩ := by
  by_cases e : b = k
  · subst e
    have h2 : (W.iterAt b s pos').heap[b]? = some (.stringIter s pos') := Lib.iterAt_heap W b s pos pos' h.eq
    simp [World.cell?, h.eq, h2]
  · simp [World.cell?, Lib.iterAt_other W k b s pos' e]
@[go_sem] theorem iterAt_frozen (W : World) (k b o : Nat) (s : ByteArray) (pos pos' : Nat) [h : IterAt W k s pos] : (W.iterAt k s pos').frozen? ⟨b, o, none⟩ = W.frozen? ⟨b, o, none⟩ := by
  by_cases e : b = k
  · subst e
    have h2 : (W.iterAt b s pos').heap[b]? = some (.stringIter s pos') := Lib.iterAt_heap W b s pos pos' h.eq
    simp [World.frozen?, h.eq, h2]
  · simp [World.frozen?, Lib.iterAt_other W k b s pos' e]
@[go_sem] theorem iterAt_size (W : World) (k : Nat) (s : ByteArray) (pos : Nat) : (W.iterAt k s pos).heap.size = W.heap.size := Lib.iterAt_size W k s pos
instance (W : World) (k : Nat) (s : ByteArray) (pos n : Nat) [h : SizeN W n] : SizeN (W.iterAt k s pos) n := ⟨by rw [Lib.iterAt_size]; exact h.eq⟩
instance (W : World) (k b : Nat) (s : ByteArray) (pos : Nat) [h : Old b W] : Old b (W.iterAt k s pos) := ⟨by rw [Lib.iterAt_size]; exact h.lt⟩
theorem below_iter {a w : World} (h : Below a.heap.size a w) {k : Nat} (hk : a.heap.size ≤ k) (s : ByteArray) (pos : Nat) : Below a.heap.size a (w.iterAt k s pos) := Lib.below_iterAt h hk s pos
instance (W : World) (k : Nat) (s : ByteArray) (pos : Nat) [h : Tb W] [hf : Far k] : Tb (W.iterAt k s pos) :=
  h.keep (by rw [Lib.iterAt_size]; exact Nat.le_refl _) (fun c hc => Lib.iterAt_other W k c s pos (by have := hf.le; omega))
/-- A world with no fewer blocks; a block that is none of them. -/
class From (a W : World) : Prop where
  le : a.heap.size ≤ W.heap.size
class Past (a : World) (b : Nat) : Prop where
  le : a.heap.size ≤ b
instance from_refl (a : World) : From a a := ⟨Nat.le_refl _⟩
instance (a W : World) (o : Obj) [h : From a W] : From a (W.alloc o) := ⟨by have := h.le; simp; omega⟩
instance (a W : World) (g : Growth W) [h : From a W] : From a (grown W g) := ⟨Nat.le_trans h.le g.below.size⟩
instance (a W : World) [h : From a W] : From a W.drew := ⟨h.le⟩
instance (a W : World) (p : Addr) (v : Value) [h : From a W] : From a (W.setCell p v) := ⟨by have := h.le; simpa [World.setCell] using this⟩
instance (a W : World) (k : Nat) (s : ByteArray) (pos : Nat) [h : From a W] : From a (W.iterAt k s pos) := ⟨by rw [Lib.iterAt_size]; exact h.le⟩
instance (a W : World) [h : From a W] : Past a W.heap.size := ⟨h.le⟩
instance (a : World) (b : Nat) [h : Past a b] : Past a (b + 1) := ⟨Nat.le_succ_of_le h.le⟩
theorem past {a : World} {b : Nat} [h : Past a b] : a.heap.size ≤ b := h.le
theorem below_iter' {a w : World} (h : Below a.heap.size a w) {k : Nat} [hk : Past a k] (s : ByteArray) (pos : Nat) : Below a.heap.size a (w.iterAt k s pos) := Lib.below_iterAt h hk.le s pos
theorem below_set' {a w : World} (h : Below a.heap.size a w) {b o : Nat} [hp : Past a b] (u : Value) : Below a.heap.size a (w.setCell ⟨b, o, none⟩ u) := h.setCell (p := ⟨b, o, none⟩) hp.le u
/-- A world that has grown out of another one, found by instances. -/
class GrC (a W : World) : Prop where
  b : Below a.heap.size a W
instance (a : World) : GrC a a := ⟨Below.refl _ _⟩
instance (a W : World) (o : Obj) [h : GrC a W] : GrC a (W.alloc o) := ⟨below_alloc h.b o⟩
instance (a W : World) (b o : Nat) (v : Value) [h : GrC a W] [k : Past a b] : GrC a (W.setCell ⟨b, o, none⟩ v) := ⟨below_set h.b k.le v⟩
instance (a W : World) (g : Growth W) [h : GrC a W] : GrC a (grown W g) := ⟨below_trans h.b (grown_below _ _)⟩
instance (a W : World) [h : GrC a W] : GrC a W.drew := ⟨h.b.drew⟩
instance (a W : World) (k : Nat) (s : ByteArray) (pos : Nat) [h : GrC a W] [hk : Past a k] : GrC a (W.iterAt k s pos) := ⟨below_iter h.b hk.le s pos⟩
theorem gri {a W : World} [h : GrC a W] : Gr a W := Gr.of h.b
end Go.Proofs.YtgjdgafoidppaaaDoor
