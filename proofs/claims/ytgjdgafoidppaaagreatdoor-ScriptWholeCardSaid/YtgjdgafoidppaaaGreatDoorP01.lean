/- Plain words: a text cut at a letter and joined again; decimal numbers, read and told. Conditions: none. A region that draws its order, whose operations read, compute, or call functions that only make new memory: walked once, in the order of the text. Conditions: each call returns one value in whatever grown world. What stands below the call's own blocks, for the laws of layer 26. Conditions: none. A range over a string whose bytes are known: the iterator in whatever block. Conditions: the block holds an iterator. DERIVED: THE SHELF's CONTRACTS AT THIS DUMP, IN PLAIN WORDS (tools/lay-plain.mjs out of 'TryzShelf.lean', which tools/lay-shelf.mjs wrote): THE SAME DECLARATIONS UNDER THE SAME NAMES: 'import', 'namespace', 'open', 'def', 'theorem' AND NOTHING ELSE: no command of the shelf's: FOR A HAND-IN. Each laying: the table of numbers ('.._ren') and one theorem, a field a fact of the dump's own or the kernel's comparison; each contract: ONE APPLICATION. strings.Split at one letter, with what it asks of the world. Conditions: internal/bytealg.MaxLen holds a number; a text of less than 2^32 - 15 bytes. Opening a law's arguments, and reading them again behind the call. Conditions: the types can be read. What the rows of layer 26 give a walk: the tables, a package variable that holds a number, the arguments' cells. Conditions: none. What the writers of a strings.Builder do, at a builder that the call itself has made. Conditions: what is held and written is at most 2^47 bytes. -/
import Derived.Lib.SplitLaws
import Derived.Lib.Join
import Derived.Lib.ItoaMem
import Derived.WalkKit
import Derived.ProofKit
import Derived.Deep.QuietTactic
import Derived.BigQuiet
import Derived.WalkLawsBesides
import Derived.WalkSpells
import Derived.StillTailTactics
import Derived.Test.YtgjdgafoidppaaaGreatDoorRows
import Derived.Lib.LaidTab
import Derived.Shelf.Unicode.DecodeSlow
import Derived.Lib.Hide
import Derived.Lib.OthersKept
import Derived.Laws.RangeString
import Derived.Shelf.Strings.Builder1
import Derived.Shelf.Strings.Builder2
import Derived.Shelf.Strings.OnBuilder
import Derived.Shelf.Small.Utf8
import Derived.Shelf.Small.Strs
import Derived.Shelf.Strings.BuilderF
import Derived.Shelf.Strings.BuilderK
import Derived.Shelf.Utf8.RuneCount
import Derived.Shelf.Strings.Builder2Cap
import Derived.Shelf.Strconv.Itoa0
import Derived.Shelf.Strconv.Itoa1
import Derived.Shelf.LaysM
import Derived.Shelf.Strconv.Itoa2
import Derived.Shelf.Strconv.Itoa3
import Derived.Shelf.Strings.Search1
import Derived.Shelf.Strings.Search2
import Derived.Shelf.Strings.Search3
import Derived.Shelf.Strings.Cut
import Derived.Shelf.Strings.Count
import Derived.Shelf.Strings.Shaped
import Derived.Shelf.Strings.Split
import Derived.Shelf.Strings.SplitShaped
import Derived.Shelf.Unicode.Decode
import Derived.Shelf.Strings.Runes
import Derived.Shelf.Strings.RuneCount
import Derived.Shelf.Strings.Explode
import Derived.Shelf.Unicode.DecodeAny
import Derived.Shelf.Strings.BuilderCap
import Derived.Shelf.Slices.Turned
import Derived.Shelf.Slices.Equal
import Derived.Shelf.Slices.Empties2
import Derived.Test.YtgjdgafoidppaaaGreatDoorProg
import Derived.Lib.Strings
import Derived.Carry
import Derived.Deep.Fields
import Derived.ShutString
import Derived.Test.YtgjdgafoidppaaaGreatDoorCards
import Derived.Test.YtgjdgafoidppaaaGreatDoorTie
import Derived.SevenTiedAt
import Derived.LaidHandle
import Derived.Handed
import Derived.ChangeSame
import Derived.ChangeVars
import Derived.RowKit
import Derived.LaidLaws
import Derived.LaidSub
import Derived.Lay
import Derived.WideShapes
import Derived.Lib.FrozenHead2
import Derived.BigCall
namespace Go.Proofs.YtgjdgafoidppaaaGreatDoor
open Go
set_option linter.unusedVariables false
set_option linter.unusedSimpArgs false
def cutL (c : UInt8) : List UInt8 → List (List UInt8)
 | [] => [[]]
 | x :: l => if x = c then [] :: cutL c l else match cutL c l with | [] => [[x]] | y :: r => (x :: y) :: r
theorem cutL_ne (c : UInt8) (l : List UInt8) : cutL c l ≠ [] := by
 cases l with
 | nil => simp [cutL]
 | cons x l =>
  unfold cutL
  split
  ·simp
  ·split <;> simp
theorem cutL_form (c : UInt8) (l : List UInt8) : ∃ y r, cutL c l = y :: r := by
 have h := cutL_ne c l
 cases e : cutL c l with
 | nil => exact absurd e h
 | cons y r => exact ⟨y, r, rfl⟩
theorem cutL_sep (c : UInt8) (l : List UInt8) : cutL c (c :: l) = [] :: cutL c l := by rw [cutL, if_pos rfl]
theorem cutL_cons {c x : UInt8} {l y : List UInt8} {r : List (List UInt8)} (h : x ≠ c) (e : cutL c l = y :: r) : cutL c (x :: l) = (x :: y) :: r := by
 rw [cutL, if_neg h, e]
theorem cutL_snoc_sep (c : UInt8) (l : List UInt8) : cutL c (l ++ [c]) = cutL c l ++ [[]] := by
 induction l with
 | nil => simp [cutL]
 | cons x l ih =>
  by_cases h : x = c
  ·subst h; rw [List.cons_append, cutL_sep, ih, cutL_sep]; rfl
  ·obtain ⟨y, r, e⟩ := cutL_form c l
   rw [List.cons_append, cutL_cons h (y := y) (r := r ++ [[]]) (by rw [ih, e]; rfl), cutL_cons h e]; rfl
theorem cutL_snoc_ne {c x : UInt8} (h : x ≠ c) : ∀ (l : List UInt8) (d : List (List UInt8)) (y : List UInt8), cutL c l = d ++ [y] → cutL c (l ++ [x]) = d ++ [y ++ [x]] := by
 intro l
 induction l with
 | nil =>
  intro d y e
  cases d with
  | nil => simp [cutL] at e; subst e; simp [cutL, h]
  | cons a d => simp [cutL] at e
 | cons z l ih =>
  intro d y e
  by_cases hz : z = c
  ·subst hz
   rw [cutL_sep] at e
   cases d with
   | nil => simp at e; exact absurd e.2 (cutL_ne _ _)
   | cons a d =>
    simp only [List.cons_append, List.cons.injEq] at e
    rw [List.cons_append, cutL_sep, ih d y e.2, ← e.1]; rfl
  ·obtain ⟨u, r, e2⟩ := cutL_form c l
   rw [cutL_cons hz e2] at e
   cases d with
   | nil =>
    simp only [List.nil_append, List.cons.injEq] at e
    obtain ⟨rfl, rfl⟩ := e
    rw [List.cons_append, cutL_cons hz (ih [] u e2)]; rfl
   | cons a d =>
    simp only [List.cons_append, List.cons.injEq] at e
    obtain ⟨rfl, rfl⟩ := e
    rw [List.cons_append, cutL_cons hz (y := u) (r := d ++ [y ++ [x]]) (ih (u :: d) y e2)]; rfl
theorem cutL_free {c : UInt8} {l : List UInt8} (h : c ∉ l) : cutL c l = [l] := by
 induction l with
 | nil => rfl
 | cons x l ih =>
  simp only [List.mem_cons, not_or] at h
  rw [cutL_cons (Ne.symm h.1) (ih h.2)]
theorem cutL_app {c : UInt8} {a : List UInt8} (h : c ∉ a) (b : List UInt8) : cutL c (a ++ c :: b) = a :: cutL c b := by
 induction a with
 | nil => exact cutL_sep c b
 | cons x l ih =>
  simp only [List.mem_cons, not_or] at h
  rw [List.cons_append, cutL_cons (Ne.symm h.1) (ih h.2)]
theorem join_one (x sep : List UInt8) : Lib.join [x] sep = x := by simp [Lib.join, List.intercalate]
theorem join_two (x y sep : List UInt8) (r : List (List UInt8)) : Lib.join (x :: y :: r) sep = x ++ sep ++ Lib.join (y :: r) sep := by simp [Lib.join, List.intercalate]
theorem cutL_join (c : UInt8) : ∀ (xs : List (List UInt8)), xs ≠ [] → (∀ x ∈ xs, c ∉ x) → cutL c (Lib.join xs [c]) = xs
 | [], h, _ => absurd rfl h
 | [x], _, h => by rw [join_one]; exact cutL_free (h x (by simp))
 | x :: y :: r, _, h => by
  rw [join_two, List.append_assoc, List.singleton_append, cutL_app (h x (by simp)), cutL_join c (y :: r) (by simp) (fun z hz => h z (List.mem_cons_of_mem _ hz))]
theorem cutL_length (c : UInt8) (l : List UInt8) : (cutL c l).length = l.count c + 1 := by
 induction l with
 | nil => rfl
 | cons x l ih =>
  obtain ⟨u, r, e2⟩ := cutL_form c l
  by_cases h : x = c
  ·subst h; rw [cutL_sep, List.length_cons, ih, List.count_cons_self]
  ·rw [cutL_cons h e2, List.count_cons_of_ne h, ← ih, e2]; rfl
theorem cutL_len_le (c : UInt8) (l : List UInt8) : (cutL c l).length ≤ l.length + 1 := by
 rw [cutL_length]; have := List.count_le_length (a := c) (l := l); omega
theorem cutL_each (c : UInt8) : ∀ (l x : List UInt8), x ∈ cutL c l → x.length ≤ l.length := by
 intro l
 induction l with
 | nil => intro x h; simp [cutL] at h; subst h; simp
 | cons z l ih =>
  intro x h
  by_cases hz : z = c
  ·subst hz
   rw [cutL_sep] at h
   rcases List.mem_cons.1 h with rfl | h
   ·simp
   ·exact Nat.le_succ_of_le (ih x h)
  ·obtain ⟨u, r, e2⟩ := cutL_form c l
   rw [cutL_cons hz e2] at h
   rcases List.mem_cons.1 h with rfl | h
   ·have := ih u (by rw [e2]; simp)
    simpa using this
   ·exact Nat.le_succ_of_le (ih x (by rw [e2]; exact List.mem_cons_of_mem _ h))
theorem index_one (c : UInt8) : ∀ (s : List UInt8), (Lib.index s [c] = -1 ∧ c ∉ s) ∨ ∃ i : Nat, Lib.index s [c] = i ∧ c ∉ s.take i ∧ s = s.take i ++ c :: s.drop (i + 1)
 | [] => .inl ⟨by simp [Lib.index], by simp⟩
 | x :: l => by
  by_cases h : x = c
  ·subst h
   exact .inr ⟨0, by simp [Lib.index, List.isPrefixOf], by simp, by simp⟩
  ·have hp : ([c] : List UInt8).isPrefixOf (x :: l) = false := by simp [List.isPrefixOf, Ne.symm h]
   rcases index_one c l with ⟨h1, h2⟩ | ⟨i, h1, h2, h3⟩
   ·exact .inl ⟨by rw [Lib.index, hp, h1]; simp, by simp [Ne.symm h, h2]⟩
   ·refine .inr ⟨i + 1, ?_, ?_, ?_⟩
    ·rw [Lib.index, hp, h1]
     have : ¬ ((i : Int) == -1) = true := by simp <;> omega
     rw [if_neg (by simp), if_neg this]; omega
    ·simp [Ne.symm h, h2]
    ·simp only [List.take_succ_cons, List.drop_succ_cons, List.cons_append]
     rw [← h3]
theorem splitK_one (c : UInt8) : ∀ (k : Nat) (s : List UInt8), s.count c = k → Lib.splitK [c] 0 k s = cutL c s
 | 0, s, h => by
  rw [Lib.splitK, cutL_free (List.count_eq_zero.1 h)]
 | k + 1, s, h => by
  rcases index_one c s with ⟨h1, h2⟩ | ⟨i, h1, h2, h3⟩
  ·rw [List.count_eq_zero.2 h2] at h; cases h
  ·have hm : ¬ (Lib.index s [c] == -1) = true := by rw [h1]; simp <;> omega
   have hc : (s.drop (i + 1)).count c = k := by
    have h4 := congrArg (List.count c) h3
    rw [List.count_append, List.count_cons_self, List.count_eq_zero.2 h2, h] at h4
    omega
   rw [Lib.splitK, if_neg hm, h1, Int.toNat_natCast, Nat.add_zero, List.length_singleton, splitK_one c k _ hc]
   conv => rhs; rw [h3]
   rw [cutL_app h2]
theorem splitB_one (c : UInt8) (s : ByteArray) : (Lib.splitB ⟨#[c]⟩ 0 (Lib.countB s ⟨#[c]⟩) s).map (·.data.toList) = cutL c s.data.toList := by
 rw [Lib.splitB_data]
 exact splitK_one c _ _ (Lib.count_one c s.data.toList).symm
/-! Decimal numbers. -/
def dval (l : List UInt8) : Nat := l.foldl (fun n c => 10 * n + (c.toNat - 48)) 0
def digB (c : UInt8) : Bool := decide (48 ≤ c.toNat) && decide (c.toNat ≤ 57)
def headB : List UInt8 → Bool
 | [] => false
 | x :: r => x != 48 || r.isEmpty
def decOk (l : List UInt8) (most : Nat) : Bool := headB l && l.all digB && decide (dval l ≤ most)
def decV (l : List UInt8) (most : Nat) : Nat := if decOk l most then dval l else 0
theorem dval_snoc (l : List UInt8) (c : UInt8) : dval (l ++ [c]) = 10 * dval l + (c.toNat - 48) := by simp [dval, List.foldl_append]
theorem dval_app (l : List UInt8) : ∀ (r : List UInt8), dval l ≤ dval (l ++ r) := by
 intro r
 induction r generalizing l with
 | nil => simp
 | cons x r ih =>
  have h1 := ih (l ++ [x])
  rw [dval_snoc, List.append_assoc, List.singleton_append] at h1
  omega
theorem digs_small (u : Nat) (h : u < 10) : (UInt8.ofNat (48 + u)).toNat = 48 + u := by
 rw [UInt8.toNat_ofNat']; exact Nat.mod_eq_of_lt (by omega)
theorem decDigits_all (u : Nat) : dval (Lib.decDigits u) = u ∧ (Lib.decDigits u).all digB = true ∧ ∃ x r, Lib.decDigits u = x :: r ∧ (1 ≤ u → x ≠ 48) := by
 induction u using Nat.strongRecOn with
 | ind u ih =>
  by_cases h : u < 10
  ·have e := digs_small u h
   rw [Lib.decDigits_one h]
   refine ⟨by simp only [dval, List.foldl]; rw [e]; omega, by simp only [List.all_cons, List.all_nil, digB, e]; simp; omega, _, _, rfl, ?_⟩
   intro h1 h2
   have := congrArg UInt8.toNat h2
   rw [e] at this
   simp at this
   omega
  ·obtain ⟨h1, h2, x, r, h3, h4⟩ := ih (u / 10) (by omega)
   have e := digs_small (u % 10) (by omega)
   rw [Lib.decDigits, dif_neg h]
   refine ⟨?_, ?_, ?_⟩
   ·rw [dval_snoc, h1, e]; omega
   ·rw [List.all_append, h2]; simp [digB, e]; omega
   ·exact ⟨x, r ++ [_], by rw [h3]; rfl, fun _ => h4 (by omega)⟩
theorem decDigits_head (u : Nat) : headB (Lib.decDigits u) = true := by
 by_cases h : u < 10
 ·rw [Lib.decDigits_one h]; simp [headB]
 ·obtain ⟨_, _, x, r, h3, h4⟩ := decDigits_all u
  have := h4 (by omega)
  rw [h3]; simp [headB, this]
theorem decOk_digits (u most : Nat) (h : u ≤ most) : decOk (Lib.decDigits u) most = true := by
 obtain ⟨h1, h2, _⟩ := decDigits_all u
 simp only [decOk, decDigits_head, h1, h2, Bool.true_and, decide_eq_true_eq]
 exact h
theorem decV_digits (u most : Nat) (h : u ≤ most) : decV (Lib.decDigits u) most = u := by
 rw [decV, if_pos (decOk_digits u most h)]; exact (decDigits_all u).1
theorem decV_le (l : List UInt8) (most : Nat) : decV l most ≤ most := by
 unfold decV
 split
 ·rename_i h; simp [decOk] at h; exact h.2
 ·exact Nat.zero_le _
theorem digits_snoc (u d : Nat) (hu : 1 ≤ u) (hd : d < 10) : Lib.decDigits (10 * u + d) = Lib.decDigits u ++ [UInt8.ofNat (48 + d)] := by
 rw [Lib.decDigits, dif_neg (by omega), show (10 * u + d) / 10 = u by omega, show (10 * u + d) % 10 = d by omega]
theorem digB_form {c : UInt8} (h : digB c = true) : ∃ d, d < 10 ∧ c = UInt8.ofNat (48 + d) ∧ c.toNat = 48 + d := by
 simp [digB] at h
 refine ⟨c.toNat - 48, by omega, ?_, by omega⟩
 rw [show 48 + (c.toNat - 48) = c.toNat by omega]
 simp
theorem dval_pow (x : UInt8) (hx : digB x = true) (h0 : x ≠ 48) : ∀ (n : Nat) (r : List UInt8), r.length = n → r.all digB = true → 10 ^ r.length ≤ dval (x :: r) ∧ Lib.decDigits (dval (x :: r)) = x :: r := by
 intro n
 induction n with
 | zero =>
  intro r hr _
  obtain rfl := List.eq_nil_of_length_eq_zero hr
  obtain ⟨d, hd, e, e2⟩ := digB_form hx
  have hd0 : d ≠ 0 := by rintro rfl; exact h0 (by rw [e]; rfl)
  have e3 : dval [x] = d := by simp [dval, e2]
  rw [e3, Lib.decDigits_one hd, e]
  exact ⟨by simp; omega, rfl⟩
 | succ n ih =>
  intro r hr ha
  have hne : r ≠ [] := by rintro rfl; simp at hr
  obtain ⟨q, z, rfl⟩ : ∃ q z, r = q ++ [z] := ⟨r.dropLast, r.getLast hne, (List.dropLast_concat_getLast hne).symm⟩
  rw [List.all_append] at ha
  simp only [Bool.and_eq_true] at ha
  have hz : digB z = true := by simpa using ha.2
  obtain ⟨h1, h2⟩ := ih q (by simpa using hr) ha.1
  obtain ⟨d, hd, e, e2⟩ := digB_form hz
  have e3 : dval (x :: (q ++ [z])) = 10 * dval (x :: q) + d := by
   rw [← List.cons_append, dval_snoc, e2]; omega
  have h3 : 1 ≤ dval (x :: q) := Nat.le_trans (Nat.one_le_pow _ _ (by omega)) h1
  refine ⟨?_, ?_⟩
  ·rw [e3, List.length_append, List.length_singleton, Nat.pow_succ]; omega
  ·rw [e3, digits_snoc _ _ h3 hd, h2, e]; rfl
theorem long_big {l : List UInt8} (h1 : headB l = true) (h2 : l.all digB = true) (hl : 20 < l.length) : 18446744073709551615 < dval l := by
 cases l with
 | nil => simp at hl
 | cons x r =>
  simp only [List.all_cons, Bool.and_eq_true] at h2
  by_cases h0 : x = 48
  ·subst h0
   cases r with
   | nil => simp at hl
   | cons y r => simp [headB] at h1
  ·have h3 := (dval_pow x h2.1 h0 _ r rfl h2.2).1
   have h4 : 10 ^ 20 ≤ 10 ^ r.length := Nat.pow_le_pow_right (by omega) (by simp at hl; omega)
   have h5 : (10 : Nat) ^ 20 = 100000000000000000000 := by decide
   omega
end Go.Proofs.YtgjdgafoidppaaaGreatDoor
namespace Go.Proofs.YtgjdgafoidppaaaGreatDoor
open Go.RowKit
set_option linter.unusedVariables false
set_option linter.unusedSimpArgs false
set_option linter.unnecessarySimpa false
structure Growth (w : World) where
 toW : World
 below : Below w.heap.size w toW
def grown (w : World) (g : Growth w) : World := g.toW
def Gr (w w' : World) : Prop := ∃ g : Growth w, w' = grown w g
def Growth.zero (w : World) : Growth w := ⟨w, Below.refl _ _⟩
instance (w : World) : Nonempty (Growth w) := ⟨Growth.zero w⟩
theorem grown_below (w : World) (g : Growth w) : Below w.heap.size w (grown w g) := g.below
theorem Gr.of {w w' : World} (h : Below w.heap.size w w') : Gr w w' := ⟨⟨w', h⟩, rfl⟩
theorem Gr.below {w w' : World} (h : Gr w w') : Below w.heap.size w w' := by obtain ⟨g, rfl⟩ := h; exact g.below
theorem Gr.refl (w : World) : Gr w w := Gr.of (Below.refl _ _)
theorem below_trans {a b c : World} (h : Below a.heap.size a b) (k : Below b.heap.size b c) : Below a.heap.size a c := h.trans (k.mono h.size)
theorem below_alloc {a w : World} (h : Below a.heap.size a w) (o : Obj) : Below a.heap.size a (w.alloc o) := h.alloc h.size o
theorem below_set {a w : World} (h : Below a.heap.size a w) {b o : Nat} (hp : a.heap.size ≤ b) (u : Value) : Below a.heap.size a (w.setCell ⟨b, o, none⟩ u) := h.setCell (p := ⟨b, o, none⟩) hp u
theorem Gr.trans {a b c : World} (h : Gr a b) (k : Gr b c) : Gr a c := Gr.of (below_trans h.below k.below)
class Old (b : Nat) (W : World) : Prop where
 lt : b < W.heap.size
class SizeN (W : World) (n : outParam Nat) : Prop where
 eq : W.heap.size = n
instance (priority := low) sizeN_base (W : World) : SizeN W W.heap.size := ⟨rfl⟩
instance sizeN_alloc (W : World) (o : Obj) (n : Nat) [h : SizeN W n] : SizeN (W.alloc o) (n + 1) := ⟨by have := h.eq; simp [this]⟩
instance sizeN_set (W : World) (a : Addr) (v : Value) (n : Nat) [h : SizeN W n] : SizeN (W.setCell a v) n := ⟨by have := h.eq; simpa [World.setCell] using this⟩
instance sizeN_drew (W : World) (n : Nat) [h : SizeN W n] : SizeN W.drew n := ⟨h.eq⟩
instance old_new (W : World) (o : Obj) (n : Nat) [h : SizeN W n] : Old n (W.alloc o) := ⟨by have := h.eq; simp [this]⟩
instance (b : Nat) (W : World) (o : Obj) [h : Old b W] : Old b (W.alloc o) := ⟨by have := h.lt; simp; omega⟩
instance (b : Nat) (W : World) (g : Growth W) [h : Old b W] : Old b (grown W g) := ⟨Nat.lt_of_lt_of_le h.lt g.below.size⟩
instance (b : Nat) (W : World) (a : Addr) (v : Value) [h : Old b W] : Old b (W.setCell a v) := ⟨by have := h.lt; simpa [World.setCell] using this⟩
instance (b : Nat) (W : World) [h : Old b W] : Old b W.drew := ⟨h.lt⟩
theorem old_of_cell {b o : Nat} {W : World} {v : Value} (h : W.cell? ⟨b, o, none⟩ = some v) : Old b W := ⟨by
 rcases Nat.lt_or_ge b W.heap.size with h1 | h1
 ·exact h1
 ·simp [World.cell?, Array.getElem?_eq_none h1] at h⟩
@[go_sem] theorem grown_cells (W : World) (g : Growth W) (b o : Nat) [h : Old b W] : (grown W g).cell? ⟨b, o, none⟩ = W.cell? ⟨b, o, none⟩ := g.below.cell (p := ⟨b, o, none⟩) h.lt
@[go_sem] theorem grown_frozen (W : World) (g : Growth W) (b o : Nat) [h : Old b W] : (grown W g).frozen? ⟨b, o, none⟩ = W.frozen? ⟨b, o, none⟩ := g.below.frozen (p := ⟨b, o, none⟩) h.lt
@[go_sem] theorem alloc_cells (W : World) (ob : Obj) (b o : Nat) [h : Old b W] : (W.alloc ob).cell? ⟨b, o, none⟩ = W.cell? ⟨b, o, none⟩ := ((Below.refl _ W).alloc (Nat.le_refl _) ob).cell (p := ⟨b, o, none⟩) h.lt
@[go_sem] theorem alloc_frozen (W : World) (ob : Obj) (b o : Nat) [h : Old b W] : (W.alloc ob).frozen? ⟨b, o, none⟩ = W.frozen? ⟨b, o, none⟩ := ((Below.refl _ W).alloc (Nat.le_refl _) ob).frozen (p := ⟨b, o, none⟩) h.lt
theorem grown_lt (W : World) (g : Growth W) (b : Nat) [h : Old b W] : b < (grown W g).heap.size := Nat.lt_of_lt_of_le h.lt g.below.size
@[go_sem] theorem grown_ne0 (W : World) (g : Growth W) (b : Nat) [h : Old b W] : (b = (grown W g).heap.size) = False := by have := grown_lt W g b; simp; omega
@[go_sem] theorem grown_en0 (W : World) (g : Growth W) (b : Nat) [h : Old b W] : ((grown W g).heap.size = b) = False := by have := grown_lt W g b; simp; omega
@[go_sem] theorem grown_ne1 (W : World) (g : Growth W) (b : Nat) [h : Old b W] : (b = (grown W g).heap.size + 1) = False := by have := grown_lt W g b; simp; omega
@[go_sem] theorem grown_en1 (W : World) (g : Growth W) (b : Nat) [h : Old b W] : ((grown W g).heap.size + 1 = b) = False := by have := grown_lt W g b; simp; omega
@[go_sem] theorem grown_ne2 (W : World) (g : Growth W) (b : Nat) [h : Old b W] : (b = (grown W g).heap.size + 1 + 1) = False := by have := grown_lt W g b; simp; omega
@[go_sem] theorem grown_en2 (W : World) (g : Growth W) (b : Nat) [h : Old b W] : ((grown W g).heap.size + 1 + 1 = b) = False := by have := grown_lt W g b; simp; omega
@[go_sem] theorem grown_ne3 (W : World) (g : Growth W) (b : Nat) [h : Old b W] : (b = (grown W g).heap.size + 1 + 1 + 1) = False := by have := grown_lt W g b; simp; omega
@[go_sem] theorem grown_en3 (W : World) (g : Growth W) (b : Nat) [h : Old b W] : ((grown W g).heap.size + 1 + 1 + 1 = b) = False := by have := grown_lt W g b; simp; omega
@[go_sem] theorem grown_ne4 (W : World) (g : Growth W) (b : Nat) [h : Old b W] : (b = (grown W g).heap.size + 1 + 1 + 1 + 1) = False := by have := grown_lt W g b; simp; omega
@[go_sem] theorem grown_en4 (W : World) (g : Growth W) (b : Nat) [h : Old b W] : ((grown W g).heap.size + 1 + 1 + 1 + 1 = b) = False := by have := grown_lt W g b; simp; omega
def Growth.comp {w : World} (g : Growth w) (k : Growth (grown w g)) : Growth w := ⟨k.toW, below_trans g.below k.below⟩
def Growth.drew {w : World} (g : Growth w) : Growth w := ⟨g.toW.drew, g.below.drew⟩
section
variable {P : Program}
theorem wp_region_grow {id : Nat} {Q : Exit → Act → World → Prop} {a : Act} {w : World} {l : List Oper} (hm : P.follows .mixedOrders = true) (hB : Region.lexB .any l.toArray = true)
  (h : wpQuiet P l.toArray (fun w' => ∃ g : Growth w, w' = grown w g) (fun a' => ∀ g : Growth w, Q .normal a' (grown w g)) l a) : (Code.region id l.toArray true).wp P Q a w := by
 refine wp_region_quiet (C := fun w' => ∃ g : Growth w, w' = grown w g) hm hB ⟨⟨{ w with drawn := w.drawn + 1 }, (Below.refl _ _).drew⟩, rfl⟩ ?_
 have e : ∀ Q1 Q2 : Act → Prop, (∀ a, Q1 a → Q2 a) → ∀ (l1 : List Oper) (a : Act), wpQuiet P l.toArray (fun w' => ∃ g : Growth w, w' = grown w g) Q1 l1 a → wpQuiet P l.toArray (fun w' => ∃ g : Growth w, w' = grown w g) Q2 l1 a := by
  intro Q1 Q2 hq l1
  induction l1 with
  | nil => exact fun a h => hq a h
  | cons o r ih =>
   intro a h
   unfold wpQuiet at h ⊢
   split at h
   ·rename_i hw; simp only [hw, if_true]; exact Oper.quiet_mono ih h
   ·rename_i hw; simp only [hw]; exact ih _ h
 refine e _ _ ?_ _ _ (by simpa using h)
 rintro a' hq w' ⟨g, rfl⟩
 exact hq _
theorem grow_call {f : FuncId} {args : Array Value} {w : World} {g : Growth w} {v : Value}
  (h : Calls P f args (grown w g) fun e w' => e = .returned v ∧ Gr (grown w g) w') :
  Calls P f args (grown w g) fun e w'' => e = .returned v ∧ ∃ g' : Growth w, w'' = grown w g' :=
 h.mono fun _ _ ⟨he, hb⟩ => ⟨he, Gr.trans ⟨g, rfl⟩ hb⟩
theorem grow_call_same {f : FuncId} {args : Array Value} {w : World} {g : Growth w} {v : Value}
  (h : Calls P f args (grown w g) fun e w' => e = .returned v ∧ grown w g = w') :
  Calls P f args (grown w g) fun e w'' => e = .returned v ∧ ∃ g' : Growth w, w'' = grown w g' :=
 h.mono fun _ _ ⟨he, hb⟩ => ⟨he, g, hb.symm⟩
end

/-! A region that draws its order, in whose first n operations each reads, computes, or calls a function that only makes new memory, and whose other operations come one behind the other. -/
section
variable {P : Program} {ops : Array Oper} {md : Region.Mode} {C : World → Prop}
def headAny (P : Program) (md : Region.Mode) (ops : Array Oper) (C : World → Prop) (n : Nat) (L : Array Bool → Act → Prop) : Nat → Array Bool → Act → Prop
 | 0, listed, a => L listed a
 | f + 1, listed, a => Region.ready md ops listed ≠ [] ∧ ∀ i ∈ Region.ready md ops listed, i < n ∧ qOp P ops C i (headAny P md ops C n L f (listed.setIfInBounds i true)) a
theorem headAny_any {n g : Nat} {L : Array Bool → Act → Prop} {Q' : Exit → Act → World → Prop} (hL : ∀ listed a w, C w → L listed a → wpAny P md ops Q' g listed a w) :
  ∀ (f : Nat) (listed : Array Bool) (a : Act) (w : World), C w → headAny P md ops C n L f listed a → wpAny P md ops Q' (f + g) listed a w
 | 0, listed, a, w, hw, h => by rw [Nat.zero_add]; exact hL _ _ _ hw h
 | f + 1, listed, a, w, hw, h => by
  rw [show f + 1 + g = (f + g) + 1 by omega]
  exact ⟨fun h0 => absurd h0 h.1, fun i hi => wpOp_of_qOp hw (fun a' w' hw' h' => headAny_any hL f _ a' w' hw' h') (h.2 i hi).2⟩
theorem headAny_first {n i : Nat} {oi : Oper} {v : Value} {L : Array Bool → Act → Prop} (hi : ops[i]? = some oi) (hsel : ∀ (j : Nat) (o : Oper) cs b, ops[j]? = some o → o.op ≠ .select cs b)
  (hs : Region.sinkB md ops n = true) (hc : Region.chainB md ops n = true) (hn : n < ops.size) (hin : i < n)
  (hdone : ∀ listed a, L listed a → ∀ j ∈ Region.ready md ops listed, n ≤ j) :
  ∀ (f : Nat) (listed : Array Bool) (a : Act), HeadInv md ops n listed →
   (∀ j oj, ops[j]? = some oj → j ≠ i → listed.getD j true = false → (∀ e ∈ oj.after, Region.binds md e = true → e.on ≠ i) → oi.apart ops oj = true) →
   i ∈ Region.ready md ops listed → YieldsIn P ops C oi v a →
   headAny P md ops C n L f (listed.setIfInBounds i true) (a.put oi.dst v) → headAny P md ops C n L (f + 1) listed a := by
 intro f
 induction f with
 | zero =>
  intro listed a inv _ hr hy H
  refine ⟨(fun h => by rw [h] at hr; cases hr), fun j hj => ?_⟩
  have hjn : j < n := (Nat.lt_or_ge j n).elim id fun h => absurd hj (tail_waits hs hc hn inv _ i rfl hin (mem_ready.1 hr).1 j h)
  by_cases hji : j = i
  ·subst hji; exact ⟨hjn, hy.qOp hi H⟩
  ·have := hdone _ _ H j (ready_mono hj hji)
   omega
 | succ f ih =>
  intro listed a inv hfree hr hy H
  have hun := (mem_ready.1 hr).1
  refine ⟨(fun h => by rw [h] at hr; cases hr), fun j hj => ?_⟩
  have hjn : j < n := (Nat.lt_or_ge j n).elim id fun h => absurd hj (tail_waits hs hc hn inv _ i rfl hin hun j h)
  refine ⟨hjn, ?_⟩
  by_cases hji : j = i
  ·subst hji; exact hy.qOp hi H
  have h1 := (H.2 j (ready_mono hj hji)).2
  obtain ⟨hjun, oj, hoj, hall⟩ := mem_ready.1 hj
  have hnot : ∀ e ∈ oj.after, Region.binds md e = true → e.on ≠ i := fun e he hb heq => by
   have h1 := hall e he hb
   rw [heq, getD_both hun] at h1
   cases h1
  have h2 := qOp_put hoj (hfree j oj hoj hji hjun hnot) (fun cs b => hsel i oi cs b hi) (fun cs b => hsel j oj cs b hoj) hy h1
  have hfree' : ∀ k ok, ops[k]? = some ok → k ≠ i → (listed.setIfInBounds j true).getD k true = false →
    (∀ e ∈ ok.after, Region.binds md e = true → e.on ≠ i) → oi.apart ops ok = true := fun k ok hk hki hu hno => by
   refine hfree k ok hk hki ?_ hno
   by_cases hjk : j = k
   ·subst hjk; exact hjun
   ·rw [getD_set_ne true hjk] at hu; exact hu
  refine qOp_mono (fun a' h3 => ih (listed.setIfInBounds j true) a' (inv.set hj hjn) hfree' (ready_mono hr (Ne.symm hji)) h3.1 ?_) h2
  rw [Array.setIfInBounds_comm _ _ hji]
  exact h3.2
theorem headAny_lex {n g : Nat} {Lq : Act → Prop} (hsel : Region.noSelect ops = true) (hs : Region.sinkB md ops n = true) (hc : Region.chainB md ops n = true) (hn : n < ops.size) :
  ∀ (l : List Oper) (k : Nat) (listed : Array Bool) (a : Act), (∀ j, j < l.length → l[j]? = ops[k + j]?) → k + l.length = n → HeadInv md ops n listed →
  Region.lexHead md ops g l.length k listed = true → wpQuiet P ops C Lq l a →
  headAny P md ops C n (fun listed' a' => Region.seqB md ops g n listed' = true ∧ Lq a') l.length listed a
 | [], k, listed, a, _, hk, _, hB, h => by
  have : k = n := by simpa using hk
  subst this
  exact ⟨by simpa [Region.lexHead] using hB, h⟩
 | o :: l, k, listed, a, hl, hk, inv, hB, h => by
  have h0 : ops[k]? = some o := by simpa using (hl 0 (by simp)).symm
  simp only [List.length_cons, Region.lexHead, Bool.and_eq_true] at hB
  obtain ⟨⟨hr, hf⟩, hB'⟩ := hB
  have hkn : k < n := by simp only [List.length_cons] at hk; omega
  have hr' : k ∈ Region.ready md ops listed := by simpa using hr
  have hst : qOp P ops C k (wpQuiet P ops C Lq l) a := by unfold qOp; simp only [h0]; exact h
  obtain ⟨v, hy, hK⟩ := yieldsIn_of_qOp h0 hst
  exact headAny_first h0 (Region.noSelect_spec hsel) hs hc hn hkn (fun listed' a' hL => seqB_ready hL.1) l.length listed a inv (Region.free_spec h0 hf) hr' hy
   (headAny_lex hsel hs hc hn l (k + 1) _ _ (fun j hj => by have := hl (j + 1) (by simp; omega); simpa [Nat.add_assoc, Nat.add_comm 1 j] using this) (by simp only [List.length_cons] at hk; omega) (inv.set hr' hkn) hB' hK)
theorem wp_region_class_tail {id : Nat} {Q : Exit → Act → World → Prop} {a : Act} {w : World} {l : List Oper} (n : Nat) (hm : P.follows .mixedOrders = true) (hB : Region.lexTailB .any l.toArray n = true)
  (hC : C { w with drawn := w.drawn + 1 })
  (h : wpQuiet P l.toArray C (fun a' => ∀ w', C w' → wpList P l.toArray Q (l.drop n) a' w') (l.take n) a) : (Code.region id l.toArray true).wp P Q a w := by
 simp only [Region.lexTailB, Bool.and_eq_true, decide_eq_true_eq] at hB
 obtain ⟨⟨⟨⟨hsel, hn⟩, hs⟩, hc⟩, hlex⟩ := hB
 have htl : (l.take n).length = n := by simp at hn ⊢; omega
 have hdl : (l.drop n).length = l.toArray.size - n := by simp
 have inv0 : HeadInv .any l.toArray n (Array.replicate l.toArray.size false) :=
  ⟨by simp, (fun j oj _ hl => by rw [getD_replicate_false] at hl; cases hl), fun t _ ht => getD_in (by simpa using ht) (getD_replicate_false _ _)⟩
 have H := headAny_lex (md := .any) (g := l.toArray.size - n) hsel hs hc hn (l.take n) 0 _ a (fun j hj => by
  have hj' : j < n := by rw [htl] at hj; exact hj
  simp [hj']) (by simpa using htl) inv0 (by rw [htl]; exact hlex) h
 refine wp_region_any hm ?_
 have := headAny_any (Q' := Q) (g := l.toArray.size - n) (fun listed a' w' hw' hL => by
  have := wpAny_of_seq (md := .any) (Q' := Q) (l.drop n) n listed a' w' (fun j => by simp [List.getElem?_drop]) (by rw [hdl]; exact hL.1) (hL.2 w' hw')
  rwa [hdl] at this) _ _ _ _ hC H
 rw [htl, show n + (l.toArray.size - n) = l.toArray.size by simp at hn ⊢; omega] at this
 exact this
theorem quiet_impl {Q1 Q2 : Act → Prop} (hq : ∀ a, Q1 a → Q2 a) : ∀ (l : List Oper) (a : Act), wpQuiet P ops C Q1 l a → wpQuiet P ops C Q2 l a
 | [], _, h => hq _ h
 | o :: r, a, h => by
  unfold wpQuiet at h ⊢
  split at h
  ·rename_i hw; simp only [hw, if_true]; exact Oper.quiet_mono (quiet_impl hq r) h
  ·rename_i hw; simp only [hw]; exact quiet_impl hq r _ h
theorem wp_region_grow_tail {id : Nat} {Q : Exit → Act → World → Prop} {a : Act} {w : World} {l : List Oper} (n : Nat) (hm : P.follows .mixedOrders = true) (hB : Region.lexTailB .any l.toArray n = true)
  (h : wpQuiet P l.toArray (fun w' => ∃ g : Growth w, w' = grown w g) (fun a' => ∀ g : Growth w, wpList P l.toArray Q (l.drop n) a' (grown w g)) (l.take n) a) : (Code.region id l.toArray true).wp P Q a w := by
 refine wp_region_class_tail (C := fun w' => ∃ g : Growth w, w' = grown w g) n hm hB ⟨⟨{ w with drawn := w.drawn + 1 }, (Below.refl _ _).drew⟩, rfl⟩ (quiet_impl ?_ _ _ h)
 rintro a' hq w' ⟨g, rfl⟩
 exact hq _
end
class Far (b : Nat) : Prop where
 le : 6 ≤ b
class Tb (W : World) : Prop where
 size : 6 ≤ W.heap.size
 pow : Lib.TabIs Tryz.prog W "internal/strconv.uint64pow10" .u64 Lib.pow10Tab
theorem global_pow : Tryz.prog.globalNamed "internal/strconv.uint64pow10" = some 1 := by kernel_rfl
theorem Tb.keep {W W' : World} (h : Tb W) (hs : W.heap.size ≤ W'.heap.size) (hk : ∀ b, b < 6 → W'.heap[b]? = W.heap[b]?) : Tb W' :=
 ⟨Nat.le_trans h.size hs, by
  have := h.pow
  unfold Lib.TabIs World.var? at this ⊢
  rw [global_pow] at this ⊢
  simpa [hk 1 (by omega)] using this⟩
instance far_size (W : World) [h : Tb W] : Far W.heap.size := ⟨h.size⟩
instance far_succ (b : Nat) [h : Far b] : Far (b + 1) := ⟨Nat.le_succ_of_le h.le⟩
instance (W : World) (o : Obj) [h : Tb W] : Tb (W.alloc o) := h.keep (by simp) (fun b hb => Below.heap_alloc W o b (Nat.lt_of_lt_of_le hb h.size))
instance (W : World) (g : Growth W) [h : Tb W] : Tb (grown W g) := h.keep g.below.size (fun b hb => g.below.block b (Nat.lt_of_lt_of_le hb h.size))
instance (W : World) [h : Tb W] : Tb W.drew := h.keep (Nat.le_refl _) (fun b hb => rfl)
instance (W : World) (b o : Nat) (v : Value) [h : Tb W] [hf : Far b] : Tb (W.setCell ⟨b, o, none⟩ v) :=
 h.keep (by simp [World.setCell]) (fun c hc => Below.heap_setCell W ⟨b, o, none⟩ v c (by have := hf.le; show c ≠ b; omega))
theorem Tb.of_below {W W' : World} [h : Tb W] (hb : Below W.heap.size W W') : Tb W' := h.keep hb.size (fun b hb' => hb.block b (Nat.lt_of_lt_of_le hb' h.size))
class IterAt (W : World) (k : Nat) (s : outParam ByteArray) (pos : outParam Nat) : Prop where
 eq : W.heap[k]? = some (.stringIter s pos)
@[go_sem] theorem iter_alloc (W : World) (s : ByteArray) (pos : Nat) : W.iter s pos = W.alloc (.stringIter s pos) := rfl
instance (W : World) (s : ByteArray) (pos n : Nat) [h : SizeN W n] : IterAt (W.alloc (.stringIter s pos)) n s pos := ⟨by have := h.eq; subst this; simpa [World.iter] using World.iter_heap W s pos⟩
theorem IterAt.lt {W : World} {k : Nat} {s : ByteArray} {pos : Nat} (h : IterAt W k s pos) : k < W.heap.size := (Array.getElem?_eq_some_iff.1 h.eq).1
theorem IterAt.old {W : World} {k : Nat} {s : ByteArray} {pos : Nat} (h : IterAt W k s pos) : Old k W := ⟨h.lt⟩
instance (priority := low) (W : World) (o : Obj) (k : Nat) (s : ByteArray) (pos : Nat) [h : IterAt W k s pos] : IterAt (W.alloc o) k s pos := ⟨(Below.heap_alloc W o k h.lt).trans h.eq⟩
instance (W : World) (g : Growth W) (k : Nat) (s : ByteArray) (pos : Nat) [h : IterAt W k s pos] : IterAt (grown W g) k s pos := ⟨(g.below.block k h.lt).trans h.eq⟩
instance (W : World) (k : Nat) (s : ByteArray) (pos : Nat) [h : IterAt W k s pos] : IterAt W.drew k s pos := ⟨h.eq⟩
instance (W : World) (a : Addr) (v : Value) (k : Nat) (s : ByteArray) (pos : Nat) [h : IterAt W k s pos] : IterAt (W.setCell a v) k s pos := ⟨by
 have := h.eq
 by_cases e : k = a.block
 ·subst e; simp [World.setCell, Array.getElem?_modify, this]
 ·exact (Below.heap_setCell W a v k e).trans this⟩
instance (W : World) (k : Nat) (s s' : ByteArray) (pos pos' : Nat) [h : IterAt W k s pos] : IterAt (W.iterAt k s' pos') k s' pos' := ⟨by
 have := h.lt
 simp [World.iterAt, this]⟩
section
variable {P : Program}
@[go_sem] theorem run_next_at (W : World) (k : Nat) (s : ByteArray) (pos : Nat) (ty : TypeId) [h : IterAt W k s pos] :
  (Instr.next (.pointer (some ⟨k, 0, none⟩)) true ty).run P W = if pos < s.size then .ok (.tuple #[.bool true, .int .i64 pos, .int .i32 (Utf8.decode s pos).1]) (W.iterAt k s (pos + (Utf8.decode s pos).2)) else .ok (.tuple #[.bool false]) W := by
 by_cases hp : pos < s.size
 ·rw [if_pos hp]; exact Lib.run_next_any_at W k s pos ty h.eq hp
 ·rw [if_neg hp]; exact Lib.run_next_end_at W k s pos ty h.eq hp
end
@[go_sem] theorem iterAt_cells (W : World) (k b o : Nat) (s : ByteArray) (pos pos' : Nat) [h : IterAt W k s pos] : (W.iterAt k s pos').cell? ⟨b, o, none⟩ = W.cell? ⟨b, o, none⟩ := by
 by_cases e : b = k
 ·subst e
  have h2 : (W.iterAt b s pos').heap[b]? = some (.stringIter s pos') := Lib.iterAt_heap W b s pos pos' h.eq
  simp [World.cell?, h.eq, h2]
 ·simp [World.cell?, Lib.iterAt_other W k b s pos' e]
@[go_sem] theorem iterAt_frozen (W : World) (k b o : Nat) (s : ByteArray) (pos pos' : Nat) [h : IterAt W k s pos] : (W.iterAt k s pos').frozen? ⟨b, o, none⟩ = W.frozen? ⟨b, o, none⟩ := by
 by_cases e : b = k
 ·subst e
  have h2 : (W.iterAt b s pos').heap[b]? = some (.stringIter s pos') := Lib.iterAt_heap W b s pos pos' h.eq
  simp [World.frozen?, h.eq, h2]
 ·simp [World.frozen?, Lib.iterAt_other W k b s pos' e]
@[go_sem] theorem iterAt_size (W : World) (k : Nat) (s : ByteArray) (pos : Nat) : (W.iterAt k s pos).heap.size = W.heap.size := Lib.iterAt_size W k s pos
instance (W : World) (k : Nat) (s : ByteArray) (pos n : Nat) [h : SizeN W n] : SizeN (W.iterAt k s pos) n := ⟨by rw [Lib.iterAt_size]; exact h.eq⟩
instance (W : World) (k b : Nat) (s : ByteArray) (pos : Nat) [h : Old b W] : Old b (W.iterAt k s pos) := ⟨by rw [Lib.iterAt_size]; exact h.lt⟩
theorem below_iter {a w : World} (h : Below a.heap.size a w) {k : Nat} (hk : a.heap.size ≤ k) (s : ByteArray) (pos : Nat) : Below a.heap.size a (w.iterAt k s pos) := Lib.below_iterAt h hk s pos
instance (W : World) (k : Nat) (s : ByteArray) (pos : Nat) [h : Tb W] [hf : Far k] : Tb (W.iterAt k s pos) :=
 h.keep (by rw [Lib.iterAt_size]; exact Nat.le_refl _) (fun c hc => Lib.iterAt_other W k c s pos (by have := hf.le; omega))
class From (a W : World) : Prop where
 le : a.heap.size ≤ W.heap.size
class Past (a : World) (b : Nat) : Prop where
 le : a.heap.size ≤ b
instance from_refl (a : World) : From a a := ⟨Nat.le_refl _⟩
instance (a W : World) (o : Obj) [h : From a W] : From a (W.alloc o) := ⟨by have := h.le; simp; omega⟩
instance (a W : World) (g : Growth W) [h : From a W] : From a (grown W g) := ⟨Nat.le_trans h.le g.below.size⟩
instance (a W : World) [h : From a W] : From a W.drew := ⟨h.le⟩
instance (a W : World) (p : Addr) (v : Value) [h : From a W] : From a (W.setCell p v) := ⟨by have := h.le; simpa [World.setCell] using this⟩
instance (a W : World) (k : Nat) (s : ByteArray) (pos : Nat) [h : From a W] : From a (W.iterAt k s pos) := ⟨by rw [Lib.iterAt_size]; exact h.le⟩
instance (a W : World) [h : From a W] : Past a W.heap.size := ⟨h.le⟩
instance (a : World) (b : Nat) [h : Past a b] : Past a (b + 1) := ⟨Nat.le_succ_of_le h.le⟩
theorem below_iter' {a w : World} (h : Below a.heap.size a w) {k : Nat} [hk : Past a k] (s : ByteArray) (pos : Nat) : Below a.heap.size a (w.iterAt k s pos) := Lib.below_iterAt h hk.le s pos
theorem below_set' {a w : World} (h : Below a.heap.size a w) {b o : Nat} [hp : Past a b] (u : Value) : Below a.heap.size a (w.setCell ⟨b, o, none⟩ u) := h.setCell (p := ⟨b, o, none⟩) hp.le u
class GrC (a W : World) : Prop where
 b : Below a.heap.size a W
instance (a : World) : GrC a a := ⟨Below.refl _ _⟩
instance (a W : World) (o : Obj) [h : GrC a W] : GrC a (W.alloc o) := ⟨below_alloc h.b o⟩
instance (a W : World) (b o : Nat) (v : Value) [h : GrC a W] [k : Past a b] : GrC a (W.setCell ⟨b, o, none⟩ v) := ⟨below_set h.b k.le v⟩
instance (a W : World) (g : Growth W) [h : GrC a W] : GrC a (grown W g) := ⟨below_trans h.b (grown_below _ _)⟩
instance (a W : World) [h : GrC a W] : GrC a W.drew := ⟨h.b.drew⟩
instance (a W : World) (k : Nat) (s : ByteArray) (pos : Nat) [h : GrC a W] [hk : Past a k] : GrC a (W.iterAt k s pos) := ⟨below_iter h.b hk.le s pos⟩
theorem gri {a W : World} [h : GrC a W] : Gr a W := Gr.of h.b
end Go.Proofs.YtgjdgafoidppaaaGreatDoor
namespace Go.Proofs
open Go.Shelf
def Tryz.lays170_ren : Go.Shelf.Ren := ⟨fun | 170 => 72 | n => n, fun | 70 => 108 | 3 => 3 | 0 => 0 | 72 => 110 | 37 => 24 | 5 => 5 | n => n, fun | n => n⟩
theorem Tryz.lays170 : Go.Proofs.Lays.n170 Tryz.prog Tryz.lays170_ren := {
 mixed := by kernel_rfl
 f170 := Tryz.func72.trans (congrArg some (by kernel_rfl))
 t0 := Tryz.underlying0
 a0 := Tryz.isAgg0
 z0 := Tryz.sizeOf0
 v0 := Tryz.zeroValue0
 t3 := Tryz.underlying3
 a3 := Tryz.isAgg3
 z3 := Tryz.sizeOf3
 v3 := Tryz.zeroValue3
 t37 := Tryz.underlying24
 a37 := Tryz.isAgg24
 z37 := Tryz.sizeOf24
 v37 := Tryz.zeroValue24
 t70 := Tryz.underlying108
 a70 := Tryz.isAgg108
 z70 := Tryz.sizeOf108
 v70 := Tryz.zeroValue108
 t72 := Tryz.underlying110
 a72 := Tryz.isAgg110
 z72 := Tryz.sizeOf110
 v72 := Tryz.zeroValue110 }
def Tryz.lays169_ren : Go.Shelf.Ren := ⟨fun | 169 => 73 | n => n, fun | 70 => 108 | 9 => 9 | 0 => 0 | 72 => 110 | 37 => 24 | 127 => 132 | 3 => 3 | 5 => 5 | n => n, fun | n => n⟩
theorem Tryz.lays169 : Go.Proofs.Lays.n169 Tryz.prog Tryz.lays169_ren := {
 mixed := by kernel_rfl
 f169 := Tryz.func73.trans (congrArg some (by kernel_rfl))
 t0 := Tryz.underlying0
 a0 := Tryz.isAgg0
 z0 := Tryz.sizeOf0
 v0 := Tryz.zeroValue0
 t3 := Tryz.underlying3
 a3 := Tryz.isAgg3
 z3 := Tryz.sizeOf3
 v3 := Tryz.zeroValue3
 t9 := Tryz.underlying9
 a9 := Tryz.isAgg9
 z9 := Tryz.sizeOf9
 v9 := Tryz.zeroValue9
 t37 := Tryz.underlying24
 a37 := Tryz.isAgg24
 z37 := Tryz.sizeOf24
 v37 := Tryz.zeroValue24
 t70 := Tryz.underlying108
 a70 := Tryz.isAgg108
 z70 := Tryz.sizeOf108
 v70 := Tryz.zeroValue108
 t72 := Tryz.underlying110
 a72 := Tryz.isAgg110
 z72 := Tryz.sizeOf110
 v72 := Tryz.zeroValue110
 t127 := Tryz.underlying132
 a127 := Tryz.isAgg132
 z127 := Tryz.sizeOf132
 v127 := Tryz.zeroValue132 }
theorem Tryz.Builder_Extra_169 : Builder.Extra Tryz.prog Tryz.lays169_ren := {
 sizeBuilder := by kernel_rfl
 liesBuilder := by kernel_rfl
 t5 := Tryz.underlying5
 a5 := Tryz.isAgg5
 z5 := Tryz.sizeOf5
 v5 := Tryz.zeroValue5
 infoByte := by kernel_rfl
 cellsByte := by kernel_rfl
 sizeByte := by kernel_rfl
 neB5 := by decide }
def Tryz.lays156_ren : Go.Shelf.Ren := ⟨fun | 156 => 89 | 165 => 107 | 166 => 70 | 169 => 73 | 240 => 98 | 241 => 122 | 276 => 111 | 277 => 137 | n => n, fun | 31 => 69 | 9 => 9 | 3 => 3 | 4 => 4 | 0 => 0 | 20 => 20 | 72 => 110 | 76 => 113 | 70 => 108 | 37 => 24 | 75 => 112 | 127 => 132 | 164 => 141 | 5 => 5 | 80 => 89 | n => n, fun | n => n⟩
theorem Tryz.lays156 : Go.Proofs.Lays.n156 Tryz.prog Tryz.lays156_ren := {
 mixed := by kernel_rfl
 f156 := Tryz.func89.trans (congrArg some (by kernel_rfl))
 f165 := Tryz.func107.trans (congrArg some (by kernel_rfl))
 f166 := Tryz.func70.trans (congrArg some (by kernel_rfl))
 f169 := Tryz.func73.trans (congrArg some (by kernel_rfl))
 f240 := Tryz.func98.trans (congrArg some (by kernel_rfl))
 f241 := Tryz.func122.trans (congrArg some (by kernel_rfl))
 f276 := Tryz.func111.trans (congrArg some (by kernel_rfl))
 f277 := Tryz.func137.trans (congrArg some (by kernel_rfl))
 t0 := Tryz.underlying0
 a0 := Tryz.isAgg0
 z0 := Tryz.sizeOf0
 v0 := Tryz.zeroValue0
 t3 := Tryz.underlying3
 a3 := Tryz.isAgg3
 z3 := Tryz.sizeOf3
 v3 := Tryz.zeroValue3
 t4 := Tryz.underlying4
 a4 := Tryz.isAgg4
 z4 := Tryz.sizeOf4
 v4 := Tryz.zeroValue4
 t9 := Tryz.underlying9
 a9 := Tryz.isAgg9
 z9 := Tryz.sizeOf9
 v9 := Tryz.zeroValue9
 t20 := Tryz.underlying20
 a20 := Tryz.isAgg20
 z20 := Tryz.sizeOf20
 v20 := Tryz.zeroValue20
 t31 := Tryz.underlying69
 a31 := Tryz.isAgg69
 z31 := Tryz.sizeOf69
 v31 := Tryz.zeroValue69
 t37 := Tryz.underlying24
 a37 := Tryz.isAgg24
 z37 := Tryz.sizeOf24
 v37 := Tryz.zeroValue24
 t70 := Tryz.underlying108
 a70 := Tryz.isAgg108
 z70 := Tryz.sizeOf108
 v70 := Tryz.zeroValue108
 t72 := Tryz.underlying110
 a72 := Tryz.isAgg110
 z72 := Tryz.sizeOf110
 v72 := Tryz.zeroValue110
 t75 := Tryz.underlying112
 a75 := Tryz.isAgg112
 z75 := Tryz.sizeOf112
 v75 := Tryz.zeroValue112
 t76 := Tryz.underlying113
 a76 := Tryz.isAgg113
 z76 := Tryz.sizeOf113
 v76 := Tryz.zeroValue113
 t127 := Tryz.underlying132
 a127 := Tryz.isAgg132
 z127 := Tryz.sizeOf132
 v127 := Tryz.zeroValue132
 t164 := Tryz.underlying141
 a164 := Tryz.isAgg141
 z164 := Tryz.sizeOf141
 v164 := Tryz.zeroValue141 }
theorem Tryz.Builder_Extra_156 : Builder.Extra Tryz.prog Tryz.lays156_ren := {
 sizeBuilder := by kernel_rfl
 liesBuilder := by kernel_rfl
 t5 := Tryz.underlying5
 a5 := Tryz.isAgg5
 z5 := Tryz.sizeOf5
 v5 := Tryz.zeroValue5
 infoByte := by kernel_rfl
 cellsByte := by kernel_rfl
 sizeByte := by kernel_rfl
 neB5 := by decide }
open Go.RowKit in
theorem Tryz.strings_Join_none (a : Option Addr) (c : Nat) (sep : ByteArray) (w : World) :
  Calls Tryz.prog 89 #[.slice a 0 c, .string sep] w fun e w' => e = .returned (.string ⟨#[]⟩) ∧ w' = w := Any.strings_Join_none Tryz.lays156 Tryz.Builder_Extra_156 a c sep w
open Go.RowKit in
theorem Tryz.strings_Join (bk o c : Nat) (xs : List ByteArray) (sep : ByteArray) (w : World) (hcells : ∀ (j : Nat) x, xs[j]? = some x → w.cell? ⟨bk, o + j, none⟩ = some (.string x)) (hbk : bk < w.heap.size) (hN : xs.length ≤ 140737488355328) (hcap : xs.length ≤ c) (hlen : (Lib.join (xs.map (·.data.toList)) sep.data.toList).length ≤ 140737488355328) :
  Calls Tryz.prog 89 #[.slice (some ⟨bk, o, none⟩) xs.length c, .string sep] w fun e w' => e = .returned (.string ⟨(Lib.join (xs.map (·.data.toList)) sep.data.toList).toArray⟩) ∧ Below w.heap.size w w' := Any.strings_Join Tryz.lays156 Tryz.Builder_Extra_156 bk o c xs sep w hcells hbk hN hcap hlen
def Tryz.lays119_ren : Go.Shelf.Ren := ⟨fun | 119 => 130 | n => n, fun | 21 => 21 | 4 => 4 | n => n, fun | n => n⟩
theorem Tryz.lays119 : Go.Proofs.Lays.n119 Tryz.prog Tryz.lays119_ren := {
 mixed := by kernel_rfl
 f119 := Tryz.func130.trans (congrArg some (by kernel_rfl))
 t4 := Tryz.underlying4
 a4 := Tryz.isAgg4
 z4 := Tryz.sizeOf4
 v4 := Tryz.zeroValue4
 t21 := Tryz.underlying21
 a21 := Tryz.isAgg21
 z21 := Tryz.sizeOf21
 v21 := Tryz.zeroValue21 }
theorem Tryz.utf8_ValidRune (r : Int) (w : World) :
  Calls Tryz.prog 130 #[.int .i32 r] w fun e w' => e = .returned (.bool (Lib.validRune r)) ∧ w' = w := Any.utf8_ValidRune Tryz.lays119 r w
def Tryz.lays137_ren : Go.Shelf.Ren := ⟨fun | 137 => 129 | 217 => 124 | 266 => 138 | n => n, fun | 9 => 9 | 5 => 5 | 3 => 3 | n => n, fun | n => n⟩
theorem Tryz.lays137 : Go.Proofs.Lays.n137 Tryz.prog Tryz.lays137_ren := {
 mixed := by kernel_rfl
 f137 := Tryz.func129.trans (congrArg some (by kernel_rfl))
 f217 := Tryz.func124.trans (congrArg some (by kernel_rfl))
 f266 := Tryz.func138.trans (congrArg some (by kernel_rfl))
 t3 := Tryz.underlying3
 a3 := Tryz.isAgg3
 z3 := Tryz.sizeOf3
 v3 := Tryz.zeroValue3
 t5 := Tryz.underlying5
 a5 := Tryz.isAgg5
 z5 := Tryz.sizeOf5
 v5 := Tryz.zeroValue5
 t9 := Tryz.underlying9
 a9 := Tryz.isAgg9
 z9 := Tryz.sizeOf9
 v9 := Tryz.zeroValue9 }
open Go.RowKit in
theorem Tryz.strings_IndexByte (s : ByteArray) (c : Int) (w : World) :
  Calls Tryz.prog 129 #[.string s, .int .u8 c] w fun e w' => e = .returned (.int .i64 (Lib.indexByte s.data.toList c.toNat.toUInt8)) ∧ w' = w := Any.strings_IndexByte Tryz.lays137 s c w
open Go.RowKit in
theorem Tryz.Builder_Len_f (B b : Nat) (bs : List Value) (w : World) (h : Lib.IsBuilderF 110 5 B b bs w) :
  Calls Tryz.prog 72 #[.pointer (some ⟨b, 0, none⟩)] w fun e w' => e = .returned (.int .i64 bs.length) ∧ w' = w := Any.Builder_Len_f Tryz.lays170 B b bs w h
open Go.RowKit in
theorem Tryz.Builder_String_any_f (B b : Nat) (l : List UInt8) (w : World) (h : Lib.IsBuilderF 110 5 B b (Lib.byteCells l) w) (hBw : B ≤ w.heap.size) :
  Calls Tryz.prog 73 #[.pointer (some ⟨b, 0, none⟩)] w fun e w' => e = .returned (.string ⟨l.toArray⟩) ∧ (Lib.IsBuilderF 110 5 B b (Lib.byteCells l) w' ∧ Below B w w') := Any.Builder_String_any_f Tryz.lays169 Tryz.Builder_Extra_169 B b l w h hBw
open Go.RowKit in
theorem Tryz.Builder_String_any_k (B b : Nat) (l : List UInt8) (w : World) (h : Lib.IsBuilderF 110 5 B b (Lib.byteCells l) w) (hBw : B ≤ w.heap.size) :
  Calls Tryz.prog 73 #[.pointer (some ⟨b, 0, none⟩)] w fun e w' => e = .returned (.string ⟨l.toArray⟩) ∧ (Lib.IsBuilderF 110 5 B b (Lib.byteCells l) w' ∧ Below B w w' ∧ Lib.OthersKept 5 (some b) w w') := Any.Builder_String_any_k Tryz.lays169 Tryz.Builder_Extra_169 B b l w h hBw
def Tryz.lays283_ren : Go.Shelf.Ren := ⟨fun | 283 => 116 | n => n, fun | 3 => 3 | 9 => 9 | 4 => 4 | n => n, fun | n => n⟩
theorem Tryz.lays283 : Go.Proofs.Lays.n283 Tryz.prog Tryz.lays283_ren := {
 mixed := by kernel_rfl
 f283 := Tryz.func116.trans (congrArg some (by kernel_rfl))
 t3 := Tryz.underlying3
 a3 := Tryz.isAgg3
 z3 := Tryz.sizeOf3
 v3 := Tryz.zeroValue3
 t4 := Tryz.underlying4
 a4 := Tryz.isAgg4
 z4 := Tryz.sizeOf4
 v4 := Tryz.zeroValue4
 t9 := Tryz.underlying9
 a9 := Tryz.isAgg9
 z9 := Tryz.sizeOf9
 v9 := Tryz.zeroValue9 }
open Go.Lib in
theorem Tryz.internal_strconv_small (i : Nat) (h : i < 100) (w : World) :
  Calls Tryz.prog 116 #[.int .i64 i] w fun e w' => e = .returned (.string ⟨(Lib.decDigits i).toArray⟩) ∧ w' = w := Any.internal_strconv_small Tryz.lays283 i h w
def Tryz.laysM284_ren : Go.Shelf.Ren := ⟨fun | 284 => 117 | 129 => 132 | 317 => 131 | 318 => 133 | n => n, fun | 53 => 23 | 3 => 3 | 212 => 158 | 0 => 0 | 4 => 4 | 46 => 155 | 5 => 5 | 9 => 9 | n => n, fun | 17 => 1 | n => n⟩
theorem Tryz.laysM284 : Go.Proofs.LaysM.n284 Tryz.prog Tryz.laysM284_ren := {
 mixed := by kernel_rfl
 f129 := Tryz.func132.trans (congrArg some (by kernel_rfl))
 f284 := Tryz.func117.trans (congrArg some (by kernel_rfl))
 f317 := Tryz.func131.trans (congrArg some (by kernel_rfl))
 f318 := Tryz.func133.trans (congrArg some (by kernel_rfl))
 t0 := Tryz.underlying0
 a0 := Tryz.isAgg0
 z0 := Tryz.sizeOf0
 v0 := Tryz.zeroValue0
 t3 := Tryz.underlying3
 a3 := Tryz.isAgg3
 z3 := Tryz.sizeOf3
 v3 := Tryz.zeroValue3
 t4 := Tryz.underlying4
 a4 := Tryz.isAgg4
 z4 := Tryz.sizeOf4
 v4 := Tryz.zeroValue4
 t5 := Tryz.underlying5
 a5 := Tryz.isAgg5
 z5 := Tryz.sizeOf5
 v5 := Tryz.zeroValue5
 t9 := Tryz.underlying9
 a9 := Tryz.isAgg9
 z9 := Tryz.sizeOf9
 v9 := Tryz.zeroValue9
 t46 := Tryz.underlying155
 a46 := Tryz.isAgg155
 z46 := Tryz.sizeOf155
 v46 := Tryz.zeroValue155
 t53 := Tryz.underlying23
 a53 := Tryz.isAgg23
 z53 := Tryz.sizeOf23
 v53 := Tryz.zeroValue23
 t212 := Tryz.underlying158
 a212 := Tryz.isAgg158
 z212 := Tryz.sizeOf158
 v212 := Tryz.zeroValue158
 g17 := by kernel_rfl
 i0 := by kernel_rfl
 i3 := by kernel_rfl
 i4 := by kernel_rfl
 i5 := by kernel_rfl
 i9 := by kernel_rfl
 i46 := by kernel_rfl
 i53 := by kernel_rfl
 i212 := by kernel_rfl
 m17 := by kernel_rfl }
open Go.Lib in
theorem Tryz.internal_strconv_numDigits (u : Nat) (h1 : 1 ≤ u) (h2 : u < 18446744073709551616) (w : World) (htab : Lib.TabIs Tryz.prog w "internal/strconv.uint64pow10" .u64 Lib.pow10Tab) :
  Calls Tryz.prog 117 #[.int .u64 u] w fun e w' => e = .returned (.int .i64 (Lib.nDigits u)) ∧ w' = w := Any.internal_strconv_numDigits Tryz.laysM284 u h1 h2 w htab
def Tryz.lays285_ren : Go.Shelf.Ren := ⟨fun | 285 => 118 | n => n, fun | 37 => 24 | 53 => 23 | 3 => 3 | 4 => 4 | 51 => 159 | 9 => 9 | 5 => 5 | 0 => 0 | n => n, fun | n => n⟩
theorem Tryz.lays285 : Go.Proofs.Lays.n285 Tryz.prog Tryz.lays285_ren := {
 mixed := by kernel_rfl
 f285 := Tryz.func118.trans (congrArg some (by kernel_rfl))
 t0 := Tryz.underlying0
 a0 := Tryz.isAgg0
 z0 := Tryz.sizeOf0
 v0 := Tryz.zeroValue0
 t3 := Tryz.underlying3
 a3 := Tryz.isAgg3
 z3 := Tryz.sizeOf3
 v3 := Tryz.zeroValue3
 t4 := Tryz.underlying4
 a4 := Tryz.isAgg4
 z4 := Tryz.sizeOf4
 v4 := Tryz.zeroValue4
 t5 := Tryz.underlying5
 a5 := Tryz.isAgg5
 z5 := Tryz.sizeOf5
 v5 := Tryz.zeroValue5
 t9 := Tryz.underlying9
 a9 := Tryz.isAgg9
 z9 := Tryz.sizeOf9
 v9 := Tryz.zeroValue9
 t37 := Tryz.underlying24
 a37 := Tryz.isAgg24
 z37 := Tryz.sizeOf24
 v37 := Tryz.zeroValue24
 t51 := Tryz.underlying159
 a51 := Tryz.isAgg159
 z51 := Tryz.sizeOf159
 v51 := Tryz.zeroValue159
 t53 := Tryz.underlying23
 a53 := Tryz.isAgg23
 z53 := Tryz.sizeOf23
 v53 := Tryz.zeroValue23 }
open Go.RowKit Go.Sort Go.Lib in
theorem Tryz.internal_strconv_formatBase10 (blk off cap : Nat) (u : Nat) (d : Array UInt8) (w : World) (hH : Holds (fun (b : UInt8) => Value.int .u8 (b.toNat : Int)) w blk off d) (hu : u < 10 ^ d.size) (hu64 : u < 18446744073709551616) (hsz : d.size < 4611686018427387904) :
  Calls Tryz.prog 118 #[.slice (some ⟨blk, off, none⟩) d.size cap, .int .u64 u] w fun e w' =>
   e = .returned (.tuple #[]) ∧ ∃ (n v' : Nat) (dk : Array UInt8), w' = (putRow (fun (b : UInt8) => Value.int .u8 (b.toNat : Int)) w blk off dk).drewN n ∧ FmtInv d.size u 0 v' dk := Any.internal_strconv_formatBase10 Tryz.lays285 blk off cap u d w hH hu hu64 hsz
def Tryz.laysM171_ren : Go.Shelf.Ren := ⟨fun | 171 => 87 | 243 => 105 | 246 => 120 | 283 => 116 | 284 => 117 | 285 => 118 | 286 => 119 | 129 => 132 | 317 => 131 | 318 => 133 | 319 => 134 | 320 => 135 | 337 => 140 | 338 => 141 | n => n, fun | 3 => 3 | 9 => 9 | 2 => 2 | 4 => 4 | 171 => 148 | 0 => 0 | 53 => 23 | 37 => 24 | 5 => 5 | 173 => 151 | 212 => 158 | 51 => 159 | 20 => 20 | 213 => 160 | 46 => 155 | 232 => 171 | 233 => 136 | n => n, fun | 17 => 1 | 18 => 4 | 19 => 5 | n => n⟩
theorem Tryz.laysM171 : Go.Proofs.LaysM.n171 Tryz.prog Tryz.laysM171_ren := {
 mixed := by kernel_rfl
 f129 := Tryz.func132.trans (congrArg some (by kernel_rfl))
 f171 := Tryz.func87.trans (congrArg some (by kernel_rfl))
 f243 := Tryz.func105.trans (congrArg some (by kernel_rfl))
 f246 := Tryz.func120.trans (congrArg some (by kernel_rfl))
 f283 := Tryz.func116.trans (congrArg some (by kernel_rfl))
 f284 := Tryz.func117.trans (congrArg some (by kernel_rfl))
 f285 := Tryz.func118.trans (congrArg some (by kernel_rfl))
 f286 := Tryz.func119.trans (congrArg some (by kernel_rfl))
 f317 := Tryz.func131.trans (congrArg some (by kernel_rfl))
 f318 := Tryz.func133.trans (congrArg some (by kernel_rfl))
 f319 := Tryz.func134.trans (congrArg some (by kernel_rfl))
 f320 := Tryz.func135.trans (congrArg some (by kernel_rfl))
 f337 := Tryz.func140.trans (congrArg some (by kernel_rfl))
 f338 := Tryz.func141.trans (congrArg some (by kernel_rfl))
 t0 := Tryz.underlying0
 a0 := Tryz.isAgg0
 z0 := Tryz.sizeOf0
 v0 := Tryz.zeroValue0
 t2 := Tryz.underlying2
 a2 := Tryz.isAgg2
 z2 := Tryz.sizeOf2
 v2 := Tryz.zeroValue2
 t3 := Tryz.underlying3
 a3 := Tryz.isAgg3
 z3 := Tryz.sizeOf3
 v3 := Tryz.zeroValue3
 t4 := Tryz.underlying4
 a4 := Tryz.isAgg4
 z4 := Tryz.sizeOf4
 v4 := Tryz.zeroValue4
 t5 := Tryz.underlying5
 a5 := Tryz.isAgg5
 z5 := Tryz.sizeOf5
 v5 := Tryz.zeroValue5
 t9 := Tryz.underlying9
 a9 := Tryz.isAgg9
 z9 := Tryz.sizeOf9
 v9 := Tryz.zeroValue9
 t20 := Tryz.underlying20
 a20 := Tryz.isAgg20
 z20 := Tryz.sizeOf20
 v20 := Tryz.zeroValue20
 t37 := Tryz.underlying24
 a37 := Tryz.isAgg24
 z37 := Tryz.sizeOf24
 v37 := Tryz.zeroValue24
 t46 := Tryz.underlying155
 a46 := Tryz.isAgg155
 z46 := Tryz.sizeOf155
 v46 := Tryz.zeroValue155
 t51 := Tryz.underlying159
 a51 := Tryz.isAgg159
 z51 := Tryz.sizeOf159
 v51 := Tryz.zeroValue159
 t53 := Tryz.underlying23
 a53 := Tryz.isAgg23
 z53 := Tryz.sizeOf23
 v53 := Tryz.zeroValue23
 t171 := Tryz.underlying148
 a171 := Tryz.isAgg148
 z171 := Tryz.sizeOf148
 v171 := Tryz.zeroValue148
 t173 := Tryz.underlying151
 a173 := Tryz.isAgg151
 z173 := Tryz.sizeOf151
 v173 := Tryz.zeroValue151
 t212 := Tryz.underlying158
 a212 := Tryz.isAgg158
 z212 := Tryz.sizeOf158
 v212 := Tryz.zeroValue158
 t213 := Tryz.underlying160
 a213 := Tryz.isAgg160
 z213 := Tryz.sizeOf160
 t232 := Tryz.underlying171
 a232 := Tryz.isAgg171
 z232 := Tryz.sizeOf171
 v232 := Tryz.zeroValue171
 t233 := Tryz.underlying136
 a233 := Tryz.isAgg136
 z233 := Tryz.sizeOf136
 v233 := Tryz.zeroValue136
 g17 := by kernel_rfl
 g18 := by kernel_rfl
 g19 := by kernel_rfl
 i0 := by kernel_rfl
 i2 := by kernel_rfl
 i3 := by kernel_rfl
 i4 := by kernel_rfl
 i5 := by kernel_rfl
 i9 := by kernel_rfl
 i20 := by kernel_rfl
 i37 := by kernel_rfl
 i46 := by kernel_rfl
 i51 := by kernel_rfl
 i53 := by kernel_rfl
 i171 := by kernel_rfl
 i173 := by kernel_rfl
 i212 := by kernel_rfl
 i232 := by kernel_rfl
 i233 := by kernel_rfl
 m17 := by kernel_rfl
 m18 := by kernel_rfl
 m19 := by kernel_rfl }
open Go.RowKit Go.Sort Go.Lib in
theorem Tryz.strconv_Itoa (n : Int) (h0 : -9223372036854775808 ≤ n) (h1 : n ≤ 9223372036854775807) (w : World) (htab : Lib.TabIs Tryz.prog w "internal/strconv.uint64pow10" .u64 Lib.pow10Tab) :
  Calls Tryz.prog 87 #[.int .i64 n] w fun e w' => e = .returned (.string ⟨(Lib.itoa n).toArray⟩) ∧ ∃ k os, w' = grow (w.drewN k) os := Any.strconv_Itoa Tryz.laysM171 n h0 h1 w htab
def Tryz.lays145_ren : Go.Shelf.Ren := ⟨fun | 145 => 64 | 220 => 96 | 219 => 110 | 217 => 124 | 225 => 125 | 224 => 126 | 267 => 127 | 266 => 138 | 314 => 139 | n => n, fun | 9 => 9 | 4 => 4 | 59 => 100 | 3 => 3 | 5 => 5 | 46 => 155 | 146 => 164 | 51 => 159 | n => n, fun | 1 => 0 | n => n⟩
theorem Tryz.lays145 : Go.Proofs.Lays.n145 Tryz.prog Tryz.lays145_ren := {
 mixed := by kernel_rfl
 f145 := Tryz.func64.trans (congrArg some (by kernel_rfl))
 f217 := Tryz.func124.trans (congrArg some (by kernel_rfl))
 f219 := Tryz.func110.trans (congrArg some (by kernel_rfl))
 f220 := Tryz.func96.trans (congrArg some (by kernel_rfl))
 f224 := Tryz.func126.trans (congrArg some (by kernel_rfl))
 f225 := Tryz.func125.trans (congrArg some (by kernel_rfl))
 f266 := Tryz.func138.trans (congrArg some (by kernel_rfl))
 f267 := Tryz.func127.trans (congrArg some (by kernel_rfl))
 f314 := Tryz.func139.trans (congrArg some (by kernel_rfl))
 t3 := Tryz.underlying3
 a3 := Tryz.isAgg3
 z3 := Tryz.sizeOf3
 v3 := Tryz.zeroValue3
 t4 := Tryz.underlying4
 a4 := Tryz.isAgg4
 z4 := Tryz.sizeOf4
 v4 := Tryz.zeroValue4
 t5 := Tryz.underlying5
 a5 := Tryz.isAgg5
 z5 := Tryz.sizeOf5
 v5 := Tryz.zeroValue5
 t9 := Tryz.underlying9
 a9 := Tryz.isAgg9
 z9 := Tryz.sizeOf9
 v9 := Tryz.zeroValue9
 t46 := Tryz.underlying155
 a46 := Tryz.isAgg155
 z46 := Tryz.sizeOf155
 v46 := Tryz.zeroValue155
 t51 := Tryz.underlying159
 a51 := Tryz.isAgg159
 z51 := Tryz.sizeOf159
 v51 := Tryz.zeroValue159
 t59 := Tryz.underlying100
 a59 := Tryz.isAgg100
 z59 := Tryz.sizeOf100
 v59 := Tryz.zeroValue100
 t146 := Tryz.underlying164
 a146 := Tryz.isAgg164
 z146 := Tryz.sizeOf164
 v146 := Tryz.zeroValue164
 g1 := by kernel_rfl }
open Go.RowKit Go.Lib in
theorem Tryz.strings_Cut (s sep : ByteArray) (m : Int) (w : World) (hs : s.size < 4294967281) (hm : w.cell? ⟨0, 0, none⟩ = some (.int .i64 m)) :
  Calls Tryz.prog 64 #[.string s, .string sep] w fun e w' => e = .returned (.tuple #[.string ⟨(Lib.cut s.data.toList sep.data.toList).1.toArray⟩, .string ⟨(Lib.cut s.data.toList sep.data.toList).2.1.toArray⟩, .bool (Lib.cut s.data.toList sep.data.toList).2.2]) ∧ ∃ n, w' = w.drewN n := Any.strings_Cut Tryz.lays145 s sep m w hs hm
def Tryz.lays146_ren : Go.Shelf.Ren := ⟨fun | 146 => 36 | 221 => 79 | 268 => 100 | 138 => 101 | 143 => 102 | 195 => 112 | 197 => 113 | 218 => 114 | 219 => 110 | 260 => 128 | 217 => 124 | 225 => 125 | 224 => 126 | 267 => 127 | 266 => 138 | 314 => 139 | n => n, fun | 9 => 9 | 31 => 69 | 3 => 3 | 4 => 4 | 0 => 0 | 105 => 144 | 21 => 21 | 5 => 5 | 46 => 155 | 119 => 166 | 139 => 169 | 138 => 168 | 146 => 164 | 51 => 159 | n => n, fun | 1 => 0 | 3 => 2 | 4 => 3 | n => n⟩
theorem Tryz.lays146 : Go.Proofs.Lays.n146 Tryz.prog Tryz.lays146_ren := {
 mixed := by kernel_rfl
 f138 := Tryz.func101.trans (congrArg some (by kernel_rfl))
 f143 := Tryz.func102.trans (congrArg some (by kernel_rfl))
 f146 := Tryz.func36.trans (congrArg some (by kernel_rfl))
 f195 := Tryz.func112.trans (congrArg some (by kernel_rfl))
 f197 := Tryz.func113.trans (congrArg some (by kernel_rfl))
 f217 := Tryz.func124.trans (congrArg some (by kernel_rfl))
 f218 := Tryz.func114.trans (congrArg some (by kernel_rfl))
 f219 := Tryz.func110.trans (congrArg some (by kernel_rfl))
 f221 := Tryz.func79.trans (congrArg some (by kernel_rfl))
 f224 := Tryz.func126.trans (congrArg some (by kernel_rfl))
 f225 := Tryz.func125.trans (congrArg some (by kernel_rfl))
 f260 := Tryz.func128.trans (congrArg some (by kernel_rfl))
 f266 := Tryz.func138.trans (congrArg some (by kernel_rfl))
 f267 := Tryz.func127.trans (congrArg some (by kernel_rfl))
 f268 := Tryz.func100.trans (congrArg some (by kernel_rfl))
 f314 := Tryz.func139.trans (congrArg some (by kernel_rfl))
 t0 := Tryz.underlying0
 a0 := Tryz.isAgg0
 z0 := Tryz.sizeOf0
 v0 := Tryz.zeroValue0
 t3 := Tryz.underlying3
 a3 := Tryz.isAgg3
 z3 := Tryz.sizeOf3
 v3 := Tryz.zeroValue3
 t4 := Tryz.underlying4
 a4 := Tryz.isAgg4
 z4 := Tryz.sizeOf4
 v4 := Tryz.zeroValue4
 t5 := Tryz.underlying5
 a5 := Tryz.isAgg5
 z5 := Tryz.sizeOf5
 v5 := Tryz.zeroValue5
 t9 := Tryz.underlying9
 a9 := Tryz.isAgg9
 z9 := Tryz.sizeOf9
 v9 := Tryz.zeroValue9
 t21 := Tryz.underlying21
 a21 := Tryz.isAgg21
 z21 := Tryz.sizeOf21
 v21 := Tryz.zeroValue21
 t31 := Tryz.underlying69
 a31 := Tryz.isAgg69
 z31 := Tryz.sizeOf69
 v31 := Tryz.zeroValue69
 t46 := Tryz.underlying155
 a46 := Tryz.isAgg155
 z46 := Tryz.sizeOf155
 v46 := Tryz.zeroValue155
 t51 := Tryz.underlying159
 a51 := Tryz.isAgg159
 z51 := Tryz.sizeOf159
 v51 := Tryz.zeroValue159
 t105 := Tryz.underlying144
 a105 := Tryz.isAgg144
 z105 := Tryz.sizeOf144
 v105 := Tryz.zeroValue144
 t119 := Tryz.underlying166
 a119 := Tryz.isAgg166
 z119 := Tryz.sizeOf166
 t138 := Tryz.underlying168
 a138 := Tryz.isAgg168
 z138 := Tryz.sizeOf168
 v138 := Tryz.zeroValue168
 t139 := Tryz.underlying169
 a139 := Tryz.isAgg169
 z139 := Tryz.sizeOf169
 v139 := Tryz.zeroValue169
 t146 := Tryz.underlying164
 a146 := Tryz.isAgg164
 z146 := Tryz.sizeOf164
 v146 := Tryz.zeroValue164
 g1 := by kernel_rfl
 g3 := by kernel_rfl
 g4 := by kernel_rfl }
open Go.RowKit Go.Lib in
theorem Tryz.strings_Split (s sep : ByteArray) (m : Int) (w : World) (hs : s.size < 4294967281) (hm : w.cell? ⟨0, 0, none⟩ = some (.int .i64 m)) (h1 : 1 ≤ sep.size) :
  Calls Tryz.prog 36 #[.string s, .string sep] w fun e w' =>
   e = .returned (.slice (some ⟨w.heap.size, 0, none⟩) (Lib.countB s sep + 1) (Lib.countB s sep + 1)) ∧ w' = w.alloc (.cells ((Lib.splitB sep 0 (Lib.countB s sep) s).map Value.string).toArray 9) := Any.strings_Split Tryz.lays146 (by kernel_rfl) s sep m w hs hm h1
def Tryz.laysM146_ren : Go.Shelf.Ren := ⟨fun | 146 => 36 | 221 => 79 | 268 => 100 | 138 => 101 | 143 => 102 | 195 => 112 | 197 => 113 | 218 => 114 | 219 => 110 | 260 => 128 | 217 => 124 | 225 => 125 | 224 => 126 | 267 => 127 | 266 => 138 | 314 => 139 | n => n, fun | 9 => 9 | 31 => 69 | 3 => 3 | 4 => 4 | 0 => 0 | 105 => 144 | 21 => 21 | 5 => 5 | 46 => 155 | 119 => 166 | 139 => 169 | 138 => 168 | 146 => 164 | 51 => 159 | n => n, fun | 1 => 0 | 3 => 2 | 4 => 3 | n => n⟩
theorem Tryz.laysM146 : Go.Proofs.LaysM.n146 Tryz.prog Tryz.laysM146_ren := {
 mixed := by kernel_rfl
 f138 := Tryz.func101.trans (congrArg some (by kernel_rfl))
 f143 := Tryz.func102.trans (congrArg some (by kernel_rfl))
 f146 := Tryz.func36.trans (congrArg some (by kernel_rfl))
 f195 := Tryz.func112.trans (congrArg some (by kernel_rfl))
 f197 := Tryz.func113.trans (congrArg some (by kernel_rfl))
 f217 := Tryz.func124.trans (congrArg some (by kernel_rfl))
 f218 := Tryz.func114.trans (congrArg some (by kernel_rfl))
 f219 := Tryz.func110.trans (congrArg some (by kernel_rfl))
 f221 := Tryz.func79.trans (congrArg some (by kernel_rfl))
 f224 := Tryz.func126.trans (congrArg some (by kernel_rfl))
 f225 := Tryz.func125.trans (congrArg some (by kernel_rfl))
 f260 := Tryz.func128.trans (congrArg some (by kernel_rfl))
 f266 := Tryz.func138.trans (congrArg some (by kernel_rfl))
 f267 := Tryz.func127.trans (congrArg some (by kernel_rfl))
 f268 := Tryz.func100.trans (congrArg some (by kernel_rfl))
 f314 := Tryz.func139.trans (congrArg some (by kernel_rfl))
 t0 := Tryz.underlying0
 a0 := Tryz.isAgg0
 z0 := Tryz.sizeOf0
 v0 := Tryz.zeroValue0
 t3 := Tryz.underlying3
 a3 := Tryz.isAgg3
 z3 := Tryz.sizeOf3
 v3 := Tryz.zeroValue3
 t4 := Tryz.underlying4
 a4 := Tryz.isAgg4
 z4 := Tryz.sizeOf4
 v4 := Tryz.zeroValue4
 t5 := Tryz.underlying5
 a5 := Tryz.isAgg5
 z5 := Tryz.sizeOf5
 v5 := Tryz.zeroValue5
 t9 := Tryz.underlying9
 a9 := Tryz.isAgg9
 z9 := Tryz.sizeOf9
 v9 := Tryz.zeroValue9
 t21 := Tryz.underlying21
 a21 := Tryz.isAgg21
 z21 := Tryz.sizeOf21
 v21 := Tryz.zeroValue21
 t31 := Tryz.underlying69
 a31 := Tryz.isAgg69
 z31 := Tryz.sizeOf69
 v31 := Tryz.zeroValue69
 t46 := Tryz.underlying155
 a46 := Tryz.isAgg155
 z46 := Tryz.sizeOf155
 v46 := Tryz.zeroValue155
 t51 := Tryz.underlying159
 a51 := Tryz.isAgg159
 z51 := Tryz.sizeOf159
 v51 := Tryz.zeroValue159
 t105 := Tryz.underlying144
 a105 := Tryz.isAgg144
 z105 := Tryz.sizeOf144
 v105 := Tryz.zeroValue144
 t119 := Tryz.underlying166
 a119 := Tryz.isAgg166
 z119 := Tryz.sizeOf166
 t138 := Tryz.underlying168
 a138 := Tryz.isAgg168
 z138 := Tryz.sizeOf168
 v138 := Tryz.zeroValue168
 t139 := Tryz.underlying169
 a139 := Tryz.isAgg169
 z139 := Tryz.sizeOf169
 v139 := Tryz.zeroValue169
 t146 := Tryz.underlying164
 a146 := Tryz.isAgg164
 z146 := Tryz.sizeOf164
 v146 := Tryz.zeroValue164
 g1 := by kernel_rfl
 g3 := by kernel_rfl
 g4 := by kernel_rfl
 i0 := by kernel_rfl
 i3 := by kernel_rfl
 i4 := by kernel_rfl
 i5 := by kernel_rfl
 i9 := by kernel_rfl
 i21 := by kernel_rfl
 i31 := by kernel_rfl
 i46 := by kernel_rfl
 i51 := by kernel_rfl
 i105 := by kernel_rfl
 i138 := by kernel_rfl
 i139 := by kernel_rfl
 i146 := by kernel_rfl
 m1 := by kernel_rfl
 s1_3 := fun w h => Go.Proofs.cell_of_shapedOpen_int (zero := #[.int .i64 0]) (t := 3) h (of_decide_eq_true (by kernel_rfl)) (by kernel_rfl) rfl (by kernel_rfl) (by kernel_rfl) Tryz.underlying3
 m3 := by kernel_rfl
 m4 := by kernel_rfl }
def Tryz.lays152_ren : Go.Shelf.Ren := ⟨fun | 152 => 115 | 137 => 129 | 119 => 130 | 224 => 126 | 225 => 125 | 217 => 124 | 266 => 138 | n => n, fun | 9 => 9 | 21 => 21 | 3 => 3 | 4 => 4 | 5 => 5 | 0 => 0 | 46 => 155 | n => n, fun | n => n⟩
theorem Tryz.lays152 : Go.Proofs.Lays.n152 Tryz.prog Tryz.lays152_ren := {
 mixed := by kernel_rfl
 f119 := Tryz.func130.trans (congrArg some (by kernel_rfl))
 f137 := Tryz.func129.trans (congrArg some (by kernel_rfl))
 f152 := Tryz.func115.trans (congrArg some (by kernel_rfl))
 f217 := Tryz.func124.trans (congrArg some (by kernel_rfl))
 f224 := Tryz.func126.trans (congrArg some (by kernel_rfl))
 f225 := Tryz.func125.trans (congrArg some (by kernel_rfl))
 f266 := Tryz.func138.trans (congrArg some (by kernel_rfl))
 t0 := Tryz.underlying0
 a0 := Tryz.isAgg0
 z0 := Tryz.sizeOf0
 v0 := Tryz.zeroValue0
 t3 := Tryz.underlying3
 a3 := Tryz.isAgg3
 z3 := Tryz.sizeOf3
 v3 := Tryz.zeroValue3
 t4 := Tryz.underlying4
 a4 := Tryz.isAgg4
 z4 := Tryz.sizeOf4
 v4 := Tryz.zeroValue4
 t5 := Tryz.underlying5
 a5 := Tryz.isAgg5
 z5 := Tryz.sizeOf5
 v5 := Tryz.zeroValue5
 t9 := Tryz.underlying9
 a9 := Tryz.isAgg9
 z9 := Tryz.sizeOf9
 v9 := Tryz.zeroValue9
 t21 := Tryz.underlying21
 a21 := Tryz.isAgg21
 z21 := Tryz.sizeOf21
 v21 := Tryz.zeroValue21
 t46 := Tryz.underlying155
 a46 := Tryz.isAgg155
 z46 := Tryz.sizeOf155
 v46 := Tryz.zeroValue155 }
open Go.RowKit Go.Lib in
theorem Tryz.strings_IndexRune_ascii (s : ByteArray) (r : Int) (w : World) (h0 : 0 ≤ r) (h1 : r < 128) :
  Calls Tryz.prog 115 #[.string s, .int .i32 r] w fun e w' => e = .returned (.int .i64 (Lib.indexByte s.data.toList r.toNat.toUInt8)) ∧ w' = w := Any.strings_IndexRune_ascii Tryz.lays152 s r w h0 h1
def Tryz.lays109_ren : Go.Shelf.Ren := ⟨fun | 109 => 50 | n => n, fun | 31 => 69 | 9 => 9 | 3 => 3 | 0 => 0 | 4 => 4 | n => n, fun | n => n⟩
theorem Tryz.lays109 : Go.Proofs.Lays.n109 Tryz.prog Tryz.lays109_ren := {
 mixed := by kernel_rfl
 f109 := Tryz.func50.trans (congrArg some (by kernel_rfl))
 t0 := Tryz.underlying0
 a0 := Tryz.isAgg0
 z0 := Tryz.sizeOf0
 v0 := Tryz.zeroValue0
 t3 := Tryz.underlying3
 a3 := Tryz.isAgg3
 z3 := Tryz.sizeOf3
 v3 := Tryz.zeroValue3
 t4 := Tryz.underlying4
 a4 := Tryz.isAgg4
 z4 := Tryz.sizeOf4
 v4 := Tryz.zeroValue4
 t9 := Tryz.underlying9
 a9 := Tryz.isAgg9
 z9 := Tryz.sizeOf9
 v9 := Tryz.zeroValue9
 t31 := Tryz.underlying69
 a31 := Tryz.isAgg69
 z31 := Tryz.sizeOf69
 v31 := Tryz.zeroValue69 }
open Go.Lib in
theorem Tryz.slices_Index_string (b off n c : Nat) (zs : List ByteArray) (x : ByteArray) (w : World) (hz : n ≤ zs.length) (hbig : n ≤ 9223372036854775807) (hc : ∀ j, j < zs.length → w.cell? ⟨b, off + j, none⟩ = some (.string (zs.getD j ByteArray.empty))) :
  Calls Tryz.prog 50 #[.slice (some ⟨b, off, none⟩) n c, .string x] w fun e w' => e = .returned (.int .i64 (Lib.idxOfS (zs.take n) x)) ∧ w' = w := Any.slices_Index_string Tryz.lays109 b off n c zs x w hz hbig hc
def Tryz.lays111_ren : Go.Shelf.Ren := ⟨fun | 111 => 77 | n => n, fun | 28 => 40 | 3 => 3 | 4 => 4 | 0 => 0 | n => n, fun | n => n⟩
theorem Tryz.lays111 : Go.Proofs.Lays.n111 Tryz.prog Tryz.lays111_ren := {
 mixed := by kernel_rfl
 f111 := Tryz.func77.trans (congrArg some (by kernel_rfl))
 t0 := Tryz.underlying0
 a0 := Tryz.isAgg0
 z0 := Tryz.sizeOf0
 v0 := Tryz.zeroValue0
 t3 := Tryz.underlying3
 a3 := Tryz.isAgg3
 z3 := Tryz.sizeOf3
 v3 := Tryz.zeroValue3
 t4 := Tryz.underlying4
 a4 := Tryz.isAgg4
 z4 := Tryz.sizeOf4
 v4 := Tryz.zeroValue4
 t28 := Tryz.underlying40
 a28 := Tryz.isAgg40
 z28 := Tryz.sizeOf40
 v28 := Tryz.zeroValue40 }
open Go.RowKit Go.Lib in
theorem Tryz.slices_Equal_int (b1 o1 n c b2 o2 m d : Nat) (xs ys : List Int) (w : World) (hx : n ≤ xs.length) (hy : m ≤ ys.length) (hbig : n ≤ 9223372036854775807) (hbig2 : m ≤ 9223372036854775807) (hc1 : ∀ j, j < xs.length → w.cell? ⟨b1, o1 + j, none⟩ = some (.int .i64 (xs.getD j 0))) (hc2 : ∀ j, j < ys.length → w.cell? ⟨b2, o2 + j, none⟩ = some (.int .i64 (ys.getD j 0))) :
  Calls Tryz.prog 77 #[.slice (some ⟨b1, o1, none⟩) n c, .slice (some ⟨b2, o2, none⟩) m d] w fun e w' => e = .returned (.bool (xs.take n == ys.take m)) ∧ ∃ q, w' = w.drewN q := Any.slices_Equal_int Tryz.lays111 b1 o1 n c b2 o2 m d xs ys w hx hy hbig hbig2 hc1 hc2
open Go.RowKit Go.Lib in
theorem Tryz.slices_Equal_int_empty (a1 a2 : Option Addr) (c m d : Nat) (w : World) (hbig2 : m ≤ 9223372036854775807) :
  Calls Tryz.prog 77 #[.slice a1 0 c, .slice a2 m d] w fun e w' => e = .returned (.bool (decide (m = 0))) ∧ w' = w := Any.slices_Equal_int_empty Tryz.lays111 a1 a2 c m d w hbig2
open Go.RowKit Go.Lib in
theorem Tryz.slices_Equal_int_lens (a1 a2 : Option Addr) (n c m d : Nat) (w : World) (hnm : n ≠ m) :
  Calls Tryz.prog 77 #[.slice a1 n c, .slice a2 m d] w fun e w' => e = .returned (.bool false) ∧ w' = w := Any.slices_Equal_int_lens Tryz.lays111 a1 a2 n c m d w hnm
end Go.Proofs
namespace Go.Proofs.YtgjdgafoidppaaaGreatDoor
open Go.RowKit
set_option linter.unusedVariables false
set_option linter.unusedSimpArgs false
set_option linter.unnecessarySimpa false
class Ml (W : World) : Prop where
 ml : ∃ m, W.cell? ⟨0, 0, none⟩ = some (.int .i64 m)
theorem Ml.keep {W W' : World} (h : Ml W) (hk : W'.heap[0]? = W.heap[0]?) : Ml W' := by
 obtain ⟨m, hm⟩ := h.ml
 refine ⟨m, ?_⟩
 simp only [World.cell?] at hm ⊢
 rw [hk]; exact hm
theorem Ml.lt {W : World} (h : Ml W) : 0 < W.heap.size := by
 obtain ⟨m, hm⟩ := h.ml
 exact (old_of_cell hm).lt
instance (W : World) (o : Obj) [h : Ml W] : Ml (W.alloc o) := h.keep (Below.heap_alloc W o _ h.lt)
instance (W : World) (g : Growth W) [h : Ml W] : Ml (grown W g) := h.keep (g.below.block _ h.lt)
instance (W : World) [h : Ml W] : Ml W.drew := h.keep rfl
instance (W : World) (b o : Nat) (v : Value) [h : Ml W] [hf : Far b] : Ml (W.setCell ⟨b, o, none⟩ v) := h.keep (Below.heap_setCell W ⟨b, o, none⟩ v _ (by have := hf.le; show 0 ≠ b; omega))
instance (W : World) (k : Nat) (s : ByteArray) (pos : Nat) [h : Ml W] [hf : Far k] : Ml (W.iterAt k s pos) := h.keep (Lib.iterAt_other W k _ s pos (by have := hf.le; omega))
def wordsB (c : UInt8) (s : ByteArray) : List ByteArray := (cutL c s.data.toList).map fun l => ⟨l.toArray⟩
theorem wordsB_data (c : UInt8) (s : ByteArray) : (wordsB c s).map (·.data.toList) = cutL c s.data.toList := by
 simp [wordsB, Function.comp_def]
theorem wordsB_ne (c : UInt8) (s : ByteArray) : wordsB c s ≠ [] := by
 intro h
 exact cutL_ne c s.data.toList (by simpa [wordsB] using h)
theorem splitB_words (c : UInt8) (s : ByteArray) : Lib.splitB ⟨#[c]⟩ 0 (Lib.countB s ⟨#[c]⟩) s = wordsB c s := by
 have h := splitB_one c s
 have h2 : (Lib.splitB ⟨#[c]⟩ 0 (Lib.countB s ⟨#[c]⟩) s).map (fun x => (⟨x.data.toList.toArray⟩ : ByteArray)) = wordsB c s := by
  rw [wordsB, ← h, List.map_map]; rfl
 rw [← h2]
 simp
theorem wordsB_len (c : UInt8) (s : ByteArray) : (wordsB c s).length = Lib.countB s ⟨#[c]⟩ + 1 := by
 rw [← splitB_words]
 exact Lib.splitB_all ⟨#[c]⟩ (Nat.le_refl 1) 0 _ s rfl
theorem wordsB_le (c : UInt8) (s : ByteArray) : (wordsB c s).length ≤ s.size + 1 := by
 have := cutL_len_le c s.data.toList
 rw [Lib.size_eq]
 simpa [wordsB] using this
theorem wordsB_each (c : UInt8) (s x : ByteArray) (h : x ∈ wordsB c s) : x.size ≤ s.size := by
 simp only [wordsB, List.mem_map] at h
 obtain ⟨l, hl, rfl⟩ := h
 have := cutL_each c s.data.toList l hl
 rw [Lib.size_eq s]
 exact this
theorem split_any (s : ByteArray) (c : UInt8) (W : World) [h : Ml W] (hs : s.size < 4294967281) :
  Calls Tryz.prog 36 #[.string s, .string ⟨#[c]⟩] W fun e w' => e = .returned (.slice (some ⟨W.heap.size, 0, none⟩) (wordsB c s).length (wordsB c s).length) ∧ w' = W.alloc (.cells ((wordsB c s).map Value.string).toArray 9) := by
 obtain ⟨m, hm⟩ := h.ml
 have h1 := Tryz.strings_Split s ⟨#[c]⟩ m W hs hm (Nat.le_refl 1)
 rw [splitB_words] at h1
 rw [wordsB_len]
 exact h1
end Go.Proofs.YtgjdgafoidppaaaGreatDoor
namespace Go.Proofs.YtgjdgafoidppaaaGreatDoor
open Go.ChangeShapes Go.WideShapes Go.ChangeAt Go.RowKit Go.Deep
section
variable {H : Type} {enc : TypeId × Value → H} {P : Program}
def typesRead (P : Program) (ts : List TypeId) : Bool := ts.all fun t => P.readableRec t && decide (t < P.types.size)
theorem trodAll_below (hl : laidOutB P = true) {W W' : World} (hb : Below W.heap.size W W') :
  ∀ {ts : List TypeId} {vs : List Value} {ds : List (DataW H)} {ps : List MemPlace}, typesRead P ts = true →
   DataW.TrodAll enc P W 0 (fun _ => true) true ts vs ds ps → (∀ x ∈ ps, x.block < W.heap.size) → DataW.TrodAll enc P W' 0 (fun b => decide (b < W.heap.size)) true ts vs ds ps
 | [], [], [], _, _, h, _ => h
 | [], [], _ :: _, _, _, h, _ => h.elim
 | [], _ :: _, _, _, _, h, _ => h.elim
 | _ :: _, [], _, _, _, h, _ => h.elim
 | _ :: _, _ :: _, [], _, _, h, _ => h.elim
 | t :: ts, v :: vs, d :: ds, ps, hr, h, hlt => by
  obtain ⟨p, q, h1, h2, rfl⟩ := h
  simp only [typesRead, List.all_cons, Bool.and_eq_true, decide_eq_true_eq] at hr
  exact ⟨p, q, Below.trod hl hr.1.1 hr.1.2 h1 hb (fun x hx => hlt x (by simp [hx])), trodAll_below hl hb (by simpa [typesRead] using hr.2) h2 (fun x hx => hlt x (by simp [hx])), rfl⟩
variable {w : World} {base : Nat} {spare : Nat → Bool} {held : Bool}
end
end Go.Proofs.YtgjdgafoidppaaaGreatDoor
namespace Go.Proofs.YtgjdgafoidppaaaGreatDoor
open Go.RowKit Go.ChangeShapes Go.WideShapes
set_option linter.unusedVariables false
set_option linter.unusedSimpArgs false
set_option linter.unnecessarySimpa false
section
variable {H : Type} {enc : TypeId × Value → H}
theorem returns_shaped {a : Assume} {C : Checked} {os : Os} {f : FuncId} {fn : Func} {s : ChangeSpec} {conds : List PathCond} {apart fresh handsOn again : Bool} {X : World → Array Value → Prop}
  (hX : ∀ (w w' : World) (args : Array Value), w.heap = w'.heap → X w args → X w' args)
  (own : ownKnob C.prog.godebug = none) (started : os.Started) (noInit : C.prog.inits.idxOf? f = none) (hfn : C.prog.funcs[f]? = some fn)
  (witness : ∃ (w : World) (tape : Tape) (i : Input), w.os = os ∧ (w.forCall tape i).Shaped C.prog ∧ i.vars = [] ∧ Input.okWide C.prog (w.forCall tape i) .any w.heap.size f i ∧
    ((s.pre enc C.prog fn conds apart (w.forCall tape i).memory i.args ∧ X (w.forCall tape i).memory i.args) ∧ sizedMet enc C.prog fn (OpenSpec.ofChange s) apart (w.forCall tape i).memory i.args) ∧ a.holds C.prog (lone (Frame.enter C.prog f i.args .normal) [] (w.forCall tape i)))
  (contract : ∀ (W : World) (base : Nat) (args : Array Value) (ds gs : List (DataW H)) (before : List MemPlace),
    (∀ (j : Nat) t v, fn.params[j]? = some t → args[j]? = some v → Value.okWide C.prog W .any base t v) →
    DataW.Whole enc C.prog fn.params.toList s.vars apart W args.toList ds gs before → X W args → W.ShapedOpen C.prog →
    Calls C.prog f args W fun e W' => ∃ v, e = .returned v ∧ s.post enc C.prog fn apart fresh handsOn again W args v W') :
  ReturnsInHanded a C os f .any (fun w args => (s.pre enc C.prog fn conds apart w args ∧ X w args) ∧ sizedMet enc C.prog fn (OpenSpec.ofChange s) apart w args) (s.post enc C.prog fn apart fresh handsOn again) := by
 refine returnsInHanded_of_calls own started noInit witness ?_
 rintro w tape i _ hsh _ ⟨_, _, _, fn', hfn', _, _, _, _, hval⟩ ⟨⟨⟨ds, gs, before, hw, hc⟩, hx⟩, hz⟩ _
 obtain rfl : fn' = fn := Option.some.inj (hfn'.symm.trans hfn)
 refine (contract (w.forCall tape i) w.heap.size i.args ds gs before hval (DataW.Whole.of_heap (w' := w.forCall tape i) (by rfl) hw) (hX _ _ _ (by rfl) hx) hsh).mono fun e W' ⟨v, he, hp⟩ => ?_
 subst he
 exact ChangeSpec.post_blind hp
end
theorem own : ownKnob Tryz.prog.godebug = none := by kernel_rfl
theorem laidOut : laidOutB Tryz.prog = true := by kernel_rfl
theorem pow_type : (Tryz.prog.globals[1]?).map (·.type) = some 158 := by kernel_rfl
theorem pow_under : Tryz.prog.underlying 158 = some (.array 20 23) := by kernel_rfl
set_option maxRecDepth 100000 in
theorem begin_row (g : Nat) (hg : g < Tryz.prog.globals.size) (x : Array Value × TypeId) (hx : (((begin Tryz.prog (fun _ _ => 0) default).world.heap[g]?).bind Obj.row?) = some x) {W : World} (h : W.ShapedOpen Tryz.prog) : g < W.heap.size := by
 obtain ⟨cs, hc, _⟩ := h.1 g x.1 x.2 hg hx
 exact (Array.getElem?_eq_some_iff.1 hc).1
set_option maxRecDepth 100000 in
theorem tb_laid {W : World} (hs : W.ShapedOpen Tryz.prog) (h1 : laidMet Tryz.prog [("internal/strconv.uint64pow10", Lib.tabData .u64 Lib.pow10Tab)] W) : Tb W :=
 ⟨Nat.succ_le_of_lt (begin_row 5 (by decide +kernel) _ rfl hs), Lib.tabIs_of_head global_pow pow_type pow_under (by kernel_rfl) (by kernel_rfl) (by kernel_rfl) h1⟩
set_option maxRecDepth 100000 in
theorem ml_shaped {W : World} (hs : W.ShapedOpen Tryz.prog) : Ml W := ⟨Tryz.laysM146.s1_3 W hs⟩
set_option maxRecDepth 100000 in
theorem open_cells {W : World} {base : Nat} {t : TypeId} {v : Value} {fs : Array Field} (ts : List TypeId) (ht : Tryz.prog.underlying t = some (.struct fs)) (hts : Tryz.prog.cellTypes Tryz.prog.depth t = some ts) (hn : Tryz.prog.cellsOf t = ts.length)
  (h : Value.okWide Tryz.prog W .any base t v) : ∃ cs : List Value, v = .agg cs.toArray ∧ cs.length = ts.length ∧ ∀ (i : Nat) c u, cs[i]? = some c → ts[i]? = some u → Cell.okWide Tryz.prog W .any base u c := by
 simp only [Value.okWide, ht] at h
 obtain ⟨cs, rfl, hsz, ts', hts', _, hc⟩ := h
 obtain rfl : ts' = ts := Option.some.inj (hts'.symm.trans hts)
 refine ⟨cs.toList, by simp, by simpa using hsz.trans hn, fun i c u hi hu => ?_⟩
 have hlt : i < ts'.length := (List.getElem?_eq_some_iff.1 hu).1
 obtain ⟨u', hu', hk⟩ := hc i c (by simpa using hi)
 rw [Nat.mod_eq_of_lt hlt] at hu'
 obtain rfl : u' = u := Option.some.inj (hu'.symm.trans hu)
 exact hk
set_option maxRecDepth 100000 in
theorem cell_int {W : World} {base : Nat} {t : TypeId} {k : IntKind} {c : Value} (ht : Tryz.prog.underlying t = some (.int k)) (h : Cell.okWide Tryz.prog W .any base t c) : ∃ n, c = .int k n ∧ k.has n := by
 simp only [Cell.okWide, ht] at h
 cases c <;> simp_all [Cell.ok]
end Go.Proofs.YtgjdgafoidppaaaGreatDoor
namespace Go.Proofs.YtgjdgafoidppaaaGreatDoor
open Go.RowKit
set_option linter.unusedVariables false
set_option linter.unusedSimpArgs false
set_option linter.unnecessarySimpa false
theorem bldSize : (Tryz.prog.info? 110).map (·.size) = some 2 := by kernel_rfl
theorem bldLies : liesAt Tryz.prog Tryz.prog.depth 110 (2 / Tryz.prog.cellsOf 110) 0 110 1 = true := by kernel_rfl
theorem infoByte : (Tryz.prog.info? 5).map (fun i => (i.zero, i.size, i.bytes)) = some (some (.int .u8 0), 1, 1) := by kernel_rfl
set_option maxHeartbeats 2000000 in
set_option maxRecDepth 100000 in
theorem copyCheck_fresh (b : Nat) (w : World) (h0 : w.cell? ⟨b, 0, none⟩ = some (.pointer none)) (hsh : w.shape? b = some (110, 2)) (hfz : w.frozen? ⟨b, 0, none⟩ = false) :
  Calls Tryz.prog 98 #[.pointer (some ⟨b, 0, none⟩)] w fun e w' => e = .returned (.tuple #[]) ∧ w' = w.setCell ⟨b, 0, none⟩ (.pointer (some ⟨b, 0, none⟩)) := by
 obtain ⟨j, hj, hjs⟩ := Option.map_eq_some_iff.1 bldSize
 go_enter Tryz.func98, Tryz.ntmps98
 go_wp2
 rw [Lib.run_to_unsafe w ⟨b, 0, none⟩ Tryz.underlying108 Tryz.underlying141 hj (by rw [hjs]; decide) hsh (Nat.zero_lt_succ 1)]
 simp only [Result.andThen]
 rw [Oper.upon_value]
 go_wp2
 rw [run_callFunc_extern Tryz.func111 (by kernel_rfl) (by kernel_rfl) (by kernel_rfl) (e := Extern.AbiNoEscape.same) (by kernel_rfl)]
 rw [Lib.run_noEscape]
 simp only [Result.andThen]
 rw [Oper.upon_value]
 go_wp2
 rw [Lib.run_from_unsafe w ⟨b, 0, none⟩ Tryz.underlying141 Tryz.underlying108 hj hsh bldLies]
 simp only [Result.andThen]
 rw [Oper.upon_value]
 go_wp2
 go_end0
 exact ⟨rfl, rfl⟩
set_option maxHeartbeats 2000000 in
set_option maxRecDepth 100000 in
theorem copyCheck_used (b : Nat) (w : World) (h0 : w.cell? ⟨b, 0, none⟩ = some (.pointer (some ⟨b, 0, none⟩))) :
  Calls Tryz.prog 98 #[.pointer (some ⟨b, 0, none⟩)] w fun e w' => e = .returned (.tuple #[]) ∧ w' = w := by
 obtain ⟨j, hj, _⟩ := Option.map_eq_some_iff.1 bldSize
 go_enter Tryz.func98, Tryz.ntmps98
 go_wp2
 rw [Lib.run_neq_ptr_same w _ Tryz.underlying108 hj]
 go_wp2
 go_end0
 exact ⟨rfl, rfl⟩
theorem copyCheck_k (B b : Nat) (bs : List Value) (w : World) (h : Lib.IsBuilderF 110 5 B b bs w) :
  Calls Tryz.prog 98 #[.pointer (some ⟨b, 0, none⟩)] w fun e w' => e = .returned (.tuple #[]) ∧ (Lib.BuilderAtF 110 5 B b (.pointer (some ⟨b, 0, none⟩)) bs w' ∧ Below B w w' ∧ Lib.OthersKept 5 (some b) w w') := by
 rcases h with h | h
 ·refine (copyCheck_fresh b w h.cell0 h.shape h.frozen0).mono ?_
  rintro e w' ⟨rfl, rfl⟩
  exact ⟨rfl, h.used _, (Below.refl B w).setCell (p := ⟨b, 0, none⟩) h.1 _, (Lib.OthersKept.refl _ _ w).setCell ⟨b, 0, none⟩ rfl _⟩
 ·refine (copyCheck_used b w h.cell0).mono ?_
  rintro e w' ⟨rfl, rfl⟩
  exact ⟨rfl, h, Below.refl B _, Lib.OthersKept.refl _ _ _⟩
set_option maxHeartbeats 2000000 in
set_option maxRecDepth 100000 in
theorem writeByte_k (B b : Nat) (bs : List Value) (c : Int) (w : World) (h : Lib.IsBuilderF 110 5 B b bs w) (hlen : bs.length + 1 ≤ 140737488355328) (hBw : B ≤ w.heap.size) :
  Calls Tryz.prog 136 #[.pointer (some ⟨b, 0, none⟩), .int .u8 c] w fun e w' => e = .returned .nilIface ∧ (Lib.BuilderAtF 110 5 B b (.pointer (some ⟨b, 0, none⟩)) (bs ++ [.int .u8 c]) w' ∧ Below B w w' ∧ Lib.OthersKept 5 (some b) w w') := by
 obtain ⟨i0, hi, hz0, hz1, hz2⟩ := info_parts infoByte
 go_enter Tryz.func136, Tryz.ntmps136
 go_wp2_with (go_at_call 98; refine (copyCheck_k B b bs _ h).mono ?_)
 rintro e w1 ⟨rfl, h1, hb1, hk1⟩
 obtain ⟨hB, v, hbk, hown, hne⟩ := h1
 have c0 : w1.cell? ⟨b, 0, none⟩ = some (.pointer (some ⟨b, 0, none⟩)) := by rw [Lib.cell_of_heap hbk]; rfl
 have c1 : w1.cell? ⟨b, 1, none⟩ = some v := by rw [Lib.cell_of_heap hbk]; rfl
 go_wp2_with (at_builtin; refine wpList_append_ownF _ rfl _ _ 24 rfl B 5 i0 (.int .u8 0) 1 1 Tryz.underlying24 hi hz0 hz1 hz2 rfl (by decide) _ _ _ rfl (hown.alloc _) ⟨w1.heap.size, 0, none⟩ 1 1 [.int .u8 c] rfl rfl ?c1 ?c2 ?c3 ?c4 ?c5 ?_)
 case c1 =>
  intro j u hj
  match j, hj with
  | 0, hj => simp at hj; subst hj; simp [Addr.add]
 case c2 => intro u hu; simp at hu; subst hu; rfl
 case c3 => unfold maxLen; omega
 case c4 => omega
 case c5 => have := hb1.size; simp; omega
 intro v' w2 hown' hgrow _
 have hlt : b < w1.heap.size := by
  rcases Nat.lt_or_ge b w1.heap.size with h' | h'
  ·exact h'
  ·simp [Array.getElem?_eq_none h'] at hbk
 have hb2 : w2.heap[b]? = some (.cells #[.pointer (some ⟨b, 0, none⟩), v] 110 (0, 0)) := by
  rw [hgrow.block b (by simp; omega) (fun e => hne e.symm), Lib.alloc_old w1 _ b hlt]
  exact hbk
 have d0 : w2.cell? ⟨b, 0, none⟩ = some (.pointer (some ⟨b, 0, none⟩)) := by rw [Lib.cell_of_heap hb2]; rfl
 have d1 : w2.cell? ⟨b, 1, none⟩ = some v := by rw [Lib.cell_of_heap hb2]; rfl
 have f1 : w2.frozen? ⟨b, 1, none⟩ = false := Lib.frozen_of_heap hb2 1
 obtain ⟨g, cap, rfl⟩ : ∃ g cap, v' = .slice (some ⟨g, 0, none⟩) (bs.length + 1) cap := by
  rcases hown'.2 with ⟨_, h0⟩ | ⟨g, cap, cur, fz, hv, _⟩
  ·omega
  ·exact ⟨g, cap, hv⟩
 go_wp2
 go_ret
 refine ⟨rfl, ?_, ?_, ((hk1.alloc _).grown hgrow (Lib.ownsRowF_kind (hown.alloc _))).setCell ⟨b, 1, none⟩ rfl _⟩
 ·exact Lib.BuilderAtF.put (T := 110) (e := 5) hB hb2 (bs' := bs ++ [.int .u8 c]) (by simpa using hown') (by decide)
 ·exact ((hb1.alloc (by have := hb1.size; omega) _).grown hgrow (by have := hb1.size; simp; omega) (fun k hk => (hown.lt k hk).1)).setCell (p := ⟨b, 1, none⟩) hB _
set_option maxHeartbeats 2000000 in
set_option maxRecDepth 100000 in
theorem writeString_k (B b : Nat) (bs : List Value) (s : ByteArray) (w : World) (h : Lib.IsBuilderF 110 5 B b bs w) (hlen : bs.length + s.size ≤ 140737488355328) (hBw : B ≤ w.heap.size) :
  Calls Tryz.prog 70 #[.pointer (some ⟨b, 0, none⟩), .string s] w fun e w' => e = .returned (.tuple #[.int .i64 s.size, .nilIface]) ∧ (Lib.BuilderAtF 110 5 B b (.pointer (some ⟨b, 0, none⟩)) (bs ++ Lib.strCells s) w' ∧ Below B w w' ∧ Lib.OthersKept 5 (some b) w w') := by
 obtain ⟨i0, hi, hz0, hz1, hz2⟩ := info_parts infoByte
 go_enter Tryz.func70, Tryz.ntmps70
 go_wp2_with (go_at_call 98; refine (copyCheck_k B b bs _ h).mono ?_)
 rintro e w1 ⟨rfl, h1, hb1, hk1⟩
 obtain ⟨hB, v, hbk, hown, hne⟩ := h1
 have c0 : w1.cell? ⟨b, 0, none⟩ = some (.pointer (some ⟨b, 0, none⟩)) := by rw [Lib.cell_of_heap hbk]; rfl
 have c1 : w1.cell? ⟨b, 1, none⟩ = some v := by rw [Lib.cell_of_heap hbk]; rfl
 go_wp2_with (at_builtin; refine Lib.wpList_append_own_stringF _ rfl _ _ 24 9 rfl B 5 i0 Tryz.underlying24 Tryz.underlying9 hi hz0 hz1 hz2 _ _ _ rfl hown s rfl ?c3 ?c4 ?c5 ?_)
 case c3 => unfold maxLen; omega
 case c4 => omega
 case c5 => have := hb1.size; omega
 intro v' w2 hown' hgrow _
 have hlt : b < w1.heap.size := by
  rcases Nat.lt_or_ge b w1.heap.size with h' | h'
  ·exact h'
  ·simp [Array.getElem?_eq_none h'] at hbk
 have hb2 : w2.heap[b]? = some (.cells #[.pointer (some ⟨b, 0, none⟩), v] 110 (0, 0)) := by
  rw [hgrow.block b hlt (fun e => hne e.symm)]
  exact hbk
 have d0 : w2.cell? ⟨b, 0, none⟩ = some (.pointer (some ⟨b, 0, none⟩)) := by rw [Lib.cell_of_heap hb2]; rfl
 have d1 : w2.cell? ⟨b, 1, none⟩ = some v := by rw [Lib.cell_of_heap hb2]; rfl
 have f1 : w2.frozen? ⟨b, 1, none⟩ = false := Lib.frozen_of_heap hb2 1
 obtain ⟨ao, n', cap, rfl⟩ : ∃ ao n' cap, v' = .slice ao n' cap := by
  rcases hown'.2 with ⟨hv, _⟩ | ⟨g, cap, cur, fz, hv, _⟩
  ·exact ⟨_, _, _, hv⟩
  ·exact ⟨_, _, _, hv⟩
 go_wp2
 go_ret2
 refine ⟨rfl, ?_, ?_, (hk1.grown hgrow (Lib.ownsRowF_kind hown)).setCell ⟨b, 1, none⟩ rfl _⟩
 ·exact Lib.BuilderAtF.put (T := 110) (e := 5) hB hb2 (bs' := bs ++ Lib.strCells s) (by simpa [Lib.strCells_length] using hown') (by decide)
 ·exact (hb1.grown hgrow (by have := hb1.size; omega) (fun k hk => (hown.lt k hk).1)).setCell (p := ⟨b, 1, none⟩) hB _
end Go.Proofs.YtgjdgafoidppaaaGreatDoor
