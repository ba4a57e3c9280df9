/- A slice of acts of the call's own, and 'l = append(l, an act)'. Conditions: at most 10^6 acts. A script's text, line by line (no program in sight). Conditions: none. What an act that may be told is (no program in sight). Conditions: none. An act that may be told, told as x, is read back (no program in sight). Conditions: none. A script's text is its lines, read again as it was told (no program in sight). Conditions: none. A text cut at its line ends, line by line, against its lines (no program in sight). Conditions: none. -/
import Derived.Test.YtgjdgafoidppaaaDoorQ12
import Derived.Test.YtgjdgafoidppaaaDoorQ05
import Derived.Shelf.Strings.Cut
import Derived.Test.YtgjdgafoidppaaaDoorQ11
namespace Go.Proofs.YtgjdgafoidppaaaDoor
open Go.RowKit
set_option linter.unusedVariables false
set_option linter.unusedSimpArgs false
set_option linter.unnecessarySimpa false
/-- An act with the places of its rows. -/
structure AM where
  a : ActV
  Ad : Option Addr
  qd : Nat
  Av : Option Addr
  qv : Nat
def AM.cs (x : AM) : List Value := (actB x.a x.Ad x.qd x.Av x.qv).toList
theorem AM.cs_len (x : AM) : x.cs.length = 12 := rfl
/-- Its rows, of the call's own. -/
structure AM.Ok (W : World) (x : AM) : Prop where
  bd : Bd x.a.o.v x.a.o.t x.a.o.s x.a.o.a x.a.o.c
  n0 : -9223372036854775808 ≤ x.a.nd
  n1 : x.a.nd ≤ 9223372036854775807
  m0 : -9223372036854775808 ≤ x.a.m
  m1 : x.a.m ≤ 9223372036854775807
  ld : x.a.o.d.length ≤ x.qd
  bq : x.a.o.d.length ≤ 9223372036854775807
  d : ∃ b, OwnR bv 5 b W (.slice x.Ad x.a.o.d.length x.qd) x.a.o.d
  lv : x.a.pk.length ≤ x.qv
  bv : x.a.pk.length ≤ 9223372036854775807
  pk : Pk x.a.pk
  v : ∃ b, OwnR (Value.int .i64) 3 b W (.slice x.Av x.a.pk.length x.qv) x.a.pk
/-- A slice of the call's own that holds these acts. -/
def OwnA (base : Nat) (W : World) (v : Value) (xs : List AM) : Prop := W.ownsRow base 56 12 v xs.length (xs.flatMap AM.cs)
theorem flatA_at : ∀ (xs : List AM) (j i : Nat) (x : AM) (v : Value), xs[j]? = some x → x.cs[i]? = some v → (xs.flatMap AM.cs)[j * 12 + i]? = some v
  | [], j, i, x, v, hj, _ => by simp at hj
  | y :: xs, 0, i, x, v, hj, hv => by
    simp only [List.getElem?_cons_zero, Option.some.injEq] at hj
    subst hj
    have hi : i < y.cs.length := (List.getElem?_eq_some_iff.1 hv).1
    rw [List.flatMap_cons, Nat.zero_mul, Nat.zero_add, List.getElem?_append_left hi]
    exact hv
  | y :: xs, j + 1, i, x, v, hj, hv => by
    rw [List.getElem?_cons_succ] at hj
    have h := flatA_at xs j i x v hj hv
    rw [List.flatMap_cons, List.getElem?_append_right (by rw [y.cs_len]; omega), y.cs_len]
    rw [← h]
    congr 1
    omega
section
variable {base : Nat} {W W' : World} {v : Value} {xs : List AM}
theorem OwnA.nil (base : Nat) (W : World) : OwnA base W (.slice none 0 0) [] := World.ownsRow_nil _ _ _ _
theorem OwnA.gr (h : OwnA base W v xs) (hg : Gr W W') : OwnA base W' v xs := by
  refine World.ownsRow.kept h (only_of_gr hg none) ?_
  cases hv : v.ownBlock with
  | none => exact .inl rfl
  | some g => exact .inr (by simp)
theorem OwnA.set_ (h : OwnA base W v xs) (B o : Nat) (u : Value) {cs : Array Value} {T : TypeId} [hB : BlockAt W B cs T] (hT : T ≠ 56) : OwnA base (W.setCell ⟨B, o, none⟩ u) v xs := by
  refine ⟨h.1, ?_⟩
  rcases h.2 with h2 | ⟨g, cap, cur, hv, hb, hh, h4⟩
  · exact .inl h2
  · refine .inr ⟨g, cap, cur, hv, hb, ?_, h4⟩
    have hne : g ≠ B := by
      rintro rfl
      have := hB.eq
      rw [hh] at this
      cases this
      exact hT rfl
    exact (Below.heap_setCell W ⟨B, o, none⟩ u g hne).trans hh
/-- The row that it is. -/
theorem OwnA.row (h : OwnA base W v xs) (hx : ∀ x ∈ xs, x.Ok W) : ∃ A c, v = .slice A xs.length c ∧ xs.length ≤ c ∧ RowA W A (xs.map (·.a)) := by
  have h0 := h
  rcases h.2 with ⟨rfl, hn⟩ | ⟨g, cap, cur, rfl, hb, hh, hnc, _⟩
  · have : xs = [] := List.eq_nil_of_length_eq_zero hn
    subst this
    exact ⟨none, 0, rfl, Nat.le_refl _, RowA.nil⟩
  · refine ⟨_, _, rfl, hnc, ⟨fun _ => ⟨g, 0, rfl, (Array.getElem?_eq_some_iff.1 hh).1, fun j a hj => ?_⟩⟩⟩
    rw [List.getElem?_map] at hj
    cases hy : xs[j]? with
    | none => rw [hy] at hj; cases hj
    | some x =>
      rw [hy] at hj
      cases hj
      obtain ⟨bd, n0, n1, m0, m1, ld, bq, ⟨b1, hd⟩, lv, bv, pk, ⟨b2, hv⟩⟩ := hx x (List.mem_of_getElem? hy)
      refine ⟨x.Ad, x.qd, x.Av, x.qv, ⟨fun i u hu => ?_, bd, n0, n1, m0, m1, ld, bq, hd.row, lv, bv, pk, hv.row⟩⟩
      have h1 := World.ownsRow.cells h0 (g := g) rfl (j * 12 + i) u (flatA_at xs j i x u hy (by rw [AM.cs, Array.getElem?_toList]; exact hu))
      rw [Go.WideShapes.add_plain] at h1
      rw [show 0 + j * 12 + i = 0 + (j * 12 + i) by omega]
      exact h1
end
/-- What an append of an act leaves. -/
structure AppA (base : Nat) (W : World) (xs : List AM) (y : AM) (v' : Value) (W' : World) : Prop where
  own : OwnA base W' v' (xs ++ [y])
  below : Below base W W'
  size : W.heap.size ≤ W'.heap.size
  keep : ∀ B cs t, BlockAt W B cs t → t ≠ 56 → BlockAt W' B cs t
theorem infoA : (Tryd.prog.info? 56).map (fun i => (i.zero, i.size, i.bytes)) = some (some (.agg #[.int .i64 0, .int .i64 0, .int .i64 0, .int .i64 0, .int .u64 0, .int .u64 0, .int .i64 0, .int .i64 0, .int .i64 0, .slice none 0 0, .bool false, .slice none 0 0]), 12, 128) := by kernel_rfl
theorem own_keep {α : Type} {enc : α → Value} {E : TypeId} {base : Nat} {W W' : World} {v : Value} {l : List α} (h : OwnR enc E base W v l) (hk : ∀ B cs t, BlockAt W B cs t → t ≠ 56 → BlockAt W' B cs t) (hE : E ≠ 56) : OwnR enc E base W' v l := by
  refine ⟨h.1, ?_⟩
  rcases h.2 with h2 | ⟨g, cap, cur, hv, hb, hh, h4⟩
  · exact .inl h2
  · exact .inr ⟨g, cap, cur, hv, hb, (hk g cur E ⟨hh⟩ hE).eq, h4⟩
theorem AM.Ok.keep {W W' : World} {x : AM} (h : x.Ok W) (hk : ∀ B cs t, BlockAt W B cs t → t ≠ 56 → BlockAt W' B cs t) : x.Ok W' :=
  ⟨h.bd, h.n0, h.n1, h.m0, h.m1, h.ld, h.bq, h.d.imp fun _ z => own_keep z hk (by decide), h.lv, h.bv, h.pk, h.v.imp fun _ z => own_keep z hk (by decide)⟩
theorem AM.Ok.gr {W W' : World} {x : AM} (h : x.Ok W) (g : Gr W W') : x.Ok W' := h.keep fun B cs t hB _ => hB.gr g
theorem wp_append_act {ops : Array Oper} {rest : List Oper} {o : Oper} {a : Act} {Q : Exit → Act → World → Prop} (hgd : o.guard = none) (s x : Operand)
    (ho : o.op = .call { callee := .builtin .append, args := #[s, x], argTypes := #[50, 50] })
    (base : Nat) {W : World} (v : Value) (xs : List AM) (hs : a.eval s = v) (hown : OwnA base W v xs) (y : AM) (ad : Nat) (hx : a.eval x = .slice (some ⟨ad, 0, none⟩) 1 1)
    (hc : BlockAt W ad (actB y.a y.Ad y.qd y.Av y.qv) 56) (hlen : xs.length ≤ 1000000) (hbase : base ≤ W.heap.size)
    (h : ∀ v' W', AppA base W xs y v' W' → wpList Tryd.prog ops Q rest (a.put o.dst v') W') : wpList Tryd.prog ops Q (o :: rest) a W := by
  obtain ⟨i0, hi, hz0, hz2, hz3⟩ := info_parts infoA
  refine wpList_append_own W hgd s x 50 ho base 56 i0 _ 12 128 Tryd.underlying50 hi hz0 hz2 hz3 rfl (by decide) v xs.length (xs.flatMap AM.cs) hs hown ⟨ad, 0, none⟩ 1 1 y.cs hx rfl ?_ ?_ ?_ ?_ hbase ?_
  · intro j u hj
    rw [Go.WideShapes.add_plain, Nat.zero_add, block_cells W ad j _ _]
    rw [AM.cs, Array.getElem?_toList] at hj
    exact hj
  · intro u hu
    simp only [AM.cs, actB, List.mem_cons, List.mem_nil_iff, or_false] at hu
    rcases hu with rfl | rfl | rfl | rfl | rfl | rfl | rfl | rfl | rfl | rfl | rfl | rfl <;> rfl
  · unfold maxLen; omega
  · omega
  · intro v' W' hown' hgrow _
    refine h v' W' ⟨?_, (Below.refl base W).grown hgrow hbase (fun q hq => (World.ownsRow.lt hown q hq).1), hgrow.size, fun B cs t hB ht => hB.grown hgrow (fun e => ?_)⟩
    · unfold OwnA
      rw [List.length_append, List.length_cons, List.length_nil, List.flatMap_append]
      simpa using hown'
    · rcases hown.2 with ⟨rfl, _⟩ | ⟨g, cap, cur, rfl, _, hh, _⟩
      · simp [Value.ownBlock] at e
      · have e2 : B = g := by simpa [Value.ownBlock] using e
        subst e2
        have := hB.eq
        rw [hh] at this
        cases this
        exact ht rfl
end Go.Proofs.YtgjdgafoidppaaaDoor
namespace Go.Proofs.YtgjdgafoidppaaaDoor
open Go.RowKit
set_option linter.unusedVariables false
set_option linter.unusedSimpArgs false
set_option linter.unnecessarySimpa false
theorem cut_free {c : UInt8} : ∀ {l : List UInt8}, c ∉ l → Lib.cut l [c] = (l, [], false) := by
  intro l h
  have h1 : Lib.index l [c] = -1 := by
    rw [Lib.index_one]
    induction l with
    | nil => rfl
    | cons x l ih =>
      simp only [List.mem_cons, not_or] at h
      have := ih h.2
      have h9 : ¬ x = c := fun e => h.1 e.symm
      unfold Lib.indexByte at this ⊢
      simp_all
  rw [Lib.cut, h1]
  simp
theorem cut_app {c : UInt8} : ∀ {a : List UInt8} (b : List UInt8), c ∉ a → Lib.cut (a ++ c :: b) [c] = (a, b, true) := by
  intro a b h
  have h1 : Lib.index (a ++ c :: b) [c] = (a.length : Int) := by
    rw [Lib.index_one]
    induction a with
    | nil => simp [Lib.indexByte]
    | cons x l ih =>
      simp only [List.mem_cons, not_or] at h
      have := ih h.2
      have h9 : ¬ x = c := fun e => h.1 e.symm
      rw [List.cons_append]
      unfold Lib.indexByte
      simp_all
  rw [Lib.cut, h1]
  simp
/-- strings.Cut at a line's end. -/
theorem cut_any (s : ByteArray) (W : World) [h : Ml W] (hs : s.size < 4294967281) :
    Calls Tryd.prog 47 #[.string s, .string ⟨#[10]⟩] W fun e w' => e = .returned (.tuple #[.string ⟨(Lib.cut s.data.toList [10]).1.toArray⟩, .string ⟨(Lib.cut s.data.toList [10]).2.1.toArray⟩, .bool (Lib.cut s.data.toList [10]).2.2]) ∧ Gr W w' := by
  obtain ⟨m, hm⟩ := h.ml
  refine (Tryd.strings_Cut s ⟨#[10]⟩ m W hs hm).mono ?_
  rintro e w' ⟨he, n, rfl⟩
  exact ⟨he, Gr.of ⟨rfl, rfl, rfl, Nat.le_refl _, fun _ _ => rfl⟩⟩
/-- The lines that end; what stands behind the last one. -/
def linesB (t : ByteArray) : List ByteArray := (wordsB 10 t).dropLast
def restB (t : ByteArray) : ByteArray := (wordsB 10 t).getLastD ⟨#[]⟩
/-- A line that is told well. -/
def goodL (i : Nat) (x : ByteArray) : Bool := if i = 0 then goodSt x else decide (i ≤ 5000) && goodA x
/-- The first wrong line's number, or how many there are. -/
def badAt : Nat → List ByteArray → Nat
  | i, [] => i
  | i, x :: r => if goodL i x then badAt (i + 1) r else i
def pGood (t : ByteArray) : Bool := (badAt 0 (linesB t) == (linesB t).length) && (restB t).data.toList.isEmpty && !(linesB t).isEmpty
def pActs (t : ByteArray) : List ActV := if pGood t then (linesB t).tail.map actRes else []
def pAt (t : ByteArray) : Nat := if pGood t then 0 else badAt 0 (linesB t)
def pE (t : ByteArray) : Int := if pGood t then 0 else 4
end Go.Proofs.YtgjdgafoidppaaaDoor
namespace Go.Proofs.YtgjdgafoidppaaaDoor
open Go.RowKit
set_option linter.unusedVariables false
set_option linter.unusedSimpArgs false
set_option linter.unnecessarySimpa false
theorem picks_ok {n : Nat} {px : List Int} (h : picksB n px = true) : n ≤ 100 ∧ ∀ x ∈ px, 0 ≤ x ∧ x ≤ 1000000 := by
  simp only [picksB, badP, mayN, Bool.and_eq_true, decide_eq_true_eq, Bool.not_eq_true', List.any_eq_false, Bool.not_eq_true, Bool.not_eq_false'] at h
  refine ⟨h.1, fun x hx => ?_⟩
  have := h.2 x hx
  simpa using this
theorem same_zero {k v t s a c : Int} {l : List UInt8} (h : sameB k v t s a c 0 0 0 0 0 0 l [] = true) : k = 0 ∧ v = 0 ∧ t = 0 ∧ s = 0 ∧ a = 0 ∧ c = 0 ∧ l = [] := by
  simp only [sameB, Bool.and_eq_true, beq_iff_eq, decide_eq_true_eq] at h
  simp_all
end Go.Proofs.YtgjdgafoidppaaaDoor
namespace Go.Proofs.YtgjdgafoidppaaaDoor
open Go.RowKit
set_option linter.unusedVariables false
set_option linter.unusedSimpArgs false
set_option linter.unnecessarySimpa false
theorem dec_no (c : UInt8) (hc : digB c = false) (n : Nat) : c ∉ Lib.decDigits n := by
  intro hm
  have h2 := (decDigits_all n).2.1
  rw [List.all_eq_true] at h2
  rw [h2 c hm] at hc
  cases hc
theorem pick_no (c : UInt8) (hc : digB c = false) {px : List Int} (h : ∀ n ∈ px, 0 ≤ n ∧ n ≤ 1000000) : ∀ y ∈ (pickT px).map (·.data.toList), c ∉ y := by
  intro y hy
  simp only [pickT, List.map_map, List.mem_map, Function.comp] at hy
  obtain ⟨n, hn, rfl⟩ := hy
  obtain ⟨u, rfl⟩ := Int.eq_ofNat_of_zero_le (h n hn).1
  simpa [Lib.itoa_nonneg] using dec_no c hc u
theorem pick_words {px : List Int} (hne : px ≠ []) (h : ∀ n ∈ px, 0 ≤ n ∧ n ≤ 1000000) : rowL (pickT px) = Lib.join ((pickT px).map (·.data.toList)) [44] ∧ wordsB 44 ⟨(rowL (pickT px)).toArray⟩ = pickT px := by
  have h0 : pickT px ≠ [] := by simpa [pickT] using hne
  have e : rowL (pickT px) = Lib.join ((pickT px).map (·.data.toList)) [44] := by rw [rowL, if_neg h0]
  refine ⟨e, ?_⟩
  have h1 : cutL 44 (rowL (pickT px)) = (pickT px).map (·.data.toList) := by
    rw [e]
    exact cutL_join 44 _ (by simpa using h0) (pick_no 44 (by decide) h)
  have h2 : wordsB 44 ⟨(rowL (pickT px)).toArray⟩ = (cutL 44 (rowL (pickT px))).map fun l => (⟨l.toArray⟩ : ByteArray) := by simp [wordsB]
  rw [h2, h1, List.map_map]
  simp [Function.comp_def]
theorem pick_nodash {px : List Int} (hne : px ≠ []) (h : ∀ n ∈ px, 0 ≤ n ∧ n ≤ 1000000) : isDash ⟨(rowL (pickT px)).toArray⟩ = false := by
  by_cases hd : isDash ⟨(rowL (pickT px)).toArray⟩ = true
  · exfalso
    have h1 : rowL (pickT px) = [45] := by simpa [isDash] using hd
    have h2 := (pick_words hne h).2
    rw [h1] at h2
    have h3 : wordsB 44 ⟨([45] : List UInt8).toArray⟩ = [⟨#[45]⟩] := by decide
    rw [h3] at h2
    have h4 := pick_no 45 (by decide) h [45] (by rw [← h2]; simp)
    simp at h4
  · simpa using hd
theorem pick_back {px : List Int} (h : ∀ n ∈ px, 0 ≤ n ∧ n ≤ 1000000) : pkOf ⟨(rowL (pickT px)).toArray⟩ = px ∧ pkBad ⟨(rowL (pickT px)).toArray⟩ = false ∧ (32 : UInt8) ∉ rowL (pickT px) := by
  by_cases hne : px = []
  · subst hne
    exact ⟨by rfl, by rfl, by decide⟩
  · have h1 := pick_nodash hne h
    have h2 := (pick_words hne h).2
    have h3 : (pickT px).map numN = px := by
      simp only [pickT, List.map_map]
      conv => rhs; rw [← List.map_id px]
      refine List.map_congr_left (fun n hn => ?_)
      obtain ⟨u, rfl⟩ := Int.eq_ofNat_of_zero_le (h n hn).1
      have := (h _ hn).2
      simp only [Function.comp, numN, id, Lib.itoa_nonneg]
      have := decV_digits u 1000000 (by omega)
      show ((decV (Lib.decDigits u) 1000000 : Nat) : Int) = (u : Int)
      rw [this]
    have h4 : (pickT px).any badN = false := by
      rw [List.any_eq_false]
      intro y hy
      simp only [pickT, List.mem_map] at hy
      obtain ⟨n, hn, rfl⟩ := hy
      obtain ⟨u, rfl⟩ := Int.eq_ofNat_of_zero_le (h n hn).1
      have := (h _ hn).2
      simp [badN, Lib.itoa_nonneg, decOk_digits u 1000000 (by omega)]
    refine ⟨?_, ?_, ?_⟩
    · rw [pkOf, h1, h2]; simpa using h3
    · rw [pkBad, h1, h2, h4]; rfl
    · rw [(pick_words hne h).1]
      exact join_no 32 [44] (by decide) _ (pick_no 32 (by decide) h)
structure BackA (a : ActV) (x : ByteArray) : Prop where
  k : aKOf (hdW (wordsB 32 x)) = a.k
  f : isForce (hdW (wordsB 32 x)) = a.f
  v : acV a.k a.f (wordsB 32 x) = a
  bad : acBad a.k (wordsB 32 x) = false
  rest : acRest a.k (wordsB 32 x) = []
theorem actRound_1 (nd : Nat) (hnd : nd ≤ 1) (op : OpV) (hop : op.may = true) (x : ByteArray) (hx : ActV.text ⟨1, (nd : Int), 0, op, false, []⟩ = x.data.toList) : BackA ⟨1, (nd : Int), 0, op, false, []⟩ x := by
  have hp : actPieces 1 (nd : Int) 0 op.k op.v op.t op.s op.a op.c false op.d [] = [⟨#[97, 115, 107]⟩, ⟨(Lib.itoa (nd : Int)).toArray⟩, ⟨op.text.toArray⟩] := rfl
  have hx2 : Lib.join (([⟨#[97, 115, 107]⟩, ⟨(Lib.itoa (nd : Int)).toArray⟩, ⟨op.text.toArray⟩] : List ByteArray).map (·.data.toList)) [32] = x.data.toList := by rw [← hx]; rfl
  have hw : wordsB 32 x = ⟨#[97, 115, 107]⟩ :: ⟨(Lib.itoa (nd : Int)).toArray⟩ :: wordsB 32 ⟨op.text.toArray⟩ := by
    have e9 : x.data.toList = ([97, 115, 107] : List UInt8) ++ 32 :: (Lib.itoa (nd : Int) ++ 32 :: op.text) := by
      rw [← hx2]
      simp [join_two, join_one]
    have h1 : cutL 32 x.data.toList = ([97, 115, 107] : List UInt8) :: Lib.itoa (nd : Int) :: cutL 32 op.text := by
      rw [e9, cutL_app (by decide), cutL_app (itoa_no32 _ (by omega))]
    rw [wordsB, h1]
    simp [wordsB]
  obtain ⟨o1, o2, o3, o4⟩ := opRound op ⟨op.text.toArray⟩ hop (by simp)
  have hwo : ∃ us, wordsB 32 ⟨op.text.toArray⟩ = us := ⟨_, rfl⟩
  obtain ⟨us, hus⟩ := hwo
  rw [hus] at o1 o2 o3 o4 hw
  have nn := num_back nd 1 hnd
  refine ⟨?_, ?_, ?_, ?_, ?_⟩
  · rw [hw]; exact (show aKOf ⟨#[97, 115, 107]⟩ = 1 by decide)
  · rw [hw]; exact (show isForce ⟨#[97, 115, 107]⟩ = false by decide)
  · rw [hw]; show (⟨1, ((decV (Lib.itoa ((nd : Nat) : Int)) 1 : Nat) : Int), 0, opValK (kOf (hdW us)) us, false, []⟩ : ActV) = ⟨1, (nd : Int), 0, op, false, []⟩
    rw [o1, o2, Lib.itoa_nonneg, nn.1]
  · rw [hw]; show opBadK (kOf (hdW us)) us (false || !decOk (Lib.itoa ((nd : Nat) : Int)) 1) = false
    rw [Lib.itoa_nonneg, nn.2, o1]; exact o3
  · rw [hw]; show us.drop (opLenK (kOf (hdW us))) = []
    rw [o1]; exact o4
theorem actRound_2 (m : Nat) (hmm : m ≤ 1000000) (x : ByteArray) (hx : ActV.text ⟨2, 0, (m : Int), zOp, false, []⟩ = x.data.toList) : BackA ⟨2, 0, (m : Int), zOp, false, []⟩ x := by
  have hp : actPieces 2 0 (m : Int) 0 0 0 0 0 0 false [] [] = [⟨#[99, 97, 114, 114, 121]⟩, ⟨(Lib.itoa (m : Int)).toArray⟩] := rfl
  have hx2 : Lib.join (([⟨#[99, 97, 114, 114, 121]⟩, ⟨(Lib.itoa (m : Int)).toArray⟩] : List ByteArray).map (·.data.toList)) [32] = x.data.toList := by rw [← hx]; exact congrArg (fun z : List ByteArray => Lib.join (z.map (·.data.toList)) [32]) hp.symm
  have hw : wordsB 32 x = [⟨#[99, 97, 114, 114, 121]⟩, ⟨(Lib.itoa (m : Int)).toArray⟩] := by
    have h1 : cutL 32 x.data.toList = ([⟨#[99, 97, 114, 114, 121]⟩, ⟨(Lib.itoa (m : Int)).toArray⟩] : List ByteArray).map (·.data.toList) := by
      rw [← hx2]
      refine cutL_join 32 _ (by simp) (fun y hy => ?_)
      simp only [List.map_cons, List.map_nil, List.mem_cons, List.mem_nil_iff, or_false] at hy
      rcases hy with rfl | rfl
      · decide
      · exact itoa_no32 _ (by omega)
    rw [wordsB, h1, List.map_map]
    simp [Function.comp_def]
  have nm := num_back m 1000000 hmm
  refine ⟨?_, ?_, ?_, ?_, ?_⟩
  · rw [hw]; exact (show aKOf ⟨#[99, 97, 114, 114, 121]⟩ = 2 by decide)
  · rw [hw]; exact (show isForce ⟨#[99, 97, 114, 114, 121]⟩ = false by decide)
  · rw [hw]; show (⟨2, 0, ((decV (Lib.itoa ((m : Nat) : Int)) 1000000 : Nat) : Int), zOp, false, []⟩ : ActV) = ⟨2, 0, (m : Int), zOp, false, []⟩
    simp only [Lib.itoa_nonneg, nm.1, nm.2, Bool.or_false, Bool.false_or]
  · rw [hw]; show (false || !decOk (Lib.itoa ((m : Nat) : Int)) 1000000) = false
    simp only [Lib.itoa_nonneg, nm.1, nm.2, Bool.or_false, Bool.false_or]
  · rw [hw]; rfl
theorem actRound_3 (nd : Nat) (hnd : nd ≤ 1) (x : ByteArray) (hx : ActV.text ⟨3, (nd : Int), 0, zOp, false, []⟩ = x.data.toList) : BackA ⟨3, (nd : Int), 0, zOp, false, []⟩ x := by
  have hp : actPieces 3 (nd : Int) 0 0 0 0 0 0 0 false [] [] = [⟨#[116, 105, 99, 107]⟩, ⟨(Lib.itoa (nd : Int)).toArray⟩] := rfl
  have hx2 : Lib.join (([⟨#[116, 105, 99, 107]⟩, ⟨(Lib.itoa (nd : Int)).toArray⟩] : List ByteArray).map (·.data.toList)) [32] = x.data.toList := by rw [← hx]; exact congrArg (fun z : List ByteArray => Lib.join (z.map (·.data.toList)) [32]) hp.symm
  have hw : wordsB 32 x = [⟨#[116, 105, 99, 107]⟩, ⟨(Lib.itoa (nd : Int)).toArray⟩] := by
    have h1 : cutL 32 x.data.toList = ([⟨#[116, 105, 99, 107]⟩, ⟨(Lib.itoa (nd : Int)).toArray⟩] : List ByteArray).map (·.data.toList) := by
      rw [← hx2]
      refine cutL_join 32 _ (by simp) (fun y hy => ?_)
      simp only [List.map_cons, List.map_nil, List.mem_cons, List.mem_nil_iff, or_false] at hy
      rcases hy with rfl | rfl
      · decide
      · exact itoa_no32 _ (by omega)
    rw [wordsB, h1, List.map_map]
    simp [Function.comp_def]
  have nn := num_back nd 1 hnd
  refine ⟨?_, ?_, ?_, ?_, ?_⟩
  · rw [hw]; exact (show aKOf ⟨#[116, 105, 99, 107]⟩ = 3 by decide)
  · rw [hw]; exact (show isForce ⟨#[116, 105, 99, 107]⟩ = false by decide)
  · rw [hw]; show (⟨3, ((decV (Lib.itoa ((nd : Nat) : Int)) 1 : Nat) : Int), 0, zOp, false, []⟩ : ActV) = ⟨3, (nd : Int), 0, zOp, false, []⟩
    simp only [Lib.itoa_nonneg, nn.1, nn.2, Bool.or_false, Bool.false_or]
  · rw [hw]; show (false || !decOk (Lib.itoa ((nd : Nat) : Int)) 1) = false
    simp only [Lib.itoa_nonneg, nn.1, nn.2, Bool.or_false, Bool.false_or]
  · rw [hw]; rfl
theorem actRound_4 (nd : Nat) (hnd : nd ≤ 1) (px : List Int) (hpx : ∀ n ∈ px, 0 ≤ n ∧ n ≤ 1000000) (x : ByteArray) (hx : ActV.text ⟨4, (nd : Int), 0, zOp, false, px⟩ = x.data.toList) : BackA ⟨4, (nd : Int), 0, zOp, false, px⟩ x := by
  have hp : actPieces 4 (nd : Int) 0 0 0 0 0 0 0 false [] px = [⟨#[111, 102, 102]⟩, ⟨(Lib.itoa (nd : Int)).toArray⟩, ⟨(rowL (pickT px)).toArray⟩] := rfl
  have hx2 : Lib.join (([⟨#[111, 102, 102]⟩, ⟨(Lib.itoa (nd : Int)).toArray⟩, ⟨(rowL (pickT px)).toArray⟩] : List ByteArray).map (·.data.toList)) [32] = x.data.toList := by rw [← hx]; exact congrArg (fun z : List ByteArray => Lib.join (z.map (·.data.toList)) [32]) hp.symm
  have hpk := pick_back hpx
  have hw : wordsB 32 x = [⟨#[111, 102, 102]⟩, ⟨(Lib.itoa (nd : Int)).toArray⟩, ⟨(rowL (pickT px)).toArray⟩] := by
    have h1 : cutL 32 x.data.toList = ([⟨#[111, 102, 102]⟩, ⟨(Lib.itoa (nd : Int)).toArray⟩, ⟨(rowL (pickT px)).toArray⟩] : List ByteArray).map (·.data.toList) := by
      rw [← hx2]
      refine cutL_join 32 _ (by simp) (fun y hy => ?_)
      simp only [List.map_cons, List.map_nil, List.mem_cons, List.mem_nil_iff, or_false] at hy
      rcases hy with rfl | rfl | rfl
      · decide
      · exact itoa_no32 _ (by omega)
      · exact hpk.2.2
    rw [wordsB, h1, List.map_map]
    simp [Function.comp_def]
  have nn := num_back nd 1 hnd
  refine ⟨?_, ?_, ?_, ?_, ?_⟩
  · rw [hw]; exact (show aKOf ⟨#[111, 102, 102]⟩ = 4 by decide)
  · rw [hw]; exact (show isForce ⟨#[111, 102, 102]⟩ = false by decide)
  · rw [hw]; show (⟨4, ((decV (Lib.itoa ((nd : Nat) : Int)) 1 : Nat) : Int), 0, zOp, false, pkOf ⟨(rowL (pickT px)).toArray⟩⟩ : ActV) = ⟨4, (nd : Int), 0, zOp, false, px⟩
    simp only [Lib.itoa_nonneg, nn.1, nn.2, hpk.1, hpk.2.1, Bool.or_false, Bool.false_or]
  · rw [hw]; show (((false || !decOk (Lib.itoa ((nd : Nat) : Int)) 1) || false) || pkBad ⟨(rowL (pickT px)).toArray⟩) = false
    simp only [Lib.itoa_nonneg, nn.1, nn.2, hpk.1, hpk.2.1, Bool.or_false, Bool.false_or]
  · rw [hw]; rfl
theorem actRound_5 (nd : Nat) (hnd : nd ≤ 1) (px : List Int) (hpx : ∀ n ∈ px, 0 ≤ n ∧ n ≤ 1000000) (x : ByteArray) (hx : ActV.text ⟨5, (nd : Int), 0, zOp, false, px⟩ = x.data.toList) : BackA ⟨5, (nd : Int), 0, zOp, false, px⟩ x := by
  have hp : actPieces 5 (nd : Int) 0 0 0 0 0 0 0 false [] px = [⟨#[111, 110]⟩, ⟨(Lib.itoa (nd : Int)).toArray⟩, ⟨(rowL (pickT px)).toArray⟩] := rfl
  have hx2 : Lib.join (([⟨#[111, 110]⟩, ⟨(Lib.itoa (nd : Int)).toArray⟩, ⟨(rowL (pickT px)).toArray⟩] : List ByteArray).map (·.data.toList)) [32] = x.data.toList := by rw [← hx]; exact congrArg (fun z : List ByteArray => Lib.join (z.map (·.data.toList)) [32]) hp.symm
  have hpk := pick_back hpx
  have hw : wordsB 32 x = [⟨#[111, 110]⟩, ⟨(Lib.itoa (nd : Int)).toArray⟩, ⟨(rowL (pickT px)).toArray⟩] := by
    have h1 : cutL 32 x.data.toList = ([⟨#[111, 110]⟩, ⟨(Lib.itoa (nd : Int)).toArray⟩, ⟨(rowL (pickT px)).toArray⟩] : List ByteArray).map (·.data.toList) := by
      rw [← hx2]
      refine cutL_join 32 _ (by simp) (fun y hy => ?_)
      simp only [List.map_cons, List.map_nil, List.mem_cons, List.mem_nil_iff, or_false] at hy
      rcases hy with rfl | rfl | rfl
      · decide
      · exact itoa_no32 _ (by omega)
      · exact hpk.2.2
    rw [wordsB, h1, List.map_map]
    simp [Function.comp_def]
  have nn := num_back nd 1 hnd
  refine ⟨?_, ?_, ?_, ?_, ?_⟩
  · rw [hw]; exact (show aKOf ⟨#[111, 110]⟩ = 5 by decide)
  · rw [hw]; exact (show isForce ⟨#[111, 110]⟩ = false by decide)
  · rw [hw]; show (⟨5, ((decV (Lib.itoa ((nd : Nat) : Int)) 1 : Nat) : Int), 0, zOp, false, pkOf ⟨(rowL (pickT px)).toArray⟩⟩ : ActV) = ⟨5, (nd : Int), 0, zOp, false, px⟩
    simp only [Lib.itoa_nonneg, nn.1, nn.2, hpk.1, hpk.2.1, Bool.or_false, Bool.false_or]
  · rw [hw]; show (((false || !decOk (Lib.itoa ((nd : Nat) : Int)) 1) || false) || pkBad ⟨(rowL (pickT px)).toArray⟩) = false
    simp only [Lib.itoa_nonneg, nn.1, nn.2, hpk.1, hpk.2.1, Bool.or_false, Bool.false_or]
  · rw [hw]; rfl
theorem actRound_6 (nd : Nat) (hnd : nd ≤ 1) (m : Nat) (hmm : m ≤ 1000000) (x : ByteArray) (hx : ActV.text ⟨6, (nd : Int), (m : Int), zOp, false, []⟩ = x.data.toList) : BackA ⟨6, (nd : Int), (m : Int), zOp, false, []⟩ x := by
  have hp : actPieces 6 (nd : Int) (m : Int) 0 0 0 0 0 0 false [] [] = [⟨#[102, 117, 115, 101]⟩, ⟨(Lib.itoa (nd : Int)).toArray⟩, ⟨(Lib.itoa (m : Int)).toArray⟩] := rfl
  have hx2 : Lib.join (([⟨#[102, 117, 115, 101]⟩, ⟨(Lib.itoa (nd : Int)).toArray⟩, ⟨(Lib.itoa (m : Int)).toArray⟩] : List ByteArray).map (·.data.toList)) [32] = x.data.toList := by rw [← hx]; exact congrArg (fun z : List ByteArray => Lib.join (z.map (·.data.toList)) [32]) hp.symm
  have hw : wordsB 32 x = [⟨#[102, 117, 115, 101]⟩, ⟨(Lib.itoa (nd : Int)).toArray⟩, ⟨(Lib.itoa (m : Int)).toArray⟩] := by
    have h1 : cutL 32 x.data.toList = ([⟨#[102, 117, 115, 101]⟩, ⟨(Lib.itoa (nd : Int)).toArray⟩, ⟨(Lib.itoa (m : Int)).toArray⟩] : List ByteArray).map (·.data.toList) := by
      rw [← hx2]
      refine cutL_join 32 _ (by simp) (fun y hy => ?_)
      simp only [List.map_cons, List.map_nil, List.mem_cons, List.mem_nil_iff, or_false] at hy
      rcases hy with rfl | rfl | rfl
      · decide
      · exact itoa_no32 _ (by omega)
      · exact itoa_no32 _ (by omega)
    rw [wordsB, h1, List.map_map]
    simp [Function.comp_def]
  have nn := num_back nd 1 hnd
  have nm := num_back m 1000000 hmm
  refine ⟨?_, ?_, ?_, ?_, ?_⟩
  · rw [hw]; exact (show aKOf ⟨#[102, 117, 115, 101]⟩ = 6 by decide)
  · rw [hw]; exact (show isForce ⟨#[102, 117, 115, 101]⟩ = false by decide)
  · rw [hw]; show (⟨6, ((decV (Lib.itoa ((nd : Nat) : Int)) 1 : Nat) : Int), ((decV (Lib.itoa ((m : Nat) : Int)) 1000000 : Nat) : Int), zOp, false, []⟩ : ActV) = ⟨6, (nd : Int), (m : Int), zOp, false, []⟩
    simp only [Lib.itoa_nonneg, nn.1, nn.2, nm.1, nm.2, Bool.or_false, Bool.false_or]
  · rw [hw]; show ((false || !decOk (Lib.itoa ((nd : Nat) : Int)) 1) || !decOk (Lib.itoa ((m : Nat) : Int)) 1000000) = false
    simp only [Lib.itoa_nonneg, nn.1, nn.2, nm.1, nm.2, Bool.or_false, Bool.false_or]
  · rw [hw]; rfl
theorem actRound_7 (nd : Nat) (hnd : nd ≤ 1) (x : ByteArray) (hx : ActV.text ⟨7, (nd : Int), 0, zOp, false, []⟩ = x.data.toList) : BackA ⟨7, (nd : Int), 0, zOp, false, []⟩ x := by
  have hp : actPieces 7 (nd : Int) 0 0 0 0 0 0 0 false [] [] = [⟨#[108, 101, 97, 100]⟩, ⟨(Lib.itoa (nd : Int)).toArray⟩] := rfl
  have hx2 : Lib.join (([⟨#[108, 101, 97, 100]⟩, ⟨(Lib.itoa (nd : Int)).toArray⟩] : List ByteArray).map (·.data.toList)) [32] = x.data.toList := by rw [← hx]; exact congrArg (fun z : List ByteArray => Lib.join (z.map (·.data.toList)) [32]) hp.symm
  have hw : wordsB 32 x = [⟨#[108, 101, 97, 100]⟩, ⟨(Lib.itoa (nd : Int)).toArray⟩] := by
    have h1 : cutL 32 x.data.toList = ([⟨#[108, 101, 97, 100]⟩, ⟨(Lib.itoa (nd : Int)).toArray⟩] : List ByteArray).map (·.data.toList) := by
      rw [← hx2]
      refine cutL_join 32 _ (by simp) (fun y hy => ?_)
      simp only [List.map_cons, List.map_nil, List.mem_cons, List.mem_nil_iff, or_false] at hy
      rcases hy with rfl | rfl
      · decide
      · exact itoa_no32 _ (by omega)
    rw [wordsB, h1, List.map_map]
    simp [Function.comp_def]
  have nn := num_back nd 1 hnd
  refine ⟨?_, ?_, ?_, ?_, ?_⟩
  · rw [hw]; exact (show aKOf ⟨#[108, 101, 97, 100]⟩ = 7 by decide)
  · rw [hw]; exact (show isForce ⟨#[108, 101, 97, 100]⟩ = false by decide)
  · rw [hw]; show (⟨7, ((decV (Lib.itoa ((nd : Nat) : Int)) 1 : Nat) : Int), 0, zOp, false, []⟩ : ActV) = ⟨7, (nd : Int), 0, zOp, false, []⟩
    simp only [Lib.itoa_nonneg, nn.1, nn.2, Bool.or_false, Bool.false_or]
  · rw [hw]; show (false || !decOk (Lib.itoa ((nd : Nat) : Int)) 1) = false
    simp only [Lib.itoa_nonneg, nn.1, nn.2, Bool.or_false, Bool.false_or]
  · rw [hw]; rfl
theorem actRound_8 (nd : Nat) (hnd : nd ≤ 1) (x : ByteArray) (hx : ActV.text ⟨8, (nd : Int), 0, zOp, false, []⟩ = x.data.toList) : BackA ⟨8, (nd : Int), 0, zOp, false, []⟩ x := by
  have hp : actPieces 8 (nd : Int) 0 0 0 0 0 0 0 false [] [] = [⟨#[100, 101, 103, 114, 97, 100, 101]⟩, ⟨(Lib.itoa (nd : Int)).toArray⟩] := rfl
  have hx2 : Lib.join (([⟨#[100, 101, 103, 114, 97, 100, 101]⟩, ⟨(Lib.itoa (nd : Int)).toArray⟩] : List ByteArray).map (·.data.toList)) [32] = x.data.toList := by rw [← hx]; exact congrArg (fun z : List ByteArray => Lib.join (z.map (·.data.toList)) [32]) hp.symm
  have hw : wordsB 32 x = [⟨#[100, 101, 103, 114, 97, 100, 101]⟩, ⟨(Lib.itoa (nd : Int)).toArray⟩] := by
    have h1 : cutL 32 x.data.toList = ([⟨#[100, 101, 103, 114, 97, 100, 101]⟩, ⟨(Lib.itoa (nd : Int)).toArray⟩] : List ByteArray).map (·.data.toList) := by
      rw [← hx2]
      refine cutL_join 32 _ (by simp) (fun y hy => ?_)
      simp only [List.map_cons, List.map_nil, List.mem_cons, List.mem_nil_iff, or_false] at hy
      rcases hy with rfl | rfl
      · decide
      · exact itoa_no32 _ (by omega)
    rw [wordsB, h1, List.map_map]
    simp [Function.comp_def]
  have nn := num_back nd 1 hnd
  refine ⟨?_, ?_, ?_, ?_, ?_⟩
  · rw [hw]; exact (show aKOf ⟨#[100, 101, 103, 114, 97, 100, 101]⟩ = 8 by decide)
  · rw [hw]; exact (show isForce ⟨#[100, 101, 103, 114, 97, 100, 101]⟩ = false by decide)
  · rw [hw]; show (⟨8, ((decV (Lib.itoa ((nd : Nat) : Int)) 1 : Nat) : Int), 0, zOp, false, []⟩ : ActV) = ⟨8, (nd : Int), 0, zOp, false, []⟩
    simp only [Lib.itoa_nonneg, nn.1, nn.2, Bool.or_false, Bool.false_or]
  · rw [hw]; show (false || !decOk (Lib.itoa ((nd : Nat) : Int)) 1) = false
    simp only [Lib.itoa_nonneg, nn.1, nn.2, Bool.or_false, Bool.false_or]
  · rw [hw]; rfl
theorem actRound_9 (nd : Nat) (hnd : nd ≤ 1) (m : Nat) (hmm : m ≤ 1000000) (x : ByteArray) (hx : ActV.text ⟨9, (nd : Int), (m : Int), zOp, false, []⟩ = x.data.toList) : BackA ⟨9, (nd : Int), (m : Int), zOp, false, []⟩ x := by
  have hp : actPieces 9 (nd : Int) (m : Int) 0 0 0 0 0 0 false [] [] = [⟨#[103, 114, 111, 119]⟩, ⟨(Lib.itoa (nd : Int)).toArray⟩, ⟨(Lib.itoa (m : Int)).toArray⟩] := rfl
  have hx2 : Lib.join (([⟨#[103, 114, 111, 119]⟩, ⟨(Lib.itoa (nd : Int)).toArray⟩, ⟨(Lib.itoa (m : Int)).toArray⟩] : List ByteArray).map (·.data.toList)) [32] = x.data.toList := by rw [← hx]; exact congrArg (fun z : List ByteArray => Lib.join (z.map (·.data.toList)) [32]) hp.symm
  have hw : wordsB 32 x = [⟨#[103, 114, 111, 119]⟩, ⟨(Lib.itoa (nd : Int)).toArray⟩, ⟨(Lib.itoa (m : Int)).toArray⟩] := by
    have h1 : cutL 32 x.data.toList = ([⟨#[103, 114, 111, 119]⟩, ⟨(Lib.itoa (nd : Int)).toArray⟩, ⟨(Lib.itoa (m : Int)).toArray⟩] : List ByteArray).map (·.data.toList) := by
      rw [← hx2]
      refine cutL_join 32 _ (by simp) (fun y hy => ?_)
      simp only [List.map_cons, List.map_nil, List.mem_cons, List.mem_nil_iff, or_false] at hy
      rcases hy with rfl | rfl | rfl
      · decide
      · exact itoa_no32 _ (by omega)
      · exact itoa_no32 _ (by omega)
    rw [wordsB, h1, List.map_map]
    simp [Function.comp_def]
  have nn := num_back nd 1 hnd
  have nm := num_back m 1000000 hmm
  refine ⟨?_, ?_, ?_, ?_, ?_⟩
  · rw [hw]; exact (show aKOf ⟨#[103, 114, 111, 119]⟩ = 9 by decide)
  · rw [hw]; exact (show isForce ⟨#[103, 114, 111, 119]⟩ = false by decide)
  · rw [hw]; show (⟨9, ((decV (Lib.itoa ((nd : Nat) : Int)) 1 : Nat) : Int), ((decV (Lib.itoa ((m : Nat) : Int)) 1000000 : Nat) : Int), zOp, false, []⟩ : ActV) = ⟨9, (nd : Int), (m : Int), zOp, false, []⟩
    simp only [Lib.itoa_nonneg, nn.1, nn.2, nm.1, nm.2, Bool.or_false, Bool.false_or]
  · rw [hw]; show ((false || !decOk (Lib.itoa ((nd : Nat) : Int)) 1) || !decOk (Lib.itoa ((m : Nat) : Int)) 1000000) = false
    simp only [Lib.itoa_nonneg, nn.1, nn.2, nm.1, nm.2, Bool.or_false, Bool.false_or]
  · rw [hw]; rfl
theorem actRound_10  (x : ByteArray) (hx : ActV.text ⟨10, 0, 0, zOp, false, []⟩ = x.data.toList) : BackA ⟨10, 0, 0, zOp, false, []⟩ x := by
  have hp : actPieces 10 0 0 0 0 0 0 0 0 false [] [] = [⟨#[97, 108, 108]⟩] := rfl
  have hx2 : Lib.join (([⟨#[97, 108, 108]⟩] : List ByteArray).map (·.data.toList)) [32] = x.data.toList := by rw [← hx]; exact congrArg (fun z : List ByteArray => Lib.join (z.map (·.data.toList)) [32]) hp.symm
  have hw : wordsB 32 x = [⟨#[97, 108, 108]⟩] := by
    have h1 : cutL 32 x.data.toList = ([⟨#[97, 108, 108]⟩] : List ByteArray).map (·.data.toList) := by
      rw [← hx2]
      refine cutL_join 32 _ (by simp) (fun y hy => ?_)
      simp only [List.map_cons, List.map_nil, List.mem_cons, List.mem_nil_iff, or_false] at hy
      rcases hy with rfl
      · decide
    rw [wordsB, h1, List.map_map]
    simp [Function.comp_def]
  refine ⟨?_, ?_, ?_, ?_, ?_⟩
  · rw [hw]; exact (show aKOf ⟨#[97, 108, 108]⟩ = 10 by decide)
  · rw [hw]; exact (show isForce ⟨#[97, 108, 108]⟩ = false by decide)
  · rw [hw]; show (⟨10, 0, 0, zOp, false, []⟩ : ActV) = ⟨10, 0, 0, zOp, false, []⟩
    rfl
  · rw [hw]; show false = false
    rfl
  · rw [hw]; rfl
theorem actRound_17 (nd : Nat) (hnd : nd ≤ 1) (x : ByteArray) (hx : ActV.text ⟨7, (nd : Int), 0, zOp, true, []⟩ = x.data.toList) : BackA ⟨7, (nd : Int), 0, zOp, true, []⟩ x := by
  have hp : actPieces 7 (nd : Int) 0 0 0 0 0 0 0 true [] [] = [⟨#[102, 111, 114, 99, 101]⟩, ⟨(Lib.itoa (nd : Int)).toArray⟩] := rfl
  have hx2 : Lib.join (([⟨#[102, 111, 114, 99, 101]⟩, ⟨(Lib.itoa (nd : Int)).toArray⟩] : List ByteArray).map (·.data.toList)) [32] = x.data.toList := by rw [← hx]; exact congrArg (fun z : List ByteArray => Lib.join (z.map (·.data.toList)) [32]) hp.symm
  have hw : wordsB 32 x = [⟨#[102, 111, 114, 99, 101]⟩, ⟨(Lib.itoa (nd : Int)).toArray⟩] := by
    have h1 : cutL 32 x.data.toList = ([⟨#[102, 111, 114, 99, 101]⟩, ⟨(Lib.itoa (nd : Int)).toArray⟩] : List ByteArray).map (·.data.toList) := by
      rw [← hx2]
      refine cutL_join 32 _ (by simp) (fun y hy => ?_)
      simp only [List.map_cons, List.map_nil, List.mem_cons, List.mem_nil_iff, or_false] at hy
      rcases hy with rfl | rfl
      · decide
      · exact itoa_no32 _ (by omega)
    rw [wordsB, h1, List.map_map]
    simp [Function.comp_def]
  have nn := num_back nd 1 hnd
  refine ⟨?_, ?_, ?_, ?_, ?_⟩
  · rw [hw]; exact (show aKOf ⟨#[102, 111, 114, 99, 101]⟩ = 7 by decide)
  · rw [hw]; exact (show isForce ⟨#[102, 111, 114, 99, 101]⟩ = true by decide)
  · rw [hw]; show (⟨7, ((decV (Lib.itoa ((nd : Nat) : Int)) 1 : Nat) : Int), 0, zOp, true, []⟩ : ActV) = ⟨7, (nd : Int), 0, zOp, true, []⟩
    simp only [Lib.itoa_nonneg, nn.1, nn.2, Bool.or_false, Bool.false_or]
  · rw [hw]; show (false || !decOk (Lib.itoa ((nd : Nat) : Int)) 1) = false
    simp only [Lib.itoa_nonneg, nn.1, nn.2, Bool.or_false, Bool.false_or]
  · rw [hw]; rfl
set_option maxHeartbeats 2000000 in
theorem actRound (a : ActV) (x : ByteArray) (h : a.may = true) (hx : a.text = x.data.toList) : BackA a x := by
  obtain ⟨k, nd, m, ⟨ok, ov, ot, os, oa, oc, ol⟩, f, px⟩ := a
  have hm : mayActB k nd m ok ov ot os oa oc f ol.length px.length ol px = true := h
  by_cases hk9 : 1 ≤ k ∧ k ≤ 10
  · have h3 : k = 1 ∨ k = 2 ∨ k = 3 ∨ k = 4 ∨ k = 5 ∨ k = 6 ∨ k = 7 ∨ k = 8 ∨ k = 9 ∨ k = 10 := by omega
    rcases h3 with rfl | rfl | rfl | rfl | rfl | rfl | rfl | rfl | rfl | rfl
    · simp only [mayActB, if_true, reduceCtorEq, Int.reduceEq, if_false, Bool.and_eq_true, beq_iff_eq, nodeB, Bool.or_eq_true] at hm
      obtain rfl : f = false := by first | exact hm.1.2 | exact hm.2 | exact hm.1.1.2
      obtain rfl : px = [] := by first | exact hm.2 | exact hm.1.2
      obtain ⟨nd, rfl⟩ := Int.eq_ofNat_of_zero_le (show 0 ≤ nd by omega)
      obtain rfl : m = 0 := by omega
      exact actRound_1 nd (by omega) ⟨ok, ov, ot, os, oa, oc, ol⟩ hm.1.1.1.2 x hx
    · simp only [mayActB, if_true, reduceCtorEq, Int.reduceEq, if_false, Bool.and_eq_true, beq_iff_eq, nodeB, Bool.or_eq_true] at hm
      obtain ⟨rfl, rfl, rfl, rfl, rfl, rfl, rfl⟩ := same_zero (by first | exact hm.2.1 | exact hm.1.2 | exact hm.1.1.2 | exact hm.1.1.1.2 | exact hm.2)
      obtain rfl : f = false := by first | exact hm.1.2 | exact hm.2 | exact hm.1.1.2
      obtain rfl : px = [] := by first | exact hm.2 | exact hm.1.2
      obtain rfl : nd = 0 := by omega
      have hmn : mayN m = true := by first | exact hm.1.1.1.1 | exact hm.1.1.1.2 | exact hm.1.1.2
      simp only [mayN, Bool.and_eq_true, decide_eq_true_eq] at hmn
      obtain ⟨m, rfl⟩ := Int.eq_ofNat_of_zero_le hmn.1
      exact actRound_2 m (by omega) x hx
    · simp only [mayActB, if_true, reduceCtorEq, Int.reduceEq, if_false, Bool.and_eq_true, beq_iff_eq, nodeB, Bool.or_eq_true] at hm
      obtain ⟨rfl, rfl, rfl, rfl, rfl, rfl, rfl⟩ := same_zero (by first | exact hm.2.1 | exact hm.1.2 | exact hm.1.1.2 | exact hm.1.1.1.2 | exact hm.2)
      obtain rfl : f = false := by first | exact hm.1.2 | exact hm.2 | exact hm.1.1.2
      obtain rfl : px = [] := by first | exact hm.2 | exact hm.1.2
      obtain ⟨nd, rfl⟩ := Int.eq_ofNat_of_zero_le (show 0 ≤ nd by omega)
      obtain rfl : m = 0 := by omega
      exact actRound_3 nd (by omega) x hx
    · simp only [mayActB, if_true, reduceCtorEq, Int.reduceEq, if_false, Bool.and_eq_true, beq_iff_eq, nodeB, Bool.or_eq_true] at hm
      obtain ⟨rfl, rfl, rfl, rfl, rfl, rfl, rfl⟩ := same_zero (by first | exact hm.2.1 | exact hm.1.2 | exact hm.1.1.2 | exact hm.1.1.1.2 | exact hm.2)
      obtain rfl : f = false := by first | exact hm.1.2 | exact hm.2 | exact hm.1.1.2
      obtain ⟨nd, rfl⟩ := Int.eq_ofNat_of_zero_le (show 0 ≤ nd by omega)
      obtain rfl : m = 0 := by omega
      have hpp := picks_ok (show picksB px.length px = true by first | exact hm.1.1.1.2 | exact hm.1.1.2)
      exact actRound_4 nd (by omega) px hpp.2 x hx
    · simp only [mayActB, if_true, reduceCtorEq, Int.reduceEq, if_false, Bool.and_eq_true, beq_iff_eq, nodeB, Bool.or_eq_true] at hm
      obtain ⟨rfl, rfl, rfl, rfl, rfl, rfl, rfl⟩ := same_zero (by first | exact hm.2.1 | exact hm.1.2 | exact hm.1.1.2 | exact hm.1.1.1.2 | exact hm.2)
      obtain rfl : f = false := by first | exact hm.1.2 | exact hm.2 | exact hm.1.1.2
      obtain ⟨nd, rfl⟩ := Int.eq_ofNat_of_zero_le (show 0 ≤ nd by omega)
      obtain rfl : m = 0 := by omega
      have hpp := picks_ok (show picksB px.length px = true by first | exact hm.1.1.1.2 | exact hm.1.1.2)
      exact actRound_5 nd (by omega) px hpp.2 x hx
    · simp only [mayActB, if_true, reduceCtorEq, Int.reduceEq, if_false, Bool.and_eq_true, beq_iff_eq, nodeB, Bool.or_eq_true] at hm
      obtain ⟨rfl, rfl, rfl, rfl, rfl, rfl, rfl⟩ := same_zero (by first | exact hm.2.1 | exact hm.1.2 | exact hm.1.1.2 | exact hm.1.1.1.2 | exact hm.2)
      obtain rfl : f = false := by first | exact hm.1.2 | exact hm.2 | exact hm.1.1.2
      obtain rfl : px = [] := by first | exact hm.2 | exact hm.1.2
      obtain ⟨nd, rfl⟩ := Int.eq_ofNat_of_zero_le (show 0 ≤ nd by omega)
      have hmn : mayN m = true := by first | exact hm.1.1.1.1 | exact hm.1.1.1.2 | exact hm.1.1.2
      simp only [mayN, Bool.and_eq_true, decide_eq_true_eq] at hmn
      obtain ⟨m, rfl⟩ := Int.eq_ofNat_of_zero_le hmn.1
      exact actRound_6 nd (by omega) m (by omega) x hx
    · simp only [mayActB, if_true, reduceCtorEq, Int.reduceEq, if_false, Bool.and_eq_true, beq_iff_eq, nodeB, Bool.or_eq_true] at hm
      obtain ⟨rfl, rfl, rfl, rfl, rfl, rfl, rfl⟩ := same_zero (by first | exact hm.2.1 | exact hm.1.2 | exact hm.1.1.2 | exact hm.1.1.1.2 | exact hm.2)
      obtain rfl : px = [] := by first | exact hm.2 | exact hm.1.2
      obtain ⟨nd, rfl⟩ := Int.eq_ofNat_of_zero_le (show 0 ≤ nd by omega)
      obtain rfl : m = 0 := by omega
      cases f
      · exact actRound_7 nd (by omega) x hx
      · exact actRound_17 nd (by omega) x hx
    · simp only [mayActB, if_true, reduceCtorEq, Int.reduceEq, if_false, Bool.and_eq_true, beq_iff_eq, nodeB, Bool.or_eq_true] at hm
      obtain ⟨rfl, rfl, rfl, rfl, rfl, rfl, rfl⟩ := same_zero (by first | exact hm.2.1 | exact hm.1.2 | exact hm.1.1.2 | exact hm.1.1.1.2 | exact hm.2)
      obtain rfl : f = false := by first | exact hm.1.2 | exact hm.2 | exact hm.1.1.2
      obtain rfl : px = [] := by first | exact hm.2 | exact hm.1.2
      obtain ⟨nd, rfl⟩ := Int.eq_ofNat_of_zero_le (show 0 ≤ nd by omega)
      obtain rfl : m = 0 := by omega
      exact actRound_8 nd (by omega) x hx
    · simp only [mayActB, if_true, reduceCtorEq, Int.reduceEq, if_false, Bool.and_eq_true, beq_iff_eq, nodeB, Bool.or_eq_true] at hm
      obtain ⟨rfl, rfl, rfl, rfl, rfl, rfl, rfl⟩ := same_zero (by first | exact hm.2.1 | exact hm.1.2 | exact hm.1.1.2 | exact hm.1.1.1.2 | exact hm.2)
      obtain rfl : f = false := by first | exact hm.1.2 | exact hm.2 | exact hm.1.1.2
      obtain rfl : px = [] := by first | exact hm.2 | exact hm.1.2
      obtain ⟨nd, rfl⟩ := Int.eq_ofNat_of_zero_le (show 0 ≤ nd by omega)
      have hmn : mayN m = true := by first | exact hm.1.1.1.1 | exact hm.1.1.1.2 | exact hm.1.1.2
      simp only [mayN, Bool.and_eq_true, decide_eq_true_eq] at hmn
      obtain ⟨m, rfl⟩ := Int.eq_ofNat_of_zero_le hmn.1
      exact actRound_9 nd (by omega) m (by omega) x hx
    · simp only [mayActB, if_true, reduceCtorEq, Int.reduceEq, if_false, Bool.and_eq_true, beq_iff_eq, nodeB, Bool.or_eq_true] at hm
      obtain ⟨rfl, rfl, rfl, rfl, rfl, rfl, rfl⟩ := same_zero (by first | exact hm.2.1 | exact hm.1.2 | exact hm.1.1.2 | exact hm.1.1.1.2 | exact hm.2)
      obtain rfl : f = false := by first | exact hm.1.2 | exact hm.2 | exact hm.1.1.2
      obtain rfl : px = [] := by first | exact hm.2 | exact hm.1.2
      obtain rfl : nd = 0 := by omega
      obtain rfl : m = 0 := by omega
      exact actRound_10  x hx
  · unfold mayActB at hm
    repeat (rw [if_neg (by omega)] at hm)
    cases hm
theorem goodA_text (a : ActV) (x : ByteArray) (h : a.may = true) (hx : a.text = x.data.toList) : goodA x = true ∧ acX x = a := by
  obtain ⟨h1, h2, h3, h4, h5⟩ := actRound a x h hx
  have e : acX x = a := by rw [acX, h1, h2, h3]
  refine ⟨?_, e⟩
  rw [goodA, e, h1, h4, h5, h, hx]
  simp
end Go.Proofs.YtgjdgafoidppaaaDoor
namespace Go.Proofs.YtgjdgafoidppaaaDoor
open Go.RowKit
set_option linter.unusedVariables false
set_option linter.unusedSimpArgs false
set_option linter.unnecessarySimpa false
theorem itoa_no10 (n : Int) : (10 : UInt8) ∉ Lib.itoa n := by
  unfold Lib.itoa
  split
  · simp only [List.mem_cons, not_or]; exact ⟨by decide, dec_no 10 (by decide) _⟩
  · exact dec_no 10 (by decide) _
theorem hexd_no10 : ∀ i : Fin 16, hexd i.val ≠ 10 := by decide
theorem secL_no10 (b : List UInt8) : (10 : UInt8) ∉ secL b := by
  unfold secL
  split
  · decide
  · intro hx
    simp only [hexL, List.mem_flatMap, List.mem_cons, List.mem_nil_iff, or_false] at hx
    obtain ⟨c, _, h | h⟩ := hx
    · exact hexd_no10 ⟨c.toNat / 16, by have := c.toNat_lt; omega⟩ h.symm
    · exact hexd_no10 ⟨c.toNat % 16, by omega⟩ h.symm
theorem dataL_no10 (l : List UInt8) : (10 : UInt8) ∉ dataL l := by
  unfold dataL rowL
  split
  · decide
  · refine join_no 10 [44] (by decide) _ (fun x hx => ?_)
    simp only [secs, List.map_map, List.mem_map, Function.comp] at hx
    obtain ⟨j, _, rfl⟩ := hx
    simpa [secAt] using secL_no10 _
theorem pickR_no10 (px : List Int) : (10 : UInt8) ∉ rowL (pickT px) := by
  unfold rowL
  split
  · decide
  · refine join_no 10 [44] (by decide) _ (fun x hx => ?_)
    simp only [pickT, List.map_map, List.mem_map, Function.comp] at hx
    obtain ⟨n, _, rfl⟩ := hx
    exact itoa_no10 n
theorem opText_no10 (xk xv xt xs xa xc : Int) (lx : List UInt8) : (10 : UInt8) ∉ opTextL xk xv xt xs xa xc lx := by
  unfold opTextL opPieces
  have hd := fun n => dec_no 10 (by decide) n
  have hi := itoa_no10
  have hD := dataL_no10
  refine join_no 10 [32] (by decide) _ (fun x hx => ?_)
  repeat' split at hx
  all_goals
    simp only [List.map_cons, List.map_nil, List.mem_cons, List.mem_nil_iff, or_false] at hx
  · rcases hx with rfl | rfl | rfl <;> first | decide | exact hd _ | exact hi _ | exact hD _
  · rcases hx with rfl | rfl <;> first | decide | exact hd _ | exact hi _ | exact hD _
  · rcases hx with rfl | rfl | rfl <;> first | decide | exact hd _ | exact hi _ | exact hD _
  · rcases hx with rfl | rfl | rfl <;> first | decide | exact hd _ | exact hi _ | exact hD _
  · rcases hx with rfl | rfl | rfl | rfl <;> first | decide | exact hd _ | exact hi _ | exact hD _
  · rcases hx with rfl | rfl | rfl | rfl <;> first | decide | exact hd _ | exact hi _ | exact hD _
  · rcases hx with rfl | rfl | rfl | rfl <;> first | decide | exact hd _ | exact hi _ | exact hD _
  · rcases hx with rfl; decide
  · rcases hx with rfl | rfl | rfl | rfl <;> first | decide | exact hd _ | exact hi _ | exact hD _
theorem actText_no10 (a : ActV) : (10 : UInt8) ∉ a.text := by
  unfold ActV.text actTextL actPieces
  have hi := itoa_no10
  have hO := opText_no10 a.o.k a.o.v a.o.t a.o.s a.o.a a.o.c a.o.d
  have hP := pickR_no10 a.pk
  refine join_no 10 [32] (by decide) _ (fun x hx => ?_)
  repeat' split at hx
  all_goals
    simp only [List.map_cons, List.map_nil, List.mem_cons, List.mem_nil_iff, or_false] at hx
  · rcases hx with rfl | rfl | rfl <;> first | decide | exact hi _ | exact hO | exact hP
  · rcases hx with rfl | rfl <;> first | decide | exact hi _ | exact hO | exact hP
  · rcases hx with rfl | rfl <;> first | decide | exact hi _ | exact hO | exact hP
  · rcases hx with rfl | rfl | rfl <;> first | decide | exact hi _ | exact hO | exact hP
  · rcases hx with rfl | rfl | rfl <;> first | decide | exact hi _ | exact hO | exact hP
  · rcases hx with rfl | rfl | rfl <;> first | decide | exact hi _ | exact hO | exact hP
  · rcases hx with rfl | rfl <;> first | decide | exact hi _ | exact hO | exact hP
  · rcases hx with rfl | rfl <;> first | decide | exact hi _ | exact hO | exact hP
  · rcases hx with rfl | rfl <;> first | decide | exact hi _ | exact hO | exact hP
  · rcases hx with rfl | rfl | rfl <;> first | decide | exact hi _ | exact hO | exact hP
  · rcases hx with rfl; decide
theorem stageText_no10 (m0 m1 d0 d1 g : Int) : (10 : UInt8) ∉ stageTextL m0 m1 d0 d1 g := by
  have hi := itoa_no10
  refine join_no 10 [32] (by decide) _ (fun x hx => ?_)
  simp only [stageWords, List.map_cons, List.map_nil, List.mem_cons, List.mem_nil_iff, or_false] at hx
  rcases hx with rfl | rfl | rfl | rfl | rfl | rfl <;> first | decide | exact hi _
/-- Lines, each with a byte 10 behind it. -/
def glueL : List (List UInt8) → List UInt8
  | [] => []
  | x :: r => x ++ 10 :: glueL r
theorem glueL_snoc (L : List (List UInt8)) (x : List UInt8) : glueL (L ++ [x]) = glueL L ++ x ++ [10] := by
  induction L with
  | nil => simp [glueL]
  | cons y L ih => simp [glueL, ih]
theorem glue_cut : ∀ L : List (List UInt8), (∀ x ∈ L, (10 : UInt8) ∉ x) → cutL 10 (glueL L) = L ++ [[]]
  | [], _ => rfl
  | x :: r, h => by
    rw [glueL, cutL_app (h x (by simp)), glue_cut r fun y hy => h y (List.mem_cons_of_mem _ hy)]
    rfl
def lineB (l : List UInt8) : ByteArray := ⟨l.toArray⟩
theorem glue_words (L : List (List UInt8)) (h : ∀ x ∈ L, (10 : UInt8) ∉ x) (t : ByteArray) (ht : t.data.toList = glueL L) : wordsB 10 t = L.map lineB ++ [⟨#[]⟩] := by
  rw [wordsB, ht, glue_cut L h, List.map_append]; rfl
theorem glue_lines (L : List (List UInt8)) (h : ∀ x ∈ L, (10 : UInt8) ∉ x) (t : ByteArray) (ht : t.data.toList = glueL L) : linesB t = L.map lineB ∧ restB t = ⟨#[]⟩ := by
  have e := glue_words L h t ht
  constructor
  · rw [linesB, e, List.dropLast_concat]
  · rw [restB, e]; simp
theorem stage_back (m0 m1 d0 d1 g : Int) (h : mayStB m0 m1 d0 d1 g = true) : goodSt (lineB (stageTextL m0 m1 d0 d1 g)) = true ∧ (nW (lineB (stageTextL m0 m1 d0 d1 g)) 1 : Int) = m0 ∧ (nW (lineB (stageTextL m0 m1 d0 d1 g)) 3 : Int) = m1 ∧ (nW (lineB (stageTextL m0 m1 d0 d1 g)) 2 : Int) = d0 ∧ (nW (lineB (stageTextL m0 m1 d0 d1 g)) 4 : Int) = d1 ∧ (nW (lineB (stageTextL m0 m1 d0 d1 g)) 5 : Int) = g := by
  have hm := h
  simp only [mayStB, Bool.and_eq_true, decide_eq_true_eq] at h
  have b : StBd m0 m1 d0 d1 g := ⟨by omega⟩
  have hw := stageWords_cut m0 m1 d0 d1 g b (lineB (stageTextL m0 m1 d0 d1 g)) (by simp [lineB])
  have nat : ∀ n : Int, 0 ≤ n → n ≤ 1000000 → ((decV (Lib.itoa n) 1000000 : Nat) : Int) = n := fun n h0 h1 => by
    obtain ⟨k, rfl⟩ := Int.eq_ofNat_of_zero_le h0
    rw [Lib.itoa_nonneg, decV_digits k 1000000 (by omega)]
  have e1 : (nW (lineB (stageTextL m0 m1 d0 d1 g)) 1 : Int) = m0 := by rw [nW, hw]; exact nat m0 (by omega) (by omega)
  have e2 : (nW (lineB (stageTextL m0 m1 d0 d1 g)) 2 : Int) = d0 := by rw [nW, hw]; exact nat d0 (by omega) (by omega)
  have e3 : (nW (lineB (stageTextL m0 m1 d0 d1 g)) 3 : Int) = m1 := by rw [nW, hw]; exact nat m1 (by omega) (by omega)
  have e4 : (nW (lineB (stageTextL m0 m1 d0 d1 g)) 4 : Int) = d1 := by rw [nW, hw]; exact nat d1 (by omega) (by omega)
  have e5 : (nW (lineB (stageTextL m0 m1 d0 d1 g)) 5 : Int) = g := by rw [nW, hw]; exact nat g (by omega) (by omega)
  refine ⟨?_, e1, e3, e2, e4, e5⟩
  rw [goodSt, e1, e2, e3, e4, e5, hm]
  simp [lineB]
theorem act_back (a : ActV) (h : a.may = true) : goodA (lineB a.text) = true ∧ actRes (lineB a.text) = a := by
  obtain ⟨h1, h2⟩ := goodA_text a (lineB a.text) h (by simp [lineB])
  exact ⟨h1, by rw [actRes, if_pos h1, h2]⟩
def linesOf (m0 m1 d0 d1 g : Int) (l : List ActV) : List (List UInt8) := stageTextL m0 m1 d0 d1 g :: l.map ActV.text
def scTextL (m0 m1 d0 d1 g : Int) (l : List ActV) : List UInt8 := glueL (linesOf m0 m1 d0 d1 g l)
theorem linesOf_no (m0 m1 d0 d1 g : Int) (l : List ActV) : ∀ x ∈ linesOf m0 m1 d0 d1 g l, (10 : UInt8) ∉ x := by
  intro x hx
  simp only [linesOf, List.mem_cons, List.mem_map] at hx
  rcases hx with rfl | ⟨a, _, rfl⟩
  · exact stageText_no10 _ _ _ _ _
  · exact actText_no10 a
theorem badAt_acts : ∀ (l : List ActV) (i : Nat), 1 ≤ i → i + l.length ≤ 5001 → (∀ a ∈ l, a.may = true) → badAt i ((l.map ActV.text).map lineB) = i + l.length
  | [], i, _, _, _ => rfl
  | a :: r, i, h1, h2, h => by
    have hg : goodL i (lineB a.text) = true := by
      simp only [List.length_cons] at h2
      rw [goodL, if_neg (by omega), (act_back a (h a (by simp))).1, Bool.and_true]
      exact decide_eq_true (by omega)
    simp only [List.map_cons, badAt, hg, if_true]
    rw [badAt_acts r (i + 1) (by omega) (by simp only [List.length_cons] at h2; omega) fun b hb => h b (List.mem_cons_of_mem _ hb), List.length_cons]
    omega
/-- What a script's text is parsed as: it. -/
structure BackS (t : ByteArray) (m0 m1 d0 d1 g : Int) (l : List ActV) : Prop where
  good : pGood t = true
  st : (nW (hdW (linesB t)) 1 : Int) = m0 ∧ (nW (hdW (linesB t)) 3 : Int) = m1 ∧ (nW (hdW (linesB t)) 2 : Int) = d0 ∧ (nW (hdW (linesB t)) 4 : Int) = d1 ∧ (nW (hdW (linesB t)) 5 : Int) = g
  acts : pActs t = l
  at_ : pAt t = 0
  e : pE t = 0
theorem script_back (t : ByteArray) (m0 m1 d0 d1 g : Int) (l : List ActV) (hs : mayStB m0 m1 d0 d1 g = true) (hl : ∀ a ∈ l, a.may = true) (hn : l.length ≤ 5000) (ht : t.data.toList = scTextL m0 m1 d0 d1 g l) : BackS t m0 m1 d0 d1 g l := by
  obtain ⟨e1, e2⟩ := glue_lines _ (linesOf_no m0 m1 d0 d1 g l) t ht
  obtain ⟨s0, s1⟩ := stage_back m0 m1 d0 d1 g hs
  have e3 : linesB t = lineB (stageTextL m0 m1 d0 d1 g) :: (l.map ActV.text).map lineB := by rw [e1]; rfl
  have hg : pGood t = true := by
    rw [pGood, e2, e3, badAt, if_pos (by rw [goodL, if_pos rfl]; exact s0), badAt_acts l 1 (by omega) (by omega) hl]
    simp
    omega
  refine ⟨hg, by rw [e3]; exact s1, ?_, by rw [pAt, if_pos hg], by rw [pE, if_pos hg]⟩
  rw [pActs, if_pos hg, e3, List.tail_cons, List.map_map, List.map_map]
  conv => rhs; rw [← List.map_id l]
  exact List.map_congr_left fun a ha => (act_back a (hl a ha)).2
structure ABd (a : ActV) : Prop where
  bd : Bd a.o.v a.o.t a.o.s a.o.a a.o.c
  n0 : -9223372036854775808 ≤ a.nd
  n1 : a.nd ≤ 9223372036854775807
  m0 : -9223372036854775808 ≤ a.m
  m1 : a.m ≤ 9223372036854775807
  bq : a.o.d.length ≤ 9223372036854775807
  bv : a.pk.length ≤ 9223372036854775807
  pk : Pk a.pk
theorem stage_small {m0 m1 d0 d1 g : Int} (h : mayStB m0 m1 d0 d1 g = true) : (stageTextL m0 m1 d0 d1 g).length ≤ 1000 := by
  simp only [mayStB, Bool.and_eq_true, decide_eq_true_eq] at h
  exact stageWords_len ⟨by omega⟩
end Go.Proofs.YtgjdgafoidppaaaDoor
namespace Go.Proofs.YtgjdgafoidppaaaDoor
open Go.RowKit
set_option linter.unusedVariables false
set_option linter.unusedSimpArgs false
set_option linter.unnecessarySimpa false
def strLen : Value → Nat
  | .string s => s.size
  | _ => 0
def cutX (r : ByteArray) : ByteArray := ⟨(Lib.cut r.data.toList [10]).1.toArray⟩
def cutM (r : ByteArray) : ByteArray := ⟨(Lib.cut r.data.toList [10]).2.1.toArray⟩
def cutB (r : ByteArray) : Bool := (Lib.cut r.data.toList [10]).2.2
theorem first10 : ∀ l : List UInt8, (10 : UInt8) ∈ l → ∃ a b, l = a ++ 10 :: b ∧ (10 : UInt8) ∉ a
  | x :: l, h => by
    by_cases e : x = 10
    · exact ⟨[], l, by rw [e]; rfl, by simp⟩
    · have h1 : (10 : UInt8) ∈ l := by
        rcases List.mem_cons.1 h with h | h
        · exact absurd h.symm e
        · exact h
      obtain ⟨a, b, rfl, hb⟩ := first10 l h1
      exact ⟨x :: a, b, rfl, by simp only [List.mem_cons, not_or]; exact ⟨fun h => e h.symm, hb⟩⟩
theorem words_cut (r : ByteArray) : (cutB r = false ∧ wordsB 10 r = [r]) ∨ (cutB r = true ∧ wordsB 10 r = cutX r :: wordsB 10 (cutM r) ∧ (cutM r).size < r.size) := by
  have hsz : r.data.toList.length = r.size := by simp
  by_cases h : (10 : UInt8) ∈ r.data.toList
  · right
    obtain ⟨a, b, hab, ha⟩ := first10 _ h
    have hc := cut_app (c := 10) b ha
    rw [← hab] at hc
    have hl := congrArg List.length hab
    rw [List.length_append, List.length_cons] at hl
    refine ⟨by rw [cutB, hc], ?_, ?_⟩
    · have h1 : wordsB 10 r = (a :: cutL 10 b).map fun l => (⟨l.toArray⟩ : ByteArray) := by rw [wordsB, hab, cutL_app ha]
      rw [h1, cutX, cutM, hc]
      simp [wordsB]
    · have : (cutM r).size = b.length := by rw [cutM, hc]; rfl
      omega
  · left
    have hc := cut_free h
    refine ⟨by rw [cutB, hc], ?_⟩
    rw [wordsB, cutL_free h]
    simp
theorem cutX_le (r : ByteArray) : (cutX r).size ≤ r.size := by
  rcases words_cut r with ⟨_, _⟩ | ⟨_, h, _⟩
  · have h1 := wordsB_each 10 r
    by_cases h : (10 : UInt8) ∈ r.data.toList
    · obtain ⟨a, b, hab, ha⟩ := first10 _ h
      have hc := cut_app (c := 10) b ha
      rw [← hab] at hc
      have hl := congrArg List.length hab
      rw [List.length_append, List.length_cons] at hl
      have hs : (cutX r).size = a.length := by rw [cutX, hc]; rfl
      have hsz : r.data.toList.length = r.size := by simp
      omega
    · have hc := cut_free h
      have hs : (cutX r).size = r.data.toList.length := by rw [cutX, hc]; rfl
      have hsz : r.data.toList.length = r.size := by simp
      omega
  · exact wordsB_each 10 r _ (by rw [h]; simp)
theorem cutM_lt {r : ByteArray} (h : cutB r = true) : (cutM r).size < r.size := by
  rcases words_cut r with ⟨h1, _⟩ | ⟨_, _, h2⟩
  · rw [h1] at h; cases h
  · exact h2
theorem badAt_app : ∀ (p q : List ByteArray) (i : Nat), badAt i p = i + p.length → badAt i (p ++ q) = badAt (i + p.length) q
  | [], q, i, _ => rfl
  | x :: p, q, i, h => by
    unfold badAt at h
    split at h
    · rename_i hg
      rw [List.cons_append, badAt, if_pos hg, badAt_app p q (i + 1) (by rw [h, List.length_cons]; omega), List.length_cons]
      congr 1; omega
    · rw [List.length_cons] at h; omega
theorem words_nil : wordsB 10 ⟨#[]⟩ = [⟨#[]⟩] := by decide
/-- How far a text has been read. -/
structure LSt (t : ByteArray) (pre : List ByteArray) (r : ByteArray) : Prop where
  words : wordsB 10 t = pre ++ wordsB 10 r
  good : badAt 0 pre = pre.length
  size : r.size ≤ t.size
section
variable {t : ByteArray} {pre : List ByteArray} {r : ByteArray}
theorem LSt.start (t : ByteArray) : LSt t [] t := ⟨rfl, rfl, Nat.le_refl _⟩
theorem LSt.next (h : LSt t pre r) (hb : cutB r = true) (hg : goodL pre.length (cutX r) = true) : LSt t (pre ++ [cutX r]) (cutM r) := by
  rcases words_cut r with ⟨h1, _⟩ | ⟨_, h1, h2⟩
  · rw [h1] at hb; cases hb
  · refine ⟨by rw [h.words, h1, List.append_assoc]; rfl, ?_, by have := h.size; omega⟩
    have := badAt_app pre [cutX r] 0 (by rw [h.good]; omega)
    rw [this, Nat.zero_add, badAt, if_pos hg, badAt]
    simp
theorem LSt.short (h : LSt t pre r) : pre.length ≤ t.size := by
  have := wordsB_le 10 t
  have h1 := wordsB_ne 10 r
  have h2 : 0 < (wordsB 10 r).length := List.length_pos_iff.2 h1
  have h3 := congrArg List.length h.words
  rw [List.length_append] at h3
  omega
theorem LSt.last (h : LSt t pre r) (hw : wordsB 10 r = [r]) : linesB t = pre ∧ restB t = r := by
  have hh := h.words
  rw [hw] at hh
  exact ⟨by rw [linesB, hh, List.dropLast_concat], by rw [restB, hh]; simp⟩
/-- At its end. -/
theorem LSt.done (h : LSt t pre ⟨#[]⟩) (hne : pre ≠ []) : pGood t = true ∧ linesB t = pre := by
  obtain ⟨e1, e2⟩ := h.last words_nil
  refine ⟨?_, e1⟩
  rw [pGood, e1, e2, h.good]
  cases pre with
  | nil => exact absurd rfl hne
  | cons => simp
theorem LSt.none (h : LSt t [] ⟨#[]⟩) : pGood t = false ∧ pAt t = 0 := by
  obtain ⟨e1, e2⟩ := h.last words_nil
  have hg : pGood t = false := by rw [pGood, e1]; simp
  exact ⟨hg, by rw [pAt, if_neg (by rw [hg]; simp), e1]; rfl⟩
theorem LSt.open_ (h : LSt t pre r) (hr : r.data.toList ≠ []) (hb : cutB r = false) : pGood t = false ∧ pAt t = pre.length := by
  rcases words_cut r with ⟨_, h1⟩ | ⟨h1, _⟩
  · obtain ⟨e1, e2⟩ := h.last h1
    have hg : pGood t = false := by
      rw [pGood, e2]
      cases hd : r.data.toList with
      | nil => exact absurd hd hr
      | cons => simp
    exact ⟨hg, by rw [pAt, if_neg (by rw [hg]; simp), e1, h.good]⟩
  · rw [h1] at hb; cases hb
theorem LSt.bad (h : LSt t pre r) (hb : cutB r = true) (hg : goodL pre.length (cutX r) = false) : pGood t = false ∧ pAt t = pre.length := by
  rcases words_cut r with ⟨h1, _⟩ | ⟨_, h1, _⟩
  · rw [h1] at hb; cases hb
  · obtain ⟨q, hq⟩ : ∃ q, linesB t = pre ++ cutX r :: q := by
      refine ⟨(wordsB 10 (cutM r)).dropLast, ?_⟩
      have hne := wordsB_ne 10 (cutM r)
      rw [linesB, h.words, h1, List.dropLast_append_of_ne_nil (by simp)]
      congr 1
      cases hw : wordsB 10 (cutM r) with
      | nil => exact absurd hw hne
      | cons => rfl
    have hat : badAt 0 (linesB t) = pre.length := by
      rw [hq, badAt_app pre _ 0 (by rw [h.good]; omega), Nat.zero_add, badAt, if_neg (by rw [hg]; simp)]
    have hgd : pGood t = false := by
      rw [pGood, hat, hq]
      have : (pre.length == (pre ++ cutX r :: q).length) = false := by simp
      rw [this]; rfl
    exact ⟨hgd, by rw [pAt, if_neg (by rw [hgd]; simp), hat]⟩
end
end Go.Proofs.YtgjdgafoidppaaaDoor
