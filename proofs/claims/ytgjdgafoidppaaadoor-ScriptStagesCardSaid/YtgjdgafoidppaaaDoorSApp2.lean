/- 'l = append(l, words..)' onto a slice of the call's own: some words at once. Conditions: at most 10^6 words. -/
import Derived.Test.YtgjdgafoidppaaaDoorSApp
import Derived.Test.YtgjdgafoidppaaaDoorSMl
import Derived.Test.YtgjdgafoidppaaaDoorBlk
namespace Go.Proofs.YtgjdgafoidppaaaDoor
open Go.RowKit
set_option linter.unusedVariables false
set_option linter.unusedSimpArgs false
set_option linter.unnecessarySimpa false
/-- What an append leaves. -/
structure Apps (base : Nat) (W : World) (v : Value) (xs ys : List ByteArray) (v' : Value) (W' : World) : Prop where
  own : OwnS base W' v' (xs ++ ys)
  below : Below base W W'
  size : W.heap.size ≤ W'.heap.size
  keep : ∀ B cs t, BlockAt W B cs t → t ≠ 9 → BlockAt W' B cs t
theorem Apps.tb {base : Nat} {W W' : World} {v v' : Value} {xs ys : List ByteArray} (h : Apps base W v xs ys v' W') (hf : 6 ≤ base) [ht : Tb W] : Tb W' := ht.keep h.size (fun b hb => h.below.block b (by omega))
theorem Apps.ml {base : Nat} {W W' : World} {v v' : Value} {xs ys : List ByteArray} (h : Apps base W v xs ys v' W') (hf : 6 ≤ base) [ht : Ml W] : Ml W' := ht.keep (h.below.block _ (by omega))
theorem Apps.from_ {base : Nat} {W W' : World} {v v' : Value} {xs ys : List ByteArray} (h : Apps base W v xs ys v' W') (a : World) [ht : From a W] : From a W' := ⟨Nat.le_trans ht.le h.size⟩
theorem Apps.old {base : Nat} {W W' : World} {v v' : Value} {xs ys : List ByteArray} (h : Apps base W v xs ys v' W') (b : Nat) [ht : Old b W] : Old b W' := ⟨Nat.lt_of_lt_of_le ht.lt h.size⟩
theorem Apps.cell {base : Nat} {W W' : World} {v v' : Value} {xs ys : List ByteArray} (h : Apps base W v xs ys v' W') {b o : Nat} {u : Value} (hb : b < base) (hc : W.cell? ⟨b, o, none⟩ = some u) : W'.cell? ⟨b, o, none⟩ = some u := (h.below.cell (p := ⟨b, o, none⟩) hb).trans hc
theorem Apps.chain {base : Nat} {W W' : World} {v v' : Value} {xs ys : List ByteArray} (h : Apps base W v xs ys v' W') {a : World} (hb : Below a.heap.size a W) (hl : a.heap.size ≤ base) : Below a.heap.size a W' := hb.trans (h.below.mono hl)
theorem wp_append_strs {ops : Array Oper} {rest : List Oper} {o : Oper} {a : Act} {Q : Exit → Act → World → Prop} (hgd : o.guard = none) (s x : Operand)
    (ho : o.op = .call { callee := .builtin .append, args := #[s, x], argTypes := #[62, 62] })
    (base : Nat) {W : World} (v : Value) (xs : List ByteArray) (hs : a.eval s = v) (hown : OwnS base W v xs) (ad : Nat) (ys : List ByteArray) (m : Nat) (hm : ys.length = m) (hx : a.eval x = .slice (some ⟨ad, 0, none⟩) m m)
    (hc : ∀ j y, ys[j]? = some y → W.cell? ⟨ad, j, none⟩ = some (.string y)) (hlen : xs.length + ys.length ≤ 2000000) (hbase : base ≤ W.heap.size)
    (h : ∀ v' W', Apps base W v xs ys v' W' → wpList Tryd.prog ops Q rest (a.put o.dst v') W') : wpList Tryd.prog ops Q (o :: rest) a W := by
  subst hm
  obtain ⟨i0, hi, hz0, hz1, hz2⟩ := info_parts infoString
  refine wpList_append_own W hgd s x 62 ho base 9 i0 (.string ⟨#[]⟩) 1 16 Tryd.underlying62 hi hz0 hz1 hz2 rfl (by decide) v xs.length (xs.map Value.string) hs hown ⟨ad, 0, none⟩ ys.length ys.length (ys.map Value.string) hx (by simp) ?_ ?_ ?_ ?_ hbase ?_
  · intro j u hj
    rw [List.getElem?_map] at hj
    cases hy : ys[j]? with
    | none => rw [hy] at hj; cases hj
    | some y =>
      rw [hy] at hj
      cases hj
      rw [Go.WideShapes.add_plain, Nat.zero_add]
      exact hc j y hy
  · intro u hu
    simp only [List.mem_map] at hu
    obtain ⟨y, _, rfl⟩ := hu
    rfl
  · unfold maxLen; omega
  · omega
  · intro v' W' hown' hgrow _
    refine h v' W' ⟨by simpa [OwnS] using hown', (Below.refl base W).grown hgrow hbase (fun q hq => (hown.lt q hq).1), hgrow.size, fun B cs t hB ht => hB.grown hgrow (fun e => ?_)⟩
    rcases hown.2 with ⟨rfl, _⟩ | ⟨g, cap, cur, rfl, _, hh, _⟩
    · simp [Value.ownBlock] at e
    · have : B = g := by simpa [Value.ownBlock] using e
      subst this
      have := hB.eq
      rw [hh] at this
      cases this
      exact ht rfl
end Go.Proofs.YtgjdgafoidppaaaDoor
