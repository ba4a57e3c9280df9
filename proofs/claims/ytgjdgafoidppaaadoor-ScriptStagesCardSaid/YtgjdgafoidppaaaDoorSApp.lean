/- 'l = append(l, word)' onto a slice of the call's own, with all that stays as it was. Conditions: at most 1000 words. -/
import Derived.Test.YtgjdgafoidppaaaDoorSData
namespace Go.Proofs.YtgjdgafoidppaaaDoor
open Go.RowKit
set_option linter.unusedVariables false
set_option linter.unusedSimpArgs false
set_option linter.unnecessarySimpa false
theorem OwnS.alloc_ {base : Nat} {W : World} {v : Value} {xs : List ByteArray} (h : OwnS base W v xs) (o : Obj) : OwnS base (W.alloc o) v xs := World.ownsRow.alloc h o
theorem OwnS.drew_ {base : Nat} {W : World} {v : Value} {xs : List ByteArray} (h : OwnS base W v xs) : OwnS base W.drew v xs := h
theorem OwnS.grown_ {base : Nat} {W : World} {v : Value} {xs : List ByteArray} (h : OwnS base W v xs) (g : Growth W) : OwnS base (grown W g) v xs := h.gr (Gr.of (grown_below W g))
theorem OwnS.iter_ {base : Nat} {W : World} {v : Value} {xs : List ByteArray} (h : OwnS base W v xs) (k : Nat) {s : ByteArray} {pos : Nat} [hi : IterAt W k s pos] (s' : ByteArray) (pos' : Nat) : OwnS base (W.iterAt k s' pos') v xs := by
  refine ⟨h.1, ?_⟩
  rcases h.2 with h2 | ⟨g, cap, cur, hv, hb, hh, h4⟩
  · exact .inl h2
  · refine .inr ⟨g, cap, cur, hv, hb, ?_, h4⟩
    have hne : g ≠ k := by
      rintro rfl
      have := hi.eq
      rw [hh] at this
      cases this
    rw [Lib.iterAt_other W k g s' pos' hne]
    exact hh
theorem OwnS.lt {base : Nat} {W : World} {v : Value} {xs : List ByteArray} (h : OwnS base W v xs) : ∀ k, v.ownBlock = some k → base ≤ k ∧ k < W.heap.size := World.ownsRow.lt h
/-- What an append of one word leaves. -/
structure App (base : Nat) (W : World) (v : Value) (xs : List ByteArray) (y : ByteArray) (v' : Value) (W' : World) : Prop where
  own : OwnS base W' v' (xs ++ [y])
  below : Below base W W'
  size : W.heap.size ≤ W'.heap.size
  iter : ∀ k s pos, IterAt W k s pos → IterAt W' k s pos
theorem App.tb {base : Nat} {W : World} {v : Value} {xs : List ByteArray} {y : ByteArray} {v' : Value} {W' : World} (h : App base W v xs y v' W') (hf : 6 ≤ base) [ht : Tb W] : Tb W' :=
  ht.keep h.size (fun b hb => h.below.block b (by omega))
theorem App.from_ {base : Nat} {W : World} {v : Value} {xs : List ByteArray} {y : ByteArray} {v' : Value} {W' : World} (h : App base W v xs y v' W') (a : World) [ht : From a W] : From a W' := ⟨Nat.le_trans ht.le h.size⟩
theorem App.old {base : Nat} {W : World} {v : Value} {xs : List ByteArray} {y : ByteArray} {v' : Value} {W' : World} (h : App base W v xs y v' W') (b : Nat) [ht : Old b W] : Old b W' := ⟨Nat.lt_of_lt_of_le ht.lt h.size⟩
theorem App.cell {base : Nat} {W : World} {v : Value} {xs : List ByteArray} {y : ByteArray} {v' : Value} {W' : World} (h : App base W v xs y v' W') {b o : Nat} {u : Value} (hb : b < base) (hc : W.cell? ⟨b, o, none⟩ = some u) : W'.cell? ⟨b, o, none⟩ = some u := (h.below.cell (p := ⟨b, o, none⟩) hb).trans hc
theorem App.chain {base : Nat} {W : World} {v : Value} {xs : List ByteArray} {y : ByteArray} {v' : Value} {W' : World} (h : App base W v xs y v' W') {a : World} (hb : Below a.heap.size a W) (hl : a.heap.size ≤ base) : Below a.heap.size a W' := hb.trans (h.below.mono hl)
theorem wp_append_str {ops : Array Oper} {rest : List Oper} {o : Oper} {a : Act} {Q : Exit → Act → World → Prop} (hgd : o.guard = none) (s x : Operand)
    (ho : o.op = .call { callee := .builtin .append, args := #[s, x], argTypes := #[62, 62] })
    (base : Nat) {W : World} (v : Value) (xs : List ByteArray) (hs : a.eval s = v) (hown : OwnS base W v xs) (ad : Nat) (y : ByteArray) (hx : a.eval x = .slice (some ⟨ad, 0, none⟩) 1 1)
    (hc : W.cell? ⟨ad, 0, none⟩ = some (.string y)) (hlen : xs.length ≤ 1000) (hbase : base ≤ W.heap.size)
    (h : ∀ v' W', App base W v xs y v' W' → wpList Tryd.prog ops Q rest (a.put o.dst v') W') : wpList Tryd.prog ops Q (o :: rest) a W := by
  obtain ⟨i0, hi, hz0, hz1, hz2⟩ := info_parts infoString
  refine wpList_append_own W hgd s x 62 ho base 9 i0 (.string ⟨#[]⟩) 1 16 Tryd.underlying62 hi hz0 hz1 hz2 rfl (by decide) v xs.length (xs.map Value.string) hs hown ⟨ad, 0, none⟩ 1 1 [.string y] hx rfl ?_ ?_ ?_ ?_ hbase ?_
  · intro j u hj
    match j, hj with
    | 0, hj => simp at hj; subst hj; simpa [Addr.add] using hc
  · intro u hu; simp at hu; subst hu; rfl
  · unfold maxLen; omega
  · omega
  · intro v' W' hown' hgrow _
    refine h v' W' ⟨by simpa [OwnS] using hown', (Below.refl base W).grown hgrow hbase (fun q hq => (hown.lt q hq).1), hgrow.size, fun k st pos hk => ⟨?_⟩⟩
    refine (hgrow.block k hk.lt ?_).trans hk.eq
    intro e
    rcases hown.2 with ⟨rfl, _⟩ | ⟨g, cap, cur, rfl, _, hh, _⟩
    · simp [Value.ownBlock] at e
    · have : k = g := by simpa [Value.ownBlock] using e
      subst this
      have := hk.eq
      rw [hh] at this
      cases this
end Go.Proofs.YtgjdgafoidppaaaDoor
