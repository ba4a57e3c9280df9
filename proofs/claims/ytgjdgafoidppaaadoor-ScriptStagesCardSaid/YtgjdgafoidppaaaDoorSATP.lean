/- script.actText (first part). Conditions: what is read stands in memory; strconv's table stands. -/
import Derived.Test.YtgjdgafoidppaaaDoorSOpT
import Derived.Test.YtgjdgafoidppaaaDoorSPick
namespace Go.Proofs.YtgjdgafoidppaaaDoor
open Go.RowKit
set_option linter.unusedVariables false
set_option linter.unusedSimpArgs false
set_option linter.unnecessarySimpa false
def pickT (px : List Int) : List ByteArray := px.map fun n => ⟨(Lib.itoa n).toArray⟩
theorem pickT_snoc (px : List Int) (j : Nat) (x : Int) (h : px[j]? = some x) : pickT (px.take (j + 1)) = pickT (px.take j) ++ [⟨(Lib.itoa x).toArray⟩] := by
  have e1 : px.take (j + 1) = px.take j ++ [x] := by rw [List.take_add_one, h]; rfl
  rw [e1]; simp [pickT]
structure Pk (px : List Int) : Prop where
  lo : ∀ n ∈ px, -9223372036854775808 ≤ n
  hi : ∀ n ∈ px, n ≤ 9223372036854775807
theorem Pk.join {px : List Int} (h : Pk px) (hl : px.length ≤ 1000) : (Lib.join ((pickT px).map (·.data.toList)) [44]).length ≤ 22000 := by
  have := join_len [44] rfl 21 ((pickT px).map (·.data.toList)) (fun x hx => by
    simp only [pickT, List.map_map, List.mem_map] at hx
    obtain ⟨n, hn, rfl⟩ := hx
    have := itoa_len n (h.lo n hn) (h.hi n hn)
    simpa using this)
  simp only [pickT, List.length_map] at this ⊢
  omega
theorem Pk.row {px : List Int} (h : Pk px) (hl : px.length ≤ 1000) : (rowL (pickT px)).length ≤ 22000 := by
  unfold rowL
  split
  · simp
  · exact h.join hl
theorem opTextL_len (xk xv xt xs xa xc : Int) (lx : List UInt8) (B : Bd xv xt xs xa xc) (h : lx.length ≤ 100000) : (opTextL xk xv xt xs xa xc lx).length ≤ 2000000 := by
  have hd := dec_len xv.toNat (by have := B.v1; omega)
  have ht := dec_len xt.toNat (by have := B.t1; omega)
  have hs := itoa_len _ B.s0 B.s1
  have ha := itoa_len _ B.a0 B.a1
  have hc := itoa_len _ B.c0 B.c1
  have hx := dataL_len lx h
  have hl : (opPieces xk xv xt xs xa xc lx).length ≤ 4 := by
    unfold opPieces
    repeat' split
    all_goals simp
  have hm : ∀ y ∈ (opPieces xk xv xt xs xa xc lx).map (·.data.toList), y.length ≤ 300000 := by
    unfold opPieces
    repeat' split
    all_goals
      intro y hy
      simp only [List.map_cons, List.map_nil, List.mem_cons, List.mem_nil_iff, or_false] at hy
    all_goals
      rcases hy with h | h | h | h
    all_goals (first | (subst h; first | omega | simp) | omega | simp)
  have := join_len [32] rfl 300000 _ hm
  unfold opTextL
  rw [List.length_map] at this
  have h2 : (opPieces xk xv xt xs xa xc lx).length * 300001 ≤ 4 * 300001 := Nat.mul_le_mul_right _ hl
  omega
theorem OwnS.below_ {base base2 : Nat} {W W' : World} {v : Value} {xs : List ByteArray} (h : OwnS base W v xs) (hg : Gr W W') : OwnS base W' v xs := h.gr hg
theorem OwnS.more {base base2 : Nat} {W : World} {v : Value} {xs : List ByteArray} (h : OwnS base2 W v xs) (hb : base ≤ base2) : OwnS base W v xs := by
  refine ⟨h.1, ?_⟩
  rcases h.2 with h2 | ⟨g, cap, cur, hv, hb2, h4⟩
  · exact .inl h2
  · exact .inr ⟨g, cap, cur, hv, Nat.le_trans hb hb2, h4⟩
/-- A word stored over the first one. -/
theorem OwnS.first {base : Nat} {W : World} {b c : Nat} {y z : ByteArray} (h : OwnS base W (.slice (some ⟨b, 0, none⟩) 1 c) [y]) : OwnS base (W.setCell ⟨b, 0, none⟩ (.string z)) (.slice (some ⟨b, 0, none⟩) 1 c) [z] := (World.ownsRow.stored h 0 (.string z)).1
end Go.Proofs.YtgjdgafoidppaaaDoor
