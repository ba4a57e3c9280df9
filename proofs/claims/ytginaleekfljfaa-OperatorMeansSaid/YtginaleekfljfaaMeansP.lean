/- The plain law of OperatorMeans: what holds at each round's head is kept by each move. Conditions: none. -/
namespace Go.Proofs.Ytginaleekfljfaa
namespace operatorMeans
/-- One state, k rounds gone through. -/
def One (k : Nat) (e l s b q : Int) : Prop := 0 ≤ l ∧ l ≤ e ∧ e ≤ k ∧ 0 ≤ b ∧ b ≤ e ∧ 0 ≤ s ∧ s ≤ k ∧ 0 ≤ q ∧ q ≤ k
/-- Two of them. -/
def Two (e0 e1 : Int) (m0 m1 d0 d1 : Bool) (la : Int) : Prop :=
  ¬ (m0 = true ∧ m1 = true) ∧ (m0 = true → d1 = true → e1 < e0) ∧ (m1 = true → d0 = true → e0 < e1) ∧ (d0 = true → d1 = true → e0 ≠ e1) ∧ (la ≤ e0 ∨ la ≤ e1) ∧ 0 ≤ la
theorem One.mono {k : Nat} {e l s b q : Int} (h : One k e l s b q) : One (k + 1) e l s b q := by unfold One at *; omega
theorem One.next {k : Nat} {e l s b q : Int} (h : One k e l s b q) : One (k + 1) e e (s + 1) b q := by unfold One at *; omega
theorem One.leads {k : Nat} {e l s b q n : Int} (h : One k e l s b q) (h1 : e ≤ n) (h2 : n ≤ k + 1) : One (k + 1) n l s l s := by unfold One at *; omega
theorem One.ended {k : Nat} {e l s b q : Int} (h : One k e l s b q) : One (k + 1) e l s l s := by unfold One at *; omega
theorem Two.swap {e0 e1 : Int} {m0 m1 d0 d1 : Bool} {la : Int} (h : Two e0 e1 m0 m1 d0 d1 la) : Two e1 e0 m1 m0 d1 d0 la := by
  obtain ⟨h1, h2, h3, h4, h5, h6⟩ := h
  exact ⟨fun h => h1 ⟨h.2, h.1⟩, h3, h2, fun a b e => h4 b a e.symm, h5.symm, h6⟩
theorem Two.promote {e0 e1 n : Int} {m0 d0 d1 : Bool} {la : Int} (h : Two e0 e1 m0 false d0 d1 la) (h0 : e0 < n) (h1 : e1 < n) : Two n e1 m0 false true d1 n := by
  obtain ⟨_, _, _, _, h5, h6⟩ := h
  refine ⟨by simp, fun _ _ => h1, by simp, fun _ _ => by omega, .inl (by omega), by omega⟩
theorem Two.mark {e0 e1 : Int} {m1 d1 : Bool} {la : Int} (h : Two e0 e1 false m1 true d1 la) (hle : e1 ≤ e0) : Two e0 e1 true m1 true d1 la := by
  obtain ⟨h1, h2, h3, h4, h5, h6⟩ := h
  have hm : m1 = false := by
    cases m1 with
    | false => rfl
    | true => have := h3 rfl rfl; omega
  subst hm
  exact ⟨by simp, fun _ hd => by have := h4 rfl hd; omega, by simp, h4, h5, h6⟩
theorem Two.stop {e0 e1 : Int} {m0 m1 d0 d1 : Bool} {la : Int} (h : Two e0 e1 m0 m1 d0 d1 la) : Two e0 e1 m0 m1 false d1 la := by
  obtain ⟨h1, h2, h3, h4, h5, h6⟩ := h
  exact ⟨h1, h2, (fun _ h => by cases h), (fun h => by cases h), h5, h6⟩
theorem Two.joined {e0 e1 : Int} {m0 m1 d0 d1 : Bool} {la : Int} (h : Two e0 e1 m0 m1 d0 d1 la) (hle : e1 ≤ e0) : Two e0 e0 false false d0 false la := by
  obtain ⟨h1, h2, h3, h4, h5, h6⟩ := h
  exact ⟨by simp, (fun h => by cases h), (fun h => by cases h), (fun _ h => by cases h), .inl (by omega), h6⟩
end operatorMeans
end Go.Proofs.Ytginaleekfljfaa
