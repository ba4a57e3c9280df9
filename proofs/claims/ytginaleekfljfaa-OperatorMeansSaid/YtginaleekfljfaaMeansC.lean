/- The callees of OperatorMeans at states that it comes to. Conditions: none. -/
import Derived.Test.YtginaleekfljfaaRows
import Derived.Test.YtginaleekfljfaaKnown
import Derived.Test.YtginaleekfljfaaMeansP
namespace Go.Proofs.Ytginaleekfljfaa
open Go.RowKit
set_option linter.unusedVariables false
set_option linter.unusedSimpArgs false
set_option linter.unnecessarySimpa false
namespace operatorMeans
variable {k : Nat} {xe xl xs xb xq ye yl ys yb yq z : Int}
theorem One.may (h : One k xe xl xs xb xq) (hk : k ≤ 201) : mayB xe xl xs xb xq = true := by
  unfold One at h; simp [mayB]; omega
theorem may_ok (h : One k xe xl xs xb xq) (hk : k ≤ 201) (xm : Bool) (w : World) : Calls Try.prog 31 #[(Value.agg #[.int .u64 xe, .int .u64 xl, .int .u64 xs, .int .u64 xb, .int .u64 xq, .bool xm])] w fun e w' => e = .returned (.bool true) ∧ Gr w w' := by
  have := may19_any xe xl xs xb xq xm w
  rw [h.may hk] at this
  exact this
theorem promote_ok (xm : Bool) (h : One k xe xl xs xb xq) (h2 : One k ye yl ys yb yq) (hk : k ≤ 200) : ∃ n : Int, xe < n ∧ ye < n ∧ n ≤ k + 1 ∧ ∀ w, Calls Try.prog 12 #[(Value.agg #[.int .u64 xe, .int .u64 xl, .int .u64 xs, .int .u64 xb, .int .u64 xq, .bool xm]), (Value.agg #[.int .u64 ye, .int .u64 yl, .int .u64 ys, .int .u64 yb, .int .u64 yq, .bool false]), .bool false] w fun e w' => e = .returned (.tuple #[.int .u64 n, .bool false, .int .i64 0]) ∧ Gr w w' := by
  have h3 := h.may (by omega)
  have h4 := h2.may (by omega)
  unfold One at h h2
  refine ⟨max xe ye + 1, by omega, by omega, by omega, fun w => ?_⟩
  have := promote_any xe xl xs xb xq ye yl ys yb yq xm false false w (by omega) (by omega)
  have e1 : proE (mayB xe xl xs xb xq && mayB ye yl ys yb yq) false false xe ye = max xe ye + 1 := by simp [proE, h3, h4]; omega
  have e2 : proU (mayB xe xl xs xb xq && mayB ye yl ys yb yq) false false xe ye = false := by simp [proU, h3, h4]
  have e3 : proC (mayB xe xl xs xb xq && mayB ye yl ys yb yq) false false xe ye = 0 := by simp [proC, h3, h4]; omega
  rw [e1, e2, e3] at this
  exact this
theorem promote_no (xm : Bool) (h : One k xe xl xs xb xq) (h2 : One k ye yl ys yb yq) (hk : k ≤ 200) (w : World) : Calls Try.prog 12 #[(Value.agg #[.int .u64 xe, .int .u64 xl, .int .u64 xs, .int .u64 xb, .int .u64 xq, .bool xm]), (Value.agg #[.int .u64 ye, .int .u64 yl, .int .u64 ys, .int .u64 yb, .int .u64 yq, .bool true]), .bool false] w fun e w' => e = .returned (.tuple #[.int .u64 0, .bool false, .int .i64 12]) ∧ Gr w w' := by
  have h3 := h.may (by omega)
  have h4 := h2.may (by omega)
  unfold One at h h2
  have := promote_any xe xl xs xb xq ye yl ys yb yq xm true false w (by omega) (by omega)
  have e1 : proE (mayB xe xl xs xb xq && mayB ye yl ys yb yq) true false xe ye = 0 := by simp [proE, h3, h4]
  have e2 : proU (mayB xe xl xs xb xq && mayB ye yl ys yb yq) true false xe ye = false := by simp [proU, h3, h4]
  have e3 : proC (mayB xe xl xs xb xq && mayB ye yl ys yb yq) true false xe ye = 12 := by simp [proC, h3, h4]
  rw [e1, e2, e3] at this
  exact this
theorem degrade_no {d : Bool} (xm ym : Bool) (h : One k xe xl xs xb xq) (h2 : One k ye yl ys yb yq) (hk : k ≤ 200) (hd : d = false ∨ xm = true ∨ xe < ye) : ∃ n : Int, (n == 0) = false ∧ ∀ w, Calls Try.prog 14 #[(Value.agg #[.int .u64 xe, .int .u64 xl, .int .u64 xs, .int .u64 xb, .int .u64 xq, .bool xm]), (Value.agg #[.int .u64 ye, .int .u64 yl, .int .u64 ys, .int .u64 yb, .int .u64 yq, .bool ym]), .bool d] w fun e w' => e = .returned (.int .i64 n) ∧ Gr w w' := by
  have h3 := h.may (by omega)
  have h4 := h2.may (by omega)
  refine ⟨_, ?_, fun w => degrade_any xe xl xs xb xq ye yl ys yb yq xm ym d w⟩
  simp only [h3, h4, degC]
  rcases hd with rfl | rfl | hd
  · simp
  · cases d <;> simp
  · cases d <;> cases xm <;> simp [hd]
theorem degrade_yes (ym : Bool) (h : One k xe xl xs xb xq) (h2 : One k ye yl ys yb yq) (hk : k ≤ 200) (hd : ye ≤ xe) (w : World) : Calls Try.prog 14 #[(Value.agg #[.int .u64 xe, .int .u64 xl, .int .u64 xs, .int .u64 xb, .int .u64 xq, .bool false]), (Value.agg #[.int .u64 ye, .int .u64 yl, .int .u64 ys, .int .u64 yb, .int .u64 yq, .bool ym]), .bool true] w fun e w' => e = .returned (.int .i64 0) ∧ Gr w w' := by
  have h3 := h.may (by omega)
  have h4 := h2.may (by omega)
  have := degrade_any xe xl xs xb xq ye yl ys yb yq false ym true w
  have e : degC (mayB xe xl xs xb xq && mayB ye yl ys yb yq) true false xe ye = 0 := by simp [degC, h3, h4]; omega
  rw [e] at this
  exact this
theorem choose_ok {xm ym d0 d1 : Bool} (h : One k xe xl xs xb xq) (h2 : One k ye yl ys yb yq) (tw : Two xe ye xm ym d0 d1 z) (hk : k ≤ 201) : ∃ n : Int, (n = 0 ∨ n = 1) ∧ (n = 0 → ym = false) ∧ (n = 1 → xm = false) ∧ ∀ w, Calls Try.prog 28 #[(Value.agg #[.int .u64 xe, .int .u64 xl, .int .u64 xs, .int .u64 xb, .int .u64 xq, .bool xm]), (Value.agg #[.int .u64 ye, .int .u64 yl, .int .u64 ys, .int .u64 yb, .int .u64 yq, .bool ym])] w fun e w' => e = .returned (.tuple #[.int .i64 n, .bool true]) ∧ Gr w w' := by
  have h3 := h.may (by omega)
  have h4 := h2.may (by omega)
  have e2 : (mayB xe xl xs xb xq && mayB ye yl ys yb yq && !(xm && ym)) = true := by
    have := tw.1
    cases xm <;> cases ym <;> simp_all
  refine ⟨choI (mayB xe xl xs xb xq && mayB ye yl ys yb yq) xm ym (ord xl xs yl ys), ?_, ?_, ?_, fun w => ?_⟩
  · simp only [choI, h3, h4]; cases xm <;> cases ym <;> simp <;> omega
  · have := tw.1
    simp only [choI, h3, h4]; cases xm <;> cases ym <;> simp_all
  · simp only [choI, h3, h4]; cases xm <;> cases ym <;> simp
  · have := choose_any xe xl xs xb xq ye yl ys yb yq xm ym w
    rw [e2] at this
    exact this
end operatorMeans
end Go.Proofs.Ytginaleekfljfaa
