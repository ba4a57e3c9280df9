/- The law's own 'names' of layer 26: it goes over the words, and is left at any place. Conditions: none. -/
import Derived.Test.YtgjdgafoidppaaaDoorSNames
import Derived.RangeFuncFrom
namespace Go.Proofs.YtgjdgafoidppaaaDoor
open Go.RowKit Go.Shelf
set_option linter.unusedVariables false
set_option linter.unusedSimpArgs false
set_option linter.unnecessarySimpa false
attribute [local go_sem] Oper.semAt_some
def kindsA : Array Value := #[.string ⟨#[99, 114, 101, 97, 116, 101]⟩, .string ⟨#[100, 101, 108, 101, 116, 101]⟩, .string ⟨#[114, 101, 115, 105, 122, 101]⟩, .string ⟨#[115, 110, 97, 112]⟩, .string ⟨#[119, 114, 105, 116, 101]⟩, .string ⟨#[122, 101, 114, 111]⟩, .string ⟨#[100, 105, 115, 99, 97, 114, 100]⟩, .string ⟨#[102, 108, 117, 115, 104]⟩, .string ⟨#[114, 101, 97, 100]⟩]
theorem kinds_at (k : Nat) (h : k < 9) : kindsA[k]? = some (.string (wordB k)) := by
  have h2 : k = 0 ∨ k = 1 ∨ k = 2 ∨ k = 3 ∨ k = 4 ∨ k = 5 ∨ k = 6 ∨ k = 7 ∨ k = 8 := by omega
  rcases h2 with rfl | rfl | rfl | rfl | rfl | rfl | rfl | rfl | rfl <;> rfl
theorem kinds_any (w : World) : Calls Tryd.prog 25 #[] w fun e w' => e = .returned (.slice (some ⟨w.heap.size, 0, none⟩) 9 9) ∧ w' = w.alloc (.cells kindsA 9) := by
  go_enter Tryd.func25, Tryd.ntmps25
  go_wp2
  go_ret
  exact ⟨rfl, rfl⟩
theorem names_any (w : World) : Calls Tryd.prog 7 #[] w fun e w' => e = .returned (.func (.func 23) #[] #[]) ∧ w = w' := by
  go_enter Tryd.func7, Tryd.ntmps7
  go_wp2
  go_ret
  exact ⟨rfl, rfl⟩
def NI (most : Int) (w : World) (pre : List Nat) (W : World) : Prop := pre = List.range pre.length ∧ (∀ j : Nat, 0 < j ∧ j ≤ pre.length → (j : Int) ≠ most) ∧ Boxed W w.heap.size 3 (.int .i64 most) ∧ Boxed W (w.heap.size + 1) 4 (.bool false) ∧ Boxed W (w.heap.size + 1 + 1) 3 (.int .i64 pre.length) ∧ Below w.heap.size w W
def NX (w : World) (c : Code) (xs : List Nat) (W : World) : Prop := c = .ret ∧ (xs = List.range xs.length → Boxed W (w.heap.size + 1) 4 (.bool true)) ∧ Below w.heap.size w W
theorem box_new (W : World) (n : Nat) [h : SizeN W n] (t : TypeId) (v : Value) : Boxed (W.alloc (.cells #[v] t)) n t v := by
  have e := h.eq
  subst e
  exact Boxed.new W t v
theorem box_kept {W W' : World} {row : Option Nat} {B : Nat} {t : TypeId} {v : Value} (h : Boxed W B t v) (hg : W.grownBy W' row) (hr : ∀ r, row = some r → ∃ o : Obj, W.heap[r]? = some o ∧ o.isCells = false) : Boxed W' B t v :=
  h.kept hg (fun e => by obtain ⟨o, ho, hc⟩ := hr B e.symm; rw [show W.heap[B]? = _ from h] at ho; cases ho; cases hc)
theorem ni_own (most : Int) (w : World) {B : Nat} (hB : w.heap.size ≤ B := by simp; omega) : OwnFrom B (NI most w) := fun s W W' row hs hg hr => by
  obtain ⟨h1, h2, h3, h4, h5, h6⟩ := hs
  have hr2 : ∀ r, row = some r → ∃ o : Obj, W.heap[r]? = some o ∧ o.isCells = false := fun r e => (hr r e).2
  exact ⟨h1, h2, box_kept h3 hg hr2, box_kept h4 hg hr2, box_kept h5 hg hr2, h6.grown hg h6.size (fun k e => Nat.le_trans hB (hr k e).1)⟩
theorem nx_own (w : World) {B : Nat} (hB : w.heap.size ≤ B := by simp; omega) (c : Code) : OwnFrom B (NX w c) := fun s W W' row hs hg hr => by
  obtain ⟨h1, h2, h6⟩ := hs
  have hr2 : ∀ r, row = some r → ∃ o : Obj, W.heap[r]? = some o ∧ o.isCells = false := fun r e => (hr r e).2
  exact ⟨h1, fun e => box_kept (h2 e) hg hr2, h6.grown hg h6.size (fun k e => Nat.le_trans hB (hr k e).1)⟩
theorem bx_drew {W : World} {B : Nat} {t : TypeId} {v : Value} (h : Boxed W B t v) : Boxed W.drew B t v := h
theorem bx_other {W : World} {B B2 : Nat} {t : TypeId} {v : Value} (h : Boxed W B t v) (hne : B ≠ B2) (u : Value) : Boxed (W.setCell ⟨B2, 0, none⟩ u) B t v := h.kept (grownBy_setCell' W B2 u) (fun e => hne (by cases e; rfl))
theorem strk_refl (W : World) : StrK W W := fun _ _ _ h => h
theorem strk_drew {W V : World} (g : StrK W V) : StrK W V.drew := fun b cs fz h => g b cs fz h
theorem strk_alloc {W V : World} (g : StrK W V) (o : Obj) : StrK W (V.alloc o) := fun b cs fz h => (Below.heap_alloc V o b (Array.getElem?_eq_some_iff.1 (g b cs fz h)).1).trans (g b cs fz h)
theorem strk_set {W V : World} {B : Nat} (u : Value) (g : StrK W V) (h : ∃ v, Boxed V B 3 v) : StrK W (V.setCell ⟨B, 0, none⟩ u) := fun b cs fz hh => by
  obtain ⟨v, h⟩ := h
  have h2 := g b cs fz hh
  have hne : b ≠ B := by
    rintro rfl
    rw [show V.heap[b]? = _ from h] at h2
    cases h2
  exact (Below.heap_setCell V ⟨B, 0, none⟩ u b hne).trans h2
theorem range_last {pre : List Nat} {x : Nat} (h : pre ++ [x] = List.range (pre ++ [x]).length) : x = pre.length := by
  have h2 := congrArg (fun l => l[pre.length]?) h
  simpa using h2
theorem range_snoc {pre : List Nat} {x : Nat} (h : pre = List.range x) (hx : pre.length = x) : pre ++ [x] = List.range (pre ++ [x]).length := by
  subst hx
  rw [List.length_append, List.length_singleton, List.range_succ, ← h]
/-- Every way through a statement ends in the same state: what follows is walked once. -/
theorem one_end {F : Fence} {n : Nat} {P : Program} {s : Code} {Q : Exit → Act → World → Prop} {a : Act} {w : World} (a2 : Act) (w2 : World) (h1 : s.wpIn F n P (fun e b v => e = .normal ∧ b = a2 ∧ v = w2) a w) (h2 : Q .normal a2 w2) : s.wpIn F n P Q a w := by
  refine wpIn_mono h1 ?_
  rintro e b v ⟨rfl, rfl, rfl⟩
  exact h2
set_option maxRecDepth 100000 in
set_option maxHeartbeats 4000000 in
theorem goes_any (most : Int) (w : World) : Calls Tryd.prog 8 #[.int .i64 most] w fun e w' => e = .returned (.bool true) ∧ Gr w w' := by
  refine (callsIn_wide (n := 3)).1 ?_
  have h1 : 1 ≤ 3 := by omega
  refine callsIn_of_wp_marks Tryd.func8 rfl trivial ?_ rfl
  simp only [Tryd.ntmps8, List.size_toArray, List.length_cons, List.length_nil, Nat.reduceAdd, Nat.reduceSub, Array.replicate_succ, Array.replicate_zero, List.push_toArray, List.append_toArray, List.nil_append, List.cons_append]
  have hnf : ∀ W : World, (binOp .eql 23 (.func (.func 23) #[] #[]) .nilFunc).run Tryd.prog W = .ok (.bool false) W := fun W => by kernel_rfl
  gi_wp2_with (refine ⟨trivial, ?_⟩; gi_at_call 7; refine (callsIn_wide.2 (names_any _)).mono ?_; rintro e w' ⟨rfl, rfl⟩)
  refine wpIn_rangeFunc_ownF (F := Fence.wide) (n := 3) rfl h1 (gf := 23) (lb := #[]) rfl trivial (enters_of Tryd.func23 (by kernel_rfl) rfl) (names1_stops (3 - 1) (by omega) _) (fun h k => h.trans k) (fun W l o o' _ hl ho _ => StrK.putObj W l o o' hl ho) (Below.refl _ _) (fun _ => rfl)
    (NI most w) (NX w) (ni_own most w) (nx_own w) ?start
    (fun x => { tmps := #[.int .i64 most, .pointer (some ⟨w.heap.size, 0, none⟩), .pointer (some ⟨w.heap.size + 1, 0, none⟩), .pointer (some ⟨w.heap.size + 1 + 1, 0, none⟩), .int .i64 ((x : Int) + 1), .string (wordB x), .func (.func 23) #[] #[], .bool false, .func (.func 23) #[] #[], .int .i64 ((x : Int) + 1), .string (wordB x), undef, undef, undef, undef, undef, undef, undef, undef, undef, undef, undef, undef, undef, undef, undef, undef, undef, undef, undef, undef, undef, undef, undef], defers := [] }) ?assign ?body ?done ?stop
  case start => exact ⟨rfl, by intro j h; simp at h; omega, ((box_new w _ _ _).alloc _).alloc _, (box_new _ _ _ _).alloc _, box_new _ _ _ _, ((((Below.refl _ w).alloc (Nat.le_refl _) _).alloc (by simp) _).alloc (by simp; omega) _)⟩
  case assign =>
    intro l x W K hK
    gi_wp2
    exact hK
  case body =>
    rintro l pre x W ⟨hp, hm, b1, b2, b3, hbw⟩ hN
    have hlt := b3.lt
    generalize hi : pre.length = i at *
    have HI := Lib.hid hi; clear hi
    have HP := Lib.hid hp; clear hp
    have c1 := b1.cell
    have c2 := b2.cell
    have c3 := b3.cell
    have f2 := b2.frozen
    have f3 := b3.frozen
    haveI i1 : Old w.heap.size W := ⟨b1.lt⟩
    haveI i2 : Old (w.heap.size + 1) W := ⟨b2.lt⟩
    haveI i3 : Old (w.heap.size + 1 + 1) W := ⟨b3.lt⟩
    have h9 : decide (9 ≤ (i : Int)) = false := by simp; omega
    have HM := Lib.hid hm; clear hm
    have HK := Lib.hid (kinds_at i hN)
    have B1 := Lib.hid b1; have B2 := Lib.hid b2; have B3 := Lib.hid b3; clear b1 b2 b3
    have HW := Lib.hid hbw; clear hbw
    have hbw := HW.out
    by_cases hx : x = i
    · subst hx
      have hk9 := HK.out
      have hwr : IntKind.i64.wrap ((x : Int) + 1) = (x : Int) + 1 := by rw [IntKind.wrap_i64]; omega
      have mixed : Tryd.prog.follows .mixedOrders = true := by kernel_rfl
      gi_wp2
      apply one_end
      case h1 =>
        gi_region_with_o (refine ⟨trivial, ?_⟩; gi_at_call 25; refine (CallsIn.inRound l (callsIn_wide.2 (kinds_any _))).mono ?_; rintro e w' ⟨rfl, rfl⟩)
        all_goals exact ⟨rfl, rfl, rfl⟩
      all_goals gi_wp2
      · refine ⟨?_, rfl, fun _ => ?_, ?_⟩
        · (repeat (first | with_reducible exact KeepsOthers.refl _ | with_reducible refine KeepsOthers.trans ?_ (KeepsOthers.setCell _ _ _) | with_reducible refine KeepsOthers.trans ?_ (KeepsOthers.drew _) | with_reducible refine KeepsOthers.trans ?_ (KeepsOthers.alloc _ _)))
        · exact bx_drew (Boxed.set _ (Boxed.alloc (bx_other B2.out (by omega) _) _))
        · (repeat (first | with_reducible exact hbw | with_reducible exact Below.refl _ _ | with_reducible apply below_alloc | with_reducible refine below_set' ?_ _ | with_reducible refine below_trans ?_ (grown_below _ _) | with_reducible refine below_iter' ?_ _ _ | with_reducible apply Below.drew))
      · refine ⟨?_, ?_, range_snoc HP.out HI.out, ?_, ?_, ?_, ?_, ?_⟩
        · (repeat (first | with_reducible exact KeepsOthers.refl _ | with_reducible refine KeepsOthers.trans ?_ (KeepsOthers.setCell _ _ _) | with_reducible refine KeepsOthers.trans ?_ (KeepsOthers.drew _) | with_reducible refine KeepsOthers.trans ?_ (KeepsOthers.alloc _ _)))
        · (repeat (first | with_reducible exact strk_refl _ | with_reducible refine strk_drew ?_ | with_reducible refine strk_alloc ?_ _ | with_reducible refine strk_set _ ?_ ⟨_, by (repeat (first | with_reducible exact B1.out | with_reducible exact B2.out | with_reducible exact B3.out | with_reducible refine bx_drew ?_ | with_reducible refine Boxed.alloc ?_ _ | with_reducible refine bx_other ?_ (by omega) _ | with_reducible apply Boxed.set))⟩))
        · intro j hj
          have e := HI.out
          rw [List.length_append, List.length_singleton, e] at hj
          have hm2 := HM.out j
          have hmo2 : ((x : Int) + 1 == most) = false := by assumption
          have hmo3 : (x : Int) + 1 ≠ most := by simpa using hmo2
          by_cases hjx : j ≤ x
          · exact hm2 ⟨hj.1, hjx⟩
          · have ej : j = x + 1 := by omega
            subst ej
            exact fun e2 => hmo3 (by rw [← e2]; rfl)
        · (repeat (first | with_reducible exact B1.out | with_reducible exact B2.out | with_reducible exact B3.out | with_reducible refine bx_drew ?_ | with_reducible refine Boxed.alloc ?_ _ | with_reducible refine bx_other ?_ (by omega) _ | with_reducible apply Boxed.set))
        · (repeat (first | with_reducible exact B1.out | with_reducible exact B2.out | with_reducible exact B3.out | with_reducible refine bx_drew ?_ | with_reducible refine Boxed.alloc ?_ _ | with_reducible refine bx_other ?_ (by omega) _ | with_reducible apply Boxed.set))
        · have e := HI.out
          rw [List.length_append, List.length_singleton, e, show ((x + 1 : Nat) : Int) = (x : Int) + 1 from rfl]
          (repeat (first | with_reducible exact B1.out | with_reducible exact B2.out | with_reducible exact B3.out | with_reducible refine bx_drew ?_ | with_reducible refine Boxed.alloc ?_ _ | with_reducible refine bx_other ?_ (by omega) _ | with_reducible apply Boxed.set))
        · (repeat (first | with_reducible exact hbw | with_reducible exact Below.refl _ _ | with_reducible apply below_alloc | with_reducible refine below_set' ?_ _ | with_reducible refine below_trans ?_ (grown_below _ _) | with_reducible refine below_iter' ?_ _ _ | with_reducible apply Below.drew))
    · have h5x : ((x : Int) = (i : Int)) = False := by simp; omega
      have hwr : IntKind.i64.wrap ((i : Int) + 1) = (i : Int) + 1 := by rw [IntKind.wrap_i64]; omega
      have h6 : ((x : Int) != (i : Int)) = true := by simp; omega
      have h4x : ((x : Int) + 1 != (i : Int) + 1) = true := by simp; omega
      have mixed : Tryd.prog.follows .mixedOrders = true := by kernel_rfl
      have hfn : Fence.wide.fn 25 := trivial
      gi_wp2
      apply one_end
      case h1 =>
        gi_region_with_o (fail)
        all_goals exact ⟨rfl, rfl, rfl⟩
      all_goals gi_wp2
      all_goals (refine ⟨?_, rfl, fun e => absurd ((range_last e).trans HI.out) hx, ?_⟩)
      all_goals (first | ((repeat (first | with_reducible exact KeepsOthers.refl _ | with_reducible refine KeepsOthers.trans ?_ (KeepsOthers.setCell _ _ _) | with_reducible refine KeepsOthers.trans ?_ (KeepsOthers.drew _) | with_reducible refine KeepsOthers.trans ?_ (KeepsOthers.alloc _ _))); done) | ((repeat (first | with_reducible exact hbw | with_reducible exact Below.refl _ _ | with_reducible apply below_alloc | with_reducible refine below_set' ?_ _ | with_reducible refine below_trans ?_ (grown_below _ _) | with_reducible refine below_iter' ?_ _ _ | with_reducible apply Below.drew)); done))
  case done =>
    rintro D ys W hD hS ⟨hp, hm, b1, b2, b3, hbw⟩ hK
    have hD2 : w.heap.size ≤ D := by simp at hD; omega
    have hS2 : ys = List.range 9 := hS
    subst hS2
    have c1 := b1.cell
    have c2 := b2.cell
    have c3 : W.cell? ⟨w.heap.size + 1 + 1, 0, none⟩ = some (.int .i64 9) := b3.cell
    have f2 := b2.frozen
    have f3 := b3.frozen
    gi_wp2
    have b5 : Boxed (W.setCell ⟨w.heap.size + 1, 0, none⟩ (.bool true)) (w.heap.size + 1) 4 (.bool true) := b2.set _
    have hK2 := (KeepsOthers.setCell W ⟨w.heap.size + 1, 0, none⟩ (.bool true)).same D _ hK rfl
    have hb5 : Below w.heap.size w (W.setCell ⟨w.heap.size + 1, 0, none⟩ (.bool true)) := by (repeat (first | with_reducible exact hbw | with_reducible exact Below.refl _ _ | with_reducible apply below_alloc | with_reducible refine below_set' ?_ _ | with_reducible refine below_trans ?_ (grown_below _ _) | with_reducible refine below_iter' ?_ _ _ | with_reducible apply Below.drew))
    refine ⟨by simp, .inl ⟨_, _, rfl, run_takeDeferred hK2, ?_⟩⟩
    have c5 := (box_kept b5 (grownBy_putObj' _ D (.deferred none)) (fun r e => by cases e; exact ⟨_, hK2, rfl⟩)).cell
    refine ⟨.bool true, ?_, rfl, Gr.of (hb5.trans (belowK_b (Nat.le_refl _) _ D _ _ hD2 hK2 rfl rfl))⟩
    simp [results, Tryd.f8, go_sem, c5]
  case stop =>
    rintro D c pre W hD ⟨k, hk, hpre⟩ ⟨rfl, ht, hbw⟩ hK
    have hD2 : w.heap.size ≤ D := by simp at hD; omega
    have b2 := ht (by subst hpre; simp)
    have c2 := b2.cell
    gi_wp2
    refine ⟨by simp, .inl ⟨_, _, rfl, run_takeDeferred hK, ?_⟩⟩
    have c5 := (box_kept b2 (grownBy_putObj' _ D (.deferred none)) (fun r e => by cases e; exact ⟨_, hK, rfl⟩)).cell
    refine ⟨.bool true, ?_, rfl, Gr.of (hbw.trans (belowK_b (Nat.le_refl _) _ D _ _ hD2 hK rfl rfl))⟩
    simp [results, Tryd.f8, go_sem, c5]
end Go.Proofs.YtgjdgafoidppaaaDoor
