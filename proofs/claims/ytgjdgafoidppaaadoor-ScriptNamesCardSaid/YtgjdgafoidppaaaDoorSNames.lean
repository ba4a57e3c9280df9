/- script.Names: the operations' words, one behind the other, to whatever loop keeps rows of words. Conditions: none. -/
import Derived.Test.YtgjdgafoidppaaaDoorSOpT
import Derived.RangeFuncNested
import Derived.RangeFuncBound
import Derived.RangeFuncCalls
import Derived.RangeFuncLeaves
import Derived.Shelf.Abstract
import Derived.Shelf.RegionOpen
import Derived.OwnWalkIn
import Derived.TacticsInMore
import Derived.LoopNIn
import Derived.LoopIn
namespace Go.Proofs.YtgjdgafoidppaaaDoor
open Go.RowKit Go.Shelf
set_option linter.unusedVariables false
set_option linter.unusedSimpArgs false
set_option linter.unnecessarySimpa false
attribute [local go_sem] Oper.semAt_some
def wordsA : Array Value := #[.string ⟨#[]⟩, .string ⟨#[99, 114, 101, 97, 116, 101]⟩, .string ⟨#[100, 101, 108, 101, 116, 101]⟩, .string ⟨#[114, 101, 115, 105, 122, 101]⟩, .string ⟨#[115, 110, 97, 112]⟩, .string ⟨#[119, 114, 105, 116, 101]⟩, .string ⟨#[122, 101, 114, 111]⟩, .string ⟨#[100, 105, 115, 99, 97, 114, 100]⟩, .string ⟨#[102, 108, 117, 115, 104]⟩, .string ⟨#[114, 101, 97, 100]⟩]
def wordB (k : Nat) : ByteArray := (([⟨#[99, 114, 101, 97, 116, 101]⟩, ⟨#[100, 101, 108, 101, 116, 101]⟩, ⟨#[114, 101, 115, 105, 122, 101]⟩, ⟨#[115, 110, 97, 112]⟩, ⟨#[119, 114, 105, 116, 101]⟩, ⟨#[122, 101, 114, 111]⟩, ⟨#[100, 105, 115, 99, 97, 114, 100]⟩, ⟨#[102, 108, 117, 115, 104]⟩, ⟨#[114, 101, 97, 100]⟩] : List ByteArray)[k]?).getD ⟨#[]⟩
theorem words_at (k : Nat) (h : k < 9) : wordsA[1 + k]? = some (.string (wordB k)) := by
  have h2 : k = 0 ∨ k = 1 ∨ k = 2 ∨ k = 3 ∨ k = 4 ∨ k = 5 ∨ k = 6 ∨ k = 7 ∨ k = 8 := by omega
  rcases h2 with rfl | rfl | rfl | rfl | rfl | rfl | rfl | rfl | rfl <;> rfl
/-- Rows of words stay. -/
def StrK (A B : World) : Prop := ∀ (b : Nat) (cs : Array Value) (fz : Nat × Nat), A.heap[b]? = some (Obj.cells cs 9 fz) → B.heap[b]? = some (Obj.cells cs 9 fz)
theorem StrK.trans {A B C : World} (h : StrK A B) (k : StrK B C) : StrK A C := fun b cs fz hh => k b cs fz (h b cs fz hh)
theorem StrK.putObj (W : World) (l : Nat) (o o' : Obj) (hl : W.heap[l]? = some o) (ho : o.isCells = false) : StrK W (W.putObj l o') := fun b cs fz hh => by
  have hne : b ≠ l := by
    rintro rfl
    rw [hh] at hl
    cases hl
    cases ho
  rw [World.putObj_heap_other hne]
  exact hh
abbrev encW (k : Nat) : Array Value := #[.int .i64 ((k : Int) + 1), .string (wordB k)]
set_option maxRecDepth 100000 in
set_option maxHeartbeats 2000000 in
theorem names1_stops (n : Nat) (hn : 1 ≤ n) (w0 : World) : SeqStopsK Fence.wide n Tryd.prog 23 #[] encW StrK (fun xs => xs = List.range 9) (fun pre => ∃ k, k ≤ 9 ∧ pre = List.range k) 9 w0 := fun l J Jx W hW hJ hJx hY h0 => by
  refine callsIn_of_wp Tryd.func23 rfl trivial ?_ rfl
  simp only [Tryd.ntmps23, List.size_toArray, List.length_cons, List.length_nil, Nat.reduceAdd, Nat.reduceSub, Array.replicate_succ, Array.replicate_zero, List.push_toArray, List.append_toArray, List.nil_append, List.cons_append]
  have hO := Lib.hid (fun V => (opWords_any V).mono (R' := fun e w' => e = .returned (.slice (some ⟨V.heap.size, 0, none⟩) 10 10) ∧ w' = V.alloc (.cells wordsA 9)) fun _ _ h => h)
  gi_wp2_with (refine ⟨trivial, ?_⟩; gi_at_call 24; refine (callsIn_wide.2 (hO.out _)).mono ?_; rintro e w' ⟨rfl, rfl⟩)
  have hJ0 : J [] (W.alloc (.cells wordsA 9)) := hJ _ _ _ none h0 (World.grownBy_alloc W _ none) (fun r e => by cases e)
  gi_loopw [7] (fun i wr => ∃ k : Nat, k ≤ 9 ∧ i = .int .i64 k ∧ J (List.range k) wr ∧ wr.heap[W.heap.size]? = some (.cells wordsA 9 (0, 0))) (fun i _ => 9 - (intOf i).toNat)
  case atStart => exact ⟨0, Nat.zero_le _, rfl, hJ0, heap_alloc_new W _⟩
  case round =>
    obtain ⟨k, hk, rfl, hJs, hbk⟩ := hrel
    by_cases hlt : k < 9
    · have hcx : wr.cell? ⟨W.heap.size, 1 + k, none⟩ = some (.string (wordB k)) := by
        simp only [World.cell?, hbk]; exact words_at k hlt
      obtain ⟨fn, tmps, assign, body, hy, hR⟩ := hY _ k wr hJs (by rw [List.length_range]; exact hlt)
      dsimp only [encW] at hy
      gi_wp2
      refine hR.mono ?_
      rintro e W3 (⟨rfl, hJ3, hk3⟩ | ⟨rfl, hJx3⟩)
      · gi_wp2
        go_roundw
        case rel => exact ⟨k + 1, by omega, by simp, by rw [List.range_succ]; exact hJ3, hk3 _ _ _ hbk⟩
        case measure => simp [intOf]; omega
      · gi_wp2
        refine bodyPost_ret (results_none rfl _ _ _) rfl ?_
        exact ⟨⟨_, rfl⟩, .inr ⟨_, ⟨k + 1, by omega, by rw [List.range_succ]⟩, hJx3⟩⟩
    · obtain rfl : k = 9 := by omega
      gi_wp2
      go_end0
      exact ⟨⟨_, rfl⟩, .inl ⟨_, rfl, hJs⟩⟩
end Go.Proofs.YtgjdgafoidppaaaDoor
