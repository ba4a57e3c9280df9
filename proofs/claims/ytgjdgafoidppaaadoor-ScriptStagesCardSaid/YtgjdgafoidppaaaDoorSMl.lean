/- strings.Split at one letter, with what it asks of the world. Conditions: internal/bytealg.MaxLen holds a number; a text of less than 2^32 - 15 bytes. -/
import Derived.Test.YtgjdgafoidppaaaDoorSPl
import Derived.Test.YtgjdgafoidppaaaDoorIter
import Derived.Test.YtgjdgafoidppaaaDoorShelf
import Derived.Lib.Strings
namespace Go.Proofs.YtgjdgafoidppaaaDoor
open Go.RowKit
set_option linter.unusedVariables false
set_option linter.unusedSimpArgs false
/-- internal/bytealg.MaxLen holds a number. -/
class Ml (W : World) : Prop where
  ml : ∃ m, W.cell? ⟨0, 0, none⟩ = some (.int .i64 m)
theorem Ml.keep {W W' : World} (h : Ml W) (hk : W'.heap[0]? = W.heap[0]?) : Ml W' := by
  obtain ⟨m, hm⟩ := h.ml
  refine ⟨m, ?_⟩
  simp only [World.cell?] at hm ⊢
  rw [hk]; exact hm
theorem Ml.lt {W : World} (h : Ml W) : 0 < W.heap.size := by
  obtain ⟨m, hm⟩ := h.ml
  exact (old_of_cell hm).lt
instance (W : World) (o : Obj) [h : Ml W] : Ml (W.alloc o) := h.keep (Below.heap_alloc W o _ h.lt)
instance (W : World) (g : Growth W) [h : Ml W] : Ml (grown W g) := h.keep (g.below.block _ h.lt)
instance (W : World) [h : Ml W] : Ml W.drew := h.keep rfl
instance (W : World) (b o : Nat) (v : Value) [h : Ml W] [hf : Far b] : Ml (W.setCell ⟨b, o, none⟩ v) := h.keep (Below.heap_setCell W ⟨b, o, none⟩ v _ (by have := hf.le; show 0 ≠ b; omega))
instance (W : World) (k : Nat) (s : ByteArray) (pos : Nat) [h : Ml W] [hf : Far k] : Ml (W.iterAt k s pos) := h.keep (Lib.iterAt_other W k _ s pos (by have := hf.le; omega))
/-- A text's words. -/
def wordsB (c : UInt8) (s : ByteArray) : List ByteArray := (cutL c s.data.toList).map fun l => ⟨l.toArray⟩
theorem wordsB_data (c : UInt8) (s : ByteArray) : (wordsB c s).map (·.data.toList) = cutL c s.data.toList := by
  simp [wordsB, Function.comp_def]
theorem wordsB_ne (c : UInt8) (s : ByteArray) : wordsB c s ≠ [] := by
  intro h
  exact cutL_ne c s.data.toList (by simpa [wordsB] using h)
theorem splitB_words (c : UInt8) (s : ByteArray) : Lib.splitB ⟨#[c]⟩ 0 (Lib.countB s ⟨#[c]⟩) s = wordsB c s := by
  have h := splitB_one c s
  have h2 : (Lib.splitB ⟨#[c]⟩ 0 (Lib.countB s ⟨#[c]⟩) s).map (fun x => (⟨x.data.toList.toArray⟩ : ByteArray)) = wordsB c s := by
    rw [wordsB, ← h, List.map_map]; rfl
  rw [← h2]
  simp
theorem wordsB_len (c : UInt8) (s : ByteArray) : (wordsB c s).length = Lib.countB s ⟨#[c]⟩ + 1 := by
  rw [← splitB_words]
  exact Lib.splitB_all ⟨#[c]⟩ (Nat.le_refl 1) 0 _ s rfl
theorem wordsB_le (c : UInt8) (s : ByteArray) : (wordsB c s).length ≤ s.size + 1 := by
  have := cutL_len_le c s.data.toList
  rw [Lib.size_eq]
  simpa [wordsB] using this
theorem wordsB_each (c : UInt8) (s x : ByteArray) (h : x ∈ wordsB c s) : x.size ≤ s.size := by
  simp only [wordsB, List.mem_map] at h
  obtain ⟨l, hl, rfl⟩ := h
  have := cutL_each c s.data.toList l hl
  rw [Lib.size_eq s]
  exact this
theorem split_any (s : ByteArray) (c : UInt8) (W : World) [h : Ml W] (hs : s.size < 4294967281) :
    Calls Tryd.prog 27 #[.string s, .string ⟨#[c]⟩] W fun e w' => e = .returned (.slice (some ⟨W.heap.size, 0, none⟩) (wordsB c s).length (wordsB c s).length) ∧ w' = W.alloc (.cells ((wordsB c s).map Value.string).toArray 9) := by
  obtain ⟨m, hm⟩ := h.ml
  have h1 := Tryd.strings_Split s ⟨#[c]⟩ m W hs hm (Nat.le_refl 1)
  rw [splitB_words] at h1
  rw [wordsB_len]
  exact h1
end Go.Proofs.YtgjdgafoidppaaaDoor
