/- A range over a string whose bytes are known: the iterator in whatever block. Conditions: the block holds an iterator. -/
import Derived.Test.YtgjdgafoidppaaaDoorSKit
import Derived.Lib.OthersKept
import Derived.Laws.RangeString
namespace Go.Proofs.YtgjdgafoidppaaaDoor
open Go.RowKit
set_option linter.unusedVariables false
set_option linter.unusedSimpArgs false
/-- Block k is an iterator over s, at a place. -/
class IterAt (W : World) (k : Nat) (s : outParam ByteArray) (pos : outParam Nat) : Prop where
  eq : W.heap[k]? = some (.stringIter s pos)
@[go_sem] theorem iter_alloc (W : World) (s : ByteArray) (pos : Nat) : W.iter s pos = W.alloc (.stringIter s pos) := rfl
instance (W : World) (s : ByteArray) (pos n : Nat) [h : SizeN W n] : IterAt (W.alloc (.stringIter s pos)) n s pos := ⟨by have := h.eq; subst this; simpa [World.iter] using World.iter_heap W s pos⟩
theorem IterAt.lt {W : World} {k : Nat} {s : ByteArray} {pos : Nat} (h : IterAt W k s pos) : k < W.heap.size := (Array.getElem?_eq_some_iff.1 h.eq).1
theorem IterAt.old {W : World} {k : Nat} {s : ByteArray} {pos : Nat} (h : IterAt W k s pos) : Old k W := ⟨h.lt⟩
instance (priority := low) (W : World) (o : Obj) (k : Nat) (s : ByteArray) (pos : Nat) [h : IterAt W k s pos] : IterAt (W.alloc o) k s pos := ⟨(Below.heap_alloc W o k h.lt).trans h.eq⟩
instance (W : World) (g : Growth W) (k : Nat) (s : ByteArray) (pos : Nat) [h : IterAt W k s pos] : IterAt (grown W g) k s pos := ⟨(g.below.block k h.lt).trans h.eq⟩
instance (W : World) (k : Nat) (s : ByteArray) (pos : Nat) [h : IterAt W k s pos] : IterAt W.drew k s pos := ⟨h.eq⟩
instance (W : World) (a : Addr) (v : Value) (k : Nat) (s : ByteArray) (pos : Nat) [h : IterAt W k s pos] : IterAt (W.setCell a v) k s pos := ⟨by
  have := h.eq
  by_cases e : k = a.block
  · subst e; simp [World.setCell, Array.getElem?_modify, this]
  · exact (Below.heap_setCell W a v k e).trans this⟩
instance (W : World) (k : Nat) (s s' : ByteArray) (pos pos' : Nat) [h : IterAt W k s pos] : IterAt (W.iterAt k s' pos') k s' pos' := ⟨by
  have := h.lt
  simp [World.iterAt, this]⟩
section
variable {P : Program}
@[go_sem] theorem run_next_at (W : World) (k : Nat) (s : ByteArray) (pos : Nat) (ty : TypeId) [h : IterAt W k s pos] :
    (Instr.next (.pointer (some ⟨k, 0, none⟩)) true ty).run P W = if pos < s.size then .ok (.tuple #[.bool true, .int .i64 pos, .int .i32 (Utf8.decode s pos).1]) (W.iterAt k s (pos + (Utf8.decode s pos).2)) else .ok (.tuple #[.bool false]) W := by
  by_cases hp : pos < s.size
  · rw [if_pos hp]; exact Lib.run_next_any_at W k s pos ty h.eq hp
  · rw [if_neg hp]; exact Lib.run_next_end_at W k s pos ty h.eq hp
end
@[go_sem] theorem iterAt_cells (W : World) (k b o : Nat) (s : ByteArray) (pos pos' : Nat) [h : IterAt W k s pos] : (W.iterAt k s pos').cell? ⟨b, o, none⟩ = W.cell? ⟨b, o, none⟩ := by
  by_cases e : b = k
  · subst e
    have h2 : (W.iterAt b s pos').heap[b]? = some (.stringIter s pos') := Lib.iterAt_heap W b s pos pos' h.eq
    simp [World.cell?, h.eq, h2]
  · simp [World.cell?, Lib.iterAt_other W k b s pos' e]
@[go_sem] theorem iterAt_frozen (W : World) (k b o : Nat) (s : ByteArray) (pos pos' : Nat) [h : IterAt W k s pos] : (W.iterAt k s pos').frozen? ⟨b, o, none⟩ = W.frozen? ⟨b, o, none⟩ := by
  by_cases e : b = k
  · subst e
    have h2 : (W.iterAt b s pos').heap[b]? = some (.stringIter s pos') := Lib.iterAt_heap W b s pos pos' h.eq
    simp [World.frozen?, h.eq, h2]
  · simp [World.frozen?, Lib.iterAt_other W k b s pos' e]
@[go_sem] theorem iterAt_size (W : World) (k : Nat) (s : ByteArray) (pos : Nat) : (W.iterAt k s pos).heap.size = W.heap.size := Lib.iterAt_size W k s pos
instance (W : World) (k : Nat) (s : ByteArray) (pos n : Nat) [h : SizeN W n] : SizeN (W.iterAt k s pos) n := ⟨by rw [Lib.iterAt_size]; exact h.eq⟩
instance (W : World) (k b : Nat) (s : ByteArray) (pos : Nat) [h : Old b W] : Old b (W.iterAt k s pos) := ⟨by rw [Lib.iterAt_size]; exact h.lt⟩
theorem below_iter {a w : World} (h : Below a.heap.size a w) {k : Nat} (hk : a.heap.size ≤ k) (s : ByteArray) (pos : Nat) : Below a.heap.size a (w.iterAt k s pos) := Lib.below_iterAt h hk s pos
instance (W : World) (k : Nat) (s : ByteArray) (pos : Nat) [h : Tb W] [hf : Far k] : Tb (W.iterAt k s pos) :=
  h.keep (by rw [Lib.iterAt_size]; exact Nat.le_refl _) (fun c hc => Lib.iterAt_other W k c s pos (by have := hf.le; omega))
/-- A world with no fewer blocks; a block that is none of them. -/
class From (a W : World) : Prop where
  le : a.heap.size ≤ W.heap.size
class Past (a : World) (b : Nat) : Prop where
  le : a.heap.size ≤ b
instance from_refl (a : World) : From a a := ⟨Nat.le_refl _⟩
instance (a W : World) (o : Obj) [h : From a W] : From a (W.alloc o) := ⟨by have := h.le; simp; omega⟩
instance (a W : World) (g : Growth W) [h : From a W] : From a (grown W g) := ⟨Nat.le_trans h.le g.below.size⟩
instance (a W : World) [h : From a W] : From a W.drew := ⟨h.le⟩
instance (a W : World) (p : Addr) (v : Value) [h : From a W] : From a (W.setCell p v) := ⟨by have := h.le; simpa [World.setCell] using this⟩
instance (a W : World) (k : Nat) (s : ByteArray) (pos : Nat) [h : From a W] : From a (W.iterAt k s pos) := ⟨by rw [Lib.iterAt_size]; exact h.le⟩
instance (a W : World) [h : From a W] : Past a W.heap.size := ⟨h.le⟩
instance (a : World) (b : Nat) [h : Past a b] : Past a (b + 1) := ⟨Nat.le_succ_of_le h.le⟩
theorem past {a : World} {b : Nat} [h : Past a b] : a.heap.size ≤ b := h.le
theorem below_iter' {a w : World} (h : Below a.heap.size a w) {k : Nat} [hk : Past a k] (s : ByteArray) (pos : Nat) : Below a.heap.size a (w.iterAt k s pos) := Lib.below_iterAt h hk.le s pos
theorem below_set' {a w : World} (h : Below a.heap.size a w) {b o : Nat} [hp : Past a b] (u : Value) : Below a.heap.size a (w.setCell ⟨b, o, none⟩ u) := h.setCell (p := ⟨b, o, none⟩) hp.le u
end Go.Proofs.YtgjdgafoidppaaaDoor
