/- Blocks whose cells are known, found by instances at any depth. Conditions: none. -/
import Derived.Test.YtgjdgafoidppaaaDoorIter
namespace Go.Proofs.YtgjdgafoidppaaaDoor
open Go.RowKit
set_option linter.unusedVariables false
set_option linter.unusedSimpArgs false
/-- Two blocks are not one. -/
class BNe (a b : Nat) : Prop where
  ne : a ≠ b
/-- A block's cells. -/
class BlockAt (W : World) (B : Nat) (cs : outParam (Array Value)) (t : outParam TypeId) : Prop where
  eq : W.heap[B]? = some (.cells cs t (0, 0))
theorem BlockAt.lt {W : World} {B : Nat} {cs : Array Value} {t : TypeId} (h : BlockAt W B cs t) : B < W.heap.size := (Array.getElem?_eq_some_iff.1 h.eq).1
theorem BlockAt.old {W : World} {B : Nat} {cs : Array Value} {t : TypeId} (h : BlockAt W B cs t) : Old B W := ⟨h.lt⟩
instance blockAt_new (W : World) (cs : Array Value) (t : TypeId) (n : Nat) [h : SizeN W n] : BlockAt (W.alloc (.cells cs t)) n cs t := ⟨by have := h.eq; subst this; exact heap_alloc_new W _⟩
instance (priority := low) (W : World) (o : Obj) (B : Nat) (cs : Array Value) (t : TypeId) [h : BlockAt W B cs t] : BlockAt (W.alloc o) B cs t := ⟨(Below.heap_alloc W o B h.lt).trans h.eq⟩
instance (W : World) (g : Growth W) (B : Nat) (cs : Array Value) (t : TypeId) [h : BlockAt W B cs t] : BlockAt (grown W g) B cs t := ⟨(g.below.block B h.lt).trans h.eq⟩
instance (W : World) (B : Nat) (cs : Array Value) (t : TypeId) [h : BlockAt W B cs t] : BlockAt W.drew B cs t := ⟨h.eq⟩
instance (W : World) (B o : Nat) (v : Value) (cs : Array Value) (t : TypeId) [h : BlockAt W B cs t] : BlockAt (W.setCell ⟨B, o, none⟩ v) B (cs.setIfInBounds o v) t := ⟨by
  have := h.eq
  simp only [World.setCell, Array.getElem?_modify, this]
  simp [Array.set!_eq_setIfInBounds]⟩
instance (priority := low) (W : World) (B C o : Nat) (v : Value) (cs : Array Value) (t : TypeId) [h : BlockAt W B cs t] [k : BNe B C] : BlockAt (W.setCell ⟨C, o, none⟩ v) B cs t := ⟨(Below.heap_setCell W ⟨C, o, none⟩ v B k.ne).trans h.eq⟩
instance (W : World) (k : Nat) (s : ByteArray) (pos : Nat) (B : Nat) (cs : Array Value) (t : TypeId) [h : BlockAt W B cs t] [hi : IterAt W k s pos] (s' : ByteArray) (pos' : Nat) : BlockAt (W.iterAt k s' pos') B cs t := ⟨by
  have hne : B ≠ k := by
    rintro rfl
    have := hi.eq
    rw [h.eq] at this
    cases this
  exact (Lib.iterAt_other W k B s' pos' hne).trans h.eq⟩
theorem block_cells (W : World) (B o : Nat) (cs : Array Value) (t : TypeId) [h : BlockAt W B cs t] : W.cell? ⟨B, o, none⟩ = cs[o]? := by
  simp [World.cell?, h.eq]
theorem block_frozen (W : World) (B o : Nat) (cs : Array Value) (t : TypeId) [h : BlockAt W B cs t] : W.frozen? ⟨B, o, none⟩ = false := by
  simp [World.frozen?, h.eq]
theorem BlockAt.gr {W W' : World} {B : Nat} {cs : Array Value} {t : TypeId} (h : BlockAt W B cs t) (g : Gr W W') : BlockAt W' B cs t := ⟨(g.below.block B h.lt).trans h.eq⟩
theorem BlockAt.grown {W W' : World} {B : Nat} {cs : Array Value} {t : TypeId} {row : Option Nat} (h : BlockAt W B cs t) (g : W.grownBy W' row) (hne : some B ≠ row) : BlockAt W' B cs t := ⟨(g.block B h.lt hne).trans h.eq⟩
instance bne_old (W : World) (B : Nat) [h : Old B W] : BNe B W.heap.size := ⟨Nat.ne_of_lt h.lt⟩
instance bne_old' (W : World) (B : Nat) [h : Old B W] : BNe W.heap.size B := ⟨(Nat.ne_of_lt h.lt).symm⟩
instance bne_succ (B : Nat) : BNe B (B + 1) := ⟨by omega⟩
instance bne_succ' (B : Nat) : BNe (B + 1) B := ⟨by omega⟩
end Go.Proofs.YtgjdgafoidppaaaDoor
