/- What stands below the call's own blocks, for the laws of layer 26. Conditions: none. -/
import Derived.Test.YtgjdgafoidppaaaDoorGrow
import Derived.Test.YtgjdgafoidppaaaDoorRows
import Derived.Lib.LaidTab
import Derived.Lib.ItoaMem
import Derived.Shelf.Unicode.DecodeSlow
import Derived.Lib.Hide
namespace Go.Proofs.YtgjdgafoidppaaaDoor
open Go.RowKit
set_option linter.unusedVariables false
set_option linter.unusedSimpArgs false
/-- A block that no package-level variable has. -/
class Far (b : Nat) : Prop where
  le : 6 ≤ b
/-- The table of strconv's powers stands. -/
class Tb (W : World) : Prop where
  size : 6 ≤ W.heap.size
  pow : Lib.TabIs Tryd.prog W "internal/strconv.uint64pow10" .u64 Lib.pow10Tab
theorem global_pow : Tryd.prog.globalNamed "internal/strconv.uint64pow10" = some 1 := by kernel_rfl
theorem Tb.keep {W W' : World} (h : Tb W) (hs : W.heap.size ≤ W'.heap.size) (hk : ∀ b, b < 6 → W'.heap[b]? = W.heap[b]?) : Tb W' :=
  ⟨Nat.le_trans h.size hs, by
    have := h.pow
    unfold Lib.TabIs World.var? at this ⊢
    rw [global_pow] at this ⊢
    simpa [hk 1 (by omega)] using this⟩
instance far_size (W : World) [h : Tb W] : Far W.heap.size := ⟨h.size⟩
instance far_succ (b : Nat) [h : Far b] : Far (b + 1) := ⟨Nat.le_succ_of_le h.le⟩
instance (W : World) (o : Obj) [h : Tb W] : Tb (W.alloc o) := h.keep (by simp) (fun b hb => Below.heap_alloc W o b (Nat.lt_of_lt_of_le hb h.size))
instance (W : World) (g : Growth W) [h : Tb W] : Tb (grown W g) := h.keep g.below.size (fun b hb => g.below.block b (Nat.lt_of_lt_of_le hb h.size))
instance (W : World) [h : Tb W] : Tb W.drew := h.keep (Nat.le_refl _) (fun b hb => rfl)
instance (W : World) (b o : Nat) (v : Value) [h : Tb W] [hf : Far b] : Tb (W.setCell ⟨b, o, none⟩ v) :=
  h.keep (by simp [World.setCell]) (fun c hc => Below.heap_setCell W ⟨b, o, none⟩ v c (by have := hf.le; show c ≠ b; omega))
theorem Tb.of_below {W W' : World} [h : Tb W] (hb : Below W.heap.size W W') : Tb W' := h.keep hb.size (fun b hb' => hb.block b (Nat.lt_of_lt_of_le hb' h.size))
end Go.Proofs.YtgjdgafoidppaaaDoor
