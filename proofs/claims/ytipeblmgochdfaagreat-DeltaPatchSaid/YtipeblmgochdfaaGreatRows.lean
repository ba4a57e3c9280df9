/-
  No cell of these rows narrows 'for every input' (looked for: loops, veiled, ifaces, maps, wideKeys, modest, calm, conditions, laid).
  DERIVED. THE GIVEN ROWS OF THIS SEAT. 3 by the template 'for every input the law returns true; each argument reads behind the call as it read before'; 0 by the template 'total and deterministic' (their statements: YtipeblmgochdfaaGreatTotals.lean).
  GIVEN WITH THE SEED: the statements are not yours to turn. If you find one false, say at which input.
  Laid BY PROGRAM, IN A SANDBOX (cutbox-rows.mjs): the forced cells as the released guide's own fill.sh prints them over the translation e1d01ebe0b5042e9… (all of the seat's roots in one cut). By AI agents, Wed Nov 11 2026. No macro, syntax, notation, axiom, sorry.
-/
import Derived.Test.YtipeblmgochdfaaGreatChecked
import GoSem.Claim
import GoSem.ClaimJoined
import GoSem.ClaimMapViews
import Derived.JoinedTies
import Derived.KernelRfl
namespace Go.Proofs.YtipeblmgochdfaaGreat
/- THE CELL 'sum', in the pinned program and in every row, IS THE sha256 OF THE DUMP (.gsa) THAT YtipeblmgochdfaaGreatProg.lean LOADS. Nothing in Lean hashes anything: it is a label: what it is worth is what the hold of that sum in a sandbox is worth. -/
noncomputable def Tryz.pinned : Pinned := { name := "ytipeblmgochdfaagreat", sum := "e1d01ebe0b5042e9b588f0a618d5b7853eed49b90699402019c339a6892ebbd6", checked := Tryz.checked }
namespace Rows
def none {H : Type} : Left H := { results := [], args := [] }

/-- 'voilelaw29.DeltaNil': WHATEVER THE INPUT: true; the input reads as it did. -/
def deltaNilSpec : ChangeSpec := { name := "deltaNil", fn := fun _ => fun
  | [] => { results := [.lit (.bool true)], args := [] }
  | _ => none }
def deltaNilRow : OpenClaim := { program := "ytipeblmgochdfaagreat", sum := "e1d01ebe0b5042e9b588f0a618d5b7853eed49b90699402019c339a6892ebbd6", func := "voile/voilelaw29.DeltaNil", spec := "deltaNil", inPlace := ["maps.clone"], unfollowed := true, recurses := true, apart := false }
def DeltaNilSaid : Prop := deltaNilRow.holds Tryz.pinned (OpenSpec.ofChange deltaNilSpec)

/-- ITS FALSE NEIGHBOUR: 'it returns false'. Refute it at one input. -/
def deltaNilWrong : ChangeSpec := { name := "deltaNil", fn := fun _ => fun
  | [] => { results := [.lit (.bool false)], args := [] }
  | _ => none }
def DeltaNilWrongFalsely : Prop := deltaNilRow.holds Tryz.pinned (OpenSpec.ofChange deltaNilWrong)

/-- 'voilelaw29.DeltaRows': WHATEVER THE INPUT: true; the input reads as it did. -/
def deltaRowsSpec : ChangeSpec := { name := "deltaRows", fn := fun _ => fun
  | [d1, d2, d3] => { results := [.lit (.bool true)], args := [d1, d2, d3] }
  | _ => none }
def deltaRowsRow : OpenClaim := { program := "ytipeblmgochdfaagreat", sum := "e1d01ebe0b5042e9b588f0a618d5b7853eed49b90699402019c339a6892ebbd6", func := "voile/voilelaw29.DeltaRows", spec := "deltaRows", inPlace := ["maps.clone", "internal/bytealg.IndexByteString", "internal/bytealg.IndexString"], unfollowed := true, recurses := true, named := ["internal/bytealg.MaxLen"], apart := false }
def DeltaRowsSaid : Prop := deltaRowsRow.holds Tryz.pinned (OpenSpec.ofChange deltaRowsSpec)

/-- ITS FALSE NEIGHBOUR: 'it returns false'. Refute it at one input. -/
def deltaRowsWrong : ChangeSpec := { name := "deltaRows", fn := fun _ => fun
  | [d1, d2, d3] => { results := [.lit (.bool false)], args := [d1, d2, d3] }
  | _ => none }
def DeltaRowsWrongFalsely : Prop := deltaRowsRow.holds Tryz.pinned (OpenSpec.ofChange deltaRowsWrong)

/-- 'voilelaw29.DeltaPatch': WHATEVER THE INPUT: true; the input reads as it did. -/
def deltaPatchSpec : ChangeSpec := { name := "deltaPatch", fn := fun _ => fun
  | [d1, d2, d3] => { results := [.lit (.bool true)], args := [d1, d2, d3] }
  | _ => none }
def deltaPatchRow : OpenClaim := { program := "ytipeblmgochdfaagreat", sum := "e1d01ebe0b5042e9b588f0a618d5b7853eed49b90699402019c339a6892ebbd6", func := "voile/voilelaw29.DeltaPatch", spec := "deltaPatch", inPlace := ["maps.clone", "internal/bytealg.IndexByteString", "internal/bytealg.IndexString"], unfollowed := true, recurses := true, named := ["internal/bytealg.MaxLen"], apart := false }
def DeltaPatchSaid : Prop := deltaPatchRow.holds Tryz.pinned (OpenSpec.ofChange deltaPatchSpec)

/-- ITS FALSE NEIGHBOUR: 'it returns false'. Refute it at one input. -/
def deltaPatchWrong : ChangeSpec := { name := "deltaPatch", fn := fun _ => fun
  | [d1, d2, d3] => { results := [.lit (.bool false)], args := [d1, d2, d3] }
  | _ => none }
def DeltaPatchWrongFalsely : Prop := deltaPatchRow.holds Tryz.pinned (OpenSpec.ofChange deltaPatchWrong)

/- THE SECOND FORM. 'bulk': how many values and letters a reading holds, each counted each time it is reached (what is shared counts as often as it is met; a slice's spare places count too). A statement '..UptoSaid' is the law's where the arguments, and the package variables that the reading takes, are together of bulk at most 1048576: NARROWER than '..Said'. Prove '..Said' where nothing that the law and all that it calls make is longer than what came in: it says more and counts as full. Else prove '..UptoSaid'. A law counts once. -/
mutual
def uptoBulk {H : Type} : DataW H → Nat
  | .lit (.string bytes) => bytes.length + 1
  | .lit _ => 1
  | .nil => 1
  | .ptr d => uptoBulk d + 1
  | .slice elems spare => uptoBulkAll elems + uptoBulkAll spare + 1
  | .agg parts => uptoBulkAll parts + 1
  | .iface _ d => uptoBulk d + 1
  | .map entries => uptoBulkEntries entries + 1
  | .held _ => 1
def uptoBulkAll {H : Type} : List (DataW H) → Nat
  | [] => 0
  | d :: r => uptoBulk d + uptoBulkAll r
def uptoBulkEntries {H : Type} : List (Lit × DataW H) → Nat
  | [] => 0
  | x :: r => uptoBulkEntry x + uptoBulkEntries r
def uptoBulkEntry {H : Type} : Lit × DataW H → Nat
  | (.string bytes, d) => bytes.length + uptoBulk d + 1
  | (_, d) => uptoBulk d + 1
 end
def uptoSmall : (H : Type) → List (DataW H) → Bool := fun _ ds => decide (uptoBulkAll ds ≤ 1048576)
def OpenSpec.upto (s : _root_.Go.ChangeSpec) : _root_.Go.OpenSpec := { _root_.Go.OpenSpec.ofChange s with cond := some uptoSmall }

/-- 'voilelaw29.DeltaNil', WHERE WHAT IT READS IS OF BULK AT MOST 1048576: true; the input reads as it did. -/
def deltaNilUptoRow : OpenClaim := { program := "ytipeblmgochdfaagreat", sum := "e1d01ebe0b5042e9b588f0a618d5b7853eed49b90699402019c339a6892ebbd6", func := "voile/voilelaw29.DeltaNil", spec := "deltaNil", inPlace := ["maps.clone"], unfollowed := true, recurses := true, apart := false, narrowed := true }
def DeltaNilUptoSaid : Prop := deltaNilUptoRow.holds Tryz.pinned (OpenSpec.upto deltaNilSpec)

/-- 'voilelaw29.DeltaRows', WHERE WHAT IT READS IS OF BULK AT MOST 1048576: true; the input reads as it did. -/
def deltaRowsUptoRow : OpenClaim := { program := "ytipeblmgochdfaagreat", sum := "e1d01ebe0b5042e9b588f0a618d5b7853eed49b90699402019c339a6892ebbd6", func := "voile/voilelaw29.DeltaRows", spec := "deltaRows", inPlace := ["maps.clone", "internal/bytealg.IndexByteString", "internal/bytealg.IndexString"], unfollowed := true, recurses := true, named := ["internal/bytealg.MaxLen"], apart := false, narrowed := true }
def DeltaRowsUptoSaid : Prop := deltaRowsUptoRow.holds Tryz.pinned (OpenSpec.upto deltaRowsSpec)

/-- 'voilelaw29.DeltaPatch', WHERE WHAT IT READS IS OF BULK AT MOST 1048576: true; the input reads as it did. -/
def deltaPatchUptoRow : OpenClaim := { program := "ytipeblmgochdfaagreat", sum := "e1d01ebe0b5042e9b588f0a618d5b7853eed49b90699402019c339a6892ebbd6", func := "voile/voilelaw29.DeltaPatch", spec := "deltaPatch", inPlace := ["maps.clone", "internal/bytealg.IndexByteString", "internal/bytealg.IndexString"], unfollowed := true, recurses := true, named := ["internal/bytealg.MaxLen"], apart := false, narrowed := true }
def DeltaPatchUptoSaid : Prop := deltaPatchUptoRow.holds Tryz.pinned (OpenSpec.upto deltaPatchSpec)

end Rows
end Go.Proofs.YtipeblmgochdfaaGreat
