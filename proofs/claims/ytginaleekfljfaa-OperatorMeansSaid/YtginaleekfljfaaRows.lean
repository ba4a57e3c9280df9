/-
  No cell of these rows narrows 'for every input' (looked for: loops, veiled, ifaces, maps, wideKeys, modest, calm, conditions, laid).
  DERIVED. THE GIVEN ROWS OF THIS SEAT. 6 by the template 'for every input the law returns true; each argument reads behind the call as it read before'; 0 by the template 'total and deterministic' (their statements: YtginaleekfljfaaTotals.lean).
  GIVEN WITH THE SEED: the statements are not yours to turn. If you find one false, say at which input.
  Laid BY PROGRAM, IN A SANDBOX (cutbox-rows.mjs): the forced cells as the released guide's own fill.sh prints them over the translation 5773115aaedab133… (all of the seat's roots in one cut). By AI agents, Wed Nov 11 2026. No macro, syntax, notation, axiom, sorry.
-/
import Derived.Test.YtginaleekfljfaaChecked
import GoSem.Claim
import GoSem.ClaimJoined
import GoSem.ClaimMapViews
import Derived.JoinedTies
import Derived.KernelRfl
namespace Go.Proofs.Ytginaleekfljfaa
/- THE CELL 'sum', in the pinned program and in every row, IS THE sha256 OF THE DUMP (.gsa) THAT YtginaleekfljfaaProg.lean LOADS. Nothing in Lean hashes anything: it is a label: what it is worth is what the hold of that sum in a sandbox is worth. -/
noncomputable def Try.pinned : Pinned := { name := "ytginaleekfljfaa", sum := "5773115aaedab133be8b29a23ad03f6bb454e7e5dfd94402179533efbec3c8ac", checked := Try.checked }
namespace Rows
def none {H : Type} : Left H := { results := [], args := [] }

/-- 'voilelaw18.StateMeets': WHATEVER THE INPUT: true; the input reads as it did. -/
def stateMeetsSpec : ChangeSpec := { name := "stateMeets", fn := fun _ => fun
  | [d1, d2] => { results := [.lit (.bool true)], args := [d1, d2] }
  | _ => none }
def stateMeetsRow : OpenClaim := { program := "ytginaleekfljfaa", sum := "5773115aaedab133be8b29a23ad03f6bb454e7e5dfd94402179533efbec3c8ac", func := "voile/voilelaw18.StateMeets", spec := "stateMeets", apart := false }
def StateMeetsSaid : Prop := stateMeetsRow.holds Try.pinned (OpenSpec.ofChange stateMeetsSpec)

/-- ITS FALSE NEIGHBOUR: 'it returns false'. Refute it at one input. -/
def stateMeetsWrong : ChangeSpec := { name := "stateMeets", fn := fun _ => fun
  | [d1, d2] => { results := [.lit (.bool false)], args := [d1, d2] }
  | _ => none }
def StateMeetsWrongFalsely : Prop := stateMeetsRow.holds Try.pinned (OpenSpec.ofChange stateMeetsWrong)

/-- 'voilelaw22.OperatorBounds': WHATEVER THE INPUT: true; the input reads as it did. -/
def operatorBoundsSpec : ChangeSpec := { name := "operatorBounds", fn := fun _ => fun
  | [] => { results := [.lit (.bool true)], args := [] }
  | _ => none }
def operatorBoundsRow : OpenClaim := { program := "ytginaleekfljfaa", sum := "5773115aaedab133be8b29a23ad03f6bb454e7e5dfd94402179533efbec3c8ac", func := "voile/voilelaw22.OperatorBounds", spec := "operatorBounds", apart := false }
def OperatorBoundsSaid : Prop := operatorBoundsRow.holds Try.pinned (OpenSpec.ofChange operatorBoundsSpec)

/-- ITS FALSE NEIGHBOUR: 'it returns false'. Refute it at one input. -/
def operatorBoundsWrong : ChangeSpec := { name := "operatorBounds", fn := fun _ => fun
  | [] => { results := [.lit (.bool false)], args := [] }
  | _ => none }
def OperatorBoundsWrongFalsely : Prop := operatorBoundsRow.holds Try.pinned (OpenSpec.ofChange operatorBoundsWrong)

/-- 'voilelaw18.StateMoves': WHATEVER THE INPUT: true; the input reads as it did. -/
def stateMovesSpec : ChangeSpec := { name := "stateMoves", fn := fun _ => fun
  | [d1, d2, d3, d4] => { results := [.lit (.bool true)], args := [d1, d2, d3, d4] }
  | _ => none }
def stateMovesRow : OpenClaim := { program := "ytginaleekfljfaa", sum := "5773115aaedab133be8b29a23ad03f6bb454e7e5dfd94402179533efbec3c8ac", func := "voile/voilelaw18.StateMoves", spec := "stateMoves", apart := false }
def StateMovesSaid : Prop := stateMovesRow.holds Try.pinned (OpenSpec.ofChange stateMovesSpec)

/-- ITS FALSE NEIGHBOUR: 'it returns false'. Refute it at one input. -/
def stateMovesWrong : ChangeSpec := { name := "stateMoves", fn := fun _ => fun
  | [d1, d2, d3, d4] => { results := [.lit (.bool false)], args := [d1, d2, d3, d4] }
  | _ => none }
def StateMovesWrongFalsely : Prop := stateMovesRow.holds Try.pinned (OpenSpec.ofChange stateMovesWrong)

/-- 'voilelaw22.OperatorOrders': WHATEVER THE INPUT: true; the input reads as it did. -/
def operatorOrdersSpec : ChangeSpec := { name := "operatorOrders", fn := fun _ => fun
  | [d1, d2, d3] => { results := [.lit (.bool true)], args := [d1, d2, d3] }
  | _ => none }
def operatorOrdersRow : OpenClaim := { program := "ytginaleekfljfaa", sum := "5773115aaedab133be8b29a23ad03f6bb454e7e5dfd94402179533efbec3c8ac", func := "voile/voilelaw22.OperatorOrders", spec := "operatorOrders", apart := false }
def OperatorOrdersSaid : Prop := operatorOrdersRow.holds Try.pinned (OpenSpec.ofChange operatorOrdersSpec)

/-- ITS FALSE NEIGHBOUR: 'it returns false'. Refute it at one input. -/
def operatorOrdersWrong : ChangeSpec := { name := "operatorOrders", fn := fun _ => fun
  | [d1, d2, d3] => { results := [.lit (.bool false)], args := [d1, d2, d3] }
  | _ => none }
def OperatorOrdersWrongFalsely : Prop := operatorOrdersRow.holds Try.pinned (OpenSpec.ofChange operatorOrdersWrong)

/-- 'voilelaw22.OperatorRules': WHATEVER THE INPUT: true; the input reads as it did. -/
def operatorRulesSpec : ChangeSpec := { name := "operatorRules", fn := fun _ => fun
  | [d1, d2, d3] => { results := [.lit (.bool true)], args := [d1, d2, d3] }
  | _ => none }
def operatorRulesRow : OpenClaim := { program := "ytginaleekfljfaa", sum := "5773115aaedab133be8b29a23ad03f6bb454e7e5dfd94402179533efbec3c8ac", func := "voile/voilelaw22.OperatorRules", spec := "operatorRules", unfollowed := true, recurses := true, apart := false }
def OperatorRulesSaid : Prop := operatorRulesRow.holds Try.pinned (OpenSpec.ofChange operatorRulesSpec)

/-- ITS FALSE NEIGHBOUR: 'it returns false'. Refute it at one input. -/
def operatorRulesWrong : ChangeSpec := { name := "operatorRules", fn := fun _ => fun
  | [d1, d2, d3] => { results := [.lit (.bool false)], args := [d1, d2, d3] }
  | _ => none }
def OperatorRulesWrongFalsely : Prop := operatorRulesRow.holds Try.pinned (OpenSpec.ofChange operatorRulesWrong)

/-- 'voilelaw22.OperatorMeans': WHATEVER THE INPUT: true; the input reads as it did. -/
def operatorMeansSpec : ChangeSpec := { name := "operatorMeans", fn := fun _ => fun
  | [d] => { results := [.lit (.bool true)], args := [d] }
  | _ => none }
def operatorMeansRow : OpenClaim := { program := "ytginaleekfljfaa", sum := "5773115aaedab133be8b29a23ad03f6bb454e7e5dfd94402179533efbec3c8ac", func := "voile/voilelaw22.OperatorMeans", spec := "operatorMeans", unfollowed := true, recurses := true, apart := false }
def OperatorMeansSaid : Prop := operatorMeansRow.holds Try.pinned (OpenSpec.ofChange operatorMeansSpec)

/-- ITS FALSE NEIGHBOUR: 'it returns false'. Refute it at one input. -/
def operatorMeansWrong : ChangeSpec := { name := "operatorMeans", fn := fun _ => fun
  | [d] => { results := [.lit (.bool false)], args := [d] }
  | _ => none }
def OperatorMeansWrongFalsely : Prop := operatorMeansRow.holds Try.pinned (OpenSpec.ofChange operatorMeansWrong)

/- THE SECOND FORM. 'bulk': how many values and letters a reading holds, each counted each time it is reached (what is shared counts as often as it is met; a slice's spare places count too). A statement '..UptoSaid' is the law's where the arguments, and the package variables that the reading takes, are together of bulk at most 1048576: NARROWER than '..Said'. Prove '..Said' where nothing that the law and all that it calls make is longer than what came in: it says more and counts as full. Else prove '..UptoSaid'. A law counts once. -/
mutual
def uptoBulk {H : Type} : DataW H → Nat
  | .lit (.string bytes) => bytes.length + 1
  | .lit _ => 1
  | .nil => 1
  | .ptr d => uptoBulk d + 1
  | .slice elems spare => uptoBulkAll elems + uptoBulkAll spare + 1
  | .agg parts => uptoBulkAll parts + 1
  | .iface _ d => uptoBulk d + 1
  | .map entries => uptoBulkEntries entries + 1
  | .held _ => 1
def uptoBulkAll {H : Type} : List (DataW H) → Nat
  | [] => 0
  | d :: r => uptoBulk d + uptoBulkAll r
def uptoBulkEntries {H : Type} : List (Lit × DataW H) → Nat
  | [] => 0
  | x :: r => uptoBulkEntry x + uptoBulkEntries r
def uptoBulkEntry {H : Type} : Lit × DataW H → Nat
  | (.string bytes, d) => bytes.length + uptoBulk d + 1
  | (_, d) => uptoBulk d + 1
 end
def uptoSmall : (H : Type) → List (DataW H) → Bool := fun _ ds => decide (uptoBulkAll ds ≤ 1048576)
def OpenSpec.upto (s : _root_.Go.ChangeSpec) : _root_.Go.OpenSpec := { _root_.Go.OpenSpec.ofChange s with cond := some uptoSmall }

/-- 'voilelaw18.StateMeets', WHERE WHAT IT READS IS OF BULK AT MOST 1048576: true; the input reads as it did. -/
def stateMeetsUptoRow : OpenClaim := { program := "ytginaleekfljfaa", sum := "5773115aaedab133be8b29a23ad03f6bb454e7e5dfd94402179533efbec3c8ac", func := "voile/voilelaw18.StateMeets", spec := "stateMeets", apart := false, narrowed := true }
def StateMeetsUptoSaid : Prop := stateMeetsUptoRow.holds Try.pinned (OpenSpec.upto stateMeetsSpec)

/-- 'voilelaw22.OperatorBounds', WHERE WHAT IT READS IS OF BULK AT MOST 1048576: true; the input reads as it did. -/
def operatorBoundsUptoRow : OpenClaim := { program := "ytginaleekfljfaa", sum := "5773115aaedab133be8b29a23ad03f6bb454e7e5dfd94402179533efbec3c8ac", func := "voile/voilelaw22.OperatorBounds", spec := "operatorBounds", apart := false, narrowed := true }
def OperatorBoundsUptoSaid : Prop := operatorBoundsUptoRow.holds Try.pinned (OpenSpec.upto operatorBoundsSpec)

/-- 'voilelaw18.StateMoves', WHERE WHAT IT READS IS OF BULK AT MOST 1048576: true; the input reads as it did. -/
def stateMovesUptoRow : OpenClaim := { program := "ytginaleekfljfaa", sum := "5773115aaedab133be8b29a23ad03f6bb454e7e5dfd94402179533efbec3c8ac", func := "voile/voilelaw18.StateMoves", spec := "stateMoves", apart := false, narrowed := true }
def StateMovesUptoSaid : Prop := stateMovesUptoRow.holds Try.pinned (OpenSpec.upto stateMovesSpec)

/-- 'voilelaw22.OperatorOrders', WHERE WHAT IT READS IS OF BULK AT MOST 1048576: true; the input reads as it did. -/
def operatorOrdersUptoRow : OpenClaim := { program := "ytginaleekfljfaa", sum := "5773115aaedab133be8b29a23ad03f6bb454e7e5dfd94402179533efbec3c8ac", func := "voile/voilelaw22.OperatorOrders", spec := "operatorOrders", apart := false, narrowed := true }
def OperatorOrdersUptoSaid : Prop := operatorOrdersUptoRow.holds Try.pinned (OpenSpec.upto operatorOrdersSpec)

/-- 'voilelaw22.OperatorRules', WHERE WHAT IT READS IS OF BULK AT MOST 1048576: true; the input reads as it did. -/
def operatorRulesUptoRow : OpenClaim := { program := "ytginaleekfljfaa", sum := "5773115aaedab133be8b29a23ad03f6bb454e7e5dfd94402179533efbec3c8ac", func := "voile/voilelaw22.OperatorRules", spec := "operatorRules", unfollowed := true, recurses := true, apart := false, narrowed := true }
def OperatorRulesUptoSaid : Prop := operatorRulesUptoRow.holds Try.pinned (OpenSpec.upto operatorRulesSpec)

/-- 'voilelaw22.OperatorMeans', WHERE WHAT IT READS IS OF BULK AT MOST 1048576: true; the input reads as it did. -/
def operatorMeansUptoRow : OpenClaim := { program := "ytginaleekfljfaa", sum := "5773115aaedab133be8b29a23ad03f6bb454e7e5dfd94402179533efbec3c8ac", func := "voile/voilelaw22.OperatorMeans", spec := "operatorMeans", unfollowed := true, recurses := true, apart := false, narrowed := true }
def OperatorMeansUptoSaid : Prop := operatorMeansUptoRow.holds Try.pinned (OpenSpec.upto operatorMeansSpec)

end Rows
end Go.Proofs.Ytginaleekfljfaa
