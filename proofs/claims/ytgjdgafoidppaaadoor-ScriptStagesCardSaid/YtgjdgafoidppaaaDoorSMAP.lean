/- script.MayAct (what it says). Conditions: what is read stands in memory. -/
import Derived.Test.YtgjdgafoidppaaaDoorSSame
namespace Go.Proofs.YtgjdgafoidppaaaDoor
open Go.RowKit
set_option linter.unusedVariables false
set_option linter.unusedSimpArgs false
set_option linter.unnecessarySimpa false
def nodeB (n : Int) : Bool := n == 0 || n == 1
def badP (xs : List Int) : Bool := xs.any fun n => !(mayN n)
def picksB (n : Nat) (xs : List Int) : Bool := decide (n ≤ 100) && !(badP xs)
theorem sameB_refl (a b c d e f : Int) (l : List UInt8) : sameB a b c d e f a b c d e f l l = true := by simp [sameB]
def mayActB (xk xn xm xOk xOv xOt xOs xOa xOc : Int) (xf : Bool) (xOn xpn : Nat) (lx : List UInt8) (px : List Int) : Bool :=
  if xk = 1 then (nodeB xn) && (mayOpB xOk xOv xOt xOs xOa xOc xOn lx) && (xm == 0) && (xf == false) && (px == []) else if xk = 2 then (mayN xm) && (xn == 0) && (sameB xOk xOv xOt xOs xOa xOc 0 0 0 0 0 0 lx []) && (xf == false) && (px == []) else if xk = 3 then (nodeB xn) && (xm == 0) && (sameB xOk xOv xOt xOs xOa xOc 0 0 0 0 0 0 lx []) && (xf == false) && (px == []) else if xk = 4 then (nodeB xn) && (picksB xpn px) && (xm == 0) && (sameB xOk xOv xOt xOs xOa xOc 0 0 0 0 0 0 lx []) && (xf == false) else if xk = 5 then (nodeB xn) && (picksB xpn px) && (xm == 0) && (sameB xOk xOv xOt xOs xOa xOc 0 0 0 0 0 0 lx []) && (xf == false) else if xk = 6 then (nodeB xn) && (mayN xm) && (sameB xOk xOv xOt xOs xOa xOc 0 0 0 0 0 0 lx []) && (xf == false) && (px == []) else if xk = 7 then (nodeB xn) && (xm == 0) && (sameB xOk xOv xOt xOs xOa xOc 0 0 0 0 0 0 lx []) && (px == []) else if xk = 8 then (nodeB xn) && (xm == 0) && (sameB xOk xOv xOt xOs xOa xOc 0 0 0 0 0 0 lx []) && (xf == false) && (px == []) else if xk = 9 then (nodeB xn) && (mayN xm) && (sameB xOk xOv xOt xOs xOa xOc 0 0 0 0 0 0 lx []) && (xf == false) && (px == []) else if xk = 10 then (xn == 0) && (xm == 0) && (sameB xOk xOv xOt xOs xOa xOc 0 0 0 0 0 0 lx []) && (xf == false) && (px == []) else false
end Go.Proofs.YtgjdgafoidppaaaDoor
