/- PLAIN LAW: fields as bytes; why a field may not be. -/
import Derived.Test.YtaahhommfpohhaaVar
import Derived.Test.YtaahhommfpohhaaFix
namespace Go.Proofs.Ytaahhommfpohhaa.Plain

/-- why a field may not be; e: its text is empty -/
def wwrong (num kind val : Int) (e : Bool) : Int :=
  if num < 1 ∨ 536870912 ≤ num then 5 else if ¬ (kind = 0 ∨ kind = 1 ∨ kind = 2 ∨ kind = 5) then 11
  else if ¬ kind = 2 ∧ e = false ∨ kind = 2 ∧ ¬ val = 0 then 4 else if kind = 5 ∧ 4294967296 ≤ val then 5 else 0
end Go.Proofs.Ytaahhommfpohhaa.Plain
