/- Part 0 of the proof that PassageMore holds: who is earlier or has more is nowhere later, and more ways never make less. No condition. -/
import Derived.Test.YtoeendggmalcpaaBa8
set_option linter.unusedVariables false
set_option linter.unusedSimpArgs false
namespace Go.Vm

theorem Hp.set_set (h : Hp) (i : Id) (b b' : Blk) : (h.set i b).set i b' = h.set i b' := by
  cases i with
  | loc k => simp [Hp.set]
  | out j =>
    simp only [Hp.set]
    congr 1
    funext k
    split <;> rfl
section
variable {P : Program} {T : TT} (hT : TOk P T)
include hT
end
end Go.Vm

