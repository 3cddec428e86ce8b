/- FS.Sym makes a link whose text has so many bytes. Printed by a program. -/
import Derived.Test.YtdakclpneghkmaaGreatDoorLb
namespace Go.Proofs.GD
set_option linter.unusedSectionVars false
variable [Go.AI.Sym]
open Go Go.AI Go.RowKit
set_option maxRecDepth 100000
theorem run65_1 : Run65 1 := fun x bx => by kernel_rfl
theorem run65_2 : Run65 2 := fun x bx => by kernel_rfl
theorem run65_3 : Run65 3 := fun x bx => by kernel_rfl
theorem run65_4 : Run65 4 := fun x bx => by kernel_rfl
theorem run65_5 : Run65 5 := fun x bx => by kernel_rfl
theorem run65_6 : Run65 6 := fun x bx => by kernel_rfl
theorem run65_7 : Run65 7 := fun x bx => by kernel_rfl
theorem run65_8 : Run65 8 := fun x bx => by kernel_rfl
end Go.Proofs.GD
