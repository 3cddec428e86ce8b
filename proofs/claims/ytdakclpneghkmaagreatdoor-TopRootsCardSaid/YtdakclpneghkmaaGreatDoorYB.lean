/- FS.Sym makes a link whose text has so many bytes. Printed by a program. -/
import Derived.Test.YtdakclpneghkmaaGreatDoorLb
namespace Go.Proofs.GD
set_option linter.unusedSectionVars false
variable [Go.AI.Sym]
open Go Go.AI Go.RowKit
set_option maxRecDepth 100000
theorem run65_17 : Run65 17 := fun x bx => by kernel_rfl
theorem run65_18 : Run65 18 := fun x bx => by kernel_rfl
theorem run65_19 : Run65 19 := fun x bx => by kernel_rfl
theorem run65_20 : Run65 20 := fun x bx => by kernel_rfl
theorem run65_21 : Run65 21 := fun x bx => by kernel_rfl
theorem run65_22 : Run65 22 := fun x bx => by kernel_rfl
theorem run65_23 : Run65 23 := fun x bx => by kernel_rfl
theorem run65_24 : Run65 24 := fun x bx => by kernel_rfl
theorem run65_25 : Run65 25 := fun x bx => by kernel_rfl
theorem run65_26 : Run65 26 := fun x bx => by kernel_rfl
theorem run65_27 : Run65 27 := fun x bx => by kernel_rfl
theorem run65_28 : Run65 28 := fun x bx => by kernel_rfl
theorem run65_29 : Run65 29 := fun x bx => by kernel_rfl
theorem run65_30 : Run65 30 := fun x bx => by kernel_rfl
theorem run65_31 : Run65 31 := fun x bx => by kernel_rfl
theorem run65_32 : Run65 32 := fun x bx => by kernel_rfl
end Go.Proofs.GD
