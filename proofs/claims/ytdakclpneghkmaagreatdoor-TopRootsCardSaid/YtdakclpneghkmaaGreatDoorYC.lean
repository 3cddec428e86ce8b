/- FS.Sym makes a link whose text has so many bytes. Printed by a program. -/
import Derived.Test.YtdakclpneghkmaaGreatDoorLb
namespace Go.Proofs.GD
set_option linter.unusedSectionVars false
variable [Go.AI.Sym]
open Go Go.AI Go.RowKit
set_option maxRecDepth 100000
theorem run65_33 : Run65 33 := fun x bx => by kernel_rfl
theorem run65_34 : Run65 34 := fun x bx => by kernel_rfl
theorem run65_35 : Run65 35 := fun x bx => by kernel_rfl
theorem run65_36 : Run65 36 := fun x bx => by kernel_rfl
theorem run65_37 : Run65 37 := fun x bx => by kernel_rfl
theorem run65_38 : Run65 38 := fun x bx => by kernel_rfl
theorem run65_39 : Run65 39 := fun x bx => by kernel_rfl
theorem run65_40 : Run65 40 := fun x bx => by kernel_rfl
theorem run65_41 : Run65 41 := fun x bx => by kernel_rfl
theorem run65_42 : Run65 42 := fun x bx => by kernel_rfl
theorem run65_43 : Run65 43 := fun x bx => by kernel_rfl
theorem run65_44 : Run65 44 := fun x bx => by kernel_rfl
theorem run65_45 : Run65 45 := fun x bx => by kernel_rfl
theorem run65_46 : Run65 46 := fun x bx => by kernel_rfl
theorem run65_47 : Run65 47 := fun x bx => by kernel_rfl
theorem run65_48 : Run65 48 := fun x bx => by kernel_rfl
end Go.Proofs.GD
