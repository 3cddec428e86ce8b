/- FS.Sym makes a link whose text has so many bytes. Printed by a program. -/
import Derived.Test.YtdakclpneghkmaaGreatDoorLb
namespace Go.Proofs.GD
set_option linter.unusedSectionVars false
variable [Go.AI.Sym]
open Go Go.AI Go.RowKit
set_option maxRecDepth 100000
theorem run65_49 : Run65 49 := fun x bx => by kernel_rfl
theorem run65_50 : Run65 50 := fun x bx => by kernel_rfl
theorem run65_51 : Run65 51 := fun x bx => by kernel_rfl
theorem run65_52 : Run65 52 := fun x bx => by kernel_rfl
theorem run65_53 : Run65 53 := fun x bx => by kernel_rfl
theorem run65_54 : Run65 54 := fun x bx => by kernel_rfl
theorem run65_55 : Run65 55 := fun x bx => by kernel_rfl
theorem run65_56 : Run65 56 := fun x bx => by kernel_rfl
theorem run65_57 : Run65 57 := fun x bx => by kernel_rfl
theorem run65_58 : Run65 58 := fun x bx => by kernel_rfl
theorem run65_59 : Run65 59 := fun x bx => by kernel_rfl
theorem run65_60 : Run65 60 := fun x bx => by kernel_rfl
theorem run65_61 : Run65 61 := fun x bx => by kernel_rfl
theorem run65_62 : Run65 62 := fun x bx => by kernel_rfl
theorem run65_63 : Run65 63 := fun x bx => by kernel_rfl
theorem run65_64 : Run65 64 := fun x bx => by kernel_rfl
end Go.Proofs.GD
