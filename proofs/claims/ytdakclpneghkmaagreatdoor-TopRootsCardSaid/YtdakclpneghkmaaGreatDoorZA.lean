/- FS.Sym is refused, where the text has so many bytes. Printed by a program. -/
import Derived.Test.YtdakclpneghkmaaGreatDoorSy
namespace Go.Proofs.GD
set_option linter.unusedSectionVars false
variable [Go.AI.Sym]
open Go Go.AI Go.RowKit
set_option maxRecDepth 100000
theorem runS_1 : RunS 1 := fun x bx => by kernel_rfl
theorem runS_2 : RunS 2 := fun x bx => by kernel_rfl
theorem runS_3 : RunS 3 := fun x bx => by kernel_rfl
theorem runS_4 : RunS 4 := fun x bx => by kernel_rfl
theorem runS_5 : RunS 5 := fun x bx => by kernel_rfl
theorem runS_6 : RunS 6 := fun x bx => by kernel_rfl
theorem runS_7 : RunS 7 := fun x bx => by kernel_rfl
theorem runS_8 : RunS 8 := fun x bx => by kernel_rfl
end Go.Proofs.GD
/- FS.Sym is refused, where the text has so many bytes. Printed by a program. -/
namespace Go.Proofs.GD
set_option linter.unusedSectionVars false
variable [Go.AI.Sym]
open Go Go.AI Go.RowKit
set_option maxRecDepth 100000
theorem runS_9 : RunS 9 := fun x bx => by kernel_rfl
theorem runS_10 : RunS 10 := fun x bx => by kernel_rfl
theorem runS_11 : RunS 11 := fun x bx => by kernel_rfl
theorem runS_12 : RunS 12 := fun x bx => by kernel_rfl
theorem runS_13 : RunS 13 := fun x bx => by kernel_rfl
theorem runS_14 : RunS 14 := fun x bx => by kernel_rfl
theorem runS_15 : RunS 15 := fun x bx => by kernel_rfl
theorem runS_16 : RunS 16 := fun x bx => by kernel_rfl
end Go.Proofs.GD
/- FS.Sym is refused, where the text has so many bytes. Printed by a program. -/
namespace Go.Proofs.GD
set_option linter.unusedSectionVars false
variable [Go.AI.Sym]
open Go Go.AI Go.RowKit
set_option maxRecDepth 100000
theorem runS_17 : RunS 17 := fun x bx => by kernel_rfl
theorem runS_18 : RunS 18 := fun x bx => by kernel_rfl
theorem runS_19 : RunS 19 := fun x bx => by kernel_rfl
theorem runS_20 : RunS 20 := fun x bx => by kernel_rfl
theorem runS_21 : RunS 21 := fun x bx => by kernel_rfl
theorem runS_22 : RunS 22 := fun x bx => by kernel_rfl
theorem runS_23 : RunS 23 := fun x bx => by kernel_rfl
theorem runS_24 : RunS 24 := fun x bx => by kernel_rfl
end Go.Proofs.GD
/- FS.Sym is refused, where the text has so many bytes. Printed by a program. -/
namespace Go.Proofs.GD
set_option linter.unusedSectionVars false
variable [Go.AI.Sym]
open Go Go.AI Go.RowKit
set_option maxRecDepth 100000
theorem runS_25 : RunS 25 := fun x bx => by kernel_rfl
theorem runS_26 : RunS 26 := fun x bx => by kernel_rfl
theorem runS_27 : RunS 27 := fun x bx => by kernel_rfl
theorem runS_28 : RunS 28 := fun x bx => by kernel_rfl
theorem runS_29 : RunS 29 := fun x bx => by kernel_rfl
theorem runS_30 : RunS 30 := fun x bx => by kernel_rfl
theorem runS_31 : RunS 31 := fun x bx => by kernel_rfl
theorem runS_32 : RunS 32 := fun x bx => by kernel_rfl
end Go.Proofs.GD
