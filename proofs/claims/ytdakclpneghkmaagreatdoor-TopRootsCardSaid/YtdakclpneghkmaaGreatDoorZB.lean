/- FS.Sym is refused, where the text has so many bytes. Printed by a program. -/
import Derived.Test.YtdakclpneghkmaaGreatDoorSy
namespace Go.Proofs.GD
set_option linter.unusedSectionVars false
variable [Go.AI.Sym]
open Go Go.AI Go.RowKit
set_option maxRecDepth 100000
theorem runS_33 : RunS 33 := fun x bx => by kernel_rfl
theorem runS_34 : RunS 34 := fun x bx => by kernel_rfl
theorem runS_35 : RunS 35 := fun x bx => by kernel_rfl
theorem runS_36 : RunS 36 := fun x bx => by kernel_rfl
theorem runS_37 : RunS 37 := fun x bx => by kernel_rfl
theorem runS_38 : RunS 38 := fun x bx => by kernel_rfl
theorem runS_39 : RunS 39 := fun x bx => by kernel_rfl
theorem runS_40 : RunS 40 := fun x bx => by kernel_rfl
end Go.Proofs.GD
/- FS.Sym is refused, where the text has so many bytes. Printed by a program. -/
namespace Go.Proofs.GD
set_option linter.unusedSectionVars false
variable [Go.AI.Sym]
open Go Go.AI Go.RowKit
set_option maxRecDepth 100000
theorem runS_41 : RunS 41 := fun x bx => by kernel_rfl
theorem runS_42 : RunS 42 := fun x bx => by kernel_rfl
theorem runS_43 : RunS 43 := fun x bx => by kernel_rfl
theorem runS_44 : RunS 44 := fun x bx => by kernel_rfl
theorem runS_45 : RunS 45 := fun x bx => by kernel_rfl
theorem runS_46 : RunS 46 := fun x bx => by kernel_rfl
theorem runS_47 : RunS 47 := fun x bx => by kernel_rfl
theorem runS_48 : RunS 48 := fun x bx => by kernel_rfl
end Go.Proofs.GD
/- FS.Sym is refused, where the text has so many bytes. Printed by a program. -/
namespace Go.Proofs.GD
set_option linter.unusedSectionVars false
variable [Go.AI.Sym]
open Go Go.AI Go.RowKit
set_option maxRecDepth 100000
theorem runS_49 : RunS 49 := fun x bx => by kernel_rfl
theorem runS_50 : RunS 50 := fun x bx => by kernel_rfl
theorem runS_51 : RunS 51 := fun x bx => by kernel_rfl
theorem runS_52 : RunS 52 := fun x bx => by kernel_rfl
theorem runS_53 : RunS 53 := fun x bx => by kernel_rfl
theorem runS_54 : RunS 54 := fun x bx => by kernel_rfl
theorem runS_55 : RunS 55 := fun x bx => by kernel_rfl
theorem runS_56 : RunS 56 := fun x bx => by kernel_rfl
end Go.Proofs.GD
/- FS.Sym is refused, where the text has so many bytes. Printed by a program. -/
namespace Go.Proofs.GD
set_option linter.unusedSectionVars false
variable [Go.AI.Sym]
open Go Go.AI Go.RowKit
set_option maxRecDepth 100000
theorem runS_57 : RunS 57 := fun x bx => by kernel_rfl
theorem runS_58 : RunS 58 := fun x bx => by kernel_rfl
theorem runS_59 : RunS 59 := fun x bx => by kernel_rfl
theorem runS_60 : RunS 60 := fun x bx => by kernel_rfl
theorem runS_61 : RunS 61 := fun x bx => by kernel_rfl
theorem runS_62 : RunS 62 := fun x bx => by kernel_rfl
theorem runS_63 : RunS 63 := fun x bx => by kernel_rfl
theorem runS_64 : RunS 64 := fun x bx => by kernel_rfl
end Go.Proofs.GD
