/- The link is read, whose text has so many bytes. Printed by a program. -/
import Derived.Test.YtdakclpneghkmaaGreatDoorBc
namespace Go.Proofs.GD
set_option linter.unusedSectionVars false
variable [Go.AI.Sym]
open Go Go.AI Go.RowKit
set_option maxRecDepth 100000
theorem runT_1 : RunT 1 := fun x bx c => by kernel_rfl
theorem runT_2 : RunT 2 := fun x bx c => by kernel_rfl
theorem runT_3 : RunT 3 := fun x bx c => by kernel_rfl
theorem runT_4 : RunT 4 := fun x bx c => by kernel_rfl
theorem runT_5 : RunT 5 := fun x bx c => by kernel_rfl
theorem runT_6 : RunT 6 := fun x bx c => by kernel_rfl
theorem runT_7 : RunT 7 := fun x bx c => by kernel_rfl
theorem runT_8 : RunT 8 := fun x bx c => by kernel_rfl
theorem runT_9 : RunT 9 := fun x bx c => by kernel_rfl
theorem runT_10 : RunT 10 := fun x bx c => by kernel_rfl
theorem runT_11 : RunT 11 := fun x bx c => by kernel_rfl
theorem runT_12 : RunT 12 := fun x bx c => by kernel_rfl
theorem runT_13 : RunT 13 := fun x bx c => by kernel_rfl
theorem runT_14 : RunT 14 := fun x bx c => by kernel_rfl
theorem runT_15 : RunT 15 := fun x bx c => by kernel_rfl
theorem runT_16 : RunT 16 := fun x bx c => by kernel_rfl
end Go.Proofs.GD
/- The link is read, whose text has so many bytes. Printed by a program. -/
namespace Go.Proofs.GD
set_option linter.unusedSectionVars false
variable [Go.AI.Sym]
open Go Go.AI Go.RowKit
set_option maxRecDepth 100000
theorem runT_17 : RunT 17 := fun x bx c => by kernel_rfl
theorem runT_18 : RunT 18 := fun x bx c => by kernel_rfl
theorem runT_19 : RunT 19 := fun x bx c => by kernel_rfl
theorem runT_20 : RunT 20 := fun x bx c => by kernel_rfl
theorem runT_21 : RunT 21 := fun x bx c => by kernel_rfl
theorem runT_22 : RunT 22 := fun x bx c => by kernel_rfl
theorem runT_23 : RunT 23 := fun x bx c => by kernel_rfl
theorem runT_24 : RunT 24 := fun x bx c => by kernel_rfl
theorem runT_25 : RunT 25 := fun x bx c => by kernel_rfl
theorem runT_26 : RunT 26 := fun x bx c => by kernel_rfl
theorem runT_27 : RunT 27 := fun x bx c => by kernel_rfl
theorem runT_28 : RunT 28 := fun x bx c => by kernel_rfl
theorem runT_29 : RunT 29 := fun x bx c => by kernel_rfl
theorem runT_30 : RunT 30 := fun x bx c => by kernel_rfl
theorem runT_31 : RunT 31 := fun x bx c => by kernel_rfl
theorem runT_32 : RunT 32 := fun x bx c => by kernel_rfl
end Go.Proofs.GD
/- The link is read, whose text has so many bytes. Printed by a program. -/
namespace Go.Proofs.GD
set_option linter.unusedSectionVars false
variable [Go.AI.Sym]
open Go Go.AI Go.RowKit
set_option maxRecDepth 100000
theorem runT_33 : RunT 33 := fun x bx c => by kernel_rfl
theorem runT_34 : RunT 34 := fun x bx c => by kernel_rfl
theorem runT_35 : RunT 35 := fun x bx c => by kernel_rfl
theorem runT_36 : RunT 36 := fun x bx c => by kernel_rfl
theorem runT_37 : RunT 37 := fun x bx c => by kernel_rfl
theorem runT_38 : RunT 38 := fun x bx c => by kernel_rfl
theorem runT_39 : RunT 39 := fun x bx c => by kernel_rfl
theorem runT_40 : RunT 40 := fun x bx c => by kernel_rfl
theorem runT_41 : RunT 41 := fun x bx c => by kernel_rfl
theorem runT_42 : RunT 42 := fun x bx c => by kernel_rfl
theorem runT_43 : RunT 43 := fun x bx c => by kernel_rfl
theorem runT_44 : RunT 44 := fun x bx c => by kernel_rfl
theorem runT_45 : RunT 45 := fun x bx c => by kernel_rfl
theorem runT_46 : RunT 46 := fun x bx c => by kernel_rfl
theorem runT_47 : RunT 47 := fun x bx c => by kernel_rfl
theorem runT_48 : RunT 48 := fun x bx c => by kernel_rfl
end Go.Proofs.GD
/- The link is read, whose text has so many bytes. Printed by a program. -/
namespace Go.Proofs.GD
set_option linter.unusedSectionVars false
variable [Go.AI.Sym]
open Go Go.AI Go.RowKit
set_option maxRecDepth 100000
theorem runT_49 : RunT 49 := fun x bx c => by kernel_rfl
theorem runT_50 : RunT 50 := fun x bx c => by kernel_rfl
theorem runT_51 : RunT 51 := fun x bx c => by kernel_rfl
theorem runT_52 : RunT 52 := fun x bx c => by kernel_rfl
theorem runT_53 : RunT 53 := fun x bx c => by kernel_rfl
theorem runT_54 : RunT 54 := fun x bx c => by kernel_rfl
theorem runT_55 : RunT 55 := fun x bx c => by kernel_rfl
theorem runT_56 : RunT 56 := fun x bx c => by kernel_rfl
theorem runT_57 : RunT 57 := fun x bx c => by kernel_rfl
theorem runT_58 : RunT 58 := fun x bx c => by kernel_rfl
theorem runT_59 : RunT 59 := fun x bx c => by kernel_rfl
theorem runT_60 : RunT 60 := fun x bx c => by kernel_rfl
theorem runT_61 : RunT 61 := fun x bx c => by kernel_rfl
theorem runT_62 : RunT 62 := fun x bx c => by kernel_rfl
theorem runT_63 : RunT 63 := fun x bx c => by kernel_rfl
theorem runT_64 : RunT 64 := fun x bx c => by kernel_rfl
theorem run65_9 : Run65 9 := fun x bx => by kernel_rfl
theorem run65_10 : Run65 10 := fun x bx => by kernel_rfl
theorem run65_11 : Run65 11 := fun x bx => by kernel_rfl
theorem run65_12 : Run65 12 := fun x bx => by kernel_rfl
theorem run65_13 : Run65 13 := fun x bx => by kernel_rfl
theorem run65_14 : Run65 14 := fun x bx => by kernel_rfl
theorem run65_15 : Run65 15 := fun x bx => by kernel_rfl
theorem run65_16 : Run65 16 := fun x bx => by kernel_rfl
end Go.Proofs.GD
