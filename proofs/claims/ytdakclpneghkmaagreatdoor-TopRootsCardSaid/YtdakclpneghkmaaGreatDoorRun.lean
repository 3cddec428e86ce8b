
import Derived.Test.YtdakclpneghkmaaGreatDoorTab

namespace Go.Proofs.GD
set_option linter.unusedSectionVars false
variable [Go.AI.Sym]
open Go.AI
set_option maxRecDepth 100000
theorem c27 : cameTo (execT Tryz.prog tab catF live 5000 60 27 [.ptr 2 4 0 0] (mkT newn newl)) formatr1 formatn formatl = true := by kernel_rfl
end Go.Proofs.GD
namespace Go.Proofs.GD
set_option linter.unusedSectionVars false
variable [Go.AI.Sym]
open Go.AI
set_option maxRecDepth 100000
theorem c14 : cameTo (execT Tryz.prog tab cat1 live 5000 60 14 [.v (.int .i64 256), .v (.slice none 0 0)] ⟨.leaf, 0⟩) maker0 maken makel = true := by kernel_rfl
end Go.Proofs.GD
namespace Go.Proofs.GD
set_option linter.unusedSectionVars false
variable [Go.AI.Sym]
open Go.AI
set_option maxRecDepth 100000
theorem c6 : cameTo (execT Tryz.prog tab cat2 live 5000 60 6 [] ⟨.leaf, 0⟩) startedr0 startedn startedl = true := by kernel_rfl
end Go.Proofs.GD
