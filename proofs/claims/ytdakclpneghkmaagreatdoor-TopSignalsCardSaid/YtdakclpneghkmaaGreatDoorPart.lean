/- The law's code in parts: up to the call of Within, and behind it. -/
import Derived.Test.YtdakclpneghkmaaGreatDoorTab
import Derived.Test.YtdakclpneghkmaaGreatDoorL22
namespace Go.Proofs.GD
open Go Go.AI Go.RowKit
set_option maxRecDepth 100000
noncomputable def t0c : Code := bodyC Tryz.f3
noncomputable def tR0 : Code := fstC t0c
noncomputable def t1c : Code := sndC t0c
noncomputable def tR1 : Code := fstC t1c
noncomputable def t2c : Code := sndC t1c
noncomputable def tC2 : Code := fstC t2c
noncomputable def t3c : Code := sndC t2c
noncomputable def tR4 : Code := fstC t3c
noncomputable def tRest : Code := sndC t3c
noncomputable def run3 (c : Code) (ρ : Env) (T : TH) : RT := (compCT Tryz.prog tab (live 3) 5000 3 103 c 0).run (execW Tryz.prog tab cat3 live 5000 59) (execT Tryz.prog tab cat3 live 5000 59) ρ T
/-- what lives behind the call of Within -/
def ρ5 (m : Nat) (b : Bool) : Env := [(0, .v (.int .i64 (.ofNat m))), (1, .v (.bool b)), (4, .v (.bool false)), (5, .ptr 1532 655 0 0)]
noncomputable def okR (m : Nat) (b : Bool) : Bool := match endT Tryz.prog Tryz.f3.results.toList (run3 tRest (ρ5 m b) (mkT startedn startedl)) with
  | some (.v (.bool true), _) => true
  | _ => false
end Go.Proofs.GD
