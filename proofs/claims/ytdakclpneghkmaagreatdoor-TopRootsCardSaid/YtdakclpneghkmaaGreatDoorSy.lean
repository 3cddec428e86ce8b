/- Phase B: FS.Sym is refused: what the kernel is asked for each size. -/
import Derived.Test.YtdakclpneghkmaaGreatDoorLb
import Derived.Test.YtdakclpneghkmaaGreatDoorBc
import Derived.Test.YtdakclpneghkmaaGreatDoorBe
namespace Go.Proofs.GD
set_option linter.unusedSectionVars false
variable [Go.AI.Sym]
open Go Go.AI Go.RowKit
set_option maxRecDepth 100000
def r65B : AVal := .v (.tuple #[.int .i64 0, .int .i64 5])
def RunS (z : Nat) : Prop := ∀ (x : Nat → UInt8) (bx : Nat → LO), obsF (execT Tryz.prog tab4 cat4 live 5000 60 65 (fsA (.v (.string (txB z x)))) (mkT 2849 (addB SAB bx))) 2875 SAB bxK = some (r65B, bxO bx)
end Go.Proofs.GD
/- Sym: its frames; FS.Sym by contract, in both phases; Ask of it. -/
namespace Go.Proofs.GD
set_option linter.unusedSectionVars false
variable [Go.AI.Sym]
open Go Go.AI Go.RowKit
set_option maxRecDepth 100000
def bS (p : AVal) (i : Nat) : LO :=
 bif Nat.beq i 0 then .ls 1 [[.ptr 1532 655 0 0]] else bif Nat.beq i 1 then .ls 1 [[.v (.int .i64 1)]]
 else bif Nat.beq i 2 || Nat.beq i 11 || Nat.beq i 13 || Nat.beq i 15 then .ls 7 [callR 16 (.v (.string ⟨#[108]⟩)) p]
 else bif Nat.beq i 3 || Nat.beq i 9 || Nat.beq i 10 || Nat.beq i 12 || Nat.beq i 14 then .ls 11 [ansR] else .ls 18 [taskR]
theorem bS_ok {k : Nat} : Bl 2822 (bS (.str k)) := by
 constructor <;> intro i <;> unfold bS <;> (cases Nat.beq i 0 <;> cases Nat.beq i 1 <;> cases Nat.beq i 2 || Nat.beq i 11 || Nat.beq i 13 || Nat.beq i 15 <;> cases Nat.beq i 3 || Nat.beq i 9 || Nat.beq i 10 || Nat.beq i 12 || Nat.beq i 14 <;> rfl)
def SYm : LS := (LBc (.str 70) (.str 71)).map (mvP (gOf mvS))
def SYk (bx : Nat → LO) : LS := (2878, .ls 1 blM) :: bxL bx
noncomputable def catY : FuncId → Sp := fun f => cond (Nat.beq f 65) (.snap (fsA (.str 64)) 2849 (addB SA (bS (.str 64))) r65 3121 (SYm ++ SYk (bS (.str 64)))) (catS f)
noncomputable def catZ : FuncId → Sp := fun f => cond (Nat.beq f 65) (.snap (fsA (.str 48)) 2849 (addB SAB (bS (.str 48))) r65B 2875 (addB SAB (bS (.str 48)))) (catS f)
theorem sy_64 : obsJ (execT Tryz.prog tab4 catY live 5000 60 8 (syA (.str 64)) (mkT 2806 SA)) 3122 (SAB.map (mvP (gOf mvS))) = true := by kernel_rfl
theorem syB_0 : obsJ (execT Tryz.prog tab4 catZ live 5000 60 8 (syA (.str 48)) (mkT 2806 SAB)) 2876 SAB = true := by kernel_rfl
theorem syB_2 : obsJ (execT Tryz.prog tab4 catS live 5000 60 8 (syA (.str 50)) (mkT 2806 SAB)) 2850 SAB = true := by kernel_rfl
theorem syB_3 : obsJ (execT Tryz.prog tab4 catS live 5000 60 8 (syA (.str 51)) (mkT 2806 SAB)) 2850 SAB = true := by kernel_rfl
end Go.Proofs.GD
/- Ask's Chdir and Stat in phase B, by the kernel. -/
namespace Go.Proofs.GD.PB
set_option linter.unusedSectionVars false
variable [Go.AI.Sym]
open Go Go.AI Go.RowKit
set_option maxRecDepth 100000
noncomputable def catE (num : Int) (k : Nat) (e : Int) : FuncId → Sp := fun f => cond (Nat.beq f 173) (.snap (waA (.str k)) 2822 (SC (bW num (.str k))) (errA e) 2822 (SC (bW num (.str k)))) (cat4 f)
noncomputable def catO (num : Int) (k : Nat) : FuncId → Sp := fun f => cond (Nat.beq f 173) (.snap (waA (.str k)) 2822 (SC (bW num (.str k))) (.tup [.osl 2828 1 0 1 1, .v (.int .i64 0)]) 2829 (addB S7 (bW num (.str k)))) (cat4 f)
theorem ch_0 : obsJ (execT Tryz.prog tab4 (catO 33 32) live 5000 60 8 (chA (.str 32)) (mkT 2806 SA)) 2841 (SA.map (mvP (gOf mvC0))) = true := by kernel_rfl
theorem ch_2 : obsJ (execT Tryz.prog tab4 (catE 33 34 2) live 5000 60 8 (chA (.str 34)) (mkT 2806 SA)) 2824 SA = true := by kernel_rfl
theorem ch_3 : obsJ (execT Tryz.prog tab4 (catE 33 35 3) live 5000 60 8 (chA (.str 35)) (mkT 2806 SA)) 2824 SA = true := by kernel_rfl
theorem ch_4 : obsJ (execT Tryz.prog tab4 (catE 33 36 4) live 5000 60 8 (chA (.str 36)) (mkT 2806 SA)) 2824 SA = true := by kernel_rfl
theorem ch_14 : obsJ (execT Tryz.prog tab4 (catE 33 46 14) live 5000 60 8 (chA (.str 46)) (mkT 2806 SA)) 2824 SA = true := by kernel_rfl
section
variable (a b c d e f : AVal)
theorem st_0 : obsQ (run5c (catO 17 32) rQ (qE kP (.str 32) a b c d e f) (mkT 2806 SA)) 0 (SA.map (mvP (gOf []))) kQ = some (qR kP a b c d e f) := by kernel_rfl
theorem st_2 : obsQ (run5c (catE 17 34 2) rQ (qE kP (.str 34) a b c d e f) (mkT 2806 SA)) 0 (SA.map (mvP (gOf []))) kQ = some (qR kP a b c d e f) := by kernel_rfl
theorem st_3 : obsQ (run5c (catE 17 35 3) rQ (qE kP (.str 35) a b c d e f) (mkT 2806 SA)) 0 (SA.map (mvP (gOf []))) kQ = some (qR kP a b c d e f) := by kernel_rfl
theorem st_4 : obsQ (run5c (catE 17 36 4) rQ (qE kP (.str 36) a b c d e f) (mkT 2806 SA)) 0 (SA.map (mvP (gOf []))) kQ = some (qR kP a b c d e f) := by kernel_rfl
theorem st_14 : obsQ (run5c (catE 17 46 14) rQ (qE kP (.str 46) a b c d e f) (mkT 2806 SA)) 0 (SA.map (mvP (gOf []))) kQ = some (qR kP a b c d e f) := by kernel_rfl
end
end Go.Proofs.GD.PB
