/- The law's start: the machine stands, its root is the folder. -/
import Derived.Test.YtdakclpneghkmaaGreatDoorSyR
namespace Go.Proofs.GD
set_option linter.unusedSectionVars false
variable [Go.AI.Sym]
open Go Go.AI Go.RowKit
set_option maxRecDepth 100000
noncomputable def beqP (o : TO) (l : LO) : Bool := match o, l with
 | .ls sz rows, .ar sz' n x ps => cond (Nat.beq sz sz') (beqRows.beqLL rows (rowsL n (putPs ps (repT x 64 n)))) false
 | o, l => beqO o l
theorem beqP_eq {o : TO} {l : LO} (h : beqP o l = true) : absO o = absO (toO l) := by
 unfold beqP at h
 split at h
 ·rename_i sz rows sz' n x ps
  cases h1 : Nat.beq sz sz' with
  | false => rw [h1] at h; cases h
  | true =>
   rw [h1, cond_true] at h
   rw [Nat.eq_of_beq_eq_true h1, beqRows_eq h]
   rfl
 ·exact beqO_eq h
noncomputable def checkP (T : TH) (l : LS) : Bool := l.all fun p => match tgetR T.t p.1 with
 | some o => beqP o p.2
 | none => false
theorem checkP_at {T : TH} {H : Heap} (h : TR T H) {l : LS} (hc : checkP T l = true) : ∀ p ∈ l, H[p.1]? = some (absO (toO p.2)) := by
 intro p hp
 have := List.all_eq_true.1 hc p hp
 split at this
 ·rename_i o ho
  rw [← h.g, ← tgetR_eq, ho, Option.map_some, beqP_eq this]
 ·cases this
def SAr : LS := SA.tail.tail
noncomputable def obsS (x : RT) : Option (Env × List (Option Ob)) := match x with
 | .nm ρ T => cond (Nat.beq T.n 2806) (cond (checkP T SAr) (some ([0, 3].map fun k => (k, AI.look ρ k), [0, 1].map fun k => (tgetR T.t k).map absO)) none) none
 | _ => none
theorem s5 (rows : List Row) : obsS (run5 (.seq rR0 (.seq rR1 rC2)) [(0, .fsl false 1 rows)] ⟨.leaf, 0⟩) = some ([(0, .fsl false 1 rows), (3, .ptr 1532 655 0 0)], [some (absO (toO diskO)), some (absO (toO diskO))]) := by kernel_rfl
end Go.Proofs.GD
