/- Closed facts of the row. -/
import Derived.Test.YtdakclpneghkmaaGreatDoorCards
import Derived.WalkKit
import Derived.ProofKit
import Derived.JoinedOf
import Derived.Test.YtdakclpneghkmaaGreatDoorFaA
namespace Go.Proofs.YtdakclpneghkmaaGreatDoor
open Go
theorem noGoes : (Tryz.prog.funcs.toList.all fun f => !f.goes) = true := by kernel_rfl
theorem jn6 : false = Rows.topShareRow.goesBy Tryz.pinned.checked.prog := by
  have h : ∀ g : FuncId, (Tryz.prog.funcs[g]?).any Func.goes = false := by
    intro g
    cases hg : Tryz.prog.funcs[g]? with
    | none => rfl
    | some fn =>
      have := List.all_eq_true.1 noGoes fn (Array.mem_toList_iff.2 (Array.mem_of_getElem? hg))
      simpa using this
  have h2 : Tryz.prog.funcs.any Func.goes = false := by
    rw [Array.any_eq_false]
    intro i hi
    have := h i
    rw [Array.getElem?_eq_getElem hi] at this
    simpa using this
  have h3 : Tryz.prog.goes 4 = false := by
    unfold Program.goes
    rw [h2]
    simp only [h, Bool.and_false, Bool.or_false, List.any_eq_false]
    simp
  have h4 : Tryz.prog.goesFrom "ringhall/ringtop.TopShare" = false := by
    unfold Program.goesFrom
    rw [jn1]
    simpa using h3
  show false = (Tryz.prog.goesFrom "ringhall/ringtop.TopShare" || false)
  rw [h4]; rfl
end Go.Proofs.YtdakclpneghkmaaGreatDoor
