/- Closed facts of the row. -/
import Derived.Test.YtdakclpneghkmaaGreatDoorCards
import Derived.WalkKit
import Derived.ProofKit
import Derived.JoinedOf
namespace Go.Proofs.YtdakclpneghkmaaGreatDoor
open Go
theorem jf0 : (Rows.topRootsRow.wf (OpenSpec.ofChange Rows.topRootsSpec)) = true := by kernel_rfl
theorem jf1 : (laidOutB Tryz.pinned.checked.prog) = true := by kernel_rfl
theorem jf2 : (mapsRowed Tryz.pinned.checked.prog) = true := by kernel_rfl
theorem jf3 : (Tryz.f5.params.all ( Tryz.pinned.checked.prog.readableRec ·)) = true := by kernel_rfl
theorem jf4 : (namedTie Tryz.pinned.checked.prog Rows.topRootsRow.named Rows.topRootsSpec.vars) = true := by kernel_rfl
theorem jf5 : (Rows.topRootsRow.stops == []) = true := by kernel_rfl
theorem jf6 : ( Tryz.pinned.checked.prog.stops == []) = true := by kernel_rfl
theorem jf7 : (Rows.topRootsRow.knobs == []) = true := by kernel_rfl
theorem jf8 : ( Tryz.pinned.checked.prog.stopKnobs == []) = true := by kernel_rfl
theorem jn1 : Tryz.prog.funcNamed "ringhall/ringtop.TopRoots" = some 5 := by kernel_rfl
theorem jn2 : Rows.topRootsRow.wfByText (OpenSpec.ofChange Rows.topRootsSpec) = true := by kernel_rfl
theorem jn3 : Tryz.pinned.checked.prog.mainIs = some (true, "c9e3f6ad5484aa014998366de72f665244221706cc486a24f20ff12091bc053d".toList) := by kernel_rfl
theorem jn4 : false = Tryz.prog.looks [] := by kernel_rfl
theorem jn5 : ([46].all fun u => !Tryz.prog.wantsStandIn u) = true := by kernel_rfl
end Go.Proofs.YtdakclpneghkmaaGreatDoor
/- Closed facts of the row. -/
namespace Go.Proofs.YtdakclpneghkmaaGreatDoor
open Go
theorem noGoes : (Tryz.prog.funcs.toList.all fun f => !f.goes) = true := by kernel_rfl
theorem jn6 : false = Rows.topRootsRow.goesBy Tryz.pinned.checked.prog := by
 have h : ∀ g : FuncId, (Tryz.prog.funcs[g]?).any Func.goes = false := by
  intro g
  cases hg : Tryz.prog.funcs[g]? with
  | none => rfl
  | some fn =>
   have := List.all_eq_true.1 noGoes fn (Array.mem_toList_iff.2 (Array.mem_of_getElem? hg))
   simpa using this
 have h2 : Tryz.prog.funcs.any Func.goes = false := by
  rw [Array.any_eq_false]
  intro i hi
  have := h i
  rw [Array.getElem?_eq_getElem hi] at this
  simpa using this
 have h3 : Tryz.prog.goes 5 = false := by
  unfold Program.goes
  rw [h2]
  simp only [h, Bool.and_false, Bool.or_false, List.any_eq_false]
  simp
 have h4 : Tryz.prog.goesFrom "ringhall/ringtop.TopRoots" = false := by
  unfold Program.goesFrom
  rw [jn1]
  simpa using h3
 show false = (Tryz.prog.goesFrom "ringhall/ringtop.TopRoots" || false)
 rw [h4]; rfl
end Go.Proofs.YtdakclpneghkmaaGreatDoor
