/- Deeds, read. -/
import Derived.Test.YtegjbfcgbfnldaaSmF
import Derived.Test.YtegjbfcgbfnldaaAiV
import Derived.KernelRfl
namespace Go.Proofs.Ytegjbfcgbfnldaa
open Go.ChangeShapes Go.WideShapes Go.ChangeAt Go.RowKit Go.AI
set_option linter.unusedSimpArgs false
set_option linter.unusedVariables false
set_option maxRecDepth 100000
theorem inK_wrap {n : Int} (h : InK .i64 n) : IntKind.i64.wrap n = n := w64 (by have := (bounds_i64 h).1; omega) (by have := (bounds_i64 h).2; omega)
theorem rdDd : RdRow Try.prog 69 rDd (fun e => IntKind.i64.wrap e.addr = e.addr) := by
  intro H enc W base spare held fuel cs x h
  obtain ⟨xs, n, _, _, hlen, hxl, hf⟩ := DataW.trod_struct Try.underlying69 h
  replace hlen : cs.length = 6 := hlen.trans (by kernel_rfl)
  obtain ⟨y0, y1, y2, y3, y4, y5, rfl⟩ : ∃ y0 y1 y2 y3 y4 y5, xs = [y0, y1, y2, y3, y4, y5] := by
    match xs, hxl with
    | [y0, y1, y2, y3, y4, y5], _ => exact ⟨y0, y1, y2, y3, y4, y5, rfl⟩
  obtain ⟨e0, q0, f0⟩ := RowsAt.field (cs := cs) (o := 0) (n := 1) (rdI Try.underlying3) (by kernel_rfl) (x := y0) (hf 0 _ rfl)
  obtain ⟨e1, q1, f1⟩ := RowsAt.field (cs := cs) (o := 1) (n := 1) (rdI Try.underlying3) (by kernel_rfl) (x := y1) (hf 1 _ rfl)
  obtain ⟨e2, q2, f2⟩ := RowsAt.field (cs := cs) (o := 2) (n := 1) (rdI Try.underlying3) (by kernel_rfl) (x := y2) (hf 2 _ rfl)
  obtain ⟨e3, q3, f3⟩ := RowsAt.field (cs := cs) (o := 3) (n := 1) (rdI Try.underlying3) (by kernel_rfl) (x := y3) (hf 3 _ rfl)
  obtain ⟨e4, q4, f4⟩ := RowsAt.field (cs := cs) (o := 4) (n := 1) (rdI Try.underlying3) (by kernel_rfl) (x := y4) (hf 4 _ rfl)
  obtain ⟨e5, q5, f5⟩ := RowsAt.field (cs := cs) (o := 5) (n := 1) (rdS Try.underlying28 (by kernel_rfl) (by decide) (rdI Try.underlying5)) (by kernel_rfl) (x := y5) (hf 5 _ rfl)
  have hR := f0 _ (f1 _ (f2 _ (f3 _ (f4 _ (f5 _ (RowsAt.nil (by omega)))))))
  refine ⟨hlen, hR.1, ⟨e0,e1,e2,e3,e4,e5⟩, inK_wrap q4, fun j a ha => hR.2 j a ha⟩

theorem goodL_of {l : List Dd} (h1 : l.length ≤ maxLen) (h2 : ∀ x ∈ l, IntKind.i64.wrap x.addr = x.addr) : goodL l := ⟨Nat.le_trans h1 (by decide), h2⟩
end Go.Proofs.Ytegjbfcgbfnldaa
