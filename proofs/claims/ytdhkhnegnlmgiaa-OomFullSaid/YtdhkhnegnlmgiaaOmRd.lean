/- Tasks, read. -/
import Derived.Test.YtdhkhnegnlmgiaaOmA
import Derived.Test.YtdhkhnegnlmgiaaAiV
import Derived.KernelRfl
namespace Go.Proofs.Ytdhkhnegnlmgiaa
open Go.ChangeShapes Go.WideShapes Go.ChangeAt Go.RowKit Go.AI
set_option maxRecDepth 100000
theorem rdTk : RdRow Try.prog 54 rTk (fun _ => True) := by
  intro H enc W base spare held fuel cs x h
  obtain ⟨xs, n, _, _, hlen, hxl, hf⟩ := DataW.trod_struct Try.underlying54 h
  replace hlen : cs.length = 4 := hlen.trans (by kernel_rfl)
  obtain ⟨y0, y1, y2, y3, rfl⟩ : ∃ y0 y1 y2 y3, xs = [y0, y1, y2, y3] := by
    match xs, hxl with
    | [y0, y1, y2, y3], _ => exact ⟨y0, y1, y2, y3, rfl⟩
  obtain ⟨e0, q0, f0⟩ := RowsAt.field (cs := cs) (o := 0) (n := 1) (rdI Try.underlying3) (by kernel_rfl) (x := y0) (hf 0 _ rfl)
  obtain ⟨e1, q1, f1⟩ := RowsAt.field (cs := cs) (o := 1) (n := 1) (rdI Try.underlying3) (by kernel_rfl) (x := y1) (hf 1 _ rfl)
  obtain ⟨e2, q2, f2⟩ := RowsAt.field (cs := cs) (o := 2) (n := 1) (rdI Try.underlying3) (by kernel_rfl) (x := y2) (hf 2 _ rfl)
  obtain ⟨e3, q3, f3⟩ := RowsAt.field (cs := cs) (o := 3) (n := 1) (rdB Try.underlying4) (by kernel_rfl) (x := y3) (hf 3 _ rfl)
  have hR := f0 _ (f1 _ (f2 _ (f3 _ (RowsAt.nil (by omega)))))
  refine ⟨hlen, hR.1, ⟨e0,e1,e2,e3⟩, trivial, fun j a ha => hR.2 j a ha⟩

end Go.Proofs.Ytdhkhnegnlmgiaa
