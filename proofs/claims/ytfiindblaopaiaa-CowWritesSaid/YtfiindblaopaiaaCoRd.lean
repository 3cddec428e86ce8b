/- Rooms, read. -/
import Derived.Test.YtfiindblaopaiaaCoA
import Derived.Test.YtfiindblaopaiaaAiV
import Derived.KernelRfl
namespace Go.Proofs.Ytfiindblaopaiaa
open Go.ChangeShapes Go.WideShapes Go.ChangeAt Go.RowKit Go.AI
theorem rdRoom : RdRow Try.prog 51 rRoom (fun e => e.spaces.length ≤ maxLen) := by
  intro H enc W base spare held fuel cs x h
  obtain ⟨xs, n, _, _, hlen, hxl, hf⟩ := DataW.trod_struct Try.underlying51 h
  replace hlen : cs.length = 2 := hlen.trans (by kernel_rfl)
  obtain ⟨y0, y1, rfl⟩ : ∃ y0 y1, xs = [y0, y1] := by
    match xs, hxl with
    | [y0, y1], _ => exact ⟨y0, y1, rfl⟩
  obtain ⟨e0, q0, f0⟩ := RowsAt.field (cs := cs) (o := 0) (n := 1) (rdS Try.underlying48 (by kernel_rfl) (by decide) (rdI Try.underlying5)) (by kernel_rfl) (x := y0) (hf 0 _ rfl)
  obtain ⟨e1, q1, f1⟩ := RowsAt.field (cs := cs) (o := 1) (n := 1) (rdS Try.underlying49 (by kernel_rfl) (by decide) (rdS Try.underlying34 (by kernel_rfl) (by decide) (rdI Try.underlying3))) (by kernel_rfl) (x := y1) (hf 1 _ rfl)
  have hR := f0 _ (f1 _ (RowsAt.nil (by omega)))
  refine ⟨hlen, hR.1, ⟨e0,e1⟩, q1.1, fun j a ha => hR.2 j a ha⟩

end Go.Proofs.Ytfiindblaopaiaa
