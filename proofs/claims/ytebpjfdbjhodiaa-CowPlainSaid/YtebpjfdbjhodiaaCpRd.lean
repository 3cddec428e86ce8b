/- Deeds, read. -/
import Derived.Test.YtebpjfdbjhodiaaCpA
import Derived.Test.YtebpjfdbjhodiaaAiV
import Derived.KernelRfl
namespace Go.Proofs.Ytebpjfdbjhodiaa
open Go.ChangeShapes Go.WideShapes Go.ChangeAt Go.RowKit Go.AI
set_option maxRecDepth 100000
theorem rdD4 : RdRow Try.prog 171 rD4 (fun _ => True) := by
  intro H enc W base spare held fuel cs x h
  obtain ⟨xs, n, _, _, hlen, hxl, hf⟩ := DataW.trod_array Try.underlying171 h
  replace hlen : cs.length = 4 := hlen.trans (by kernel_rfl)
  have hce : Try.prog.cellsOf 3 = 1 := by kernel_rfl
  obtain ⟨y0, y1, y2, y3, rfl⟩ : ∃ y0 y1 y2 y3, xs = [y0, y1, y2, y3] := by
    match xs, hxl with
    | [y0, y1, y2, y3], _ => exact ⟨y0, y1, y2, y3, rfl⟩
  have g0 := hf 0 (by decide)
  rw [show 0 * Try.prog.cellsOf 3 = 0 by rw [hce]] at g0
  obtain ⟨e0, q0, f0⟩ := RowsAt.field (cs := cs) (o := 0) (n := 1) (rdI Try.underlying3) hce (x := y0) g0
  have g1 := hf 1 (by decide)
  rw [show 1 * Try.prog.cellsOf 3 = 1 by rw [hce]] at g1
  obtain ⟨e1, q1, f1⟩ := RowsAt.field (cs := cs) (o := 1) (n := 1) (rdI Try.underlying3) hce (x := y1) g1
  have g2 := hf 2 (by decide)
  rw [show 2 * Try.prog.cellsOf 3 = 2 by rw [hce]] at g2
  obtain ⟨e2, q2, f2⟩ := RowsAt.field (cs := cs) (o := 2) (n := 1) (rdI Try.underlying3) hce (x := y2) g2
  have g3 := hf 3 (by decide)
  rw [show 3 * Try.prog.cellsOf 3 = 3 by rw [hce]] at g3
  obtain ⟨e3, q3, f3⟩ := RowsAt.field (cs := cs) (o := 3) (n := 1) (rdI Try.underlying3) hce (x := y3) g3
  have hR := f0 _ (f1 _ (f2 _ (f3 _ (RowsAt.nil (by omega)))))
  refine ⟨hlen, hR.1, ⟨e0,e1,e2,e3⟩, trivial, fun j a ha => hR.2 j a ha⟩

end Go.Proofs.Ytebpjfdbjhodiaa
