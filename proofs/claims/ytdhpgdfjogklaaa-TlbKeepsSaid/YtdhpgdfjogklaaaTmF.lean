/- Processors, read. Pairs of whole numbers, read. -/
import Derived.Test.YtdhpgdfjogklaaaTmA
import Derived.Test.YtdhpgdfjogklaaaAiV
import Derived.KernelRfl
import Derived.Test.YtdhpgdfjogklaaaTmE
namespace Go.Proofs.Ytdhpgdfjogklaaa
open Go.ChangeShapes Go.WideShapes Go.ChangeAt Go.RowKit Go.AI
theorem rdLn : RdRow Try.prog 84 rLn (fun _ => True) := by
  intro H enc W base spare held fuel cs x h
  obtain ⟨xs, n, _, _, hlen, hxl, hf⟩ := DataW.trod_struct Try.underlying84 h
  replace hlen : cs.length = 3 := hlen.trans (by kernel_rfl)
  obtain ⟨y0, y1, y2, rfl⟩ : ∃ y0 y1 y2, xs = [y0, y1, y2] := by
    match xs, hxl with
    | [y0, y1, y2], _ => exact ⟨y0, y1, y2, rfl⟩
  obtain ⟨e0, q0, f0⟩ := RowsAt.field (cs := cs) (o := 0) (n := 1) (rdI Try.underlying3) (by kernel_rfl) (x := y0) (hf 0 _ rfl)
  obtain ⟨e1, q1, f1⟩ := RowsAt.field (cs := cs) (o := 1) (n := 1) (rdI Try.underlying3) (by kernel_rfl) (x := y1) (hf 1 _ rfl)
  obtain ⟨e2, q2, f2⟩ := RowsAt.field (cs := cs) (o := 2) (n := 1) (rdI Try.underlying45) (by kernel_rfl) (x := y2) (hf 2 _ rfl)
  have hR := f0 _ (f1 _ (f2 _ (RowsAt.nil (by omega))))
  refine ⟨hlen, hR.1, ⟨e0,e1,e2⟩, trivial, fun j a ha => hR.2 j a ha⟩

theorem rdOd : RdRow Try.prog 55 rOd (fun _ => True) := by
  intro H enc W base spare held fuel cs x h
  obtain ⟨xs, n, _, _, hlen, hxl, hf⟩ := DataW.trod_struct Try.underlying55 h
  replace hlen : cs.length = 2 := hlen.trans (by kernel_rfl)
  obtain ⟨y0, y1, rfl⟩ : ∃ y0 y1, xs = [y0, y1] := by
    match xs, hxl with
    | [y0, y1], _ => exact ⟨y0, y1, rfl⟩
  obtain ⟨e0, q0, f0⟩ := RowsAt.field (cs := cs) (o := 0) (n := 1) (rdI Try.underlying3) (by kernel_rfl) (x := y0) (hf 0 _ rfl)
  obtain ⟨e1, q1, f1⟩ := RowsAt.field (cs := cs) (o := 1) (n := 1) (rdI Try.underlying3) (by kernel_rfl) (x := y1) (hf 1 _ rfl)
  have hR := f0 _ (f1 _ (RowsAt.nil (by omega)))
  refine ⟨hlen, hR.1, ⟨e0,e1⟩, trivial, fun j a ha => hR.2 j a ha⟩

theorem rdCpu : RdRow Try.prog 63 rCpu (fun _ => True) := by
  intro H enc W base spare held fuel cs x h
  obtain ⟨xs, n, _, _, hlen, hxl, hf⟩ := DataW.trod_struct Try.underlying63 h
  replace hlen : cs.length = 2 := hlen.trans (by kernel_rfl)
  obtain ⟨y0, y1, rfl⟩ : ∃ y0 y1, xs = [y0, y1] := by
    match xs, hxl with
    | [y0, y1], _ => exact ⟨y0, y1, rfl⟩
  obtain ⟨e0, q0, f0⟩ := RowsAt.field (cs := cs) (o := 0) (n := 1) (rdS Try.underlying60 (by kernel_rfl) (by decide) rdLn) (by kernel_rfl) (x := y0) (hf 0 _ rfl)
  obtain ⟨e1, q1, f1⟩ := RowsAt.field (cs := cs) (o := 1) (n := 1) (rdS Try.underlying61 (by kernel_rfl) (by decide) rdOd) (by kernel_rfl) (x := y1) (hf 1 _ rfl)
  have hR := f0 _ (f1 _ (RowsAt.nil (by omega)))
  refine ⟨hlen, hR.1, ⟨e0,e1⟩, trivial, fun j a ha => hR.2 j a ha⟩

end Go.Proofs.Ytdhpgdfjogklaaa
namespace Go.Proofs.Ytdhpgdfjogklaaa
open Go.ChangeShapes Go.WideShapes Go.ChangeAt Go.RowKit Go.AI
set_option maxRecDepth 100000
theorem rdP2 : RdRow Try.prog 56 rP2 (fun _ => True) := by
  intro H enc W base spare held fuel cs x h
  obtain ⟨xs, n, _, _, hlen, hxl, hf⟩ := DataW.trod_array Try.underlying56 h
  replace hlen : cs.length = 2 := hlen.trans (by kernel_rfl)
  have hce : Try.prog.cellsOf 3 = 1 := by kernel_rfl
  obtain ⟨y0, y1, rfl⟩ : ∃ y0 y1, xs = [y0, y1] := by
    match xs, hxl with
    | [y0, y1], _ => exact ⟨y0, y1, rfl⟩
  have g0 := hf 0 (by decide)
  rw [show 0 * Try.prog.cellsOf 3 = 0 by rw [hce]] at g0
  obtain ⟨e0, q0, f0⟩ := RowsAt.field (cs := cs) (o := 0) (n := 1) (rdI Try.underlying3) hce (x := y0) g0
  have g1 := hf 1 (by decide)
  rw [show 1 * Try.prog.cellsOf 3 = 1 by rw [hce]] at g1
  obtain ⟨e1, q1, f1⟩ := RowsAt.field (cs := cs) (o := 1) (n := 1) (rdI Try.underlying3) hce (x := y1) g1
  have hR := f0 _ (f1 _ (RowsAt.nil (by omega)))
  refine ⟨hlen, hR.1, ⟨e0,e1⟩, trivial, fun j a ha => hR.2 j a ha⟩

end Go.Proofs.Ytdhpgdfjogklaaa
