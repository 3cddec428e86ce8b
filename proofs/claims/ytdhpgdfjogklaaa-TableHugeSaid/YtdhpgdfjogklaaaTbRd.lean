/- Page tables, read. -/
import Derived.Test.YtdhpgdfjogklaaaTbA
import Derived.Test.YtdhpgdfjogklaaaAiV
import Derived.KernelRfl
namespace Go.Proofs.Ytdhpgdfjogklaaa
open Go.ChangeShapes Go.WideShapes Go.ChangeAt Go.RowKit Go.AI
theorem rdEnt : RdRow Try.prog 28 rEnt (fun _ => True) := by
  intro H enc W base spare held fuel cs x h
  obtain ⟨xs, n, _, _, hlen, hxl, hf⟩ := DataW.trod_struct Try.underlying28 h
  replace hlen : cs.length = 7 := hlen.trans (by kernel_rfl)
  obtain ⟨y0, y1, y2, y3, y4, y5, y6, rfl⟩ : ∃ y0 y1 y2 y3 y4 y5 y6, xs = [y0, y1, y2, y3, y4, y5, y6] := by
    match xs, hxl with
    | [y0, y1, y2, y3, y4, y5, y6], _ => exact ⟨y0, y1, y2, y3, y4, y5, y6, rfl⟩
  obtain ⟨e0, q0, f0⟩ := RowsAt.field (cs := cs) (o := 0) (n := 1) (rdB Try.underlying4) (by kernel_rfl) (x := y0) (hf 0 _ rfl)
  obtain ⟨e1, q1, f1⟩ := RowsAt.field (cs := cs) (o := 1) (n := 1) (rdB Try.underlying4) (by kernel_rfl) (x := y1) (hf 1 _ rfl)
  obtain ⟨e2, q2, f2⟩ := RowsAt.field (cs := cs) (o := 2) (n := 1) (rdI Try.underlying3) (by kernel_rfl) (x := y2) (hf 2 _ rfl)
  obtain ⟨e3, q3, f3⟩ := RowsAt.field (cs := cs) (o := 3) (n := 1) (rdI Try.underlying3) (by kernel_rfl) (x := y3) (hf 3 _ rfl)
  obtain ⟨e4, q4, f4⟩ := RowsAt.field (cs := cs) (o := 4) (n := 1) (rdB Try.underlying4) (by kernel_rfl) (x := y4) (hf 4 _ rfl)
  obtain ⟨e5, q5, f5⟩ := RowsAt.field (cs := cs) (o := 5) (n := 1) (rdB Try.underlying4) (by kernel_rfl) (x := y5) (hf 5 _ rfl)
  obtain ⟨e6, q6, f6⟩ := RowsAt.field (cs := cs) (o := 6) (n := 1) (rdB Try.underlying4) (by kernel_rfl) (x := y6) (hf 6 _ rfl)
  have hR := f0 _ (f1 _ (f2 _ (f3 _ (f4 _ (f5 _ (f6 _ (RowsAt.nil (by omega))))))))
  refine ⟨hlen, hR.1, ⟨e0,e1,e2,e3,e4,e5,e6⟩, trivial, fun j a ha => hR.2 j a ha⟩

theorem rdNd : RdRow Try.prog 24 rNd (fun _ => True) := by
  intro H enc W base spare held fuel cs x h
  obtain ⟨xs, n, _, _, hlen, hxl, hf⟩ := DataW.trod_struct Try.underlying24 h
  replace hlen : cs.length = 2 := hlen.trans (by kernel_rfl)
  obtain ⟨y0, y1, rfl⟩ : ∃ y0 y1, xs = [y0, y1] := by
    match xs, hxl with
    | [y0, y1], _ => exact ⟨y0, y1, rfl⟩
  obtain ⟨e0, q0, f0⟩ := RowsAt.field (cs := cs) (o := 0) (n := 1) (rdB Try.underlying4) (by kernel_rfl) (x := y0) (hf 0 _ rfl)
  obtain ⟨e1, q1, f1⟩ := RowsAt.field (cs := cs) (o := 1) (n := 1) (rdS Try.underlying22 (by kernel_rfl) (by decide) rdEnt) (by kernel_rfl) (x := y1) (hf 1 _ rfl)
  have hR := f0 _ (f1 _ (RowsAt.nil (by omega)))
  refine ⟨hlen, hR.1, ⟨e0,e1⟩, trivial, fun j a ha => hR.2 j a ha⟩

set_option maxRecDepth 100000
theorem rdTb : RdRow Try.prog 26 rTb (fun _ => True) := by
  intro H enc W base spare held fuel cs x h
  obtain ⟨xs, n, _, _, hlen, hxl, hf⟩ := DataW.trod_array Try.underlying26 h
  replace hlen : cs.length = 16 := hlen.trans (by kernel_rfl)
  have hce : Try.prog.cellsOf 24 = 2 := by kernel_rfl
  obtain ⟨y0, y1, y2, y3, y4, y5, y6, y7, rfl⟩ : ∃ y0 y1 y2 y3 y4 y5 y6 y7, xs = [y0, y1, y2, y3, y4, y5, y6, y7] := by
    match xs, hxl with
    | [y0, y1, y2, y3, y4, y5, y6, y7], _ => exact ⟨y0, y1, y2, y3, y4, y5, y6, y7, rfl⟩
  have g0 := hf 0 (by decide)
  rw [show 0 * Try.prog.cellsOf 24 = 0 by rw [hce]] at g0
  obtain ⟨e0, q0, f0⟩ := RowsAt.field (cs := cs) (o := 0) (n := 2) rdNd hce (x := y0) g0
  have g1 := hf 1 (by decide)
  rw [show 1 * Try.prog.cellsOf 24 = 2 by rw [hce]] at g1
  obtain ⟨e1, q1, f1⟩ := RowsAt.field (cs := cs) (o := 2) (n := 2) rdNd hce (x := y1) g1
  have g2 := hf 2 (by decide)
  rw [show 2 * Try.prog.cellsOf 24 = 4 by rw [hce]] at g2
  obtain ⟨e2, q2, f2⟩ := RowsAt.field (cs := cs) (o := 4) (n := 2) rdNd hce (x := y2) g2
  have g3 := hf 3 (by decide)
  rw [show 3 * Try.prog.cellsOf 24 = 6 by rw [hce]] at g3
  obtain ⟨e3, q3, f3⟩ := RowsAt.field (cs := cs) (o := 6) (n := 2) rdNd hce (x := y3) g3
  have g4 := hf 4 (by decide)
  rw [show 4 * Try.prog.cellsOf 24 = 8 by rw [hce]] at g4
  obtain ⟨e4, q4, f4⟩ := RowsAt.field (cs := cs) (o := 8) (n := 2) rdNd hce (x := y4) g4
  have g5 := hf 5 (by decide)
  rw [show 5 * Try.prog.cellsOf 24 = 10 by rw [hce]] at g5
  obtain ⟨e5, q5, f5⟩ := RowsAt.field (cs := cs) (o := 10) (n := 2) rdNd hce (x := y5) g5
  have g6 := hf 6 (by decide)
  rw [show 6 * Try.prog.cellsOf 24 = 12 by rw [hce]] at g6
  obtain ⟨e6, q6, f6⟩ := RowsAt.field (cs := cs) (o := 12) (n := 2) rdNd hce (x := y6) g6
  have g7 := hf 7 (by decide)
  rw [show 7 * Try.prog.cellsOf 24 = 14 by rw [hce]] at g7
  obtain ⟨e7, q7, f7⟩ := RowsAt.field (cs := cs) (o := 14) (n := 2) rdNd hce (x := y7) g7
  have hR := f0 _ (f1 _ (f2 _ (f3 _ (f4 _ (f5 _ (f6 _ (f7 _ (RowsAt.nil (by omega)))))))))
  refine ⟨hlen, hR.1, ⟨[e0,e1,e2,e3,e4,e5,e6,e7],rfl⟩, trivial, fun j a ha => hR.2 j a ha⟩

end Go.Proofs.Ytdhpgdfjogklaaa
