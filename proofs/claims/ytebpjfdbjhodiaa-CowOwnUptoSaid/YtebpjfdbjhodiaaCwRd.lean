/- Pairs, rooms and slots, read where the bulk is bounded. -/
import Derived.Test.YtebpjfdbjhodiaaBkA
import Derived.Test.YtebpjfdbjhodiaaCwB
import Derived.Test.YtebpjfdbjhodiaaCwA
import Derived.Test.YtebpjfdbjhodiaaAiV
import Derived.KernelRfl
namespace Go.Proofs.Ytebpjfdbjhodiaa
open Go.AI
set_option linter.unusedSimpArgs false
set_option linter.unusedVariables false
section
open Go.ChangeShapes Go.WideShapes Go.ChangeAt Go.RowKit Go.AI
set_option maxRecDepth 100000
theorem rdPr : RdRow Try.prog 137 rPr (fun _ => True) := by
  intro H enc W base spare held fuel cs x h
  obtain ⟨xs, n, _, _, hlen, hxl, hf⟩ := DataW.trod_struct Try.underlying137 h
  replace hlen : cs.length = 3 := hlen.trans (by kernel_rfl)
  obtain ⟨y0, y1, y2, rfl⟩ : ∃ y0 y1 y2, xs = [y0, y1, y2] := by
    match xs, hxl with
    | [y0, y1, y2], _ => exact ⟨y0, y1, y2, rfl⟩
  obtain ⟨e0, q0, f0⟩ := RowsAt.field (cs := cs) (o := 0) (n := 1) (rdI Try.underlying3) (by kernel_rfl) (x := y0) (hf 0 _ rfl)
  obtain ⟨e1, q1, f1⟩ := RowsAt.field (cs := cs) (o := 1) (n := 1) (rdI Try.underlying3) (by kernel_rfl) (x := y1) (hf 1 _ rfl)
  obtain ⟨e2, q2, f2⟩ := RowsAt.field (cs := cs) (o := 2) (n := 1) (rdI Try.underlying3) (by kernel_rfl) (x := y2) (hf 2 _ rfl)
  have hR := f0 _ (f1 _ (f2 _ (RowsAt.nil (by omega))))
  refine ⟨hlen, hR.1, ⟨e0,e1,e2⟩, trivial, fun j a ha => hR.2 j a ha⟩

theorem rdPg : RdRow Try.prog 33 rPg (fun _ => True) := by
  intro H enc W base spare held fuel cs x h
  obtain ⟨xs, n, _, _, hlen, hxl, hf⟩ := DataW.trod_array Try.underlying33 h
  replace hlen : cs.length = 16 := hlen.trans (by kernel_rfl)
  have hce : Try.prog.cellsOf 5 = 1 := by kernel_rfl
  obtain ⟨y0, y1, y2, y3, y4, y5, y6, y7, y8, y9, y10, y11, y12, y13, y14, y15, rfl⟩ : ∃ y0 y1 y2 y3 y4 y5 y6 y7 y8 y9 y10 y11 y12 y13 y14 y15, xs = [y0, y1, y2, y3, y4, y5, y6, y7, y8, y9, y10, y11, y12, y13, y14, y15] := by
    match xs, hxl with
    | [y0, y1, y2, y3, y4, y5, y6, y7, y8, y9, y10, y11, y12, y13, y14, y15], _ => exact ⟨y0, y1, y2, y3, y4, y5, y6, y7, y8, y9, y10, y11, y12, y13, y14, y15, rfl⟩
  have g0 := hf 0 (by decide)
  rw [show 0 * Try.prog.cellsOf 5 = 0 by rw [hce]] at g0
  obtain ⟨e0, q0, f0⟩ := RowsAt.field (cs := cs) (o := 0) (n := 1) (rdI Try.underlying5) hce (x := y0) g0
  have g1 := hf 1 (by decide)
  rw [show 1 * Try.prog.cellsOf 5 = 1 by rw [hce]] at g1
  obtain ⟨e1, q1, f1⟩ := RowsAt.field (cs := cs) (o := 1) (n := 1) (rdI Try.underlying5) hce (x := y1) g1
  have g2 := hf 2 (by decide)
  rw [show 2 * Try.prog.cellsOf 5 = 2 by rw [hce]] at g2
  obtain ⟨e2, q2, f2⟩ := RowsAt.field (cs := cs) (o := 2) (n := 1) (rdI Try.underlying5) hce (x := y2) g2
  have g3 := hf 3 (by decide)
  rw [show 3 * Try.prog.cellsOf 5 = 3 by rw [hce]] at g3
  obtain ⟨e3, q3, f3⟩ := RowsAt.field (cs := cs) (o := 3) (n := 1) (rdI Try.underlying5) hce (x := y3) g3
  have g4 := hf 4 (by decide)
  rw [show 4 * Try.prog.cellsOf 5 = 4 by rw [hce]] at g4
  obtain ⟨e4, q4, f4⟩ := RowsAt.field (cs := cs) (o := 4) (n := 1) (rdI Try.underlying5) hce (x := y4) g4
  have g5 := hf 5 (by decide)
  rw [show 5 * Try.prog.cellsOf 5 = 5 by rw [hce]] at g5
  obtain ⟨e5, q5, f5⟩ := RowsAt.field (cs := cs) (o := 5) (n := 1) (rdI Try.underlying5) hce (x := y5) g5
  have g6 := hf 6 (by decide)
  rw [show 6 * Try.prog.cellsOf 5 = 6 by rw [hce]] at g6
  obtain ⟨e6, q6, f6⟩ := RowsAt.field (cs := cs) (o := 6) (n := 1) (rdI Try.underlying5) hce (x := y6) g6
  have g7 := hf 7 (by decide)
  rw [show 7 * Try.prog.cellsOf 5 = 7 by rw [hce]] at g7
  obtain ⟨e7, q7, f7⟩ := RowsAt.field (cs := cs) (o := 7) (n := 1) (rdI Try.underlying5) hce (x := y7) g7
  have g8 := hf 8 (by decide)
  rw [show 8 * Try.prog.cellsOf 5 = 8 by rw [hce]] at g8
  obtain ⟨e8, q8, f8⟩ := RowsAt.field (cs := cs) (o := 8) (n := 1) (rdI Try.underlying5) hce (x := y8) g8
  have g9 := hf 9 (by decide)
  rw [show 9 * Try.prog.cellsOf 5 = 9 by rw [hce]] at g9
  obtain ⟨e9, q9, f9⟩ := RowsAt.field (cs := cs) (o := 9) (n := 1) (rdI Try.underlying5) hce (x := y9) g9
  have g10 := hf 10 (by decide)
  rw [show 10 * Try.prog.cellsOf 5 = 10 by rw [hce]] at g10
  obtain ⟨e10, q10, f10⟩ := RowsAt.field (cs := cs) (o := 10) (n := 1) (rdI Try.underlying5) hce (x := y10) g10
  have g11 := hf 11 (by decide)
  rw [show 11 * Try.prog.cellsOf 5 = 11 by rw [hce]] at g11
  obtain ⟨e11, q11, f11⟩ := RowsAt.field (cs := cs) (o := 11) (n := 1) (rdI Try.underlying5) hce (x := y11) g11
  have g12 := hf 12 (by decide)
  rw [show 12 * Try.prog.cellsOf 5 = 12 by rw [hce]] at g12
  obtain ⟨e12, q12, f12⟩ := RowsAt.field (cs := cs) (o := 12) (n := 1) (rdI Try.underlying5) hce (x := y12) g12
  have g13 := hf 13 (by decide)
  rw [show 13 * Try.prog.cellsOf 5 = 13 by rw [hce]] at g13
  obtain ⟨e13, q13, f13⟩ := RowsAt.field (cs := cs) (o := 13) (n := 1) (rdI Try.underlying5) hce (x := y13) g13
  have g14 := hf 14 (by decide)
  rw [show 14 * Try.prog.cellsOf 5 = 14 by rw [hce]] at g14
  obtain ⟨e14, q14, f14⟩ := RowsAt.field (cs := cs) (o := 14) (n := 1) (rdI Try.underlying5) hce (x := y14) g14
  have g15 := hf 15 (by decide)
  rw [show 15 * Try.prog.cellsOf 5 = 15 by rw [hce]] at g15
  obtain ⟨e15, q15, f15⟩ := RowsAt.field (cs := cs) (o := 15) (n := 1) (rdI Try.underlying5) hce (x := y15) g15
  have hR := f0 _ (f1 _ (f2 _ (f3 _ (f4 _ (f5 _ (f6 _ (f7 _ (f8 _ (f9 _ (f10 _ (f11 _ (f12 _ (f13 _ (f14 _ (f15 _ (RowsAt.nil (by omega)))))))))))))))))
  refine ⟨hlen, hR.1, ⟨e0,e1,e2,e3,e4,e5,e6,e7,e8,e9,e10,e11,e12,e13,e14,e15⟩, trivial, fun j a ha => hR.2 j a ha⟩

theorem rdSlot : RdRow Try.prog 146 rSlot (fun _ => True) := by
  intro H enc W base spare held fuel cs x h
  obtain ⟨xs, n, _, _, hlen, hxl, hf⟩ := DataW.trod_struct Try.underlying146 h
  replace hlen : cs.length = 17 := hlen.trans (by kernel_rfl)
  obtain ⟨y0, y1, rfl⟩ : ∃ y0 y1, xs = [y0, y1] := by
    match xs, hxl with
    | [y0, y1], _ => exact ⟨y0, y1, rfl⟩
  obtain ⟨e0, q0, f0⟩ := RowsAt.field (cs := cs) (o := 0) (n := 1) (rdI Try.underlying3) (by kernel_rfl) (x := y0) (hf 0 _ rfl)
  obtain ⟨e1, q1, f1⟩ := RowsAt.field (cs := cs) (o := 1) (n := 16) rdPg (by kernel_rfl) (x := y1) (hf 1 _ rfl)
  have hR := f0 _ (f1 _ (RowsAt.nil (by omega)))
  refine ⟨hlen, hR.1, ⟨e0,e1⟩, trivial, fun j a ha => hR.2 j a ha⟩

theorem rkRoom : RdK Try.prog 140 rRoom (fun e => (e.cells.length ≤ 1048576 ∧ e.spaces.length ≤ 1048576) ∧ ∀ x ∈ e.spaces, x.length ≤ 1048576) := by
  intro H enc W base spare held fuel cs x h hB
  obtain ⟨xs, n, _, hxe, hlen, hxl, hf⟩ := DataW.trod_struct Try.underlying140 h
  replace hlen : cs.length = 2 := hlen.trans (by kernel_rfl)
  obtain ⟨y0, y1, rfl⟩ : ∃ y0 y1, xs = [y0, y1] := by
    match xs, hxl with
    | [y0, y1], _ => exact ⟨y0, y1, rfl⟩
  subst hxe
  obtain ⟨e0, q0, f0⟩ := RowsAt.fieldK (cs := cs) (o := 0) (n := 1) (rkS Try.underlying138 (by kernel_rfl) (by decide) (RdK.of (rdI Try.underlying5))) (by kernel_rfl) (x := y0) (hf 0 _ rfl) (by simp only [Rows.uptoBulk, Rows.uptoBulkAll, List.map_cons, List.map_nil] at hB; omega)
  obtain ⟨e1, q1, f1⟩ := RowsAt.fieldK (cs := cs) (o := 1) (n := 1) (rkS Try.underlying111 (by kernel_rfl) (by decide) (rkS Try.underlying112 (by kernel_rfl) (by decide) (RdK.of (rdI Try.underlying3)))) (by kernel_rfl) (x := y1) (hf 1 _ rfl) (by simp only [Rows.uptoBulk, Rows.uptoBulkAll, List.map_cons, List.map_nil] at hB; omega)
  have hR := f0 _ (f1 _ (RowsAt.nil (by omega)))
  refine ⟨hlen, hR.1, ⟨e0,e1⟩, ⟨⟨q0.1, q1.1⟩, fun x hx => (q1.2 x hx).1⟩, fun j a ha => hR.2 j a ha⟩

end
end Go.Proofs.Ytebpjfdbjhodiaa
