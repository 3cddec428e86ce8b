/- Tables, processors and areas, read where the bulk is bounded. -/
import Derived.Test.YtebpjfdbjhodiaaBkA
import Derived.Test.YtebpjfdbjhodiaaToD
import Derived.Test.YtebpjfdbjhodiaaAiV
import Derived.KernelRfl
namespace Go.Proofs.Ytebpjfdbjhodiaa
open Go.AI
set_option linter.unusedSimpArgs false
set_option linter.unusedVariables false
section
open Go.ChangeShapes Go.WideShapes Go.ChangeAt Go.RowKit Go.AI
set_option maxRecDepth 100000
set_option linter.unusedVariables false
theorem all8 {P : Nd → Prop} {a b c d e f g h : Nd} (q0 : P a) (q1 : P b) (q2 : P c) (q3 : P d) (q4 : P e) (q5 : P f) (q6 : P g) (q7 : P h) : ∀ n ∈ [a, b, c, d, e, f, g, h], P n := by
  intro n hn
  simp only [List.mem_cons, List.not_mem_nil, or_false] at hn
  rcases hn with rfl | rfl | rfl | rfl | rfl | rfl | rfl | rfl <;> assumption
theorem rkEnt : RdK Try.prog 59 rEnt (fun _ => True) := by
  intro H enc W base spare held fuel cs x h hB
  obtain ⟨xs, n, _, hxe, hlen, hxl, hf⟩ := DataW.trod_struct Try.underlying59 h
  replace hlen : cs.length = 7 := hlen.trans (by kernel_rfl)
  obtain ⟨y0, y1, y2, y3, y4, y5, y6, rfl⟩ : ∃ y0 y1 y2 y3 y4 y5 y6, xs = [y0, y1, y2, y3, y4, y5, y6] := by
    match xs, hxl with
    | [y0, y1, y2, y3, y4, y5, y6], _ => exact ⟨y0, y1, y2, y3, y4, y5, y6, rfl⟩
  subst hxe
  obtain ⟨e0, q0, f0⟩ := RowsAt.fieldK (cs := cs) (o := 0) (n := 1) (RdK.of (rdB Try.underlying4)) (by kernel_rfl) (x := y0) (hf 0 _ rfl) (by simp only [Rows.uptoBulk, Rows.uptoBulkAll, List.map_cons, List.map_nil] at hB; omega)
  obtain ⟨e1, q1, f1⟩ := RowsAt.fieldK (cs := cs) (o := 1) (n := 1) (RdK.of (rdB Try.underlying4)) (by kernel_rfl) (x := y1) (hf 1 _ rfl) (by simp only [Rows.uptoBulk, Rows.uptoBulkAll, List.map_cons, List.map_nil] at hB; omega)
  obtain ⟨e2, q2, f2⟩ := RowsAt.fieldK (cs := cs) (o := 2) (n := 1) (RdK.of (rdI Try.underlying3)) (by kernel_rfl) (x := y2) (hf 2 _ rfl) (by simp only [Rows.uptoBulk, Rows.uptoBulkAll, List.map_cons, List.map_nil] at hB; omega)
  obtain ⟨e3, q3, f3⟩ := RowsAt.fieldK (cs := cs) (o := 3) (n := 1) (RdK.of (rdI Try.underlying3)) (by kernel_rfl) (x := y3) (hf 3 _ rfl) (by simp only [Rows.uptoBulk, Rows.uptoBulkAll, List.map_cons, List.map_nil] at hB; omega)
  obtain ⟨e4, q4, f4⟩ := RowsAt.fieldK (cs := cs) (o := 4) (n := 1) (RdK.of (rdB Try.underlying4)) (by kernel_rfl) (x := y4) (hf 4 _ rfl) (by simp only [Rows.uptoBulk, Rows.uptoBulkAll, List.map_cons, List.map_nil] at hB; omega)
  obtain ⟨e5, q5, f5⟩ := RowsAt.fieldK (cs := cs) (o := 5) (n := 1) (RdK.of (rdB Try.underlying4)) (by kernel_rfl) (x := y5) (hf 5 _ rfl) (by simp only [Rows.uptoBulk, Rows.uptoBulkAll, List.map_cons, List.map_nil] at hB; omega)
  obtain ⟨e6, q6, f6⟩ := RowsAt.fieldK (cs := cs) (o := 6) (n := 1) (RdK.of (rdB Try.underlying4)) (by kernel_rfl) (x := y6) (hf 6 _ rfl) (by simp only [Rows.uptoBulk, Rows.uptoBulkAll, List.map_cons, List.map_nil] at hB; omega)
  have hR := f0 _ (f1 _ (f2 _ (f3 _ (f4 _ (f5 _ (f6 _ (RowsAt.nil (by omega))))))))
  refine ⟨hlen, hR.1, ⟨e0,e1,e2,e3,e4,e5,e6⟩, trivial, fun j a ha => hR.2 j a ha⟩

theorem rkNd : RdK Try.prog 55 rNd (fun e => e.ents.length ≤ 1048576) := by
  intro H enc W base spare held fuel cs x h hB
  obtain ⟨xs, n, _, hxe, hlen, hxl, hf⟩ := DataW.trod_struct Try.underlying55 h
  replace hlen : cs.length = 2 := hlen.trans (by kernel_rfl)
  obtain ⟨y0, y1, rfl⟩ : ∃ y0 y1, xs = [y0, y1] := by
    match xs, hxl with
    | [y0, y1], _ => exact ⟨y0, y1, rfl⟩
  subst hxe
  obtain ⟨e0, q0, f0⟩ := RowsAt.fieldK (cs := cs) (o := 0) (n := 1) (RdK.of (rdB Try.underlying4)) (by kernel_rfl) (x := y0) (hf 0 _ rfl) (by simp only [Rows.uptoBulk, Rows.uptoBulkAll, List.map_cons, List.map_nil] at hB; omega)
  obtain ⟨e1, q1, f1⟩ := RowsAt.fieldK (cs := cs) (o := 1) (n := 1) (rkS Try.underlying53 (by kernel_rfl) (by decide) rkEnt) (by kernel_rfl) (x := y1) (hf 1 _ rfl) (by simp only [Rows.uptoBulk, Rows.uptoBulkAll, List.map_cons, List.map_nil] at hB; omega)
  have hR := f0 _ (f1 _ (RowsAt.nil (by omega)))
  refine ⟨hlen, hR.1, ⟨e0,e1⟩, q1.1, fun j a ha => hR.2 j a ha⟩

theorem rkTb : RdK Try.prog 57 rTb (fun e => ∀ n ∈ e.l, n.ents.length ≤ 1048576) := by
  intro H enc W base spare held fuel cs x h hB
  obtain ⟨xs, n, _, hxe, hlen, hxl, hf⟩ := DataW.trod_array Try.underlying57 h
  replace hlen : cs.length = 16 := hlen.trans (by kernel_rfl)
  have hce : Try.prog.cellsOf 55 = 2 := by kernel_rfl
  obtain ⟨y0, y1, y2, y3, y4, y5, y6, y7, rfl⟩ : ∃ y0 y1 y2 y3 y4 y5 y6 y7, xs = [y0, y1, y2, y3, y4, y5, y6, y7] := by
    match xs, hxl with
    | [y0, y1, y2, y3, y4, y5, y6, y7], _ => exact ⟨y0, y1, y2, y3, y4, y5, y6, y7, rfl⟩
  subst hxe
  have g0 := hf 0 (by decide)
  rw [show 0 * Try.prog.cellsOf 55 = 0 by rw [hce]] at g0
  obtain ⟨e0, q0, f0⟩ := RowsAt.fieldK (cs := cs) (o := 0) (n := 2) rkNd hce (x := y0) g0 (by simp only [Rows.uptoBulk, Rows.uptoBulkAll, List.map_cons, List.map_nil] at hB; omega)
  have g1 := hf 1 (by decide)
  rw [show 1 * Try.prog.cellsOf 55 = 2 by rw [hce]] at g1
  obtain ⟨e1, q1, f1⟩ := RowsAt.fieldK (cs := cs) (o := 2) (n := 2) rkNd hce (x := y1) g1 (by simp only [Rows.uptoBulk, Rows.uptoBulkAll, List.map_cons, List.map_nil] at hB; omega)
  have g2 := hf 2 (by decide)
  rw [show 2 * Try.prog.cellsOf 55 = 4 by rw [hce]] at g2
  obtain ⟨e2, q2, f2⟩ := RowsAt.fieldK (cs := cs) (o := 4) (n := 2) rkNd hce (x := y2) g2 (by simp only [Rows.uptoBulk, Rows.uptoBulkAll, List.map_cons, List.map_nil] at hB; omega)
  have g3 := hf 3 (by decide)
  rw [show 3 * Try.prog.cellsOf 55 = 6 by rw [hce]] at g3
  obtain ⟨e3, q3, f3⟩ := RowsAt.fieldK (cs := cs) (o := 6) (n := 2) rkNd hce (x := y3) g3 (by simp only [Rows.uptoBulk, Rows.uptoBulkAll, List.map_cons, List.map_nil] at hB; omega)
  have g4 := hf 4 (by decide)
  rw [show 4 * Try.prog.cellsOf 55 = 8 by rw [hce]] at g4
  obtain ⟨e4, q4, f4⟩ := RowsAt.fieldK (cs := cs) (o := 8) (n := 2) rkNd hce (x := y4) g4 (by simp only [Rows.uptoBulk, Rows.uptoBulkAll, List.map_cons, List.map_nil] at hB; omega)
  have g5 := hf 5 (by decide)
  rw [show 5 * Try.prog.cellsOf 55 = 10 by rw [hce]] at g5
  obtain ⟨e5, q5, f5⟩ := RowsAt.fieldK (cs := cs) (o := 10) (n := 2) rkNd hce (x := y5) g5 (by simp only [Rows.uptoBulk, Rows.uptoBulkAll, List.map_cons, List.map_nil] at hB; omega)
  have g6 := hf 6 (by decide)
  rw [show 6 * Try.prog.cellsOf 55 = 12 by rw [hce]] at g6
  obtain ⟨e6, q6, f6⟩ := RowsAt.fieldK (cs := cs) (o := 12) (n := 2) rkNd hce (x := y6) g6 (by simp only [Rows.uptoBulk, Rows.uptoBulkAll, List.map_cons, List.map_nil] at hB; omega)
  have g7 := hf 7 (by decide)
  rw [show 7 * Try.prog.cellsOf 55 = 14 by rw [hce]] at g7
  obtain ⟨e7, q7, f7⟩ := RowsAt.fieldK (cs := cs) (o := 14) (n := 2) rkNd hce (x := y7) g7 (by simp only [Rows.uptoBulk, Rows.uptoBulkAll, List.map_cons, List.map_nil] at hB; omega)
  have hR := f0 _ (f1 _ (f2 _ (f3 _ (f4 _ (f5 _ (f6 _ (f7 _ (RowsAt.nil (by omega)))))))))
  refine ⟨hlen, hR.1, ⟨[e0,e1,e2,e3,e4,e5,e6,e7],rfl⟩, all8 (P := fun n => n.ents.length ≤ 1048576) q0 q1 q2 q3 q4 q5 q6 q7, fun j a ha => hR.2 j a ha⟩

theorem rkLn : RdK Try.prog 76 rLn (fun _ => True) := by
  intro H enc W base spare held fuel cs x h hB
  obtain ⟨xs, n, _, hxe, hlen, hxl, hf⟩ := DataW.trod_struct Try.underlying76 h
  replace hlen : cs.length = 3 := hlen.trans (by kernel_rfl)
  obtain ⟨y0, y1, y2, rfl⟩ : ∃ y0 y1 y2, xs = [y0, y1, y2] := by
    match xs, hxl with
    | [y0, y1, y2], _ => exact ⟨y0, y1, y2, rfl⟩
  subst hxe
  obtain ⟨e0, q0, f0⟩ := RowsAt.fieldK (cs := cs) (o := 0) (n := 1) (RdK.of (rdI Try.underlying3)) (by kernel_rfl) (x := y0) (hf 0 _ rfl) (by simp only [Rows.uptoBulk, Rows.uptoBulkAll, List.map_cons, List.map_nil] at hB; omega)
  obtain ⟨e1, q1, f1⟩ := RowsAt.fieldK (cs := cs) (o := 1) (n := 1) (RdK.of (rdI Try.underlying3)) (by kernel_rfl) (x := y1) (hf 1 _ rfl) (by simp only [Rows.uptoBulk, Rows.uptoBulkAll, List.map_cons, List.map_nil] at hB; omega)
  obtain ⟨e2, q2, f2⟩ := RowsAt.fieldK (cs := cs) (o := 2) (n := 1) (RdK.of (rdI Try.underlying74)) (by kernel_rfl) (x := y2) (hf 2 _ rfl) (by simp only [Rows.uptoBulk, Rows.uptoBulkAll, List.map_cons, List.map_nil] at hB; omega)
  have hR := f0 _ (f1 _ (f2 _ (RowsAt.nil (by omega))))
  refine ⟨hlen, hR.1, ⟨e0,e1,e2⟩, trivial, fun j a ha => hR.2 j a ha⟩

theorem rkOd : RdK Try.prog 62 rOd (fun _ => True) := by
  intro H enc W base spare held fuel cs x h hB
  obtain ⟨xs, n, _, hxe, hlen, hxl, hf⟩ := DataW.trod_struct Try.underlying62 h
  replace hlen : cs.length = 2 := hlen.trans (by kernel_rfl)
  obtain ⟨y0, y1, rfl⟩ : ∃ y0 y1, xs = [y0, y1] := by
    match xs, hxl with
    | [y0, y1], _ => exact ⟨y0, y1, rfl⟩
  subst hxe
  obtain ⟨e0, q0, f0⟩ := RowsAt.fieldK (cs := cs) (o := 0) (n := 1) (RdK.of (rdI Try.underlying3)) (by kernel_rfl) (x := y0) (hf 0 _ rfl) (by simp only [Rows.uptoBulk, Rows.uptoBulkAll, List.map_cons, List.map_nil] at hB; omega)
  obtain ⟨e1, q1, f1⟩ := RowsAt.fieldK (cs := cs) (o := 1) (n := 1) (RdK.of (rdI Try.underlying3)) (by kernel_rfl) (x := y1) (hf 1 _ rfl) (by simp only [Rows.uptoBulk, Rows.uptoBulkAll, List.map_cons, List.map_nil] at hB; omega)
  have hR := f0 _ (f1 _ (RowsAt.nil (by omega)))
  refine ⟨hlen, hR.1, ⟨e0,e1⟩, trivial, fun j a ha => hR.2 j a ha⟩

theorem rkCpu : RdK Try.prog 72 rCpu (fun e => e.lines.length ≤ 1048576 ∧ e.orders.length ≤ 1048576) := by
  intro H enc W base spare held fuel cs x h hB
  obtain ⟨xs, n, _, hxe, hlen, hxl, hf⟩ := DataW.trod_struct Try.underlying72 h
  replace hlen : cs.length = 2 := hlen.trans (by kernel_rfl)
  obtain ⟨y0, y1, rfl⟩ : ∃ y0 y1, xs = [y0, y1] := by
    match xs, hxl with
    | [y0, y1], _ => exact ⟨y0, y1, rfl⟩
  subst hxe
  obtain ⟨e0, q0, f0⟩ := RowsAt.fieldK (cs := cs) (o := 0) (n := 1) (rkS Try.underlying69 (by kernel_rfl) (by decide) rkLn) (by kernel_rfl) (x := y0) (hf 0 _ rfl) (by simp only [Rows.uptoBulk, Rows.uptoBulkAll, List.map_cons, List.map_nil] at hB; omega)
  obtain ⟨e1, q1, f1⟩ := RowsAt.fieldK (cs := cs) (o := 1) (n := 1) (rkS Try.underlying70 (by kernel_rfl) (by decide) rkOd) (by kernel_rfl) (x := y1) (hf 1 _ rfl) (by simp only [Rows.uptoBulk, Rows.uptoBulkAll, List.map_cons, List.map_nil] at hB; omega)
  have hR := f0 _ (f1 _ (RowsAt.nil (by omega)))
  refine ⟨hlen, hR.1, ⟨e0,e1⟩, ⟨q0.1, q1.1⟩, fun j a ha => hR.2 j a ha⟩

theorem rkAr : RdK Try.prog 65 rAr (fun _ => True) := by
  intro H enc W base spare held fuel cs x h hB
  obtain ⟨xs, n, _, hxe, hlen, hxl, hf⟩ := DataW.trod_struct Try.underlying65 h
  replace hlen : cs.length = 3 := hlen.trans (by kernel_rfl)
  obtain ⟨y0, y1, y2, rfl⟩ : ∃ y0 y1 y2, xs = [y0, y1, y2] := by
    match xs, hxl with
    | [y0, y1, y2], _ => exact ⟨y0, y1, y2, rfl⟩
  subst hxe
  obtain ⟨e0, q0, f0⟩ := RowsAt.fieldK (cs := cs) (o := 0) (n := 1) (RdK.of (rdI Try.underlying3)) (by kernel_rfl) (x := y0) (hf 0 _ rfl) (by simp only [Rows.uptoBulk, Rows.uptoBulkAll, List.map_cons, List.map_nil] at hB; omega)
  obtain ⟨e1, q1, f1⟩ := RowsAt.fieldK (cs := cs) (o := 1) (n := 1) (RdK.of (rdI Try.underlying3)) (by kernel_rfl) (x := y1) (hf 1 _ rfl) (by simp only [Rows.uptoBulk, Rows.uptoBulkAll, List.map_cons, List.map_nil] at hB; omega)
  obtain ⟨e2, q2, f2⟩ := RowsAt.fieldK (cs := cs) (o := 2) (n := 1) (RdK.of (rdI Try.underlying3)) (by kernel_rfl) (x := y2) (hf 2 _ rfl) (by simp only [Rows.uptoBulk, Rows.uptoBulkAll, List.map_cons, List.map_nil] at hB; omega)
  have hR := f0 _ (f1 _ (f2 _ (RowsAt.nil (by omega))))
  refine ⟨hlen, hR.1, ⟨e0,e1,e2⟩, trivial, fun j a ha => hR.2 j a ha⟩

end
end Go.Proofs.Ytebpjfdbjhodiaa
