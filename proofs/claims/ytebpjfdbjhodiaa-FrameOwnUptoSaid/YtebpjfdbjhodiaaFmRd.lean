/- Frames, rooms and slabs, read where the bulk is bounded. -/
import Derived.Test.YtebpjfdbjhodiaaBkA
import Derived.Test.YtebpjfdbjhodiaaFmC
namespace Go.Proofs.Ytebpjfdbjhodiaa
open Go.ChangeShapes Go.WideShapes Go.ChangeAt Go.RowKit Go.AI
set_option maxRecDepth 100000
theorem inK_le {n : Int} (h : InK .i64 n) : n ≤ 9223372036854775807 := (bounds_i64 h).2
theorem rkFrm : RdK Try.prog 107 rFrm (fun _ => True) := by
  intro H enc W base spare held fuel cs x h hB
  obtain ⟨xs, n, _, hxe, hlen, hxl, hf⟩ := DataW.trod_struct Try.underlying107 h
  replace hlen : cs.length = 3 := hlen.trans (by kernel_rfl)
  obtain ⟨y0, y1, y2, rfl⟩ : ∃ y0 y1 y2, xs = [y0, y1, y2] := by
    match xs, hxl with
    | [y0, y1, y2], _ => exact ⟨y0, y1, y2, rfl⟩
  subst hxe
  obtain ⟨e0, q0, f0⟩ := RowsAt.fieldK (cs := cs) (o := 0) (n := 1) (RdK.of (rdI Try.underlying3)) (by kernel_rfl) (x := y0) (hf 0 _ rfl) (by simp only [Rows.uptoBulk, Rows.uptoBulkAll, List.map_cons, List.map_nil] at hB; omega)
  obtain ⟨e1, q1, f1⟩ := RowsAt.fieldK (cs := cs) (o := 1) (n := 1) (RdK.of (rdI Try.underlying3)) (by kernel_rfl) (x := y1) (hf 1 _ rfl) (by simp only [Rows.uptoBulk, Rows.uptoBulkAll, List.map_cons, List.map_nil] at hB; omega)
  obtain ⟨e2, q2, f2⟩ := RowsAt.fieldK (cs := cs) (o := 2) (n := 1) (RdK.of (rdI Try.underlying3)) (by kernel_rfl) (x := y2) (hf 2 _ rfl) (by simp only [Rows.uptoBulk, Rows.uptoBulkAll, List.map_cons, List.map_nil] at hB; omega)
  have hR := f0 _ (f1 _ (f2 _ (RowsAt.nil (by omega))))
  refine ⟨hlen, hR.1, ⟨e0,e1,e2⟩, trivial, fun j a ha => hR.2 j a ha⟩

theorem rkRm : RdK Try.prog 110 rRm (fun _ => True) := by
  intro H enc W base spare held fuel cs x h hB
  obtain ⟨xs, n, _, hxe, hlen, hxl, hf⟩ := DataW.trod_struct Try.underlying110 h
  replace hlen : cs.length = 2 := hlen.trans (by kernel_rfl)
  obtain ⟨y0, y1, rfl⟩ : ∃ y0 y1, xs = [y0, y1] := by
    match xs, hxl with
    | [y0, y1], _ => exact ⟨y0, y1, rfl⟩
  subst hxe
  obtain ⟨e0, q0, f0⟩ := RowsAt.fieldK (cs := cs) (o := 0) (n := 1) (RdK.of (rdI Try.underlying3)) (by kernel_rfl) (x := y0) (hf 0 _ rfl) (by simp only [Rows.uptoBulk, Rows.uptoBulkAll, List.map_cons, List.map_nil] at hB; omega)
  obtain ⟨e1, q1, f1⟩ := RowsAt.fieldK (cs := cs) (o := 1) (n := 1) (RdK.of (rdI Try.underlying3)) (by kernel_rfl) (x := y1) (hf 1 _ rfl) (by simp only [Rows.uptoBulk, Rows.uptoBulkAll, List.map_cons, List.map_nil] at hB; omega)
  have hR := f0 _ (f1 _ (RowsAt.nil (by omega)))
  refine ⟨hlen, hR.1, ⟨e0,e1⟩, trivial, fun j a ha => hR.2 j a ha⟩

theorem rkTwn : RdK Try.prog 99 rTwn (fun e => e.free.length ≤ 1048576) := by
  intro H enc W base spare held fuel cs x h hB
  obtain ⟨xs, n, _, hxe, hlen, hxl, hf⟩ := DataW.trod_struct Try.underlying99 h
  replace hlen : cs.length = 2 := hlen.trans (by kernel_rfl)
  obtain ⟨y0, y1, rfl⟩ : ∃ y0 y1, xs = [y0, y1] := by
    match xs, hxl with
    | [y0, y1], _ => exact ⟨y0, y1, rfl⟩
  subst hxe
  obtain ⟨e0, q0, f0⟩ := RowsAt.fieldK (cs := cs) (o := 0) (n := 1) (RdK.of (rdI Try.underlying3)) (by kernel_rfl) (x := y0) (hf 0 _ rfl) (by simp only [Rows.uptoBulk, Rows.uptoBulkAll, List.map_cons, List.map_nil] at hB; omega)
  obtain ⟨e1, q1, f1⟩ := RowsAt.fieldK (cs := cs) (o := 1) (n := 1) (rkS Try.underlying97 (by kernel_rfl) (by decide) rkRm) (by kernel_rfl) (x := y1) (hf 1 _ rfl) (by simp only [Rows.uptoBulk, Rows.uptoBulkAll, List.map_cons, List.map_nil] at hB; omega)
  have hR := f0 _ (f1 _ (RowsAt.nil (by omega)))
  refine ⟨hlen, hR.1, ⟨e0,e1⟩, q1.1, fun j a ha => hR.2 j a ha⟩

theorem rkPlace : RdK Try.prog 104 rPlace (fun _ => True) := by
  intro H enc W base spare held fuel cs x h hB
  obtain ⟨xs, n, _, hxe, hlen, hxl, hf⟩ := DataW.trod_struct Try.underlying104 h
  replace hlen : cs.length = 2 := hlen.trans (by kernel_rfl)
  obtain ⟨y0, y1, rfl⟩ : ∃ y0 y1, xs = [y0, y1] := by
    match xs, hxl with
    | [y0, y1], _ => exact ⟨y0, y1, rfl⟩
  subst hxe
  obtain ⟨e0, q0, f0⟩ := RowsAt.fieldK (cs := cs) (o := 0) (n := 1) (RdK.of (rdI Try.underlying3)) (by kernel_rfl) (x := y0) (hf 0 _ rfl) (by simp only [Rows.uptoBulk, Rows.uptoBulkAll, List.map_cons, List.map_nil] at hB; omega)
  obtain ⟨e1, q1, f1⟩ := RowsAt.fieldK (cs := cs) (o := 1) (n := 1) (RdK.of (rdI Try.underlying3)) (by kernel_rfl) (x := y1) (hf 1 _ rfl) (by simp only [Rows.uptoBulk, Rows.uptoBulkAll, List.map_cons, List.map_nil] at hB; omega)
  have hR := f0 _ (f1 _ (RowsAt.nil (by omega)))
  refine ⟨hlen, hR.1, ⟨e0,e1⟩, trivial, fun j a ha => hR.2 j a ha⟩

theorem rkBox : RdK Try.prog 114 rBox (fun e => e.used.length ≤ 1048576 ∧ ∀ a ∈ e.used, a ≤ 9223372036854775807) := by
  intro H enc W base spare held fuel cs x h hB
  obtain ⟨xs, n, _, hxe, hlen, hxl, hf⟩ := DataW.trod_struct Try.underlying114 h
  replace hlen : cs.length = 2 := hlen.trans (by kernel_rfl)
  obtain ⟨y0, y1, rfl⟩ : ∃ y0 y1, xs = [y0, y1] := by
    match xs, hxl with
    | [y0, y1], _ => exact ⟨y0, y1, rfl⟩
  subst hxe
  obtain ⟨e0, q0, f0⟩ := RowsAt.fieldK (cs := cs) (o := 0) (n := 1) (RdK.of (rdI Try.underlying3)) (by kernel_rfl) (x := y0) (hf 0 _ rfl) (by simp only [Rows.uptoBulk, Rows.uptoBulkAll, List.map_cons, List.map_nil] at hB; omega)
  obtain ⟨e1, q1, f1⟩ := RowsAt.fieldK (cs := cs) (o := 1) (n := 1) (rkS Try.underlying112 (by kernel_rfl) (by decide) (RdK.of (rdI Try.underlying3))) (by kernel_rfl) (x := y1) (hf 1 _ rfl) (by simp only [Rows.uptoBulk, Rows.uptoBulkAll, List.map_cons, List.map_nil] at hB; omega)
  have hR := f0 _ (f1 _ (RowsAt.nil (by omega)))
  refine ⟨hlen, hR.1, ⟨e0,e1⟩, ⟨q1.1, fun a ha => inK_le (q1.2 a ha)⟩, fun j a ha => hR.2 j a ha⟩

theorem rkSlb : RdK Try.prog 102 rSlb (fun e => (e.boxes.length ≤ 1048576 ∧ ∀ x ∈ e.boxes, x.used.length ≤ 1048576) ∧ okS e) := by
  intro H enc W base spare held fuel cs x h hB
  obtain ⟨xs, n, _, hxe, hlen, hxl, hf⟩ := DataW.trod_struct Try.underlying102 h
  replace hlen : cs.length = 2 := hlen.trans (by kernel_rfl)
  obtain ⟨y0, y1, rfl⟩ : ∃ y0 y1, xs = [y0, y1] := by
    match xs, hxl with
    | [y0, y1], _ => exact ⟨y0, y1, rfl⟩
  subst hxe
  obtain ⟨e0, q0, f0⟩ := RowsAt.fieldK (cs := cs) (o := 0) (n := 1) (RdK.of (rdI Try.underlying3)) (by kernel_rfl) (x := y0) (hf 0 _ rfl) (by simp only [Rows.uptoBulk, Rows.uptoBulkAll, List.map_cons, List.map_nil] at hB; omega)
  obtain ⟨e1, q1, f1⟩ := RowsAt.fieldK (cs := cs) (o := 1) (n := 1) (rkS Try.underlying100 (by kernel_rfl) (by decide) rkBox) (by kernel_rfl) (x := y1) (hf 1 _ rfl) (by simp only [Rows.uptoBulk, Rows.uptoBulkAll, List.map_cons, List.map_nil] at hB; omega)
  have hR := f0 _ (f1 _ (RowsAt.nil (by omega)))
  refine ⟨hlen, hR.1, ⟨e0,e1⟩, ⟨⟨q1.1, fun x hx => (q1.2 x hx).1⟩, fun x hx => (q1.2 x hx).2⟩, fun j a ha => hR.2 j a ha⟩

end Go.Proofs.Ytebpjfdbjhodiaa
