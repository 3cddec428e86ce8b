/- Slabs, read. -/
import Derived.Test.YtfiindblaopaiaaSbA
import Derived.Test.YtfiindblaopaiaaAiV
import Derived.KernelRfl
namespace Go.Proofs.Ytfiindblaopaiaa
open Go.ChangeShapes Go.WideShapes Go.ChangeAt Go.RowKit Go.AI
theorem inK_le {n : Int} (h : InK .i64 n) : n ≤ 9223372036854775807 := (bounds_i64 h).2
theorem rdBox : RdRow Try.prog 46 rBox (fun e => ∀ a ∈ e.used, a ≤ 9223372036854775807) := by
  intro H enc W base spare held fuel cs x h
  obtain ⟨xs, n, _, _, hlen, hxl, hf⟩ := DataW.trod_struct Try.underlying46 h
  replace hlen : cs.length = 2 := hlen.trans (by kernel_rfl)
  obtain ⟨y0, y1, rfl⟩ : ∃ y0 y1, xs = [y0, y1] := by
    match xs, hxl with
    | [y0, y1], _ => exact ⟨y0, y1, rfl⟩
  obtain ⟨e0, q0, f0⟩ := RowsAt.field (cs := cs) (o := 0) (n := 1) (rdI Try.underlying3) (by kernel_rfl) (x := y0) (hf 0 _ rfl)
  obtain ⟨e1, q1, f1⟩ := RowsAt.field (cs := cs) (o := 1) (n := 1) (rdS Try.underlying34 (by kernel_rfl) (by decide) (rdI Try.underlying3)) (by kernel_rfl) (x := y1) (hf 1 _ rfl)
  have hR := f0 _ (f1 _ (RowsAt.nil (by omega)))
  refine ⟨hlen, hR.1, ⟨e0,e1⟩, fun a ha => inK_le (q1.2 a ha), fun j a ha => hR.2 j a ha⟩

theorem rdSlb : RdRow Try.prog 24 rSlb (fun e => okS e) := by
  intro H enc W base spare held fuel cs x h
  obtain ⟨xs, n, _, _, hlen, hxl, hf⟩ := DataW.trod_struct Try.underlying24 h
  replace hlen : cs.length = 2 := hlen.trans (by kernel_rfl)
  obtain ⟨y0, y1, rfl⟩ : ∃ y0 y1, xs = [y0, y1] := by
    match xs, hxl with
    | [y0, y1], _ => exact ⟨y0, y1, rfl⟩
  obtain ⟨e0, q0, f0⟩ := RowsAt.field (cs := cs) (o := 0) (n := 1) (rdI Try.underlying3) (by kernel_rfl) (x := y0) (hf 0 _ rfl)
  obtain ⟨e1, q1, f1⟩ := RowsAt.field (cs := cs) (o := 1) (n := 1) (rdS Try.underlying22 (by kernel_rfl) (by decide) rdBox) (by kernel_rfl) (x := y1) (hf 1 _ rfl)
  have hR := f0 _ (f1 _ (RowsAt.nil (by omega)))
  refine ⟨hlen, hR.1, ⟨e0,e1⟩, q1.2, fun j a ha => hR.2 j a ha⟩

end Go.Proofs.Ytfiindblaopaiaa
