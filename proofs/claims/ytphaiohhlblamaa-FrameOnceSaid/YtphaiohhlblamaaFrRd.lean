/- Frames, read. -/
import Derived.Test.YtphaiohhlblamaaFrA
import Derived.Test.YtphaiohhlblamaaAiT
namespace Go.Proofs.Ytphaiohhlblamaa
open Go.ChangeShapes Go.WideShapes Go.ChangeAt Go.RowKit Go.AI
theorem rdFrmList {α : Type} {l : List α} (h : l.length = 3) : ∃ a0 a1 a2, l = [a0, a1, a2] := by
  match l, h with
  | [a0, a1, a2], _ => exact ⟨a0, a1, a2, rfl⟩
theorem rdFrmCells : Try.prog.cellsOf 39 = 3 := by kernel_rfl
theorem rdFrmC3 : Try.prog.cellsOf 3 = 1 := by kernel_rfl
theorem rdFrm : RdRow Try.prog 39 rFrm (fun _ => True) := by
  intro H enc W base spare held fuel cs x h
  obtain ⟨xs, n, _, _, hlen, hxl, hf⟩ := DataW.trod_struct Try.underlying39 h
  rw [rdFrmCells] at hlen
  obtain ⟨c0, c1, c2, rfl⟩ := rdFrmList hlen
  obtain ⟨y0, y1, y2, rfl⟩ := rdFrmList hxl
  have g0 := hf 0 _ rfl
  have g1 := hf 1 _ rfl
  have g2 := hf 2 _ rfl
  simp [rdFrmC3] at g0 g1 g2
  obtain ⟨b0, e0, _⟩ := DataW.trod_int Try.underlying3 g0
  obtain ⟨b1, e1, _⟩ := DataW.trod_int Try.underlying3 g1
  obtain ⟨b2, e2, _⟩ := DataW.trod_int Try.underlying3 g2
  simp only [List.cons.injEq, and_true] at e0 e1 e2
  subst e0 e1 e2
  refine ⟨rfl, by simp [Value.oneCell'], ⟨b0, b1, b2⟩, trivial, fun j a ha => ?_⟩
  simp only [rFrm, RCod.plain, Frm.row] at ha
  match j, ha with
  | 0, ha => simp at ha; subst ha; exact .v
  | 1, ha => simp at ha; subst ha; exact .v
  | 2, ha => simp at ha; subst ha; exact .v
  | j + 3, ha => simp at ha

end Go.Proofs.Ytphaiohhlblamaa
