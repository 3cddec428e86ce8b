/- Entries, read. -/
import Derived.Test.YtphaiohhlblamaaEntA
import Derived.Test.YtphaiohhlblamaaAiT
namespace Go.Proofs.Ytphaiohhlblamaa
open Go.ChangeShapes Go.WideShapes Go.ChangeAt Go.RowKit Go.AI
theorem list7 {α : Type} {l : List α} (h : l.length = 7) : ∃ a b c d e f g, l = [a, b, c, d, e, f, g] := by
  match l, h with
  | [a, b, c, d, e, f, g], _ => exact ⟨a, b, c, d, e, f, g, rfl⟩
theorem cells23 : Try.prog.cellsOf 23 = 7 := by kernel_rfl
theorem cells3 : Try.prog.cellsOf 3 = 1 := by kernel_rfl
theorem cells4 : Try.prog.cellsOf 4 = 1 := by kernel_rfl
theorem rdEnt : RdRow Try.prog 23 rEnt (fun _ => True) := by
  intro H enc W base spare held fuel cs x h
  obtain ⟨xs, n, _, _, hlen, hxl, hf⟩ := DataW.trod_struct Try.underlying23 h
  rw [cells23] at hlen
  obtain ⟨c0, c1, c2, c3, c4, c5, c6, rfl⟩ := list7 hlen
  obtain ⟨y0, y1, y2, y3, y4, y5, y6, rfl⟩ := list7 hxl
  have g0 := hf 0 _ rfl
  have g1 := hf 1 _ rfl
  have g2 := hf 2 _ rfl
  have g3 := hf 3 _ rfl
  have g4 := hf 4 _ rfl
  have g5 := hf 5 _ rfl
  have g6 := hf 6 _ rfl
  simp [cells3, cells4] at g0 g1 g2 g3 g4 g5 g6
  obtain ⟨b0, e0, _⟩ := DataW.trod_bool Try.underlying4 g0
  obtain ⟨b1, e1, _⟩ := DataW.trod_bool Try.underlying4 g1
  obtain ⟨b2, e2, _⟩ := DataW.trod_int Try.underlying3 g2
  obtain ⟨b3, e3, _⟩ := DataW.trod_int Try.underlying3 g3
  obtain ⟨b4, e4, _⟩ := DataW.trod_bool Try.underlying4 g4
  obtain ⟨b5, e5, _⟩ := DataW.trod_bool Try.underlying4 g5
  obtain ⟨b6, e6, _⟩ := DataW.trod_bool Try.underlying4 g6
  simp only [List.cons.injEq, and_true] at e0 e1 e2 e3 e4 e5 e6
  subst e0 e1 e2 e3 e4 e5 e6
  refine ⟨rfl, by simp [Value.oneCell'], ⟨b0, b1, b2, b3, b4, b5, b6⟩, trivial, fun j a ha => ?_⟩
  simp only [rEnt, RCod.plain, Entry.row] at ha
  match j, ha with
  | 0, ha => simp at ha; subst ha; exact .v
  | 1, ha => simp at ha; subst ha; exact .v
  | 2, ha => simp at ha; subst ha; exact .v
  | 3, ha => simp at ha; subst ha; exact .v
  | 4, ha => simp at ha; subst ha; exact .v
  | 5, ha => simp at ha; subst ha; exact .v
  | 6, ha => simp at ha; subst ha; exact .v
  | j + 7, ha => simp at ha
end Go.Proofs.Ytphaiohhlblamaa
