/- Clocks and caches, read. What the bound of the second form gives: the length of a list in a struct. -/
import Derived.Test.YtebpjfdbjhodiaaPdF
import Derived.Test.YtebpjfdbjhodiaaAiV
import Derived.KernelRfl
import Derived.Test.YtebpjfdbjhodiaaRows
import Derived.Deep.Slices
import Derived.ChangeSame
namespace Go.Proofs.Ytebpjfdbjhodiaa
open Go.ChangeShapes Go.WideShapes Go.ChangeAt Go.RowKit Go.AI
set_option maxRecDepth 100000
theorem rdItem : RdRow Try.prog 26 rItem (fun _ => True) := by
  intro H enc W base spare held fuel cs x h
  obtain ⟨xs, n, _, _, hlen, hxl, hf⟩ := DataW.trod_struct Try.underlying26 h
  replace hlen : cs.length = 3 := hlen.trans (by kernel_rfl)
  obtain ⟨y0, y1, y2, rfl⟩ : ∃ y0 y1 y2, xs = [y0, y1, y2] := by
    match xs, hxl with
    | [y0, y1, y2], _ => exact ⟨y0, y1, y2, rfl⟩
  obtain ⟨e0, q0, f0⟩ := RowsAt.field (cs := cs) (o := 0) (n := 1) (rdI Try.underlying3) (by kernel_rfl) (x := y0) (hf 0 _ rfl)
  obtain ⟨e1, q1, f1⟩ := RowsAt.field (cs := cs) (o := 1) (n := 1) (rdB Try.underlying4) (by kernel_rfl) (x := y1) (hf 1 _ rfl)
  obtain ⟨e2, q2, f2⟩ := RowsAt.field (cs := cs) (o := 2) (n := 1) (rdB Try.underlying4) (by kernel_rfl) (x := y2) (hf 2 _ rfl)
  have hR := f0 _ (f1 _ (f2 _ (RowsAt.nil (by omega))))
  refine ⟨hlen, hR.1, ⟨e0,e1,e2⟩, trivial, fun j a ha => hR.2 j a ha⟩

theorem rdClk : RdRow Try.prog 24 rClk (fun _ => True) := by
  intro H enc W base spare held fuel cs x h
  obtain ⟨xs, n, _, _, hlen, hxl, hf⟩ := DataW.trod_struct Try.underlying24 h
  replace hlen : cs.length = 2 := hlen.trans (by kernel_rfl)
  obtain ⟨y0, y1, rfl⟩ : ∃ y0 y1, xs = [y0, y1] := by
    match xs, hxl with
    | [y0, y1], _ => exact ⟨y0, y1, rfl⟩
  obtain ⟨e0, q0, f0⟩ := RowsAt.field (cs := cs) (o := 0) (n := 1) (rdS Try.underlying22 (by kernel_rfl) (by decide) rdItem) (by kernel_rfl) (x := y0) (hf 0 _ rfl)
  obtain ⟨e1, q1, f1⟩ := RowsAt.field (cs := cs) (o := 1) (n := 1) (rdI Try.underlying3) (by kernel_rfl) (x := y1) (hf 1 _ rfl)
  have hR := f0 _ (f1 _ (RowsAt.nil (by omega)))
  refine ⟨hlen, hR.1, ⟨e0,e1⟩, trivial, fun j a ha => hR.2 j a ha⟩

theorem rdPg : RdRow Try.prog 33 rPg (fun _ => True) := by
  intro H enc W base spare held fuel cs x h
  obtain ⟨xs, n, _, _, hlen, hxl, hf⟩ := DataW.trod_array Try.underlying33 h
  replace hlen : cs.length = 16 := hlen.trans (by kernel_rfl)
  have hce : Try.prog.cellsOf 5 = 1 := by kernel_rfl
  obtain ⟨y0, y1, y2, y3, y4, y5, y6, y7, y8, y9, y10, y11, y12, y13, y14, y15, rfl⟩ : ∃ y0 y1 y2 y3 y4 y5 y6 y7 y8 y9 y10 y11 y12 y13 y14 y15, xs = [y0, y1, y2, y3, y4, y5, y6, y7, y8, y9, y10, y11, y12, y13, y14, y15] := by
    match xs, hxl with
    | [y0, y1, y2, y3, y4, y5, y6, y7, y8, y9, y10, y11, y12, y13, y14, y15], _ => exact ⟨y0, y1, y2, y3, y4, y5, y6, y7, y8, y9, y10, y11, y12, y13, y14, y15, rfl⟩
  have g0 := hf 0 (by decide)
  rw [show 0 * Try.prog.cellsOf 5 = 0 by rw [hce]] at g0
  obtain ⟨e0, q0, f0⟩ := RowsAt.field (cs := cs) (o := 0) (n := 1) (rdI Try.underlying5) hce (x := y0) g0
  have g1 := hf 1 (by decide)
  rw [show 1 * Try.prog.cellsOf 5 = 1 by rw [hce]] at g1
  obtain ⟨e1, q1, f1⟩ := RowsAt.field (cs := cs) (o := 1) (n := 1) (rdI Try.underlying5) hce (x := y1) g1
  have g2 := hf 2 (by decide)
  rw [show 2 * Try.prog.cellsOf 5 = 2 by rw [hce]] at g2
  obtain ⟨e2, q2, f2⟩ := RowsAt.field (cs := cs) (o := 2) (n := 1) (rdI Try.underlying5) hce (x := y2) g2
  have g3 := hf 3 (by decide)
  rw [show 3 * Try.prog.cellsOf 5 = 3 by rw [hce]] at g3
  obtain ⟨e3, q3, f3⟩ := RowsAt.field (cs := cs) (o := 3) (n := 1) (rdI Try.underlying5) hce (x := y3) g3
  have g4 := hf 4 (by decide)
  rw [show 4 * Try.prog.cellsOf 5 = 4 by rw [hce]] at g4
  obtain ⟨e4, q4, f4⟩ := RowsAt.field (cs := cs) (o := 4) (n := 1) (rdI Try.underlying5) hce (x := y4) g4
  have g5 := hf 5 (by decide)
  rw [show 5 * Try.prog.cellsOf 5 = 5 by rw [hce]] at g5
  obtain ⟨e5, q5, f5⟩ := RowsAt.field (cs := cs) (o := 5) (n := 1) (rdI Try.underlying5) hce (x := y5) g5
  have g6 := hf 6 (by decide)
  rw [show 6 * Try.prog.cellsOf 5 = 6 by rw [hce]] at g6
  obtain ⟨e6, q6, f6⟩ := RowsAt.field (cs := cs) (o := 6) (n := 1) (rdI Try.underlying5) hce (x := y6) g6
  have g7 := hf 7 (by decide)
  rw [show 7 * Try.prog.cellsOf 5 = 7 by rw [hce]] at g7
  obtain ⟨e7, q7, f7⟩ := RowsAt.field (cs := cs) (o := 7) (n := 1) (rdI Try.underlying5) hce (x := y7) g7
  have g8 := hf 8 (by decide)
  rw [show 8 * Try.prog.cellsOf 5 = 8 by rw [hce]] at g8
  obtain ⟨e8, q8, f8⟩ := RowsAt.field (cs := cs) (o := 8) (n := 1) (rdI Try.underlying5) hce (x := y8) g8
  have g9 := hf 9 (by decide)
  rw [show 9 * Try.prog.cellsOf 5 = 9 by rw [hce]] at g9
  obtain ⟨e9, q9, f9⟩ := RowsAt.field (cs := cs) (o := 9) (n := 1) (rdI Try.underlying5) hce (x := y9) g9
  have g10 := hf 10 (by decide)
  rw [show 10 * Try.prog.cellsOf 5 = 10 by rw [hce]] at g10
  obtain ⟨e10, q10, f10⟩ := RowsAt.field (cs := cs) (o := 10) (n := 1) (rdI Try.underlying5) hce (x := y10) g10
  have g11 := hf 11 (by decide)
  rw [show 11 * Try.prog.cellsOf 5 = 11 by rw [hce]] at g11
  obtain ⟨e11, q11, f11⟩ := RowsAt.field (cs := cs) (o := 11) (n := 1) (rdI Try.underlying5) hce (x := y11) g11
  have g12 := hf 12 (by decide)
  rw [show 12 * Try.prog.cellsOf 5 = 12 by rw [hce]] at g12
  obtain ⟨e12, q12, f12⟩ := RowsAt.field (cs := cs) (o := 12) (n := 1) (rdI Try.underlying5) hce (x := y12) g12
  have g13 := hf 13 (by decide)
  rw [show 13 * Try.prog.cellsOf 5 = 13 by rw [hce]] at g13
  obtain ⟨e13, q13, f13⟩ := RowsAt.field (cs := cs) (o := 13) (n := 1) (rdI Try.underlying5) hce (x := y13) g13
  have g14 := hf 14 (by decide)
  rw [show 14 * Try.prog.cellsOf 5 = 14 by rw [hce]] at g14
  obtain ⟨e14, q14, f14⟩ := RowsAt.field (cs := cs) (o := 14) (n := 1) (rdI Try.underlying5) hce (x := y14) g14
  have g15 := hf 15 (by decide)
  rw [show 15 * Try.prog.cellsOf 5 = 15 by rw [hce]] at g15
  obtain ⟨e15, q15, f15⟩ := RowsAt.field (cs := cs) (o := 15) (n := 1) (rdI Try.underlying5) hce (x := y15) g15
  have hR := f0 _ (f1 _ (f2 _ (f3 _ (f4 _ (f5 _ (f6 _ (f7 _ (f8 _ (f9 _ (f10 _ (f11 _ (f12 _ (f13 _ (f14 _ (f15 _ (RowsAt.nil (by omega)))))))))))))))))
  refine ⟨hlen, hR.1, ⟨e0,e1,e2,e3,e4,e5,e6,e7,e8,e9,e10,e11,e12,e13,e14,e15⟩, trivial, fun j a ha => hR.2 j a ha⟩

theorem rdPp : RdRow Try.prog 35 rPp (fun _ => True) := by
  intro H enc W base spare held fuel cs x h
  obtain ⟨xs, n, _, _, hlen, hxl, hf⟩ := DataW.trod_struct Try.underlying35 h
  replace hlen : cs.length = 20 := hlen.trans (by kernel_rfl)
  obtain ⟨y0, y1, y2, y3, y4, rfl⟩ : ∃ y0 y1 y2 y3 y4, xs = [y0, y1, y2, y3, y4] := by
    match xs, hxl with
    | [y0, y1, y2, y3, y4], _ => exact ⟨y0, y1, y2, y3, y4, rfl⟩
  obtain ⟨e0, q0, f0⟩ := RowsAt.field (cs := cs) (o := 0) (n := 1) (rdI Try.underlying3) (by kernel_rfl) (x := y0) (hf 0 _ rfl)
  obtain ⟨e1, q1, f1⟩ := RowsAt.field (cs := cs) (o := 1) (n := 1) (rdI Try.underlying3) (by kernel_rfl) (x := y1) (hf 1 _ rfl)
  obtain ⟨e2, q2, f2⟩ := RowsAt.field (cs := cs) (o := 2) (n := 1) (rdI Try.underlying3) (by kernel_rfl) (x := y2) (hf 2 _ rfl)
  obtain ⟨e3, q3, f3⟩ := RowsAt.field (cs := cs) (o := 3) (n := 1) (rdI Try.underlying3) (by kernel_rfl) (x := y3) (hf 3 _ rfl)
  obtain ⟨e4, q4, f4⟩ := RowsAt.field (cs := cs) (o := 4) (n := 16) rdPg (by kernel_rfl) (x := y4) (hf 4 _ rfl)
  have hR := f0 _ (f1 _ (f2 _ (f3 _ (f4 _ (RowsAt.nil (by omega))))))
  refine ⟨hlen, hR.1, ⟨e0,e1,e2,e3,e4⟩, trivial, fun j a ha => hR.2 j a ha⟩

theorem rdCa : RdRow Try.prog 29 rCa (fun _ => True) := by
  intro H enc W base spare held fuel cs x h
  obtain ⟨xs, n, _, _, hlen, hxl, hf⟩ := DataW.trod_struct Try.underlying29 h
  replace hlen : cs.length = 2 := hlen.trans (by kernel_rfl)
  obtain ⟨y0, y1, rfl⟩ : ∃ y0 y1, xs = [y0, y1] := by
    match xs, hxl with
    | [y0, y1], _ => exact ⟨y0, y1, rfl⟩
  obtain ⟨e0, q0, f0⟩ := RowsAt.field (cs := cs) (o := 0) (n := 1) (rdS Try.underlying27 (by kernel_rfl) (by decide) rdPp) (by kernel_rfl) (x := y0) (hf 0 _ rfl)
  obtain ⟨e1, q1, f1⟩ := RowsAt.field (cs := cs) (o := 1) (n := 1) (rdI Try.underlying3) (by kernel_rfl) (x := y1) (hf 1 _ rfl)
  have hR := f0 _ (f1 _ (RowsAt.nil (by omega)))
  refine ⟨hlen, hR.1, ⟨e0,e1⟩, trivial, fun j a ha => hR.2 j a ha⟩

end Go.Proofs.Ytebpjfdbjhodiaa
namespace Go.Proofs.Ytebpjfdbjhodiaa
open Go.ChangeShapes Go.WideShapes Go.ChangeAt Go.RowKit Go.AI Go.Deep
theorem bk_one {H : Type} (d : DataW H) : 1 ≤ Rows.uptoBulk d := by
  cases d with
  | lit l => cases l <;> simp [Rows.uptoBulk]
  | nil => simp [Rows.uptoBulk]
  | ptr d => simp [Rows.uptoBulk]
  | slice elems spare => simp [Rows.uptoBulk]
  | agg parts => simp [Rows.uptoBulk]
  | iface t d => simp [Rows.uptoBulk]
  | map entries => simp [Rows.uptoBulk]
  | held h => simp [Rows.uptoBulk]
theorem bk_len {H : Type} (l : List (DataW H)) : l.length ≤ Rows.uptoBulkAll l := by
  induction l with
  | nil => simp [Rows.uptoBulkAll]
  | cons x r ih => have := bk_one x; simp only [Rows.uptoBulkAll, List.length_cons]; omega
/-- the list that a struct of two fields holds in its first -/
theorem bk_two {H : Type} {enc : TypeId × Value → H} {P : Program} {W : World} {sp : Nat → Bool} {held : Bool} {t e : TypeId} {f0 f1 : Field} {v : Value} {d : DataW H} {p : List MemPlace}
    (ht : P.underlying t = some (.struct #[f0, f1])) (ho : f0.offset = 0) (hs : P.underlying f0.type = some (.slice e)) (hc : P.cellsOf f0.type = 1)
    (h : DataW.Trod enc P W 0 sp held t v d p) {a : Option Addr} {n k : Nat} {y : Value} (hv : v.cells.toList = [.slice a n k, y]) : n ≤ Rows.uptoBulk d := by
  obtain ⟨fuel, hf⟩ := h
  obtain ⟨y0, y1, m, hx, _, hy0, _⟩ := trod_struct2 ht hf
  rw [ho, hc, hv] at hy0
  simp only [List.drop_zero, List.take_succ_cons, List.take_zero] at hy0
  have hd : d = .agg [y0.1, y1.1] := congrArg Prod.fst hx
  subst hd
  rcases open_slice hs hy0 with ⟨e1, _⟩ | ⟨b, len, cap, m, n', D, Pl, hcs, _, _, _, _, hx0, _⟩
  · simp at e1; omega
  · simp at hcs
    obtain ⟨_, rfl, _⟩ := hcs
    rw [hx0]
    simp only [Rows.uptoBulk, Rows.uptoBulkAll]
    have := bk_len ((List.range n).map D)
    simp at this
    omega
theorem r_len {W : World} {sz : Nat} {rows : List Row} {h : Int} {v : Value} (hR : R β0 (ok0 W) W 0 (.agg [.fsl false sz rows, .v (.int .i64 h)]) v) : ∃ a k y, v.cells.toList = [.slice a rows.length k, y] := by
  cases hR with
  | agg hl hr =>
    rename_i xs
    obtain ⟨l⟩ := xs
    match l, hl with
    | [a, b], _ =>
      have h0 := hr 0 _ rfl
      simp at h0
      cases h0 with
      | fsl x h1 h2 h3 h4 h5 => exact ⟨_, _, b, rfl⟩
      | fsl0 => exact ⟨_, _, b, rfl⟩
end Go.Proofs.Ytebpjfdbjhodiaa
