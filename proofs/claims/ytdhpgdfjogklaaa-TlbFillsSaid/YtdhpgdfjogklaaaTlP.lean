/- Package tlb: plain laws of lines and orders. -/
import Derived.Test.YtdhpgdfjogklaaaTlI
namespace Go.Proofs.Ytdhpgdfjogklaaa
open Go.AI
theorem at_iff (x : Ln) (s p : Int) : x.at s p = true ↔ x.space = s ∧ x.page = p := by simp [Ln.at]
theorem lineGo_iff (seen L : List Ln) : lineGo seen L = true ↔ (∀ x ∈ L, okSP x.space x.page = true) ∧ L.Pairwise (fun a b => a.at b.space b.page = false) ∧ ∀ x ∈ L, ∀ y ∈ seen, y.at x.space x.page = false := by
  induction L generalizing seen with
  | nil => simp [lineGo]
  | cons a L ih =>
    simp only [lineGo, Bool.and_eq_true, ih, List.mem_cons, forall_eq_or_imp, List.pairwise_cons, List.mem_append, List.not_mem_nil, or_false, Bool.not_eq_true', List.any_eq_false]
    constructor
    · rintro ⟨⟨h1, h2⟩, h3, h4, h5⟩
      refine ⟨⟨h1, h3⟩, ⟨fun b hb => h5 b hb a (.inr rfl), h4⟩, fun y hy => by simpa using h2 y hy, fun x hx y hy => h5 x hx y (.inl hy)⟩
    · rintro ⟨⟨h1, h3⟩, ⟨h6, h4⟩, h2, h5⟩
      refine ⟨⟨h1, fun y hy => by simpa using h2 y hy⟩, h3, h4, ?_⟩
      rintro x hx y (hy | rfl)
      · exact h5 x hx y hy
      · exact h6 x hx
/-- lines in order: right ones, no page twice -/
def LnsOk (L : List Ln) : Prop := (∀ x ∈ L, okSP x.space x.page = true) ∧ L.Pairwise (fun a b => a.at b.space b.page = false)
theorem LnsOk.sub {L M : List Ln} (h : LnsOk L) (hs : M.Sublist L) : LnsOk M := ⟨fun x hx => h.1 x (hs.subset hx), h.2.sublist hs⟩
def CpuOk (c : Cpu) : Prop := c.lines.length ≤ 8 ∧ c.orders.length ≤ 4 ∧ LnsOk c.lines ∧ ∀ o ∈ c.orders, okO o = true
theorem cpuE_iff (c : Cpu) : cpuE c = 0 ↔ CpuOk c := by
  unfold cpuE CpuOk LnsOk
  have h := lineGo_iff [] c.lines
  split
  · simp; omega
  · rename_i h0
    have h1 : c.lines.length ≤ 8 ∧ c.orders.length ≤ 4 := by omega
    simp only [h1, true_and]
    split
    · rename_i h2
      simp only [Bool.and_eq_true, List.all_eq_true] at h2
      have h3 := h.1 h2.1
      simp only [true_iff]
      exact ⟨⟨h3.1, h3.2.1⟩, h2.2⟩
    · rename_i h2
      simp only [show (3 : Int) ≠ 0 by omega, false_iff]
      rintro ⟨⟨h3, h4⟩, h5⟩
      apply h2
      simp only [Bool.and_eq_true, List.all_eq_true]
      exact ⟨h.2 ⟨h3, h4, by simp⟩, h5⟩
theorem tlOk_iff {l : List Cpu} : tlCheck l = 0 ↔ 1 ≤ l.length ∧ l.length ≤ 4 ∧ ∀ c ∈ l, CpuOk c := by
  rw [tlCheck_iff]; simp only [cpuE_iff]
theorem lkW_eq (L : List Ln) (s p : Int) : lkW L s p = (lkL L s p).getD 0 := by
  unfold lkW lkL tlFind idxP
  cases h : L.findIdx? (fun x => x.at s p) with
  | none =>
    rw [List.findIdx?_eq_none_iff] at h
    have : L.find? (fun x => x.at s p) = none := by rw [List.find?_eq_none]; intro x hx; simp [h x hx]
    simp [this]
  | some i =>
    have h2 := h
    rw [List.findIdx?_eq_some_iff_getElem] at h2
    obtain ⟨h1, h3, h4⟩ := h2
    have : L.find? (fun x => x.at s p) = some L[i] := by
      rw [List.find?_eq_some_iff_getElem]
      exact ⟨h3, i, h1, rfl, fun j hj => by simpa using h4 j hj⟩
    simp [this, h1]
    intro h; omega
theorem lkB_eq (L : List Ln) (s p : Int) : decide (0 ≤ tlFind L s p) = (lkL L s p).isSome := by
  rw [Bool.eq_iff_iff]
  simp [tlFind_iff, lkL]
theorem lk_none {L : List Ln} {s p : Int} : lkL L s p = none ↔ ∀ x ∈ L, x.at s p = false := by
  simp [lkL]
/-- what a deletion leaves is found as before -/
theorem lk_filter {L : List Ln} {q : Ln → Bool} {s p : Int} (h : ∀ x, x.at s p = true → q x = true) : lkL (L.filter q) s p = lkL L s p := by
  unfold lkL
  rw [List.find?_filter]
  congr 2
  funext x
  cases hx : x.at s p with
  | false => simp
  | true => simp [h x hx]
theorem lk_sub {L M : List Ln} {s p : Int} (hs : M.Sublist L) (h : lkL L s p = none) : lkL M s p = none := by
  rw [lk_none] at h ⊢
  exact fun x hx => h x (hs.subset hx)
theorem hit_iff (x : Ln) (o : Od) : x.hit o = true ↔ x.space = o.space ∧ (o.page < 0 ∨ x.page = o.page) := by simp [Ln.hit]
theorem forg_sub (o : Od) (L : List Ln) : (forg o L).Sublist L := List.filter_sublist
theorem forg_keep {o : Od} {L : List Ln} {s p : Int} (h : ¬ (s = o.space ∧ (o.page < 0 ∨ o.page = p))) : lkL (forg o L) s p = lkL L s p := by
  apply lk_filter
  intro x hx
  rw [at_iff] at hx
  cases hh : x.hit o with
  | false => rfl
  | true => rw [hit_iff] at hh; exfalso; apply h; rw [← hx.1, ← hx.2]; exact ⟨hh.1, hh.2.imp id Eq.symm⟩
theorem forg_gone {o : Od} {L : List Ln} {s p : Int} (h : s = o.space ∧ (o.page < 0 ∨ o.page = p)) : lkL (forg o L) s p = none := by
  rw [lk_none]
  intro x hx
  unfold forg at hx
  rw [List.mem_filter] at hx
  cases ha : x.at s p with
  | false => rfl
  | true =>
    rw [at_iff] at ha
    have : x.hit o = true := by rw [hit_iff, ha.1, ha.2]; exact ⟨h.1, h.2.imp id Eq.symm⟩
    simp [this] at hx
/-- all orders are done -/
def forgs : List Od → List Ln → List Ln
  | [], L => L
  | o :: O, L => forgs O (forg o L)
theorem forgs_sub (O : List Od) (L : List Ln) : (forgs O L).Sublist L := by
  induction O generalizing L with
  | nil => exact List.Sublist.refl _
  | cons o O ih => exact (ih _).trans (forg_sub o L)
theorem forgs_gone {O : List Od} {L : List Ln} {s p : Int} {o : Od} (ho : o ∈ O) (h : s = o.space ∧ (o.page < 0 ∨ o.page = p)) : lkL (forgs O L) s p = none := by
  induction O generalizing L with
  | nil => simp at ho
  | cons a O ih =>
    rcases List.mem_cons.1 ho with rfl | ho
    · exact lk_sub (forgs_sub O _) (forg_gone h)
    · exact ih ho
theorem forgs_keep {O : List Od} {L : List Ln} {s p : Int} (h : ∀ o ∈ O, ¬ (s = o.space ∧ (o.page < 0 ∨ o.page = p))) : lkL (forgs O L) s p = lkL L s p := by
  induction O generalizing L with
  | nil => rfl
  | cons a O ih =>
    rw [forgs, ih fun o ho => h o (List.mem_cons_of_mem _ ho)]
    exact forg_keep (h a List.mem_cons_self)
def srvd (c : Cpu) : Cpu := ⟨forgs c.orders c.lines, []⟩
theorem CpuOk.srvd {c : Cpu} (h : CpuOk c) : CpuOk (srvd c) :=
  ⟨Nat.le_trans (forgs_sub _ _).length_le h.1, by simp [Go.Proofs.Ytdhpgdfjogklaaa.srvd], h.2.2.1.sub (forgs_sub _ _), by simp [Go.Proofs.Ytdhpgdfjogklaaa.srvd]⟩
/-- a processor does its eldest order -/
def srv1 (c : Cpu) : Cpu := match c.orders with
  | [] => c
  | o :: O => ⟨forg o c.lines, O⟩
theorem CpuOk.srv1 {c : Cpu} (h : CpuOk c) : CpuOk (srv1 c) := by
  obtain ⟨L, O⟩ := c
  cases O with
  | nil => exact h
  | cons o O =>
    obtain ⟨h1, h2, h3, h4⟩ := h
    exact ⟨Nat.le_trans (forg_sub _ _).length_le h1, by simp only [Go.Proofs.Ytdhpgdfjogklaaa.srv1, List.length_cons] at h2 ⊢; omega, h3.sub (forg_sub _ _), fun x hx => h4 x (List.mem_cons_of_mem _ hx)⟩
theorem srvd_srv1 (c : Cpu) : srvd (srv1 c) = srvd c := by
  obtain ⟨L, O⟩ := c
  cases O <;> rfl
theorem okO_of {s p : Int} (h : okSP s p = true) : okO ⟨s, p⟩ = true := by
  unfold okSP at h
  simp only [decide_eq_true_eq] at h
  unfold okO okSP
  simp; omega
end Go.Proofs.Ytdhpgdfjogklaaa
