/- Pairs in order: plain theory. -/
import Derived.Test.YtigpgieapamffaaRmB
namespace Go.Proofs.Ytigpgieapamffaa
open Go.AI
theorem ordP_lt {a b : Pr} : ordP a b < 0 ↔ (a.frame < b.frame ∨ (a.frame = b.frame ∧ (a.space < b.space ∨ (a.space = b.space ∧ a.page < b.page)))) := by
  unfold ordP cmpI
  repeat' split
  all_goals omega
theorem ordP_zero {a b : Pr} : ordP a b = 0 ↔ a = b := by
  rw [pr_eq]
  unfold ordP cmpI
  repeat' split
  all_goals omega
theorem ordP_tr {a b c : Pr} (h : ordP a b < 0) (h2 : ordP b c < 0) : ordP a c < 0 := by
  rw [ordP_lt] at h h2 ⊢
  omega
theorem ordP_flip {a b : Pr} : 0 < ordP a b ↔ ordP b a < 0 := by
  rw [ordP_lt]
  unfold ordP cmpI
  repeat' split
  all_goals omega
theorem ordP_tri (a b : Pr) : ordP a b < 0 ∨ a = b ∨ ordP b a < 0 := by
  rcases Int.lt_trichotomy (ordP a b) 0 with h | h | h
  · exact .inl h
  · exact .inr (.inl (ordP_zero.1 h))
  · exact .inr (.inr (ordP_flip.1 h))
theorem ordP_as {a b : Pr} (h : ordP a b < 0) : ¬ ordP b a < 0 := by
  have := ordP_flip (a := a) (b := b)
  omega
def LtP (a b : Pr) : Prop := ordP a b < 0
def NeP (a b : Pr) : Prop := ¬ (a.space = b.space ∧ a.page = b.page)
structure Good (l : List Pr) : Prop where
  len : l.length ≤ 1024
  right : ∀ p ∈ l, p.right = true
  sorted : l.Pairwise LtP
  diff : l.Pairwise NeP
theorem pw_snoc {α : Type} {R : α → α → Prop} {s : List α} {p : α} : (s ++ [p]).Pairwise R ↔ s.Pairwise R ∧ ∀ x ∈ s, R x p := by
  rw [List.pairwise_append]; simp
theorem pw_app {α : Type} {R : α → α → Prop} {s t : List α} (h : (s ++ t).Pairwise R) : s.Pairwise R := (List.pairwise_append.1 h).1
theorem sorted_snoc {s : List Pr} {p : Pr} (h : s.Pairwise LtP) : (∀ x ∈ s, LtP x p) ↔ badLast s.getLast? p = false := by
  rcases List.eq_nil_or_concat s with rfl | ⟨o, b, rfl⟩
  · simp [badLast]
  · simp only [List.concat_eq_append] at *
    simp only [List.getLast?_append, List.getLast?_singleton, Option.some_or, badLast, decide_eq_false_iff_not, Int.not_le]
    constructor
    · intro h; exact h b (by simp)
    · intro hb x hx
      rw [pw_snoc] at h
      simp at hx
      rcases hx with hx | rfl
      · exact ordP_tr (h.2 x hx) hb
      · exact hb
theorem at_any {s : List Pr} {p : Pr} : s.any (·.at p.space p.page) = false ↔ ∀ x ∈ s, NeP x p := by
  simp [Pr.at, NeP]
theorem rmGo_iff {s r : List Pr} (hs : s.Pairwise LtP) (hd : s.Pairwise NeP) : rmGo s r = 0 ↔ (∀ p ∈ r, p.right = true) ∧ (s ++ r).Pairwise LtP ∧ (s ++ r).Pairwise NeP := by
  induction r generalizing s with
  | nil => simp [rmGo, hs, hd]
  | cons p r ih =>
    have e : s ++ p :: r = (s ++ [p]) ++ r := by simp
    simp only [rmGo]
    by_cases h1 : p.right = true
    · simp only [h1, if_true]
      by_cases h2 : badLast s.getLast? p = true
      · rw [if_pos h2]
        simp only [Int.reduceEq, false_iff]
        rintro ⟨_, h, _⟩
        rw [e] at h
        have := (sorted_snoc hs).1 (pw_snoc.1 (pw_app h)).2
        rw [h2] at this; cases this
      · rw [if_neg h2]
        simp only [Bool.not_eq_true] at h2
        have h3 := (sorted_snoc hs).2 h2
        by_cases h4 : s.any (·.at p.space p.page) = true
        · rw [if_pos h4]
          simp only [Int.reduceEq, false_iff]
          rintro ⟨_, _, h⟩
          rw [e] at h
          have := at_any.2 (pw_snoc.1 (pw_app h)).2
          rw [h4] at this; cases this
        · rw [if_neg h4]
          simp only [Bool.not_eq_true] at h4
          rw [ih (pw_snoc.2 ⟨hs, h3⟩) (pw_snoc.2 ⟨hd, at_any.1 h4⟩), e]
          simp [h1]
    · simp only [h1, if_false, Bool.false_eq_true]
      simp only [Int.reduceEq, false_iff]
      rintro ⟨h, _⟩
      exact h1 (h p (by simp))
theorem rmCheck_iff {l : List Pr} : rmCheck l = 0 ↔ Good l := by
  unfold rmCheck
  split
  · rename_i h
    simp only [Int.reduceEq, false_iff]
    intro g
    have := g.len
    omega
  · rename_i h
    rw [rmGo_iff List.Pairwise.nil List.Pairwise.nil]
    constructor
    · rintro ⟨h1, h2, h3⟩
      exact ⟨by omega, h1, h2, h3⟩
    · intro g
      exact ⟨g.right, g.sorted, g.diff⟩
def rmChk (l : List Pr) (p : Pr) : Int := if rmCheck l = 0 then (if p.right = true then 0 else 1) else rmCheck l
theorem rmChk_iff {l : List Pr} {p : Pr} : rmChk l p = 0 ↔ Good l ∧ p.right = true := by
  unfold rmChk
  rw [← rmCheck_iff]
  split
  · rename_i h; split
    · rename_i h2; simp [h, h2]
    · rename_i h2; simp [h2]
  · rename_i h; simp [h]
/-- how many lie before p -/
def lowP (l : List Pr) (p : Pr) : Nat := (l.takeWhile (fun x => decide (ordP x p < 0))).length
theorem lowP_le (l : List Pr) (p : Pr) : lowP l p ≤ l.length := by
  unfold lowP
  exact (List.takeWhile_sublist _).length_le
theorem lowP_iff {l : List Pr} {p : Pr} (h : l.Pairwise LtP) (i : Nat) (hi : i < l.length) : ordP l[i] p < 0 ↔ i < lowP l p := by
  unfold lowP
  induction l generalizing i with
  | nil => simp at hi
  | cons a l ih =>
    simp only [List.pairwise_cons] at h
    by_cases q : ordP a p < 0
    · simp only [List.takeWhile_cons, q, decide_true, if_true, List.length_cons]
      cases i with
      | zero => simp [q]
      | succ i =>
        simp only [List.getElem_cons_succ]
        rw [ih h.2 i (by simpa using hi)]
        omega
    · simp only [List.takeWhile_cons, q, decide_false, Bool.false_eq_true, if_false, List.length_nil]
      simp only [Nat.not_lt_zero, iff_false]
      cases i with
      | zero => simpa using q
      | succ i =>
        simp only [List.getElem_cons_succ]
        intro hx
        exact q (ordP_tr (h.1 _ (List.getElem_mem _)) hx)
def hasP (l : List Pr) (p : Pr) : Bool := match l[lowP l p]? with | some x => decide (ordP x p = 0) | none => false
end Go.Proofs.Ytigpgieapamffaa
