/- Frames: plain laws. -/
import Derived.Test.YtphaiohhlblamaaFrD
namespace Go.Proofs.Ytphaiohhlblamaa
open Go.AI

theorem frAll_iff (l : List Frm) : frAll l = 0 ↔ ∀ f ∈ l, f.chk = 0 := by
  induction l with
  | nil => simp [frAll]
  | cons g l ih =>
    simp only [frAll, List.mem_cons, forall_eq_or_imp]
    split
    · rename_i h; simp [h, ih]
    · rename_i h; simp [h]
theorem frCheck_iff (l : List Frm) : frCheck l = 0 ↔ l.length ≤ 64 ∧ ∀ f ∈ l, f.chk = 0 := by
  unfold frCheck
  split
  · rename_i h; constructor
    · intro h; cases h
    · intro h2; omega
  · rename_i h; rw [frAll_iff]; constructor
    · intro h2; exact ⟨by omega, h2⟩
    · intro h2; exact h2.2
theorem frCheck_set {l : List Frm} {k : Nat} {f : Frm} (h : frCheck l = 0) (hf : f.chk = 0) : frCheck (l.set k f) = 0 := by
  rw [frCheck_iff] at *
  refine ⟨by simpa using h.1, fun g hg => ?_⟩
  rcases List.mem_or_eq_of_mem_set hg with hg | rfl
  · exact h.2 g hg
  · exact hf
theorem frAt_iff (l : List Frm) (n : Int) : frAt l n = 0 ↔ frCheck l = 0 ∧ 0 ≤ n ∧ n < l.length := by
  constructor
  · intro h; have := frAt_ok h; exact ⟨this.1, this.2.1, this.2.2.1⟩
  · intro h
    unfold frAt
    rw [if_pos h.1, if_neg (by omega)]
theorem frAt_set {l : List Frm} {n : Int} {k : Nat} {f : Frm} (h : frAt l n = 0) (hf : f.chk = 0) : frAt (l.set k f) n = 0 := by
  rw [frAt_iff] at *
  exact ⟨frCheck_set h.1 hf, h.2.1, by simpa using h.2.2⟩
theorem frGet_set {l : List Frm} {n : Int} {f : Frm} (h : frAt l n = 0) : frGet (l.set n.toNat f) n = f := by
  obtain ⟨h1, h2, h3⟩ := (frAt_iff _ _).1 h
  have : n.toNat < l.length := by omega
  simp [frGet, this]
theorem frGet_at {l : List Frm} {n : Int} (h : frAt l n = 0) : ∃ hk : n.toNat < l.length, frGet l n = l[n.toNat] := by
  obtain ⟨h1, h2, h3⟩ := (frAt_iff _ _).1 h
  have : n.toNat < l.length := by omega
  exact ⟨this, by simp [frGet, this]⟩
theorem frSet_self {l : List Frm} {n : Int} (h : frAt l n = 0) : l.set n.toNat (frGet l n) = l := by
  obtain ⟨hk, e⟩ := frGet_at h
  rw [e]; simp

theorem frTake_ok {l a : List Frm} {n st ow : Int} (h : frTake l n st ow = .ok a) : frAt l n = 0 ∧ 1 ≤ st ∧ st ≤ 3 ∧ 0 ≤ ow ∧ ow ≤ 1048576 ∧ (frGet l n).st = 0 ∧ a = l.set n.toNat ⟨st, ow, 1⟩ := by
  unfold frTake at h
  split at h
  · rename_i h0
    split at h
    · cases h
    · split at h
      · cases h
      · rename_i h1 h2
        simp at h
        simp at h2
        exact ⟨h0, by omega, by omega, by omega, by omega, h2, h.symm⟩
  · cases h
theorem frTake_chk {st ow : Int} (h1 : 1 ≤ st) (h2 : st ≤ 3) (h3 : 0 ≤ ow) (h4 : ow ≤ 1048576) : (Frm.mk st ow 1).chk = 0 := chk_of (by simp; omega)
theorem frTake_twice {l a : List Frm} {n st ow k other : Int} (h : frTake l n st ow = .ok a) : frTake a n k other = .error 1 ∨ frTake a n k other = .error 5 := by
  obtain ⟨h0, h1, h2, h3, h4, h5, rfl⟩ := frTake_ok h
  have hc := frTake_chk h1 h2 h3 h4
  unfold frTake
  rw [if_pos (frAt_set h0 hc), frGet_set h0]
  split
  · exact .inl rfl
  · right; rw [if_pos (by simp; omega)]

def hsum : List Frm → Int
  | [] => 0
  | f :: r => f.ct + hsum r
theorem hsum_set {l : List Frm} {k : Nat} {f : Frm} (h : k < l.length) : hsum (l.set k f) = hsum l - l[k].ct + f.ct := by
  induction l generalizing k with
  | nil => simp at h
  | cons g l ih =>
    cases k with
    | zero => simp [hsum]; omega
    | succ k =>
      have h' : k < l.length := by simpa using h
      simp [hsum, ih h']; omega
theorem heldW_sum (l : List Frm) : ∀ acc : Int, (∀ f ∈ l, 0 ≤ f.ct ∧ f.ct ≤ 1048576) → 0 ≤ acc → acc + 1048576 * l.length ≤ 9223372036854775807 → heldW acc l = acc + hsum l := by
  induction l with
  | nil => intro acc _ _ _; simp [heldW, hsum]
  | cons g l ih =>
    intro acc h h0 hb
    have hg := h g (by simp)
    simp only [List.length_cons] at hb
    simp only [heldW, hsum]
    rw [w64 (by omega) (by omega), ih _ (fun f hf => h f (by simp [hf])) (by omega) (by omega)]
    omega
theorem held_ok {l : List Frm} (h : frCheck l = 0) : heldW 0 l = hsum l ∧ 0 ≤ hsum l ∧ hsum l ≤ 67108864 := by
  obtain ⟨h1, h2⟩ := (frCheck_iff l).1 h
  have h3 : ∀ f ∈ l, 0 ≤ f.ct ∧ f.ct ≤ 1048576 := fun f hf => by have := chk_ok (h2 f hf); omega
  refine ⟨?_, ?_⟩
  · have := heldW_sum l 0 h3 (by omega) (by omega)
    simpa using this
  · have : ∀ m : List Frm, (∀ f ∈ m, 0 ≤ f.ct ∧ f.ct ≤ 1048576) → 0 ≤ hsum m ∧ hsum m ≤ 1048576 * m.length := by
      intro m
      induction m with
      | nil => intro _; simp [hsum]
      | cons g m ih =>
        intro h
        have := ih (fun f hf => h f (by simp [hf]))
        have := h g (by simp)
        simp only [hsum, List.length_cons]
        omega
    have := this l h3
    omega
theorem take_held {l a : List Frm} {n st ow : Int} (h : frTake l n st ow = .ok a) : frCheck a = 0 ∧ heldW 0 a = heldW 0 l + 1 ∧ 0 ≤ heldW 0 l ∧ heldW 0 l ≤ 67108864 := by
  obtain ⟨h0, h1, h2, h3, h4, h5, rfl⟩ := frTake_ok h
  have hc := frTake_chk h1 h2 h3 h4
  obtain ⟨g1, g2, g3⟩ := (frAt_iff _ _).1 h0
  have c2 := frCheck_set (k := n.toNat) g1 hc
  obtain ⟨hk, e⟩ := frGet_at h0
  have hz := chk_ok (frGet_ok h0)
  rw [(held_ok c2).1, (held_ok g1).1, hsum_set hk]
  rw [← e]
  have := held_ok g1
  refine ⟨c2, ?_, by omega, by omega⟩
  simp only
  omega

theorem frHold_ok {l a : List Frm} {n : Int} (h : frHold l n = .ok a) : frAt l n = 0 ∧ 2 ≤ (frGet l n).st ∧ (frGet l n).ct < 1048576 ∧ a = l.set n.toNat ⟨(frGet l n).st, (frGet l n).ow, (frGet l n).ct + 1⟩ := by
  unfold frHold at h
  split at h
  · rename_i h0
    split at h
    · cases h
    · split at h
      · cases h
      · rename_i h1 h2
        simp at h
        have := chk_ok (frGet_ok h0)
        exact ⟨h0, by omega, by omega, h.symm⟩
  · cases h
theorem hold_let {l a : List Frm} {n : Int} (h : frHold l n = .ok a) : frLet a n = .ok l ∧ ¬ (frGet a n).ct - 1 = 0 ∧ frCheck a = 0 ∧ heldW 0 a = heldW 0 l + 1 ∧ 0 ≤ heldW 0 l ∧ heldW 0 l ≤ 67108864 ∧ l.length ≤ 64 ∧ a.length ≤ 64 := by
  obtain ⟨h0, h1, h2, rfl⟩ := frHold_ok h
  have hz := chk_ok (frGet_ok h0)
  have hc : (Frm.mk (frGet l n).st (frGet l n).ow ((frGet l n).ct + 1)).chk = 0 := chk_of (by simp; omega)
  obtain ⟨g1, g2, g3⟩ := (frAt_iff _ _).1 h0
  have c2 := frCheck_set (k := n.toNat) g1 hc
  obtain ⟨hk, e⟩ := frGet_at h0
  have hl := held_ok g1
  have hlen := frAll_len g1
  refine ⟨?_, ?_, c2, ?_, by omega, by omega, hlen, by simpa using hlen⟩
  · unfold frLet
    rw [if_pos (frAt_set h0 hc), frGet_set h0, if_neg (by simp; omega)]
    simp only [frLess]
    rw [if_neg (by simp; omega)]
    simp only [List.set_set]
    have : (Frm.mk (frGet l n).st (frGet l n).ow ((frGet l n).ct + 1 - 1)) = frGet l n := by
      cases frGet l n; simp
    rw [this, frSet_self h0]
  · rw [frGet_set h0]; simp; omega
  · rw [(held_ok c2).1, hl.1, hsum_set hk, ← e]; simp only; omega
theorem take_let {l a : List Frm} {n st ow : Int} (h : frTake l n st ow = .ok a) : frLet a n = .ok l ∧ (frGet a n).ct - 1 = 0 ∧ l.length ≤ 64 := by
  obtain ⟨h0, h1, h2, h3, h4, h5, rfl⟩ := frTake_ok h
  have hc := frTake_chk h1 h2 h3 h4
  have hz := chk_ok (frGet_ok h0)
  refine ⟨?_, by rw [frGet_set h0]; simp, frAll_len ((frAt_iff _ _).1 h0).1⟩
  unfold frLet
  rw [if_pos (frAt_set h0 hc), frGet_set h0, if_neg (by simp; omega)]
  simp only [frLess, List.set_set]
  rw [if_pos (by simp)]
  have : frGet l n = ⟨0, 0, 0⟩ := by
    cases hg : frGet l n with
    | mk a b c =>
      rw [hg] at h5 hz
      simp at h5 hz
      have := hz.2.2.2.2.2.2.1 h5
      simp [h5, this.1, this.2]
  rw [← this, frSet_self h0]
end Go.Proofs.Ytphaiohhlblamaa
