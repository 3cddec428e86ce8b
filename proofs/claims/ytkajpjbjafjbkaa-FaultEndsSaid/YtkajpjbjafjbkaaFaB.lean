/- fault.Steps: what it comes to. -/
import Derived.Test.YtkajpjbjafjbkaaFaA
namespace Go.Proofs.Ytkajpjbjafjbkaa
open Go.AI

theorem act_vals (c : Cs) : c.act = 0 ∨ c.act = 1 ∨ c.act = 2 ∨ c.act = 3 ∨ c.act = 4 ∨ c.act = 5 ∨ c.act = 6 := by
  unfold Cs.act
  repeat' split
  all_goals simp
theorem act1 (c : Cs) : c.act = 1 ↔ (c.area < 0 ∨ ¬ iand .i64 c.area c.want = c.want) := by
  unfold Cs.act
  repeat' split
  all_goals simp_all
theorem next_area (c : Cs) (f : Int) : (c.next f).area = c.area ∧ (c.next f).want = c.want := by
  unfold Cs.next
  repeat' split
  all_goals simp
theorem act0 {c : Cs} (h : c.act = 0) : c.en.none = false ∧ c.en.slot = false ∧ c.en.rights = c.area ∧ (¬ iand .i64 c.want 2 = 0 → c.en.copy = false) ∧ iand .i64 c.area c.want = c.want ∧ 0 ≤ c.area := by
  unfold Cs.act at h
  split at h
  · simp at h
  split at h
  · simp at h
  split at h
  · simp at h
  split at h
  · simp at h
  split at h
  · simp at h
  split at h
  · simp at h
  rename_i h1 h2 h3 h4 h5 h6
  simp only [not_or, Classical.not_not] at h1 h4
  refine ⟨by simpa using h2, by simpa using h3, h4, fun hw => ?_, h1.2, by omega⟩
  cases hc : c.en.copy
  · rfl
  · exact absurd ⟨hw, hc⟩ h6
theorem act_copy {c : Cs} (hk : c.chk = 0) (f : Int) (h0 : ¬ c.act = 0) (h1 : ¬ c.act = 1) :
    (c.act ≠ 4 → ((c.next f).en.copy = true ∧ 1 < (c.next f).many ↔ c.en.copy = true ∧ 1 < c.many)) ∧ (c.act = 4 → (c.en.copy = true ∧ 1 < c.many) ∧ (c.next f).en.copy = false) ∧
    ((c.next f).many = 1 ∨ (c.next f).many = c.many) ∧ ((c.next f).en.copy = c.en.copy ∨ ((c.next f).en.copy = false ∧ (c.next f).many = 1)) := by
  obtain ⟨a1, a2, a3, a4, a5, a6, a7, a8⟩ := cs_ok hk
  obtain ⟨b1, b2, b3, b4, b5, b6, b7⟩ := ent_ok a5
  have hsp := act_vals c
  unfold Cs.next
  unfold Cs.act at h0 h1 ⊢
  split at h0
  · simp_all
  rename_i q1
  rw [if_neg q1] at h1 ⊢
  split at h0
  · rename_i q2
    simp [q2, b7 q2]
  rename_i q2
  rw [if_neg q2] at h1 ⊢
  split at h0
  · rename_i q3; simp [q3]
  rename_i q3
  rw [if_neg q3] at h1 ⊢
  split at h0
  · rename_i q4; simp [q4]
  rename_i q4
  rw [if_neg q4] at h1 ⊢
  split at h0
  · rename_i q5; simp [q5]
  rename_i q5
  rw [if_neg q5] at h1 ⊢
  split at h0
  · rename_i q6
    have hm : c.many = 1 := by
      have h5 : ¬ 1 < c.many := fun h => q5 ⟨q6, h⟩
      have h6 : c.many ≠ 0 := fun h => q2 (a7.2 h)
      omega
    simp [q6, hm]
  · exact absurd rfl h0

theorem steps_ind (f : Int) (hf : 0 ≤ f) (hf2 : f < 64) : ∀ (n : Nat) (c : Cs), c.chk = 0 → rank c.act < n →
    (stepsF n c f).2.chk = 0 ∧ (stepsF n c f).2.area = c.area ∧ (stepsF n c f).2.want = c.want ∧ ((stepsF n c f).2.act = 0 ∨ (stepsF n c f).2.act = 1) ∧ ((stepsF n c f).2.act = 1 ↔ c.act = 1) ∧
    (∃ init, (stepsF n c f).1 = init ++ [(stepsF n c f).2.act]) ∧ (stepsF n c f).1.length ≤ n ∧ (c.act = 1 → stepsF n c f = ([1], c)) ∧
    ((stepsF n c f).1.Pairwise (fun a b => rank b < rank a) ∧ ∀ a ∈ (stepsF n c f).1, rank a ≤ rank c.act) ∧
    (¬ iand .i64 c.want 2 = 0 → ¬ c.act = 1 → ((4 ∈ (stepsF n c f).1 ↔ c.en.copy = true ∧ 1 < c.many) ∧ ((stepsF n c f).2.many = 1 ∨ c.en.copy = false ∧ (stepsF n c f).2.many = c.many))) := by
  intro n
  induction n with
  | zero => intro c _ h; omega
  | succ n ih =>
    intro c hc hr
    simp only [stepsF]
    by_cases ha : c.act = 0 ∨ c.act = 1
    · rw [if_pos ha]
      refine ⟨hc, rfl, rfl, ha, Iff.rfl, ⟨[], rfl⟩, by simp, fun h => by rw [h], ⟨by simp, by simp⟩, fun hw h1 => ?_⟩
      have h0 : c.act = 0 := by rcases ha with h | h; exact h; exact absurd h h1
      have := (act0 h0).2.2.2.1 hw
      simp [h0, this]
    · rw [if_neg ha]
      simp only [not_or] at ha
      obtain ⟨k1, k2⟩ := next_ok (f := f) hc hf hf2 ha.1 ha.2
      obtain ⟨i1, i2, i3, i4, i5, i6, i7, i8, ⟨i9, i10⟩, i11⟩ := ih (c.next f) k1 (by omega)
      obtain ⟨m1, m2⟩ := next_area c f
      obtain ⟨init, hinit⟩ := i6
      have hn1 : ¬ (c.next f).act = 1 := by rw [act1, m1, m2, ← act1]; exact ha.2
      simp only
      refine ⟨i1, i2.trans m1, i3.trans m2, i4, by rw [i5]; exact ⟨fun h => absurd h hn1, fun h => absurd h ha.2⟩, ⟨c.act :: init, by rw [hinit]; simp⟩, by simp; omega, fun h => absurd h ha.2, ⟨?_, ?_⟩, ?_⟩
      · rw [List.pairwise_cons]
        exact ⟨fun b hb => Nat.lt_of_le_of_lt (i10 b hb) k2, i9⟩
      · intro a h
        rcases List.mem_cons.1 h with rfl | h
        · exact Nat.le_refl _
        · have := i10 a h; omega
      · intro hw _
        obtain ⟨j1, j2⟩ := i11 (by rw [m2]; exact hw) hn1
        obtain ⟨c1, c2, c3, c4⟩ := act_copy hc f ha.1 ha.2
        constructor
        · by_cases h4 : c.act = 4
          · have := c2 h4
            simp [h4, this]
          · rw [← c1 h4, ← j1, List.mem_cons]
            constructor
            · rintro (h | h)
              · exact absurd h.symm h4
              · exact h
            · exact .inr
        · rcases j2 with h | ⟨h, h'⟩
          · exact .inl h
          · rcases c4 with h4 | h4
            · rcases c3 with h3 | h3
              · left; omega
              · right; exact ⟨by rw [← h4]; exact h, by omega⟩
            · left; omega

theorem steps_ok {c : Cs} {f : Int} (h : stepsC c f = 0) : c.chk = 0 ∧ 0 ≤ f ∧ f < 64 := by
  unfold stepsC at h
  split at h
  · rename_i h0
    split at h
    · simp at h
    · exact ⟨h0, by omega, by omega⟩
  · rename_i h0; exact absurd h h0
theorem act_done {c : Cs} {f : Int} (h : c.act = 0 ∨ c.act = 1) : stepsF 5 c f = ([c.act], c) := by
  simp only [stepsF, if_pos h]
end Go.Proofs.Ytkajpjbjafjbkaa
