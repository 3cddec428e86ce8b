/- Slabs in plain words: what Take and Give answer. -/
import Derived.Test.YtfiindblaopaiaaSbB
namespace Go.Proofs.Ytfiindblaopaiaa
open Go.AI
/-- places of a box that is right: they rise, and are multiples -/
def OkU (z : Nat) (u : List Int) : Prop := u.Pairwise (· < ·) ∧ ∀ a ∈ u, 0 ≤ a ∧ a.toNat % z = 0 ∧ a.toNat / z < 16 / z
def OkL (z : Nat) (L : List Box) : Prop := (L.map Box.frame).Pairwise (· < ·) ∧ ∀ b ∈ L, 0 ≤ b.frame ∧ b.frame < 64 ∧ b.used ≠ [] ∧ OkU z b.used
theorem pw_step {l : List Int} (h : ∀ k, 0 < k → (hk : k < l.length) → l[k - 1] < l[k]) : l.Pairwise (· < ·) := by
  rw [List.pairwise_iff_getElem]
  intro i j hi hj hij
  induction j with
  | zero => omega
  | succ j ih =>
    have h1 := h (j + 1) (by omega) hj
    simp only [Nat.add_sub_cancel] at h1
    by_cases e : i = j
    · subst e; exact h1
    · have := ih (by omega) (by omega); omega
theorem okU_iff {z : Nat} {u : List Int} : (∀ i, i < u.length → okAt z u i = true) ↔ OkU z u := by
  constructor
  · intro h
    refine ⟨pw_step fun k h0 hk => ((okAt_iff hk).1 (h k hk)).2.2.2 h0, fun a ha => ?_⟩
    obtain ⟨i, hi, rfl⟩ := List.getElem_of_mem ha
    have := (okAt_iff hi).1 (h i hi)
    exact ⟨this.1, this.2.1, this.2.2.1⟩
  · rintro ⟨h1, h2⟩ i hi
    rw [okAt_iff hi]
    obtain ⟨a, b, c⟩ := h2 _ (List.getElem_mem hi)
    refine ⟨a, b, c, fun h0 => ?_⟩
    rw [List.pairwise_iff_getElem] at h1
    exact h1 (i - 1) i (by omega) hi (by omega)
theorem sl_ok {s : Slb} : slCheck s = 0 ↔ 1 ≤ s.size ∧ s.size ≤ 16 ∧ s.boxes.length ≤ 64 ∧ OkL s.size.toNat s.boxes := by
  unfold slCheck newS
  by_cases h0 : s.size < 1 ∨ 16 < s.size
  · rw [if_pos h0, if_neg (by omega)]; omega
  · rw [if_neg h0, if_pos rfl]
    by_cases h1 : 64 < s.boxes.length
    · rw [if_pos h1]; simp; omega
    · rw [if_neg h1]
      have key : (List.range s.boxes.length).all (okBox s.size.toNat s.boxes) = true ↔ OkL s.size.toNat s.boxes := by
        rw [List.all_eq_true]
        simp only [List.mem_range]
        constructor
        · intro h
          refine ⟨pw_step fun k h0 hk => ?_, fun b hb => ?_⟩
          · simp only [List.length_map] at hk
            have := ((okBox_iff hk).1 (h k hk)).2.2.1 h0
            simpa using this
          · obtain ⟨i, hi, rfl⟩ := List.getElem_of_mem hb
            obtain ⟨a, b, _, c, d⟩ := (okBox_iff hi).1 (h i hi)
            exact ⟨a, b, c, okU_iff.1 d⟩
        · rintro ⟨h1, h2⟩ i hi
          obtain ⟨a, b, c, d⟩ := h2 _ (List.getElem_mem hi)
          rw [okBox_iff hi]
          refine ⟨a, b, fun h0 => ?_, c, okU_iff.2 d⟩
          rw [List.pairwise_iff_getElem] at h1
          have := h1 (i - 1) i (by simp; omega) (by simpa using hi) (by omega)
          simpa using this
      split
      · rename_i h; exact ⟨fun _ => ⟨by omega, by omega, by omega, key.1 h⟩, fun _ => rfl⟩
      · rename_i h
        constructor
        · intro h2; simp at h2
        · rintro ⟨_, _, _, h3⟩; exact absurd (key.2 h3) h
theorem okU_16 {z : Nat} {u : List Int} (h1 : 1 ≤ z) (h2 : z ≤ 16) (h : OkU z u) : u.length ≤ 16 := few h1 h2 (Nat.le_refl _) (okU_iff.2 h)
theorem okU_lt {z : Nat} {u : List Int} (h : OkU z u) : ∀ a ∈ u, 0 ≤ a ∧ a < 16 := by
  intro a ha
  obtain ⟨b, c, d⟩ := h.2 a ha
  refine ⟨b, ?_⟩
  apply Classical.byContradiction
  intro hn
  have h3 : 16 / z ≤ a.toNat / z := Nat.div_le_div_right (by omega)
  omega
theorem okS_of {s : Slb} (h : slCheck s = 0) : okS s := by
  obtain ⟨h1, h2, h3, h4⟩ := sl_ok.1 h
  intro b hb a ha
  have := okU_lt (z := s.size.toNat) (h4.2 b hb).2.2.2 a ha
  omega
/-- the first place that is free -/
def hole (z : Nat) (u : List Int) : Option Nat := (List.range (16 / z)).find? fun k => !decide (((k * z : Nat) : Int) ∈ u)
theorem hole_some {z : Nat} {u : List Int} {k : Nat} (h : hole z u = some k) : k < 16 / z ∧ ((k * z : Nat) : Int) ∉ u ∧ ∀ j, j < k → ((j * z : Nat) : Int) ∈ u := by
  unfold hole at h
  rw [List.find?_range_eq_some] at h
  simp only [Bool.not_eq_true', decide_eq_false_iff_not, List.mem_range, Bool.not_not, decide_eq_true_eq] at h
  exact ⟨h.2.1, h.1, h.2.2⟩
theorem hole_none {z : Nat} {u : List Int} (h : hole z u = none) : ∀ j, j < 16 / z → ((j * z : Nat) : Int) ∈ u := by
  unfold hole at h
  rw [List.find?_eq_none] at h
  simpa using h
/-- in a box the i-th place is no less than the i-th multiple -/
theorem okU_ge {z : Nat} {u : List Int} (hz : 1 ≤ z) (h : OkU z u) : ∀ i (hi : i < u.length), ((i * z : Nat) : Int) ≤ u[i] := by
  intro i
  induction i with
  | zero => intro hi; have := (h.2 _ (List.getElem_mem hi)).1; simpa using this
  | succ i ih =>
    intro hi
    have h1 := ih (by omega)
    have h2 := List.pairwise_iff_getElem.1 h.1 i (i + 1) (by omega) hi (by omega)
    obtain ⟨a0, a1, _⟩ := h.2 _ (List.getElem_mem (show i < u.length by omega))
    obtain ⟨b0, b1, _⟩ := h.2 _ (List.getElem_mem hi)
    obtain ⟨p, hp⟩ := Nat.dvd_of_mod_eq_zero a1
    obtain ⟨q, hq⟩ := Nat.dvd_of_mod_eq_zero b1
    have e1 : u[i].toNat < u[i + 1].toNat := by omega
    rw [hp, hq] at e1
    have hpq : p < q := Nat.lt_of_mul_lt_mul_left e1
    have h3 : i * z ≤ z * p := by omega
    rw [Nat.mul_comm] at h3
    have hip : i ≤ p := Nat.le_of_mul_le_mul_left h3 (by omega)
    have h4 : z * (i + 1) ≤ z * q := Nat.mul_le_mul_left _ (by omega)
    rw [Nat.mul_comm z (i + 1)] at h4
    omega
theorem okU_eq {z : Nat} {u : List Int} (hz : 1 ≤ z) (h : OkU z u) {k : Nat} (hk : ∀ j, j < k → ((j * z : Nat) : Int) ∈ u) : k ≤ u.length ∧ ∀ i, i < k → u[i]? = some ((i * z : Nat) : Int) := by
  have hall : ∀ i, i < k → ∃ hi : i < u.length, u[i] = ((i * z : Nat) : Int) := by
    intro i
    induction i using Nat.strongRecOn with
    | ind i ih =>
      intro hi
      obtain ⟨m, hm, he⟩ := List.getElem_of_mem (hk i hi)
      have hge := okU_ge hz h m hm
      rw [he] at hge
      have hmi : m ≤ i := by
        have : m * z ≤ i * z := by omega
        exact Nat.le_of_mul_le_mul_right this (by omega)
      rcases Nat.lt_or_eq_of_le hmi with hlt | heq
      · obtain ⟨_, h2⟩ := ih m hlt (by omega)
        rw [h2] at he
        have : m * z = i * z := by omega
        have := Nat.eq_of_mul_eq_mul_right (by omega) this
        omega
      · subst heq; exact ⟨hm, he⟩
  refine ⟨?_, fun i hi => ?_⟩
  · cases k with
    | zero => omega
    | succ k => obtain ⟨h1, _⟩ := hall k (by omega); omega
  · obtain ⟨h1, h2⟩ := hall i hi
    rw [List.getElem?_eq_getElem h1, h2]
theorem okU_ins {z : Nat} {u : List Int} (hz : 1 ≤ z) (h : OkU z u) {k : Nat} (hk : hole z u = some k) : k ≤ u.length ∧ OkU z (u.take k ++ ((k * z : Nat) : Int) :: u.drop k) := by
  obtain ⟨h1, h2, h3⟩ := hole_some hk
  obtain ⟨h4, h5⟩ := okU_eq hz h h3
  refine ⟨h4, ?_, ?_⟩
  · rw [List.pairwise_append]
    refine ⟨h.1.sublist (List.take_sublist _ _), ?_, ?_⟩
    · rw [List.pairwise_cons]
      refine ⟨fun a ha => ?_, h.1.sublist (List.drop_sublist _ _)⟩
      obtain ⟨i, hi, rfl⟩ := List.getElem_of_mem ha
      simp only [List.length_drop] at hi
      rw [List.getElem_drop]
      have hge := okU_ge hz h (k + i) (by omega)
      have hne : u[k + i]'(by omega) ≠ ((k * z : Nat) : Int) := fun e => h2 (e ▸ List.getElem_mem _)
      have : k * z ≤ (k + i) * z := Nat.mul_le_mul_right _ (by omega)
      omega
    · intro a ha b hb
      obtain ⟨i, hi, rfl⟩ := List.getElem_of_mem ha
      simp only [List.length_take] at hi
      have hik : i < k := by omega
      have e := h5 i hik
      rw [List.getElem?_eq_getElem (by omega)] at e
      rw [List.getElem_take, Option.some.inj e]
      have hlt : i * z < k * z := Nat.mul_lt_mul_of_pos_right hik (by omega)
      rcases List.mem_cons.1 hb with rfl | hb
      · omega
      · obtain ⟨m, hm, rfl⟩ := List.getElem_of_mem hb
        simp only [List.length_drop] at hm
        rw [List.getElem_drop]
        have hge := okU_ge hz h (k + m) (by omega)
        have : k * z ≤ (k + m) * z := Nat.mul_le_mul_right _ (by omega)
        omega
  · intro a ha
    rcases List.mem_append.1 ha with ha | ha
    · exact h.2 a (List.mem_of_mem_take ha)
    · rcases List.mem_cons.1 ha with rfl | ha
      · rw [Int.toNat_natCast, Nat.mul_mod_left, Nat.mul_div_cancel _ (by omega)]
        exact ⟨by omega, rfl, h1⟩
      · exact h.2 a (List.mem_of_mem_drop ha)
/-- what Take answers -/
def holeB (z : Nat) (b : Box) : Bool := (hole z b.used).isSome
def insAt (L : List Box) (f : Int) : Nat := (L.findIdx? fun b => !decide (b.frame < f)).getD L.length
def slTake (s : Slb) (f : Int) : Except Int (Slb × Place × Bool) :=
  if slCheck s = 0 then
    match s.boxes.findIdx? (holeB s.size.toNat) with
    | some i =>
      let b := s.boxes[i]?.getD ⟨0, []⟩
      let k := (hole s.size.toNat b.used).getD 0
      .ok (⟨s.size, s.boxes.set i ⟨b.frame, b.used.take k ++ ((k * s.size.toNat : Nat) : Int) :: b.used.drop k⟩⟩, ⟨b.frame, ((k * s.size.toNat : Nat) : Int)⟩, false)
    | none => if f < 0 ∨ 64 ≤ f then .error 6 else if s.boxes.any (fun b => b.frame == f) = true then .error 5 else .ok (⟨s.size, s.boxes.take (insAt s.boxes f) ++ ⟨f, [0]⟩ :: s.boxes.drop (insAt s.boxes f)⟩, ⟨f, 0⟩, true)
  else .error (slCheck s)
end Go.Proofs.Ytfiindblaopaiaa
