/- Pairs put and taken out: plain theory. -/
import Derived.Test.YtigpgieapamffaaRmE
namespace Go.Proofs.Ytigpgieapamffaa
open Go.AI
theorem insP_cons (a : Pr) (l : List Pr) (p : Pr) : insP (a :: l) p = if ordP a p < 0 then a :: insP l p else p :: a :: l := by
  unfold insP lowP
  by_cases q : ordP a p < 0
  · simp [q]
  · simp [q]
theorem insP_nil (p : Pr) : insP [] p = [p] := rfl
theorem insP_mem {l : List Pr} {p x : Pr} : x ∈ insP l p ↔ x = p ∨ x ∈ l := by
  induction l with
  | nil => simp [insP_nil]
  | cons a l ih =>
    rw [insP_cons]
    split
    · simp only [List.mem_cons, ih]
      constructor
      · rintro (h | h | h) <;> simp [h]
      · rintro (h | h | h) <;> simp [h]
    · simp
theorem insP_len (l : List Pr) (p : Pr) : (insP l p).length = l.length + 1 := by
  have := lowP_le l p
  simp [insP]; omega
theorem insP_sorted {l : List Pr} {p : Pr} (h : l.Pairwise LtP) (hp : p ∉ l) : (insP l p).Pairwise LtP := by
  induction l with
  | nil => simp [insP_nil]
  | cons a l ih =>
    rw [insP_cons]
    simp only [List.pairwise_cons, List.mem_cons, not_or] at h hp
    split
    · rename_i q
      rw [List.pairwise_cons]
      refine ⟨fun x hx => ?_, ih h.2 hp.2⟩
      rcases insP_mem.1 hx with rfl | hx
      · exact q
      · exact h.1 x hx
    · rename_i q
      have hpa : LtP p a := by
        rcases ordP_tri a p with h1 | h1 | h1
        · exact absurd h1 q
        · exact absurd h1.symm hp.1
        · exact h1
      rw [List.pairwise_cons, List.pairwise_cons]
      refine ⟨fun x hx => ?_, h⟩
      simp only [List.mem_cons] at hx
      rcases hx with rfl | hx
      · exact hpa
      · exact ordP_tr hpa (h.1 x hx)
theorem insP_diff {l : List Pr} {p : Pr} (h : l.Pairwise NeP) (hp : ∀ x ∈ l, NeP x p) : (insP l p).Pairwise NeP := by
  have hsym : ∀ {a b : Pr}, NeP a b → NeP b a := fun h h2 => h ⟨h2.1.symm, h2.2.symm⟩
  induction l with
  | nil => simp [insP_nil]
  | cons a l ih =>
    rw [insP_cons]
    simp only [List.pairwise_cons, List.mem_cons, forall_eq_or_imp] at h hp
    split
    · rw [List.pairwise_cons]
      refine ⟨fun x hx => ?_, ih h.2 hp.2⟩
      rcases insP_mem.1 hx with rfl | hx
      · exact hp.1
      · exact h.1 x hx
    · rw [List.pairwise_cons, List.pairwise_cons]
      refine ⟨fun x hx => ?_, h⟩
      simp only [List.mem_cons] at hx
      rcases hx with rfl | hx
      · exact hsym hp.1
      · exact hsym (hp.2 x hx)
/-- two lists in order of the same pairs are one -/
theorem sorted_ext {l m : List Pr} (hl : l.Pairwise LtP) (hm : m.Pairwise LtP) (h : ∀ x, x ∈ l ↔ x ∈ m) : l = m := by
  induction l generalizing m with
  | nil =>
    cases m with
    | nil => rfl
    | cons b m => have := (h b).2 (by simp); simp at this
  | cons a l ih =>
    cases m with
    | nil => have := (h a).1 (by simp); simp at this
    | cons b m =>
      simp only [List.pairwise_cons] at hl hm
      have e : a = b := by
        have h1 := (h a).1 (by simp)
        have h2 := (h b).2 (by simp)
        simp only [List.mem_cons] at h1 h2
        rcases h1 with h1 | h1
        · exact h1
        · rcases h2 with h2 | h2
          · exact h2.symm
          · exact absurd (hl.1 b h2) (ordP_as (hm.1 a h1))
      subst e
      have hne : ∀ {x : Pr}, ¬ LtP x x := fun {x} h => ordP_as h h
      rw [ih hl.2 hm.2 fun x => ?_]
      have := h x
      simp only [List.mem_cons] at this
      constructor
      · intro hx
        rcases this.1 (.inr hx) with rfl | h1
        · exact absurd (hl.1 _ hx) hne
        · exact h1
      · intro hx
        rcases this.2 (.inr hx) with rfl | h1
        · exact absurd (hm.1 _ hx) hne
        · exact h1
/-- so many different numbers below n -/
theorem len_below {n : Nat} {l : List Nat} (h : l.Nodup) (hb : ∀ x ∈ l, x < n) : l.length ≤ n := by
  induction n generalizing l with
  | zero =>
    cases l with
    | nil => simp
    | cons a l => have := hb a (by simp); omega
  | succ n ih =>
    have h1 : (l.erase n).length ≤ n := by
      apply ih (h.erase n)
      intro x hx
      have := (h.mem_erase_iff).1 hx
      have := hb x this.2
      omega
    have h2 : l.length ≤ (l.erase n).length + 1 := by rw [List.length_erase]; split <;> omega
    omega
theorem right_num {p : Pr} (h : p.right = true) : (p.space * 64 + p.page - 64).toNat < 1024 := by
  have := Pr.right_iff.1 h
  omega
theorem diff_len {l : List Pr} (hr : ∀ p ∈ l, p.right = true) (hd : l.Pairwise NeP) : l.length ≤ 1024 := by
  have h1 : (l.map fun p : Pr => (p.space * 64 + p.page - 64).toNat).Nodup := by
    rw [List.Nodup, List.pairwise_map]
    refine hd.imp_of_mem ?_
    intro a b ha hb hab he
    have h1 := Pr.right_iff.1 (hr a ha)
    have h2 := Pr.right_iff.1 (hr b hb)
    exact hab (by omega)
  have h2 := len_below h1 (n := 1024) (by
    intro x hx
    obtain ⟨p, hp, rfl⟩ := List.mem_map.1 hx
    exact right_num (hr p hp))
  simpa using h2
theorem not_mem_of_key {l : List Pr} {p : Pr} (h : l.any (·.at p.space p.page) = false) : p ∉ l := by
  intro hp
  exact at_any.1 h p hp ⟨rfl, rfl⟩
theorem good_ins {l : List Pr} {p : Pr} (g : Good l) (hp : p.right = true) (h : l.any (·.at p.space p.page) = false) : Good (insP l p) := by
  have hr : ∀ x ∈ insP l p, x.right = true := by
    intro x hx
    rcases insP_mem.1 hx with rfl | hx
    · exact hp
    · exact g.right x hx
  have hd := insP_diff g.diff (at_any.1 h)
  exact ⟨diff_len hr hd, hr, insP_sorted g.sorted (not_mem_of_key h), hd⟩
theorem put_ok {l m : List Pr} {p : Pr} (h : rmPut l p = .ok m) : Good l ∧ p.right = true ∧ l.any (·.at p.space p.page) = false ∧ m = insP l p := by
  unfold rmPut at h
  split at h
  · rename_i h0
    split at h
    · cases h
    · rename_i h1
      simp only [Except.ok.injEq] at h
      exact ⟨(rmChk_iff.1 h0).1, (rmChk_iff.1 h0).2, by simpa using h1, h.symm⟩
  · cases h
theorem put_good {l : List Pr} {p : Pr} (g : Good l) (hp : p.right = true) : rmPut l p = if l.any (·.at p.space p.page) = true then .error 5 else .ok (insP l p) := by
  unfold rmPut
  rw [if_pos (rmChk_iff.2 ⟨g, hp⟩)]
theorem put_err {l : List Pr} {p : Pr} {e : Int} (h : rmPut l p = .error e) : e ≠ 0 := by
  unfold rmPut at h
  split at h
  · split at h
    · simp only [Except.error.injEq] at h; omega
    · cases h
  · rename_i h0
    simp only [Except.error.injEq] at h; omega
theorem put_two {l a b : List Pr} {p q : Pr} (ha : rmPut l p = .ok a) (hb : rmPut l q = .ok b) : rmPut a q = rmPut b p := by
  obtain ⟨g, hp, h1, rfl⟩ := put_ok ha
  obtain ⟨_, hq, h2, rfl⟩ := put_ok hb
  have ga := good_ins g hp h1
  have gb := good_ins g hq h2
  rw [put_good ga hq, put_good gb hp]
  have e : (insP l p).any (·.at q.space q.page) = (insP l q).any (·.at p.space p.page) := by
    rw [Bool.eq_iff_iff]
    simp only [List.any_eq_true]
    have n1 : ¬ ∃ x ∈ l, x.at q.space q.page = true := by rw [← List.any_eq_true, h2]; simp
    have n2 : ¬ ∃ x ∈ l, x.at p.space p.page = true := by rw [← List.any_eq_true, h1]; simp
    constructor
    · rintro ⟨x, hx, hxq⟩
      rcases insP_mem.1 hx with rfl | hx
      · refine ⟨q, insP_mem.2 (.inl rfl), ?_⟩
        simp [Pr.at] at hxq ⊢
        exact ⟨hxq.1.symm, hxq.2.symm⟩
      · exact absurd ⟨x, hx, hxq⟩ n1
    · rintro ⟨x, hx, hxq⟩
      rcases insP_mem.1 hx with rfl | hx
      · refine ⟨p, insP_mem.2 (.inl rfl), ?_⟩
        simp [Pr.at] at hxq ⊢
        exact ⟨hxq.1.symm, hxq.2.symm⟩
      · exact absurd ⟨x, hx, hxq⟩ n2
  rw [← e]
  by_cases h3 : (insP l p).any (·.at q.space q.page) = true
  · rw [if_pos h3, if_pos h3]
  · rw [if_neg h3, if_neg h3]
    simp only [Bool.not_eq_true] at h3
    have h4 := h3
    rw [e] at h4
    rw [sorted_ext (insP_sorted ga.sorted (not_mem_of_key h3)) (insP_sorted gb.sorted (not_mem_of_key h4))]
    intro x
    simp only [insP_mem]
    constructor
    · rintro (h | h | h) <;> simp [h]
    · rintro (h | h | h) <;> simp [h]
/-- a pair is the only one of its page -/
theorem key_eq {l : List Pr} (g : Good l) {x y : Pr} (hx : x ∈ l) (hy : y ∈ l) (h : x.space = y.space ∧ x.page = y.page) : x = y := by
  obtain ⟨i, hi, rfl⟩ := List.mem_iff_getElem.1 hx
  obtain ⟨j, hj, rfl⟩ := List.mem_iff_getElem.1 hy
  rcases Nat.lt_trichotomy i j with q | q | q
  · exact absurd h (List.pairwise_iff_getElem.1 g.diff i j hi hj q)
  · simp [q]
  · exact absurd ⟨h.1.symm, h.2.symm⟩ (List.pairwise_iff_getElem.1 g.diff j i hj hi q)
theorem find_of {l : List Pr} (g : Good l) {x : Pr} (hx : x ∈ l) : ∃ k : Nat, ∃ hk : k < l.length, rmFind l x.space x.page = k ∧ l[k] = x := by
  have h1 : ¬ rmFind l x.space x.page < 0 := by
    have := (rmFind_iff l x.space x.page).2 (List.any_eq_true.2 ⟨x, hx, by simp [Pr.at]⟩)
    omega
  obtain ⟨k, hk, hkl, hat, _⟩ := idxP_some h1
  refine ⟨k, hkl, hk, key_eq g (List.getElem_mem hkl) hx ?_⟩
  simpa [Pr.at] using hat
theorem chk_of {l : List Pr} (g : Good l) {s q : Int} (h : 1 ≤ s ∧ s ≤ 16 ∧ 0 ≤ q ∧ q < 64) : rmChk l ⟨0, s, q⟩ = 0 := rmChk_iff.2 ⟨g, Pr.right_iff.2 (by simp; omega)⟩
theorem where_of {l : List Pr} (g : Good l) {x : Pr} (hx : x ∈ l) : rmWhere l x.space x.page = (x.frame, 0) := by
  have hr := Pr.right_iff.1 (g.right x hx)
  obtain ⟨k, hk, h1, h2⟩ := find_of g hx
  unfold rmWhere
  rw [if_pos (chk_of g (by omega)), h1, if_neg (by omega)]
  simp [hk, h2]
theorem out_ins {l : List Pr} {p : Pr} (g : Good l) (hp : p.right = true) (h : l.any (·.at p.space p.page) = false) : rmOut (insP l p) p.space p.page = .ok (l, p.frame) := by
  have ga := good_ins g hp h
  have hr := Pr.right_iff.1 hp
  have hm : p ∈ insP l p := insP_mem.2 (.inl rfl)
  obtain ⟨k, hk, h1, h2⟩ := find_of ga hm
  have hle := lowP_le l p
  have hlt : lowP l p < (insP l p).length := by rw [insP_len]; omega
  have h3 : (insP l p)[lowP l p] = p := by simp [insP, Nat.min_eq_left hle]
  have hk2 : k = lowP l p := by
    have hne : ∀ {x : Pr}, ¬ LtP x x := fun {x} h => ordP_as h h
    rcases Nat.lt_trichotomy k (lowP l p) with q | q | q
    · have := List.pairwise_iff_getElem.1 ga.sorted k (lowP l p) hk hlt q
      rw [h2, h3] at this
      exact absurd this hne
    · exact q
    · have := List.pairwise_iff_getElem.1 ga.sorted (lowP l p) k hlt hk q
      rw [h2, h3] at this
      exact absurd this hne
  unfold rmOut
  rw [if_pos (chk_of ga (by omega)), h1, if_neg (by omega)]
  simp only [Int.toNat_natCast, List.getElem?_eq_getElem hk, h2, Option.getD_some, Except.ok.injEq, Prod.mk.injEq, and_true]
  subst hk2
  rw [List.eraseIdx_eq_take_drop_succ]
  have hd : List.drop (lowP l p + 1) (List.take (lowP l p) l) = [] := List.drop_eq_nil_of_le (by simp; omega)
  simp [insP, Nat.min_eq_left hle, List.drop_append, hd]
theorem where_iff {l : List Pr} {f s q : Int} (h1 : rmChk l ⟨f, 1, 0⟩ = 0) (h2 : (rmWhere l s q).2 = 0) : (⟨f, s, q⟩ : Pr) ∈ l ↔ (rmWhere l s q).1 = f := by
  obtain ⟨g, hf⟩ := rmChk_iff.1 h1
  have hf := Pr.right_iff.1 hf
  simp only at hf
  constructor
  · intro h
    have := where_of g h
    simp only at this
    rw [this]
  · intro h
    unfold rmWhere at h h2
    split at h
    · rename_i h0
      split at h
      · simp only at h; omega
      · rename_i h3
        obtain ⟨k, hk, hkl, hat, _⟩ := idxP_some h3
        replace hk : rmFind l s q = k := hk
        simp only [hk, Int.toNat_natCast, List.getElem?_eq_getElem hkl, Option.getD_some] at h
        have : (⟨f, s, q⟩ : Pr) = l[k] := by
          simp [Pr.at] at hat
          rw [pr_eq]
          exact ⟨h.symm, hat.1.symm, hat.2.symm⟩
        rw [this]
        exact List.getElem_mem hkl
    · rename_i h0
      rw [if_neg h0] at h2
      exact absurd h2 h0
/-- the pairs of the frames below k -/
def belowP (l : List Pr) (k : Int) : List Pr := l.filter (fun x => decide (x.frame < k))
theorem below_next {l : List Pr} (h : l.Pairwise LtP) (k : Int) : belowP l (k + 1) = belowP l k ++ l.filter (fun x => !(x.frame != k)) := by
  induction l with
  | nil => rfl
  | cons a l ih =>
    simp only [List.pairwise_cons] at h
    have ih := ih h.2
    unfold belowP at ih ⊢
    simp only [List.filter_cons]
    rcases Int.lt_trichotomy a.frame k with q | q | q
    · have e1 : decide (a.frame < k + 1) = true := by simp; omega
      have e2 : decide (a.frame < k) = true := by simp; omega
      have e3 : (!(a.frame != k)) = false := by simp; omega
      rw [e1, e2, e3]
      simp only [if_true, Bool.false_eq_true, if_false, List.cons_append, ih]
    · have e1 : decide (a.frame < k + 1) = true := by simp; omega
      have e2 : decide (a.frame < k) = false := by simp; omega
      have e3 : (!(a.frame != k)) = true := by simp; omega
      rw [e1, e2, e3]
      have hn : l.filter (fun x => decide (x.frame < k)) = [] := by
        rw [List.filter_eq_nil_iff]
        intro x hx
        have := ordP_lt.1 (h.1 x hx)
        simp; omega
      rw [hn] at ih ⊢
      simp only [if_true, Bool.false_eq_true, if_false, ih, List.nil_append]
    · have e1 : decide (a.frame < k + 1) = false := by simp; omega
      have e2 : decide (a.frame < k) = false := by simp; omega
      have e3 : (!(a.frame != k)) = false := by simp; omega
      rw [e1, e2, e3]
      simp only [Bool.false_eq_true, if_false, ih]
theorem below_zero {l : List Pr} (g : Good l) : belowP l 0 = [] := by
  unfold belowP
  rw [List.filter_eq_nil_iff]
  intro x hx
  have := Pr.right_iff.1 (g.right x hx)
  simp; omega
theorem below_all {l : List Pr} (g : Good l) : belowP l 64 = l := by
  unfold belowP
  rw [List.filter_eq_self]
  intro x hx
  have := Pr.right_iff.1 (g.right x hx)
  simp; omega
end Go.Proofs.Ytigpgieapamffaa
