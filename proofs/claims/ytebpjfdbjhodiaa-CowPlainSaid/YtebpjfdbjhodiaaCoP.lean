/- Rooms, plainly. -/
import Derived.Test.YtebpjfdbjhodiaaCoG
namespace Go.Proofs.Ytebpjfdbjhodiaa
open Go.AI
set_option linter.unusedVariables false
theorem cells_le {n : Nat} : ∀ {l : List Int}, (∀ c, c < n → (c : Int) ∈ l) → n ≤ l.length := by
  induction n with
  | zero => intro l _; omega
  | succ n ih =>
    intro l h
    have hm := h n (by omega)
    have h1 := ih (l := l.erase (n : Int)) (fun c hc => (List.mem_erase_of_ne (by omega)).2 (h c (by omega)))
    have h2 := List.length_erase_of_mem hm
    have h3 : 0 < l.length := List.length_pos_of_mem hm
    omega
theorem cells_lt {n : Nat} {l : List Int} (h : ∀ c, c < n → (c : Int) ∈ l) {c0 : Int} (h2 : 2 ≤ l.count c0) : n + 1 ≤ l.length := by
  have hm : c0 ∈ l := List.count_pos_iff.1 (by omega)
  have h1 := cells_le (n := n) (l := l.erase c0) (fun c hc => by
    by_cases e : (c : Int) = c0
    · rw [e]
      exact List.count_pos_iff.1 (by rw [List.count_erase_self]; omega)
    · exact (List.mem_erase_of_ne e).2 (h c hc))
  have h2 := List.length_erase_of_mem hm
  have h3 : 0 < l.length := List.length_pos_of_mem hm
  omega
theorem mem_flat {L : List (List Int)} {c : Int} : (∃ l ∈ L, c ∈ l) ↔ c ∈ L.flatten := by simp
theorem count_set' {x y : Int} : ∀ {l : List Int} {j : Nat} (hj : j < l.length), (l.set j y).count x + (if l[j] = x then 1 else 0) = l.count x + (if y = x then 1 else 0) := by
  intro l
  induction l with
  | nil => intro j hj; simp at hj
  | cons a l ih =>
    intro j hj
    cases j with
    | zero =>
      simp only [List.set_cons_zero, List.getElem_cons_zero, List.count_cons, beq_iff_eq]
      omega
    | succ j =>
      have := ih (j := j) (by simpa using hj)
      simp only [List.set_cons_succ, List.getElem_cons_succ, List.count_cons]
      omega
theorem flat_set {x : Int} {l : List Int} : ∀ {L : List (List Int)} {n : Nat} (hn : n < L.length), (L.set n l).flatten.count x + (L[n]).count x = L.flatten.count x + l.count x := by
  intro L
  induction L with
  | nil => intro n hn; simp at hn
  | cons a L ih =>
    intro n hn
    cases n with
    | zero => simp only [List.set_cons_zero, List.getElem_cons_zero, List.flatten_cons, List.count_append]; omega
    | succ n =>
      have := ih (n := n) (by simpa using hn)
      simp only [List.set_cons_succ, List.getElem_cons_succ, List.flatten_cons, List.count_append]
      omega
theorem flat_len_set {l : List Int} : ∀ {L : List (List Int)} {n : Nat} (hn : n < L.length), (L.set n l).flatten.length + (L[n]).length = L.flatten.length + l.length := by
  intro L
  induction L with
  | nil => intro n hn; simp at hn
  | cons a L ih =>
    intro n hn
    cases n with
    | zero => simp only [List.set_cons_zero, List.getElem_cons_zero, List.flatten_cons, List.length_append]; omega
    | succ n =>
      have := ih (n := n) (by simpa using hn)
      simp only [List.set_cons_succ, List.getElem_cons_succ, List.flatten_cons, List.length_append]
      omega
/-- a place's cell put otherwise -/
theorem flat_set2 {x y : Int} {L : List (List Int)} {n j : Nat} (hn : n < L.length) (hj : j < (L[n]).length) : (L.set n ((L[n]).set j y)).flatten.count x + (if (L[n])[j] = x then 1 else 0) = L.flatten.count x + (if y = x then 1 else 0) := by
  have h1 := flat_set (x := x) (l := (L[n]).set j y) hn
  have h2 := count_set' (x := x) (y := y) hj
  omega
theorem mem_flat_get {L : List (List Int)} {n j : Nat} (hn : n < L.length) (hj : j < (L[n]).length) : (L[n])[j] ∈ L.flatten := by
  rw [← mem_flat]; exact ⟨L[n], List.getElem_mem hn, List.getElem_mem hj⟩
/-- a cell of one page: no other page has it -/
theorem only_one {L : List (List Int)} {n j n' j' : Nat} (hn : n < L.length) (hj : j < (L[n]).length) (hn' : n' < L.length) (hj' : j' < (L[n']).length) (h1 : L.flatten.count (L[n])[j] = 1) (he : (L[n'])[j'] = (L[n])[j]) (h0 : 0 ≤ (L[n])[j]) : n' = n ∧ j' = j := by
  have h2 := flat_set2 (x := (L[n])[j]) (y := -1) hn hj
  rw [if_pos rfl, if_neg (by omega), h1] at h2
  have h3 : (L.set n ((L[n]).set j (-1))).flatten.count (L[n])[j] = 0 := by omega
  by_cases hnn : n' = n
  · refine ⟨hnn, ?_⟩
    subst hnn
    by_cases hjj : j' = j
    · exact hjj
    · exfalso
      refine List.count_eq_zero.1 h3 (mem_flat.1 ⟨(L[n']).set j (-1), List.mem_set hn _, ?_⟩)
      rw [← he]
      have : ((L[n']).set j (-1))[j']'(by simpa using hj') = (L[n'])[j'] := List.getElem_set_ne (fun e => hjj e.symm) _
      rw [← this]; exact List.getElem_mem _
  · exfalso
    refine List.count_eq_zero.1 h3 (mem_flat.1 ⟨L[n'], ?_, ?_⟩)
    · have : (L.set n ((L[n]).set j (-1)))[n']'(by simpa using hn') = L[n'] := List.getElem_set_ne (fun e => hnn e.symm) _
      rw [← this]; exact List.getElem_mem _
    · rw [← he]; exact List.getElem_mem _
theorem sp_of {r : Room} (h : cowCheck r = 0) {n : Nat} (hn : n < r.spaces.length) : cowSp r (n : Int) = 0 := by
  unfold cowSp
  rw [if_pos h, if_neg (by omega)]
/-- Write -/
theorem write_ok {r x : Room} {s k b : Int} {c : Bool} (h : cowWrite r s k b = .ok (x, c)) :
    cowCheck r = 0 ∧ ∃ (n j : Nat) (hn : n < r.spaces.length) (hj : j < (r.spaces[n]).length), s = n ∧ k = j ∧
      ((manyI r.spaces (r.spaces[n])[j] = 1 ∧ x = ⟨r.cells.set ((r.spaces[n])[j]).toNat b, r.spaces⟩ ∧ c = false) ∨ (¬ manyI r.spaces (r.spaces[n])[j] = 1 ∧ x = ⟨r.cells ++ [b], r.spaces.set n ((r.spaces[n]).set j (r.cells.length : Int))⟩ ∧ c = true)) := by
  unfold cowWrite at h
  split at h
  case isFalse => cases h
  rename_i h0
  obtain ⟨hck, n, rfl, hn⟩ := sp_ok h0
  have hg : r.spaces[((n : Nat) : Int).toNat]?.getD [] = r.spaces[n] := by simp [hn]
  rw [hg] at h
  split at h
  case isTrue => cases h
  rename_i h1
  obtain ⟨j, rfl⟩ := Int.eq_ofNat_of_zero_le (show 0 ≤ k by omega)
  have hj : j < (r.spaces[n]).length := by omega
  have hg2 : (r.spaces[n])[((j : Nat) : Int).toNat]?.getD 0 = (r.spaces[n])[j] := by simp [hj]
  rw [hg2] at h
  refine ⟨hck, n, j, hn, hj, rfl, rfl, ?_⟩
  split at h
  · rename_i h2
    simp only [Except.ok.injEq, Prod.mk.injEq] at h
    exact .inl ⟨h2, h.1.symm, h.2.symm⟩
  · rename_i h2
    simp only [Except.ok.injEq, Prod.mk.injEq, Int.toNat_natCast] at h
    exact .inr ⟨h2, h.1.symm, h.2.symm⟩
theorem write_of {r : Room} {n j : Nat} (b : Int) (h : cowCheck r = 0) (hn : n < r.spaces.length) (hj : j < (r.spaces[n]).length) : cowWrite r (n : Int) (j : Int) b = if manyI r.spaces (r.spaces[n])[j] = 1 then .ok (⟨r.cells.set ((r.spaces[n])[j]).toNat b, r.spaces⟩, false) else .ok (⟨r.cells ++ [b], r.spaces.set n ((r.spaces[n]).set j (r.cells.length : Int))⟩, true) := by
  unfold cowWrite
  rw [if_pos (sp_of h hn)]
  have hg : r.spaces[((n : Nat) : Int).toNat]?.getD [] = r.spaces[n] := by simp [hn]
  have hg2 : (r.spaces[n])[((j : Nat) : Int).toNat]?.getD 0 = (r.spaces[n])[j] := by simp [hj]
  rw [hg, hg2, if_neg (by omega), Int.toNat_natCast, Int.toNat_natCast]
theorem room_sizes {r : Room} (h : cowCheck r = 0) : r.cells.length ≤ r.spaces.flatten.length ∧ r.spaces.flatten.length ≤ 64 := by
  obtain ⟨⟨g1, g2⟩, g3, g4⟩ := cow_ok h
  refine ⟨cells_le fun c hc => mem_flat.1 (g4 c hc), ?_⟩
  have := flat_len fun l hl => (g3 l hl).1
  omega
theorem set_ok {L : List (List Int)} {n j m : Nat} {y : Int} (hn : n < L.length) (g3 : ∀ l ∈ L, l.length ≤ 8 ∧ ∀ x ∈ l, 0 ≤ x ∧ x < m) (hj : j < (L[n]).length) {m' : Nat} (hm : m ≤ m') (hy : 0 ≤ y ∧ y < m') : ∀ l ∈ L.set n ((L[n]).set j y), l.length ≤ 8 ∧ ∀ x ∈ l, 0 ≤ x ∧ x < m' := by
  intro l hl
  rcases List.mem_or_eq_of_mem_set hl with h | rfl
  · have := g3 l h
    exact ⟨this.1, fun x hx => by have := this.2 x hx; omega⟩
  · have := g3 _ (List.getElem_mem hn)
    refine ⟨by rw [List.length_set]; exact this.1, fun x hx => ?_⟩
    rcases List.mem_or_eq_of_mem_set hx with h | rfl
    · have := this.2 x h; omega
    · exact hy
theorem write_check {r x : Room} {s k b : Int} {c : Bool} (h : cowWrite r s k b = .ok (x, c)) : cowCheck x = 0 := by
  obtain ⟨hck, n, j, hn, hj, rfl, rfl, h2⟩ := write_ok h
  obtain ⟨⟨g1, g2⟩, g3, g4⟩ := cow_ok hck
  rcases h2 with ⟨h3, rfl, rfl⟩ | ⟨h3, rfl, rfl⟩
  · exact cow_of (by simpa using g1) g2 (by simpa using g3) (by simpa using g4)
  · have hx := (g3 _ (List.getElem_mem hn)).2 _ (List.getElem_mem hj)
    have hpos : 0 < r.spaces.flatten.count (r.spaces[n])[j] := List.count_pos_iff.2 (mem_flat_get hn hj)
    have h2 : 2 ≤ r.spaces.flatten.count (r.spaces[n])[j] := by unfold manyI at h3; omega
    have hlt := cells_lt (fun c hc => mem_flat.1 (g4 c hc)) h2
    have hsz := room_sizes hck
    refine cow_of (by simp; omega) (by simpa using g2) ?_ ?_
    · simp only [List.length_append, List.length_singleton]
      exact set_ok hn g3 hj (by omega) ⟨by omega, by omega⟩
    · intro c hc
      simp only [List.length_append, List.length_singleton] at hc
      rw [mem_flat]
      have h4 := flat_set2 (x := (c : Int)) (y := (r.cells.length : Int)) hn hj
      suffices hps : 0 < (r.spaces.set n ((r.spaces[n]).set j (r.cells.length : Int))).flatten.count (c : Int) from List.count_pos_iff.1 hps
      by_cases e : c = r.cells.length
      · subst e; rw [if_pos rfl] at h4
        have : ¬ (r.spaces[n])[j] = (r.cells.length : Int) := by omega
        rw [if_neg this] at h4; omega
      · have h5 : 0 < r.spaces.flatten.count (c : Int) := List.count_pos_iff.2 (mem_flat.1 (g4 c (by omega)))
        rw [if_neg (show ¬ (r.cells.length : Int) = c by omega)] at h4
        by_cases e2 : (r.spaces[n])[j] = (c : Int)
        · rw [if_pos e2] at h4
          rw [e2] at h2; omega
        · rw [if_neg e2] at h4; omega
/-- a second write there is in place -/
theorem write_again {r x : Room} {s k a : Int} {c : Bool} (h : cowWrite r s k a = .ok (x, c)) (b : Int) : ∃ y, cowWrite x s k b = .ok (y, false) ∧ y.cells.length = x.cells.length := by
  have hcx := write_check h
  obtain ⟨hck, n, j, hn, hj, rfl, rfl, h2⟩ := write_ok h
  obtain ⟨⟨g1, g2⟩, g3, g4⟩ := cow_ok hck
  rcases h2 with ⟨h3, rfl, rfl⟩ | ⟨h3, rfl, rfl⟩
  · refine ⟨_, by rw [write_of b hcx hn hj, if_pos h3], by simp⟩
  · have hx := (g3 _ (List.getElem_mem hn)).2 _ (List.getElem_mem hj)
    have hn' : n < (r.spaces.set n ((r.spaces[n]).set j (r.cells.length : Int))).length := by simpa using hn
    have e1 : (r.spaces.set n ((r.spaces[n]).set j (r.cells.length : Int)))[n] = (r.spaces[n]).set j (r.cells.length : Int) := by simp
    have hj' : j < ((r.spaces.set n ((r.spaces[n]).set j (r.cells.length : Int)))[n]).length := by rw [e1]; simpa using hj
    have e2 : ((r.spaces.set n ((r.spaces[n]).set j (r.cells.length : Int)))[n])[j] = (r.cells.length : Int) := by simp
    have h4 := flat_set2 (x := (r.cells.length : Int)) (y := (r.cells.length : Int)) hn hj
    have h0 : r.spaces.flatten.count (r.cells.length : Int) = 0 := by
      refine List.count_eq_zero.2 fun hm => ?_
      obtain ⟨l, hl, hm⟩ := mem_flat.2 hm
      have := (g3 l hl).2 _ hm
      omega
    rw [if_pos rfl, if_neg (by omega), h0] at h4
    have h5 : manyI (r.spaces.set n ((r.spaces[n]).set j (r.cells.length : Int))) (r.cells.length : Int) = 1 := by unfold manyI; omega
    refine ⟨_, by rw [write_of b hcx hn' hj']; simp only [e2]; rw [if_pos h5], by simp⟩
/-- Fork -/
theorem fork_ok {r x : Room} {s : Int} (h : cowFork r s = .ok x) : cowCheck r = 0 ∧ ∃ (n : Nat) (hn : n < r.spaces.length), s = n ∧ x = ⟨r.cells, r.spaces ++ [r.spaces[n]]⟩ ∧ cowCheck x = 0 ∧ seesL x = seesL r ++ [seeB r r.spaces[n]] := by
  unfold cowFork at h
  split at h
  case isFalse => cases h
  rename_i h0
  obtain ⟨hck, n, rfl, hn⟩ := sp_ok h0
  have hg : r.spaces[((n : Nat) : Int).toNat]?.getD [] = r.spaces[n] := by simp [hn]
  rw [hg] at h
  split at h
  case isTrue => cases h
  rename_i h8
  simp only [Except.ok.injEq] at h
  obtain ⟨⟨g1, g2⟩, g3, g4⟩ := cow_ok hck
  refine ⟨hck, n, hn, rfl, h.symm, ?_, ?_⟩
  · rw [← h]
    refine cow_of g1 (by simp; omega) ?_ fun c hc => ?_
    · intro l hl
      simp only [List.mem_append, List.mem_singleton] at hl
      rcases hl with hl | rfl
      · exact g3 l hl
      · exact g3 _ (List.getElem_mem hn)
    · obtain ⟨l, h1, h2⟩ := g4 c hc
      exact ⟨l, by simp [h1], h2⟩
  · rw [← h]
    simp [seesL, seeB]
theorem fork_err {r : Room} {s e : Int} (h : cowFork r s = .error e) : e ≠ 0 := by
  unfold cowFork at h
  split at h
  · split at h
    · cases h; decide
    · cases h
  · rename_i h0; cases h; exact h0
theorem kp_all {L : List (List Int)} {n : Nat} (h : ∀ c, c < n → 0 < manyI L (c : Int)) : kp L n = List.range n :=
  List.filter_eq_self.2 fun c hc => by simpa using h c (by simpa using hc)
theorem drop_of {r : Room} {n : Nat} (h : cowCheck r = 0) (hn : n < r.spaces.length) : cowDrop r (n : Int) = .ok (dropRoom r n, (r.cells.length : Int) - (kpCells (r.spaces.eraseIdx n) r.cells r.cells.length).length) := by
  unfold cowDrop
  rw [if_pos (sp_of h hn), Int.toNat_natCast]
theorem many_pos {L : List (List Int)} {c : Int} : 0 < manyI L c ↔ ∃ l ∈ L, c ∈ l := by
  rw [mem_flat, ← List.count_pos_iff]
  unfold manyI
  omega
/-- the fork dropped again -/
theorem turns_ok {r x : Room} {s : Int} (h : cowFork r s = .ok x) : cowDrop x ((x.spaces.length : Int) - 1) = .ok (r, 0) := by
  obtain ⟨hck, n, hn, rfl, rfl, hcx, hs⟩ := fork_ok h
  obtain ⟨⟨g1, g2⟩, g3, g4⟩ := cow_ok hck
  have e0 : (((r.spaces ++ [r.spaces[n]]).length : Nat) : Int) - 1 = (r.spaces.length : Int) := by simp
  simp only [e0]
  rw [drop_of hcx (by simp)]
  have e1 : (r.spaces ++ [r.spaces[n]]).eraseIdx r.spaces.length = r.spaces := by
    rw [List.eraseIdx_append_of_length_le (Nat.le_refl _)]; simp
  have hk : ∀ m, m ≤ r.cells.length → kp r.spaces m = List.range m := fun m hm => kp_all fun c hc => many_pos.2 (g4 c (by omega))
  have e2 : kpCells r.spaces r.cells r.cells.length = r.cells := by
    unfold kpCells
    rw [hk _ (Nat.le_refl _)]
    apply List.ext_getElem?
    intro i
    by_cases hi : i < r.cells.length
    · simp [hi]
    · rw [List.getElem?_eq_none (by simp; omega), List.getElem?_eq_none (by omega)]
  have e3 : r.spaces.map (List.map fun x => kpTo r.spaces x.toNat) = r.spaces := by
    refine (List.map_congr_left (g := id) fun l hl => ?_).trans (List.map_id _)
    refine (List.map_congr_left (g := id) fun x hx => ?_).trans (List.map_id _)
    have := (g3 l hl).2 x hx
    simp only [kpTo, id]
    rw [hk _ (by omega)]
    simp; omega
  simp only [dropRoom, e1, e2, e3]
  simp
end Go.Proofs.Ytebpjfdbjhodiaa
