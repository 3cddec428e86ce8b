/- Rooms, plainly: what the spaces see. -/
import Derived.Test.YtebpjfdbjhodiaaCoP
namespace Go.Proofs.Ytebpjfdbjhodiaa
open Go.AI
set_option linter.unusedVariables false
theorem seeB_app {r : Room} {sp : List (List Int)} {b : Int} {l : List Int} (h : ∀ x ∈ l, 0 ≤ x ∧ x < r.cells.length) : seeB ⟨r.cells ++ [b], sp⟩ l = seeB r l := by
  unfold seeB
  refine List.map_congr_left fun x hx => ?_
  have := h x hx
  simp only
  rw [List.getElem?_append_left (by omega)]
theorem sees_get {r : Room} {n : Nat} (hn : n < r.spaces.length) : (seesL r)[n]? = some (seeB r r.spaces[n]) := by simp [seesL, hn]
theorem sees_len (r : Room) : (seesL r).length = r.spaces.length := by simp [seesL]
theorem seeB_len (r : Room) (l : List Int) : (seeB r l).length = l.length := by simp [seeB]
theorem write_sees {r x : Room} {s k b : Int} {c : Bool} (h : cowWrite r s k b = .ok (x, c)) :
    ∃ (n j : Nat) (hn : n < r.spaces.length) (hj : j < (r.spaces[n]).length), s = n ∧ k = j ∧ cowCheck r = 0 ∧ cowCheck x = 0 ∧ seesL x = (seesL r).set n ((seeB r r.spaces[n]).set j b) ∧ x.spaces.length = r.spaces.length ∧
      ((c = false ∧ x.cells.length = r.cells.length) ∨ (c = true ∧ x.cells.length = r.cells.length + 1)) := by
  have hcx := write_check h
  obtain ⟨hck, n, j, hn, hj, rfl, rfl, h2⟩ := write_ok h
  obtain ⟨⟨g1, g2⟩, g3, g4⟩ := cow_ok hck
  have hx := (g3 _ (List.getElem_mem hn)).2 _ (List.getElem_mem hj)
  refine ⟨n, j, hn, hj, rfl, rfl, hck, hcx, ?_, ?_⟩
  · rcases h2 with ⟨h3, rfl, rfl⟩ | ⟨h3, rfl, rfl⟩
    · have h31 : r.spaces.flatten.count (r.spaces[n])[j] = 1 := by unfold manyI at h3; omega
      apply List.ext_getElem?
      intro n'
      by_cases hn' : n' < r.spaces.length
      · rw [sees_get (r := ⟨r.cells.set ((r.spaces[n])[j]).toNat b, r.spaces⟩) hn']
        have key : ∀ (j' : Nat) (hj' : j' < (r.spaces[n']).length), (seeB ⟨r.cells.set ((r.spaces[n])[j]).toNat b, r.spaces⟩ r.spaces[n'])[j']? = some (if n' = n ∧ j' = j then b else (r.cells[((r.spaces[n'])[j']).toNat]?.getD 0)) := fun j' hj' => by
          have hx' := (g3 _ (List.getElem_mem hn')).2 _ (List.getElem_mem hj')
          simp only [seeB, List.getElem?_map, List.getElem?_eq_getElem hj', Option.map_some, Option.some.injEq]
          by_cases e : n' = n ∧ j' = j
          · obtain ⟨rfl, rfl⟩ := e
            rw [if_pos ⟨rfl, rfl⟩, List.getElem?_set_self (by omega)]; rfl
          · rw [if_neg e, List.getElem?_set_ne]
            intro q
            exact e (only_one hn hj hn' hj' h31 (by omega) (by omega))
        by_cases e : n' = n
        · subst e
          rw [List.getElem?_set_self (by rw [sees_len]; exact hn)]
          congr 1
          apply List.ext_getElem?
          intro j'
          by_cases hj' : j' < (r.spaces[n']).length
          · rw [key j' hj']
            by_cases e2 : j' = j
            · subst e2
              rw [if_pos ⟨rfl, rfl⟩, List.getElem?_set_self (by rw [seeB_len]; exact hj)]
            · rw [if_neg (fun q => e2 q.2), List.getElem?_set_ne (fun q => e2 q.symm)]
              simp [seeB, hj']
          · rw [List.getElem?_eq_none (by rw [seeB_len]; simp only; omega), List.getElem?_eq_none (by rw [List.length_set, seeB_len]; omega)]
        · rw [List.getElem?_set_ne (fun q => e q.symm), sees_get hn']
          congr 1
          apply List.ext_getElem?
          intro j'
          by_cases hj' : j' < (r.spaces[n']).length
          · rw [key j' hj', if_neg (fun q => e q.1)]
            simp [seeB, hj']
          · rw [List.getElem?_eq_none (by rw [seeB_len]; simp only; omega), List.getElem?_eq_none (by rw [seeB_len]; omega)]
      · rw [List.getElem?_eq_none (by rw [sees_len]; simp only; omega), List.getElem?_eq_none (by rw [List.length_set, sees_len]; omega)]
    · unfold seesL
      simp only [List.map_set]
      have e1 : r.spaces.map (seeB ⟨r.cells ++ [b], r.spaces.set n ((r.spaces[n]).set j (r.cells.length : Int))⟩) = r.spaces.map (seeB r) :=
        List.map_congr_left fun l hl => seeB_app fun x hx => (g3 l hl).2 x hx
      rw [e1]
      congr 1
      have e2 : seeB ⟨r.cells ++ [b], r.spaces.set n ((r.spaces[n]).set j (r.cells.length : Int))⟩ ((r.spaces[n]).set j (r.cells.length : Int)) = (seeB ⟨r.cells ++ [b], r.spaces.set n ((r.spaces[n]).set j (r.cells.length : Int))⟩ (r.spaces[n])).set j b := by
        simp [seeB, List.map_set]
      rw [e2, seeB_app fun x hx => (g3 _ (List.getElem_mem hn)).2 x hx]
  · rcases h2 with ⟨h3, rfl, rfl⟩ | ⟨h3, rfl, rfl⟩
    · exact ⟨rfl, .inl ⟨rfl, by simp⟩⟩
    · exact ⟨by simp, .inr ⟨rfl, by simp⟩⟩
theorem kp_at {L : List (List Int)} {c : Nat} (hc : 0 < manyI L (c : Int)) : ∀ {N : Nat}, c < N → (kp L N)[(kp L c).length]? = some c := by
  intro N
  induction N with
  | zero => intro h; omega
  | succ N ih =>
    intro h
    rw [kp_succ]
    by_cases e : c = N
    · subst e
      rw [if_pos hc]; simp
    · have h1 := ih (by omega)
      have h2 : (kp L c).length < (kp L N).length := (List.getElem?_eq_some_iff.1 h1).1
      rw [List.getElem?_append_left h2, h1]
theorem kp_has {L : List (List Int)} {i : Nat} : ∀ {N : Nat}, i < (kp L N).length → ∃ c, c < N ∧ 0 < manyI L (c : Int) ∧ (kp L c).length = i := by
  intro N
  induction N with
  | zero => intro h; simp [kp] at h
  | succ N ih =>
    intro h
    rw [kp_succ] at h
    by_cases hN : 0 < manyI L (N : Int)
    · rw [if_pos hN] at h
      simp only [List.length_append, List.length_singleton] at h
      by_cases e : i < (kp L N).length
      · obtain ⟨c, h1, h2, h3⟩ := ih e
        exact ⟨c, by omega, h2, h3⟩
      · exact ⟨N, by omega, hN, by omega⟩
    · rw [if_neg hN] at h
      obtain ⟨c, h1, h2, h3⟩ := ih (by simpa using h)
      exact ⟨c, by omega, h2, h3⟩
theorem drop_ok {r : Room} {n : Nat} (hck : cowCheck r = 0) (hn : n < r.spaces.length) : cowCheck (dropRoom r n) = 0 ∧ seesL (dropRoom r n) = (seesL r).eraseIdx n := by
  obtain ⟨⟨g1, g2⟩, g3, g4⟩ := cow_ok hck
  have hL : ∀ l ∈ r.spaces.eraseIdx n, l ∈ r.spaces := fun l hl => List.mem_of_mem_eraseIdx hl
  have hle := kp_le (r.spaces.eraseIdx n) r.cells.length
  have hcl : (kpCells (r.spaces.eraseIdx n) r.cells r.cells.length).length = (kp (r.spaces.eraseIdx n) r.cells.length).length := kpCells_len _ _ _
  have hat : ∀ l ∈ r.spaces.eraseIdx n, ∀ x ∈ l, (kp (r.spaces.eraseIdx n) r.cells.length)[(kp (r.spaces.eraseIdx n) x.toNat).length]? = some x.toNat := fun l hl x hx => by
    have h1 := (g3 l (hL l hl)).2 x hx
    refine kp_at (many_pos.2 ⟨l, hl, ?_⟩) (by omega)
    rw [show ((x.toNat : Nat) : Int) = x by omega]; exact hx
  refine ⟨cow_of ?_ ?_ ?_ ?_, ?_⟩
  · simp only [dropRoom, hcl]; omega
  · simp only [dropRoom, List.length_map, List.length_eraseIdx, if_pos hn]; omega
  · intro l hl
    simp only [dropRoom, List.mem_map] at hl
    obtain ⟨m, hm, rfl⟩ := hl
    refine ⟨by rw [List.length_map]; exact (g3 m (hL m hm)).1, fun x hx => ?_⟩
    obtain ⟨y, hy, rfl⟩ := List.mem_map.1 hx
    have h2 := (List.getElem?_eq_some_iff.1 (hat m hm y hy)).1
    simp only [dropRoom, hcl, kpTo]
    omega
  · intro c hc
    simp only [dropRoom, hcl] at hc
    obtain ⟨d, h1, h2, h3⟩ := kp_has hc
    obtain ⟨l, hl, hd⟩ := many_pos.1 h2
    refine ⟨l.map fun x => kpTo (r.spaces.eraseIdx n) x.toNat, ?_, ?_⟩
    · simp only [dropRoom, List.mem_map]; exact ⟨l, hl, rfl⟩
    · rw [List.mem_map]
      exact ⟨(d : Int), hd, by simp only [kpTo, Int.toNat_natCast, h3]⟩
  · have e1 : seesL (dropRoom r n) = (r.spaces.eraseIdx n).map (seeB r) := by
      unfold seesL
      simp only [dropRoom, List.map_map]
      refine List.map_congr_left fun l hl => ?_
      simp only [Function.comp, seeB, List.map_map]
      refine List.map_congr_left fun x hx => ?_
      simp only [Function.comp, kpTo, Int.toNat_natCast, kpCells, List.getElem?_map, hat l hl x hx, Option.map_some, Option.getD_some]
    rw [e1]
    unfold seesL
    simp [List.eraseIdx_eq_take_drop_succ]
/-- More -/
theorem more_ok {r x : Room} {s b : Int} (h : cowMore r s b = .ok x) : ∃ (n : Nat) (hn : n < r.spaces.length), s = n ∧ cowCheck r = 0 ∧ cowCheck x = 0 ∧ seesL x = (seesL r).set n (seeB r r.spaces[n] ++ [b]) ∧ x.spaces.length = r.spaces.length := by
  unfold cowMore at h
  split at h
  case isFalse => cases h
  rename_i h0
  obtain ⟨hck, n, rfl, hn⟩ := sp_ok h0
  have hg : r.spaces[((n : Nat) : Int).toNat]?.getD [] = r.spaces[n] := by simp [hn]
  rw [hg] at h
  split at h
  case isTrue => cases h
  rename_i h8
  simp only [Except.ok.injEq, Int.toNat_natCast] at h
  obtain ⟨⟨g1, g2⟩, g3, g4⟩ := cow_ok hck
  have hl8 := (g3 _ (List.getElem_mem hn)).1
  have hnew : ∀ l ∈ r.spaces.set n (r.spaces[n] ++ [(r.cells.length : Int)]), l.length ≤ 8 ∧ ∀ x ∈ l, 0 ≤ x ∧ x < ((r.cells.length + 1 : Nat) : Int) := fun l hl => by
    rcases List.mem_or_eq_of_mem_set hl with h1 | rfl
    · have := g3 l h1
      exact ⟨this.1, fun x hx => by have := this.2 x hx; omega⟩
    · refine ⟨by simp; omega, fun x hx => ?_⟩
      simp only [List.mem_append, List.mem_singleton] at hx
      rcases hx with hx | rfl
      · have := (g3 _ (List.getElem_mem hn)).2 x hx; omega
      · omega
  have hsz := room_sizes hck
  have h1 := flat_len_set (l := r.spaces[n] ++ [(r.cells.length : Int)]) hn
  have h2 := flat_len (L := r.spaces.set n (r.spaces[n] ++ [(r.cells.length : Int)])) fun l hl => (hnew l hl).1
  simp only [List.length_append, List.length_singleton, List.length_set] at h1 h2
  refine ⟨n, hn, rfl, hck, ?_, ?_, ?_⟩
  · rw [← h]
    refine cow_of (by simp; omega) (by simpa using g2) (by simpa using hnew) fun c hc => ?_
    simp only [List.length_append, List.length_singleton] at hc
    by_cases e : c = r.cells.length
    · subst e
      exact ⟨_, List.mem_set hn _, by simp⟩
    · obtain ⟨l, hl, hcl⟩ := g4 c (by omega)
      obtain ⟨i, hi, rfl⟩ := List.getElem_of_mem hl
      by_cases e2 : i = n
      · subst e2
        exact ⟨_, List.mem_set hn _, by simp [hcl]⟩
      · refine ⟨r.spaces[i], ?_, hcl⟩
        have : (r.spaces.set n (r.spaces[n] ++ [(r.cells.length : Int)]))[i]'(by simpa using hi) = r.spaces[i] := List.getElem_set_ne (fun q => e2 q.symm) _
        rw [← this]; exact List.getElem_mem _
  · rw [← h]
    unfold seesL
    simp only [List.map_set]
    have e1 : r.spaces.map (seeB ⟨r.cells ++ [b], r.spaces.set n (r.spaces[n] ++ [(r.cells.length : Int)])⟩) = r.spaces.map (seeB r) :=
      List.map_congr_left fun l hl => seeB_app fun x hx => (g3 l hl).2 x hx
    rw [e1]
    congr 1
    have e2 : seeB ⟨r.cells ++ [b], r.spaces.set n (r.spaces[n] ++ [(r.cells.length : Int)])⟩ (r.spaces[n] ++ [(r.cells.length : Int)]) = seeB ⟨r.cells ++ [b], r.spaces.set n (r.spaces[n] ++ [(r.cells.length : Int)])⟩ (r.spaces[n]) ++ [b] := by
      simp [seeB]
    rw [e2, seeB_app fun x hx => (g3 _ (List.getElem_mem hn)).2 x hx]
  · rw [← h]; simp
end Go.Proofs.Ytebpjfdbjhodiaa
