/- Paging: faults of policies. BELADY, MATTSON, SLEATOR and TARJAN, in plain words. -/
namespace Go.Proofs.Ytigpgieapamffaa
def nextC (room : Nat) (who : List Int → Nat → Nat) (C : List Int) (t : Nat) (p : Int) : List Int := (if C.length = room then C.eraseIdx (who C t) else C) ++ [p]
def pages (room : Nat) (who : List Int → Nat → Nat) : List Int → Nat → List Int → Nat
  | [], _, _ => 0
  | p :: l, t, C => if p ∈ C then pages room who l (t + 1) C else 1 + pages room who l (t + 1) (nextC room who C t p)
/-- who goes is one whose key is greatest -/
def Arg (key : Nat → Int → Nat) (who : List Int → Nat → Nat) : Prop := ∀ C t, C ≠ [] → ∃ h : who C t < C.length, ∀ q ∈ C, key t q ≤ key t (C[who C t])
def Fits (who : List Int → Nat → Nat) : Prop := ∀ C t, C ≠ [] → who C t < C.length
theorem Arg.fits {key : Nat → Int → Nat} {who : List Int → Nat → Nat} (h : Arg key who) : Fits who := fun C t hC => (h C t hC).1
theorem pages_le {room : Nat} {who : List Int → Nat → Nat} : ∀ (l : List Int) (t : Nat) (C : List Int), pages room who l t C ≤ l.length
  | [], _, _ => by simp [pages]
  | p :: l, t, C => by
    simp only [pages, List.length_cons]
    split
    · have := pages_le (room := room) (who := who) l (t + 1) C; omega
    · have := pages_le (room := room) (who := who) l (t + 1) (nextC room who C t p); omega
theorem nextC_ok {room : Nat} {who : List Int → Nat → Nat} (h1 : 1 ≤ room) (hw : Fits who) {C : List Int} {t : Nat} {p : Int} (hn : C.Nodup) (hl : C.length ≤ room) (hp : p ∉ C) :
    (nextC room who C t p).Nodup ∧ (nextC room who C t p).length ≤ room := by
  unfold nextC
  split
  · rename_i h
    have hne : C ≠ [] := by intro e; rw [e] at h; simp at h; omega
    have hk := hw C t hne
    refine ⟨?_, ?_⟩
    · rw [List.nodup_append]
      refine ⟨hn.sublist (List.eraseIdx_sublist ..), by simp, ?_⟩
      intro a ha b hb
      simp at hb; subst hb
      intro e; subst e
      exact hp (List.mem_of_mem_eraseIdx ha)
    · rw [List.length_append, List.length_eraseIdx, if_pos hk]; simp; omega
  · refine ⟨?_, by simp; omega⟩
    rw [List.nodup_append]
    refine ⟨hn, by simp, ?_⟩
    intro a ha b hb
    simp at hb; subst hb
    intro e; subst e
    exact hp ha
theorem mem_nextC {room : Nat} {who : List Int → Nat → Nat} {C : List Int} {t : Nat} {p q : Int} (h : q ∈ nextC room who C t p) : q ∈ C ∨ q = p := by
  unfold nextC at h
  rw [List.mem_append] at h
  rcases h with h | h
  · left
    split at h
    · exact List.mem_of_mem_eraseIdx h
    · exact h
  · right; simpa using h
theorem self_nextC {room : Nat} {who : List Int → Nat → Nat} {C : List Int} {t : Nat} {p : Int} : p ∈ nextC room who C t p := by unfold nextC; simp
/-- how many are asked for again so soon -/
def N (l C : List Int) (k : Nat) : Nat := C.countP fun q => decide (l.idxOf q ≤ k)
def I (r : List Int) (p : Int) (k : Nat) : Nat := if r.idxOf p ≤ k then 1 else 0
theorem N_le (l C : List Int) (k : Nat) : N l C k ≤ C.length := List.countP_le_length
theorem N_not {p : Int} {r C : List Int} {k : Nat} (hp : p ∉ C) : N (p :: r) C (k + 1) = N r C k := by
  unfold N
  refine List.countP_congr fun q hq => ?_
  have hne : (p == q) = false := by simp; intro e; exact hp (e ▸ hq)
  simp [List.idxOf_cons, hne]
theorem N_perm {l C D : List Int} {k : Nat} (h : C.Perm D) : N l C k = N l D k := h.countP_eq _
theorem N_cons {l C : List Int} {p : Int} {k : Nat} : N l (p :: C) k = N l C k + I l p k := by
  unfold N I
  rw [List.countP_cons]
  simp
theorem N_app {l C : List Int} {p : Int} {k : Nat} : N l (C ++ [p]) k = N l C k + I l p k := by
  rw [N_perm (List.perm_append_comm (l₁ := C) (l₂ := [p]))]
  exact N_cons
theorem N_mem {p : Int} {r C : List Int} {k : Nat} (hn : C.Nodup) (hp : p ∈ C) : N r C k + 1 = N (p :: r) C (k + 1) + I r p k := by
  have h1 : C.Perm (p :: C.erase p) := List.perm_cons_erase hp
  have h2 : p ∉ C.erase p := fun h => by
    have := hn.perm h1 
    simp only [List.nodup_cons] at this
    exact this.1 h
  rw [N_perm h1, N_perm h1, N_cons, N_cons, N_not h2]
  have : I (p :: r) p (k + 1) = 1 := by simp [I]
  omega
theorem N_zero {p : Int} {r C : List Int} (hp : p ∈ C) : 1 ≤ N (p :: r) C 0 := by
  unfold N
  exact List.countP_pos_iff.2 ⟨p, hp, by simp⟩
theorem N_zero' {p : Int} {r C : List Int} (hp : p ∉ C) : N (p :: r) C 0 = 0 := by
  unfold N
  rw [List.countP_eq_zero]
  intro q hq
  have hne : (p == q) = false := by simp; intro e; exact hp (e ▸ hq)
  simp [List.idxOf_cons, hne]
theorem N_erase {l C : List Int} {i k : Nat} (hi : i < C.length) : N l (C.eraseIdx i) k + I l C[i] k = N l C k := by
  have h : C.Perm (C[i] :: C.eraseIdx i) := by
    have e : C = C.take i ++ C[i] :: C.drop (i + 1) := by rw [← List.drop_eq_getElem_cons hi, List.take_append_drop]
    have e2 : C.eraseIdx i = C.take i ++ C.drop (i + 1) := List.eraseIdx_eq_take_drop_succ C i
    rw [e2]
    exact (List.Perm.of_eq e).trans List.perm_middle
  rw [N_perm h, N_cons]
theorem N_all {l C : List Int} {k : Nat} (h : ∀ q ∈ C, l.idxOf q ≤ k) : N l C k = C.length := by
  unfold N
  rw [List.countP_eq_length]
  simpa using h
theorem N_lt {l C : List Int} {p : Int} {k : Nat} (hp : p ∈ C) (h : I l p k = 0) : N l C k + 1 ≤ C.length := by
  have h1 : C.Perm (p :: C.erase p) := List.perm_cons_erase hp
  rw [N_perm h1, N_cons, h, h1.length_eq]
  have := N_le l (C.erase p) k
  simp; omega
theorem N_next_le {room : Nat} {who : List Int → Nat → Nat} {r C : List Int} {t k : Nat} {p : Int} (hw : Fits who) (h1 : 1 ≤ room) : N r (nextC room who C t p) k ≤ N r C k + I r p k := by
  unfold nextC
  rw [N_app]
  split
  · rename_i h
    have hne : C ≠ [] := by intro e; rw [e] at h; simp at h; omega
    have := N_erase (l := r) (k := k) (hw C t hne)
    omega
  · omega
/-- BELADY: who lets go the page that is asked for last has the fewest faults, with as much room or more -/
theorem belady {room less : Nat} (h1 : 1 ≤ less) (hr : less ≤ room) {l0 : List Int} {best who : List Int → Nat → Nat} (hb : Arg (fun t q => (l0.drop (t + 1)).idxOf q) best) (hw : Fits who) :
    ∀ (l : List Int) (t : Nat) (B S : List Int) (d : Nat), l = l0.drop t → B.Nodup → S.Nodup → B.length ≤ room → S.length ≤ less → (∀ k, N l S k ≤ N l B k + d) → pages room best l t B ≤ pages less who l t S + d
  | [], _, _, _, _, _, _, _, _, _, _ => by simp [pages]
  | p :: r, t, B, S, d, hl, nB, nS, lB, lS, h => by
    have hr' : r = l0.drop (t + 1) := by rw [← List.drop_drop, ← hl]; rfl
    simp only [pages]
    have key : p ∉ B → ∀ k, N r (nextC room best B t p) k = N r B k + I r p k ∨ (N r (nextC room best B t p) k + 1 = room + I r p k) := by
      intro hpB k
      unfold nextC
      rw [N_app]
      split
      · rename_i hf
        have hne : B ≠ [] := by intro e; rw [e] at hf; simp at hf; omega
        obtain ⟨hk, hm⟩ := hb B t hne
        have he := N_erase (l := r) (k := k) hk
        by_cases hi : r.idxOf B[best B t] ≤ k
        · right
          rw [N_all (l := r) (C := B) (k := k) (fun q hq => Nat.le_trans (by rw [hr']; exact hm q hq) hi)] at he
          have : I r B[best B t] k = 1 := by simp [I, hi]
          omega
        · left
          have : I r B[best B t] k = 0 := by simp [I, hi]
          omega
      · left; rfl
    by_cases hS : p ∈ S
    · by_cases hB : p ∈ B
      · rw [if_pos hS, if_pos hB]
        refine belady h1 hr hb hw r (t + 1) B S d hr' nB nS lB lS fun k => ?_
        have a := N_mem (r := r) (k := k) nS hS
        have b := N_mem (r := r) (k := k) nB hB
        have := h (k + 1)
        omega
      · rw [if_pos hS, if_neg hB]
        have h0 := h 0
        have := N_zero (r := r) hS
        have := N_zero' (r := r) hB
        obtain ⟨n1, n2⟩ := nextC_ok (t := t) (by omega) hb.fits nB lB hB
        have := belady h1 hr hb hw r (t + 1) (nextC room best B t p) S (d - 1) hr' n1 nS n2 lS fun k => by
          have a := N_mem (r := r) (k := k) nS hS
          have b := N_not (r := r) (k := k) hB
          have h2 := h (k + 1)
          have c := N_le r S k
          rcases key hB k with e | e
          · omega
          · by_cases hI : I r p k = 0
            · have := N_lt hS hI
              omega
            · have : I r p k = 1 := by unfold I at hI ⊢; split <;> simp_all
              omega
        omega
    · obtain ⟨m1, m2⟩ := nextC_ok (t := t) h1 hw nS lS hS
      by_cases hB : p ∈ B
      · rw [if_neg hS, if_pos hB]
        have := belady h1 hr hb hw r (t + 1) B (nextC less who S t p) (d + 1) hr' nB m1 lB m2 fun k => by
          have a := N_next_le (r := r) (C := S) (t := t) (k := k) (p := p) hw h1
          have b := N_mem (r := r) (k := k) nB hB
          have c := N_not (r := r) (k := k) hS
          have := h (k + 1)
          omega
        omega
      · rw [if_neg hS, if_neg hB]
        obtain ⟨n1, n2⟩ := nextC_ok (t := t) (by omega) hb.fits nB lB hB
        have := belady h1 hr hb hw r (t + 1) (nextC room best B t p) (nextC less who S t p) d hr' n1 m1 n2 m2 fun k => by
          have a := N_next_le (r := r) (C := S) (t := t) (k := k) (p := p) hw h1
          have b := N_not (r := r) (k := k) hB
          have c := N_not (r := r) (k := k) hS
          have h2 := h (k + 1)
          have c := N_le r (nextC less who S t p) k
          rcases key hB k with e | e
          · omega
          · by_cases hI : I r p k = 0
            · have := N_lt (l := r) (self_nextC (room := less) (who := who) (C := S) (t := t)) hI
              omega
            · have : I r p k = 1 := by unfold I at hI ⊢; split <;> simp_all
              omega
        omega
theorem take_rev {l0 r : List Int} {t : Nat} {p : Int} (h : p :: r = l0.drop t) : (l0.take (t + 1)).reverse = p :: (l0.take t).reverse := by
  have ht : t < l0.length := by
    apply Nat.lt_of_not_le
    intro hh
    rw [List.drop_eq_nil_of_le hh] at h
    cases h
  rw [List.drop_eq_getElem_cons ht] at h
  have := (List.cons.inj h).1
  rw [List.take_succ_eq_append_getElem ht, List.reverse_append, this]
  rfl
/-- SLEATOR, TARJAN -/
theorem twice {room : Nat} (h1 : 1 ≤ room) {l0 : List Int} {lru who : List Int → Nat → Nat} (hb : Arg (fun t q => (l0.take t).reverse.idxOf q) lru) (hw : Fits who) :
    ∀ (l : List Int) (t : Nat) (L S M : List Int) (e : Nat), l = l0.drop t → L.Nodup → S.Nodup → M.Nodup → L.length ≤ room → S.length ≤ room → M.length ≤ room → (∀ q ∈ M, q ∈ L) → (e = 0 → ∀ q ∈ M, q ∈ S) →
      (∀ q ∈ M, ∀ x ∈ L, x ∉ M → (l0.take t).reverse.idxOf q < (l0.take t).reverse.idxOf x) → pages room lru l t L ≤ room * (pages room who l t S + e) + (room - M.length)
  | [], _, _, _, _, _, _, _, _, _, _, _, _, _, _, _ => by simp [pages]
  | p :: r, t, L, S, M, e, hl, nL, nS, nM, lL, lS, lM, hML, hMS, hord => by
    have hr' : r = l0.drop (t + 1) := by rw [← List.drop_drop, ← hl]; rfl
    have hrev := take_rev hl
    -- what the other one does
    obtain ⟨S', hS'⟩ : ∃ S', S' = if p ∈ S then S else nextC room who S t p := ⟨_, rfl⟩
    obtain ⟨f, hf⟩ : ∃ f, f = if p ∈ S then 0 else 1 := ⟨_, rfl⟩
    have eS : pages room who (p :: r) t S = f + pages room who r (t + 1) S' := by
      simp only [pages]; rw [hf, hS']; split <;> simp
    have nS' : S'.Nodup ∧ S'.length ≤ room := by
      rw [hS']
      split
      · exact ⟨nS, lS⟩
      · rename_i h; exact nextC_ok h1 hw nS lS h
    have pS' : p ∈ S' := by
      rw [hS']
      split
      · assumption
      · exact self_nextC
    -- what Lru does
    obtain ⟨L', hL'⟩ : ∃ L', L' = if p ∈ L then L else nextC room lru L t p := ⟨_, rfl⟩
    obtain ⟨g, hg⟩ : ∃ g, g = if p ∈ L then 0 else 1 := ⟨_, rfl⟩
    have eL : pages room lru (p :: r) t L = g + pages room lru r (t + 1) L' := by
      simp only [pages]; rw [hg, hL']; split <;> simp
    have g1 : g ≤ 1 := by rw [hg]; split <;> omega
    have nL' : L'.Nodup ∧ L'.length ≤ room := by
      rw [hL']
      split
      · exact ⟨nL, lL⟩
      · rename_i h; exact nextC_ok h1 hb.fits nL lL h
    have pL' : p ∈ L' := by
      rw [hL']
      split
      · assumption
      · exact self_nextC
    have subL : ∀ x ∈ L', x ∈ L ∨ x = p := by
      intro x hx
      rw [hL'] at hx
      split at hx
      · exact .inl hx
      · exact mem_nextC hx
    rw [eS, eL]
    by_cases hM : p ∈ M
    · -- asked for in this phase already
      have hpL := hML p hM
      have hL0 : L' = L := by rw [hL', if_pos hpL]
      have hg0 : g = 0 := by rw [hg, if_pos hpL]
      have hord' : ∀ q ∈ M, ∀ x ∈ L', x ∉ M → (l0.take (t + 1)).reverse.idxOf q < (l0.take (t + 1)).reverse.idxOf x := by
        intro q hq x hx hxM
        rw [hL0] at hx
        have := hord q hq x hx hxM
        rw [hrev, List.idxOf_cons, List.idxOf_cons]
        have hpx : (p == x) = false := by simp; intro e; exact hxM (e ▸ hM)
        rw [hpx]
        by_cases hpq : p = q
        · simp [hpq]
        · have : (p == q) = false := by simp [hpq]
          rw [this]; simp; omega
      have := twice h1 hb hw r (t + 1) L' S' M (f + e) hr' nL'.1 nS'.1 nM nL'.2 nS'.2 lM (fun q hq => by rw [hL0]; exact hML q hq) (fun h0 q hq => by
        have hf0 : p ∈ S := by
          apply Classical.byContradiction; intro hn; rw [if_neg hn] at hf; omega
        rw [hS', if_pos hf0]; exact hMS (by omega) q hq) hord'
      have e1 : pages room who r (t + 1) S' + (f + e) = f + pages room who r (t + 1) S' + e := by omega
      rw [e1] at this
      omega
    · by_cases hfull : M.length = room
      · -- a new phase
        have hord' : ∀ q ∈ [p], ∀ x ∈ L', x ∉ [p] → (l0.take (t + 1)).reverse.idxOf q < (l0.take (t + 1)).reverse.idxOf x := by
          intro q hq x _ hx
          simp at hq hx
          subst hq
          have hpx : (q == x) = false := by simp; intro e; exact hx e.symm
          rw [hrev, List.idxOf_cons, List.idxOf_cons, hpx]
          simp
        have := twice h1 hb hw r (t + 1) L' S' [p] 0 hr' nL'.1 nS'.1 (by simp) nL'.2 nS'.2 (by simpa using h1) (fun q hq => by simp at hq; subst hq; exact pL') (fun _ q hq => by simp at hq; subst hq; exact pS') hord'
        have hfe : 1 ≤ f + e := by
          by_cases he : e = 0
          · have hsub := hMS he
            have hp : p ∉ S := by
              intro hp
              have hnd : (p :: M).Nodup := by simp [nM, hM]
              have hsub2 : (p :: M) ⊆ S := by
                intro q hq
                rcases List.mem_cons.1 hq with rfl | hq
                · exact hp
                · exact hsub q hq
              have := List.Nodup.length_le_of_subset hnd hsub2
              simp at this
              omega
            rw [hf, if_neg hp]; omega
          · omega
        have h2 : room * (pages room who r (t + 1) S' + 1) ≤ room * (f + pages room who r (t + 1) S' + e) := Nat.mul_le_mul_left _ (by omega)
        rw [Nat.mul_add] at h2
        simp at this
        omega
      · -- one page more of this phase
        have hMl : (p :: M).length ≤ room := by simp; omega
        have hML' : ∀ q ∈ p :: M, q ∈ L' := by
          intro q hq
          rcases List.mem_cons.1 hq with rfl | hq
          · exact pL'
          · have hqL := hML q hq
            rw [hL']
            split
            · exact hqL
            · rename_i hpL
              unfold nextC
              rw [List.mem_append]
              left
              split
              · rename_i hlen
                have hne : L ≠ [] := by intro e; rw [e] at hqL; simp at hqL
                obtain ⟨hk, hmax⟩ := hb L t hne
                -- somebody is not of this phase
                obtain ⟨x, hx, hxM⟩ : ∃ x ∈ L, x ∉ M := by
                  apply Classical.byContradiction
                  intro hno
                  have hsub : L ⊆ M := fun x hx => Classical.byContradiction fun h => hno ⟨x, hx, h⟩
                  have := List.Nodup.length_le_of_subset nL hsub
                  omega
                have h3 : (l0.take t).reverse.idxOf x ≤ (l0.take t).reverse.idxOf L[lru L t] := hmax x hx
                have h4 := hord q hq x hx hxM
                have hqv : q ≠ L[lru L t] := by
                  intro e
                  rw [← e] at h3
                  omega
                rw [List.mem_eraseIdx_iff_getElem]
                obtain ⟨i, hi, rfl⟩ := List.getElem_of_mem hqL
                refine ⟨i, hi, ?_, rfl⟩
                intro e
                subst e
                exact hqv rfl
              · exact hqL
        have hord' : ∀ q ∈ p :: M, ∀ x ∈ L', x ∉ p :: M → (l0.take (t + 1)).reverse.idxOf q < (l0.take (t + 1)).reverse.idxOf x := by
          intro q hq x hx hxM
          simp at hxM
          have hpx : (p == x) = false := by simp; intro e; exact hxM.1 e.symm
          rw [hrev, List.idxOf_cons, List.idxOf_cons, hpx]
          by_cases hpq : p = q
          · simp [hpq]
          · have hpq' : (p == q) = false := by simp [hpq]
            have hqM : q ∈ M := by
              rcases List.mem_cons.1 hq with rfl | hq
              · exact absurd rfl hpq
              · exact hq
            have hxL : x ∈ L := by
              rcases subL x hx with h | h
              · exact h
              · exact absurd h hxM.1
            have := hord q hqM x hxL hxM.2
            rw [hpq']; simp; omega
        have := twice h1 hb hw r (t + 1) L' S' (p :: M) (f + e) hr' nL'.1 nS'.1 (by simp [nM, hM]) nL'.2 nS'.2 hMl hML' (fun h0 q hq => by
          rcases List.mem_cons.1 hq with rfl | hq
          · exact pS'
          · have hf0 : p ∈ S := by
              apply Classical.byContradiction; intro hn; rw [if_neg hn] at hf; omega
            rw [hS', if_pos hf0]; exact hMS (by omega) q hq) hord'
        have e1 : pages room who r (t + 1) S' + (f + e) = f + pages room who r (t + 1) S' + e := by omega
        rw [e1] at this
        simp at this
        omega
/-- MATTSON, for Lru -/
theorem stack {room more : Nat} (h1 : 1 ≤ room) (hr : room ≤ more) {l0 : List Int} {lru : List Int → Nat → Nat} (hb : Arg (fun t q => (l0.take t).reverse.idxOf q) lru) :
    ∀ (l : List Int) (t : Nat) (A B : List Int), l = l0.drop t → A.Nodup → B.Nodup → A.length ≤ room → B.length ≤ more → (∀ q ∈ A, q ∈ B) → (∀ q ∈ B, q ∈ l0.take t) → (A.length < room → ∀ q ∈ B, q ∈ A) →
      pages more lru l t B ≤ pages room lru l t A
  | [], _, _, _, _, _, _, _, _, _, _, _ => by simp [pages]
  | p :: r, t, A, B, hl, nA, nB, lA, lB, hAB, hseen, hfull => by
    have hr' : r = l0.drop (t + 1) := by rw [← List.drop_drop, ← hl]; rfl
    have hrev := take_rev hl
    have hseen' : ∀ q, q ∈ l0.take t ∨ q = p → q ∈ l0.take (t + 1) := by
      intro q hq
      rw [← List.mem_reverse, hrev]
      rcases hq with hq | rfl
      · exact List.mem_cons_of_mem _ (List.mem_reverse.2 hq)
      · exact List.mem_cons_self
    simp only [pages]
    by_cases hA : p ∈ A
    · rw [if_pos hA, if_pos (hAB p hA)]
      exact stack h1 hr hb r (t + 1) A B hr' nA nB lA lB hAB (fun q hq => hseen' q (.inl (hseen q hq))) hfull
    · rw [if_neg hA]
      obtain ⟨n1, n2⟩ := nextC_ok (t := t) h1 hb.fits nA lA hA
      by_cases hB : p ∈ B
      · rw [if_pos hB]
        have hAf : A.length = room := by
          apply Classical.byContradiction; intro hn
          exact hA (hfull (by omega) p hB)
        have hlen : (nextC room lru A t p).length = room := by
          have hne : A ≠ [] := by intro e; rw [e] at hAf; simp at hAf; omega
          have := hb.fits A t hne
          unfold nextC
          rw [if_pos hAf, List.length_append, List.length_eraseIdx, if_pos this]; simp; omega
        have := stack h1 hr hb r (t + 1) (nextC room lru A t p) B hr' n1 nB n2 lB (fun q hq => by
          rcases mem_nextC hq with h | rfl
          · exact hAB q h
          · exact hB) (fun q hq => hseen' q (.inl (hseen q hq))) (fun h => by omega)
        omega
      · rw [if_neg hB]
        obtain ⟨m1, m2⟩ := nextC_ok (t := t) (by omega) hb.fits nB lB hB
        have := stack h1 hr hb r (t + 1) (nextC room lru A t p) (nextC more lru B t p) hr' n1 m1 n2 m2 (fun q hq => by
          rcases mem_nextC hq with h | rfl
          · have hqB := hAB q h
            unfold nextC
            rw [List.mem_append]
            left
            split
            · rename_i hlen
              have hne : B ≠ [] := by intro e; rw [e] at hqB; simp at hqB
              obtain ⟨hk, hmax⟩ := hb B t hne
              rw [List.mem_eraseIdx_iff_getElem]
              obtain ⟨i, hi, rfl⟩ := List.getElem_of_mem hqB
              refine ⟨i, hi, ?_, rfl⟩
              intro e
              subst e
              -- the greatest of B is in A, and goes there too
              have hAf : A.length = room := by
                apply Classical.byContradiction; intro hn
                have hsub : B ⊆ A := fun x hx => hfull (by omega) x hx
                have := List.Nodup.length_le_of_subset nB hsub
                omega
              have hneA : A ≠ [] := by intro e; rw [e] at h; simp at h
              obtain ⟨hkA, hmaxA⟩ := hb A t hneA
              have e1 : (l0.take t).reverse.idxOf B[lru B t] ≤ (l0.take t).reverse.idxOf A[lru A t] := hmaxA _ h
              have e2 : (l0.take t).reverse.idxOf A[lru A t] ≤ (l0.take t).reverse.idxOf B[lru B t] := hmax _ (hAB _ (List.getElem_mem hkA))
              have e3 : (l0.take t).reverse.idxOf A[lru A t] = (l0.take t).reverse.idxOf B[lru B t] := by omega
              have s1 : A[lru A t] ∈ (l0.take t).reverse := List.mem_reverse.2 (hseen _ (hAB _ (List.getElem_mem hkA)))
              have s2 : B[lru B t] ∈ (l0.take t).reverse := List.mem_reverse.2 (hseen _ hqB)
              have e4 : A[lru A t] = B[lru B t] := by
                have q1 := List.getElem_idxOf (List.idxOf_lt_length_of_mem s1)
                have q2 := List.getElem_idxOf (List.idxOf_lt_length_of_mem s2)
                rw [← q1, ← q2]
                simp only [e3]
              rw [← e4] at hq
              unfold nextC at hq
              rw [if_pos hAf, List.mem_append] at hq
              rcases hq with hq | hq
              · rw [List.mem_eraseIdx_iff_getElem] at hq
                obtain ⟨j, hj, hne, he⟩ := hq
                exact hne ((List.getElem_inj nA).1 he)
              · simp at hq
                exact hA (hq ▸ List.getElem_mem hkA)
            · exact hqB
          · exact self_nextC) (fun q hq => hseen' q (by
              rcases mem_nextC hq with h | h
              · exact .inl (hseen q h)
              · exact .inr h)) (fun hlt q hq => by
              have hAn : A.length ≠ room := by
                intro hAf
                have hne : A ≠ [] := by intro e; rw [e] at hAf; simp at hAf; omega
                have := hb.fits A t hne
                unfold nextC at hlt
                rw [if_pos hAf, List.length_append, List.length_eraseIdx, if_pos this] at hlt
                simp at hlt; omega
              rcases mem_nextC hq with h | rfl
              · unfold nextC
                rw [if_neg hAn, List.mem_append]
                exact .inl (hfull (by omega) q h)
              · exact self_nextC)
        omega
/-- the pages, each once -/
def each : List Int → List Int → List Int
  | E, [] => E
  | E, p :: l => each (if p ∈ E then E else E ++ [p]) l
theorem each_len : ∀ (l E : List Int), E.length ≤ (each E l).length
  | [], E => by simp [each]
  | p :: l, E => by
    simp only [each]
    split
    · exact each_len l E
    · have := each_len l (E ++ [p]); simp at this; omega
theorem each_le {room : Nat} {who : List Int → Nat → Nat} : ∀ (l : List Int) (t : Nat) (C E : List Int), (∀ q ∈ C, q ∈ E) → (each E l).length ≤ E.length + pages room who l t C
  | [], _, _, _, _ => by simp [each, pages]
  | p :: l, t, C, E, h => by
    simp only [each, pages]
    by_cases hE : p ∈ E
    · rw [if_pos hE]
      split
      · exact each_le l (t + 1) C E h
      · have := each_le (room := room) (who := who) l (t + 1) (nextC room who C t p) E (fun q hq => by
          rcases mem_nextC hq with h2 | rfl
          · exact h q h2
          · exact hE)
        omega
    · have hC : p ∉ C := fun hc => hE (h p hc)
      rw [if_neg hE, if_neg hC]
      have := each_le (room := room) (who := who) l (t + 1) (nextC room who C t p) (E ++ [p]) (fun q hq => by
          rcases mem_nextC hq with h2 | rfl
          · exact List.mem_append_left _ (h q h2)
          · simp)
      simp at this
      omega
theorem each_eq {room : Nat} {who : List Int → Nat → Nat} : ∀ (l : List Int) (t : Nat) (C : List Int), (each C l).length ≤ room → (each C l).length = C.length + pages room who l t C
  | [], _, _, _ => by simp [each, pages]
  | p :: l, t, C, h => by
    simp only [each, pages] at h ⊢
    by_cases hC : p ∈ C
    · rw [if_pos hC] at h ⊢
      rw [if_pos hC]
      exact each_eq l (t + 1) C h
    · rw [if_neg hC] at h ⊢
      rw [if_neg hC]
      have h2 := each_len l (C ++ [p])
      simp at h2
      have : nextC room who C t p = C ++ [p] := by unfold nextC; rw [if_neg (by omega)]
      rw [this]
      have := each_eq (who := who) l (t + 1) (C ++ [p]) h
      simp at this
      omega
/-- the place of the first one that is farthest -/
def mostK (f : Int → Int) (C : List Int) : Nat → Nat
  | 0 => 0
  | k + 1 => if f (C[k]?.getD 0) > f (C[mostK f C k]?.getD 0) then k else mostK f C k
theorem mostK_lt {f : Int → Int} {C : List Int} : ∀ {k : Nat}, k ≤ C.length → C ≠ [] → mostK f C k < C.length
  | 0, _, h => by simp only [mostK]; exact List.length_pos_iff.2 h
  | k + 1, hk, h => by
    simp only [mostK]
    split
    · omega
    · exact mostK_lt (by omega) h
theorem mostK_max {f : Int → Int} {C : List Int} : ∀ {k : Nat}, k ≤ C.length → ∀ j, j < k → f (C[j]?.getD 0) ≤ f (C[mostK f C k]?.getD 0)
  | 0, _, j, hj => by omega
  | k + 1, hk, j, hj => by
    simp only [mostK]
    by_cases hjk : j = k
    · subst hjk; split <;> omega
    · have := mostK_max (f := f) (C := C) (k := k) (by omega) j (by omega)
      split <;> omega
theorem most_arg {key : Nat → Int → Nat} {f : Nat → Int → Int} (h : ∀ t q, f t q = (key t q : Int)) : Arg key (fun C t => mostK (f t) C C.length) := by
  intro C t hC
  have h1 := mostK_lt (f := f t) (Nat.le_refl C.length) hC
  refine ⟨h1, fun q hq => ?_⟩
  obtain ⟨j, hj, rfl⟩ := List.getElem_of_mem hq
  have := mostK_max (f := f t) (C := C) (Nat.le_refl _) j hj
  rw [List.getElem?_eq_getElem hj, List.getElem?_eq_getElem h1, h, h] at this
  simpa using this
end Go.Proofs.Ytigpgieapamffaa
