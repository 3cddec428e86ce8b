/- The clock's hand, as lists. -/
import Derived.Test.YtigpgieapamffaaReB
namespace Go.Proofs.Ytigpgieapamffaa
open Go.AI
set_option linter.unusedSimpArgs false
def mkI (x : Item) : Item := { x with used := x.used && x.pinned }
def freeI (x : Item) : Bool := !x.pinned && !x.used
def nextF : Nat → List Item → Nat → Nat → Option (List Item × Nat × Int × Nat)
  | 0, _, _, _ => none
  | f + 1, l, k, n => match l[k]? with
    | some x => if freeI x = true then some (l.eraseIdx k, k % max 1 (l.length - 1), x.id, n) else nextF f (l.set k (mkI x)) ((k + 1) % l.length) (n + 1)
    | none => none
/-- behind so many looks -/
def off (L h i : Nat) : Nat := (i + L - h) % L
def lookd (l : List Item) (h j : Nat) : List Item := l.mapIdx fun i x => if off l.length h i < j then mkI x else x
theorem lookd_len (l : List Item) (h j : Nat) : (lookd l h j).length = l.length := by simp [lookd]
theorem lookd_get {l : List Item} {h j i : Nat} (hi : i < l.length) : (lookd l h j)[i]? = some (if off l.length h i < j then mkI l[i] else l[i]) := by
  simp [lookd, List.getElem?_mapIdx, hi]
theorem off_at {L h j : Nat} (hL : h < L) : off L h ((h + j) % L) = j % L := by
  unfold off
  have h1 : (h + j) % L < L := Nat.mod_lt _ (by omega)
  have h2 : (h + j) % L + L - h = (h + j) % L + (L - h) := by omega
  rw [h2, Nat.mod_add_mod]
  have : h + j + (L - h) = j + L := by omega
  rw [this, Nat.add_mod_right]
theorem off_inj {L h i k : Nat} (hL : h < L) (hi : i < L) (hk : k < L) (e : off L h i = off L h k) : i = k := by
  unfold off at e
  have key : ∀ x, x < L → (x + L - h) % L = if h ≤ x then x - h else x + L - h := by
    intro x hx
    split
    · have : x + L - h = (x - h) + L := by omega
      rw [this, Nat.add_mod_right, Nat.mod_eq_of_lt (by omega)]
    · rw [Nat.mod_eq_of_lt (by omega)]
  rw [key i hi, key k hk] at e
  split at e <;> split at e <;> omega
theorem off_lt {L h i : Nat} (hL : h < L) : off L h i < L := Nat.mod_lt _ (by omega)
theorem at_off {L h i : Nat} (hL : h < L) (hi : i < L) : (h + off L h i) % L = i := by
  apply off_inj hL (Nat.mod_lt _ (by omega)) hi
  rw [off_at hL, Nat.mod_eq_of_lt (off_lt hL)]
theorem mkI_mkI (x : Item) : mkI (mkI x) = mkI x := by simp [mkI]
theorem mkI_free {x : Item} : freeI (mkI x) = !x.pinned := by
  simp [freeI, mkI]
  cases x.pinned <;> simp
theorem lookd_step {l : List Item} {h j : Nat} (hh : h < l.length) (x : Item) (hx : (lookd l h j)[(h + j) % l.length]? = some x) : (lookd l h j).set ((h + j) % l.length) (mkI x) = lookd l h (j + 1) := by
  have hp : (h + j) % l.length < l.length := Nat.mod_lt _ (by omega)
  rw [lookd_get hp] at hx
  simp only [Option.some.injEq] at hx
  apply List.ext_getElem?
  intro i
  by_cases hi : i < l.length
  · by_cases hip : i = (h + j) % l.length
    · subst hip
      rw [List.getElem?_set_self (by rw [lookd_len]; exact hp), lookd_get hp, off_at hh]
      have : j % l.length < j + 1 := by have := Nat.mod_le j l.length; omega
      rw [if_pos this, ← hx]
      split
      · rw [mkI_mkI]
      · rfl
    · rw [List.getElem?_set_ne (fun e => hip e.symm), lookd_get hi, lookd_get hi]
      have hne : off l.length h i ≠ j := by
        intro e
        apply hip
        apply off_inj hh hi hp
        rw [off_at hh, e, Nat.mod_eq_of_lt]
        rw [← e]; exact off_lt hh
      have e1 : off l.length h i < j + 1 ↔ off l.length h i < j := by omega
      simp only [e1]
  · rw [List.getElem?_eq_none (by simp [lookd_len]; omega), List.getElem?_eq_none (by simp [lookd_len]; omega)]
/-- who goes -/
structure Goes (l : List Item) (h j : Nat) : Prop where
  lt : j < 2 * l.length
  pin : ∀ x, l[(h + j) % l.length]? = some x → x.pinned = false ∧ (j < l.length → x.used = false)
  was1 : ∀ t x, t < j → t < l.length → l[(h + t) % l.length]? = some x → freeI x = false
  was2 : ∀ t x, t < j → l.length ≤ t → l[(h + t) % l.length]? = some x → x.pinned = true
theorem nextF_goes {l : List Item} {h : Nat} (hh : h < l.length) (hu : ∃ x ∈ l, x.pinned = false) : ∀ (m j : Nat), m + j = 2 * l.length → (∀ t x, t < j → t < l.length → l[(h + t) % l.length]? = some x → freeI x = false) → (∀ t x, t < j → l.length ≤ t → l[(h + t) % l.length]? = some x → x.pinned = true) →
    ∃ j', Goes l h j' ∧ ∀ x, l[(h + j') % l.length]? = some x → nextF m (lookd l h j) ((h + j) % l.length) (j + 1) = some ((lookd l h j').eraseIdx ((h + j') % l.length), (h + j') % l.length % max 1 (l.length - 1), x.id, j' + 1) := by
  intro m
  induction m with
  | zero =>
    intro j hj w1 w2
    exfalso
    obtain ⟨x, hx, hp⟩ := hu
    obtain ⟨i, hi, rfl⟩ := List.getElem_of_mem hx
    have hof := off_lt (i := i) hh
    have := w2 (off l.length h i + l.length) l[i] (by omega) (by omega) (by
      have e : (h + (off l.length h i + l.length)) % l.length = i := by
        rw [← Nat.add_assoc, Nat.add_mod_right, at_off hh hi]
      rw [e]; simp)
    rw [hp] at this
    cases this
  | succ m ih =>
    intro j hj w1 w2
    have hp : (h + j) % l.length < l.length := Nat.mod_lt _ (by omega)
    have hx : l[(h + j) % l.length]? = some l[(h + j) % l.length] := List.getElem?_eq_getElem hp
    have hlx := lookd_get (h := h) (j := j) hp
    rw [off_at hh] at hlx
    generalize hy : l[(h + j) % l.length] = y at *
    by_cases hjL : j < l.length
    · rw [Nat.mod_eq_of_lt hjL, if_neg (by omega)] at hlx
      simp only [nextF, hlx]
      by_cases hf : freeI y = true
      · refine ⟨j, ⟨by omega, fun x h2 => ?_, w1, w2⟩, fun x h2 => ?_⟩
        · rw [hx] at h2
          simp at h2
          subst h2
          simp [freeI] at hf
          exact ⟨hf.1, fun _ => hf.2⟩
        · rw [hx] at h2
          simp at h2
          subst h2
          rw [if_pos hf, lookd_len]
      · obtain ⟨j', g1, g2⟩ := ih (j + 1) (by omega) (fun t x h1 h2 h3 => by
          by_cases htj : t = j
          · subst htj; rw [hx] at h3; simp at h3; subst h3; simpa using hf
          · exact w1 t x (by omega) h2 h3) (fun t x h1 h2 h3 => w2 t x (by omega) h2 h3)
        refine ⟨j', g1, fun x h2 => ?_⟩
        rw [if_neg hf, lookd_len]
        have hst := lookd_step hh y hlx
        have e : ((h + j) % l.length + 1) % l.length = (h + (j + 1)) % l.length := by rw [Nat.mod_add_mod, Nat.add_assoc]
        rw [hst, e]
        exact g2 x h2
    · have hjm : j % l.length < j := by have := Nat.mod_lt j (by omega : 0 < l.length); omega
      rw [if_pos hjm] at hlx
      simp only [nextF, hlx]
      rw [mkI_free]
      by_cases hf : y.pinned = false
      · refine ⟨j, ⟨by omega, fun x h2 => ?_, w1, w2⟩, fun x h2 => ?_⟩
        · rw [hx] at h2
          simp at h2
          subst h2
          exact ⟨hf, fun h => absurd h hjL⟩
        · rw [hx] at h2
          simp at h2
          subst h2
          simp only [hf, Bool.not_false, if_true]
          rw [lookd_len]
          simp [mkI]
      · obtain ⟨j', g1, g2⟩ := ih (j + 1) (by omega) (fun t x h1 h2 h3 => w1 t x (by omega) h2 h3) (fun t x h1 h2 h3 => by
          by_cases htj : t = j
          · subst htj; rw [hx] at h3; simp at h3; subst h3; simpa using hf
          · exact w2 t x (by omega) h2 h3)
        refine ⟨j', g1, fun x h2 => ?_⟩
        simp at hf
        simp only [hf, Bool.not_true, Bool.false_eq_true, if_false]
        rw [lookd_len]
        have hst := lookd_step hh (mkI y) hlx
        have e : ((h + j) % l.length + 1) % l.length = (h + (j + 1)) % l.length := by rw [Nat.mod_add_mod, Nat.add_assoc]
        rw [hst, e]
        exact g2 x h2
theorem lookd_zero (l : List Item) (h : Nat) : lookd l h 0 = l := by
  unfold lookd
  apply List.ext_getElem? 
  intro i
  simp [List.getElem?_mapIdx]
theorem next_char {l : List Item} {h : Nat} (hh : h < l.length) (hu : ∃ x ∈ l, x.pinned = false) : ∃ j x, Goes l h j ∧ l[(h + j) % l.length]? = some x ∧ nextF (2 * l.length) l h 1 = some ((lookd l h j).eraseIdx ((h + j) % l.length), (h + j) % l.length % max 1 (l.length - 1), x.id, j + 1) := by
  obtain ⟨j, g1, g2⟩ := nextF_goes hh hu (2 * l.length) 0 (by omega) (fun t x h => by omega) (fun t x h => by omega)
  have hp : (h + j) % l.length < l.length := Nat.mod_lt _ (by omega)
  refine ⟨j, l[(h + j) % l.length], g1, by simp [hp], ?_⟩
  have := g2 _ (List.getElem?_eq_getElem hp)
  rwa [lookd_zero, Nat.add_zero, Nat.mod_eq_of_lt hh] at this
end Go.Proofs.Ytigpgieapamffaa
