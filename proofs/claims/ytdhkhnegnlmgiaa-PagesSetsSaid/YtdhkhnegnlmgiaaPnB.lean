/- Package pages: what its functions do, plainly. ringkeep2's laws of pages, plainly. Dirty pages, one after the other: plainly. -/
import Derived.Test.YtdhkhnegnlmgiaaPnA
namespace Go.Proofs.Ytdhkhnegnlmgiaa
open Go.AI
def putB (d : Pg) (k : Nat) (b : Int) : Pg := match k with
  | 0 => { d with b0 := b } | 1 => { d with b1 := b } | 2 => { d with b2 := b } | 3 => { d with b3 := b }
  | 4 => { d with b4 := b } | 5 => { d with b5 := b } | 6 => { d with b6 := b } | 7 => { d with b7 := b }
  | 8 => { d with b8 := b } | 9 => { d with b9 := b } | 10 => { d with b10 := b } | 11 => { d with b11 := b }
  | 12 => { d with b12 := b } | 13 => { d with b13 := b } | 14 => { d with b14 := b } | _ => { d with b15 := b }
def noPp : Pp := ⟨0, 0, 0, 0, noPg⟩
def pgAt (c : Ca) (f n : Int) : Pp := (c.pages[lowG c.pages f n]?).getD noPp
def insG (l : List Pp) (i : Nat) (p : Pp) : List Pp := l.take i ++ p :: l.drop i
def caBring (c : Ca) (f n : Int) (d : Pg) : Except Int Ca :=
  if caChk c f n = 0 then (if hasG c.pages f n = true then .error 5 else if c.pages.length = 64 then .error 6 else .ok ⟨insG c.pages (lowG c.pages f n) ⟨f, n, 0, 0, d⟩, c.clock⟩) else .error (caChk c f n)
def setP (c : Ca) (p : Pp) (k : Nat) (b : Int) : Pp := ⟨p.file, p.n, p.maps, if p.dirty = 0 then c.clock else p.dirty, putB p.data k b⟩
def caSet (c : Ca) (f n k b : Int) : Except Int Ca :=
  if caThere c f n = 0 then (if k < 0 ∨ 16 ≤ k then .error 1 else if c.clock = 1073741824 then .error 6 else .ok ⟨c.pages.set (lowG c.pages f n) (setP c (pgAt c f n) k.toNat b), if (pgAt c f n).dirty = 0 then c.clock + 1 else c.clock⟩) else .error (caThere c f n)
def mapP (p : Pp) (m : Int) : Pp := ⟨p.file, p.n, p.maps + m, p.dirty, p.data⟩
def caMap (c : Ca) (f n m : Int) : Except Int Ca :=
  if caThere c f n = 0 then (if m ≠ 1 ∧ m ≠ -1 then .error 1 else if (pgAt c f n).maps + m < 0 ∨ 64 < (pgAt c f n).maps + m then .error 8 else .ok ⟨c.pages.set (lowG c.pages f n) (mapP (pgAt c f n) m), c.clock⟩) else .error (caThere c f n)
def caOut (c : Ca) (f n : Int) : Except Int Ca :=
  if caThere c f n = 0 then (if 0 < (pgAt c f n).maps ∨ 0 < (pgAt c f n).dirty then .error 8 else .ok ⟨c.pages.eraseIdx (lowG c.pages f n), c.clock⟩) else .error (caThere c f n)
def cleanP (p : Pp) : Pp := ⟨p.file, p.n, p.maps, 0, p.data⟩
def bestB (l : List Pp) (p : Pp) : Bool := decide (0 < p.dirty) && l.all (fun q => decide (0 < q.dirty → p.dirty ≤ q.dirty))
def caBest (l : List Pp) : Option Nat := l.findIdx? (bestB l)
/-- the place of a page that is there -/
theorem pgAt_eq {c : Ca} {f n : Int} (h : hasG c.pages f n = true) : ∃ hi : lowG c.pages f n < c.pages.length, pgAt c f n = c.pages[lowG c.pages f n] ∧ (pgAt c f n).file = f ∧ (pgAt c f n).n = n := by
  obtain ⟨hi, h1, h2⟩ := hasG_iff.1 h
  have e : pgAt c f n = c.pages[lowG c.pages f n] := by simp [pgAt, hi]
  exact ⟨hi, e, by rw [e]; exact h1, by rw [e]; exact h2⟩
theorem pw_set {α : Type} {R : α → α → Prop} {l : List α} {i : Nat} {x : α} (hi : i < l.length) (h : l.Pairwise R) (h1 : ∀ y, R y l[i] → R y x) (h2 : ∀ y, R l[i] y → R x y) : (l.set i x).Pairwise R := by
  rw [List.pairwise_iff_getElem] at h ⊢
  intro a b ha hb hab
  rw [List.length_set] at ha hb
  rw [List.getElem_set, List.getElem_set]
  have := h a b ha hb hab
  split
  · rename_i e; subst e
    split
    · omega
    · exact h2 _ this
  · split
    · rename_i e; subst e
      exact h1 _ this
    · exact this
/-- another page at its place, of the same name -/
theorem Good.set {c : Ca} {i : Nat} {p : Pp} {T : Int} (g : Good c) (hi : i < c.pages.length) (hf : p.file = c.pages[i].file) (hn : p.n = c.pages[i].n) (hT : c.clock ≤ T) (hT2 : T ≤ 1073741824) (hb : badP T p = false) (hd : p.dirty = 0 ∨ p.dirty = c.pages[i].dirty ∨ c.clock ≤ p.dirty) : Good ⟨c.pages.set i p, T⟩ where
  len := by simpa using g.len
  c1 := by have := g.c1; simp only; omega
  c2 := hT2
  each q hq := by
    rcases List.mem_or_eq_of_mem_set hq with hq | hq
    · have := badP_iff.1 (g.each q hq)
      rw [badP_iff]
      exact ⟨this.1, this.2.1, this.2.2.1, this.2.2.2.1, by simp only; omega⟩
    · subst hq; exact hb
  sorted := pw_set hi g.sorted (fun y h => by rw [LtK_iff] at h ⊢; rw [hf, hn]; exact h) (fun y h => by rw [LtK_iff] at h ⊢; rw [hf, hn]; exact h)
  diff := by
    have hlt : ∀ y ∈ c.pages, y.dirty < c.clock := fun y hy => (badP_iff.1 (g.each y hy)).2.2.2.2
    have h := g.diff
    simp only
    rw [List.pairwise_iff_getElem] at h ⊢
    intro a b ha hb' hab
    rw [List.length_set] at ha hb'
    have hab1 := h a b ha hb' hab
    have q1 := hlt _ (List.getElem_mem ha)
    have q2 := hlt _ (List.getElem_mem hb')
    rw [List.getElem_set, List.getElem_set]
    unfold DfK at hab1 ⊢
    by_cases ea : i = a
    · have eb : ¬ i = b := by omega
      rw [if_pos ea, if_neg eb]
      subst ea
      intro h3; have := hab1 h3; omega
    · by_cases eb : i = b
      · rw [if_neg ea, if_pos eb]
        subst eb
        intro h3
        rcases hd with hd | hd | hd
        · omega
        · have := hab1 (by omega); omega
        · omega
      · rw [if_neg ea, if_neg eb]; exact hab1
theorem set_low {c : Ca} {i : Nat} {p : Pp} {T : Int} (g : Good c) (g2 : Good ⟨c.pages.set i p, T⟩) (hi : i < c.pages.length) (hf : p.file = c.pages[i].file) (hn : p.n = c.pages[i].n) (f n : Int) :
    hasG (c.pages.set i p) f n = hasG c.pages f n ∧ lowG (c.pages.set i p) f n = lowG c.pages f n := by
  have key : ∀ j (hj : j < c.pages.length), ordK ((c.pages.set i p)[j]'(by simpa using hj)) f n = ordK c.pages[j] f n := by
    intro j hj
    rw [List.getElem_set]
    split
    · rename_i e; subst e; unfold ordK; rw [hf, hn]
    · rfl
  have hl : lowG (c.pages.set i p) f n = lowG c.pages f n := by
    have h1 := lowG_iff (f := f) (n := n) g.sorted
    have h2 := lowG_iff (f := f) (n := n) g2.sorted
    have l1 := lowG_le c.pages f n
    have l2 := lowG_le (c.pages.set i p) f n
    rw [List.length_set] at l2
    simp only [List.length_set] at h2
    by_cases hlt : lowG (c.pages.set i p) f n < lowG c.pages f n
    · have a1 := (h1 (lowG (c.pages.set i p) f n) (by omega)).2 hlt
      have a2 := h2 (lowG (c.pages.set i p) f n) (by omega)
      rw [key _ (by omega)] at a2
      have := a2.1 a1
      omega
    · by_cases hgt : lowG c.pages f n < lowG (c.pages.set i p) f n
      · have a1 := (h2 (lowG c.pages f n) (by omega)).2 hgt
        rw [key _ (by omega)] at a1
        have := (h1 (lowG c.pages f n) (by omega)).1 a1
        omega
      · omega
  refine ⟨?_, hl⟩
  rw [Bool.eq_iff_iff, hasG_iff, hasG_iff]
  have e2 : ∀ j (hj : j < c.pages.length), ((c.pages.set i p)[j]'(by simpa using hj)).file = c.pages[j].file ∧ ((c.pages.set i p)[j]'(by simpa using hj)).n = c.pages[j].n := by
    intro j hj
    rw [List.getElem_set]
    split
    · rename_i e; subst e; exact ⟨hf, hn⟩
    · exact ⟨rfl, rfl⟩
  constructor
  · rintro ⟨h, h3, h4⟩
    rw [List.length_set, hl] at h
    have := e2 _ h
    simp only [hl] at h3 h4
    exact ⟨h, this.1 ▸ h3, this.2 ▸ h4⟩
  · rintro ⟨h, h3, h4⟩
    have := e2 _ h
    refine ⟨by rw [List.length_set, hl]; exact h, ?_, ?_⟩
    · simp only [hl]; rw [this.1]; exact h3
    · simp only [hl]; rw [this.2]; exact h4
end Go.Proofs.Ytdhkhnegnlmgiaa
namespace Go.Proofs.Ytdhkhnegnlmgiaa
open Go.AI
theorem caThere_of {c : Ca} {f n : Int} (g : Good c) (hr : rightP f n = true) : caThere c f n = if hasG c.pages f n = true then 0 else 4 := by
  unfold caThere
  rw [if_pos (caChk_iff.2 ⟨g, hr⟩)]
theorem there_same {c x : Ca} (g : Good c) (g2 : Good x) {f n : Int} (h : hasG x.pages f n = hasG c.pages f n) : caThere x f n = caThere c f n := by
  unfold caThere caChk
  rw [caCheck_iff.2 g, caCheck_iff.2 g2, h]
theorem set_err {c : Ca} {f n k b e : Int} (h : caSet c f n k b = .error e) : e ≠ 0 := by
  unfold caSet at h
  split at h
  · split at h
    · cases h; decide
    · split at h
      · cases h; decide
      · cases h
  · rename_i h0; cases h; exact h0
theorem set_ok {c x : Ca} {f n k b : Int} (h : caSet c f n k b = .ok x) : Good c ∧ caThere c f n = 0 ∧ hasG c.pages f n = true ∧ 0 ≤ k ∧ k < 16 ∧ x = ⟨c.pages.set (lowG c.pages f n) (setP c (pgAt c f n) k.toNat b), if (pgAt c f n).dirty = 0 then c.clock + 1 else c.clock⟩ ∧ Good x := by
  unfold caSet at h
  split at h
  case isFalse => cases h
  rename_i h0
  split at h
  · cases h
  rename_i h1
  split at h
  · cases h
  rename_i h2
  cases h
  obtain ⟨g, hr, hh⟩ := caThere_iff.1 h0
  obtain ⟨hi, hp, hf, hn⟩ := pgAt_eq hh
  have hb := badP_iff.1 (g.each _ (List.getElem_mem hi))
  rw [← hp] at hb
  have hc2 := g.c2
  have hc1 := g.c1
  refine ⟨g, h0, hh, by omega, by omega, rfl, ?_⟩
  refine g.set hi (by rw [← hp]; rfl) (by rw [← hp]; rfl) (by split <;> omega) (by split <;> omega) ?_ ?_
  · rw [badP_iff]
    refine ⟨hb.1, hb.2.1, hb.2.2.1, ?_, ?_⟩
    · simp only [setP]; split <;> omega
    · simp only [setP]; split <;> omega
  · rw [← hp]
    simp only [setP]
    split
    · exact .inr (.inr (Int.le_refl _))
    · exact .inr (.inl rfl)
theorem sets_spec {c x : Ca} {f n k b : Int} (h : caSet c f n k b = .ok x) : caCheck c = 0 ∧ caCheck x = 0 ∧ caThere c f n = 0 ∧ caThere x f n = 0 ∧ 0 ≤ k ∧ k < 16 ∧ caGet x f n = putB (caGet c f n) k.toNat b ∧ x.pages.length = c.pages.length ∧
    (∀ (i : Nat) (hi : i < c.pages.length) (hx : i < x.pages.length), (c.pages[i].file = f ∧ c.pages[i].n = n ∧ x.pages[i].file = f ∧ x.pages[i].n = n ∧ x.pages[i].dirty ≠ 0 ∧ (0 < c.pages[i].dirty → x.pages[i].dirty = c.pages[i].dirty)) ∨ (¬ (c.pages[i].file = f ∧ c.pages[i].n = n) ∧ x.pages[i] = c.pages[i])) ∧
    ∀ o : Int, caThere x f o = caThere c f o ∧ (o ≠ n → caGet x f o = caGet c f o) := by
  obtain ⟨g, h0, hh, k0, k1, rfl, gx⟩ := set_ok h
  obtain ⟨hi, hp, hf, hn⟩ := pgAt_eq hh
  have hsl := fun f' o' => set_low g gx hi (p := setP c (pgAt c f n) k.toNat b) (by rw [← hp]; rfl) (by rw [← hp]; rfl) f' o'
  have hth : ∀ o, caThere _ f o = caThere c f o := fun o => there_same g gx (hsl f o).1
  have hc1 := g.c1
  refine ⟨caCheck_iff.2 g, caCheck_iff.2 gx, h0, by rw [hth]; exact h0, k0, k1, ?_, by simp, ?_, fun o => ⟨hth o, ?_⟩⟩
  · unfold caGet
    rw [hth, if_pos h0, if_pos h0]
    simp only [(hsl f n).2]
    rw [List.getElem?_set_self hi, List.getElem?_eq_getElem hi, ← hp]
    rfl
  · intro i hi1 hi2
    simp only [List.getElem_set]
    by_cases e : lowG c.pages f n = i
    · left
      subst e
      rw [if_pos rfl, ← hp]
      refine ⟨hf, hn, hf, hn, ?_, ?_⟩
      · simp only [setP]; split <;> omega
      · intro h3; simp only [setP]; rw [if_neg (by omega)]
    · right
      rw [if_neg e]
      refine ⟨?_, rfl⟩
      rintro ⟨h3, h4⟩
      have := low_at g.sorted i hi1
      rw [h3, h4] at this
      exact e this
  · intro ho
    unfold caGet
    rw [hth]
    split
    · rename_i h3
      obtain ⟨_, _, hh2⟩ := caThere_iff.1 h3
      obtain ⟨hi3, hf3, hn3⟩ := hasG_iff.1 hh2
      simp only [(hsl f o).2]
      have hne : lowG c.pages f n ≠ lowG c.pages f o := by
        intro e
        have : c.pages[lowG c.pages f o].n = n := by rw [← hn, hp]; simp [e]
        omega
      rw [List.getElem?_set_ne hne]
    · rfl
def keyB (f n : Int) (p : Pp) : Bool := decide (p.file = f ∧ p.n = n)
theorem idx_low {l : List Pp} (hs : l.Pairwise LtK) {f n : Int} {i : Nat} (hi : i < l.length) (hk : keyB f n l[i] = true) : hasG l f n = true ∧ lowG l f n = i := by
  simp only [keyB, decide_eq_true_eq] at hk
  have h1 := has_at hs i hi
  have h2 := low_at hs i hi
  rw [hk.1, hk.2] at h1 h2
  exact ⟨h1, h2⟩
theorem out_err {c : Ca} {f n e : Int} (h : caOut c f n = .error e) : e ≠ 0 := by
  unfold caOut at h
  split at h
  · split at h
    · cases h; decide
    · cases h
  · rename_i h0; cases h; exact h0
theorem out_ok {c x : Ca} {f n : Int} (h : caOut c f n = .ok x) : Good c ∧ rightP f n = true ∧ hasG c.pages f n = true ∧ ¬ 0 < (pgAt c f n).maps ∧ ¬ 0 < (pgAt c f n).dirty ∧ x = ⟨c.pages.eraseIdx (lowG c.pages f n), c.clock⟩ ∧ Good x := by
  unfold caOut at h
  split at h
  case isFalse => cases h
  rename_i h0
  split at h
  · cases h
  rename_i h1
  cases h
  obtain ⟨g, hr, hh⟩ := caThere_iff.1 h0
  refine ⟨g, hr, hh, by omega, by omega, rfl, ?_⟩
  have hsub : (c.pages.eraseIdx (lowG c.pages f n)).Sublist c.pages := List.eraseIdx_sublist _ _
  exact ⟨Nat.le_trans hsub.length_le g.len, g.c1, g.c2, fun p hp => g.each p (hsub.subset hp), g.sorted.sublist hsub, g.diff.sublist hsub⟩
theorem out_gone {c x : Ca} {f n : Int} (h : caOut c f n = .ok x) : caCheck x = 0 ∧ caThere x f n = 4 ∧ x.pages.length + 1 = c.pages.length := by
  obtain ⟨g, hr, hh, _, _, rfl, gx⟩ := out_ok h
  obtain ⟨hi, _⟩ := hasG_iff.1 hh
  refine ⟨caCheck_iff.2 gx, ?_, ?_⟩
  · rw [caThere_of gx hr, if_neg]
    intro h2
    obtain ⟨p, hp, hf, hn⟩ := (hasG_mem gx.sorted).1 h2
    obtain ⟨j, hj, rfl⟩ := List.getElem_of_mem hp
    simp only [List.length_eraseIdx, hi, if_true] at hj
    simp only [List.getElem_eraseIdx] at hf hn
    split at hf
    · rename_i hlt
      rw [dif_pos hlt] at hn
      have := (idx_low g.sorted (f := f) (n := n) (i := j) (by omega) (by simp [keyB, hf, hn])).2
      omega
    · rename_i hlt
      rw [dif_neg hlt] at hn
      have := (idx_low g.sorted (f := f) (n := n) (i := j + 1) (by omega) (by simp [keyB, hf, hn])).2
      omega
  · simp only [List.length_eraseIdx, hi, if_true]; omega
/-- what a page's going says, place and all -/
theorem held_idx {c : Ca} (g : Good c) {f n : Int} {i : Nat} (hi : i < c.pages.length) (hk : keyB f n c.pages[i] = true) : caThere c f n = 0 ∧ pgAt c f n = c.pages[i] := by
  obtain ⟨h1, h2⟩ := idx_low g.sorted hi hk
  have hb := (badP_iff.1 (g.each _ (List.getElem_mem hi))).1
  simp only [keyB, decide_eq_true_eq] at hk
  rw [hk.1, hk.2] at hb
  refine ⟨by rw [caThere_of g hb, if_pos h1], ?_⟩
  simp [pgAt, h2, hi]
theorem held_none {c : Ca} {f n : Int} (h : ∀ p ∈ c.pages, keyB f n p = false) : caThere c f n ≠ 0 := by
  intro h0
  obtain ⟨g, _, hh⟩ := caThere_iff.1 h0
  obtain ⟨p, hp, h1, h2⟩ := (hasG_mem g.sorted).1 hh
  have := h p hp
  simp [keyB, h1, h2] at this
theorem bring_err {c : Ca} {f n e : Int} {d : Pg} (h : caBring c f n d = .error e) : e ≠ 0 := by
  unfold caBring at h
  split at h
  · split at h
    · cases h; decide
    · split at h
      · cases h; decide
      · cases h
  · rename_i h0; cases h; exact h0
theorem bring_ok {c x : Ca} {f n : Int} {d : Pg} (h : caBring c f n d = .ok x) : Good c ∧ c.pages.length < 64 ∧ x = ⟨insG c.pages (lowG c.pages f n) ⟨f, n, 0, 0, d⟩, c.clock⟩ ∧ Good x ∧ caThere x f n = 0 ∧ caGet x f n = d ∧ caOut x f n = .ok c := by
  unfold caBring at h
  split at h
  case isFalse => cases h
  rename_i h0
  split at h
  · cases h
  rename_i h1
  split at h
  · cases h
  rename_i h2
  cases h
  obtain ⟨g, hr⟩ := caChk_iff.1 h0
  have hl := g.len
  have hle := lowG_le c.pages f n
  have hlo := lowG_iff (f := f) (n := n) g.sorted
  have hno : ∀ p ∈ c.pages, ¬ (p.file = f ∧ p.n = n) := fun p hp hh => h1 ((hasG_mem g.sorted).2 ⟨p, hp, hh⟩)
  have hb : badP c.clock ⟨f, n, 0, 0, d⟩ = false := by
    rw [badP_iff]; have := g.c1; exact ⟨hr, by simp, by simp, by simp, by simp only; omega⟩
  have hbef : ∀ p ∈ c.pages.take (lowG c.pages f n), LtK p ⟨f, n, 0, 0, d⟩ := by
    intro p hp
    obtain ⟨j, hj, rfl⟩ := List.getElem_of_mem hp
    simp only [List.length_take] at hj
    rw [List.getElem_take]
    exact (hlo j (by omega)).2 (by omega)
  have haft : ∀ p ∈ c.pages.drop (lowG c.pages f n), LtK ⟨f, n, 0, 0, d⟩ p := by
    intro p hp
    have hp2 := List.mem_of_mem_drop hp
    obtain ⟨j, hj, rfl⟩ := List.getElem_of_mem hp
    simp only [List.length_drop] at hj
    rw [List.getElem_drop] at hp2 ⊢
    have a1 := hlo (lowG c.pages f n + j) (by omega)
    have a2 := hno _ hp2
    rw [ordK_lt] at a1
    rw [LtK_iff]
    simp only
    omega
  have hsp : c.pages = c.pages.take (lowG c.pages f n) ++ c.pages.drop (lowG c.pages f n) := (List.take_append_drop _ _).symm
  have hso := g.sorted
  have hdf := g.diff
  rw [hsp, List.pairwise_append] at hso hdf
  have gx : Good ⟨insG c.pages (lowG c.pages f n) ⟨f, n, 0, 0, d⟩, c.clock⟩ := by
    refine ⟨by simp [insG]; omega, g.c1, g.c2, ?_, ?_, ?_⟩
    · intro p hp
      simp only [insG, List.mem_append, List.mem_cons] at hp
      rcases hp with hp | rfl | hp
      · exact g.each p (List.mem_of_mem_take hp)
      · exact hb
      · exact g.each p (List.mem_of_mem_drop hp)
    · simp only [insG, List.pairwise_append, List.pairwise_cons, List.mem_cons]
      refine ⟨hso.1, ⟨haft, hso.2.1⟩, ?_⟩
      rintro a ha b (rfl | hb2)
      · exact hbef a ha
      · exact hso.2.2 a ha b hb2
    · simp only [insG, List.pairwise_append, List.pairwise_cons, List.mem_cons]
      refine ⟨hdf.1, ⟨?_, hdf.2.1⟩, ?_⟩
      · intro b hb2 h3
        simp only; omega
      · rintro a ha b (rfl | hb2)
        · intro h3; simp at h3
        · exact hdf.2.2 a ha b hb2
  have hlen : lowG c.pages f n < (insG c.pages (lowG c.pages f n) ⟨f, n, 0, 0, d⟩).length := by simp [insG]; omega
  have hget : (insG c.pages (lowG c.pages f n) ⟨f, n, 0, 0, d⟩)[lowG c.pages f n]'hlen = ⟨f, n, 0, 0, d⟩ := by
    simp only [insG]
    rw [List.getElem_append_right (by rw [List.length_take]; omega)]
    simp [Nat.min_eq_left hle]
  obtain ⟨e1, e2⟩ := idx_low gx.sorted (f := f) (n := n) hlen (by rw [hget]; simp [keyB])
  have hth : caThere ⟨insG c.pages (lowG c.pages f n) ⟨f, n, 0, 0, d⟩, c.clock⟩ f n = 0 := by rw [caThere_of gx hr, if_pos e1]
  refine ⟨g, by omega, rfl, gx, hth, ?_, ?_⟩
  · unfold caGet
    rw [if_pos hth]
    simp only [e2]
    rw [List.getElem?_eq_getElem hlen, hget]
    rfl
  · unfold caOut
    rw [if_pos hth]
    have hpa : pgAt ⟨insG c.pages (lowG c.pages f n) ⟨f, n, 0, 0, d⟩, c.clock⟩ f n = ⟨f, n, 0, 0, d⟩ := by
      unfold pgAt
      simp only [e2]
      rw [List.getElem?_eq_getElem hlen, hget]
      rfl
    rw [hpa, if_neg (by simp)]
    simp only [e2]
    congr 1
    obtain ⟨l, T⟩ := c
    simp only at *
    congr 1
    rw [insG, List.eraseIdx_append_of_length_le (by rw [List.length_take]; omega)]
    simp [Nat.min_eq_left hle]
theorem map_err {c : Ca} {f n m e : Int} (h : caMap c f n m = .error e) : e ≠ 0 := by
  unfold caMap at h
  split at h
  · split at h
    · cases h; decide
    · split at h
      · cases h; decide
      · cases h
  · rename_i h0; cases h; exact h0
theorem map_back {c x : Ca} {f n : Int} (h : caMap c f n 1 = .ok x) : Good c ∧ x.clock = c.clock ∧ x.pages.length = c.pages.length ∧ caMap x f n (-1) = .ok c := by
  unfold caMap at h
  split at h
  case isFalse => cases h
  rename_i h0
  rw [if_neg (by omega)] at h
  split at h
  · cases h
  rename_i h2
  cases h
  obtain ⟨g, hr, hh⟩ := caThere_iff.1 h0
  obtain ⟨hi, hp, hf, hn⟩ := pgAt_eq hh
  have hb := badP_iff.1 (g.each _ (List.getElem_mem hi))
  rw [← hp] at hb
  have gx : Good ⟨c.pages.set (lowG c.pages f n) (mapP (pgAt c f n) 1), c.clock⟩ := by
    refine g.set hi (by rw [← hp]; rfl) (by rw [← hp]; rfl) (Int.le_refl _) g.c2 ?_ (.inr (.inl (by rw [← hp]; rfl)))
    rw [badP_iff]
    exact ⟨hb.1, by simp only [mapP]; omega, by simp only [mapP]; omega, hb.2.2.2.1, hb.2.2.2.2⟩
  obtain ⟨s1, s2⟩ := set_low g gx hi (p := mapP (pgAt c f n) 1) (by rw [← hp]; rfl) (by rw [← hp]; rfl) f n
  have hth : caThere ⟨c.pages.set (lowG c.pages f n) (mapP (pgAt c f n) 1), c.clock⟩ f n = 0 := by rw [there_same g gx s1]; exact h0
  refine ⟨g, rfl, by simp, ?_⟩
  unfold caMap
  rw [if_pos hth, if_neg (by omega)]
  have hpa : pgAt ⟨c.pages.set (lowG c.pages f n) (mapP (pgAt c f n) 1), c.clock⟩ f n = mapP (pgAt c f n) 1 := by
    show ((c.pages.set (lowG c.pages f n) (mapP (pgAt c f n) 1))[lowG (c.pages.set (lowG c.pages f n) (mapP (pgAt c f n) 1)) f n]?).getD noPp = _
    rw [s2, List.getElem?_set_self hi]
    rfl
  rw [hpa, if_neg (by simp only [mapP]; omega)]
  simp only [s2, List.set_set]
  congr 1
  have e : mapP (mapP (pgAt c f n) 1) (-1) = c.pages[lowG c.pages f n] := by
    rw [← hp]
    generalize pgAt c f n = p
    obtain ⟨a1, a2, a3, a4, a5⟩ := p
    simp only [mapP, Pp.mk.injEq, and_true, true_and]
    omega
  rw [e, List.set_getElem_self]
end Go.Proofs.Ytdhkhnegnlmgiaa
namespace Go.Proofs.Ytdhkhnegnlmgiaa
open Go.AI
theorem best_min {l : List Pp} (h : ∃ p ∈ l, 0 < p.dirty) : ∃ p ∈ l, 0 < p.dirty ∧ ∀ q ∈ l, 0 < q.dirty → p.dirty ≤ q.dirty := by
  induction l with
  | nil => obtain ⟨p, hp, _⟩ := h; simp at hp
  | cons a l ih =>
    by_cases h1 : ∃ p ∈ l, 0 < p.dirty
    · obtain ⟨p, hp, hd, hm⟩ := ih h1
      by_cases h2 : 0 < a.dirty ∧ a.dirty < p.dirty
      · refine ⟨a, by simp, h2.1, ?_⟩
        intro q hq hq2
        rcases List.mem_cons.1 hq with rfl | hq
        · omega
        · have := hm q hq hq2; omega
      · refine ⟨p, by simp [hp], hd, ?_⟩
        intro q hq hq2
        rcases List.mem_cons.1 hq with rfl | hq
        · omega
        · exact hm q hq hq2
    · obtain ⟨p, hp, hd⟩ := h
      rcases List.mem_cons.1 hp with rfl | hp
      · refine ⟨p, by simp, hd, ?_⟩
        intro q hq hq2
        rcases List.mem_cons.1 hq with rfl | hq
        · omega
        · exact absurd ⟨q, hq, hq2⟩ h1
      · exact absurd ⟨p, hp, hd⟩ h1
theorem bestB_iff {l : List Pp} {p : Pp} : bestB l p = true ↔ 0 < p.dirty ∧ ∀ q ∈ l, 0 < q.dirty → p.dirty ≤ q.dirty := by
  simp only [bestB, Bool.and_eq_true, decide_eq_true_eq, List.all_eq_true]
theorem best_none {l : List Pp} (h : caBest l = none) : ∀ p ∈ l, ¬ 0 < p.dirty := by
  unfold caBest at h
  rw [List.findIdx?_eq_none_iff] at h
  intro p hp h2
  obtain ⟨q, hq, h3, h4⟩ := best_min ⟨p, hp, h2⟩
  have := h q hq
  rw [bestB_iff.2 ⟨h3, h4⟩] at this
  cases this
theorem best_some {l : List Pp} {i : Nat} (h : caBest l = some i) : ∃ hi : i < l.length, 0 < l[i].dirty ∧ ∀ q ∈ l, 0 < q.dirty → l[i].dirty ≤ q.dirty := by
  unfold caBest at h
  rw [List.findIdx?_eq_some_iff_getElem] at h
  obtain ⟨hi, h1, _⟩ := h
  exact ⟨hi, bestB_iff.1 h1⟩
theorem dirty_one {l : List Pp} (h : l.Pairwise DfK) {i j : Nat} (hi : i < l.length) (hj : j < l.length) (h0 : 0 < l[i].dirty) (he : l[i].dirty = l[j].dirty) : i = j := by
  rw [List.pairwise_iff_getElem] at h
  rcases Nat.lt_trichotomy i j with h1 | h1 | h1
  · exact absurd he (h i j hi hj h1 (by omega))
  · exact h1
  · exact absurd he.symm (h j i hj hi h1 h0)
theorem best_is {l : List Pp} (h : l.Pairwise DfK) {j : Nat} (hj : j < l.length) (h0 : 0 < l[j].dirty) (hm : ∀ i (hi : i < l.length), 0 < l[i].dirty → l[j].dirty ≤ l[i].dirty) : caBest l = some j := by
  cases hb : caBest l with
  | none => exact absurd h0 (best_none hb _ (List.getElem_mem hj))
  | some i =>
    obtain ⟨hi, h1, h2⟩ := best_some hb
    have a1 := h2 _ (List.getElem_mem hj) h0
    have a2 := hm i hi h1
    rw [dirty_one h hi hj h1 (by omega)]
theorem best_nil {l : List Pp} (h : ∀ i (hi : i < l.length), ¬ 0 < l[i].dirty) : caBest l = none := by
  cases hb : caBest l with
  | none => rfl
  | some i =>
    obtain ⟨hi, h1, _⟩ := best_some hb
    exact absurd h1 (h i hi)
def nD (l : List Pp) : Nat := l.countP (fun p => decide (0 < p.dirty))
structure Chain (c a : Ca) (last : Int) : Prop where
  good : Good a
  len : a.pages.length = c.pages.length
  same : ∀ (i : Nat) (hi : i < a.pages.length) (hc : i < c.pages.length), a.pages[i].data = c.pages[i].data ∧ a.pages[i].maps = c.pages[i].maps
  big : ∀ p ∈ a.pages, 0 < p.dirty → last < p.dirty
theorem Chain.start {c : Ca} (g : Good c) : Chain c c 0 := ⟨g, rfl, fun _ _ _ => ⟨rfl, rfl⟩, fun _ _ h => h⟩
theorem good_clean {a : Ca} (g : Good a) {i : Nat} (hi : i < a.pages.length) : Good ⟨a.pages.set i (cleanP a.pages[i]), a.clock⟩ := by
  have hb := badP_iff.1 (g.each _ (List.getElem_mem hi))
  have := g.c1
  refine g.set hi rfl rfl (Int.le_refl _) g.c2 ?_ (.inl rfl)
  rw [badP_iff]
  exact ⟨hb.1, hb.2.1, hb.2.2.1, by simp [cleanP], by simp only [cleanP]; omega⟩
theorem Chain.step {c a : Ca} {last : Int} (h : Chain c a last) {i : Nat} (hb : caBest a.pages = some i) : ∃ hi : i < a.pages.length, last < a.pages[i].dirty ∧ 0 < a.pages[i].dirty ∧ Chain c ⟨a.pages.set i (cleanP a.pages[i]), a.clock⟩ a.pages[i].dirty ∧ nD (a.pages.set i (cleanP a.pages[i])) + 1 = nD a.pages := by
  obtain ⟨hi, h1, h2⟩ := best_some hb
  refine ⟨hi, h.big _ (List.getElem_mem hi) h1, h1, ⟨good_clean h.good hi, by simpa using h.len, ?_, ?_⟩, ?_⟩
  · intro j hj hc
    simp only [List.length_set] at hj
    have := h.same j hj hc
    simp only [List.getElem_set]
    split
    · rename_i e; subst e; exact this
    · exact this
  · intro p hp h3
    obtain ⟨j, hj, rfl⟩ := List.getElem_of_mem hp
    simp only [List.length_set] at hj
    simp only [List.getElem_set] at h3 ⊢
    split at h3
    · simp [cleanP] at h3
    · rename_i hne
      rw [if_neg hne]
      have a1 := h2 _ (List.getElem_mem hj) h3
      rcases Int.lt_or_eq_of_le a1 with a2 | a2
      · exact a2
      · exact absurd (dirty_one h.good.diff hi hj h1 a2) hne
  · unfold nD
    rw [List.countP_set hi]
    simp only [h1, decide_true, if_true, cleanP]
    have : 0 < a.pages.countP (fun p => decide (0 < p.dirty)) := List.countP_pos_iff.2 ⟨_, List.getElem_mem hi, by simpa using h1⟩
    simp
    omega
theorem nD_none {l : List Pp} (h : nD l = 0) : caBest l = none := by
  apply best_nil
  intro i hi h2
  unfold nD at h
  rw [List.countP_eq_zero] at h
  have := h _ (List.getElem_mem hi)
  simp [h2] at this
theorem nD_some {l : List Pp} (h : 0 < nD l) : ∃ i, caBest l = some i := by
  cases hb : caBest l with
  | some i => exact ⟨i, rfl⟩
  | none =>
    unfold nD at h
    rw [List.countP_pos_iff] at h
    obtain ⟨p, hp, h2⟩ := h
    exact absurd (by simpa using h2) (best_none hb p hp)
theorem nD_zero {l : List Pp} {k : Int} (h : nD l = 0) (hb : ∀ p ∈ l, badP k p = false) : ∀ p ∈ l, p.dirty = 0 := by
  intro p hp
  unfold nD at h
  rw [List.countP_eq_zero] at h
  have h1 := h p hp
  have h2 := badP_iff.1 (hb p hp)
  simp at h1
  omega
end Go.Proofs.Ytdhkhnegnlmgiaa
