/- Function values; what slices' functions answer. -/
import Derived.Test.YtebpjfdbjhodiaaAiU
namespace Go.AI
set_option linter.unusedSimpArgs false
set_option linter.unusedVariables false

/-- a function value, with what it has caught -/
def fnDec {γ : Type} (g : FuncId) (c : RCod γ) : AVal → Option γ
  | .fn g' caps => if g' = g then c.dec caps else none
  | _ => none
def cFn {γ : Type} (g : FuncId) (c : RCod γ) : Cod γ where
  enc e := .fn g (c.enc e)
  dec := fnDec g c
  de e := by simp [fnDec, c.de]
  ok := by
    intro x e h β ok w n v hok hr
    unfold fnDec at h
    split at h
    · rename_i g' caps
      split at h
      · rename_i hg
        subst hg
        cases hr with
        | @fn _ _ _ xs hl hr =>
          obtain ⟨h1, h2⟩ := c.ok h (x := fun j => xs[j]?.getD undef) hok hr
          exact .fn (by rw [c.len, ← h1]; exact hl) h2
      · cases h
    · cases h
def rNil : RCod Unit := RCod.plain 0 (fun _ => []) (fun r => match r with | [] => some () | _ => none) (fun _ => rfl) (fun _ => rfl) (fun r e h => by
  split at h
  · rfl
  · cases h)

/-- slices.IndexFunc -/
def idxP {α : Type} (p : α → Bool) (l : List α) : Int := match l.findIdx? p with | some k => k | none => -1
theorem idxP_iff {α : Type} (p : α → Bool) (l : List α) : 0 ≤ idxP p l ↔ l.any p = true := by
  unfold idxP
  cases h : l.findIdx? p with
  | none => 
    simp only [List.findIdx?_eq_none_iff] at h
    simp
    exact fun x hx => by simpa using h x hx
  | some k =>
    simp only [List.findIdx?_eq_some_iff_getElem] at h
    obtain ⟨hk, h1, h2⟩ := h
    simp
    exact ⟨_, List.getElem_mem hk, h1⟩
theorem idxP_some {α : Type} {p : α → Bool} {l : List α} (h : ¬ idxP p l < 0) : ∃ k : Nat, idxP p l = k ∧ ∃ hk : k < l.length, p l[k] = true ∧ ∀ j (hj : j < k), p (l[j]'(by omega)) = false := by
  unfold idxP at h ⊢
  cases hk : l.findIdx? p with
  | none => rw [hk] at h; simp at h
  | some k =>
    simp only [List.findIdx?_eq_some_iff_getElem] at hk
    obtain ⟨hk, h1, h2⟩ := hk
    exact ⟨k, rfl, hk, h1, fun j hj => by simpa using h2 j hj⟩
theorem idxP_none {α : Type} {p : α → Bool} {l : List α} (h : idxP p l < 0) : ∀ x ∈ l, p x = false := by
  unfold idxP at h
  cases hk : l.findIdx? p with
  | none => simpa [List.findIdx?_eq_none_iff] using hk
  | some k => rw [hk] at h; simp at h; omega
theorem find_drop {α : Type} {p : α → Bool} {l : List α} {k : Nat} (hk : k < l.length) : ((l.drop k).findIdx? p).map (· + k) = if p l[k] then some k else ((l.drop (k + 1)).findIdx? p).map (· + (k + 1)) := by
  rw [List.drop_eq_getElem_cons hk, List.findIdx?_cons]
  split
  · simp
  · rw [Option.map_map]
    congr 1
    funext z
    simp; omega

/-- slices.Clone -/
def cloneI (sz : Nat) : Row → Heap → Option (AVal × Heap)
  | [.fsl _ s rows], H => if s = sz ∧ rows.length ≤ 4294967296 then (if rows.isEmpty then some (.esl, H) else some (.osl H.length sz 0 rows.length rows.length, newObj' H sz rows)) else none
  | [.osl id s st n _], H => match obj H id with
    | some (s', rows) => if s = sz ∧ s' = sz ∧ st + n ≤ rows.length ∧ n ≤ 4294967296 then (if n = 0 then some (.esl, H) else some (.osl H.length sz 0 n n, newObj' H sz ((rows.drop st).take n))) else none
    | none => none
  | [.esl], H => some (.esl, H)
  | _, _ => none
theorem cloneI_some {sz : Nat} {args : Row} {H H' : Heap} {r : AVal} (h : cloneI sz args H = some (r, H')) :
    (∃ o rows, args = [.fsl o sz rows] ∧ rows.length ≤ 4294967296 ∧ ((rows = [] ∧ r = .esl ∧ H' = H) ∨ (rows ≠ [] ∧ r = .osl H.length sz 0 rows.length rows.length ∧ H' = newObj' H sz rows))) ∨
    (∃ id st n kc rows, args = [.osl id sz st n kc] ∧ obj H id = some (sz, rows) ∧ st + n ≤ rows.length ∧ n ≤ 4294967296 ∧ ((n = 0 ∧ r = .esl ∧ H' = H) ∨ (n ≠ 0 ∧ r = .osl H.length sz 0 n n ∧ H' = newObj' H sz ((rows.drop st).take n)))) ∨
    (args = [.esl] ∧ r = .esl ∧ H' = H) := by
  unfold cloneI at h
  split at h
  · rename_i o s rows
    split at h
    · rename_i hc
      obtain ⟨rfl, hl⟩ := hc
      refine .inl ⟨o, rows, rfl, hl, ?_⟩
      split at h
      · rename_i he; simp at h; exact .inl ⟨by simpa using he, h.1.symm, h.2.symm⟩
      · rename_i he; simp at h; exact .inr ⟨by simpa using he, h.1.symm, h.2.symm⟩
    · cases h
  · rename_i id s st n kc
    split at h
    · rename_i s' rows hob
      split at h
      · rename_i hc
        obtain ⟨rfl, rfl, hle, hl⟩ := hc
        refine .inr (.inl ⟨id, st, n, kc, rows, rfl, hob, hle, hl, ?_⟩)
        split at h
        · rename_i he; simp at h; exact .inl ⟨he, h.1.symm, h.2.symm⟩
        · rename_i he; simp at h; exact .inr ⟨he, h.1.symm, h.2.symm⟩
      · cases h
    · cases h
  · simp at h; exact .inr (.inr ⟨rfl, h.1.symm, h.2.symm⟩)
  · cases h
end Go.AI
