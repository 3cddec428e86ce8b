/- A cell, or a slot, known a little less. -/
import Derived.Test.YtebpjfdbjhodiaaAiZe
namespace Go.AI
set_option linter.unusedSimpArgs false
set_option linter.unusedVariables false
open Go.RowKit
section
variable {n0 : Nat} {H : Heap}
theorem Ent.cell {ρ : Env} {M i j szM : Nat} {R : List Row} {row : Row} {a r : AVal} (hM : obj H M = some (szM, R)) (hr : R[i]? = some row) (hc : row[j]? = some a) (hs : Sof r a) :
    Ent n0 (ρ, H.set M (some (szM, R.set i (row.set j r)))) (ρ, H) := by
  intro f base w0 β fz act w hn0 h
  obtain ⟨hM1, hM2⟩ := obj_live hM
  have hlt : M < H.length := (List.getElem?_eq_some_iff.1 hM1).1
  have hold : ∀ k x, (H.set M (some (szM, R.set i (row.set j r))))[k]? = some (some x) → Live H k := by
    intro k x hk
    by_cases e : k = M
    · subst e; exact ⟨_, hM1⟩
    · rw [List.getElem?_set_ne (fun q => e q.symm)] at hk; exact ⟨_, hk⟩
  refine ⟨β, fz, ⟨⟨?_, ?_, ?_, h.heap.fzlt, h.heap.below, h.heap.base⟩, h.defers, h.size, ?_, ?_⟩⟩
  · intro k sz rws hk
    simp only [List.length_set]
    by_cases e : k = M
    · subst e
      rw [List.getElem?_set_self hlt] at hk
      simp only [Option.some.injEq, Prod.mk.injEq] at hk
      obtain ⟨rfl, rfl⟩ := hk
      rw [OSim, if_neg hM2]
      obtain ⟨cs, e, g1, g2, g3, g4, g5⟩ := h.heap.cells0 hM1 hM2
      have hi : i < R.length := (List.getElem?_eq_some_iff.1 hr).1
      have hrl := g2 row (List.mem_of_getElem? hr)
      refine ⟨cs, e, g1, ?_, by simpa using g3, g4, ?_⟩
      · intro r' hr'
        rcases List.mem_or_eq_of_mem_set hr' with q | q
        · exact g2 r' q
        · rw [q]; simpa using hrl
      · intro i' r' hi' j' c hj'
        by_cases hii : i' = i
        · subst hii
          rw [List.getElem?_set_self hi] at hi'
          cases hi'
          by_cases hjj : j' = j
          · subst hjj
            have hj : j' < row.length := (List.getElem?_eq_some_iff.1 hc).1
            rw [List.getElem?_set_self hj] at hj'
            cases hj'
            exact hs.known (g5 i' row hr j' _ hc)
          · rw [List.getElem?_set_ne (fun q => hjj q.symm)] at hj'
            exact g5 i' row hr j' c hj'
        · rw [List.getElem?_set_ne (fun q => hii q.symm)] at hi'
          exact g5 i' r' hi' j' c hj'
    · rw [List.getElem?_set_ne (fun q => e q.symm)] at hk
      exact h.heap.objs' k sz rws hk
  · exact fun a b ⟨x, hx⟩ ⟨y, hy⟩ => h.heap.inj a b (hold _ _ hx) (hold _ _ hy)
  · exact fun k ⟨x, hx⟩ => h.heap.own k (hold _ _ hx)
  · have := h.ext; simpa using this
  · intro t; have := h.env t; simpa using this
theorem Ent.slot {ρ : Env} {t : Nat} {r : AVal} (hs : Sof r (look ρ t)) : Ent n0 ((t, r) :: ρ, H) (ρ, H) := by
  intro f base w0 β fz act w hn0 h
  refine ⟨β, fz, ⟨h.heap, h.defers, h.size, h.ext, fun s => ?_⟩⟩
  simp only [look]
  split
  · rename_i e; subst e; exact hs.known (h.env s)
  · exact h.env s
/-- known less, whatever the memory -/
def Lss (a r : AVal) : Prop := ∀ {β : Nat → Nat} {ok : Bool → Nat → Prop} {w : World} {n : Nat} {v : Value}, (∀ o b, ok o b → ok false b) → R β ok w n a v → R β ok w n r v
theorem Lss.refl (a : AVal) : Lss a a := fun _ h => h
theorem Lss.sof {a r : AVal} (h : Sof r a) : Lss a r := fun _ hr => h.known hr
theorem Lss.cold (a : AVal) : Lss a (cold a) := fun hok h => cold_R h hok
theorem Ent.rowL {ρ : Env} {M i szM : Nat} {R : List Row} {row row' : Row} (hM : obj H M = some (szM, R)) (hr : R[i]? = some row) (hl : row'.length = row.length) (hs : ∀ (j : Nat) (a r : AVal), row[j]? = some a → row'[j]? = some r → Lss a r) :
    Ent n0 (ρ, H.set M (some (szM, R.set i row'))) (ρ, H) := by
  intro f base w0 β fz act w hn0 h
  obtain ⟨hM1, hM2⟩ := obj_live hM
  have hlt : M < H.length := (List.getElem?_eq_some_iff.1 hM1).1
  have hold : ∀ k x, (H.set M (some (szM, R.set i row')))[k]? = some (some x) → Live H k := by
    intro k x hk
    by_cases e : k = M
    · subst e; exact ⟨_, hM1⟩
    · rw [List.getElem?_set_ne (fun q => e q.symm)] at hk; exact ⟨_, hk⟩
  refine ⟨β, fz, ⟨⟨?_, ?_, ?_, h.heap.fzlt, h.heap.below, h.heap.base⟩, h.defers, h.size, ?_, ?_⟩⟩
  · intro k sz rws hk
    simp only [List.length_set]
    by_cases e : k = M
    · subst e
      rw [List.getElem?_set_self hlt] at hk
      simp only [Option.some.injEq, Prod.mk.injEq] at hk
      obtain ⟨rfl, rfl⟩ := hk
      rw [OSim, if_neg hM2]
      obtain ⟨cs, e, g1, g2, g3, g4, g5⟩ := h.heap.cells0 hM1 hM2
      have hi : i < R.length := (List.getElem?_eq_some_iff.1 hr).1
      have hrl := g2 row (List.mem_of_getElem? hr)
      refine ⟨cs, e, g1, ?_, by simpa using g3, g4, ?_⟩
      · intro r' hr'
        rcases List.mem_or_eq_of_mem_set hr' with q | q
        · exact g2 r' q
        · rw [q, hl]; exact hrl
      · intro i' r' hi' j' c hj'
        by_cases hii : i' = i
        · subst hii
          rw [List.getElem?_set_self hi] at hi'
          cases hi'
          have hj : j' < row.length := by have := (List.getElem?_eq_some_iff.1 hj').1; omega
          exact hs j' _ c (List.getElem?_eq_getElem hj) hj' (fun o b hb => ⟨hb.1, fun q => by cases q⟩) (g5 i' row hr j' _ (List.getElem?_eq_getElem hj))
        · rw [List.getElem?_set_ne (fun q => hii q.symm)] at hi'
          exact g5 i' r' hi' j' c hj'
    · rw [List.getElem?_set_ne (fun q => e q.symm)] at hk
      exact h.heap.objs' k sz rws hk
  · exact fun a b ⟨x, hx⟩ ⟨y, hy⟩ => h.heap.inj a b (hold _ _ hx) (hold _ _ hy)
  · exact fun k ⟨x, hx⟩ => h.heap.own k (hold _ _ hx)
  · have := h.ext; simpa using this
  · intro t; have := h.env t; simpa using this
theorem Ent.coldRow {ρ : Env} {M i szM : Nat} {R : List Row} {row : Row} (hM : obj H M = some (szM, R)) (hr : R[i]? = some row) : Ent n0 (ρ, H.set M (some (szM, R.set i (coldC row)))) (ρ, H) :=
  Ent.rowL hM hr (by rw [coldC_map]; simp) fun j a r ha hr => by
    rw [coldC_map, List.getElem?_map, ha] at hr
    cases hr
    exact Lss.cold a
theorem Ent.slotL {ρ : Env} {t : Nat} {r : AVal} (hs : Lss (look ρ t) r) : Ent n0 ((t, r) :: ρ, H) (ρ, H) := by
  intro f base w0 β fz act w hn0 h
  refine ⟨β, fz, ⟨h.heap, h.defers, h.size, h.ext, fun s => ?_⟩⟩
  simp only [look]
  split
  · rename_i e; subst e; exact hs (fun o b hb => ⟨hb.1, fun q => by cases q⟩) (h.env s)
  · exact h.env s
end
end Go.AI
