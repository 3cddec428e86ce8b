/- An own list, of which only a part is shown, becomes frozen data in the cell that holds it. -/
import Derived.Test.YtebpjfdbjhodiaaAiZg
namespace Go.AI
set_option linter.unusedSimpArgs false
set_option linter.unusedVariables false
open Go.RowKit
section
variable {base : Nat} {w0 : World} {β : Nat → Nat} {fz : Nat → Prop} {H : Heap} {w : World} {P : Program} {n0 : Nat}
/-- what a list of one's own is, frozen -/
theorem HSim.frozeT (hs : HSim base w0 β fz H w) {n sz kc len : Nat} {rows : List Row} (hob : obj H n = some (sz, rows)) (hlen : len ≤ rows.length) (hflat : ∀ r ∈ rows, r.all (lowA 0) = true) {v : Value} {fz' : Nat → Prop} (hf : ∀ b, fz b → fz' b) (hn : fz' (β n)) {m : Nat}
    (h : R β (okOf base fz) w H.length (.osl n sz 0 len kc) v) : R β (okOf base fz') w m (.fsl true sz (rows.take len)) v := by
  cases h with
  | @osl _ _ _ _ _ _ a cap h hl hk ha =>
    by_cases h0 : len = 0
    · subst h0; rw [List.take_zero]; exact .fsl0
    · have hpos : 0 < len := Nat.pos_of_ne_zero h0
      have hlt : (rows.take len).length = len := by rw [List.length_take]; omega
      rcases ha with ha | ⟨rfl, _⟩
      · omega
      · obtain ⟨cs, e, g1, g2, g3, g4, g5⟩ := hs.cells hob
        rw [Nat.zero_mul]
        have key : AI.R β (okOf base fz') w m (.fsl true sz (rows.take len)) (.slice (some ⟨β n, 0, none⟩) (rows.take len).length cap) := by
         refine .fsl (fun i j => cs[i * sz + j]?.getD undef) (by rw [hlt]; omega) (fun r hr => g2 r (List.mem_of_mem_take hr)) (fun _ => ⟨hn, fun _ => (hs.own n ⟨_, obj_some hob⟩).1⟩) ?_ ?_
         · intro i j hi hj
           rw [hlt] at hi
           have h1 : i * sz + j < rows.length * sz := row_lt (by omega) hj
           have h2 : i * sz + j < cs.size := by omega
           rw [Nat.zero_add]
           exact ⟨by simp [World.cell?, g1, h2], g4 (i * sz + j) _ (by simp [h2])⟩
         · intro i r hi j c hj
           have hi2 : rows[i]? = some r := by
             rw [List.getElem?_take] at hi
             split at hi
             · exact hi
             · cases hi
           have hr := g5 i r hi2 j c hj
           have hlow := hflat r (List.mem_of_getElem? hi2)
           rw [List.all_eq_true] at hlow
           have := low_R hr (hlow c (List.mem_of_getElem? hj))
           exact this.mono (Nat.le_refl 0) (fun _ h => absurd h (Nat.not_lt_zero _)) (fun _ b hb => ⟨hf b hb.1, hb.2⟩) (fun _ _ _ => rfl) (Shapes.refl w)
        rw [hlt] at key
        exact key
/-- a list of one's own, frozen in the cell that holds it -/
theorem Ent.frzT {ρ : Env} {n M i j sz kc szM len : Nat} {rows R : List Row} {r : Row} (hob : obj H n = some (sz, rows)) (hlen : len ≤ rows.length) (hflat : ∀ r ∈ rows, r.all (lowA 0) = true)
    (hM : obj H M = some (szM, R)) (hMn : M ≠ n) (hr : R[i]? = some r) (hc : r[j]? = some (.osl n sz 0 len kc)) :
    Ent n0 (ρ, (H.set M (some (szM, R.set i (r.set j (.fsl true sz (rows.take len)))))).set n none) (ρ, H) := by
  intro f base w0 β fz a w hn0 hs
  have hl : Live H n := ⟨_, obj_some hob⟩
  obtain ⟨s1, e1⟩ := hs.heap.freeze hl
  obtain ⟨hM1, hM2⟩ := obj_live hM
  have hMH : (H.set n none)[M]? = some (some (szM, R)) := by rw [List.getElem?_set_ne (fun e => hMn e.symm)]; exact hM1
  have hlen2 : (H.set n none).length = H.length := by simp
  have hcomm : (H.set M (some (szM, R.set i (r.set j (.fsl true sz (rows.take len)))))).set n none = (H.set n none).set M (some (szM, R.set i (r.set j (.fsl true sz (rows.take len))))) := List.set_comm _ _ hMn
  refine ⟨β, fun b => fz b ∨ b = β n, ⟨?_, hs.defers, hs.size, ?_, fun t => ?_⟩⟩
  · simp only []
    rw [hcomm]
    refine ⟨?_, ?_, ?_, s1.fzlt, s1.below, s1.base⟩
    · intro k sz' rws hk
      rw [List.length_set]
      by_cases hkM : k = M
      · subst hkM
        have hlt : k < (H.set n none).length := (List.getElem?_eq_some_iff.1 hMH).1
        rw [List.getElem?_set_self hlt] at hk
        simp only [Option.some.injEq, Prod.mk.injEq] at hk
        obtain ⟨rfl, rfl⟩ := hk
        rw [OSim, if_neg hM2]
        obtain ⟨cs, e, g1, g2, g3, g4, g5⟩ := s1.cells0 hMH hM2
        have hi : i < R.length := (List.getElem?_eq_some_iff.1 hr).1
        have hrl := g2 r (List.mem_of_getElem? hr)
        refine ⟨cs, e, g1, ?_, by simpa using g3, g4, ?_⟩
        · intro r' hr'
          rcases List.mem_or_eq_of_mem_set hr' with h | h
          · exact g2 r' h
          · rw [h]; simpa using hrl
        · intro i' r' hi' j' c hj'
          by_cases hii : i' = i
          · subst hii
            rw [List.getElem?_set_self hi] at hi'
            cases hi'
            by_cases hjj : j' = j
            · subst hjj
              have hj : j' < r.length := (List.getElem?_eq_some_iff.1 hc).1
              rw [List.getElem?_set_self hj] at hj'
              cases hj'
              obtain ⟨cs0, e0, q1, _, _, _, q5⟩ := hs.heap.cells hM
              rw [g1] at q1
              cases q1
              exact hs.heap.frozeT hob hlen hflat (fun b hb => .inl hb) (.inr rfl) (q5 i' r hr j' _ hc)
            · rw [List.getElem?_set_ne (fun e => hjj e.symm)] at hj'
              exact g5 i' r hr j' c hj'
          · rw [List.getElem?_set_ne (fun e => hii e.symm)] at hi'
            exact g5 i' r' hi' j' c hj'
      · rw [List.getElem?_set_ne (fun e => hkM e.symm)] at hk
        exact s1.objs' k sz' rws hk
    · exact fun a b ha hb => s1.inj a b (ha.set ⟨_, hMH⟩) (hb.set ⟨_, hMH⟩)
    · exact fun k hk => s1.own k (hk.set ⟨_, hMH⟩)
  · have := hs.ext.trans e1
    simpa using this
  · have := (hs.env t).ext e1
    simpa using this
end
end Go.AI
