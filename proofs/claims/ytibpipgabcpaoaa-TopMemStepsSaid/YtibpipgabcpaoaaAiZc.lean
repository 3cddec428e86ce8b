/- Slices of slices of one's own; results that are known a little less. -/
import Derived.Test.YtibpipgabcpaoaaGC
set_option linter.unusedSimpArgs false
set_option linter.unusedVariables false
namespace Go.AI
open Go.RowKit
def oA (id sz n : Nat) : AVal := if n = 0 then .esl else .osl id sz 0 n n
theorem thOf_range {n0 m id : Nat} (h : id < n0 + m) : thOf n0 (List.range' n0 m) id = id := by
 unfold thOf
 split
 ·rfl
 ·rename_i h2
  rw [List.getElem?_range' (by omega)]
  simp; omega
mutual
theorem ren_id {n0 m : Nat} : ∀ a : AVal, lowA (n0 + m) a = true → ren n0 (List.range' n0 m) a = a
 | .ptr id _ _ _, h => by simp only [lowA, decide_eq_true_eq] at h; simp only [ren, thOf_range h]
 | .osl id _ _ _ _, h => by simp only [lowA, decide_eq_true_eq] at h; simp only [ren, thOf_range h]
 | .xsl id _ _ _ _, h => by simp only [lowA, decide_eq_true_eq] at h; simp only [ren, thOf_range h]
 | .agg cs, h => by simp only [lowA] at h; simp only [ren, renC_id cs h]
 | .tup cs, h => by simp only [lowA] at h; simp only [ren, renC_id cs h]
 | .fn _ cs, h => by simp only [lowA] at h; simp only [ren, renC_id cs h]
 | .when _ a, h => by simp only [lowA] at h; simp only [ren, ren_id a h]
 | .ifc _ a, h => by simp only [lowA] at h; simp only [ren, ren_id a h]
 | .meth _ _, _ => rfl
 | .junk, _ => rfl
 | .anyb, _ => rfl
 | .v _, _ => rfl
 | .fptr _ _, _ => rfl
 | .fsl _ _ _, _ => rfl
 | .esl, _ => rfl
theorem renC_id {n0 m : Nat} : ∀ l : List AVal, lowC (n0 + m) l = true → renC n0 (List.range' n0 m) l = l
 | [], _ => rfl
 | a :: r, h => by
  simp only [lowC, Bool.and_eq_true] at h
  simp only [renC, ren_id a h.1, renC_id r h.2]
end
section
variable {P : Program} {C : Orc} {nt : Nat} {ρ : Env} {H : Heap}
end
inductive Sof : AVal → AVal → Prop
 | refl (a : AVal) : Sof a a
 | esl {o : Bool} {sz : Nat} : Sof (.fsl o sz []) .esl
 | nil {o : Bool} {sz : Nat} : Sof (.fsl o sz []) (.v (.slice none 0 0))
 | agg {rs xs : List AVal} (hl : rs.length = xs.length) (h : ∀ (j : Nat) (r x : AVal), rs[j]? = some r → xs[j]? = some x → Sof r x) : Sof (.agg rs) (.agg xs)
 | tup {rs xs : List AVal} (hl : rs.length = xs.length) (h : ∀ (j : Nat) (r x : AVal), rs[j]? = some r → xs[j]? = some x → Sof r x) : Sof (.tup rs) (.tup xs)
 | fsl {o : Bool} {sz : Nat} {rs xs : List Row} (hl : rs.length = xs.length) (hs : ∀ r ∈ rs, r.length = sz) (h : ∀ (i : Nat) (r x : Row), rs[i]? = some r → xs[i]? = some x → ∀ (j : Nat) (a b : AVal), r[j]? = some a → x[j]? = some b → Sof a b) : Sof (.fsl o sz rs) (.fsl o sz xs)
theorem Sof.known {r x : AVal} (h : Sof r x) : ∀ {β : Nat → Nat} {ok : Bool → Nat → Prop} {w : World} {n : Nat} {v : Value}, R β ok w n x v → R β ok w n r v := by
 induction h with
 | refl => intro β ok w n v h; exact h
 | esl => intro β ok w n v h; cases h; exact .fsl0
 | nil => intro β ok w n v h; rw [h.v_inv]; exact .fsl0
 | @agg rs xs hl h ih =>
  intro β ok w n v hx
  cases hx with
  | agg hl2 hr =>
   refine .agg (hl.trans hl2) fun j a ha => ?_
   have hj : j < xs.length := by have := (List.getElem?_eq_some_iff.1 ha).1; omega
   exact ih j a xs[j] ha (List.getElem?_eq_getElem hj) (hr j _ (List.getElem?_eq_getElem hj))
 | @tup rs xs hl h ih =>
  intro β ok w n v hx
  cases hx with
  | tup hl2 hr =>
   refine .tup (hl.trans hl2) fun j a ha => ?_
   have hj : j < xs.length := by have := (List.getElem?_eq_some_iff.1 ha).1; omega
   exact ih j a xs[j] ha (List.getElem?_eq_getElem hj) (hr j _ (List.getElem?_eq_getElem hj))
 | @fsl o sz rs xs hl hs h ih =>
  intro β ok w n v hx
  cases hx with
  | @fsl _ _ _ _ b off cap x' hl2 hs2 hb hc hr =>
   rw [← hl]
   refine .fsl x' (by omega) hs (fun ⟨r, hr, hne⟩ => hb (by
    have hz : 0 < sz := by rw [← hs r hr]; exact List.length_pos_iff.2 hne
    have h00 : 0 < xs.length := by have := List.length_pos_of_mem hr; omega
    exact ⟨xs[0], List.getElem_mem h00, List.length_pos_iff.1 (by rw [hs2 _ (List.getElem_mem h00)]; exact hz)⟩)) (fun i j hi hj => hc i j (by omega) hj) fun i r hi j a ha => ?_
   have hil : i < xs.length := by have := (List.getElem?_eq_some_iff.1 hi).1; omega
   have hjl : j < xs[i].length := by
    rw [hs2 _ (List.getElem_mem hil)]
    have h1 := (List.getElem?_eq_some_iff.1 ha).1
    rwa [hs r (List.mem_of_getElem? hi)] at h1
   exact ih i r xs[i] hi (List.getElem?_eq_getElem hil) j a xs[i][j] ha (List.getElem?_eq_getElem hjl) (hr i _ (List.getElem?_eq_getElem hil) j _ (List.getElem?_eq_getElem hjl))
  | fsl0 =>
   have : rs = [] := List.length_eq_zero_iff.1 hl
   subst this
   exact .fsl0
section
variable {P : Program} {f : FuncId} {fn : Func} {c : Code}
variable {α₁ α₂ α₃ α₄ : Type}
end
-- slices of slices: as they come, some of them copied; all copied
section
variable {α : Type} {sz c n d : Nat} {g : α → Row} {L : List (List α)}
theorem allV_oA {id k : Nat} {r : Row} : allV (oA id sz k :: r) = none := by unfold oA; split <;> rfl
theorem oneA_oA {id k : Nat} : oneA (oA id sz k) = true := by unfold oA; split <;> rfl
theorem res_oA {b : Bool} {id k : Nat} : res b (oA id sz k) = oA id sz k := by unfold oA; split <;> rfl
end
end Go.AI
