/- Code; functions. -/
import Derived.Test.YtdakclpneghkmaaGreatDoorL09
import Derived.Deep.LoopGhost
import Derived.LoopN
namespace Go.AI
set_option linter.unusedSimpArgs false
set_option linter.unusedVariables false
open Go.RowKit

mutual
/-- every id in it is below n -/
def lowA (n : Nat) : AVal → Bool
  | .ptr id _ _ _ => decide (id < n)
  | .osl id _ _ _ _ => decide (id < n)
  | .xsl id _ _ _ _ => decide (id < n)
  | .agg cs => lowC n cs
  | .tup vs => lowC n vs
  | .fn _ caps => lowC n caps
  | .when _ a => lowA n a
  | .ifc _ a => lowA n a
  | _ => true
def lowC (n : Nat) : List AVal → Bool
  | [] => true
  | a :: r => lowA n a && lowC n r
end
theorem lowC_all (n : Nat) (l : Row) : lowC n l = l.all (lowA n) := by
  induction l with
  | nil => simp [lowC]
  | cons a r ih => simp [lowC, ih]

theorem low_R {β : Nat → Nat} {ok : Bool → Nat → Prop} {w : World} {n n' : Nat} {a : AVal} {x : Value} (h : R β ok w n a x) (hl : lowA n' a = true) : R β ok w n' a x := by
  induction h with
  | junk => exact .junk
  | anyb => exact .anyb
  | v => exact .v
  | ptr h h0 => exact .ptr (by simpa [lowA] using hl) h0
  | mp h => exact .mp (by simpa [lowA] using hl)
  | fptr x hb hc hr ih => exact .fptr x hb hc hr
  | osl h hl' hk ha => exact .osl (by simpa [lowA] using hl) hl' hk ha
  | xsl h hl' ha => exact .xsl (by simpa [lowA] using hl) hl' ha
  | fsl x hl' hs hb hc hr ih => exact .fsl x hl' hs hb hc hr
  | fsl0 => exact .fsl0
  | esl => exact .esl
  | agg hl' hr ih =>
    simp only [lowA, lowC_all] at hl
    exact .agg hl' fun j a ha => ih j a ha (List.all_eq_true.1 hl a (List.mem_of_getElem? ha))
  | tup hl' hr ih =>
    simp only [lowA, lowC_all] at hl
    exact .tup hl' fun j a ha => ih j a ha (List.all_eq_true.1 hl a (List.mem_of_getElem? ha))
  | fn hl' hr ih =>
    simp only [lowA, lowC_all] at hl
    exact .fn hl' fun j a ha => ih j a ha (List.all_eq_true.1 hl a (List.mem_of_getElem? ha))
  | when h hu ih => exact .when (fun hb => ih hb (by simpa [lowA] using hl)) hu
  | ifc h ih => exact .ifc (ih (by simpa [lowA] using hl))
  | meth => exact .meth

/-- the objects of the first are objects of the second -/
def heapW (n : Nat) : Heap → Heap → Prop
  | [], _ => True
  | none :: r', _ :: r => heapW n r' r
  | none :: r', [] => heapW n r' []
  | some o :: r', some o' :: r => o = o' ∧ (o.2.all fun row => row.all (lowA n)) = true ∧ heapW n r' r
  | _, _ => False

def Weaker (n0 : Nat) (s' s : Env × Heap) : Prop :=
  n0 ≤ s'.2.length ∧ (∀ p ∈ s'.1, look s.1 p.1 = p.2 ∧ lowA s'.2.length p.2 = true) ∧ heapW s'.2.length s'.2 s.2

theorem heapW_get {n : Nat} : ∀ {H' H : Heap}, heapW n H' H → ∀ (id : Nat) o, H'[id]? = some (some o) → H[id]? = some (some o) ∧ (o.2.all fun row => row.all (lowA n)) = true
  | [], H, _ => fun id o h => by simp at h
  | none :: r', [], h => by
    simp only [heapW] at h
    have h2 := heapW_get h
    intro id o ho
    cases id with
    | zero => simp at ho
    | succ id => have := h2 id o (by simpa using ho); simp at this
  | some o :: r', [], h => by simp [heapW] at h
  | none :: r', x :: r, h => by
    simp only [heapW] at h
    have h2 := heapW_get h
    intro id o ho
    cases id with
    | zero => simp at ho
    | succ id => simpa using h2 id o (by simpa using ho)
  | some o :: r', none :: r, h => by simp [heapW] at h
  | some o :: r', some o' :: r, h => by
    simp only [heapW] at h
    obtain ⟨rfl, ha, h⟩ := h
    have h2 := heapW_get h
    intro id p hp
    cases id with
    | zero => simp at hp; subst hp; exact ⟨by simp, ha⟩
    | succ id => simpa using h2 id p (by simpa using hp)

theorem look_mem (ρ : Env) (t : Nat) : look ρ t = .junk ∨ (t, look ρ t) ∈ ρ := by
  induction ρ with
  | nil => exact .inl rfl
  | cons p r ih =>
    obtain ⟨s, a⟩ := p
    simp only [look]
    split
    · rename_i h; subst h; right; simp
    · rcases ih with h | h
      · exact .inl h
      · right; simp [h]

section
variable {nt : Fr} {base : Nat} {w0 : World} {β : Nat → Nat} {fz : Nat → Prop} {ρ ρ' : Env} {H H' : Heap} {a : Act} {w : World} {P : Program} {C : Orc}

theorem Sim.weaker (hs : Sim nt base w0 β fz ρ H a w) (h : Weaker nt.n0 (ρ', H') (ρ, H)) : Sim nt base w0 β fz ρ' H' a w := by
  obtain ⟨h0, h1, h2⟩ := h
  simp only at h0 h1 h2
  have g2 := heapW_get h2
  have hlive : ∀ id, Live H' id → Live H id := fun id ⟨o, ho⟩ => ⟨o, (g2 id o ho).1⟩
  refine ⟨⟨?_, fun a b ha hb => hs.heap.inj a b (hlive a ha) (hlive b hb), fun id hid => hs.heap.own id (hlive id hid), hs.heap.fzlt, hs.heap.below, hs.heap.base⟩, hs.defers, hs.size, ⟨h0, hs.ext.hβ, hs.ext.hfz, hs.ext.blk, hs.ext.shape⟩, fun t => ?_⟩
  · intro id sz rows hid
    obtain ⟨k1, k2⟩ := g2 id _ hid
    have hlow : ∀ (i : Nat) (r : Row), rows[i]? = some r → ∀ (j : Nat) (c : AVal), r[j]? = some c → lowA H'.length c = true := fun i r hi j c hj => by
      have h3 := List.all_eq_true.1 k2 r (List.mem_of_getElem? hi)
      exact List.all_eq_true.1 h3 c (List.mem_of_getElem? hj)
    have hO := hs.heap.objs' id sz rows k1
    unfold OSim at hO ⊢
    split at hO
    · rename_i h0
      rw [if_pos h0]
      rcases hO with hO | hO
      case inr => exact .inr (hO.same (fun r hr c hc v hR => low_R hR (List.all_eq_true.1 (List.all_eq_true.1 k2 r hr) c hc)) rfl)
      obtain ⟨rs, hp, es, clock, q1, q2, hbn, q3⟩ := hO
      refine .inl ⟨rs, hp, es, clock, q1, q2, hbn, fun i r hi => ?_⟩
      obtain ⟨en, x, p1, p2, p3⟩ := q3 i r hi
      obtain ⟨i', hi'⟩ := List.mem_iff_getElem?.1 (hp.mem_iff.1 (List.mem_of_getElem? hi))
      exact ⟨en, x, p1, p2, low_R p3 (hlow i' r hi' 1 x (by rw [p2]; rfl))⟩
    · rename_i h0
      rw [if_neg h0]
      obtain ⟨cs, e, q1, q2, q3, q4, q5⟩ := hO
      exact ⟨cs, e, q1, q2, q3, q4, fun i r hi j c hj => low_R (q5 i r hi j c hj) (hlow i r hi j c hj)⟩
  · rcases look_mem ρ' t with h | h
    · rw [h]; exact .junk
    · obtain ⟨k1, k2⟩ := h1 _ h
      simp only at k1 k2
      rw [← k1]
      rw [← k1] at k2
      exact low_R (hs.env t) k2

/-- ids under other names -/
def thOf (n0 : Nat) (th : List Nat) (id : Nat) : Nat := if id < n0 then id else (th[id - n0]?).getD id
mutual
def ren (n0 : Nat) (th : List Nat) : AVal → AVal
  | .ptr id sz i off => .ptr (thOf n0 th id) sz i off
  | .osl id sz s len kc => .osl (thOf n0 th id) sz s len kc
  | .xsl id sz s len kc => .xsl (thOf n0 th id) sz s len kc
  | .agg cs => .agg (renC n0 th cs)
  | .tup vs => .tup (renC n0 th vs)
  | .fn f caps => .fn f (renC n0 th caps)
  | .when b a => .when b (ren n0 th a)
  | .ifc t a => .ifc t (ren n0 th a)
  | a => a
def renC (n0 : Nat) (th : List Nat) : List AVal → List AVal
  | [] => []
  | a :: r => ren n0 th a :: renC n0 th r
end
theorem renC_map (n0 : Nat) (th : List Nat) (l : Row) : renC n0 th l = l.map (ren n0 th) := by
  induction l with
  | nil => simp [renC]
  | cons a r ih => simp [renC, ih]

theorem ren_R {β : Nat → Nat} {ok : Bool → Nat → Prop} {w : World} {n n' n0 : Nat} {th : List Nat} : ∀ (a : AVal) (x : Value), R β ok w n (ren n0 th a) x → lowA n' a = true → R (fun id => β (thOf n0 th id)) ok w n' a x
  | .junk, x, h, hl => .junk
  | .anyb, x, h, hl => by simp only [ren] at h; cases h; exact .anyb
  | .v y, x, h, hl => by simp only [ren] at h; cases h; exact .v
  | .ptr id sz i off, x, h, hl => by
    simp only [ren] at h
    cases h with
    | ptr h h0 => exact .ptr (β := fun id => β (thOf n0 th id)) (by simpa [lowA] using hl) h0
    | mp h => exact .mp (β := fun id => β (thOf n0 th id)) (by simpa [lowA] using hl)
  | .fptr row off, x, h, hl => by
    simp only [ren] at h
    cases h with
    | fptr x' hb hc hr => exact .fptr x' hb hc (fun j a ha => (hr j a ha).mono (Nat.zero_le _) (fun _ h => absurd h (Nat.not_lt_zero _)) (fun _ _ h => h) (fun _ _ _ => rfl) (Shapes.refl _))
  | .osl id sz s len kc, x, h, hl => by
    simp only [ren] at h
    cases h with
    | osl h hl' hk ha => exact .osl (β := fun id => β (thOf n0 th id)) (by simpa [lowA] using hl) hl' hk ha
  | .xsl id sz s len kc, x, h, hl => by
    simp only [ren] at h
    cases h with
    | xsl h hl' ha => exact .xsl (β := fun id => β (thOf n0 th id)) (by simpa [lowA] using hl) hl' ha
  | .fsl o sz rows, x, h, hl => by
    simp only [ren] at h
    cases h with
    | fsl x' hl' hs hb hc hr => exact .fsl x' hl' hs hb hc (fun i r hi j a ha => (hr i r hi j a ha).mono (Nat.zero_le _) (fun _ h => absurd h (Nat.not_lt_zero _)) (fun _ _ h => h) (fun _ _ _ => rfl) (Shapes.refl _))
    | fsl0 => exact .fsl0
  | .esl, x, h, hl => by simp only [ren] at h; cases h; exact .esl
  | .agg cs, x, h, hl => by
    simp only [ren, renC_map] at h
    simp only [lowA, lowC_all] at hl
    cases h with
    | agg hl' hr => exact .agg (by simpa using hl') fun j a ha => ren_R a _ (hr j (ren n0 th a) (by simp [ha])) (List.all_eq_true.1 hl a (List.mem_of_getElem? ha))
  | .tup cs, x, h, hl => by
    simp only [ren, renC_map] at h
    simp only [lowA, lowC_all] at hl
    cases h with
    | tup hl' hr => exact .tup (by simpa using hl') fun j a ha => ren_R a _ (hr j (ren n0 th a) (by simp [ha])) (List.all_eq_true.1 hl a (List.mem_of_getElem? ha))
  | .fn f cs, x, h, hl => by
    simp only [ren, renC_map] at h
    simp only [lowA, lowC_all] at hl
    cases h with
    | fn hl' hr => exact .fn (by simpa using hl') fun j a ha => ren_R a _ (hr j (ren n0 th a) (by simp [ha])) (List.all_eq_true.1 hl a (List.mem_of_getElem? ha))
  | .when b a, x, h, hl => by
    simp only [ren] at h
    cases h with
    | when h hu => exact .when (fun hb => ren_R a _ (h hb) (by simpa [lowA] using hl)) hu
  | .ifc t a, x, h, hl => by
    simp only [ren] at h
    cases h with
    | ifc h => exact .ifc (ren_R a _ h (by simpa [lowA] using hl))
  | .meth nm t, x, h, hl => by
    simp only [ren] at h
    cases h
    exact .meth
termination_by a => SizeOf.sizeOf a
decreasing_by
  all_goals simp_wf
  all_goals first
    | (have := List.sizeOf_lt_of_mem (List.mem_of_getElem? ha); omega)
    | omega

/-- the objects of the first, under other names, are objects of the second -/
def heapT (n0 : Nat) (th : List Nat) (n : Nat) (H : Heap) : Nat → Heap → Prop
  | _, [] => True
  | i, none :: r => heapT n0 th n H (i + 1) r
  | i, some o :: r => H[thOf n0 th i]? = some (some (o.1, o.2.map (List.map (ren n0 th)))) ∧ (o.2.all fun row => row.all (lowA n)) = true ∧ heapT n0 th n H (i + 1) r

def WeakT (n0 : Nat) (th : List Nat) (s' s : Env × Heap) : Prop :=
  (n0 ≤ s'.2.length ∧ n0 ≤ s.2.length) ∧ (th.Nodup ∧ n0 + th.length = s'.2.length ∧ ∀ x ∈ th, n0 ≤ x) ∧ (∀ p ∈ s'.1, look s.1 p.1 = ren n0 th p.2 ∧ lowA s'.2.length p.2 = true) ∧ heapT n0 th s'.2.length s.2 0 s'.2

theorem heapT_get {n0 n : Nat} {th : List Nat} {H : Heap} : ∀ {H' : Heap} {k : Nat}, heapT n0 th n H k H' → ∀ (id : Nat) o, H'[id]? = some (some o) → H[thOf n0 th (k + id)]? = some (some (o.1, o.2.map (List.map (ren n0 th)))) ∧ (o.2.all fun row => row.all (lowA n)) = true
  | [], k, _, id, o, h => by simp at h
  | none :: r', k, h, id, o, ho => by
    simp only [heapT] at h
    cases id with
    | zero => simp at ho
    | succ id =>
      have := heapT_get h id o (by simpa using ho)
      rwa [show k + (id + 1) = k + 1 + id by omega]
  | some p :: r', k, h, id, o, ho => by
    simp only [heapT] at h
    obtain ⟨h1, h2, h3⟩ := h
    cases id with
    | zero => simp at ho; subst ho; exact ⟨h1, h2⟩
    | succ id =>
      have := heapT_get h3 id o (by simpa using ho)
      rwa [show k + (id + 1) = k + 1 + id by omega]

theorem ren_v {n0 : Nat} {th : List Nat} {y : AVal} {k : Value} (h : ren n0 th y = .v k) : y = .v k := by
  cases y with
  | v x => simpa only [ren] using h
  | _ => simp only [ren, reduceCtorEq] at h
theorem ren_pair {n0 : Nat} {th : List Nat} {r : Row} {k : Value} {a : AVal} (h : r.map (ren n0 th) = [.v k, a]) : ∃ z, r = [.v k, z] ∧ ren n0 th z = a := by
  cases r with
  | nil => simp at h
  | cons y r =>
    cases r with
    | nil => simp at h
    | cons z r =>
      cases r with
      | nil =>
        simp only [List.map_cons, List.map_nil, List.cons.injEq, and_true] at h
        exact ⟨z, by rw [ren_v h.1], h.2⟩
      | cons _ _ => simp at h


theorem perm_unmap {α γ : Type} {f : α → γ} : ∀ {rs : List γ} {l : List α}, rs.Perm (l.map f) → ∃ l' : List α, l'.Perm l ∧ rs = l'.map f
  | [], l, h => by
    have : l = [] := by simpa using h.nil_eq.symm
    exact ⟨[], by rw [this], rfl⟩
  | x :: rs, l, h => by
    have hx : x ∈ l.map f := h.mem_iff.1 (by simp)
    obtain ⟨a, ha, rfl⟩ := List.mem_map.1 hx
    obtain ⟨s, t, rfl⟩ := List.append_of_mem ha
    have h2 : rs.Perm ((s ++ t).map f) := by
      have h3 : (f a :: rs).Perm (f a :: (s ++ t).map f) := h.trans (by
        rw [List.map_append, List.map_cons, List.map_append]; exact List.perm_middle)
      exact (List.perm_cons _).1 h3
    obtain ⟨l', h4, h5⟩ := perm_unmap h2
    exact ⟨a :: l', (h4.cons a).trans List.perm_middle.symm, by rw [h5]; rfl⟩
theorem Sim.weakT {th : List Nat} (hs : Sim nt base w0 β fz ρ H a w) (h : WeakT nt.n0 th (ρ', H') (ρ, H)) : Sim nt base w0 (fun id => β (thOf nt.n0 th id)) fz ρ' H' a w := by
  obtain ⟨⟨h0, h0'⟩, ⟨hnd, hlen, hge⟩, h1, h2⟩ := h
  simp only at h0 h0' h1 h2 hlen
  have g2 : ∀ (id : Nat) o, H'[id]? = some (some o) → H[thOf nt.n0 th id]? = some (some (o.1, o.2.map (List.map (ren nt.n0 th)))) ∧ (o.2.all fun row => row.all (lowA H'.length)) = true := by
    intro id o ho
    have := heapT_get h2 id o ho
    simpa using this
  have hlive : ∀ id, Live H' id → Live H (thOf nt.n0 th id) := fun id ⟨o, ho⟩ => ⟨_, (g2 id o ho).1⟩
  have hinj : ∀ a b, a < H'.length → b < H'.length → thOf nt.n0 th a = thOf nt.n0 th b → a = b := by
    intro a b ha hb hab
    have key : ∀ c, c < H'.length → ¬ c < nt.n0 → ∃ hc : c - nt.n0 < th.length, thOf nt.n0 th c = th[c - nt.n0] := by
      intro c hc hn
      have hc' : c - nt.n0 < th.length := by omega
      exact ⟨hc', by simp [thOf, hn, hc']⟩
    by_cases qa : a < nt.n0 <;> by_cases qb : b < nt.n0
    · simpa [thOf, qa, qb] using hab
    · obtain ⟨hc, e⟩ := key b hb qb
      have := hge _ (List.getElem_mem hc)
      rw [e] at hab
      simp [thOf, qa] at hab
      omega
    · obtain ⟨hc, e⟩ := key a ha qa
      have := hge _ (List.getElem_mem hc)
      rw [e] at hab
      simp [thOf, qb] at hab
      omega
    · obtain ⟨hc, e⟩ := key a ha qa
      obtain ⟨hd, e'⟩ := key b hb qb
      rw [e, e'] at hab
      have hpw := List.pairwise_iff_getElem.1 hnd
      rcases Nat.lt_trichotomy (a - nt.n0) (b - nt.n0) with q | q | q
      · exact absurd hab (hpw _ _ hc hd q)
      · omega
      · exact absurd hab.symm (hpw _ _ hd hc q)
  have hlt : ∀ id, Live H' id → id < H'.length := fun id ⟨o, ho⟩ => (List.getElem?_eq_some_iff.1 ho).1
  refine ⟨⟨?_, fun a b ha hb hab => hinj a b (hlt a ha) (hlt b hb) (hs.heap.inj _ _ (hlive a ha) (hlive b hb) hab), fun id hid => hs.heap.own _ (hlive id hid), hs.heap.fzlt, hs.heap.below, hs.heap.base⟩, hs.defers, hs.size, ⟨h0, fun id hid => ?_, hs.ext.hfz, hs.ext.blk, hs.ext.shape⟩, fun t => ?_⟩
  · intro id sz rows hid
    obtain ⟨k1, k2⟩ := g2 id _ hid
    have hO := hs.heap.objs' _ sz _ k1
    unfold OSim at hO ⊢
    split at hO
    · rename_i h0
      rw [if_pos h0]
      rcases hO with hO | hO
      case inr => exact .inr (hO.unmap (fun r hr c hc v hR => ren_R c _ hR (List.all_eq_true.1 (List.all_eq_true.1 k2 r hr) c hc)) rfl)
      obtain ⟨rs', hp', es, clock, q1, q2, hbn, q3⟩ := hO
      obtain ⟨rs, hp, rfl⟩ := perm_unmap hp'
      refine .inl ⟨rs, hp, es, clock, q1, by simpa using q2, hbn, fun i r hi => ?_⟩
      obtain ⟨en, x, p1, p2, p3⟩ := q3 i (r.map (ren nt.n0 th)) (by simp [hi])
      have h3 := List.all_eq_true.1 k2 r (hp.mem_iff.1 (List.mem_of_getElem? hi))
      obtain ⟨z, rfl, p5⟩ := ren_pair p2
      rw [← p5] at p3
      exact ⟨en, z, p1, rfl, ren_R z _ p3 (List.all_eq_true.1 h3 z (by simp))⟩
    · rename_i h0
      rw [if_neg h0]
      obtain ⟨cs, e, q1, q2, q3, q4, q5⟩ := hO
      refine ⟨cs, e, q1, fun r hr => ?_, by simpa using q3, q4, fun i r hi j c hj => ?_⟩
      · have := q2 (r.map (ren nt.n0 th)) (by simp; exact ⟨r, hr, rfl⟩)
        simpa using this
      · have h3 := List.all_eq_true.1 k2 r (List.mem_of_getElem? hi)
        exact ren_R c _ (q5 i (r.map (ren nt.n0 th)) (by simp [hi]) j (ren nt.n0 th c) (by simp [hj])) (List.all_eq_true.1 h3 c (List.mem_of_getElem? hj))
  · have : thOf nt.n0 th id = id := by simp [thOf, hid]
    simp only [this]
    exact hs.ext.hβ id hid
  · rcases look_mem ρ' t with h | h
    · rw [h]; exact .junk
    · obtain ⟨k1, k2⟩ := h1 _ h
      simp only at k1 k2
      have := hs.env t
      rw [k1] at this
      exact ren_R _ _ this k2

abbrev Post := Exit → Env → Heap → Prop

def thenA (N : Env → Heap → Prop) (Q : Post) : Post
  | .normal, ρ, H => N ρ H
  | e, ρ, H => Q e ρ H

def blockA (id : Nat) (Q : Post) : Post
  | .exit id', ρ, H => if id' = id then Q .normal ρ H else Q (.exit id') ρ H
  | e, ρ, H => Q e ρ H

def RunA (P : Program) (C : Orc) (nt : Nat) (ops : Array Oper) (K : Env → Heap → Prop) (ρ : Env) (H : Heap) : Prop :=
  match runL P C nt ops ops.toList (ρ, H) with
  | some s => K s.1 s.2
  | none => False

/-- the same, where some pairs of operations are looked at on the way -/
def RunD (P : Program) (C : Orc) (nt : Nat) (pairs : List (Nat × Nat)) (ops : Array Oper) (K : Env → Heap → Prop) (ρ : Env) (H : Heap) : Prop :=
  match runF P C nt ops (pairs.map Prod.fst ++ pairs.map Prod.snd) H.length 0 ops.toList (ρ, H) with
  | some (s, fs) => (∀ q ∈ pairs, apart H.length ((fs[q.1]?).getD .other) ((fs[q.2]?).getD .other) = true) ∧ K s.1 s.2
  | none => False

/-- the same, where the first pair comes in both orders -/
def RunE (P : Program) (C : Orc) (nt : Nat) (pairs : List (Nat × Nat)) (τ : List Nat) (ops : Array Oper) (K : Env → Heap → Prop) (ρ : Env) (H : Heap) : Prop :=
  match runFT P C nt ops (pairs.map Prod.fst ++ pairs.map Prod.snd) H.length τ (ρ, H) with
  | some (s, fs) => (∀ q ∈ pairs, apart H.length (footAt fs q.1) (footAt fs q.2) = true) ∧ K s.1 s.2
  | none => False
def condA (x : AVal) (A B : Prop) : Prop :=
  match x with
  | .v (.bool t) => if t then A else B
  | .anyb => A ∧ B
  | _ => False

/-- so many rounds of a loop -/
def UnrA (W : Post → Env → Heap → Prop) (Q : Post) : Nat → Env → Heap → Prop
  | 0, _, _ => False
  | n + 1, ρ, H => W (thenA (UnrA W Q n) Q) ρ H

/-- what follows of a state, whatever the memory -/
def Ent (n0 : Nat) (s' s : Env × Heap) : Prop :=
  ∀ (f : Fr) (base : Nat) (w0 : World) (β : Nat → Nat) (fz : Nat → Prop) (a : Act) (w : World), f.n0 = n0 → Sim f base w0 β fz s.1 s.2 a w → ∃ β' fz', Sim f base w0 β' fz' s'.1 s'.2 a w
theorem Ent.refl (n0 : Nat) (s : Env × Heap) : Ent n0 s s := fun _ _ _ β fz _ _ _ h => ⟨β, fz, h⟩
theorem Ent.trans {n0 : Nat} {s'' s' s : Env × Heap} (h1 : Ent n0 s'' s') (h2 : Ent n0 s' s) : Ent n0 s'' s := fun f base w0 β fz a w h0 h => by
  obtain ⟨β', fz', h'⟩ := h2 f base w0 β fz a w h0 h
  exact h1 f base w0 β' fz' a w h0 h'
theorem Ent.weak {n0 : Nat} {s' s : Env × Heap} (h : Weaker n0 s' s) : Ent n0 s' s := fun f base w0 β fz a w h0 hs => ⟨β, fz, hs.weaker (by rw [h0]; exact h)⟩
theorem Ent.weakT {n0 : Nat} {th : List Nat} {s' s : Env × Heap} (h : WeakT n0 th s' s) : Ent n0 s' s := fun f base w0 β fz a w h0 hs => ⟨_, fz, hs.weakT (by rw [h0]; exact h)⟩
/-- a list in parts of so many -/
def chunksF : Nat → Nat → List Nat → List (List Nat)
  | 0, _, _ => []
  | f + 1, n, l => if l.isEmpty then [] else l.take n :: chunksF f n (l.drop n)
def chunksOf (n : Nat) (l : List Nat) : List (List Nat) := chunksF l.length n l
/-- the bits of a number -/
def bitsOf (n m : Nat) : List Nat := (List.range n).filter fun i => m.testBit i
/-- the same, in several orders: behind each the same follows -/
def RunM (P : Program) (C : Orc) (nt : Nat) (pairs : List (Nat × Nat)) (T : List (List Nat)) (ops : Array Oper) (K : Env → Heap → Prop) (ρ : Env) (H : Heap) : Prop :=
  ∃ s : Env × Heap, K s.1 s.2 ∧ ∀ τ ∈ T, match runFT P C nt ops (pairs.map Prod.fst ++ pairs.map Prod.snd) H.length τ (ρ, H) with
    | some (r, fs) => (∀ q ∈ pairs, apart H.length (footAt fs q.1) (footAt fs q.2) = true) ∧ ∀ n0, n0 ≤ H.length → Ent n0 s r
    | none => False
def RunR (P : Program) (C : Orc) (nt id : Nat) (ops : Array Oper) (draw : Bool) (K : Env → Heap → Prop) (ρ : Env) (H : Heap) : Prop :=
  if C.dyn id = [(1000000, 1000000)] then draw = false ∧ RunN P C nt ops K ρ H
  else if (C.alt id).isEmpty = true then RunD P C nt (C.dyn id) ops K ρ H
  else if ((C.dyn id).headD (0, 0)).1 = 1000001 then RunM P C nt (C.dyn id).tail (chunksOf ops.size (C.alt id)) ops K ρ H
  else RunE P C nt (C.dyn id).tail (List.range ops.size) ops K ρ H ∧ RunE P C nt (C.dyn id).tail (C.alt id) ops K ρ H

/-- a loop: rounds one by one; or states, a measure, a first state -/
def LoopA (n0 : Nat) (W : Post → Env → Heap → Prop) (Q : Post) (ρ : Env) (H : Heap) : Prop :=
  (∃ n, UnrA W Q n ρ H) ∨ (∃ (σ : Type) (st : σ → Env × Heap) (μ : σ → Nat) (s0 : σ), Weaker n0 (st s0) (ρ, H) ∧ ∀ s, W (thenA (fun ρ' H' => ∃ s', μ s' < μ s ∧ Weaker n0 (st s') (ρ', H')) Q) (st s).1 (st s).2) ∨
    (∃ (σ : Type) (st : σ → Env × Heap) (μ : σ → Nat) (s0 : σ) (th : List Nat), WeakT n0 th (st s0) (ρ, H) ∧ ∀ s, W (thenA (fun ρ' H' => ∃ s', μ s' < μ s ∧ ∃ th, WeakT n0 th (st s') (ρ', H')) Q) (st s).1 (st s).2) ∨
    ∃ (σ : Type) (st : σ → Env × Heap) (μ : σ → Nat) (s0 : σ), Ent n0 (st s0) (ρ, H) ∧ ∀ s, W (thenA (fun ρ' H' => ∃ s', μ s' < μ s ∧ Ent n0 (st s') (ρ', H')) Q) (st s).1 (st s).2

/-- code; what its loops do comes as L -/
def wpX (P : Program) (C : Orc) (nt : Nat) (L : Code → Post → Env → Heap → Prop) : Code → Post → Env → Heap → Prop
  | .skip, Q, ρ, H => Q .normal ρ H
  | .region id ops draw, Q, ρ, H => if (C.dyn id).isEmpty = true then RunA P C nt ops (Q .normal) ρ H else RunR P C nt id ops draw (Q .normal) ρ H
  | .seq x y, Q, ρ, H => wpX P C nt L x (thenA (wpX P C nt L y Q) Q) ρ H
  | .cond c x y, Q, ρ, H => condA (res true (ev ρ c)) (wpX P C nt L x Q ρ H) (wpX P C nt L y Q ρ H)
  | .block id c, Q, ρ, H => wpX P C nt L c (blockA id Q) ρ H
  | .loop c, Q, ρ, H => L c Q ρ H
  | .exit id, Q, ρ, H => Q (.exit id) ρ H
  | .ret, Q, ρ, H => Q .ret ρ H
  | .label _, Q, ρ, H => Q .normal ρ H
  | _, _, _, _ => False

/-- loops, nested as deep as k -/
def LoopK (P : Program) (C : Orc) (nt n0 : Nat) : Nat → Code → Post → Env → Heap → Prop
  | 0, _, _, _, _ => False
  | k + 1, c, Q, ρ, H => LoopA n0 (wpX P C nt (LoopK P C nt n0 k) c) Q ρ H

def wpA (P : Program) (C : Orc) (nt n0 : Nat) (c : Code) (Q : Post) (ρ : Env) (H : Heap) : Prop := wpX P C nt (LoopK P C nt n0 4) c Q ρ H

@[congr] theorem LoopA_congr {n0 : Nat} {W : Post → Env → Heap → Prop} {Q : Post} {ρ ρ' : Env} {H H' : Heap} (h1 : ρ = ρ') (h2 : H = H') : LoopA n0 W Q ρ H = LoopA n0 W Q ρ' H' := by rw [h1, h2]
@[congr] theorem wpX_congr {P : Program} {C : Orc} {nt : Nat} {L : Code → Post → Env → Heap → Prop} {c : Code} {Q : Post} {ρ ρ' : Env} {H H' : Heap} (h1 : ρ = ρ') (h2 : H = H') : wpX P C nt L c Q ρ H = wpX P C nt L c Q ρ' H' := by rw [h1, h2]
@[congr] theorem LoopK_congr {P : Program} {C : Orc} {nt n0 k : Nat} {c : Code} {Q : Post} {ρ ρ' : Env} {H H' : Heap} (h1 : ρ = ρ') (h2 : H = H') : LoopK P C nt n0 k c Q ρ H = LoopK P C nt n0 k c Q ρ' H' := by rw [h1, h2]
@[congr] theorem condA_congr {x x' : AVal} {A B : Prop} (h : x = x') : condA x A B = condA x' A B := by rw [h]
@[congr] theorem thenA_congr {N : Env → Heap → Prop} {Q : Post} {e e' : Exit} {ρ ρ' : Env} {H H' : Heap} (h0 : e = e') (h1 : ρ = ρ') (h2 : H = H') : thenA N Q e ρ H = thenA N Q e' ρ' H' := by rw [h0, h1, h2]
@[congr] theorem blockA_congr {id : Nat} {Q : Post} {e e' : Exit} {ρ ρ' : Env} {H H' : Heap} (h0 : e = e') (h1 : ρ = ρ') (h2 : H = H') : blockA id Q e ρ H = blockA id Q e' ρ' H' := by rw [h0, h1, h2]
@[congr] theorem RunA_congr {P : Program} {C : Orc} {nt : Nat} {ops : Array Oper} {K : Env → Heap → Prop} {ρ ρ' : Env} {H H' : Heap} (h1 : ρ = ρ') (h2 : H = H') : RunA P C nt ops K ρ H = RunA P C nt ops K ρ' H' := by rw [h1, h2]
@[congr] theorem RunD_congr {P : Program} {C : Orc} {nt : Nat} {pairs : List (Nat × Nat)} {ops : Array Oper} {K : Env → Heap → Prop} {ρ ρ' : Env} {H H' : Heap} (h1 : ρ = ρ') (h2 : H = H') : RunD P C nt pairs ops K ρ H = RunD P C nt pairs ops K ρ' H' := by rw [h1, h2]
@[congr] theorem RunE_congr {P : Program} {C : Orc} {nt : Nat} {pairs : List (Nat × Nat)} {τ : List Nat} {ops : Array Oper} {K : Env → Heap → Prop} {ρ ρ' : Env} {H H' : Heap} (h1 : ρ = ρ') (h2 : H = H') : RunE P C nt pairs τ ops K ρ H = RunE P C nt pairs τ ops K ρ' H' := by rw [h1, h2]
@[congr] theorem RunM_congr {P : Program} {C : Orc} {nt : Nat} {pairs : List (Nat × Nat)} {T : List (List Nat)} {ops : Array Oper} {K : Env → Heap → Prop} {ρ ρ' : Env} {H H' : Heap} (h1 : ρ = ρ') (h2 : H = H') : RunM P C nt pairs T ops K ρ H = RunM P C nt pairs T ops K ρ' H' := by rw [h1, h2]
@[congr] theorem RunR_congr {P : Program} {C : Orc} {nt id : Nat} {ops : Array Oper} {draw : Bool} {K : Env → Heap → Prop} {ρ ρ' : Env} {H H' : Heap} (h1 : ρ = ρ') (h2 : H = H') : RunR P C nt id ops draw K ρ H = RunR P C nt id ops draw K ρ' H' := by rw [h1, h2]
@[congr] theorem UnrA_congr {W : Post → Env → Heap → Prop} {Q : Post} {n : Nat} {ρ ρ' : Env} {H H' : Heap} (h1 : ρ = ρ') (h2 : H = H') : UnrA W Q n ρ H = UnrA W Q n ρ' H' := by rw [h1, h2]

/-- every region that draws its order is free of races -/
def codeRF (C : Orc) : Code → Bool
  | .region id ops draw => (!draw && (C.alt id).isEmpty) || (if (C.dyn id).isEmpty then raceFree C.inl ops else if (C.alt id).isEmpty then raceFreeP C.inl (C.dyn id) ops else
      draw && (if ((C.dyn id).headD (0, 0)).1 = 1000001 then raceFreeM C.inl (bitsOf ops.size ((C.dyn id).headD (0, 0)).2) (C.dyn id).tail (chunksOf ops.size (C.alt id)) ops else raceFreeE C.inl ((C.dyn id).headD (0, 0)).1 ((C.dyn id).headD (0, 0)).2 (C.dyn id).tail (C.alt id) ops))
  | .seq x y => codeRF C x && codeRF C y
  | .cond _ x y => codeRF C x && codeRF C y
  | .block _ x => codeRF C x
  | .loop x => codeRF C x
  | _ => true

/-- what it means -/
def AWp (P : Program) (nt n0 : Nat) (c : Code) (Q : Post) (ρ : Env) (H : Heap) : Prop :=
  ∀ (f : Fr) (base : Nat) (w0 : World) (β : Nat → Nat) (fz : Nat → Prop) (a : Act) (w : World), f.nt = nt → f.n0 = n0 → Sim f base w0 β fz ρ H a w →
    c.wp P (fun ex a' w' => ∃ ρ' H' β' fz', Q ex ρ' H' ∧ Sim f base w0 β' fz' ρ' H' a' w') a w
end

section
variable {P : Program} {C : Orc} {nt n0 : Nat} {ρ ρ' : Env} {H H' : Heap}

theorem AWp.weaker {c : Code} {Q : Post} (h : AWp P nt n0 c Q ρ' H') (hw : Weaker n0 (ρ', H') (ρ, H)) : AWp P nt n0 c Q ρ H :=
  fun f base w0 β fz a w h1 h2 hs => h f base w0 β fz a w h1 h2 (hs.weaker (by rw [h2]; exact hw))

theorem AWp.mono {c : Code} {Q Q' : Post} (h : AWp P nt n0 c Q ρ H) (hq : ∀ e ρ H, Q e ρ H → Q' e ρ H) : AWp P nt n0 c Q' ρ H :=
  fun f base w0 β fz a w h1 h2 hs => wp_mono (h f base w0 β fz a w h1 h2 hs) fun _ _ _ ⟨ρ', H', β', fz', q, s⟩ => ⟨ρ', H', β', fz', hq _ _ _ q, s⟩

theorem AWp.seq {x y : Code} {Q : Post} (h : AWp P nt n0 x (thenA (AWp P nt n0 y Q) Q) ρ H) : AWp P nt n0 (.seq x y) Q ρ H := by
  intro f base w0 β fz a w h1 h2 hs
  refine wp_seq (wp_mono (h f base w0 β fz a w h1 h2 hs) ?_)
  rintro e a' w' ⟨ρ', H', β', fz', q, s⟩
  cases e with
  | normal => exact q f base w0 β' fz' a' w' h1 h2 s
  | _ => exact ⟨ρ', H', β', fz', q, s⟩

theorem wpX_sound (hC : OrcOk P C) (hm : P.follows .mixedOrders = true) {L : Code → Post → Env → Heap → Prop} (hL : ∀ c Q ρ H, codeRF C c = true → L c Q ρ H → AWp P nt n0 (.loop c) Q ρ H) : ∀ (c : Code) (Q : Post) (ρ : Env) (H : Heap), codeRF C c = true → wpX P C nt L c Q ρ H → AWp P nt n0 c Q ρ H := by
  intro c
  induction c with
  | skip => intro Q ρ H _ h f base w0 β fz a w h1 h2 hs; exact wp_skip ⟨ρ, H, β, fz, h, hs⟩
  | label l => intro Q ρ H _ h f base w0 β fz a w h1 h2 hs; exact wp_label ⟨ρ, H, β, fz, h, hs⟩
  | exit id => intro Q ρ H _ h f base w0 β fz a w h1 h2 hs; exact wp_exit ⟨ρ, H, β, fz, h, hs⟩
  | ret => intro Q ρ H _ h f base w0 β fz a w h1 h2 hs; exact wp_ret ⟨ρ, H, β, fz, h, hs⟩
  | region id ops draw =>
    intro Q ρ H hrf h f base w0 β fz a w h1 h2 hs
    simp only [wpX] at h
    by_cases hdyn : (C.dyn id).isEmpty = true
    · rw [if_pos hdyn] at h
      simp only [RunA] at h
      have hrf : draw = true → raceFree C.inl ops = true := by
        intro hd
        simpa [codeRF, hd, hdyn] using hrf
      split at h
      · rename_i s hrun
        subst h1
        exact region_wp hC hm hrf _ hs hrun (fun β' fz' a' w' hs' => ⟨s.1, s.2, β', fz', h, hs'⟩)
      · exact h.elim
    · rw [if_neg hdyn] at h
      have hdyn' : (C.dyn id).isEmpty = false := by simpa using hdyn
      unfold RunR at h
      by_cases hnx : C.dyn id = [(1000000, 1000000)]
      · rw [if_pos hnx] at h
        obtain ⟨rfl, h⟩ := h
        subst h1
        exact region_wpN hC hs h (fun ρ' H' β' fz' a' w' hk hs' => ⟨ρ', H', β', fz', hk, hs'⟩)
      rw [if_neg hnx] at h
      by_cases halt : (C.alt id).isEmpty = true
      · rw [if_pos halt] at h
        simp only [RunD] at h
        have hrf : draw = true → raceFreeP C.inl (C.dyn id) ops = true := by
          intro hd
          simp only [codeRF, hd, hdyn', halt, Bool.not_true, Bool.false_and, Bool.false_or, Bool.false_eq_true, if_false, if_true] at hrf
          exact hrf
        split at h
        · rename_i s fs hrun
          subst h1
          exact region_wpD hC hm hrf _ hs hrun h.1 (fun β' fz' a' w' hs' => ⟨s.1, s.2, β', fz', h.2, hs'⟩)
        · exact h.elim
      · rw [if_neg halt] at h
        have halt' : (C.alt id).isEmpty = false := by simpa using halt
        simp only [codeRF, hdyn', halt', Bool.and_false, Bool.false_or, Bool.false_eq_true, if_false, Bool.and_eq_true] at hrf
        obtain ⟨hd, hrf⟩ := hrf
        subst hd
        by_cases hmo : ((C.dyn id).headD (0, 0)).1 = 1000001
        · rw [if_pos hmo] at h hrf
          obtain ⟨s0, hK, hT⟩ := h
          subst h1
          refine region_wpM hC hm hrf _ hs (idx := (C.dyn id).tail.map Prod.fst ++ (C.dyn id).tail.map Prod.snd) fun τ hτ => ?_
          have := hT τ hτ
          split at this
          · rename_i s1 f1 hrun1
            refine ⟨s1.1, s1.2, f1, hrun1, this.1, fun β' fz' a' w' hs' => ?_⟩
            obtain ⟨β2, fz2, hs2⟩ := this.2 f.n0 hs.ext.hn f base w0 β' fz' a' w' rfl hs'
            exact ⟨s0.1, s0.2, β2, fz2, hK, hs2⟩
          · exact this.elim
        rw [if_neg hmo] at h hrf
        obtain ⟨ha, hb⟩ := h
        unfold RunE at ha hb
        split at ha
        · rename_i s1 f1 hrun1
          split at hb
          · rename_i s2 f2 hrun2
            subst h1
            exact region_wpE hC hm hrf _ hs hrun1 hrun2 ha.1 hb.1 (fun β' fz' a' w' hs' => ⟨s1.1, s1.2, β', fz', ha.2, hs'⟩) (fun β' fz' a' w' hs' => ⟨s2.1, s2.2, β', fz', hb.2, hs'⟩)
          · exact hb.elim
        · exact ha.elim
  | seq x y ihx ihy =>
    intro Q ρ H hrf h
    simp only [wpX] at h
    simp only [codeRF, Bool.and_eq_true] at hrf
    refine AWp.seq ((ihx _ ρ H hrf.1 h).mono ?_)
    intro e ρ' H' q
    cases e with
    | normal => exact ihy Q ρ' H' hrf.2 q
    | _ => exact q
  | cond c x y ihx ihy =>
    intro Q ρ H hrf h f base w0 β fz a w h1 h2 hs
    simp only [codeRF, Bool.and_eq_true] at hrf
    simp only [wpX, condA] at h
    have hc := res_R (g := true) rfl (hs.ev c)
    split at h
    · rename_i t ht
      rw [ht] at hc
      refine wp_cond hc.v_inv ?_
      cases t
      · exact ihy Q ρ H hrf.2 h f base w0 β fz a w h1 h2 hs
      · exact ihx Q ρ H hrf.1 h f base w0 β fz a w h1 h2 hs
    · rename_i ht
      rw [ht] at hc
      generalize hv : a.eval c = v at hc
      cases hc with
      | @anyb _ b =>
        refine wp_cond hv ?_
        cases b
        · exact ihy Q ρ H hrf.2 h.2 f base w0 β fz a w h1 h2 hs
        · exact ihx Q ρ H hrf.1 h.1 f base w0 β fz a w h1 h2 hs
    · exact h.elim
  | block id x ih =>
    intro Q ρ H hrf h f base w0 β fz a w h1 h2 hs
    simp only [codeRF] at hrf
    simp only [wpX] at h
    refine wp_block (wp_mono (ih _ ρ H hrf h f base w0 β fz a w h1 h2 hs) ?_)
    rintro e a' w' ⟨ρ', H', β', fz', q, s⟩
    cases e with
    | exit id' =>
      simp only [blockA] at q
      simp only [Exit.inBlock]
      split at q
      · rename_i hid; rw [if_pos hid]; exact ⟨ρ', H', β', fz', q, s⟩
      · rename_i hid; rw [if_neg hid]; exact ⟨ρ', H', β', fz', q, s⟩
    | _ => exact ⟨ρ', H', β', fz', q, s⟩
  | loop x ih =>
    intro Q ρ H hrf h
    simp only [codeRF] at hrf
    exact hL x Q ρ H hrf h
  | rangeFunc _ _ _ _ _ _ => intro Q ρ H _ h; simp [wpX] at h
  | scope _ _ => intro Q ρ H _ h; simp [wpX] at h
  | goto _ => intro Q ρ H _ h; simp [wpX] at h
  | refuse _ => intro Q ρ H _ h; simp [wpX] at h

theorem LoopA_sound {W : Post → Env → Heap → Prop} {c : Code} (hW : ∀ Q ρ H, W Q ρ H → AWp P nt n0 c Q ρ H) {Q : Post} (h : LoopA n0 W Q ρ H) : AWp P nt n0 (.loop c) Q ρ H := by
  intro f base w0 β fz a w h1 h2 hs
  simp only [LoopA] at h
  rcases h with ⟨n, h⟩ | ⟨σ, st, μ, s0, hw, hround⟩ | ⟨σ, st, μ, s0, th, hw, hround⟩ | ⟨σ, st, μ, s0, hw, hround⟩
  · refine wp_loop_rounds n ?_
    induction n generalizing ρ H β fz a w with
    | zero => simp [UnrA] at h
    | succ n ihn =>
      rw [rounds_succ]
      simp only [UnrA] at h
      refine wp_mono (hW _ _ _ h f base w0 β fz a w h1 h2 hs) ?_
      rintro e a' w' ⟨ρ', H', β', fz', q, hs'⟩
      cases e with
      | normal => exact ihn β' fz' a' w' hs' q
      | _ => exact ⟨ρ', H', β', fz', q, hs'⟩
  · refine wp_loop_ghost (fun n a w => ∃ s β fz, μ s = n ∧ Sim f base w0 β fz (st s).1 (st s).2 a w) (μ s0) ⟨s0, β, fz, rfl, hs.weaker (by rw [h2]; exact hw)⟩ ?_
    rintro n a w ⟨s, β, fz, rfl, hs⟩
    refine wp_mono (hW _ _ _ (hround s) f base w0 β fz a w h1 h2 hs) ?_
    rintro e a' w' ⟨ρ', H', β', fz', q, hs'⟩
    cases e with
    | normal =>
      obtain ⟨s', hlt, hwk⟩ := q
      exact ⟨μ s', hlt, s', β', fz', rfl, hs'.weaker (by rw [h2]; exact hwk)⟩
    | _ => exact ⟨ρ', H', β', fz', q, hs'⟩
  · refine wp_loop_ghost (fun n a w => ∃ s β fz, μ s = n ∧ Sim f base w0 β fz (st s).1 (st s).2 a w) (μ s0) ⟨s0, _, fz, rfl, hs.weakT (by rw [h2]; exact hw)⟩ ?_
    rintro n a w ⟨s, β, fz, rfl, hs⟩
    refine wp_mono (hW _ _ _ (hround s) f base w0 β fz a w h1 h2 hs) ?_
    rintro e a' w' ⟨ρ', H', β', fz', q, hs'⟩
    cases e with
    | normal =>
      obtain ⟨s', hlt, th', hwk⟩ := q
      exact ⟨μ s', hlt, s', _, fz', rfl, hs'.weakT (by rw [h2]; exact hwk)⟩
    | _ => exact ⟨ρ', H', β', fz', q, hs'⟩
  · obtain ⟨β1, fz1, hs1⟩ := hw f base w0 β fz a w h2 hs
    refine wp_loop_ghost (fun n a w => ∃ s β fz, μ s = n ∧ Sim f base w0 β fz (st s).1 (st s).2 a w) (μ s0) ⟨s0, β1, fz1, rfl, hs1⟩ ?_
    rintro n a w ⟨s, β, fz, rfl, hs⟩
    refine wp_mono (hW _ _ _ (hround s) f base w0 β fz a w h1 h2 hs) ?_
    rintro e a' w' ⟨ρ', H', β', fz', q, hs'⟩
    cases e with
    | normal =>
      obtain ⟨s', hlt, hwk⟩ := q
      obtain ⟨β2, fz2, hs2⟩ := hwk f base w0 β' fz' a' w' h2 hs'
      exact ⟨μ s', hlt, s', β2, fz2, rfl, hs2⟩
    | _ => exact ⟨ρ', H', β', fz', q, hs'⟩

theorem LoopK_sound (hC : OrcOk P C) (hm : P.follows .mixedOrders = true) : ∀ (k : Nat) (c : Code) (Q : Post) (ρ : Env) (H : Heap), codeRF C c = true → LoopK P C nt n0 k c Q ρ H → AWp P nt n0 (.loop c) Q ρ H
  | 0, _, _, _, _, _, h => h.elim
  | k + 1, c, _, _, _, hrf, h => LoopA_sound (fun Q ρ H hW => wpX_sound hC hm (LoopK_sound hC hm k) c Q ρ H hrf hW) h

/-- THE INTERPRETER IS TRUE OF THE MODEL -/
theorem wpA_sound (hC : OrcOk P C) (hm : P.follows .mixedOrders = true) (c : Code) (Q : Post) (ρ : Env) (H : Heap) (hrf : codeRF C c = true) (h : wpA P C nt n0 c Q ρ H) : AWp P nt n0 c Q ρ H :=
  wpX_sound hC hm (LoopK_sound hC hm 4) c Q ρ H hrf h

/-- rounds one by one -/
def UnrK (P : Program) (C : Orc) (nt n0 k : Nat) (c : Code) (Q : Post) : Nat → Env → Heap → Prop
  | 0, _, _ => False
  | n + 1, ρ, H => wpX P C nt (LoopK P C nt n0 k) c (thenA (UnrK P C nt n0 k c Q n) Q) ρ H
@[congr] theorem UnrK_congr {k : Nat} {c : Code} {Q : Post} {n : Nat} (h1 : ρ = ρ') (h2 : H = H') : UnrK P C nt n0 k c Q n ρ H = UnrK P C nt n0 k c Q n ρ' H' := by rw [h1, h2]
theorem loop_rounds {k : Nat} {c : Code} {Q : Post} (n : Nat) (h : UnrK P C nt n0 k c Q n ρ H) : LoopK P C nt n0 (k + 1) c Q ρ H := by
  refine .inl ⟨n, ?_⟩
  have : UnrK P C nt n0 k c Q = UnrA (wpX P C nt (LoopK P C nt n0 k) c) Q := by
    funext n
    induction n with
    | zero => rfl
    | succ n ih => funext ρ H; simp only [UnrK, UnrA, ih]
  rw [← this]; exact h

/-- the rest of a loop's round: the next state -/
def Again {σ : Type} (n0 : Nat) (st : σ → Env × Heap) (μ : σ → Nat) (m : Nat) (ρ : Env) (H : Heap) : Prop := ∃ s, μ s < m ∧ Weaker n0 (st s) (ρ, H)
@[congr] theorem Again_congr {σ : Type} {st : σ → Env × Heap} {μ : σ → Nat} {m : Nat} (h1 : ρ = ρ') (h2 : H = H') : Again n0 st μ m ρ H = Again n0 st μ m ρ' H' := by rw [h1, h2]
theorem loop_inv {k : Nat} {c : Code} {Q : Post} {σ : Type} (st : σ → Env × Heap) (μ : σ → Nat) (s0 : σ) (h0 : Weaker n0 (st s0) (ρ, H))
    (hr : ∀ s, wpX P C nt (LoopK P C nt n0 k) c (thenA (Again n0 st μ (μ s)) Q) (st s).1 (st s).2) : LoopK P C nt n0 (k + 1) c Q ρ H :=
  .inr (.inl ⟨σ, st, μ, s0, h0, hr⟩)
/-- the same, ids under other names -/
def AgainT {σ : Type} (n0 : Nat) (st : σ → Env × Heap) (μ : σ → Nat) (m : Nat) (ρ : Env) (H : Heap) : Prop := ∃ s, μ s < m ∧ ∃ th, WeakT n0 th (st s) (ρ, H)
@[congr] theorem AgainT_congr {σ : Type} {st : σ → Env × Heap} {μ : σ → Nat} {m : Nat} (h1 : ρ = ρ') (h2 : H = H') : AgainT n0 st μ m ρ H = AgainT n0 st μ m ρ' H' := by rw [h1, h2]
theorem loop_ren {k : Nat} {c : Code} {Q : Post} {σ : Type} (st : σ → Env × Heap) (μ : σ → Nat) (s0 : σ) (th : List Nat) (h0 : WeakT n0 th (st s0) (ρ, H))
    (hr : ∀ s, wpX P C nt (LoopK P C nt n0 k) c (thenA (AgainT n0 st μ (μ s)) Q) (st s).1 (st s).2) : LoopK P C nt n0 (k + 1) c Q ρ H :=
  .inr (.inr (.inl ⟨σ, st, μ, s0, th, h0, hr⟩))
/-- the same, whatever follows of a state -/
def AgainE {σ : Type} (n0 : Nat) (st : σ → Env × Heap) (μ : σ → Nat) (m : Nat) (ρ : Env) (H : Heap) : Prop := ∃ s, μ s < m ∧ Ent n0 (st s) (ρ, H)
@[congr] theorem AgainE_congr {σ : Type} {st : σ → Env × Heap} {μ : σ → Nat} {m : Nat} (h1 : ρ = ρ') (h2 : H = H') : AgainE n0 st μ m ρ H = AgainE n0 st μ m ρ' H' := by rw [h1, h2]
theorem loop_ent {k : Nat} {c : Code} {Q : Post} {σ : Type} (st : σ → Env × Heap) (μ : σ → Nat) (s0 : σ) (h0 : Ent n0 (st s0) (ρ, H))
    (hr : ∀ s, wpX P C nt (LoopK P C nt n0 k) c (thenA (AgainE n0 st μ (μ s)) Q) (st s).1 (st s).2) : LoopK P C nt n0 (k + 1) c Q ρ H :=
  .inr (.inr (.inr ⟨σ, st, μ, s0, h0, hr⟩))

/-- arguments as slots -/
def envOf : Nat → Row → Env
  | _, [] => []
  | i, a :: r => (i, a) :: envOf (i + 1) r

theorem look_envOf (args : Row) : ∀ (i t : Nat), look (envOf i args) t = if i ≤ t then (args[t - i]?).getD .junk else .junk := by
  induction args with
  | nil => intro i t; simp [envOf, look]
  | cons a r ih =>
    intro i t
    simp only [envOf, look]
    by_cases h : t = i
    · subst h; simp
    · rw [if_neg h, ih]
      by_cases h2 : i + 1 ≤ t
      · rw [if_pos h2, if_pos (by omega)]
        have : t - i = (t - (i + 1)) + 1 := by omega
        rw [this, List.getElem?_cons_succ]
      · rw [if_neg h2, if_neg (by omega)]

/-- what the results are -/
def resA (P : Program) (ρ : Env) (H : Heap) : List ResultVar → Option Row
  | [] => some []
  | .tmp t :: r => (resA P ρ H r).map (look ρ t :: ·)
  | .cell t ty :: r => match aLoad P ty (look ρ t) H with
    | some a => (resA P ρ H r).map (a :: ·)
    | none => none

def tupA : Row → AVal
  | [a] => a
  | l => match allV l with
    | some xs => .v (.tuple xs.toArray)
    | none => .tup l

def retA (P : Program) (fn : Func) (R : AVal → Heap → Prop) : Post
  | .normal, ρ, H => match resA P ρ H fn.results.toList with | some l => R (tupA l) H | none => False
  | .ret, ρ, H => match resA P ρ H fn.results.toList with | some l => R (tupA l) H | none => False
  | _, _, _ => False
end
end Go.AI
/- Functions. -/
set_option linter.unusedSimpArgs false
set_option linter.unusedVariables false
namespace Go.AI
open Go.RowKit
section
variable {nt : Fr} {base : Nat} {w0 : World} {β : Nat → Nat} {fz : Nat → Prop} {ρ : Env} {H H' : Heap} {a : Act} {w : World} {P : Program} {C : Orc} {av : AVal} {n : Nat} {ok : Bool → Nat → Prop}

theorem load_run (hs : HSim base w0 β fz H w) {t : TypeId} {x : AVal} {v : Value} (hx : R β (okOf base fz) w H.length x v) (h : aLoad P t x H = some av) :
    ∃ ad y, v = .pointer (some ad) ∧ (loadVar t ad).run P w = .ok y w ∧ R β (okOf base fz) w H.length av y := by
  unfold aLoad at h
  split at h
  · rename_i id sz i off
    split at h
    · rename_i sz' rows hob
      split at h
      · rename_i row hrow
        split at h
        · rename_i hsz
          subst hsz
          obtain ⟨cs, e, g1, g2, g3, g4, g5⟩ := hs.cells hob
          have hi : i < rows.length := (List.getElem?_eq_some_iff.1 hrow).1
          have hrl : row.length = sz' := g2 row (List.mem_of_getElem? hrow)
          have hmul : (i + 1) * sz' ≤ rows.length * sz' := Nat.mul_le_mul_right _ hi
          rw [Nat.succ_mul] at hmul
          obtain ⟨y, hy, hR⟩ := read_R (β := β) (ok := okOf base fz) (w := w) (n := H.length) h (β id) (i * sz') (fun j => cs[i * sz' + j]?.getD undef)
            (fun j hj => by
              have : i * sz' + j < cs.size := by omega
              simp [World.cell?, g1, this]) (fun j c hj => g5 i row hrow j c hj)
          cases hx with
          | mp _ => exact absurd rfl (obj_live hob).2
          | ptr _ _ => exact ⟨_, y, rfl, hy, hR⟩
        · split at h
          case isFalse => cases h
          rename_i hsz
          obtain ⟨rfl, hs0, rfl⟩ := hsz
          obtain ⟨cs, e, g1, g2, g3, g4, g5⟩ := hs.cells hob
          obtain ⟨f1, f2⟩ := flat1 g2
          obtain ⟨y, hy, hR⟩ := read_R (β := β) (ok := okOf base fz) (w := w) (n := H.length) h (β id) 0 (fun j => cs[j]?.getD undef)
            (fun j hj => by
              have : j < cs.size := by omega
              simp [World.cell?, g1, this]) (fun j c hj => by
              obtain ⟨r, r1, r2⟩ := f2 j c hj
              have := g5 j r r1 0 c r2
              simpa using this)
          cases hx with
          | mp _ => exact absurd rfl hs0
          | ptr _ _ =>
          simp only [Nat.zero_add] at hy
          exact ⟨_, y, by simp, hy, hR⟩
      · cases h
    · cases h
  · rename_i row off
    cases hx with
    | @fptr _ _ _ b oo x' hb hc hr =>
      obtain ⟨y, hy, hR⟩ := read_R (β := β) (ok := okOf base fz) (w := w) (n := H.length) h b oo x' hc (fun j c hj => (hr j c hj).mono (Nat.zero_le _) (fun _ h => absurd h (Nat.not_lt_zero _)) (fun _ _ h => h) (fun _ _ _ => rfl) (Shapes.refl _))
      exact ⟨_, y, rfl, hy, hR⟩
  · cases h

/-- the results, loaded -/
def resSem (tmps : Array Value) : ResultVar → Sem Value
  | .tmp t => pure (tmps.getD t undef)
  | .cell a t => do loadVar t (← asAddr (tmps.getD a undef))

theorem res_run (hs : Sim nt base w0 β fz ρ H a w) : ∀ (rs : List ResultVar) (l : Row), resA P ρ H rs = some l →
    ∃ xs : List Value, (rs.mapM (resSem a.tmps)).run P w = .ok xs w ∧ xs.length = l.length ∧ ∀ (j : Nat) (c : AVal), l[j]? = some c → R β (okOf base fz) w H.length c (xs[j]?.getD undef)
  | [], l, h => by simp [resA] at h; subst h; exact ⟨[], rfl, rfl, by simp⟩
  | .tmp t :: rs, l, h => by
    simp only [resA, Option.map_eq_some_iff] at h
    obtain ⟨l', hl', rfl⟩ := h
    obtain ⟨xs, h1, h2, h3⟩ := res_run hs rs l' hl'
    refine ⟨a.tmps.getD t undef :: xs, ?_, by simp [h2], fun j c hj => ?_⟩
    · simp only [List.mapM_cons, Sem.run_bind, resSem, Sem.run_pure, Result.andThen_ok]
      rw [h1]; rfl
    · cases j with
      | zero => simp at hj; subst hj; simpa using hs.env t
      | succ j => simpa using h3 j c (by simpa using hj)
  | .cell t ty :: rs, l, h => by
    simp only [resA] at h
    split at h
    · rename_i x hx
      simp only [Option.map_eq_some_iff] at h
      obtain ⟨l', hl', rfl⟩ := h
      obtain ⟨xs, h1, h2, h3⟩ := res_run hs rs l' hl'
      obtain ⟨ad, y, q1, q2, q3⟩ := load_run hs.heap (hs.env t) hx
      refine ⟨y :: xs, ?_, by simp [h2], fun j c hj => ?_⟩
      · simp only [List.mapM_cons, Sem.run_bind, resSem, q1, asAddr, Sem.run_pure, Result.andThen_ok, q2]
        rw [h1]; rfl
      · cases j with
        | zero => simp at hj; subst hj; simpa using q3
        | succ j => simpa using h3 j c (by simpa using hj)
    · cases h

theorem tup_R {l : Row} {xs : List Value} (hl : xs.length = l.length) (hr : ∀ (j : Nat) (c : AVal), l[j]? = some c → R β ok w n c (xs[j]?.getD undef)) :
    R β ok w n (tupA l) (if h : xs.toArray.size = 1 then xs.toArray[0] else .tuple xs.toArray) := by
  unfold tupA
  split
  · rename_i x
    have h1 : xs.length = 1 := by simpa using hl
    obtain ⟨y, rfl⟩ := List.length_eq_one_iff.1 h1
    simpa using hr 0 x (by simp)
  · rename_i hne
    have h1 : ¬ xs.toArray.size = 1 := by
      intro h
      have h2 : l.length = 1 := by simp at h; omega
      obtain ⟨y, hy⟩ := List.length_eq_one_iff.1 h2
      exact hne y hy
    rw [dif_neg h1]
    split
    · rename_i ys hy
      have hcs := allV_some hy
      subst hcs
      have : xs = ys := by
        apply List.ext_getElem (by simpa using hl)
        intro j h1 h2
        have := hr j (.v ys[j]) (by simp [h2])
        generalize hz : xs[j]?.getD undef = z at this
        cases this
        simp [h1] at hz
        simpa using hz
      rw [this]; exact .v
    · exact .tup (by simpa using hl.symm) (fun j c hj => by simpa using hr j c hj)

theorem results_run (hs : Sim nt base w0 β fz ρ H a w) {fn : Func} {l : Row} (h : resA P ρ H fn.results.toList = some l) :
    ∃ v, (results fn a.tmps).run P w = .ok v w ∧ R β (okOf base fz) w H.length (tupA l) v := by
  obtain ⟨xs, h1, h2, h3⟩ := res_run hs fn.results.toList l h
  refine ⟨_, ?_, tup_R h2 h3⟩
  have hm : (fn.results.mapM (resSem a.tmps)).run P w = .ok xs.toArray w := by
    rw [Array.mapM_eq_mapM_toList]
    simp only [Sem.run_map, h1, Result.andThen_ok]
  have he : results fn a.tmps = (do let vs ← fn.results.mapM (resSem a.tmps); pure (if h : vs.size = 1 then vs[0] else .tuple vs)) := by
    unfold results
    congr 1
  rw [he, Sem.run_bind, hm]
  rfl

/-- the body of a function -/
theorem body_calls {f : FuncId} {fn : Func} {c : Code} (hf : P.funcs[f]? = some fn) (hb : fn.body = some c) {args : Row} {vals : Array Value} {Rr : AVal → Heap → Prop} {n0 : Nat} (hn : args.length ≤ fn.ntmps)
    (hA : AWp P fn.ntmps n0 c (retA P fn Rr) (envOf 0 args) H) (fr : Fr) (hfr : fr.nt = fn.ntmps) (hn0 : fr.n0 = n0) (hsim : HSim base w0 β fz H w) (hext : Ext fr.n0 fr.βe fr.fze fr.we H.length β fz w) (hargs : ArgsR β (okOf base fz) w H.length args vals)
    (K : Ending → World → Prop) (hK : ∀ x v β' fz' H' w', Rr x H' → HSim base w0 β' fz' H' w' → Ext fr.n0 fr.βe fr.fze fr.we H'.length β' fz' w' → R β' (okOf base fz') w' H'.length x v → K (.returned v) w') :
    Calls P f vals w K := by
  refine calls_of_wp hf hb ?_
  have hsz : (vals ++ Array.replicate (fn.ntmps - vals.size) undef).size = fn.ntmps := by
    have := hargs.1
    simp; omega
  have hs : Sim fr base w0 β fz (envOf 0 args) H { tmps := vals ++ Array.replicate (fn.ntmps - vals.size) undef, defers := [] } w := by
    refine ⟨hsim, rfl, by rw [hfr]; exact hsz, hext, fun t => ?_⟩
    rw [look_envOf]
    simp only [Nat.zero_le, if_true, Nat.sub_zero]
    cases ht : args[t]? with
    | none => exact .junk
    | some x =>
      have hlt : t < args.length := (List.getElem?_eq_some_iff.1 ht).1
      have := hargs.2 t x ht
      simp only [Option.getD_some]
      rw [Array.getD_eq_getD_getElem?, Array.getElem?_append_left (by rw [hargs.1]; exact hlt)]
      exact this
  refine wp_mono (hA fr base w0 β fz _ w hfr hn0 hs) ?_
  rintro e a' w' ⟨ρ', H', β', fz', q, hs'⟩
  have key : ∀ l, resA P ρ' H' fn.results.toList = some l → Rr (tupA l) H' → a'.defers = [] ∧ ∃ v, (results fn a'.tmps).run P w' = .ok v w' ∧ K (.returned v) w' := by
    intro l hl hq
    obtain ⟨v, h1, h2⟩ := results_run hs' hl
    exact ⟨hs'.defers, v, h1, hK _ v β' fz' H' w' hq hs'.heap hs'.ext h2⟩
  cases e with
  | normal =>
    simp only [retA] at q
    split at q
    · rename_i l hl; exact key l hl q
    · exact q.elim
  | ret =>
    simp only [retA] at q
    split at q
    · rename_i l hl; exact key l hl q
    · exact q.elim
  | exit id => exact q.elim
  | goto l => exact q.elim
  | panic ch => exact q.elim
  | outgrown => exact q.elim
end

section
variable {P : Program}

theorem HSim.start (w : World) : HSim w.heap.size w β0 (· < w.heap.size) [] w :=
  ⟨fun id sz rows h => by simp at h, fun a b ⟨x, hx⟩ => by simp at hx, fun a ⟨x, hx⟩ => by simp at hx, fun _ h => h, Below.refl _ _, Nat.le_refl _⟩

/-- A FUNCTION THAT MAKES NOTHING BUT NEW MEMORY -/
theorem pure_of {f : FuncId} {fn : Func} {c : Code} (hf : P.funcs[f]? = some fn) (hb : fn.body = some c) {m : Row → Option AVal}
    (h : ∀ args r, m args = some r → args.length ≤ fn.ntmps ∧ AWp P fn.ntmps 0 c (retA P fn fun x H => view H depthV x = r ∧ hot r = true) (envOf 0 args) []) : PureOk P f m := by
  intro args r hr w vals hargs
  obtain ⟨h1, h2⟩ := h args r hr
  refine body_calls hf hb h1 h2 ⟨fn.ntmps, 0, β0, (· < w.heap.size), w⟩ rfl rfl (HSim.start w) (Ext.refl _ _ _ _) hargs _ ?_
  rintro x v β' fz' H' w' ⟨hx1, hx2⟩ hs he hR
  have hv := view_R hs depthV x v hR
  rw [hx1] at hv
  exact ⟨v, rfl, hs.below, hot_R hx2 hv⟩

/-- A FUNCTION THAT WORKS ON ITS CALLER's OBJECTS -/
theorem inl_of {f : FuncId} {fn : Func} {c : Code} (hf : P.funcs[f]? = some fn) (hb : fn.body = some c) {m : Row → Heap → Option (AVal × Heap)}
    (h : ∀ args H r H', m args H = some (r, H') → args.length ≤ fn.ntmps ∧ AWp P fn.ntmps H.length c (retA P fn fun x H2 => x = r ∧ H2 = H') (envOf 0 args) H) : InlOk P f m := by
  intro args H r H' hr base w0 β fz w vals hs hargs
  obtain ⟨h1, h2⟩ := h args H r H' hr
  refine .of hf hb (body_calls hf hb h1 h2 ⟨fn.ntmps, H.length, β, fz, w⟩ rfl rfl hs (Ext.refl _ _ _ _) hargs _ ?_)
  rintro x v β' fz' H2 w' ⟨rfl, rfl⟩ hs' he hR
  exact ⟨v, β', fz', rfl, hs', he, hR⟩

/-- the one is known, if the other is -/
def Softer (r x : AVal) : Prop := x = r ∨ (r = .esl ∧ x = .v (.slice none 0 0))
theorem Softer.known {β : Nat → Nat} {ok : Bool → Nat → Prop} {w : World} {n : Nat} {r x : AVal} {v : Value} (h : Softer r x) (hx : R β ok w n x v) : R β ok w n r v := by
  rcases h with rfl | ⟨rfl, rfl⟩
  · exact hx
  · rw [hx.v_inv]; exact .esl
theorem softer_self {r : AVal} : Softer r r = True := eq_true (.inl rfl)
theorem softer_nil : Softer .esl (.v (.slice none 0 0)) = True := eq_true (.inr ⟨rfl, rfl⟩)

theorem inl_soft {f : FuncId} {fn : Func} {c : Code} (hf : P.funcs[f]? = some fn) (hb : fn.body = some c) {m : Row → Heap → Option (AVal × Heap)}
    (h : ∀ args H r H', m args H = some (r, H') → args.length ≤ fn.ntmps ∧ AWp P fn.ntmps H.length c (retA P fn fun x H2 => Softer r x ∧ H2 = H') (envOf 0 args) H) : InlOk P f m := by
  intro args H r H' hr base w0 β fz w vals hs hargs
  obtain ⟨h1, h2⟩ := h args H r H' hr
  refine .of hf hb (body_calls hf hb h1 h2 ⟨fn.ntmps, H.length, β, fz, w⟩ rfl rfl hs (Ext.refl _ _ _ _) hargs _ ?_)
  rintro x v β' fz' H2 w' ⟨hx, rfl⟩ hs' he hR
  exact ⟨v, β', fz', rfl, hs', he, hx.known hR⟩

/-- oracles -/
def noOrc : Orc := { pure := fun _ _ => none, inl := fun _ => false, inline := fun _ _ _ => none, dyn := fun _ => [], fp := fun _ _ => none, alt := fun _ => [], rd := fun _ => none, cl := fun _ => false }
def Orc.withP (C : Orc) (f : FuncId) (m : Row → Option AVal) : Orc := { C with pure := fun g args => if g = f then m args else C.pure g args }
def Orc.withI (C : Orc) (f : FuncId) (m : Row → Heap → Option (AVal × Heap)) : Orc := { C with inl := fun g => if g = f then true else C.inl g, inline := fun g args H => if g = f then m args H else C.inline g args H, fp := fun g args => if g = f then none else C.fp g args, cl := fun g => if g = f then false else C.cl g }

theorem noOrc_ok : OrcOk P noOrc := ⟨fun _ args r h => by simp [noOrc] at h, fun _ h => by simp [noOrc] at h, fun _ _ _ h => by simp [noOrc] at h, fun _ _ h => by simp [noOrc] at h, fun _ h => by simp [noOrc] at h⟩
theorem OrcOk.withP {C : Orc} (h : OrcOk P C) {f : FuncId} {m : Row → Option AVal} (hf : PureOk P f m) : OrcOk P (C.withP f m) := by
  refine ⟨fun g => ?_, h.inline, h.foot, h.rd, h.cells⟩
  by_cases hg : g = f
  · subst hg
    intro args r hr
    simp only [Orc.withP, if_true] at hr
    exact hf args r hr
  · intro args r hr
    simp only [Orc.withP, hg, if_false] at hr
    exact h.pure g args r hr
def Orc.withD (C : Orc) (d : Nat → List (Nat × Nat)) : Orc := { C with dyn := d }
/-- another order of a region's operations; the first pair of it comes in both orders -/
def Orc.withA (C : Orc) (d : Nat → List Nat) : Orc := { C with alt := d }
theorem OrcOk.withA {C : Orc} (h : OrcOk P C) (d : Nat → List Nat) : OrcOk P (C.withA d) := ⟨h.pure, h.inline, h.foot, h.rd, h.cells⟩
theorem OrcOk.withD {C : Orc} (h : OrcOk P C) (d : Nat → List (Nat × Nat)) : OrcOk P (C.withD d) := ⟨h.pure, h.inline, h.foot, h.rd, h.cells⟩
theorem OrcOk.withI {C : Orc} (h : OrcOk P C) {f : FuncId} {m : Row → Heap → Option (AVal × Heap)} (hf : InlOk P f m) : OrcOk P (C.withI f m) := by
  refine ⟨h.pure, fun g hi => ?_, fun g args ids hg => ?_, h.rd, fun g hg => ?_⟩
  rotate_left 2
  · by_cases hgf : g = f
    · simp [Orc.withI, hgf] at hg
    · simp only [Orc.withI, hgf, if_false] at hg ⊢
      exact h.cells g hg
  · by_cases hg : g = f
    · subst hg
      intro args H r H' hr
      simp only [Orc.withI, if_true] at hr
      exact hf args H r H' hr
    · intro args H r H' hr
      simp only [Orc.withI, hg, if_false] at hr hi
      exact h.inline g hi args H r H' hr
  · by_cases hgf : g = f
    · simp [Orc.withI, hgf] at hg
    · simp only [Orc.withI, hgf, if_false] at hg ⊢
      exact h.foot g args ids hg
/-- what a function meets -/
def Orc.withF (C : Orc) (f : FuncId) (q : Row → Option (List Nat)) : Orc := { C with fp := fun g args => if g = f then q args else C.fp g args }
theorem OrcOk.withF {C : Orc} (h : OrcOk P C) {f : FuncId} {m : Row → Heap → Option (AVal × Heap)} {q : Row → Option (List Nat)} (hq : ∀ args ids, q args = some ids → Loc (m args) ids true) (hm : C.inline f = m) : OrcOk P (C.withF f q) := by
  refine ⟨h.pure, h.inline, fun g args ids hg => ?_, h.rd, h.cells⟩
  by_cases hgf : g = f
  · subst hgf
    simp only [Orc.withF, if_true] at hg ⊢
    rw [hm]
    exact hq args ids hg
  · simp only [Orc.withF, hgf, if_false] at hg ⊢
    exact h.foot g args ids hg
/-- a function that only reads, whatever the memory -/
def Orc.withR (C : Orc) (f : FuncId) (m : Row → Heap → Option AVal) : Orc := { C with rd := fun g => if g = f then some m else C.rd g }
theorem OrcOk.withR {C : Orc} (h : OrcOk P C) {f : FuncId} {m : Row → Heap → Option AVal} (hf : InlOk P f (fun args H => (m args H).map (·, H))) : OrcOk P (C.withR f m) := by
  refine ⟨h.pure, h.inline, h.foot, fun g m' hg => ?_, h.cells⟩
  by_cases hgf : g = f
  · subst hgf
    simp only [Orc.withR, if_true, Option.some.injEq] at hg
    subst hg; exact hf
  · simp only [Orc.withR, hgf, if_false] at hg
    exact h.rd g m' hg
/-- a function that leaves the maps alone -/
def Orc.withC (C : Orc) (f : FuncId) : Orc := { C with cl := fun g => if g = f then true else C.cl g }
theorem OrcOk.withC {C : Orc} (h : OrcOk P C) {f : FuncId} {m : Row → Heap → Option (AVal × Heap)} (hm : C.inline f = m) (hf : ∀ args H r H', m args H = some (r, H') → MapsSame H H' ∧ H.length ≤ H'.length) : OrcOk P (C.withC f) := by
  refine ⟨h.pure, h.inline, h.foot, h.rd, fun g hg => ?_⟩
  by_cases hgf : g = f
  · subst hgf
    show ∀ args H r H', C.inline g args H = some (r, H') → _
    rw [hm]; exact hf
  · simp only [Orc.withC, hgf, if_false] at hg
    exact h.cells g hg
theorem OrcOk.withIF {C : Orc} (h : OrcOk P C) {f : FuncId} {m : Row → Heap → Option (AVal × Heap)} {q : Row → Option (List Nat)} (hf : InlOk P f m) (hq : ∀ args ids, q args = some ids → Loc (m args) ids true) : OrcOk P ((C.withI f m).withF f q) :=
  (h.withI hf).withF hq (by funext args H; simp [Orc.withI])
end
end Go.AI
