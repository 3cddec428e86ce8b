/- Package space: what a space has, page by page; a page's change. Package space: Unmap, Protect, lay: what they leave. Package space: Make, Fork, Drop: what they leave. Package space: what each operation answers, and what it leaves. Package space: Make, Fork, Drop, Reclaim, Free: what they answer; deeds. Package space: a memory behind some deeds. -/
import Derived.Test.YtegjbfcgbfnldaaSmD
namespace Go.Proofs.Ytegjbfcgbfnldaa
open Go.AI
set_option linter.unusedSimpArgs false
set_option linter.unusedVariables false
section
def vw (A : Ab) (s k : Int) : Option (List Int × Int) := (getK s A.sps).bind fun x => (getK k x.2).bind fun y => (getK y.1 A.lo.pgs).map fun q => (q.data, y.2)
def has (A : Ab) (s : Int) : Prop := (getK s A.sps).isSome = true
theorem has_key {A : Ab} {s : Int} : has A s ↔ s ∈ A.sps.map (·.1) := by
  unfold has
  constructor
  · intro h
    refine Classical.byContradiction fun hn => ?_
    rw [getK_none.2 hn] at h
    cases h
  · intro h
    cases e : getK s A.sps with
    | none => exact absurd h (getK_none.1 e)
    | some x => rfl
theorem vw_of {A : Ab} {s k : Int} {m : Nat} {es : En} {p : Nat} {rg : Int} {q : Pg} (h1 : getK s A.sps = some (m, es)) (h2 : getK k es = some (p, rg)) (h3 : getK p A.lo.pgs = some q) : vw A s k = some (q.data, rg) := by
  simp [vw, h1, h2, h3]
theorem vw_inv {A : Ab} {s k : Int} {d : List Int} {rg : Int} (h : vw A s k = some (d, rg)) : ∃ m es p q, getK s A.sps = some (m, es) ∧ getK k es = some (p, rg) ∧ getK p A.lo.pgs = some q ∧ q.data = d := by
  unfold vw at h
  simp only [Option.bind_eq_some_iff, Option.map_eq_some_iff, Prod.mk.injEq] at h
  obtain ⟨⟨m, es⟩, h1, ⟨p, rg'⟩, h2, q, h3, h4, h5⟩ := h
  simp only at h2 h3 h5
  subst h5
  exact ⟨m, es, p, q, h1, h2, h3, h4⟩
theorem vw_none {A : Ab} (g : Good A) {s k : Int} {m : Nat} {es : En} (h1 : getK s A.sps = some (m, es)) : vw A s k = none ↔ getK k es = none := by
  unfold vw
  rw [h1]
  simp only [Option.bind_some]
  cases h2 : getK k es with
  | none => simp
  | some y =>
    obtain ⟨p, rg⟩ := y
    obtain ⟨q, hq⟩ := g.page h1 h2
    simp [hq]
theorem vw_no {A : Ab} {s k : Int} (h1 : getK s A.sps = none) : vw A s k = none := by simp [vw, h1]
theorem vw_len {H : Heap} {mid : Nat} {A : Ab} (r : Rep H mid A) {s k : Int} {d : List Int} {rg : Int} (h : vw A s k = some (d, rg)) : d.length = 16 := by
  obtain ⟨m, es, p, q, h1, h2, h3, h4⟩ := vw_inv h
  rw [← h4]
  exact (r.st.pg h3).2
theorem vw_rg {A : Ab} (g : Good A) {s k : Int} {d : List Int} {rg : Int} (h : vw A s k = some (d, rg)) : (0 ≤ k ∧ k < 64) ∧ 0 ≤ rg ∧ rg ≤ 7 := by
  obtain ⟨m, es, p, q, h1, h2, h3, h4⟩ := vw_inv h
  exact g.key _ (getK_mem h1) _ (getK_mem h2)
/-- other states show the same, if their pages do -/
theorem vw_eq {A A' : Ab} {s s' k : Int} (hs : (getK s' A'.sps).map (·.2) = (getK s A.sps).map (·.2)) (hp : ∀ m es p rg, getK s A.sps = some (m, es) → getK k es = some (p, rg) → (getK p A'.lo.pgs).map (·.data) = (getK p A.lo.pgs).map (·.data)) : vw A' s' k = vw A s k := by
  unfold vw
  cases h1 : getK s A.sps with
  | none =>
    rw [h1] at hs
    cases h2 : getK s' A'.sps with
    | none => rfl
    | some x => rw [h2] at hs; cases hs
  | some x =>
    rw [h1] at hs
    cases h2 : getK s' A'.sps with
    | none => rw [h2] at hs; cases hs
    | some x' =>
      rw [h2] at hs
      simp only [Option.map_some, Option.some.injEq] at hs
      obtain ⟨m, es⟩ := x
      obtain ⟨m', es'⟩ := x'
      simp only at hs
      subst hs
      simp only [Option.bind_some]
      cases h3 : getK k es' with
      | none => rfl
      | some y =>
        have := hp m es' y.1 y.2 h1 h3
        simp only [Option.bind_some]
        cases h4 : getK y.1 A.lo.pgs with
        | none =>
          rw [h4] at this
          cases h5 : getK y.1 A'.lo.pgs with
          | none => rfl
          | some q => rw [h5] at this; cases this
        | some q0 =>
          rw [h4] at this
          cases h5 : getK y.1 A'.lo.pgs with
          | none => rw [h5] at this; cases this
          | some q =>
            rw [h5] at this
            simp only [Option.map_some, Option.some.injEq] at this
            simp [this]
theorem Like.pg {L L' : Lo} (a : Like L L') (p : Nat) : (getK p L'.pgs).map (·.data) = (getK p L.pgs).map (·.data) := by
  cases h : getK p L.pgs with
  | some q =>
    obtain ⟨q', h1, h2, _⟩ := a.dt p q h
    rw [h1]; simp [h2]
  | none =>
    cases h2 : getK p L'.pgs with
    | none => rfl
    | some q' =>
      obtain ⟨q, h3, _⟩ := a.back h2
      rw [h] at h3; cases h3
theorem vw_like {A : Ab} {L' : Lo} (a : Like A.lo L') (s k : Int) : vw { A with lo := L' } s k = vw A s k := vw_eq rfl fun _ _ p _ _ _ => a.pg p
/-- a page of one entry alone -/
theorem alone {H : Heap} {mid : Nat} {A : Ab} (r : Rep H mid A) (g : Good A) {s k : Int} {m : Nat} {es : En} {p : Nat} {rg : Int} {q : Pg} (h1 : getK s A.sps = some (m, es)) (h2 : getK k es = some (p, rg)) (h3 : getK p A.lo.pgs = some q) (hu : q.users ≤ 1)
    {t j : Int} {m' : Nat} {es' : En} {p' : Nat} {rg' : Int} (h4 : getK t A.sps = some (m', es')) (h5 : getK j es' = some (p', rg')) (hne : ¬ (t = s ∧ j = k)) : p' ≠ p := by
  have hnd := r.ndk _ (getK_mem h1)
  have c1 := cntS_set (p := p) (m, delK k es) r.nds h1
  have c2 := cntE_del (p := p) hnd h2
  have hu2 := (g.users h3).1
  simp only [one_self] at c1 c2
  have hz := cntS_zero (p := p) (sps := setK s (m, delK k es) A.sps) (by omega)
  by_cases ht : t = s
  · subst ht
    rw [h1] at h4
    cases h4
    have hj : j ≠ k := fun e => hne ⟨rfl, e⟩
    have e1 : getK t (setK t (m, delK k es) A.sps) = some (m, delK k es) := by rw [getK_setK, if_pos rfl, h1]; rfl
    have e2 : getK j (delK k es) = some (p', rg') := by rw [getK_delK, if_neg hj, h5]
    exact hz _ (getK_mem e1) _ (getK_mem e2)
  · have e1 : getK t (setK s (m, delK k es) A.sps) = some (m', es') := by rw [getK_setK, if_neg ht, h4]
    exact hz _ (getK_mem e1) _ (getK_mem h5)
/-- what an operation on one space leaves alone -/
structure Eff (s : Int) (A A' : Ab) : Prop where
  fr : A'.lo.fr = A.lo.fr
  sl : A'.lo.sl = A.lo.sl
  ks : A'.sps.map (·.1) = A.sps.map (·.1)
  ot : ∀ t k, t ≠ s → vw A' t k = vw A t k
theorem Eff.refl (s : Int) (A : Ab) : Eff s A A := ⟨rfl, rfl, rfl, fun _ _ _ => rfl⟩
theorem Eff.trans {s : Int} {A B C : Ab} (a : Eff s A B) (b : Eff s B C) : Eff s A C := ⟨b.fr.trans a.fr, b.sl.trans a.sl, b.ks.trans a.ks, fun t k h => (b.ot t k h).trans (a.ot t k h)⟩
theorem Eff.like {A : Ab} {L' : Lo} (s : Int) (a : Like A.lo L') : Eff s A { A with lo := L' } := ⟨a.fr, a.sl, rfl, fun t k _ => vw_like a t k⟩
theorem Like.len {L L' : Lo} (a : Like L L') : L'.pgs.length = L.pgs.length := by have := congrArg List.length a.keys; simpa using this
/-- a page more for a space -/
def stS (mp : Nat) (s : Int) (A : Ab) (x : Ms) : Ab := ⟨x.L, setK s (mp, x.es) A.sps⟩
theorem putS_spec {mid mp : Nat} {k : Int} {d : List Int} {rg : Int} {x : Ms} {A : Ab} {s : Int} (h : RG mid (x.H, stS mp s A x)) (hs : ∃ e, getK s A.sps = some e) (hd : d.length = 16) (hr : (x.L.pgs.length : Int) + 1 ≤ x.L.fr + x.L.sl) (hk : getK k x.es = none) (hk2 : 0 ≤ k ∧ k < 64) (hg2 : 0 ≤ rg ∧ rg ≤ 7) :
    RG mid ((putS mid mp k d rg x).H, stS mp s A (putS mid mp k d rg x)) ∧ (∀ t j, vw (stS mp s A (putS mid mp k d rg x)) t j = if t = s ∧ j = k then some (d, rg) else vw (stS mp s A x) t j) ∧
      (putS mid mp k d rg x).L.fr = x.L.fr ∧ (putS mid mp k d rg x).L.sl = x.L.sl ∧ (putS mid mp k d rg x).L.pgs.length = x.L.pgs.length + 1 := by
  obtain ⟨r, g⟩ := h
  obtain ⟨e, he⟩ := hs
  have hle := r.st.wf.le
  simp only [stS] at hle
  have hf : ∀ p ∈ x.L.pgs.map (·.1), p < x.H.length := fun p => r.st.id_lt
  have hst := addL_lid (d := d) hf
  have hgs : getK s (setK s (mp, x.es) A.sps) = some (mp, x.es) := by rw [getK_setK, if_pos rfl, he]; rfl
  have hnew : getK k (x.es ++ [(k, (x.H.length + 1, rg))]) = some (x.H.length + 1, rg) := by rw [getK_app, hk]; simp
  have hnd := r.ndk _ (getK_mem hgs)
  have r2 := putS_rep (rg := rg) (k := k) (A := A) (s := s) r ⟨e, he⟩ hd (by omega) hk
  have hset : setK s (mp, x.es ++ [(k, (x.H.length + 1, rg))]) A.sps = setK s (mp, x.es ++ [(k, (x.H.length + 1, rg))]) (setK s (mp, x.es) A.sps) := (setK_setK _).symm
  refine ⟨⟨r2, ?_⟩, ?_, hst.2.2.1, hst.2.2.2.1, by simp only [putS]; exact addL_len hf⟩
  · simp only [stS, putS]
    rw [hset]
    refine g.addE (n := x.H.length) r.st.wf hd hf (by simp only [stS]; exact hr) (fun p' => ?_) (fun y hy e2 he2 => ?_) fun y hy => ?_
    · have h1 := cntS_set (p := p') (mp, x.es ++ [(k, (x.H.length + 1, rg))]) r.nds hgs
      have h2 : cntE p' (x.es ++ [(k, (x.H.length + 1, rg))]) = cntE p' x.es + one (x.H.length + 1 == p') := by rw [cntE_app, cntE_cons]; simp [cntE_nil]
      simp only [stS] at h1 ⊢
      omega
    · rcases mem_setK hy with ⟨rfl, _⟩ | ⟨h1, _⟩
      · rcases List.mem_append.1 he2 with h3 | h3
        · exact .inl ⟨_, getK_mem hgs, h3⟩
        · simp at h3
          subst h3
          exact .inr ⟨rfl, hk2, hg2⟩
      · exact .inl ⟨y, h1, he2⟩
    · rcases mem_setK hy with ⟨rfl, _⟩ | ⟨h1, _⟩
      · exact g.num (s, (mp, x.es)) (getK_mem hgs)
      · exact g.num y h1
  · intro t j
    have hpg : ∀ p, p < x.H.length + 1 → (getK p (x.L.addL x.H.length d).pgs).map (·.data) = (getK p x.L.pgs).map (·.data) := fun p hp => by
      cases h : getK p x.L.pgs with
      | some q =>
        obtain ⟨q', h1, h2, _⟩ := (addL_get (d := d) hf).2 p q h
        rw [h1]; simp [h2]
      | none =>
        cases h2 : getK p (x.L.addL x.H.length d).pgs with
        | none => rfl
        | some q' =>
          rcases addL_back hf h2 with ⟨h3, _⟩ | ⟨_, q, h3, _⟩
          · omega
          · rw [h] at h3; cases h3
    by_cases ht : t = s
    · subst ht
      have hg1 : getK t (setK t (mp, x.es ++ [(k, (x.H.length + 1, rg))]) A.sps) = some (mp, x.es ++ [(k, (x.H.length + 1, rg))]) := by rw [getK_setK, if_pos rfl, he]; rfl
      by_cases hj : j = k
      · subst hj
        rw [if_pos ⟨rfl, rfl⟩]
        obtain ⟨⟨q', hq1, hq2, _⟩, _⟩ := addL_get (d := d) hf
        have := vw_of (A := stS mp t A (putS mid mp j d rg x)) hg1 hnew hq1
        rw [this, hq2]
      · rw [if_neg (fun e => hj e.2)]
        unfold vw
        simp only [stS, putS]
        rw [hg1, hgs]
        simp only [Option.bind_some]
        have h6 : getK j (x.es ++ [(k, (x.H.length + 1, rg))]) = getK j x.es := by
          rw [getK_app]
          cases getK j x.es with
          | some y => rfl
          | none => simp only; rw [if_neg (fun e => hj e.symm)]
        rw [h6]
        cases h7 : getK j x.es with
        | none => rfl
        | some y =>
          obtain ⟨p, rg'⟩ := y
          obtain ⟨q, hq⟩ := g.page hgs h7
          simp only [Option.bind_some]
          have h8 := hpg p (by have := hf p (List.mem_map.2 ⟨_, getK_mem hq, rfl⟩); omega)
          replace hq : getK p x.L.pgs = some q := hq
          rw [hq] at h8 ⊢
          cases h9 : getK p (x.L.addL x.H.length d).pgs with
          | none => rw [h9] at h8; cases h8
          | some q' =>
            rw [h9] at h8
            simp only [Option.map_some, Option.some.injEq] at h8
            simp [h8]
    · rw [if_neg (fun e => ht e.1)]
      refine vw_eq ?_ fun m es p rg' h1 h2 => ?_
      · simp only [stS, putS]
        rw [getK_setK, if_neg ht, getK_setK, if_neg ht]
      · obtain ⟨q, hq⟩ := g.page h1 h2
        exact hpg p (by have := hf p (List.mem_map.2 ⟨_, getK_mem hq, rfl⟩); omega)
theorem mapS_spec {mid mp : Nat} {first rg : Int} {x : Ms} {A : Ab} {s : Int} (h : RG mid (x.H, stS mp s A x)) (hs : ∃ e, getK s A.sps = some e) (h0 : 0 ≤ first) (hg2 : 0 ≤ rg ∧ rg ≤ 7) : ∀ (j : Nat), first + j ≤ 64 → (x.L.pgs.length : Int) + j ≤ x.L.fr + x.L.sl → (∀ i : Nat, i < j → getK (first + (i : Nat)) x.es = none) →
    RG mid ((mapS mid mp first rg x j).H, stS mp s A (mapS mid mp first rg x j)) ∧ (∀ t k, vw (stS mp s A (mapS mid mp first rg x j)) t k = if t = s ∧ first ≤ k ∧ k < first + j then some (z16, rg) else vw (stS mp s A x) t k) ∧
      (mapS mid mp first rg x j).L.fr = x.L.fr ∧ (mapS mid mp first rg x j).L.sl = x.L.sl ∧ (mapS mid mp first rg x j).L.pgs.length = x.L.pgs.length + j
  | 0, _, _, _ => ⟨h, fun t k => by rw [if_neg (by simp only [Int.natCast_zero, Int.ofNat_zero]; omega)]; rfl, rfl, rfl, rfl⟩
  | j + 1, hj, hl, hno => by
    obtain ⟨r1, v1, f1, f2, f3⟩ := mapS_spec h hs h0 hg2 j (by omega) (by omega) (fun i hi => hno i (by omega))
    obtain ⟨e, he⟩ := hs
    have hk : getK (first + (j : Nat)) (mapS mid mp first rg x j).es = none := by
      have hv := v1 s (first + (j : Nat))
      rw [if_neg (by omega)] at hv
      have hg1 : getK s (stS mp s A x).sps = some (mp, x.es) := by simp only [stS]; rw [getK_setK, if_pos rfl, he]; rfl
      have hg2 : getK s (stS mp s A (mapS mid mp first rg x j)).sps = some (mp, (mapS mid mp first rg x j).es) := by simp only [stS]; rw [getK_setK, if_pos rfl, he]; rfl
      rw [(vw_none h.2 hg1).2 (hno j (by omega))] at hv
      exact (vw_none r1.2 hg2).1 hv
    obtain ⟨r2, v2, e1, e2, e3⟩ := putS_spec (d := z16) (rg := rg) (k := first + (j : Nat)) r1 ⟨e, he⟩ rfl (by omega) hk (by omega) hg2
    refine ⟨r2, fun t k => ?_, e1.trans f1, e2.trans f2, by simp only [mapS]; omega⟩
    simp only [mapS]
    rw [v2, v1]
    by_cases c1 : t = s ∧ k = first + (j : Nat)
    · rw [if_pos c1, if_pos (by omega)]
    · rw [if_neg c1]
      by_cases c2 : t = s ∧ first ≤ k ∧ k < first + (j : Nat)
      · rw [if_pos c2, if_pos (by omega)]
      · rw [if_neg c2, if_neg (by omega)]
end
section
/-- an entry -/
def enK (A : Ab) (t j : Int) : Option (Nat × Int) := (getK t A.sps).bind fun x => getK j x.2
theorem enK_of {A : Ab} {t j : Int} {m : Nat} {es : En} (h : getK t A.sps = some (m, es)) : enK A t j = getK j es := by simp [enK, h]
theorem enK_get {A : Ab} {t j : Int} {y : Nat × Int} (h : enK A t j = some y) : ∃ m es, getK t A.sps = some (m, es) ∧ getK j es = some y := by
  unfold enK at h
  simp only [Option.bind_eq_some_iff] at h
  obtain ⟨⟨m, es⟩, h1, h2⟩ := h
  exact ⟨m, es, h1, h2⟩
theorem vw_en {A : Ab} {t j : Int} : vw A t j = (enK A t j).bind fun y => (getK y.1 A.lo.pgs).map fun q => (q.data, y.2) := by
  unfold vw enK
  cases getK t A.sps <;> rfl
theorem vw_back {A A' : Ab} {t j : Int} (g' : Good A') (he : enK A' t j = enK A t j) (hb : ∀ p rg q', enK A t j = some (p, rg) → getK p A'.lo.pgs = some q' → ∃ q, getK p A.lo.pgs = some q ∧ q.data = q'.data) : vw A' t j = vw A t j := by
  rw [vw_en, vw_en, he]
  cases h : enK A t j with
  | none => rfl
  | some y =>
    obtain ⟨p, rg⟩ := y
    rw [h] at he
    obtain ⟨m, es, h1, h2⟩ := enK_get he
    obtain ⟨q', hq'⟩ := g'.page h1 h2
    obtain ⟨q, hq, hd⟩ := hb p rg q' h hq'
    simp only [Option.bind_some]
    rw [hq, hq']
    simp [hd]
theorem letP_back {L : Lo} {p p' : Nat} {q q' : Pg} (hq : getK p L.pgs = some q) (h : getK p' (L.letP p q).pgs = some q') : ∃ q0, getK p' L.pgs = some q0 ∧ q0.data = q'.data := by
  unfold Lo.letP at h
  split at h
  · simp only [Lo.delP, getK_delK] at h
    split at h
    · cases h
    · exact ⟨q', h, rfl⟩
  · simp only [Lo.setP, getK_setK] at h
    split at h
    · rename_i e
      subst e
      rw [hq] at h
      cases h
      exact ⟨q, hq, rfl⟩
    · exact ⟨q', h, rfl⟩
theorem unX_spec {mid : Nat} {s k : Int} {X : Heap × Ab} (h : RG mid X) : (∀ t j, vw (unX mid s k X).2 t j = if t = s ∧ j = k then none else vw X.2 t j) ∧ (unX mid s k X).2.lo.fr = X.2.lo.fr ∧ (unX mid s k X).2.lo.sl = X.2.lo.sl ∧ (unX mid s k X).2.sps.map (·.1) = X.2.sps.map (·.1) := by
  have h' := unX_rg (s := s) (k := k) h
  obtain ⟨r, g⟩ := h
  have g' := h'.2
  have nochange : vw X.2 s k = none → ∀ t j, vw X.2 t j = if t = s ∧ j = k then none else vw X.2 t j := fun h t j => by
    split
    · rename_i e
      rw [e.1, e.2, h]
    · rfl
  unfold unX at g' ⊢
  cases hg : getK s X.2.sps with
  | none => exact ⟨nochange (vw_no hg), rfl, rfl, rfl⟩
  | some x =>
    obtain ⟨m, es⟩ := x
    simp only [hg] at g' ⊢
    cases hk : getK k es with
    | none => exact ⟨nochange ((vw_none g hg).2 hk), rfl, rfl, rfl⟩
    | some y =>
      obtain ⟨p, rg⟩ := y
      obtain ⟨q, hq⟩ := g.page hg hk
      simp only [hk, hq] at g' ⊢
      obtain ⟨e1, e2, e3, _⟩ := @letP_sid X.2.lo p q
      refine ⟨fun t j => ?_, e2, e3, setK_keys _⟩
      have hgs : getK s (setK s (m, delK k es) X.2.sps) = some (m, delK k es) := by rw [getK_setK, if_pos rfl, hg]; rfl
      split
      · rename_i e
        rw [e.1, e.2]
        exact (vw_none g' hgs).2 (by rw [getK_delK, if_pos rfl])
      · rename_i hne
        refine vw_back g' ?_ fun p' rg' q' _ h2 => letP_back hq h2
        by_cases ht : t = s
        · subst ht
          rw [enK_of hgs, enK_of hg, getK_delK, if_neg (fun e => hne ⟨rfl, e⟩)]
        · unfold enK
          simp only
          rw [getK_setK, if_neg ht]
theorem unmapX_spec {mid : Nat} {s first : Int} {X : Heap × Ab} (h : RG mid X) : ∀ n : Nat, (∀ t j, vw (unmapX mid s first X n).2 t j = if t = s ∧ first ≤ j ∧ j < first + n then none else vw X.2 t j) ∧ (unmapX mid s first X n).2.lo.fr = X.2.lo.fr ∧ (unmapX mid s first X n).2.lo.sl = X.2.lo.sl ∧ (unmapX mid s first X n).2.sps.map (·.1) = X.2.sps.map (·.1)
  | 0 => ⟨fun t j => by rw [if_neg (by simp only [Int.natCast_zero, Int.ofNat_zero]; omega)]; rfl, rfl, rfl, rfl⟩
  | n + 1 => by
    obtain ⟨v1, f1, f2, f3⟩ := unmapX_spec (s := s) (first := first) h n
    obtain ⟨v2, k1, k2, k3⟩ := unX_spec (s := s) (k := first + (n : Nat)) (unmapX_rg (s := s) (first := first) h n)
    refine ⟨fun t j => ?_, k1.trans f1, k2.trans f2, k3.trans f3⟩
    simp only [unmapX]
    rw [v2, v1]
    by_cases c1 : t = s ∧ j = first + (n : Nat)
    · rw [if_pos c1, if_pos (by omega)]
    · rw [if_neg c1]
      by_cases c2 : t = s ∧ first ≤ j ∧ j < first + (n : Nat)
      · rw [if_pos c2, if_pos (by omega)]
      · rw [if_neg c2, if_neg (by omega)]
theorem cnt_prot {es : En} {first rg : Int} {p : Nat} (hn : (es.map (·.1)).Nodup) : ∀ j, cntE p (protE es first rg j) = cntE p es
  | 0 => rfl
  | j + 1 => by
    have ih := cnt_prot (first := first) (rg := rg) (p := p) hn j
    simp only [protE]
    split
    · rename_i x hx
      have h1 := cntE_set (p := p) (x.1, rg) (by rw [protE_keys]; exact hn) hx
      simp only at h1
      omega
    · exact ih
theorem prot_spec {H : Heap} {mid : Nat} {A : Ab} (h : RG mid (H, A)) {s first rg : Int} {m : Nat} {es : En} (hg : getK s A.sps = some (m, es)) (hr : 0 ≤ rg ∧ rg ≤ 7) (n : Nat) :
    RG mid (H.set m (some (0, (protE es first rg n).map enRow)), A.setE s m (protE es first rg n)) ∧ (∀ t j, vw (A.setE s m (protE es first rg n)) t j = if t = s then (vw A s j).map (fun x => if first ≤ j ∧ j < first + n then (x.1, rg) else x) else vw A t j) ∧ (A.setE s m (protE es first rg n)).sps.map (·.1) = A.sps.map (·.1) := by
  have r : Rep H mid A := h.1
  have g : Good A := h.2
  have hnd : (es.map (·.1)).Nodup := r.ndk _ (getK_mem hg)
  have hgs : getK s (A.setE s m (protE es first rg n)).sps = some (m, protE es first rg n) := by simp only [Ab.setE]; rw [getK_setK, if_pos rfl, hg]; rfl
  have hen : ∀ e ∈ protE es first rg n, ∃ rg', (e.1, (e.2.1, rg')) ∈ es ∧ (e.2.2 = rg' ∨ e.2.2 = rg) := fun e he => by
    have h1 := getK_of (by rw [protE_keys]; exact hnd) (show (e.1, e.2) ∈ protE es first rg n from he)
    rw [protE_get] at h1
    cases h2 : getK e.1 es with
    | none => rw [h2] at h1; cases h1
    | some y =>
      rw [h2] at h1
      simp only [Option.map_some, Option.some.injEq] at h1
      split at h1
      · rw [← h1]
        exact ⟨y.2, getK_mem h2, .inr rfl⟩
      · rw [← h1]
        exact ⟨y.2, getK_mem h2, .inl rfl⟩
  refine ⟨⟨r.setE hg (by rw [protE_keys]; exact hnd), ?_⟩, fun t j => ?_, setK_keys _⟩
  · refine Good.mk2 r.st.wf.nd (fun p q hq => ?_) (fun x hx e he => ?_) (fun x hx e he => ?_) (fun x hx => ?_) g.room
    · have h1 := cntS_set (p := p) (m, protE es first rg n) r.nds hg
      have h2 := cnt_prot (first := first) (rg := rg) (p := p) hnd n
      have h3 := g.users hq
      simp only [Ab.setE] at h1 ⊢
      omega
    · rcases mem_setK hx with ⟨rfl, _⟩ | ⟨h1, _⟩
      · obtain ⟨rg', h2, _⟩ := hen e he
        exact g.has (getK_mem hg) (e := (e.1, (e.2.1, rg'))) h2
      · exact g.has h1 he
    · rcases mem_setK hx with ⟨rfl, _⟩ | ⟨h1, _⟩
      · obtain ⟨rg', h2, h3⟩ := hen e he
        have := g.key _ (getK_mem hg) _ h2
        simp only at this
        rcases h3 with h3 | h3 <;> omega
      · exact g.key x h1 e he
    · rcases mem_setK hx with ⟨rfl, _⟩ | ⟨h1, _⟩
      · exact g.num (s, (m, es)) (getK_mem hg)
      · exact g.num x h1
  · split
    · rename_i e
      subst e
      rw [vw_en, vw_en, enK_of hgs, enK_of hg, protE_get]
      cases getK j es with
      | none => rfl
      | some y =>
        simp only [Option.map_some, Option.bind_some]
        show (getK _ A.lo.pgs).map _ = _
        split
        · cases getK y.1 A.lo.pgs with
          | none => rfl
          | some q => rfl
        · cases getK y.1 A.lo.pgs with
          | none => rfl
          | some q => rfl
    · rename_i ht
      refine vw_eq ?_ fun _ _ _ _ _ _ => rfl
      simp only [Ab.setE]
      rw [getK_setK, if_neg ht]
/-- behind the copy the page is this entry's own, and everything is seen as before -/
theorem copyX_spec {mid : Nat} {s k : Int} {X : Heap × Ab} (h : RG mid X) (hc : RG mid (copyX mid s k X)) : (∀ t j, vw (copyX mid s k X).2 t j = vw X.2 t j) ∧ (copyX mid s k X).2.lo.fr = X.2.lo.fr ∧ (copyX mid s k X).2.lo.sl = X.2.lo.sl ∧ (copyX mid s k X).2.sps.map (·.1) = X.2.sps.map (·.1) ∧
    ∀ p rg q, enK (copyX mid s k X).2 s k = some (p, rg) → getK p (copyX mid s k X).2.lo.pgs = some q → q.users ≤ 1 := by
  obtain ⟨r, g⟩ := h
  unfold copyX at hc ⊢
  cases hg : getK s X.2.sps with
  | none =>
    refine ⟨fun _ _ => rfl, rfl, rfl, rfl, fun p rg q h1 _ => ?_⟩
    simp [enK, hg] at h1
  | some x =>
    obtain ⟨m, es⟩ := x
    simp only [hg] at hc ⊢
    cases hk : getK k es with
    | none =>
      refine ⟨fun _ _ => rfl, rfl, rfl, rfl, fun p rg q h1 _ => ?_⟩
      simp [enK, hg, hk] at h1
    | some y =>
      obtain ⟨p, rg⟩ := y
      obtain ⟨q, hq⟩ := g.page hg hk
      simp only [hk, hq] at hc ⊢
      split
      case isFalse hu =>
        refine ⟨fun _ _ => rfl, rfl, rfl, rfl, fun p' rg' q' h1 h2 => ?_⟩
        rw [enK_of hg, hk] at h1
        cases h1
        simp only at h2
        rw [hq] at h2
        cases h2
        omega
      rename_i hu
      rw [if_pos hu] at hc
      have g' := hc.2
      simp only at g'
      have hst : ∀ x ∈ (X.2.lo.setP p (lessU q)).pgs.map (·.1), x < X.1.length + 1 := fun x hx => by simp only [Lo.setP, setK_keys] at hx; have := r.st.id_lt hx; omega
      obtain ⟨s1, s2, s3, s4, s5⟩ := addL_lid (d := q.data) hst
      have hgs : getK s (setK s (m, setK k (X.1.length + 2, rg) es) X.2.sps) = some (m, setK k (X.1.length + 2, rg) es) := by rw [getK_setK, if_pos rfl, hg]; rfl
      have hgk : getK k (setK k (X.1.length + 2, rg) es) = some (X.1.length + 2, rg) := by rw [getK_setK, if_pos rfl, hk]; rfl
      obtain ⟨⟨q2, hq2, hqd2, hqu2⟩, _⟩ := addL_get (d := q.data) hst
      refine ⟨fun t j => ?_, s3, s4, setK_keys _, fun p' rg' q' h1 h2 => ?_⟩
      · by_cases hc : t = s ∧ j = k
        · obtain ⟨rfl, rfl⟩ := hc
          have e1 := @vw_of ⟨(X.2.lo.setP p (lessU q)).addL (X.1.length + 1) q.data, setK t (m, setK j (X.1.length + 2, rg) es) X.2.sps⟩ t j m _ _ _ _ hgs hgk hq2
          refine Eq.trans e1 ?_
          rw [vw_of hg hk hq, hqd2]
        · refine vw_back g' ?_ fun p' rg' q' h1 h2 => ?_
          · by_cases ht : t = s
            · subst ht
              rw [enK_of hgs, enK_of hg, getK_setK, if_neg (fun e => hc ⟨rfl, e⟩)]
            · unfold enK
              simp only
              rw [getK_setK, if_neg ht]
          · obtain ⟨m', es', k1, k2⟩ := enK_get h1
            obtain ⟨q0, hq0⟩ := g.page k1 k2
            have hp' := r.st.id_lt (List.mem_map.2 ⟨_, getK_mem hq0, rfl⟩)
            simp only at hp'
            rcases addL_back hst h2 with ⟨rfl, _, _⟩ | ⟨_, q1, m1, m2, m3⟩
            · omega
            · refine ⟨q0, hq0, ?_⟩
              simp only [Lo.setP, getK_setK] at m1
              split at m1
              · rename_i e
                subst e
                rw [hq] at m1 hq0
                cases m1; cases hq0
                rw [m2]; rfl
              · rw [hq0] at m1
                cases m1
                rw [m2]
      · rw [enK_of hgs, hgk] at h1
        cases h1
        simp only at h2
        replace h2 : getK (X.1.length + 1 + 1) _ = some q' := h2
        rw [hq2] at h2
        cases h2
        omega
theorem putX_spec {mid : Nat} {s k b : Int} {tt : Nat} {X : Heap × Ab} (h : RG mid X) (hu : ∀ p rg q, enK X.2 s k = some (p, rg) → getK p X.2.lo.pgs = some q → q.users ≤ 1) :
    (∀ t j, vw (putX mid s k tt b X).2 t j = if t = s ∧ j = k then (vw X.2 s k).map (fun x => (x.1.set tt b, x.2)) else vw X.2 t j) ∧ (putX mid s k tt b X).2.lo.fr = X.2.lo.fr ∧ (putX mid s k tt b X).2.lo.sl = X.2.lo.sl ∧ (putX mid s k tt b X).2.sps = X.2.sps := by
  have h' := putX_rg (s := s) (k := k) (t := tt) (b := b) h
  obtain ⟨r, g⟩ := h
  have g' := h'.2
  have nochange : vw X.2 s k = none → ∀ t j, vw X.2 t j = if t = s ∧ j = k then (vw X.2 s k).map (fun x => (x.1.set tt b, x.2)) else vw X.2 t j := fun h t j => by
    split
    · rename_i e
      rw [e.1, e.2, h]; rfl
    · rfl
  unfold putX at g' ⊢
  cases hg : getK s X.2.sps with
  | none => exact ⟨nochange (vw_no hg), rfl, rfl, rfl⟩
  | some x =>
    obtain ⟨m, es⟩ := x
    simp only [hg] at g' ⊢
    cases hk : getK k es with
    | none => exact ⟨nochange ((vw_none g hg).2 hk), rfl, rfl, rfl⟩
    | some y =>
      obtain ⟨p, rg⟩ := y
      obtain ⟨q, hq⟩ := g.page hg hk
      simp only [hk, hq] at g' ⊢
      have lk : Like X.2.lo (X.2.lo.ask p q) := Like.ask hq
      obtain ⟨q', hq', hd', hu'⟩ := lk.dt p q hq
      simp only [hq'] at g' ⊢
      have hset : getK p (Lo.setP p { q' with data := q'.data.set tt b } (X.2.lo.ask p q)).pgs = some { q' with data := q'.data.set tt b } := by
        simp only [Lo.setP, getK_setK, if_true, hq']; rfl
      refine ⟨fun t j => ?_, lk.fr, lk.sl, trivial⟩
      split
      · rename_i e
        obtain ⟨rfl, rfl⟩ := e
        have e1 := @vw_of ⟨(X.2.lo.ask p q).setP p { q' with data := q'.data.set tt b }, X.2.sps⟩ t j m es p rg _ hg hk hset
        refine Eq.trans e1 ?_
        rw [vw_of hg hk hq]
        simp [hd']
      · rename_i hne
        refine vw_back g' rfl fun p' rg' q1 h1 h2 => ?_
        obtain ⟨m', es', k1, k2⟩ := enK_get h1
        have hpp : p' ≠ p := alone r g hg hk hq (hu p rg q (by rw [enK_of hg, hk]) hq) k1 k2 hne
        simp only [Lo.setP, getK_setK, if_neg hpp] at h2
        obtain ⟨q2, m1, m2, _⟩ := lk.back h2
        exact ⟨q2, m1, m2.symm⟩
/-- a page behind so many bytes -/
def patN (k addr : Int) (d : List Int) : Nat → List Int → List Int
  | 0, x => x
  | j + 1, x => if (addr + (j : Nat)) / 16 = k then (patN k addr d j x).set ((addr + (j : Nat)) % 16).toNat ((d[j]?).getD 0) else patN k addr d j x
theorem layN_spec {mid mp n : Nat} {s addr : Int} {d : List Int} {es : En} {X : Heap × Ab} (h : LayI mid mp s addr n 0 es X X) (h0 : 0 ≤ addr) : ∀ i, i ≤ n → (∀ t j, vw (layN mid s addr d X i).2 t j = if t = s then (vw X.2 s j).map (fun x => (patN j addr d i x.1, x.2)) else vw X.2 t j) ∧ (layN mid s addr d X i).2.lo.fr = X.2.lo.fr ∧ (layN mid s addr d X i).2.lo.sl = X.2.lo.sl ∧ (layN mid s addr d X i).2.sps.map (·.1) = X.2.sps.map (·.1)
  | 0, _ => ⟨fun t j => by
      split
      · rename_i e
        rw [e]
        show vw X.2 s j = _
        cases vw X.2 s j <;> simp [patN]
      · rfl, rfl, rfl, rfl⟩
  | i + 1, hi => by
    obtain ⟨v1, f1, f2, f3⟩ := layN_spec (d := d) h h0 i (by omega)
    have ik := layN_inv (d := d) h h0 i (by omega)
    have hc := ik.copy h0 (by omega)
    obtain ⟨v2, a1, a2, a3, a4⟩ := copyX_spec ik.rg hc
    obtain ⟨v3, b1, b2, b3⟩ := putX_spec (tt := ((addr + (i : Nat)) % 16).toNat) (b := (d[i]?).getD 0) hc a4
    refine ⟨fun t j => ?_, (b1.trans a1).trans f1, (b2.trans a2).trans f2, ?_⟩
    · show vw (layX mid s ((addr + (i : Nat)) / 16) ((addr + (i : Nat)) % 16).toNat ((d[i]?).getD 0) (layN mid s addr d X i)).2 t j = _
      unfold layX
      rw [v3, v2, v2, v1, v1]
      by_cases ht : t = s
      · subst ht
        simp only [true_and, if_true]
        by_cases hj : j = (addr + (i : Nat)) / 16
        · subst hj
          rw [if_pos rfl]
          cases vw X.2 t ((addr + (i : Nat)) / 16) with
          | none => rfl
          | some x => simp [patN]
        · rw [if_neg hj]
          cases vw X.2 t j with
          | none => rfl
          | some x =>
            simp only [Option.map_some, patN]
            rw [if_neg (fun e => hj e.symm)]
      · rw [if_neg (fun e => ht e.1), if_neg ht, if_neg ht]
    · show (putX mid s _ _ _ (copyX mid s _ (layN mid s addr d X i))).2.sps.map (·.1) = _
      rw [b3, a3, f3]
end
section
theorem freeF_range {ks : List Int} {to : Int} : ∀ {m : Nat} {s : Int}, freeF ks s m = some to → s ≤ to ∧ to < s + m ∧ to ∉ ks ∧ ∀ j, s ≤ j → j < to → j ∈ ks
  | m + 1, s, h => by
    unfold freeF at h
    split at h
    · rename_i hm
      obtain ⟨h1, h2, h3, h4⟩ := freeF_range h
      refine ⟨by omega, by push_cast; omega, h3, fun j hj hjt => ?_⟩
      by_cases e : j = s
      · rw [e]; exact hm
      · exact h4 j (by omega) hjt
    · rename_i hn
      cases h
      exact ⟨by omega, by push_cast; omega, hn, fun j h1 h2 => by omega⟩
theorem freeF_all {ks : List Int} : ∀ {m : Nat} {s : Int}, freeF ks s m = none → ∀ j, s ≤ j → j < s + m → j ∈ ks
  | 0, s, _, j, h1, h2 => by simp at h2; omega
  | m + 1, s, h, j, h1, h2 => by
    unfold freeF at h
    split at h
    · rename_i hm
      by_cases e : j = s
      · rw [e]; exact hm
      · exact freeF_all h j (by omega) (by push_cast at h2; omega)
    · cases h
theorem Rep.more {H H' : Heap} {mid n : Nat} {A : Ab} {L' : Lo} {s : Int} {es : En} (r : Rep H mid A) (st : St H' mid L') (hsid : L'.sid = A.lo.sid) (hs : s ∉ A.sps.map (·.1)) (hn : H.length ≤ n) (h1 : H'[A.lo.sid]? = some (some (0, (A.sps ++ [(s, (n, es))]).map spRow))) (h2 : H'[n]? = some (some (0, es.map enRow)))
    (hk : ∀ x ∈ A.sps, H'[x.2.1]? = H[x.2.1]?) (hes : (es.map (·.1)).Nodup) : Rep H' mid ⟨L', A.sps ++ [(s, (n, es))]⟩ := by
  have hlt : ∀ x ∈ A.sps, x.2.1 < n := fun x hx => by
    have := (List.getElem?_eq_some_iff.1 (r.en x hx)).1
    omega
  have hsl := (List.getElem?_eq_some_iff.1 r.sp).1
  refine ⟨st, by rw [hsid]; exact h1, fun x hx => ?_, ?_, ?_, fun x hx => ?_⟩
  · rcases List.mem_append.1 hx with h | h
    · rw [hk x h]; exact r.en x h
    · simp at h
      subst h
      exact h2
  · rw [List.map_append, List.nodup_append]
    refine ⟨r.nds, by simp, fun a ha b hb => ?_⟩
    simp at hb
    subst hb
    rintro rfl
    exact hs ha
  · show (L'.sid :: (A.sps ++ [(s, (n, es))]).map (·.2.1)).Nodup
    rw [hsid, List.map_append, ← List.cons_append, List.nodup_append]
    refine ⟨r.ndm, by simp, fun a ha b hb => ?_⟩
    simp at hb
    subst hb
    rintro rfl
    rcases List.mem_cons.1 ha with h | h
    · omega
    · obtain ⟨x, hx, e⟩ := List.mem_map.1 h
      have := hlt x hx
      omega
  · rcases List.mem_append.1 hx with h | h
    · exact r.ndk x h
    · simp at h
      subst h
      exact hes
/-- a space more -/
def addA (L' : Lo) (A : Ab) (s : Int) (n : Nat) (es : En) : Ab := ⟨L', A.sps ++ [(s, (n, es))]⟩
theorem get_more {A : Ab} {s t : Int} {n : Nat} {es : En} (hs : s ∉ A.sps.map (·.1)) : getK t (A.sps ++ [(s, (n, es))]) = if t = s then some (n, es) else getK t A.sps := by
  rw [getK_app]
  split
  · rename_i x hx
    rw [if_neg, hx]
    rintro rfl
    rw [getK_none.2 hs] at hx; cases hx
  · rename_i hx
    by_cases h : t = s
    · subst h; simp
    · rw [if_neg (fun e => h e.symm), if_neg h, hx]
theorem make_spec {H : Heap} {mid : Nat} {A : Ab} (h : RG mid (H, A)) {s : Int} (hf : freeF (A.sps.map (·.1)) 1 16 = some s) :
    RG mid ((H ++ [some (0, [])]).set A.lo.sid (some (0, (A.sps.map (fun x : Int × (Nat × En) => (x.1, x.2.1)) ++ [(s, H.length)]).map mRow)), addA A.lo A s H.length []) ∧ ∀ t j, t ≠ s → vw (addA A.lo A s H.length []) t j = vw A t j := by
  have r : Rep H mid A := h.1
  have g : Good A := h.2
  obtain ⟨f1, f2, f3, f4⟩ := freeF_range hf
  have hsl := (List.getElem?_eq_some_iff.1 r.sp).1
  have hrows : (A.sps.map (fun x : Int × (Nat × En) => (x.1, x.2.1)) ++ [(s, H.length)]).map mRow = (A.sps ++ [(s, (H.length, ([] : En)))]).map spRow := by
    rw [List.map_append, List.map_append, List.map_map]; rfl
  refine ⟨⟨r.more (r.st.app.set_ne r.freeS) rfl f3 (Nat.le_refl _) ?_ ?_ (fun x hx => ?_) (by simp), ?_⟩, fun t j ht => ?_⟩
  · rw [hrows, List.getElem?_set_self (by simp; omega)]
  · rw [List.getElem?_set_ne (by omega), List.getElem?_append_right (Nat.le_refl _)]; simp
  · have h1 := (List.getElem?_eq_some_iff.1 (r.en x hx)).1
    rw [List.getElem?_set_ne, List.getElem?_append_left h1]
    intro e
    have := r.ndm
    rw [List.nodup_cons] at this
    exact this.1 (List.mem_map.2 ⟨x, hx, e.symm⟩)
  · refine Good.mk2 r.st.wf.nd (fun p q hq => ?_) (fun x hx e he => ?_) (fun x hx e he => ?_) (fun x hx => ?_) g.room
    · have := g.users hq
      simp only [addA, cntS_app, cntS_cons, cntE_nil]
      have e0 : cntS p [] = 0 := rfl
      omega
    · rcases List.mem_append.1 hx with h | h
      · exact g.has h he
      · simp at h
        subst h
        simp at he
    · rcases List.mem_append.1 hx with h | h
      · exact g.key x h e he
      · simp at h
        subst h
        simp at he
    · rcases List.mem_append.1 hx with h | h
      · exact g.num x h
      · simp at h
        subst h
        simp only; omega
  · refine vw_eq ?_ fun _ _ _ _ _ _ => rfl
    simp only [addA]
    rw [get_more f3, if_neg ht]
theorem fork_spec {H : Heap} {mid : Nat} {A : Ab} (h : RG mid (H, A)) {s to : Int} {m : Nat} {es : En} (hg : getK s A.sps = some (m, es)) (hf : freeF (A.sps.map (·.1)) 1 16 = some to) :
    RG mid (wr (H.set A.lo.sid (some (0, (A.sps.map (fun x : Int × (Nat × En) => (x.1, x.2.1)) ++ [(to, H.length)]).map mRow)) ++ (some (0, es.map enRow) :: List.replicate (es.length + 1) none)) mid (A.lo.up fun p => cntE p es), addA (A.lo.up fun p => cntE p es) A to H.length es) ∧
      ∀ t j, vw (addA (A.lo.up fun p => cntE p es) A to H.length es) t j = if t = to then vw A s j else vw A t j := by
  have r : Rep H mid A := h.1
  have g : Good A := h.2
  obtain ⟨f1, f2, f3, f4⟩ := freeF_range hf
  have hsl := (List.getElem?_eq_some_iff.1 r.sp).1
  have hrows : (A.sps.map (fun x : Int × (Nat × En) => (x.1, x.2.1)) ++ [(to, H.length)]).map mRow = (A.sps ++ [(to, (H.length, es))]).map spRow := by
    rw [List.map_append, List.map_append, List.map_map]; rfl
  have hst : St (wr (H.set A.lo.sid (some (0, (A.sps.map (fun x : Int × (Nat × En) => (x.1, x.2.1)) ++ [(to, H.length)]).map mRow)) ++ (some (0, es.map enRow) :: List.replicate (es.length + 1) none)) mid (A.lo.up fun p => cntE p es)) mid (A.lo.up fun p => cntE p es) :=
    St.ofwr r.st.wf.up fun i x hx => by
      have := Less.up.lt r.st i x hx
      simp; omega
  have hup : ∀ p, (getK p (A.lo.up fun p => cntE p es).pgs).map (·.data) = (getK p A.lo.pgs).map (·.data) := fun p => by
    rw [up_get]
    cases getK p A.lo.pgs <;> rfl
  refine ⟨⟨r.more hst rfl f3 (Nat.le_refl _) ?_ ?_ (fun x hx => ?_) (r.ndk _ (getK_mem hg)), ?_⟩, fun t j => ?_⟩
  · rw [wr_ne (Less.up _ r.freeS), List.getElem?_append_left (by simpa using hsl), hrows, List.getElem?_set_self hsl]
  · rw [wr_ne (Less.up _ (r.st.lt_none (Nat.le_refl _))), List.getElem?_append_right (by simp)]
    simp
  · have h1 := (List.getElem?_eq_some_iff.1 (r.en x hx)).1
    rw [wr_ne (Less.up _ (r.freeE hx)), List.getElem?_append_left (by simpa using h1), List.getElem?_set_ne]
    intro e
    have := r.ndm
    rw [List.nodup_cons] at this
    exact this.1 (List.mem_map.2 ⟨x, hx, e.symm⟩)
  · refine Good.mk2 ?_ (fun p q hq => ?_) (fun x hx e he => ?_) (fun x hx e he => ?_) (fun x hx => ?_) ?_
    · simp only [addA]
      rw [up_keys]; exact r.st.wf.nd
    · simp only [addA] at hq ⊢
      rw [up_get] at hq
      obtain ⟨q0, h0, rfl⟩ := Option.map_eq_some_iff.1 hq
      have := g.users h0
      simp only [cntS_app, cntS_cons]
      have e0 : cntS p [] = 0 := rfl
      push_cast
      omega
    · have : ∃ q, getK e.2.1 A.lo.pgs = some q := by
        rcases List.mem_append.1 hx with h | h
        · exact g.has h he
        · simp at h
          subst h
          exact g.has (getK_mem hg) he
      obtain ⟨q, hq⟩ := this
      simp only [addA]
      rw [up_get, hq]
      exact ⟨_, rfl⟩
    · rcases List.mem_append.1 hx with h | h
      · exact g.key x h e he
      · simp at h
        subst h
        exact g.key _ (getK_mem hg) e he
    · rcases List.mem_append.1 hx with h | h
      · exact g.num x h
      · simp at h
        subst h
        simp only; omega
    · simp only [addA]
      rw [up_len]
      exact g.room
  · split
    · rename_i e
      refine vw_eq ?_ fun _ _ p _ _ _ => hup p
      simp only [addA]
      rw [get_more f3, if_pos e, hg]; rfl
    · rename_i ht
      refine vw_eq ?_ fun _ _ p _ _ _ => hup p
      simp only [addA]
      rw [get_more f3, if_neg ht]
theorem drop_spec {H : Heap} {mid : Nat} {A : Ab} (h : RG mid (H, A)) {s : Int} {m : Nat} {es : En} (hg : getK s A.sps = some (m, es)) :
    RG mid (wr (((killH H mid A.lo (A.lo.dn fun p => cntE p es)).set m none).set A.lo.sid (some (0, (delK s A.sps).map spRow)) ++ List.replicate (1 + 2 * es.length) none) mid (A.lo.dn fun p => cntE p es), ⟨A.lo.dn fun p => cntE p es, delK s A.sps⟩) ∧
      ∀ t j, vw ⟨A.lo.dn fun p => cntE p es, delK s A.sps⟩ t j = if t = s then none else vw A t j := by
  have r : Rep H mid A := h.1
  have g : Good A := h.2
  have hsl := (List.getElem?_eq_some_iff.1 r.sp).1
  have hm := getK_mem hg
  have hml := (List.getElem?_eq_some_iff.1 (r.en _ hm)).1
  have hst : St (wr (((killH H mid A.lo (A.lo.dn fun p => cntE p es)).set m none).set A.lo.sid (some (0, (delK s A.sps).map spRow)) ++ List.replicate (1 + 2 * es.length) none) mid (A.lo.dn fun p => cntE p es)) mid (A.lo.dn fun p => cntE p es) :=
    St.ofwr r.st.wf.dn fun i x hx => by
      have := Less.dn.lt r.st i x hx
      simp [killH_len]; omega
  have hcnt : ∀ p, cntS p (delK s A.sps) + cntE p es = cntS p A.sps := fun p => cntS_del r.nds hg
  have hsid : ∀ x ∈ A.sps, A.lo.sid ≠ x.2.1 := fun x hx e => by
    have := r.ndm
    rw [List.nodup_cons] at this
    exact this.1 (List.mem_map.2 ⟨x, hx, e.symm⟩)
  have hne : ∀ x ∈ A.sps, x.1 ≠ s → m ≠ x.2.1 := fun x hx hxs e => by
    have hnd := r.ndm
    rw [List.nodup_cons] at hnd
    obtain ⟨i, hi, hi2⟩ := List.mem_iff_getElem.1 hx
    obtain ⟨j, hj, hj2⟩ := List.mem_iff_getElem.1 hm
    have e1 : (A.sps.map (·.2.1))[i]'(by simpa using hi) = (A.sps.map (·.2.1))[j]'(by simpa using hj) := by simp [hi2, hj2, e]
    have := (List.getElem_inj hnd.2).1 e1
    subst this
    rw [hi2] at hj2
    rw [hj2] at hxs
    exact hxs rfl
  have hg' : Good ⟨A.lo.dn fun p => cntE p es, delK s A.sps⟩ := by
    refine Good.mk2 (r.st.wf.nd.sublist dn_sub) (fun p q hq => ?_) (fun x hx e he => ?_) (fun x hx e he => g.key x (mem_delK hx).1 e he) (fun x hx => g.num x (mem_delK hx).1) ?_
    · simp only at hq
      rw [dn_get r.st.wf.nd] at hq
      obtain ⟨q0, h0, h1⟩ := Option.bind_eq_some_iff.1 hq
      split at h1
      · cases h1
      · rename_i h2
        cases h1
        have := g.users h0
        have := hcnt p
        simp only
        omega
    · obtain ⟨q, hq⟩ := g.has (mem_delK hx).1 he
      simp only
      rw [dn_get r.st.wf.nd, hq]
      simp only [Option.bind_some]
      have h1 := (g.users hq).1
      have h2 := hcnt e.2.1
      have h3 : 1 ≤ cntS e.2.1 (delK s A.sps) := by
        refine cntS_pos (s := x.1) (k := e.1) (rg := e.2.2) (m := x.2.1) (es := x.2.2) (delK_nodup r.nds) (getK_of (delK_nodup r.nds) hx) (getK_of (r.ndk x (mem_delK hx).1) he)
      rw [if_neg (by omega)]
      exact ⟨_, rfl⟩
    · have h1 := dn_len (c := fun p => cntE p es) (L := A.lo)
      have h2 := g.room
      simp only [Lo.dn] at h1 ⊢
      omega
  refine ⟨⟨⟨hst, ?_, fun x hx => ?_, delK_nodup r.nds, ?_, fun x hx => r.ndk x (mem_delK hx).1⟩, hg'⟩, fun t j => ?_⟩
  · show (wr _ mid _)[A.lo.sid]? = _
    rw [wr_ne (Less.dn _ r.freeS), List.getElem?_append_left (by simp [killH_len]; omega), List.getElem?_set_self (by simp [killH_len]; omega)]
  · obtain ⟨hx1, hx2⟩ := mem_delK hx
    have hxl := (List.getElem?_eq_some_iff.1 (r.en x hx1)).1
    have hc := r.freeE hx1
    show (wr _ mid _)[x.2.1]? = _
    rw [wr_ne (Less.dn _ hc), List.getElem?_append_left (by simp [killH_len]; omega), List.getElem?_set_ne (hsid x hx1), List.getElem?_set_ne (hne x hx1 hx2), killH_get hxl, hc]
    simp
    exact r.en x hx1
  · have := r.ndm
    rw [List.nodup_cons] at this ⊢
    have hsub : ((delK s A.sps).map (·.2.1)).Sublist (A.sps.map (·.2.1)) := List.filter_sublist.map _
    exact ⟨fun h => this.1 (hsub.subset h), this.2.sublist hsub⟩
  · split
    · rename_i e
      refine vw_no ?_
      simp only
      rw [getK_delK, if_pos e]
    · rename_i ht
      refine vw_back hg' ?_ fun p rg q' h1 h2 => ?_
      · unfold enK
        simp only
        rw [getK_delK, if_neg ht]
      · simp only at h2
        rw [dn_get r.st.wf.nd] at h2
        obtain ⟨q0, h0, h3⟩ := Option.bind_eq_some_iff.1 h2
        split at h3
        · cases h3
        · cases h3
          exact ⟨q0, h0, rfl⟩
end
section
theorem rg_at {H : Heap} {mid : Nat} {A : Ab} (h : RG mid (H, A)) : repAt H mid = some A := repAt_iff.2 h
theorem rg_app {H K : Heap} {mid : Nat} {A : Ab} (h : RG mid (H, A)) : RG mid (H ++ K, A) := ⟨h.1.app, h.2⟩
/-- a page may be asked for so -/
def okV (A : Ab) (s want k : Int) : Bool := match vw A s k with
  | some x => iand .i64 x.2 want == want
  | none => false
theorem okE_vw {A : Ab} (g : Good A) {s k want : Int} {m : Nat} {es : En} (hg : getK s A.sps = some (m, es)) : okE es want k = okV A s want k := by
  unfold okE okV
  cases hk : getK k es with
  | none => rw [(vw_none g hg).2 hk]
  | some y =>
    obtain ⟨p, rg⟩ := y
    obtain ⟨q, hq⟩ := g.page hg hk
    rw [vw_of hg hk hq]
theorem okV_range {A : Ab} (g : Good A) {s k want : Int} (h : okV A s want k = true) : 0 ≤ k ∧ k < 64 := by
  unfold okV at h
  split at h
  · rename_i x hx
    exact (vw_rg (d := x.1) (rg := x.2) g hx).1
  · cases h
theorem mayB_iff {es : En} {want : Int} : ∀ {m a : Nat}, mayB es want a m = true ↔ ∀ j, a ≤ j → j < a + m → okE es want (j : Int) = true
  | 0, a => by simp [mayB]; intro j h1 h2; omega
  | m + 1, a => by
    simp only [mayB, Bool.and_eq_true]
    rw [mayB_iff]
    constructor
    · rintro ⟨h1, h2⟩ j h3 h4
      by_cases e : j = a
      · rw [e]; exact h1
      · exact h2 j (by omega) (by omega)
    · intro h
      exact ⟨h a (by omega) (by omega), fun j h1 h2 => h j (by omega) (by omega)⟩
theorem may_iff {A : Ab} (g : Good A) {s want addr : Int} {m : Nat} {es : En} (hg : getK s A.sps = some (m, es)) (n : Nat) : (mayR es want addr n).1 = true ↔ ∀ i : Nat, i < n → okV A s want ((addr + i) / 16) = true := by
  unfold mayR
  by_cases h0 : n = 0
  · subst h0
    simp
  rw [if_neg (by omega)]
  by_cases h1 : addr < 0 ∨ 1024 - (n : Int) < addr
  · rw [if_pos h1]
    simp only [Bool.false_eq_true, false_iff]
    intro h
    have k1 := okV_range g (h 0 (by omega))
    have k2 := okV_range g (h (n - 1) (by omega))
    have : ((n - 1 : Nat) : Int) = n - 1 := by omega
    rw [this] at k2
    simp only [Int.natCast_zero, Int.ofNat_zero] at k1
    omega
  · rw [if_neg h1]
    simp only
    rw [mayB_iff]
    constructor
    · intro h i hi
      have := h ((addr + i) / 16).toNat (by omega) (by omega)
      rw [okE_vw g hg, show (((addr + (i : Int)) / 16).toNat : Int) = (addr + i) / 16 by omega] at this
      exact this
    · intro h j h2 h3
      rw [okE_vw g hg]
      rcases Nat.lt_or_ge ((16 * j : Nat) : Int).toNat addr.toNat with hl | hl
      · have := h 0 (by omega)
        rw [show (addr + ((0 : Nat) : Int)) / 16 = j by simp only [Int.natCast_zero, Int.ofNat_zero]; omega] at this
        exact this
      · obtain ⟨i, hi⟩ := Int.eq_ofNat_of_zero_le (show 0 ≤ (16 * j : Int) - addr by omega)
        have := h i (by omega)
        rw [show (addr + (i : Int)) / 16 = j by omega] at this
        exact this
/-- a byte -/
def bt (A : Ab) (s i : Int) : Int := match vw A s (i / 16) with
  | some x => (x.1[(i % 16).toNat]?).getD 0
  | none => 0
theorem byteK_bt {A : Ab} (g : Good A) {s i : Int} {m : Nat} {es : En} (hg : getK s A.sps = some (m, es)) : byteK es A.lo i = bt A s i := by
  unfold byteK bt
  cases hk : getK (i / 16) es with
  | none => rw [(vw_none g hg).2 hk]
  | some y =>
    obtain ⟨p, rg⟩ := y
    obtain ⟨q, hq⟩ := g.page hg hk
    rw [vw_of hg hk hq]
    simp only [hq]
def btL (A : Ab) (s addr : Int) (n : Nat) : List Int := (List.range n).map fun j => bt A s (addr + (j : Nat))
theorem fetchB_bt {A : Ab} (g : Good A) {s addr : Int} {m n : Nat} {es : En} (hg : getK s A.sps = some (m, es)) : fetchB es A.lo addr n = btL A s addr n := by
  unfold fetchB btL
  apply List.map_congr_left
  intro j _
  exact byteK_bt g hg
theorem btL_len (A : Ab) (s addr : Int) (n : Nat) : (btL A s addr n).length = n := by simp [btL]
theorem btL_page {A : Ab} {s : Int} {k : Int} {d : List Int} {rg : Int} (h : vw A s k = some (d, rg)) (hd : d.length = 16) : btL A s (16 * k) 16 = d := by
  apply List.ext_getElem?
  intro i
  simp only [btL, List.getElem?_map]
  by_cases hi : i < 16
  · rw [List.getElem?_range hi]
    simp only [Option.map_some, bt]
    rw [show (16 * k + (i : Int)) / 16 = k by omega, show ((16 * k + (i : Int)) % 16).toNat = i by omega, h]
    simp only
    rw [List.getElem?_eq_getElem (by omega)]; rfl
  · have h3 : (List.range 16)[i]? = none := List.getElem?_eq_none (by simp; omega)
    rw [h3, List.getElem?_eq_none (by omega)]; rfl
theorem fetch_rg {H : Heap} {mid n : Nat} {A : Ab} (h : RG mid (H, A)) (es : En) (addr : Int) (K : Heap) : RG mid (wr H mid (fetchL es A.lo addr n) ++ K, { A with lo := fetchL es A.lo addr n }) :=
  rg_app ⟨h.1.like (Like.fetch es A.lo addr n), h.2.like h.1.st.wf (Like.fetch es A.lo addr n)⟩
/-- Read -/
theorem read_ev {H : Heap} {mid : Nat} {A : Ab} (h : RG mid (H, A)) {s addr : Int} {n : Nat} (hn : n ≤ 256) (hw : IntKind.i64.wrap addr = addr) :
    (∃ e, e ≠ 0 ∧ ∃ K, readM [.ptr mid 5 0 0, .v (.int .i64 s), .v (.int .i64 addr), .v (.int .i64 n)] H = some (.v (.tuple #[.slice none 0 0, .int .i64 e]), H ++ K) ∧ ¬ (has A s ∧ ∀ i : Nat, i < n → okV A s 1 ((addr + i) / 16) = true)) ∨
    (has A s ∧ (∀ i : Nat, i < n → okV A s 1 ((addr + i) / 16) = true) ∧ ∃ g L', Like A.lo L' ∧ RG mid (wr (H ++ List.replicate g none) mid L' ++ outK (btL A s addr n) n, { A with lo := L' }) ∧
      readM [.ptr mid 5 0 0, .v (.int .i64 s), .v (.int .i64 addr), .v (.int .i64 n)] H = some (tupA [outV (H.length + g) n, .v (.int .i64 0)], wr (H ++ List.replicate g none) mid L' ++ outK (btL A s addr n) n)) := by
  have hev : readM [.ptr mid 5 0 0, .v (.int .i64 s), .v (.int .i64 addr), .v (.int .i64 n)] H = some (readR H mid A s addr n) := by
    simp only [readM, rg_at h, Option.bind_some]
    rw [if_pos hw]
  rw [hev]
  unfold readR
  cases hg : getK s A.sps with
  | none => exact .inl ⟨4, by decide, [], by simp, fun hh => by unfold has at hh; rw [hg] at hh; cases hh.1⟩
  | some x =>
    obtain ⟨m, es⟩ := x
    have hh : has A s := by unfold has; rw [hg]; rfl
    simp only
    rw [if_neg (by omega)]
    have hm := may_iff h.2 (want := 1) (addr := addr) hg n
    by_cases hmay : (mayR es 1 addr n).1 = true
    · rw [if_pos hmay]
      right
      refine ⟨hh, hm.1 hmay, (mayR es 1 addr n).2, fetchL es A.lo addr n, Like.fetch es A.lo addr n, ?_, ?_⟩
      · exact fetch_rg (rg_app h) es addr _
      · rw [Int.toNat_natCast, fetchB_bt h.2 hg]
    · rw [if_neg hmay]
      exact .inl ⟨11, by decide, _, rfl, fun hc => hmay (hm.2 hc.2)⟩
/-- Load -/
theorem load_ev {H : Heap} {mid : Nat} {A : Ab} (h : RG mid (H, A)) {s addr want : Int} (hw : 0 ≤ addr ∧ addr < 4294967296) :
    ∃ b e H' L', loadM [.ptr mid 5 0 0, .v (.int .i64 s), .v (.int .u32 addr), .v (.int .i64 want)] H = some (.v (.tuple #[.int .u8 b, .int .i64 e]), H') ∧ Like A.lo L' ∧ RG mid (H', { A with lo := L' }) ∧
      ((¬ has A s ∧ e = 4 ∧ b = 0) ∨ (has A s ∧ (want < 1 ∨ 7 < want) ∧ e = 1 ∧ b = 0) ∨ (has A s ∧ ¬ (want < 1 ∨ 7 < want) ∧ ((okV A s want (addr / 16) = true ∧ e = 0 ∧ b = bt A s addr) ∨ (okV A s want (addr / 16) = false ∧ e = 11 ∧ b = 0)))) ∧ ∃ g : Nat, (e ≠ 0 → H' = H ++ List.replicate g none) := by
  have hev : loadM [.ptr mid 5 0 0, .v (.int .i64 s), .v (.int .u32 addr), .v (.int .i64 want)] H = some (loadR H mid A s addr want) := by
    simp only [loadM, rg_at h, Option.bind_some]
    rw [if_pos hw]
  rw [hev]
  unfold loadR
  cases hg : getK s A.sps with
  | none => exact ⟨0, 4, H, A.lo, rfl, Like.refl _, h, .inl ⟨fun hh => (by unfold has at hh; rw [hg] at hh; cases hh), rfl, rfl⟩, 0, fun _ => by simp⟩
  | some x =>
    obtain ⟨m, es⟩ := x
    have hh : has A s := by unfold has; rw [hg]; rfl
    simp only
    by_cases hwt : want < 1 ∨ 7 < want
    · rw [if_pos hwt]
      exact ⟨0, 1, H, A.lo, rfl, Like.refl _, h, .inr (.inl ⟨hh, hwt, rfl, rfl⟩), 0, fun _ => by simp⟩
    · rw [if_neg hwt]
      have hm := may_iff h.2 (want := want) (addr := addr) hg 1
      have e1 : ∀ i : Nat, i < 1 → (addr + (i : Int)) / 16 = addr / 16 := fun i hi => by
        have : i = 0 := by omega
        subst this
        simp
      by_cases hmay : (mayR es want addr 1).1 = true
      · rw [if_pos hmay]
        refine ⟨bt A s addr, 0, wr (H ++ List.replicate (mayR es want addr 1).2 none) mid (fetchL es A.lo addr 1) ++ outK [byteK es A.lo addr] 1, fetchL es A.lo addr 1, ?_, Like.fetch es A.lo addr 1, fetch_rg (rg_app h) es addr _, .inr (.inr ⟨hh, hwt, .inl ⟨?_, rfl, rfl⟩⟩), 0, fun hc => absurd rfl hc⟩
        · rw [byteK_bt h.2 hg]
        · have := hm.1 hmay 0 (by omega)
          rwa [e1 0 (by omega)] at this
      · rw [if_neg hmay]
        refine ⟨0, 11, _, A.lo, rfl, Like.refl _, rg_app h, .inr (.inr ⟨hh, hwt, .inr ⟨?_, rfl, rfl⟩⟩), _, fun _ => rfl⟩
        cases ho : okV A s want (addr / 16) with
        | false => rfl
        | true => exact absurd (hm.2 fun i hi => by rw [e1 i hi]; exact ho) hmay
/-- Write -/
theorem lay_inv0 {H : Heap} {mid m : Nat} {A : Ab} (h : RG mid (H, A)) {s addr : Int} {es : En} {d : List Int} (hg : getK s A.sps = some (m, es)) (hk : spanK es addr d.length) (hr : (shT A es addr d.length : Int) ≤ A.lo.fr + A.lo.sl - A.lo.pgs.length) (h0 : d.length ≠ 0) : LayI mid m s addr d.length 0 es (H, A) (H, A) := by
  refine ⟨h, Keep.refl _ _, es, hg, rfl, fun a b e1 e2 => ?_⟩
  rcases hk with ⟨h1, _⟩ | ⟨k1, k2, k3, k4, k5⟩
  · omega
  unfold shT at hr
  rw [if_neg h0, show (addr / 16).toNat = a by simp at e1; omega, show ((addr + (d.length : Int) - 1) / 16 + 1 - addr / 16).toNat = b + 1 - a by simp at e1; omega] at hr
  exact hr
theorem write_ev {H : Heap} {mid : Nat} {A : Ab} (h : RG mid (H, A)) {s addr : Int} {d : List Int} (hw : IntKind.i64.wrap addr = addr) :
    ∃ e H' A', writeR H mid A s addr d = (.v (.int .i64 e), H') ∧ RG mid (H', A') ∧ Eff s A A' ∧
      ((e = 0 ∧ has A s ∧ d.length ≤ 256 ∧ (∀ i : Nat, i < d.length → okV A s 2 ((addr + i) / 16) = true) ∧ ∀ j, vw A' s j = (vw A s j).map fun x => (patN j addr d d.length x.1, x.2)) ∨
       (e ≠ 0 ∧ A' = A ∧ ((e = 4 ∧ ¬ has A s) ∨ (e = 1 ∧ 256 < d.length) ∨ (e = 11 ∧ has A s ∧ ¬ ∀ i : Nat, i < d.length → okV A s 2 ((addr + i) / 16) = true) ∨ (e = 6 ∧ has A s ∧ ∀ i : Nat, i < d.length → okV A s 2 ((addr + i) / 16) = true)))) := by
  unfold writeR
  cases hg : getK s A.sps with
  | none => exact ⟨4, H, A, rfl, h, Eff.refl _ _, .inr ⟨by decide, rfl, .inl ⟨rfl, fun hh => by unfold has at hh; rw [hg] at hh; cases hh⟩⟩⟩
  | some x =>
    obtain ⟨m, es⟩ := x
    have hh : has A s := by unfold has; rw [hg]; rfl
    simp only
    by_cases h1 : 256 < d.length
    · rw [if_pos h1]
      exact ⟨1, H, A, rfl, h, Eff.refl _ _, .inr ⟨by decide, rfl, .inr (.inl ⟨rfl, h1⟩)⟩⟩
    · rw [if_neg h1]
      have hm := may_iff h.2 (want := 2) (addr := addr) hg d.length
      by_cases hmay : (mayR es 2 addr d.length).1 = true
      · rw [if_pos hmay]
        have hsp := may_span (es := es) (n := (d.length : Int)) (by omega) hw hmay
        have hr1 : RG mid (H ++ List.replicate (mayR es 2 addr d.length).2 none, A) := rg_app h
        generalize H ++ List.replicate (mayR es 2 addr d.length).2 none = G at *
        unfold layR
        rw [hg]
        simp only
        split
        · rename_i hroom
          by_cases h0 : d.length = 0
          · have hd : d = [] := List.length_eq_zero_iff.1 h0
            subst hd
            exact ⟨0, G, A, rfl, hr1, Eff.refl _ _, .inl ⟨rfl, hh, by simp, hm.1 hmay, fun j => by cases vw A s j <;> rfl⟩⟩
          · have hk3 : 0 ≤ addr := by
              rcases hsp with ⟨h1, _⟩ | ⟨_, _, k3, _⟩ <;> omega
            have hI := lay_inv0 hr1 hg hsp hroom h0
            obtain ⟨v, f1, f2, f3⟩ := layN_spec (d := d) hI hk3 d.length (Nat.le_refl _)
            have iR := (layN_inv (d := d) hI hk3 d.length (Nat.le_refl _)).rg
            refine ⟨0, _, (layN mid s addr d (G, A) d.length).2, rfl, iR, ⟨f1, f2, f3, fun t k ht => by rw [v, if_neg ht]⟩, .inl ⟨rfl, hh, by omega, hm.1 hmay, fun j => by rw [v, if_pos rfl]⟩⟩
        · exact ⟨6, G, A, rfl, hr1, Eff.refl _ _, .inr ⟨by decide, rfl, .inr (.inr (.inr ⟨rfl, hh, hm.1 hmay⟩))⟩⟩
      · rw [if_neg hmay]
        exact ⟨11, _, A, rfl, rg_app h, Eff.refl _ _, .inr ⟨by decide, rfl, .inr (.inr (.inl ⟨rfl, hh, fun hc => hmay (hm.2 hc)⟩))⟩⟩
/-- Map -/
theorem map_ev {H : Heap} {mid : Nat} {A : Ab} (h : RG mid (H, A)) {s first n rights : Int} :
    ∃ e H' A', mapM [.ptr mid 5 0 0, .v (.int .i64 s), .v (.int .i64 first), .v (.int .i64 n), .v (.int .i64 rights)] H = some (.v (.int .i64 e), H') ∧ RG mid (H', A') ∧ Eff s A A' ∧
      ((e = 0 ∧ has A s ∧ ¬ spanBad first n rights ∧ n ≤ A.lo.fr + A.lo.sl - A.lo.pgs.length ∧ (A'.lo.pgs.length : Int) = A.lo.pgs.length + n ∧ (∀ j, vw A' s j = if first ≤ j ∧ j < first + n then some (z16, rights) else vw A s j)) ∨
       (e ≠ 0 ∧ A' = A ∧ ((e = 4 ∧ ¬ has A s) ∨ (e = 1 ∧ spanBad first n rights) ∨ (e = 5 ∧ ∃ j, first ≤ j ∧ j < first + n ∧ vw A s j ≠ none) ∨ (e = 6 ∧ A.lo.fr + A.lo.sl - A.lo.pgs.length < n)))) := by
  have hev : mapM [.ptr mid 5 0 0, .v (.int .i64 s), .v (.int .i64 first), .v (.int .i64 n), .v (.int .i64 rights)] H = some (mapR H mid A s first n rights) := by
    simp only [mapM, rg_at h, Option.map_some]
  rw [hev]
  unfold mapR spanE
  cases hg : getK s A.sps with
  | none => exact ⟨4, H, A, rfl, h, Eff.refl _ _, .inr ⟨by decide, rfl, .inl ⟨rfl, fun hh => by unfold has at hh; rw [hg] at hh; cases hh⟩⟩⟩
  | some x =>
    obtain ⟨m, es⟩ := x
    have hh : has A s := by unfold has; rw [hg]; rfl
    simp only
    by_cases hb : spanBad first n rights
    · rw [if_pos hb]
      exact ⟨1, H, A, rfl, h, Eff.refl _ _, .inr ⟨by decide, rfl, .inr (.inl ⟨rfl, hb⟩)⟩⟩
    · rw [if_neg hb]
      simp only [ne_eq, not_true_eq_false, if_false]
      have hb' := hb
      unfold spanBad at hb'
      obtain ⟨N, rfl⟩ := Int.eq_ofNat_of_zero_le (show 0 ≤ n by omega)
      simp only [Int.toNat_natCast]
      by_cases hhit : hitB es first N = true
      · rw [if_pos hhit]
        refine ⟨5, _, A, rfl, rg_app h, Eff.refl _ _, .inr ⟨by decide, rfl, .inr (.inr (.inl ⟨rfl, ?_⟩))⟩⟩
        unfold hitB at hhit
        rw [List.any_eq_true] at hhit
        obtain ⟨j, hj, hs⟩ := hhit
        rw [List.mem_range] at hj
        refine ⟨first + (j : Nat), by omega, by omega, fun hc => ?_⟩
        rw [(vw_none h.2 hg).1 hc] at hs
        cases hs
      · rw [if_neg hhit]
        split
        · rename_i hroom
          have hno : ∀ i : Nat, i < N → getK (first + (i : Nat)) es = none := fun i hi => by
            cases e : getK (first + (i : Nat)) es with
            | none => rfl
            | some y =>
              exfalso
              apply hhit
              unfold hitB
              rw [List.any_eq_true]
              exact ⟨i, List.mem_range.2 hi, by rw [e]; rfl⟩
          have hst : stS m s A ⟨H ++ List.replicate N none, A.lo, es⟩ = A := by
            unfold stS
            rw [setK_self h.1.nds hg]
          have hx : RG mid ((⟨H ++ List.replicate N none, A.lo, es⟩ : Ms).H, stS m s A ⟨H ++ List.replicate N none, A.lo, es⟩) := by
            rw [hst]; exact rg_app h
          obtain ⟨r1, v1, f1, f2, f3⟩ := mapS_spec (rg := rights) (first := first) hx ⟨_, hg⟩ (by omega) (by omega) N (by omega) (by simp only; omega) hno
          rw [hst] at v1
          refine ⟨0, _, stS m s A (mapS mid m first rights ⟨H ++ List.replicate N none, A.lo, es⟩ N), rfl, r1, ⟨f1, f2, setK_keys _, fun t k ht => by rw [v1, if_neg (fun e => ht e.1)]⟩, .inl ⟨rfl, hh, hb, hroom, ?_, fun j => ?_⟩⟩
          · show ((mapS mid m first rights _ N).L.pgs.length : Int) = _
            rw [f3]; push_cast; rfl
          · rw [v1]
            by_cases c : first ≤ j ∧ j < first + (N : Int)
            · rw [if_pos ⟨rfl, c⟩, if_pos c]
            · rw [if_neg (fun e => c e.2), if_neg c]
        · rename_i hroom
          exact ⟨6, _, A, rfl, rg_app h, Eff.refl _ _, .inr ⟨by decide, rfl, .inr (.inr (.inr ⟨rfl, by omega⟩))⟩⟩
/-- Put -/
theorem put_ev {H : Heap} {mid : Nat} {A : Ab} (h : RG mid (H, A)) {s at_ rights : Int} {d : List Int} :
    ∃ e H' A', putR1 H mid A s at_ rights d = (.v (.int .i64 e), H') ∧ RG mid (H', A') ∧ Eff s A A' ∧
      ((e = 0 ∧ has A s ∧ ¬ spanBad at_ 1 rights ∧ d.length ≤ 16 ∧ (∀ j, vw A' s j = if j = at_ then some (pad d, rights) else vw A s j)) ∨
       (e ≠ 0 ∧ A' = A ∧ (¬ has A s ∨ spanBad at_ 1 rights ∨ 16 < d.length ∨ vw A s at_ ≠ none ∨ A.lo.fr + A.lo.sl - A.lo.pgs.length < 1))) := by
  unfold putR1 spanE
  cases hg : getK s A.sps with
  | none => exact ⟨4, H, A, rfl, h, Eff.refl _ _, .inr ⟨by decide, rfl, .inl fun hh => by unfold has at hh; rw [hg] at hh; cases hh⟩⟩
  | some x =>
    obtain ⟨m, es⟩ := x
    have hh : has A s := by unfold has; rw [hg]; rfl
    simp only
    by_cases hb : spanBad at_ 1 rights
    · rw [if_pos hb]
      exact ⟨1, H, A, rfl, h, Eff.refl _ _, .inr ⟨by decide, rfl, .inr (.inl hb)⟩⟩
    · rw [if_neg hb]
      simp only [ne_eq, not_true_eq_false, if_false]
      have hb' := hb
      unfold spanBad at hb'
      split
      · rename_i hl
        exact ⟨1, H, A, rfl, h, Eff.refl _ _, .inr ⟨by decide, rfl, .inr (.inr (.inl (by omega)))⟩⟩
      · rename_i hl
        split
        · rename_i hk
          refine ⟨5, _, A, rfl, rg_app h, Eff.refl _ _, .inr ⟨by decide, rfl, .inr (.inr (.inr (.inl fun hc => ?_)))⟩⟩
          rw [(vw_none h.2 hg).1 hc] at hk
          cases hk
        · rename_i hk
          have hk2 : getK at_ es = none := by
            cases e : getK at_ es with
            | none => rfl
            | some y => rw [e] at hk; exact absurd rfl hk
          split
          · rename_i hroom
            have hst : stS m s A ⟨H ++ [some (2, [boxE none]), some (1, yRow (pad d))], A.lo, es⟩ = A := by
              unfold stS
              rw [setK_self h.1.nds hg]
            have hx : RG mid ((⟨H ++ [some (2, [boxE none]), some (1, yRow (pad d))], A.lo, es⟩ : Ms).H, stS m s A ⟨H ++ [some (2, [boxE none]), some (1, yRow (pad d))], A.lo, es⟩) := by
              rw [hst]; exact rg_app h
            obtain ⟨r1, v1, f1, f2, f3⟩ := putS_spec (d := pad d) (rg := rights) (k := at_) hx ⟨_, hg⟩ (pad_len (by omega)) (by simp only; omega) hk2 (by omega) (by omega)
            rw [hst] at v1
            refine ⟨0, _, stS m s A (putS mid m at_ (pad d) rights ⟨H ++ [some (2, [boxE none]), some (1, yRow (pad d))], A.lo, es⟩), rfl, r1, ⟨f1, f2, setK_keys _, fun t k ht => by rw [v1, if_neg (fun e => ht e.1)]⟩, .inl ⟨rfl, hh, hb, by omega, fun j => ?_⟩⟩
            rw [v1]
            by_cases c : j = at_
            · rw [if_pos ⟨rfl, c⟩, if_pos c]
            · rw [if_neg (fun e => c e.2), if_neg c]
          · rename_i hroom
            exact ⟨6, _, A, rfl, rg_app h, Eff.refl _ _, .inr ⟨by decide, rfl, .inr (.inr (.inr (.inr (by omega))))⟩⟩
/-- Unmap -/
theorem unmap_ev {H : Heap} {mid : Nat} {A : Ab} (h : RG mid (H, A)) {s first n : Int} :
    ∃ e H' A', unmapM [.ptr mid 5 0 0, .v (.int .i64 s), .v (.int .i64 first), .v (.int .i64 n)] H = some (.v (.int .i64 e), H') ∧ RG mid (H', A') ∧ Eff s A A' ∧
      ((e = 0 ∧ has A s ∧ ¬ spanBad first n 0 ∧ (∀ j, vw A' s j = if first ≤ j ∧ j < first + n then none else vw A s j)) ∨ (e ≠ 0 ∧ A' = A)) := by
  have hev : unmapM [.ptr mid 5 0 0, .v (.int .i64 s), .v (.int .i64 first), .v (.int .i64 n)] H = some (unmapR H mid A s first n) := by
    simp only [unmapM, rg_at h, Option.map_some]
  rw [hev]
  unfold unmapR spanE
  cases hg : getK s A.sps with
  | none => exact ⟨4, H, A, rfl, h, Eff.refl _ _, .inr ⟨by decide, rfl⟩⟩
  | some x =>
    obtain ⟨m, es⟩ := x
    have hh : has A s := by unfold has; rw [hg]; rfl
    simp only
    by_cases hb : spanBad first n 0
    · rw [if_pos hb]
      exact ⟨1, H, A, rfl, h, Eff.refl _ _, .inr ⟨by decide, rfl⟩⟩
    · rw [if_neg hb]
      simp only [ne_eq, not_true_eq_false, if_false]
      have hb' := hb
      unfold spanBad at hb'
      obtain ⟨N, rfl⟩ := Int.eq_ofNat_of_zero_le (show 0 ≤ n by omega)
      simp only [Int.toNat_natCast]
      obtain ⟨v, f1, f2, f3⟩ := unmapX_spec (s := s) (first := first) h N
      refine ⟨0, _, _, rfl, unmapX_rg h N, ⟨f1, f2, f3, fun t k ht => by rw [v, if_neg (fun e => ht e.1)]⟩, .inl ⟨rfl, hh, hb, fun j => ?_⟩⟩
      rw [v]
      by_cases c : first ≤ j ∧ j < first + (N : Int)
      · rw [if_pos ⟨rfl, c⟩, if_pos c]
      · rw [if_neg (fun e => c e.2), if_neg c]
/-- Protect -/
theorem prot_ev {H : Heap} {mid : Nat} {A : Ab} (h : RG mid (H, A)) {s first n rights : Int} :
    ∃ e H' A', protM [.ptr mid 5 0 0, .v (.int .i64 s), .v (.int .i64 first), .v (.int .i64 n), .v (.int .i64 rights)] H = some (.v (.int .i64 e), H') ∧ RG mid (H', A') ∧ Eff s A A' ∧
      ((e = 0 ∧ has A s ∧ ¬ spanBad first n rights ∧ (∀ j, first ≤ j → j < first + n → ∃ d, vw A' s j = some (d, rights))) ∨ (e ≠ 0 ∧ A' = A)) := by
  have hev : protM [.ptr mid 5 0 0, .v (.int .i64 s), .v (.int .i64 first), .v (.int .i64 n), .v (.int .i64 rights)] H = some (protR H mid A s first n rights) := by
    simp only [protM, rg_at h, Option.map_some]
  rw [hev]
  unfold protR spanE
  cases hg : getK s A.sps with
  | none => exact ⟨4, H, A, rfl, h, Eff.refl _ _, .inr ⟨by decide, rfl⟩⟩
  | some x =>
    obtain ⟨m, es⟩ := x
    have hh : has A s := by unfold has; rw [hg]; rfl
    simp only
    by_cases hb : spanBad first n rights
    · rw [if_pos hb]
      exact ⟨1, H, A, rfl, h, Eff.refl _ _, .inr ⟨by decide, rfl⟩⟩
    · rw [if_neg hb]
      simp only [ne_eq, not_true_eq_false, if_false]
      have hb' := hb
      unfold spanBad at hb'
      obtain ⟨N, rfl⟩ := Int.eq_ofNat_of_zero_le (show 0 ≤ n by omega)
      simp only [Int.toNat_natCast]
      split
      · exact ⟨11, _, A, rfl, rg_app h, Eff.refl _ _, .inr ⟨by decide, rfl⟩⟩
      · rename_i hmiss
        obtain ⟨r1, v, f3⟩ := prot_spec (rg_app (K := List.replicate N none) h) (first := first) (rg := rights) hg (by omega) N
        refine ⟨0, _, A.setE s m (protE es first rights N), rfl, r1, ⟨rfl, rfl, f3, fun t k ht => by rw [v, if_neg ht]⟩, .inl ⟨rfl, hh, hb, fun j h1 h2 => ?_⟩⟩
        rw [v, if_pos rfl]
        cases hv : vw A s j with
        | some x => simp only [Option.map_some]; rw [if_pos ⟨h1, h2⟩]; exact ⟨_, rfl⟩
        | none =>
          exfalso
          apply hmiss
          unfold missB
          rw [List.any_eq_true]
          refine ⟨(j - first).toNat, List.mem_range.2 (by omega), ?_⟩
          rw [show first + ((j - first).toNat : Int) = j by omega, (vw_none h.2 hg).1 hv]; rfl
end
section
set_option maxHeartbeats 2000000
set_option maxRecDepth 100000
set_option linter.unusedSimpArgs false
set_option linter.unusedVariables false
attribute [local simp] wpA wpX RunA RunD runF foot footP footB idsA bare apart runL step1 gsel_f gsel_t gsel_s res_same res_and1 res_and2 res_and3 res_and4 res_and5 res_and6 res_false res_true res_v res_ptr res_fptr res_osl res_xsl soft aAppendZ aCap ovlI ovlJ res_fsl res_esl res_agg res_tup res_fn res_junk res_anyb aPick hk imp_left iteV dstOk guardOk astep astepE AI.ev AI.look AI.put envOf aBox cellsOf allOne allOneA oneA Value.oneCell' Value.cells newObj' aFieldAddr aLoad obj readAt thenA blockA condA retA resA tupA view hot hotC hotR depthV cAgg cInt cBool mkAgg allV aAlloc aBuild fillA writeAt aStore isAggA aField idx aIndexAddr aIndex bnd aSlice aExtract aLen aBuiltin aCall isStatic eqAgg eqTy eqC ev_add ev_sub ev_mul ev_quo ev_rem ev_and ev_or ev_xor ev_andNot ev_shl ev_shr ev_eql ev_neq ev_lss ev_leq ev_gtr ev_geq ev_agg w64 wu32 wu8 ev_not ev_neg Cod.plain RCod.plain argM finM cold coldC coldR goInt intDec boolDec aggDec Weaker heapW lowA lowC Again slDec undef aBuildSlice setRows aAppend rowsOf aMakeSlice aClear aCopy softer_self softer_nil valsOf ev_min2 ev_max2 hotR_set hotR_append take_map_set irow_cold irow_mapM irow_mapMc irow_view irow_viewc irow_hotR irow_ren irow_renc irow_low WeakT heapT thOf ren renC AgainT NextF NextT fnDec cFn rNil selfLt natLt0 natLt1 getLastMap frame0 frame1 own0 own1 argG finG tau tauI tauO tauC bareA bareC bareH irow_tau irow_tauc irow_bare irow_flat irow_bareR ownA_nil ownT_nil ownA_c ownT_c ownA_s ownT_s takeMapLen footC plainA noId noIdC cloneF frame0F frame1F insertF replaceI replaceF cellDec rCell fpDec cFp rTwo deleteF allV_oA oneA_oA res_oA RunR RunE runFT footAt hotR_cat tmodN aEqH aSliceA fxSz3 fxBy3 fxAg3 fxZe3 fxSz4 fxAg4 fxSz5 fxBy5 fxAg5 fxZe5 fxSl22 fxAr22 fxSz26 fxAg26 fxZe26 fxSz28 fxBy28 fxAg28 fxZe28 fxSl28 fxAr28 fxSl51 fxAr51 fxSl58 fxAr58 fxSz69 fxAg69 fxZe69 fxFi69x0 fxFi69x1 fxFi69x2 fxFi69x3 fxFi69x4 fxFi69x5 fxSz71 fxBy71 fxAg71 fxZe71 fxSz73 fxAg73 fxZe73 fxFi73x0 fxFi73x1 fxPl73 fxZe75 fxSz76 fxAg76 fxSl76 fxAr76 fxAg77 fxZe79 fxFi79x0 fxFi79x1 fxFi79x2 fxFi79x3 fxFi79x4 fxPl79 fxSz82 fxAg82 fxZe82 fxSl82 fxAr82 fxPl82 fxSl87 fxAr87 fxSz91 fxZe91 fxFi91x0 fxFi91x1 fxFi91x2 fxFi91x3 fxPl91 fxCv3x36 fxCv36x3 fxEb4 fxNb4 fxLn28 fxNe28 fxOe28 fxXe28 fxLn58 fxNe58 fxOe58 fxXe58 fxLn76 fxFm15 fxFm16 fxFi16 fxFm17 fxFm18 fxFm19 fxFi19 fxFm20 fxFi20 fxFm21 fxFm22 fxFm23 fxFm24 fxFm25 fxFi25 fxFm26 fxFm27 fxFm28 fxFi28 fxFm29 fxFi29 fxFm30 fxFm31 fxFm32 fxFm33 fxFi33 fxFm34 fxFm35 fxFm36 fxFm37 fxFm38 fxFi38 fxFm39 fxFm40 fxFm41 fxFi41 fxFm42 fxFm43 fxFm44 fxFi44 fxFm45 fxFi45 fxFm46 fxFm47 fxFm48 fxFm49 fxFi49 fxFm50 fxFi50 fxFm51 fxFi51 fxFm52 fxFi52 fxFm53 fxFm54 fxFi54 fxFm55 fxFi55 fxFm56 fxFm57 fxFi57 fxFm58 fxFi58 fxFm61 fxFm62 fxFi62 fxFm63 fxFi63 fxFm64 fxFm65 fxFi65 fxFm77 fxFi77
section
attribute [local simp] pgRow_len pg16 pg17 pg18 pg16' pg17' pg18' ww16 ww17 ww18 keyI_ok aLookup aMapUpdate aDelete lkRes bin_mn spV enV Try.underlying75 Try.underlying77
theorem Eff.has {s : Int} {A A' : Ab} (e : Eff s A A') (t : Int) : has A' t ↔ has A t := by rw [has_key, has_key, e.ks]
theorem make_ev {H : Heap} {mid : Nat} {A : Ab} (h : RG mid (H, A)) :
    ∃ s e H' A', makeM [.ptr mid 5 0 0] H = some (.v (.tuple #[.int .i64 s, .int .i64 e]), H') ∧ RG mid (H', A') ∧ A'.lo = A.lo ∧
      ((e = 0 ∧ freeF (A.sps.map (·.1)) 1 16 = some s ∧ ¬ has A s ∧ has A' s ∧ (∀ j, vw A' s j = none) ∧ (∀ t j, t ≠ s → vw A' t j = vw A t j) ∧ A'.sps.map (·.1) = A.sps.map (·.1) ++ [s]) ∨ (s = 0 ∧ e = 6 ∧ A' = A ∧ freeF (A.sps.map (·.1)) 1 16 = none)) := by
  have hmp : mpAt H A.lo.sid = some (A.sps.map fun x : Int × (Nat × En) => (x.1, x.2.1)) := mpAt_iff.2 ⟨by rw [h.1.sp, List.map_map]; rfl, by rw [List.map_map]; exact h.1.nds⟩
  have hev : makeM [.ptr mid 5 0 0] H = some (makeR H A.lo.sid (A.sps.map fun x : Int × (Nat × En) => (x.1, x.2.1))) := by
    simp only [makeM, stAt_iff.2 h.1.st, Option.bind_some, hmp, Option.map_some]
  have hks : (A.sps.map fun x : Int × (Nat × En) => (x.1, x.2.1)).map (·.1) = A.sps.map (·.1) := by rw [List.map_map]; rfl
  rw [hev]
  unfold makeR
  rw [hks]
  cases hf : freeF (A.sps.map (·.1)) 1 16 with
  | none => exact ⟨0, 6, H, A, rfl, h, rfl, .inr ⟨rfl, rfl, rfl, rfl⟩⟩
  | some s =>
    obtain ⟨r1, v1⟩ := make_spec h hf
    obtain ⟨f1, f2, f3, f4⟩ := freeF_range hf
    have hg : getK s (addA A.lo A s H.length []).sps = some (H.length, []) := by simp only [addA]; rw [get_more f3, if_pos rfl]
    refine ⟨s, 0, _, _, rfl, r1, rfl, .inl ⟨rfl, rfl, fun hh => f3 (has_key.1 hh), ?_, fun j => ?_, fun t j ht => v1 t j ht, ?_⟩⟩
    · unfold Go.Proofs.Ytegjbfcgbfnldaa.has; rw [hg]; rfl
    · exact (vw_none r1.2 hg).2 rfl
    · simp [addA]
theorem fork_ev {H : Heap} {mid : Nat} {A : Ab} (h : RG mid (H, A)) {s : Int} :
    ∃ to e H' A', forkM [.ptr mid 5 0 0, .v (.int .i64 s)] H = some (.v (.tuple #[.int .i64 to, .int .i64 e]), H') ∧ RG mid (H', A') ∧ A'.lo.fr = A.lo.fr ∧ A'.lo.sl = A.lo.sl ∧ A'.lo.pgs.length = A.lo.pgs.length ∧
      ((e = 0 ∧ has A s ∧ ¬ has A to ∧ 1 ≤ to ∧ (∀ t j, vw A' t j = if t = to then vw A s j else vw A t j) ∧ A'.sps.map (·.1) = A.sps.map (·.1) ++ [to]) ∨ (e ≠ 0 ∧ to = 0 ∧ A' = A ∧ H' = H)) := by
  have hev : forkM [.ptr mid 5 0 0, .v (.int .i64 s)] H = some (forkR H mid A s) := by
    simp only [forkM, rg_at h, Option.map_some]
  rw [hev]
  unfold forkR
  cases hg : getK s A.sps with
  | none => exact ⟨0, 4, H, A, rfl, h, rfl, rfl, rfl, .inr ⟨by decide, rfl, rfl, rfl⟩⟩
  | some x =>
    obtain ⟨m, es⟩ := x
    simp only
    cases hf : freeF (A.sps.map (·.1)) 1 16 with
    | none => exact ⟨0, 6, H, A, rfl, h, rfl, rfl, rfl, .inr ⟨by decide, rfl, rfl, rfl⟩⟩
    | some to =>
      obtain ⟨r1, v1⟩ := fork_spec h hg hf
      obtain ⟨f1, f2, f3, f4⟩ := freeF_range hf
      refine ⟨to, 0, _, _, rfl, r1, rfl, rfl, up_len, .inl ⟨rfl, by unfold Go.Proofs.Ytegjbfcgbfnldaa.has; rw [hg]; rfl, fun hh => f3 (has_key.1 hh), f1, v1, by simp [addA]⟩⟩
theorem drop_ev {H : Heap} {mid : Nat} {A : Ab} (h : RG mid (H, A)) {s : Int} :
    ∃ e H' A', dropM [.ptr mid 5 0 0, .v (.int .i64 s)] H = some (.v (.int .i64 e), H') ∧ RG mid (H', A') ∧ A'.lo.fr = A.lo.fr ∧ A'.lo.sl = A.lo.sl ∧
      ((e = 0 ∧ has A s ∧ (∀ t j, vw A' t j = if t = s then none else vw A t j) ∧ A'.sps = delK s A.sps) ∨ (e ≠ 0 ∧ ¬ has A s ∧ A' = A)) := by
  have hev : dropM [.ptr mid 5 0 0, .v (.int .i64 s)] H = some (dropR H mid A s) := by
    simp only [dropM, rg_at h, Option.map_some]
  rw [hev]
  unfold dropR
  cases hg : getK s A.sps with
  | none => exact ⟨4, H, A, rfl, h, rfl, rfl, .inr ⟨by decide, fun hh => (by unfold Go.Proofs.Ytegjbfcgbfnldaa.has at hh; rw [hg] at hh; cases hh), rfl⟩⟩
  | some x =>
    obtain ⟨m, es⟩ := x
    obtain ⟨r1, v1⟩ := drop_spec h hg
    exact ⟨0, _, _, rfl, r1, rfl, rfl, .inl ⟨rfl, by unfold Go.Proofs.Ytegjbfcgbfnldaa.has; rw [hg]; rfl, v1, rfl⟩⟩
theorem rec_ev {H : Heap} {mid : Nat} {A : Ab} (h : RG mid (H, A)) {n : Int} :
    ∃ (k : Nat) (H' : Heap) (L' : Lo), recM [.ptr mid 5 0 0, .v (.int .i64 n)] H = some (.v (.int .i64 k), H') ∧ Like A.lo L' ∧ RG mid (H', { A with lo := L' }) ∧ (k : Int) ≤ max n 0 ∧ (L'.hr : Int) = A.lo.hr - k ∧ H' = wr H mid L' := by
  have hev : recM [.ptr mid 5 0 0, .v (.int .i64 n)] H = some (.v (.int .i64 (recN A.lo n : Nat)), wr H mid (recL A.lo (recN A.lo n))) := by
    simp only [recM, stAt_iff.2 h.1.st, Option.map_some]
  have hk : recN A.lo n ≤ A.lo.hr := by unfold recN; omega
  have hr := rec_hr (L := A.lo) (H := H) (mid := mid) h.1.st (recN A.lo n) hk
  have lk := Like.recl A.lo (recN A.lo n)
  refine ⟨_, _, _, hev, lk, ⟨h.1.like lk, h.2.like h.1.st.wf lk⟩, ?_, by omega, rfl⟩
  unfold recN; omega
theorem free_ev {H : Heap} {mid : Nat} {A : Ab} (h : RG mid (H, A)) : freeM [.ptr mid 5 0 0] H = some (.v (.tuple #[.int .i64 (A.lo.fr - A.lo.hr), .int .i64 (A.lo.sl - ((A.lo.pgs.length : Int) - A.lo.hr))])) := by
  simp only [freeM, stAt_iff.2 h.1.st, Option.map_some]
  rfl
/-- a deed's effect -/
structure DoEff (s : Int) (A A' : Ab) : Prop where
  fr : A'.lo.fr = A.lo.fr
  sl : A'.lo.sl = A.lo.sl
  ot : ∀ t, t ≠ s → has A t → has A' t ∧ ∀ j, vw A' t j = vw A t j
theorem DoEff.refl (s : Int) (A : Ab) : DoEff s A A := ⟨rfl, rfl, fun _ _ h => ⟨h, fun _ => rfl⟩⟩
theorem Eff.deed {s : Int} {A A' : Ab} (e : Eff s A A') : DoEff s A A' := ⟨e.fr, e.sl, fun t ht h => ⟨(e.has t).2 h, fun j => e.ot t j ht⟩⟩
noncomputable def doX (mid : Nat) (k s p n a : Int) (x : AVal) (H : Heap) : Option (AVal × Heap) :=
  if k = 1 then makeM [.ptr mid 5 0 0] H
  else if k = 2 then forkM [.ptr mid 5 0 0, .v (.int .i64 s)] H
  else if k = 3 then dropM [.ptr mid 5 0 0, .v (.int .i64 s)] H
  else if k = 4 then mapM [.ptr mid 5 0 0, .v (.int .i64 s), .v (.int .i64 p), .v (.int .i64 n), .v (.int .i64 7)] H
  else if k = 5 then unmapM [.ptr mid 5 0 0, .v (.int .i64 s), .v (.int .i64 p), .v (.int .i64 n)] H
  else if k = 6 then putM [.ptr mid 5 0 0, .v (.int .i64 s), .v (.int .i64 p), .v (.int .i64 7), x] H
  else if k = 7 then writeM [.ptr mid 5 0 0, .v (.int .i64 s), .v (.int .i64 a), x] H
  else if k = 8 then readM [.ptr mid 5 0 0, .v (.int .i64 s), .v (.int .i64 a), .v (.int .i64 n)] H
  else if k = 9 then recM [.ptr mid 5 0 0, .v (.int .i64 n)] H
  else if k = 10 then protM [.ptr mid 5 0 0, .v (.int .i64 s), .v (.int .i64 p), .v (.int .i64 n), .v (.int .i64 a)] H
  else some (.v (.tuple #[]), H)
theorem do_ev {H : Heap} {mid : Nat} {A : Ab} (h : RG mid (H, A)) {k s p n a : Int} {x : AVal} {d : List Int} (hw : IntKind.i64.wrap a = a) (hd : bytesAt H x = some d) (hx : apart A mid x) :
    ∃ r H' A', doX mid k s p n a x H = some (r, H') ∧ RG mid (H', A') ∧ DoEff s A A' := by
  unfold doX
  by_cases k1' : k = 1
  · rw [if_pos k1']
    obtain ⟨s', e, H', A', h1, h2, h3, h4⟩ := make_ev h
    refine ⟨_, _, _, h1, h2, by rw [h3], by rw [h3], fun t _ ht => ?_⟩
    rcases h4 with ⟨_, _, k1, _, _, k2, k3⟩ | ⟨_, _, rfl, _⟩
    · have hne : t ≠ s' := by rintro rfl; exact k1 ht
      refine ⟨?_, fun j => k2 t j hne⟩
      rw [has_key] at ht ⊢
      rw [k3, List.mem_append]
      exact .inl ht
    · exact ⟨ht, fun _ => rfl⟩
  rw [if_neg k1']
  by_cases k2' : k = 2
  · rw [if_pos k2']
    obtain ⟨to, e, H', A', h1, h2, h3, h4, _, h5⟩ := fork_ev h (s := s)
    refine ⟨_, _, _, h1, h2, h3, h4, fun t _ ht => ?_⟩
    rcases h5 with ⟨_, _, k1, _, k2, k3⟩ | ⟨_, _, rfl, _⟩
    · have hne : t ≠ to := by rintro rfl; exact k1 ht
      refine ⟨?_, fun j => by rw [k2, if_neg hne]⟩
      rw [has_key] at ht ⊢
      rw [k3, List.mem_append]
      exact .inl ht
    · exact ⟨ht, fun _ => rfl⟩
  rw [if_neg k2']
  by_cases k3' : k = 3
  · rw [if_pos k3']
    obtain ⟨e, H', A', h1, h2, h3, h4, h5⟩ := drop_ev h (s := s)
    refine ⟨_, _, _, h1, h2, h3, h4, fun t hts ht => ?_⟩
    rcases h5 with ⟨_, _, k1, k2⟩ | ⟨_, _, rfl⟩
    · refine ⟨?_, fun j => by rw [k1, if_neg hts]⟩
      unfold Go.Proofs.Ytegjbfcgbfnldaa.has at ht ⊢
      rw [k2, getK_delK, if_neg hts]
      exact ht
    · exact ⟨ht, fun _ => rfl⟩
  rw [if_neg k3']
  by_cases k4' : k = 4
  · rw [if_pos k4']
    obtain ⟨e, H', A', h1, h2, h3, _⟩ := map_ev h (s := s) (first := p) (n := n) (rights := 7)
    exact ⟨_, _, _, h1, h2, h3.deed⟩
  rw [if_neg k4']
  by_cases k5' : k = 5
  · rw [if_pos k5']
    obtain ⟨e, H', A', h1, h2, h3, _⟩ := unmap_ev h (s := s) (first := p) (n := n)
    exact ⟨_, _, _, h1, h2, h3.deed⟩
  rw [if_neg k5']
  by_cases k6' : k = 6
  · rw [if_pos k6']
    obtain ⟨e, H', A', h1, h2, h3, _⟩ := put_ev h (s := s) (at_ := p) (rights := 7) (d := d)
    have hev : putM [.ptr mid 5 0 0, .v (.int .i64 s), .v (.int .i64 p), .v (.int .i64 7), x] H = some (putR1 H mid A s p 7 d) := by
      simp only [putM, rg_at h, hd, Option.bind_some, Option.map_some]
    rw [hev, h1]
    exact ⟨_, _, _, rfl, h2, h3.deed⟩
  rw [if_neg k6']
  by_cases k7' : k = 7
  · rw [if_pos k7']
    obtain ⟨e, H', A', h1, h2, h3, _⟩ := write_ev h (s := s) (d := d) hw
    rw [write_eval (rg_at h) hd hw hx, h1]
    exact ⟨_, _, _, rfl, h2, h3.deed⟩
  rw [if_neg k7']
  by_cases k8' : k = 8
  · rw [if_pos k8']
    have hev : readM [.ptr mid 5 0 0, .v (.int .i64 s), .v (.int .i64 a), .v (.int .i64 n)] H = some (readR H mid A s a n) := by
      simp only [readM, rg_at h, Option.bind_some]
      rw [if_pos hw]
    rw [hev]
    unfold readR
    cases hg : getK s A.sps with
    | none => exact ⟨_, _, _, rfl, h, DoEff.refl _ _⟩
    | some x =>
      simp only
      split
      · exact ⟨_, _, _, rfl, h, DoEff.refl _ _⟩
      · split
        · refine ⟨_, wr (H ++ List.replicate (mayR x.2 1 a n).2 none) mid (fetchL x.2 A.lo a n.toNat) ++ outK (fetchB x.2 A.lo a n.toNat) n.toNat, { A with lo := fetchL x.2 A.lo a n.toNat }, rfl, fetch_rg (rg_app h) x.2 a _, (Eff.like s (Like.fetch x.2 A.lo a n.toNat)).deed⟩
        · exact ⟨_, _, _, rfl, rg_app h, DoEff.refl _ _⟩
  rw [if_neg k8']
  by_cases k9' : k = 9
  · rw [if_pos k9']
    obtain ⟨k, H', L', h1, h2, h3, _⟩ := rec_ev h (n := n)
    exact ⟨_, _, _, h1, h3, (Eff.like s h2).deed⟩
  rw [if_neg k9']
  by_cases k10' : k = 10
  · rw [if_pos k10']
    obtain ⟨e, H', A', h1, h2, h3, _⟩ := prot_ev h (s := s) (first := p) (n := n) (rights := a)
    exact ⟨_, _, _, h1, h2, h3.deed⟩
  · rw [if_neg k10']
    exact ⟨_, _, _, rfl, h, DoEff.refl _ _⟩
noncomputable def doM : Row → Heap → Option (AVal × Heap)
  | [.ptr mid 5 0 0, .agg [.v (.int .i64 k), .v (.int .i64 s), .v (.int .i64 p), .v (.int .i64 n), .v (.int .i64 a), .fsl o ee rows]], H =>
    (doX mid k s p n a (.fsl o ee rows) (H ++ [some (6, [[.v (.int .i64 k), .v (.int .i64 s), .v (.int .i64 p), .v (.int .i64 n), .v (.int .i64 a), .fsl o ee rows]])])).map fun r => (.v (.tuple #[]), r.2)
  | _, _ => none
theorem do_inl : InlOk Try.prog 43 doM := by
  refine inl_canonE Try.func43 rfl fun args H r H' hr => ⟨args, canon_refl args, ?_⟩
  unfold doM at hr
  split at hr
  case h_2 => cases hr
  rename_i mid k s p n a o ee rows
  simp only [Option.bind_eq_some_iff, Option.map_eq_some_iff] at hr
  obtain ⟨⟨r0, H2⟩, hx, hr⟩ := hr
  simp only [Prod.mk.injEq] at hr
  obtain ⟨rfl, rfl⟩ := hr
  unfold doX at hx
  refine bodyE_of ((((((((((noOrc_ok.withI make_inl).withI fork_inl).withI drop_inl).withI map_inl).withI unmap_inl).withI put_inl).withI write_inl).withI read_inl).withI rec_inl).withI prot_inl) fxMix (by kernel_rfl) (by simp [Try.ntmps43]) ?_
  intro C cP cI cN cD cF cA cR cL
  have cn0 := orcI make_inl (C := C) (by rw [cN]; rfl)
  have cn1 := orcI fork_inl (C := C) (by rw [cN]; rfl)
  have cn2 := orcI drop_inl (C := C) (by rw [cN]; rfl)
  have cn3 := orcI map_inl (C := C) (by rw [cN]; rfl)
  have cn4 := orcI unmap_inl (C := C) (by rw [cN]; rfl)
  have cn5 := orcI put_inl (C := C) (by rw [cN]; rfl)
  have cn6 := orcI write_inl (C := C) (by rw [cN]; rfl)
  have cn7 := orcI read_inl (C := C) (by rw [cN]; rfl)
  have cn8 := orcI rec_inl (C := C) (by rw [cN]; rfl)
  have cn9 := orcI prot_inl (C := C) (by rw [cN]; rfl)
  replace cI := fun g => congrFun cI g
  simp only [Orc.withP, Orc.withI, Orc.withF, Orc.withD, Orc.withA, Orc.withR, Orc.withC, noOrc] at cI
  replace cR : C.rd = fun _ => none := cR
  replace cD : C.dyn = fun _ => [] := cD
  clear cP cN cF cA
  by_cases k1 : k = 1
  · rw [if_pos k1] at hx
    subst k1
    simp [Try.ntmps43, Try.results43, cSl, cn0, cn1, cn2, cn3, cn4, cn5, cn6, cn7, cn8, cn9, cI, cD, cR, hx]
    exact Ent.refl _ _
  rw [if_neg k1] at hx
  by_cases k2 : k = 2
  · rw [if_pos k2] at hx
    subst k2
    simp [Try.ntmps43, Try.results43, cSl, cn0, cn1, cn2, cn3, cn4, cn5, cn6, cn7, cn8, cn9, cI, cD, cR, hx]
    exact Ent.refl _ _
  rw [if_neg k2] at hx
  by_cases k3 : k = 3
  · rw [if_pos k3] at hx
    subst k3
    simp [Try.ntmps43, Try.results43, cSl, cn0, cn1, cn2, cn3, cn4, cn5, cn6, cn7, cn8, cn9, cI, cD, cR, hx]
    exact Ent.refl _ _
  rw [if_neg k3] at hx
  by_cases k4 : k = 4
  · rw [if_pos k4] at hx
    subst k4
    simp [Try.ntmps43, Try.results43, cSl, cn0, cn1, cn2, cn3, cn4, cn5, cn6, cn7, cn8, cn9, cI, cD, cR, hx]
    exact Ent.refl _ _
  rw [if_neg k4] at hx
  by_cases k5 : k = 5
  · rw [if_pos k5] at hx
    subst k5
    simp [Try.ntmps43, Try.results43, cSl, cn0, cn1, cn2, cn3, cn4, cn5, cn6, cn7, cn8, cn9, cI, cD, cR, hx]
    exact Ent.refl _ _
  rw [if_neg k5] at hx
  by_cases k6 : k = 6
  · rw [if_pos k6] at hx
    subst k6
    simp [Try.ntmps43, Try.results43, cSl, cn0, cn1, cn2, cn3, cn4, cn5, cn6, cn7, cn8, cn9, cI, cD, cR, hx]
    exact Ent.refl _ _
  rw [if_neg k6] at hx
  by_cases k7 : k = 7
  · rw [if_pos k7] at hx
    subst k7
    simp [Try.ntmps43, Try.results43, cSl, cn0, cn1, cn2, cn3, cn4, cn5, cn6, cn7, cn8, cn9, cI, cD, cR, hx]
    exact Ent.refl _ _
  rw [if_neg k7] at hx
  by_cases k8 : k = 8
  · rw [if_pos k8] at hx
    subst k8
    simp [Try.ntmps43, Try.results43, cSl, cn0, cn1, cn2, cn3, cn4, cn5, cn6, cn7, cn8, cn9, cI, cD, cR, hx]
    exact Ent.refl _ _
  rw [if_neg k8] at hx
  by_cases k9 : k = 9
  · rw [if_pos k9] at hx
    subst k9
    simp [Try.ntmps43, Try.results43, cSl, cn0, cn1, cn2, cn3, cn4, cn5, cn6, cn7, cn8, cn9, cI, cD, cR, hx]
    exact Ent.refl _ _
  rw [if_neg k9] at hx
  by_cases k10 : k = 10
  · rw [if_pos k10] at hx
    subst k10
    simp [Try.ntmps43, Try.results43, cSl, cn0, cn1, cn2, cn3, cn4, cn5, cn6, cn7, cn8, cn9, cI, cD, cR, hx]
    exact Ent.refl _ _
  rw [if_neg k10] at hx
  simp only [Option.some.injEq, Prod.mk.injEq] at hx
  obtain ⟨rfl, rfl⟩ := hx
  simp [Try.ntmps43, Try.results43, cSl, cn0, cn1, cn2, cn3, cn4, cn5, cn6, cn7, cn8, cn9, cI, cD, cR, k1, k2, k3, k4, k5, k6, k7, k8, k9, k10]
  exact Ent.refl _ _
end
section
attribute [local simp] pgRow_len pg16 pg17 pg18 pg16' pg17' pg18' ww16 ww17 ww18 keyI_ok aLookup aMapUpdate aDelete lkRes bin_mn spV enV Try.underlying75 Try.underlying77
structure Dd where
  kind : Int
  space : Int
  page : Int
  n : Int
  addr : Int
  data : List Int
  deriving DecidableEq
def ddDec : Row → Option Dd
  | [.v (.int .i64 x0), .v (.int .i64 x1), .v (.int .i64 x2), .v (.int .i64 x3), .v (.int .i64 x4), a5] => match slDec (rI .u8) a5 with | some x5 => some ⟨x0, x1, x2, x3, x4, x5⟩ | _ => none
  | _ => none
def Dd.row (e : Dd) : Row := [.v (.int .i64 e.kind), .v (.int .i64 e.space), .v (.int .i64 e.page), .v (.int .i64 e.n), .v (.int .i64 e.addr), .fsl false 1 (e.data.map (irow .u8))]
def Dd.hrow (e : Dd) : Row := [.v (.int .i64 e.kind), .v (.int .i64 e.space), .v (.int .i64 e.page), .v (.int .i64 e.n), .v (.int .i64 e.addr), .fsl true 1 (e.data.map (irow .u8))]
theorem Dd.eta (e : Dd) : Dd.mk e.kind e.space e.page e.n e.addr e.data = e := rfl
theorem Dd.dec_row (e : Dd) : ddDec e.row = some e := by
  have h5 := (cSl (rI .u8)).de e.data
  simp only [cSl] at h5
  simp only [ddDec, Dd.row]
  erw [h5]
theorem Dd.dec_hrow (e : Dd) : ddDec e.hrow = some e := Dd.dec_row e
def rDd : RCod Dd where
  sz := 6
  enc := Dd.row
  dec := ddDec
  de := Dd.dec_row
  len _ := rfl
  ok := by
    intro r e h β ok w n x hok hr
    unfold ddDec at h
    split at h
    · split at h
      · rename_i h5
        simp at h
        subst h
        refine ⟨rfl, fun j c hj => ?_⟩
        match j, hj with
        | 0, hj => simp [Dd.row] at hj; subst hj; exact hr 0 _ rfl
        | 1, hj => simp [Dd.row] at hj; subst hj; exact hr 1 _ rfl
        | 2, hj => simp [Dd.row] at hj; subst hj; exact hr 2 _ rfl
        | 3, hj => simp [Dd.row] at hj; subst hj; exact hr 3 _ rfl
        | 4, hj => simp [Dd.row] at hj; subst hj; exact hr 4 _ rfl
        | 5, hj => simp [Dd.row] at hj; subst hj; exact (cSl (rI .u8)).ok h5 hok (hr 5 _ rfl)
        | j + 6, hj => simp [Dd.row] at hj
      · cases h
    · cases h
theorem Dd.cold (l : List Dd) : coldR (l.map Dd.row) = l.map Dd.row := by
  induction l with
  | nil => simp [coldR]
  | cons e l ih => simp [coldR, coldC, AI.cold, ih, Dd.row, irow_cold]
theorem Dd.hcold (l : List Dd) : coldR (l.map Dd.hrow) = l.map Dd.row := by
  induction l with
  | nil => simp [coldR]
  | cons e l ih => simp [coldR, coldC, AI.cold, ih, Dd.row, Dd.hrow, irow_cold]
theorem Dd.mapM (l : List Dd) : (l.map Dd.row).mapM ddDec = some l := mapM_dec rDd l
theorem Dd.mapMc (l : List Dd) : l.mapM (ddDec ∘ Dd.row) = some l := mapM_dec' rDd l
theorem Dd.hmapM (l : List Dd) : (l.map Dd.hrow).mapM ddDec = some l := by
  rw [List.mapM_map]
  have : ddDec ∘ Dd.hrow = ddDec ∘ Dd.row := by funext e; simp [Function.comp, Dd.dec_row, Dd.dec_hrow]
  rw [this]; exact Dd.mapMc l
theorem Dd.hmapMc (l : List Dd) : l.mapM (ddDec ∘ Dd.hrow) = some l := by
  have := Dd.hmapM l
  rwa [List.mapM_map] at this
theorem Dd.view (H : Heap) (n : Nat) (e : Dd) : List.map (AI.view H n) e.row = e.row := by cases n <;> simp [Dd.row, AI.view]
theorem Dd.viewc (H : Heap) (n : Nat) : List.map (AI.view H n) ∘ Dd.row = Dd.row := by funext e; exact Dd.view H n e
theorem Dd.hview (H : Heap) (n : Nat) (e : Dd) : List.map (AI.view H n) e.hrow = e.hrow := by cases n <;> simp [Dd.hrow, AI.view]
theorem Dd.hviewc (H : Heap) (n : Nat) : List.map (AI.view H n) ∘ Dd.hrow = Dd.hrow := by funext e; exact Dd.hview H n e
theorem Dd.hotR (l : List Dd) : AI.hotR (l.map Dd.hrow) = true := by
  induction l with
  | nil => simp [AI.hotR]
  | cons e l ih => simp [AI.hotR, hotC, hot, ih, Dd.hrow, irow_hotR]
theorem Dd.ren (n : Nat) (th : List Nat) (e : Dd) : List.map (AI.ren n th) e.row = e.row := by simp [Dd.row, AI.ren]
theorem Dd.renc (n : Nat) (th : List Nat) : List.map (AI.ren n th) ∘ Dd.row = Dd.row := by funext e; exact Dd.ren n th e
theorem Dd.low (n : Nat) (e : Dd) : e.row.all (lowA n) = true := by simp [Dd.row, lowA]
theorem Dd.hlow (n : Nat) (e : Dd) : e.hrow.all (lowA n) = true := by simp [Dd.hrow, lowA]
attribute [local simp] Dd.hlow Dd.eta Dd.dec_row Dd.dec_hrow Dd.cold Dd.hcold Dd.mapM Dd.mapMc Dd.hmapM Dd.hmapMc Dd.view Dd.viewc Dd.hview Dd.hviewc Dd.hotR Dd.ren Dd.renc Dd.low

section
variable {P : Program} {nt n0 : Nat} {ρ : Env} {H : Heap} {C : Orc}
theorem loop_forW {K : Nat} {c : Code} {Q : Post} {α : Type} (n : Nat) (st : Nat → α → Env × Heap) (inv : Nat → α → Prop) (a0 : α) (hn : n ≤ 9223372036854775807) (hi : inv 0 a0) (h0 : Ent n0 (st 0 a0) (ρ, H))
    (step : ∀ k a, k < n → inv k a → IntKind.i64.wrap ((k : Int) + 1) = (k : Int) + 1 → wpX P C nt (LoopK P C nt n0 K) c (thenA (NextE n0 st inv (k + 1)) Q) (st k a).1 (st k a).2)
    (last : ∀ a, inv n a → wpX P C nt (LoopK P C nt n0 K) c (thenA (fun _ _ => False) Q) (st n a).1 (st n a).2) : LoopK P C nt n0 (K + 1) c Q ρ H := by
  refine loop_ent (σ := {p : Nat × α // p.1 ≤ n ∧ inv p.1 p.2}) (fun p => st p.val.1 p.val.2) (fun p => n - p.val.1) ⟨(0, a0), Nat.zero_le _, hi⟩ h0 ?_
  rintro ⟨⟨k, a⟩, hk, hka⟩
  simp only at hk hka ⊢
  rcases Nat.lt_or_ge k n with hlt | hge
  · refine wpX_mono (LoopK_mono K) c _ _ _ _ (thenA_mono ?_ fun _ _ _ q => q) (step k a hlt hka (w64 (by omega) (by omega)))
    rintro ρ H ⟨a', h1, h2⟩
    exact ⟨⟨(k + 1, a'), hlt, h1⟩, by simp only; omega, h2⟩
  · have : k = n := by omega
    subst this
    exact wpX_mono (LoopK_mono K) c _ _ _ _ (thenA_mono (fun _ _ q => q.elim) fun _ _ _ q => q) (last a hka)
end
def goodL (l : List Dd) : Prop := l.length ≤ 9223372036854775807 ∧ ∀ x ∈ l, IntKind.i64.wrap x.addr = x.addr
noncomputable def begX (mid : Nat) (l : List Dd) (H : Heap) : Nat → Heap
  | 0 => H
  | k + 1 => if k < 40 then ((doM [.ptr mid 5 0 0, .agg (((l[k]?).map Dd.row).getD [])] (begX mid l H k ++ [some (6, [((l[k]?).map Dd.row).getD []])])).map (·.2)).getD [] else begX mid l H k ++ [some (6, [((l[k]?).map Dd.row).getD []])]
theorem bytes_irow (d : List Int) : (d.map (irow .u8)).mapM by1 = some d := by1_of d
theorem do_row {H : Heap} {mid : Nat} {A : Ab} (h : RG mid (H, A)) (x : Dd) (hw : IntKind.i64.wrap x.addr = x.addr) : ∃ H' A', doM [.ptr mid 5 0 0, .agg x.row] H = some (.v (.tuple #[]), H') ∧ RG mid (H', A') ∧ DoEff x.space A A' := by
  have hd : ∀ G : Heap, bytesAt G (.fsl false 1 (x.data.map (irow .u8))) = some x.data := fun G => bytes_irow x.data
  obtain ⟨r, H', A', h1, h2, h3⟩ := do_ev (rg_app (K := [some (6, [x.row])]) h) (k := x.kind) (s := x.space) (p := x.page) (n := x.n) hw (hd _) trivial
  refine ⟨H', A', ?_, h2, h3⟩
  unfold doM
  simp only [Dd.row] at h1 ⊢
  rw [h1]; rfl
theorem begX_step {H : Heap} {mid k : Nat} {l : List Dd} (hg : goodL l) (hk : k < l.length) {A : Ab} (h : RG mid (begX mid l H k, A)) : (k < 40 → doM [.ptr mid 5 0 0, .agg l[k].row] (begX mid l H k ++ [some (6, [l[k].row])]) = some (.v (.tuple #[]), begX mid l H (k + 1))) ∧ (¬ k < 40 → begX mid l H (k + 1) = begX mid l H k ++ [some (6, [l[k].row])]) ∧ ∃ A', RG mid (begX mid l H (k + 1), A') ∧ A'.lo.fr = A.lo.fr ∧ A'.lo.sl = A.lo.sl := by
  obtain ⟨H', A', h1, h2, h3⟩ := do_row (rg_app (K := [some (6, [l[k].row])]) h) l[k] (hg.2 _ (List.getElem_mem hk))
  have e : ((l[k]?).map Dd.row).getD [] = l[k].row := by rw [List.getElem?_eq_getElem hk]; rfl
  by_cases hk4 : k < 40
  · have e2 : begX mid l H (k + 1) = H' := by
      simp only [begX]
      rw [if_pos hk4, e, h1]; rfl
    rw [e2]
    exact ⟨fun _ => h1, fun hc => absurd hk4 hc, A', h2, h3.fr, h3.sl⟩
  · have e2 : begX mid l H (k + 1) = begX mid l H k ++ [some (6, [l[k].row])] := by
      simp only [begX]
      rw [if_neg hk4, e]
    rw [e2]
    exact ⟨fun hc => absurd hc hk4, fun _ => rfl, A, rg_app h, rfl, rfl⟩
theorem begX_rg {H : Heap} {mid : Nat} {l : List Dd} (hg : goodL l) {A : Ab} (h : RG mid (H, A)) : ∀ k, k ≤ l.length → ∃ A', RG mid (begX mid l H k, A') ∧ A'.lo.fr = A.lo.fr ∧ A'.lo.sl = A.lo.sl
  | 0, _ => ⟨A, h, rfl, rfl⟩
  | k + 1, hk => by
    obtain ⟨A1, h1, f1, f2⟩ := begX_rg hg h k (by omega)
    obtain ⟨_, _, A2, h2, f3, f4⟩ := begX_step hg (by omega) h1
    exact ⟨A2, h2, f3.trans f1, f4.trans f2⟩
noncomputable def begR (H : Heap) (f s : Int) (l : List Dd) : AVal × Heap :=
  if newB f s then (.v (.pointer none), H) else (.ptr (H.length + 1) 5 0 0, begX (H.length + 1) l (H ++ [some (0, []), some (5, [(newL H.length f s).row])]) l.length)
noncomputable def begM : Row → Heap → Option (AVal × Heap)
  | [.v (.int .i64 f), .v (.int .i64 s), .fsl false 6 rows], H => (rows.mapM ddDec).bind fun l => @ite _ (rows = l.map Dd.row ∧ goodL l) (Classical.propDecidable _) (some (begR H f s l)) none
  | _, _ => none
theorem begM_at {H : Heap} {f s : Int} {l : List Dd} (hg : goodL l) : begM [.v (.int .i64 f), .v (.int .i64 s), .fsl false 6 (l.map Dd.row)] H = some (begR H f s l) := by
  simp only [begM]
  rw [Dd.mapM, Option.bind_some, if_pos ⟨rfl, hg⟩]
theorem begun_inl : InlOk Try.prog 15 begM := by
  refine inl_canonE Try.func15 rfl fun args H r H' hr => ⟨args, canon_refl args, ?_⟩
  unfold begM at hr
  split at hr
  case h_2 => cases hr
  rename_i f s rows
  simp only [Option.bind_eq_some_iff, Option.map_eq_some_iff] at hr
  obtain ⟨l, _, hr⟩ := hr
  split at hr
  case isFalse => cases hr
  rename_i hcond
  obtain ⟨rfl, hg⟩ := hcond
  simp only [Option.some.injEq] at hr
  unfold begR at hr
  have hnew : newM [.v (.int .i64 f), .v (.int .i64 s)] H = some (newR H f s) := rfl
  unfold newR at hnew
  refine bodyE_of ((noOrc_ok.withI new_inl).withI do_inl) fxMix (by kernel_rfl) (by simp [Try.ntmps15]) ?_
  intro C cP cI cN cD cF cA cR cL
  have cn0 := orcI new_inl (C := C) (by rw [cN]; rfl)
  have cn1 := orcI do_inl (C := C) (by rw [cN]; rfl)
  replace cI := fun g => congrFun cI g
  simp only [Orc.withP, Orc.withI, Orc.withF, Orc.withD, Orc.withA, Orc.withR, Orc.withC, noOrc] at cI
  replace cR : C.rd = fun _ => none := cR
  replace cD : C.dyn = fun _ => [] := cD
  clear cP cN cF cA
  by_cases hb : newB f s
  · rw [if_pos hb] at hr hnew
    simp only [Prod.mk.injEq] at hr
    obtain ⟨rfl, rfl⟩ := hr
    simp [Try.ntmps15, Try.results15, cSl, cn0, cn1, cI, cD, cR, hnew]
    exact Ent.refl _ _
  · rw [if_neg hb] at hr hnew
    simp only [Prod.mk.injEq] at hr
    obtain ⟨rfl, rfl⟩ := hr
    obtain hrg := new_rep (H := H) hb
    generalize H ++ [some (0, []), some (5, [(newL H.length f s).row])] = G at *
    generalize hm : H.length + 1 = mid at *
    simp [Try.ntmps15, Try.results15, cSl, cn0, cn1, cI, cD, cR, hnew]
    refine loop_forW l.length (fun k (_ : Unit) => ([(7, .ptr mid 5 0 0), (19, .fsl false 6 (l.map Dd.row)), (20, .v (.int .i64 l.length)), (21, .v (.int .i64 k))], begX mid l G k)) (fun k _ => True) () hg.1 trivial (Ent.env (by simp [begX])) ?_ ?_
    · rintro k _ hk _ hw
      obtain ⟨A1, h1, _⟩ := begX_rg hg hrg k (by omega)
      obtain ⟨e1, e2, _⟩ := begX_step hg hk h1
      by_cases h40 : k < 40
      · have h40' : (k : Int) < 40 := by omega
        have e3 := e1 h40
        obtain ⟨Y', hY'⟩ : ∃ x, begX mid l G (k + 1) = x := ⟨_, rfl⟩
        rw [hY'] at e3
        generalize begX mid l G k = Y at *
        simp only [Dd.row] at e3
        simp [Try.ntmps15, Try.results15, cSl, cn0, cn1, cI, cD, cR, hk, hw, h40', e3, Dd.row]
        refine ⟨(), trivial, ?_⟩
        simp only [hY']
        exact Ent.env (by simp)
      · have h40' : ¬ (k : Int) < 40 := by omega
        have e3 := e2 h40
        simp only [Dd.row] at e3
        simp [Try.ntmps15, Try.results15, cSl, cn0, cn1, cI, cD, cR, hk, hw, h40', Dd.row]
        refine ⟨(), trivial, ?_⟩
        simp only [e3]
        exact Ent.env (by simp)
    · rintro _ _
      simp [Try.ntmps15, Try.results15, cSl, cn0, cn1, cI, cD, cR]
      exact Ent.refl _ _
end
end
end Go.Proofs.Ytegjbfcgbfnldaa
