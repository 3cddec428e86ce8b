/- Package space: counting users; states without a page, or a page more or less. Package space: good states behind a page's letting go, a page's sharing, a page more. Package space: Unmap. Package space: bytes that are laid: what happens. Package space: lay: the states of its loop. Package space: lay. -/
import Derived.Test.YtibpipgabcpaoaaSmB
namespace Go.Proofs.Ytibpipgabcpaoaa
open Go.AI
set_option linter.unusedSimpArgs false
set_option linter.unusedVariables false
section
section
variable {α β : Type} [DecidableEq α]
theorem setK_no {k : α} {v : β} {l : List (α × β)} (h : k ∉ l.map (·.1)) : setK k v l = l := by
 unfold setK
 conv => rhs; rw [← List.map_id l]
 apply List.map_congr_left
 intro x hx
 rw [if_neg]
 ·rfl
 ·intro e
  exact h (List.mem_map.2 ⟨x, hx, e⟩)
theorem delK_no {k : α} {l : List (α × β)} (h : k ∉ l.map (·.1)) : delK k l = l := by
 unfold delK
 rw [List.filter_eq_self]
 intro x hx
 simp
 intro e
 exact h (List.mem_map.2 ⟨x, hx, e⟩)
theorem getK_split {k : α} {v : β} : ∀ {l : List (α × β)}, (l.map (·.1)).Nodup → getK k l = some v → ∃ a b, l = a ++ (k, v) :: b ∧ (∀ v', setK k v' l = a ++ (k, v') :: b) ∧ delK k l = a ++ b
 | [], _, h => by simp [getK] at h
 | x :: l, hn, h => by
  rw [List.map_cons, List.nodup_cons] at hn
  unfold getK at h
  split at h
  ·rename_i e
   cases h
   subst e
   refine ⟨[], l, rfl, fun v' => ?_, ?_⟩
   ·have := setK_no (v := v') hn.1
    unfold setK at this ⊢
    rw [List.map_cons, if_pos rfl, this]; rfl
   ·have := delK_no hn.1
    unfold delK at this ⊢
    rw [List.filter_cons, this]; simp
  ·rename_i e
   obtain ⟨a, b, h1, h2, h3⟩ := getK_split hn.2 h
   refine ⟨x :: a, b, by rw [h1]; rfl, fun v' => ?_, ?_⟩
   ·have := h2 v'
    unfold setK at this ⊢
    rw [List.map_cons, this, if_neg e]; rfl
   ·unfold delK at h3 ⊢
    rw [List.filter_cons, h3]; simp [e]
theorem delK_nodup {k : α} {l : List (α × β)} (h : (l.map (·.1)).Nodup) : ((delK k l).map (·.1)).Nodup := h.sublist (delK_keys _)
end
def one (b : Bool) : Nat := if b then 1 else 0
theorem cntE_app (p : Nat) (a b : En) : cntE p (a ++ b) = cntE p a + cntE p b := by simp [cntE]
theorem cntE_cons (p : Nat) (x : Int × (Nat × Int)) (es : En) : cntE p (x :: es) = cntE p es + one (x.2.1 == p) := by simp [cntE, List.countP_cons, one]
theorem cntE_nil (p : Nat) : cntE p [] = 0 := rfl
theorem cntE_del {p : Nat} {es : En} {k : Int} {x : Nat × Int} (hn : (es.map (·.1)).Nodup) (h : getK k es = some x) : cntE p (delK k es) + one (x.1 == p) = cntE p es := by
 obtain ⟨a, b, h1, _, h3⟩ := getK_split hn h
 rw [h3, h1, cntE_app, cntE_app, cntE_cons]
 simp only; omega
theorem cntE_set {p : Nat} {es : En} {k : Int} {x : Nat × Int} (y : Nat × Int) (hn : (es.map (·.1)).Nodup) (h : getK k es = some x) : cntE p (setK k y es) + one (x.1 == p) = cntE p es + one (y.1 == p) := by
 obtain ⟨a, b, h1, h2, _⟩ := getK_split hn h
 rw [h2 y, h1, cntE_app, cntE_app, cntE_cons, cntE_cons]
 simp only; omega
theorem cntE_pos {p : Nat} {es : En} {k : Int} {rg : Int} (h : getK k es = some (p, rg)) : 1 ≤ cntE p es := by
 unfold cntE
 exact List.countP_pos_iff.2 ⟨_, getK_mem h, by simp⟩
abbrev Sps := List (Int × (Nat × En))
theorem cntS_app (p : Nat) (a b : Sps) : cntS p (a ++ b) = cntS p a + cntS p b := by simp [cntS]
theorem cntS_cons (p : Nat) (x : Int × (Nat × En)) (sps : Sps) : cntS p (x :: sps) = cntE p x.2.2 + cntS p sps := by simp [cntS]
theorem cntS_del {p : Nat} {sps : Sps} {s : Int} {x : Nat × En} (hn : (sps.map (·.1)).Nodup) (h : getK s sps = some x) : cntS p (delK s sps) + cntE p x.2 = cntS p sps := by
 obtain ⟨a, b, h1, _, h3⟩ := getK_split hn h
 rw [h3, h1, cntS_app, cntS_app, cntS_cons]
 simp only; omega
theorem cntS_set {p : Nat} {sps : Sps} {s : Int} {x : Nat × En} (y : Nat × En) (hn : (sps.map (·.1)).Nodup) (h : getK s sps = some x) : cntS p (setK s y sps) + cntE p x.2 = cntS p sps + cntE p y.2 := by
 obtain ⟨a, b, h1, h2, _⟩ := getK_split hn h
 rw [h2 y, h1, cntS_app, cntS_app, cntS_cons, cntS_cons]
 simp only; omega
theorem cntS_pos {p : Nat} {sps : Sps} {s k rg : Int} {m : Nat} {es : En} (hn : (sps.map (·.1)).Nodup) (h : getK s sps = some (m, es)) (hk : getK k es = some (p, rg)) : 1 ≤ cntS p sps := by
 have := cntS_del (p := p) hn h
 have := cntE_pos hk
 simp only at *; omega
theorem cntS_zero {p : Nat} {sps : Sps} (h : cntS p sps = 0) : ∀ x ∈ sps, ∀ e ∈ x.2.2, e.2.1 ≠ p := by
 intro x hx e he hp
 unfold cntS at h
 rw [List.sum_eq_zero_iff_forall_eq_nat] at h
 have h1 := h (cntE p x.2.2) (List.mem_map.2 ⟨x, hx, rfl⟩)
 unfold cntE at h1
 rw [List.countP_eq_zero] at h1
 exact h1 e he (by simp [hp])
theorem below {n : Nat} {l : List Nat} (h : l.Nodup) (hb : ∀ x ∈ l, x < n) : l.length ≤ n := by
 induction n generalizing l with
 | zero =>
  cases l with
  | nil => simp
  | cons a l => have := hb a (by simp); omega
 | succ n ih =>
  have h1 : (l.erase n).length ≤ n := by
   apply ih (h.erase n)
   intro x hx
   have := (h.mem_erase_iff).1 hx
   have := hb x this.2
   omega
  have h2 : l.length ≤ (l.erase n).length + 1 := by rw [List.length_erase]; split <;> omega
  omega
theorem below_int {n : Nat} {a : Int} {l : List Int} (h : l.Nodup) (hb : ∀ x ∈ l, a ≤ x ∧ x < a + n) : l.length ≤ n := by
 have h1 : (l.map fun x : Int => (x - a).toNat).Nodup := by
  rw [List.Nodup, List.pairwise_map]
  refine h.imp_of_mem ?_
  intro x y hx hy hxy he
  have := hb x hx
  have := hb y hy
  exact hxy (by omega)
 have := below (n := n) h1 (by
  intro x hx
  obtain ⟨y, hy, rfl⟩ := List.mem_map.1 hx
  have := hb y hy
  omega)
 simpa using this
theorem sum_le {c : Nat} : ∀ {l : List Nat}, (∀ x ∈ l, x ≤ c) → l.sum ≤ l.length * c
 | [], _ => by simp
 | x :: l, h => by
  have h1 := h x (by simp)
  have h2 := sum_le (fun y hy => h y (List.mem_cons_of_mem x hy))
  rw [List.sum_cons, List.length_cons, Nat.add_mul]; omega
theorem cnt_small {sps : Sps} (hn : (sps.map (·.1)).Nodup) (hk : ∀ x ∈ sps, (x.2.2.map (·.1)).Nodup) (h1 : ∀ x ∈ sps, 1 ≤ x.1 ∧ x.1 ≤ 16) (h2 : ∀ x ∈ sps, ∀ e ∈ x.2.2, 0 ≤ e.1 ∧ e.1 < 64) (p : Nat) :
  cntS p sps ≤ 1024 := by
 have hl := below_int (n := 16) (a := 1) hn (by
  intro x hx
  obtain ⟨y, hy, rfl⟩ := List.mem_map.1 hx
  have := h1 y hy
  omega)
 have hs := sum_le (c := 64) (l := sps.map fun x => cntE p x.2.2) (by
  intro x hx
  obtain ⟨y, hy, rfl⟩ := List.mem_map.1 hx
  have h3 := below_int (n := 64) (a := 0) (hk y hy) (by
   intro z hz
   obtain ⟨e, he, rfl⟩ := List.mem_map.1 hz
   have := h2 y hy e he
   omega)
  have h4 : cntE p y.2.2 ≤ y.2.2.length := List.countP_le_length
  simp at h3
  omega)
 unfold cntS
 simp at hl hs
 omega
theorem Rep.small {H : Heap} {mid : Nat} {A : Ab} (r : Rep H mid A) (g : Good A) (p : Nat) : cntS p A.sps ≤ 1024 :=
 cnt_small r.nds r.ndk g.num (fun x hx e he => (g.key x hx e he).1) p
theorem Rep.us {H : Heap} {mid : Nat} {A : Ab} (r : Rep H mid A) (g : Good A) {p : Nat} {q : Pg} (h : getK p A.lo.pgs = some q) : q.users = cntS p A.sps ∧ 1 ≤ q.users ∧ q.users ≤ 1024 := by
 have := g.us _ (getK_mem h)
 have := r.small g p
 simp only at *
 omega
end
section
theorem Good.mk2 {A : Ab} (nd : (A.lo.pgs.map (·.1)).Nodup) (us : ∀ p q, getK p A.lo.pgs = some q → q.users = cntS p A.sps ∧ 1 ≤ q.users)
  (pg : ∀ x ∈ A.sps, ∀ e ∈ x.2.2, ∃ q, getK e.2.1 A.lo.pgs = some q) (key : ∀ x ∈ A.sps, ∀ e ∈ x.2.2, (0 ≤ e.1 ∧ e.1 < 64) ∧ 0 ≤ e.2.2 ∧ e.2.2 ≤ 7)
  (num : ∀ x ∈ A.sps, 1 ≤ x.1 ∧ x.1 ≤ 16) (room : (A.lo.pgs.length : Int) ≤ A.lo.fr + A.lo.sl) : Good A :=
 ⟨fun x hx => us x.1 x.2 (getK_of nd hx), fun x hx e he => by obtain ⟨q, h⟩ := pg x hx e he; exact List.mem_map.2 ⟨_, getK_mem h, rfl⟩, key, num, room⟩
theorem Good.has {A : Ab} (g : Good A) {x : Int × (Nat × En)} (hx : x ∈ A.sps) {e : Int × (Nat × Int)} (he : e ∈ x.2.2) : ∃ q, getK e.2.1 A.lo.pgs = some q := by
 have := g.pg x hx e he
 cases h : getK e.2.1 A.lo.pgs with
 | none => exact absurd this (getK_none.1 h)
 | some q => exact ⟨q, rfl⟩
theorem Good.users {A : Ab} (g : Good A) {p : Nat} {q : Pg} (h : getK p A.lo.pgs = some q) : q.users = cntS p A.sps ∧ 1 ≤ q.users := g.us _ (getK_mem h)
theorem Like.back {L L' : Lo} (a : Like L L') {p : Nat} {q' : Pg} (h : getK p L'.pgs = some q') : ∃ q, getK p L.pgs = some q ∧ q'.data = q.data ∧ q'.users = q.users := by
 have hs := getK_isSome a.keys p
 rw [h] at hs
 obtain ⟨q, hq⟩ := Option.isSome_iff_exists.1 hs.symm
 obtain ⟨q2, h2, h3, h4⟩ := a.dt p q hq
 rw [h] at h2
 cases h2
 exact ⟨q, hq, h3, h4⟩
theorem Good.like {mid : Nat} {A : Ab} (g : Good A) (w : Wf mid A.lo) {L' : Lo} (a : Like A.lo L') : Good { A with lo := L' } := by
 refine Good.mk2 (a.wf w).nd (fun p q' h => ?_) (fun x hx e he => ?_) g.key g.num ?_
 ·obtain ⟨q, h1, _, h3⟩ := a.back h
  rw [h3]
  exact g.users h1
 ·obtain ⟨q, h⟩ := g.has hx he
  obtain ⟨q', h', _⟩ := a.dt _ _ h
  exact ⟨q', h'⟩
 ·have hl : L'.pgs.length = A.lo.pgs.length := by have := congrArg List.length a.keys; simpa using this
  have := g.room
  simp only [hl, a.fr, a.sl]
  exact this
theorem one_self (p : Nat) : one (p == p) = 1 := by simp [one]
theorem one_ne {p q : Nat} (h : ¬ p = q) : one (p == q) = 0 := by simp [one, h]
theorem Good.letP {mid : Nat} {A : Ab} (g : Good A) (w : Wf mid A.lo) {p : Nat} {q : Pg} (hq : getK p A.lo.pgs = some q) (hu : q.users ≤ 1024) {sps' : Sps}
  (hc : ∀ p', cntS p' sps' + one (p == p') = cntS p' A.sps) (hsub : ∀ x ∈ sps', ∀ e ∈ x.2.2, ∃ y ∈ A.sps, e ∈ y.2.2) (hnum : ∀ x ∈ sps', 1 ≤ x.1 ∧ x.1 ≤ 16) : Good ⟨A.lo.letP p q, sps'⟩ := by
 obtain ⟨u1, u2⟩ := g.users hq
 have hw : IntKind.i64.wrap (q.users - 1) = q.users - 1 := w64 (by omega) (by omega)
 have hp := hc p
 rw [one_self] at hp
 have key : ∀ x ∈ sps', ∀ e ∈ x.2.2, (0 ≤ e.1 ∧ e.1 < 64) ∧ 0 ≤ e.2.2 ∧ e.2.2 ≤ 7 := fun x hx e he => by
  obtain ⟨y, hy, h⟩ := hsub x hx e he
  exact g.key y hy e h
 have has : ∀ x ∈ sps', ∀ e ∈ x.2.2, ∃ q, getK e.2.1 A.lo.pgs = some q := fun x hx e he => by
  obtain ⟨y, hy, h⟩ := hsub x hx e he
  exact g.has hy h
 unfold Lo.letP
 simp only [lessU, hw]
 split
 ·rename_i h0
  have hz := cntS_zero (p := p) (sps := sps') (by omega)
  refine Good.mk2 (delK_nodup w.nd) (fun p' q' h => ?_) (fun x hx e he => ?_) key hnum ?_
  ·simp only [Lo.delP, getK_delK] at h
   split at h
   ·cases h
   ·rename_i hne
    have := hc p'
    rw [one_ne (fun e => hne e.symm)] at this
    obtain ⟨a, b⟩ := g.users h
    exact ⟨by simp only; omega, b⟩
  ·obtain ⟨q', h⟩ := has x hx e he
   refine ⟨q', ?_⟩
   simp only [Lo.delP, getK_delK]
   rw [if_neg (hz x hx e he), h]
  ·have h1 := delK_len (k := p) A.lo.pgs
   have h2 := g.room
   simp only [Lo.delP]
   omega
 ·rename_i h0
  refine Good.mk2 ?_ (fun p' q' h => ?_) (fun x hx e he => ?_) key hnum ?_
  ·simp only [Lo.setP, setK_keys]; exact w.nd
  ·simp only [Lo.setP, getK_setK] at h
   have := hc p'
   split at h
   ·rename_i e
    subst e
    rw [hq] at h
    cases h
    simp only; omega
   ·rename_i hne
    rw [one_ne (fun e => hne e.symm)] at this
    obtain ⟨a, b⟩ := g.users h
    exact ⟨by simp only; omega, b⟩
  ·obtain ⟨q', h⟩ := has x hx e he
   simp only [Lo.setP, getK_setK]
   split
   ·rw [hq]; exact ⟨_, rfl⟩
   ·exact ⟨q', h⟩
  ·have h2 := g.room
   simp only [Lo.setP, setK_len]
   exact h2
theorem Good.setP {mid : Nat} {A : Ab} (g : Good A) (w : Wf mid A.lo) {p : Nat} {q q' : Pg} (hq : getK p A.lo.pgs = some q) {sps' : Sps} (n : Nat) (hn : q'.users = q.users + n)
  (hc : ∀ p', cntS p' sps' = cntS p' A.sps + n * one (p == p')) (hsub : ∀ x ∈ sps', ∀ e ∈ x.2.2, (∃ y ∈ A.sps, e ∈ y.2.2) ∨ (e.2.1 = p ∧ (0 ≤ e.1 ∧ e.1 < 64) ∧ 0 ≤ e.2.2 ∧ e.2.2 ≤ 7)) (hnum : ∀ x ∈ sps', 1 ≤ x.1 ∧ x.1 ≤ 16) : Good ⟨A.lo.setP p q', sps'⟩ := by
 obtain ⟨u1, u2⟩ := g.users hq
 refine Good.mk2 ?_ (fun p' r h => ?_) (fun x hx e he => ?_) (fun x hx e he => ?_) hnum ?_
 ·simp only [Lo.setP, setK_keys]; exact w.nd
 ·simp only [Lo.setP, getK_setK] at h
  have := hc p'
  split at h
  ·rename_i e
   subst e
   rw [hq] at h
   cases h
   rw [one_self] at this
   simp only; omega
  ·rename_i hne
   rw [one_ne (fun e => hne e.symm)] at this
   obtain ⟨a, b⟩ := g.users h
   exact ⟨by simp only; omega, b⟩
 ·simp only [Lo.setP, getK_setK]
  split
  ·rw [hq]; exact ⟨_, rfl⟩
  ·rename_i hne
   rcases hsub x hx e he with ⟨y, hy, h⟩ | ⟨h, _⟩
   ·exact g.has hy h
   ·exact absurd h hne
 ·rcases hsub x hx e he with ⟨y, hy, h⟩ | ⟨_, h⟩
  ·exact g.key y hy e h
  ·exact h
 ·have h2 := g.room
  simp only [Lo.setP, setK_len]
  exact h2
theorem addL_back {n : Nat} {d : List Int} {L : Lo} (hf : ∀ p ∈ L.pgs.map (·.1), p < n) {p : Nat} {q' : Pg} (h : getK p (L.addL n d).pgs = some q') : (p = n + 1 ∧ q'.data = d ∧ q'.users = 1) ∨ (p ≠ n + 1 ∧ ∃ q, getK p L.pgs = some q ∧ q'.data = q.data ∧ q'.users = q.users) := by
 have lk : Like (L.grow n d) (L.addL n d) := Like.ask (grow_get hf)
 obtain ⟨q, h1, h2, h3⟩ := lk.back h
 simp only [Lo.grow] at h1
 rw [getK_app] at h1
 by_cases hp : p = n + 1
 ·subst hp
  rw [getK_none.2 (fun e => by have := hf _ e; omega)] at h1
  simp at h1
  subst h1
  exact .inl ⟨rfl, h2, h3⟩
 ·refine .inr ⟨hp, q, ?_, h2, h3⟩
  split at h1
  ·rename_i x hx
   cases h1
   exact hx
  ·rw [if_neg (fun e => hp e.symm)] at h1; cases h1
theorem addL_get {n : Nat} {d : List Int} {L : Lo} (hf : ∀ p ∈ L.pgs.map (·.1), p < n) : (∃ q', getK (n + 1) (L.addL n d).pgs = some q' ∧ q'.data = d ∧ q'.users = 1) ∧ ∀ p q, getK p L.pgs = some q → ∃ q', getK p (L.addL n d).pgs = some q' ∧ q'.data = q.data ∧ q'.users = q.users := by
 have lk : Like (L.grow n d) (L.addL n d) := Like.ask (grow_get hf)
 refine ⟨lk.dt _ _ (grow_get hf), fun p q h => lk.dt p q ?_⟩
 simp only [Lo.grow]
 rw [getK_app, h]
theorem Good.fresh {A : Ab} (g : Good A) {n : Nat} (hf : ∀ p ∈ A.lo.pgs.map (·.1), p < n) : cntS (n + 1) A.sps = 0 := by
 unfold cntS
 rw [List.sum_eq_zero_iff_forall_eq_nat]
 intro c hc
 obtain ⟨x, hx, rfl⟩ := List.mem_map.1 hc
 unfold cntE
 rw [List.countP_eq_zero]
 intro e he h
 have h1 := hf _ (g.pg x hx e he)
 simp at h
 omega
theorem Good.addE {mid : Nat} {A : Ab} (g : Good A) (w : Wf mid A.lo) {n : Nat} {d : List Int} (hd : d.length = 16) (hf : ∀ p ∈ A.lo.pgs.map (·.1), p < n) (hr : (A.lo.pgs.length : Int) + 1 ≤ A.lo.fr + A.lo.sl) {sps' : Sps}
  (hc : ∀ p', cntS p' sps' = cntS p' A.sps + one (n + 1 == p')) (hsub : ∀ x ∈ sps', ∀ e ∈ x.2.2, (∃ y ∈ A.sps, e ∈ y.2.2) ∨ (e.2.1 = n + 1 ∧ (0 ≤ e.1 ∧ e.1 < 64) ∧ 0 ≤ e.2.2 ∧ e.2.2 ≤ 7)) (hnum : ∀ x ∈ sps', 1 ≤ x.1 ∧ x.1 ≤ 16) : Good ⟨A.lo.addL n d, sps'⟩ := by
 obtain ⟨s1, s2, s3, s4, s5⟩ := addL_lid (d := d) hf
 have h0 := g.fresh hf
 refine Good.mk2 ?_ (fun p q' h => ?_) (fun x hx e he => ?_) (fun x hx e he => ?_) hnum ?_
 ·simp only
  rw [s5, List.nodup_append]
  refine ⟨w.nd, by simp, fun a ha b hb => ?_⟩
  have := hf _ ha
  simp at hb
  omega
 ·have := hc p
  rcases addL_back hf h with ⟨rfl, _, h3⟩ | ⟨hne, q, h1, _, h3⟩
  ·rw [one_self] at this
   simp only; omega
  ·rw [one_ne (fun e => hne e.symm)] at this
   obtain ⟨a, b⟩ := g.users h1
   simp only; omega
 ·rcases hsub x hx e he with ⟨y, hy, h⟩ | ⟨h, _⟩
  ·obtain ⟨q, hq⟩ := g.has hy h
   obtain ⟨q', hq', _⟩ := (addL_get (d := d) hf).2 _ _ hq
   exact ⟨q', hq'⟩
  ·rw [h]
   obtain ⟨q', hq', _⟩ := (addL_get (d := d) hf).1
   exact ⟨q', hq'⟩
 ·rcases hsub x hx e he with ⟨y, hy, h⟩ | ⟨_, h⟩
  ·exact g.key y hy e h
  ·exact h
 ·simp only
  rw [addL_len hf, s3, s4]
  push_cast
  exact hr
end
section
set_option maxHeartbeats 2000000
set_option maxRecDepth 100000
set_option linter.unusedSimpArgs false
set_option linter.unusedVariables false
attribute [local simp] wpA wpX RunA RunD runF foot footP footB idsA bare apart runL step1 gsel_f gsel_t gsel_s res_same res_and1 res_and2 res_and3 res_and4 res_and5 res_and6 res_false res_true res_v res_ptr res_fptr res_osl res_xsl soft aAppendZ aCap ovlI ovlJ res_fsl res_esl res_agg res_tup res_fn res_junk res_anyb aPick hk imp_left iteV dstOk guardOk astep astepE AI.ev AI.look AI.put envOf aBox cellsOf allOne allOneA oneA Value.oneCell' Value.cells newObj' aFieldAddr aLoad obj readAt thenA blockA condA retA resA tupA view hot hotC hotR depthV cAgg cInt cBool mkAgg allV aAlloc aBuild fillA writeAt aStore isAggA aField idx aIndexAddr aIndex bnd aSlice aExtract aLen aBuiltin aCall isStatic eqAgg eqTy eqC ev_add ev_sub ev_mul ev_quo ev_rem ev_and ev_or ev_xor ev_andNot ev_shl ev_shr ev_eql ev_neq ev_lss ev_leq ev_gtr ev_geq ev_agg w64 wu32 wu8 ev_not ev_neg Cod.plain RCod.plain argM finM cold coldC coldR goInt intDec boolDec aggDec Weaker heapW lowA lowC Again slDec undef aBuildSlice setRows aAppend rowsOf aMakeSlice aClear aCopyX aCopy softer_self softer_nil valsOf ev_min2 ev_max2 hotR_set hotR_append take_map_set irow_cold irow_mapM irow_mapMc irow_view irow_viewc irow_hotR irow_ren irow_renc irow_low WeakT heapT thOf ren renC AgainT NextF NextT fnDec cFn rNil selfLt natLt0 natLt1 getLastMap frame0 frame1 own0 own1 argG finG tau tauI tauO tauC bareA bareC bareH irow_tau irow_tauc irow_bare irow_flat irow_bareR ownA_nil ownT_nil ownA_c ownT_c ownA_s ownT_s takeMapLen footC plainA noId noIdC cloneF frame0F frame1F insertF replaceI replaceF cellDec rCell fpDec cFp rTwo deleteF allV_oA oneA_oA res_oA RunR RunE runFT footAt hotR_cat tmodN aEqH aSliceA fxSz3 fxBy3 fxAg3 fxZe3 fxSl3 fxSz4 fxAg4 fxSz5 fxBy5 fxAg5 fxZe5 fxSl22 fxAr22 fxSl23 fxAr23 fxAg24 fxSz31 fxAg31 fxZe31 fxSl31 fxAr31 fxSz34 fxAg34 fxAr35 fxSz37 fxAg37 fxZe37 fxFi37x0 fxFi37x1 fxFi37x2 fxPl37 fxSz38 fxAg38 fxZe38 fxAr38 fxSz47 fxAg47 fxZe47 fxFi47x0 fxPl47 fxZe51 fxFi51x0 fxFi51x1 fxPl51 fxAg55 fxSz56 fxAg56 fxSl56 fxAr56 fxZe58 fxFi58x0 fxFi58x1 fxFi58x2 fxFi58x3 fxFi58x4 fxPl58 fxSz62 fxAg62 fxZe62 fxFi62x0 fxFi62x1 fxFi62x2 fxFi62x3 fxPl62 fxZe65 fxSl67 fxAr67 fxSz72 fxAg72 fxZe72 fxSl72 fxAr72 fxPl72 fxSz74 fxZe74 fxFi74x0 fxFi74x1 fxFi74x2 fxFi74x3 fxPl74 fxSz75 fxBy75 fxAg75 fxZe75 fxSz79 fxAg79 fxZe79 fxFi79x0 fxFi79x1 fxPl79 fxEq47 fxCv3x5 fxCv3x34 fxCv3x70 fxCv3x100 fxCv5x34 fxCv34x3 fxCv34x5 fxCv34x112 fxCv70x3 fxCv100x34 fxCv112x3 fxLn31 fxLn56 fxFm4 fxFm5 fxFi5 fxFm6 fxFm7 fxFm8 fxFm9 fxFi9 fxFm10 fxFm11 fxFm12 fxFm13 fxFm14 fxFm15 fxFm16 fxFm17 fxFi17 fxFm18 fxFm19 fxFi19 fxFm20 fxFm21 fxFm22 fxFm23 fxFm24 fxFi24 fxFm25 fxFi25 fxFm26 fxFm27 fxFm28 fxFi28 fxFm29 fxFm30 fxFm31 fxFm32 fxFm33 fxFi33 fxFm34 fxFi34 fxFm35 fxFm36 fxFm37 fxFm38 fxFm39 fxFi39 fxFm40 fxFi40 fxFm41 fxFi41 fxFm42 fxFm45 fxFi45 fxFm46 fxFi46 fxFm47 fxFm48 fxFm49 fxFi49 fxFm50 fxFm51 fxFm52 fxFi52 fxFm64 fxFi64 fxFm87 fxFm88 fxFm89
section
attribute [local simp] pgRow_len pg16 pg17 pg18 pg16' pg17' pg18' ww16 ww17 ww18 keyI_ok aLookup aMapUpdate aDelete lkRes bin_mn spV enV Try.underlying65 Try.underlying55
theorem Wf.delP {mid p : Nat} {L : Lo} (w : Wf mid L) : Wf mid (L.delP p) := by
 refine ⟨fun e => ?_, w.nd.sublist (delK_keys _), fun x hx => w.d x (delK_sub x hx), fun e => w.hm ((delK_keys _).subset e), fun l hl => ⟨(w.hl l hl).1, fun e => (w.hl l hl).2 ((delK_keys _).subset e)⟩, ?_⟩
 ·simp [Lo.delP, w.nil e, delK]
 ·have := w.le
  have h2 := delK_len (k := p) L.pgs
  simp only [Lo.delP]
  omega
theorem Wf.setP {mid p : Nat} {L : Lo} (w : Wf mid L) {q' : Pg} (hd : q'.data.length = 16) : Wf mid (L.setP p q') := by
 refine ⟨fun e => ?_, ?_, fun x hx => ?_, ?_, ?_, ?_⟩
 ·simp [Lo.setP, w.nil e, setK]
 ·simp only [Lo.setP, setK_keys]; exact w.nd
 ·rcases mem_setK hx with ⟨rfl, _⟩ | ⟨h1, _⟩
  ·exact hd
  ·exact w.d x h1
 ·simp only [Lo.setP, setK_keys]; exact w.hm
 ·simp only [Lo.setP, setK_keys]; exact w.hl
 ·simp only [Lo.setP, setK_len]; exact w.le
def Less (mid : Nat) (L L' : Lo) : Prop := ∀ i, L.cell mid i = none → L'.cell mid i = none
theorem Less.lt {H : Heap} {mid : Nat} {L L' : Lo} (a : Less mid L L') (s : St H mid L) : ∀ i x, L'.cell mid i = some x → i < H.length := fun i x hx => by
 cases e : L.cell mid i with
 | none => rw [a i e] at hx; cases hx
 | some y => exact s.lt e
theorem Less.setP {mid p : Nat} {L : Lo} {q' : Pg} : Less mid L (L.setP p q') := fun i h => by
 unfold Lo.cell at h ⊢
 split at h
 ·cases h
 ·rename_i hm
  rw [if_neg hm]
  split at h
  ·cases h
  ·rename_i hl
   rw [if_neg (show ¬ (L.setP p q').lid = some i from hl)]
   rw [Option.map_eq_none_iff] at h ⊢
   rw [getK_none] at h ⊢
   simp only [Lo.setP, setK_keys]
   exact h
theorem Less.delP {mid p : Nat} {L : Lo} : Less mid L (L.delP p) := fun i h => by
 unfold Lo.cell at h ⊢
 split at h
 ·cases h
 ·rename_i hm
  rw [if_neg hm]
  split at h
  ·cases h
  ·rename_i hl
   rw [if_neg (show ¬ (L.delP p).lid = some i from hl)]
   rw [Option.map_eq_none_iff] at h ⊢
   rw [getK_none] at h ⊢
   exact fun e => h ((delK_keys _).subset e)
theorem Less.letP {mid p : Nat} {L : Lo} {q : Pg} : Less mid L (L.letP p q) := by
 unfold Lo.letP
 split
 ·exact Less.delP
 ·exact Less.setP
theorem Wf.letP {mid p : Nat} {L : Lo} {q : Pg} (w : Wf mid L) (hd : q.data.length = 16) : Wf mid (L.letP p q) := by
 unfold Lo.letP
 split
 ·exact w.delP
 ·exact w.setP hd
theorem letB_len {H : Heap} {p : Nat} {q : Pg} : (letB H p q).length = H.length + 1 := by
 unfold letB; split <;> simp
theorem letB_get {H : Heap} {p i : Nat} {q : Pg} (hi : i < H.length) (hp : i ≠ p) : (letB H p q)[i]? = H[i]? := by
 unfold letB
 split
 ·rw [List.getElem?_append_left (by simpa using hi), List.getElem?_set_ne (fun e => hp e.symm)]
 ·rw [List.getElem?_append_left hi]
theorem Rep.keep {H H' : Heap} {mid : Nat} {A : Ab} (r : Rep H mid A) {L' : Lo} (st : St H' mid L') (hs : L'.sid = A.lo.sid) (hk : ∀ (i : Nat) (rows : List Row), H[i]? = some (some (0, rows)) → H'[i]? = some (some (0, rows))) : Rep H' mid { A with lo := L' } := by
 refine ⟨st, ?_, fun x hx => hk _ _ (r.en x hx), r.nds, ?_, r.ndk⟩
 ·simp only
  rw [hs]
  exact hk _ _ r.sp
 ·simp only
  rw [hs]
  exact r.ndm
theorem St.let {H : Heap} {mid p : Nat} {L : Lo} (s : St H mid L) {q : Pg} (hq : getK p L.pgs = some q) : St (wr (letB H p q) mid (L.letP p q)) mid (L.letP p q) :=
 St.ofwr (s.wf.letP (s.pg hq).2) fun i x hx => by
  have := Less.letP.lt s i x hx
  rw [letB_len]; omega
theorem let_keep {H : Heap} {mid p : Nat} {L : Lo} (s : St H mid L) {q : Pg} (hq : getK p L.pgs = some q) {i : Nat} (hi : i < H.length) (hc : L.cell mid i = none) : (wr (letB H p q) mid (L.letP p q))[i]? = H[i]? := by
 rw [wr_ne (Less.letP i hc), letB_get hi]
 rintro rfl
 rw [s.wf.cell_pg hq] at hc; cases hc
theorem letP_sid {L : Lo} {p : Nat} {q : Pg} : (L.letP p q).sid = L.sid ∧ (L.letP p q).fr = L.fr ∧ (L.letP p q).sl = L.sl ∧ (L.letP p q).lid = L.lid := by
 unfold Lo.letP
 split <;> exact ⟨rfl, rfl, rfl, rfl⟩
theorem Rep.letP {H : Heap} {mid p : Nat} {A : Ab} (r : Rep H mid A) {q : Pg} (hq : getK p A.lo.pgs = some q) : Rep (wr (letB H p q) mid (A.lo.letP p q)) mid { A with lo := A.lo.letP p q } :=
 r.keep (r.st.let hq) letP_sid.1 fun i rows h => by
  rw [let_keep r.st hq (List.getElem?_eq_some_iff.1 h).1 (r.st.free h (fun e => by cases e) (fun e => by cases e) (fun e => by cases e)), h]
def RG (mid : Nat) (X : Heap × Ab) : Prop := Rep X.1 mid X.2 ∧ Good X.2
theorem mem_delK {α β : Type} [DecidableEq α] {k : α} {l : List (α × β)} {x : α × β} (h : x ∈ delK k l) : x ∈ l ∧ x.1 ≠ k := by
 unfold delK at h
 rw [List.mem_filter] at h
 exact ⟨h.1, by simpa using h.2⟩
theorem let_eval {H : Heap} {mid p : Nat} {L : Lo} {q : Pg} {rg : Int} (s : St H mid L) (hq : getK p L.pgs = some q) : letM [.ptr mid 5 0 0, .agg [.ptr p 19 0 0, .v (.int .i64 rg)]] H = some (.v (.tuple #[]), wr (letB H p q) mid (L.letP p q)) := by
 simp only [letM, stAt_iff.2 s, Option.bind_some, hq, Option.map_some]
end
end
section
def copyX (mid : Nat) (s k : Int) (X : Heap × Ab) : Heap × Ab :=
 match getK s X.2.sps with
 | none => X
 | some x => match getK k x.2 with
  | none => X
  | some y => match getK y.1 X.2.lo.pgs with
   | none => X
   | some q => if 1 < q.users then
     ((((wr ((X.2.lo.setP y.1 (lessU q)).addH (X.1.set y.1 (some (19, [pgRow (lessU q)])) ++ [some (2, [boxE (some y)])]) q.data) mid ((X.2.lo.setP y.1 (lessU q)).addL (X.1.length + 1) q.data)).set X.1.length (some (2, [boxE (some (X.1.length + 2, y.2))]))).set x.1 (some (0, (setK k (X.1.length + 2, y.2) x.2).map enRow))),
      ⟨(X.2.lo.setP y.1 (lessU q)).addL (X.1.length + 1) q.data, setK s (x.1, setK k (X.1.length + 2, y.2) x.2) X.2.sps⟩)
    else (X.1 ++ [some (2, [boxE (some y)])], X.2)
def putX (mid : Nat) (s k : Int) (t : Nat) (b : Int) (X : Heap × Ab) : Heap × Ab :=
 match getK s X.2.sps with
 | none => X
 | some x => match getK k x.2 with
  | none => X
  | some y => match getK y.1 X.2.lo.pgs with
   | none => X
   | some q => match getK y.1 (X.2.lo.ask y.1 q).pgs with
    | none => X
    | some q' => ((wr X.1 mid (X.2.lo.ask y.1 q)).set y.1 (some (19, [pgRow { q' with data := q'.data.set t b }])), { X.2 with lo := (X.2.lo.ask y.1 q).setP y.1 { q' with data := q'.data.set t b } })
def layX (mid : Nat) (s k : Int) (t : Nat) (b : Int) (X : Heap × Ab) : Heap × Ab := putX mid s k t b (copyX mid s k X)
theorem mem_setK' {α β : Type} [DecidableEq α] {k : α} {v : β} {l : List (α × β)} {x : α × β} (h : x ∈ l) (hk : x.1 ≠ k) : x ∈ setK k v l := by
 unfold setK
 exact List.mem_map.2 ⟨x, h, by rw [if_neg hk]⟩
theorem Rep.setP {H : Heap} {mid p : Nat} {A : Ab} (r : Rep H mid A) {q q' : Pg} (hq : getK p A.lo.pgs = some q) (hd : q'.data.length = 16) : Rep (H.set p (some (19, [pgRow q']))) mid { A with lo := A.lo.setP p q' } :=
 r.keep (r.st.setP hq hd) rfl fun i rows h => by
  rw [List.getElem?_set_ne, h]
  rintro rfl
  rw [(r.st.pg hq).1] at h; cases h
theorem Rep.set2 {H : Heap} {mid i : Nat} {A : Ab} (r : Rep H mid A) {rows : List Row} {o : Option (Nat × List Row)} (h : H[i]? = some (some (2, rows))) : Rep (H.set i o) mid A := by
 have hk : ∀ (j : Nat) (rw : List Row), H[j]? = some (some (0, rw)) → (H.set i o)[j]? = some (some (0, rw)) := fun j rw hj => by
  rw [List.getElem?_set_ne, hj]
  rintro rfl
  rw [h] at hj; cases hj
 exact r.keep (r.st.set_ne (r.st.free h (fun e => by cases e) (fun e => by cases e) (fun e => by cases e))) rfl hk
theorem less_users {q : Pg} (h1 : 1 < q.users) (h2 : q.users ≤ 1024) : (lessU q).users = q.users - 1 ∧ (lessU q).data = q.data :=
 ⟨w64 (by omega) (by omega), rfl⟩
theorem copyX_rg {mid : Nat} {s k : Int} {X : Heap × Ab} (h : RG mid X) (hr : ∀ m es p rg q, getK s X.2.sps = some (m, es) → getK k es = some (p, rg) → getK p X.2.lo.pgs = some q → 1 < q.users → (X.2.lo.pgs.length : Int) + 1 ≤ X.2.lo.fr + X.2.lo.sl) : RG mid (copyX mid s k X) := by
 obtain ⟨r, g⟩ := h
 unfold copyX
 cases hg : getK s X.2.sps with
 | none => exact ⟨r, g⟩
 | some x =>
  obtain ⟨m, es⟩ := x
  simp only
  cases hk : getK k es with
  | none => exact ⟨r, g⟩
  | some y =>
   obtain ⟨p, rg⟩ := y
   simp only
   obtain ⟨q, hq⟩ := g.page hg hk
   rw [hq]
   simp only
   split
   case isFalse => exact ⟨r.app, g⟩
   rename_i hu
   have hroom := hr m es p rg q hg hk hq hu
   have hu2 := (r.us g hq).2.2
   obtain ⟨lu, ld⟩ := less_users hu hu2
   have hnd := r.ndk _ (getK_mem hg)
   have hpd := (r.st.pg hq).2
   have r1 := (r.setP hq (q' := lessU q) (by rw [ld]; exact hpd)).app (K := [some (2, [boxE (some (p, rg))])])
   have hl1 : (X.1.set p (some (19, [pgRow (lessU q)])) ++ [some (2, [boxE (some (p, rg))])]).length = X.1.length + 1 := by simp
   have hle := r.st.wf.le
   have hle1 := g.room
   have hlen : (X.2.lo.setP p (lessU q)).pgs.length = X.2.lo.pgs.length := by simp only [Lo.setP, setK_len]
   have r2 := r1.addL (d := q.data) hpd (by simp only [hlen]; omega)
   have hst : ∀ x ∈ (X.2.lo.setP p (lessU q)).pgs.map (·.1), x < X.1.length + 1 := fun x hx => by have := r1.st.id_lt hx; omega
   have hst0 : ∀ x ∈ (X.2.lo.setP p (lessU q)).pgs.map (·.1), x < X.1.length := fun x hx => by simp only [Lo.setP, setK_keys] at hx; exact r.st.id_lt hx
   simp only [hl1] at r2
   have hnone : (X.2.lo.setP p (lessU q)).cell mid X.1.length = none := by
    apply Less.setP
    cases e : X.2.lo.cell mid X.1.length with
    | none => rfl
    | some z => exact absurd (r.st.lt e) (by omega)
   have hbox : (wr ((X.2.lo.setP p (lessU q)).addH (X.1.set p (some (19, [pgRow (lessU q)])) ++ [some (2, [boxE (some (p, rg))])]) q.data) mid ((X.2.lo.setP p (lessU q)).addL (X.1.length + 1) q.data))[X.1.length]? = some (some (2, [boxE (some (p, rg))])) := by
    rw [wr_ne (addL_cell hst (by omega) hnone), addH_get (mid := mid) (by rw [hl1]; omega) hnone, List.getElem?_append_right (by simp)]
    simp
   have r3 := (r2.set2 (o := some (2, [boxE (some (X.1.length + 2, rg))])) hbox).setE (s := s) (m := m) (es := es) (es' := setK k (X.1.length + 2, rg) es) hg (by rw [setK_keys]; exact hnd)
   refine ⟨r3, ?_⟩
   have hgl : getK s (setK s (m, delK k es) X.2.sps) = some (m, delK k es) := by rw [getK_setK, if_pos rfl, hg]; rfl
   have g1 := g.letP (sps' := setK s (m, delK k es) X.2.sps) r.st.wf hq hu2 (fun p' => by
    have h1 := cntS_set (p := p') (m, delK k es) r.nds hg
    have h2 := cntE_del (p := p') hnd hk
    simp only at h1 h2
    omega) (fun x hx e he => by
    rcases mem_setK hx with ⟨rfl, _⟩ | ⟨h1, _⟩
    ·exact ⟨_, getK_mem hg, delK_sub _ he⟩
    ·exact ⟨x, h1, he⟩) (fun x hx => by
    rcases mem_setK hx with ⟨rfl, _⟩ | ⟨h1, _⟩
    ·exact g.num (s, (m, es)) (getK_mem hg)
    ·exact g.num x h1)
   have hlet : X.2.lo.letP p q = X.2.lo.setP p (lessU q) := by
    unfold Lo.letP
    rw [if_neg (by omega)]
   rw [hlet] at g1
   refine g1.addE (n := X.1.length + 1) r1.st.wf hpd hst (by simp only [hlen]; exact hroom) (fun p' => ?_) (fun x hx e he => ?_) fun x hx => ?_
   ·have h1 := cntS_set (p := p') (m, delK k es) r.nds hg
    have h2 := cntE_del (p := p') hnd hk
    have h3 := cntS_set (p := p') (m, setK k (X.1.length + 2, rg) es) r.nds hg
    have h4 := cntE_set (p := p') (X.1.length + 2, rg) hnd hk
    simp only at h1 h2 h3 h4 ⊢
    show _ = _ + one (X.1.length + 2 == p')
    omega
   ·rcases mem_setK hx with ⟨rfl, _⟩ | ⟨h1, h2⟩
    ·rcases mem_setK he with ⟨rfl, _⟩ | ⟨h3, h4⟩
     ·exact .inr ⟨rfl, g.key (s, (m, es)) (getK_mem hg) (k, (p, rg)) (getK_mem hk)⟩
     ·exact .inl ⟨_, getK_mem hgl, by unfold delK; rw [List.mem_filter]; exact ⟨h3, by simpa using h4⟩⟩
    ·exact .inl ⟨x, mem_setK' h1 h2, he⟩
   ·rcases mem_setK hx with ⟨rfl, _⟩ | ⟨h1, _⟩
    ·exact g.num (s, (m, es)) (getK_mem hg)
    ·exact g.num x h1
theorem putX_rg {mid : Nat} {s k b : Int} {t : Nat} {X : Heap × Ab} (h : RG mid X) : RG mid (putX mid s k t b X) := by
 obtain ⟨r, g⟩ := h
 unfold putX
 cases hg : getK s X.2.sps with
 | none => exact ⟨r, g⟩
 | some x =>
  obtain ⟨m, es⟩ := x
  simp only
  cases hk : getK k es with
  | none => exact ⟨r, g⟩
  | some y =>
   obtain ⟨p, rg⟩ := y
   simp only
   obtain ⟨q, hq⟩ := g.page hg hk
   rw [hq]
   simp only
   have lk : Like X.2.lo (X.2.lo.ask p q) := Like.ask hq
   obtain ⟨q', hq', hd', hu'⟩ := lk.dt p q hq
   rw [hq']
   simp only
   have r1 := r.like lk
   have g1 := g.like r.st.wf lk
   refine ⟨r1.setP hq' (by simp only [List.length_set]; exact (r1.st.pg hq').2), ?_⟩
   exact g1.setP r1.st.wf hq' 0 (by simp) (fun p' => by simp) (fun x hx e he => .inl ⟨x, hx, he⟩) g.num
def Keep (mid : Nat) (X X' : Heap × Ab) : Prop := ∀ (i : Nat) (rows : List Row), X.2.lo.cell mid i = none → X.1[i]? = some (some (1, rows)) → X'.2.lo.cell mid i = none ∧ X'.1[i]? = some (some (1, rows))
theorem Keep.refl (mid : Nat) (X : Heap × Ab) : Keep mid X X := fun _ _ h1 h2 => ⟨h1, h2⟩
theorem Keep.trans {mid : Nat} {X Y Z : Heap × Ab} (a : Keep mid X Y) (b : Keep mid Y Z) : Keep mid X Z := fun i rows h1 h2 => by
 obtain ⟨h3, h4⟩ := a i rows h1 h2
 exact b i rows h3 h4
theorem copyX_keep {mid : Nat} {s k : Int} {X : Heap × Ab} (h : RG mid X) : Keep mid X (copyX mid s k X) := by
 obtain ⟨r, g⟩ := h
 unfold copyX
 cases hg : getK s X.2.sps with
 | none => exact Keep.refl _ _
 | some x =>
  obtain ⟨m, es⟩ := x
  simp only
  cases hk : getK k es with
  | none => exact Keep.refl _ _
  | some y =>
   obtain ⟨p, rg⟩ := y
   simp only
   obtain ⟨q, hq⟩ := g.page hg hk
   rw [hq]
   simp only
   intro i rows hc hi
   have hil := (List.getElem?_eq_some_iff.1 hi).1
   split
   case isFalse => exact ⟨hc, by rw [List.getElem?_append_left hil, hi]⟩
   rename_i hu
   have hc1 : (X.2.lo.setP p (lessU q)).cell mid i = none := Less.setP i hc
   have hst : ∀ x ∈ (X.2.lo.setP p (lessU q)).pgs.map (·.1), x < X.1.length + 1 := fun x hx => by simp only [Lo.setP, setK_keys] at hx; have := r.st.id_lt hx; omega
   have hc2 := addL_cell (d := q.data) hst (show i < X.1.length + 1 by omega) hc1
   refine ⟨hc2, ?_⟩
   have him : m ≠ i := by
    rintro rfl
    have := r.en _ (getK_mem hg)
    simp only at this
    rw [hi] at this; cases this
   have hip : p ≠ i := by
    rintro rfl
    rw [(r.st.pg hq).1] at hi; cases hi
   simp only
   rw [List.getElem?_set_ne him, List.getElem?_set_ne (by omega), wr_ne hc2, addH_get (mid := mid) (by simp; omega) hc1, List.getElem?_append_left (by simpa using hil), List.getElem?_set_ne hip, hi]
theorem putX_keep {mid : Nat} {s k b : Int} {t : Nat} {X : Heap × Ab} (h : RG mid X) : Keep mid X (putX mid s k t b X) := by
 obtain ⟨r, g⟩ := h
 unfold putX
 cases hg : getK s X.2.sps with
 | none => exact Keep.refl _ _
 | some x =>
  obtain ⟨m, es⟩ := x
  simp only
  cases hk : getK k es with
  | none => exact Keep.refl _ _
  | some y =>
   obtain ⟨p, rg⟩ := y
   simp only
   obtain ⟨q, hq⟩ := g.page hg hk
   rw [hq]
   simp only
   have lk : Like X.2.lo (X.2.lo.ask p q) := Like.ask hq
   obtain ⟨q', hq', hd', hu'⟩ := lk.dt p q hq
   rw [hq']
   simp only
   intro i rows hc hi
   have hc1 := lk.none hc
   have hip : p ≠ i := by
    rintro rfl
    rw [(r.st.pg hq).1] at hi; cases hi
   refine ⟨Less.setP i hc1, ?_⟩
   simp only
   rw [List.getElem?_set_ne hip, wr_ne hc1, hi]
theorem shN_mono {L L' : Lo} {es es' : En} : ∀ {m a : Nat}, (∀ j : Nat, a ≤ j → j < a + m → othE L' es' j = true → othE L es j = true) → shN L' es' a m ≤ shN L es a m
 | 0, _, _ => Nat.le_refl _
 | m + 1, a, h => by
  have ih := shN_mono (m := m) (a := a + 1) (fun j h1 h2 => h j (by omega) (by omega))
  have h0 := h a (by omega) (by omega)
  unfold shN
  by_cases e : othE L' es' (a : Int) = true
  ·rw [if_pos e, if_pos (h0 e)]; omega
  ·rw [if_neg e]; split <;> omega
theorem shN_tail (L : Lo) (es : En) {a b a' : Nat} (h1 : a ≤ a') (h2 : a' ≤ a + 1) : shN L es a' (b + 1 - a') ≤ shN L es a (b + 1 - a) := by
 rcases Nat.lt_or_ge a a' with h | h
 ·have : a' = a + 1 := by omega
  subst this
  rcases Nat.lt_or_ge b a with hb | hb
  ·rw [show b + 1 - (a + 1) = 0 by omega]; simp [shN]
  ·rw [show b + 1 - a = (b + 1 - (a + 1)) + 1 by omega]
   simp only [shN]
   omega
 ·have : a' = a := by omega
  subst this; exact Nat.le_refl _
end
section
def layN (mid : Nat) (s addr : Int) (d : List Int) (X : Heap × Ab) : Nat → Heap × Ab
 | 0 => X
 | j + 1 => layX mid s ((addr + (j : Nat)) / 16) ((addr + (j : Nat)) % 16).toNat ((d[j]?).getD 0) (layN mid s addr d X j)
theorem othE_iff {L : Lo} {es : En} {k : Int} : othE L es k = true ↔ ∃ p rg q, getK k es = some (p, rg) ∧ getK p L.pgs = some q ∧ 1 < q.users := by
 unfold othE
 constructor
 ·intro h
  split at h
  ·rename_i x hx
   split at h
   ·rename_i q hq
    exact ⟨x.1, x.2, q, hx, hq, by simpa using h⟩
   ·cases h
  ·cases h
 ·rintro ⟨p, rg, q, h1, h2, h3⟩
  rw [h1]
  simp only
  rw [h2]
  simpa using h3
theorem copyX_sh {mid mp : Nat} {s : Int} {a b : Nat} {X : Heap × Ab} {es : En} (h : RG mid X) (hg : getK s X.2.sps = some (mp, es)) (hab : a ≤ b) (hr : (shN X.2.lo es a (b + 1 - a) : Int) ≤ X.2.lo.fr + X.2.lo.sl - X.2.lo.pgs.length) :
  ∃ es', getK s (copyX mid s a X).2.sps = some (mp, es') ∧ es'.map (·.1) = es.map (·.1) ∧ (shN (copyX mid s a X).2.lo es' a (b + 1 - a) : Int) ≤ (copyX mid s a X).2.lo.fr + (copyX mid s a X).2.lo.sl - (copyX mid s a X).2.lo.pgs.length := by
 obtain ⟨r, g⟩ := h
 unfold copyX
 rw [hg]
 simp only
 cases hk : getK (a : Int) es with
 | none => exact ⟨es, hg, rfl, hr⟩
 | some y =>
  obtain ⟨p, rg⟩ := y
  simp only
  obtain ⟨q, hq⟩ := g.page hg hk
  rw [hq]
  simp only
  split
  case isFalse => exact ⟨es, hg, rfl, hr⟩
  rename_i hu
  have hu2 := (r.us g hq).2.2
  obtain ⟨lu, ld⟩ := less_users hu hu2
  have hst : ∀ x ∈ (X.2.lo.setP p (lessU q)).pgs.map (·.1), x < X.1.length + 1 := fun x hx => by simp only [Lo.setP, setK_keys] at hx; have := r.st.id_lt hx; omega
  obtain ⟨s1, s2, s3, s4, s5⟩ := addL_lid (d := q.data) hst
  have hl := addL_len (d := q.data) hst
  have hlen : (X.2.lo.setP p (lessU q)).pgs.length = X.2.lo.pgs.length := by simp only [Lo.setP, setK_len]
  refine ⟨setK (a : Int) (X.1.length + 2, rg) es, by rw [getK_setK, if_pos rfl, hg]; rfl, setK_keys _, ?_⟩
  simp only
  rw [s3, s4, hl, hlen]
  show (_ : Int) ≤ X.2.lo.fr + X.2.lo.sl - _
  obtain ⟨m, hx⟩ : ∃ m, b + 1 - a = m + 1 := ⟨b - a, by omega⟩
  rw [hx] at hr ⊢
  simp only [shN] at hr ⊢
  have o1 : othE X.2.lo es (a : Int) = true := othE_iff.2 ⟨p, rg, q, hk, hq, hu⟩
  rw [if_pos o1] at hr
  rw [if_neg]
  ·have := shN_mono (L := X.2.lo) (L' := (X.2.lo.setP p (lessU q)).addL (X.1.length + 1) q.data) (es := es) (es' := setK (a : Int) (X.1.length + 2, rg) es) (m := m) (a := a + 1) (fun j h1 h2 ho => by
    obtain ⟨p', rg', q', k1, k2, k3⟩ := othE_iff.1 ho
    rw [getK_setK, if_neg (by omega)] at k1
    obtain ⟨q0, hq0⟩ := g.page hg k1
    have hp' := r.st.id_lt (List.mem_map.2 ⟨_, getK_mem hq0, rfl⟩)
    simp only at hp'
    rcases addL_back hst k2 with ⟨rfl, _, _⟩ | ⟨_, q1, m1, _, m3⟩
    ·omega
    ·refine othE_iff.2 ⟨p', rg', q0, k1, hq0, ?_⟩
     simp only [Lo.setP, getK_setK] at m1
     split at m1
     ·rename_i e
      subst e
      rw [hq] at m1 hq0
      cases m1; cases hq0
      omega
     ·rw [hq0] at m1
      cases m1
      omega)
   push_cast at hr ⊢
   omega
  ·intro ho
   obtain ⟨p', rg', q', k1, k2, k3⟩ := othE_iff.1 ho
   rw [getK_setK, if_pos rfl, hk] at k1
   simp only [Option.map_some, Option.some.injEq, Prod.mk.injEq] at k1
   obtain ⟨rfl, rfl⟩ := k1
   rcases addL_back hst k2 with ⟨_, _, h3⟩ | ⟨h1, _⟩
   ·omega
   ·exact h1 rfl
theorem putX_sh {mid mp : Nat} {s k b : Int} {t : Nat} {X : Heap × Ab} {es : En} (h : RG mid X) (hg : getK s X.2.sps = some (mp, es)) :
  (putX mid s k t b X).2.sps = X.2.sps ∧ (∀ a m, shN (putX mid s k t b X).2.lo es a m ≤ shN X.2.lo es a m) ∧ (putX mid s k t b X).2.lo.fr = X.2.lo.fr ∧ (putX mid s k t b X).2.lo.sl = X.2.lo.sl ∧ (putX mid s k t b X).2.lo.pgs.length = X.2.lo.pgs.length := by
 obtain ⟨r, g⟩ := h
 unfold putX
 rw [hg]
 simp only
 cases hk : getK k es with
 | none => exact ⟨rfl, fun _ _ => Nat.le_refl _, rfl, rfl, rfl⟩
 | some y =>
  obtain ⟨p, rg⟩ := y
  simp only
  obtain ⟨q, hq⟩ := g.page hg hk
  rw [hq]
  simp only
  have lk : Like X.2.lo (X.2.lo.ask p q) := Like.ask hq
  obtain ⟨q', hq', hd', hu'⟩ := lk.dt p q hq
  rw [hq']
  simp only
  have hl : (X.2.lo.ask p q).pgs.length = X.2.lo.pgs.length := by have := congrArg List.length lk.keys; simpa using this
  refine ⟨trivial, fun a m => shN_mono fun j h1 h2 ho => ?_, lk.fr, lk.sl, by simp only [Lo.setP, setK_len]; exact hl⟩
  obtain ⟨p', rg', q1, k1, k2, k3⟩ := othE_iff.1 ho
  simp only [Lo.setP, getK_setK] at k2
  split at k2
  ·rename_i e
   subst e
   rw [hq'] at k2
   cases k2
   simp only at k3
   exact othE_iff.2 ⟨_, rg', q, k1, hq, by omega⟩
  ·obtain ⟨q2, m1, m2, m3⟩ := lk.back k2
   exact othE_iff.2 ⟨p', rg', q2, k1, m1, by omega⟩
structure LayI (mid mp : Nat) (s addr : Int) (n j : Nat) (es : En) (X Y : Heap × Ab) : Prop where
 rg : RG mid Y
 kp : Keep mid X Y
 ex : ∃ es', getK s Y.2.sps = some (mp, es') ∧ es'.map (·.1) = es.map (·.1) ∧ ∀ a b : Nat, (addr + j) / 16 = a → (addr + n - 1) / 16 = b → (shN Y.2.lo es' a (b + 1 - a) : Int) ≤ Y.2.lo.fr + Y.2.lo.sl - Y.2.lo.pgs.length
theorem keys_some {α β γ : Type} [DecidableEq α] {l : List (α × β)} {l' : List (α × γ)} (h : l'.map (·.1) = l.map (·.1)) {k : α} (hk : (getK k l).isSome = true) : ∃ x, getK k l' = some x := by
 rw [getK_isSome h.symm] at hk
 exact Option.isSome_iff_exists.1 hk
theorem LayI.step {mid mp n j : Nat} {s addr b : Int} {es : En} {X Y : Heap × Ab} (i : LayI mid mp s addr n j es X Y) (h0 : 0 ≤ addr) (hj : j < n) (hc : RG mid (copyX mid s ((addr + (j : Nat)) / 16) Y)) : LayI mid mp s addr n (j + 1) es X (layX mid s ((addr + (j : Nat)) / 16) ((addr + (j : Nat)) % 16).toNat b Y) := by
 obtain ⟨rg, kp, es', hg, hkeys, hsh⟩ := i
 refine ⟨putX_rg hc, (kp.trans (copyX_keep rg)).trans (putX_keep hc), ?_⟩
 obtain ⟨a, ha⟩ := Int.eq_ofNat_of_zero_le (show 0 ≤ (addr + j) / 16 by omega)
 obtain ⟨b', hb⟩ := Int.eq_ofNat_of_zero_le (show 0 ≤ (addr + n - 1) / 16 by omega)
 have hab : a ≤ b' := by omega
 obtain ⟨es2, c1, c2, c3⟩ := copyX_sh (b := b') rg hg hab (hsh a b' ha hb)
 unfold layX
 rw [ha] at hc ⊢
 obtain ⟨p1, p2, p3, p4, p5⟩ := putX_sh (k := (a : Nat)) (t := ((addr + (j : Nat)) % 16).toNat) (b := b) hc c1
 refine ⟨es2, by rw [p1]; exact c1, c2.trans hkeys, fun a2 b2 e1 e2 => ?_⟩
 have : b2 = b' := by omega
 subst this
 rw [p3, p4, p5]
 have k1 := p2 a2 (b2 + 1 - a2)
 have k2 := shN_tail (copyX mid s (a : Nat) Y).2.lo es2 (a := a) (b := b2) (a' := a2) (by omega) (by omega)
 omega
theorem LayI.copy {mid mp n j : Nat} {s addr : Int} {es : En} {X Y : Heap × Ab} (i : LayI mid mp s addr n j es X Y) (h0 : 0 ≤ addr) (hj : j < n) : RG mid (copyX mid s ((addr + (j : Nat)) / 16) Y) := by
 obtain ⟨rg, kp, es', hg, hkeys, hsh⟩ := i
 refine copyX_rg rg fun m es2 p r q e1 e2 e3 e4 => ?_
 rw [hg] at e1
 cases e1
 obtain ⟨a, ha⟩ := Int.eq_ofNat_of_zero_le (show 0 ≤ (addr + j) / 16 by omega)
 obtain ⟨b, hb⟩ := Int.eq_ofNat_of_zero_le (show 0 ≤ (addr + n - 1) / 16 by omega)
 have h1 := hsh a b ha hb
 obtain ⟨m', hx⟩ : ∃ m', b + 1 - a = m' + 1 := ⟨b - a, by omega⟩
 rw [hx] at h1
 simp only [shN] at h1
 rw [if_pos (othE_iff.2 ⟨p, r, q, by rw [← ha]; exact e2, e3, e4⟩)] at h1
 push_cast at h1
 omega
theorem layN_inv {mid mp n : Nat} {s addr : Int} {d : List Int} {es : En} {X : Heap × Ab} (h : LayI mid mp s addr n 0 es X X) (h0 : 0 ≤ addr) : ∀ j, j ≤ n → LayI mid mp s addr n j es X (layN mid s addr d X j)
 | 0, _ => h
 | j + 1, hj => by
  have i := layN_inv (d := d) h h0 j (by omega)
  exact i.step h0 (by omega) (i.copy h0 (by omega))
end
section
set_option maxHeartbeats 2000000
set_option maxRecDepth 100000
set_option linter.unusedSimpArgs false
set_option linter.unusedVariables false
attribute [local simp] wpA wpX RunA RunD runF foot footP footB idsA bare apart runL step1 gsel_f gsel_t gsel_s res_same res_and1 res_and2 res_and3 res_and4 res_and5 res_and6 res_false res_true res_v res_ptr res_fptr res_osl res_xsl soft aAppendZ aCap ovlI ovlJ res_fsl res_esl res_agg res_tup res_fn res_junk res_anyb aPick hk imp_left iteV dstOk guardOk astep astepE AI.ev AI.look AI.put envOf aBox cellsOf allOne allOneA oneA Value.oneCell' Value.cells newObj' aFieldAddr aLoad obj readAt thenA blockA condA retA resA tupA view hot hotC hotR depthV cAgg cInt cBool mkAgg allV aAlloc aBuild fillA writeAt aStore isAggA aField idx aIndexAddr aIndex bnd aSlice aExtract aLen aBuiltin aCall isStatic eqAgg eqTy eqC ev_add ev_sub ev_mul ev_quo ev_rem ev_and ev_or ev_xor ev_andNot ev_shl ev_shr ev_eql ev_neq ev_lss ev_leq ev_gtr ev_geq ev_agg w64 wu32 wu8 ev_not ev_neg Cod.plain RCod.plain argM finM cold coldC coldR goInt intDec boolDec aggDec Weaker heapW lowA lowC Again slDec undef aBuildSlice setRows aAppend rowsOf aMakeSlice aClear aCopyX aCopy softer_self softer_nil valsOf ev_min2 ev_max2 hotR_set hotR_append take_map_set irow_cold irow_mapM irow_mapMc irow_view irow_viewc irow_hotR irow_ren irow_renc irow_low WeakT heapT thOf ren renC AgainT NextF NextT fnDec cFn rNil selfLt natLt0 natLt1 getLastMap frame0 frame1 own0 own1 argG finG tau tauI tauO tauC bareA bareC bareH irow_tau irow_tauc irow_bare irow_flat irow_bareR ownA_nil ownT_nil ownA_c ownT_c ownA_s ownT_s takeMapLen footC plainA noId noIdC cloneF frame0F frame1F insertF replaceI replaceF cellDec rCell fpDec cFp rTwo deleteF allV_oA oneA_oA res_oA RunR RunE runFT footAt hotR_cat tmodN aEqH aSliceA fxSz3 fxBy3 fxAg3 fxZe3 fxSl3 fxSz4 fxAg4 fxSz5 fxBy5 fxAg5 fxZe5 fxSl22 fxAr22 fxSl23 fxAr23 fxAg24 fxSz31 fxAg31 fxZe31 fxSl31 fxAr31 fxSz34 fxAg34 fxAr35 fxSz37 fxAg37 fxZe37 fxFi37x0 fxFi37x1 fxFi37x2 fxPl37 fxSz38 fxAg38 fxZe38 fxAr38 fxSz47 fxAg47 fxZe47 fxFi47x0 fxPl47 fxZe51 fxFi51x0 fxFi51x1 fxPl51 fxAg55 fxSz56 fxAg56 fxSl56 fxAr56 fxZe58 fxFi58x0 fxFi58x1 fxFi58x2 fxFi58x3 fxFi58x4 fxPl58 fxSz62 fxAg62 fxZe62 fxFi62x0 fxFi62x1 fxFi62x2 fxFi62x3 fxPl62 fxZe65 fxSl67 fxAr67 fxSz72 fxAg72 fxZe72 fxSl72 fxAr72 fxPl72 fxSz74 fxZe74 fxFi74x0 fxFi74x1 fxFi74x2 fxFi74x3 fxPl74 fxSz75 fxBy75 fxAg75 fxZe75 fxSz79 fxAg79 fxZe79 fxFi79x0 fxFi79x1 fxPl79 fxEq47 fxCv3x5 fxCv3x34 fxCv3x70 fxCv3x100 fxCv5x34 fxCv34x3 fxCv34x5 fxCv34x112 fxCv70x3 fxCv100x34 fxCv112x3 fxLn31 fxLn56 fxFm4 fxFm5 fxFi5 fxFm6 fxFm7 fxFm8 fxFm9 fxFi9 fxFm10 fxFm11 fxFm12 fxFm13 fxFm14 fxFm15 fxFm16 fxFm17 fxFi17 fxFm18 fxFm19 fxFi19 fxFm20 fxFm21 fxFm22 fxFm23 fxFm24 fxFi24 fxFm25 fxFi25 fxFm26 fxFm27 fxFm28 fxFi28 fxFm29 fxFm30 fxFm31 fxFm32 fxFm33 fxFi33 fxFm34 fxFi34 fxFm35 fxFm36 fxFm37 fxFm38 fxFm39 fxFi39 fxFm40 fxFi40 fxFm41 fxFi41 fxFm42 fxFm45 fxFi45 fxFm46 fxFi46 fxFm47 fxFm48 fxFm49 fxFi49 fxFm50 fxFm51 fxFm52 fxFi52 fxFm64 fxFi64 fxFm87 fxFm88 fxFm89
section
attribute [local simp] pgRow_len pg16 pg17 pg18 pg16' pg17' pg18' ww16 ww17 ww18 keyI_ok aLookup aMapUpdate aDelete lkRes bin_mn spV enV Try.underlying65 Try.underlying55
def apart (A : Ab) (mid : Nat) : AVal → Prop
 | .osl id _ _ _ _ => A.lo.cell mid id = none
 | _ => True
def shT (A : Ab) (es : En) (addr : Int) (n : Nat) : Nat := if n = 0 then 0 else shN A.lo es (addr / 16).toNat ((addr + n - 1) / 16 + 1 - addr / 16).toNat
def layR (H : Heap) (mid : Nat) (A : Ab) (s addr : Int) (d : List Int) : AVal × Heap := match getK s A.sps with
 | none => (.v (.int .i64 0), H)
 | some x => if (shT A x.2 addr d.length : Int) ≤ A.lo.fr + A.lo.sl - A.lo.pgs.length then (.v (.int .i64 0), (layN mid s addr d (H, A) d.length).1) else (.v (.int .i64 6), H)
noncomputable def layM : Row → Heap → Option (AVal × Heap)
 | [.ptr mid 5 0 0, .v (.int .i64 s), .v (.int .i64 addr), x], H => (repAt H mid).bind fun A => (bytesAt H x).bind fun d => (getK s A.sps).bind fun y => @ite _ (spanK y.2 addr d.length ∧ apart A mid x) (Classical.propDecidable _) (some (layR H mid A s addr d)) none
 | _, _ => none
theorem ask_eval {H : Heap} {mid p : Nat} {A : Ab} {q : Pg} (r : Rep H mid A) (hq : getK p A.lo.pgs = some q) : askM [.ptr mid 5 0 0, .ptr p 19 0 0] H = some (.v (.tuple #[]), wr H mid (A.lo.ask p q)) := by
 simp only [askM, stAt_iff.2 r.st, Option.bind_some, hq, Option.map_some]
theorem bRow_16 {q : Pg} (h : q.data.length = 16) : List.take 16 (pgRow q) = bRow q.data := pgRow_take h
theorem lay_inl : InlOk Try.prog 30 layM := by
 refine inl_canonE Try.func30 rfl fun args H r H' hr => ⟨args, canon_refl args, ?_⟩
 unfold layM at hr
 split at hr
 case h_2 => cases hr
 rename_i mid s addr x
 simp only [Option.bind_eq_some_iff, Option.map_eq_some_iff] at hr
 obtain ⟨A, hA, d, hd, ⟨mp, es⟩, hg, hr⟩ := hr
 split at hr
 case isFalse => cases hr
 rename_i hcond
 obtain ⟨hsk, hap⟩ := hcond
 simp only [layR, hg, Option.some.injEq] at hr
 simp only at hsk
 obtain ⟨rp, gd⟩ := repAt_iff.1 hA
 have hsh : shM [.ptr mid 5 0 0, .v (.int .i64 s), .v (.int .i64 addr), .v (.int .i64 (d.length : Nat))] H = some (.v (.int .i64 (shT A es addr d.length : Nat))) := by
  simp only [shM, hA, Option.bind_some, hg]
  rw [if_pos hsk]
  unfold shT
  by_cases h : d.length = 0
  ·rw [if_pos h, if_pos (by omega)]; rfl
  ·rw [if_neg h, if_neg (by omega)]
 have hroom := room_eval (n := (shT A es addr d.length : Nat)) rp
 refine bodyE_of (((((noOrc_ok.withR sh_rd).withR room_rd).withI add_inl).withC (f := 42) (by first | rfl | (funext a b; simp [Orc.withI, Orc.withF])) add_maps).withI ask_inl) fxMix (by kernel_rfl) (by simp [Try.ntmps30]) ?_
 intro C cP cI cN cD cF cA cR cL
 have cn0 := orcI add_inl (C := C) (by rw [cN]; rfl)
 have cn1 := orcI ask_inl (C := C) (by rw [cN]; rfl)
 replace cI := fun g => congrFun cI g
 simp only [Orc.withP, Orc.withI, Orc.withF, Orc.withD, Orc.withA, Orc.withR, Orc.withC, noOrc] at cI
 replace cR := fun g => congrFun cR g
 simp only [Orc.withP, Orc.withI, Orc.withF, Orc.withD, Orc.withA, Orc.withR, Orc.withC, noOrc] at cR
 replace cL := fun g => congrFun cL g
 simp only [Orc.withP, Orc.withI, Orc.withF, Orc.withD, Orc.withA, Orc.withR, Orc.withC, noOrc] at cL
 replace cD : C.dyn = fun _ => [] := cD
 clear cP cN cF cA
 rcases bytesAt_cases hd with ⟨o, rfl⟩ | ⟨id, kc, rfl, hid, hidl, gid⟩ | ⟨rfl, hd0⟩ | ⟨rfl, hd0⟩
 ·
   obtain ⟨n, hn⟩ : ∃ n, d.length = n := ⟨_, rfl⟩
   have hyl : (yRow d).length = n := by rw [yRow_len, hn]
   rw [hn] at hsk hsh hr hroom
   have hn256 : n ≤ 256 := by rcases hsk with ⟨h, _⟩ | ⟨_, h, _⟩ <;> omega
   by_cases hrm : (shT A es addr n : Int) ≤ A.lo.fr + A.lo.sl - A.lo.pgs.length
   case neg =>
    rw [if_neg hrm] at hr
    simp only [Prod.mk.injEq] at hr
    obtain ⟨rfl, rfl⟩ := hr
    simp only [hrm, decide_false] at hroom
    simp [Try.ntmps30, Try.results30, cSl, cn0, cn1, cI, cD, cR, cL, hsh, hroom, hd, hyl, hn]
    exact Ent.refl _ _
   rw [if_pos hrm] at hr
   simp only [Prod.mk.injEq] at hr
   obtain ⟨rfl, rfl⟩ := hr
   simp only [hrm, decide_true] at hroom
   simp [Try.ntmps30, Try.results30, cSl, cn0, cn1, cI, cD, cR, cL, hsh, hroom, hd, hyl, hn]
   refine loop_forE n (fun k (_ : Unit) => ([(0, .ptr mid 5 0 0), (1, .v (.int .i64 s)), (2, .v (.int .i64 addr)), (22, .fsl o 1 (yRow d)), (23, .v (.int .i64 n)), (24, .v (.int .i64 k))], (layN mid s addr d (H, A) k).1)) (fun k _ => True) () (fun k _ hk _ => by omega) trivial (Ent.env (by simp)) ?_ ?_
   case refine_2 =>
    rintro _ _
    simp [Try.ntmps30, Try.results30, cSl, cn0, cn1, cI, cD, cR, cL]
    exact Ent.refl _ _
   rintro k _ hk _ hw
   rcases hsk with ⟨h0, _⟩ | ⟨k1, k2, k3, k4, k5⟩
   ·omega
   have hI : LayI mid mp s addr n 0 es (H, A) (H, A) := ⟨⟨rp, gd⟩, Keep.refl _ _, es, hg, rfl, fun a b e1 e2 => by
    unfold shT at hrm
    rw [if_neg (by omega), show (addr / 16).toNat = a by simp at e1; omega, show ((addr + (n : Int) - 1) / 16 + 1 - addr / 16).toNat = b + 1 - a by simp at e1; omega] at hrm
    exact hrm⟩
   have ik := layN_inv (d := d) hI k3 k (by omega)
   obtain ⟨b, hb⟩ : ∃ b, d[k]? = some b := ⟨d[k]'(by omega), List.getElem?_eq_getElem (by omega)⟩
   have hnext : layN mid s addr d (H, A) (k + 1) = layX mid s ((addr + (k : Nat)) / 16) ((addr + (k : Nat)) % 16).toNat b (layN mid s addr d (H, A) k) := by simp only [layN, hb, Option.getD_some]
   have hyk : (yRow d)[k]? = some [.v (.int .u8 b)] := by
    simp [yRow, hb]
   have hyk2 := (List.getElem?_eq_some_iff.1 hyk).2
   generalize layN mid s addr d (H, A) k = Y at *
   obtain ⟨es1, hg1, hkeys, hsh1⟩ := ik.ex
   obtain ⟨a, ha⟩ := Int.eq_ofNat_of_zero_le (show 0 ≤ (addr + k) / 16 by omega)
   obtain ⟨t, ht⟩ := Int.eq_ofNat_of_zero_le (show 0 ≤ (addr + k) % 16 by omega)
   have ht16 : t < 16 := by omega
   have ht17 : (t : Int) < 16 := by omega
   have ht18 : t ≤ 18 := by omega
   have hwk : IntKind.i64.wrap (addr + (k : Int)) = addr + k := w64 (by omega) (by omega)
   have hwa : IntKind.i64.wrap (a : Int) = a := w64 (by omega) (by omega)
   have hd1 : Int.tdiv (addr + k) 16 = a := by rw [Int.tdiv_eq_ediv_of_nonneg (by omega), ha]
   have hm1 : Int.tmod (addr + k) 16 = t := by rw [Int.tmod_eq_emod_of_nonneg (by omega), ht]
   rw [ha, ht] at hnext
   simp only [Int.toNat_natCast] at hnext
   have hcp := ik.copy k3 hk
   rw [ha] at hcp
   obtain ⟨⟨p, rg⟩, hgk⟩ := keys_some hkeys (k5 a (by omega) (by omega))
   obtain ⟨r1, g1⟩ := ik.rg
   obtain ⟨q, hq⟩ := g1.page hg1 hgk
   obtain ⟨hP, hpd⟩ := r1.st.pg hq
   have hM := r1.st.mem
   have hS := r1.sp
   have hf := r1.find s
   obtain ⟨hE, hnd, hfk⟩ := r1.findE hg1 (a : Int)
   have hml : mid < Y.1.length := r1.st.lt cell_m
   have hsl : Y.2.lo.sid < Y.1.length := (List.getElem?_eq_some_iff.1 hS).1
   have hel : mp < Y.1.length := (List.getElem?_eq_some_iff.1 hE).1
   have hpl : p < Y.1.length := (List.getElem?_eq_some_iff.1 hP).1
   have gM := (List.getElem?_eq_some_iff.1 hM).2
   have gS := (List.getElem?_eq_some_iff.1 hS).2
   have gE := (List.getElem?_eq_some_iff.1 hE).2
   have gP := (List.getElem?_eq_some_iff.1 hP).2
   simp only [Lo.row] at hM gM
   skip
   by_cases hu : 1 < q.users
   case neg =>
    have hc : copyX mid s a Y = (Y.1 ++ [some (2, [boxE (some (p, rg))])], Y.2) := by simp only [copyX, hg1, hgk, hq, hu, if_false]
    have r2 : Rep (Y.1 ++ [some (2, [boxE (some (p, rg))])]) mid Y.2 := r1.app
    have hask := ask_eval r2 hq
    have lk : Like Y.2.lo (Y.2.lo.ask p q) := Like.ask hq
    obtain ⟨q', hq', hd', _⟩ := lk.dt p q hq
    have r3 := r2.like lk
    obtain ⟨hP3, hpd3⟩ := r3.st.pg hq'
    have hpl3 := (List.getElem?_eq_some_iff.1 hP3).1
    have gP3 := (List.getElem?_eq_some_iff.1 hP3).2
    have hww := wwd (q := q') (k := t) (by omega) b
    have hB3 : (wr (Y.1 ++ [some (2, [boxE (some (p, rg))])]) mid (Y.2.lo.ask p q))[Y.1.length]? = some (some (2, [boxE (some (p, rg))])) := by
     rw [wr_ne, List.getElem?_append_right (Nat.le_refl _)]
     ·simp
     ·apply lk.none
      cases e : Y.2.lo.cell mid Y.1.length with
      | none => rfl
      | some z => exact absurd (r1.st.lt e) (by omega)
    unfold layX at hnext
    rw [hc] at hnext
    simp only [putX, hg1, hgk, hq, hq'] at hnext
    generalize wr (Y.1 ++ [some (2, [boxE (some (p, rg))])]) mid (Y.2.lo.ask p q) = W at *
    simp only [boxE] at hask hB3
    simp [Try.ntmps30, Try.results30, cSl, cn0, cn1, cI, cD, cR, cL, hd, hk, hyk, hyk2, hyl, hn, hw, hwk, hwa, hd1, hm1, hM, hS, hf, hg1, hE, hfk, hgk, hP, hpd, hu, hml, hsl, hel, hpl, gM, gS, gE, gP, List.getElem?_append, List.set_append, hask, hB3, hP3, hpd3, hpl3, gP3, hww, ht16, ht17, ht18]
    refine ⟨(), trivial, ?_⟩
    simp only [hnext]
    exact Ent.env (by simp)
   case pos =>
    have hu2 := (r1.us g1 hq).2.2
    obtain ⟨lu, ld⟩ := less_users hu hu2
    obtain ⟨w, hw2⟩ : ∃ w, IntKind.i64.wrap (q.users - 1) = w := ⟨_, rfl⟩
    have hlq : lessU q = { q with users := w } := by rw [← hw2]; rfl
    have ra : Rep (Y.1.set p (some (19, [pgRow (lessU q)])) ++ [some (2, [boxE (some (p, rg))])]) mid { Y.2 with lo := Y.2.lo.setP p (lessU q) } := (r1.setP hq (q' := lessU q) (by rw [ld]; exact hpd)).app
    have hl1 : (Y.1.set p (some (19, [pgRow (lessU q)])) ++ [some (2, [boxE (some (p, rg))])]).length = Y.1.length + 1 := by simp
    have hle := r1.st.wf.le
    have hle1 := g1.room
    have hlen : (Y.2.lo.setP p (lessU q)).pgs.length = Y.2.lo.pgs.length := by simp only [Lo.setP, setK_len]
    have hadd := add_eval ra (d := q.data) (by simp only [hlen]; omega) hpd
    have rb := ra.addL (d := q.data) hpd (by simp only [hlen]; omega)
    have hst : ∀ x ∈ (Y.2.lo.setP p (lessU q)).pgs.map (·.1), x < Y.1.length + 1 := fun x hx => by have := ra.st.id_lt hx; omega
    simp only [hl1] at rb hadd
    have hnone : (Y.2.lo.setP p (lessU q)).cell mid Y.1.length = none := by
     apply Less.setP
     cases e : Y.2.lo.cell mid Y.1.length with
     | none => rfl
     | some z => exact absurd (r1.st.lt e) (by omega)
    have hnone2 := addL_cell (d := q.data) hst (show Y.1.length < Y.1.length + 1 by omega) hnone
    have hbox : (wr ((Y.2.lo.setP p (lessU q)).addH (Y.1.set p (some (19, [pgRow (lessU q)])) ++ [some (2, [boxE (some (p, rg))])]) q.data) mid ((Y.2.lo.setP p (lessU q)).addL (Y.1.length + 1) q.data))[Y.1.length]? = some (some (2, [boxE (some (p, rg))])) := by
     rw [wr_ne hnone2, addH_get (mid := mid) (by rw [hl1]; omega) hnone, List.getElem?_append_right (by simp)]
     simp
    have hWl : (wr ((Y.2.lo.setP p (lessU q)).addH (Y.1.set p (some (19, [pgRow (lessU q)])) ++ [some (2, [boxE (some (p, rg))])]) q.data) mid ((Y.2.lo.setP p (lessU q)).addL (Y.1.length + 1) q.data)).length = Y.1.length + 5 := by
     rw [wr_len, addH_len, hl1]
    have hc : copyX mid s a Y = (((wr ((Y.2.lo.setP p (lessU q)).addH (Y.1.set p (some (19, [pgRow (lessU q)])) ++ [some (2, [boxE (some (p, rg))])]) q.data) mid ((Y.2.lo.setP p (lessU q)).addL (Y.1.length + 1) q.data)).set Y.1.length (some (2, [boxE (some (Y.1.length + 2, rg))]))).set mp (some (0, (setK (a : Int) (Y.1.length + 2, rg) es1).map enRow)), ⟨(Y.2.lo.setP p (lessU q)).addL (Y.1.length + 1) q.data, setK s (mp, setK (a : Int) (Y.1.length + 2, rg) es1) Y.2.sps⟩) := by
     simp only [copyX, hg1, hgk, hq, hu, if_true]
    obtain ⟨⟨q2, hq2, hqd2, _⟩, _⟩ := addL_get (d := q.data) hst
    have hM2 := rb.st.mem
    have hS2 := rb.sp
    obtain ⟨hE2, _, _⟩ := rb.findE hg1 (a : Int)
    have hsid := (addL_lid (d := q.data) hst).2.1
    simp only [Lo.row] at hM2
    simp only at hS2 hE2
    rw [hsid] at hM2 hS2
    rw [hc] at hcp
    obtain ⟨r4, g4⟩ := hcp
    unfold layX at hnext
    rw [hc] at hnext
    generalize wr ((Y.2.lo.setP p (lessU q)).addH (Y.1.set p (some (19, [pgRow (lessU q)])) ++ [some (2, [boxE (some (p, rg))])]) q.data) mid ((Y.2.lo.setP p (lessU q)).addL (Y.1.length + 1) q.data) = W at *
    have hsid2 : (Y.2.lo.setP p (lessU q)).sid = Y.2.lo.sid := rfl
    rw [hsid2] at hM2 hS2
    generalize (Y.2.lo.setP p (lessU q)).addL (Y.1.length + 1) q.data = L2 at *
    have hgs : getK s (setK s (mp, setK (a : Int) (Y.1.length + 2, rg) es1) Y.2.sps) = some (mp, setK (a : Int) (Y.1.length + 2, rg) es1) := by rw [getK_setK, if_pos rfl, hg1]; rfl
    have hge : getK (a : Int) (setK (a : Int) (Y.1.length + 2, rg) es1) = some (Y.1.length + 2, rg) := by rw [getK_setK, if_pos rfl, hgk]; rfl
    have hput := put_key (g := enRow) (v := enV) (fun _ => rfl) (a : Int) (Y.1.length + 2, rg) es1 hnd
    rw [putK_set hnd (List.mem_map.2 ⟨_, getK_mem hgk, rfl⟩)] at hput
    replace hq2 : getK (Y.1.length + 2) L2.pgs = some q2 := hq2
    have hask := ask_eval r4 hq2
    have lk : Like L2 (L2.ask (Y.1.length + 2) q2) := Like.ask hq2
    obtain ⟨q', hq', hd', _⟩ := lk.dt _ q2 hq2
    have r5 := r4.like lk
    obtain ⟨hP3, hpd3⟩ := r5.st.pg hq'
    have hww := wwd (q := q') (k := t) (by omega) b
    have hnm : ¬ Y.1.length = mp := by omega
    have hmn : ¬ mp = Y.1.length := by omega
    have hnd2 : ¬ Y.1.length = mid := by omega
    have hns : ¬ Y.1.length = Y.2.lo.sid := by omega
    have hmpm : ¬ mp = mid := by rintro rfl; rw [hM] at hE; cases hE
    have hms : ¬ mp = Y.2.lo.sid := by
     have h2 := r1.ndm
     rw [List.nodup_cons] at h2
     intro e
     exact h2.1 (List.mem_map.2 ⟨_, getK_mem hg1, e⟩)
    have hB3 : (wr ((W.set Y.1.length (some (2, [boxE (some (Y.1.length + 2, rg))]))).set mp (some (0, (setK (a : Int) (Y.1.length + 2, rg) es1).map enRow))) mid (L2.ask (Y.1.length + 2) q2))[Y.1.length]? = some (some (2, [boxE (some (Y.1.length + 2, rg))])) := by
     rw [wr_ne (lk.none hnone2), List.getElem?_set_ne hmn, List.getElem?_set_self (by omega)]
    simp only [putX, hgs, hge, hq2, hq'] at hnext
    simp only [boxE] at hask hB3 hP3 hnext
    clear r4 r5 g4 hc
    generalize hZ : wr ((W.set Y.1.length (some (2, [[AVal.ptr (Y.1.length + 2) 19 0 0, AVal.v (.int .i64 rg)]]))).set mp (some (0, (setK (a : Int) (Y.1.length + 2, rg) es1).map enRow))) mid (L2.ask (Y.1.length + 2) q2) = V at *
    have hpl3 := (List.getElem?_eq_some_iff.1 hP3).1
    have gP3 := (List.getElem?_eq_some_iff.1 hP3).2
    replace hadd : addM [.ptr mid 5 0 0, dA q.data] _ = some (.ptr (Y.1.length + 2) 19 0 0, W) := hadd
    simp only [boxE, hlq] at hadd hbox
    have htk := bRow_16 hpd
    have hmk := allV_b q.data
    have hbl : (bRow q.data).length = 16 := by rw [bRow_len, hpd]
    have hnW : Y.1.length < W.length := by omega
    have gbox := (List.getElem?_eq_some_iff.1 hbox).2
    have gM2 := (List.getElem?_eq_some_iff.1 hM2).2
    have gS2 := (List.getElem?_eq_some_iff.1 hS2).2
    have gE2 := (List.getElem?_eq_some_iff.1 hE2).2
    have htk1 : List.take 16 (pgRow { q with users := w }) = bRow q.data := bRow_16 hpd
    simp only [enV] at hput
    simp only [dA] at hadd
    simp [Try.ntmps30, Try.results30, cSl, cn0, cn1, cI, cD, cR, cL, hd, hk, hyk, hyk2, hyl, hn, hw, hwk, hwa, hd1, hm1, hM, hS, hf, hg1, hE, hfk, hgk, hP, hpd, hu, hml, hsl, hel, hpl, gM, gS, gE, gP, List.getElem?_append, List.set_append, hw2, htk1, hmk, hbl, hadd, hbox, gbox, gM2, gS2, gE2, hM2, hS2, hE2, hput, hnm, hmn, hnd2, hns, hmpm, hms, hnW, hWl, hask, hB3, hP3, hpd3, hpl3, gP3, hww, ht16, ht17, ht18]
    refine ⟨(), trivial, ?_⟩
    simp only [hnext]
    exact Ent.env (by simp)
 ·
   obtain ⟨n, hn⟩ : ∃ n, d.length = n := ⟨_, rfl⟩
   have hyl : (yRow d).length = n := by rw [yRow_len, hn]
   rw [hn] at hsk hsh hr hroom
   have hn256 : n ≤ 256 := by rcases hsk with ⟨h, _⟩ | ⟨_, h, _⟩ <;> omega
   by_cases hrm : (shT A es addr n : Int) ≤ A.lo.fr + A.lo.sl - A.lo.pgs.length
   case neg =>
    rw [if_neg hrm] at hr
    simp only [Prod.mk.injEq] at hr
    obtain ⟨rfl, rfl⟩ := hr
    simp only [hrm, decide_false] at hroom
    simp [Try.ntmps30, Try.results30, cSl, cn0, cn1, cI, cD, cR, cL, hsh, hroom, hid, gid, hidl, hyl, hn]
    exact Ent.refl _ _
   rw [if_pos hrm] at hr
   simp only [Prod.mk.injEq] at hr
   obtain ⟨rfl, rfl⟩ := hr
   simp only [hrm, decide_true] at hroom
   simp [Try.ntmps30, Try.results30, cSl, cn0, cn1, cI, cD, cR, cL, hsh, hroom, hid, gid, hidl, hyl, hn]
   refine loop_forE n (fun k (_ : Unit) => ([(0, .ptr mid 5 0 0), (1, .v (.int .i64 s)), (2, .v (.int .i64 addr)), (22, .osl id 1 0 n kc), (23, .v (.int .i64 n)), (24, .v (.int .i64 k))], (layN mid s addr d (H, A) k).1)) (fun k _ => True) () (fun k _ hk _ => by omega) trivial (Ent.env (by simp)) ?_ ?_
   case refine_2 =>
    rintro _ _
    simp [Try.ntmps30, Try.results30, cSl, cn0, cn1, cI, cD, cR, cL]
    exact Ent.refl _ _
   rintro k _ hk _ hw
   rcases hsk with ⟨h0, _⟩ | ⟨k1, k2, k3, k4, k5⟩
   ·omega
   have hI : LayI mid mp s addr n 0 es (H, A) (H, A) := ⟨⟨rp, gd⟩, Keep.refl _ _, es, hg, rfl, fun a b e1 e2 => by
    unfold shT at hrm
    rw [if_neg (by omega), show (addr / 16).toNat = a by simp at e1; omega, show ((addr + (n : Int) - 1) / 16 + 1 - addr / 16).toNat = b + 1 - a by simp at e1; omega] at hrm
    exact hrm⟩
   have ik := layN_inv (d := d) hI k3 k (by omega)
   obtain ⟨b, hb⟩ : ∃ b, d[k]? = some b := ⟨d[k]'(by omega), List.getElem?_eq_getElem (by omega)⟩
   have hnext : layN mid s addr d (H, A) (k + 1) = layX mid s ((addr + (k : Nat)) / 16) ((addr + (k : Nat)) % 16).toNat b (layN mid s addr d (H, A) k) := by simp only [layN, hb, Option.getD_some]
   have hyk : (yRow d)[k]? = some [.v (.int .u8 b)] := by
    simp [yRow, hb]
   have hyk2 := (List.getElem?_eq_some_iff.1 hyk).2
   generalize layN mid s addr d (H, A) k = Y at *
   obtain ⟨es1, hg1, hkeys, hsh1⟩ := ik.ex
   obtain ⟨a, ha⟩ := Int.eq_ofNat_of_zero_le (show 0 ≤ (addr + k) / 16 by omega)
   obtain ⟨t, ht⟩ := Int.eq_ofNat_of_zero_le (show 0 ≤ (addr + k) % 16 by omega)
   have ht16 : t < 16 := by omega
   have ht17 : (t : Int) < 16 := by omega
   have ht18 : t ≤ 18 := by omega
   have hwk : IntKind.i64.wrap (addr + (k : Int)) = addr + k := w64 (by omega) (by omega)
   have hwa : IntKind.i64.wrap (a : Int) = a := w64 (by omega) (by omega)
   have hd1 : Int.tdiv (addr + k) 16 = a := by rw [Int.tdiv_eq_ediv_of_nonneg (by omega), ha]
   have hm1 : Int.tmod (addr + k) 16 = t := by rw [Int.tmod_eq_emod_of_nonneg (by omega), ht]
   rw [ha, ht] at hnext
   simp only [Int.toNat_natCast] at hnext
   have hcp := ik.copy k3 hk
   rw [ha] at hcp
   obtain ⟨⟨p, rg⟩, hgk⟩ := keys_some hkeys (k5 a (by omega) (by omega))
   obtain ⟨r1, g1⟩ := ik.rg
   obtain ⟨q, hq⟩ := g1.page hg1 hgk
   obtain ⟨hP, hpd⟩ := r1.st.pg hq
   have hM := r1.st.mem
   have hS := r1.sp
   have hf := r1.find s
   obtain ⟨hE, hnd, hfk⟩ := r1.findE hg1 (a : Int)
   have hml : mid < Y.1.length := r1.st.lt cell_m
   have hsl : Y.2.lo.sid < Y.1.length := (List.getElem?_eq_some_iff.1 hS).1
   have hel : mp < Y.1.length := (List.getElem?_eq_some_iff.1 hE).1
   have hpl : p < Y.1.length := (List.getElem?_eq_some_iff.1 hP).1
   have gM := (List.getElem?_eq_some_iff.1 hM).2
   have gS := (List.getElem?_eq_some_iff.1 hS).2
   have gE := (List.getElem?_eq_some_iff.1 hE).2
   have gP := (List.getElem?_eq_some_iff.1 hP).2
   simp only [Lo.row] at hM gM
   obtain ⟨_, hidY⟩ := ik.kp id (yRow d) hap hid; have hidlY := (List.getElem?_eq_some_iff.1 hidY).1; have gidY := (List.getElem?_eq_some_iff.1 hidY).2
   by_cases hu : 1 < q.users
   case neg =>
    have hc : copyX mid s a Y = (Y.1 ++ [some (2, [boxE (some (p, rg))])], Y.2) := by simp only [copyX, hg1, hgk, hq, hu, if_false]
    have r2 : Rep (Y.1 ++ [some (2, [boxE (some (p, rg))])]) mid Y.2 := r1.app
    have hask := ask_eval r2 hq
    have lk : Like Y.2.lo (Y.2.lo.ask p q) := Like.ask hq
    obtain ⟨q', hq', hd', _⟩ := lk.dt p q hq
    have r3 := r2.like lk
    obtain ⟨hP3, hpd3⟩ := r3.st.pg hq'
    have hpl3 := (List.getElem?_eq_some_iff.1 hP3).1
    have gP3 := (List.getElem?_eq_some_iff.1 hP3).2
    have hww := wwd (q := q') (k := t) (by omega) b
    have hB3 : (wr (Y.1 ++ [some (2, [boxE (some (p, rg))])]) mid (Y.2.lo.ask p q))[Y.1.length]? = some (some (2, [boxE (some (p, rg))])) := by
     rw [wr_ne, List.getElem?_append_right (Nat.le_refl _)]
     ·simp
     ·apply lk.none
      cases e : Y.2.lo.cell mid Y.1.length with
      | none => rfl
      | some z => exact absurd (r1.st.lt e) (by omega)
    unfold layX at hnext
    rw [hc] at hnext
    simp only [putX, hg1, hgk, hq, hq'] at hnext
    generalize wr (Y.1 ++ [some (2, [boxE (some (p, rg))])]) mid (Y.2.lo.ask p q) = W at *
    simp only [boxE] at hask hB3
    simp [Try.ntmps30, Try.results30, cSl, cn0, cn1, cI, cD, cR, cL, hidY, gidY, hidlY, hk, hyk, hyk2, hyl, hn, hw, hwk, hwa, hd1, hm1, hM, hS, hf, hg1, hE, hfk, hgk, hP, hpd, hu, hml, hsl, hel, hpl, gM, gS, gE, gP, List.getElem?_append, List.set_append, hask, hB3, hP3, hpd3, hpl3, gP3, hww, ht16, ht17, ht18]
    refine ⟨(), trivial, ?_⟩
    simp only [hnext]
    exact Ent.env (by simp)
   case pos =>
    have hu2 := (r1.us g1 hq).2.2
    obtain ⟨lu, ld⟩ := less_users hu hu2
    obtain ⟨w, hw2⟩ : ∃ w, IntKind.i64.wrap (q.users - 1) = w := ⟨_, rfl⟩
    have hlq : lessU q = { q with users := w } := by rw [← hw2]; rfl
    have ra : Rep (Y.1.set p (some (19, [pgRow (lessU q)])) ++ [some (2, [boxE (some (p, rg))])]) mid { Y.2 with lo := Y.2.lo.setP p (lessU q) } := (r1.setP hq (q' := lessU q) (by rw [ld]; exact hpd)).app
    have hl1 : (Y.1.set p (some (19, [pgRow (lessU q)])) ++ [some (2, [boxE (some (p, rg))])]).length = Y.1.length + 1 := by simp
    have hle := r1.st.wf.le
    have hle1 := g1.room
    have hlen : (Y.2.lo.setP p (lessU q)).pgs.length = Y.2.lo.pgs.length := by simp only [Lo.setP, setK_len]
    have hadd := add_eval ra (d := q.data) (by simp only [hlen]; omega) hpd
    have rb := ra.addL (d := q.data) hpd (by simp only [hlen]; omega)
    have hst : ∀ x ∈ (Y.2.lo.setP p (lessU q)).pgs.map (·.1), x < Y.1.length + 1 := fun x hx => by have := ra.st.id_lt hx; omega
    simp only [hl1] at rb hadd
    have hnone : (Y.2.lo.setP p (lessU q)).cell mid Y.1.length = none := by
     apply Less.setP
     cases e : Y.2.lo.cell mid Y.1.length with
     | none => rfl
     | some z => exact absurd (r1.st.lt e) (by omega)
    have hnone2 := addL_cell (d := q.data) hst (show Y.1.length < Y.1.length + 1 by omega) hnone
    have hbox : (wr ((Y.2.lo.setP p (lessU q)).addH (Y.1.set p (some (19, [pgRow (lessU q)])) ++ [some (2, [boxE (some (p, rg))])]) q.data) mid ((Y.2.lo.setP p (lessU q)).addL (Y.1.length + 1) q.data))[Y.1.length]? = some (some (2, [boxE (some (p, rg))])) := by
     rw [wr_ne hnone2, addH_get (mid := mid) (by rw [hl1]; omega) hnone, List.getElem?_append_right (by simp)]
     simp
    have hWl : (wr ((Y.2.lo.setP p (lessU q)).addH (Y.1.set p (some (19, [pgRow (lessU q)])) ++ [some (2, [boxE (some (p, rg))])]) q.data) mid ((Y.2.lo.setP p (lessU q)).addL (Y.1.length + 1) q.data)).length = Y.1.length + 5 := by
     rw [wr_len, addH_len, hl1]
    have hc : copyX mid s a Y = (((wr ((Y.2.lo.setP p (lessU q)).addH (Y.1.set p (some (19, [pgRow (lessU q)])) ++ [some (2, [boxE (some (p, rg))])]) q.data) mid ((Y.2.lo.setP p (lessU q)).addL (Y.1.length + 1) q.data)).set Y.1.length (some (2, [boxE (some (Y.1.length + 2, rg))]))).set mp (some (0, (setK (a : Int) (Y.1.length + 2, rg) es1).map enRow)), ⟨(Y.2.lo.setP p (lessU q)).addL (Y.1.length + 1) q.data, setK s (mp, setK (a : Int) (Y.1.length + 2, rg) es1) Y.2.sps⟩) := by
     simp only [copyX, hg1, hgk, hq, hu, if_true]
    obtain ⟨⟨q2, hq2, hqd2, _⟩, _⟩ := addL_get (d := q.data) hst
    have hM2 := rb.st.mem
    have hS2 := rb.sp
    obtain ⟨hE2, _, _⟩ := rb.findE hg1 (a : Int)
    have hsid := (addL_lid (d := q.data) hst).2.1
    simp only [Lo.row] at hM2
    simp only at hS2 hE2
    rw [hsid] at hM2 hS2
    rw [hc] at hcp
    obtain ⟨r4, g4⟩ := hcp
    unfold layX at hnext
    rw [hc] at hnext
    generalize wr ((Y.2.lo.setP p (lessU q)).addH (Y.1.set p (some (19, [pgRow (lessU q)])) ++ [some (2, [boxE (some (p, rg))])]) q.data) mid ((Y.2.lo.setP p (lessU q)).addL (Y.1.length + 1) q.data) = W at *
    have hsid2 : (Y.2.lo.setP p (lessU q)).sid = Y.2.lo.sid := rfl
    rw [hsid2] at hM2 hS2
    generalize (Y.2.lo.setP p (lessU q)).addL (Y.1.length + 1) q.data = L2 at *
    have hgs : getK s (setK s (mp, setK (a : Int) (Y.1.length + 2, rg) es1) Y.2.sps) = some (mp, setK (a : Int) (Y.1.length + 2, rg) es1) := by rw [getK_setK, if_pos rfl, hg1]; rfl
    have hge : getK (a : Int) (setK (a : Int) (Y.1.length + 2, rg) es1) = some (Y.1.length + 2, rg) := by rw [getK_setK, if_pos rfl, hgk]; rfl
    have hput := put_key (g := enRow) (v := enV) (fun _ => rfl) (a : Int) (Y.1.length + 2, rg) es1 hnd
    rw [putK_set hnd (List.mem_map.2 ⟨_, getK_mem hgk, rfl⟩)] at hput
    replace hq2 : getK (Y.1.length + 2) L2.pgs = some q2 := hq2
    have hask := ask_eval r4 hq2
    have lk : Like L2 (L2.ask (Y.1.length + 2) q2) := Like.ask hq2
    obtain ⟨q', hq', hd', _⟩ := lk.dt _ q2 hq2
    have r5 := r4.like lk
    obtain ⟨hP3, hpd3⟩ := r5.st.pg hq'
    have hww := wwd (q := q') (k := t) (by omega) b
    have hnm : ¬ Y.1.length = mp := by omega
    have hmn : ¬ mp = Y.1.length := by omega
    have hnd2 : ¬ Y.1.length = mid := by omega
    have hns : ¬ Y.1.length = Y.2.lo.sid := by omega
    have hmpm : ¬ mp = mid := by rintro rfl; rw [hM] at hE; cases hE
    have hms : ¬ mp = Y.2.lo.sid := by
     have h2 := r1.ndm
     rw [List.nodup_cons] at h2
     intro e
     exact h2.1 (List.mem_map.2 ⟨_, getK_mem hg1, e⟩)
    have hB3 : (wr ((W.set Y.1.length (some (2, [boxE (some (Y.1.length + 2, rg))]))).set mp (some (0, (setK (a : Int) (Y.1.length + 2, rg) es1).map enRow))) mid (L2.ask (Y.1.length + 2) q2))[Y.1.length]? = some (some (2, [boxE (some (Y.1.length + 2, rg))])) := by
     rw [wr_ne (lk.none hnone2), List.getElem?_set_ne hmn, List.getElem?_set_self (by omega)]
    simp only [putX, hgs, hge, hq2, hq'] at hnext
    simp only [boxE] at hask hB3 hP3 hnext
    clear r4 r5 g4 hc
    generalize hZ : wr ((W.set Y.1.length (some (2, [[AVal.ptr (Y.1.length + 2) 19 0 0, AVal.v (.int .i64 rg)]]))).set mp (some (0, (setK (a : Int) (Y.1.length + 2, rg) es1).map enRow))) mid (L2.ask (Y.1.length + 2) q2) = V at *
    have hpl3 := (List.getElem?_eq_some_iff.1 hP3).1
    have gP3 := (List.getElem?_eq_some_iff.1 hP3).2
    replace hadd : addM [.ptr mid 5 0 0, dA q.data] _ = some (.ptr (Y.1.length + 2) 19 0 0, W) := hadd
    simp only [boxE, hlq] at hadd hbox
    have htk := bRow_16 hpd
    have hmk := allV_b q.data
    have hbl : (bRow q.data).length = 16 := by rw [bRow_len, hpd]
    have hnW : Y.1.length < W.length := by omega
    have gbox := (List.getElem?_eq_some_iff.1 hbox).2
    have gM2 := (List.getElem?_eq_some_iff.1 hM2).2
    have gS2 := (List.getElem?_eq_some_iff.1 hS2).2
    have gE2 := (List.getElem?_eq_some_iff.1 hE2).2
    have htk1 : List.take 16 (pgRow { q with users := w }) = bRow q.data := bRow_16 hpd
    simp only [enV] at hput
    simp only [dA] at hadd
    simp [Try.ntmps30, Try.results30, cSl, cn0, cn1, cI, cD, cR, cL, hidY, gidY, hidlY, hk, hyk, hyk2, hyl, hn, hw, hwk, hwa, hd1, hm1, hM, hS, hf, hg1, hE, hfk, hgk, hP, hpd, hu, hml, hsl, hel, hpl, gM, gS, gE, gP, List.getElem?_append, List.set_append, hw2, htk1, hmk, hbl, hadd, hbox, gbox, gM2, gS2, gE2, hM2, hS2, hE2, hput, hnm, hmn, hnd2, hns, hmpm, hms, hnW, hWl, hask, hB3, hP3, hpd3, hpl3, gP3, hww, ht16, ht17, ht18]
    refine ⟨(), trivial, ?_⟩
    simp only [hnext]
    exact Ent.env (by simp)
 ·subst hd0
  have h0 : shT A es addr 0 = 0 := by simp [shT]
  have hgr := gd.room
  have hle : (0 : Int) ≤ A.lo.fr + A.lo.sl - A.lo.pgs.length := by omega
  simp only [List.length_nil, h0, Int.natCast_zero, Int.ofNat_zero, hle, if_true, decide_true, Prod.mk.injEq] at hr hsh hroom
  obtain ⟨rfl, rfl⟩ := hr
  simp [Try.ntmps30, Try.results30, cSl, cn0, cn1, cI, cD, cR, cL, hsh, hroom]
  refine loop_rounds 1 ?_
  simp [Try.ntmps30, Try.results30, cSl, cn0, cn1, cI, cD, cR, cL, UnrK]
  exact Ent.refl _ _
 ·subst hd0
  have h0 : shT A es addr 0 = 0 := by simp [shT]
  have hgr := gd.room
  have hle : (0 : Int) ≤ A.lo.fr + A.lo.sl - A.lo.pgs.length := by omega
  simp only [List.length_nil, h0, Int.natCast_zero, Int.ofNat_zero, hle, if_true, decide_true, Prod.mk.injEq] at hr hsh hroom
  obtain ⟨rfl, rfl⟩ := hr
  simp [Try.ntmps30, Try.results30, cSl, cn0, cn1, cI, cD, cR, cL, hsh, hroom]
  refine loop_rounds 1 ?_
  simp [Try.ntmps30, Try.results30, cSl, cn0, cn1, cI, cD, cR, cL, UnrK]
  exact Ent.refl _ _
end
end
end Go.Proofs.Ytibpipgabcpaoaa
