/- Slabs in plain words: what is taken and given back. -/
import Derived.Test.YtfiindblaopaiaaSbE
namespace Go.Proofs.Ytfiindblaopaiaa
open Go.AI
def slotsB (b : Box) : List Place := b.used.map (⟨b.frame, ·⟩)
def slots (L : List Box) : List Place := L.flatMap slotsB
theorem mem_slots {L : List Box} {p : Place} : p ∈ slots L ↔ ∃ b ∈ L, b.frame = p.frame ∧ p.at_ ∈ b.used := by
  simp only [slots, slotsB, List.mem_flatMap, List.mem_map]
  constructor
  · rintro ⟨b, hb, a, ha, rfl⟩; exact ⟨b, hb, rfl, ha⟩
  · rintro ⟨b, hb, h1, h2⟩; exact ⟨b, hb, p.at_, h2, by rw [h1]⟩
theorem split_at {L : List Box} {i : Nat} (hi : i < L.length) : L = L.take i ++ L[i] :: L.drop (i + 1) := by rw [← List.drop_eq_getElem_cons hi, List.take_append_drop]
theorem set_split {L : List Box} {i : Nat} {b : Box} (hi : i < L.length) : L.set i b = L.take i ++ b :: L.drop (i + 1) := by
  rw [List.set_eq_take_append_cons_drop, if_pos hi]
theorem slots_app {L M : List Box} : slots (L ++ M) = slots L ++ slots M := by simp [slots]
theorem slots_cons {b : Box} {M : List Box} : slots (b :: M) = slotsB b ++ slots M := by simp [slots]
/-- one box changed: a place more -/
theorem slots_set {L : List Box} {i : Nat} {u : List Int} {x : Int} (hi : i < L.length) (hu : u.Perm (x :: L[i].used)) : (slots (L.set i ⟨L[i].frame, u⟩)).Perm (⟨L[i].frame, x⟩ :: slots L) := by
  have h2 : slots L = slots (L.take i) ++ (slotsB L[i] ++ slots (L.drop (i + 1))) := by
    conv => lhs; rw [split_at hi]
    rw [slots_app, slots_cons]
  rw [set_split hi, slots_app, slots_cons, h2]
  have h3 : (slotsB ⟨L[i].frame, u⟩).Perm (⟨L[i].frame, x⟩ :: slotsB L[i]) := by
    unfold slotsB
    exact hu.map _
  refine ((h3.append_right _).append_left _).trans ?_
  exact List.perm_middle
theorem slots_ins {L : List Box} {m : Nat} {f : Int} : (slots (L.take m ++ ⟨f, [0]⟩ :: L.drop m)).Perm (⟨f, 0⟩ :: slots L) := by
  have h2 : slots L = slots (L.take m) ++ slots (L.drop m) := by rw [← slots_app, List.take_append_drop]
  rw [slots_app, slots_cons, h2]
  exact List.perm_middle
theorem okL_frame {z : Nat} {L : List Box} (h : OkL z L) {i j : Nat} (hi : i < L.length) (hj : j < L.length) (e : L[i].frame = L[j].frame) : i = j := by
  have h1 := List.pairwise_iff_getElem.1 h.1
  rcases Nat.lt_trichotomy i j with hlt | heq | hgt
  · have := h1 i j (by simpa using hi) (by simpa using hj) hlt; simp at this; omega
  · exact heq
  · have := h1 j i (by simpa using hj) (by simpa using hi) hgt; simp at this; omega
theorem okL_set {z : Nat} {L : List Box} (h : OkL z L) {i : Nat} (hi : i < L.length) {u : List Int} (hu : u ≠ []) (hk : OkU z u) : OkL z (L.set i ⟨L[i].frame, u⟩) := by
  refine ⟨?_, fun b hb => ?_⟩
  · have : (L.set i ⟨L[i].frame, u⟩).map Box.frame = L.map Box.frame := by
      rw [List.map_set]
      apply List.ext_getElem?
      intro k
      by_cases e : k = i
      · subst e; rw [List.getElem?_set_self (by simpa using hi)]; simp [hi]
      · rw [List.getElem?_set_ne (fun h => e h.symm)]
    rw [this]; exact h.1
  · rcases List.mem_or_eq_of_mem_set hb with hb | rfl
    · exact h.2 b hb
    · obtain ⟨a, c, _, _⟩ := h.2 _ (List.getElem_mem hi)
      exact ⟨a, c, hu, hk⟩
theorem okL_sub {z : Nat} {L M : List Box} (h : OkL z L) (hs : M.Sublist L) : OkL z M := ⟨h.1.sublist (hs.map _), fun b hb => h.2 b (hs.subset hb)⟩
theorem okL_ins {z : Nat} (hz : 1 ≤ z) (hz2 : z ≤ 16) {L : List Box} (h : OkL z L) {f : Int} (h0 : 0 ≤ f) (h1 : f < 64) (hf : ∀ b ∈ L, b.frame ≠ f) : OkL z (L.take (insAt L f) ++ ⟨f, [0]⟩ :: L.drop (insAt L f)) := by
  obtain ⟨i1, i2, i3⟩ := ins_spec L f
  have hp := List.pairwise_iff_getElem.1 h.1
  refine ⟨?_, fun b hb => ?_⟩
  · rw [List.map_append, List.map_cons, List.pairwise_append]
    refine ⟨h.1.sublist ((List.take_sublist _ _).map _), ?_, ?_⟩
    · rw [List.pairwise_cons]
      refine ⟨fun a ha => ?_, h.1.sublist ((List.drop_sublist _ _).map _)⟩
      obtain ⟨b, hb, rfl⟩ := List.mem_map.1 ha
      obtain ⟨k, hk, rfl⟩ := List.getElem_of_mem hb
      simp only [List.length_drop] at hk
      rw [List.getElem_drop]
      show f < _
      have g1 := i3 (by omega)
      have g2 := hf _ (List.getElem_mem (show insAt L f < L.length by omega))
      by_cases e : k = 0
      · subst e
        have e2 : (L[insAt L f + 0]'(by omega)).frame = (L[insAt L f]'(by omega)).frame := rfl
        omega
      · have := hp (insAt L f) (insAt L f + k) (by simp; omega) (by simp; omega) (by omega)
        simp at this; omega
    · intro a ha c hc
      obtain ⟨b, hb, rfl⟩ := List.mem_map.1 ha
      obtain ⟨k, hk, rfl⟩ := List.getElem_of_mem hb
      simp only [List.length_take] at hk
      rw [List.getElem_take]
      obtain ⟨g0, g1⟩ := i2 k (by omega)
      rcases List.mem_cons.1 hc with rfl | hc
      · exact g1
      · obtain ⟨b', hb', rfl⟩ := List.mem_map.1 hc
        obtain ⟨m, hm, rfl⟩ := List.getElem_of_mem hb'
        simp only [List.length_drop] at hm
        rw [List.getElem_drop]
        have := hp k (insAt L f + m) (by simp; omega) (by simp; omega) (by omega)
        simpa using this
  · rcases List.mem_append.1 hb with hb | hb
    · exact h.2 b (List.mem_of_mem_take hb)
    · rcases List.mem_cons.1 hb with rfl | hb
      · refine ⟨h0, h1, by simp, by simp, fun a ha => ?_⟩
        simp at ha
        subst ha
        have : 0 < 16 / z := Nat.div_pos hz2 (by omega)
        simp; omega
      · exact h.2 b (List.mem_of_mem_drop hb)
theorem idxOf_ins {u : List Int} {x : Int} (hx : x ∉ u) : ∀ {k : Nat}, k ≤ u.length → idxOf x (u.take k ++ x :: u.drop k) = some k ∧ (u.take k ++ x :: u.drop k).eraseIdx k = u := by
  induction u with
  | nil => intro k hk; simp at hk; subst hk; simp [idxOf]
  | cons y u ih =>
    intro k hk
    cases k with
    | zero => simp [idxOf]
    | succ k =>
      simp only [List.mem_cons, not_or] at hx
      obtain ⟨h1, h2⟩ := ih hx.2 (k := k) (by simpa using hk)
      refine ⟨?_, ?_⟩
      · simp only [List.take_succ_cons, List.drop_succ_cons, List.cons_append, idxOf]
        rw [if_neg hx.1, h1]; rfl
      · simp only [List.take_succ_cons, List.drop_succ_cons, List.cons_append, List.eraseIdx_cons_succ]
        rw [h2]
theorem take_ins_erase {L : List Box} {b : Box} {m : Nat} (hm : m ≤ L.length) : (L.take m ++ b :: L.drop m).eraseIdx m = L := by
  rw [List.eraseIdx_append_of_length_le (by simp; omega)]
  have : m - (L.take m).length = 0 := by simp; omega
  rw [this]
  simp
theorem find_at {α : Type} {p : α → Bool} {L : List α} {i : Nat} (hi : i < L.length) (h1 : p L[i] = true) (h2 : ∀ j (hj : j < L.length), p L[j] = true → j = i) : L.findIdx? p = some i := by
  rw [List.findIdx?_eq_some_iff_getElem]
  refine ⟨hi, h1, fun j hj => ?_⟩
  intro h
  have := h2 j (by omega) h
  omega
theorem sl_okI {s : Slb} (h : slCheck s = 0) : ∃ z : Nat, s.size = z ∧ 1 ≤ z ∧ z ≤ 16 ∧ s.boxes.length ≤ 64 ∧ OkL z s.boxes := by
  obtain ⟨a, b, c, d⟩ := sl_ok.1 h
  exact ⟨s.size.toNat, by omega, by omega, by omega, c, d⟩
theorem rise64 {l : List Int} (h : l.Pairwise (· < ·)) (h1 : ∀ a ∈ l, 0 ≤ a ∧ a < 64) : l.length ≤ 64 := by
  have key : ∀ i (hi : i < l.length), (i : Int) ≤ l[i] := by
    intro i
    induction i with
    | zero => intro hi; exact (h1 _ (List.getElem_mem hi)).1
    | succ i ih =>
      intro hi
      have := ih (by omega)
      have := List.pairwise_iff_getElem.1 h i (i + 1) (by omega) hi (by omega)
      omega
  apply Classical.byContradiction
  intro hn
  have := key 64 (by omega)
  have := (h1 _ (List.getElem_mem (show 64 < l.length by omega))).2
  omega
theorem okL_64 {z : Nat} {L : List Box} (h : OkL z L) : L.length ≤ 64 := by
  have := rise64 h.1 (fun a ha => by
    obtain ⟨b, hb, rfl⟩ := List.mem_map.1 ha
    obtain ⟨h1, h2, _⟩ := h.2 b hb
    exact ⟨h1, h2⟩)
  simpa using this
theorem ck_of {z : Nat} {L : List Box} (z1 : 1 ≤ z) (z2 : z ≤ 16) (h : L.length ≤ 64) (hk : OkL z L) : slCheck ⟨(z : Int), L⟩ = 0 := sl_ok.2 ⟨by show (1 : Int) ≤ z; omega, by show (z : Int) ≤ 16; omega, h, by simpa using hk⟩
/-- WHAT TAKE DOES -/
theorem take_spec {s : Slb} (h : slCheck s = 0) {f : Int} {a : Slb} {p : Place} {fresh : Bool} (ht : slTake s f = .ok (a, p, fresh)) :
    slCheck a = 0 ∧ a.size = s.size ∧ (slots a.boxes).Perm (p :: slots s.boxes) ∧ p ∉ slots s.boxes ∧ slGive a p = .ok (s, fresh) ∧ a.boxes.length = s.boxes.length + (if fresh then 1 else 0) ∧ (fresh = true ↔ ∀ b ∈ s.boxes, hole s.size.toNat b.used = none) := by
  obtain ⟨z, hz, z1, z2, hL, hK⟩ := sl_okI h
  obtain ⟨sz, L⟩ := s
  simp only at hz hL hK
  subst hz
  unfold slTake at ht
  rw [if_pos h] at ht
  simp only [Int.toNat_natCast] at ht ⊢
  cases hf : L.findIdx? (holeB z) with
  | some i =>
    rw [hf] at ht
    rw [List.findIdx?_eq_some_iff_getElem] at hf
    obtain ⟨hi, hh, _⟩ := hf
    obtain ⟨k, hk⟩ := Option.isSome_iff_exists.1 hh
    simp only [List.getElem?_eq_getElem hi, Option.getD_some, hk, Except.ok.injEq, Prod.mk.injEq] at ht
    obtain ⟨rfl, rfl, rfl⟩ := ht
    obtain ⟨k1, k2, k3⟩ := hole_some hk
    obtain ⟨b1, b2, b3, b4⟩ := hK.2 _ (List.getElem_mem hi)
    obtain ⟨c1, c2⟩ := okU_ins z1 b4 hk
    generalize hx : ((k * z : Nat) : Int) = x at *
    obtain ⟨u', hu'⟩ : ∃ u', u' = L[i].used.take k ++ x :: L[i].used.drop k := ⟨_, rfl⟩
    rw [← hu'] at c2 ⊢
    have hne : u' ≠ [] := by rw [hu']; simp
    have hperm : u'.Perm (x :: L[i].used) := by
      rw [hu']
      refine List.perm_middle.trans ?_
      rw [List.take_append_drop]
    have hok := okL_set hK hi hne c2
    have hck : slCheck ⟨(z : Int), L.set i ⟨L[i].frame, u'⟩⟩ = 0 := ck_of z1 z2 (by simpa using hL) hok
    have hi' : i < (L.set i ⟨L[i].frame, u'⟩).length := by simpa using hi
    have hgi : (L.set i ⟨L[i].frame, u'⟩)[i]'hi' = ⟨L[i].frame, u'⟩ := by simp
    refine ⟨hck, rfl, slots_set hi hperm, ?_, ?_, by simp, ?_⟩
    · rw [mem_slots]
      rintro ⟨b, hb, h1, h2⟩
      obtain ⟨j, hj, rfl⟩ := List.getElem_of_mem hb
      have := okL_frame hK hj hi h1
      subst this
      exact k2 h2
    · unfold slGive
      rw [if_pos hck]
      have hfind : (L.set i ⟨L[i].frame, u'⟩).findIdx? (hasB ⟨L[i].frame, x⟩) = some i := by
        refine find_at hi' ?_ fun j hj hh => ?_
        · rw [hgi]
          simp only [hasB, beq_self_eq_true, Bool.true_and, decide_eq_true_eq]
          rw [hu']; simp
        · simp only [hasB, Bool.and_eq_true, beq_iff_eq] at hh
          exact okL_frame hok hj hi' (by rw [hgi]; exact hh.1)
      simp only []
      rw [hfind]
      simp only [List.getElem?_eq_getElem hi', Option.getD_some, hgi]
      have hl1 : 1 < u'.length := by
        have := hperm.length_eq
        have : 0 < L[i].used.length := List.length_pos_iff.2 b3
        simp at *; omega
      rw [if_pos hl1]
      obtain ⟨e1, e2⟩ := idxOf_ins k2 c1
      rw [hu', e1, Option.getD_some, e2]
      congr 4
      rw [List.set_set]
      exact List.set_getElem_self hi
    · constructor
      · intro h; cases h
      · intro h
        have := h _ (List.getElem_mem hi)
        rw [hk] at this; cases this
  | none =>
    rw [hf] at ht
    rw [List.findIdx?_eq_none_iff] at hf
    simp only at ht
    split at ht
    · cases ht
    · rename_i h1
      split at ht
      · cases ht
      · rename_i h2
        simp only [Except.ok.injEq, Prod.mk.injEq] at ht
        obtain ⟨rfl, rfl, rfl⟩ := ht
        have hfr : ∀ b ∈ L, b.frame ≠ f := fun b hb e => h2 (List.any_eq_true.2 ⟨b, hb, by simp [e]⟩)
        have hok := okL_ins z1 z2 hK (f := f) (by omega) (by omega) hfr
        obtain ⟨i1, i2, i3⟩ := ins_spec L f
        generalize insAt L f = m at *
        have hck : slCheck ⟨(z : Int), L.take m ++ ⟨f, [0]⟩ :: L.drop m⟩ = 0 := ck_of z1 z2 (okL_64 hok) hok
        have hml : m < (L.take m ++ ⟨f, [0]⟩ :: L.drop m).length := by simp; omega
        have hgm : (L.take m ++ (⟨f, [0]⟩ : Box) :: L.drop m)[m]'hml = ⟨f, [0]⟩ := by
          rw [List.getElem_append_right (by simp; omega)]
          simp [Nat.min_eq_left i1]
        refine ⟨hck, rfl, slots_ins, ?_, ?_, by simp; omega, ?_⟩
        · rw [mem_slots]
          rintro ⟨b, hb, h3, _⟩
          exact hfr b hb h3
        · unfold slGive
          rw [if_pos hck]
          have hfind : (L.take m ++ (⟨f, [0]⟩ : Box) :: L.drop m).findIdx? (hasB ⟨f, 0⟩) = some m := by
            refine find_at hml ?_ fun j hj hh => ?_
            · rw [hgm]; simp [hasB]
            · simp only [hasB, Bool.and_eq_true, beq_iff_eq] at hh
              exact okL_frame hok hj hml (by rw [hgm]; exact hh.1)
          simp only []
          rw [hfind]
          simp only [List.getElem?_eq_getElem hml, Option.getD_some, hgm]
          rw [if_neg (by simp), take_ins_erase i1]
        · constructor
          · intro _ b hb
            have := hf b hb
            simpa [holeB] using this
          · intro _; rfl
/-- WHAT GIVE DOES -/
theorem give_spec {s : Slb} (h : slCheck s = 0) {p : Place} (hp : p ∈ slots s.boxes) : ∃ b gone, slGive s p = .ok (b, gone) ∧ slCheck b = 0 ∧ b.size = s.size ∧ (slots s.boxes).Perm (p :: slots b.boxes) := by
  obtain ⟨z, hz, z1, z2, hL, hK⟩ := sl_okI h
  obtain ⟨sz, L⟩ := s
  simp only at hz hL hK hp
  subst hz
  rw [mem_slots] at hp
  obtain ⟨b, hb, h1, h2⟩ := hp
  obtain ⟨i, hi, rfl⟩ := List.getElem_of_mem hb
  have hfind : L.findIdx? (hasB p) = some i := find_at hi (by simp [hasB, h1, h2]) fun j hj hh => by
    simp only [hasB, Bool.and_eq_true, beq_iff_eq] at hh
    exact okL_frame hK hj hi (by rw [hh.1, h1])
  obtain ⟨m, _, hm⟩ := idxI_some h2
  obtain ⟨hm1, hm2⟩ := idxOf_get hm
  obtain ⟨b1, b2, b3, b4⟩ := hK.2 _ (List.getElem_mem hi)
  have hpu : L[i].used.Perm (p.at_ :: L[i].used.eraseIdx m) := by
    have e : L[i].used = L[i].used.take m ++ L[i].used[m] :: L[i].used.drop (m + 1) := by rw [← List.drop_eq_getElem_cons hm1, List.take_append_drop]
    rw [List.eraseIdx_eq_take_drop_succ]
    refine (List.Perm.of_eq e).trans ?_
    rw [hm2]
    exact List.perm_middle
  unfold slGive
  rw [if_pos h]
  simp only []
  rw [hfind]
  simp only [List.getElem?_eq_getElem hi, Option.getD_some, hm]
  by_cases hl : 1 < L[i].used.length
  · rw [if_pos hl]
    have hne : L[i].used.eraseIdx m ≠ [] := by
      intro e
      have := congrArg List.length e
      rw [List.length_eraseIdx, if_pos hm1] at this
      simp at this; omega
    have hu : OkU z (L[i].used.eraseIdx m) := ⟨b4.1.sublist (List.eraseIdx_sublist ..), fun a ha => b4.2 a (List.mem_of_mem_eraseIdx ha)⟩
    have hok := okL_set hK hi hne hu
    refine ⟨_, _, rfl, ck_of z1 z2 (by simpa using hL) hok, rfl, ?_⟩
    have hi' : i < (L.set i ⟨L[i].frame, L[i].used.eraseIdx m⟩).length := by simpa using hi
    have hgi : (L.set i ⟨L[i].frame, L[i].used.eraseIdx m⟩)[i]'hi' = ⟨L[i].frame, L[i].used.eraseIdx m⟩ := by simp
    have := slots_set (L := L.set i ⟨L[i].frame, L[i].used.eraseIdx m⟩) (x := p.at_) (u := L[i].used) hi' (by rw [hgi]; exact hpu)
    rw [hgi, List.set_set] at this
    simp only at this
    have e : L.set i ⟨L[i].frame, L[i].used⟩ = L := List.set_getElem_self hi
    rw [e] at this
    have e2 : (⟨L[i].frame, p.at_⟩ : Place) = p := by rw [h1]
    rwa [e2] at this
  · rw [if_neg hl]
    refine ⟨_, _, rfl, ck_of z1 z2 ?_ (okL_sub hK (List.eraseIdx_sublist ..)), rfl, ?_⟩
    · simp only [List.length_eraseIdx]; split <;> omega
    · have hone : L[i].used = [p.at_] := by
        have : L[i].used.length = 1 := by omega
        obtain ⟨x, hx⟩ := List.length_eq_one_iff.1 this
        rw [hx] at h2 ⊢
        simp at h2
        rw [h2]
      have h3 : slots L = slots (L.take i) ++ (slotsB L[i] ++ slots (L.drop (i + 1))) := by
        conv => lhs; rw [split_at hi]
        rw [slots_app, slots_cons]
      have h4 : slots (L.eraseIdx i) = slots (L.take i) ++ slots (L.drop (i + 1)) := by rw [List.eraseIdx_eq_take_drop_succ, slots_app]
      simp only [] at *
      rw [h3, h4]
      have h5 : slotsB L[i] = [p] := by
        unfold slotsB
        rw [hone]
        simp [h1]
      rw [h5]
      exact List.perm_middle
/-- places apart -/
theorem apart_slots {s : Slb} (h : slCheck s = 0) {p q : Place} (hp : p ∈ slots s.boxes) (hq : q ∈ slots s.boxes) (hne : q ≠ p) : ¬ (q.frame = p.frame ∧ q.at_ < p.at_ + s.size ∧ p.at_ < q.at_ + s.size) := by
  obtain ⟨z, hz, z1, z2, hL, hK⟩ := sl_okI h
  rw [mem_slots] at hp hq
  obtain ⟨b, hb, h1, h2⟩ := hp
  obtain ⟨c, hc, h3, h4⟩ := hq
  obtain ⟨p0, p1, _⟩ := (hK.2 b hb).2.2.2.2 _ h2
  obtain ⟨q0, q1, _⟩ := (hK.2 c hc).2.2.2.2 _ h4
  rintro ⟨e, h5, h6⟩
  apply hne
  obtain ⟨x, hx⟩ := Nat.dvd_of_mod_eq_zero p1
  obtain ⟨y, hy⟩ := Nat.dvd_of_mod_eq_zero q1
  have e1 : q.at_.toNat < p.at_.toNat + z := by omega
  have e2 : p.at_.toNat < q.at_.toNat + z := by omega
  rw [hx, hy] at e1 e2
  have e3 : z * y < z * (x + 1) := by rw [Nat.mul_succ]; omega
  have e4 : z * x < z * (y + 1) := by rw [Nat.mul_succ]; omega
  have e5 := Nat.lt_of_mul_lt_mul_left e3
  have e6 := Nat.lt_of_mul_lt_mul_left e4
  have : x = y := by omega
  subst this
  have e7 : q.at_ = p.at_ := by omega
  cases p; cases q
  simp only at e e7
  subst e; subst e7
  rfl
theorem fit_slot {s : Slb} (h : slCheck s = 0) {p : Place} (hp : p ∈ slots s.boxes) : 0 ≤ p.at_ ∧ p.at_ + s.size ≤ 16 := by
  obtain ⟨z, hz, z1, z2, hL, hK⟩ := sl_okI h
  rw [mem_slots] at hp
  obtain ⟨b, hb, h1, h2⟩ := hp
  obtain ⟨p0, p1, p2⟩ := (hK.2 b hb).2.2.2.2 _ h2
  refine ⟨p0, ?_⟩
  obtain ⟨x, hx⟩ := Nat.dvd_of_mod_eq_zero p1
  rw [hx, Nat.mul_div_cancel_left _ (by omega)] at p2
  have h3 : z * (x + 1) ≤ z * (16 / z) := Nat.mul_le_mul_left _ (by omega)
  have h4 : z * (16 / z) ≤ 16 := Nat.mul_div_le 16 z
  rw [Nat.mul_succ] at h3
  omega
/-- how much room there is -/
theorem okU_len {z : Nat} (hz : 1 ≤ z) {u : List Int} (h : OkU z u) : u.length ≤ 16 / z ∧ (u.length = 16 / z ↔ hole z u = none) := by
  have hle : ∀ {u : List Int}, OkU z u → u.length ≤ 16 / z := fun {u} h => by
    cases hl : u.length with
    | zero => exact Nat.zero_le _
    | succ n =>
      have h1 := okU_ge hz h n (by omega)
      obtain ⟨a, b, c⟩ := h.2 _ (List.getElem_mem (show n < u.length by omega))
      have h2 : n * z ≤ u[n].toNat := by omega
      have h3 : n * z / z ≤ u[n].toNat / z := Nat.div_le_div_right h2
      rw [Nat.mul_div_cancel _ (by omega)] at h3
      omega
  refine ⟨hle h, ?_⟩
  cases hh : hole z u with
  | none =>
    have := (okU_eq hz h (k := 16 / z) (fun j hj => hole_none hh j hj)).1
    have := hle h
    simp; omega
  | some k =>
    obtain ⟨h1, h2⟩ := okU_ins hz h hh
    have := hle h2
    simp at this
    simp; omega
end Go.Proofs.Ytfiindblaopaiaa
