/- Page tables in plain words. -/
import Derived.Test.YtdhpgdfjogklaaaTbE
namespace Go.Proofs.Ytdhpgdfjogklaaa
set_option linter.unusedSimpArgs false
open Go.AI
theorem bad_iff : ∀ {l : List Entry}, firstBad l = 0 ↔ ∀ e ∈ l, e.chk = 0
  | [] => by simp [firstBad]
  | e :: l => by
    simp only [firstBad]
    split
    · rename_i h; rw [bad_iff]; simp [h]
    · rename_i h; simp [h]
theorem node_iff {n : Nd} : nodeChk n = 0 ↔ (n.huge = true → n.ents.length = 1 ∧ hugeE (n.ents[0]?.getD noEnt) = true) ∧ (n.huge = false → n.ents.length = 0 ∨ n.ents.length = 8) ∧ (∀ e ∈ n.ents, e.chk = 0) ∧ (n.ents.all Entry.none = true → n.ents.length = 0) := by
  rw [← bad_iff]
  unfold nodeChk
  obtain ⟨h, L⟩ := n
  simp only
  by_cases h1 : firstBad L = 0
  · by_cases h2 : L.all Entry.none = true
    · cases h <;> cases h3 : hugeE (L[0]?.getD noEnt) <;> by_cases h4 : L.length = 1 <;> by_cases h5 : L.length = 0 <;> by_cases h6 : L.length = 8 <;> simp [h1, h2, h3, h4, h5, h6] <;> omega
    · cases h <;> cases h3 : hugeE (L[0]?.getD noEnt) <;> by_cases h4 : L.length = 1 <;> by_cases h5 : L.length = 0 <;> by_cases h6 : L.length = 8 <;> simp [h1, h2, h3, h4, h5, h6] <;> omega
  · split
    · simp [h1]
    · simp [h1]
theorem none_eq {e : Entry} (h1 : e.none = true) (h2 : e.chk = 0) : e = noEnt := by
  obtain ⟨h, s, a, r, u, d, c⟩ := e
  unfold Entry.chk Entry.none at *
  simp only at *
  split at h2
  · simp at h2
  · split at h2
    · simp at h2
    · rename_i h3
      cases h <;> cases s <;> cases u <;> cases d <;> cases c <;> simp_all [noEnt]
theorem noEnt_chk : noEnt.chk = 0 := rfl
theorem noEnt_none : noEnt.none = true := rfl
theorem huge_ok {e : Entry} (h : hugeE e = true) (hc : e.chk = 0) : e.here = true ∧ 0 ≤ e.at_ ∧ e.at_ ≤ 56 ∧ ∀ k : Nat, k < 8 → (addE e k).at_ = e.at_ + k ∧ (addE e k).chk = 0 ∧ (addE e k).none = false := by
  obtain ⟨h1, s, a, r, u, d, c⟩ := e
  simp only [hugeE, Bool.and_eq_true, beq_iff_eq] at h
  obtain ⟨rfl, h2⟩ := h
  unfold Entry.chk Entry.none at *
  simp only at hc ⊢
  split at hc
  · simp at hc
  · rename_i h3
    split at hc
    · simp at hc
    · rename_i h4
      have h5 : a % 8 = 0 := by rw [Int.tmod_eq_emod_of_nonneg (by omega)] at h2; exact h2
      refine ⟨trivial, by omega, by omega, fun k hk => ?_⟩
      have w : IntKind.i64.wrap (a + k) = a + k := w64 (by omega) (by omega)
      simp only [addE, w]
      refine ⟨trivial, ?_, rfl⟩
      rw [if_neg (by omega), if_neg (by simpa using h4)]
theorem at_chk {n : Nd} (h : nodeChk n = 0) {k : Nat} (hk : k < 8) : (atN n k).chk = 0 := by
  obtain ⟨h1, h2, h3, h4⟩ := node_iff.1 h
  obtain ⟨hg, L⟩ := n
  simp only at h1 h2 h3 h4
  unfold atN
  cases hg
  · simp only [Bool.false_eq_true, if_false]
    split
    · rfl
    · rename_i h0
      have : k < L.length := by rcases h2 rfl with h | h <;> omega
      rw [List.getElem?_eq_getElem this]
      exact h3 _ (List.getElem_mem this)
  · obtain ⟨h5, h6⟩ := h1 rfl
    simp only [if_true]
    have : 0 < L.length := by omega
    rw [List.getElem?_eq_getElem this] at h6 ⊢
    exact ((huge_ok h6 (h3 _ (List.getElem_mem this))).2.2.2 k hk).2.1
theorem at_nil {k : Nat} : atN ⟨false, []⟩ k = noEnt := rfl
theorem at_list {L : List Entry} (h : L.length = 8) {k : Nat} (hk : k < 8) : some (atN ⟨false, L⟩ k) = L[k]? := by
  unfold atN
  simp only [Bool.false_eq_true, if_false]
  rw [if_neg (by omega), List.getElem?_eq_getElem (by omega)]
  rfl
theorem sp_get {n : Nd} {j : Nat} (hj : j < 8) : (sp8 n)[j]? = some (atN n j) := by rw [spE_get hj, if_pos hj]
theorem setE_get {n : Nd} {r j : Nat} {x : Entry} (hj : j < 8) : (setE n r x)[j]? = some (if j = r then x else atN n j) := by
  unfold setE
  by_cases e : j = r
  · subst e; rw [List.getElem?_set_self (by rw [spE_len]; exact hj), if_pos rfl]
  · rw [List.getElem?_set_ne (fun h => e h.symm), sp_get hj, if_neg e]
theorem setE_len {n : Nd} {r : Nat} {x : Entry} : (setE n r x).length = 8 := by rw [setE, List.length_set, spE_len]
theorem mem8 {L : List Entry} (h : L.length = 8) {e : Entry} (he : e ∈ L) : ∃ j, j < 8 ∧ L[j]? = some e := by
  obtain ⟨j, hj⟩ := List.getElem?_of_mem he
  exact ⟨j, by have := (List.getElem?_eq_some_iff.1 hj).1; omega, hj⟩
theorem setN_ok {n : Nd} (h : nodeChk n = 0) {x : Entry} (hx : x.chk = 0) {r : Nat} : nodeChk (setN n r x) = 0 ∧ ∀ j, j < 8 → atN (setN n r x) j = if j = r then x else atN n j := by
  have hch : ∀ e ∈ setE n r x, e.chk = 0 := fun e he => by
    obtain ⟨j, hj, hg⟩ := mem8 setE_len he
    rw [setE_get hj] at hg
    cases hg
    split
    · exact hx
    · exact at_chk h hj
  unfold setN
  split
  · rename_i hall
    refine ⟨rfl, fun j hj => ?_⟩
    rw [at_nil]
    have hm := List.mem_of_getElem? (setE_get (n := n) (r := r) (x := x) hj)
    exact (none_eq (List.all_eq_true.1 hall _ hm) (hch _ hm)).symm
  · rename_i hall
    refine ⟨node_iff.2 ⟨fun h => (by cases h), fun _ => .inr setE_len, hch, fun h => absurd h hall⟩, fun j hj => ?_⟩
    have := at_list (setE_len (n := n) (r := r) (x := x)) hj
    rw [setE_get hj] at this
    exact Option.some.inj this
theorem ck_tb {t : Tb} : tbCheck t = 0 ↔ ∀ n ∈ t.l, nodeChk n = 0 := nodes_ok
theorem ck_set {t : Tb} (h : tbCheck t = 0) {k : Nat} {n : Nd} (hn : nodeChk n = 0) : tbCheck (t.set k n) = 0 := by
  rw [ck_tb] at h ⊢
  intro m hm
  rcases List.mem_or_eq_of_mem_set hm with hm | rfl
  · exact h m hm
  · exact hn
theorem walk_set {t : Tb} (h : tbCheck t = 0) {k : Nat} {n : Nd} (hn : nodeChk n = 0) {q : Nat} (hq : q < 64) : walkE (t.set k n) q = if q / 8 = k then atN n (q % 8) else walkE t q := by
  have h1 : pageE (t.set k n) q = 0 := by
    unfold pageE; rw [if_pos (ck_set h hn), if_neg (by omega)]
  have h2 : pageE t q = 0 := by
    unfold pageE; rw [if_pos h, if_neg (by omega)]
  unfold walkE
  rw [if_pos h1, if_pos h2, Int.toNat_natCast]
  by_cases e : q / 8 = k
  · rw [if_pos e]
    have : (t.set k n).l[q / 8]? = some n := by
      simp only [Tb.set, e]
      rw [List.getElem?_set_self (by rw [t.h]; omega)]
    rw [this]; rfl
  · rw [if_neg e]
    have : (t.set k n).l[q / 8]? = t.l[q / 8]? := by
      simp only [Tb.set]
      rw [List.getElem?_set_ne (fun x => e x.symm)]
    rw [this]
theorem page_eq {t u : Tb} (h : tbCheck t = 0) (h2 : tbCheck u = 0) (p : Int) : pageE t p = pageE u p := by unfold pageE; rw [h, h2]
theorem setErr {t : Tb} {p e : Int} {x : Entry} (h : tbSet t p x = .error e) : ¬ e = 0 := by
  unfold tbSet at h
  split at h
  · split at h
    · cases h
    · cases h; assumption
  · cases h; assumption
theorem set_spec {t a : Tb} {p : Int} {x : Entry} (h : tbSet t p x = .ok a) : tbCheck t = 0 ∧ tbCheck a = 0 ∧ x.chk = 0 ∧ (∃ q : Nat, p = q ∧ q < 64) ∧ ∀ q : Nat, q < 64 → walkE a q = if (q : Int) = p then x else walkE t q := by
  unfold tbSet at h
  split at h
  · rename_i h0
    split at h
    · rename_i h1
      obtain ⟨hck, q0, rfl, hq0⟩ := page_ok h0
      simp only [Except.ok.injEq] at h
      rw [Int.toNat_natCast] at h
      have hkl : q0 / 8 < t.l.length := by rw [t.h]; omega
      rw [List.getElem?_eq_getElem hkl, Option.getD_some] at h
      have hn := ck_tb.1 hck _ (List.getElem_mem hkl)
      obtain ⟨g1, g2⟩ := setN_ok hn h1 (r := q0 % 8)
      subst h
      refine ⟨hck, ck_set hck g1, h1, ⟨q0, rfl, hq0⟩, fun q hq => ?_⟩
      rw [walk_set hck g1 hq]
      by_cases e : q / 8 = q0 / 8
      · rw [if_pos e, g2 _ (by omega)]
        by_cases e2 : q % 8 = q0 % 8
        · rw [if_pos e2, if_pos (by omega)]
        · rw [if_neg e2, if_neg (by omega)]
          unfold walkE
          rw [if_pos (by unfold pageE; rw [if_pos hck, if_neg (by omega)]), Int.toNat_natCast, e, List.getElem?_eq_getElem hkl]
          rfl
      · rw [if_neg e, if_neg (by omega)]
    · cases h
  · cases h
theorem set_ok {t : Tb} (h : tbCheck t = 0) {q : Nat} (hq : q < 64) {x : Entry} (hx : x.chk = 0) : ∃ a, tbSet t q x = .ok a := by
  unfold tbSet
  rw [if_pos (by unfold pageE; rw [if_pos h, if_neg (by omega)]), if_pos hx]
  exact ⟨_, rfl⟩
/-- nothing mapped: nothing there -/
theorem empty_size {t : Tb} (h : tbCheck t = 0) (hw : ∀ q : Nat, q < 64 → walkE t q = noEnt) : tbSize t = (0, 0) := by
  have hall : ∀ n ∈ t.l, n.ents = [] := by
    intro n hn
    obtain ⟨k, hk, rfl⟩ := List.getElem_of_mem hn
    have hk8 : k < 8 := by rw [← t.h]; exact hk
    have hnc := ck_tb.1 h _ hn
    have hat : ∀ j, j < 8 → atN t.l[k] j = noEnt := fun j hj => by
      have := hw (k * 8 + j) (by omega)
      unfold walkE at this
      rw [if_pos (by unfold pageE; rw [if_pos h, if_neg (by omega)]), Int.toNat_natCast] at this
      have e1 : (k * 8 + j) / 8 = k := by omega
      have e2 : (k * 8 + j) % 8 = j := by omega
      rw [e1, e2, List.getElem?_eq_getElem hk] at this
      exact this
    obtain ⟨h1, h2, h3, h4⟩ := node_iff.1 hnc
    generalize t.l[k] = n at *
    obtain ⟨hg, L⟩ := n
    simp only at h1 h2 h3 h4 ⊢
    cases hg
    · apply List.length_eq_zero_iff.1
      apply h4
      rcases h2 rfl with h8 | h8
      · rw [List.length_eq_zero_iff.1 h8]; rfl
      · rw [List.all_eq_true]
        intro e he
        obtain ⟨j, hj, hg⟩ := mem8 h8 he
        have := at_list h8 hj
        rw [hat j hj, hg] at this
        cases this
        rfl
    · obtain ⟨h5, h6⟩ := h1 rfl
      have h0 : 0 < L.length := by omega
      rw [List.getElem?_eq_getElem h0] at h6
      have := (huge_ok h6 (h3 _ (List.getElem_mem h0))).1
      have h7 := hat 0 (by omega)
      unfold atN at h7
      simp only [if_true] at h7
      rw [List.getElem?_eq_getElem h0] at h7
      have h8 : (addE L[0] (0 : Nat)).here = noEnt.here := by rw [← h7]; rfl
      simp only [addE, noEnt] at h8
      simp only [Option.getD_some] at this
      rw [this] at h8; cases h8
  have hc : cntN t.l = 0 := by
    unfold cntN
    rw [List.countP_eq_zero]
    intro n hn
    simp [hall n hn]
  have hs : ∀ l : List Nd, (∀ n ∈ l, n.ents = []) → sumN l = 0 := fun l => by
    induction l with
    | nil => intro _; rfl
    | cons n l ih =>
      intro hl
      simp [sumN, hl n List.mem_cons_self, ih fun m hm => hl m (List.mem_cons_of_mem _ hm)]
  unfold tbSize
  rw [if_pos h, hc, hs _ hall]
  rfl
theorem joinErr {t : Tb} {k e : Int} (h : tbJoin t k = .error e) : ¬ e = 0 := by
  unfold tbJoin at h
  split at h
  · split at h
    · cases h; omega
    · split at h
      · cases h
      · cases h; omega
  · cases h; assumption
theorem sumN_set {l : List Nd} {k : Nat} {n : Nd} (hk : k < l.length) : sumN (l.set k n) + l[k].ents.length = sumN l + n.ents.length := by
  induction l generalizing k with
  | nil => simp at hk
  | cons m l ih =>
    cases k with
    | zero => simp [sumN]; omega
    | succ k =>
      have := ih (k := k) (by simpa using hk)
      simp [sumN] at this ⊢
      omega
/-- a node all of whose pages follow each other -/
theorem joins_at {n : Nd} (h : nodeChk n = 0) (hj : ∀ x, x < 8 → joins n x = true) : hugeE (atN n 0) = true ∧ ∀ j, j < 8 → atN n j = addE (atN n 0) j := by
  have h0 := hj 0 (by omega)
  simp only [joins, Bool.and_eq_true, decide_eq_true_eq] at h0
  refine ⟨h0.2, fun j hj8 => ?_⟩
  have h1 := hj j hj8
  simp only [joins, Bool.and_eq_true, decide_eq_true_eq] at h1
  have hc := at_chk h hj8
  have ha : 0 ≤ (atN n j).at_ ∧ (atN n j).at_ < 64 := by
    unfold Entry.chk at hc
    split at hc
    · simp at hc
    · omega
  have h2 := h1.1
  rw [← h2]
  unfold addE subE
  simp only
  rw [w64 (a := (atN n j).at_ - (j : Int)) (by omega) (by omega)]
  have : (atN n j).at_ - (j : Int) + (j : Int) = (atN n j).at_ := by omega
  rw [this, w64 (by omega) (by omega)]
theorem one_ok {e : Entry} (h : hugeE e = true) (hc : e.chk = 0) : nodeChk ⟨true, [e]⟩ = 0 := by
  refine node_iff.2 ⟨fun _ => ⟨rfl, h⟩, fun h => (by cases h), by simpa using hc, fun hn => ?_⟩
  have := (huge_ok h hc).1
  simp [Entry.none, this] at hn
theorem one_at {e : Entry} {k : Nat} : atN ⟨true, [e]⟩ k = addE e k := rfl
theorem addE_zero {e : Entry} (h : hugeE e = true) (hc : e.chk = 0) : addE e (0 : Nat) = e := by
  have := ((huge_ok h hc).2.2.2 0 (by omega)).1
  cases e
  simp only [addE] at this ⊢
  simp at this ⊢
  exact this
theorem join_spec {t a : Tb} {k : Int} (h : tbJoin t k = .ok a) : tbCheck t = 0 ∧ ∃ (q : Nat) (e : Entry), k = q ∧ q < 8 ∧ hugeE e = true ∧ e.chk = 0 ∧ a = t.set q ⟨true, [e]⟩ ∧ tbCheck a = 0 ∧ (∀ p : Nat, p < 64 → walkE a p = walkE t p) := by
  unfold tbJoin at h
  split at h
  · rename_i hck
    split at h
    · cases h
    · rename_i hr
      obtain ⟨q, rfl⟩ := Int.eq_ofNat_of_zero_le (show 0 ≤ k by omega)
      rw [Int.toNat_natCast] at h
      have hql : q < t.l.length := by rw [t.h]; omega
      rw [List.getElem?_eq_getElem hql, Option.getD_some] at h
      have hn := ck_tb.1 hck _ (List.getElem_mem hql)
      split at h
      · rename_i hall
        simp only [Except.ok.injEq] at h
        subst h
        simp only [List.all_eq_true, List.mem_range] at hall
        obtain ⟨g1, g2⟩ := joins_at hn hall
        have hc0 := at_chk hn (k := 0) (by omega)
        have hok := one_ok g1 hc0
        refine ⟨hck, q, _, rfl, by omega, g1, hc0, rfl, ck_set hck hok, fun p hp => ?_⟩
        rw [walk_set hck hok hp]
        split
        · rename_i e
          rw [one_at, ← g2 _ (by omega)]
          unfold walkE
          rw [if_pos (by unfold pageE; rw [if_pos hck, if_neg (by omega)]), Int.toNat_natCast, e, List.getElem?_eq_getElem hql]
          rfl
        · rfl
      · cases h
  · cases h
theorem sp_ok {e : Entry} (h : hugeE e = true) (hc : e.chk = 0) : nodeChk ⟨false, sp8 ⟨true, [e]⟩⟩ = 0 ∧ (∀ j, j < 8 → atN ⟨false, sp8 ⟨true, [e]⟩⟩ j = addE e j) ∧ ∀ x, x < 8 → joins ⟨false, sp8 ⟨true, [e]⟩⟩ x = true := by
  have hat : ∀ j, j < 8 → atN ⟨false, sp8 ⟨true, [e]⟩⟩ j = addE e j := fun j hj => by
    have := at_list (spE_len ⟨true, [e]⟩ 8) hj
    rw [sp_get hj] at this
    exact Option.some.inj this
  refine ⟨node_iff.2 ⟨fun h => (by cases h), fun _ => .inr (spE_len _ _), fun x hx => ?_, fun hn => ?_⟩, hat, fun x hx => ?_⟩
  · obtain ⟨j, hj, hg⟩ := mem8 (spE_len ⟨true, [e]⟩ 8) hx
    rw [sp_get hj] at hg
    cases hg
    exact ((huge_ok h hc).2.2.2 j hj).2.1
  · have h1 := List.mem_of_getElem? (sp_get (n := ⟨true, [e]⟩) (j := 0) (by omega))
    have h2 := List.all_eq_true.1 hn _ h1
    have h3 := ((huge_ok h hc).2.2.2 0 (by omega)).2.2
    rw [one_at] at h2
    rw [h3] at h2; cases h2
  · have h0 := addE_zero h hc
    simp only [joins, hat x hx, hat 0 (by omega), h0, h, Bool.and_true, decide_eq_true_eq]
    obtain ⟨h1, h2, h3, h4⟩ := huge_ok h hc
    have h5 := (h4 x hx).1
    unfold subE
    rw [h5]
    have : e.at_ + (x : Int) - (x : Int) = e.at_ := by omega
    rw [this, w64 (by omega) (by omega)]
    cases e; rfl
/-- joined, split, joined again -/
theorem huge_spec {t a : Tb} {k : Int} (h : tbJoin t k = .ok a) : tbCheck t = 0 ∧ tbCheck a = 0 ∧ ∃ b c, tbSplit a k = .ok b ∧ tbJoin b k = .ok c ∧ tbCheck b = 0 ∧ tbCheck c = 0 ∧ (∀ p : Int, walkE a p = walkE t p ∧ walkE b p = walkE t p ∧ walkE c p = walkE t p) ∧ (tbSize b).2 = (tbSize a).2 + 7 ∧ 0 ≤ (tbSize a).2 ∧ (tbSize a).2 ≤ 64 := by
  obtain ⟨hck, q, e, rfl, hq, he, hec, rfl, hca, hwa⟩ := join_spec h
  obtain ⟨s1, s2, s3⟩ := sp_ok he hec
  have hql : q < t.l.length := by rw [t.h]; exact hq
  have hag : (t.set q ⟨true, [e]⟩).l[q]? = some ⟨true, [e]⟩ := by simp only [Tb.set]; rw [List.getElem?_set_self hql]
  obtain ⟨b, hb⟩ : ∃ b, b = (t.set q ⟨true, [e]⟩).set q ⟨false, sp8 ⟨true, [e]⟩⟩ := ⟨_, rfl⟩
  have hsp : tbSplit (t.set q ⟨true, [e]⟩) q = .ok b := by
    unfold tbSplit
    rw [if_pos hca, if_neg (by omega), Int.toNat_natCast, hag]
    simp [hb]
  have hcb : tbCheck b = 0 := by rw [hb]; exact ck_set hca s1
  have hbg : b.l[q]? = some ⟨false, sp8 ⟨true, [e]⟩⟩ := by rw [hb]; simp only [Tb.set]; rw [List.getElem?_set_self (by rw [List.length_set]; exact hql)]
  obtain ⟨c, hc⟩ : ∃ c, c = b.set q ⟨true, [atN ⟨false, sp8 ⟨true, [e]⟩⟩ 0]⟩ := ⟨_, rfl⟩
  have hjo : tbJoin b q = .ok c := by
    unfold tbJoin
    rw [if_pos hcb, if_neg (by omega), Int.toNat_natCast, hbg, Option.getD_some, if_pos (by simp only [List.all_eq_true, List.mem_range]; exact s3), hc]
  obtain ⟨_, q', e', _, _, _, _, _, hcc, hwc⟩ := join_spec hjo
  have hwb : ∀ p : Nat, p < 64 → walkE b p = walkE t p := fun p hp => by
    rw [hb, walk_set hca s1 hp]
    split
    · rename_i e1
      rw [s2 _ (by omega), ← one_at, ← hwa p hp, walk_set hck (one_ok he hec) hp, if_pos e1]
    · exact hwa p hp
  refine ⟨hck, hca, b, c, hsp, hjo, hcb, hcc, fun p => ?_, ?_⟩
  · by_cases hp : pageE t p = 0
    · obtain ⟨_, m, rfl, hm⟩ := page_ok hp
      exact ⟨hwa m hm, hwb m hm, (hwc m hm).trans (hwb m hm)⟩
    · have h1 : walkE t p = noEnt := by unfold walkE; rw [if_neg hp]
      have h2 : walkE (t.set q ⟨true, [e]⟩) p = noEnt := by unfold walkE; rw [if_neg (by rw [page_eq hca hck]; exact hp)]
      have h3 : walkE b p = noEnt := by unfold walkE; rw [if_neg (by rw [page_eq hcb hck]; exact hp)]
      have h4 : walkE c p = noEnt := by unfold walkE; rw [if_neg (by rw [page_eq hcc hck]; exact hp)]
      rw [h1, h2, h3, h4]; exact ⟨rfl, rfl, rfl⟩
  · have e1 := sumN_set (l := (t.set q ⟨true, [e]⟩).l) (k := q) (n := ⟨false, sp8 ⟨true, [e]⟩⟩) (by rw [(t.set q ⟨true, [e]⟩).h]; exact hq)
    have e2 : (t.set q ⟨true, [e]⟩).l[q]'(by rw [(t.set q ⟨true, [e]⟩).h]; exact hq) = ⟨true, [e]⟩ := by
      have := List.getElem?_eq_some_iff.1 hag
      exact this.2
    rw [e2] at e1
    have e3 : (sp8 ⟨true, [e]⟩).length = 8 := spE_len _ _
    simp only [List.length_cons, List.length_nil, e3] at e1
    have e4 : sumN b.l + 1 = sumN (t.set q ⟨true, [e]⟩).l + 8 := by rw [hb]; simpa [Tb.set] using e1
    have hle : ∀ l : List Nd, (∀ n ∈ l, nodeChk n = 0) → sumN l ≤ 8 * l.length := fun l => by
      induction l with
      | nil => intro _; simp [sumN]
      | cons n l ih =>
        intro hl
        have := shape8 (hl n List.mem_cons_self)
        have := ih fun m hm => hl m (List.mem_cons_of_mem _ hm)
        simp only [sumN, List.length_cons]; omega
    have h64 := hle _ (ck_tb.1 hca)
    rw [(t.set q ⟨true, [e]⟩).h] at h64
    unfold tbSize
    rw [if_pos hcb, if_pos hca]
    simp only
    omega
end Go.Proofs.Ytdhpgdfjogklaaa
