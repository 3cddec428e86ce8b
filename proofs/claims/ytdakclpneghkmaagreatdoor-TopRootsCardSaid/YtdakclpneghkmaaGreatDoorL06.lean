/- Regions, in whatever order: the theorem. -/
import Derived.Test.YtdakclpneghkmaaGreatDoorL05
namespace Go.AI
set_option linter.unusedSectionVars false
variable [Sym]
set_option linter.unusedSimpArgs false
set_option linter.unusedVariables false
open Go.RowKit
def EqE (ρ ρ' : Env) : Prop := ∀ t, look ρ t = look ρ' t
def EqS (s s' : Env × Heap) : Prop := EqE s.1 s'.1 ∧ s.2 = s'.2
theorem EqE.ev {ρ ρ' : Env} (h : EqE ρ ρ') : ev ρ = ev ρ' := by
 funext x
 cases x <;> simp [AI.ev, h _]
theorem EqE.put {ρ ρ' : Env} (h : EqE ρ ρ') (d : Option Tmp) (a : AVal) : EqE (put ρ d a) (put ρ' d a) := by
  cases d with
  | none => exact h
  | some t => intro s; simp only [AI.put, look]; split
              · rfl
              · exact h s
theorem look_put (ρ : Env) (d : Option Tmp) (a : AVal) (t : Nat) : look (put ρ d a) t = if d = some t then a else look ρ t := by
 cases d with
 | none => simp [put]
 | some s =>
  simp only [put, look, Option.some.injEq]
  by_cases h : t = s
  ·rw [if_pos h, if_pos h.symm]
  ·rw [if_neg h, if_neg (fun e => h e.symm)]
section
variable {P : Program} {C : Orc} {nt : Nat} {ops : Array Oper}
theorem gsel_put {g wr : Bool} {x : Option (AVal × Heap)} {ρ : Env} {H : Heap} {d : Option Tmp} {r : Env × Heap} (h : gsel g wr x ρ H d = some r) :
  ∃ a H', r = (put ρ d a, H') ∧ (wr = false → H' = H) ∧ ∀ ρ2, gsel g wr x ρ2 H d = some (put ρ2 d a, H') := by
 unfold gsel at h ⊢
 split at h
 ·rename_i hw
  have hwf : ∀ {p : Prop}, wr = false → p := fun e => by rw [hw] at e; cases e
  split at h
  ·rename_i hg
   simp only [Option.map_eq_some_iff] at h
   obtain ⟨y, rfl, rfl⟩ := h
   exact ⟨_, _, rfl, hwf, fun ρ2 => by simp [hg, hw]⟩
  ·rename_i hg
   simp only [Option.some.injEq] at h; subst h
   exact ⟨_, _, rfl, hwf, fun ρ2 => by simp [hg, hw]⟩
 ·rename_i hw
  split at h
  ·cases h
  ·rename_i hg
   simp only [Option.some.injEq] at h; subst h
   exact ⟨_, _, rfl, fun _ => rfl, fun ρ2 => by rw [if_neg hw, if_neg hg]⟩
theorem step1_eq {o : Oper} {s s' : Env × Heap} (h : EqS s s') {r : Env × Heap} (hr : step1 P C nt ops o s = some r) : ∃ r', step1 P C nt ops o s' = some r' ∧ EqS r r' := by
 obtain ⟨ρ, H⟩ := s
 obtain ⟨ρ', H'⟩ := s'
 obtain ⟨h1, h2⟩ := h
 simp only at h1 h2
 subst h2
 unfold step1 at hr ⊢
 simp only [← h1.ev]
 split at hr
 ·rename_i hd
  rw [if_pos hd]
  split at hr
  ·simp only [Option.map_eq_some_iff] at hr
   obtain ⟨x, hx, rfl⟩ := hr
   simp only [hx, Option.map_some]
   exact ⟨_, rfl, h1.put _ _, rfl⟩
  ·split at hr
   ·rename_i g hg
    simp only [hg]
    obtain ⟨x, H2, rfl, _, hp⟩ := gsel_put hr
    exact ⟨_, hp ρ', h1.put _ _, rfl⟩
   ·cases hr
 ·cases hr
theorem runL_eq (l : List Oper) : ∀ {s s' : Env × Heap}, EqS s s' → ∀ {r : Env × Heap}, runL P C nt ops l s = some r → ∃ r', runL P C nt ops l s' = some r' ∧ EqS r r' := by
 induction l with
 | nil => intro s s' h r hr; simp only [runL, Option.some.injEq] at hr; subst hr; exact ⟨s', rfl, h⟩
 | cons o l ih =>
  intro s s' h r hr
  simp only [runL] at hr ⊢
  split at hr
  ·rename_i x hx
   obtain ⟨y, hy, he⟩ := step1_eq h hx
   rw [hy]
   exact ih he hr
  ·cases hr
theorem mem_reads {o : Oper} {t : Tmp} (h : Operand.tmp t ∈ o.op.operands) : t ∈ readsOf ops o := by
 unfold readsOf tmpsOf
 refine List.mem_append.2 (.inl (List.mem_filterMap.2 ⟨.tmp t, Array.mem_toList_iff.2 h, rfl⟩))
theorem step1_frame {o : Oper} {ρ : Env} {H : Heap} {r : Env × Heap} (hr : step1 P C nt ops o (ρ, H) = some r) (ρ2 : Env) (H2 : Heap) (h1 : ∀ t, t ∈ readsOf ops o → look ρ2 t = look ρ t) (h2 : hk C.inl o = 0 ∨ H2 = H) :
  ∃ a H', r = (put ρ o.dst a, H') ∧ (hk C.inl o ≠ 2 → H' = H) ∧ step1 P C nt ops o (ρ2, H2) = some (put ρ2 o.dst a, if hk C.inl o = 2 then H' else H2) := by
 have hcong : ∀ g H, astep P C g (ev ρ2) o H = astep P C g (ev ρ) o H := fun g H => astep_congr (fun y hy => by
  cases y with
  | tmp t => exact h1 t (mem_reads hy)
  | _ => rfl)
 unfold step1 at hr ⊢
 split at hr
 ·rename_i hd
  rw [if_pos hd]
  have hg : guardOk ops (ev ρ2) o = guardOk ops (ev ρ) o := by
   unfold guardOk
   split
   ·rfl
   ·rename_i j want hgd
    split
    ·rename_i d hdd
     have : look ρ2 d = look ρ d := h1 d (by unfold readsOf; simp [hgd, hdd])
     simp only [ev, this]
    ·rfl
  split at hr
  ·rename_i hgn
   simp only [Option.map_eq_some_iff] at hr
   obtain ⟨⟨x, H'⟩, hx, rfl⟩ := hr
   refine ⟨x, H', rfl, fun hh => astep_read (fun _ => rfl) hh hx, ?_⟩
   by_cases h0 : hk C.inl o = 0
   ·have hx2 := astep_none h0 ((hcong _ _).trans hx) H2
    rw [hx2, if_neg (by rw [h0]; decide)]
    rfl
   ·rcases h2 with h2 | h2
    ·exact absurd h2 h0
    ·subst h2
     rw [hcong, hx]
     by_cases h3 : hk C.inl o = 2
     ·rw [if_pos h3]; rfl
     ·have := astep_read (fun _ => rfl) h3 hx
      rw [if_neg h3, this]; rfl
  ·split at hr
   ·rename_i g hg'
    simp only at hg'
    rw [hg'] at hg
    simp only [hg, hcong]
    obtain ⟨x, H', rfl, hw, hp⟩ := gsel_put hr
    refine ⟨x, H', rfl, fun hh => hw (by simpa using hh), ?_⟩
    by_cases h0 : hk C.inl o = 0
    ·rw [if_neg (by rw [h0]; decide)]
     have hw0 : (hk C.inl o == 2) = false := by rw [h0]; rfl
     rw [hw0] at hr hp ⊢
     have hp2 := hp ρ2
     have hfst : (astep P C g (ev ρ) o H2).map Prod.fst = (astep P C g (ev ρ) o H).map Prod.fst := by
      cases hc : astep P C g (ev ρ) o H with
      | none => rw [astep_fail h0 hc H2]
      | some y => rw [astep_none (av := y.1) (H' := y.2) h0 hc H2]; rfl
     have hnn : (astep P C g (ev ρ) o H2).isNone = (astep P C g (ev ρ) o H).isNone := by
      cases hc : astep P C g (ev ρ) o H with
      | none => rw [astep_fail h0 hc H2]
      | some y => rw [astep_none (av := y.1) (H' := y.2) h0 hc H2]; rfl
     simp only [gsel, Bool.false_eq_true, if_false, hfst, hnn] at hp2 ⊢
     split at hp2
     ·cases hp2
     ·rename_i hno
      rw [if_neg hno]
      simp only [Option.some.injEq, Prod.mk.injEq] at hp2
      rw [hp2.1]
    ·rcases h2 with h2 | h2
     ·exact absurd h2 h0
     ·subst h2
      rw [hp ρ2]
      by_cases h3 : hk C.inl o = 2
      ·rw [if_pos h3]
      ·rw [if_neg h3, hw (by simpa using h3)]
   ·cases hr
 ·cases hr
theorem clash_no {o p : Oper} (h : clash ops o p = false) {t : Tmp} (ht : o.dst = some t) : t ∉ readsOf ops p ∧ p.dst ≠ some t := by
 unfold clash at h
 simp only [ht, Bool.or_eq_false_iff] at h
 constructor
 ·intro hm
  have := h.1
  simp [List.contains_eq_mem, hm] at this
 ·intro hm
  have := h.2
  simp [hm] at this
theorem swap {o p : Oper} (hi : indep C.inl ops o p = true) {s s1 s2 : Env × Heap} (h1 : step1 P C nt ops o s = some s1) (h2 : step1 P C nt ops p s1 = some s2) :
  ∃ t1 t2, step1 P C nt ops p s = some t1 ∧ step1 P C nt ops o t1 = some t2 ∧ EqS s2 t2 := by
 obtain ⟨ρ, H⟩ := s
 simp only [indep, Bool.and_eq_true, Bool.not_eq_true', Bool.and_eq_false_iff] at hi
 obtain ⟨⟨⟨c1, c2⟩, c3⟩, c4⟩ := hi
 have c3' : hk C.inl o = 2 → hk C.inl p = 0 := by
  intro h
  rcases c3 with c3 | c3
  ·simp [h] at c3
  ·simpa using c3
 have c4' : hk C.inl p = 2 → hk C.inl o = 0 := by
  intro h
  rcases c4 with c4 | c4
  ·simp [h] at c4
  ·simpa using c4
 obtain ⟨a, H1, rfl, ho, _⟩ := step1_frame h1 ρ H (fun _ _ => rfl) (.inr rfl)
 -- p, seen from the start
 have hread1 : ∀ t, t ∈ readsOf ops p → look ρ t = look (put ρ o.dst a) t := by
  intro t ht
  rw [look_put]
  split
  ·rename_i hd
   exact absurd ht (clash_no c1 hd).1
  ·rfl
 have hH1 : hk C.inl p = 0 ∨ H = H1 := by
  by_cases h : hk C.inl o = 2
  ·exact .inl (c3' h)
  ·exact .inr (ho h).symm
 obtain ⟨b, H2, rfl, hp, hp2⟩ := step1_frame h2 ρ H hread1 hH1
 -- o, behind it
 have hread2 : ∀ t, t ∈ readsOf ops o → look (put ρ p.dst b) t = look ρ t := by
  intro t ht
  rw [look_put]
  split
  ·rename_i hd
   exact absurd ht (clash_no c2 hd).1
  ·rfl
 obtain ⟨a', H3, he, ho2, ho3⟩ := step1_frame h1 (put ρ p.dst b) (if hk C.inl p = 2 then H2 else H) hread2 (by
  by_cases h : hk C.inl p = 2
  ·exact .inl (c4' h)
  ·exact .inr (if_neg h))
 simp only [Prod.mk.injEq] at he
 obtain ⟨he1, rfl⟩ := he
 refine ⟨_, _, hp2, ho3, ?_, ?_⟩
 ·intro t
  simp only
  rw [look_put, look_put, look_put, look_put]
  have haa : ∀ d, o.dst = some d → a = a' := by
   intro d hd
   simp only [put, hd, List.cons.injEq, Prod.mk.injEq, true_and, and_true] at he1
   exact he1
  by_cases q1 : p.dst = some t <;> by_cases q2 : o.dst = some t
  ·exact absurd q1 (clash_no c1 q2).2
  ·simp [q1, q2]
  ·simp [q1, q2, haa t q2]
  ·simp [q1, q2]
 ·simp only
  by_cases q1 : hk C.inl o = 2
  ·have q2 := c3' q1
   have q3 : hk C.inl p ≠ 2 := by rw [q2]; decide
   rw [if_pos q1, hp q3]
  ·rw [if_neg q1]
   by_cases q2 : hk C.inl p = 2
   ·rw [if_pos q2]
   ·rw [if_neg q2, hp q2, ho q1]
theorem front {o : Oper} : ∀ (l1 l2 : List Oper) {s r : Env × Heap}, (∀ p ∈ l1, indep C.inl ops p o = true) → runL P C nt ops (l1 ++ o :: l2) s = some r →
  ∃ s1 r', step1 P C nt ops o s = some s1 ∧ runL P C nt ops (l1 ++ l2) s1 = some r' ∧ EqS r r'
 | [], l2, s, r, _, h => by
  simp only [List.nil_append, runL] at h ⊢
  split at h
  ·rename_i x hx
   exact ⟨x, r, hx, h, fun _ => rfl, rfl⟩
  ·cases h
 | p :: l1, l2, s, r, hi, h => by
  simp only [List.cons_append, runL] at h
  split at h
  ·rename_i x hx
   obtain ⟨s1, r1, h1, h2, h3⟩ := front l1 l2 (fun q hq => hi q (by simp [hq])) h
   obtain ⟨t1, t2, g1, g2, g3⟩ := swap (hi p (by simp)) hx h1
   obtain ⟨r2, k1, k2⟩ := runL_eq _ g3 h2
   refine ⟨t1, r2, g1, ?_, fun t => (h3.1 t).trans (k2.1 t), h3.2.trans k2.2⟩
   simp only [List.cons_append, runL, g2]
   exact k1
  ·cases h
end
def rest (ops : Array Oper) (listed : Array Bool) : List Nat := (List.range ops.size).filter fun i => !listed.getD i true
theorem rest_set {ops : Array Oper} {listed : Array Bool} {i : Nat} (hs : listed.size = ops.size) (hi : i < ops.size) (l1 l2 : List Nat) (h : rest ops listed = l1 ++ i :: l2) : rest ops (listed.setIfInBounds i true) = l1 ++ l2 := by
 have hnd : (rest ops listed).Nodup := (List.nodup_range (n := ops.size)).sublist List.filter_sublist
 have e1 : rest ops (listed.setIfInBounds i true) = (rest ops listed).filter (· ≠ i) := by
  unfold rest
  rw [List.filter_filter]
  apply List.filter_congr
  intro k hk
  by_cases hki : k = i
  ·subst hki
   simp [Array.getD_eq_getD_getElem?, hs, hi]
  ·have : (listed.setIfInBounds i true).getD k true = listed.getD k true := by
    rw [Array.getD_eq_getD_getElem?, Array.getD_eq_getD_getElem?, Array.getElem?_setIfInBounds_ne (by omega)]
   simp [this, hki]
 rw [e1, h]
 rw [h] at hnd
 have h1 : i ∉ l1 := fun hm => by
  have := (List.nodup_append.1 hnd).2.2 i hm i (by simp)
  exact this rfl
 have h2 : i ∉ l2 := (List.nodup_cons.1 (List.nodup_append.1 hnd).2.1).1
 rw [List.filter_append, List.filter_cons]
 simp only [ne_eq, not_true_eq_false, decide_false, Bool.false_eq_true, if_false]
 rw [List.filter_eq_self.2 (fun a ha => by simp; exact fun e => h1 (e ▸ ha)), List.filter_eq_self.2 (fun a ha => by simp; exact fun e => h2 (e ▸ ha))]
theorem getD_listed {listed : Array Bool} {n i : Nat} (hs : listed.size = n) (hi : i < n) : listed.getD i true = listed.getD i false := by
 simp [Array.getD_eq_getD_getElem?, hs, hi]
section
variable {nt : Fr} {base : Nat} {w0 : World} {P : Program} {C : Orc} {ops : Array Oper}
theorem any_wp (hC : OrcOk P C) (hrf : raceFree C.inl ops = true) (Q : Exit → Act → World → Prop) {ρn : Env} {Hn : Heap}
  (hQ : ∀ β fz ρ a w, EqE ρn ρ → Sim nt base w0 β fz ρ Hn a w → Q .normal a w) :
  ∀ (fuel : Nat) (listed : Array Bool) (ρ : Env) (H : Heap) (β : Nat → Nat) (fz : Nat → Prop) (a : Act) (w : World) (r : Env × Heap), listed.size = ops.size → (rest ops listed).length = fuel →
   (∀ i o, ops[i]? = some o → listed.getD i false = true → ∀ e ∈ o.after.toList, Region.binds .any e = true → listed.getD e.on false = true) →
   runL P C nt.nt ops ((rest ops listed).map fun i => ops.getD i default) (ρ, H) = some r → EqS (ρn, Hn) r → Sim nt base w0 β fz ρ H a w → wpAny P .any ops Q fuel listed a w := by
 have hrf' := hrf
 simp only [raceFree, Bool.and_eq_true, List.all_eq_true] at hrf'
 obtain ⟨hlt, hpair⟩ := hrf'
 have edge_lt : ∀ i o, ops[i]? = some o → ∀ e ∈ o.after.toList, Region.binds .any e = true → e.on < i := by
  intro i o ho e he hb
  have h1 := hlt (o, i) (by
   rw [List.mem_zipIdx_iff_getElem?]
   simpa using ho)
  simp only [Array.all_eq_true', Bool.or_eq_true, Bool.not_eq_true', decide_eq_true_eq] at h1
  rcases h1 e (Array.mem_toList_iff.1 he) with h | h
  ·rw [hb] at h; cases h
  ·exact h
 intro fuel
 induction fuel with
 | zero =>
  intro listed ρ H β fz a w r hsz hlen hcl hrun hr hs
  have hnil : rest ops listed = [] := List.length_eq_zero_iff.1 hlen
  rw [hnil] at hrun
  simp only [List.map_nil, runL, Option.some.injEq] at hrun
  subst hrun
  simp only [wpAny]
  refine ⟨?_, ?_⟩
  ·unfold Region.ready
   rw [List.filter_eq_nil_iff]
   intro i hi
   have : i ∉ rest ops listed := by rw [hnil]; simp
   unfold rest at this
   rw [List.mem_filter] at this
   simp only [hi, true_and, Bool.not_eq_true', Bool.not_eq_false] at this
   simp [this]
  ·obtain ⟨h1, h2⟩ := hr
   simp only at h1 h2
   subst h2
   exact hQ β fz ρ a w h1 hs
 | succ fuel ih =>
  intro listed ρ H β fz a w r hsz hlen hcl hrun hr hs
  simp only [wpAny]
  refine ⟨?_, ?_⟩
  ·-- there is one that is ready: the first
   intro hready
   exfalso
   cases hrest : rest ops listed with
   | nil => rw [hrest] at hlen; simp at hlen
   | cons i l =>
    have him : i ∈ rest ops listed := by rw [hrest]; simp
    unfold rest at him
    rw [List.mem_filter] at him
    obtain ⟨hi1, hi2⟩ := him
    have hi1' : i < ops.size := by simpa using hi1
    have : i ∈ Region.ready .any ops listed := by
     unfold Region.ready
     rw [List.mem_filter]
     refine ⟨hi1, ?_⟩
     rw [hi2]
     have ho : ops[i]? = some ops[i] := Array.getElem?_eq_getElem hi1'
     simp only [ho, Option.map_some, Option.getD_some, Bool.true_and]
     rw [Array.all_eq_true']
     intro e he
     by_cases hb : Region.binds .any e = true
     ·have hon := edge_lt i _ ho e (Array.mem_toList_iff.2 he) hb
      -- smaller ones are listed
      have hl : listed.getD e.on false = true := by
       rw [← getD_listed hsz (by omega)]
       cases hh : listed.getD e.on true with
       | true => rfl
       | false =>
        exfalso
        have hm : e.on ∈ rest ops listed := by
         unfold rest
         rw [List.mem_filter]
         exact ⟨by simp; omega, by simp [hh]⟩
        have hsorted : (rest ops listed).Pairwise (· < ·) := List.Pairwise.filter _ List.pairwise_lt_range
        rw [hrest] at hm hsorted
        rcases List.mem_cons.1 hm with hm | hm
        ·omega
        ·have := (List.pairwise_cons.1 hsorted).1 _ hm
         omega
      simp [hl]
     ·simp [hb]
    rw [hready] at this
    simp at this
  ·intro i hi
   unfold Region.ready at hi
   rw [List.mem_filter] at hi
   obtain ⟨hi1, hi2⟩ := hi
   have hi1' : i < ops.size := by simpa using hi1
   have ho : ops[i]? = some ops[i] := Array.getElem?_eq_getElem hi1'
   simp only [Bool.and_eq_true, ho, Option.map_some, Option.getD_some, Array.all_eq_true', Bool.or_eq_true, Bool.not_eq_true'] at hi2
   obtain ⟨hul, hed⟩ := hi2
   have him : i ∈ rest ops listed := by
    unfold rest
    rw [List.mem_filter]
    exact ⟨hi1, by simp [hul]⟩
   obtain ⟨l1, l2, hsplit⟩ := List.append_of_mem him
   -- all that comes before it by edges is listed
   have hbefore : ∀ (j : Nat) k, j < ops.size → (∀ e ∈ (ops.getD j default).after.toList, Region.binds .any e = true → listed.getD e.on false = true) → ((befs ops.toList []).getD j 0).testBit k = true → listed.getD k false = true := by
    intro j
    induction j using Nat.strongRecOn with
    | _ j ihj =>
     intro k hj hall hbit
     have hoj : ops.toList[j]? = some ops[j] := by simp [hj]
     have hoj' : ops.getD j default = ops[j] := by simp [Array.getD, hj]
     obtain ⟨e, he, hb, hk⟩ := bef_step hoj hbit
     have hle := hall e (by rw [hoj']; exact he) hb
     rcases hk with hk | hk
     ·rw [← hk]; exact hle
     ·have hon := edge_lt j ops[j] (by simp [hj]) e he hb
      refine ihj e.on hon k (by omega) ?_ hk
      have h1 : e.on < ops.size := by omega
      have : ops.getD e.on default = ops[e.on] := by simp [Array.getD, h1]
      rw [this]
      exact hcl e.on ops[e.on] (Array.getElem?_eq_getElem h1) hle
   have hgi : ops.getD i default = ops[i] := by simp [Array.getD, hi1']
   have hall : ∀ e ∈ (ops.getD i default).after.toList, Region.binds .any e = true → listed.getD e.on false = true := by
    intro e he hb
    rw [hgi] at he
    rcases hed e (Array.mem_toList_iff.1 he) with h | h
    ·rw [hb] at h; cases h
    ·exact h
   have hind : ∀ p ∈ l1.map (fun i => ops.getD i default), indep C.inl ops p (ops.getD i default) = true := by
    intro p hp
    simp only [List.mem_map] at hp
    obtain ⟨k, hk, rfl⟩ := hp
    have hsorted : (rest ops listed).Pairwise (· < ·) := List.Pairwise.filter _ List.pairwise_lt_range
    rw [hsplit] at hsorted
    have hki : k < i := (List.pairwise_append.1 hsorted).2.2 k hk i (by simp)
    have := hpair i (by simp [hi1']) k (by simp [hki])
    simp only [Bool.or_eq_true] at this
    rcases this with h | h
    ·exact h
    ·exfalso
     have hkl := hbefore i k hi1' hall h
     have hkm : k ∈ rest ops listed := by rw [hsplit]; simp [hk]
     unfold rest at hkm
     rw [List.mem_filter] at hkm
     have h1 : k < ops.size := by omega
     rw [← getD_listed hsz h1] at hkl
     rw [hkl] at hkm
     simp at hkm
   rw [hsplit, List.map_append, List.map_cons] at hrun
   obtain ⟨s1, r', h1, h2, h3⟩ := front _ _ hind hrun
   refine step1_wp (nt := nt) (base := base) (w0 := w0) hC (o := ops.getD i default) (by rw [hgi]; exact ho) hs h1 ?_
   intro a' w' β' fz' hs'
   have hrest' := rest_set hsz hi1' l1 l2 hsplit
   refine ih (listed.setIfInBounds i true) s1.1 s1.2 β' fz' a' w' r' (by simp [hsz]) ?_ ?_ ?_ ⟨fun t => (hr.1 t).trans (h3.1 t), hr.2.trans h3.2⟩ hs'
   ·rw [hrest']
    rw [hsplit] at hlen
    simp at hlen ⊢
    omega
   ·intro k o hk hkl e he hb
    have hgd : ∀ m, (listed.setIfInBounds i true).getD m false = true ↔ m = i ∨ listed.getD m false = true := by
     intro m
     by_cases hm : m = i
     ·subst hm
      simp [Array.getD_eq_getD_getElem?, hsz, hi1']
     ·rw [Array.getD_eq_getD_getElem?, Array.getElem?_setIfInBounds_ne (by omega), ← Array.getD_eq_getD_getElem?]
      simp [hm]
    rw [hgd] at hkl ⊢
    right
    rcases hkl with rfl | hkl
    ·rw [ho] at hk
     simp only [Option.some.injEq] at hk
     subst hk
     exact hall e (by rw [hgi]; exact he) hb
    ·exact hcl k o hk hkl e he hb
   ·rw [hrest', List.map_append]
    exact h2
theorem seq_wp (hC : OrcOk P C) (Q : Exit → Act → World → Prop) {ρn : Env} {Hn : Heap} (hQ : ∀ β fz a w, Sim nt base w0 β fz ρn Hn a w → Q .normal a w) :
  ∀ (l : List Oper) (k : Nat) (ρ : Env) (H : Heap) (β : Nat → Nat) (fz : Nat → Prop) (a : Act) (w : World), (∀ j, l[j]? = ops[k + j]?) → runL P C nt.nt ops l (ρ, H) = some (ρn, Hn) → Sim nt base w0 β fz ρ H a w →
   wpOps P ops Q (List.range' k l.length) a w
 | [], k, ρ, H, β, fz, a, w, _, hrun, hs => by
  simp only [runL, Option.some.injEq, Prod.mk.injEq] at hrun
  obtain ⟨rfl, rfl⟩ := hrun
  exact hQ β fz a w hs
 | o :: l, k, ρ, H, β, fz, a, w, hl, hrun, hs => by
  simp only [runL] at hrun
  split at hrun
  ·rename_i s1 h1
   have ho : ops[k]? = some o := by simpa using (hl 0).symm
   simp only [List.length_cons, List.range'_succ]
   rw [wpOps_cons]
   refine step1_wp hC ho hs h1 (fun a' w' β' fz' hs' => ?_)
   exact seq_wp hC Q hQ l (k + 1) s1.1 s1.2 β' fz' a' w' (fun j => by have := hl (j + 1); simpa [Nat.add_assoc, Nat.add_comm 1 j] using this) hrun hs'
  ·cases hrun
theorem Sim.drew {β : Nat → Nat} {fz : Nat → Prop} {ρ : Env} {H : Heap} {a : Act} {w : World} (hs : Sim nt base w0 β fz ρ H a w) : Sim nt base w0 β fz ρ H a { w with drawn := w.drawn + 1 } := by
 obtain ⟨h1, h2⟩ := hs.heap.drew
 exact ⟨h1, hs.defers, hs.size, hs.ext.trans h2, fun t => (hs.env t).ext h2⟩
theorem region_wp (hC : OrcOk P C) (hm : P.follows .mixedOrders = true) {id : Nat} {draw : Bool} (hrf : draw = true → raceFree C.inl ops = true) (Q : Exit → Act → World → Prop) {ρ ρn : Env} {H Hn : Heap} {β : Nat → Nat} {fz : Nat → Prop} {a : Act} {w : World}
  (hs : Sim nt base w0 β fz ρ H a w) (hrun : runL P C nt.nt ops ops.toList (ρ, H) = some (ρn, Hn))
  (hQ : ∀ β fz a w, Sim nt base w0 β fz ρn Hn a w → Q .normal a w) : (Code.region id ops draw).wp P Q a w := by
 cases draw with
 | false =>
  apply wp_region
  have := seq_wp hC Q hQ ops.toList 0 ρ H β fz a w (by simp) hrun hs
  rw [List.range_eq_range']
  simpa using this
 | true =>
  apply wp_region_any hm
  have hrest : rest ops (Array.replicate ops.size false) = List.range ops.size := by
   unfold rest
   rw [List.filter_eq_self]
   intro i hi
   have : i < ops.size := by simpa using hi
   simp [Array.getD_eq_getD_getElem?, this]
  refine any_wp hC (hrf rfl) Q (ρn := ρn) (Hn := Hn) (fun β fz ρ a w he hs => hQ β fz a w ⟨hs.heap, hs.defers, hs.size, hs.ext, fun t => by rw [he t]; exact hs.env t⟩) ops.size _ ρ H β fz a _ (ρn, Hn) (by simp) (by rw [hrest]; simp) ?_ ?_ ⟨fun _ => rfl, rfl⟩ hs.drew
  ·intro i o ho hl
   have : i < ops.size := (Array.getElem?_eq_some_iff.1 ho).1
   simp [Array.getD_eq_getD_getElem?, this] at hl
  ·rw [hrest]
   have : (List.range ops.size).map (fun i => ops.getD i default) = ops.toList := by
    apply List.ext_getElem?
    intro i
    by_cases h : i < ops.size
    ·simp [h, Array.getD]
    ·simp [h]
   rw [this]; exact hrun
end
end Go.AI
