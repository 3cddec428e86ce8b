/- A region some operations of which come in several orders. -/
import Derived.Test.YtibpipgabcpaoaaAiOd
namespace Go.AI
set_option linter.unusedSimpArgs false
set_option linter.unusedVariables false
section
variable {nt : Fr} {base : Nat} {w0 : World} {P : Program} {C : Orc} {ops : Array Oper}
theorem split_uniq {i : Nat} : ∀ {l1 m1 l2 m2 : List Nat}, (l1 ++ i :: l2).Nodup → l1 ++ i :: l2 = m1 ++ i :: m2 → l1 = m1
 | [], [], _, _, _, _ => rfl
 | [], x :: m1, l2, m2, hn, h => by
  simp only [List.nil_append, List.cons_append, List.cons.injEq] at h
  obtain ⟨rfl, rfl⟩ := h
  rw [List.nil_append, List.nodup_cons] at hn
  exact absurd (by simp) hn.1
 | x :: l1, [], l2, m2, hn, h => by
  simp only [List.nil_append, List.cons_append, List.cons.injEq] at h
  obtain ⟨rfl, rfl⟩ := h
  rw [List.cons_append, List.nodup_cons] at hn
  exact absurd (by simp) hn.1
 | x :: l1, y :: m1, l2, m2, hn, h => by
  simp only [List.cons_append, List.cons.injEq] at h
  rw [List.cons_append, List.nodup_cons] at hn
  rw [h.1, split_uniq hn.2 h.2]
def chkM (B : List Nat) : Nat → List Nat → List (List Nat) → Bool
 | 0, Xr, T => !T.isEmpty && Xr.isEmpty
 | n + 1, Xr, T => !T.isEmpty && Xr.all fun x => (Xr.any fun y => (B.getD x 0).testBit y) || chkM B n (Xr.filter (fun y => y != x)) (T.filter fun τ => (τ.find? fun k => Xr.contains k) == some x)
theorem chkM_ne {B : List Nat} : ∀ {n : Nat} {Xr : List Nat} {T : List (List Nat)}, chkM B n Xr T = true → T ≠ []
 | 0, Xr, T, h => by
  simp only [chkM, Bool.and_eq_true, Bool.not_eq_true', List.isEmpty_eq_false_iff] at h
  exact h.1
 | n + 1, Xr, T, h => by
  simp only [chkM, Bool.and_eq_true, Bool.not_eq_true', List.isEmpty_eq_false_iff] at h
  exact h.1
def OrdOk (P : Program) (C : Orc) (nt : Fr) (base : Nat) (w0 : World) (ops : Array Oper) (X0 : List Nat) (n0 : Nat) (Q : Exit → Act → World → Prop) (listed : Array Bool) (ρ : Env) (H : Heap) (τ : List Nat) : Prop :=
 ∃ (F : Nat → Foot) (ρn : Env) (Hn : Heap) (r : Env × Heap), IsPerm ops τ ∧ (τ.Pairwise fun k i => FineP C ops F n0 k i ∨ (X0.contains k = true ∧ X0.contains i = true)) ∧
  (∀ β fz ρ a w, EqE ρn ρ → Sim nt base w0 β fz ρ Hn a w → Q .normal a w) ∧ runG P C nt.nt ops F n0 (restT τ listed) (ρ, H) = some r ∧ EqS (ρn, Hn) r
theorem any_wpM {n0 : Nat} {X0 : List Nat} (hC : OrcOk P C) (hE : EdgesLt ops) (Q : Exit → Act → World → Prop) :
  ∀ (fuel : Nat) (n : Nat) (T : List (List Nat)) (listed : Array Bool) (ρ : Env) (H : Heap) (β : Nat → Nat) (fz : Nat → Prop) (a : Act) (w : World), listed.size = ops.size → (rest ops listed).length = fuel → Closed ops listed →
   chkM (befs ops.toList []) n (X0.filter fun k => !listed.getD k true) T = true → (∀ τ ∈ T, OrdOk P C nt base w0 ops X0 n0 Q listed ρ H τ) → Sim nt base w0 β fz ρ H a w → wpAny P .any ops Q fuel listed a w := by
 intro fuel
 induction fuel with
 | zero =>
  intro n T listed ρ H β fz a w hsz hlen hcl hchk hT hs
  have hnil : rest ops listed = [] := List.length_eq_zero_iff.1 hlen
  obtain ⟨τ, hτT⟩ := List.exists_mem_of_ne_nil T (chkM_ne hchk)
  obtain ⟨F, ρn, Hn, r, hτ, hpw, hQ, hrun, hr⟩ := hT τ hτT
  have hnilT : restT τ listed = [] := List.length_eq_zero_iff.1 (by rw [restT_len hτ, hlen])
  rw [hnilT] at hrun
  simp only [runG, Option.some.injEq] at hrun
  subst hrun
  simp only [wpAny]
  refine ⟨any_end hnil, ?_⟩
  obtain ⟨h1, h2⟩ := hr
  simp only at h1 h2
  subst h2
  exact hQ β fz ρ a w h1 hs
 | succ fuel ih =>
  intro n T listed ρ H β fz a w hsz hlen hcl hchk hT hs
  simp only [wpAny]
  refine ⟨fun h => absurd h (ready_first hE hsz (fun h => by rw [h] at hlen; simp at hlen)), ?_⟩
  intro i hi
  -- what is ready is not listed, and nothing before it is left
  have hred := hi
  unfold Region.ready at hred
  rw [List.mem_filter] at hred
  obtain ⟨hi1, hi2⟩ := hred
  have hi1' : i < ops.size := by simpa using hi1
  have ho' : ops[i]? = some ops[i] := Array.getElem?_eq_getElem hi1'
  simp only [Bool.and_eq_true, ho', Option.map_some, Option.getD_some, Array.all_eq_true', Bool.or_eq_true, Bool.not_eq_true'] at hi2
  obtain ⟨hul, hed⟩ := hi2
  have hgi : ops.getD i default = ops[i] := by simp [Array.getD, hi1']
  have hall0 : ∀ e ∈ (ops.getD i default).after.toList, Region.binds .any e = true → listed.getD e.on false = true := by
   intro e he hb
   rw [hgi] at he
   rcases hed e (Array.mem_toList_iff.1 he) with h | h
   ·rw [hb] at h; cases h
   ·exact h
  -- the orders in which it may come next
  have key : ∃ (n' : Nat) (T' : List (List Nat)), (∀ τ ∈ T', τ ∈ T) ∧ chkM (befs ops.toList []) n' (X0.filter fun k => !(listed.setIfInBounds i true).getD k true) T' = true ∧
    ∀ τ ∈ T', IsPerm ops τ → ∀ l1 l2, restT τ listed = l1 ++ i :: l2 → ∀ k ∈ l1, ¬ (X0.contains k = true ∧ X0.contains i = true) := by
   have hXr : (X0.filter fun k => !(listed.setIfInBounds i true).getD k true) = (X0.filter fun k => !listed.getD k true).filter (fun y => y != i) := by
    rw [List.filter_filter]
    apply List.filter_congr
    intro k hk
    by_cases hki : k = i
    ·subst hki
     simp [Array.getD_eq_getD_getElem?, hsz, hi1']
    ·rw [Array.getD_eq_getD_getElem?, Array.getElem?_setIfInBounds_ne (by omega), ← Array.getD_eq_getD_getElem?]
     simp [hki]
   by_cases hiX : i ∈ X0
   ·have hiXr : i ∈ X0.filter fun k => !listed.getD k true := List.mem_filter.2 ⟨hiX, by simp [hul]⟩
    cases n with
    | zero =>
     simp only [chkM, Bool.and_eq_true, List.isEmpty_iff] at hchk
     rw [hchk.2] at hiXr
     cases hiXr
    | succ n =>
     simp only [chkM, Bool.and_eq_true, List.all_eq_true, Bool.or_eq_true] at hchk
     rcases hchk.2 i hiXr with h | h
     ·exfalso
      rw [List.any_eq_true] at h
      obtain ⟨y, hy, hb⟩ := h
      have hyl := bef_listed hE hcl i y hi1' hall0 hb
      rw [List.mem_filter] at hy
      by_cases hys : y < ops.size
      ·rw [← getD_listed hsz hys] at hyl
       rw [hyl] at hy
       simp at hy
      ·have : listed.getD y true = true := by rw [Array.getD_eq_getD_getElem?, Array.getElem?_eq_none (by omega)]; rfl
       rw [this] at hy
       simp at hy
     ·refine ⟨n, _, fun τ hτ => (List.mem_filter.1 hτ).1, by rw [hXr]; exact h, fun τ hτ hp l1 l2 hl k hk hkx => ?_⟩
      have hf := (List.mem_filter.1 hτ).2
      rw [beq_iff_eq, List.find?_eq_some_iff_append] at hf
      obtain ⟨hci, as, bs, hab, hno⟩ := hf
      -- k lies before i in τ, and is left
      have hnd := hp.1
      have hkr : k ∈ restT τ listed := by rw [hl]; simp [hk]
      unfold restT at hkr
      rw [List.mem_filter] at hkr
      have hkX : (X0.filter fun k => !listed.getD k true).contains k = true := by
       rw [List.contains_iff_mem, List.mem_filter]
       exact ⟨by simpa using hkx.1, hkr.2⟩
      have hka : k ∈ as := by
       have h1 : restT τ listed = (as.filter fun j => !listed.getD j true) ++ i :: (bs.filter fun j => !listed.getD j true) := by
        unfold restT
        rw [hab, List.filter_append, List.filter_cons, if_pos (by simp [hul])]
       have hndr : (restT τ listed).Nodup := hnd.sublist List.filter_sublist
       have h2 := split_uniq (by rw [← hl]; exact hndr) (hl.symm.trans h1)
       rw [h2] at hk
       exact (List.mem_filter.1 hk).1
      have hq := hno k hka
      simp only [hkX] at hq
      cases hq
   ·refine ⟨n, T, fun τ h => h, ?_, fun τ hτ hp l1 l2 hl k hk hkx => hiX (by simpa using hkx.2)⟩
    rw [hXr, List.filter_eq_self.2 (fun y hy => by
     have := (List.mem_filter.1 hy).1
     simp
     rintro rfl
     exact hiX this)]
    exact hchk
  obtain ⟨n', T', hsub, hchk', hfr⟩ := key
  have pick : ∀ τ ∈ T', ∃ s1, step1 P C nt.nt ops (ops.getD i default) (ρ, H) = some s1 ∧ (∀ e ∈ (ops.getD i default).after.toList, Region.binds .any e = true → listed.getD e.on false = true) ∧ OrdOk P C nt base w0 ops X0 n0 Q (listed.setIfInBounds i true) s1.1 s1.2 τ ∧ (restT τ (listed.setIfInBounds i true)).length + 1 = (restT τ listed).length ∧ IsPerm ops τ := by
   intro τ hτ'
   obtain ⟨F, ρn, Hn, r, hτ, hpw, hQ, hrun, hr⟩ := hT τ (hsub τ hτ')
   obtain ⟨_, hall, s1, r', h1, h2, h3, h4⟩ := pick_front hC hE hsz hcl hτ hi hrun (fun l1 l2 h k hk => by
    have hpr := hpw.sublist (List.filter_sublist (l := τ) (p := fun i => !listed.getD i true))
    change (restT τ listed).Pairwise _ at hpr
    rw [h] at hpr
    rcases (List.pairwise_append.1 hpr).2.2 k hk i (by simp) with q | q
    ·exact q
    ·exact absurd q (hfr τ hτ' hτ l1 l2 h k hk))
   exact ⟨s1, h1, hall, ⟨F, ρn, Hn, r', hτ, hpw, hQ, h2, ⟨fun t => (hr.1 t).trans (h3.1 t), hr.2.trans h3.2⟩⟩, h4, hτ⟩
  obtain ⟨τ0, hτ0⟩ := List.exists_mem_of_ne_nil T' (chkM_ne hchk')
  obtain ⟨s1, h1, hall, _, h4, hp0⟩ := pick τ0 hτ0
  have ho : ops[i]? = some (ops.getD i default) := by simp [Array.getD, hi1']
  refine step1_wp (nt := nt) (base := base) (w0 := w0) hC (o := ops.getD i default) ho hs h1 ?_
  intro a' w' β' fz' hs'
  refine ih n' T' (listed.setIfInBounds i true) s1.1 s1.2 β' fz' a' w' (by simp [hsz]) ?_ (closed_set hsz hcl hi1' hall) hchk' (fun τ hτ' => ?_) hs'
  ·have e1 := restT_len hp0 (listed.setIfInBounds i true)
   have e2 := restT_len hp0 listed
   omega
  ·obtain ⟨s1', g1, _, g2, _, _⟩ := pick τ hτ'
   rw [h1] at g1
   cases g1
   exact g2
def raceFreeM (inl : FuncId → Bool) (X0 : List Nat) (pairs : List (Nat × Nat)) (T : List (List Nat)) (ops : Array Oper) : Bool :=
 let B := befs ops.toList []
 (ops.toList.zipIdx.all fun (o, i) => o.after.all fun e => !Region.binds .any e || decide (e.on < i)) && chkM B X0.length X0 T && (X0.all fun x => decide (x < ops.size)) &&
 T.all fun τ => (τ.all fun i => decide (i < ops.size)) && ((List.range ops.size).all fun i => τ.contains i) && pairsAll (fun i j => i != j) τ && pairsAll (fun i j => fineB inl pairs ops B i j || (X0.contains i && X0.contains j)) τ
theorem region_wpM (hC : OrcOk P C) (hm : P.follows .mixedOrders = true) {id : Nat} {X0 : List Nat} {pairs : List (Nat × Nat)} {idx : List Nat} {T : List (List Nat)} (hrf : raceFreeM C.inl X0 pairs T ops = true) (Q : Exit → Act → World → Prop) {ρ : Env} {H : Heap} {β : Nat → Nat} {fz : Nat → Prop} {a : Act} {w : World}
  (hs : Sim nt base w0 β fz ρ H a w)
  (hT : ∀ τ ∈ T, ∃ ρ1 H1 f1, runFT P C nt.nt ops idx H.length τ (ρ, H) = some ((ρ1, H1), f1) ∧ (∀ q ∈ pairs, apart H.length (footAt f1 q.1) (footAt f1 q.2) = true) ∧ ∀ β fz a w, Sim nt base w0 β fz ρ1 H1 a w → Q .normal a w) : (Code.region id ops true).wp P Q a w := by
 simp only [raceFreeM, Bool.and_eq_true] at hrf
 obtain ⟨⟨⟨hlt, hchk⟩, hX0⟩, hall⟩ := hrf
 have hX : ∀ x ∈ X0, x < ops.size := fun x hx => by simpa using List.all_eq_true.1 hX0 x hx
 have hE : EdgesLt ops := by
  intro i o ho e he hb
  have h1 := List.all_eq_true.1 hlt (o, i) (by
   rw [List.mem_zipIdx_iff_getElem?]
   simpa using ho)
  simp only [Array.all_eq_true', Bool.or_eq_true, Bool.not_eq_true', decide_eq_true_eq] at h1
  rcases h1 e (Array.mem_toList_iff.1 he) with h | h
  ·rw [hb] at h; cases h
  ·exact h
 have fine : ∀ (F : Nat → Foot), (∀ q ∈ pairs, apart H.length (F q.1) (F q.2) = true) → ∀ i j, fineB C.inl pairs ops (befs ops.toList []) i j = true → FineP C ops F H.length i j := by
  intro F hap i j h
  simp only [fineB, Bool.or_eq_true] at h
  rcases h with (h | h) | h
  ·exact .inl (.inl h)
  ·simp only [Bool.and_eq_true, Bool.not_eq_true', Bool.or_eq_true, List.contains_iff_mem] at h
   refine .inl (.inr ⟨h.1.2, h.2, ?_⟩)
   rcases h.1.1 with h | h
   ·exact hap _ h
   ·exact apart_symm (hap _ h)
  ·exact .inr h
 apply wp_region_any hm
 have hrest : rest ops (Array.replicate ops.size false) = List.range ops.size := by
  unfold rest
  rw [List.filter_eq_self]
  intro i hi
  have : i < ops.size := by simpa using hi
  simp [Array.getD_eq_getD_getElem?, this]
 have hrT : ∀ τ', (∀ i ∈ τ', i < ops.size) → restT τ' (Array.replicate ops.size false) = τ' := by
  intro τ' h
  unfold restT
  rw [List.filter_eq_self]
  intro i hi
  have := h i hi
  simp [Array.getD_eq_getD_getElem?, this]
 obtain ⟨τ0, hτ0⟩ := List.exists_mem_of_ne_nil T (chkM_ne hchk)
 have permOf : ∀ τ ∈ T, IsPerm ops τ := by
  intro τ hτ
  have h := List.all_eq_true.1 hall τ hτ
  simp only [Bool.and_eq_true] at h
  obtain ⟨⟨⟨h1, h2⟩, h3⟩, _⟩ := h
  have hnd : τ.Nodup := by
   refine (pairsAll_pw h3).imp ?_
   intro i j h
   simpa using h
  have hlt2 : ∀ i ∈ τ, i < ops.size := fun i hi => by simpa using List.all_eq_true.1 h1 i hi
  exact ⟨hnd, fun i => ⟨hlt2 i, fun hi => by simpa using List.all_eq_true.1 h2 i (by simpa using hi)⟩⟩
 refine any_wpM (n0 := H.length) (X0 := X0) hC hE Q ops.size X0.length T _ ρ H β fz a _ (by simp) (by rw [hrest]; simp) ?_ ?_ (fun τ hτ => ?_) hs.drew
 ·intro i o ho hl
  have : i < ops.size := (Array.getElem?_eq_some_iff.1 ho).1
  simp [Array.getD_eq_getD_getElem?, this] at hl
 ·rw [List.filter_eq_self.2 (fun k hk => by simp [Array.getD_eq_getD_getElem?, hX k hk])]
  exact hchk
 ·obtain ⟨ρ1, H1, f1, hrun, hap, hQ⟩ := hT τ hτ
  have hp := permOf τ hτ
  have h := List.all_eq_true.1 hall τ hτ
  simp only [Bool.and_eq_true] at h
  have hg := runFT_G (P := P) (C := C) (ops := ops) _ _ _ f1 f1 hp.1 hrun (fun _ _ => rfl)
  refine ⟨footAt f1, ρ1, H1, (ρ1, H1), hp, ?_, fun β fz ρ a w he hs => hQ β fz a w ⟨hs.heap, hs.defers, hs.size, hs.ext, fun t => by rw [he t]; exact hs.env t⟩, ?_, ⟨fun _ => rfl, rfl⟩⟩
  ·refine (pairsAll_pw h.2).imp ?_
   intro i j h
   simp only [Bool.or_eq_true, Bool.and_eq_true] at h
   rcases h with h | h
   ·exact .inl (fine _ hap i j h)
   ·exact .inr h
  ·rw [hrT _ (fun i hi => (hp.2 i).1 hi)]
   exact hg
end
end Go.AI
