/- A map walked through: the next entry, whichever it is. -/
import Derived.Test.YtdakclpneghkmaaGreatDoorL08
import Derived.Test.YtdakclpneghkmaaGreatDoorL06
namespace Go.AI
set_option linter.unusedSimpArgs false
set_option linter.unusedVariables false
open Go.RowKit
open Go.ChangeMaps (setBlock)

def RunK (P : Program) (C : Orc) (nt : Nat) (ops : Array Oper) (l : List Oper) (K : Env → Heap → Prop) (ρ : Env) (H : Heap) : Prop :=
  match runL P C nt ops l (ρ, H) with
  | some s => K s.1 s.2
  | none => False
/-- an iterator's step: each entry that was not seen, or none is left -/
def StepN (P : Program) (C : Orc) (nt : Nat) (ops : Array Oper) (l : List Oper) (K : Env → Heap → Prop) (d : Tmp) (ρ : Env) (H : Heap) (rid id : Nat) (s c t : Int) (sn : Row) (es : List Row) : Prop :=
  t = s ∧ s ≤ c ∧ (∀ r ∈ es, ∃ k a b, r = [k, a, .v (.int .i64 b)]) ∧ (∀ x ∈ sn, ∃ b, x = .v (.int .i64 b)) ∧
    (∀ (i : Nat) (k a : AVal) (b : Int), es[i]? = some [k, a, .v (.int .i64 b)] → AVal.v (.int .i64 b) ∉ sn →
      RunK P C nt ops l K (put ρ (some d) (.tup [.v (.bool true), k, a])) (H.set rid (some (0, [[.ptr id 0 0 0, .v (.int .i64 s), .v (.int .i64 t)], sn ++ [.v (.int .i64 b)]])))) ∧
    ((∀ (i : Nat) (k a : AVal) (b : Int), es[i]? = some [k, a, .v (.int .i64 b)] → AVal.v (.int .i64 b) ∈ sn) → RunK P C nt ops l K (put ρ (some d) (.v (.tuple #[.bool false]))) H)
def IterN (P : Program) (C : Orc) (nt : Nat) (ops : Array Oper) (l : List Oper) (K : Env → Heap → Prop) (d : Tmp) (ρ : Env) (H : Heap) (rid : Nat) : Prop :=
  ∃ (id : Nat) (s c t : Int) (sn : Row) (es : List Row), H[rid]? = some (some (0, [[.ptr id 0 0 0, .v (.int .i64 s), .v (.int .i64 c)], sn])) ∧ H[id]? = some (some (0, [.v (.int .i64 t)] :: es)) ∧ StepN P C nt ops l K d ρ H rid id s c t sn es
def RunN (P : Program) (C : Orc) (nt : Nat) (ops : Array Oper) (K : Env → Heap → Prop) (ρ : Env) (H : Heap) : Prop :=
  match ops.toList with
  | [] => False
  | o :: l => match o.op, o.guard, o.dst with
    | .next x false, none, some d => d < nt ∧ match ev ρ x with
      | .ptr rid 1 0 0 => IterN P C nt ops l K d ρ H rid
      | _ => False
    | _, _, _ => False
@[congr] theorem RunK_congr {P : Program} {C : Orc} {nt : Nat} {ops : Array Oper} {l : List Oper} {K : Env → Heap → Prop} {ρ ρ' : Env} {H H' : Heap} (h1 : ρ = ρ') (h2 : H = H') : RunK P C nt ops l K ρ H = RunK P C nt ops l K ρ' H' := by rw [h1, h2]
@[congr] theorem RunN_congr {P : Program} {C : Orc} {nt : Nat} {ops : Array Oper} {K : Env → Heap → Prop} {ρ ρ' : Env} {H H' : Heap} (h1 : ρ = ρ') (h2 : H = H') : RunN P C nt ops K ρ H = RunN P C nt ops K ρ' H' := by rw [h1, h2]
@[congr] theorem IterN_congr {P : Program} {C : Orc} {nt : Nat} {ops : Array Oper} {l : List Oper} {K : Env → Heap → Prop} {d : Tmp} {ρ ρ' : Env} {H H' : Heap} {r r' : Nat} (h1 : ρ = ρ') (h2 : H = H') (h3 : r = r') : IterN P C nt ops l K d ρ H r = IterN P C nt ops l K d ρ' H' r' := by rw [h1, h2, h3]
theorem RunK_mono {P : Program} {C : Orc} {nt : Nat} {ops : Array Oper} {l : List Oper} {K K' : Env → Heap → Prop} {ρ : Env} {H : Heap} (hK : ∀ ρ H, K ρ H → K' ρ H) (h : RunK P C nt ops l K ρ H) : RunK P C nt ops l K' ρ H := by
  unfold RunK at h ⊢
  split at h
  · exact hK _ _ h
  · exact h.elim
theorem RunN_mono {P : Program} {C : Orc} {nt : Nat} {ops : Array Oper} {K K' : Env → Heap → Prop} {ρ : Env} {H : Heap} (hK : ∀ ρ H, K ρ H → K' ρ H) (h : RunN P C nt ops K ρ H) : RunN P C nt ops K' ρ H := by
  unfold RunN at h ⊢
  split at h
  · exact h.elim
  · rename_i o l hol
    split at h
    · rename_i x d hop hg hd
      obtain ⟨h1, h⟩ := h
      refine ⟨h1, ?_⟩
      split at h
      · obtain ⟨id, s, c, t, sn, es, q1, q2, q3, q4, q5, q6, q7, q8⟩ := h
        exact ⟨id, s, c, t, sn, es, q1, q2, q3, q4, q5, q6, fun i k a b e n => RunK_mono hK (q7 i k a b e n), fun e => RunK_mono hK (q8 e)⟩
      · exact h.elim
    · exact h.elim
section
variable {nt : Fr} {base : Nat} {w0 : World} {β : Nat → Nat} {fz : Nat → Prop} {ρ ρ' : Env} {H H' : Heap} {a : Act} {w : World} {P : Program} {C : Orc} {ops : Array Oper}
theorem HSim.setG (hs : HSim base w0 β fz H w) {id : Nat} {rows rows' : List Row} (hid : H[id]? = some (some (0, rows))) (hnc : ∀ cs e f, w.heap[β id]? ≠ some (.cells cs e f)) {ob : Obj}
    (hG : GSim base β fz (setBlock w (β id) ob) H.length id rows') :
    HSim base w0 β fz (H.set id (some (0, rows'))) (setBlock w (β id) ob) ∧ Ext H.length β fz w (H.set id (some (0, rows'))).length β fz (setBlock w (β id) ob) := by
  have hlive : Live H id := ⟨_, hid⟩
  have hown := hs.own id hlive
  have hb := hs.blt hlive
  have hoth : ∀ k, k ≠ β id → (setBlock w (β id) ob).heap[k]? = w.heap[k]? := fun k h => by
    simp only [setBlock]; rw [Array.getElem?_setIfInBounds_ne (fun e => h e.symm)]
  have shp : Shapes w (setBlock w (β id) ob) := by
    intro b cs e f h
    have hne : b ≠ β id := fun q => by rw [q] at h; exact hnc _ _ _ h
    exact ⟨cs, f, by rw [hoth b hne]; exact h, rfl⟩
  have ext : Ext H.length β fz w (H.set id (some (0, rows'))).length β fz (setBlock w (β id) ob) :=
    ⟨by simp, fun _ _ => rfl, fun _ h => h, fun b hb => hoth b (fun e => hown.2 (e ▸ hb)), shp⟩
  refine ⟨⟨?_, ?_, ?_, ?_, ?_, hs.base⟩, ext⟩
  · intro k sz' rws hk
    by_cases hki : k = id
    · subst hki
      have hlt : k < H.length := (List.getElem?_eq_some_iff.1 hid).1
      rw [List.getElem?_set_self hlt] at hk
      simp only [Option.some.injEq, Prod.mk.injEq] at hk
      obtain ⟨rfl, rfl⟩ := hk
      rw [OSim, if_pos rfl, List.length_set]
      exact .inr hG
    · rw [List.getElem?_set_ne (by omega)] at hk
      have hne : β k ≠ β id := fun he => hki (hs.inj k id ⟨_, hk⟩ hlive he)
      exact (hs.objs' k sz' rws hk).ext ext (hoth _ hne)
  · exact fun a b ha hb => hs.inj a b (ha.set hlive) (hb.set hlive)
  · exact fun k hk => hs.own k (hk.set hlive)
  · exact fun b hb => by have := hs.fzlt b hb; simpa [setBlock] using this
  · exact hs.below.trans ⟨rfl, rfl, rfl, by simp [setBlock], fun k hk => hoth k (by omega), Nat.le_refl _⟩
/-- the next entry -/
theorem next_does {o : Oper} {x : Operand} {rid id : Nat} {s c t : Int} {sn : Row} {es : List Row} (hop : o.op = .next x false) (hs : Sim nt base w0 β fz ρ H a w) (hx : ev ρ x = .ptr rid 1 0 0)
    (hit : H[rid]? = some (some (0, [[.ptr id 0 0 0, .v (.int .i64 s), .v (.int .i64 c)], sn]))) (hmp : H[id]? = some (some (0, [.v (.int .i64 t)] :: es))) (hts : t = s) (hsc : s ≤ c)
    (hwf : ∀ r ∈ es, ∃ k a b, r = [k, a, .v (.int .i64 b)]) (hsw : ∀ y ∈ sn, ∃ b, y = AVal.v (.int .i64 b)) :
    ((∀ (i : Nat) (k a : AVal) (b : Int), es[i]? = some [k, a, .v (.int .i64 b)] → AVal.v (.int .i64 b) ∈ sn) ∧ Does P o a w base w0 β fz H (.v (.tuple #[.bool false])) H) ∨
    ∃ (i : Nat) (k y : AVal) (b : Int), es[i]? = some [k, y, .v (.int .i64 b)] ∧ AVal.v (.int .i64 b) ∉ sn ∧ Does P o a w base w0 β fz H (.tup [.v (.bool true), k, y]) (H.set rid (some (0, [[.ptr id 0 0 0, .v (.int .i64 s), .v (.int .i64 t)], sn ++ [.v (.int .i64 b)]]))) := by
  have hv := hs.ev x
  rw [hx] at hv
  obtain ⟨_, hv⟩ := ptrV (by decide) hv
  obtain ⟨E, clock, h1, hbn, e1, hl, hr⟩ := hs.heap.walk hmp
  obtain ⟨since, stepped, seen, g1, g2, g3, g4, g5⟩ := hs.heap.iter hit
  have hold : ∀ z ∈ E.toList, z.born < since := fun z hz => by have := hbn.lt z hz; omega
  have hst : since ≤ stepped := by omega
  have hclock : clock = since := by omega
  -- an entry's row
  have hrow : ∀ (i : Nat) (en : MapEntry), E[i]? = some en → ∃ k y, es[i]? = some [k, y, .v (.int .i64 (en.born : Int))] ∧ R β (okOf base fz) w H.length k en.key ∧ R β (okOf base fz) w H.length y en.val := by
    intro i en hi
    have hie : i < es.length := by rw [hl]; exact (Array.getElem?_eq_some_iff.1 hi).1
    obtain ⟨k, y, b, e2, r1, r2, r3⟩ := hr i es[i] en (List.getElem?_eq_getElem hie) hi
    obtain ⟨k', y', b', e3⟩ := hwf es[i] (List.getElem_mem hie)
    rw [e2] at e3
    simp only [List.cons.injEq, and_true] at e3
    obtain ⟨rfl, rfl, rfl⟩ := e3
    have := r3.v_inv
    refine ⟨k, y, ?_, r1, r2⟩
    rw [List.getElem?_eq_getElem hie, e2, this]
  have hseen : ∀ (m : Nat), AVal.v (.int .i64 (m : Int)) ∈ sn ↔ seen.contains m = true := by
    intro m
    rw [Array.contains_iff_mem]
    constructor
    · intro hm
      obtain ⟨j, hj⟩ := List.mem_iff_getElem?.1 hm
      have hjl : j < seen.size := by rw [← g4]; exact (List.getElem?_eq_some_iff.1 hj).1
      have := (g5 j _ _ hj (Array.getElem?_eq_getElem hjl)).v_inv
      simp only [Value.int.injEq, true_and] at this
      have : m = seen[j] := by omega
      rw [this]; exact Array.getElem_mem hjl
    · intro hm
      obtain ⟨j, hj, rfl⟩ := Array.mem_iff_getElem.1 hm
      have hjl : j < sn.length := by omega
      obtain ⟨b, hb⟩ := hsw sn[j] (List.getElem_mem hjl)
      have h5 := g5 j _ _ (List.getElem?_eq_getElem hjl) (Array.getElem?_eq_getElem hj)
      rw [hb] at h5
      have := h5.v_inv
      rw [this, ← hb]
      exact List.getElem_mem hjl
  rcases run_next_at (P := P) w o.type (β rid) (β id) since stepped seen E clock g1 h1 hold hst with ⟨h0, hrun⟩ | ⟨en, hen, w1, hal, hrun⟩
  · refine .inl ⟨fun i k y b hi => ?_, ?_⟩
    · have hie : i < E.size := by rw [← hl]; exact (List.getElem?_eq_some_iff.1 hi).1
      obtain ⟨k', y', e2, _, _⟩ := hrow i E[i] (Array.getElem?_eq_getElem hie)
      rw [hi] at e2
      simp only [Option.some.injEq, List.cons.injEq, and_true] at e2
      obtain ⟨rfl, rfl, e3⟩ := e2
      rw [e3]
      exact (hseen _).2 (all_seen E seen h0 E[i] (by simp))
    · refine does_pure hs.heap (x := .tuple #[.bool false]) ?_ .v
      simp only [execOp, hop, hv]
      simp [hrun]
  · obtain ⟨hm, hns⟩ := mem_left hen
    obtain ⟨i, hi, hie⟩ := List.mem_iff_getElem.1 hm
    have hie' : E[i]? = some en := by
      have hi' : i < E.size := by simpa using hi
      rw [Array.getElem?_eq_getElem hi']
      simpa using hie
    obtain ⟨k, y, e2, r1, r2⟩ := hrow i en hie'
    refine .inr ⟨i, k, y, _, e2, fun hc => ?_, ?_⟩
    · rw [(hseen _).1 hc] at hns; cases hns
    · have hs1 : HSim base w0 β fz H w1 ∧ Ext H.length β fz w H.length β fz w1 := by
        rcases hal with rfl | rfl
        · exact ⟨hs.heap, Ext.refl _ _ _ _⟩
        · exact hs.heap.drew
      have hw1 : w1.heap[β rid]? = some (.mapIter (some (β id)) since seen stepped) := by rcases hal with rfl | rfl <;> exact g1
      have hidlt : id < H.length := (List.getElem?_eq_some_iff.1 hmp).1
      have hbl : β rid < w1.heap.size := (Array.getElem?_eq_some_iff.1 hw1).1
      have hG : GSim base β fz (setBlock w1 (β rid) (.mapIter (some (β id)) since (seen.push en.born) clock)) H.length rid [[.ptr id 0 0 0, .v (.int .i64 s), .v (.int .i64 t)], sn ++ [.v (.int .i64 (en.born : Int))]] := by
        refine ⟨.mapIter (some (β id)) since (seen.push en.born) clock, [[.map (some (β id)), .int .i64 (since : Int), .int .i64 (clock : Int)], (seen.push en.born).toList.map fun (s : Nat) => .int .i64 (s : Int)], by simp [setBlock, hbl], .inr ⟨_, _, _, _, rfl, rfl⟩, ⟨rfl, fun j r xx hj hxx => ?_⟩, _, _, rfl, by simp⟩
        match j, hj, hxx with
        | 0, hj, hxx =>
          simp only [List.getElem?_cons_zero, Option.some.injEq] at hj hxx
          subst hj hxx
          refine ⟨rfl, fun q u v hu hvv => ?_⟩
          match q, hu, hvv with
          | 0, hu, hvv => simp at hu hvv; subst hu hvv; exact .mp hidlt
          | 1, hu, hvv => simp at hu hvv; subst hu hvv; rw [g2]; exact .v
          | 2, hu, hvv => simp at hu hvv; subst hu hvv; rw [e1]; exact .v
        | 1, hj, hxx =>
          simp only [List.getElem?_cons_succ, List.getElem?_cons_zero, Option.some.injEq] at hj hxx
          subst hj hxx
          refine ⟨by simp [g4], fun q u v hu hvv => ?_⟩
          by_cases hq : q < sn.length
          · rw [List.getElem?_append_left hq] at hu
            obtain ⟨bb, hbb⟩ := hsw u (List.mem_of_getElem? hu)
            have hqs : q < seen.size := by omega
            have h5 := g5 q u seen[q] hu (Array.getElem?_eq_getElem hqs)
            have hv2 : v = .int .i64 (seen[q] : Int) := by
              rw [List.getElem?_map, Array.getElem?_toList, Array.getElem?_push_lt hqs] at hvv
              simpa using hvv.symm
            subst hv2
            rw [hbb] at h5 ⊢
            rw [h5.v_inv]
            exact .v
          · have hq2 : q = sn.length := by
              have := (List.getElem?_eq_some_iff.1 hu).1
              simp at this; omega
            subst hq2
            simp at hu
            subst hu
            have hv2 : v = .int .i64 (en.born : Int) := by
              rw [g4] at hvv
              simpa using hvv.symm
            subst hv2
            exact .v
      have hnc : ∀ cs e f, w1.heap[β rid]? ≠ some (.cells cs e f) := fun _ _ _ h => by rw [hw1] at h; cases h
      obtain ⟨q1, q2⟩ := hs1.1.setG hit hnc hG
      refine does_val (w' := setBlock w1 (β rid) (.mapIter (some (β id)) since (seen.push en.born) clock)) (x := .tuple #[.bool true, en.key, en.val]) ?_ q1 (hs1.2.trans q2) ?_
      · simp only [execOp, hop, hv]
        simp [hrun]
      · have e3 := hs1.2.trans q2
        refine .tup (by simp) fun j u hu => ?_
        match j, hu with
        | 0, hu => simp at hu; subst hu; simpa using .v
        | 1, hu => simp at hu; subst hu; simpa using r1.ext e3
        | 2, hu => simp at hu; subst hu; simpa using r2.ext e3
theorem region_wpN (hC : OrcOk P C) {id : Nat} {K : Env → Heap → Prop} {Q : Exit → Act → World → Prop} (hs : Sim nt base w0 β fz ρ H a w) (h : RunN P C nt.nt ops K ρ H)
    (hQ : ∀ ρ H β fz a w, K ρ H → Sim nt base w0 β fz ρ H a w → Q .normal a w) : (Code.region id ops false).wp P Q a w := by
  unfold RunN at h
  split at h
  · exact h.elim
  rename_i o l hol
  split at h
  case h_2 => exact h.elim
  rename_i x d hop hg hd
  obtain ⟨hdn, h⟩ := h
  split at h
  case h_2 => exact h.elim
  rename_i rid hx
  obtain ⟨mid, s, c, t, sn, es, hit, hmp, hts, hsc, hwf, hsw, hY, hN⟩ := h
  apply wp_region
  have hsize : ops.size = l.length + 1 := by rw [← Array.length_toList, hol]; rfl
  have ho : ops[0]? = some o := by rw [← Array.getElem?_toList, hol]; rfl
  have htail : ∀ j, l[j]? = ops[1 + j]? := fun j => by rw [← Array.getElem?_toList, hol, Nat.add_comm]; simp
  have hrng : List.range ops.size = 0 :: List.range' 1 l.length := by
    rw [hsize, List.range_eq_range', List.range'_succ]
  rw [hrng, wpOps_cons]
  unfold wpOp
  simp only [ho]
  have hw : Region.wanted o (yielded ops a.tmps) = true := by simp [Region.wanted, hg]
  rw [hw]
  simp only [if_true]
  left
  have hd' : ∀ t, o.dst = some t → t < nt.nt := fun t ht => by rw [hd] at ht; cases ht; exact hdn
  have fin : ∀ (av : AVal) (H' : Heap), Does P o a w base w0 β fz H av H' → RunK P C nt.nt ops l K (put ρ (some d) av) H' → Oper.wp P o a w (fun a' w' => wpOps P ops Q (List.range' 1 l.length) a' w') Q := by
    intro av H' hdo hk
    refine hdo _ _ (fun y β' fz' w' h1 h2 h3 => ?_)
    have hs2 := hs.put h1 h2 hd' h3
    rw [hd] at hs2
    unfold RunK at hk
    split at hk
    · rename_i s2 hrun
      rw [hd]
      exact seq_wp hC Q (fun β fz a w hs3 => hQ _ _ β fz a w hk hs3) l 1 _ _ β' fz' _ w' htail hrun hs2
    · exact hk.elim
  rcases next_does hop hs hx hit hmp hts hsc hwf hsw with ⟨q1, q2⟩ | ⟨i, k, y, b, q1, q2, q3⟩
  · exact fin _ _ q2 (hN q1)
  · exact fin _ _ q3 (hY i k y b q1 q2)
end
end Go.AI
/- A region some operations of which come in several orders. -/
namespace Go.AI
set_option linter.unusedSimpArgs false
set_option linter.unusedVariables false
section
variable {nt : Fr} {base : Nat} {w0 : World} {P : Program} {C : Orc} {ops : Array Oper}
theorem split_uniq {i : Nat} : ∀ {l1 m1 l2 m2 : List Nat}, (l1 ++ i :: l2).Nodup → l1 ++ i :: l2 = m1 ++ i :: m2 → l1 = m1
  | [], [], _, _, _, _ => rfl
  | [], x :: m1, l2, m2, hn, h => by
    simp only [List.nil_append, List.cons_append, List.cons.injEq] at h
    obtain ⟨rfl, rfl⟩ := h
    rw [List.nil_append, List.nodup_cons] at hn
    exact absurd (by simp) hn.1
  | x :: l1, [], l2, m2, hn, h => by
    simp only [List.nil_append, List.cons_append, List.cons.injEq] at h
    obtain ⟨rfl, rfl⟩ := h
    rw [List.cons_append, List.nodup_cons] at hn
    exact absurd (by simp) hn.1
  | x :: l1, y :: m1, l2, m2, hn, h => by
    simp only [List.cons_append, List.cons.injEq] at h
    rw [List.cons_append, List.nodup_cons] at hn
    rw [h.1, split_uniq hn.2 h.2]
/-- these orders are all the orders that there are of the operations Xr -/
def chkM (B : List Nat) : Nat → List Nat → List (List Nat) → Bool
  | 0, Xr, T => !T.isEmpty && Xr.isEmpty
  | n + 1, Xr, T => !T.isEmpty && Xr.all fun x => (Xr.any fun y => (B.getD x 0).testBit y) || chkM B n (Xr.filter (fun y => y != x)) (T.filter fun τ => (τ.find? fun k => Xr.contains k) == some x)
theorem chkM_ne {B : List Nat} : ∀ {n : Nat} {Xr : List Nat} {T : List (List Nat)}, chkM B n Xr T = true → T ≠ []
  | 0, Xr, T, h => by
    simp only [chkM, Bool.and_eq_true, Bool.not_eq_true', List.isEmpty_eq_false_iff] at h
    exact h.1
  | n + 1, Xr, T, h => by
    simp only [chkM, Bool.and_eq_true, Bool.not_eq_true', List.isEmpty_eq_false_iff] at h
    exact h.1
/-- a run in one of the orders that are left -/
def OrdOk (P : Program) (C : Orc) (nt : Fr) (base : Nat) (w0 : World) (ops : Array Oper) (X0 : List Nat) (n0 : Nat) (Q : Exit → Act → World → Prop) (listed : Array Bool) (ρ : Env) (H : Heap) (τ : List Nat) : Prop :=
  ∃ (F : Nat → Foot) (ρn : Env) (Hn : Heap) (r : Env × Heap), IsPerm ops τ ∧ (τ.Pairwise fun k i => FineP C ops F n0 k i ∨ (X0.contains k = true ∧ X0.contains i = true)) ∧
    (∀ β fz ρ a w, EqE ρn ρ → Sim nt base w0 β fz ρ Hn a w → Q .normal a w) ∧ runG P C nt.nt ops F n0 (restT τ listed) (ρ, H) = some r ∧ EqS (ρn, Hn) r
theorem any_wpM {n0 : Nat} {X0 : List Nat} (hC : OrcOk P C) (hE : EdgesLt ops) (Q : Exit → Act → World → Prop) :
    ∀ (fuel : Nat) (n : Nat) (T : List (List Nat)) (listed : Array Bool) (ρ : Env) (H : Heap) (β : Nat → Nat) (fz : Nat → Prop) (a : Act) (w : World), listed.size = ops.size → (rest ops listed).length = fuel → Closed ops listed →
      chkM (befs ops.toList []) n (X0.filter fun k => !listed.getD k true) T = true → (∀ τ ∈ T, OrdOk P C nt base w0 ops X0 n0 Q listed ρ H τ) → Sim nt base w0 β fz ρ H a w → wpAny P .any ops Q fuel listed a w := by
  intro fuel
  induction fuel with
  | zero =>
    intro n T listed ρ H β fz a w hsz hlen hcl hchk hT hs
    have hnil : rest ops listed = [] := List.length_eq_zero_iff.1 hlen
    obtain ⟨τ, hτT⟩ := List.exists_mem_of_ne_nil T (chkM_ne hchk)
    obtain ⟨F, ρn, Hn, r, hτ, hpw, hQ, hrun, hr⟩ := hT τ hτT
    have hnilT : restT τ listed = [] := List.length_eq_zero_iff.1 (by rw [restT_len hτ, hlen])
    rw [hnilT] at hrun
    simp only [runG, Option.some.injEq] at hrun
    subst hrun
    simp only [wpAny]
    refine ⟨any_end hnil, ?_⟩
    obtain ⟨h1, h2⟩ := hr
    simp only at h1 h2
    subst h2
    exact hQ β fz ρ a w h1 hs
  | succ fuel ih =>
    intro n T listed ρ H β fz a w hsz hlen hcl hchk hT hs
    simp only [wpAny]
    refine ⟨fun h => absurd h (ready_first hE hsz (fun h => by rw [h] at hlen; simp at hlen)), ?_⟩
    intro i hi
    -- what is ready is not listed, and nothing before it is left
    have hred := hi
    unfold Region.ready at hred
    rw [List.mem_filter] at hred
    obtain ⟨hi1, hi2⟩ := hred
    have hi1' : i < ops.size := by simpa using hi1
    have ho' : ops[i]? = some ops[i] := Array.getElem?_eq_getElem hi1'
    simp only [Bool.and_eq_true, ho', Option.map_some, Option.getD_some, Array.all_eq_true', Bool.or_eq_true, Bool.not_eq_true'] at hi2
    obtain ⟨hul, hed⟩ := hi2
    have hgi : ops.getD i default = ops[i] := by simp [Array.getD, hi1']
    have hall0 : ∀ e ∈ (ops.getD i default).after.toList, Region.binds .any e = true → listed.getD e.on false = true := by
      intro e he hb
      rw [hgi] at he
      rcases hed e (Array.mem_toList_iff.1 he) with h | h
      · rw [hb] at h; cases h
      · exact h
    -- the orders in which it may come next
    have key : ∃ (n' : Nat) (T' : List (List Nat)), (∀ τ ∈ T', τ ∈ T) ∧ chkM (befs ops.toList []) n' (X0.filter fun k => !(listed.setIfInBounds i true).getD k true) T' = true ∧
        ∀ τ ∈ T', IsPerm ops τ → ∀ l1 l2, restT τ listed = l1 ++ i :: l2 → ∀ k ∈ l1, ¬ (X0.contains k = true ∧ X0.contains i = true) := by
      have hXr : (X0.filter fun k => !(listed.setIfInBounds i true).getD k true) = (X0.filter fun k => !listed.getD k true).filter (fun y => y != i) := by
        rw [List.filter_filter]
        apply List.filter_congr
        intro k hk
        by_cases hki : k = i
        · subst hki
          simp [Array.getD_eq_getD_getElem?, hsz, hi1']
        · rw [Array.getD_eq_getD_getElem?, Array.getElem?_setIfInBounds_ne (by omega), ← Array.getD_eq_getD_getElem?]
          simp [hki]
      by_cases hiX : i ∈ X0
      · have hiXr : i ∈ X0.filter fun k => !listed.getD k true := List.mem_filter.2 ⟨hiX, by simp [hul]⟩
        cases n with
        | zero =>
          simp only [chkM, Bool.and_eq_true, List.isEmpty_iff] at hchk
          rw [hchk.2] at hiXr
          cases hiXr
        | succ n =>
          simp only [chkM, Bool.and_eq_true, List.all_eq_true, Bool.or_eq_true] at hchk
          rcases hchk.2 i hiXr with h | h
          · exfalso
            rw [List.any_eq_true] at h
            obtain ⟨y, hy, hb⟩ := h
            have hyl := bef_listed hE hcl i y hi1' hall0 hb
            rw [List.mem_filter] at hy
            by_cases hys : y < ops.size
            · rw [← getD_listed hsz hys] at hyl
              rw [hyl] at hy
              simp at hy
            · have : listed.getD y true = true := by rw [Array.getD_eq_getD_getElem?, Array.getElem?_eq_none (by omega)]; rfl
              rw [this] at hy
              simp at hy
          · refine ⟨n, _, fun τ hτ => (List.mem_filter.1 hτ).1, by rw [hXr]; exact h, fun τ hτ hp l1 l2 hl k hk hkx => ?_⟩
            have hf := (List.mem_filter.1 hτ).2
            rw [beq_iff_eq, List.find?_eq_some_iff_append] at hf
            obtain ⟨hci, as, bs, hab, hno⟩ := hf
            -- k lies before i in τ, and is left
            have hnd := hp.1
            have hkr : k ∈ restT τ listed := by rw [hl]; simp [hk]
            unfold restT at hkr
            rw [List.mem_filter] at hkr
            have hkX : (X0.filter fun k => !listed.getD k true).contains k = true := by
              rw [List.contains_iff_mem, List.mem_filter]
              exact ⟨by simpa using hkx.1, hkr.2⟩
            have hka : k ∈ as := by
              have h1 : restT τ listed = (as.filter fun j => !listed.getD j true) ++ i :: (bs.filter fun j => !listed.getD j true) := by
                unfold restT
                rw [hab, List.filter_append, List.filter_cons, if_pos (by simp [hul])]
              have hndr : (restT τ listed).Nodup := hnd.sublist List.filter_sublist
              have h2 := split_uniq (by rw [← hl]; exact hndr) (hl.symm.trans h1)
              rw [h2] at hk
              exact (List.mem_filter.1 hk).1
            have hq := hno k hka
            simp only [hkX] at hq
            cases hq
      · refine ⟨n, T, fun τ h => h, ?_, fun τ hτ hp l1 l2 hl k hk hkx => hiX (by simpa using hkx.2)⟩
        rw [hXr, List.filter_eq_self.2 (fun y hy => by
          have := (List.mem_filter.1 hy).1
          simp
          rintro rfl
          exact hiX this)]
        exact hchk
    obtain ⟨n', T', hsub, hchk', hfr⟩ := key
    have pick : ∀ τ ∈ T', ∃ s1, step1 P C nt.nt ops (ops.getD i default) (ρ, H) = some s1 ∧ (∀ e ∈ (ops.getD i default).after.toList, Region.binds .any e = true → listed.getD e.on false = true) ∧ OrdOk P C nt base w0 ops X0 n0 Q (listed.setIfInBounds i true) s1.1 s1.2 τ ∧ (restT τ (listed.setIfInBounds i true)).length + 1 = (restT τ listed).length ∧ IsPerm ops τ := by
      intro τ hτ'
      obtain ⟨F, ρn, Hn, r, hτ, hpw, hQ, hrun, hr⟩ := hT τ (hsub τ hτ')
      obtain ⟨_, hall, s1, r', h1, h2, h3, h4⟩ := pick_front hC hE hsz hcl hτ hi hrun (fun l1 l2 h k hk => by
        have hpr := hpw.sublist (List.filter_sublist (l := τ) (p := fun i => !listed.getD i true))
        change (restT τ listed).Pairwise _ at hpr
        rw [h] at hpr
        rcases (List.pairwise_append.1 hpr).2.2 k hk i (by simp) with q | q
        · exact q
        · exact absurd q (hfr τ hτ' hτ l1 l2 h k hk))
      exact ⟨s1, h1, hall, ⟨F, ρn, Hn, r', hτ, hpw, hQ, h2, ⟨fun t => (hr.1 t).trans (h3.1 t), hr.2.trans h3.2⟩⟩, h4, hτ⟩
    obtain ⟨τ0, hτ0⟩ := List.exists_mem_of_ne_nil T' (chkM_ne hchk')
    obtain ⟨s1, h1, hall, _, h4, hp0⟩ := pick τ0 hτ0
    have ho : ops[i]? = some (ops.getD i default) := by simp [Array.getD, hi1']
    refine step1_wp (nt := nt) (base := base) (w0 := w0) hC (o := ops.getD i default) ho hs h1 ?_
    intro a' w' β' fz' hs'
    refine ih n' T' (listed.setIfInBounds i true) s1.1 s1.2 β' fz' a' w' (by simp [hsz]) ?_ (closed_set hsz hcl hi1' hall) hchk' (fun τ hτ' => ?_) hs'
    · have e1 := restT_len hp0 (listed.setIfInBounds i true)
      have e2 := restT_len hp0 listed
      omega
    · obtain ⟨s1', g1, _, g2, _, _⟩ := pick τ hτ'
      rw [h1] at g1
      cases g1
      exact g2
/-- free of races, but for some pairs, and for the operations X0, which come in the orders T -/
def raceFreeM (inl : FuncId → Bool) (X0 : List Nat) (pairs : List (Nat × Nat)) (T : List (List Nat)) (ops : Array Oper) : Bool :=
  let B := befs ops.toList []
  (ops.toList.zipIdx.all fun (o, i) => o.after.all fun e => !Region.binds .any e || decide (e.on < i)) && chkM B X0.length X0 T && (X0.all fun x => decide (x < ops.size)) &&
  T.all fun τ => (τ.all fun i => decide (i < ops.size)) && ((List.range ops.size).all fun i => τ.contains i) && pairsAll (fun i j => i != j) τ && pairsAll (fun i j => fineB inl pairs ops B i j || (X0.contains i && X0.contains j)) τ
theorem region_wpM (hC : OrcOk P C) (hm : P.follows .mixedOrders = true) {id : Nat} {X0 : List Nat} {pairs : List (Nat × Nat)} {idx : List Nat} {T : List (List Nat)} (hrf : raceFreeM C.inl X0 pairs T ops = true) (Q : Exit → Act → World → Prop) {ρ : Env} {H : Heap} {β : Nat → Nat} {fz : Nat → Prop} {a : Act} {w : World}
    (hs : Sim nt base w0 β fz ρ H a w)
    (hT : ∀ τ ∈ T, ∃ ρ1 H1 f1, runFT P C nt.nt ops idx H.length τ (ρ, H) = some ((ρ1, H1), f1) ∧ (∀ q ∈ pairs, apart H.length (footAt f1 q.1) (footAt f1 q.2) = true) ∧ ∀ β fz a w, Sim nt base w0 β fz ρ1 H1 a w → Q .normal a w) : (Code.region id ops true).wp P Q a w := by
  simp only [raceFreeM, Bool.and_eq_true] at hrf
  obtain ⟨⟨⟨hlt, hchk⟩, hX0⟩, hall⟩ := hrf
  have hX : ∀ x ∈ X0, x < ops.size := fun x hx => by simpa using List.all_eq_true.1 hX0 x hx
  have hE : EdgesLt ops := by
    intro i o ho e he hb
    have h1 := List.all_eq_true.1 hlt (o, i) (by
      rw [List.mem_zipIdx_iff_getElem?]
      simpa using ho)
    simp only [Array.all_eq_true', Bool.or_eq_true, Bool.not_eq_true', decide_eq_true_eq] at h1
    rcases h1 e (Array.mem_toList_iff.1 he) with h | h
    · rw [hb] at h; cases h
    · exact h
  have fine : ∀ (F : Nat → Foot), (∀ q ∈ pairs, apart H.length (F q.1) (F q.2) = true) → ∀ i j, fineB C.inl pairs ops (befs ops.toList []) i j = true → FineP C ops F H.length i j := by
    intro F hap i j h
    simp only [fineB, Bool.or_eq_true] at h
    rcases h with (h | h) | h
    · exact .inl (.inl h)
    · simp only [Bool.and_eq_true, Bool.not_eq_true', Bool.or_eq_true, List.contains_iff_mem] at h
      refine .inl (.inr ⟨h.1.2, h.2, ?_⟩)
      rcases h.1.1 with h | h
      · exact hap _ h
      · exact apart_symm (hap _ h)
    · exact .inr h
  apply wp_region_any hm
  have hrest : rest ops (Array.replicate ops.size false) = List.range ops.size := by
    unfold rest
    rw [List.filter_eq_self]
    intro i hi
    have : i < ops.size := by simpa using hi
    simp [Array.getD_eq_getD_getElem?, this]
  have hrT : ∀ τ', (∀ i ∈ τ', i < ops.size) → restT τ' (Array.replicate ops.size false) = τ' := by
    intro τ' h
    unfold restT
    rw [List.filter_eq_self]
    intro i hi
    have := h i hi
    simp [Array.getD_eq_getD_getElem?, this]
  obtain ⟨τ0, hτ0⟩ := List.exists_mem_of_ne_nil T (chkM_ne hchk)
  have permOf : ∀ τ ∈ T, IsPerm ops τ := by
    intro τ hτ
    have h := List.all_eq_true.1 hall τ hτ
    simp only [Bool.and_eq_true] at h
    obtain ⟨⟨⟨h1, h2⟩, h3⟩, _⟩ := h
    have hnd : τ.Nodup := by
      refine (pairsAll_pw h3).imp ?_
      intro i j h
      simpa using h
    have hlt2 : ∀ i ∈ τ, i < ops.size := fun i hi => by simpa using List.all_eq_true.1 h1 i hi
    exact ⟨hnd, fun i => ⟨hlt2 i, fun hi => by simpa using List.all_eq_true.1 h2 i (by simpa using hi)⟩⟩
  refine any_wpM (n0 := H.length) (X0 := X0) hC hE Q ops.size X0.length T _ ρ H β fz a _ (by simp) (by rw [hrest]; simp) ?_ ?_ (fun τ hτ => ?_) hs.drew
  · intro i o ho hl
    have : i < ops.size := (Array.getElem?_eq_some_iff.1 ho).1
    simp [Array.getD_eq_getD_getElem?, this] at hl
  · rw [List.filter_eq_self.2 (fun k hk => by simp [Array.getD_eq_getD_getElem?, hX k hk])]
    exact hchk
  · obtain ⟨ρ1, H1, f1, hrun, hap, hQ⟩ := hT τ hτ
    have hp := permOf τ hτ
    have h := List.all_eq_true.1 hall τ hτ
    simp only [Bool.and_eq_true] at h
    have hg := runFT_G (P := P) (C := C) (ops := ops) _ _ _ f1 f1 hp.1 hrun (fun _ _ => rfl)
    refine ⟨footAt f1, ρ1, H1, (ρ1, H1), hp, ?_, fun β fz ρ a w he hs => hQ β fz a w ⟨hs.heap, hs.defers, hs.size, hs.ext, fun t => by rw [he t]; exact hs.env t⟩, ?_, ⟨fun _ => rfl, rfl⟩⟩
    · refine (pairsAll_pw h.2).imp ?_
      intro i j h
      simp only [Bool.or_eq_true, Bool.and_eq_true] at h
      rcases h with h | h
      · exact .inl (fine _ hap i j h)
      · exact .inr h
    · rw [hrT _ (fun i hi => (hp.2 i).1 hi)]
      exact hg
end
end Go.AI
