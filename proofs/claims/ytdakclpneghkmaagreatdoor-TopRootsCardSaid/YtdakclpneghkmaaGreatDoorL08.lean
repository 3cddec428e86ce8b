/- A map walked through: the next entry, whichever it is. -/
import Derived.Test.YtdakclpneghkmaaGreatDoorL07
import Derived.Test.YtdakclpneghkmaaGreatDoorL05
import Derived.Deep.LoopGhost
import Derived.LoopN
namespace Go.AI
set_option linter.unusedSectionVars false
variable [Sym]
set_option linter.unusedSimpArgs false
set_option linter.unusedVariables false
open Go.RowKit
open Go.ChangeMaps (setBlock)
def RunK (P : Program) (C : Orc) (nt : Nat) (ops : Array Oper) (l : List Oper) (K : Env → Heap → Prop) (ρ : Env) (H : Heap) : Prop :=
 match runL P C nt ops l (ρ, H) with
 | some s => K s.1 s.2
 | none => False
def StepN (P : Program) (C : Orc) (nt : Nat) (ops : Array Oper) (l : List Oper) (K : Env → Heap → Prop) (d : Tmp) (ρ : Env) (H : Heap) (rid id : Nat) (s c t : Int) (sn : Row) (es : List Row) : Prop :=
 t = s ∧ s ≤ c ∧ (∀ r ∈ es, ∃ k a b, r = [k, a, .v (.int .i64 b)]) ∧ (∀ x ∈ sn, ∃ b, x = .v (.int .i64 b)) ∧
  (∀ (i : Nat) (k a : AVal) (b : Int), es[i]? = some [k, a, .v (.int .i64 b)] → AVal.v (.int .i64 b) ∉ sn →
   RunK P C nt ops l K (put ρ (some d) (.tup [.v (.bool true), k, a])) (H.set rid (some (0, [[.ptr id 0 0 0, .v (.int .i64 s), .v (.int .i64 t)], sn ++ [.v (.int .i64 b)]])))) ∧
  ((∀ (i : Nat) (k a : AVal) (b : Int), es[i]? = some [k, a, .v (.int .i64 b)] → AVal.v (.int .i64 b) ∈ sn) → RunK P C nt ops l K (put ρ (some d) (.v (.tuple #[.bool false]))) H)
def IterN (P : Program) (C : Orc) (nt : Nat) (ops : Array Oper) (l : List Oper) (K : Env → Heap → Prop) (d : Tmp) (ρ : Env) (H : Heap) (rid : Nat) : Prop :=
 ∃ (id : Nat) (s c t : Int) (sn : Row) (es : List Row), H[rid]? = some (some (0, [[.ptr id 0 0 0, .v (.int .i64 s), .v (.int .i64 c)], sn])) ∧ H[id]? = some (some (0, [.v (.int .i64 t)] :: es)) ∧ StepN P C nt ops l K d ρ H rid id s c t sn es
def RunN (P : Program) (C : Orc) (nt : Nat) (ops : Array Oper) (K : Env → Heap → Prop) (ρ : Env) (H : Heap) : Prop :=
 match ops.toList with
 | [] => False
 | o :: l => match o.op, o.guard, o.dst with
  | .next x false, none, some d => d < nt ∧ match ev ρ x with
   | .ptr rid 1 0 0 => IterN P C nt ops l K d ρ H rid
   | _ => False
  | _, _, _ => False
@[congr] theorem RunK_congr {P : Program} {C : Orc} {nt : Nat} {ops : Array Oper} {l : List Oper} {K : Env → Heap → Prop} {ρ ρ' : Env} {H H' : Heap} (h1 : ρ = ρ') (h2 : H = H') : RunK P C nt ops l K ρ H = RunK P C nt ops l K ρ' H' := by rw [h1, h2]
@[congr] theorem RunN_congr {P : Program} {C : Orc} {nt : Nat} {ops : Array Oper} {K : Env → Heap → Prop} {ρ ρ' : Env} {H H' : Heap} (h1 : ρ = ρ') (h2 : H = H') : RunN P C nt ops K ρ H = RunN P C nt ops K ρ' H' := by rw [h1, h2]
@[congr] theorem IterN_congr {P : Program} {C : Orc} {nt : Nat} {ops : Array Oper} {l : List Oper} {K : Env → Heap → Prop} {d : Tmp} {ρ ρ' : Env} {H H' : Heap} {r r' : Nat} (h1 : ρ = ρ') (h2 : H = H') (h3 : r = r') : IterN P C nt ops l K d ρ H r = IterN P C nt ops l K d ρ' H' r' := by rw [h1, h2, h3]
theorem RunK_mono {P : Program} {C : Orc} {nt : Nat} {ops : Array Oper} {l : List Oper} {K K' : Env → Heap → Prop} {ρ : Env} {H : Heap} (hK : ∀ ρ H, K ρ H → K' ρ H) (h : RunK P C nt ops l K ρ H) : RunK P C nt ops l K' ρ H := by
 unfold RunK at h ⊢
 split at h
 ·exact hK _ _ h
 ·exact h.elim
theorem RunN_mono {P : Program} {C : Orc} {nt : Nat} {ops : Array Oper} {K K' : Env → Heap → Prop} {ρ : Env} {H : Heap} (hK : ∀ ρ H, K ρ H → K' ρ H) (h : RunN P C nt ops K ρ H) : RunN P C nt ops K' ρ H := by
 unfold RunN at h ⊢
 split at h
 ·exact h.elim
 ·rename_i o l hol
  split at h
  ·rename_i x d hop hg hd
   obtain ⟨h1, h⟩ := h
   refine ⟨h1, ?_⟩
   split at h
   ·obtain ⟨id, s, c, t, sn, es, q1, q2, q3, q4, q5, q6, q7, q8⟩ := h
    exact ⟨id, s, c, t, sn, es, q1, q2, q3, q4, q5, q6, fun i k a b e n => RunK_mono hK (q7 i k a b e n), fun e => RunK_mono hK (q8 e)⟩
   ·exact h.elim
  ·exact h.elim
section
variable {nt : Fr} {base : Nat} {w0 : World} {β : Nat → Nat} {fz : Nat → Prop} {ρ ρ' : Env} {H H' : Heap} {a : Act} {w : World} {P : Program} {C : Orc} {ops : Array Oper}
theorem HSim.setG (hs : HSim base w0 β fz H w) {id : Nat} {rows rows' : List Row} (hid : H[id]? = some (some (0, rows))) (hnc : ∀ cs e f, w.heap[β id]? ≠ some (.cells cs e f)) {ob : Obj}
  (hG : GSim base β fz (setBlock w (β id) ob) H.length id rows') :
  HSim base w0 β fz (H.set id (some (0, rows'))) (setBlock w (β id) ob) ∧ Ext H.length β fz w (H.set id (some (0, rows'))).length β fz (setBlock w (β id) ob) := by
 have hlive : Live H id := ⟨_, hid⟩
 have hown := hs.own id hlive
 have hb := hs.blt hlive
 have hoth : ∀ k, k ≠ β id → (setBlock w (β id) ob).heap[k]? = w.heap[k]? := fun k h => by
  simp only [setBlock]; rw [Array.getElem?_setIfInBounds_ne (fun e => h e.symm)]
 have shp : Shapes w (setBlock w (β id) ob) := by
  intro b cs e f h
  have hne : b ≠ β id := fun q => by rw [q] at h; exact hnc _ _ _ h
  exact ⟨cs, f, by rw [hoth b hne]; exact h, rfl⟩
 have ext : Ext H.length β fz w (H.set id (some (0, rows'))).length β fz (setBlock w (β id) ob) :=
  ⟨by simp, fun _ _ => rfl, fun _ h => h, fun b hb => hoth b (fun e => hown.2 (e ▸ hb)), shp⟩
 refine ⟨⟨?_, ?_, ?_, ?_, ?_, hs.base⟩, ext⟩
 ·intro k sz' rws hk
  by_cases hki : k = id
  ·subst hki
   have hlt : k < H.length := (List.getElem?_eq_some_iff.1 hid).1
   rw [List.getElem?_set_self hlt] at hk
   simp only [Option.some.injEq, Prod.mk.injEq] at hk
   obtain ⟨rfl, rfl⟩ := hk
   rw [OSim, if_pos rfl, List.length_set]
   exact .inr hG
  ·rw [List.getElem?_set_ne (by omega)] at hk
   have hne : β k ≠ β id := fun he => hki (hs.inj k id ⟨_, hk⟩ hlive he)
   exact (hs.objs' k sz' rws hk).ext ext (hoth _ hne)
 ·exact fun a b ha hb => hs.inj a b (ha.set hlive) (hb.set hlive)
 ·exact fun k hk => hs.own k (hk.set hlive)
 ·exact fun b hb => by have := hs.fzlt b hb; simpa [setBlock] using this
 ·exact hs.below.trans ⟨rfl, rfl, rfl, by simp [setBlock], fun k hk => hoth k (by omega), Nat.le_refl _⟩
theorem next_does {o : Oper} {x : Operand} {rid id : Nat} {s c t : Int} {sn : Row} {es : List Row} (hop : o.op = .next x false) (hs : Sim nt base w0 β fz ρ H a w) (hx : ev ρ x = .ptr rid 1 0 0)
  (hit : H[rid]? = some (some (0, [[.ptr id 0 0 0, .v (.int .i64 s), .v (.int .i64 c)], sn]))) (hmp : H[id]? = some (some (0, [.v (.int .i64 t)] :: es))) (hts : t = s) (hsc : s ≤ c)
  (hwf : ∀ r ∈ es, ∃ k a b, r = [k, a, .v (.int .i64 b)]) (hsw : ∀ y ∈ sn, ∃ b, y = AVal.v (.int .i64 b)) :
  ((∀ (i : Nat) (k a : AVal) (b : Int), es[i]? = some [k, a, .v (.int .i64 b)] → AVal.v (.int .i64 b) ∈ sn) ∧ Does P o a w base w0 β fz H (.v (.tuple #[.bool false])) H) ∨
  ∃ (i : Nat) (k y : AVal) (b : Int), es[i]? = some [k, y, .v (.int .i64 b)] ∧ AVal.v (.int .i64 b) ∉ sn ∧ Does P o a w base w0 β fz H (.tup [.v (.bool true), k, y]) (H.set rid (some (0, [[.ptr id 0 0 0, .v (.int .i64 s), .v (.int .i64 t)], sn ++ [.v (.int .i64 b)]]))) := by
 have hv := hs.ev x
 rw [hx] at hv
 obtain ⟨_, hv⟩ := ptrV (by decide) hv
 obtain ⟨E, clock, h1, hbn, e1, hl, hr⟩ := hs.heap.walk hmp
 obtain ⟨since, stepped, seen, g1, g2, g3, g4, g5⟩ := hs.heap.iter hit
 have hold : ∀ z ∈ E.toList, z.born < since := fun z hz => by have := hbn.lt z hz; omega
 have hst : since ≤ stepped := by omega
 have hclock : clock = since := by omega
 -- an entry's row
 have hrow : ∀ (i : Nat) (en : MapEntry), E[i]? = some en → ∃ k y, es[i]? = some [k, y, .v (.int .i64 (en.born : Int))] ∧ R β (okOf base fz) w H.length k en.key ∧ R β (okOf base fz) w H.length y en.val := by
  intro i en hi
  have hie : i < es.length := by rw [hl]; exact (Array.getElem?_eq_some_iff.1 hi).1
  obtain ⟨k, y, b, e2, r1, r2, r3⟩ := hr i es[i] en (List.getElem?_eq_getElem hie) hi
  obtain ⟨k', y', b', e3⟩ := hwf es[i] (List.getElem_mem hie)
  rw [e2] at e3
  simp only [List.cons.injEq, and_true] at e3
  obtain ⟨rfl, rfl, rfl⟩ := e3
  have := r3.v_inv
  refine ⟨k, y, ?_, r1, r2⟩
  rw [List.getElem?_eq_getElem hie, e2, this]
 have hseen : ∀ (m : Nat), AVal.v (.int .i64 (m : Int)) ∈ sn ↔ seen.contains m = true := by
  intro m
  rw [Array.contains_iff_mem]
  constructor
  ·intro hm
   obtain ⟨j, hj⟩ := List.mem_iff_getElem?.1 hm
   have hjl : j < seen.size := by rw [← g4]; exact (List.getElem?_eq_some_iff.1 hj).1
   have := (g5 j _ _ hj (Array.getElem?_eq_getElem hjl)).v_inv
   simp only [Value.int.injEq, true_and] at this
   have : m = seen[j] := by omega
   rw [this]; exact Array.getElem_mem hjl
  ·intro hm
   obtain ⟨j, hj, rfl⟩ := Array.mem_iff_getElem.1 hm
   have hjl : j < sn.length := by omega
   obtain ⟨b, hb⟩ := hsw sn[j] (List.getElem_mem hjl)
   have h5 := g5 j _ _ (List.getElem?_eq_getElem hjl) (Array.getElem?_eq_getElem hj)
   rw [hb] at h5
   have := h5.v_inv
   rw [this, ← hb]
   exact List.getElem_mem hjl
 rcases run_next_at (P := P) w o.type (β rid) (β id) since stepped seen E clock g1 h1 hold hst with ⟨h0, hrun⟩ | ⟨en, hen, w1, hal, hrun⟩
 ·refine .inl ⟨fun i k y b hi => ?_, ?_⟩
  ·have hie : i < E.size := by rw [← hl]; exact (List.getElem?_eq_some_iff.1 hi).1
   obtain ⟨k', y', e2, _, _⟩ := hrow i E[i] (Array.getElem?_eq_getElem hie)
   rw [hi] at e2
   simp only [Option.some.injEq, List.cons.injEq, and_true] at e2
   obtain ⟨rfl, rfl, e3⟩ := e2
   rw [e3]
   exact (hseen _).2 (all_seen E seen h0 E[i] (by simp))
  ·refine does_pure hs.heap (x := .tuple #[.bool false]) ?_ .v
   simp only [execOp, hop, hv]
   simp [hrun]
 ·obtain ⟨hm, hns⟩ := mem_left hen
  obtain ⟨i, hi, hie⟩ := List.mem_iff_getElem.1 hm
  have hie' : E[i]? = some en := by
   have hi' : i < E.size := by simpa using hi
   rw [Array.getElem?_eq_getElem hi']
   simpa using hie
  obtain ⟨k, y, e2, r1, r2⟩ := hrow i en hie'
  refine .inr ⟨i, k, y, _, e2, fun hc => ?_, ?_⟩
  ·rw [(hseen _).1 hc] at hns; cases hns
  ·have hs1 : HSim base w0 β fz H w1 ∧ Ext H.length β fz w H.length β fz w1 := by
    rcases hal with rfl | rfl
    ·exact ⟨hs.heap, Ext.refl _ _ _ _⟩
    ·exact hs.heap.drew
   have hw1 : w1.heap[β rid]? = some (.mapIter (some (β id)) since seen stepped) := by rcases hal with rfl | rfl <;> exact g1
   have hidlt : id < H.length := (List.getElem?_eq_some_iff.1 hmp).1
   have hbl : β rid < w1.heap.size := (Array.getElem?_eq_some_iff.1 hw1).1
   have hG : GSim base β fz (setBlock w1 (β rid) (.mapIter (some (β id)) since (seen.push en.born) clock)) H.length rid [[.ptr id 0 0 0, .v (.int .i64 s), .v (.int .i64 t)], sn ++ [.v (.int .i64 (en.born : Int))]] := by
    refine ⟨.mapIter (some (β id)) since (seen.push en.born) clock, [[.map (some (β id)), .int .i64 (since : Int), .int .i64 (clock : Int)], (seen.push en.born).toList.map fun (s : Nat) => .int .i64 (s : Int)], by simp [setBlock, hbl], .inr ⟨_, _, _, _, rfl, rfl⟩, ⟨rfl, fun j r xx hj hxx => ?_⟩, _, _, rfl, by simp⟩
    match j, hj, hxx with
    | 0, hj, hxx =>
     simp only [List.getElem?_cons_zero, Option.some.injEq] at hj hxx
     subst hj hxx
     refine ⟨rfl, fun q u v hu hvv => ?_⟩
     match q, hu, hvv with
     | 0, hu, hvv => simp at hu hvv; subst hu hvv; exact .mp hidlt
     | 1, hu, hvv => simp at hu hvv; subst hu hvv; rw [g2]; exact .v
     | 2, hu, hvv => simp at hu hvv; subst hu hvv; rw [e1]; exact .v
    | 1, hj, hxx =>
     simp only [List.getElem?_cons_succ, List.getElem?_cons_zero, Option.some.injEq] at hj hxx
     subst hj hxx
     refine ⟨by simp [g4], fun q u v hu hvv => ?_⟩
     by_cases hq : q < sn.length
     ·rw [List.getElem?_append_left hq] at hu
      obtain ⟨bb, hbb⟩ := hsw u (List.mem_of_getElem? hu)
      have hqs : q < seen.size := by omega
      have h5 := g5 q u seen[q] hu (Array.getElem?_eq_getElem hqs)
      have hv2 : v = .int .i64 (seen[q] : Int) := by
       rw [List.getElem?_map, Array.getElem?_toList, Array.getElem?_push_lt hqs] at hvv
       simpa using hvv.symm
      subst hv2
      rw [hbb] at h5 ⊢
      rw [h5.v_inv]
      exact .v
     ·have hq2 : q = sn.length := by
       have := (List.getElem?_eq_some_iff.1 hu).1
       simp at this; omega
      subst hq2
      simp at hu
      subst hu
      have hv2 : v = .int .i64 (en.born : Int) := by
       rw [g4] at hvv
       simpa using hvv.symm
      subst hv2
      exact .v
   have hnc : ∀ cs e f, w1.heap[β rid]? ≠ some (.cells cs e f) := fun _ _ _ h => by rw [hw1] at h; cases h
   obtain ⟨q1, q2⟩ := hs1.1.setG hit hnc hG
   refine does_val (w' := setBlock w1 (β rid) (.mapIter (some (β id)) since (seen.push en.born) clock)) (x := .tuple #[.bool true, en.key, en.val]) ?_ q1 (hs1.2.trans q2) ?_
   ·simp only [execOp, hop, hv]
    simp [hrun]
   ·have e3 := hs1.2.trans q2
    refine .tup (by simp) fun j u hu => ?_
    match j, hu with
    | 0, hu => simp at hu; subst hu; simpa using .v
    | 1, hu => simp at hu; subst hu; simpa using r1.ext e3
    | 2, hu => simp at hu; subst hu; simpa using r2.ext e3
theorem region_wpN (hC : OrcOk P C) {id : Nat} {K : Env → Heap → Prop} {Q : Exit → Act → World → Prop} (hs : Sim nt base w0 β fz ρ H a w) (h : RunN P C nt.nt ops K ρ H)
  (hQ : ∀ ρ H β fz a w, K ρ H → Sim nt base w0 β fz ρ H a w → Q .normal a w) : (Code.region id ops false).wp P Q a w := by
 unfold RunN at h
 split at h
 ·exact h.elim
 rename_i o l hol
 split at h
 case h_2 => exact h.elim
 rename_i x d hop hg hd
 obtain ⟨hdn, h⟩ := h
 split at h
 case h_2 => exact h.elim
 rename_i rid hx
 obtain ⟨mid, s, c, t, sn, es, hit, hmp, hts, hsc, hwf, hsw, hY, hN⟩ := h
 apply wp_region
 have hsize : ops.size = l.length + 1 := by rw [← Array.length_toList, hol]; rfl
 have ho : ops[0]? = some o := by rw [← Array.getElem?_toList, hol]; rfl
 have htail : ∀ j, l[j]? = ops[1 + j]? := fun j => by rw [← Array.getElem?_toList, hol, Nat.add_comm]; simp
 have hrng : List.range ops.size = 0 :: List.range' 1 l.length := by
  rw [hsize, List.range_eq_range', List.range'_succ]
 rw [hrng, wpOps_cons]
 unfold wpOp
 simp only [ho]
 have hw : Region.wanted o (yielded ops a.tmps) = true := by simp [Region.wanted, hg]
 rw [hw]
 simp only [if_true]
 left
 have hd' : ∀ t, o.dst = some t → t < nt.nt := fun t ht => by rw [hd] at ht; cases ht; exact hdn
 have fin : ∀ (av : AVal) (H' : Heap), Does P o a w base w0 β fz H av H' → RunK P C nt.nt ops l K (put ρ (some d) av) H' → Oper.wp P o a w (fun a' w' => wpOps P ops Q (List.range' 1 l.length) a' w') Q := by
  intro av H' hdo hk
  refine hdo _ _ (fun y β' fz' w' h1 h2 h3 => ?_)
  have hs2 := hs.put h1 h2 hd' h3
  rw [hd] at hs2
  unfold RunK at hk
  split at hk
  ·rename_i s2 hrun
   rw [hd]
   exact seq_wp hC Q (fun β fz a w hs3 => hQ _ _ β fz a w hk hs3) l 1 _ _ β' fz' _ w' htail hrun hs2
  ·exact hk.elim
 rcases next_does hop hs hx hit hmp hts hsc hwf hsw with ⟨q1, q2⟩ | ⟨i, k, y, b, q1, q2, q3⟩
 ·exact fin _ _ q2 (hN q1)
 ·exact fin _ _ q3 (hY i k y b q1 q2)
end
end Go.AI
/- A region some operations of which come in several orders. -/
namespace Go.AI
set_option linter.unusedSectionVars false
variable [Sym]
set_option linter.unusedSimpArgs false
set_option linter.unusedVariables false
section
variable {nt : Fr} {base : Nat} {w0 : World} {P : Program} {C : Orc} {ops : Array Oper}
theorem split_uniq {i : Nat} : ∀ {l1 m1 l2 m2 : List Nat}, (l1 ++ i :: l2).Nodup → l1 ++ i :: l2 = m1 ++ i :: m2 → l1 = m1
 | [], [], _, _, _, _ => rfl
 | [], x :: m1, l2, m2, hn, h => by
  simp only [List.nil_append, List.cons_append, List.cons.injEq] at h
  obtain ⟨rfl, rfl⟩ := h
  rw [List.nil_append, List.nodup_cons] at hn
  exact absurd (by simp) hn.1
 | x :: l1, [], l2, m2, hn, h => by
  simp only [List.nil_append, List.cons_append, List.cons.injEq] at h
  obtain ⟨rfl, rfl⟩ := h
  rw [List.cons_append, List.nodup_cons] at hn
  exact absurd (by simp) hn.1
 | x :: l1, y :: m1, l2, m2, hn, h => by
  simp only [List.cons_append, List.cons.injEq] at h
  rw [List.cons_append, List.nodup_cons] at hn
  rw [h.1, split_uniq hn.2 h.2]
def chkM (B : List Nat) : Nat → List Nat → List (List Nat) → Bool
 | 0, Xr, T => !T.isEmpty && Xr.isEmpty
 | n + 1, Xr, T => !T.isEmpty && Xr.all fun x => (Xr.any fun y => (B.getD x 0).testBit y) || chkM B n (Xr.filter (fun y => y != x)) (T.filter fun τ => (τ.find? fun k => Xr.contains k) == some x)
theorem chkM_ne {B : List Nat} : ∀ {n : Nat} {Xr : List Nat} {T : List (List Nat)}, chkM B n Xr T = true → T ≠ []
 | 0, Xr, T, h => by
  simp only [chkM, Bool.and_eq_true, Bool.not_eq_true', List.isEmpty_eq_false_iff] at h
  exact h.1
 | n + 1, Xr, T, h => by
  simp only [chkM, Bool.and_eq_true, Bool.not_eq_true', List.isEmpty_eq_false_iff] at h
  exact h.1
def OrdOk (P : Program) (C : Orc) (nt : Fr) (base : Nat) (w0 : World) (ops : Array Oper) (X0 : List Nat) (n0 : Nat) (Q : Exit → Act → World → Prop) (listed : Array Bool) (ρ : Env) (H : Heap) (τ : List Nat) : Prop :=
 ∃ (F : Nat → Foot) (ρn : Env) (Hn : Heap) (r : Env × Heap), IsPerm ops τ ∧ (τ.Pairwise fun k i => FineP C ops F n0 k i ∨ (X0.contains k = true ∧ X0.contains i = true)) ∧
  (∀ β fz ρ a w, EqE ρn ρ → Sim nt base w0 β fz ρ Hn a w → Q .normal a w) ∧ runG P C nt.nt ops F n0 (restT τ listed) (ρ, H) = some r ∧ EqS (ρn, Hn) r
theorem any_wpM {n0 : Nat} {X0 : List Nat} (hC : OrcOk P C) (hE : EdgesLt ops) (Q : Exit → Act → World → Prop) :
  ∀ (fuel : Nat) (n : Nat) (T : List (List Nat)) (listed : Array Bool) (ρ : Env) (H : Heap) (β : Nat → Nat) (fz : Nat → Prop) (a : Act) (w : World), listed.size = ops.size → (rest ops listed).length = fuel → Closed ops listed →
   chkM (befs ops.toList []) n (X0.filter fun k => !listed.getD k true) T = true → (∀ τ ∈ T, OrdOk P C nt base w0 ops X0 n0 Q listed ρ H τ) → Sim nt base w0 β fz ρ H a w → wpAny P .any ops Q fuel listed a w := by
 intro fuel
 induction fuel with
 | zero =>
  intro n T listed ρ H β fz a w hsz hlen hcl hchk hT hs
  have hnil : rest ops listed = [] := List.length_eq_zero_iff.1 hlen
  obtain ⟨τ, hτT⟩ := List.exists_mem_of_ne_nil T (chkM_ne hchk)
  obtain ⟨F, ρn, Hn, r, hτ, hpw, hQ, hrun, hr⟩ := hT τ hτT
  have hnilT : restT τ listed = [] := List.length_eq_zero_iff.1 (by rw [restT_len hτ, hlen])
  rw [hnilT] at hrun
  simp only [runG, Option.some.injEq] at hrun
  subst hrun
  simp only [wpAny]
  refine ⟨any_end hnil, ?_⟩
  obtain ⟨h1, h2⟩ := hr
  simp only at h1 h2
  subst h2
  exact hQ β fz ρ a w h1 hs
 | succ fuel ih =>
  intro n T listed ρ H β fz a w hsz hlen hcl hchk hT hs
  simp only [wpAny]
  refine ⟨fun h => absurd h (ready_first hE hsz (fun h => by rw [h] at hlen; simp at hlen)), ?_⟩
  intro i hi
  -- what is ready is not listed, and nothing before it is left
  have hred := hi
  unfold Region.ready at hred
  rw [List.mem_filter] at hred
  obtain ⟨hi1, hi2⟩ := hred
  have hi1' : i < ops.size := by simpa using hi1
  have ho' : ops[i]? = some ops[i] := Array.getElem?_eq_getElem hi1'
  simp only [Bool.and_eq_true, ho', Option.map_some, Option.getD_some, Array.all_eq_true', Bool.or_eq_true, Bool.not_eq_true'] at hi2
  obtain ⟨hul, hed⟩ := hi2
  have hgi : ops.getD i default = ops[i] := by simp [Array.getD, hi1']
  have hall0 : ∀ e ∈ (ops.getD i default).after.toList, Region.binds .any e = true → listed.getD e.on false = true := by
   intro e he hb
   rw [hgi] at he
   rcases hed e (Array.mem_toList_iff.1 he) with h | h
   ·rw [hb] at h; cases h
   ·exact h
  -- the orders in which it may come next
  have key : ∃ (n' : Nat) (T' : List (List Nat)), (∀ τ ∈ T', τ ∈ T) ∧ chkM (befs ops.toList []) n' (X0.filter fun k => !(listed.setIfInBounds i true).getD k true) T' = true ∧
    ∀ τ ∈ T', IsPerm ops τ → ∀ l1 l2, restT τ listed = l1 ++ i :: l2 → ∀ k ∈ l1, ¬ (X0.contains k = true ∧ X0.contains i = true) := by
   have hXr : (X0.filter fun k => !(listed.setIfInBounds i true).getD k true) = (X0.filter fun k => !listed.getD k true).filter (fun y => y != i) := by
    rw [List.filter_filter]
    apply List.filter_congr
    intro k hk
    by_cases hki : k = i
    ·subst hki
     simp [Array.getD_eq_getD_getElem?, hsz, hi1']
    ·rw [Array.getD_eq_getD_getElem?, Array.getElem?_setIfInBounds_ne (by omega), ← Array.getD_eq_getD_getElem?]
     simp [hki]
   by_cases hiX : i ∈ X0
   ·have hiXr : i ∈ X0.filter fun k => !listed.getD k true := List.mem_filter.2 ⟨hiX, by simp [hul]⟩
    cases n with
    | zero =>
     simp only [chkM, Bool.and_eq_true, List.isEmpty_iff] at hchk
     rw [hchk.2] at hiXr
     cases hiXr
    | succ n =>
     simp only [chkM, Bool.and_eq_true, List.all_eq_true, Bool.or_eq_true] at hchk
     rcases hchk.2 i hiXr with h | h
     ·exfalso
      rw [List.any_eq_true] at h
      obtain ⟨y, hy, hb⟩ := h
      have hyl := bef_listed hE hcl i y hi1' hall0 hb
      rw [List.mem_filter] at hy
      by_cases hys : y < ops.size
      ·rw [← getD_listed hsz hys] at hyl
       rw [hyl] at hy
       simp at hy
      ·have : listed.getD y true = true := by rw [Array.getD_eq_getD_getElem?, Array.getElem?_eq_none (by omega)]; rfl
       rw [this] at hy
       simp at hy
     ·refine ⟨n, _, fun τ hτ => (List.mem_filter.1 hτ).1, by rw [hXr]; exact h, fun τ hτ hp l1 l2 hl k hk hkx => ?_⟩
      have hf := (List.mem_filter.1 hτ).2
      rw [beq_iff_eq, List.find?_eq_some_iff_append] at hf
      obtain ⟨hci, as, bs, hab, hno⟩ := hf
      -- k lies before i in τ, and is left
      have hnd := hp.1
      have hkr : k ∈ restT τ listed := by rw [hl]; simp [hk]
      unfold restT at hkr
      rw [List.mem_filter] at hkr
      have hkX : (X0.filter fun k => !listed.getD k true).contains k = true := by
       rw [List.contains_iff_mem, List.mem_filter]
       exact ⟨by simpa using hkx.1, hkr.2⟩
      have hka : k ∈ as := by
       have h1 : restT τ listed = (as.filter fun j => !listed.getD j true) ++ i :: (bs.filter fun j => !listed.getD j true) := by
        unfold restT
        rw [hab, List.filter_append, List.filter_cons, if_pos (by simp [hul])]
       have hndr : (restT τ listed).Nodup := hnd.sublist List.filter_sublist
       have h2 := split_uniq (by rw [← hl]; exact hndr) (hl.symm.trans h1)
       rw [h2] at hk
       exact (List.mem_filter.1 hk).1
      have hq := hno k hka
      simp only [hkX] at hq
      cases hq
   ·refine ⟨n, T, fun τ h => h, ?_, fun τ hτ hp l1 l2 hl k hk hkx => hiX (by simpa using hkx.2)⟩
    rw [hXr, List.filter_eq_self.2 (fun y hy => by
     have := (List.mem_filter.1 hy).1
     simp
     rintro rfl
     exact hiX this)]
    exact hchk
  obtain ⟨n', T', hsub, hchk', hfr⟩ := key
  have pick : ∀ τ ∈ T', ∃ s1, step1 P C nt.nt ops (ops.getD i default) (ρ, H) = some s1 ∧ (∀ e ∈ (ops.getD i default).after.toList, Region.binds .any e = true → listed.getD e.on false = true) ∧ OrdOk P C nt base w0 ops X0 n0 Q (listed.setIfInBounds i true) s1.1 s1.2 τ ∧ (restT τ (listed.setIfInBounds i true)).length + 1 = (restT τ listed).length ∧ IsPerm ops τ := by
   intro τ hτ'
   obtain ⟨F, ρn, Hn, r, hτ, hpw, hQ, hrun, hr⟩ := hT τ (hsub τ hτ')
   obtain ⟨_, hall, s1, r', h1, h2, h3, h4⟩ := pick_front hC hE hsz hcl hτ hi hrun (fun l1 l2 h k hk => by
    have hpr := hpw.sublist (List.filter_sublist (l := τ) (p := fun i => !listed.getD i true))
    change (restT τ listed).Pairwise _ at hpr
    rw [h] at hpr
    rcases (List.pairwise_append.1 hpr).2.2 k hk i (by simp) with q | q
    ·exact q
    ·exact absurd q (hfr τ hτ' hτ l1 l2 h k hk))
   exact ⟨s1, h1, hall, ⟨F, ρn, Hn, r', hτ, hpw, hQ, h2, ⟨fun t => (hr.1 t).trans (h3.1 t), hr.2.trans h3.2⟩⟩, h4, hτ⟩
  obtain ⟨τ0, hτ0⟩ := List.exists_mem_of_ne_nil T' (chkM_ne hchk')
  obtain ⟨s1, h1, hall, _, h4, hp0⟩ := pick τ0 hτ0
  have ho : ops[i]? = some (ops.getD i default) := by simp [Array.getD, hi1']
  refine step1_wp (nt := nt) (base := base) (w0 := w0) hC (o := ops.getD i default) ho hs h1 ?_
  intro a' w' β' fz' hs'
  refine ih n' T' (listed.setIfInBounds i true) s1.1 s1.2 β' fz' a' w' (by simp [hsz]) ?_ (closed_set hsz hcl hi1' hall) hchk' (fun τ hτ' => ?_) hs'
  ·have e1 := restT_len hp0 (listed.setIfInBounds i true)
   have e2 := restT_len hp0 listed
   omega
  ·obtain ⟨s1', g1, _, g2, _, _⟩ := pick τ hτ'
   rw [h1] at g1
   cases g1
   exact g2
def raceFreeM (inl : FuncId → Bool) (X0 : List Nat) (pairs : List (Nat × Nat)) (T : List (List Nat)) (ops : Array Oper) : Bool :=
 let B := befs ops.toList []
 (ops.toList.zipIdx.all fun (o, i) => o.after.all fun e => !Region.binds .any e || decide (e.on < i)) && chkM B X0.length X0 T && (X0.all fun x => decide (x < ops.size)) &&
 T.all fun τ => (τ.all fun i => decide (i < ops.size)) && ((List.range ops.size).all fun i => τ.contains i) && pairsAll (fun i j => i != j) τ && pairsAll (fun i j => fineB inl pairs ops B i j || (X0.contains i && X0.contains j)) τ
theorem region_wpM (hC : OrcOk P C) (hm : P.follows .mixedOrders = true) {id : Nat} {X0 : List Nat} {pairs : List (Nat × Nat)} {idx : List Nat} {T : List (List Nat)} (hrf : raceFreeM C.inl X0 pairs T ops = true) (Q : Exit → Act → World → Prop) {ρ : Env} {H : Heap} {β : Nat → Nat} {fz : Nat → Prop} {a : Act} {w : World}
  (hs : Sim nt base w0 β fz ρ H a w)
  (hT : ∀ τ ∈ T, ∃ ρ1 H1 f1, runFT P C nt.nt ops idx H.length τ (ρ, H) = some ((ρ1, H1), f1) ∧ (∀ q ∈ pairs, apart H.length (footAt f1 q.1) (footAt f1 q.2) = true) ∧ ∀ β fz a w, Sim nt base w0 β fz ρ1 H1 a w → Q .normal a w) : (Code.region id ops true).wp P Q a w := by
 simp only [raceFreeM, Bool.and_eq_true] at hrf
 obtain ⟨⟨⟨hlt, hchk⟩, hX0⟩, hall⟩ := hrf
 have hX : ∀ x ∈ X0, x < ops.size := fun x hx => by simpa using List.all_eq_true.1 hX0 x hx
 have hE : EdgesLt ops := by
  intro i o ho e he hb
  have h1 := List.all_eq_true.1 hlt (o, i) (by
   rw [List.mem_zipIdx_iff_getElem?]
   simpa using ho)
  simp only [Array.all_eq_true', Bool.or_eq_true, Bool.not_eq_true', decide_eq_true_eq] at h1
  rcases h1 e (Array.mem_toList_iff.1 he) with h | h
  ·rw [hb] at h; cases h
  ·exact h
 have fine : ∀ (F : Nat → Foot), (∀ q ∈ pairs, apart H.length (F q.1) (F q.2) = true) → ∀ i j, fineB C.inl pairs ops (befs ops.toList []) i j = true → FineP C ops F H.length i j := by
  intro F hap i j h
  simp only [fineB, Bool.or_eq_true] at h
  rcases h with (h | h) | h
  ·exact .inl (.inl h)
  ·simp only [Bool.and_eq_true, Bool.not_eq_true', Bool.or_eq_true, List.contains_iff_mem] at h
   refine .inl (.inr ⟨h.1.2, h.2, ?_⟩)
   rcases h.1.1 with h | h
   ·exact hap _ h
   ·exact apart_symm (hap _ h)
  ·exact .inr h
 apply wp_region_any hm
 have hrest : rest ops (Array.replicate ops.size false) = List.range ops.size := by
  unfold rest
  rw [List.filter_eq_self]
  intro i hi
  have : i < ops.size := by simpa using hi
  simp [Array.getD_eq_getD_getElem?, this]
 have hrT : ∀ τ', (∀ i ∈ τ', i < ops.size) → restT τ' (Array.replicate ops.size false) = τ' := by
  intro τ' h
  unfold restT
  rw [List.filter_eq_self]
  intro i hi
  have := h i hi
  simp [Array.getD_eq_getD_getElem?, this]
 obtain ⟨τ0, hτ0⟩ := List.exists_mem_of_ne_nil T (chkM_ne hchk)
 have permOf : ∀ τ ∈ T, IsPerm ops τ := by
  intro τ hτ
  have h := List.all_eq_true.1 hall τ hτ
  simp only [Bool.and_eq_true] at h
  obtain ⟨⟨⟨h1, h2⟩, h3⟩, _⟩ := h
  have hnd : τ.Nodup := by
   refine (pairsAll_pw h3).imp ?_
   intro i j h
   simpa using h
  have hlt2 : ∀ i ∈ τ, i < ops.size := fun i hi => by simpa using List.all_eq_true.1 h1 i hi
  exact ⟨hnd, fun i => ⟨hlt2 i, fun hi => by simpa using List.all_eq_true.1 h2 i (by simpa using hi)⟩⟩
 refine any_wpM (n0 := H.length) (X0 := X0) hC hE Q ops.size X0.length T _ ρ H β fz a _ (by simp) (by rw [hrest]; simp) ?_ ?_ (fun τ hτ => ?_) hs.drew
 ·intro i o ho hl
  have : i < ops.size := (Array.getElem?_eq_some_iff.1 ho).1
  simp [Array.getD_eq_getD_getElem?, this] at hl
 ·rw [List.filter_eq_self.2 (fun k hk => by simp [Array.getD_eq_getD_getElem?, hX k hk])]
  exact hchk
 ·obtain ⟨ρ1, H1, f1, hrun, hap, hQ⟩ := hT τ hτ
  have hp := permOf τ hτ
  have h := List.all_eq_true.1 hall τ hτ
  simp only [Bool.and_eq_true] at h
  have hg := runFT_G (P := P) (C := C) (ops := ops) _ _ _ f1 f1 hp.1 hrun (fun _ _ => rfl)
  refine ⟨footAt f1, ρ1, H1, (ρ1, H1), hp, ?_, fun β fz ρ a w he hs => hQ β fz a w ⟨hs.heap, hs.defers, hs.size, hs.ext, fun t => by rw [he t]; exact hs.env t⟩, ?_, ⟨fun _ => rfl, rfl⟩⟩
  ·refine (pairsAll_pw h.2).imp ?_
   intro i j h
   simp only [Bool.or_eq_true, Bool.and_eq_true] at h
   rcases h with h | h
   ·exact .inl (fine _ hap i j h)
   ·exact .inr h
  ·rw [hrT _ (fun i hi => (hp.2 i).1 hi)]
   exact hg
end
end Go.AI
/- Code; functions. -/
namespace Go.AI
set_option linter.unusedSectionVars false
variable [Sym]
set_option linter.unusedSimpArgs false
set_option linter.unusedVariables false
open Go.RowKit
mutual
def lowA (n : Nat) : AVal → Bool
 | .ptr id _ _ _ => decide (id < n)
 | .osl id _ _ _ _ => decide (id < n)
 | .xsl id _ _ _ _ => decide (id < n)
 | .agg cs => lowC n cs
 | .tup vs => lowC n vs
 | .fn _ caps => lowC n caps
 | .when _ a => lowA n a
 | .ifc _ a => lowA n a
 | _ => true
def lowC (n : Nat) : List AVal → Bool
 | [] => true
 | a :: r => lowA n a && lowC n r
end
theorem lowC_all (n : Nat) (l : Row) : lowC n l = l.all (lowA n) := by
 induction l with
 | nil => simp [lowC]
 | cons a r ih => simp [lowC, ih]
theorem low_R {β : Nat → Nat} {ok : Bool → Nat → Prop} {w : World} {n n' : Nat} {a : AVal} {x : Value} (h : R β ok w n a x) (hl : lowA n' a = true) : R β ok w n' a x := by
 induction h with
 | junk => exact .junk
 | anyb => exact .anyb
 | anyi => exact .anyi
 | str h => exact .str h
 | v => exact .v
 | ptr h h0 => exact .ptr (by simpa [lowA] using hl) h0
 | mp h => exact .mp (by simpa [lowA] using hl)
 | fptr x hb hc hr ih => exact .fptr x hb hc hr
 | osl h hl' hk ha => exact .osl (by simpa [lowA] using hl) hl' hk ha
 | xsl h hl' ha => exact .xsl (by simpa [lowA] using hl) hl' ha
 | fsl x hl' hs hb hc hr ih => exact .fsl x hl' hs hb hc hr
 | fsl0 => exact .fsl0
 | esl => exact .esl
 | agg hl' hr ih =>
  simp only [lowA, lowC_all] at hl
  exact .agg hl' fun j a ha => ih j a ha (List.all_eq_true.1 hl a (List.mem_of_getElem? ha))
 | tup hl' hr ih =>
  simp only [lowA, lowC_all] at hl
  exact .tup hl' fun j a ha => ih j a ha (List.all_eq_true.1 hl a (List.mem_of_getElem? ha))
 | fn hl' hr ih =>
  simp only [lowA, lowC_all] at hl
  exact .fn hl' fun j a ha => ih j a ha (List.all_eq_true.1 hl a (List.mem_of_getElem? ha))
 | when h hu ih => exact .when (fun hb => ih hb (by simpa [lowA] using hl)) hu
 | ifc h ih => exact .ifc (ih (by simpa [lowA] using hl))
 | meth => exact .meth
def heapW (n : Nat) : Heap → Heap → Prop
 | [], _ => True
 | none :: r', _ :: r => heapW n r' r
 | none :: r', [] => heapW n r' []
 | some o :: r', some o' :: r => o = o' ∧ (o.2.all fun row => row.all (lowA n)) = true ∧ heapW n r' r
 | _, _ => False
def Weaker (n0 : Nat) (s' s : Env × Heap) : Prop :=
 n0 ≤ s'.2.length ∧ (∀ p ∈ s'.1, look s.1 p.1 = p.2 ∧ lowA s'.2.length p.2 = true) ∧ heapW s'.2.length s'.2 s.2
theorem heapW_get {n : Nat} : ∀ {H' H : Heap}, heapW n H' H → ∀ (id : Nat) o, H'[id]? = some (some o) → H[id]? = some (some o) ∧ (o.2.all fun row => row.all (lowA n)) = true
 | [], H, _ => fun id o h => by simp at h
 | none :: r', [], h => by
  simp only [heapW] at h
  have h2 := heapW_get h
  intro id o ho
  cases id with
  | zero => simp at ho
  | succ id => have := h2 id o (by simpa using ho); simp at this
 | some o :: r', [], h => by simp [heapW] at h
 | none :: r', x :: r, h => by
  simp only [heapW] at h
  have h2 := heapW_get h
  intro id o ho
  cases id with
  | zero => simp at ho
  | succ id => simpa using h2 id o (by simpa using ho)
 | some o :: r', none :: r, h => by simp [heapW] at h
 | some o :: r', some o' :: r, h => by
  simp only [heapW] at h
  obtain ⟨rfl, ha, h⟩ := h
  have h2 := heapW_get h
  intro id p hp
  cases id with
  | zero => simp at hp; subst hp; exact ⟨by simp, ha⟩
  | succ id => simpa using h2 id p (by simpa using hp)
theorem look_mem (ρ : Env) (t : Nat) : look ρ t = .junk ∨ (t, look ρ t) ∈ ρ := by
 induction ρ with
 | nil => exact .inl rfl
 | cons p r ih =>
  obtain ⟨s, a⟩ := p
  simp only [look]
  split
  ·rename_i h; subst h; right; simp
  ·rcases ih with h | h
   ·exact .inl h
   ·right; simp [h]
section
variable {nt : Fr} {base : Nat} {w0 : World} {β : Nat → Nat} {fz : Nat → Prop} {ρ ρ' : Env} {H H' : Heap} {a : Act} {w : World} {P : Program} {C : Orc}
theorem Sim.weaker (hs : Sim nt base w0 β fz ρ H a w) (h : Weaker nt.n0 (ρ', H') (ρ, H)) : Sim nt base w0 β fz ρ' H' a w := by
 obtain ⟨h0, h1, h2⟩ := h
 simp only at h0 h1 h2
 have g2 := heapW_get h2
 have hlive : ∀ id, Live H' id → Live H id := fun id ⟨o, ho⟩ => ⟨o, (g2 id o ho).1⟩
 refine ⟨⟨?_, fun a b ha hb => hs.heap.inj a b (hlive a ha) (hlive b hb), fun id hid => hs.heap.own id (hlive id hid), hs.heap.fzlt, hs.heap.below, hs.heap.base⟩, hs.defers, hs.size, ⟨h0, hs.ext.hβ, hs.ext.hfz, hs.ext.blk, hs.ext.shape⟩, fun t => ?_⟩
 ·intro id sz rows hid
  obtain ⟨k1, k2⟩ := g2 id _ hid
  have hlow : ∀ (i : Nat) (r : Row), rows[i]? = some r → ∀ (j : Nat) (c : AVal), r[j]? = some c → lowA H'.length c = true := fun i r hi j c hj => by
   have h3 := List.all_eq_true.1 k2 r (List.mem_of_getElem? hi)
   exact List.all_eq_true.1 h3 c (List.mem_of_getElem? hj)
  have hO := hs.heap.objs' id sz rows k1
  unfold OSim at hO ⊢
  split at hO
  ·rename_i h0
   rw [if_pos h0]
   rcases hO with hO | hO
   case inr => exact .inr (hO.same (fun r hr c hc v hR => low_R hR (List.all_eq_true.1 (List.all_eq_true.1 k2 r hr) c hc)) rfl)
   obtain ⟨rs, hp, es, clock, q1, q2, hbn, q3⟩ := hO
   refine .inl ⟨rs, hp, es, clock, q1, q2, hbn, fun i r hi => ?_⟩
   obtain ⟨en, x, p1, p2, p3⟩ := q3 i r hi
   obtain ⟨i', hi'⟩ := List.mem_iff_getElem?.1 (hp.mem_iff.1 (List.mem_of_getElem? hi))
   exact ⟨en, x, p1, p2, low_R p3 (hlow i' r hi' 1 x (by rw [p2]; rfl))⟩
  ·rename_i h0
   rw [if_neg h0]
   obtain ⟨cs, e, q1, q2, q3, q4, q5⟩ := hO
   exact ⟨cs, e, q1, q2, q3, q4, fun i r hi j c hj => low_R (q5 i r hi j c hj) (hlow i r hi j c hj)⟩
 ·rcases look_mem ρ' t with h | h
  ·rw [h]; exact .junk
  ·obtain ⟨k1, k2⟩ := h1 _ h
   simp only at k1 k2
   rw [← k1]
   rw [← k1] at k2
   exact low_R (hs.env t) k2
def thOf (n0 : Nat) (th : List Nat) (id : Nat) : Nat := if id < n0 then id else (th[id - n0]?).getD id
mutual
def ren (n0 : Nat) (th : List Nat) : AVal → AVal
 | .ptr id sz i off => .ptr (thOf n0 th id) sz i off
 | .osl id sz s len kc => .osl (thOf n0 th id) sz s len kc
 | .xsl id sz s len kc => .xsl (thOf n0 th id) sz s len kc
 | .agg cs => .agg (renC n0 th cs)
 | .tup vs => .tup (renC n0 th vs)
 | .fn f caps => .fn f (renC n0 th caps)
 | .when b a => .when b (ren n0 th a)
 | .ifc t a => .ifc t (ren n0 th a)
 | a => a
def renC (n0 : Nat) (th : List Nat) : List AVal → List AVal
 | [] => []
 | a :: r => ren n0 th a :: renC n0 th r
end
theorem renC_map (n0 : Nat) (th : List Nat) (l : Row) : renC n0 th l = l.map (ren n0 th) := by
 induction l with
 | nil => simp [renC]
 | cons a r ih => simp [renC, ih]
theorem ren_R {β : Nat → Nat} {ok : Bool → Nat → Prop} {w : World} {n n' n0 : Nat} {th : List Nat} : ∀ (a : AVal) (x : Value), R β ok w n (ren n0 th a) x → lowA n' a = true → R (fun id => β (thOf n0 th id)) ok w n' a x
 | .junk, x, h, hl => .junk
 | .anyb, x, h, hl => by simp only [ren] at h; cases h; exact .anyb
 | .anyi _, x, h, hl => by simp only [ren] at h; cases h; exact .anyi
 | .str _, x, h, hl => by
  simp only [ren] at h
  cases h with
  | str h => exact .str h
 | .v y, x, h, hl => by simp only [ren] at h; cases h; exact .v
 | .ptr id sz i off, x, h, hl => by
  simp only [ren] at h
  cases h with
  | ptr h h0 => exact .ptr (β := fun id => β (thOf n0 th id)) (by simpa [lowA] using hl) h0
  | mp h => exact .mp (β := fun id => β (thOf n0 th id)) (by simpa [lowA] using hl)
 | .fptr row off, x, h, hl => by
  simp only [ren] at h
  cases h with
  | fptr x' hb hc hr => exact .fptr x' hb hc (fun j a ha => (hr j a ha).mono (Nat.zero_le _) (fun _ h => absurd h (Nat.not_lt_zero _)) (fun _ _ h => h) (fun _ _ _ => rfl) (Shapes.refl _))
 | .osl id sz s len kc, x, h, hl => by
  simp only [ren] at h
  cases h with
  | osl h hl' hk ha => exact .osl (β := fun id => β (thOf n0 th id)) (by simpa [lowA] using hl) hl' hk ha
 | .xsl id sz s len kc, x, h, hl => by
  simp only [ren] at h
  cases h with
  | xsl h hl' ha => exact .xsl (β := fun id => β (thOf n0 th id)) (by simpa [lowA] using hl) hl' ha
 | .fsl o sz rows, x, h, hl => by
  simp only [ren] at h
  cases h with
  | fsl x' hl' hs hb hc hr => exact .fsl x' hl' hs hb hc (fun i r hi j a ha => (hr i r hi j a ha).mono (Nat.zero_le _) (fun _ h => absurd h (Nat.not_lt_zero _)) (fun _ _ h => h) (fun _ _ _ => rfl) (Shapes.refl _))
  | fsl0 => exact .fsl0
 | .esl, x, h, hl => by simp only [ren] at h; cases h; exact .esl
 | .agg cs, x, h, hl => by
  simp only [ren, renC_map] at h
  simp only [lowA, lowC_all] at hl
  cases h with
  | agg hl' hr => exact .agg (by simpa using hl') fun j a ha => ren_R a _ (hr j (ren n0 th a) (by simp [ha])) (List.all_eq_true.1 hl a (List.mem_of_getElem? ha))
 | .tup cs, x, h, hl => by
  simp only [ren, renC_map] at h
  simp only [lowA, lowC_all] at hl
  cases h with
  | tup hl' hr => exact .tup (by simpa using hl') fun j a ha => ren_R a _ (hr j (ren n0 th a) (by simp [ha])) (List.all_eq_true.1 hl a (List.mem_of_getElem? ha))
 | .fn f cs, x, h, hl => by
  simp only [ren, renC_map] at h
  simp only [lowA, lowC_all] at hl
  cases h with
  | fn hl' hr => exact .fn (by simpa using hl') fun j a ha => ren_R a _ (hr j (ren n0 th a) (by simp [ha])) (List.all_eq_true.1 hl a (List.mem_of_getElem? ha))
 | .when b a, x, h, hl => by
  simp only [ren] at h
  cases h with
  | when h hu => exact .when (fun hb => ren_R a _ (h hb) (by simpa [lowA] using hl)) hu
 | .ifc t a, x, h, hl => by
  simp only [ren] at h
  cases h with
  | ifc h => exact .ifc (ren_R a _ h (by simpa [lowA] using hl))
 | .meth nm t, x, h, hl => by
  simp only [ren] at h
  cases h
  exact .meth
termination_by a => SizeOf.sizeOf a
decreasing_by
 all_goals simp_wf
 all_goals first
  |(have := List.sizeOf_lt_of_mem (List.mem_of_getElem? ha); omega)
  | omega
def heapT (n0 : Nat) (th : List Nat) (n : Nat) (H : Heap) : Nat → Heap → Prop
 | _, [] => True
 | i, none :: r => heapT n0 th n H (i + 1) r
 | i, some o :: r => H[thOf n0 th i]? = some (some (o.1, o.2.map (List.map (ren n0 th)))) ∧ (o.2.all fun row => row.all (lowA n)) = true ∧ heapT n0 th n H (i + 1) r
def WeakT (n0 : Nat) (th : List Nat) (s' s : Env × Heap) : Prop :=
 (n0 ≤ s'.2.length ∧ n0 ≤ s.2.length) ∧ (th.Nodup ∧ n0 + th.length = s'.2.length ∧ ∀ x ∈ th, n0 ≤ x) ∧ (∀ p ∈ s'.1, look s.1 p.1 = ren n0 th p.2 ∧ lowA s'.2.length p.2 = true) ∧ heapT n0 th s'.2.length s.2 0 s'.2
theorem heapT_get {n0 n : Nat} {th : List Nat} {H : Heap} : ∀ {H' : Heap} {k : Nat}, heapT n0 th n H k H' → ∀ (id : Nat) o, H'[id]? = some (some o) → H[thOf n0 th (k + id)]? = some (some (o.1, o.2.map (List.map (ren n0 th)))) ∧ (o.2.all fun row => row.all (lowA n)) = true
 | [], k, _, id, o, h => by simp at h
 | none :: r', k, h, id, o, ho => by
  simp only [heapT] at h
  cases id with
  | zero => simp at ho
  | succ id =>
   have := heapT_get h id o (by simpa using ho)
   rwa [show k + (id + 1) = k + 1 + id by omega]
 | some p :: r', k, h, id, o, ho => by
  simp only [heapT] at h
  obtain ⟨h1, h2, h3⟩ := h
  cases id with
  | zero => simp at ho; subst ho; exact ⟨h1, h2⟩
  | succ id =>
   have := heapT_get h3 id o (by simpa using ho)
   rwa [show k + (id + 1) = k + 1 + id by omega]
theorem ren_v {n0 : Nat} {th : List Nat} {y : AVal} {k : Value} (h : ren n0 th y = .v k) : y = .v k := by
 cases y with
 | v x => simpa only [ren] using h
 | _ => simp only [ren, reduceCtorEq] at h
theorem ren_pair {n0 : Nat} {th : List Nat} {r : Row} {k : Value} {a : AVal} (h : r.map (ren n0 th) = [.v k, a]) : ∃ z, r = [.v k, z] ∧ ren n0 th z = a := by
 cases r with
 | nil => simp at h
 | cons y r =>
  cases r with
  | nil => simp at h
  | cons z r =>
   cases r with
   | nil =>
    simp only [List.map_cons, List.map_nil, List.cons.injEq, and_true] at h
    exact ⟨z, by rw [ren_v h.1], h.2⟩
   | cons _ _ => simp at h
theorem perm_unmap {α γ : Type} {f : α → γ} : ∀ {rs : List γ} {l : List α}, rs.Perm (l.map f) → ∃ l' : List α, l'.Perm l ∧ rs = l'.map f
 | [], l, h => by
  have : l = [] := by simpa using h.nil_eq.symm
  exact ⟨[], by rw [this], rfl⟩
 | x :: rs, l, h => by
  have hx : x ∈ l.map f := h.mem_iff.1 (by simp)
  obtain ⟨a, ha, rfl⟩ := List.mem_map.1 hx
  obtain ⟨s, t, rfl⟩ := List.append_of_mem ha
  have h2 : rs.Perm ((s ++ t).map f) := by
   have h3 : (f a :: rs).Perm (f a :: (s ++ t).map f) := h.trans (by
    rw [List.map_append, List.map_cons, List.map_append]; exact List.perm_middle)
   exact (List.perm_cons _).1 h3
  obtain ⟨l', h4, h5⟩ := perm_unmap h2
  exact ⟨a :: l', (h4.cons a).trans List.perm_middle.symm, by rw [h5]; rfl⟩
theorem Sim.weakT {th : List Nat} (hs : Sim nt base w0 β fz ρ H a w) (h : WeakT nt.n0 th (ρ', H') (ρ, H)) : Sim nt base w0 (fun id => β (thOf nt.n0 th id)) fz ρ' H' a w := by
 obtain ⟨⟨h0, h0'⟩, ⟨hnd, hlen, hge⟩, h1, h2⟩ := h
 simp only at h0 h0' h1 h2 hlen
 have g2 : ∀ (id : Nat) o, H'[id]? = some (some o) → H[thOf nt.n0 th id]? = some (some (o.1, o.2.map (List.map (ren nt.n0 th)))) ∧ (o.2.all fun row => row.all (lowA H'.length)) = true := by
  intro id o ho
  have := heapT_get h2 id o ho
  simpa using this
 have hlive : ∀ id, Live H' id → Live H (thOf nt.n0 th id) := fun id ⟨o, ho⟩ => ⟨_, (g2 id o ho).1⟩
 have hinj : ∀ a b, a < H'.length → b < H'.length → thOf nt.n0 th a = thOf nt.n0 th b → a = b := by
  intro a b ha hb hab
  have key : ∀ c, c < H'.length → ¬ c < nt.n0 → ∃ hc : c - nt.n0 < th.length, thOf nt.n0 th c = th[c - nt.n0] := by
   intro c hc hn
   have hc' : c - nt.n0 < th.length := by omega
   exact ⟨hc', by simp [thOf, hn, hc']⟩
  by_cases qa : a < nt.n0 <;> by_cases qb : b < nt.n0
  ·simpa [thOf, qa, qb] using hab
  ·obtain ⟨hc, e⟩ := key b hb qb
   have := hge _ (List.getElem_mem hc)
   rw [e] at hab
   simp [thOf, qa] at hab
   omega
  ·obtain ⟨hc, e⟩ := key a ha qa
   have := hge _ (List.getElem_mem hc)
   rw [e] at hab
   simp [thOf, qb] at hab
   omega
  ·obtain ⟨hc, e⟩ := key a ha qa
   obtain ⟨hd, e'⟩ := key b hb qb
   rw [e, e'] at hab
   have hpw := List.pairwise_iff_getElem.1 hnd
   rcases Nat.lt_trichotomy (a - nt.n0) (b - nt.n0) with q | q | q
   ·exact absurd hab (hpw _ _ hc hd q)
   ·omega
   ·exact absurd hab.symm (hpw _ _ hd hc q)
 have hlt : ∀ id, Live H' id → id < H'.length := fun id ⟨o, ho⟩ => (List.getElem?_eq_some_iff.1 ho).1
 refine ⟨⟨?_, fun a b ha hb hab => hinj a b (hlt a ha) (hlt b hb) (hs.heap.inj _ _ (hlive a ha) (hlive b hb) hab), fun id hid => hs.heap.own _ (hlive id hid), hs.heap.fzlt, hs.heap.below, hs.heap.base⟩, hs.defers, hs.size, ⟨h0, fun id hid => ?_, hs.ext.hfz, hs.ext.blk, hs.ext.shape⟩, fun t => ?_⟩
 ·intro id sz rows hid
  obtain ⟨k1, k2⟩ := g2 id _ hid
  have hO := hs.heap.objs' _ sz _ k1
  unfold OSim at hO ⊢
  split at hO
  ·rename_i h0
   rw [if_pos h0]
   rcases hO with hO | hO
   case inr => exact .inr (hO.unmap (fun r hr c hc v hR => ren_R c _ hR (List.all_eq_true.1 (List.all_eq_true.1 k2 r hr) c hc)) rfl)
   obtain ⟨rs', hp', es, clock, q1, q2, hbn, q3⟩ := hO
   obtain ⟨rs, hp, rfl⟩ := perm_unmap hp'
   refine .inl ⟨rs, hp, es, clock, q1, by simpa using q2, hbn, fun i r hi => ?_⟩
   obtain ⟨en, x, p1, p2, p3⟩ := q3 i (r.map (ren nt.n0 th)) (by simp [hi])
   have h3 := List.all_eq_true.1 k2 r (hp.mem_iff.1 (List.mem_of_getElem? hi))
   obtain ⟨z, rfl, p5⟩ := ren_pair p2
   rw [← p5] at p3
   exact ⟨en, z, p1, rfl, ren_R z _ p3 (List.all_eq_true.1 h3 z (by simp))⟩
  ·rename_i h0
   rw [if_neg h0]
   obtain ⟨cs, e, q1, q2, q3, q4, q5⟩ := hO
   refine ⟨cs, e, q1, fun r hr => ?_, by simpa using q3, q4, fun i r hi j c hj => ?_⟩
   ·have := q2 (r.map (ren nt.n0 th)) (by simp; exact ⟨r, hr, rfl⟩)
    simpa using this
   ·have h3 := List.all_eq_true.1 k2 r (List.mem_of_getElem? hi)
    exact ren_R c _ (q5 i (r.map (ren nt.n0 th)) (by simp [hi]) j (ren nt.n0 th c) (by simp [hj])) (List.all_eq_true.1 h3 c (List.mem_of_getElem? hj))
 ·have : thOf nt.n0 th id = id := by simp [thOf, hid]
  simp only [this]
  exact hs.ext.hβ id hid
 ·rcases look_mem ρ' t with h | h
  ·rw [h]; exact .junk
  ·obtain ⟨k1, k2⟩ := h1 _ h
   simp only at k1 k2
   have := hs.env t
   rw [k1] at this
   exact ren_R _ _ this k2
abbrev Post := Exit → Env → Heap → Prop
def thenA (N : Env → Heap → Prop) (Q : Post) : Post
 | .normal, ρ, H => N ρ H
 | e, ρ, H => Q e ρ H
def blockA (id : Nat) (Q : Post) : Post
 | .exit id', ρ, H => if id' = id then Q .normal ρ H else Q (.exit id') ρ H
 | e, ρ, H => Q e ρ H
def RunA (P : Program) (C : Orc) (nt : Nat) (ops : Array Oper) (K : Env → Heap → Prop) (ρ : Env) (H : Heap) : Prop :=
 match runL P C nt ops ops.toList (ρ, H) with
 | some s => K s.1 s.2
 | none => False
def RunD (P : Program) (C : Orc) (nt : Nat) (pairs : List (Nat × Nat)) (ops : Array Oper) (K : Env → Heap → Prop) (ρ : Env) (H : Heap) : Prop :=
 match runF P C nt ops (pairs.map Prod.fst ++ pairs.map Prod.snd) H.length 0 ops.toList (ρ, H) with
 | some (s, fs) => (∀ q ∈ pairs, apart H.length ((fs[q.1]?).getD .other) ((fs[q.2]?).getD .other) = true) ∧ K s.1 s.2
 | none => False
def RunE (P : Program) (C : Orc) (nt : Nat) (pairs : List (Nat × Nat)) (τ : List Nat) (ops : Array Oper) (K : Env → Heap → Prop) (ρ : Env) (H : Heap) : Prop :=
 match runFT P C nt ops (pairs.map Prod.fst ++ pairs.map Prod.snd) H.length τ (ρ, H) with
 | some (s, fs) => (∀ q ∈ pairs, apart H.length (footAt fs q.1) (footAt fs q.2) = true) ∧ K s.1 s.2
 | none => False
def condA (x : AVal) (A B : Prop) : Prop :=
 match x with
 | .v (.bool t) => if t then A else B
 | .anyb => A ∧ B
 | _ => False
def UnrA (W : Post → Env → Heap → Prop) (Q : Post) : Nat → Env → Heap → Prop
 | 0, _, _ => False
 | n + 1, ρ, H => W (thenA (UnrA W Q n) Q) ρ H
def Ent (n0 : Nat) (s' s : Env × Heap) : Prop :=
 ∀ (f : Fr) (base : Nat) (w0 : World) (β : Nat → Nat) (fz : Nat → Prop) (a : Act) (w : World), f.n0 = n0 → Sim f base w0 β fz s.1 s.2 a w → ∃ β' fz', Sim f base w0 β' fz' s'.1 s'.2 a w
theorem Ent.refl (n0 : Nat) (s : Env × Heap) : Ent n0 s s := fun _ _ _ β fz _ _ _ h => ⟨β, fz, h⟩
theorem Ent.trans {n0 : Nat} {s'' s' s : Env × Heap} (h1 : Ent n0 s'' s') (h2 : Ent n0 s' s) : Ent n0 s'' s := fun f base w0 β fz a w h0 h => by
 obtain ⟨β', fz', h'⟩ := h2 f base w0 β fz a w h0 h
 exact h1 f base w0 β' fz' a w h0 h'
theorem Ent.weakT {n0 : Nat} {th : List Nat} {s' s : Env × Heap} (h : WeakT n0 th s' s) : Ent n0 s' s := fun f base w0 β fz a w h0 hs => ⟨_, fz, hs.weakT (by rw [h0]; exact h)⟩
def chunksF : Nat → Nat → List Nat → List (List Nat)
 | 0, _, _ => []
 | f + 1, n, l => if l.isEmpty then [] else l.take n :: chunksF f n (l.drop n)
def chunksOf (n : Nat) (l : List Nat) : List (List Nat) := chunksF l.length n l
def bitsOf (n m : Nat) : List Nat := (List.range n).filter fun i => m.testBit i
def RunM (P : Program) (C : Orc) (nt : Nat) (pairs : List (Nat × Nat)) (T : List (List Nat)) (ops : Array Oper) (K : Env → Heap → Prop) (ρ : Env) (H : Heap) : Prop :=
 ∃ s : Env × Heap, K s.1 s.2 ∧ ∀ τ ∈ T, match runFT P C nt ops (pairs.map Prod.fst ++ pairs.map Prod.snd) H.length τ (ρ, H) with
  | some (r, fs) => (∀ q ∈ pairs, apart H.length (footAt fs q.1) (footAt fs q.2) = true) ∧ ∀ n0, n0 ≤ H.length → Ent n0 s r
  | none => False
def RunR (P : Program) (C : Orc) (nt id : Nat) (ops : Array Oper) (draw : Bool) (K : Env → Heap → Prop) (ρ : Env) (H : Heap) : Prop :=
 if C.dyn id = [(1000000, 1000000)] then draw = false ∧ RunN P C nt ops K ρ H
 else if (C.alt id).isEmpty = true then RunD P C nt (C.dyn id) ops K ρ H
 else if ((C.dyn id).headD (0, 0)).1 = 1000001 then RunM P C nt (C.dyn id).tail (chunksOf ops.size (C.alt id)) ops K ρ H
 else RunE P C nt (C.dyn id).tail (List.range ops.size) ops K ρ H ∧ RunE P C nt (C.dyn id).tail (C.alt id) ops K ρ H
def LoopA (n0 : Nat) (W : Post → Env → Heap → Prop) (Q : Post) (ρ : Env) (H : Heap) : Prop :=
 (∃ n, UnrA W Q n ρ H) ∨ (∃ (σ : Type) (st : σ → Env × Heap) (μ : σ → Nat) (s0 : σ), Weaker n0 (st s0) (ρ, H) ∧ ∀ s, W (thenA (fun ρ' H' => ∃ s', μ s' < μ s ∧ Weaker n0 (st s') (ρ', H')) Q) (st s).1 (st s).2) ∨
  (∃ (σ : Type) (st : σ → Env × Heap) (μ : σ → Nat) (s0 : σ) (th : List Nat), WeakT n0 th (st s0) (ρ, H) ∧ ∀ s, W (thenA (fun ρ' H' => ∃ s', μ s' < μ s ∧ ∃ th, WeakT n0 th (st s') (ρ', H')) Q) (st s).1 (st s).2) ∨
  ∃ (σ : Type) (st : σ → Env × Heap) (μ : σ → Nat) (s0 : σ), Ent n0 (st s0) (ρ, H) ∧ ∀ s, W (thenA (fun ρ' H' => ∃ s', μ s' < μ s ∧ Ent n0 (st s') (ρ', H')) Q) (st s).1 (st s).2
def wpX (P : Program) (C : Orc) (nt : Nat) (L : Code → Post → Env → Heap → Prop) : Code → Post → Env → Heap → Prop
 | .skip, Q, ρ, H => Q .normal ρ H
 | .region id ops draw, Q, ρ, H => if (C.dyn id).isEmpty = true then RunA P C nt ops (Q .normal) ρ H else RunR P C nt id ops draw (Q .normal) ρ H
 | .seq x y, Q, ρ, H => wpX P C nt L x (thenA (wpX P C nt L y Q) Q) ρ H
 | .cond c x y, Q, ρ, H => condA (res true (ev ρ c)) (wpX P C nt L x Q ρ H) (wpX P C nt L y Q ρ H)
 | .block id c, Q, ρ, H => wpX P C nt L c (blockA id Q) ρ H
 | .loop c, Q, ρ, H => L c Q ρ H
 | .exit id, Q, ρ, H => Q (.exit id) ρ H
 | .ret, Q, ρ, H => Q .ret ρ H
 | .label _, Q, ρ, H => Q .normal ρ H
 | _, _, _, _ => False
def LoopK (P : Program) (C : Orc) (nt n0 : Nat) : Nat → Code → Post → Env → Heap → Prop
 | 0, _, _, _, _ => False
 | k + 1, c, Q, ρ, H => LoopA n0 (wpX P C nt (LoopK P C nt n0 k) c) Q ρ H
def wpA (P : Program) (C : Orc) (nt n0 : Nat) (c : Code) (Q : Post) (ρ : Env) (H : Heap) : Prop := wpX P C nt (LoopK P C nt n0 4) c Q ρ H
@[congr] theorem LoopA_congr {n0 : Nat} {W : Post → Env → Heap → Prop} {Q : Post} {ρ ρ' : Env} {H H' : Heap} (h1 : ρ = ρ') (h2 : H = H') : LoopA n0 W Q ρ H = LoopA n0 W Q ρ' H' := by rw [h1, h2]
@[congr] theorem wpX_congr {P : Program} {C : Orc} {nt : Nat} {L : Code → Post → Env → Heap → Prop} {c : Code} {Q : Post} {ρ ρ' : Env} {H H' : Heap} (h1 : ρ = ρ') (h2 : H = H') : wpX P C nt L c Q ρ H = wpX P C nt L c Q ρ' H' := by rw [h1, h2]
@[congr] theorem LoopK_congr {P : Program} {C : Orc} {nt n0 k : Nat} {c : Code} {Q : Post} {ρ ρ' : Env} {H H' : Heap} (h1 : ρ = ρ') (h2 : H = H') : LoopK P C nt n0 k c Q ρ H = LoopK P C nt n0 k c Q ρ' H' := by rw [h1, h2]
@[congr] theorem condA_congr {x x' : AVal} {A B : Prop} (h : x = x') : condA x A B = condA x' A B := by rw [h]
@[congr] theorem thenA_congr {N : Env → Heap → Prop} {Q : Post} {e e' : Exit} {ρ ρ' : Env} {H H' : Heap} (h0 : e = e') (h1 : ρ = ρ') (h2 : H = H') : thenA N Q e ρ H = thenA N Q e' ρ' H' := by rw [h0, h1, h2]
@[congr] theorem blockA_congr {id : Nat} {Q : Post} {e e' : Exit} {ρ ρ' : Env} {H H' : Heap} (h0 : e = e') (h1 : ρ = ρ') (h2 : H = H') : blockA id Q e ρ H = blockA id Q e' ρ' H' := by rw [h0, h1, h2]
@[congr] theorem RunA_congr {P : Program} {C : Orc} {nt : Nat} {ops : Array Oper} {K : Env → Heap → Prop} {ρ ρ' : Env} {H H' : Heap} (h1 : ρ = ρ') (h2 : H = H') : RunA P C nt ops K ρ H = RunA P C nt ops K ρ' H' := by rw [h1, h2]
@[congr] theorem RunD_congr {P : Program} {C : Orc} {nt : Nat} {pairs : List (Nat × Nat)} {ops : Array Oper} {K : Env → Heap → Prop} {ρ ρ' : Env} {H H' : Heap} (h1 : ρ = ρ') (h2 : H = H') : RunD P C nt pairs ops K ρ H = RunD P C nt pairs ops K ρ' H' := by rw [h1, h2]
@[congr] theorem RunE_congr {P : Program} {C : Orc} {nt : Nat} {pairs : List (Nat × Nat)} {τ : List Nat} {ops : Array Oper} {K : Env → Heap → Prop} {ρ ρ' : Env} {H H' : Heap} (h1 : ρ = ρ') (h2 : H = H') : RunE P C nt pairs τ ops K ρ H = RunE P C nt pairs τ ops K ρ' H' := by rw [h1, h2]
@[congr] theorem RunM_congr {P : Program} {C : Orc} {nt : Nat} {pairs : List (Nat × Nat)} {T : List (List Nat)} {ops : Array Oper} {K : Env → Heap → Prop} {ρ ρ' : Env} {H H' : Heap} (h1 : ρ = ρ') (h2 : H = H') : RunM P C nt pairs T ops K ρ H = RunM P C nt pairs T ops K ρ' H' := by rw [h1, h2]
@[congr] theorem RunR_congr {P : Program} {C : Orc} {nt id : Nat} {ops : Array Oper} {draw : Bool} {K : Env → Heap → Prop} {ρ ρ' : Env} {H H' : Heap} (h1 : ρ = ρ') (h2 : H = H') : RunR P C nt id ops draw K ρ H = RunR P C nt id ops draw K ρ' H' := by rw [h1, h2]
@[congr] theorem UnrA_congr {W : Post → Env → Heap → Prop} {Q : Post} {n : Nat} {ρ ρ' : Env} {H H' : Heap} (h1 : ρ = ρ') (h2 : H = H') : UnrA W Q n ρ H = UnrA W Q n ρ' H' := by rw [h1, h2]
def codeRF (C : Orc) : Code → Bool
 | .region id ops draw => (!draw && (C.alt id).isEmpty) || (if (C.dyn id).isEmpty then raceFree C.inl ops else if (C.alt id).isEmpty then raceFreeP C.inl (C.dyn id) ops else
   draw && (if ((C.dyn id).headD (0, 0)).1 = 1000001 then raceFreeM C.inl (bitsOf ops.size ((C.dyn id).headD (0, 0)).2) (C.dyn id).tail (chunksOf ops.size (C.alt id)) ops else raceFreeE C.inl ((C.dyn id).headD (0, 0)).1 ((C.dyn id).headD (0, 0)).2 (C.dyn id).tail (C.alt id) ops))
 | .seq x y => codeRF C x && codeRF C y
 | .cond _ x y => codeRF C x && codeRF C y
 | .block _ x => codeRF C x
 | .loop x => codeRF C x
 | _ => true
def AWp (P : Program) (nt n0 : Nat) (c : Code) (Q : Post) (ρ : Env) (H : Heap) : Prop :=
 ∀ (f : Fr) (base : Nat) (w0 : World) (β : Nat → Nat) (fz : Nat → Prop) (a : Act) (w : World), f.nt = nt → f.n0 = n0 → Sim f base w0 β fz ρ H a w →
  c.wp P (fun ex a' w' => ∃ ρ' H' β' fz', Q ex ρ' H' ∧ Sim f base w0 β' fz' ρ' H' a' w') a w
end
section
variable {P : Program} {C : Orc} {nt n0 : Nat} {ρ ρ' : Env} {H H' : Heap}
theorem AWp.weaker {c : Code} {Q : Post} (h : AWp P nt n0 c Q ρ' H') (hw : Weaker n0 (ρ', H') (ρ, H)) : AWp P nt n0 c Q ρ H :=
 fun f base w0 β fz a w h1 h2 hs => h f base w0 β fz a w h1 h2 (hs.weaker (by rw [h2]; exact hw))
theorem AWp.mono {c : Code} {Q Q' : Post} (h : AWp P nt n0 c Q ρ H) (hq : ∀ e ρ H, Q e ρ H → Q' e ρ H) : AWp P nt n0 c Q' ρ H :=
 fun f base w0 β fz a w h1 h2 hs => wp_mono (h f base w0 β fz a w h1 h2 hs) fun _ _ _ ⟨ρ', H', β', fz', q, s⟩ => ⟨ρ', H', β', fz', hq _ _ _ q, s⟩
theorem AWp.seq {x y : Code} {Q : Post} (h : AWp P nt n0 x (thenA (AWp P nt n0 y Q) Q) ρ H) : AWp P nt n0 (.seq x y) Q ρ H := by
 intro f base w0 β fz a w h1 h2 hs
 refine wp_seq (wp_mono (h f base w0 β fz a w h1 h2 hs) ?_)
 rintro e a' w' ⟨ρ', H', β', fz', q, s⟩
 cases e with
 | normal => exact q f base w0 β' fz' a' w' h1 h2 s
 | _ => exact ⟨ρ', H', β', fz', q, s⟩
theorem wpX_sound (hC : OrcOk P C) (hm : P.follows .mixedOrders = true) {L : Code → Post → Env → Heap → Prop} (hL : ∀ c Q ρ H, codeRF C c = true → L c Q ρ H → AWp P nt n0 (.loop c) Q ρ H) : ∀ (c : Code) (Q : Post) (ρ : Env) (H : Heap), codeRF C c = true → wpX P C nt L c Q ρ H → AWp P nt n0 c Q ρ H := by
 intro c
 induction c with
 | skip => intro Q ρ H _ h f base w0 β fz a w h1 h2 hs; exact wp_skip ⟨ρ, H, β, fz, h, hs⟩
 | label l => intro Q ρ H _ h f base w0 β fz a w h1 h2 hs; exact wp_label ⟨ρ, H, β, fz, h, hs⟩
 | exit id => intro Q ρ H _ h f base w0 β fz a w h1 h2 hs; exact wp_exit ⟨ρ, H, β, fz, h, hs⟩
 | ret => intro Q ρ H _ h f base w0 β fz a w h1 h2 hs; exact wp_ret ⟨ρ, H, β, fz, h, hs⟩
 | region id ops draw =>
  intro Q ρ H hrf h f base w0 β fz a w h1 h2 hs
  simp only [wpX] at h
  by_cases hdyn : (C.dyn id).isEmpty = true
  ·rw [if_pos hdyn] at h
   simp only [RunA] at h
   have hrf : draw = true → raceFree C.inl ops = true := by
    intro hd
    simpa [codeRF, hd, hdyn] using hrf
   split at h
   ·rename_i s hrun
    subst h1
    exact region_wp hC hm hrf _ hs hrun (fun β' fz' a' w' hs' => ⟨s.1, s.2, β', fz', h, hs'⟩)
   ·exact h.elim
  ·rw [if_neg hdyn] at h
   have hdyn' : (C.dyn id).isEmpty = false := by simpa using hdyn
   unfold RunR at h
   by_cases hnx : C.dyn id = [(1000000, 1000000)]
   ·rw [if_pos hnx] at h
    obtain ⟨rfl, h⟩ := h
    subst h1
    exact region_wpN hC hs h (fun ρ' H' β' fz' a' w' hk hs' => ⟨ρ', H', β', fz', hk, hs'⟩)
   rw [if_neg hnx] at h
   by_cases halt : (C.alt id).isEmpty = true
   ·rw [if_pos halt] at h
    simp only [RunD] at h
    have hrf : draw = true → raceFreeP C.inl (C.dyn id) ops = true := by
     intro hd
     simp only [codeRF, hd, hdyn', halt, Bool.not_true, Bool.false_and, Bool.false_or, Bool.false_eq_true, if_false, if_true] at hrf
     exact hrf
    split at h
    ·rename_i s fs hrun
     subst h1
     exact region_wpD hC hm hrf _ hs hrun h.1 (fun β' fz' a' w' hs' => ⟨s.1, s.2, β', fz', h.2, hs'⟩)
    ·exact h.elim
   ·rw [if_neg halt] at h
    have halt' : (C.alt id).isEmpty = false := by simpa using halt
    simp only [codeRF, hdyn', halt', Bool.and_false, Bool.false_or, Bool.false_eq_true, if_false, Bool.and_eq_true] at hrf
    obtain ⟨hd, hrf⟩ := hrf
    subst hd
    by_cases hmo : ((C.dyn id).headD (0, 0)).1 = 1000001
    ·rw [if_pos hmo] at h hrf
     obtain ⟨s0, hK, hT⟩ := h
     subst h1
     refine region_wpM hC hm hrf _ hs (idx := (C.dyn id).tail.map Prod.fst ++ (C.dyn id).tail.map Prod.snd) fun τ hτ => ?_
     have := hT τ hτ
     split at this
     ·rename_i s1 f1 hrun1
      refine ⟨s1.1, s1.2, f1, hrun1, this.1, fun β' fz' a' w' hs' => ?_⟩
      obtain ⟨β2, fz2, hs2⟩ := this.2 f.n0 hs.ext.hn f base w0 β' fz' a' w' rfl hs'
      exact ⟨s0.1, s0.2, β2, fz2, hK, hs2⟩
     ·exact this.elim
    rw [if_neg hmo] at h hrf
    obtain ⟨ha, hb⟩ := h
    unfold RunE at ha hb
    split at ha
    ·rename_i s1 f1 hrun1
     split at hb
     ·rename_i s2 f2 hrun2
      subst h1
      exact region_wpE hC hm hrf _ hs hrun1 hrun2 ha.1 hb.1 (fun β' fz' a' w' hs' => ⟨s1.1, s1.2, β', fz', ha.2, hs'⟩) (fun β' fz' a' w' hs' => ⟨s2.1, s2.2, β', fz', hb.2, hs'⟩)
     ·exact hb.elim
    ·exact ha.elim
 | seq x y ihx ihy =>
  intro Q ρ H hrf h
  simp only [wpX] at h
  simp only [codeRF, Bool.and_eq_true] at hrf
  refine AWp.seq ((ihx _ ρ H hrf.1 h).mono ?_)
  intro e ρ' H' q
  cases e with
  | normal => exact ihy Q ρ' H' hrf.2 q
  | _ => exact q
 | cond c x y ihx ihy =>
  intro Q ρ H hrf h f base w0 β fz a w h1 h2 hs
  simp only [codeRF, Bool.and_eq_true] at hrf
  simp only [wpX, condA] at h
  have hc := res_R (g := true) rfl (hs.ev c)
  split at h
  ·rename_i t ht
   rw [ht] at hc
   refine wp_cond hc.v_inv ?_
   cases t
   ·exact ihy Q ρ H hrf.2 h f base w0 β fz a w h1 h2 hs
   ·exact ihx Q ρ H hrf.1 h f base w0 β fz a w h1 h2 hs
  ·rename_i ht
   rw [ht] at hc
   generalize hv : a.eval c = v at hc
   cases hc with
   | @anyb _ b =>
    refine wp_cond hv ?_
    cases b
    ·exact ihy Q ρ H hrf.2 h.2 f base w0 β fz a w h1 h2 hs
    ·exact ihx Q ρ H hrf.1 h.1 f base w0 β fz a w h1 h2 hs
  ·exact h.elim
 | block id x ih =>
  intro Q ρ H hrf h f base w0 β fz a w h1 h2 hs
  simp only [codeRF] at hrf
  simp only [wpX] at h
  refine wp_block (wp_mono (ih _ ρ H hrf h f base w0 β fz a w h1 h2 hs) ?_)
  rintro e a' w' ⟨ρ', H', β', fz', q, s⟩
  cases e with
  | exit id' =>
   simp only [blockA] at q
   simp only [Exit.inBlock]
   split at q
   ·rename_i hid; rw [if_pos hid]; exact ⟨ρ', H', β', fz', q, s⟩
   ·rename_i hid; rw [if_neg hid]; exact ⟨ρ', H', β', fz', q, s⟩
  | _ => exact ⟨ρ', H', β', fz', q, s⟩
 | loop x ih =>
  intro Q ρ H hrf h
  simp only [codeRF] at hrf
  exact hL x Q ρ H hrf h
 | rangeFunc _ _ _ _ _ _ => intro Q ρ H _ h; simp [wpX] at h
 | scope _ _ => intro Q ρ H _ h; simp [wpX] at h
 | goto _ => intro Q ρ H _ h; simp [wpX] at h
 | refuse _ => intro Q ρ H _ h; simp [wpX] at h
theorem LoopA_sound {W : Post → Env → Heap → Prop} {c : Code} (hW : ∀ Q ρ H, W Q ρ H → AWp P nt n0 c Q ρ H) {Q : Post} (h : LoopA n0 W Q ρ H) : AWp P nt n0 (.loop c) Q ρ H := by
 intro f base w0 β fz a w h1 h2 hs
 simp only [LoopA] at h
 rcases h with ⟨n, h⟩ | ⟨σ, st, μ, s0, hw, hround⟩ | ⟨σ, st, μ, s0, th, hw, hround⟩ | ⟨σ, st, μ, s0, hw, hround⟩
 ·refine wp_loop_rounds n ?_
  induction n generalizing ρ H β fz a w with
  | zero => simp [UnrA] at h
  | succ n ihn =>
   rw [rounds_succ]
   simp only [UnrA] at h
   refine wp_mono (hW _ _ _ h f base w0 β fz a w h1 h2 hs) ?_
   rintro e a' w' ⟨ρ', H', β', fz', q, hs'⟩
   cases e with
   | normal => exact ihn β' fz' a' w' hs' q
   | _ => exact ⟨ρ', H', β', fz', q, hs'⟩
 ·refine wp_loop_ghost (fun n a w => ∃ s β fz, μ s = n ∧ Sim f base w0 β fz (st s).1 (st s).2 a w) (μ s0) ⟨s0, β, fz, rfl, hs.weaker (by rw [h2]; exact hw)⟩ ?_
  rintro n a w ⟨s, β, fz, rfl, hs⟩
  refine wp_mono (hW _ _ _ (hround s) f base w0 β fz a w h1 h2 hs) ?_
  rintro e a' w' ⟨ρ', H', β', fz', q, hs'⟩
  cases e with
  | normal =>
   obtain ⟨s', hlt, hwk⟩ := q
   exact ⟨μ s', hlt, s', β', fz', rfl, hs'.weaker (by rw [h2]; exact hwk)⟩
  | _ => exact ⟨ρ', H', β', fz', q, hs'⟩
 ·refine wp_loop_ghost (fun n a w => ∃ s β fz, μ s = n ∧ Sim f base w0 β fz (st s).1 (st s).2 a w) (μ s0) ⟨s0, _, fz, rfl, hs.weakT (by rw [h2]; exact hw)⟩ ?_
  rintro n a w ⟨s, β, fz, rfl, hs⟩
  refine wp_mono (hW _ _ _ (hround s) f base w0 β fz a w h1 h2 hs) ?_
  rintro e a' w' ⟨ρ', H', β', fz', q, hs'⟩
  cases e with
  | normal =>
   obtain ⟨s', hlt, th', hwk⟩ := q
   exact ⟨μ s', hlt, s', _, fz', rfl, hs'.weakT (by rw [h2]; exact hwk)⟩
  | _ => exact ⟨ρ', H', β', fz', q, hs'⟩
 ·obtain ⟨β1, fz1, hs1⟩ := hw f base w0 β fz a w h2 hs
  refine wp_loop_ghost (fun n a w => ∃ s β fz, μ s = n ∧ Sim f base w0 β fz (st s).1 (st s).2 a w) (μ s0) ⟨s0, β1, fz1, rfl, hs1⟩ ?_
  rintro n a w ⟨s, β, fz, rfl, hs⟩
  refine wp_mono (hW _ _ _ (hround s) f base w0 β fz a w h1 h2 hs) ?_
  rintro e a' w' ⟨ρ', H', β', fz', q, hs'⟩
  cases e with
  | normal =>
   obtain ⟨s', hlt, hwk⟩ := q
   obtain ⟨β2, fz2, hs2⟩ := hwk f base w0 β' fz' a' w' h2 hs'
   exact ⟨μ s', hlt, s', β2, fz2, rfl, hs2⟩
  | _ => exact ⟨ρ', H', β', fz', q, hs'⟩
theorem LoopK_sound (hC : OrcOk P C) (hm : P.follows .mixedOrders = true) : ∀ (k : Nat) (c : Code) (Q : Post) (ρ : Env) (H : Heap), codeRF C c = true → LoopK P C nt n0 k c Q ρ H → AWp P nt n0 (.loop c) Q ρ H
 | 0, _, _, _, _, _, h => h.elim
 | k + 1, c, _, _, _, hrf, h => LoopA_sound (fun Q ρ H hW => wpX_sound hC hm (LoopK_sound hC hm k) c Q ρ H hrf hW) h
theorem wpA_sound (hC : OrcOk P C) (hm : P.follows .mixedOrders = true) (c : Code) (Q : Post) (ρ : Env) (H : Heap) (hrf : codeRF C c = true) (h : wpA P C nt n0 c Q ρ H) : AWp P nt n0 c Q ρ H :=
 wpX_sound hC hm (LoopK_sound hC hm 4) c Q ρ H hrf h
def UnrK (P : Program) (C : Orc) (nt n0 k : Nat) (c : Code) (Q : Post) : Nat → Env → Heap → Prop
 | 0, _, _ => False
 | n + 1, ρ, H => wpX P C nt (LoopK P C nt n0 k) c (thenA (UnrK P C nt n0 k c Q n) Q) ρ H
@[congr] theorem UnrK_congr {k : Nat} {c : Code} {Q : Post} {n : Nat} (h1 : ρ = ρ') (h2 : H = H') : UnrK P C nt n0 k c Q n ρ H = UnrK P C nt n0 k c Q n ρ' H' := by rw [h1, h2]
def Again {σ : Type} (n0 : Nat) (st : σ → Env × Heap) (μ : σ → Nat) (m : Nat) (ρ : Env) (H : Heap) : Prop := ∃ s, μ s < m ∧ Weaker n0 (st s) (ρ, H)
@[congr] theorem Again_congr {σ : Type} {st : σ → Env × Heap} {μ : σ → Nat} {m : Nat} (h1 : ρ = ρ') (h2 : H = H') : Again n0 st μ m ρ H = Again n0 st μ m ρ' H' := by rw [h1, h2]
theorem loop_inv {k : Nat} {c : Code} {Q : Post} {σ : Type} (st : σ → Env × Heap) (μ : σ → Nat) (s0 : σ) (h0 : Weaker n0 (st s0) (ρ, H))
  (hr : ∀ s, wpX P C nt (LoopK P C nt n0 k) c (thenA (Again n0 st μ (μ s)) Q) (st s).1 (st s).2) : LoopK P C nt n0 (k + 1) c Q ρ H :=
 .inr (.inl ⟨σ, st, μ, s0, h0, hr⟩)
def AgainT {σ : Type} (n0 : Nat) (st : σ → Env × Heap) (μ : σ → Nat) (m : Nat) (ρ : Env) (H : Heap) : Prop := ∃ s, μ s < m ∧ ∃ th, WeakT n0 th (st s) (ρ, H)
@[congr] theorem AgainT_congr {σ : Type} {st : σ → Env × Heap} {μ : σ → Nat} {m : Nat} (h1 : ρ = ρ') (h2 : H = H') : AgainT n0 st μ m ρ H = AgainT n0 st μ m ρ' H' := by rw [h1, h2]
theorem loop_ren {k : Nat} {c : Code} {Q : Post} {σ : Type} (st : σ → Env × Heap) (μ : σ → Nat) (s0 : σ) (th : List Nat) (h0 : WeakT n0 th (st s0) (ρ, H))
  (hr : ∀ s, wpX P C nt (LoopK P C nt n0 k) c (thenA (AgainT n0 st μ (μ s)) Q) (st s).1 (st s).2) : LoopK P C nt n0 (k + 1) c Q ρ H :=
 .inr (.inr (.inl ⟨σ, st, μ, s0, th, h0, hr⟩))
def AgainE {σ : Type} (n0 : Nat) (st : σ → Env × Heap) (μ : σ → Nat) (m : Nat) (ρ : Env) (H : Heap) : Prop := ∃ s, μ s < m ∧ Ent n0 (st s) (ρ, H)
@[congr] theorem AgainE_congr {σ : Type} {st : σ → Env × Heap} {μ : σ → Nat} {m : Nat} (h1 : ρ = ρ') (h2 : H = H') : AgainE n0 st μ m ρ H = AgainE n0 st μ m ρ' H' := by rw [h1, h2]
def envOf : Nat → Row → Env
 | _, [] => []
 | i, a :: r => (i, a) :: envOf (i + 1) r
theorem look_envOf (args : Row) : ∀ (i t : Nat), look (envOf i args) t = if i ≤ t then (args[t - i]?).getD .junk else .junk := by
 induction args with
 | nil => intro i t; simp [envOf, look]
 | cons a r ih =>
  intro i t
  simp only [envOf, look]
  by_cases h : t = i
  ·subst h; simp
  ·rw [if_neg h, ih]
   by_cases h2 : i + 1 ≤ t
   ·rw [if_pos h2, if_pos (by omega)]
    have : t - i = (t - (i + 1)) + 1 := by omega
    rw [this, List.getElem?_cons_succ]
   ·rw [if_neg h2, if_neg (by omega)]
def resA (P : Program) (ρ : Env) (H : Heap) : List ResultVar → Option Row
 | [] => some []
 | .tmp t :: r => (resA P ρ H r).map (look ρ t :: ·)
 | .cell t ty :: r => match aLoad P ty (look ρ t) H with
  | some a => (resA P ρ H r).map (a :: ·)
  | none => none
def tupA : Row → AVal
 | [a] => a
 | l => match allV l with
  | some xs => .v (.tuple xs.toArray)
  | none => .tup l
def retA (P : Program) (fn : Func) (R : AVal → Heap → Prop) : Post
 | .normal, ρ, H => match resA P ρ H fn.results.toList with | some l => R (tupA l) H | none => False
 | .ret, ρ, H => match resA P ρ H fn.results.toList with | some l => R (tupA l) H | none => False
 | _, _, _ => False
end
end Go.AI
