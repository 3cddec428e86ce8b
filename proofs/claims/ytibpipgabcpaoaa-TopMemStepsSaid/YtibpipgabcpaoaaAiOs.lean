/- A map walked through: the next entry, whichever it is. -/
import Derived.Test.YtibpipgabcpaoaaAiOd
import Derived.Test.YtibpipgabcpaoaaAiLs
namespace Go.AI
set_option linter.unusedSimpArgs false
set_option linter.unusedVariables false
open Go.RowKit
open Go.ChangeMaps (setBlock)
def RunK (P : Program) (C : Orc) (nt : Nat) (ops : Array Oper) (l : List Oper) (K : Env → Heap → Prop) (ρ : Env) (H : Heap) : Prop :=
 match runL P C nt ops l (ρ, H) with
 | some s => K s.1 s.2
 | none => False
def StepN (P : Program) (C : Orc) (nt : Nat) (ops : Array Oper) (l : List Oper) (K : Env → Heap → Prop) (d : Tmp) (ρ : Env) (H : Heap) (rid id : Nat) (s c t : Int) (sn : Row) (es : List Row) : Prop :=
 t = s ∧ s ≤ c ∧ (∀ r ∈ es, ∃ k a b, r = [k, a, .v (.int .i64 b)]) ∧ (∀ x ∈ sn, ∃ b, x = .v (.int .i64 b)) ∧
  (∀ (i : Nat) (k a : AVal) (b : Int), es[i]? = some [k, a, .v (.int .i64 b)] → AVal.v (.int .i64 b) ∉ sn →
   RunK P C nt ops l K (put ρ (some d) (.tup [.v (.bool true), k, a])) (H.set rid (some (0, [[.ptr id 0 0 0, .v (.int .i64 s), .v (.int .i64 t)], sn ++ [.v (.int .i64 b)]])))) ∧
  ((∀ (i : Nat) (k a : AVal) (b : Int), es[i]? = some [k, a, .v (.int .i64 b)] → AVal.v (.int .i64 b) ∈ sn) → RunK P C nt ops l K (put ρ (some d) (.v (.tuple #[.bool false]))) H)
def IterN (P : Program) (C : Orc) (nt : Nat) (ops : Array Oper) (l : List Oper) (K : Env → Heap → Prop) (d : Tmp) (ρ : Env) (H : Heap) (rid : Nat) : Prop :=
 ∃ (id : Nat) (s c t : Int) (sn : Row) (es : List Row), H[rid]? = some (some (0, [[.ptr id 0 0 0, .v (.int .i64 s), .v (.int .i64 c)], sn])) ∧ H[id]? = some (some (0, [.v (.int .i64 t)] :: es)) ∧ StepN P C nt ops l K d ρ H rid id s c t sn es
def RunN (P : Program) (C : Orc) (nt : Nat) (ops : Array Oper) (K : Env → Heap → Prop) (ρ : Env) (H : Heap) : Prop :=
 match ops.toList with
 | [] => False
 | o :: l => match o.op, o.guard, o.dst with
  | .next x false, none, some d => d < nt ∧ match ev ρ x with
   | .ptr rid 1 0 0 => IterN P C nt ops l K d ρ H rid
   | _ => False
  | _, _, _ => False
@[congr] theorem RunK_congr {P : Program} {C : Orc} {nt : Nat} {ops : Array Oper} {l : List Oper} {K : Env → Heap → Prop} {ρ ρ' : Env} {H H' : Heap} (h1 : ρ = ρ') (h2 : H = H') : RunK P C nt ops l K ρ H = RunK P C nt ops l K ρ' H' := by rw [h1, h2]
@[congr] theorem RunN_congr {P : Program} {C : Orc} {nt : Nat} {ops : Array Oper} {K : Env → Heap → Prop} {ρ ρ' : Env} {H H' : Heap} (h1 : ρ = ρ') (h2 : H = H') : RunN P C nt ops K ρ H = RunN P C nt ops K ρ' H' := by rw [h1, h2]
@[congr] theorem IterN_congr {P : Program} {C : Orc} {nt : Nat} {ops : Array Oper} {l : List Oper} {K : Env → Heap → Prop} {d : Tmp} {ρ ρ' : Env} {H H' : Heap} {r r' : Nat} (h1 : ρ = ρ') (h2 : H = H') (h3 : r = r') : IterN P C nt ops l K d ρ H r = IterN P C nt ops l K d ρ' H' r' := by rw [h1, h2, h3]
theorem RunK_mono {P : Program} {C : Orc} {nt : Nat} {ops : Array Oper} {l : List Oper} {K K' : Env → Heap → Prop} {ρ : Env} {H : Heap} (hK : ∀ ρ H, K ρ H → K' ρ H) (h : RunK P C nt ops l K ρ H) : RunK P C nt ops l K' ρ H := by
 unfold RunK at h ⊢
 split at h
 ·exact hK _ _ h
 ·exact h.elim
theorem RunN_mono {P : Program} {C : Orc} {nt : Nat} {ops : Array Oper} {K K' : Env → Heap → Prop} {ρ : Env} {H : Heap} (hK : ∀ ρ H, K ρ H → K' ρ H) (h : RunN P C nt ops K ρ H) : RunN P C nt ops K' ρ H := by
 unfold RunN at h ⊢
 split at h
 ·exact h.elim
 ·rename_i o l hol
  split at h
  ·rename_i x d hop hg hd
   obtain ⟨h1, h⟩ := h
   refine ⟨h1, ?_⟩
   split at h
   ·obtain ⟨id, s, c, t, sn, es, q1, q2, q3, q4, q5, q6, q7, q8⟩ := h
    exact ⟨id, s, c, t, sn, es, q1, q2, q3, q4, q5, q6, fun i k a b e n => RunK_mono hK (q7 i k a b e n), fun e => RunK_mono hK (q8 e)⟩
   ·exact h.elim
  ·exact h.elim
section
variable {nt : Fr} {base : Nat} {w0 : World} {β : Nat → Nat} {fz : Nat → Prop} {ρ ρ' : Env} {H H' : Heap} {a : Act} {w : World} {P : Program} {C : Orc} {ops : Array Oper}
theorem HSim.setG (hs : HSim base w0 β fz H w) {id : Nat} {rows rows' : List Row} (hid : H[id]? = some (some (0, rows))) (hnc : ∀ cs e f, w.heap[β id]? ≠ some (.cells cs e f)) {ob : Obj}
  (hG : GSim base β fz (setBlock w (β id) ob) H.length id rows') :
  HSim base w0 β fz (H.set id (some (0, rows'))) (setBlock w (β id) ob) ∧ Ext H.length β fz w (H.set id (some (0, rows'))).length β fz (setBlock w (β id) ob) := by
 have hlive : Live H id := ⟨_, hid⟩
 have hown := hs.own id hlive
 have hb := hs.blt hlive
 have hoth : ∀ k, k ≠ β id → (setBlock w (β id) ob).heap[k]? = w.heap[k]? := fun k h => by
  simp only [setBlock]; rw [Array.getElem?_setIfInBounds_ne (fun e => h e.symm)]
 have shp : Shapes w (setBlock w (β id) ob) := by
  intro b cs e f h
  have hne : b ≠ β id := fun q => by rw [q] at h; exact hnc _ _ _ h
  exact ⟨cs, f, by rw [hoth b hne]; exact h, rfl⟩
 have ext : Ext H.length β fz w (H.set id (some (0, rows'))).length β fz (setBlock w (β id) ob) :=
  ⟨by simp, fun _ _ => rfl, fun _ h => h, fun b hb => hoth b (fun e => hown.2 (e ▸ hb)), shp⟩
 refine ⟨⟨?_, ?_, ?_, ?_, ?_, hs.base⟩, ext⟩
 ·intro k sz' rws hk
  by_cases hki : k = id
  ·subst hki
   have hlt : k < H.length := (List.getElem?_eq_some_iff.1 hid).1
   rw [List.getElem?_set_self hlt] at hk
   simp only [Option.some.injEq, Prod.mk.injEq] at hk
   obtain ⟨rfl, rfl⟩ := hk
   rw [OSim, if_pos rfl, List.length_set]
   exact .inr hG
  ·rw [List.getElem?_set_ne (by omega)] at hk
   have hne : β k ≠ β id := fun he => hki (hs.inj k id ⟨_, hk⟩ hlive he)
   exact (hs.objs' k sz' rws hk).ext ext (hoth _ hne)
 ·exact fun a b ha hb => hs.inj a b (ha.set hlive) (hb.set hlive)
 ·exact fun k hk => hs.own k (hk.set hlive)
 ·exact fun b hb => by have := hs.fzlt b hb; simpa [setBlock] using this
 ·exact hs.below.trans ⟨rfl, rfl, rfl, by simp [setBlock], fun k hk => hoth k (by omega), Nat.le_refl _⟩
theorem next_does {o : Oper} {x : Operand} {rid id : Nat} {s c t : Int} {sn : Row} {es : List Row} (hop : o.op = .next x false) (hs : Sim nt base w0 β fz ρ H a w) (hx : ev ρ x = .ptr rid 1 0 0)
  (hit : H[rid]? = some (some (0, [[.ptr id 0 0 0, .v (.int .i64 s), .v (.int .i64 c)], sn]))) (hmp : H[id]? = some (some (0, [.v (.int .i64 t)] :: es))) (hts : t = s) (hsc : s ≤ c)
  (hwf : ∀ r ∈ es, ∃ k a b, r = [k, a, .v (.int .i64 b)]) (hsw : ∀ y ∈ sn, ∃ b, y = AVal.v (.int .i64 b)) :
  ((∀ (i : Nat) (k a : AVal) (b : Int), es[i]? = some [k, a, .v (.int .i64 b)] → AVal.v (.int .i64 b) ∈ sn) ∧ Does P o a w base w0 β fz H (.v (.tuple #[.bool false])) H) ∨
  ∃ (i : Nat) (k y : AVal) (b : Int), es[i]? = some [k, y, .v (.int .i64 b)] ∧ AVal.v (.int .i64 b) ∉ sn ∧ Does P o a w base w0 β fz H (.tup [.v (.bool true), k, y]) (H.set rid (some (0, [[.ptr id 0 0 0, .v (.int .i64 s), .v (.int .i64 t)], sn ++ [.v (.int .i64 b)]]))) := by
 have hv := hs.ev x
 rw [hx] at hv
 obtain ⟨_, hv⟩ := ptrV (by decide) hv
 obtain ⟨E, clock, h1, hbn, e1, hl, hr⟩ := hs.heap.walk hmp
 obtain ⟨since, stepped, seen, g1, g2, g3, g4, g5⟩ := hs.heap.iter hit
 have hold : ∀ z ∈ E.toList, z.born < since := fun z hz => by have := hbn.lt z hz; omega
 have hst : since ≤ stepped := by omega
 have hclock : clock = since := by omega
 -- an entry's row
 have hrow : ∀ (i : Nat) (en : MapEntry), E[i]? = some en → ∃ k y, es[i]? = some [k, y, .v (.int .i64 (en.born : Int))] ∧ R β (okOf base fz) w H.length k en.key ∧ R β (okOf base fz) w H.length y en.val := by
  intro i en hi
  have hie : i < es.length := by rw [hl]; exact (Array.getElem?_eq_some_iff.1 hi).1
  obtain ⟨k, y, b, e2, r1, r2, r3⟩ := hr i es[i] en (List.getElem?_eq_getElem hie) hi
  obtain ⟨k', y', b', e3⟩ := hwf es[i] (List.getElem_mem hie)
  rw [e2] at e3
  simp only [List.cons.injEq, and_true] at e3
  obtain ⟨rfl, rfl, rfl⟩ := e3
  have := r3.v_inv
  refine ⟨k, y, ?_, r1, r2⟩
  rw [List.getElem?_eq_getElem hie, e2, this]
 have hseen : ∀ (m : Nat), AVal.v (.int .i64 (m : Int)) ∈ sn ↔ seen.contains m = true := by
  intro m
  rw [Array.contains_iff_mem]
  constructor
  ·intro hm
   obtain ⟨j, hj⟩ := List.mem_iff_getElem?.1 hm
   have hjl : j < seen.size := by rw [← g4]; exact (List.getElem?_eq_some_iff.1 hj).1
   have := (g5 j _ _ hj (Array.getElem?_eq_getElem hjl)).v_inv
   simp only [Value.int.injEq, true_and] at this
   have : m = seen[j] := by omega
   rw [this]; exact Array.getElem_mem hjl
  ·intro hm
   obtain ⟨j, hj, rfl⟩ := Array.mem_iff_getElem.1 hm
   have hjl : j < sn.length := by omega
   obtain ⟨b, hb⟩ := hsw sn[j] (List.getElem_mem hjl)
   have h5 := g5 j _ _ (List.getElem?_eq_getElem hjl) (Array.getElem?_eq_getElem hj)
   rw [hb] at h5
   have := h5.v_inv
   rw [this, ← hb]
   exact List.getElem_mem hjl
 rcases run_next_at (P := P) w o.type (β rid) (β id) since stepped seen E clock g1 h1 hold hst with ⟨h0, hrun⟩ | ⟨en, hen, w1, hal, hrun⟩
 ·refine .inl ⟨fun i k y b hi => ?_, ?_⟩
  ·have hie : i < E.size := by rw [← hl]; exact (List.getElem?_eq_some_iff.1 hi).1
   obtain ⟨k', y', e2, _, _⟩ := hrow i E[i] (Array.getElem?_eq_getElem hie)
   rw [hi] at e2
   simp only [Option.some.injEq, List.cons.injEq, and_true] at e2
   obtain ⟨rfl, rfl, e3⟩ := e2
   rw [e3]
   exact (hseen _).2 (all_seen E seen h0 E[i] (by simp))
  ·refine does_pure hs.heap (x := .tuple #[.bool false]) ?_ .v
   simp only [execOp, hop, hv]
   simp [hrun]
 ·obtain ⟨hm, hns⟩ := mem_left hen
  obtain ⟨i, hi, hie⟩ := List.mem_iff_getElem.1 hm
  have hie' : E[i]? = some en := by
   have hi' : i < E.size := by simpa using hi
   rw [Array.getElem?_eq_getElem hi']
   simpa using hie
  obtain ⟨k, y, e2, r1, r2⟩ := hrow i en hie'
  refine .inr ⟨i, k, y, _, e2, fun hc => ?_, ?_⟩
  ·rw [(hseen _).1 hc] at hns; cases hns
  ·have hs1 : HSim base w0 β fz H w1 ∧ Ext H.length β fz w H.length β fz w1 := by
    rcases hal with rfl | rfl
    ·exact ⟨hs.heap, Ext.refl _ _ _ _⟩
    ·exact hs.heap.drew
   have hw1 : w1.heap[β rid]? = some (.mapIter (some (β id)) since seen stepped) := by rcases hal with rfl | rfl <;> exact g1
   have hidlt : id < H.length := (List.getElem?_eq_some_iff.1 hmp).1
   have hbl : β rid < w1.heap.size := (Array.getElem?_eq_some_iff.1 hw1).1
   have hG : GSim base β fz (setBlock w1 (β rid) (.mapIter (some (β id)) since (seen.push en.born) clock)) H.length rid [[.ptr id 0 0 0, .v (.int .i64 s), .v (.int .i64 t)], sn ++ [.v (.int .i64 (en.born : Int))]] := by
    refine ⟨.mapIter (some (β id)) since (seen.push en.born) clock, [[.map (some (β id)), .int .i64 (since : Int), .int .i64 (clock : Int)], (seen.push en.born).toList.map fun (s : Nat) => .int .i64 (s : Int)], by simp [setBlock, hbl], .inr ⟨_, _, _, _, rfl, rfl⟩, ⟨rfl, fun j r xx hj hxx => ?_⟩, _, _, rfl, by simp⟩
    match j, hj, hxx with
    | 0, hj, hxx =>
     simp only [List.getElem?_cons_zero, Option.some.injEq] at hj hxx
     subst hj hxx
     refine ⟨rfl, fun q u v hu hvv => ?_⟩
     match q, hu, hvv with
     | 0, hu, hvv => simp at hu hvv; subst hu hvv; exact .mp hidlt
     | 1, hu, hvv => simp at hu hvv; subst hu hvv; rw [g2]; exact .v
     | 2, hu, hvv => simp at hu hvv; subst hu hvv; rw [e1]; exact .v
    | 1, hj, hxx =>
     simp only [List.getElem?_cons_succ, List.getElem?_cons_zero, Option.some.injEq] at hj hxx
     subst hj hxx
     refine ⟨by simp [g4], fun q u v hu hvv => ?_⟩
     by_cases hq : q < sn.length
     ·rw [List.getElem?_append_left hq] at hu
      obtain ⟨bb, hbb⟩ := hsw u (List.mem_of_getElem? hu)
      have hqs : q < seen.size := by omega
      have h5 := g5 q u seen[q] hu (Array.getElem?_eq_getElem hqs)
      have hv2 : v = .int .i64 (seen[q] : Int) := by
       rw [List.getElem?_map, Array.getElem?_toList, Array.getElem?_push_lt hqs] at hvv
       simpa using hvv.symm
      subst hv2
      rw [hbb] at h5 ⊢
      rw [h5.v_inv]
      exact .v
     ·have hq2 : q = sn.length := by
       have := (List.getElem?_eq_some_iff.1 hu).1
       simp at this; omega
      subst hq2
      simp at hu
      subst hu
      have hv2 : v = .int .i64 (en.born : Int) := by
       rw [g4] at hvv
       simpa using hvv.symm
      subst hv2
      exact .v
   have hnc : ∀ cs e f, w1.heap[β rid]? ≠ some (.cells cs e f) := fun _ _ _ h => by rw [hw1] at h; cases h
   obtain ⟨q1, q2⟩ := hs1.1.setG hit hnc hG
   refine does_val (w' := setBlock w1 (β rid) (.mapIter (some (β id)) since (seen.push en.born) clock)) (x := .tuple #[.bool true, en.key, en.val]) ?_ q1 (hs1.2.trans q2) ?_
   ·simp only [execOp, hop, hv]
    simp [hrun]
   ·have e3 := hs1.2.trans q2
    refine .tup (by simp) fun j u hu => ?_
    match j, hu with
    | 0, hu => simp at hu; subst hu; simpa using .v
    | 1, hu => simp at hu; subst hu; simpa using r1.ext e3
    | 2, hu => simp at hu; subst hu; simpa using r2.ext e3
theorem region_wpN (hC : OrcOk P C) {id : Nat} {K : Env → Heap → Prop} {Q : Exit → Act → World → Prop} (hs : Sim nt base w0 β fz ρ H a w) (h : RunN P C nt.nt ops K ρ H)
  (hQ : ∀ ρ H β fz a w, K ρ H → Sim nt base w0 β fz ρ H a w → Q .normal a w) : (Code.region id ops false).wp P Q a w := by
 unfold RunN at h
 split at h
 ·exact h.elim
 rename_i o l hol
 split at h
 case h_2 => exact h.elim
 rename_i x d hop hg hd
 obtain ⟨hdn, h⟩ := h
 split at h
 case h_2 => exact h.elim
 rename_i rid hx
 obtain ⟨mid, s, c, t, sn, es, hit, hmp, hts, hsc, hwf, hsw, hY, hN⟩ := h
 apply wp_region
 have hsize : ops.size = l.length + 1 := by rw [← Array.length_toList, hol]; rfl
 have ho : ops[0]? = some o := by rw [← Array.getElem?_toList, hol]; rfl
 have htail : ∀ j, l[j]? = ops[1 + j]? := fun j => by rw [← Array.getElem?_toList, hol, Nat.add_comm]; simp
 have hrng : List.range ops.size = 0 :: List.range' 1 l.length := by
  rw [hsize, List.range_eq_range', List.range'_succ]
 rw [hrng, wpOps_cons]
 unfold wpOp
 simp only [ho]
 have hw : Region.wanted o (yielded ops a.tmps) = true := by simp [Region.wanted, hg]
 rw [hw]
 simp only [if_true]
 left
 have hd' : ∀ t, o.dst = some t → t < nt.nt := fun t ht => by rw [hd] at ht; cases ht; exact hdn
 have fin : ∀ (av : AVal) (H' : Heap), Does P o a w base w0 β fz H av H' → RunK P C nt.nt ops l K (put ρ (some d) av) H' → Oper.wp P o a w (fun a' w' => wpOps P ops Q (List.range' 1 l.length) a' w') Q := by
  intro av H' hdo hk
  refine hdo _ _ (fun y β' fz' w' h1 h2 h3 => ?_)
  have hs2 := hs.put h1 h2 hd' h3
  rw [hd] at hs2
  unfold RunK at hk
  split at hk
  ·rename_i s2 hrun
   rw [hd]
   exact seq_wp hC Q (fun β fz a w hs3 => hQ _ _ β fz a w hk hs3) l 1 _ _ β' fz' _ w' htail hrun hs2
  ·exact hk.elim
 rcases next_does hop hs hx hit hmp hts hsc hwf hsw with ⟨q1, q2⟩ | ⟨i, k, y, b, q1, q2, q3⟩
 ·exact fin _ _ q2 (hN q1)
 ·exact fin _ _ q3 (hY i k y b q1 q2)
end
end Go.AI
