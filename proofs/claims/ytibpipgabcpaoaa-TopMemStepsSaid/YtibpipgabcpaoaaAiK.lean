/- Each step of the interpreter is true of the model: literals. -/
import Derived.Test.YtibpipgabcpaoaaAiJ
namespace Go.AI
set_option linter.unusedSimpArgs false
set_option linter.unusedVariables false
open Go.RowKit
theorem foldl_set (off : Nat) : ∀ (l : List Value) (i : Nat) (xs : Array Value), off + i + l.length ≤ xs.size →
  ((l.zipIdx i).foldl (fun cs p => cs.setIfInBounds (off + p.2) p.1) xs).size = xs.size ∧
  ∀ k, ((l.zipIdx i).foldl (fun cs p => cs.setIfInBounds (off + p.2) p.1) xs)[k]? = if off + i ≤ k ∧ k < off + i + l.length then l[k - (off + i)]? else xs[k]?
 | [], i, xs, _ => by
  refine ⟨rfl, fun k => ?_⟩
  simp only [List.zipIdx_nil, List.foldl_nil, List.length_nil, Nat.add_zero]
  rw [if_neg (by omega)]
 | v :: l, i, xs, h => by
  simp only [List.length_cons] at h
  obtain ⟨h1, h2⟩ := foldl_set off l (i + 1) (xs.setIfInBounds (off + i) v) (by simp; omega)
  simp only [List.zipIdx_cons, List.foldl_cons]
  refine ⟨by rw [h1]; simp, fun k => ?_⟩
  rw [h2 k]
  by_cases hk : k = off + i
  ·subst hk
   rw [if_neg (by omega), if_pos (by simp)]
   rw [Array.getElem?_setIfInBounds_self_of_lt (by omega)]
   simp
  ·by_cases hk2 : off + (i + 1) ≤ k ∧ k < off + (i + 1) + l.length
   ·rw [if_pos hk2, if_pos (by simp only [List.length_cons]; omega)]
    have : k - (off + i) = (k - (off + (i + 1))) + 1 := by omega
    rw [this, List.getElem?_cons_succ]
   ·rw [if_neg hk2, if_neg (by simp only [List.length_cons]; omega), Array.getElem?_setIfInBounds_ne (by omega)]
section
variable {base : Nat} {w0 : World} {β : Nat → Nat} {fz : Nat → Prop} {e' : AEv} {H H' : Heap} {a : Act} {w : World} {P : Program} {C : Orc} {o : Oper} {av : AVal} {n : Nat} {ok : Bool → Nat → Prop}
def CellsR (β : Nat → Nat) (ok : Bool → Nat → Prop) (w : World) (n : Nat) (cs : Row) (xs : Array Value) : Prop :=
 xs.size = cs.length ∧ (∀ (j : Nat) (c : AVal), cs[j]? = some c → R β ok w n c (xs[j]?.getD undef))
theorem fill_R {place : Nat → Option (Nat × Nat)} : ∀ (parts : List (Nat × Operand)) (cells cells' : Row) (xs : Array Value) (_ : SimE base w0 β fz e' H a w),
  CellsR β (okOf base fz) w H.length cells xs → fillA place cells (parts.map fun p => (p.1, e' p.2)) = some cells' →
  ∃ xs', Instr.fill place xs (parts.map fun p => (p.1, a.eval p.2)) = some xs' ∧ CellsR β (okOf base fz) w H.length cells' xs'
 | [], cells, cells', xs, hs, hc, h => by
  simp [fillA] at h; subst h
  exact ⟨xs, rfl, hc⟩
 |(i, x) :: parts, cells, cells', xs, hs, hc, h => by
  simp only [List.map_cons, fillA] at h
  split at h
  ·rename_i off size cs hpl hcs
   split at h
   ·rename_i hcond
    obtain ⟨c1, c2, c3⟩ := cells_R hcs (hs.ev x)
    obtain ⟨q1, q2⟩ := hc
    have hle : off + 0 + (a.eval x).cells.toList.length ≤ xs.size := by simp; omega
    obtain ⟨f1, f2⟩ := foldl_set off (a.eval x).cells.toList 0 xs hle
    have hfold : (a.eval x).cells.zipIdx.foldl (fun cs (p : Value × Nat) => cs.setIfInBounds (off + p.2) p.1) xs = ((a.eval x).cells.toList.zipIdx 0).foldl (fun cs p => cs.setIfInBounds (off + p.2) p.1) xs := by
     rw [← Array.foldl_toList]; simp
    obtain ⟨xs', hx1, hx2⟩ := fill_R parts (writeAt cells off cs) cells' (((a.eval x).cells.toList.zipIdx 0).foldl (fun cs p => cs.setIfInBounds (off + p.2) p.1) xs) hs
     ⟨by rw [f1, writeAt_length]; exact q1, fun j c hj => by
      rw [f2 j]
      rw [writeAt_get _ _ _ (by omega)] at hj
      by_cases hh : off ≤ j ∧ j < off + cs.length
      ·rw [if_pos hh] at hj
       rw [if_pos (by simp; omega)]
       have := c2 _ _ hj
       simpa using this
      ·rw [if_neg hh] at hj
       rw [if_neg (by simp; omega)]
       exact q2 j c hj⟩ h
    refine ⟨xs', ?_, hx2⟩
    simp only [List.map_cons, Instr.fill, hpl]
    have hn : ¬ ((a.eval x).cells.size ≠ size ∨ off + (a.eval x).cells.size > xs.size) := by omega
    have hb : (decide ((a.eval x).cells.size ≠ size) || decide (off + (a.eval x).cells.size > xs.size)) = false := by
     simp; omega
    rw [hb]
    simp only [Bool.false_eq_true, if_false]
    rw [← hx1, ← hfold]
   ·cases h
  ·cases h
theorem run_places : ∀ (fs : List Field) (pl : List (Nat × Nat)), (fs.mapM fun f => (szOf P f.type).map fun n => (f.offset, n)) = some pl →
  (fs.mapM fun f => (do pure (f.offset, ← sizeOf f.type) : Sem (Nat × Nat))).run P w = .ok pl w
 | [], pl, h => by simp at h; subst h; rfl
 | f :: fs, pl, h => by
  simp only [List.mapM_cons, Option.bind_eq_bind, Option.bind_eq_some_iff, Option.map_eq_some_iff, Option.pure_def, Option.some.injEq] at h
  obtain ⟨x, ⟨k, hk, rfl⟩, pl', hpl, rfl⟩ := h
  have ih := run_places fs pl' hpl
  simp only [List.mapM_cons, Sem.run_bind, run_sz hk, Result.andThen_ok, Sem.run_pure]
  rw [ih]; rfl
theorem zero_R (z : Value) : CellsR β ok w n (z.cells.toList.map .v) z.cells := by
 refine ⟨by simp, fun j c hj => ?_⟩
 simp only [List.getElem?_map, Option.map_eq_some_iff, Array.getElem?_toList] at hj
 obtain ⟨y, hy, rfl⟩ := hj
 simp only [hy, Option.getD_some]
 exact .v
theorem does_build {t : TypeId} {parts : Array (Nat × Operand)} (hop : o.op = .build t parts) (hs : SimE base w0 β fz e' H a w)
  (h : aBuild P t (parts.toList.map fun p => (p.1, e' p.2)) = some av) : Does P o a w base w0 β fz H av H := by
 unfold aBuild at h
 have hparts : (parts.map fun (i, x) => (i, a.eval x)).toList = parts.toList.map fun p => (p.1, a.eval p.2) := by simp
 split at h
 ·rename_i z hz
  split at h
  ·rename_i pl hpl
   simp only [Option.map_eq_some_iff] at h
   obtain ⟨cells', hf, rfl⟩ := h
   obtain ⟨xs', hx, hR⟩ := fill_R parts.toList _ _ z.cells hs (zero_R z) hf
   unfold placesOf at hpl
   split at hpl
   ·rename_i fs hu
    have hrun := run_places (P := P) (w := w) fs.toList pl hpl
    refine does_pure hs.heap (x := .agg xs') ?_ (mkAgg_R hR.1.symm hR.2)
    simp only [execOp, hop]
    have hm : (fs.mapM fun f => (do pure (f.offset, ← sizeOf f.type) : Sem (Nat × Nat))).run P w = .ok pl.toArray w := by
     rw [Array.mapM_eq_mapM_toList]
     simp only [Sem.run_map, hrun, Result.andThen_ok]
    have hx' : Instr.fill (fun x => pl.toArray[x]?) z.cells (parts.toList.map fun p => (p.1, a.eval p.2)) = some xs' := by
     simpa using hx
    rw [Sem.run_bind]
    have : (Instr.build t (parts.map fun (i, x) => (i, a.eval x))).run P w = .ok (.agg xs') w := by
     unfold Instr.build
     rw [Sem.run_bind, run_zero hz]
     simp only [Result.andThen_ok]
     rw [Sem.run_bind, run_underlying hu]
     simp only [Result.andThen_ok]
     rw [Sem.run_bind, hm]
     simp only [Result.andThen_ok, hparts, hx']
     rfl
    rw [this]; rfl
   ·cases hpl
  ·split at h
   ·rename_i k e hA
    have hu := run_array_und hA
    split at h
    ·rename_i sz hsz
     simp only [Option.map_eq_some_iff] at h
     obtain ⟨cells', hf, rfl⟩ := h
     obtain ⟨xs', hx, hR⟩ := fill_R parts.toList _ _ z.cells hs (zero_R z) hf
     refine does_pure hs.heap (x := .agg xs') ?_ (mkAgg_R hR.1.symm hR.2)
     simp only [execOp, hop]
     rw [Sem.run_bind]
     have : (Instr.build t (parts.map fun (i, x) => (i, a.eval x))).run P w = .ok (.agg xs') w := by
      unfold Instr.build
      rw [Sem.run_bind, run_zero hz]
      simp only [Result.andThen_ok]
      rw [Sem.run_bind, run_underlying hu]
      simp only [Result.andThen_ok]
      rw [Sem.run_bind, run_sz hsz]
      simp only [Result.andThen_ok, hparts, hx]
      rfl
     rw [this]; rfl
    ·cases h
   ·cases h
 ·cases h
theorem setRows_R {sz : Nat} : ∀ (parts : List (Nat × Operand)) (rows rows' : List Row) (xs : Array Value) (_ : SimE base w0 β fz e' H a w),
  FlatR β (okOf base fz) w H.length sz rows xs.toList → setRows sz rows (parts.map fun p => (p.1, e' p.2)) = some rows' →
  ∃ xs', Instr.fill (fun i => some (i * sz, sz)) xs (parts.map fun p => (p.1, a.eval p.2)) = some xs' ∧ FlatR β (okOf base fz) w H.length sz rows' xs'.toList
 | [], rows, rows', xs, hs, hc, h => by
  simp [setRows] at h; subst h
  exact ⟨xs, rfl, hc⟩
 |(i, x) :: parts, rows, rows', xs, hs, hc, h => by
  simp only [List.map_cons, setRows] at h
  split at h
  ·rename_i cs hcs
   split at h
   ·rename_i hcond
    obtain ⟨hcl, hi⟩ := hcond
    obtain ⟨c1, c2, c3⟩ := cells_R hcs (hs.ev x)
    obtain ⟨q1, q2, q3, q4⟩ := hc
    have hmul : (i + 1) * sz ≤ rows.length * sz := Nat.mul_le_mul_right _ hi
    rw [Nat.succ_mul] at hmul
    have hxs : xs.size = rows.length * sz := by simpa using q2
    have hle : i * sz + 0 + (a.eval x).cells.toList.length ≤ xs.size := by simp; omega
    obtain ⟨f1, f2⟩ := foldl_set (i * sz) (a.eval x).cells.toList 0 xs hle
    have hfold : (a.eval x).cells.zipIdx.foldl (fun cs (p : Value × Nat) => cs.setIfInBounds (i * sz + p.2) p.1) xs = ((a.eval x).cells.toList.zipIdx 0).foldl (fun cs p => cs.setIfInBounds (i * sz + p.2) p.1) xs := by
     rw [← Array.foldl_toList]; simp
    generalize hys : ((a.eval x).cells.toList.zipIdx 0).foldl (fun cs p => cs.setIfInBounds (i * sz + p.2) p.1) xs = ys at *
    obtain ⟨xs', hx1, hx2⟩ := setRows_R parts (rows.set i cs) rows' ys hs
     ⟨fun r hr => by
      rcases List.mem_or_eq_of_mem_set hr with hr | rfl
      ·exact q1 r hr
      ·exact hcl, by simp [f1, hxs], fun c hc => by
      obtain ⟨k, hk⟩ := Array.getElem?_of_mem (Array.mem_toList_iff.1 hc)
      rw [f2 k] at hk
      split at hk
      ·exact c3 c (Array.mem_toList_iff.1 (List.mem_of_getElem? hk))
      ·exact q3 c (Array.mem_toList_iff.2 (Array.mem_of_getElem? hk)), fun i' r hi' j c hj => by
      rw [Array.getElem?_toList, f2]
      by_cases hii : i' = i
      ·subst hii
       rw [List.getElem?_set_self hi] at hi'
       simp only [Option.some.injEq] at hi'
       subst hi'
       have hjl := (List.getElem?_eq_some_iff.1 hj).1
       rw [if_pos (by simp; omega)]
       have := c2 _ _ hj
       simpa using this
      ·rw [List.getElem?_set_ne (by omega)] at hi'
       have hjl : j < sz := by
        have := (List.getElem?_eq_some_iff.1 hj).1
        rw [q1 r (List.mem_of_getElem? hi')] at this; exact this
       have hne : ¬ (i * sz + 0 ≤ i' * sz + j ∧ i' * sz + j < i * sz + 0 + (a.eval x).cells.toList.length) := by
        intro hc
        simp at hc
        have h3 : i' * sz + j - i * sz < sz := by omega
        exact row_ne hii hjl h3 (by omega)
       rw [if_neg hne]
       have := q4 i' r hi' j c hj
       simpa using this⟩ h
    refine ⟨xs', ?_, hx2⟩
    simp only [List.map_cons, Instr.fill]
    have hb : (decide ((a.eval x).cells.size ≠ sz) || decide (i * sz + (a.eval x).cells.size > xs.size)) = false := by
     simp; omega
    rw [hb]
    simp only [Bool.false_eq_true, if_false]
    rw [← hx1, ← hfold]
   ·cases h
  ·cases h
theorem HSim.called (hs : HSim base w0 β fz H w) {w' : World} (hb : Below w.heap.size w w') :
  HSim base w0 β (fun b => fz b ∨ (w.heap.size ≤ b ∧ b < w'.heap.size)) H w' ∧ Ext H.length β fz w H.length β (fun b => fz b ∨ (w.heap.size ≤ b ∧ b < w'.heap.size)) w' := by
 have hsh : Shapes w w' := by
  intro b cs e f h
  have : b < w.heap.size := (Array.getElem?_eq_some_iff.1 h).1
  exact ⟨cs, f, by rw [hb.block b this]; exact h, rfl⟩
 have ext : Ext H.length β fz w H.length β (fun b => fz b ∨ (w.heap.size ≤ b ∧ b < w'.heap.size)) w' :=
  ⟨Nat.le_refl _, fun _ _ => rfl, fun _ h => .inl h, fun b h => hb.block b (hs.fzlt b h), hsh⟩
 have hbase : base ≤ w.heap.size := Nat.le_trans hs.base hs.below.size
 refine ⟨⟨?_, hs.inj, ?_, ?_, hs.below.trans (hb.mono hbase), hs.base⟩, ext⟩
 ·intro id sz rows hid
  exact (hs.objs' id sz rows hid).ext ext (hb.block _ (hs.blt ⟨_, hid⟩))
 ·rintro id ⟨⟨sz, rows⟩, hid⟩
  have hlt : β id < w.heap.size := hs.blt ⟨_, hid⟩
  have := hs.own id ⟨_, hid⟩
  refine ⟨this.1, ?_⟩
  rintro (h | h)
  ·exact this.2 h
  ·omega
 ·rintro b (h | h)
  ·exact Nat.lt_of_lt_of_le (hs.fzlt b h) hb.size
  ·exact h.2
theorem does_buildSlice {t : TypeId} {len : Nat} {parts : Array (Nat × Operand)} (hop : o.op = .buildSlice t len parts) (hs : SimE base w0 β fz e' H a w)
  (h : aBuildSlice P t len (parts.toList.map fun p => (p.1, e' p.2)) H = some (av, H')) : Does P o a w base w0 β fz H av H' := by
 unfold aBuildSlice at h
 have hparts : (parts.map fun (i, x) => (i, a.eval x)).toList = parts.toList.map fun p => (p.1, a.eval p.2) := by simp
 split at h
 ·rename_i e hE
  have hu := run_slice_und hE
  split at h
  ·rename_i sz z hsz hz
   split at h
   ·rename_i hcond
    obtain ⟨hzs, hzo, h0, hlim⟩ := hcond
    split at h
    ·rename_i rows hrows
     have hF0 := flat_zero (β := β) (ok := okOf base fz) (w := w) (n := H.length) (k := len) hzs h0 hzo
     obtain ⟨xs', hx, hF⟩ := setRows_R parts.toList _ _ _ hs hF0 hrows
     obtain ⟨q1, q2⟩ := hs.heap.alloc_flat (e := e) hF (more := []) (by simp)
     rw [List.append_nil, Array.toArray_toList] at q1 q2
     have hrl : rows.length = len := by
      have : ∀ (ps : List (Nat × AVal)) (r r' : List Row), setRows sz r ps = some r' → r'.length = r.length := by
       intro ps
       induction ps with
       | nil => intro r r' h; simp [setRows] at h; rw [h]
       | cons p ps ih =>
        intro r r' h
        obtain ⟨i, x⟩ := p
        simp only [setRows] at h
        split at h
        ·split at h
         ·rw [ih _ _ h]; simp
         ·cases h
        ·cases h
      rw [this _ _ _ hrows]; simp
     have hsl := newSl β H w.heap.size sz len len (okOf base fz) _ rows (heap_alloc_new w (.cells xs' e)) (by have := hF.2.1; rw [hrl] at this; simpa using Nat.le_of_eq this.symm) (kc := len) (Nat.le_refl _) (Nat.le_refl _)
     have hex : (execOp a.eval o).run P w = .ok (.value (.slice (some ⟨w.heap.size, 0, none⟩) len len)) (w.alloc (.cells xs' e)) := by
      simp only [execOp, hop]
      rw [Sem.run_bind]
      have hzc : Builtin.zeroCells z.cells len = (Array.range (len * sz)).map (z.cells[· % z.cells.size]!) := by
       simp [Builtin.zeroCells, hzs]
      rw [hzc] at hx
      have hl2 : ¬ (len * sz > 2 ^ 24) := by
       have : 2 ^ 24 = 16777216 := by decide
       omega
      have hr : (Instr.buildSlice t len (parts.map fun (i, x) => (i, a.eval x))).run P w = .ok (.slice (some ⟨w.heap.size, 0, none⟩) len len) (w.alloc (.cells xs' e)) := by
       unfold Instr.buildSlice
       rw [Sem.run_bind, run_underlying hu]
       simp only [Result.andThen_ok]
       rw [Sem.run_bind, run_sz hsz]
       simp only [Result.andThen_ok, hparts]
       by_cases hn : len * sz = 0
       ·have hlen : len = 0 := by
         rcases Nat.mul_eq_zero.1 hn with h | h
         ·exact h
         ·omega
        subst hlen
        have hx2 : Instr.fill (fun i => some (i * sz, sz)) #[] (parts.toList.map fun p => (p.1, a.eval p.2)) = some xs' := by
         rw [← hx]; congr 1
         apply Eq.symm; apply Array.eq_empty_of_size_eq_zero; simp
        simp [hx2, newRow, map_range0]
       ·have hl3 : ¬ 16777216 < len * sz := by omega
        simp [hn, hl3, run_zero hz, hx, newRow]
      rw [hr]; rfl
     split at h
     ·rename_i hlen0
      simp only [Option.some.injEq, Prod.mk.injEq] at h
      obtain ⟨rfl, rfl⟩ := h
      subst hlen0
      obtain ⟨g1, g2⟩ := hs.heap.called ((Below.refl w.heap.size w).alloc (Nat.le_refl _) (.cells xs' e))
      exact does_val hex g1 g2 .esl
     ·simp only [Option.some.injEq, Prod.mk.injEq] at h
      obtain ⟨rfl, rfl⟩ := h
      exact does_val hex q1 q2 hsl
    ·cases h
   ·cases h
  ·cases h
 ·cases h
end
end Go.AI
