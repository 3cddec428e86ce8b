/- Each step of the interpreter is true of the model: copy, clear, make, build, len, min, max. -/
import Derived.Test.YtdakclpneghkmaaGreatDoorL03
namespace Go.AI
set_option linter.unusedSectionVars false
variable [Sym]
set_option linter.unusedSimpArgs false
set_option linter.unusedVariables false
open Go.RowKit
section
variable {base : Nat} {w0 : World} {β : Nat → Nat} {fz : Nat → Prop} {e' : AEv} {H H' : Heap} {a : Act} {w : World} {P : Program} {C : Orc} {o : Oper} {av : AVal} {n : Nat} {ok : Bool → Nat → Prop}
theorem map_range0 (f : Nat → Value) : Array.map f (Array.range 0) = #[] := by
 apply Array.eq_empty_of_size_eq_zero; simp
theorem does_clear {t ty : TypeId} {x : Operand} (hop : execOp a.eval o = (do pure (.value (← Builtin.clear_ #[t] ty #[a.eval x])) : Sem Next)) (hs : SimE base w0 β fz e' H a w)
  (h : aClear P t (e' x) H = some (av, H')) : Does P o a w base w0 β fz H av H' := by
 have hx := soft_R (hs.ev x)
 unfold aClear at h
 split at h
 ·rename_i e hE
  have hu := run_slice_und hE
  split at h
  ·rename_i sz z hsz hz
   split at h
   ·rename_i id sz' s len kc hp
    split at h
    ·rename_i sz'' rows hob
     split at h
     ·rename_i hc
      obtain ⟨hzs, hzo, rfl, rfl, hsl⟩ := hc
      simp only [Option.some.injEq, Prod.mk.injEq] at h
      obtain ⟨rfl, rfl⟩ := h
      have hob' := obj_some hob
      obtain ⟨cur, e', g1, g2, g3, g4, g5⟩ := hs.heap.cells hob
      rw [hp] at hx
      generalize hv : a.eval x = v at hx
      cases hx with
      | @osl _ _ _ _ _ _ ad cap hid hl hkc ha =>
       by_cases hl0 : len = 0
       ·subst hl0
        have hH : H.set id (some (sz'', rows.take s ++ List.replicate 0 (z.cells.toList.map AVal.v) ++ rows.drop (s + 0))) = H := by
         simp only [List.replicate_zero, List.append_nil, Nat.add_zero, List.take_append_drop]
         apply List.ext_getElem?
         intro k
         by_cases hk : k = id
         ·subst hk; rw [List.getElem?_set_self (List.getElem?_eq_some_iff.1 hob').1, hob']
         ·rw [List.getElem?_set_ne (by omega)]
        rw [hH]
        refine does_pure hs.heap (x := .tuple #[]) ?_ .v
        rw [hop, hv]
        simp [Builtin.clear_, run_underlying hu]
       ·by_cases hz0 : 0 < sz''
        ·rcases ha with ha | ⟨ha, _⟩
         ·omega
         ·have hF := flat_zero (β := β) (ok := okOf base fz) (w := w) (n := H.length) (k := len) hzs hz0 hzo
          have hlr : (List.replicate len (z.cells.toList.map AVal.v)).length = len := by simp
          have hfit : (s + (List.replicate len (z.cells.toList.map AVal.v)).length) * sz'' ≤ cur.size := by rw [hlr]; exact Nat.le_trans (Nat.mul_le_mul_right _ hsl) g3
          obtain ⟨q1, q2⟩ := hs.heap.splice (p := s) hob' g1 (by omega) hF hfit
          rw [hlr] at q1 q2
          refine does_val (x := .tuple #[]) ?_ q1 q2 .v
          have hl2 : s * sz'' + 0 + (Builtin.zeroCells z.cells len).toList.length ≤ cur.size := by
           rw [hF.2.1, Nat.add_zero, ← Nat.add_mul]; exact hfit
          have hst := run_storeCells_at P (β id) (s * sz'') e' (Builtin.zeroCells z.cells len).toList 0 cur w g1 hl2 hF.2.2.1
          rw [hop, hv, ha]
          rw [Nat.add_zero] at hst
          cases len with
          | zero => exact absurd rfl hl0
          | succ len => simp [Builtin.clear_, run_underlying hu, run_zero hz, hst]
        ·have hz1 : sz'' = 0 := by omega
         subst hz1
         have hzc : z.cells = #[] := by simpa using hzs
         have hH : HSim base w0 β fz (H.set id (some (0, rows.take s ++ List.replicate len (z.cells.toList.map AVal.v) ++ rows.drop (s + len)))) (w.setRow (β id) cur) ∧ Ext H.length β fz w (H.set id (some (0, rows.take s ++ List.replicate len (z.cells.toList.map AVal.v) ++ rows.drop (s + len)))).length β fz (w.setRow (β id) cur) := by
          refine hs.heap.store hob' g1 rfl ?_ (by simp) g4 ?_
          ·intro r hr
           simp only [List.mem_append] at hr
           rcases hr with (hr | hr) | hr
           ·exact g2 r (List.mem_of_mem_take hr)
           ·have := List.eq_of_mem_replicate hr; subst this; simp [hzc]
           ·exact g2 r (List.mem_of_mem_drop hr)
          ·intro i r hi j c hj
           exfalso
           have hr : r ∈ rows.take s ++ List.replicate len (z.cells.toList.map AVal.v) ++ rows.drop (s + len) := List.mem_of_getElem? hi
           have hlen : r.length = 0 := by
            simp only [List.mem_append] at hr
            rcases hr with (hr | hr) | hr
            ·exact g2 r (List.mem_of_mem_take hr)
            ·have := List.eq_of_mem_replicate hr; subst this; simp [hzc]
            ·exact g2 r (List.mem_of_mem_drop hr)
           have : r = [] := by simpa using hlen
           subst this; simp at hj
         rw [setRow_self w (β id) cur e' _ g1] at hH
         refine does_val (x := .tuple #[]) ?_ hH.1 hH.2 .v
         rw [hop, hv]
         cases len with
         | zero => exact absurd rfl hl0
         | succ len =>
          have hzz : (Builtin.zeroCells z.cells (len + 1)).toList = [] := by simp [Builtin.zeroCells, hzc]
          simp [Builtin.clear_, run_underlying hu, run_zero hz, hzz, storeCells]
     ·cases h
    ·cases h
   ·rename_i hp
    rw [hp] at hx
    simp only [Option.some.injEq, Prod.mk.injEq] at h
    obtain ⟨rfl, rfl⟩ := h
    generalize hv : a.eval x = v at hx
    cases hx with
    | @esl _ ad =>
     refine does_pure hs.heap (x := .tuple #[]) ?_ .v
     rw [hop, hv]
     cases ad <;> simp [Builtin.clear_, run_underlying hu]
   ·rename_i hp
    rw [hp] at hx
    simp only [Option.some.injEq, Prod.mk.injEq] at h
    obtain ⟨rfl, rfl⟩ := h
    refine does_pure hs.heap (x := .tuple #[]) ?_ .v
    rw [hop, hx.v_inv]
    simp [Builtin.clear_, run_underlying hu]
   ·cases h
  ·cases h
 ·cases h
theorem does_copy {t u ty : TypeId} {d x : Operand} (hop : execOp a.eval o = (do pure (.value (← Builtin.copy_ #[t, u] ty #[a.eval d, a.eval x])) : Sem Next)) (hs : SimE base w0 β fz e' H a w)
  (h : aCopy P t (e' d) (e' x) H = some (av, H')) : Does P o a w base w0 β fz H av H' := by
 have hd := soft_R (hs.ev d)
 unfold aCopy at h
 split at h
 ·rename_i e hE
  have hu := run_slice_und hE
  split at h
  ·rename_i sz hsz
   split at h
   ·rename_i xr hxr
    split at h
    ·rename_i id sz' s len kc hp
     split at h
     ·rename_i sz'' rows hob
      split at h
      ·rename_i hc
       obtain ⟨rfl, rfl, hsl, h0⟩ := hc
       simp only [Option.some.injEq, Prod.mk.injEq] at h
       obtain ⟨rfl, rfl⟩ := h
       have hob' := obj_some hob
       obtain ⟨cur, e', g1, g2, g3, g4, g5⟩ := hs.heap.cells hob
       obtain ⟨xb, xc, xcs, hxv, hxl, hxF, hxrun⟩ := rows_R (P := P) hs.heap hxr h0 (soft_R (hs.ev x))
       rw [hp] at hd
       generalize hv : a.eval d = v at hd
       cases hd with
       | @osl _ _ _ _ _ _ ad cap hid hl hkc ha =>
        have hF := hxF.take len
        have hlt : (xr.take len).length = min xr.length len := by simp; omega
        rw [hlt] at hF
        have hfit : (s + (xr.take len).length) * sz'' ≤ cur.size := Nat.le_trans (Nat.mul_le_mul_right _ (by rw [hlt]; omega)) g3
        obtain ⟨q1, q2⟩ := hs.heap.splice (p := s) hob' g1 (by omega) hF hfit
        rw [hlt] at q1 q2
        refine does_val (x := goInt (min xr.length len : Nat)) ?_ q1 q2 .v
        have hfc := hxrun (min xr.length len) (by omega)
        rw [hop, hv, hxv]
        rw [hxv] at hfc
        by_cases hm : min xr.length len = 0
        ·have hxt : (xcs.take (min xr.length len * sz'')) = [] := by rw [hm]; simp
         rw [hxt] at hfc ⊢
         have hw : (w.setRow (β id) (cur.toList.take (s * sz'') ++ [] ++ cur.toList.drop (s * sz'' + ([] : List Value).length)).toArray) = w := by
          simp only [List.append_nil, List.length_nil, Nat.add_zero, List.take_append_drop, Array.toArray_toList]
          exact setRow_self w (β id) cur e' _ g1
         rw [hw]
         simp only [Builtin.copy_]
         have hmin : Nat.min xr.length len = min xr.length len := rfl
         simp [run_underlying hu, Builtin.lenOf, run_sz hsz, hmin, hfc, storeCells]
        ·rcases ha with ha | ⟨ha, _⟩
         ·omega
         ·have hl2 : s * sz'' + 0 + (xcs.take (min xr.length len * sz'')).length ≤ cur.size := by
           rw [hF.2.1, Nat.add_zero, ← Nat.add_mul]; exact hfit
          have hst := run_storeCells_at P (β id) (s * sz'') e' (xcs.take (min xr.length len * sz'')) 0 cur w g1 hl2 hF.2.2.1
          rw [Nat.add_zero] at hst
          rw [ha]
          simp only [Builtin.copy_]
          have hmin : Nat.min xr.length len = min xr.length len := rfl
          simp [run_underlying hu, Builtin.lenOf, run_sz hsz, hmin, hfc, hst]
      ·cases h
     ·cases h
    ·cases h
   ·cases h
  ·cases h
 ·cases h
theorem strV_len (b : ByteArray) : (strV b).length = b.size := by unfold strV; rw [List.length_map, Array.length_toList]; rfl
theorem strR_len (b : ByteArray) : (strR b).length = b.size := by rw [strR, List.length_map, strV_len]
theorem strR_flat {β : Nat → Nat} {ok : Bool → Nat → Prop} {w : World} {n : Nat} (b : ByteArray) : FlatR β ok w n 1 (strR b) (strV b) := by
 refine ⟨?_, ?_, ?_, ?_⟩
 ·intro r hr
  obtain ⟨v, _, rfl⟩ := List.mem_map.1 hr
  rfl
 ·rw [strR_len, strV_len]; omega
 ·intro c hc
  obtain ⟨x, _, rfl⟩ := List.mem_map.1 hc
  rfl
 ·intro i r hr j c hc
  rw [strR, List.getElem?_map, Option.map_eq_some_iff] at hr
  obtain ⟨v, hv, rfl⟩ := hr
  cases j with
  | zero =>
   simp only [List.getElem?_cons_zero, Option.some.injEq] at hc
   subst hc
   rw [Nat.mul_one, Nat.add_zero, hv]
   exact .v
  | succ j => simp at hc
theorem str_first {P : Program} {w : World} (b : ByteArray) {k : Nat} (hk : k ≤ b.size) : (Builtin.firstCells 1 k (.string b)).run P w = .ok ((strV b).take (k * 1)).toArray w := by
 simp only [Builtin.firstCells, Sem.run_pure]
 congr 1
 apply Array.ext'
 simp [strV, ByteArray.data_extract, List.map_take]
theorem does_copyS {t u ty : TypeId} {d x : Operand} {b : ByteArray} (hop : execOp a.eval o = (do pure (.value (← Builtin.copy_ #[t, u] ty #[a.eval d, a.eval x])) : Sem Next)) (hs : SimE base w0 β fz e' H a w)
  (hx : e' x = .v (.string b)) (h : aCopyS P t (e' d) b H = some (av, H')) : Does P o a w base w0 β fz H av H' := by
 have hd := soft_R (hs.ev d)
 have hxv : a.eval x = .string b := by
  have := hs.ev x
  rw [hx] at this
  exact this.v_inv
 unfold aCopyS at h
 split at h
 ·rename_i e hE
  have hu := run_slice_und hE
  split at h
  ·rename_i sz hsz
   split at h
   ·rename_i id sz' s len kc hp
    split at h
    ·rename_i sz'' rows hob
     split at h
     ·rename_i hc
      obtain ⟨rfl, rfl, rfl, hsl⟩ := hc
      simp only [Option.some.injEq, Prod.mk.injEq] at h
      obtain ⟨rfl, rfl⟩ := h
      have hob' := obj_some hob
      obtain ⟨cur, e', g1, g2, g3, g4, g5⟩ := hs.heap.cells hob
      have hxF := strR_flat (β := β) (ok := okOf base fz) (w := w) (n := H.length) b
      have hxrun := fun k => str_first (P := P) (w := w) b (k := k)
      generalize hxr : strR b = xr at *
      generalize strV b = xcs at *
      have hbs : b.size = xr.length := by rw [← hxr, strR_len]
      rw [hp] at hd
      generalize hv : a.eval d = v at hd
      cases hd with
      | @osl _ _ _ _ _ _ ad cap hid hl hkc ha =>
       have hF := hxF.take len
       have hlt : (xr.take len).length = min xr.length len := by simp; omega
       rw [hlt] at hF
       have hfit : (s + (xr.take len).length) * 1 ≤ cur.size := Nat.le_trans (Nat.mul_le_mul_right _ (by rw [hlt]; omega)) g3
       obtain ⟨q1, q2⟩ := hs.heap.splice (p := s) hob' g1 (by omega) hF hfit
       rw [hlt] at q1 q2
       refine does_val (x := goInt (min xr.length len : Nat)) ?_ q1 q2 .v
       have hfc := hxrun (min xr.length len) (by omega)
       rw [hop, hv, hxv]
       by_cases hm : min xr.length len = 0
       ·have hxt : (xcs.take (min xr.length len * 1)) = [] := by rw [hm]; simp
        rw [hxt] at hfc ⊢
        have hw : (w.setRow (β id) (cur.toList.take (s * 1) ++ [] ++ cur.toList.drop (s * 1 + ([] : List Value).length)).toArray) = w := by
         simp only [List.append_nil, List.length_nil, Nat.add_zero, List.take_append_drop, Array.toArray_toList]
         exact setRow_self w (β id) cur e' _ g1
        rw [hw]
        simp only [Builtin.copy_]
        have hmin : Nat.min xr.length len = min xr.length len := rfl
        simp [run_underlying hu, Builtin.lenOf, run_sz hsz, hbs, hmin, hfc, storeCells]
       ·rcases ha with ha | ⟨ha, _⟩
        ·omega
        ·have hl2 : s * 1 + 0 + (xcs.take (min xr.length len * 1)).length ≤ cur.size := by
          rw [hF.2.1, Nat.add_zero, ← Nat.add_mul]; exact hfit
         have hst := run_storeCells_at P (β id) (s * 1) e' (xcs.take (min xr.length len * 1)) 0 cur w g1 hl2 hF.2.2.1
         rw [Nat.add_zero] at hst
         rw [ha]
         simp only [Builtin.copy_]
         have hmin : Nat.min xr.length len = min xr.length len := rfl
         simp only [Nat.mul_one] at hst hfc ⊢
         simp [run_underlying hu, Builtin.lenOf, run_sz hsz, hbs, hmin, hfc, hst]
     ·cases h
    ·cases h
   ·cases h
  ·cases h
 ·cases h
theorem does_copyX {t u ty : TypeId} {d x : Operand} (hop : execOp a.eval o = (do pure (.value (← Builtin.copy_ #[t, u] ty #[a.eval d, a.eval x])) : Sem Next)) (hs : SimE base w0 β fz e' H a w)
  (h : aCopyX P t (e' d) (e' x) H = some (av, H')) : Does P o a w base w0 β fz H av H' := by
 unfold aCopyX at h
 split at h
 ·rename_i b hb
  exact does_copyS hop hs hb h
 ·exact does_copy hop hs h
theorem does_len {t ty : TypeId} {x : Operand} (hop : execOp a.eval o = (do pure (.value (← Builtin.len_ #[t] ty #[a.eval x])) : Sem Next)) (hs : SimE base w0 β fz e' H a w)
  (h : aLen P t (e' x) = some av) : Does P o a w base w0 β fz H av H := by
 have hx := soft_R (hs.ev x)
 unfold aLen at h
 split at h
 ·rename_i k e hA
  have hu := run_array_und hA
  simp only [Option.some.injEq] at h
  subst h
  refine does_pure hs.heap (x := goInt k) ?_ .v
  rw [hop]
  simp [Builtin.len_, run_underlying hu]
 ·split at h
  ·rename_i y hp
   rw [hp] at hx
   obtain ⟨z, hz, rfl⟩ := asV_some h
   refine does_pure hs.heap (x := z) ?_ .v
   rw [hop, hx.v_inv, Sem.run_bind]
   have : Builtin.len_ #[t] ty #[y] = Builtin.len_ #[t] 0 #[y] := rfl
   rw [this, pr_run hz w]; rfl
  ·rename_i id sz s len kc hp
   simp only [Option.map_eq_some_iff] at h
   obtain ⟨e, hE, rfl⟩ := h
   have hu := run_slice_und hE
   rw [hp] at hx
   generalize hv : a.eval x = v at hx
   cases hx
   refine does_pure hs.heap (x := goInt len) ?_ .v
   rw [hop, hv]
   simp [Builtin.len_, run_underlying hu]
  ·rename_i oo sz rows hp
   simp only [Option.map_eq_some_iff] at h
   obtain ⟨e, hE, rfl⟩ := h
   have hu := run_slice_und hE
   rw [hp] at hx
   generalize hv : a.eval x = v at hx
   refine does_pure hs.heap (x := goInt rows.length) ?_ .v
   cases hx <;> rw [hop, hv] <;> simp [Builtin.len_, run_underlying hu]
  ·rename_i hp
   simp only [Option.map_eq_some_iff] at h
   obtain ⟨e, hE, rfl⟩ := h
   have hu := run_slice_und hE
   rw [hp] at hx
   generalize hv : a.eval x = v at hx
   cases hx
   refine does_pure hs.heap (x := goInt 0) ?_ .v
   rw [hop, hv]
   simp [Builtin.len_, run_underlying hu]
  ·cases h
theorem does_makeSlice {t : TypeId} {l c : Operand} (hop : o.op = .makeSlice t l c) (hs : SimE base w0 β fz e' H a w) (h : aMakeSlice P t (e' l) (e' c) H = some (av, H')) : Does P o a w base w0 β fz H av H' := by
 have hl := hs.ev l
 have hc := hs.ev c
 unfold aMakeSlice at h
 split at h
 ·rename_i e hE
  have hu := run_slice_und hE
  split at h
  ·rename_i sz z by_ hsz hz hby
   split at h
   ·rename_i k1 lz k2 cz hp hq
    split at h
    ·rename_i hcond
     obtain ⟨hzs, hzo, h0, hl0, hlc, hcm, hb⟩ := hcond
     simp only [Option.some.injEq, Prod.mk.injEq] at h
     obtain ⟨rfl, rfl⟩ := h
     rw [hp] at hl; rw [hq] at hc
     have hF := flat_zero (β := β) (ok := okOf base fz) (w := w) (n := H.length) (k := cz.toNat) hzs h0 hzo
     obtain ⟨q1, q2⟩ := hs.heap.alloc_flat (e := e) hF (more := []) (by simp)
     rw [List.append_nil, Array.toArray_toList] at q1 q2
     obtain ⟨i, hi, hib⟩ := run_bytes hby w
     have w1 : IntKind.i64.wrap lz = lz := by
      have : (2 : Int) ^ 63 = 9223372036854775808 := by decide
      simp [IntKind.wrap, IntKind.bits, IntKind.signed]; omega
     have w2 : IntKind.i64.wrap cz = cz := by
      simp [IntKind.wrap, IntKind.bits, IntKind.signed]; omega
     have hmul : ((i.bytes : Int)) * cz ≤ 8192 * 4294967296 := by
      have h1 : (i.bytes : Int) ≤ 8192 := by omega
      exact Int.mul_le_mul h1 hcm (by omega) (by omega)
     have hmul2 : ((i.bytes : Int)) * lz ≤ 8192 * 4294967296 := by
      have h1 : (i.bytes : Int) ≤ 8192 := by omega
      exact Int.mul_le_mul h1 (by omega) hl0 (by omega)
     have hzc : Builtin.zeroCells z.cells cz.toNat = (Array.range (cz.toNat * sz)).map (z.cells[· % z.cells.size]!) := by
      simp [Builtin.zeroCells, hzs]
     rw [hzc] at q1 q2
     have hsl := newSl β H w.heap.size sz lz.toNat cz.toNat (okOf base fz) _ (List.replicate cz.toNat (z.cells.toList.map AVal.v)) (heap_alloc_new w (.cells ((Array.range (cz.toNat * sz)).map (z.cells[· % z.cells.size]!)) e)) (by simp) (kc := cz.toNat) (by omega) (Nat.le_refl _)
     refine does_val (x := .slice (some ⟨w.heap.size, 0, none⟩) lz.toNat cz.toNat) ?_ q1 q2 hsl
     simp only [execOp, hop, hl.v_inv, hc.v_inv]
     have c1 : ¬ (cz < 0) := by omega
     have c2 : ¬ (281474976710656 < (i.bytes : Int) * cz) := by omega
     have c3 : ¬ (lz < 0) := by omega
     have c4 : ¬ (cz < lz) := by omega
     by_cases hn : cz.toNat * sz = 0
     ·have hcz : cz.toNat = 0 := by
       rcases Nat.mul_eq_zero.1 hn with h | h
       ·exact h
       ·omega
      have hcz' : cz = 0 := by omega
      have hlz' : lz = 0 := by omega
      subst hcz'; subst hlz'
      simp [Instr.makeSlice, run_underlying hu, asInt, asIntOf, hi, w1, run_sz hsz, newRow, map_range0]
     ·simp [Instr.makeSlice, run_underlying hu, asInt, asIntOf, hi, w1, w2, c1, c2, c3, c4, run_sz hsz, hn, run_zero hz, newRow]
    ·cases h
   ·cases h
  ·cases h
 ·cases h
theorem run_append_zeros {t u e ty : TypeId} {sz sLen sCap by_ : Nat} {k : Int} {kd ku : IntKind} {bs : Option Addr} {old : Array Value} {z : Value} (hu : P.underlying t = some (.slice e)) (hu2 : P.underlying u = some (.int ku)) (hsz : szOf P e = some sz)
  (hz : zeroOf P e = some z) (hby : bytesOf P e = some by_) (hb : by_ ≤ 8192) (h0 : 0 < sz) (hk : 0 ≤ k) (hk0 : 0 < k.toNat) (hneed : sLen + k.toNat ≤ 4294967296)
  (e0 : (Builtin.firstCells sz sLen (.slice bs sLen sCap)).run P w.drew = .ok old w.drew) (hfit : ¬ sLen + k.toNat ≤ sCap) :
  ∃ newCap, sLen + k.toNat ≤ newCap ∧ (Builtin.append_ #[t, u] ty #[.slice bs sLen sCap, .int kd k]).run P w =
   .ok (.slice (some ⟨w.heap.size, 0, none⟩) (sLen + k.toNat) newCap) (w.drew.alloc (.cells (old ++ Builtin.zeroCells z.cells k.toNat ++ Builtin.zeroCells z.cells (newCap - (sLen + k.toNat))) e)) := by
 have hn := nextcap_le (need := sLen + k.toNat) (cap := sCap) (by omega)
 have hmul : Builtin.nextslicecap (sLen + k.toNat) sCap * by_ ≤ (2 * (sLen + k.toNat) + 1024) * 8192 := Nat.mul_le_mul hn hb
 have hle : ¬ Builtin.nextslicecap (sLen + k.toNat) sCap * by_ > 281474976710656 := by omega
 refine ⟨(Question.appendCap (sLen + k.toNat) sCap e).cut (w.tape w.drawn (.appendCap (sLen + k.toNat) sCap e)), by simp [Question.cut], ?_⟩
 generalize hc : (Question.appendCap (sLen + k.toNat) sCap e).cut (w.tape w.drawn (.appendCap (sLen + k.toNat) sCap e)) = newCap
 obtain ⟨i, hi, hib⟩ := run_bytes hby w
 obtain ⟨i', hi', hib'⟩ := run_bytes hby w.drew
 have wk : IntKind.i64.wrap k = k := by
  simp [IntKind.wrap, IntKind.bits, IntKind.signed]; omega
 have c1 : ¬ k < 0 := by omega
 have hmul2 : k * (by_ : Int) ≤ 4294967296 * 8192 := Int.mul_le_mul (by omega) (by omega) (by omega) (by omega)
 have c2 : ¬ (281474976710656 < k * (by_ : Int)) := by omega
 have c6 : ¬ (9223372036854775807 < (sLen : Int) + max k 0) := by omega
 have c7 : ¬ k.toNat * sz = 0 := by
  have := Nat.mul_pos hk0 h0
  omega
 simp only [Builtin.append_]
 simp [run_underlying hu, run_underlying hu2, run_sz hsz, asInt, asIntOf, wk, c1, c2, hfit, hi, hib, hle, hc, Question.forced, hi', e0, run_zero hz, newRow, c6, c7]
theorem run_append_zeros0 {t u e ty : TypeId} {sz sLen sCap by_ : Nat} {k : Int} {kd ku : IntKind} {bs : Option Addr} {old : Array Value} {z : Value} (hu : P.underlying t = some (.slice e)) (hu2 : P.underlying u = some (.int ku)) (hsz : szOf P e = some sz)
  (hz : zeroOf P e = some z) (hby : bytesOf P e = some by_) (hb : by_ ≤ 8192) (hk : k = 0) (hneed : sLen + k.toNat ≤ 4294967296)
  (e0 : (Builtin.firstCells sz sLen (.slice bs sLen sCap)).run P w.drew = .ok old w.drew) (hfit : ¬ sLen + k.toNat ≤ sCap) :
  ∃ newCap, sLen + k.toNat ≤ newCap ∧ (Builtin.append_ #[t, u] ty #[.slice bs sLen sCap, .int kd k]).run P w =
   .ok (.slice (some ⟨w.heap.size, 0, none⟩) (sLen + k.toNat) newCap) (w.drew.alloc (.cells (old ++ Builtin.zeroCells z.cells k.toNat ++ Builtin.zeroCells z.cells (newCap - (sLen + k.toNat))) e)) := by
 subst hk
 have hn := nextcap_le (need := sLen) (cap := sCap) (by simp at hfit; omega)
 have hmul : Builtin.nextslicecap sLen sCap * by_ ≤ (2 * sLen + 1024) * 8192 := Nat.mul_le_mul hn hb
 simp at hneed hfit
 have hle : ¬ Builtin.nextslicecap sLen sCap * by_ > 281474976710656 := by omega
 refine ⟨(Question.appendCap sLen sCap e).cut (w.tape w.drawn (.appendCap sLen sCap e)), by simp [Question.cut], ?_⟩
 generalize hc : (Question.appendCap sLen sCap e).cut (w.tape w.drawn (.appendCap sLen sCap e)) = newCap
 obtain ⟨i, hi, hib⟩ := run_bytes hby w
 obtain ⟨i', hi', hib'⟩ := run_bytes hby w.drew
 have wk : IntKind.i64.wrap 0 = 0 := by decide
 have hfit2 : ¬ sLen ≤ sCap := by omega
 have c6 : ¬ (9223372036854775807 < (sLen : Int)) := by omega
 have hz0 : Builtin.zeroCells z.cells 0 = #[] := by simp [Builtin.zeroCells]
 simp only [Builtin.append_]
 simp [run_underlying hu, run_underlying hu2, run_sz hsz, asInt, asIntOf, wk, hfit2, hi, hib, hle, hc, Question.forced, hi', e0, run_zero hz, newRow, c6, hz0]
theorem run_append_inZ {t u e ty : TypeId} {sz kn sLen sCap : Nat} {k : Int} {kd ku : IntKind} {bs : Option Addr} {z : Value} {by_ : Nat} {w' : World} (hu : P.underlying t = some (.slice e)) (hu2 : P.underlying u = some (.int ku)) (hsz : szOf P e = some sz)
  (hz : zeroOf P e = some z) (hby : bytesOf P e = some by_) (hb : by_ ≤ 8192) (h0 : 0 < sz) (hk : 0 ≤ k) (hkl : k ≤ 4294967296) (hfit : sLen + k.toNat ≤ sCap) (hkn : kn = sLen + k.toNat)
  (hst : ∀ ad, bs = some ad → (storeCells (ad.add (sLen * sz)) (Builtin.zeroCells z.cells k.toNat).toList).run P w = .ok () w') (hno : bs = none → w' = w) :
  (Builtin.append_ #[t, u] ty #[.slice bs sLen sCap, .int kd k]).run P w = .ok (.slice bs kn sCap) w' := by
 subst hkn
 obtain ⟨i, hi, hib⟩ := run_bytes hby w
 have wk : IntKind.i64.wrap k = k := by
  simp [IntKind.wrap, IntKind.bits, IntKind.signed]; omega
 have c1 : ¬ k < 0 := by omega
 have hmul2 : k * (by_ : Int) ≤ 4294967296 * 8192 := Int.mul_le_mul (by omega) (by omega) (by omega) (by omega)
 have c2 : ¬ (281474976710656 < k * (by_ : Int)) := by omega
 by_cases hk0 : k.toNat = 0
 ·have hz0 : Builtin.zeroCells z.cells 0 = #[] := by simp [Builtin.zeroCells]
  rw [hk0] at hfit hst ⊢
  rw [hz0] at hst
  cases bs with
  | none =>
   have := hno rfl
   subst this
   simp only [Builtin.append_]
   have : sLen ≤ sCap := by omega
   simp [run_underlying hu, run_underlying hu2, run_sz hsz, asInt, asIntOf, wk, c1, c2, hi, hib, hk0, this]
  | some ad =>
   have h2 := hst ad rfl
   simp only [Builtin.append_]
   have : sLen ≤ sCap := by omega
   simp [run_underlying hu, run_underlying hu2, run_sz hsz, asInt, asIntOf, wk, c1, c2, hi, hib, hk0, this] at h2 ⊢
   rw [h2]; rfl
 ·have c7 : ¬ k.toNat * sz = 0 := by
   have := Nat.mul_pos (Nat.pos_of_ne_zero hk0) h0
   omega
  cases bs with
  | none =>
   have := hno rfl
   subst this
   simp only [Builtin.append_]
   simp [run_underlying hu, run_underlying hu2, run_sz hsz, asInt, asIntOf, wk, c1, c2, hi, hib, hfit, c7, run_zero hz]
  | some ad =>
   have h2 := hst ad rfl
   simp only [Builtin.append_]
   simp [run_underlying hu, run_underlying hu2, run_sz hsz, asInt, asIntOf, wk, c1, c2, hi, hib, hfit, c7, run_zero hz, h2]
theorem does_appendZ {t u ty : TypeId} {s x : Operand} (hop : execOp a.eval o = (do pure (.value (← Builtin.append_ #[t, u] ty #[a.eval s, a.eval x])) : Sem Next)) (hs : SimE base w0 β fz e' H a w)
  (h : aAppendZ P t u (e' s) (e' x) H = some (av, H')) : Does P o a w base w0 β fz H av H' := by
 unfold aAppendZ at h
 split at h
 ·rename_i e ku hE hu2
  have hu := run_slice_und hE
  split at h
  ·rename_i sz z by_ hsz hz hby
   split at h
   ·rename_i id sz' st len cap kd k hp hq
    split at h
    ·rename_i sz'' rows hob
     split at h
     ·rename_i hcond
      obtain ⟨hzs, hzo, h0, hb, rfl, rfl, hsl, hk, hcap, hneed⟩ := hcond
      simp only [Option.some.injEq, Prod.mk.injEq] at h
      obtain ⟨rfl, rfl⟩ := h
      have hsv := hs.ev s
      have hxv := hs.ev x
      rw [hp] at hsv
      rw [hq] at hxv
      have hxv := hxv.v_inv
      obtain ⟨hd, hde⟩ := hs.heap.drew
      have hrs : rowsOf H sz'' (soft (.xsl id sz'' st len cap)) = some ((rows.drop st).take len) := by simp [rowsOf, soft, hob, hsl]
      obtain ⟨sb, sc, scs, hsv2, hsl2, hsF, hsrun⟩ := rows_R (P := P) hd hrs h0 (soft_R (hsv.ext hde))
      have hlen : ((rows.drop st).take len).length = len := by simp; omega
      have hcap2 : sc = cap := by
       generalize a.eval s = v at hsv hsv2
       cases hsv with
       | xsl h hl ha => simp at hsv2; exact hsv2.2.2.symm
      subst hcap2
      rw [hlen] at hsv2 hsrun
      have hs0 := hsrun len (Nat.le_refl _)
      rw [hsv2, List.take_of_length_le (by rw [hsF.2.1, hlen]; exact Nat.le_refl _)] at hs0
      obtain ⟨newCap, hnc, hrun⟩ := run_append_zeros (w := w) (ty := ty) (kd := kd) hu hu2 hsz hz hby hb h0 hk (by omega) hneed hs0 (by omega)
      have hzF := flat_zero (β := β) (ok := okOf base fz) (w := w.drew) (n := H.length) (k := k.toNat) hzs h0 hzo
      have hFF := hsF.app hzF
      obtain ⟨q1, q2⟩ := hd.alloc_flat (e := e) hFF (more := (Builtin.zeroCells z.cells (newCap - (len + k.toNat))).toList) (flat_zero (β := β) (ok := okOf base fz) (w := w) (n := 0) hzs h0 hzo).2.2.1
      have hcs : (scs.toArray ++ Builtin.zeroCells z.cells k.toNat ++ Builtin.zeroCells z.cells (newCap - (len + k.toNat))) = ((scs ++ (Builtin.zeroCells z.cells k.toNat).toList) ++ (Builtin.zeroCells z.cells (newCap - (len + k.toNat))).toList).toArray := by simp
      have hsl3 := newSl β H w.heap.size sz'' (len + k.toNat) newCap (okOf base fz) _ ((rows.drop st).take len ++ List.replicate k.toNat (z.cells.toList.map AVal.v)) (heap_alloc_new w.drew (.cells ((scs ++ (Builtin.zeroCells z.cells k.toNat).toList) ++ (Builtin.zeroCells z.cells (newCap - (len + k.toNat))).toList).toArray e)) ?hle (kc := len + k.toNat) (Nat.le_refl _) hnc
      case hle =>
       have h1 := hFF.2.1
       have h2 := (flat_zero (β := β) (ok := okOf base fz) (w := w) (n := 0) (k := newCap - (len + k.toNat)) hzs h0 hzo).2.1
       simp only [List.length_replicate] at h2
       simp only [List.length_append, hlen, List.length_replicate] at h1
       have h3 : newCap * sz'' = (len + k.toNat) * sz'' + (newCap - (len + k.toNat)) * sz'' := by rw [← Nat.add_mul]; congr 1; omega
       simp only [List.size_toArray, List.length_append]
       omega
      refine does_val ?_ q1 (hde.trans q2) hsl3
      rw [hop, hsv2, hxv, Sem.run_bind, hrun, hcs]
      rfl
     ·cases h
    ·cases h
   ·rename_i kd k hq _
    split at h
    ·rename_i hk
     obtain ⟨hk, hkl⟩ := hk
     have hxv := hs.ev x
     rw [hq] at hxv
     have hxv := hxv.v_inv
     rw [hxv] at hop
     refine does_appendC hop hs (fun e2 sz2 z2 by2 xr hE2 hsz2 hz2 hby2 hzs hzo h0 hb hxr => ?_) h
     rw [hE] at hE2
     cases hE2
     rw [hsz] at hsz2
     cases hsz2
     rw [hz] at hz2
     cases hz2
     simp only [rowsOf, if_true, Option.some.injEq] at hxr
     subst hxr
     have hzF := fun (w : World) => flat_zero (β := β) (ok := okOf base fz) (w := w) (n := H.length) (k := k.toNat) hzs h0 hzo
     refine ⟨_, _, hzF w, hzF w.drew, fun hfit hkn hst hno => ?_, fun {sLen sCap bs old} hneed e0 hfit => ?_⟩
     ·rw [List.length_replicate] at hfit hkn
      exact run_append_inZ hu hu2 hsz hz hby2 hb h0 hk hkl hfit hkn hst hno
     ·rw [List.length_replicate] at hneed hfit ⊢
      have hne : (Builtin.zeroCells z.cells k.toNat).toList.toArray = Builtin.zeroCells z.cells k.toNat := by simp
      rw [hne]
      by_cases hk0 : 0 < k.toNat
      ·exact run_append_zeros hu hu2 hsz hz hby2 hb h0 hk hk0 hneed e0 hfit
      ·exact run_append_zeros0 hu hu2 hsz hz hby2 hb (by omega) hneed e0 hfit
    ·cases h
   ·cases h
  ·cases h
 ·cases h
theorem does_cap {t ty : TypeId} {x : Operand} (hop : execOp a.eval o = (do pure (.value (← Builtin.cap_ #[t] ty #[a.eval x])) : Sem Next)) (hs : SimE base w0 β fz e' H a w)
  (h : aCap P t (e' x) = some av) : Does P o a w base w0 β fz H av H := by
 have hx := hs.ev x
 unfold aCap at h
 split at h
 ·rename_i e id sz s len cap hE hp
  have hu := run_slice_und hE
  simp only [Option.some.injEq] at h
  subst h
  rw [hp] at hx
  generalize hv : a.eval x = v at hx
  cases hx
  refine does_pure hs.heap (x := goInt cap) ?_ .v
  rw [hop, hv]
  simp [Builtin.cap_, run_underlying hu]
 ·cases h
end
end Go.AI
/- Each step of the interpreter is true of the model: literals. -/
namespace Go.AI
set_option linter.unusedSectionVars false
variable [Sym]
set_option linter.unusedSimpArgs false
set_option linter.unusedVariables false
open Go.RowKit
theorem foldl_set (off : Nat) : ∀ (l : List Value) (i : Nat) (xs : Array Value), off + i + l.length ≤ xs.size →
  ((l.zipIdx i).foldl (fun cs p => cs.setIfInBounds (off + p.2) p.1) xs).size = xs.size ∧
  ∀ k, ((l.zipIdx i).foldl (fun cs p => cs.setIfInBounds (off + p.2) p.1) xs)[k]? = if off + i ≤ k ∧ k < off + i + l.length then l[k - (off + i)]? else xs[k]?
 | [], i, xs, _ => by
  refine ⟨rfl, fun k => ?_⟩
  simp only [List.zipIdx_nil, List.foldl_nil, List.length_nil, Nat.add_zero]
  rw [if_neg (by omega)]
 | v :: l, i, xs, h => by
  simp only [List.length_cons] at h
  obtain ⟨h1, h2⟩ := foldl_set off l (i + 1) (xs.setIfInBounds (off + i) v) (by simp; omega)
  simp only [List.zipIdx_cons, List.foldl_cons]
  refine ⟨by rw [h1]; simp, fun k => ?_⟩
  rw [h2 k]
  by_cases hk : k = off + i
  ·subst hk
   rw [if_neg (by omega), if_pos (by simp)]
   rw [Array.getElem?_setIfInBounds_self_of_lt (by omega)]
   simp
  ·by_cases hk2 : off + (i + 1) ≤ k ∧ k < off + (i + 1) + l.length
   ·rw [if_pos hk2, if_pos (by simp only [List.length_cons]; omega)]
    have : k - (off + i) = (k - (off + (i + 1))) + 1 := by omega
    rw [this, List.getElem?_cons_succ]
   ·rw [if_neg hk2, if_neg (by simp only [List.length_cons]; omega), Array.getElem?_setIfInBounds_ne (by omega)]
section
variable {base : Nat} {w0 : World} {β : Nat → Nat} {fz : Nat → Prop} {e' : AEv} {H H' : Heap} {a : Act} {w : World} {P : Program} {C : Orc} {o : Oper} {av : AVal} {n : Nat} {ok : Bool → Nat → Prop}
def CellsR (β : Nat → Nat) (ok : Bool → Nat → Prop) (w : World) (n : Nat) (cs : Row) (xs : Array Value) : Prop :=
 xs.size = cs.length ∧ (∀ (j : Nat) (c : AVal), cs[j]? = some c → R β ok w n c (xs[j]?.getD undef))
theorem fill_R {place : Nat → Option (Nat × Nat)} : ∀ (parts : List (Nat × Operand)) (cells cells' : Row) (xs : Array Value) (_ : SimE base w0 β fz e' H a w),
  CellsR β (okOf base fz) w H.length cells xs → fillA place cells (parts.map fun p => (p.1, e' p.2)) = some cells' →
  ∃ xs', Instr.fill place xs (parts.map fun p => (p.1, a.eval p.2)) = some xs' ∧ CellsR β (okOf base fz) w H.length cells' xs'
 | [], cells, cells', xs, hs, hc, h => by
  simp [fillA] at h; subst h
  exact ⟨xs, rfl, hc⟩
 |(i, x) :: parts, cells, cells', xs, hs, hc, h => by
  simp only [List.map_cons, fillA] at h
  split at h
  ·rename_i off size cs hpl hcs
   split at h
   ·rename_i hcond
    obtain ⟨c1, c2, c3⟩ := cells_R hcs (hs.ev x)
    obtain ⟨q1, q2⟩ := hc
    have hle : off + 0 + (a.eval x).cells.toList.length ≤ xs.size := by simp; omega
    obtain ⟨f1, f2⟩ := foldl_set off (a.eval x).cells.toList 0 xs hle
    have hfold : (a.eval x).cells.zipIdx.foldl (fun cs (p : Value × Nat) => cs.setIfInBounds (off + p.2) p.1) xs = ((a.eval x).cells.toList.zipIdx 0).foldl (fun cs p => cs.setIfInBounds (off + p.2) p.1) xs := by
     rw [← Array.foldl_toList]; simp
    obtain ⟨xs', hx1, hx2⟩ := fill_R parts (writeAt cells off cs) cells' (((a.eval x).cells.toList.zipIdx 0).foldl (fun cs p => cs.setIfInBounds (off + p.2) p.1) xs) hs
     ⟨by rw [f1, writeAt_length]; exact q1, fun j c hj => by
      rw [f2 j]
      rw [writeAt_get _ _ _ (by omega)] at hj
      by_cases hh : off ≤ j ∧ j < off + cs.length
      ·rw [if_pos hh] at hj
       rw [if_pos (by simp; omega)]
       have := c2 _ _ hj
       simpa using this
      ·rw [if_neg hh] at hj
       rw [if_neg (by simp; omega)]
       exact q2 j c hj⟩ h
    refine ⟨xs', ?_, hx2⟩
    simp only [List.map_cons, Instr.fill, hpl]
    have hn : ¬ ((a.eval x).cells.size ≠ size ∨ off + (a.eval x).cells.size > xs.size) := by omega
    have hb : (decide ((a.eval x).cells.size ≠ size) || decide (off + (a.eval x).cells.size > xs.size)) = false := by
     simp; omega
    rw [hb]
    simp only [Bool.false_eq_true, if_false]
    rw [← hx1, ← hfold]
   ·cases h
  ·cases h
theorem run_places : ∀ (fs : List Field) (pl : List (Nat × Nat)), (fs.mapM fun f => (szOf P f.type).map fun n => (f.offset, n)) = some pl →
  (fs.mapM fun f => (do pure (f.offset, ← sizeOf f.type) : Sem (Nat × Nat))).run P w = .ok pl w
 | [], pl, h => by simp at h; subst h; rfl
 | f :: fs, pl, h => by
  simp only [List.mapM_cons, Option.bind_eq_bind, Option.bind_eq_some_iff, Option.map_eq_some_iff, Option.pure_def, Option.some.injEq] at h
  obtain ⟨x, ⟨k, hk, rfl⟩, pl', hpl, rfl⟩ := h
  have ih := run_places fs pl' hpl
  simp only [List.mapM_cons, Sem.run_bind, run_sz hk, Result.andThen_ok, Sem.run_pure]
  rw [ih]; rfl
theorem zero_R (z : Value) : CellsR β ok w n (z.cells.toList.map .v) z.cells := by
 refine ⟨by simp, fun j c hj => ?_⟩
 simp only [List.getElem?_map, Option.map_eq_some_iff, Array.getElem?_toList] at hj
 obtain ⟨y, hy, rfl⟩ := hj
 simp only [hy, Option.getD_some]
 exact .v
theorem does_build {t : TypeId} {parts : Array (Nat × Operand)} (hop : o.op = .build t parts) (hs : SimE base w0 β fz e' H a w)
  (h : aBuild P t (parts.toList.map fun p => (p.1, e' p.2)) = some av) : Does P o a w base w0 β fz H av H := by
 unfold aBuild at h
 have hparts : (parts.map fun (i, x) => (i, a.eval x)).toList = parts.toList.map fun p => (p.1, a.eval p.2) := by simp
 split at h
 ·rename_i z hz
  split at h
  ·rename_i pl hpl
   simp only [Option.map_eq_some_iff] at h
   obtain ⟨cells', hf, rfl⟩ := h
   obtain ⟨xs', hx, hR⟩ := fill_R parts.toList _ _ z.cells hs (zero_R z) hf
   unfold placesOf at hpl
   split at hpl
   ·rename_i fs hu
    have hrun := run_places (P := P) (w := w) fs.toList pl hpl
    refine does_pure hs.heap (x := .agg xs') ?_ (mkAgg_R hR.1.symm hR.2)
    simp only [execOp, hop]
    have hm : (fs.mapM fun f => (do pure (f.offset, ← sizeOf f.type) : Sem (Nat × Nat))).run P w = .ok pl.toArray w := by
     rw [Array.mapM_eq_mapM_toList]
     simp only [Sem.run_map, hrun, Result.andThen_ok]
    have hx' : Instr.fill (fun x => pl.toArray[x]?) z.cells (parts.toList.map fun p => (p.1, a.eval p.2)) = some xs' := by
     simpa using hx
    rw [Sem.run_bind]
    have : (Instr.build t (parts.map fun (i, x) => (i, a.eval x))).run P w = .ok (.agg xs') w := by
     unfold Instr.build
     rw [Sem.run_bind, run_zero hz]
     simp only [Result.andThen_ok]
     rw [Sem.run_bind, run_underlying hu]
     simp only [Result.andThen_ok]
     rw [Sem.run_bind, hm]
     simp only [Result.andThen_ok, hparts, hx']
     rfl
    rw [this]; rfl
   ·cases hpl
  ·split at h
   ·rename_i k e hA
    have hu := run_array_und hA
    split at h
    ·rename_i sz hsz
     simp only [Option.map_eq_some_iff] at h
     obtain ⟨cells', hf, rfl⟩ := h
     obtain ⟨xs', hx, hR⟩ := fill_R parts.toList _ _ z.cells hs (zero_R z) hf
     refine does_pure hs.heap (x := .agg xs') ?_ (mkAgg_R hR.1.symm hR.2)
     simp only [execOp, hop]
     rw [Sem.run_bind]
     have : (Instr.build t (parts.map fun (i, x) => (i, a.eval x))).run P w = .ok (.agg xs') w := by
      unfold Instr.build
      rw [Sem.run_bind, run_zero hz]
      simp only [Result.andThen_ok]
      rw [Sem.run_bind, run_underlying hu]
      simp only [Result.andThen_ok]
      rw [Sem.run_bind, run_sz hsz]
      simp only [Result.andThen_ok, hparts, hx]
      rfl
     rw [this]; rfl
    ·cases h
   ·cases h
 ·cases h
theorem setRows_R {sz : Nat} : ∀ (parts : List (Nat × Operand)) (rows rows' : List Row) (xs : Array Value) (_ : SimE base w0 β fz e' H a w),
  FlatR β (okOf base fz) w H.length sz rows xs.toList → setRows sz rows (parts.map fun p => (p.1, e' p.2)) = some rows' →
  ∃ xs', Instr.fill (fun i => some (i * sz, sz)) xs (parts.map fun p => (p.1, a.eval p.2)) = some xs' ∧ FlatR β (okOf base fz) w H.length sz rows' xs'.toList
 | [], rows, rows', xs, hs, hc, h => by
  simp [setRows] at h; subst h
  exact ⟨xs, rfl, hc⟩
 |(i, x) :: parts, rows, rows', xs, hs, hc, h => by
  simp only [List.map_cons, setRows] at h
  split at h
  ·rename_i cs hcs
   split at h
   ·rename_i hcond
    obtain ⟨hcl, hi⟩ := hcond
    obtain ⟨c1, c2, c3⟩ := cells_R hcs (hs.ev x)
    obtain ⟨q1, q2, q3, q4⟩ := hc
    have hmul : (i + 1) * sz ≤ rows.length * sz := Nat.mul_le_mul_right _ hi
    rw [Nat.succ_mul] at hmul
    have hxs : xs.size = rows.length * sz := by simpa using q2
    have hle : i * sz + 0 + (a.eval x).cells.toList.length ≤ xs.size := by simp; omega
    obtain ⟨f1, f2⟩ := foldl_set (i * sz) (a.eval x).cells.toList 0 xs hle
    have hfold : (a.eval x).cells.zipIdx.foldl (fun cs (p : Value × Nat) => cs.setIfInBounds (i * sz + p.2) p.1) xs = ((a.eval x).cells.toList.zipIdx 0).foldl (fun cs p => cs.setIfInBounds (i * sz + p.2) p.1) xs := by
     rw [← Array.foldl_toList]; simp
    generalize hys : ((a.eval x).cells.toList.zipIdx 0).foldl (fun cs p => cs.setIfInBounds (i * sz + p.2) p.1) xs = ys at *
    obtain ⟨xs', hx1, hx2⟩ := setRows_R parts (rows.set i cs) rows' ys hs
     ⟨fun r hr => by
      rcases List.mem_or_eq_of_mem_set hr with hr | rfl
      ·exact q1 r hr
      ·exact hcl, by simp [f1, hxs], fun c hc => by
      obtain ⟨k, hk⟩ := Array.getElem?_of_mem (Array.mem_toList_iff.1 hc)
      rw [f2 k] at hk
      split at hk
      ·exact c3 c (Array.mem_toList_iff.1 (List.mem_of_getElem? hk))
      ·exact q3 c (Array.mem_toList_iff.2 (Array.mem_of_getElem? hk)), fun i' r hi' j c hj => by
      rw [Array.getElem?_toList, f2]
      by_cases hii : i' = i
      ·subst hii
       rw [List.getElem?_set_self hi] at hi'
       simp only [Option.some.injEq] at hi'
       subst hi'
       have hjl := (List.getElem?_eq_some_iff.1 hj).1
       rw [if_pos (by simp; omega)]
       have := c2 _ _ hj
       simpa using this
      ·rw [List.getElem?_set_ne (by omega)] at hi'
       have hjl : j < sz := by
        have := (List.getElem?_eq_some_iff.1 hj).1
        rw [q1 r (List.mem_of_getElem? hi')] at this; exact this
       have hne : ¬ (i * sz + 0 ≤ i' * sz + j ∧ i' * sz + j < i * sz + 0 + (a.eval x).cells.toList.length) := by
        intro hc
        simp at hc
        have h3 : i' * sz + j - i * sz < sz := by omega
        exact row_ne hii hjl h3 (by omega)
       rw [if_neg hne]
       have := q4 i' r hi' j c hj
       simpa using this⟩ h
    refine ⟨xs', ?_, hx2⟩
    simp only [List.map_cons, Instr.fill]
    have hb : (decide ((a.eval x).cells.size ≠ sz) || decide (i * sz + (a.eval x).cells.size > xs.size)) = false := by
     simp; omega
    rw [hb]
    simp only [Bool.false_eq_true, if_false]
    rw [← hx1, ← hfold]
   ·cases h
  ·cases h
theorem HSim.called (hs : HSim base w0 β fz H w) {w' : World} (hb : Below w.heap.size w w') :
  HSim base w0 β (fun b => fz b ∨ (w.heap.size ≤ b ∧ b < w'.heap.size)) H w' ∧ Ext H.length β fz w H.length β (fun b => fz b ∨ (w.heap.size ≤ b ∧ b < w'.heap.size)) w' := by
 have hsh : Shapes w w' := by
  intro b cs e f h
  have : b < w.heap.size := (Array.getElem?_eq_some_iff.1 h).1
  exact ⟨cs, f, by rw [hb.block b this]; exact h, rfl⟩
 have ext : Ext H.length β fz w H.length β (fun b => fz b ∨ (w.heap.size ≤ b ∧ b < w'.heap.size)) w' :=
  ⟨Nat.le_refl _, fun _ _ => rfl, fun _ h => .inl h, fun b h => hb.block b (hs.fzlt b h), hsh⟩
 have hbase : base ≤ w.heap.size := Nat.le_trans hs.base hs.below.size
 refine ⟨⟨?_, hs.inj, ?_, ?_, hs.below.trans (hb.mono hbase), hs.base⟩, ext⟩
 ·intro id sz rows hid
  exact (hs.objs' id sz rows hid).ext ext (hb.block _ (hs.blt ⟨_, hid⟩))
 ·rintro id ⟨⟨sz, rows⟩, hid⟩
  have hlt : β id < w.heap.size := hs.blt ⟨_, hid⟩
  have := hs.own id ⟨_, hid⟩
  refine ⟨this.1, ?_⟩
  rintro (h | h)
  ·exact this.2 h
  ·omega
 ·rintro b (h | h)
  ·exact Nat.lt_of_lt_of_le (hs.fzlt b h) hb.size
  ·exact h.2
theorem does_buildSlice {t : TypeId} {len : Nat} {parts : Array (Nat × Operand)} (hop : o.op = .buildSlice t len parts) (hs : SimE base w0 β fz e' H a w)
  (h : aBuildSlice P t len (parts.toList.map fun p => (p.1, e' p.2)) H = some (av, H')) : Does P o a w base w0 β fz H av H' := by
 unfold aBuildSlice at h
 have hparts : (parts.map fun (i, x) => (i, a.eval x)).toList = parts.toList.map fun p => (p.1, a.eval p.2) := by simp
 split at h
 ·rename_i e hE
  have hu := run_slice_und hE
  split at h
  ·rename_i sz z hsz hz
   split at h
   ·rename_i hcond
    obtain ⟨hzs, hzo, h0, hlim⟩ := hcond
    split at h
    ·rename_i rows hrows
     have hF0 := flat_zero (β := β) (ok := okOf base fz) (w := w) (n := H.length) (k := len) hzs h0 hzo
     obtain ⟨xs', hx, hF⟩ := setRows_R parts.toList _ _ _ hs hF0 hrows
     obtain ⟨q1, q2⟩ := hs.heap.alloc_flat (e := e) hF (more := []) (by simp)
     rw [List.append_nil, Array.toArray_toList] at q1 q2
     have hrl : rows.length = len := by
      have : ∀ (ps : List (Nat × AVal)) (r r' : List Row), setRows sz r ps = some r' → r'.length = r.length := by
       intro ps
       induction ps with
       | nil => intro r r' h; simp [setRows] at h; rw [h]
       | cons p ps ih =>
        intro r r' h
        obtain ⟨i, x⟩ := p
        simp only [setRows] at h
        split at h
        ·split at h
         ·rw [ih _ _ h]; simp
         ·cases h
        ·cases h
      rw [this _ _ _ hrows]; simp
     have hsl := newSl β H w.heap.size sz len len (okOf base fz) _ rows (heap_alloc_new w (.cells xs' e)) (by have := hF.2.1; rw [hrl] at this; simpa using Nat.le_of_eq this.symm) (kc := len) (Nat.le_refl _) (Nat.le_refl _)
     have hex : (execOp a.eval o).run P w = .ok (.value (.slice (some ⟨w.heap.size, 0, none⟩) len len)) (w.alloc (.cells xs' e)) := by
      simp only [execOp, hop]
      rw [Sem.run_bind]
      have hzc : Builtin.zeroCells z.cells len = (Array.range (len * sz)).map (z.cells[· % z.cells.size]!) := by
       simp [Builtin.zeroCells, hzs]
      rw [hzc] at hx
      have hl2 : ¬ (len * sz > 2 ^ 24) := by
       have : 2 ^ 24 = 16777216 := by decide
       omega
      have hr : (Instr.buildSlice t len (parts.map fun (i, x) => (i, a.eval x))).run P w = .ok (.slice (some ⟨w.heap.size, 0, none⟩) len len) (w.alloc (.cells xs' e)) := by
       unfold Instr.buildSlice
       rw [Sem.run_bind, run_underlying hu]
       simp only [Result.andThen_ok]
       rw [Sem.run_bind, run_sz hsz]
       simp only [Result.andThen_ok, hparts]
       by_cases hn : len * sz = 0
       ·have hlen : len = 0 := by
         rcases Nat.mul_eq_zero.1 hn with h | h
         ·exact h
         ·omega
        subst hlen
        have hx2 : Instr.fill (fun i => some (i * sz, sz)) #[] (parts.toList.map fun p => (p.1, a.eval p.2)) = some xs' := by
         rw [← hx]; congr 1
         apply Eq.symm; apply Array.eq_empty_of_size_eq_zero; simp
        simp [hx2, newRow, map_range0]
       ·have hl3 : ¬ 16777216 < len * sz := by omega
        simp [hn, hl3, run_zero hz, hx, newRow]
      rw [hr]; rfl
     split at h
     ·rename_i hlen0
      simp only [Option.some.injEq, Prod.mk.injEq] at h
      obtain ⟨rfl, rfl⟩ := h
      subst hlen0
      obtain ⟨g1, g2⟩ := hs.heap.called ((Below.refl w.heap.size w).alloc (Nat.le_refl _) (.cells xs' e))
      exact does_val hex g1 g2 .esl
     ·simp only [Option.some.injEq, Prod.mk.injEq] at h
      obtain ⟨rfl, rfl⟩ := h
      exact does_val hex q1 q2 hsl
    ·cases h
   ·cases h
  ·cases h
 ·cases h
end
end Go.AI
/- Calls. -/
namespace Go.AI
set_option linter.unusedSectionVars false
variable [Sym]
set_option linter.unusedSimpArgs false
set_option linter.unusedVariables false
open Go.RowKit
def β0 : Nat → Nat := fun _ => 0
def ok0 (w : World) : Bool → Nat → Prop := okOf w.heap.size (· < w.heap.size)
def okNew (lo : Nat) (w' : World) : Bool → Nat → Prop := fun _ b => lo ≤ b ∧ b < w'.heap.size
def ArgsR (β : Nat → Nat) (ok : Bool → Nat → Prop) (w : World) (n : Nat) (args : Row) (vals : Array Value) : Prop :=
 vals.size = args.length ∧ ∀ (j : Nat) (a : AVal), args[j]? = some a → R β ok w n a (vals[j]?.getD undef)
def PureOk (P : Program) (f : FuncId) (m : Row → Option AVal) : Prop :=
 ∀ args r, m args = some r → ∀ (w : World) (vals : Array Value), ArgsR β0 (ok0 w) w 0 args vals →
  Calls P f vals w fun e w' => ∃ v, e = .returned v ∧ Below w.heap.size w w' ∧ R β0 (okNew w.heap.size w') w' 0 r v
def CallsX (P : Program) (f : FuncId) (vals : Array Value) (w : World) (K : Ending → World → Prop) : Prop :=
 ∀ fn, P.funcs[f]? = some fn → (fn.body.isNone = false → Calls P f vals w K) ∧ (fn.body.isNone = true → ∃ v w', (callFunc f vals).run P w = .ok (.value v) w' ∧ K (.returned v) w')
theorem CallsX.of {P : Program} {f : FuncId} {fn : Func} {c : Code} {vals : Array Value} {w : World} {K : Ending → World → Prop} (hf : P.funcs[f]? = some fn) (hb : fn.body = some c) (h : Calls P f vals w K) : CallsX P f vals w K := by
 intro fn' hf'
 rw [hf] at hf'
 simp only [Option.some.injEq] at hf'
 subst hf'
 exact ⟨fun _ => h, fun h0 => by rw [hb] at h0; cases h0⟩
def InlOk (P : Program) (f : FuncId) (m : Row → Heap → Option (AVal × Heap)) : Prop :=
 ∀ args H r H', m args H = some (r, H') → ∀ (base : Nat) (w0 : World) (β : Nat → Nat) (fz : Nat → Prop) (w : World) (vals : Array Value), HSim base w0 β fz H w → ArgsR β (okOf base fz) w H.length args vals →
  CallsX P f vals w fun e w' => ∃ v β' fz', e = .returned v ∧ HSim base w0 β' fz' H' w' ∧ Ext H.length β fz w H'.length β' fz' w' ∧ R β' (okOf base fz') w' H'.length r v
def MapsSame (H H' : Heap) : Prop := ∀ (id : Nat) (rows : List Row), H[id]? = some (some (0, rows)) ↔ H'[id]? = some (some (0, rows))
structure OrcOk (P : Program) (C : Orc) : Prop where
 pure : ∀ f, PureOk P f (C.pure f)
 inline : ∀ f, C.inl f = true → InlOk P f (C.inline f)
 foot : ∀ f args ids, C.fp f args = some ids → Loc (C.inline f args) ids true
 rd : ∀ f m, C.rd f = some m → InlOk P f (fun args H => (m args H).map (·, H))
 cells : ∀ f, C.cl f = true → ∀ args H r H', C.inline f args H = some (r, H') → MapsSame H H' ∧ H.length ≤ H'.length
section
variable {base : Nat} {w0 : World} {β : Nat → Nat} {fz : Nat → Prop} {e' : AEv} {H H' : Heap} {a : Act} {w : World} {P : Program} {C : Orc} {o : Oper} {av : AVal} {n : Nat} {ok ok' : Bool → Nat → Prop}
theorem cold_R {x : AVal} {v : Value} (h : R β ok w n x v) (hok : ∀ o b, ok o b → ok' false b) : R β ok' w n (cold x) v := by
 induction h with
 | junk => simp only [cold]; exact .junk
 | anyb => simp only [cold]; exact .anyb
 | anyi => simp only [cold]; exact .anyi
 | str h => simp only [cold]; exact .str h
 | v => simp only [cold]; exact .v
 | ptr h h0 => simp only [cold]; exact .ptr h h0
 | mp h => simp only [cold]; exact .mp h
 | fptr x hb hc hr ih =>
  simp only [cold, coldC_map]
  refine .fptr x (fun h => hok _ _ (hb (ne_map h))) (fun j hj => hc j (by simpa using hj)) (fun j a ha => ?_)
  simp only [List.getElem?_map, Option.map_eq_some_iff] at ha
  obtain ⟨y, hy, rfl⟩ := ha
  exact ih j y hy
 | osl h hl hk ha => simp only [cold]; exact .osl h hl hk ha
 | xsl h hl ha => simp only [cold]; exact .xsl h hl ha
 | @fsl n o sz rows b off cap x hl hs hb hc hr ih =>
  simp only [cold, coldR_map]
  have := R.fsl (β := β) (ok := ok') (w := w) (n := n) (o := false) (sz := sz) (rows := rows.map (List.map cold)) (b := b) (off := off) (cap := cap) x (by simpa using hl)
   (fun r hr => by
    simp only [List.mem_map] at hr
    obtain ⟨r', hr', rfl⟩ := hr
    simpa using hs r' hr') (fun h => hok _ _ (hb (ne_maps (fun _ => ne_map) h))) (fun i j hi hj => hc i j (by simpa using hi) hj)
   (fun i r hi j c hj => by
    simp only [List.getElem?_map, Option.map_eq_some_iff] at hi
    obtain ⟨r', hr', rfl⟩ := hi
    simp only [List.getElem?_map, Option.map_eq_some_iff] at hj
    obtain ⟨y, hy, rfl⟩ := hj
    exact ih i r' hr' j y hy)
  simpa using this
 | fsl0 => simp only [cold, coldR_map, List.map_nil]; exact .fsl0
 | esl => simp only [cold]; exact .esl
 | agg hl hr ih =>
  simp only [cold, coldC_map]
  refine .agg (by simpa using hl) fun j a ha => ?_
  simp only [List.getElem?_map, Option.map_eq_some_iff] at ha
  obtain ⟨y, hy, rfl⟩ := ha
  exact ih j y hy
 | tup hl hr ih =>
  simp only [cold, coldC_map]
  refine .tup (by simpa using hl) fun j a ha => ?_
  simp only [List.getElem?_map, Option.map_eq_some_iff] at ha
  obtain ⟨y, hy, rfl⟩ := ha
  exact ih j y hy
 | fn hl hr ih =>
  simp only [cold, coldC_map]
  refine .fn (by simpa using hl) fun j a ha => ?_
  simp only [List.getElem?_map, Option.map_eq_some_iff] at ha
  obtain ⟨y, hy, rfl⟩ := ha
  exact ih j y hy
 | when h hu ih => simp only [cold]; exact .junk
 | ifc h ih => simp only [cold]; exact .ifc ih
 | meth => simp only [cold]; exact .meth
def okV (base : Nat) (w : World) : Bool → Nat → Prop := fun o b => b < w.heap.size ∧ (o = true → base ≤ b)
theorem inner0 {x : AVal} {v : Value} (hs : HSim base w0 β fz H w) (h : R β (okOf base fz) w 0 x v) (n : Nat) : R β0 (okV base w) w n x v :=
 h.mono (Nat.zero_le _) (fun _ h => absurd h (Nat.not_lt_zero _)) (fun _ b hb => ⟨hs.fzlt b hb.1, hb.2⟩) (fun _ _ _ => rfl) (Shapes.refl _)
theorem view_R (hs : HSim base w0 β fz H w) : ∀ (d : Nat) (x : AVal) (v : Value), R β (okOf base fz) w H.length x v → R β0 (okV base w) w 0 (view H d x) v := by
 intro d
 induction d with
 | zero =>
  intro x v h
  cases h with
  | junk => simp only [view]; exact .junk
  | anyb => simp only [view]; exact .anyb
  | anyi => simp only [view]; exact .anyi
  | str h => simp only [view]; exact .str h
  | v => simp only [view]; exact .v
  | ptr h _ => simp only [view]; exact .junk
  | mp h => simp only [view]; exact .junk
  | fptr x hb hc hr => simp only [view]; exact .fptr x (fun h => ⟨hs.fzlt _ (hb h).1, (hb h).2⟩) hc (fun j a ha => inner0 hs (hr j a ha) 0)
  | osl h hl hk ha => simp only [view]; exact .junk
  | xsl h hl ha => simp only [view]; exact .junk
  | fsl x hl hsz hb hc hr => simp only [view]; exact .fsl x hl hsz (fun h => ⟨hs.fzlt _ (hb h).1, (hb h).2⟩) hc (fun i r hi j a ha => inner0 hs (hr i r hi j a ha) 0)
  | fsl0 => simp only [view]; exact .fsl0
  | esl => simp only [view]; exact .esl
  | agg hl hr => simp only [view]; exact .junk
  | tup hl hr => simp only [view]; exact .junk
  | fn hl hr => simp only [view]; exact .junk
  | when h hu => simp only [view]; exact .junk
  | ifc h => simp only [view]; exact .junk
  | meth => simp only [view]; exact .meth
 | succ d ih =>
  intro x v h
  cases h with
  | junk => simp only [view]; exact .junk
  | anyb => simp only [view]; exact .anyb
  | anyi => simp only [view]; exact .anyi
  | str h => simp only [view]; exact .str h
  | v => simp only [view]; exact .v
  | @mp _ id h =>
   simp only [view]
   split
   ·rename_i sz' rows hob
    split
    ·split
     ·rename_i hsz; exact absurd hsz (obj_live hob).2
     ·exact .junk
    ·exact .junk
   ·exact .junk
  | @ptr _ id sz i off h _ =>
   simp only [view]
   split
   ·rename_i sz' rows hob
    split
    ·rename_i r hr
     split
     ·rename_i hsz
      subst hsz
      obtain ⟨cs, e, g1, g2, g3, g4, g5⟩ := hs.cells hob
      have hi : i < rows.length := (List.getElem?_eq_some_iff.1 hr).1
      have hrl : r.length = sz' := g2 r (List.mem_of_getElem? hr)
      have hmul : (i + 1) * sz' ≤ rows.length * sz' := Nat.mul_le_mul_right _ hi
      rw [Nat.succ_mul] at hmul
      have hlt : β id < w.heap.size := (Array.getElem?_eq_some_iff.1 g1).1
      refine .fptr (fun j => cs[i * sz' + j]?.getD undef) (fun _ => ⟨hlt, fun h => by cases h⟩) (fun j hj => ?_) (fun j c hj => ?_)
      ·have : i * sz' + j < cs.size := by simp at hj; omega
       simp [World.cell?, g1, this]
      ·simp only [List.getElem?_map, Option.map_eq_some_iff] at hj
       obtain ⟨y, hy, rfl⟩ := hj
       exact ih _ _ (g5 i r hr j y hy)
     ·exact .junk
    ·exact .junk
   ·exact .junk
  | fptr x hb hc hr => simp only [view]; exact .fptr x (fun h => ⟨hs.fzlt _ (hb h).1, (hb h).2⟩) hc (fun j a ha => inner0 hs (hr j a ha) 0)
  | @osl _ id sz s len kc ad cap h hl hk ha =>
   simp only [view]
   split
   ·rename_i sz' rows hob
    split
    ·rename_i hcond
     obtain ⟨rfl, hsl⟩ := hcond
     obtain ⟨cs, e, g1, g2, g3, g4, g5⟩ := hs.cells hob
     have hlt : β id < w.heap.size := (Array.getElem?_eq_some_iff.1 g1).1
     have hbase := (hs.own id ⟨_, obj_some hob⟩).1
     have hlen : (((rows.drop s).take len).map fun r => r.map (view H d)).length = len := by simp; omega
     by_cases hl0 : len = 0
     ·subst hl0
      simp only [List.take_zero, List.map_nil]
      exact .fsl0
     ·rcases ha with ha | ⟨rfl, _⟩
      ·omega
      ·have := R.fsl (β := β0) (ok := okV base w) (w := w) (n := 0) (o := true) (sz := sz') (rows := ((rows.drop s).take len).map fun r => r.map (view H d)) (b := β id) (off := s * sz') (cap := cap)
        (fun i j => cs[(s + i) * sz' + j]?.getD undef) (by omega)
        (fun r hr => by
         simp only [List.mem_map] at hr
         obtain ⟨r', hr', rfl⟩ := hr
         simpa using g2 r' (List.mem_of_mem_drop (List.mem_of_mem_take hr'))) (fun _ => ⟨hlt, fun _ => hbase⟩)
        (fun i j hi hj => by
         rw [hlen] at hi
         have h1 : (s + i) * sz' + j < rows.length * sz' := row_lt (by omega) hj
         have h2 : (s + i) * sz' + j < cs.size := by omega
         have e1 : s * sz' + i * sz' + j = (s + i) * sz' + j := by rw [Nat.add_mul]
         rw [e1]
         refine ⟨by simp [World.cell?, g1, h2], g4 ((s + i) * sz' + j) _ (by simp [h2])⟩)
        (fun i r hi j c hj => by
         have hil : i < len := by have := (List.getElem?_eq_some_iff.1 hi).1; omega
         simp only [List.getElem?_map, Option.map_eq_some_iff] at hi
         obtain ⟨r', hr', rfl⟩ := hi
         simp only [List.getElem?_map, Option.map_eq_some_iff] at hj
         obtain ⟨y, hy, rfl⟩ := hj
         rw [List.getElem?_take_of_lt hil, List.getElem?_drop] at hr'
         exact ih _ _ (g5 (s + i) r' hr' j y hy))
       rwa [hlen] at this
    ·exact .junk
   ·exact .junk
  | xsl h hl ha => simp only [view]; exact .junk
  | fsl x hl hsz hb hc hr => simp only [view]; exact .fsl x hl hsz (fun h => ⟨hs.fzlt _ (hb h).1, (hb h).2⟩) hc (fun i r hi j a ha => inner0 hs (hr i r hi j a ha) 0)
  | fsl0 => simp only [view]; exact .fsl0
  | esl => simp only [view]; exact .esl
  | agg hl hr =>
   simp only [view]
   refine .agg (by simpa using hl) fun j a ha => ?_
   simp only [List.getElem?_map, Option.map_eq_some_iff] at ha
   obtain ⟨y, hy, rfl⟩ := ha
   exact ih _ _ (hr j y hy)
  | tup hl hr =>
   simp only [view]
   refine .tup (by simpa using hl) fun j a ha => ?_
   simp only [List.getElem?_map, Option.map_eq_some_iff] at ha
   obtain ⟨y, hy, rfl⟩ := ha
   exact ih _ _ (hr j y hy)
  | fn hl hr =>
   simp only [view]
   refine .fn (by simpa using hl) fun j a ha => ?_
   simp only [List.getElem?_map, Option.map_eq_some_iff] at ha
   obtain ⟨y, hy, rfl⟩ := ha
   exact ih _ _ (hr j y hy)
  | when h hu => simp only [view]; exact .junk
  | ifc h => simp only [view]; exact .ifc (ih _ _ h)
  | meth => simp only [view]; exact .meth
theorem hot_R {x : AVal} {v : Value} {lo : Nat} (hh : hot x = true) (h : R β0 (okV lo w) w n x v) : R β0 (okNew lo w) w n x v := by
 induction h with
 | junk => exact .junk
 | anyb => exact .anyb
 | anyi => exact .anyi
 | str h => exact .str h
 | v => exact .v
 | ptr h _ => simp [hot] at hh
 | mp h => simp [hot] at hh
 | fptr x hb hc hr ih => simp [hot] at hh
 | osl h hl hk ha => simp [hot] at hh
 | xsl h hl ha => simp [hot] at hh
 | @fsl n o sz rows b off cap x hl hs hb hc hr ih =>
  simp only [hot, Bool.and_eq_true, Bool.or_eq_true] at hh
  obtain ⟨h1, h2⟩ := hh
  rw [hotR_all] at h2
  by_cases hr0 : rows = []
  ·subst hr0; exact .fsl0
  ·have ho : o = true := by
    rcases h1 with h1 | h1
    ·exact h1
    ·exact absurd (by simpa using h1) hr0
   refine .fsl x hl hs (fun h => ⟨(hb h).2 ho, (hb h).1⟩) hc (fun i r hi j a ha => ih i r hi j a ha ?_)
   have h3 := List.all_eq_true.1 h2 r (List.mem_of_getElem? hi)
   exact List.all_eq_true.1 h3 a (List.mem_of_getElem? ha)
 | fsl0 => exact .fsl0
 | esl => exact .esl
 | agg hl hr ih =>
  simp only [hot, hotC_all] at hh
  exact .agg hl fun j a ha => ih j a ha (List.all_eq_true.1 hh a (List.mem_of_getElem? ha))
 | tup hl hr ih =>
  simp only [hot, hotC_all] at hh
  exact .tup hl fun j a ha => ih j a ha (List.all_eq_true.1 hh a (List.mem_of_getElem? ha))
 | fn hl hr ih => simp [hot] at hh
 | when h hu ih => simp [hot] at hh
 | ifc h ih => simp [hot] at hh
 | meth => simp [hot] at hh
theorem callee_does {st : Bool} {g : FuncId} {caps args : Row} {vals : Array Value} (hC : OrcOk P C) (hs : SimE base w0 β fz e' H a w) (hargs : ArgsR β (okOf base fz) w H.length (args ++ caps) vals)
  (hrun2 : (execOp a.eval o).run P w = (callFunc g vals).run P w) (h : aCall P C st (.fn g caps) args H = some (av, H')) : Does P o a w base w0 β fz H av H' := by
 unfold aCall at h
 simp only at h
 split at h
 ·rename_i fn hfn
  have hrun : (fn.name == "runtime.NumGoroutine") = false → fn.body.isNone = false → (execOp a.eval o).run P w = .ok (.enter g vals) w := by
   intro hname hbody
   rw [hrun2]
   have hn : ¬ fn.name = "runtime.NumGoroutine" := by simpa using hname
   have hb : fn.body ≠ none := by
    intro h0; rw [h0] at hbody; simp at hbody
   simp [callFunc, hfn, hn, hb]
  split at h
  ·rename_i hin
   split at h
   ·rename_i hst
    simp only [Bool.and_eq_true, Bool.not_eq_true'] at hst
    have hcall := hC.inline g hin _ _ _ _ h base w0 β fz w _ hs.heap hargs fn hfn
    cases hbody : fn.body.isNone with
    | false =>
     intro K Q hK
     unfold Oper.wp
     rw [hrun hst.2 hbody]
     show Calls P g _ w _
     refine (hcall.1 hbody).mono ?_
     rintro e w' ⟨v, β', fz', rfl, h1, h2, h3⟩
     exact hK v β' fz' w' h1 h2 h3
    | true =>
     obtain ⟨v, w', h0, v', β', fz', he, h1, h2, h3⟩ := hcall.2 hbody
     simp only [Ending.returned.injEq] at he
     subst he
     exact does_val (hrun2.trans h0) h1 h2 h3
   ·cases h
  ·split at h
   ·cases h
   ·rename_i hcond
    simp only [Bool.or_eq_true, not_or, Bool.not_eq_true] at hcond
    obtain ⟨hname, hbody⟩ := hcond
    intro K Q hK
    unfold Oper.wp
    rw [hrun hname hbody]
    show Calls P g _ w _
    split at h
    ·rename_i m hm
     have hcall := (hC.rd g m hm) _ _ _ _ h base w0 β fz w _ hs.heap hargs fn hfn
     refine (hcall.1 hbody).mono ?_
     rintro e w' ⟨v, β', fz', rfl, h1, h2, h3⟩
     exact hK v β' fz' w' h1 h2 h3
    simp only [Option.map_eq_some_iff, Prod.mk.injEq] at h
    obtain ⟨r, hr', rfl, rfl⟩ := h
    have hargs' : ArgsR β0 (ok0 w) w 0 ((args ++ caps).map fun a => cold (view H depthV a)) vals := by
     refine ⟨by simpa using hargs.1, fun j x hj => ?_⟩
     simp only [List.getElem?_map, Option.map_eq_some_iff] at hj
     obtain ⟨y, hy, rfl⟩ := hj
     refine cold_R (view_R hs.heap depthV y _ (hargs.2 j y hy)) (fun _ b hb => ⟨hb.1, fun h => by cases h⟩)
    refine (hC.pure g _ _ hr' w _ hargs').mono ?_
    rintro e w' ⟨v, rfl, hb, hR⟩
    obtain ⟨q1, q2⟩ := hs.heap.called hb
    have hbase : base ≤ w.heap.size := Nat.le_trans hs.heap.base hs.heap.below.size
    exact hK v _ _ w' q1 q2 (hR.mono (Nat.zero_le _) (fun _ h => absurd h (Nat.not_lt_zero _)) (fun _ b hb => ⟨.inr hb, fun _ => Nat.le_trans hbase hb.1⟩) (fun _ _ _ => rfl) (Shapes.refl _))
 ·cases h
theorem does_call {c : Call} {f : Operand} (hop : o.op = .call c) (hf : c.callee = .value f) (hC : OrcOk P C) (hs : SimE base w0 β fz e' H a w)
  (h : aCall P C (isStatic f) (e' f) (c.args.toList.map (e')) H = some (av, H')) : Does P o a w base w0 β fz H av H' := by
 have hfv := hs.ev f
 cases hp : e' f with
 | fn g caps =>
  rw [hp] at hfv h
  generalize hv : a.eval f = vf at hfv
  cases hfv with
  | @fn _ _ _ xs hl hr =>
   have hargs : ArgsR β (okOf base fz) w H.length (c.args.toList.map (e') ++ caps) (c.args.map a.eval ++ xs) := by
    refine ⟨by simp [hl], fun j x hj => ?_⟩
    rw [List.getElem?_append] at hj
    rw [Array.getElem?_append]
    simp only [List.length_map, Array.length_toList] at hj
    simp only [Array.size_map]
    split at hj
    ·rename_i hlt
     rw [if_pos hlt]
     simp only [List.getElem?_map, Option.map_eq_some_iff, Array.getElem?_toList] at hj
     obtain ⟨y, hy, rfl⟩ := hj
     simp only [Array.getElem?_map, hy, Option.map_some, Option.getD_some]
     exact hs.ev y
    ·rename_i hlt
     rw [if_neg hlt]
     exact hr _ _ hj
   refine callee_does hC hs hargs ?_ h
   simp only [execOp, hop, resolve, hf, hv, Deferred.ofValue]
   simp [invoke]
 | _ => rw [hp] at h; simp [aCall] at h
theorem method_run {t : TypeId} {name : String} {g : FuncId} {v : Value} {n : Nat} (h : methodF P t name = some g) (w : World) : (method (n + 1) t v name).run P w = .ok (g, v) w := by
 unfold methodF at h
 split at h
 ·rename_i i d hi hd
  split at h
  ·rename_i m hm
   split at h
   ·rename_i hp
    have hti : ∀ w : World, (typeInfo t).run P w = .ok i w := fun w => by simp [typeInfo, hi]
    have hun : ∀ w : World, (underlying t).run P w = .ok d w := fun w => by simp [underlying, hd]
    cases hfn : m.func with
    | none => rw [hfn] at h; simp at h
    | some q =>
     obtain ⟨f, pr⟩ := q
     rw [hfn] at h
     cases d <;> cases pr <;> simp at h <;> subst h <;> simp [method, hti, hun, hm, hp, hfn, follow, receiverAt, Place.get]
   ·cases h
  ·cases h
 ·cases h
theorem does_invoke {c : Call} {r : Operand} {name : String} (hop : o.op = .call c) (hf : c.callee = .invoke r name) (hC : OrcOk P C) (hs : SimE base w0 β fz e' H a w)
  (h : aInvoke P C name (e' r) (c.args.toList.map (e')) H = some (av, H')) : Does P o a w base w0 β fz H av H' := by
 have hrv := hs.ev r
 unfold aInvoke at h
 split at h
 ·rename_i t x hp
  rw [hp] at hrv
  generalize hv : a.eval r = vr at hrv
  cases hrv with
  | @ifc _ _ _ v hx =>
   split at h
   ·rename_i g hg
    have h : aCall P C true (.fn g []) (x :: c.args.toList.map (e')) H = some (av, H') := by
     split at h
     ·cases h
     ·exact h
    have hargs : ArgsR β (okOf base fz) w H.length ((x :: c.args.toList.map (e')) ++ []) (#[v] ++ c.args.map a.eval) := by
     refine ⟨by simp; omega, fun j y hj => ?_⟩
     rw [List.append_nil] at hj
     cases j with
     | zero =>
      simp only [List.getElem?_cons_zero, Option.some.injEq] at hj
      subst hj
      have : (#[v] ++ c.args.map a.eval)[0]? = some v := by rw [Array.getElem?_append_left (by simp)]; rfl
      rw [this]
      exact hx
     | succ j =>
      simp only [List.getElem?_cons_succ, List.getElem?_map, Option.map_eq_some_iff, Array.getElem?_toList] at hj
      obtain ⟨z, hz, rfl⟩ := hj
      have : (#[v] ++ c.args.map a.eval)[j + 1]? = some (a.eval z) := by
       rw [Array.getElem?_append_right (by simp)]
       simp [hz]
      rw [this]
      exact hs.ev z
    refine callee_does hC hs hargs ?_ h
    have hext : (#[Value.iface t v] ++ c.args.map a.eval).extract 1 (#[Value.iface t v] ++ c.args.map a.eval).size = c.args.map a.eval := by
     apply Array.ext'
     simp
     rw [List.take_of_length_le (by simp)]
    have h0 : (#[Value.iface t v] ++ c.args.map a.eval)[0]? = some (.iface t v) := by rw [Array.getElem?_append_left (by simp)]; rfl
    have hex : (c.args.map a.eval).extract 0 c.args.size = c.args.map a.eval := by
     apply Array.ext'
     simp
     rw [List.take_of_length_le (by simp)]
    have hm := fun n w => method_run (n := n) (v := v) hg w
    simp only [execOp, hop, resolve, hf, hv]
    simp [-List.getElem?_toArray, invoke, callMethod, h0, hext, hex, Made.depth, hm]
   ·cases h
 ·cases h
theorem does_mkI {t : TypeId} {x : Operand} (hop : o.op = .makeInterface t x) (hs : SimE base w0 β fz e' H a w) (h : aMkI P t (e' x) = some av) : Does P o a w base w0 β fz H av H := by
 unfold aMkI at h
 split at h
 ·cases h
 ·rename_i d hd hn
  simp only [Option.some.injEq] at h
  subst h
  refine does_pure hs.heap (x := .iface t (a.eval x)) ?_ (.ifc (hs.ev x))
  have hun : (underlying t).run P w = .ok d w := by simp [underlying, hn]
  simp only [execOp, hop, Instr.makeInterface, Sem.run_bind, hun]
  cases d <;> first | rfl | (exact (hd _ rfl).elim)
 ·cases h
end
end Go.AI
