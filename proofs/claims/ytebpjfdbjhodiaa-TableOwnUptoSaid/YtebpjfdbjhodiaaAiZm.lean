/- append behind a slice that begins inside its object: in place, or a new object. -/
import Derived.Test.YtebpjfdbjhodiaaAiZl
namespace Go.AI
set_option linter.unusedSimpArgs false
set_option linter.unusedVariables false
open Go.RowKit
/-- in place, or a new object -/
def appR (id sz st len : Nat) (rows xr : List Row) (H : Heap) : Bool → AVal × Heap
  | true => (.osl id sz st (len + xr.length) (len + xr.length), H.set id (some (sz, rows ++ xr)))
  | false => (.osl H.length sz 0 (len + xr.length) (len + xr.length), H.set id none ++ [some (sz, rows.drop st ++ xr)])
section
variable {base : Nat} {w0 : World} {β : Nat → Nat} {fz : Nat → Prop} {e' : AEv} {H : Heap} {a : Act} {w : World} {P : Program} {C : Orc} {o : Oper}
theorem does_appendR {t u ty : TypeId} {s x : Operand} {e e2 : TypeId} {sz by_ id st len kc : Nat} {z : Value} {rows xr : List Row}
    (hop : execOp a.eval o = (do pure (.value (← Builtin.append_ #[t, u] ty #[a.eval s, a.eval x])) : Sem Next)) (hs : SimE base w0 β fz e' H a w)
    (hE : sliceElem P t = some e) (hE2 : sliceElem P u = some e2) (hsz : szOf P e = some sz) (hz : zeroOf P e = some z) (hby : bytesOf P e = some by_)
    (hzs : z.cells.size = sz) (hzo : allOne z.cells.toList = true) (h0 : 0 < sz) (hb : by_ ≤ 8192) (hxr : rowsOf H sz (e' x) = some xr) (hx1 : 0 < xr.length)
    (hp : e' s = .osl id sz st len kc) (hob : obj H id = some (sz, rows)) (hsl : st + len = rows.length) (hneed : len + xr.length ≤ 4294967296)
    (K : Act → World → Prop) (Q : Exit → Act → World → Prop)
    (hK : ∀ (b : Bool) (y : Value) (β' : Nat → Nat) (fz' : Nat → Prop) (w' : World), HSim base w0 β' fz' (appR id sz st len rows xr H b).2 w' → Ext H.length β fz w (appR id sz st len rows xr H b).2.length β' fz' w' → R β' (okOf base fz') w' (appR id sz st len rows xr H b).2.length (appR id sz st len rows xr H b).1 y → K (a.put o.dst y) w') : o.wp P a w K Q := by
  have hu := run_slice_und hE
  have hu2 := run_slice_und hE2
  obtain ⟨xb, xc, xcs, hxv, hxl, hxF, hxrun⟩ := rows_R (P := P) hs.heap hxr h0 (hs.ev x)
  obtain ⟨hd, hde⟩ := hs.heap.drew
  have hxR' := (hs.ev x).ext hde
  obtain ⟨xb', xc', xcs', hxv', hxl', hxF', hxrun'⟩ := rows_R (P := P) hd hxr h0 hxR'
  rw [hxv] at hxv'
  simp only [Value.slice.injEq, true_and] at hxv'
  obtain ⟨rfl, rfl⟩ := hxv'
  have hx0 := hxrun xr.length (Nat.le_refl _)
  have hx1' := hxrun' xr.length (Nat.le_refl _)
  rw [hxv, List.take_of_length_le (by rw [hxF.2.1]; exact Nat.le_refl _)] at hx0
  rw [hxv, List.take_of_length_le (by rw [hxF'.2.1]; exact Nat.le_refl _)] at hx1'
  have hsv := hs.ev s
  have hob' := obj_some hob
  have h00 : sz ≠ 0 := by omega
  obtain ⟨cur, e3, g1, g2, g3, g4, g5⟩ := hs.heap.cells hob
  rw [hp] at hsv
  generalize hvs : a.eval s = vs at hsv
  cases hsv with
  | @osl _ _ _ _ _ _ ad cap hid hl hkc ha =>
    by_cases hfit : len + xr.length ≤ cap
    · -- in place
      rcases ha with ha | ⟨ha, cs, e4, f3, h1, h2⟩
      · omega
      · have hg1 := h1
        rw [g1] at h1
        simp only [Option.some.injEq, Obj.cells.injEq] at h1
        obtain ⟨rfl, rfl, rfl⟩ := h1
        have hfit2 : (st + len + xr.length) * sz ≤ cur.size := Nat.le_trans (Nat.mul_le_mul_right _ (by omega)) h2
        obtain ⟨q1, q2⟩ := hs.heap.splice (p := st + len) hob' g1 (by omega) hxF hfit2
        have hrun := run_append_in (ty := ty) (bs := some ad) (sLen := len) (sCap := cap) (w := w) (w' := w.setRow (β id) (cur.toList.take ((st + len) * sz) ++ xcs ++ cur.toList.drop ((st + len) * sz + xcs.length)).toArray) hu hu2 hsz hx0 hfit rfl (fun ad' had => by
          simp only [Option.some.injEq] at had
          subst had
          have hl2 : (st * sz + len * sz) + 0 + xcs.length ≤ cur.size := by
            rw [hxF.2.1, ← Nat.add_mul, Nat.add_zero, ← Nat.add_mul]; exact hfit2
          have := run_storeCells_at P (β id) (st * sz + len * sz) e3 xcs 0 cur w g1 hl2 hxF.2.2.1
          rw [ha, add_none]
          simpa [Nat.add_mul] using this) (fun h => by cases h)
        have hrows : rows.take (st + len) ++ xr ++ rows.drop (st + len + xr.length) = rows ++ xr := by
          rw [hsl, List.take_length, List.drop_eq_nil_of_le (by omega), List.append_nil]
        rw [hrows] at q1 q2
        have hR : R β (okOf base fz) w H.length (.osl id sz st (len + xr.length) (len + xr.length)) (.slice (some ad) (len + xr.length) cap) := .osl hid (Nat.le_refl _) hfit (.inr ⟨ha, cur, e3, _, hg1, h2⟩)
        unfold Oper.wp
        rw [hop, hvs, hxv, Sem.run_bind, hrun]
        exact hK true _ β fz _ q1 q2 (hR.ext q2)
    · -- a new object
      have hrs : rowsOf H sz (.osl id sz st len kc) = some (rows.drop st) := by
        have e1 : (rows.drop st).take len = rows.drop st := List.take_of_length_le (by simp; omega)
        simp [rowsOf, hob, hsl, e1]
      have hdl : (rows.drop st).length = len := by simp; omega
      obtain ⟨sb, sc, scs, hsv2, hsl2, hsF, hsrun⟩ := rows_R (P := P) hd hrs h0 ((R.osl (β := β) (ok := okOf base fz) (w := w) hid hl hkc ha).ext hde)
      simp only [Value.slice.injEq] at hsv2
      obtain ⟨rfl, hlen, rfl⟩ := hsv2
      have hs0 := hsrun (rows.drop st).length (Nat.le_refl _)
      rw [List.take_of_length_le (by rw [hsF.2.1]; exact Nat.le_refl _), ← hlen] at hs0
      obtain ⟨newCap, hnc, hrun⟩ := run_append_grow (w := w) (ty := ty) hu hu2 hsz hz hby hb hneed hs0 hx1' hfit
      obtain ⟨k1, k2⟩ := hd.kill id
      have hFF := (hsF.app hxF').ext k2
      obtain ⟨q1, q2⟩ := k1.alloc_flat (e := e) hFF (more := (Builtin.zeroCells z.cells (newCap - (len + xr.length))).toList) (flat_zero (β := β) (ok := okOf base fz) (w := w) (n := 0) hzs h0 hzo).2.2.1
      have hcs : (scs.toArray ++ xcs'.toArray ++ Builtin.zeroCells z.cells (newCap - (len + xr.length))) = ((scs ++ xcs') ++ (Builtin.zeroCells z.cells (newCap - (len + xr.length))).toList).toArray := by simp
      have hsl3 := newSl β (H.set id none) w.heap.size sz (len + xr.length) newCap (okOf base fz) _ (rows.drop st ++ xr) (heap_alloc_new w.drew (.cells ((scs ++ xcs') ++ (Builtin.zeroCells z.cells (newCap - (len + xr.length))).toList).toArray e)) ?hle (kc := len + xr.length) (Nat.le_refl _) hnc
      case hle =>
        have h1 := hFF.2.1
        have h2 := (flat_zero (β := β) (ok := okOf base fz) (w := w) (n := 0) (k := newCap - (len + xr.length)) hzs h0 hzo).2.1
        simp only [List.length_replicate] at h2
        simp only [List.length_append, hdl] at h1
        have h3 : newCap * sz = (len + xr.length) * sz + (newCap - (len + xr.length)) * sz := by rw [← Nat.add_mul]; congr 1; omega
        simp only [List.size_toArray, List.length_append]
        omega
      have hq : (newObj' (H.set id none) sz (rows.drop st ++ xr)) = H.set id none ++ [some (sz, rows.drop st ++ xr)] := by simp [newObj', h00]
      rw [hq] at q1 q2 hsl3
      have hlen2 : (H.set id none).length = H.length := by simp
      rw [hlen2] at q1 q2 hsl3 k2
      unfold Oper.wp
      rw [hop, hvs, hxv, Sem.run_bind, hrun, hcs]
      exact hK false _ _ fz _ q1 (hde.trans (k2.trans q2)) hsl3
end
section
variable {P : Program} {C : Orc} {nt n0 : Nat} {ρ : Env} {H : Heap} {ops : Array Oper}
/-- a region in order, with an append that is in place or makes a new object -/
theorem AWp.appR (hC : OrcOk P C) {id0 : Nat} {l1 l2 : List Oper} {o : Oper} {c : Call} {s x : Operand} {t u e e2 : TypeId} {sz by_ id st len kc : Nat} {z : Value} {rows xr : List Row} {d : Tmp} {s1 : Env × Heap} {Q : Post}
    (hops : ops.toList = l1 ++ o :: l2) (hop : o.op = .call c) (hcal : c.callee = .builtin .append) (hargs : c.args = #[s, x]) (hty : c.argTypes = #[t, u]) (hgd : o.guard = none) (hdst : o.dst = some d) (hd : d < nt)
    (hE : sliceElem P t = some e) (hE2 : sliceElem P u = some e2) (hsz : szOf P e = some sz) (hz : zeroOf P e = some z) (hby : bytesOf P e = some by_)
    (hzs : z.cells.size = sz) (hzo : allOne z.cells.toList = true) (h0 : 0 < sz) (hb : by_ ≤ 8192)
    (h1 : runL P C nt ops l1 (ρ, H) = some s1) (hxr : rowsOf s1.2 sz (res true (ev s1.1 x)) = some xr) (hx1 : 0 < xr.length)
    (hp : res true (ev s1.1 s) = .osl id sz st len kc) (hob : obj s1.2 id = some (sz, rows)) (hsl : st + len = rows.length) (hneed : len + xr.length ≤ 4294967296)
    (h2 : ∀ b, match runL P C nt ops l2 (put s1.1 (some d) (AI.appR id sz st len rows xr s1.2 b).1, (AI.appR id sz st len rows xr s1.2 b).2) with | some s2 => Q .normal s2.1 s2.2 | none => False) : AWp P nt n0 (.region id0 ops false) Q ρ H := by
  intro fr base w0 β fz a w e1 e2 hs
  subst e1
  apply wp_region
  have hsize : ops.size = l1.length + (1 + l2.length) := by rw [← Array.length_toList, hops]; simp; omega
  have hrng : List.range ops.size = List.range' 0 l1.length ++ (l1.length :: List.range' (l1.length + 1) l2.length) := by
    rw [hsize, List.range_eq_range', ← List.range'_append_1, Nat.zero_add, Nat.add_comm 1, List.range'_succ]
  rw [hrng]
  have hgetop : ∀ j, ops[j]? = (l1 ++ o :: l2)[j]? := fun j => by rw [← Array.getElem?_toList, hops]
  refine seqK_wp hC _ _ (ρn := s1.1) (Hn := s1.2) (fun β1 fz1 a1 w1 hs1 => ?_) l1 0 ρ H β fz a w (fun j hj => by rw [Nat.zero_add, hgetop, List.getElem?_append_left hj]) h1 hs
  rw [wpOps_cons]
  unfold wpOp
  have ho : ops[l1.length]? = some o := by rw [hgetop, List.getElem?_append_right (Nat.le_refl _), Nat.sub_self]; rfl
  simp only [ho]
  have hw : Region.wanted o (yielded ops a1.tmps) = true := by simp [Region.wanted, hgd]
  rw [hw]
  simp only [if_true]
  left
  have hex : execOp a1.eval o = (do pure (.value (← Builtin.append_ #[t, u] o.type #[a1.eval s, a1.eval x])) : Sem Next) := by
    simp [execOp, hop, resolve, hcal, hargs, hty, invoke, builtin]
  refine does_appendR (t := t) (u := u) (ty := o.type) (s := s) (x := x) hex (hs1.res rfl) hE hE2 hsz hz hby hzs hzo h0 hb hxr hx1 hp hob hsl hneed _ _ (fun b y β' fz' w' k1 k2 k3 => ?_)
  have hs2 := hs1.put k1 k2 (d := o.dst) (fun t ht => by rw [hdst] at ht; cases ht; exact hd) k3
  rw [hdst] at hs2
  have h3 := h2 b
  split at h3
  · rename_i s2 hrun
    rw [hdst]
    exact seq_wp hC _ (fun β2 fz2 a2 w2 hs3 => ⟨s2.1, s2.2, β2, fz2, h3, hs3⟩) l2 (l1.length + 1) _ _ β' fz' _ w' (fun j => by rw [hgetop, List.getElem?_append_right (by omega), show l1.length + 1 + j - l1.length = j + 1 by omega]; rfl) hrun hs2
  · exact h3.elim
end
end Go.AI
