/- append behind a slice that begins inside its object: in place, or a new object. -/
import Derived.Test.YtdakclpneghkmaaGreatDoorL15
namespace Go.AI
set_option linter.unusedSimpArgs false
set_option linter.unusedVariables false
open Go.RowKit
/-- in place, or a new object -/
def appR (id sz st len : Nat) (rows xr : List Row) (H : Heap) : Bool → AVal × Heap
  | true => (.osl id sz st (len + xr.length) (len + xr.length), H.set id (some (sz, rows ++ xr)))
  | false => (.osl H.length sz 0 (len + xr.length) (len + xr.length), H.set id none ++ [some (sz, rows.drop st ++ xr)])
section
variable {base : Nat} {w0 : World} {β : Nat → Nat} {fz : Nat → Prop} {e' : AEv} {H : Heap} {a : Act} {w : World} {P : Program} {C : Orc} {o : Oper}
theorem does_appendR {t u ty : TypeId} {s x : Operand} {e e2 : TypeId} {sz by_ id st len kc : Nat} {z : Value} {rows xr : List Row}
    (hop : execOp a.eval o = (do pure (.value (← Builtin.append_ #[t, u] ty #[a.eval s, a.eval x])) : Sem Next)) (hs : SimE base w0 β fz e' H a w)
    (hE : sliceElem P t = some e) (hE2 : sliceElem P u = some e2) (hsz : szOf P e = some sz) (hz : zeroOf P e = some z) (hby : bytesOf P e = some by_)
    (hzs : z.cells.size = sz) (hzo : allOne z.cells.toList = true) (h0 : 0 < sz) (hb : by_ ≤ 8192) (hxr : rowsOf H sz (e' x) = some xr) (hx1 : 0 < xr.length)
    (hp : e' s = .osl id sz st len kc) (hob : obj H id = some (sz, rows)) (hsl : st + len = rows.length) (hneed : len + xr.length ≤ 4294967296)
    (K : Act → World → Prop) (Q : Exit → Act → World → Prop)
    (hK : ∀ (b : Bool) (y : Value) (β' : Nat → Nat) (fz' : Nat → Prop) (w' : World), HSim base w0 β' fz' (appR id sz st len rows xr H b).2 w' → Ext H.length β fz w (appR id sz st len rows xr H b).2.length β' fz' w' → R β' (okOf base fz') w' (appR id sz st len rows xr H b).2.length (appR id sz st len rows xr H b).1 y → K (a.put o.dst y) w') : o.wp P a w K Q := by
  have hu := run_slice_und hE
  have hu2 := run_slice_und hE2
  obtain ⟨xb, xc, xcs, hxv, hxl, hxF, hxrun⟩ := rows_R (P := P) hs.heap hxr h0 (hs.ev x)
  obtain ⟨hd, hde⟩ := hs.heap.drew
  have hxR' := (hs.ev x).ext hde
  obtain ⟨xb', xc', xcs', hxv', hxl', hxF', hxrun'⟩ := rows_R (P := P) hd hxr h0 hxR'
  rw [hxv] at hxv'
  simp only [Value.slice.injEq, true_and] at hxv'
  obtain ⟨rfl, rfl⟩ := hxv'
  have hx0 := hxrun xr.length (Nat.le_refl _)
  have hx1' := hxrun' xr.length (Nat.le_refl _)
  rw [hxv, List.take_of_length_le (by rw [hxF.2.1]; exact Nat.le_refl _)] at hx0
  rw [hxv, List.take_of_length_le (by rw [hxF'.2.1]; exact Nat.le_refl _)] at hx1'
  have hsv := hs.ev s
  have hob' := obj_some hob
  have h00 : sz ≠ 0 := by omega
  obtain ⟨cur, e3, g1, g2, g3, g4, g5⟩ := hs.heap.cells hob
  rw [hp] at hsv
  generalize hvs : a.eval s = vs at hsv
  cases hsv with
  | @osl _ _ _ _ _ _ ad cap hid hl hkc ha =>
    by_cases hfit : len + xr.length ≤ cap
    · -- in place
      rcases ha with ha | ⟨ha, cs, e4, f3, h1, h2⟩
      · omega
      · have hg1 := h1
        rw [g1] at h1
        simp only [Option.some.injEq, Obj.cells.injEq] at h1
        obtain ⟨rfl, rfl, rfl⟩ := h1
        have hfit2 : (st + len + xr.length) * sz ≤ cur.size := Nat.le_trans (Nat.mul_le_mul_right _ (by omega)) h2
        obtain ⟨q1, q2⟩ := hs.heap.splice (p := st + len) hob' g1 (by omega) hxF hfit2
        have hrun := run_append_in (ty := ty) (bs := some ad) (sLen := len) (sCap := cap) (w := w) (w' := w.setRow (β id) (cur.toList.take ((st + len) * sz) ++ xcs ++ cur.toList.drop ((st + len) * sz + xcs.length)).toArray) hu hu2 hsz hx0 hfit rfl (fun ad' had => by
          simp only [Option.some.injEq] at had
          subst had
          have hl2 : (st * sz + len * sz) + 0 + xcs.length ≤ cur.size := by
            rw [hxF.2.1, ← Nat.add_mul, Nat.add_zero, ← Nat.add_mul]; exact hfit2
          have := run_storeCells_at P (β id) (st * sz + len * sz) e3 xcs 0 cur w g1 hl2 hxF.2.2.1
          rw [ha, add_none]
          simpa [Nat.add_mul] using this) (fun h => by cases h)
        have hrows : rows.take (st + len) ++ xr ++ rows.drop (st + len + xr.length) = rows ++ xr := by
          rw [hsl, List.take_length, List.drop_eq_nil_of_le (by omega), List.append_nil]
        rw [hrows] at q1 q2
        have hR : R β (okOf base fz) w H.length (.osl id sz st (len + xr.length) (len + xr.length)) (.slice (some ad) (len + xr.length) cap) := .osl hid (Nat.le_refl _) hfit (.inr ⟨ha, cur, e3, _, hg1, h2⟩)
        unfold Oper.wp
        rw [hop, hvs, hxv, Sem.run_bind, hrun]
        exact hK true _ β fz _ q1 q2 (hR.ext q2)
    · -- a new object
      have hrs : rowsOf H sz (.osl id sz st len kc) = some (rows.drop st) := by
        have e1 : (rows.drop st).take len = rows.drop st := List.take_of_length_le (by simp; omega)
        simp [rowsOf, hob, hsl, e1]
      have hdl : (rows.drop st).length = len := by simp; omega
      obtain ⟨sb, sc, scs, hsv2, hsl2, hsF, hsrun⟩ := rows_R (P := P) hd hrs h0 ((R.osl (β := β) (ok := okOf base fz) (w := w) hid hl hkc ha).ext hde)
      simp only [Value.slice.injEq] at hsv2
      obtain ⟨rfl, hlen, rfl⟩ := hsv2
      have hs0 := hsrun (rows.drop st).length (Nat.le_refl _)
      rw [List.take_of_length_le (by rw [hsF.2.1]; exact Nat.le_refl _), ← hlen] at hs0
      obtain ⟨newCap, hnc, hrun⟩ := run_append_grow (w := w) (ty := ty) hu hu2 hsz hz hby hb hneed hs0 hx1' hfit
      obtain ⟨k1, k2⟩ := hd.kill id
      have hFF := (hsF.app hxF').ext k2
      obtain ⟨q1, q2⟩ := k1.alloc_flat (e := e) hFF (more := (Builtin.zeroCells z.cells (newCap - (len + xr.length))).toList) (flat_zero (β := β) (ok := okOf base fz) (w := w) (n := 0) hzs h0 hzo).2.2.1
      have hcs : (scs.toArray ++ xcs'.toArray ++ Builtin.zeroCells z.cells (newCap - (len + xr.length))) = ((scs ++ xcs') ++ (Builtin.zeroCells z.cells (newCap - (len + xr.length))).toList).toArray := by simp
      have hsl3 := newSl β (H.set id none) w.heap.size sz (len + xr.length) newCap (okOf base fz) _ (rows.drop st ++ xr) (heap_alloc_new w.drew (.cells ((scs ++ xcs') ++ (Builtin.zeroCells z.cells (newCap - (len + xr.length))).toList).toArray e)) ?hle (kc := len + xr.length) (Nat.le_refl _) hnc
      case hle =>
        have h1 := hFF.2.1
        have h2 := (flat_zero (β := β) (ok := okOf base fz) (w := w) (n := 0) (k := newCap - (len + xr.length)) hzs h0 hzo).2.1
        simp only [List.length_replicate] at h2
        simp only [List.length_append, hdl] at h1
        have h3 : newCap * sz = (len + xr.length) * sz + (newCap - (len + xr.length)) * sz := by rw [← Nat.add_mul]; congr 1; omega
        simp only [List.size_toArray, List.length_append]
        omega
      have hq : (newObj' (H.set id none) sz (rows.drop st ++ xr)) = H.set id none ++ [some (sz, rows.drop st ++ xr)] := by simp [newObj', h00]
      rw [hq] at q1 q2 hsl3
      have hlen2 : (H.set id none).length = H.length := by simp
      rw [hlen2] at q1 q2 hsl3 k2
      unfold Oper.wp
      rw [hop, hvs, hxv, Sem.run_bind, hrun, hcs]
      exact hK false _ _ fz _ q1 (hde.trans (k2.trans q2)) hsl3
end
section
variable {P : Program} {C : Orc} {nt n0 : Nat} {ρ : Env} {H : Heap} {ops : Array Oper}
/-- a region in order, with an append that is in place or makes a new object -/
theorem AWp.appR (hC : OrcOk P C) {id0 : Nat} {l1 l2 : List Oper} {o : Oper} {c : Call} {s x : Operand} {t u e e2 : TypeId} {sz by_ id st len kc : Nat} {z : Value} {rows xr : List Row} {d : Tmp} {s1 : Env × Heap} {Q : Post}
    (hops : ops.toList = l1 ++ o :: l2) (hop : o.op = .call c) (hcal : c.callee = .builtin .append) (hargs : c.args = #[s, x]) (hty : c.argTypes = #[t, u]) (hgd : o.guard = none) (hdst : o.dst = some d) (hd : d < nt)
    (hE : sliceElem P t = some e) (hE2 : sliceElem P u = some e2) (hsz : szOf P e = some sz) (hz : zeroOf P e = some z) (hby : bytesOf P e = some by_)
    (hzs : z.cells.size = sz) (hzo : allOne z.cells.toList = true) (h0 : 0 < sz) (hb : by_ ≤ 8192)
    (h1 : runL P C nt ops l1 (ρ, H) = some s1) (hxr : rowsOf s1.2 sz (res true (ev s1.1 x)) = some xr) (hx1 : 0 < xr.length)
    (hp : res true (ev s1.1 s) = .osl id sz st len kc) (hob : obj s1.2 id = some (sz, rows)) (hsl : st + len = rows.length) (hneed : len + xr.length ≤ 4294967296)
    (h2 : ∀ b, match runL P C nt ops l2 (put s1.1 (some d) (AI.appR id sz st len rows xr s1.2 b).1, (AI.appR id sz st len rows xr s1.2 b).2) with | some s2 => Q .normal s2.1 s2.2 | none => False) : AWp P nt n0 (.region id0 ops false) Q ρ H := by
  intro fr base w0 β fz a w e1 e2 hs
  subst e1
  apply wp_region
  have hsize : ops.size = l1.length + (1 + l2.length) := by rw [← Array.length_toList, hops]; simp; omega
  have hrng : List.range ops.size = List.range' 0 l1.length ++ (l1.length :: List.range' (l1.length + 1) l2.length) := by
    rw [hsize, List.range_eq_range', ← List.range'_append_1, Nat.zero_add, Nat.add_comm 1, List.range'_succ]
  rw [hrng]
  have hgetop : ∀ j, ops[j]? = (l1 ++ o :: l2)[j]? := fun j => by rw [← Array.getElem?_toList, hops]
  refine seqK_wp hC _ _ (ρn := s1.1) (Hn := s1.2) (fun β1 fz1 a1 w1 hs1 => ?_) l1 0 ρ H β fz a w (fun j hj => by rw [Nat.zero_add, hgetop, List.getElem?_append_left hj]) h1 hs
  rw [wpOps_cons]
  unfold wpOp
  have ho : ops[l1.length]? = some o := by rw [hgetop, List.getElem?_append_right (Nat.le_refl _), Nat.sub_self]; rfl
  simp only [ho]
  have hw : Region.wanted o (yielded ops a1.tmps) = true := by simp [Region.wanted, hgd]
  rw [hw]
  simp only [if_true]
  left
  have hex : execOp a1.eval o = (do pure (.value (← Builtin.append_ #[t, u] o.type #[a1.eval s, a1.eval x])) : Sem Next) := by
    simp [execOp, hop, resolve, hcal, hargs, hty, invoke, builtin]
  refine does_appendR (t := t) (u := u) (ty := o.type) (s := s) (x := x) hex (hs1.res rfl) hE hE2 hsz hz hby hzs hzo h0 hb hxr hx1 hp hob hsl hneed _ _ (fun b y β' fz' w' k1 k2 k3 => ?_)
  have hs2 := hs1.put k1 k2 (d := o.dst) (fun t ht => by rw [hdst] at ht; cases ht; exact hd) k3
  rw [hdst] at hs2
  have h3 := h2 b
  split at h3
  · rename_i s2 hrun
    rw [hdst]
    exact seq_wp hC _ (fun β2 fz2 a2 w2 hs3 => ⟨s2.1, s2.2, β2, fz2, h3, hs3⟩) l2 (l1.length + 1) _ _ β' fz' _ w' (fun j => by rw [hgetop, List.getElem?_append_right (by omega), show l1.length + 1 + j - l1.length = j + 1 by omega]; rfl) hrun hs2
  · exact h3.elim
end
end Go.AI
/- Code walked statement by statement, up to a place. -/
namespace Go.AI
set_option linter.unusedSimpArgs false
set_option linter.unusedVariables false
inductive Pk where
  | z
  | s (p : Pk)
def splitC : Pk → Code → List Code × Code
  | .s p, .seq x y => (x :: (splitC p y).1, (splitC p y).2)
  | _, c => ([], c)
def seqs : List Code → Code → Code
  | [], c => c
  | x :: l, c => .seq x (seqs l c)
theorem seqs_split (p : Pk) (c : Code) : seqs (splitC p c).1 (splitC p c).2 = c := by
  induction p generalizing c with
  | z => cases c <;> rfl
  | s p ih => cases c <;> simp [splitC, seqs, ih]
/-- statements one after the other, then K -/
def wpL (P : Program) (C : Orc) (nt n0 : Nat) (K : Env → Heap → Prop) (Q : Post) : List Code → Env → Heap → Prop
  | [], ρ, H => K ρ H
  | x :: l, ρ, H => wpX P C nt (LoopK P C nt n0 4) x (thenA (wpL P C nt n0 K Q l) Q) ρ H
section
variable {P : Program} {C : Orc} {nt n0 : Nat} {ρ : Env} {H : Heap}
theorem codeRF_seqs : ∀ {l : List Code} {c : Code}, codeRF C (seqs l c) = true → (∀ x ∈ l, codeRF C x = true) ∧ codeRF C c = true
  | [], c, h => ⟨fun x hx => by simp at hx, h⟩
  | x :: l, c, h => by
    simp only [seqs, codeRF, Bool.and_eq_true] at h
    obtain ⟨h1, h2⟩ := codeRF_seqs h.2
    refine ⟨fun y hy => ?_, h2⟩
    rcases List.mem_cons.1 hy with rfl | hy
    · exact h.1
    · exact h1 y hy
theorem wpL_sound (hC : OrcOk P C) (hm : P.follows .mixedOrders = true) {c : Code} {Q : Post} : ∀ (l : List Code) (ρ : Env) (H : Heap), (∀ x ∈ l, codeRF C x = true) → wpL P C nt n0 (AWp P nt n0 c Q) Q l ρ H → AWp P nt n0 (seqs l c) Q ρ H
  | [], ρ, H, _, h => h
  | x :: l, ρ, H, hrf, h => by
    refine AWp.seq (AWp.mono (wpA_sound hC hm x _ _ _ (hrf x (List.mem_cons_self ..)) h) fun e ρ' H' q => ?_)
    cases e with
    | normal => exact wpL_sound hC hm l ρ' H' (fun y hy => hrf y (List.mem_cons_of_mem _ hy)) q
    | _ => exact q
theorem AWp.split (hC : OrcOk P C) (hm : P.follows .mixedOrders = true) {c : Code} {Q : Post} (p : Pk) (hrf : codeRF C c = true) (h : wpL P C nt n0 (AWp P nt n0 (splitC p c).2 Q) Q (splitC p c).1 ρ H) : AWp P nt n0 c Q ρ H := by
  have := seqs_split p c
  rw [← this] at hrf
  have h2 := wpL_sound hC hm _ _ _ (codeRF_seqs hrf).1 h
  rwa [this] at h2
end
end Go.AI
/- Code that is run: an interpreter that computes. -/
namespace Go.AI
set_option linter.unusedSimpArgs false
set_option linter.unusedVariables false
open Go.RowKit
abbrev Res := Exit × Env × Heap
def iterX (W : Env → Heap → Option Res) : Nat → Env → Heap → Option Res
  | 0, _, _ => none
  | n + 1, ρ, H => match W ρ H with
    | some (.normal, ρ', H') => iterX W n ρ' H'
    | r => r
def execR (P : Program) (C : Orc) (nt id : Nat) (ops : Array Oper) (ρ : Env) (H : Heap) : Option (Env × Heap) :=
  match C.dyn id with
  | [] => runL P C nt ops ops.toList (ρ, H)
  | p :: ps => if (C.alt id).isEmpty = true ∧ p.1 < 1000000 then
      match runF P C nt ops ((p :: ps).map Prod.fst ++ (p :: ps).map Prod.snd) H.length 0 ops.toList (ρ, H) with
      | some (s, fs) => if ((p :: ps).all fun q => apart H.length ((fs[q.1]?).getD .other) ((fs[q.2]?).getD .other)) = true then some s else none
      | none => none
    else none
def execC (P : Program) (C : Orc) (nt k : Nat) : Code → Env → Heap → Option Res
  | .skip, ρ, H => some (.normal, ρ, H)
  | .region id ops _, ρ, H => match execR P C nt id ops ρ H with
    | some s => some (.normal, s.1, s.2)
    | none => none
  | .seq x y, ρ, H => match execC P C nt k x ρ H with
    | some (.normal, ρ', H') => execC P C nt k y ρ' H'
    | r => r
  | .cond c x y, ρ, H => match res true (ev ρ c) with
    | .v (.bool true) => execC P C nt k x ρ H
    | .v (.bool false) => execC P C nt k y ρ H
    | _ => none
  | .block id c, ρ, H => match execC P C nt k c ρ H with
    | some (.exit id', ρ', H') => if id' = id then some (.normal, ρ', H') else some (.exit id', ρ', H')
    | r => r
  | .loop c, ρ, H => iterX (execC P C nt k c) k ρ H
  | .exit id, ρ, H => some (.exit id, ρ, H)
  | .ret, ρ, H => some (.ret, ρ, H)
  | .label _, ρ, H => some (.normal, ρ, H)
  | _, _, _ => none
def IsX (r : Res) : Post := fun e ρ H => r = (e, ρ, H)
section
variable {P : Program} {C : Orc} {nt n0 : Nat}
theorem iterX_sound {W : Env → Heap → Option Res} {c : Code} (hW : ∀ ρ H r, W ρ H = some r → AWp P nt n0 c (IsX r) ρ H) {n : Nat} {ρ : Env} {H : Heap} {r : Res} (h : iterX W n ρ H = some r) : AWp P nt n0 (.loop c) (IsX r) ρ H := by
  refine LoopA_sound (W := fun Q ρ H => AWp P nt n0 c Q ρ H) (fun Q ρ H h => h) (.inl ⟨n, ?_⟩)
  induction n generalizing ρ H with
  | zero => simp [iterX] at h
  | succ n ih =>
    simp only [UnrA]
    simp only [iterX] at h
    split at h
    · rename_i ρ' H' h1
      refine (hW _ _ _ h1).mono ?_
      rintro e ρ2 H2 q
      simp only [IsX, Prod.mk.injEq] at q
      obtain ⟨rfl, rfl, rfl⟩ := q
      exact ih h
    · rename_i hn
      refine (hW _ _ _ h).mono ?_
      rintro e ρ2 H2 q
      cases e with
      | normal =>
        simp only [IsX] at q
        subst q
        exact (hn _ _ h).elim
      | _ => exact q
theorem execR_sound (hC : OrcOk P C) (hm : P.follows .mixedOrders = true) {id : Nat} {ops : Array Oper} {draw : Bool} {ρ : Env} {H : Heap} {s : Env × Heap} (hrf : codeRF C (.region id ops draw) = true) (h : execR P C nt id ops ρ H = some s) :
    AWp P nt n0 (.region id ops draw) (IsX (.normal, s.1, s.2)) ρ H := by
  refine wpX_sound hC hm (L := fun _ _ _ _ => False) (fun _ _ _ _ _ h => h.elim) _ _ _ _ hrf ?_
  simp only [wpX]
  unfold execR at h
  split at h
  · rename_i hd
    simp only [hd, List.isEmpty_nil, if_true, RunA, h]
    rfl
  · rename_i p ps hd
    simp only [hd, List.isEmpty_cons, Bool.false_eq_true, if_false]
    split at h
    · rename_i hp
      unfold RunR
      have hne : ¬ C.dyn id = [(1000000, 1000000)] := by
        rw [hd]
        intro e
        simp only [List.cons.injEq] at e
        rw [e.1] at hp
        exact absurd hp.2 (by decide)
      rw [if_neg hne, if_pos hp.1]
      unfold RunD
      rw [hd]
      split at h
      · rename_i s1 fs hrun
        rw [hrun]
        split at h
        · rename_i hall
          simp only [Option.some.injEq] at h
          subst h
          exact ⟨fun q hq => List.all_eq_true.1 hall q hq, rfl⟩
        · cases h
      · cases h
    · cases h
theorem execC_sound (hC : OrcOk P C) (hm : P.follows .mixedOrders = true) {k : Nat} : ∀ (c : Code) (ρ : Env) (H : Heap) (r : Res), codeRF C c = true → execC P C nt k c ρ H = some r → AWp P nt n0 c (IsX r) ρ H := by
  intro c
  induction c with
  | skip => intro ρ H r _ h f base w0 β fz a w h1 h2 hs; simp only [execC, Option.some.injEq] at h; exact wp_skip ⟨ρ, H, β, fz, h.symm, hs⟩
  | label l => intro ρ H r _ h f base w0 β fz a w h1 h2 hs; simp only [execC, Option.some.injEq] at h; exact wp_label ⟨ρ, H, β, fz, h.symm, hs⟩
  | exit id => intro ρ H r _ h f base w0 β fz a w h1 h2 hs; simp only [execC, Option.some.injEq] at h; exact wp_exit ⟨ρ, H, β, fz, h.symm, hs⟩
  | ret => intro ρ H r _ h f base w0 β fz a w h1 h2 hs; simp only [execC, Option.some.injEq] at h; exact wp_ret ⟨ρ, H, β, fz, h.symm, hs⟩
  | region id ops draw =>
    intro ρ H r hrf h
    simp only [execC] at h
    split at h
    · rename_i s hs
      simp only [Option.some.injEq] at h
      subst h
      exact execR_sound hC hm hrf hs
    · cases h
  | seq x y ihx ihy =>
    intro ρ H r hrf h
    simp only [codeRF, Bool.and_eq_true] at hrf
    simp only [execC] at h
    refine AWp.seq ?_
    split at h
    · rename_i ρ' H' h1
      refine (ihx _ _ _ hrf.1 h1).mono ?_
      rintro e ρ2 H2 q
      simp only [IsX, Prod.mk.injEq] at q
      obtain ⟨rfl, rfl, rfl⟩ := q
      exact ihy _ _ _ hrf.2 h
    · rename_i hn
      refine (ihx _ _ _ hrf.1 h).mono ?_
      rintro e ρ2 H2 q
      cases e with
      | normal =>
        simp only [IsX] at q
        subst q
        exact (hn _ _ h).elim
      | _ => exact q
  | cond c x y ihx ihy =>
    intro ρ H r hrf h f base w0 β fz a w h1 h2 hs
    simp only [codeRF, Bool.and_eq_true] at hrf
    simp only [execC] at h
    have hc := res_R (g := true) rfl (hs.ev c)
    split at h
    · rename_i ht
      rw [ht] at hc
      exact wp_cond hc.v_inv (ihx _ _ _ hrf.1 h f base w0 β fz a w h1 h2 hs)
    · rename_i ht
      rw [ht] at hc
      exact wp_cond hc.v_inv (ihy _ _ _ hrf.2 h f base w0 β fz a w h1 h2 hs)
    · cases h
  | block id x ih =>
    intro ρ H r hrf h f base w0 β fz a w h1 h2 hs
    simp only [codeRF] at hrf
    simp only [execC] at h
    split at h
    · rename_i id' ρ' H' hx
      refine wp_block (wp_mono (ih _ _ _ hrf hx f base w0 β fz a w h1 h2 hs) ?_)
      rintro e a' w' ⟨ρ2, H2, β', fz', q, s⟩
      simp only [IsX, Prod.mk.injEq] at q
      obtain ⟨rfl, rfl, rfl⟩ := q
      simp only [Exit.inBlock]
      split at h <;> (rename_i hid; simp only [Option.some.injEq] at h; subst h)
      · rw [if_pos hid]; exact ⟨ρ', H', β', fz', rfl, s⟩
      · rw [if_neg hid]; exact ⟨ρ', H', β', fz', rfl, s⟩
    · rename_i hn
      refine wp_block (wp_mono (ih _ _ _ hrf h f base w0 β fz a w h1 h2 hs) ?_)
      rintro e a' w' ⟨ρ2, H2, β', fz', q, s⟩
      cases e with
      | exit id' => simp only [IsX] at q; subst q; exact (hn _ _ _ h).elim
      | _ => exact ⟨ρ2, H2, β', fz', q, s⟩
  | loop x ih =>
    intro ρ H r hrf h
    simp only [codeRF] at hrf
    simp only [execC] at h
    exact iterX_sound (fun ρ H r hW => ih ρ H r hrf hW) h
  | rangeFunc _ _ _ _ _ _ => intro ρ H r _ h; simp [execC] at h
  | scope _ _ => intro ρ H r _ h; simp [execC] at h
  | goto _ => intro ρ H r _ h; simp [execC] at h
  | refuse _ => intro ρ H r _ h; simp [execC] at h
end
/-- what is known of a program ahead: the pairs to watch, the orders, who only reads, who may be called -/
structure Tab where
  dyn : FuncId → Nat → List (Nat × Nat)
  alt : FuncId → Nat → List Nat
  rdf : FuncId → Bool
  fin : FuncId → Bool
def orcX (T : Tab) (X : FuncId → Row → Heap → Option (AVal × Heap)) (g : FuncId) : Orc where
  pure := fun _ _ => none
  inl := fun f => !T.rdf f
  inline := X
  dyn := T.dyn g
  fp := fun _ _ => none
  alt := T.alt g
  rd := fun f => if T.rdf f = true then some (fun args H => (X f args H).map Prod.fst) else none
  cl := fun _ => false
def execF (P : Program) (T : Tab) (k : Nat) : Nat → FuncId → Row → Heap → Option (AVal × Heap)
  | 0, _, _, _ => none
  | n + 1, f, args, H => if T.fin f = true then
      match P.funcs[f]? with
      | some fn => match fn.body with
        | some c => if args.length ≤ fn.ntmps then
            match execC P (orcX T (execF P T k n) f) fn.ntmps k c (envOf 0 args) H with
            | some (.normal, ρ, H') => (resA P ρ H' fn.results.toList).map fun l => (tupA l, H')
            | some (.ret, ρ, H') => (resA P ρ H' fn.results.toList).map fun l => (tupA l, H')
            | _ => none
          else none
        | none => none
      | none => none
    else none
section
variable {P : Program} {C : Orc} {nt : Nat}
theorem step1_quiet {ops : Array Oper} {o : Oper} {s s' : Env × Heap} (hh : hk C.inl o ≠ 2) (h : step1 P C nt ops o s = some s') : s'.2 = s.2 := by
  have he : ∀ f, ev s.1 (.func f) = .fn f [] := fun _ => rfl
  unfold step1 at h
  split at h
  · split at h
    · simp only [Option.map_eq_some_iff] at h
      obtain ⟨r, hr, rfl⟩ := h
      exact astep_read (av := r.1) he hh hr
    · split at h
      · unfold gsel at h
        have : (hk C.inl o == 2) = false := by simpa using hh
        rw [this] at h
        simp only [Bool.false_eq_true, if_false] at h
        split at h
        · cases h
        · simp only [Option.some.injEq] at h; subst h; rfl
      · cases h
  · cases h
def quietR (inl : FuncId → Bool) (ops : Array Oper) : Bool := ops.toList.all fun o => !(hk inl o == 2)
def quietC (inl : FuncId → Bool) : Code → Bool
  | .region _ ops _ => quietR inl ops
  | .seq x y => quietC inl x && quietC inl y
  | .cond _ x y => quietC inl x && quietC inl y
  | .block _ x => quietC inl x
  | .loop x => quietC inl x
  | _ => true
theorem runL_quiet {ops : Array Oper} : ∀ {l : List Oper} {s s' : Env × Heap}, (∀ o ∈ l, hk C.inl o ≠ 2) → runL P C nt ops l s = some s' → s'.2 = s.2
  | [], s, s', _, h => by simp only [runL, Option.some.injEq] at h; subst h; rfl
  | o :: l, s, s', hl, h => by
    simp only [runL] at h
    split at h
    · rename_i s1 h1
      rw [runL_quiet (fun o ho => hl o (List.mem_cons_of_mem _ ho)) h, step1_quiet (hl o List.mem_cons_self) h1]
    · cases h
theorem runF_quiet {ops : Array Oper} {idx : List Nat} {n0 : Nat} : ∀ {l : List Oper} {k : Nat} {s : Env × Heap} {r : (Env × Heap) × List Foot}, (∀ o ∈ l, hk C.inl o ≠ 2) → runF P C nt ops idx n0 k l s = some r → r.1.2 = s.2
  | [], k, s, r, _, h => by simp only [runF, Option.some.injEq] at h; subst h; rfl
  | o :: l, k, s, r, hl, h => by
    unfold runF at h
    split at h
    · cases h
    · split at h
      · rename_i s1 h1
        split at h
        · rename_i r1 fs h2
          have := runF_quiet (fun o ho => hl o (List.mem_cons_of_mem _ ho)) h2
          have h3 := step1_quiet (hl o List.mem_cons_self) h1
          simp only [Option.some.injEq] at h
          subst h
          simp only at this ⊢
          rw [this, h3]
        · cases h
      · cases h
end
section
variable {P : Program} {C : Orc} {nt : Nat}
theorem execR_quiet {id : Nat} {ops : Array Oper} {ρ : Env} {H : Heap} {s : Env × Heap} (hq : quietR C.inl ops = true) (h : execR P C nt id ops ρ H = some s) : s.2 = H := by
  have hl : ∀ o ∈ ops.toList, hk C.inl o ≠ 2 := fun o ho => by
    have := List.all_eq_true.1 hq o ho
    simpa using this
  unfold execR at h
  split at h
  · exact runL_quiet hl h
  · split at h
    · split at h
      · rename_i s1 fs hrun
        split at h
        · simp only [Option.some.injEq] at h; subst h; exact runF_quiet hl hrun
        · cases h
      · cases h
    · cases h
theorem iterX_quiet {W : Env → Heap → Option Res} (hW : ∀ ρ H r, W ρ H = some r → r.2.2 = H) : ∀ {n : Nat} {ρ : Env} {H : Heap} {r : Res}, iterX W n ρ H = some r → r.2.2 = H
  | 0, ρ, H, r, h => by simp [iterX] at h
  | n + 1, ρ, H, r, h => by
    simp only [iterX] at h
    split at h
    · rename_i ρ' H' h1
      have := hW _ _ _ h1
      simp only at this
      subst this
      exact iterX_quiet hW h
    · exact hW _ _ _ h
theorem execC_quiet {k : Nat} : ∀ (c : Code) (ρ : Env) (H : Heap) (r : Res), quietC C.inl c = true → execC P C nt k c ρ H = some r → r.2.2 = H := by
  intro c
  induction c with
  | skip => intro ρ H r _ h; simp only [execC, Option.some.injEq] at h; subst h; rfl
  | label l => intro ρ H r _ h; simp only [execC, Option.some.injEq] at h; subst h; rfl
  | exit id => intro ρ H r _ h; simp only [execC, Option.some.injEq] at h; subst h; rfl
  | ret => intro ρ H r _ h; simp only [execC, Option.some.injEq] at h; subst h; rfl
  | region id ops draw =>
    intro ρ H r hq h
    simp only [execC] at h
    split at h
    · rename_i s hs
      simp only [Option.some.injEq] at h
      subst h
      exact execR_quiet hq hs
    · cases h
  | seq x y ihx ihy =>
    intro ρ H r hq h
    simp only [quietC, Bool.and_eq_true] at hq
    simp only [execC] at h
    split at h
    · rename_i ρ' H' h1
      have := ihx _ _ _ hq.1 h1
      simp only at this
      subst this
      exact ihy _ _ _ hq.2 h
    · exact ihx _ _ _ hq.1 h
  | cond c x y ihx ihy =>
    intro ρ H r hq h
    simp only [quietC, Bool.and_eq_true] at hq
    simp only [execC] at h
    split at h
    · exact ihx _ _ _ hq.1 h
    · exact ihy _ _ _ hq.2 h
    · cases h
  | block id x ih =>
    intro ρ H r hq h
    simp only [quietC] at hq
    simp only [execC] at h
    split at h
    · rename_i id' ρ' H' hx
      have := ih _ _ _ hq hx
      split at h <;> (simp only [Option.some.injEq] at h; subst h; exact this)
    · exact ih _ _ _ hq h
  | loop x ih =>
    intro ρ H r hq h
    simp only [quietC] at hq
    simp only [execC] at h
    exact iterX_quiet (fun ρ H r hW => ih ρ H r hq hW) h
  | rangeFunc _ _ _ _ _ _ => intro ρ H r _ h; simp [execC] at h
  | scope _ _ => intro ρ H r _ h; simp [execC] at h
  | goto _ => intro ρ H r _ h; simp [execC] at h
  | refuse _ => intro ρ H r _ h; simp [execC] at h
end
def noX : FuncId → Row → Heap → Option (AVal × Heap) := fun _ _ _ => none
structure TabOk (P : Program) (T : Tab) : Prop where
  rf : ∀ f fn c, T.fin f = true → P.funcs[f]? = some fn → fn.body = some c → codeRF (orcX T noX f) c = true
  qt : ∀ f fn c, T.rdf f = true → P.funcs[f]? = some fn → fn.body = some c → quietC (fun g => !T.rdf g) c = true
theorem codeRF_X {T : Tab} {X Y : FuncId → Row → Heap → Option (AVal × Heap)} {g : FuncId} : ∀ c : Code, codeRF (orcX T X g) c = codeRF (orcX T Y g) c := by
  intro c
  induction c with
  | region id ops draw => rfl
  | seq x y ihx ihy => simp only [codeRF, ihx, ihy]
  | cond c x y ihx ihy => simp only [codeRF, ihx, ihy]
  | block id x ih => simp only [codeRF, ih]
  | loop x ih => simp only [codeRF, ih]
  | _ => rfl
section
variable {P : Program} {T : Tab} {k : Nat}
theorem execF_quiet (hT : TabOk P T) {n : Nat} {f : FuncId} {args : Row} {H H' : Heap} {r : AVal} (hf : T.rdf f = true) (h : execF P T k n f args H = some (r, H')) : H' = H := by
  cases n with
  | zero => simp [execF] at h
  | succ n =>
    simp only [execF] at h
    split at h
    · split at h
      · rename_i fn hfn
        split at h
        · rename_i c hb
          split at h
          · have hq := hT.qt f fn c hf hfn hb
            split at h
            · rename_i ρ H2 he
              have := execC_quiet (C := orcX T (execF P T k n) f) c _ _ _ hq he
              simp only [Option.map_eq_some_iff, Prod.mk.injEq] at h
              obtain ⟨l, _, _, rfl⟩ := h
              exact this
            · rename_i ρ H2 he
              have := execC_quiet (C := orcX T (execF P T k n) f) c _ _ _ hq he
              simp only [Option.map_eq_some_iff, Prod.mk.injEq] at h
              obtain ⟨l, _, _, rfl⟩ := h
              exact this
            · cases h
          · cases h
        · cases h
      · cases h
    · cases h
theorem orcX_ok (hT : TabOk P T) {X : FuncId → Row → Heap → Option (AVal × Heap)} (hX : ∀ f, InlOk P f (X f)) (hq : ∀ f args H r H', T.rdf f = true → X f args H = some (r, H') → H' = H) (g : FuncId) : OrcOk P (orcX T X g) where
  pure := fun f args r h => by simp [orcX] at h
  inline := fun f _ => hX f
  foot := fun f args ids h => by simp [orcX] at h
  rd := fun f m h => by
    simp only [orcX] at h
    split at h
    · rename_i hr
      simp only [Option.some.injEq] at h
      subst h
      intro args H r H' h2
      simp only [Option.map_map, Option.map_eq_some_iff, Function.comp, Prod.mk.injEq] at h2
      obtain ⟨q, hq1, rfl, rfl⟩ := h2
      have := hq f args H q.1 q.2 hr hq1
      exact hX f args H q.1 H (by rw [hq1, ← this])
    · cases h
  cells := fun f h => by simp [orcX] at h
theorem execF_inl (hT : TabOk P T) (hm : P.follows .mixedOrders = true) : ∀ (n : Nat) (f : FuncId), InlOk P f (execF P T k n f) := by
  intro n
  induction n with
  | zero => intro f args H r H' h; simp [execF] at h
  | succ n ih =>
    intro f
    by_cases hfin : T.fin f = true
    case neg => intro args H r H' h; simp [execF, hfin] at h
    cases hfn : P.funcs[f]? with
    | none => intro args H r H' h; simp [execF, hfn] at h
    | some fn =>
      cases hb : fn.body with
      | none => intro args H r H' h; simp [execF, hfn, hb] at h
      | some c =>
        refine inl_of hfn hb fun args H r H' h => ?_
        simp only [execF, hfin, if_true, hfn, hb] at h
        split at h
        · rename_i hn
          have hrf : codeRF (orcX T (execF P T k n) f) c = true := by rw [codeRF_X (Y := noX)]; exact hT.rf f fn c hfin hfn hb
          have hC := orcX_ok hT (X := execF P T k n) ih (fun f args H r H' hr hx => execF_quiet hT hr hx) f
          have key : ∀ (e : Exit) (ρ : Env) (H2 : Heap), (e = .normal ∨ e = .ret) → execC P (orcX T (execF P T k n) f) fn.ntmps k c (envOf 0 args) H = some (e, ρ, H2) → (resA P ρ H2 fn.results.toList).map (fun l => (tupA l, H2)) = some (r, H') →
              AWp P fn.ntmps H.length c (retA P fn fun x H2 => x = r ∧ H2 = H') (envOf 0 args) H := by
            intro e ρ H2 he hx hr
            refine (execC_sound (n0 := H.length) hC hm c _ _ _ hrf hx).mono ?_
            rintro e' ρ' H3 q
            simp only [IsX, Prod.mk.injEq] at q
            obtain ⟨rfl, rfl, rfl⟩ := q
            simp only [Option.map_eq_some_iff, Prod.mk.injEq] at hr
            obtain ⟨l, hl, rfl, rfl⟩ := hr
            rcases he with rfl | rfl <;> simp only [retA, hl, and_self]
          refine ⟨hn, ?_⟩
          split at h
          · rename_i ρ H2 he; exact key _ _ _ (.inl rfl) he h
          · rename_i ρ H2 he; exact key _ _ _ (.inr rfl) he h
          · cases h
        · cases h
end
end Go.AI
/- Contracts that answer one of several states: heads; a whole object known a little less. -/
namespace Go.AI
set_option linter.unusedSimpArgs false
set_option linter.unusedVariables false
open Go.RowKit
section
variable {P : Program} {f : FuncId} {fn : Func} {code : Code} {σ α₁ α₂ α₃ α₄ α₅ : Type}
def own0R (k : Row → Option (σ → AVal × Heap)) : Row → Heap → Option (σ → AVal × Heap)
  | args, [] => k args
  | _, _ :: _ => none
def BodyR (P : Program) (fn : Func) (c : Code) (args : Row) (g : σ → AVal × Heap) : Prop :=
  args.length ≤ fn.ntmps ∧ AWp P fn.ntmps 0 c (retA P fn fun x H2 => ∃ y, Ent 0 ([(0, (g y).1)], (g y).2) ([(0, x)], H2)) (envOf 0 args) []
theorem inlR_canonE (hf : P.funcs[f]? = some fn) (hb : fn.body = some code) {k : Row → Option (σ → AVal × Heap)}
    (h : ∀ args g, k args = some g → ∃ args', Canon args args' ∧ BodyR P fn code args' g) : InlR P f (own0R k) := by
  intro args H g hr base w0 β fz w vals hs hargs
  cases H with
  | cons o H => simp [own0R] at hr
  | nil =>
    simp only [own0R] at hr
    obtain ⟨args', hc, h1, h2⟩ := h args g hr
    refine .of hf hb (body_calls hf hb h1 h2 ⟨fn.ntmps, 0, β, fz, w⟩ rfl rfl hs (Ext.refl _ _ _ _) (hc.argsX hargs) _ ?_)
    rintro x v β' fz' H2 w' ⟨y, hx⟩ hs' he hR
    obtain ⟨β2, fz2, q1, q2, q3⟩ := hsim_ent hs' he hR hx
    exact ⟨y, v, β2, fz2, rfl, q1, q2, q3⟩
theorem ownR_2 {c1 : Cod α₁} {c2 : Cod α₂} (hf : P.funcs[f]? = some fn) (hb : fn.body = some code) {g : α₁ → α₂ → Option (σ → AVal × Heap)} (h : ∀ e1 e2 r, g e1 e2 = some r → BodyR P fn code [c1.enc e1, c2.enc e2] r) : InlR P f (own0R (argG c1 fun e1 => argG c2 fun e2 => finG (g e1 e2))) := by
  refine inlR_canonE hf hb fun args r hr => ?_
  obtain ⟨x1, e1, r1, rfl, h1, hr⟩ := argG_some hr
  obtain ⟨x2, e2, r2, rfl, h2, hr⟩ := argG_some hr
  obtain ⟨rfl, hr⟩ := finG_some hr
  exact ⟨_, .cons c1 h1 (.cons c2 h2 .nil), h e1 e2 r hr⟩
theorem ownR_3 {c1 : Cod α₁} {c2 : Cod α₂} {c3 : Cod α₃} (hf : P.funcs[f]? = some fn) (hb : fn.body = some code) {g : α₁ → α₂ → α₃ → Option (σ → AVal × Heap)} (h : ∀ e1 e2 e3 r, g e1 e2 e3 = some r → BodyR P fn code [c1.enc e1, c2.enc e2, c3.enc e3] r) : InlR P f (own0R (argG c1 fun e1 => argG c2 fun e2 => argG c3 fun e3 => finG (g e1 e2 e3))) := by
  refine inlR_canonE hf hb fun args r hr => ?_
  obtain ⟨x1, e1, r1, rfl, h1, hr⟩ := argG_some hr
  obtain ⟨x2, e2, r2, rfl, h2, hr⟩ := argG_some hr
  obtain ⟨x3, e3, r3, rfl, h3, hr⟩ := argG_some hr
  obtain ⟨rfl, hr⟩ := finG_some hr
  exact ⟨_, .cons c1 h1 (.cons c2 h2 (.cons c3 h3 .nil)), h e1 e2 e3 r hr⟩
theorem ownR_5 {c1 : Cod α₁} {c2 : Cod α₂} {c3 : Cod α₃} {c4 : Cod α₄} {c5 : Cod α₅} (hf : P.funcs[f]? = some fn) (hb : fn.body = some code) {g : α₁ → α₂ → α₃ → α₄ → α₅ → Option (σ → AVal × Heap)} (h : ∀ e1 e2 e3 e4 e5 r, g e1 e2 e3 e4 e5 = some r → BodyR P fn code [c1.enc e1, c2.enc e2, c3.enc e3, c4.enc e4, c5.enc e5] r) : InlR P f (own0R (argG c1 fun e1 => argG c2 fun e2 => argG c3 fun e3 => argG c4 fun e4 => argG c5 fun e5 => finG (g e1 e2 e3 e4 e5))) := by
  refine inlR_canonE hf hb fun args r hr => ?_
  obtain ⟨x1, e1, r1, rfl, h1, hr⟩ := argG_some hr
  obtain ⟨x2, e2, r2, rfl, h2, hr⟩ := argG_some hr
  obtain ⟨x3, e3, r3, rfl, h3, hr⟩ := argG_some hr
  obtain ⟨x4, e4, r4, rfl, h4, hr⟩ := argG_some hr
  obtain ⟨x5, e5, r5, rfl, h5, hr⟩ := argG_some hr
  obtain ⟨rfl, hr⟩ := finG_some hr
  exact ⟨_, .cons c1 h1 (.cons c2 h2 (.cons c3 h3 (.cons c4 h4 (.cons c5 h5 .nil)))), h e1 e2 e3 e4 e5 r hr⟩
theorem bodyR_of {C : Orc} {args : Row} {g : σ → AVal × Heap} (hC : OrcOk P C) (hm : P.follows .mixedOrders = true) (hrf : codeRF C code = true) (hn : args.length ≤ fn.ntmps)
    (h : ∀ C' : Orc, C'.pure = C.pure → C'.inl = C.inl → C'.inline = C.inline → C'.dyn = C.dyn → C'.fp = C.fp → C'.alt = C.alt → C'.rd = C.rd → C'.cl = C.cl → wpA P C' fn.ntmps 0 code (retA P fn fun x H2 => ∃ y, Ent 0 ([(0, (g y).1)], (g y).2) ([(0, x)], H2)) (envOf 0 args) []) : BodyR P fn code args g :=
  ⟨hn, wpA_sound hC hm _ _ _ _ hrf (h C rfl rfl rfl rfl rfl rfl rfl rfl)⟩
/-- the same, statement by statement up to a place; what stands there comes as AWp -/
theorem bodyR_split {C : Orc} {args : Row} {g : σ → AVal × Heap} (p : Pk) (hC : OrcOk P C) (hm : P.follows .mixedOrders = true) (hrf : codeRF C code = true) (hn : args.length ≤ fn.ntmps)
    (h : ∀ C' : Orc, C'.pure = C.pure → C'.inl = C.inl → C'.inline = C.inline → C'.dyn = C.dyn → C'.fp = C.fp → C'.alt = C.alt → C'.rd = C.rd → C'.cl = C.cl → OrcOk P C' → (∀ c, codeRF C' c = codeRF C c) → wpL P C' fn.ntmps 0 (AWp P fn.ntmps 0 (splitC p code).2 (retA P fn fun x H2 => ∃ y, Ent 0 ([(0, (g y).1)], (g y).2) ([(0, x)], H2))) (retA P fn fun x H2 => ∃ y, Ent 0 ([(0, (g y).1)], (g y).2) ([(0, x)], H2)) (splitC p code).1 (envOf 0 args) []) : BodyR P fn code args g :=
  ⟨hn, AWp.split hC hm p hrf (h C rfl rfl rfl rfl rfl rfl rfl rfl hC (fun _ => rfl))⟩
theorem body_split {C : Orc} {args : Row} {r : AVal} (p : Pk) (hC : OrcOk P C) (hm : P.follows .mixedOrders = true) (hrf : codeRF C code = true) (hn : args.length ≤ fn.ntmps)
    (h : ∀ C' : Orc, C'.pure = C.pure → C'.inl = C.inl → C'.inline = C.inline → C'.dyn = C.dyn → C'.fp = C.fp → C'.alt = C.alt → C'.rd = C.rd → C'.cl = C.cl → OrcOk P C' → (∀ c, codeRF C' c = codeRF C c) → wpL P C' fn.ntmps 0 (AWp P fn.ntmps 0 (splitC p code).2 (retA P fn fun x H => view H depthV x = r ∧ hot r = true)) (retA P fn fun x H => view H depthV x = r ∧ hot r = true) (splitC p code).1 (envOf 0 args) []) : Body P fn code args r :=
  ⟨hn, AWp.split hC hm p hrf (h C rfl rfl rfl rfl rfl rfl rfl rfl hC (fun _ => rfl))⟩
/-- a whole object, known a little less -/
theorem Ent.rowsL {n0 : Nat} {H : Heap} {ρ : Env} {M szM : Nat} {R R' : List Row} (hM : obj H M = some (szM, R)) (hl : R'.length = R.length) (hr : ∀ (i : Nat) (r r' : Row), R[i]? = some r → R'[i]? = some r' → r'.length = r.length ∧ ∀ (j : Nat) (a b : AVal), r[j]? = some a → r'[j]? = some b → Lss a b) :
    Ent n0 (ρ, H.set M (some (szM, R'))) (ρ, H) := by
  intro f base w0 β fz act w hn0 h
  obtain ⟨hM1, hM2⟩ := obj_live hM
  have hlt : M < H.length := (List.getElem?_eq_some_iff.1 hM1).1
  have hold : ∀ k x, (H.set M (some (szM, R')))[k]? = some (some x) → Live H k := by
    intro k x hk
    by_cases e : k = M
    · subst e; exact ⟨_, hM1⟩
    · rw [List.getElem?_set_ne (fun q => e q.symm)] at hk; exact ⟨_, hk⟩
  refine ⟨β, fz, ⟨⟨?_, ?_, ?_, h.heap.fzlt, h.heap.below, h.heap.base⟩, h.defers, h.size, ?_, ?_⟩⟩
  · intro k sz rws hk
    simp only [List.length_set]
    by_cases e : k = M
    · subst e
      rw [List.getElem?_set_self hlt] at hk
      simp only [Option.some.injEq, Prod.mk.injEq] at hk
      obtain ⟨rfl, rfl⟩ := hk
      rw [OSim, if_neg hM2]
      obtain ⟨cs, e, g1, g2, g3, g4, g5⟩ := h.heap.cells0 hM1 hM2
      have hat : ∀ (i : Nat) (r' : Row), R'[i]? = some r' → ∃ r, R[i]? = some r := fun i r' hi => by
        have : i < R.length := by have := (List.getElem?_eq_some_iff.1 hi).1; omega
        exact ⟨_, List.getElem?_eq_getElem this⟩
      refine ⟨cs, e, g1, ?_, by rw [hl]; exact g3, g4, ?_⟩
      · intro r' hr'
        obtain ⟨i, hi⟩ := List.getElem?_of_mem hr'
        obtain ⟨r, hri⟩ := hat i r' hi
        rw [(hr i r r' hri hi).1]
        exact g2 r (List.mem_of_getElem? hri)
      · intro i r' hi j c hj
        obtain ⟨r, hri⟩ := hat i r' hi
        obtain ⟨q1, q2⟩ := hr i r r' hri hi
        have hjl : j < r.length := by have := (List.getElem?_eq_some_iff.1 hj).1; omega
        exact q2 j _ c (List.getElem?_eq_getElem hjl) hj (fun o b hb => ⟨hb.1, fun q => by cases q⟩) (g5 i r hri j _ (List.getElem?_eq_getElem hjl))
    · rw [List.getElem?_set_ne (fun q => e q.symm)] at hk
      exact h.heap.objs' k sz rws hk
  · exact fun a b ⟨x, hx⟩ ⟨y, hy⟩ => h.heap.inj a b (hold _ _ hx) (hold _ _ hy)
  · exact fun k ⟨x, hx⟩ => h.heap.own k (hold _ _ hx)
  · have := h.ext; simpa using this
  · exact fun s => (h.env s).mono (by simp) (fun _ _ => rfl) (fun _ _ q => q) (fun _ _ _ => rfl) (Shapes.refl _)
theorem Lss.junk {a : AVal} : Lss a .junk := fun _ _ => .junk
end
section
variable {P : Program} {C : Orc} {nt n0 : Nat} {ρ : Env} {H : Heap} {ops : Array Oper} {σ : Type}
theorem split_at {ops : Array Oper} {i : Nat} {o : Oper} (ho : ops.toList[i]? = some o) : ops.toList = ops.toList.take i ++ o :: ops.toList.drop (i + 1) := by
  obtain ⟨h, rfl⟩ := List.getElem?_eq_some_iff.1 ho
  rw [← List.drop_eq_getElem_cons h, List.take_append_drop]
/-- what a region with such an append asks -/
def AppA (P : Program) (C : Orc) (nt : Nat) (ops : Array Oper) (i : Nat) (s x : Operand) (d : Tmp) (id sz st len kc : Nat) (rows xr : List Row) (Q : Env → Heap → Prop) (ρ : Env) (H : Heap) : Prop :=
  match runL P C nt ops (ops.toList.take i) (ρ, H) with
  | some s1 => (rowsOf s1.2 sz (res true (ev s1.1 x)) = some xr ∧ res true (ev s1.1 s) = .osl id sz st len kc ∧ obj s1.2 id = some (sz, rows)) ∧
      ∀ b, match runL P C nt ops (ops.toList.drop (i + 1)) (put s1.1 (some d) (AI.appR id sz st len rows xr s1.2 b).1, (AI.appR id sz st len rows xr s1.2 b).2) with
        | some s2 => Q s2.1 s2.2
        | none => False
  | none => False
theorem AWp.appRi (hC : OrcOk P C) {id0 : Nat} (i : Nat) {o : Oper} {c : Call} {s x : Operand} {t u e e2 : TypeId} {sz by_ : Nat} {z : Value} (id st len kc : Nat) (rows xr : List Row) {d : Tmp} {Q : Post}
    (ho : ops.toList[i]? = some o) (hop : o.op = .call c) (hcal : c.callee = .builtin .append) (hargs : c.args = #[s, x]) (hty : c.argTypes = #[t, u]) (hgd : o.guard = none) (hdst : o.dst = some d) (hd : d < nt)
    (hE : sliceElem P t = some e) (hE2 : sliceElem P u = some e2) (hsz : szOf P e = some sz) (hz : zeroOf P e = some z) (hby : bytesOf P e = some by_)
    (hzs : z.cells.size = sz) (hzo : allOne z.cells.toList = true) (h0 : 0 < sz) (hb : by_ ≤ 8192) (hx1 : 0 < xr.length) (hsl : st + len = rows.length) (hneed : len + xr.length ≤ 4294967296)
    (h : AppA P C nt ops i s x d id sz st len kc rows xr (Q .normal) ρ H) : AWp P nt n0 (.region id0 ops false) Q ρ H := by
  unfold AppA at h
  split at h
  · rename_i s1 h1
    exact AWp.appR hC (split_at ho) hop hcal hargs hty hgd hdst hd hE hE2 hsz hz hby hzs hzo h0 hb h1 h.1.1 hx1 h.1.2.1 h.1.2.2 hsl hneed h.2
  · exact h.elim
/-- what a region with a call whose answer is one of several asks -/
def CalA (P : Program) (C : Orc) (nt : Nat) (ops : Array Oper) (i : Nat) (args : List Operand) (d : Tmp) (m : Row → Heap → Option (σ → AVal × Heap)) (g : σ → AVal × Heap) (Q : Env → Heap → Prop) (ρ : Env) (H : Heap) : Prop :=
  match runL P C nt ops (ops.toList.take i) (ρ, H) with
  | some s1 => m (args.map fun x => res true (ev s1.1 x)) s1.2 = some g ∧
      ∀ x, match runL P C nt ops (ops.toList.drop (i + 1)) (put s1.1 (some d) (g x).1, (g x).2) with
        | some s2 => Q s2.1 s2.2
        | none => False
  | none => False
theorem AWp.callRi (hC : OrcOk P C) {id : Nat} (i : Nat) {o : Oper} {c : Call} {f : FuncId} {fn : Func} {d : Tmp} {m : Row → Heap → Option (σ → AVal × Heap)} (g : σ → AVal × Heap) {Q : Post}
    (ho : ops.toList[i]? = some o) (hop : o.op = .call c) (hf : c.callee = .value (.func f)) (hgd : o.guard = none) (hdst : o.dst = some d) (hd : d < nt)
    (hfn : P.funcs[f]? = some fn) (hname : ¬ fn.name = "runtime.NumGoroutine") (hbody : fn.body.isNone = false) (hm : InlR P f m)
    (h : CalA P C nt ops i c.args.toList d m g (Q .normal) ρ H) : AWp P nt n0 (.region id ops false) Q ρ H := by
  unfold CalA at h
  split at h
  · rename_i s1 h1
    exact AWp.callR hC (split_at ho) hop hf hgd hdst hd hfn hname hbody hm h1 h.1 h.2
  · exact h.elim
theorem AWp.heapE {c : Code} {Q : Post} {H' : Heap} (h : H = H') (hA : AWp P nt n0 c Q ρ H') : AWp P nt n0 c Q ρ H := by rw [h]; exact hA
end
end Go.AI
