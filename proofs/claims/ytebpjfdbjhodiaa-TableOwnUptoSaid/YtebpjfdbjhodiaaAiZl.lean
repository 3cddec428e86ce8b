/- What a call leaves is one of several states; a state split into several. -/
import Derived.Test.YtebpjfdbjhodiaaAiZi
namespace Go.AI
set_option linter.unusedSimpArgs false
set_option linter.unusedVariables false
open Go.RowKit
/-- a state is one of several -/
def EntS {σ : Type} (n0 : Nat) (st : σ → Env × Heap) (s : Env × Heap) : Prop :=
  ∀ (f : Fr) (base : Nat) (w0 : World) (β : Nat → Nat) (fz : Nat → Prop) (a : Act) (w : World), f.n0 = n0 → Sim f base w0 β fz s.1 s.2 a w → ∃ (x : σ) (β' : Nat → Nat) (fz' : Nat → Prop), Sim f base w0 β' fz' (st x).1 (st x).2 a w
/-- a function that works on its caller's objects; what it leaves is one of several -/
def InlR (P : Program) (f : FuncId) {σ : Type} (m : Row → Heap → Option (σ → AVal × Heap)) : Prop :=
  ∀ args H g, m args H = some g → ∀ (base : Nat) (w0 : World) (β : Nat → Nat) (fz : Nat → Prop) (w : World) (vals : Array Value), HSim base w0 β fz H w → ArgsR β (okOf base fz) w H.length args vals →
    CallsX P f vals w fun e w' => ∃ (x : σ) (v : Value) (β' : Nat → Nat) (fz' : Nat → Prop), e = .returned v ∧ HSim base w0 β' fz' (g x).2 w' ∧ Ext H.length β fz w (g x).2.length β' fz' w' ∧ R β' (okOf base fz') w' (g x).2.length (g x).1 v
section
variable {P : Program} {C : Orc} {nt n0 : Nat} {ρ : Env} {H : Heap} {σ : Type}
theorem AWp.entS {st : σ → Env × Heap} {c : Code} {Q : Post} (h : ∀ x, AWp P nt n0 c Q (st x).1 (st x).2) (he : EntS n0 st (ρ, H)) : AWp P nt n0 c Q ρ H := by
  intro f base w0 β fz a w h1 h2 hs
  obtain ⟨x, β', fz', hs'⟩ := he f base w0 β fz a w h2 hs
  exact h x f base w0 β' fz' a w h1 h2 hs'
theorem EntS.of {st : σ → Env × Heap} {s : Env × Heap} (x : σ) (h : Ent n0 (st x) s) : EntS n0 st s := fun f base w0 β fz a w h0 hs => by
  obtain ⟨β', fz', hs'⟩ := h f base w0 β fz a w h0 hs
  exact ⟨x, β', fz', hs'⟩
theorem inlR_ren {f : FuncId} {fn : Func} {c : Code} (hf : P.funcs[f]? = some fn) (hb : fn.body = some c) {m : Row → Heap → Option (σ → AVal × Heap)}
    (h : ∀ args H g, m args H = some g → ∃ args', Canon args args' ∧ args'.length ≤ fn.ntmps ∧ AWp P fn.ntmps H.length c (retA P fn fun x H2 => ∃ y th, WeakT H.length th ([(0, (g y).1)], (g y).2) ([(0, x)], H2)) (envOf 0 args') H) : InlR P f m := by
  intro args H g hr base w0 β fz w vals hs hargs
  obtain ⟨args', hc, h1, h2⟩ := h args H g hr
  refine .of hf hb (body_calls hf hb h1 h2 ⟨fn.ntmps, H.length, β, fz, w⟩ rfl rfl hs (Ext.refl _ _ _ _) (hc.argsX hargs) _ ?_)
  rintro x v β' fz' H2 w' ⟨y, th, hx⟩ hs' he hR
  obtain ⟨β2, q1, q2, q3⟩ := hsim_weakT hs' he hR hx
  exact ⟨y, v, β2, fz', rfl, q1, q2, q3⟩
/-- a call that is handed no object -/
def frameR (m : Row → Heap → Option (σ → AVal × Heap)) (args : Row) (H : Heap) : Option (σ → AVal × Heap) :=
  (m (args.map fun a => cold (view H depthV a)) []).map fun g x => (tau [] H.length (g x).1, H ++ (g x).2.map (tauO [] H.length))
theorem frameR_ok {f : FuncId} {m : Row → Heap → Option (σ → AVal × Heap)} (hm : InlR P f m) (hb : ∀ args g, m args [] = some g → ∀ x, bareA (g x).1 = true ∧ bareH (g x).2 = true) : InlR P f (frameR m) := by
  intro args H g hr base w0 β fz w vals hs hargs fn hfn
  unfold frameR at hr
  simp only [Option.map_eq_some_iff] at hr
  obtain ⟨g1, hm1, rfl⟩ := hr
  have hb1 := hb _ _ hm1
  have hs0 : HSim base w0 β (fzOf β fz H []) [] w := frame_start hs (List.nodup_nil) (fun j id h => by simp at h) (fun j o h => by simp at h)
  have hargs' : ArgsR β (okOf base (fzOf β fz H [])) w ([] : Heap).length (args.map fun a => cold (view H depthV a)) vals := by
    refine ⟨by simpa using hargs.1, fun j a ha => ?_⟩
    simp only [List.getElem?_map, Option.map_eq_some_iff] at ha
    obtain ⟨y, hy, rfl⟩ := ha
    have h1 := view_R' (fz' := fzOf β fz H []) hs (fun b hb => .inl hb) (fun id hid => .inr ⟨id, hid, by simp, rfl⟩) depthV y _ (hargs.2 j y hy)
    have h2 := cold_R (ok' := okOf base (fzOf β fz H [])) h1 (fun o b hb => ⟨hb.1, fun h => by cases h⟩)
    exact h2.mono (Nat.zero_le _) (fun _ h => absurd h (Nat.not_lt_zero _)) (fun _ _ h => h) (fun _ _ _ => rfl) (Shapes.refl _)
  have key : ∀ (e : Ending) (w1 : World), (∃ (x : σ) (v : Value) (β' : Nat → Nat) (fz' : Nat → Prop), e = .returned v ∧ HSim base w0 β' fz' (g1 x).2 w1 ∧ Ext ([] : Heap).length β (fzOf β fz H []) w (g1 x).2.length β' fz' w1 ∧ R β' (okOf base fz') w1 (g1 x).2.length (g1 x).1 v) →
      ∃ (x : σ) (v : Value) (β' : Nat → Nat) (fz' : Nat → Prop), e = .returned v ∧ HSim base w0 β' fz' (H ++ (g1 x).2.map (tauO [] H.length)) w1 ∧ Ext H.length β fz w (H ++ (g1 x).2.map (tauO [] H.length)).length β' fz' w1 ∧ R β' (okOf base fz') w1 (H ++ (g1 x).2.map (tauO [] H.length)).length (tau [] H.length (g1 x).1) v := by
    rintro e w1 ⟨x, v, β1, fz1, he, k1, k2, k3⟩
    obtain ⟨β2, fz2, q1, q2, q3⟩ := frame_end (fp := []) (H2 := H ++ (g1 x).2.map (tauO [] H.length)) hs (by simp) (fun j id h => by simp at h) k1 k2 k3 (hb1 x).1 (bareH_get (hb1 x).2) (by simp) (by
      intro q o hq
      rw [List.getElem?_append] at hq
      split at hq
      · rename_i hlt; exact .inr ⟨hlt, by simp, hq⟩
      · rename_i hlt
        left
        simp only [List.getElem?_map, Option.map_eq_some_iff] at hq
        obtain ⟨o1, ho1, ho2⟩ := hq
        cases o1 with
        | none => simp [tauO] at ho2
        | some o1 => exact ⟨q - H.length, o1, by simp [tauI]; omega, ho1, ho2.symm⟩)
    exact ⟨x, v, β2, fz2, he, q1, q2, q3⟩
  obtain ⟨c1, c2⟩ := hm _ _ _ hm1 base w0 β (fzOf β fz H []) w vals hs0 hargs' fn hfn
  refine ⟨fun h => (c1 h).mono (fun e w1 => key e w1), fun h => ?_⟩
  obtain ⟨v, w', h1, h2⟩ := c2 h
  exact ⟨v, w', h1, key _ _ h2⟩
end
section
variable {nt : Fr} {base : Nat} {w0 : World} {β : Nat → Nat} {fz : Nat → Prop} {ρ : Env} {H : Heap} {a : Act} {w : World} {P : Program} {C : Orc} {ops : Array Oper} {σ : Type}
theorem seqK_wp (hC : OrcOk P C) (Q : Exit → Act → World → Prop) (rest : List Nat) {ρn : Env} {Hn : Heap} (hQ : ∀ β fz a w, Sim nt base w0 β fz ρn Hn a w → wpOps P ops Q rest a w) :
    ∀ (l : List Oper) (k : Nat) (ρ : Env) (H : Heap) (β : Nat → Nat) (fz : Nat → Prop) (a : Act) (w : World), (∀ j, j < l.length → l[j]? = ops[k + j]?) → runL P C nt.nt ops l (ρ, H) = some (ρn, Hn) → Sim nt base w0 β fz ρ H a w →
      wpOps P ops Q (List.range' k l.length ++ rest) a w
  | [], k, ρ, H, β, fz, a, w, _, hrun, hs => by
    simp only [runL, Option.some.injEq, Prod.mk.injEq] at hrun
    obtain ⟨rfl, rfl⟩ := hrun
    simpa using hQ β fz a w hs
  | o :: l, k, ρ, H, β, fz, a, w, hl, hrun, hs => by
    simp only [runL] at hrun
    split at hrun
    · rename_i s1 h1
      have ho : ops[k]? = some o := by simpa using (hl 0 (by simp)).symm
      simp only [List.length_cons, List.range'_succ, List.cons_append]
      rw [wpOps_cons]
      refine step1_wp hC ho hs h1 (fun a' w' β' fz' hs' => ?_)
      exact seqK_wp hC Q rest hQ l (k + 1) s1.1 s1.2 β' fz' a' w' (fun j hj => by have := hl (j + 1) (by simp; omega); simpa [Nat.add_assoc, Nat.add_comm 1 j] using this) hrun hs'
    · cases hrun
/-- a call whose answer is one of several -/
theorem does_callR {o : Oper} {c : Call} {f : FuncId} {fn : Func} {m : Row → Heap → Option (σ → AVal × Heap)} {g : σ → AVal × Heap} {e' : AEv} (hop : o.op = .call c) (hf : c.callee = .value (.func f)) (hfn : P.funcs[f]? = some fn) (hname : ¬ fn.name = "runtime.NumGoroutine") (hbody : fn.body.isNone = false) (hm : InlR P f m) (hs : SimE base w0 β fz e' H a w)
    (h : m (c.args.toList.map e') H = some g) (K : Act → World → Prop) (Q : Exit → Act → World → Prop)
    (hK : ∀ (x : σ) (y : Value) (β' : Nat → Nat) (fz' : Nat → Prop) (w' : World), HSim base w0 β' fz' (g x).2 w' → Ext H.length β fz w (g x).2.length β' fz' w' → R β' (okOf base fz') w' (g x).2.length (g x).1 y → K (a.put o.dst y) w') : o.wp P a w K Q := by
  have hargs : ArgsR β (okOf base fz) w H.length (c.args.toList.map e') (c.args.map a.eval ++ #[]) := by
    refine ⟨by simp, fun j x hj => ?_⟩
    simp only [Array.append_empty]
    simp only [List.getElem?_map, Option.map_eq_some_iff, Array.getElem?_toList] at hj
    obtain ⟨y, hy, rfl⟩ := hj
    simp only [Array.getElem?_map, hy, Option.map_some, Option.getD_some]
    exact hs.ev y
  have hv : a.eval (.func f) = .func (.func f) #[] #[] := rfl
  have hb : fn.body ≠ none := by
    intro h0; rw [h0] at hbody; simp at hbody
  have hrun : (execOp a.eval o).run P w = .ok (.enter f (c.args.map a.eval ++ #[])) w := by
    simp only [execOp, hop, resolve, hf, hv, Deferred.ofValue]
    simp [invoke, callFunc, hfn, hname, hb]
  have hcall := hm _ _ _ h base w0 β fz w _ hs.heap hargs fn hfn
  unfold Oper.wp
  rw [hrun]
  show Calls P f _ w _
  refine (hcall.1 hbody).mono ?_
  rintro e w' ⟨x, v, β', fz', rfl, h1, h2, h3⟩
  exact hK x v β' fz' w' h1 h2 h3
end
section
variable {P : Program} {C : Orc} {nt n0 : Nat} {ρ : Env} {H : Heap} {σ : Type} {ops : Array Oper}
/-- a region in order, with a call whose answer is one of several -/
theorem AWp.callR (hC : OrcOk P C) {id : Nat} {l1 l2 : List Oper} {o : Oper} {c : Call} {f : FuncId} {fn : Func} {d : Tmp} {m : Row → Heap → Option (σ → AVal × Heap)} {g : σ → AVal × Heap} {s1 : Env × Heap} {Q : Post}
    (hops : ops.toList = l1 ++ o :: l2) (hop : o.op = .call c) (hf : c.callee = .value (.func f)) (hgd : o.guard = none) (hdst : o.dst = some d) (hd : d < nt)
    (hfn : P.funcs[f]? = some fn) (hname : ¬ fn.name = "runtime.NumGoroutine") (hbody : fn.body.isNone = false) (hm : InlR P f m)
    (h1 : runL P C nt ops l1 (ρ, H) = some s1) (h : m (c.args.toList.map fun x => res true (ev s1.1 x)) s1.2 = some g)
    (h2 : ∀ x, match runL P C nt ops l2 (put s1.1 (some d) (g x).1, (g x).2) with | some s2 => Q .normal s2.1 s2.2 | none => False) : AWp P nt n0 (.region id ops false) Q ρ H := by
  intro fr base w0 β fz a w e1 e2 hs
  subst e1
  apply wp_region
  have hsz : ops.size = l1.length + (1 + l2.length) := by rw [← Array.length_toList, hops]; simp; omega
  have hrng : List.range ops.size = List.range' 0 l1.length ++ (l1.length :: List.range' (l1.length + 1) l2.length) := by
    rw [hsz, List.range_eq_range', ← List.range'_append_1, Nat.zero_add, Nat.add_comm 1, List.range'_succ]
  rw [hrng]
  have hgetop : ∀ j, ops[j]? = (l1 ++ o :: l2)[j]? := fun j => by rw [← Array.getElem?_toList, hops]
  refine seqK_wp hC _ _ (ρn := s1.1) (Hn := s1.2) (fun β1 fz1 a1 w1 hs1 => ?_) l1 0 ρ H β fz a w (fun j hj => by rw [Nat.zero_add, hgetop, List.getElem?_append_left hj]) h1 hs
  rw [wpOps_cons]
  unfold wpOp
  have ho : ops[l1.length]? = some o := by rw [hgetop, List.getElem?_append_right (Nat.le_refl _), Nat.sub_self]; rfl
  simp only [ho]
  have hw : Region.wanted o (yielded ops a1.tmps) = true := by simp [Region.wanted, hgd]
  rw [hw]
  simp only [if_true]
  left
  refine does_callR hop hf hfn hname hbody hm (hs1.res rfl) h _ _ (fun x y β' fz' w' k1 k2 k3 => ?_)
  have hs2 := hs1.put k1 k2 (d := o.dst) (fun t ht => by rw [hdst] at ht; cases ht; exact hd) k3
  rw [hdst] at hs2
  have h3 := h2 x
  split at h3
  · rename_i s2 hrun
    rw [hdst]
    exact seq_wp hC _ (fun β2 fz2 a2 w2 hs3 => ⟨s2.1, s2.2, β2, fz2, h3, hs3⟩) l2 (l1.length + 1) _ _ β' fz' _ w' (fun j => by rw [hgetop, List.getElem?_append_right (by omega), show l1.length + 1 + j - l1.length = j + 1 by omega]; rfl) hrun hs2
  · exact h3.elim
end
end Go.AI
