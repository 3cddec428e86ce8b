/- A call that is handed one object inside an aggregate. -/
import Derived.Test.YtdakclpneghkmaaGreatDoorL12
namespace Go.AI
set_option linter.unusedSectionVars false
variable [Sym]
set_option linter.unusedSimpArgs false
set_option linter.unusedVariables false
open Go.RowKit
section
variable {base : Nat} {w0 : World} {β : Nat → Nat} {fz : Nat → Prop} {H : Heap} {w : World} {P : Program}
end
end Go.AI
/- An own list, of which only a part is shown, becomes frozen data in the cell that holds it. -/
namespace Go.AI
set_option linter.unusedSectionVars false
variable [Sym]
set_option linter.unusedSimpArgs false
set_option linter.unusedVariables false
open Go.RowKit
section
variable {base : Nat} {w0 : World} {β : Nat → Nat} {fz : Nat → Prop} {H : Heap} {w : World} {P : Program} {n0 : Nat}
end
end Go.AI
/- A function that hands an argument on, or new memory: its answer is what it was handed, known no better. -/
namespace Go.AI
set_option linter.unusedSectionVars false
variable [Sym]
set_option linter.unusedSimpArgs false
set_option linter.unusedVariables false
open Go.RowKit
section
variable {P : Program} {f : FuncId} {fn : Func} {code : Code} {α₁ α₂ α₃ α₄ : Type} {n0 : Nat} {H : Heap}
theorem look_sub {ρ' ρ : Env} (h : ∀ p ∈ ρ', look ρ p.1 = p.2) (s : Nat) : look ρ' s = look ρ s ∨ look ρ' s = .junk := by
 induction ρ' with
 | nil => exact .inr rfl
 | cons p ρ' ih =>
  obtain ⟨t, x⟩ := p
  simp only [look]
  split
  ·rename_i e; subst e; exact .inl (h (s, x) List.mem_cons_self).symm
  ·exact ih fun q hq => h q (List.mem_cons_of_mem _ hq)
theorem Ent.env {ρ' ρ : Env} (hl : ∀ p ∈ ρ', look ρ p.1 = p.2) : Ent n0 (ρ', H) (ρ, H) := by
 intro f base w0 β fz act w hn0 h
 refine ⟨β, fz, ⟨h.heap, h.defers, h.size, h.ext, fun s => ?_⟩⟩
 simp only
 rcases look_sub hl s with e | e
 ·rw [e]; exact h.env s
 ·rw [e]; exact .junk
end
section
variable {P : Program} {f : FuncId} {fn : Func} {c : Code} {α₁ α₂ α₃ α₄ α₅ α₆ α₇ : Type}
end
section
variable {P : Program} {C : Orc} {nt n0 : Nat} {ρ : Env} {H : Heap}
end
end Go.AI
/- What a call leaves is one of several states; a state split into several. -/
namespace Go.AI
set_option linter.unusedSectionVars false
variable [Sym]
set_option linter.unusedSimpArgs false
set_option linter.unusedVariables false
open Go.RowKit
def EntS {σ : Type} (n0 : Nat) (st : σ → Env × Heap) (s : Env × Heap) : Prop :=
 ∀ (f : Fr) (base : Nat) (w0 : World) (β : Nat → Nat) (fz : Nat → Prop) (a : Act) (w : World), f.n0 = n0 → Sim f base w0 β fz s.1 s.2 a w → ∃ (x : σ) (β' : Nat → Nat) (fz' : Nat → Prop), Sim f base w0 β' fz' (st x).1 (st x).2 a w
def InlR (P : Program) (f : FuncId) {σ : Type} (m : Row → Heap → Option (σ → AVal × Heap)) : Prop :=
 ∀ args H g, m args H = some g → ∀ (base : Nat) (w0 : World) (β : Nat → Nat) (fz : Nat → Prop) (w : World) (vals : Array Value), HSim base w0 β fz H w → ArgsR β (okOf base fz) w H.length args vals →
  CallsX P f vals w fun e w' => ∃ (x : σ) (v : Value) (β' : Nat → Nat) (fz' : Nat → Prop), e = .returned v ∧ HSim base w0 β' fz' (g x).2 w' ∧ Ext H.length β fz w (g x).2.length β' fz' w' ∧ R β' (okOf base fz') w' (g x).2.length (g x).1 v
section
variable {P : Program} {C : Orc} {nt n0 : Nat} {ρ : Env} {H : Heap} {σ : Type}
theorem EntS.of {st : σ → Env × Heap} {s : Env × Heap} (x : σ) (h : Ent n0 (st x) s) : EntS n0 st s := fun f base w0 β fz a w h0 hs => by
 obtain ⟨β', fz', hs'⟩ := h f base w0 β fz a w h0 hs
 exact ⟨x, β', fz', hs'⟩
end
section
variable {nt : Fr} {base : Nat} {w0 : World} {β : Nat → Nat} {fz : Nat → Prop} {ρ : Env} {H : Heap} {a : Act} {w : World} {P : Program} {C : Orc} {ops : Array Oper} {σ : Type}
theorem seqK_wp (hC : OrcOk P C) (Q : Exit → Act → World → Prop) (rest : List Nat) {ρn : Env} {Hn : Heap} (hQ : ∀ β fz a w, Sim nt base w0 β fz ρn Hn a w → wpOps P ops Q rest a w) :
  ∀ (l : List Oper) (k : Nat) (ρ : Env) (H : Heap) (β : Nat → Nat) (fz : Nat → Prop) (a : Act) (w : World), (∀ j, j < l.length → l[j]? = ops[k + j]?) → runL P C nt.nt ops l (ρ, H) = some (ρn, Hn) → Sim nt base w0 β fz ρ H a w →
   wpOps P ops Q (List.range' k l.length ++ rest) a w
 | [], k, ρ, H, β, fz, a, w, _, hrun, hs => by
  simp only [runL, Option.some.injEq, Prod.mk.injEq] at hrun
  obtain ⟨rfl, rfl⟩ := hrun
  simpa using hQ β fz a w hs
 | o :: l, k, ρ, H, β, fz, a, w, hl, hrun, hs => by
  simp only [runL] at hrun
  split at hrun
  ·rename_i s1 h1
   have ho : ops[k]? = some o := by simpa using (hl 0 (by simp)).symm
   simp only [List.length_cons, List.range'_succ, List.cons_append]
   rw [wpOps_cons]
   refine step1_wp hC ho hs h1 (fun a' w' β' fz' hs' => ?_)
   exact seqK_wp hC Q rest hQ l (k + 1) s1.1 s1.2 β' fz' a' w' (fun j hj => by have := hl (j + 1) (by simp; omega); simpa [Nat.add_assoc, Nat.add_comm 1 j] using this) hrun hs'
  ·cases hrun
theorem does_callR {o : Oper} {c : Call} {f : FuncId} {fn : Func} {m : Row → Heap → Option (σ → AVal × Heap)} {g : σ → AVal × Heap} {e' : AEv} (hop : o.op = .call c) (hf : c.callee = .value (.func f)) (hfn : P.funcs[f]? = some fn) (hname : ¬ fn.name = "runtime.NumGoroutine") (hbody : fn.body.isNone = false) (hm : InlR P f m) (hs : SimE base w0 β fz e' H a w)
  (h : m (c.args.toList.map e') H = some g) (K : Act → World → Prop) (Q : Exit → Act → World → Prop)
  (hK : ∀ (x : σ) (y : Value) (β' : Nat → Nat) (fz' : Nat → Prop) (w' : World), HSim base w0 β' fz' (g x).2 w' → Ext H.length β fz w (g x).2.length β' fz' w' → R β' (okOf base fz') w' (g x).2.length (g x).1 y → K (a.put o.dst y) w') : o.wp P a w K Q := by
 have hargs : ArgsR β (okOf base fz) w H.length (c.args.toList.map e') (c.args.map a.eval ++ #[]) := by
  refine ⟨by simp, fun j x hj => ?_⟩
  simp only [Array.append_empty]
  simp only [List.getElem?_map, Option.map_eq_some_iff, Array.getElem?_toList] at hj
  obtain ⟨y, hy, rfl⟩ := hj
  simp only [Array.getElem?_map, hy, Option.map_some, Option.getD_some]
  exact hs.ev y
 have hv : a.eval (.func f) = .func (.func f) #[] #[] := rfl
 have hb : fn.body ≠ none := by
  intro h0; rw [h0] at hbody; simp at hbody
 have hrun : (execOp a.eval o).run P w = .ok (.enter f (c.args.map a.eval ++ #[])) w := by
  simp only [execOp, hop, resolve, hf, hv, Deferred.ofValue]
  simp [invoke, callFunc, hfn, hname, hb]
 have hcall := hm _ _ _ h base w0 β fz w _ hs.heap hargs fn hfn
 unfold Oper.wp
 rw [hrun]
 show Calls P f _ w _
 refine (hcall.1 hbody).mono ?_
 rintro e w' ⟨x, v, β', fz', rfl, h1, h2, h3⟩
 exact hK x v β' fz' w' h1 h2 h3
end
section
variable {P : Program} {C : Orc} {nt n0 : Nat} {ρ : Env} {H : Heap} {σ : Type} {ops : Array Oper}
theorem AWp.callR (hC : OrcOk P C) {id : Nat} {l1 l2 : List Oper} {o : Oper} {c : Call} {f : FuncId} {fn : Func} {d : Tmp} {m : Row → Heap → Option (σ → AVal × Heap)} {g : σ → AVal × Heap} {s1 : Env × Heap} {Q : Post}
  (hops : ops.toList = l1 ++ o :: l2) (hop : o.op = .call c) (hf : c.callee = .value (.func f)) (hgd : o.guard = none) (hdst : o.dst = some d) (hd : d < nt)
  (hfn : P.funcs[f]? = some fn) (hname : ¬ fn.name = "runtime.NumGoroutine") (hbody : fn.body.isNone = false) (hm : InlR P f m)
  (h1 : runL P C nt ops l1 (ρ, H) = some s1) (h : m (c.args.toList.map fun x => res true (ev s1.1 x)) s1.2 = some g)
  (h2 : ∀ x, match runL P C nt ops l2 (put s1.1 (some d) (g x).1, (g x).2) with | some s2 => Q .normal s2.1 s2.2 | none => False) : AWp P nt n0 (.region id ops false) Q ρ H := by
 intro fr base w0 β fz a w e1 e2 hs
 subst e1
 apply wp_region
 have hsz : ops.size = l1.length + (1 + l2.length) := by rw [← Array.length_toList, hops]; simp; omega
 have hrng : List.range ops.size = List.range' 0 l1.length ++ (l1.length :: List.range' (l1.length + 1) l2.length) := by
  rw [hsz, List.range_eq_range', ← List.range'_append_1, Nat.zero_add, Nat.add_comm 1, List.range'_succ]
 rw [hrng]
 have hgetop : ∀ j, ops[j]? = (l1 ++ o :: l2)[j]? := fun j => by rw [← Array.getElem?_toList, hops]
 refine seqK_wp hC _ _ (ρn := s1.1) (Hn := s1.2) (fun β1 fz1 a1 w1 hs1 => ?_) l1 0 ρ H β fz a w (fun j hj => by rw [Nat.zero_add, hgetop, List.getElem?_append_left hj]) h1 hs
 rw [wpOps_cons]
 unfold wpOp
 have ho : ops[l1.length]? = some o := by rw [hgetop, List.getElem?_append_right (Nat.le_refl _), Nat.sub_self]; rfl
 simp only [ho]
 have hw : Region.wanted o (yielded ops a1.tmps) = true := by simp [Region.wanted, hgd]
 rw [hw]
 simp only [if_true]
 left
 refine does_callR hop hf hfn hname hbody hm (hs1.res rfl) h _ _ (fun x y β' fz' w' k1 k2 k3 => ?_)
 have hs2 := hs1.put k1 k2 (d := o.dst) (fun t ht => by rw [hdst] at ht; cases ht; exact hd) k3
 rw [hdst] at hs2
 have h3 := h2 x
 split at h3
 ·rename_i s2 hrun
  rw [hdst]
  exact seq_wp hC _ (fun β2 fz2 a2 w2 hs3 => ⟨s2.1, s2.2, β2, fz2, h3, hs3⟩) l2 (l1.length + 1) _ _ β' fz' _ w' (fun j => by rw [hgetop, List.getElem?_append_right (by omega), show l1.length + 1 + j - l1.length = j + 1 by omega]; rfl) hrun hs2
 ·exact h3.elim
end
end Go.AI
/- append behind a slice that begins inside its object: in place, or a new object. -/
namespace Go.AI
set_option linter.unusedSectionVars false
variable [Sym]
set_option linter.unusedSimpArgs false
set_option linter.unusedVariables false
open Go.RowKit
section
variable {base : Nat} {w0 : World} {β : Nat → Nat} {fz : Nat → Prop} {e' : AEv} {H : Heap} {a : Act} {w : World} {P : Program} {C : Orc} {o : Oper}
end
section
variable {P : Program} {C : Orc} {nt n0 : Nat} {ρ : Env} {H : Heap} {ops : Array Oper}
end
end Go.AI
/- Code walked statement by statement, up to a place. -/
namespace Go.AI
set_option linter.unusedSectionVars false
variable [Sym]
set_option linter.unusedSimpArgs false
set_option linter.unusedVariables false
inductive Pk where
 | z
 | s (p : Pk)
def splitC : Pk → Code → List Code × Code
 | .s p, .seq x y => (x :: (splitC p y).1, (splitC p y).2)
 | _, c => ([], c)
def seqs : List Code → Code → Code
 | [], c => c
 | x :: l, c => .seq x (seqs l c)
theorem seqs_split (p : Pk) (c : Code) : seqs (splitC p c).1 (splitC p c).2 = c := by
 induction p generalizing c with
 | z => cases c <;> rfl
 | s p ih => cases c <;> simp [splitC, seqs, ih]
def wpL (P : Program) (C : Orc) (nt n0 : Nat) (K : Env → Heap → Prop) (Q : Post) : List Code → Env → Heap → Prop
 | [], ρ, H => K ρ H
 | x :: l, ρ, H => wpX P C nt (LoopK P C nt n0 4) x (thenA (wpL P C nt n0 K Q l) Q) ρ H
section
variable {P : Program} {C : Orc} {nt n0 : Nat} {ρ : Env} {H : Heap}
theorem codeRF_seqs : ∀ {l : List Code} {c : Code}, codeRF C (seqs l c) = true → (∀ x ∈ l, codeRF C x = true) ∧ codeRF C c = true
 | [], c, h => ⟨fun x hx => by simp at hx, h⟩
 | x :: l, c, h => by
  simp only [seqs, codeRF, Bool.and_eq_true] at h
  obtain ⟨h1, h2⟩ := codeRF_seqs h.2
  refine ⟨fun y hy => ?_, h2⟩
  rcases List.mem_cons.1 hy with rfl | hy
  ·exact h.1
  ·exact h1 y hy
theorem wpL_sound (hC : OrcOk P C) (hm : P.follows .mixedOrders = true) {c : Code} {Q : Post} : ∀ (l : List Code) (ρ : Env) (H : Heap), (∀ x ∈ l, codeRF C x = true) → wpL P C nt n0 (AWp P nt n0 c Q) Q l ρ H → AWp P nt n0 (seqs l c) Q ρ H
 | [], ρ, H, _, h => h
 | x :: l, ρ, H, hrf, h => by
  refine AWp.seq (AWp.mono (wpA_sound hC hm x _ _ _ (hrf x (List.mem_cons_self ..)) h) fun e ρ' H' q => ?_)
  cases e with
  | normal => exact wpL_sound hC hm l ρ' H' (fun y hy => hrf y (List.mem_cons_of_mem _ hy)) q
  | _ => exact q
theorem AWp.split (hC : OrcOk P C) (hm : P.follows .mixedOrders = true) {c : Code} {Q : Post} (p : Pk) (hrf : codeRF C c = true) (h : wpL P C nt n0 (AWp P nt n0 (splitC p c).2 Q) Q (splitC p c).1 ρ H) : AWp P nt n0 c Q ρ H := by
 have := seqs_split p c
 rw [← this] at hrf
 have h2 := wpL_sound hC hm _ _ _ (codeRF_seqs hrf).1 h
 rwa [this] at h2
end
end Go.AI
/- Code that is run: an interpreter that computes. -/
namespace Go.AI
set_option linter.unusedSectionVars false
variable [Sym]
set_option linter.unusedSimpArgs false
set_option linter.unusedVariables false
open Go.RowKit
abbrev Res := Exit × Env × Heap
def IsX (r : Res) : Post := fun e ρ H => r = (e, ρ, H)
section
variable {P : Program} {C : Orc} {nt n0 : Nat}
end
structure Tab where
 dyn : FuncId → Nat → List (Nat × Nat)
 alt : FuncId → Nat → List Nat
 rdf : FuncId → Bool
 fin : FuncId → Bool
def orcX (T : Tab) (X : FuncId → Row → Heap → Option (AVal × Heap)) (g : FuncId) : Orc where
 pure := fun _ _ => none
 inl := fun f => !T.rdf f
 inline := X
 dyn := T.dyn g
 fp := fun _ _ => none
 alt := T.alt g
 rd := fun f => if T.rdf f = true then some (fun args H => (X f args H).map Prod.fst) else none
 cl := fun _ => false
section
variable {P : Program} {C : Orc} {nt : Nat}
theorem step1_quiet {ops : Array Oper} {o : Oper} {s s' : Env × Heap} (hh : hk C.inl o ≠ 2) (h : step1 P C nt ops o s = some s') : s'.2 = s.2 := by
 have he : ∀ f, ev s.1 (.func f) = .fn f [] := fun _ => rfl
 unfold step1 at h
 split at h
 ·split at h
  ·simp only [Option.map_eq_some_iff] at h
   obtain ⟨r, hr, rfl⟩ := h
   exact astep_read (av := r.1) he hh hr
  ·split at h
   ·unfold gsel at h
    have : (hk C.inl o == 2) = false := by simpa using hh
    rw [this] at h
    simp only [Bool.false_eq_true, if_false] at h
    split at h
    ·cases h
    ·simp only [Option.some.injEq] at h; subst h; rfl
   ·cases h
 ·cases h
def quietR (inl : FuncId → Bool) (ops : Array Oper) : Bool := ops.toList.all fun o => !(hk inl o == 2)
def quietC (inl : FuncId → Bool) : Code → Bool
 | .region _ ops _ => quietR inl ops
 | .seq x y => quietC inl x && quietC inl y
 | .cond _ x y => quietC inl x && quietC inl y
 | .block _ x => quietC inl x
 | .loop x => quietC inl x
 | _ => true
theorem runL_quiet {ops : Array Oper} : ∀ {l : List Oper} {s s' : Env × Heap}, (∀ o ∈ l, hk C.inl o ≠ 2) → runL P C nt ops l s = some s' → s'.2 = s.2
 | [], s, s', _, h => by simp only [runL, Option.some.injEq] at h; subst h; rfl
 | o :: l, s, s', hl, h => by
  simp only [runL] at h
  split at h
  ·rename_i s1 h1
   rw [runL_quiet (fun o ho => hl o (List.mem_cons_of_mem _ ho)) h, step1_quiet (hl o List.mem_cons_self) h1]
  ·cases h
end
section
variable {P : Program} {C : Orc} {nt : Nat}
end
def noX : FuncId → Row → Heap → Option (AVal × Heap) := fun _ _ _ => none
structure TabOk (P : Program) (T : Tab) : Prop where
 rf : ∀ f fn c, T.fin f = true → P.funcs[f]? = some fn → fn.body = some c → codeRF (orcX T noX f) c = true
 qt : ∀ f fn c, T.rdf f = true → P.funcs[f]? = some fn → fn.body = some c → quietC (fun g => !T.rdf g) c = true
section
variable {P : Program} {T : Tab} {k : Nat}
end
end Go.AI
