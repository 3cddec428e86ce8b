/- A call that is handed one object inside an aggregate. -/
import Derived.Test.YtdakclpneghkmaaGreatDoorL12
namespace Go.AI
set_option linter.unusedSimpArgs false
set_option linter.unusedVariables false
open Go.RowKit
section
variable {base : Nat} {w0 : World} {β : Nat → Nat} {fz : Nat → Prop} {H : Heap} {w : World} {P : Program}
end
end Go.AI
/- An own list, of which only a part is shown, becomes frozen data in the cell that holds it. -/
namespace Go.AI
set_option linter.unusedSimpArgs false
set_option linter.unusedVariables false
open Go.RowKit
section
variable {base : Nat} {w0 : World} {β : Nat → Nat} {fz : Nat → Prop} {H : Heap} {w : World} {P : Program} {n0 : Nat}
end
end Go.AI
/- A function that hands an argument on, or new memory: its answer is what it was handed, known no better. -/
namespace Go.AI
set_option linter.unusedSimpArgs false
set_option linter.unusedVariables false
open Go.RowKit
section
variable {P : Program} {f : FuncId} {fn : Func} {code : Code} {α₁ α₂ α₃ α₄ : Type} {n0 : Nat} {H : Heap}
theorem look_sub {ρ' ρ : Env} (h : ∀ p ∈ ρ', look ρ p.1 = p.2) (s : Nat) : look ρ' s = look ρ s ∨ look ρ' s = .junk := by
  induction ρ' with
  | nil => exact .inr rfl
  | cons p ρ' ih =>
    obtain ⟨t, x⟩ := p
    simp only [look]
    split
    · rename_i e; subst e; exact .inl (h (s, x) List.mem_cons_self).symm
    · exact ih fun q hq => h q (List.mem_cons_of_mem _ hq)
/-- a part of the slots, whatever the memory -/
theorem Ent.env {ρ' ρ : Env} (hl : ∀ p ∈ ρ', look ρ p.1 = p.2) : Ent n0 (ρ', H) (ρ, H) := by
  intro f base w0 β fz act w hn0 h
  refine ⟨β, fz, ⟨h.heap, h.defers, h.size, h.ext, fun s => ?_⟩⟩
  simp only
  rcases look_sub hl s with e | e
  · rw [e]; exact h.env s
  · rw [e]; exact .junk
end
section
variable {P : Program} {f : FuncId} {fn : Func} {c : Code} {α₁ α₂ α₃ α₄ α₅ α₆ α₇ : Type}
end
section
variable {P : Program} {C : Orc} {nt n0 : Nat} {ρ : Env} {H : Heap}
end
end Go.AI
/- What a call leaves is one of several states; a state split into several. -/
namespace Go.AI
set_option linter.unusedSimpArgs false
set_option linter.unusedVariables false
open Go.RowKit
/-- a state is one of several -/
def EntS {σ : Type} (n0 : Nat) (st : σ → Env × Heap) (s : Env × Heap) : Prop :=
  ∀ (f : Fr) (base : Nat) (w0 : World) (β : Nat → Nat) (fz : Nat → Prop) (a : Act) (w : World), f.n0 = n0 → Sim f base w0 β fz s.1 s.2 a w → ∃ (x : σ) (β' : Nat → Nat) (fz' : Nat → Prop), Sim f base w0 β' fz' (st x).1 (st x).2 a w
section
variable {P : Program} {C : Orc} {nt n0 : Nat} {ρ : Env} {H : Heap} {σ : Type}
theorem EntS.of {st : σ → Env × Heap} {s : Env × Heap} (x : σ) (h : Ent n0 (st x) s) : EntS n0 st s := fun f base w0 β fz a w h0 hs => by
  obtain ⟨β', fz', hs'⟩ := h f base w0 β fz a w h0 hs
  exact ⟨x, β', fz', hs'⟩
end
section
variable {nt : Fr} {base : Nat} {w0 : World} {β : Nat → Nat} {fz : Nat → Prop} {ρ : Env} {H : Heap} {a : Act} {w : World} {P : Program} {C : Orc} {ops : Array Oper} {σ : Type}
theorem seqK_wp (hC : OrcOk P C) (Q : Exit → Act → World → Prop) (rest : List Nat) {ρn : Env} {Hn : Heap} (hQ : ∀ β fz a w, Sim nt base w0 β fz ρn Hn a w → wpOps P ops Q rest a w) :
    ∀ (l : List Oper) (k : Nat) (ρ : Env) (H : Heap) (β : Nat → Nat) (fz : Nat → Prop) (a : Act) (w : World), (∀ j, j < l.length → l[j]? = ops[k + j]?) → runL P C nt.nt ops l (ρ, H) = some (ρn, Hn) → Sim nt base w0 β fz ρ H a w →
      wpOps P ops Q (List.range' k l.length ++ rest) a w
  | [], k, ρ, H, β, fz, a, w, _, hrun, hs => by
    simp only [runL, Option.some.injEq, Prod.mk.injEq] at hrun
    obtain ⟨rfl, rfl⟩ := hrun
    simpa using hQ β fz a w hs
  | o :: l, k, ρ, H, β, fz, a, w, hl, hrun, hs => by
    simp only [runL] at hrun
    split at hrun
    · rename_i s1 h1
      have ho : ops[k]? = some o := by simpa using (hl 0 (by simp)).symm
      simp only [List.length_cons, List.range'_succ, List.cons_append]
      rw [wpOps_cons]
      refine step1_wp hC ho hs h1 (fun a' w' β' fz' hs' => ?_)
      exact seqK_wp hC Q rest hQ l (k + 1) s1.1 s1.2 β' fz' a' w' (fun j hj => by have := hl (j + 1) (by simp; omega); simpa [Nat.add_assoc, Nat.add_comm 1 j] using this) hrun hs'
    · cases hrun
end
section
variable {P : Program} {C : Orc} {nt n0 : Nat} {ρ : Env} {H : Heap} {σ : Type} {ops : Array Oper}
end
end Go.AI
/- append behind a slice that begins inside its object: in place, or a new object. -/
namespace Go.AI
set_option linter.unusedSimpArgs false
set_option linter.unusedVariables false
open Go.RowKit
section
variable {base : Nat} {w0 : World} {β : Nat → Nat} {fz : Nat → Prop} {e' : AEv} {H : Heap} {a : Act} {w : World} {P : Program} {C : Orc} {o : Oper}
end
section
variable {P : Program} {C : Orc} {nt n0 : Nat} {ρ : Env} {H : Heap} {ops : Array Oper}
end
end Go.AI
/- Code walked statement by statement, up to a place. -/
namespace Go.AI
set_option linter.unusedSimpArgs false
set_option linter.unusedVariables false
inductive Pk where
  | z
  | s (p : Pk)
def splitC : Pk → Code → List Code × Code
  | .s p, .seq x y => (x :: (splitC p y).1, (splitC p y).2)
  | _, c => ([], c)
def seqs : List Code → Code → Code
  | [], c => c
  | x :: l, c => .seq x (seqs l c)
theorem seqs_split (p : Pk) (c : Code) : seqs (splitC p c).1 (splitC p c).2 = c := by
  induction p generalizing c with
  | z => cases c <;> rfl
  | s p ih => cases c <;> simp [splitC, seqs, ih]
/-- statements one after the other, then K -/
def wpL (P : Program) (C : Orc) (nt n0 : Nat) (K : Env → Heap → Prop) (Q : Post) : List Code → Env → Heap → Prop
  | [], ρ, H => K ρ H
  | x :: l, ρ, H => wpX P C nt (LoopK P C nt n0 4) x (thenA (wpL P C nt n0 K Q l) Q) ρ H
section
variable {P : Program} {C : Orc} {nt n0 : Nat} {ρ : Env} {H : Heap}
theorem codeRF_seqs : ∀ {l : List Code} {c : Code}, codeRF C (seqs l c) = true → (∀ x ∈ l, codeRF C x = true) ∧ codeRF C c = true
  | [], c, h => ⟨fun x hx => by simp at hx, h⟩
  | x :: l, c, h => by
    simp only [seqs, codeRF, Bool.and_eq_true] at h
    obtain ⟨h1, h2⟩ := codeRF_seqs h.2
    refine ⟨fun y hy => ?_, h2⟩
    rcases List.mem_cons.1 hy with rfl | hy
    · exact h.1
    · exact h1 y hy
theorem wpL_sound (hC : OrcOk P C) (hm : P.follows .mixedOrders = true) {c : Code} {Q : Post} : ∀ (l : List Code) (ρ : Env) (H : Heap), (∀ x ∈ l, codeRF C x = true) → wpL P C nt n0 (AWp P nt n0 c Q) Q l ρ H → AWp P nt n0 (seqs l c) Q ρ H
  | [], ρ, H, _, h => h
  | x :: l, ρ, H, hrf, h => by
    refine AWp.seq (AWp.mono (wpA_sound hC hm x _ _ _ (hrf x (List.mem_cons_self ..)) h) fun e ρ' H' q => ?_)
    cases e with
    | normal => exact wpL_sound hC hm l ρ' H' (fun y hy => hrf y (List.mem_cons_of_mem _ hy)) q
    | _ => exact q
theorem AWp.split (hC : OrcOk P C) (hm : P.follows .mixedOrders = true) {c : Code} {Q : Post} (p : Pk) (hrf : codeRF C c = true) (h : wpL P C nt n0 (AWp P nt n0 (splitC p c).2 Q) Q (splitC p c).1 ρ H) : AWp P nt n0 c Q ρ H := by
  have := seqs_split p c
  rw [← this] at hrf
  have h2 := wpL_sound hC hm _ _ _ (codeRF_seqs hrf).1 h
  rwa [this] at h2
end
end Go.AI
/- Code that is run: an interpreter that computes. -/
namespace Go.AI
set_option linter.unusedSimpArgs false
set_option linter.unusedVariables false
open Go.RowKit
abbrev Res := Exit × Env × Heap
def IsX (r : Res) : Post := fun e ρ H => r = (e, ρ, H)
section
variable {P : Program} {C : Orc} {nt n0 : Nat}
end
/-- what is known of a program ahead: the pairs to watch, the orders, who only reads, who may be called -/
structure Tab where
  dyn : FuncId → Nat → List (Nat × Nat)
  alt : FuncId → Nat → List Nat
  rdf : FuncId → Bool
  fin : FuncId → Bool
def orcX (T : Tab) (X : FuncId → Row → Heap → Option (AVal × Heap)) (g : FuncId) : Orc where
  pure := fun _ _ => none
  inl := fun f => !T.rdf f
  inline := X
  dyn := T.dyn g
  fp := fun _ _ => none
  alt := T.alt g
  rd := fun f => if T.rdf f = true then some (fun args H => (X f args H).map Prod.fst) else none
  cl := fun _ => false
section
variable {P : Program} {C : Orc} {nt : Nat}
theorem step1_quiet {ops : Array Oper} {o : Oper} {s s' : Env × Heap} (hh : hk C.inl o ≠ 2) (h : step1 P C nt ops o s = some s') : s'.2 = s.2 := by
  have he : ∀ f, ev s.1 (.func f) = .fn f [] := fun _ => rfl
  unfold step1 at h
  split at h
  · split at h
    · simp only [Option.map_eq_some_iff] at h
      obtain ⟨r, hr, rfl⟩ := h
      exact astep_read (av := r.1) he hh hr
    · split at h
      · unfold gsel at h
        have : (hk C.inl o == 2) = false := by simpa using hh
        rw [this] at h
        simp only [Bool.false_eq_true, if_false] at h
        split at h
        · cases h
        · simp only [Option.some.injEq] at h; subst h; rfl
      · cases h
  · cases h
def quietR (inl : FuncId → Bool) (ops : Array Oper) : Bool := ops.toList.all fun o => !(hk inl o == 2)
def quietC (inl : FuncId → Bool) : Code → Bool
  | .region _ ops _ => quietR inl ops
  | .seq x y => quietC inl x && quietC inl y
  | .cond _ x y => quietC inl x && quietC inl y
  | .block _ x => quietC inl x
  | .loop x => quietC inl x
  | _ => true
theorem runL_quiet {ops : Array Oper} : ∀ {l : List Oper} {s s' : Env × Heap}, (∀ o ∈ l, hk C.inl o ≠ 2) → runL P C nt ops l s = some s' → s'.2 = s.2
  | [], s, s', _, h => by simp only [runL, Option.some.injEq] at h; subst h; rfl
  | o :: l, s, s', hl, h => by
    simp only [runL] at h
    split at h
    · rename_i s1 h1
      rw [runL_quiet (fun o ho => hl o (List.mem_cons_of_mem _ ho)) h, step1_quiet (hl o List.mem_cons_self) h1]
    · cases h
end
section
variable {P : Program} {C : Orc} {nt : Nat}
end
def noX : FuncId → Row → Heap → Option (AVal × Heap) := fun _ _ _ => none
structure TabOk (P : Program) (T : Tab) : Prop where
  rf : ∀ f fn c, T.fin f = true → P.funcs[f]? = some fn → fn.body = some c → codeRF (orcX T noX f) c = true
  qt : ∀ f fn c, T.rdf f = true → P.funcs[f]? = some fn → fn.body = some c → quietC (fun g => !T.rdf g) c = true
section
variable {P : Program} {T : Tab} {k : Nat}
end
end Go.AI
