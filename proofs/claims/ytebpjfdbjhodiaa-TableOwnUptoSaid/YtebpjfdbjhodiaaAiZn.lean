/- Code walked statement by statement, up to a place. -/
import Derived.Test.YtebpjfdbjhodiaaAiZm
namespace Go.AI
set_option linter.unusedSimpArgs false
set_option linter.unusedVariables false
inductive Pk where
  | z
  | s (p : Pk)
def splitC : Pk → Code → List Code × Code
  | .s p, .seq x y => (x :: (splitC p y).1, (splitC p y).2)
  | _, c => ([], c)
def seqs : List Code → Code → Code
  | [], c => c
  | x :: l, c => .seq x (seqs l c)
theorem seqs_split (p : Pk) (c : Code) : seqs (splitC p c).1 (splitC p c).2 = c := by
  induction p generalizing c with
  | z => cases c <;> rfl
  | s p ih => cases c <;> simp [splitC, seqs, ih]
/-- statements one after the other, then K -/
def wpL (P : Program) (C : Orc) (nt n0 : Nat) (K : Env → Heap → Prop) (Q : Post) : List Code → Env → Heap → Prop
  | [], ρ, H => K ρ H
  | x :: l, ρ, H => wpX P C nt (LoopK P C nt n0 4) x (thenA (wpL P C nt n0 K Q l) Q) ρ H
section
variable {P : Program} {C : Orc} {nt n0 : Nat} {ρ : Env} {H : Heap}
theorem codeRF_seqs : ∀ {l : List Code} {c : Code}, codeRF C (seqs l c) = true → (∀ x ∈ l, codeRF C x = true) ∧ codeRF C c = true
  | [], c, h => ⟨fun x hx => by simp at hx, h⟩
  | x :: l, c, h => by
    simp only [seqs, codeRF, Bool.and_eq_true] at h
    obtain ⟨h1, h2⟩ := codeRF_seqs h.2
    refine ⟨fun y hy => ?_, h2⟩
    rcases List.mem_cons.1 hy with rfl | hy
    · exact h.1
    · exact h1 y hy
theorem wpL_sound (hC : OrcOk P C) (hm : P.follows .mixedOrders = true) {c : Code} {Q : Post} : ∀ (l : List Code) (ρ : Env) (H : Heap), (∀ x ∈ l, codeRF C x = true) → wpL P C nt n0 (AWp P nt n0 c Q) Q l ρ H → AWp P nt n0 (seqs l c) Q ρ H
  | [], ρ, H, _, h => h
  | x :: l, ρ, H, hrf, h => by
    refine AWp.seq (AWp.mono (wpA_sound hC hm x _ _ _ (hrf x (List.mem_cons_self ..)) h) fun e ρ' H' q => ?_)
    cases e with
    | normal => exact wpL_sound hC hm l ρ' H' (fun y hy => hrf y (List.mem_cons_of_mem _ hy)) q
    | _ => exact q
theorem AWp.split (hC : OrcOk P C) (hm : P.follows .mixedOrders = true) {c : Code} {Q : Post} (p : Pk) (hrf : codeRF C c = true) (h : wpL P C nt n0 (AWp P nt n0 (splitC p c).2 Q) Q (splitC p c).1 ρ H) : AWp P nt n0 c Q ρ H := by
  have := seqs_split p c
  rw [← this] at hrf
  have h2 := wpL_sound hC hm _ _ _ (codeRF_seqs hrf).1 h
  rwa [this] at h2
end
end Go.AI
