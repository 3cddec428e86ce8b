/- A function that hands an argument on, or new memory: its answer is what it was handed, known no better. -/
import Derived.Test.YtebpjfdbjhodiaaAiZh
namespace Go.AI
set_option linter.unusedSimpArgs false
set_option linter.unusedVariables false
open Go.RowKit
def passI (m : Row → Option AVal) : Row → Heap → Option (AVal × Heap) := fun args H => (m args).map fun r => (r, H)
section
variable {P : Program} {f : FuncId} {fn : Func} {code : Code} {α₁ α₂ α₃ α₄ : Type} {n0 : Nat} {H : Heap}
theorem pass_1 {c1 : Cod α₁} (hf : P.funcs[f]? = some fn) (hb : fn.body = some code) {g : α₁ → Option AVal} (h : ∀ e1 r, g e1 = some r → ∀ H, BodyE P fn code [c1.enc e1] H r H) : InlOk P f (passI (argM c1 fun e1 => finM (g e1))) :=
  inl_canonE hf hb fun args H r H' hr => by
    simp only [passI, Option.map_eq_some_iff, Prod.mk.injEq] at hr
    obtain ⟨r0, hr, rfl, rfl⟩ := hr
    obtain ⟨x1, e1, r1, rfl, h1, hr⟩ := argM_some hr
    obtain ⟨rfl, hr⟩ := finM_some hr
    exact ⟨_, .cons c1 h1 .nil, h e1 r0 hr H⟩
theorem pass_2 {c1 : Cod α₁} {c2 : Cod α₂} (hf : P.funcs[f]? = some fn) (hb : fn.body = some code) {g : α₁ → α₂ → Option AVal} (h : ∀ e1 e2 r, g e1 e2 = some r → ∀ H, BodyE P fn code [c1.enc e1, c2.enc e2] H r H) : InlOk P f (passI (argM c1 fun e1 => argM c2 fun e2 => finM (g e1 e2))) :=
  inl_canonE hf hb fun args H r H' hr => by
    simp only [passI, Option.map_eq_some_iff, Prod.mk.injEq] at hr
    obtain ⟨r0, hr, rfl, rfl⟩ := hr
    obtain ⟨x1, e1, r1, rfl, h1, hr⟩ := argM_some hr
    obtain ⟨x2, e2, r2, rfl, h2, hr⟩ := argM_some hr
    obtain ⟨rfl, hr⟩ := finM_some hr
    exact ⟨_, .cons c1 h1 (.cons c2 h2 .nil), h e1 e2 r0 hr H⟩
theorem pass_3 {c1 : Cod α₁} {c2 : Cod α₂} {c3 : Cod α₃} (hf : P.funcs[f]? = some fn) (hb : fn.body = some code) {g : α₁ → α₂ → α₃ → Option AVal} (h : ∀ e1 e2 e3 r, g e1 e2 e3 = some r → ∀ H, BodyE P fn code [c1.enc e1, c2.enc e2, c3.enc e3] H r H) : InlOk P f (passI (argM c1 fun e1 => argM c2 fun e2 => argM c3 fun e3 => finM (g e1 e2 e3))) :=
  inl_canonE hf hb fun args H r H' hr => by
    simp only [passI, Option.map_eq_some_iff, Prod.mk.injEq] at hr
    obtain ⟨r0, hr, rfl, rfl⟩ := hr
    obtain ⟨x1, e1, r1, rfl, h1, hr⟩ := argM_some hr
    obtain ⟨x2, e2, r2, rfl, h2, hr⟩ := argM_some hr
    obtain ⟨x3, e3, r3, rfl, h3, hr⟩ := argM_some hr
    obtain ⟨rfl, hr⟩ := finM_some hr
    exact ⟨_, .cons c1 h1 (.cons c2 h2 (.cons c3 h3 .nil)), h e1 e2 e3 r0 hr H⟩
theorem look_sub {ρ' ρ : Env} (h : ∀ p ∈ ρ', look ρ p.1 = p.2) (s : Nat) : look ρ' s = look ρ s ∨ look ρ' s = .junk := by
  induction ρ' with
  | nil => exact .inr rfl
  | cons p ρ' ih =>
    obtain ⟨t, x⟩ := p
    simp only [look]
    split
    · rename_i e; subst e; exact .inl (h (s, x) List.mem_cons_self).symm
    · exact ih fun q hq => h q (List.mem_cons_of_mem _ hq)
/-- a part of the slots, whatever the memory -/
theorem Ent.env {ρ' ρ : Env} (hl : ∀ p ∈ ρ', look ρ p.1 = p.2) : Ent n0 (ρ', H) (ρ, H) := by
  intro f base w0 β fz act w hn0 h
  refine ⟨β, fz, ⟨h.heap, h.defers, h.size, h.ext, fun s => ?_⟩⟩
  simp only
  rcases look_sub hl s with e | e
  · rw [e]; exact h.env s
  · rw [e]; exact .junk
end
section
variable {P : Program} {f : FuncId} {fn : Func} {c : Code} {α₁ α₂ α₃ α₄ α₅ α₆ α₇ : Type}
theorem pure7 {c1 : Cod α₁} {c2 : Cod α₂} {c3 : Cod α₃} {c4 : Cod α₄} {c5 : Cod α₅} {c6 : Cod α₆} {c7 : Cod α₇} (hf : P.funcs[f]? = some fn) (hb : fn.body = some c) {g : α₁ → α₂ → α₃ → α₄ → α₅ → α₆ → α₇ → Option AVal} (h : ∀ e1 e2 e3 e4 e5 e6 e7 r, g e1 e2 e3 e4 e5 e6 e7 = some r → Body P fn c [c1.enc e1, c2.enc e2, c3.enc e3, c4.enc e4, c5.enc e5, c6.enc e6, c7.enc e7] r) : PureOk P f (argM c1 fun e1 => argM c2 fun e2 => argM c3 fun e3 => argM c4 fun e4 => argM c5 fun e5 => argM c6 fun e6 => argM c7 fun e7 => finM (g e1 e2 e3 e4 e5 e6 e7)) := by
  refine pure_canon hf hb fun args r hr => ?_
  obtain ⟨x1, e1, r1, rfl, h1, hr⟩ := argM_some hr
  obtain ⟨x2, e2, r2, rfl, h2, hr⟩ := argM_some hr
  obtain ⟨x3, e3, r3, rfl, h3, hr⟩ := argM_some hr
  obtain ⟨x4, e4, r4, rfl, h4, hr⟩ := argM_some hr
  obtain ⟨x5, e5, r5, rfl, h5, hr⟩ := argM_some hr
  obtain ⟨x6, e6, r6, rfl, h6, hr⟩ := argM_some hr
  obtain ⟨x7, e7, r7, rfl, h7, hr⟩ := argM_some hr
  obtain ⟨rfl, hr⟩ := finM_some hr
  exact ⟨_, .cons c1 h1 (.cons c2 h2 (.cons c3 h3 (.cons c4 h4 (.cons c5 h5 (.cons c6 h6 (.cons c7 h7 .nil)))))), h e1 e2 e3 e4 e5 e6 e7 r hr⟩
end
section
variable {P : Program} {C : Orc} {nt n0 : Nat} {ρ : Env} {H : Heap}
/-- a loop from 0 to n, as long as any list is -/
theorem loop_forM {K : Nat} {c : Code} {Q : Post} {α : Type} (n : Nat) (st : Nat → α → Env × Heap) (inv : Nat → α → Prop) (a0 : α) (hn : n ≤ 9223372036854775807) (hi : inv 0 a0) (h0 : Weaker n0 (st 0 a0) (ρ, H))
    (step : ∀ k a, k < n → inv k a → IntKind.i64.wrap ((k : Int) + 1) = (k : Int) + 1 → wpX P C nt (LoopK P C nt n0 K) c (thenA (NextF n0 st inv (k + 1)) Q) (st k a).1 (st k a).2)
    (last : ∀ a, inv n a → wpX P C nt (LoopK P C nt n0 K) c (thenA (fun _ _ => False) Q) (st n a).1 (st n a).2) : LoopK P C nt n0 (K + 1) c Q ρ H := by
  refine loop_inv (σ := {p : Nat × α // p.1 ≤ n ∧ inv p.1 p.2}) (fun p => st p.val.1 p.val.2) (fun p => n - p.val.1) ⟨(0, a0), Nat.zero_le _, hi⟩ h0 ?_
  rintro ⟨⟨k, a⟩, hk, hka⟩
  simp only at hk hka ⊢
  rcases Nat.lt_or_ge k n with hlt | hge
  · refine wpX_mono (LoopK_mono K) c _ _ _ _ (thenA_mono ?_ fun _ _ _ q => q) (step k a hlt hka (w64 (by omega) (by omega)))
    rintro ρ H ⟨a', h1, h2⟩
    exact ⟨⟨(k + 1, a'), hlt, h1⟩, by simp only; omega, h2⟩
  · have : k = n := by omega
    subst this
    exact wpX_mono (LoopK_mono K) c _ _ _ _ (thenA_mono (fun _ _ q => q.elim) fun _ _ _ q => q) (last a hka)
end
end Go.AI
