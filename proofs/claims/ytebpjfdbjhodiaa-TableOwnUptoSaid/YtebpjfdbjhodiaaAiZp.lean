/- Contracts that answer one of several states: heads; a whole object known a little less. -/
import Derived.Test.YtebpjfdbjhodiaaAiZn
namespace Go.AI
set_option linter.unusedSimpArgs false
set_option linter.unusedVariables false
open Go.RowKit
section
variable {P : Program} {f : FuncId} {fn : Func} {code : Code} {σ α₁ α₂ α₃ α₄ α₅ : Type}
def own0R (k : Row → Option (σ → AVal × Heap)) : Row → Heap → Option (σ → AVal × Heap)
  | args, [] => k args
  | _, _ :: _ => none
def BodyR (P : Program) (fn : Func) (c : Code) (args : Row) (g : σ → AVal × Heap) : Prop :=
  args.length ≤ fn.ntmps ∧ AWp P fn.ntmps 0 c (retA P fn fun x H2 => ∃ y, Ent 0 ([(0, (g y).1)], (g y).2) ([(0, x)], H2)) (envOf 0 args) []
theorem inlR_canonE (hf : P.funcs[f]? = some fn) (hb : fn.body = some code) {k : Row → Option (σ → AVal × Heap)}
    (h : ∀ args g, k args = some g → ∃ args', Canon args args' ∧ BodyR P fn code args' g) : InlR P f (own0R k) := by
  intro args H g hr base w0 β fz w vals hs hargs
  cases H with
  | cons o H => simp [own0R] at hr
  | nil =>
    simp only [own0R] at hr
    obtain ⟨args', hc, h1, h2⟩ := h args g hr
    refine .of hf hb (body_calls hf hb h1 h2 ⟨fn.ntmps, 0, β, fz, w⟩ rfl rfl hs (Ext.refl _ _ _ _) (hc.argsX hargs) _ ?_)
    rintro x v β' fz' H2 w' ⟨y, hx⟩ hs' he hR
    obtain ⟨β2, fz2, q1, q2, q3⟩ := hsim_ent hs' he hR hx
    exact ⟨y, v, β2, fz2, rfl, q1, q2, q3⟩
theorem ownR_2 {c1 : Cod α₁} {c2 : Cod α₂} (hf : P.funcs[f]? = some fn) (hb : fn.body = some code) {g : α₁ → α₂ → Option (σ → AVal × Heap)} (h : ∀ e1 e2 r, g e1 e2 = some r → BodyR P fn code [c1.enc e1, c2.enc e2] r) : InlR P f (own0R (argG c1 fun e1 => argG c2 fun e2 => finG (g e1 e2))) := by
  refine inlR_canonE hf hb fun args r hr => ?_
  obtain ⟨x1, e1, r1, rfl, h1, hr⟩ := argG_some hr
  obtain ⟨x2, e2, r2, rfl, h2, hr⟩ := argG_some hr
  obtain ⟨rfl, hr⟩ := finG_some hr
  exact ⟨_, .cons c1 h1 (.cons c2 h2 .nil), h e1 e2 r hr⟩
theorem ownR_3 {c1 : Cod α₁} {c2 : Cod α₂} {c3 : Cod α₃} (hf : P.funcs[f]? = some fn) (hb : fn.body = some code) {g : α₁ → α₂ → α₃ → Option (σ → AVal × Heap)} (h : ∀ e1 e2 e3 r, g e1 e2 e3 = some r → BodyR P fn code [c1.enc e1, c2.enc e2, c3.enc e3] r) : InlR P f (own0R (argG c1 fun e1 => argG c2 fun e2 => argG c3 fun e3 => finG (g e1 e2 e3))) := by
  refine inlR_canonE hf hb fun args r hr => ?_
  obtain ⟨x1, e1, r1, rfl, h1, hr⟩ := argG_some hr
  obtain ⟨x2, e2, r2, rfl, h2, hr⟩ := argG_some hr
  obtain ⟨x3, e3, r3, rfl, h3, hr⟩ := argG_some hr
  obtain ⟨rfl, hr⟩ := finG_some hr
  exact ⟨_, .cons c1 h1 (.cons c2 h2 (.cons c3 h3 .nil)), h e1 e2 e3 r hr⟩
theorem ownR_5 {c1 : Cod α₁} {c2 : Cod α₂} {c3 : Cod α₃} {c4 : Cod α₄} {c5 : Cod α₅} (hf : P.funcs[f]? = some fn) (hb : fn.body = some code) {g : α₁ → α₂ → α₃ → α₄ → α₅ → Option (σ → AVal × Heap)} (h : ∀ e1 e2 e3 e4 e5 r, g e1 e2 e3 e4 e5 = some r → BodyR P fn code [c1.enc e1, c2.enc e2, c3.enc e3, c4.enc e4, c5.enc e5] r) : InlR P f (own0R (argG c1 fun e1 => argG c2 fun e2 => argG c3 fun e3 => argG c4 fun e4 => argG c5 fun e5 => finG (g e1 e2 e3 e4 e5))) := by
  refine inlR_canonE hf hb fun args r hr => ?_
  obtain ⟨x1, e1, r1, rfl, h1, hr⟩ := argG_some hr
  obtain ⟨x2, e2, r2, rfl, h2, hr⟩ := argG_some hr
  obtain ⟨x3, e3, r3, rfl, h3, hr⟩ := argG_some hr
  obtain ⟨x4, e4, r4, rfl, h4, hr⟩ := argG_some hr
  obtain ⟨x5, e5, r5, rfl, h5, hr⟩ := argG_some hr
  obtain ⟨rfl, hr⟩ := finG_some hr
  exact ⟨_, .cons c1 h1 (.cons c2 h2 (.cons c3 h3 (.cons c4 h4 (.cons c5 h5 .nil)))), h e1 e2 e3 e4 e5 r hr⟩
theorem bodyR_of {C : Orc} {args : Row} {g : σ → AVal × Heap} (hC : OrcOk P C) (hm : P.follows .mixedOrders = true) (hrf : codeRF C code = true) (hn : args.length ≤ fn.ntmps)
    (h : ∀ C' : Orc, C'.pure = C.pure → C'.inl = C.inl → C'.inline = C.inline → C'.dyn = C.dyn → C'.fp = C.fp → C'.alt = C.alt → C'.rd = C.rd → C'.cl = C.cl → wpA P C' fn.ntmps 0 code (retA P fn fun x H2 => ∃ y, Ent 0 ([(0, (g y).1)], (g y).2) ([(0, x)], H2)) (envOf 0 args) []) : BodyR P fn code args g :=
  ⟨hn, wpA_sound hC hm _ _ _ _ hrf (h C rfl rfl rfl rfl rfl rfl rfl rfl)⟩
/-- the same, statement by statement up to a place; what stands there comes as AWp -/
theorem bodyR_split {C : Orc} {args : Row} {g : σ → AVal × Heap} (p : Pk) (hC : OrcOk P C) (hm : P.follows .mixedOrders = true) (hrf : codeRF C code = true) (hn : args.length ≤ fn.ntmps)
    (h : ∀ C' : Orc, C'.pure = C.pure → C'.inl = C.inl → C'.inline = C.inline → C'.dyn = C.dyn → C'.fp = C.fp → C'.alt = C.alt → C'.rd = C.rd → C'.cl = C.cl → OrcOk P C' → (∀ c, codeRF C' c = codeRF C c) → wpL P C' fn.ntmps 0 (AWp P fn.ntmps 0 (splitC p code).2 (retA P fn fun x H2 => ∃ y, Ent 0 ([(0, (g y).1)], (g y).2) ([(0, x)], H2))) (retA P fn fun x H2 => ∃ y, Ent 0 ([(0, (g y).1)], (g y).2) ([(0, x)], H2)) (splitC p code).1 (envOf 0 args) []) : BodyR P fn code args g :=
  ⟨hn, AWp.split hC hm p hrf (h C rfl rfl rfl rfl rfl rfl rfl rfl hC (fun _ => rfl))⟩
theorem body_split {C : Orc} {args : Row} {r : AVal} (p : Pk) (hC : OrcOk P C) (hm : P.follows .mixedOrders = true) (hrf : codeRF C code = true) (hn : args.length ≤ fn.ntmps)
    (h : ∀ C' : Orc, C'.pure = C.pure → C'.inl = C.inl → C'.inline = C.inline → C'.dyn = C.dyn → C'.fp = C.fp → C'.alt = C.alt → C'.rd = C.rd → C'.cl = C.cl → OrcOk P C' → (∀ c, codeRF C' c = codeRF C c) → wpL P C' fn.ntmps 0 (AWp P fn.ntmps 0 (splitC p code).2 (retA P fn fun x H => view H depthV x = r ∧ hot r = true)) (retA P fn fun x H => view H depthV x = r ∧ hot r = true) (splitC p code).1 (envOf 0 args) []) : Body P fn code args r :=
  ⟨hn, AWp.split hC hm p hrf (h C rfl rfl rfl rfl rfl rfl rfl rfl hC (fun _ => rfl))⟩
/-- a whole object, known a little less -/
theorem Ent.rowsL {n0 : Nat} {H : Heap} {ρ : Env} {M szM : Nat} {R R' : List Row} (hM : obj H M = some (szM, R)) (hl : R'.length = R.length) (hr : ∀ (i : Nat) (r r' : Row), R[i]? = some r → R'[i]? = some r' → r'.length = r.length ∧ ∀ (j : Nat) (a b : AVal), r[j]? = some a → r'[j]? = some b → Lss a b) :
    Ent n0 (ρ, H.set M (some (szM, R'))) (ρ, H) := by
  intro f base w0 β fz act w hn0 h
  obtain ⟨hM1, hM2⟩ := obj_live hM
  have hlt : M < H.length := (List.getElem?_eq_some_iff.1 hM1).1
  have hold : ∀ k x, (H.set M (some (szM, R')))[k]? = some (some x) → Live H k := by
    intro k x hk
    by_cases e : k = M
    · subst e; exact ⟨_, hM1⟩
    · rw [List.getElem?_set_ne (fun q => e q.symm)] at hk; exact ⟨_, hk⟩
  refine ⟨β, fz, ⟨⟨?_, ?_, ?_, h.heap.fzlt, h.heap.below, h.heap.base⟩, h.defers, h.size, ?_, ?_⟩⟩
  · intro k sz rws hk
    simp only [List.length_set]
    by_cases e : k = M
    · subst e
      rw [List.getElem?_set_self hlt] at hk
      simp only [Option.some.injEq, Prod.mk.injEq] at hk
      obtain ⟨rfl, rfl⟩ := hk
      rw [OSim, if_neg hM2]
      obtain ⟨cs, e, g1, g2, g3, g4, g5⟩ := h.heap.cells0 hM1 hM2
      have hat : ∀ (i : Nat) (r' : Row), R'[i]? = some r' → ∃ r, R[i]? = some r := fun i r' hi => by
        have : i < R.length := by have := (List.getElem?_eq_some_iff.1 hi).1; omega
        exact ⟨_, List.getElem?_eq_getElem this⟩
      refine ⟨cs, e, g1, ?_, by rw [hl]; exact g3, g4, ?_⟩
      · intro r' hr'
        obtain ⟨i, hi⟩ := List.getElem?_of_mem hr'
        obtain ⟨r, hri⟩ := hat i r' hi
        rw [(hr i r r' hri hi).1]
        exact g2 r (List.mem_of_getElem? hri)
      · intro i r' hi j c hj
        obtain ⟨r, hri⟩ := hat i r' hi
        obtain ⟨q1, q2⟩ := hr i r r' hri hi
        have hjl : j < r.length := by have := (List.getElem?_eq_some_iff.1 hj).1; omega
        exact q2 j _ c (List.getElem?_eq_getElem hjl) hj (fun o b hb => ⟨hb.1, fun q => by cases q⟩) (g5 i r hri j _ (List.getElem?_eq_getElem hjl))
    · rw [List.getElem?_set_ne (fun q => e q.symm)] at hk
      exact h.heap.objs' k sz rws hk
  · exact fun a b ⟨x, hx⟩ ⟨y, hy⟩ => h.heap.inj a b (hold _ _ hx) (hold _ _ hy)
  · exact fun k ⟨x, hx⟩ => h.heap.own k (hold _ _ hx)
  · have := h.ext; simpa using this
  · exact fun s => (h.env s).mono (by simp) (fun _ _ => rfl) (fun _ _ q => q) (fun _ _ _ => rfl) (Shapes.refl _)
theorem Lss.junk {a : AVal} : Lss a .junk := fun _ _ => .junk
end
section
variable {P : Program} {C : Orc} {nt n0 : Nat} {ρ : Env} {H : Heap} {ops : Array Oper} {σ : Type}
theorem split_at {ops : Array Oper} {i : Nat} {o : Oper} (ho : ops.toList[i]? = some o) : ops.toList = ops.toList.take i ++ o :: ops.toList.drop (i + 1) := by
  obtain ⟨h, rfl⟩ := List.getElem?_eq_some_iff.1 ho
  rw [← List.drop_eq_getElem_cons h, List.take_append_drop]
/-- what a region with such an append asks -/
def AppA (P : Program) (C : Orc) (nt : Nat) (ops : Array Oper) (i : Nat) (s x : Operand) (d : Tmp) (id sz st len kc : Nat) (rows xr : List Row) (Q : Env → Heap → Prop) (ρ : Env) (H : Heap) : Prop :=
  match runL P C nt ops (ops.toList.take i) (ρ, H) with
  | some s1 => (rowsOf s1.2 sz (res true (ev s1.1 x)) = some xr ∧ res true (ev s1.1 s) = .osl id sz st len kc ∧ obj s1.2 id = some (sz, rows)) ∧
      ∀ b, match runL P C nt ops (ops.toList.drop (i + 1)) (put s1.1 (some d) (AI.appR id sz st len rows xr s1.2 b).1, (AI.appR id sz st len rows xr s1.2 b).2) with
        | some s2 => Q s2.1 s2.2
        | none => False
  | none => False
theorem AWp.appRi (hC : OrcOk P C) {id0 : Nat} (i : Nat) {o : Oper} {c : Call} {s x : Operand} {t u e e2 : TypeId} {sz by_ : Nat} {z : Value} (id st len kc : Nat) (rows xr : List Row) {d : Tmp} {Q : Post}
    (ho : ops.toList[i]? = some o) (hop : o.op = .call c) (hcal : c.callee = .builtin .append) (hargs : c.args = #[s, x]) (hty : c.argTypes = #[t, u]) (hgd : o.guard = none) (hdst : o.dst = some d) (hd : d < nt)
    (hE : sliceElem P t = some e) (hE2 : sliceElem P u = some e2) (hsz : szOf P e = some sz) (hz : zeroOf P e = some z) (hby : bytesOf P e = some by_)
    (hzs : z.cells.size = sz) (hzo : allOne z.cells.toList = true) (h0 : 0 < sz) (hb : by_ ≤ 8192) (hx1 : 0 < xr.length) (hsl : st + len = rows.length) (hneed : len + xr.length ≤ 4294967296)
    (h : AppA P C nt ops i s x d id sz st len kc rows xr (Q .normal) ρ H) : AWp P nt n0 (.region id0 ops false) Q ρ H := by
  unfold AppA at h
  split at h
  · rename_i s1 h1
    exact AWp.appR hC (split_at ho) hop hcal hargs hty hgd hdst hd hE hE2 hsz hz hby hzs hzo h0 hb h1 h.1.1 hx1 h.1.2.1 h.1.2.2 hsl hneed h.2
  · exact h.elim
/-- what a region with a call whose answer is one of several asks -/
def CalA (P : Program) (C : Orc) (nt : Nat) (ops : Array Oper) (i : Nat) (args : List Operand) (d : Tmp) (m : Row → Heap → Option (σ → AVal × Heap)) (g : σ → AVal × Heap) (Q : Env → Heap → Prop) (ρ : Env) (H : Heap) : Prop :=
  match runL P C nt ops (ops.toList.take i) (ρ, H) with
  | some s1 => m (args.map fun x => res true (ev s1.1 x)) s1.2 = some g ∧
      ∀ x, match runL P C nt ops (ops.toList.drop (i + 1)) (put s1.1 (some d) (g x).1, (g x).2) with
        | some s2 => Q s2.1 s2.2
        | none => False
  | none => False
theorem AWp.callRi (hC : OrcOk P C) {id : Nat} (i : Nat) {o : Oper} {c : Call} {f : FuncId} {fn : Func} {d : Tmp} {m : Row → Heap → Option (σ → AVal × Heap)} (g : σ → AVal × Heap) {Q : Post}
    (ho : ops.toList[i]? = some o) (hop : o.op = .call c) (hf : c.callee = .value (.func f)) (hgd : o.guard = none) (hdst : o.dst = some d) (hd : d < nt)
    (hfn : P.funcs[f]? = some fn) (hname : ¬ fn.name = "runtime.NumGoroutine") (hbody : fn.body.isNone = false) (hm : InlR P f m)
    (h : CalA P C nt ops i c.args.toList d m g (Q .normal) ρ H) : AWp P nt n0 (.region id ops false) Q ρ H := by
  unfold CalA at h
  split at h
  · rename_i s1 h1
    exact AWp.callR hC (split_at ho) hop hf hgd hdst hd hfn hname hbody hm h1 h.1 h.2
  · exact h.elim
theorem AWp.heapE {c : Code} {Q : Post} {H' : Heap} (h : H = H') (hA : AWp P nt n0 c Q ρ H') : AWp P nt n0 c Q ρ H := by rw [h]; exact hA
end
end Go.AI
