/- One operation; a region in the order of its text. -/
import Derived.Test.YtibpipgabcpaoaaAiFm
import Derived.Test.YtibpipgabcpaoaaAiLs
namespace Go.AI
set_option linter.unusedSimpArgs false
set_option linter.unusedVariables false
open Go.RowKit
section
variable {base : Nat} {w0 : World} {β : Nat → Nat} {fz : Nat → Prop} {e' : AEv} {H H' : Heap} {a : Act} {w : World} {P : Program} {C : Orc} {o : Oper} {av : AVal} {n : Nat} {ok ok' : Bool → Nat → Prop}
theorem valsOf_eval (hs : SimE base w0 β fz e' H a w) : ∀ (xs : List Operand) (vs : List Value), valsOf (xs.map (e')) = some vs → xs.map a.eval = vs
 | [], vs, h => by simp [valsOf] at h; subst h; rfl
 | x :: xs, vs, h => by
  simp only [List.map_cons] at h
  have hx := hs.ev x
  generalize e' x = y at *
  cases y <;> simp only [valsOf, reduceCtorEq, Option.map_eq_some_iff] at h
  obtain ⟨ys, hy, rfl⟩ := h
  rw [List.map_cons, valsOf_eval hs xs ys hy, hx.v_inv]
theorem arr1 {α : Type} {xs : Array α} {x : α} (h : xs.toList = [x]) : xs = #[x] := by
 cases xs; simpa using h
theorem arr2 {α : Type} {xs : Array α} {x y : α} (h : xs.toList = [x, y]) : xs = #[x, y] := by
 cases xs; simpa using h
theorem does_builtin {c : Call} {b : Builtin} (hop : o.op = .call c) (hf : c.callee = .builtin b) (hs : SimE base w0 β fz e' H a w)
  (h : aBuiltin P b c.argTypes (c.args.toList.map (e')) H = some (av, H')) : Does P o a w base w0 β fz H av H' := by
 have hex : execOp a.eval o = builtin b c.argTypes o.type (c.args.map fun | .const _ => true | _ => false) (c.args.map a.eval) := by
  simp only [execOp, hop, resolve, hf]; rfl
 have hargs1 : ∀ x : AVal, c.args.toList.map (e') = [x] → ∃ p, c.args = #[p] ∧ e' p = x := by
  intro x hx
  obtain ⟨p, hp1, hp2⟩ : ∃ p, c.args.toList = [p] ∧ e' p = x := by
   cases hl : c.args.toList with
   | nil => simp [hl] at hx
   | cons p r => cases r <;> simp [hl] at hx; exact ⟨p, rfl, hx⟩
  exact ⟨p, arr1 hp1, hp2⟩
 have hargs2 : ∀ x y : AVal, c.args.toList.map (e') = [x, y] → ∃ p q, c.args = #[p, q] ∧ e' p = x ∧ e' q = y := by
  intro x y hx
  obtain ⟨p, q, hp1, hp2, hp3⟩ : ∃ p q, c.args.toList = [p, q] ∧ e' p = x ∧ e' q = y := by
   cases hl : c.args.toList with
   | nil => simp [hl] at hx
   | cons p r =>
    cases r with
    | nil => simp [hl] at hx
    | cons q r => cases r <;> simp [hl] at hx; exact ⟨p, q, rfl, hx.1, hx.2⟩
  exact ⟨p, q, arr2 hp1, hp2, hp3⟩
 unfold aBuiltin at h
 split at h
 ·rename_i t x hts hx
  simp only [Option.map_eq_some_iff, Prod.mk.injEq] at h
  obtain ⟨r, hr, rfl, rfl⟩ := h
  obtain ⟨p, hp1, rfl⟩ := hargs1 _ hx
  refine does_len (t := t) (ty := o.type) (x := p) ?_ hs hr
  rw [hex, arr1 hts, hp1]; simp [builtin]
 ·rename_i t u s x hts hx
  split at h
  ·rename_i e2 hE2
   obtain ⟨p, q, hp1, rfl, rfl⟩ := hargs2 _ _ hx
   refine does_append (t := t) (u := u) (ty := o.type) (s := p) (x := q) ?_ hs hE2 h
   rw [hex, arr2 hts, hp1]; simp [builtin]
  ·obtain ⟨p, q, hp1, rfl, rfl⟩ := hargs2 _ _ hx
   refine does_appendZ (t := t) (u := u) (ty := o.type) (s := p) (x := q) ?_ hs h
   rw [hex, arr2 hts, hp1]; simp [builtin]
 ·rename_i t x hts hx
  simp only [Option.map_eq_some_iff, Prod.mk.injEq] at h
  obtain ⟨r, hr, rfl, rfl⟩ := h
  obtain ⟨p, hp1, rfl⟩ := hargs1 _ hx
  refine does_cap (t := t) (ty := o.type) (x := p) ?_ hs hr
  rw [hex, arr1 hts, hp1]; simp [builtin]
 ·rename_i t x hts hx
  obtain ⟨p, hp1, rfl⟩ := hargs1 _ hx
  refine does_clear (t := t) (ty := o.type) (x := p) ?_ hs h
  rw [hex, arr1 hts, hp1]; simp [builtin]
 ·rename_i t u d x hts hx
  obtain ⟨p, q, hp1, rfl, rfl⟩ := hargs2 _ _ hx
  refine does_copyX (t := t) (u := u) (ty := o.type) (d := p) (x := q) ?_ hs h
  rw [hex, arr2 hts, hp1]; simp [builtin]
 ·rename_i t u m k hts hx
  obtain ⟨p, q, hp1, rfl, rfl⟩ := hargs2 _ _ hx
  have ht0 : c.argTypes[0]? = some t := by
   have : c.argTypes.toList[0]? = some t := by rw [hts]; rfl
   simpa using this
  refine does_delete (t := t) (ts := c.argTypes) (ty := o.type) (m := p) (k := q) ?_ ht0 hs h
  rw [hex, hp1]; simp [builtin]
 ·split at h
  ·rename_i vs hvs
   simp only [Option.map_eq_some_iff, Prod.mk.injEq] at h
   obtain ⟨r, hr, rfl, rfl⟩ := h
   obtain ⟨z, hz, rfl⟩ := asV_some hr
   have hv := valsOf_eval hs _ _ hvs
   refine does_pure hs.heap (x := z) ?_ .v
   rw [hex]
   have : c.args.map a.eval = vs.toArray := by apply Array.ext'; rw [← hv]; exact Array.toList_map
   rw [this]
   simp only [builtin]
   have h2 : Builtin.min_ c.argTypes o.type vs.toArray = Builtin.min_ (c.argTypes.toList.toArray) 0 vs.toArray := rfl
   rw [h2, Sem.run_bind, pr_run hz w]; rfl
  ·cases h
 ·split at h
  ·rename_i vs hvs
   simp only [Option.map_eq_some_iff, Prod.mk.injEq] at h
   obtain ⟨r, hr, rfl, rfl⟩ := h
   obtain ⟨z, hz, rfl⟩ := asV_some hr
   have hv := valsOf_eval hs _ _ hvs
   refine does_pure hs.heap (x := z) ?_ .v
   rw [hex]
   have : c.args.map a.eval = vs.toArray := by apply Array.ext'; rw [← hv]; exact Array.toList_map
   rw [this]
   simp only [builtin]
   have h2 : Builtin.max_ c.argTypes o.type vs.toArray = Builtin.max_ (c.argTypes.toList.toArray) 0 vs.toArray := rfl
   rw [h2, Sem.run_bind, pr_run hz w]; rfl
  ·cases h
 ·cases h
theorem astepE_does (hC : OrcOk P C) (hs : SimE base w0 β fz e' H a w) (h : astepE P C e' o H = some (av, H')) : Does P o a w base w0 β fz H av H' := by
 unfold astepE at h
 split at h
 ·rename_i x hop
  simp only [Option.some.injEq, Prod.mk.injEq] at h
  obtain ⟨rfl, rfl⟩ := h
  exact does_move (.inl hop) hs
 ·rename_i x hop
  simp only [Option.some.injEq, Prod.mk.injEq] at h
  obtain ⟨rfl, rfl⟩ := h
  exact does_move (.inr hop) hs
 ·rename_i op t x y u hop
  split at h
  ·rename_i q hq
   simp only [Option.some.injEq, Prod.mk.injEq] at h
   obtain ⟨rfl, rfl⟩ := h
   exact does_bin hop hs hq
  ·split at h
   ·simp only [Option.map_eq_some_iff, Prod.mk.injEq] at h
    obtain ⟨q, hq, rfl, rfl⟩ := h
    exact does_eqH hop hs hq
   ·cases h
 ·rename_i op t x hop
  split at h
  ·rename_i y hy
   simp only [Option.map_eq_some_iff, Prod.mk.injEq] at h
   obtain ⟨q, hq, rfl, rfl⟩ := h
   exact does_un hop hs hy hq
  ·cases h
 ·rename_i s d x hop
  split at h
  ·rename_i y hy
   simp only [Option.map_eq_some_iff, Prod.mk.injEq] at h
   obtain ⟨q, hq, rfl, rfl⟩ := h
   exact does_conv hop hs hy hq
  ·cases h
 ·rename_i x i hop
  simp only [Option.map_eq_some_iff, Prod.mk.injEq] at h
  obtain ⟨q, hq, rfl, rfl⟩ := h
  exact does_extract hop hs hq
 ·rename_i t hop
  exact does_alloc hop hs h
 ·rename_i t x hop
  exact does_box hop hs h
 ·rename_i t parts hop
  simp only [Option.map_eq_some_iff, Prod.mk.injEq] at h
  obtain ⟨q, hq, rfl, rfl⟩ := h
  exact does_build hop hs hq
 ·rename_i t len parts hop
  exact does_buildSlice hop hs h
 ·rename_i t x hop
  simp only [Option.map_eq_some_iff, Prod.mk.injEq] at h
  obtain ⟨q, hq, rfl, rfl⟩ := h
  exact does_load hop hs hq
 ·rename_i t x y hop
  simp only [Option.map_eq_some_iff, Prod.mk.injEq] at h
  obtain ⟨q, hq, rfl, rfl⟩ := h
  exact does_store hop hs hq
 ·rename_i s x f hop
  simp only [Option.map_eq_some_iff, Prod.mk.injEq] at h
  obtain ⟨q, hq, rfl, rfl⟩ := h
  exact does_fieldAddr hop hs hq
 ·rename_i s x f hop
  simp only [Option.map_eq_some_iff, Prod.mk.injEq] at h
  obtain ⟨q, hq, rfl, rfl⟩ := h
  exact does_field hop hs hq
 ·rename_i t x i hop
  simp only [Option.map_eq_some_iff, Prod.mk.injEq] at h
  obtain ⟨q, hq, rfl, rfl⟩ := h
  exact does_indexAddr hop hs hq
 ·rename_i t x i hop
  simp only [Option.map_eq_some_iff, Prod.mk.injEq] at h
  obtain ⟨q, hq, rfl, rfl⟩ := h
  exact does_index hop hs hq
 ·rename_i t x lo hi mx hop
  split at h
  ·rename_i q hq
   simp only [Option.some.injEq, Prod.mk.injEq] at h
   obtain ⟨rfl, rfl⟩ := h
   exact does_slice hop hs hq
  ·split at h
   ·exact does_sliceA hop hs h
   ·cases h
 ·rename_i t l c hop
  exact does_makeSlice hop hs h
 ·rename_i x hop
  exact does_nilCheck hop hs h
 ·rename_i t hop
  simp only [Option.some.injEq, Prod.mk.injEq] at h
  obtain ⟨rfl, rfl⟩ := h
  exact does_makeMap hop hs
 ·rename_i t m k ok hop
  simp only [Option.map_eq_some_iff, Prod.mk.injEq] at h
  obtain ⟨q, hq, rfl, rfl⟩ := h
  exact does_lookup hop hs hq
 ·rename_i t m k x hop
  simp only [Option.map_eq_some_iff, Prod.mk.injEq] at h
  obtain ⟨q, hq, rfl, rfl⟩ := h
  exact does_mapUpdate hop hs hq
 ·rename_i t x hop
  exact does_range hop hs h
 ·rename_i x hop
  simp only [Option.map_eq_some_iff, Prod.mk.injEq] at h
  obtain ⟨q, hq, rfl, rfl⟩ := h
  exact does_entry hop hs hq
 ·rename_i f first caps hop
  split at h
  ·rename_i hf
   simp only [Option.some.injEq, Prod.mk.injEq] at h
   obtain ⟨rfl, rfl⟩ := h
   exact does_makeFunc hop hs hf
  ·cases h
 ·rename_i n first caps hop
  exact does_makeMeth hop hs h
 ·rename_i t x hop
  simp only [Option.map_eq_some_iff, Prod.mk.injEq] at h
  obtain ⟨q, hq, rfl, rfl⟩ := h
  exact does_mkI hop hs hq
 ·rename_i c hop
  split at h
  ·rename_i b hb
   exact does_builtin hop hb hs h
  ·rename_i f hf
   exact does_call hop hf hC hs h
  ·rename_i r name hf
   exact does_invoke hop hf hC hs h
 ·cases h
theorem astep_does {g : Bool} {r : AEv} (hC : OrcOk P C) (hg : g = true) (hs : HSim base w0 β fz H w) (hr : ∀ x, R β (okOf base fz) w H.length (r x) (a.eval x)) (h : astep P C g r o H = some (av, H')) : Does P o a w base w0 β fz H av H' := by
 unfold astep at h
 split at h
 ·rename_i c x y hop
  simp only [Option.map_eq_some_iff, Prod.mk.injEq] at h
  obtain ⟨q, hq, rfl, rfl⟩ := h
  exact does_pick hop hg hs hr hq
 ·exact astepE_does hC ⟨hs, fun x => res_R hg (hr x)⟩ h
end
def guardOk (ops : Array Oper) (e : AEv) (o : Oper) : Option Bool :=
 match o.guard with
 | none => some true
 | some (j, want) => match (ops[j]?).bind (·.dst) with
  | some d => match e (.tmp d) with
   | .v (.bool b) => some (b == want)
   | .when g (.v (.bool b)) => some (g && (b == want))
   | .v _ => some false
   | _ => none
  | none => some false
def dstOk (nt : Nat) (o : Oper) : Bool :=
 match o.dst with
 | some t => t < nt
 | none => true
def hk (inl : FuncId → Bool) (o : Oper) : Nat :=
 match o.op with
 | .load _ _ => 1
 | .store _ _ _ => 2
 | .alloc _ => 2
 | .box _ _ => 2
 | .makeSlice _ _ _ => 2
 | .buildSlice _ _ _ => 2
 | .makeMap _ _ => 2
 | .lookup _ _ _ _ => 1
 | .mapUpdate _ _ _ _ => 2
 | .range _ _ => 2
 | .entry _ => 1
 | .slice _ _ none none none => 2
 | .binOp .eql _ (.tmp _) (.tmp _) _ => 1
 | .call c => match c.callee with
  | .builtin .len => 0
  | .builtin .min => 0
  | .builtin .max => 0
  | .builtin _ => 2
  | .value (.func f) => if inl f then 2 else 1
  | .value _ => if inl dynF then 2 else 1
  | .invoke _ _ => 2
 | _ => 0
def gsel (g : Bool) (wr : Bool) (x : Option (AVal × Heap)) (ρ : Env) (H : Heap) (d : Option Tmp) : Option (Env × Heap) :=
 if wr = true then
  (if g = true then x.map fun r => (put ρ d r.1, r.2) else some (put ρ d (.v undef), H))
 else if g = true ∧ x.isNone = true then none else some (put ρ d (.when g ((x.map Prod.fst).getD .junk)), H)
def step1 (P : Program) (C : Orc) (nt : Nat) (ops : Array Oper) (o : Oper) (s : Env × Heap) : Option (Env × Heap) :=
 if dstOk nt o then
  match o.guard with
  | none => (astep P C true (ev s.1) o s.2).map fun r => (put s.1 o.dst r.1, r.2)
  | some _ => match guardOk ops (ev s.1) o with
   | some g => gsel g (hk C.inl o == 2) (astep P C g (ev s.1) o s.2) s.1 s.2 o.dst
   | none => none
 else none
theorem aBuiltin_quiet {P : Program} {b : Builtin} {ts : Array TypeId} {args : List AVal} {H H' : Heap} {av : AVal} (hb : b = .len ∨ b = .min ∨ b = .max) (h : aBuiltin P b ts args H = some (av, H')) :
  H' = H ∧ ∀ H2, aBuiltin P b ts args H2 = some (av, H2) := by
 have hmap : ∀ {x : Option AVal}, x.map (·, H) = some (av, H') → H' = H ∧ ∀ H2 : Heap, x.map (·, H2) = some (av, H2) := by
  intro x hx
  simp only [Option.map_eq_some_iff, Prod.mk.injEq] at hx
  obtain ⟨r, rfl, rfl, rfl⟩ := hx
  exact ⟨rfl, fun _ => rfl⟩
 rcases hb with rfl | rfl | rfl
 ·unfold aBuiltin at h ⊢
  split at h
  all_goals first
   | exact hmap h
   |(exfalso; simp_all; done)
   | cases h
 ·unfold aBuiltin at h ⊢
  split at h
  all_goals first
   |(split at h
     ·exact hmap h
     ·cases h)
   |(exfalso; simp_all; done)
   | cases h
 ·unfold aBuiltin at h ⊢
  split at h
  all_goals first
   |(split at h
     ·exact hmap h
     ·cases h)
   |(exfalso; simp_all; done)
   | cases h
theorem hk_builtin {inl : FuncId → Bool} {o : Oper} {c : Call} {b : Builtin} (hop : o.op = .call c) (hc : c.callee = .builtin b) (h : hk inl o ≠ 2) : b = .len ∨ b = .min ∨ b = .max := by
 unfold hk at h
 simp only [hop, hc] at h
 cases b <;> simp at h <;> simp
theorem astepE_read {P : Program} {C : Orc} {e : AEv} {o : Oper} {H H' : Heap} {av : AVal} (he : ∀ f, e (.func f) = .fn f []) (hh : hk C.inl o ≠ 2) (h : astepE P C e o H = some (av, H')) : H' = H := by
 have hh0 := hh
 unfold astepE at h
 cases hop : o.op <;> simp only [hop, hk, reduceCtorEq, ne_eq, not_true_eq_false] at h hh
 all_goals first
  |(simp only [Option.map_eq_some_iff, Prod.mk.injEq] at h; obtain ⟨_, _, _, rfl⟩ := h; rfl)
  |(simp only [Option.some.injEq, Prod.mk.injEq] at h; exact h.2.symm)
  | skip
 case binOp op t x y u =>
  split at h
  ·simp only [Option.some.injEq, Prod.mk.injEq] at h; exact h.2.symm
  ·split at h
   ·simp only [Option.map_eq_some_iff, Prod.mk.injEq] at h; obtain ⟨_, _, _, rfl⟩ := h; rfl
   ·cases h
 case slice t x lo hi mx =>
  split at h
  ·simp only [Option.some.injEq, Prod.mk.injEq] at h; exact h.2.symm
  ·split at h
   ·simp at hh
   ·cases h
 case unOp op t x =>
  split at h
  ·simp only [Option.map_eq_some_iff, Prod.mk.injEq] at h; obtain ⟨_, _, _, rfl⟩ := h; rfl
  ·cases h
 case convert s d x =>
  split at h
  ·simp only [Option.map_eq_some_iff, Prod.mk.injEq] at h; obtain ⟨_, _, _, rfl⟩ := h; rfl
  ·cases h
 case nilCheck x => split at h <;> simp at h <;> first | exact h.2.symm | exact h.2.2.symm
 case makeFunc fn first caps =>
  cases fn <;> simp at h
  ·exact h.2.2.symm
  ·split at h
   ·split at h <;> simp at h
    exact h.2.symm
   ·cases h
 case call c =>
  cases hc : c.callee with
  | builtin b =>
   simp only [hc] at h
   exact (aBuiltin_quiet (hk_builtin hop hc hh0) h).1
  | value f =>
   simp only [hc] at h hh
   unfold aCall at h
   split at h
   ·rename_i g caps hg
    split at h
    ·split at h
     ·rename_i hin
      split at h
      ·rename_i hst
       have hst' : isStatic f = true := by
        cases hq : isStatic f with
        | true => rfl
        | false =>
         exfalso
         cases f <;> simp [isStatic] at hq <;> simp only at hh <;> simp [hq, isStatic] at hst <;> simp [hst.1] at hh
       cases f <;> simp [isStatic] at hst'
       rename_i f
       rw [he] at hg
       simp only [AVal.fn.injEq] at hg
       obtain ⟨rfl, rfl⟩ := hg
       simp [hin] at hh
      ·cases h
     ·split at h
      ·cases h
      ·split at h <;> (simp only [Option.map_eq_some_iff, Prod.mk.injEq] at h; obtain ⟨_, _, _, rfl⟩ := h; rfl)
    ·cases h
   ·cases h
  | invoke r m => simp [hk, hop, hc] at hh0
theorem astep_read {P : Program} {C : Orc} {g : Bool} {e : AEv} {o : Oper} {H H' : Heap} {av : AVal} (he : ∀ f, e (.func f) = .fn f []) (hh : hk C.inl o ≠ 2) (h : astep P C g e o H = some (av, H')) : H' = H := by
 unfold astep at h
 split at h
 ·simp only [Option.map_eq_some_iff, Prod.mk.injEq] at h; obtain ⟨_, _, _, rfl⟩ := h; rfl
 ·exact astepE_read (fun f => by simp [he, res]) hh h
section
variable {nt : Fr} {base : Nat} {w0 : World} {β : Nat → Nat} {fz : Nat → Prop} {ρ : Env} {H H' : Heap} {a : Act} {w : World} {P : Program} {C : Orc} {o : Oper} {av : AVal} {n : Nat} {ok ok' : Bool → Nat → Prop}
theorem yielded_at {ops : Array Oper} {j : Nat} {d : Tmp} (hd : (ops[j]?).bind (·.dst) = some d) : yielded ops a.tmps j = match a.tmps.getD d undef with | .bool b => some b | _ => none := by
 unfold yielded
 rw [hd]
 simp only [Option.bind_some, Array.getD_eq_getD_getElem?]
 cases hh : a.tmps[d]? with
 | none => rfl
 | some y => cases y <;> rfl
theorem guard_wanted {ops : Array Oper} {b : Bool} (hs : Sim nt base w0 β fz ρ H a w) (h : guardOk ops (ev ρ) o = some b) : b = true → Region.wanted o (yielded ops a.tmps) = true := by
 unfold guardOk at h
 unfold Region.wanted
 intro hb
 subst hb
 split at h
 ·rename_i hg; simp [hg]
 ·rename_i j want hg
  simp only [hg]
  split at h
  ·rename_i d hd
   have hx := hs.env d
   rw [yielded_at hd]
   simp only [ev] at h
   split at h
   ·rename_i c hc
    rw [hc] at hx
    rw [hx.v_inv]
    simp only [Option.some.injEq] at h
    cases c <;> cases want <;> simp_all
   ·rename_i g c hc
    rw [hc] at hx
    simp only [Option.some.injEq, Bool.and_eq_true] at h
    cases hx with
    | when hx hu =>
     rw [(hx h.1).v_inv]
     cases c <;> cases want <;> simp_all
   ·simp at h
   ·cases h
  ·simp at h
theorem guard_not {ops : Array Oper} {b : Bool} (hs : Sim nt base w0 β fz ρ H a w) (h : guardOk ops (ev ρ) o = some b) : b = false → Region.wanted o (yielded ops a.tmps) = false := by
 unfold guardOk at h
 unfold Region.wanted
 intro hb
 subst hb
 split at h
 ·simp at h
 ·rename_i j want hg
  simp only [hg]
  split at h
  ·rename_i d hd
   have hx := hs.env d
   rw [yielded_at hd]
   simp only [ev] at h
   split at h
   ·rename_i c hc
    rw [hc] at hx
    rw [hx.v_inv]
    simp only [Option.some.injEq] at h
    cases c <;> cases want <;> simp_all
   ·rename_i g c hc
    rw [hc] at hx
    cases hx with
    | when hx hu =>
     cases g with
     | false => rw [hu rfl]; simp [undef]
     | true =>
      simp only [Option.some.injEq, Bool.true_and] at h
      rw [(hx rfl).v_inv]
      cases c <;> cases want <;> simp_all
   ·rename_i x hc1 hc
    rw [hc] at hx
    rw [hx.v_inv]
    cases x <;> first | rfl | (rename_i bb; exact absurd rfl (hc1 bb))
   ·cases h
  ·rename_i hd
   have hy : yielded ops a.tmps j = none := by
    unfold yielded
    rw [hd]; rfl
   rw [hy]; rfl
theorem step1_wp {ops : Array Oper} {i : Nat} {s' : Env × Heap} {K : Act → World → Prop} {Q : Exit → Act → World → Prop} (hC : OrcOk P C) (ho : ops[i]? = some o) (hs : Sim nt base w0 β fz ρ H a w) (h : step1 P C nt.nt ops o (ρ, H) = some s')
  (hK : ∀ a' w' β' fz', Sim nt base w0 β' fz' s'.1 s'.2 a' w' → K a' w') : wpOp P ops Q i K a w := by
 unfold step1 at h
 split at h
 ·rename_i hd
  have hd' : ∀ t, o.dst = some t → t < nt.nt := by
   intro t ht
   simp only [dstOk, ht] at hd
   simpa using hd
  unfold wpOp
  simp only [ho]
  split at h
  ·rename_i hgd
   have hw : Region.wanted o (yielded ops a.tmps) = true := by simp [Region.wanted, hgd]
   rw [hw]
   simp only [if_true]
   left
   simp only [Option.map_eq_some_iff] at h
   obtain ⟨⟨r, H'⟩, hr, rfl⟩ := h
   exact astep_does hC rfl hs.heap hs.ev hr _ _ (fun x β' fz' w' h1 h2 h3 => hK _ _ β' fz' (hs.put h1 h2 hd' h3))
  ·split at h
   ·rename_i g hg
    have skip : g = false → s' = (put ρ o.dst (.v undef), H) → (if Region.wanted o (yielded ops a.tmps) = true then o.wp P a w K Q ∨ o.asks P a w ∧ LetsOut Q else K (a.put o.dst undef) w) := by
     intro hgf he
     rw [guard_not hs hg hgf]
     simp only [Bool.false_eq_true, if_false]
     subst he
     exact hK _ _ β fz (hs.put hs.heap (Ext.refl _ _ _ _) hd' .v)
    unfold gsel at h
    split at h
    ·split at h
     ·rename_i hgt
      simp only [Option.map_eq_some_iff] at h
      obtain ⟨r, hr, rfl⟩ := h
      rw [guard_wanted hs hg hgt]
      simp only [if_true]
      left
      exact astep_does (av := r.1) (H' := r.2) hC hgt hs.heap hs.ev hr _ _ (fun x β' fz' w' h1 h2 h3 => hK _ _ β' fz' (hs.put h1 h2 hd' h3))
     ·rename_i hgt
      simp only [Option.some.injEq] at h
      exact skip (by simpa using hgt) h.symm
    ·rename_i hwr
     split at h
     ·cases h
     ·rename_i hno
      simp only [Option.some.injEq] at h
      subst h
      cases hgt : g with
      | true =>
       cases hr : astep P C g (ev ρ) o H with
       | none => exact absurd ⟨hgt, by simp only [hr]; rfl⟩ hno
       | some r =>
        have hH : r.2 = H := astep_read (av := r.1) (H' := r.2) (fun _ => rfl) (by simpa using hwr) hr
        rw [guard_wanted hs hg hgt]
        simp only [if_true]
        left
        refine astep_does (av := r.1) (H' := r.2) hC hgt hs.heap hs.ev hr _ _ (fun x β' fz' w' h1 h2 h3 => ?_)
        rw [hH] at h1 h2 h3
        have := hs.put h1 h2 hd' (av := .when g r.1) (x := x) (.when (fun _ => h3) (fun hf => by rw [hgt] at hf; cases hf))
        refine hK _ _ β' fz' ?_
        simpa only [hr, Option.map_some, Option.getD_some] using this
      | false =>
       rw [guard_not hs hg hgt]
       simp only [Bool.false_eq_true, if_false]
       have := hs.put hs.heap (Ext.refl _ _ _ _) hd' (av := .when g (((astep P C g (ev ρ) o H).map Prod.fst).getD .junk)) (x := undef) (.when (fun ht => by rw [hgt] at ht; cases ht) (fun _ => rfl))
       exact hK _ _ β fz this
   ·cases h
 ·cases h
end
end Go.AI
