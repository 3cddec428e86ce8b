/- One operation; a region in the order of its text. -/
import Derived.Test.YtdakclpneghkmaaGreatDoorL03
import Derived.Test.YtdakclpneghkmaaGreatDoorL06
namespace Go.AI
set_option linter.unusedSimpArgs false
set_option linter.unusedVariables false
open Go.RowKit
section
variable {base : Nat} {w0 : World} {β : Nat → Nat} {fz : Nat → Prop} {e' : AEv} {H H' : Heap} {a : Act} {w : World} {P : Program} {C : Orc} {o : Oper} {av : AVal} {n : Nat} {ok ok' : Bool → Nat → Prop}

theorem valsOf_eval (hs : SimE base w0 β fz e' H a w) : ∀ (xs : List Operand) (vs : List Value), valsOf (xs.map (e')) = some vs → xs.map a.eval = vs
  | [], vs, h => by simp [valsOf] at h; subst h; rfl
  | x :: xs, vs, h => by
    simp only [List.map_cons] at h
    have hx := hs.ev x
    generalize e' x = y at *
    cases y <;> simp only [valsOf, reduceCtorEq, Option.map_eq_some_iff] at h
    obtain ⟨ys, hy, rfl⟩ := h
    rw [List.map_cons, valsOf_eval hs xs ys hy, hx.v_inv]

theorem arr1 {α : Type} {xs : Array α} {x : α} (h : xs.toList = [x]) : xs = #[x] := by
  cases xs; simpa using h
theorem arr2 {α : Type} {xs : Array α} {x y : α} (h : xs.toList = [x, y]) : xs = #[x, y] := by
  cases xs; simpa using h

theorem does_builtin {c : Call} {b : Builtin} (hop : o.op = .call c) (hf : c.callee = .builtin b) (hs : SimE base w0 β fz e' H a w)
    (h : aBuiltin P b c.argTypes (c.args.toList.map (e')) H = some (av, H')) : Does P o a w base w0 β fz H av H' := by
  have hex : execOp a.eval o = builtin b c.argTypes o.type (c.args.map fun | .const _ => true | _ => false) (c.args.map a.eval) := by
    simp only [execOp, hop, resolve, hf]; rfl
  have hargs1 : ∀ x : AVal, c.args.toList.map (e') = [x] → ∃ p, c.args = #[p] ∧ e' p = x := by
    intro x hx
    obtain ⟨p, hp1, hp2⟩ : ∃ p, c.args.toList = [p] ∧ e' p = x := by
      cases hl : c.args.toList with
      | nil => simp [hl] at hx
      | cons p r => cases r <;> simp [hl] at hx; exact ⟨p, rfl, hx⟩
    exact ⟨p, arr1 hp1, hp2⟩
  have hargs2 : ∀ x y : AVal, c.args.toList.map (e') = [x, y] → ∃ p q, c.args = #[p, q] ∧ e' p = x ∧ e' q = y := by
    intro x y hx
    obtain ⟨p, q, hp1, hp2, hp3⟩ : ∃ p q, c.args.toList = [p, q] ∧ e' p = x ∧ e' q = y := by
      cases hl : c.args.toList with
      | nil => simp [hl] at hx
      | cons p r =>
        cases r with
        | nil => simp [hl] at hx
        | cons q r => cases r <;> simp [hl] at hx; exact ⟨p, q, rfl, hx.1, hx.2⟩
    exact ⟨p, q, arr2 hp1, hp2, hp3⟩
  unfold aBuiltin at h
  split at h
  · rename_i t x hts hx
    simp only [Option.map_eq_some_iff, Prod.mk.injEq] at h
    obtain ⟨r, hr, rfl, rfl⟩ := h
    obtain ⟨p, hp1, rfl⟩ := hargs1 _ hx
    refine does_len (t := t) (ty := o.type) (x := p) ?_ hs hr
    rw [hex, arr1 hts, hp1]; simp [builtin]
  · rename_i t u s x hts hx
    split at h
    · rename_i e2 hE2
      obtain ⟨p, q, hp1, rfl, rfl⟩ := hargs2 _ _ hx
      refine does_append (t := t) (u := u) (ty := o.type) (s := p) (x := q) ?_ hs hE2 h
      rw [hex, arr2 hts, hp1]; simp [builtin]
    · obtain ⟨p, q, hp1, rfl, rfl⟩ := hargs2 _ _ hx
      refine does_appendZ (t := t) (u := u) (ty := o.type) (s := p) (x := q) ?_ hs h
      rw [hex, arr2 hts, hp1]; simp [builtin]
  · rename_i t x hts hx
    simp only [Option.map_eq_some_iff, Prod.mk.injEq] at h
    obtain ⟨r, hr, rfl, rfl⟩ := h
    obtain ⟨p, hp1, rfl⟩ := hargs1 _ hx
    refine does_cap (t := t) (ty := o.type) (x := p) ?_ hs hr
    rw [hex, arr1 hts, hp1]; simp [builtin]
  · rename_i t x hts hx
    obtain ⟨p, hp1, rfl⟩ := hargs1 _ hx
    refine does_clear (t := t) (ty := o.type) (x := p) ?_ hs h
    rw [hex, arr1 hts, hp1]; simp [builtin]
  · rename_i t u d x hts hx
    obtain ⟨p, q, hp1, rfl, rfl⟩ := hargs2 _ _ hx
    refine does_copyX (t := t) (u := u) (ty := o.type) (d := p) (x := q) ?_ hs h
    rw [hex, arr2 hts, hp1]; simp [builtin]
  · rename_i t u m k hts hx
    obtain ⟨p, q, hp1, rfl, rfl⟩ := hargs2 _ _ hx
    have ht0 : c.argTypes[0]? = some t := by
      have : c.argTypes.toList[0]? = some t := by rw [hts]; rfl
      simpa using this
    refine does_delete (t := t) (ts := c.argTypes) (ty := o.type) (m := p) (k := q) ?_ ht0 hs h
    rw [hex, hp1]; simp [builtin]
  · split at h
    · rename_i vs hvs
      simp only [Option.map_eq_some_iff, Prod.mk.injEq] at h
      obtain ⟨r, hr, rfl, rfl⟩ := h
      obtain ⟨z, hz, rfl⟩ := asV_some hr
      have hv := valsOf_eval hs _ _ hvs
      refine does_pure hs.heap (x := z) ?_ .v
      rw [hex]
      have : c.args.map a.eval = vs.toArray := by apply Array.ext'; rw [← hv]; exact Array.toList_map
      rw [this]
      simp only [builtin]
      have h2 : Builtin.min_ c.argTypes o.type vs.toArray = Builtin.min_ (c.argTypes.toList.toArray) 0 vs.toArray := rfl
      rw [h2, Sem.run_bind, pr_run hz w]; rfl
    · cases h
  · split at h
    · rename_i vs hvs
      simp only [Option.map_eq_some_iff, Prod.mk.injEq] at h
      obtain ⟨r, hr, rfl, rfl⟩ := h
      obtain ⟨z, hz, rfl⟩ := asV_some hr
      have hv := valsOf_eval hs _ _ hvs
      refine does_pure hs.heap (x := z) ?_ .v
      rw [hex]
      have : c.args.map a.eval = vs.toArray := by apply Array.ext'; rw [← hv]; exact Array.toList_map
      rw [this]
      simp only [builtin]
      have h2 : Builtin.max_ c.argTypes o.type vs.toArray = Builtin.max_ (c.argTypes.toList.toArray) 0 vs.toArray := rfl
      rw [h2, Sem.run_bind, pr_run hz w]; rfl
    · cases h
  · cases h

theorem astepE_does (hC : OrcOk P C) (hs : SimE base w0 β fz e' H a w) (h : astepE P C e' o H = some (av, H')) : Does P o a w base w0 β fz H av H' := by
  unfold astepE at h
  split at h
  · rename_i x hop
    simp only [Option.some.injEq, Prod.mk.injEq] at h
    obtain ⟨rfl, rfl⟩ := h
    exact does_move (.inl hop) hs
  · rename_i x hop
    simp only [Option.some.injEq, Prod.mk.injEq] at h
    obtain ⟨rfl, rfl⟩ := h
    exact does_move (.inr hop) hs
  · rename_i op t x y u hop
    split at h
    · rename_i q hq
      simp only [Option.some.injEq, Prod.mk.injEq] at h
      obtain ⟨rfl, rfl⟩ := h
      exact does_bin hop hs hq
    · split at h
      · simp only [Option.map_eq_some_iff, Prod.mk.injEq] at h
        obtain ⟨q, hq, rfl, rfl⟩ := h
        exact does_eqH hop hs hq
      · cases h
  · rename_i op t x hop
    split at h
    · rename_i y hy
      simp only [Option.map_eq_some_iff, Prod.mk.injEq] at h
      obtain ⟨q, hq, rfl, rfl⟩ := h
      exact does_un hop hs hy hq
    · cases h
  · rename_i s d x hop
    split at h
    · rename_i y hy
      simp only [Option.map_eq_some_iff, Prod.mk.injEq] at h
      obtain ⟨q, hq, rfl, rfl⟩ := h
      exact does_conv hop hs hy hq
    · simp only [Option.map_eq_some_iff, Prod.mk.injEq] at h
      obtain ⟨q, hq, rfl, rfl⟩ := h
      exact does_str hop hs hq
  · rename_i x i hop
    simp only [Option.map_eq_some_iff, Prod.mk.injEq] at h
    obtain ⟨q, hq, rfl, rfl⟩ := h
    exact does_extract hop hs hq
  · rename_i t hop
    exact does_alloc hop hs h
  · rename_i t x hop
    exact does_box hop hs h
  · rename_i t parts hop
    simp only [Option.map_eq_some_iff, Prod.mk.injEq] at h
    obtain ⟨q, hq, rfl, rfl⟩ := h
    exact does_build hop hs hq
  · rename_i t len parts hop
    exact does_buildSlice hop hs h
  · rename_i t x hop
    simp only [Option.map_eq_some_iff, Prod.mk.injEq] at h
    obtain ⟨q, hq, rfl, rfl⟩ := h
    exact does_load hop hs hq
  · rename_i t x y hop
    simp only [Option.map_eq_some_iff, Prod.mk.injEq] at h
    obtain ⟨q, hq, rfl, rfl⟩ := h
    exact does_store hop hs hq
  · rename_i s x f hop
    simp only [Option.map_eq_some_iff, Prod.mk.injEq] at h
    obtain ⟨q, hq, rfl, rfl⟩ := h
    exact does_fieldAddr hop hs hq
  · rename_i s x f hop
    simp only [Option.map_eq_some_iff, Prod.mk.injEq] at h
    obtain ⟨q, hq, rfl, rfl⟩ := h
    exact does_field hop hs hq
  · rename_i t x i hop
    simp only [Option.map_eq_some_iff, Prod.mk.injEq] at h
    obtain ⟨q, hq, rfl, rfl⟩ := h
    exact does_indexAddr hop hs hq
  · rename_i t x i hop
    simp only [Option.map_eq_some_iff, Prod.mk.injEq] at h
    obtain ⟨q, hq, rfl, rfl⟩ := h
    exact does_index hop hs hq
  · rename_i t x lo hi mx hop
    split at h
    · rename_i q hq
      simp only [Option.some.injEq, Prod.mk.injEq] at h
      obtain ⟨rfl, rfl⟩ := h
      exact does_slice hop hs hq
    · split at h
      · exact does_sliceA hop hs h
      · cases h
  · rename_i t l c hop
    exact does_makeSlice hop hs h
  · rename_i x hop
    exact does_nilCheck hop hs h
  · rename_i t hop
    simp only [Option.some.injEq, Prod.mk.injEq] at h
    obtain ⟨rfl, rfl⟩ := h
    exact does_makeMap hop hs
  · rename_i t m k ok hop
    simp only [Option.map_eq_some_iff, Prod.mk.injEq] at h
    obtain ⟨q, hq, rfl, rfl⟩ := h
    exact does_lookup hop hs hq
  · rename_i t m k x hop
    simp only [Option.map_eq_some_iff, Prod.mk.injEq] at h
    obtain ⟨q, hq, rfl, rfl⟩ := h
    exact does_mapUpdate hop hs hq
  · rename_i t x hop
    exact does_range hop hs h
  · rename_i x hop
    simp only [Option.map_eq_some_iff, Prod.mk.injEq] at h
    obtain ⟨q, hq, rfl, rfl⟩ := h
    exact does_entry hop hs hq
  · rename_i x hop
    simp only [Option.map_eq_some_iff, Prod.mk.injEq] at h
    obtain ⟨q, hq, rfl, rfl⟩ := h
    exact does_next0 hop hs hq
  · rename_i f first caps hop
    split at h
    · rename_i hf
      simp only [Option.some.injEq, Prod.mk.injEq] at h
      obtain ⟨rfl, rfl⟩ := h
      exact does_makeFunc hop hs hf
    · cases h
  · rename_i n first caps hop
    exact does_makeMeth hop hs h
  · rename_i t x hop
    simp only [Option.map_eq_some_iff, Prod.mk.injEq] at h
    obtain ⟨q, hq, rfl, rfl⟩ := h
    exact does_mkI hop hs hq
  · rename_i c hop
    split at h
    · rename_i b hb
      exact does_builtin hop hb hs h
    · rename_i f hf
      exact does_call hop hf hC hs h
    · rename_i r name hf
      exact does_invoke hop hf hC hs h
  · cases h

/-- ONE OPERATION -/
theorem astep_does {g : Bool} {r : AEv} (hC : OrcOk P C) (hg : g = true) (hs : HSim base w0 β fz H w) (hr : ∀ x, R β (okOf base fz) w H.length (r x) (a.eval x)) (h : astep P C g r o H = some (av, H')) : Does P o a w base w0 β fz H av H' := by
  unfold astep at h
  split at h
  · rename_i c x y hop
    simp only [Option.map_eq_some_iff, Prod.mk.injEq] at h
    obtain ⟨q, hq, rfl, rfl⟩ := h
    exact does_pick hop hg hs hr hq
  · exact astepE_does hC ⟨hs, fun x => res_R hg (hr x)⟩ h
end


/-- is the operation wanted? -/
def guardOk (ops : Array Oper) (e : AEv) (o : Oper) : Option Bool :=
  match o.guard with
  | none => some true
  | some (j, want) => match (ops[j]?).bind (·.dst) with
    | some d => match e (.tmp d) with
      | .v (.bool b) => some (b == want)
      | .when g (.v (.bool b)) => some (g && (b == want))
      | .v _ => some false
      | _ => none
    | none => some false

def dstOk (nt : Nat) (o : Oper) : Bool :=
  match o.dst with
  | some t => t < nt
  | none => true

/-- 0: it does not look at the heap; 1: it only reads; 2: it may write -/
def hk (inl : FuncId → Bool) (o : Oper) : Nat :=
  match o.op with
  | .load _ _ => 1
  | .store _ _ _ => 2
  | .alloc _ => 2
  | .box _ _ => 2
  | .makeSlice _ _ _ => 2
  | .buildSlice _ _ _ => 2
  | .makeMap _ _ => 2
  | .lookup _ _ _ _ => 1
  | .mapUpdate _ _ _ _ => 2
  | .range _ _ => 2
  | .entry _ => 1
  | .next _ _ => 1
  | .convert _ _ _ => 1
  | .slice _ _ none none none => 2
  | .binOp .eql _ (.tmp _) (.tmp _) _ => 1
  | .call c => match c.callee with
    | .builtin .len => 0
    | .builtin .min => 0
    | .builtin .max => 0
    | .builtin _ => 2
    | .value (.func f) => if inl f then 2 else 1
    | .value _ => if inl dynF then 2 else 1
    | .invoke _ _ => 2
  | _ => 0

/-- what a guarded operation leaves -/
def gsel (g : Bool) (wr : Bool) (x : Option (AVal × Heap)) (ρ : Env) (H : Heap) (d : Option Tmp) : Option (Env × Heap) :=
  if wr = true then
    (if g = true then x.map fun r => (put ρ d r.1, r.2) else some (put ρ d (.v undef), H))
  else if g = true ∧ x.isNone = true then none else some (put ρ d (.when g ((x.map Prod.fst).getD .junk)), H)

def step1 (P : Program) (C : Orc) (nt : Nat) (ops : Array Oper) (o : Oper) (s : Env × Heap) : Option (Env × Heap) :=
  if dstOk nt o then
    match o.guard with
    | none => (astep P C true (ev s.1) o s.2).map fun r => (put s.1 o.dst r.1, r.2)
    | some _ => match guardOk ops (ev s.1) o with
      | some g => gsel g (hk C.inl o == 2) (astep P C g (ev s.1) o s.2) s.1 s.2 o.dst
      | none => none
  else none

theorem aBuiltin_quiet {P : Program} {b : Builtin} {ts : Array TypeId} {args : List AVal} {H H' : Heap} {av : AVal} (hb : b = .len ∨ b = .min ∨ b = .max) (h : aBuiltin P b ts args H = some (av, H')) :
    H' = H ∧ ∀ H2, aBuiltin P b ts args H2 = some (av, H2) := by
  have hmap : ∀ {x : Option AVal}, x.map (·, H) = some (av, H') → H' = H ∧ ∀ H2 : Heap, x.map (·, H2) = some (av, H2) := by
    intro x hx
    simp only [Option.map_eq_some_iff, Prod.mk.injEq] at hx
    obtain ⟨r, rfl, rfl, rfl⟩ := hx
    exact ⟨rfl, fun _ => rfl⟩
  rcases hb with rfl | rfl | rfl
  · unfold aBuiltin at h ⊢
    split at h
    all_goals first
      | exact hmap h
      | (exfalso; simp_all; done)
      | cases h
  · unfold aBuiltin at h ⊢
    split at h
    all_goals first
      | (split at h
         · exact hmap h
         · cases h)
      | (exfalso; simp_all; done)
      | cases h
  · unfold aBuiltin at h ⊢
    split at h
    all_goals first
      | (split at h
         · exact hmap h
         · cases h)
      | (exfalso; simp_all; done)
      | cases h

theorem hk_builtin {inl : FuncId → Bool} {o : Oper} {c : Call} {b : Builtin} (hop : o.op = .call c) (hc : c.callee = .builtin b) (h : hk inl o ≠ 2) : b = .len ∨ b = .min ∨ b = .max := by
  unfold hk at h
  simp only [hop, hc] at h
  cases b <;> simp at h <;> simp

theorem astepE_read {P : Program} {C : Orc} {e : AEv} {o : Oper} {H H' : Heap} {av : AVal} (he : ∀ f, e (.func f) = .fn f []) (hh : hk C.inl o ≠ 2) (h : astepE P C e o H = some (av, H')) : H' = H := by
  have hh0 := hh
  unfold astepE at h
  cases hop : o.op <;> simp only [hop, hk, reduceCtorEq, ne_eq, not_true_eq_false] at h hh
  all_goals first
    | (simp only [Option.map_eq_some_iff, Prod.mk.injEq] at h; obtain ⟨_, _, _, rfl⟩ := h; rfl)
    | (simp only [Option.some.injEq, Prod.mk.injEq] at h; exact h.2.symm)
    | skip
  case binOp op t x y u =>
    split at h
    · simp only [Option.some.injEq, Prod.mk.injEq] at h; exact h.2.symm
    · split at h
      · simp only [Option.map_eq_some_iff, Prod.mk.injEq] at h; obtain ⟨_, _, _, rfl⟩ := h; rfl
      · cases h
  case slice t x lo hi mx =>
    split at h
    · simp only [Option.some.injEq, Prod.mk.injEq] at h; exact h.2.symm
    · split at h
      · simp at hh
      · cases h
  case unOp op t x =>
    split at h
    · simp only [Option.map_eq_some_iff, Prod.mk.injEq] at h; obtain ⟨_, _, _, rfl⟩ := h; rfl
    · cases h
  case convert s d x =>
    split at h
    · simp only [Option.map_eq_some_iff, Prod.mk.injEq] at h; obtain ⟨_, _, _, rfl⟩ := h; rfl
    · simp only [Option.map_eq_some_iff, Prod.mk.injEq] at h; obtain ⟨_, _, _, rfl⟩ := h; rfl
  case next x b =>
    cases b
    · simp only [Option.map_eq_some_iff, Prod.mk.injEq] at h; obtain ⟨_, _, _, rfl⟩ := h; rfl
    · cases h
  case nilCheck x => split at h <;> simp at h <;> first | exact h.2.symm | exact h.2.2.symm
  case makeFunc fn first caps =>
    cases fn <;> simp at h
    · exact h.2.2.symm
    · split at h
      · split at h <;> simp at h
        exact h.2.symm
      · cases h
  case call c =>
    cases hc : c.callee with
    | builtin b =>
      simp only [hc] at h
      exact (aBuiltin_quiet (hk_builtin hop hc hh0) h).1
    | value f =>
      simp only [hc] at h hh
      unfold aCall at h
      split at h
      · rename_i g caps hg
        split at h
        · split at h
          · rename_i hin
            split at h
            · rename_i hst
              have hst' : isStatic f = true := by
                cases hq : isStatic f with
                | true => rfl
                | false =>
                  exfalso
                  cases f <;> simp [isStatic] at hq <;> simp only at hh <;> simp [hq, isStatic] at hst <;> simp [hst.1] at hh
              cases f <;> simp [isStatic] at hst'
              rename_i f
              rw [he] at hg
              simp only [AVal.fn.injEq] at hg
              obtain ⟨rfl, rfl⟩ := hg
              simp [hin] at hh
            · cases h
          · split at h
            · cases h
            · split at h <;> (simp only [Option.map_eq_some_iff, Prod.mk.injEq] at h; obtain ⟨_, _, _, rfl⟩ := h; rfl)
        · cases h
      · cases h
    | invoke r m => simp [hk, hop, hc] at hh0

theorem astep_read {P : Program} {C : Orc} {g : Bool} {e : AEv} {o : Oper} {H H' : Heap} {av : AVal} (he : ∀ f, e (.func f) = .fn f []) (hh : hk C.inl o ≠ 2) (h : astep P C g e o H = some (av, H')) : H' = H := by
  unfold astep at h
  split at h
  · simp only [Option.map_eq_some_iff, Prod.mk.injEq] at h; obtain ⟨_, _, _, rfl⟩ := h; rfl
  · exact astepE_read (fun f => by simp [he, res]) hh h

section
variable {nt : Fr} {base : Nat} {w0 : World} {β : Nat → Nat} {fz : Nat → Prop} {ρ : Env} {H H' : Heap} {a : Act} {w : World} {P : Program} {C : Orc} {o : Oper} {av : AVal} {n : Nat} {ok ok' : Bool → Nat → Prop}

theorem yielded_at {ops : Array Oper} {j : Nat} {d : Tmp} (hd : (ops[j]?).bind (·.dst) = some d) : yielded ops a.tmps j = match a.tmps.getD d undef with | .bool b => some b | _ => none := by
  unfold yielded
  rw [hd]
  simp only [Option.bind_some, Array.getD_eq_getD_getElem?]
  cases hh : a.tmps[d]? with
  | none => rfl
  | some y => cases y <;> rfl

theorem guard_wanted {ops : Array Oper} {b : Bool} (hs : Sim nt base w0 β fz ρ H a w) (h : guardOk ops (ev ρ) o = some b) : b = true → Region.wanted o (yielded ops a.tmps) = true := by
  unfold guardOk at h
  unfold Region.wanted
  intro hb
  subst hb
  split at h
  · rename_i hg; simp [hg]
  · rename_i j want hg
    simp only [hg]
    split at h
    · rename_i d hd
      have hx := hs.env d
      rw [yielded_at hd]
      simp only [ev] at h
      split at h
      · rename_i c hc
        rw [hc] at hx
        rw [hx.v_inv]
        simp only [Option.some.injEq] at h
        cases c <;> cases want <;> simp_all
      · rename_i g c hc
        rw [hc] at hx
        simp only [Option.some.injEq, Bool.and_eq_true] at h
        cases hx with
        | when hx hu =>
          rw [(hx h.1).v_inv]
          cases c <;> cases want <;> simp_all
      · simp at h
      · cases h
    · simp at h

theorem guard_not {ops : Array Oper} {b : Bool} (hs : Sim nt base w0 β fz ρ H a w) (h : guardOk ops (ev ρ) o = some b) : b = false → Region.wanted o (yielded ops a.tmps) = false := by
  unfold guardOk at h
  unfold Region.wanted
  intro hb
  subst hb
  split at h
  · simp at h
  · rename_i j want hg
    simp only [hg]
    split at h
    · rename_i d hd
      have hx := hs.env d
      rw [yielded_at hd]
      simp only [ev] at h
      split at h
      · rename_i c hc
        rw [hc] at hx
        rw [hx.v_inv]
        simp only [Option.some.injEq] at h
        cases c <;> cases want <;> simp_all
      · rename_i g c hc
        rw [hc] at hx
        cases hx with
        | when hx hu =>
          cases g with
          | false => rw [hu rfl]; simp [undef]
          | true =>
            simp only [Option.some.injEq, Bool.true_and] at h
            rw [(hx rfl).v_inv]
            cases c <;> cases want <;> simp_all
      · rename_i x hc1 hc
        rw [hc] at hx
        rw [hx.v_inv]
        cases x <;> first | rfl | (rename_i bb; exact absurd rfl (hc1 bb))
      · cases h
    · rename_i hd
      have hy : yielded ops a.tmps j = none := by
        unfold yielded
        rw [hd]; rfl
      rw [hy]; rfl

/-- one operation of a region, wanted or not -/
theorem step1_wp {ops : Array Oper} {i : Nat} {s' : Env × Heap} {K : Act → World → Prop} {Q : Exit → Act → World → Prop} (hC : OrcOk P C) (ho : ops[i]? = some o) (hs : Sim nt base w0 β fz ρ H a w) (h : step1 P C nt.nt ops o (ρ, H) = some s')
    (hK : ∀ a' w' β' fz', Sim nt base w0 β' fz' s'.1 s'.2 a' w' → K a' w') : wpOp P ops Q i K a w := by
  unfold step1 at h
  split at h
  · rename_i hd
    have hd' : ∀ t, o.dst = some t → t < nt.nt := by
      intro t ht
      simp only [dstOk, ht] at hd
      simpa using hd
    unfold wpOp
    simp only [ho]
    split at h
    · rename_i hgd
      have hw : Region.wanted o (yielded ops a.tmps) = true := by simp [Region.wanted, hgd]
      rw [hw]
      simp only [if_true]
      left
      simp only [Option.map_eq_some_iff] at h
      obtain ⟨⟨r, H'⟩, hr, rfl⟩ := h
      exact astep_does hC rfl hs.heap hs.ev hr _ _ (fun x β' fz' w' h1 h2 h3 => hK _ _ β' fz' (hs.put h1 h2 hd' h3))
    · split at h
      · rename_i g hg
        have skip : g = false → s' = (put ρ o.dst (.v undef), H) → (if Region.wanted o (yielded ops a.tmps) = true then o.wp P a w K Q ∨ o.asks P a w ∧ LetsOut Q else K (a.put o.dst undef) w) := by
          intro hgf he
          rw [guard_not hs hg hgf]
          simp only [Bool.false_eq_true, if_false]
          subst he
          exact hK _ _ β fz (hs.put hs.heap (Ext.refl _ _ _ _) hd' .v)
        unfold gsel at h
        split at h
        · split at h
          · rename_i hgt
            simp only [Option.map_eq_some_iff] at h
            obtain ⟨r, hr, rfl⟩ := h
            rw [guard_wanted hs hg hgt]
            simp only [if_true]
            left
            exact astep_does (av := r.1) (H' := r.2) hC hgt hs.heap hs.ev hr _ _ (fun x β' fz' w' h1 h2 h3 => hK _ _ β' fz' (hs.put h1 h2 hd' h3))
          · rename_i hgt
            simp only [Option.some.injEq] at h
            exact skip (by simpa using hgt) h.symm
        · rename_i hwr
          split at h
          · cases h
          · rename_i hno
            simp only [Option.some.injEq] at h
            subst h
            cases hgt : g with
            | true =>
              cases hr : astep P C g (ev ρ) o H with
              | none => exact absurd ⟨hgt, by simp only [hr]; rfl⟩ hno
              | some r =>
                have hH : r.2 = H := astep_read (av := r.1) (H' := r.2) (fun _ => rfl) (by simpa using hwr) hr
                rw [guard_wanted hs hg hgt]
                simp only [if_true]
                left
                refine astep_does (av := r.1) (H' := r.2) hC hgt hs.heap hs.ev hr _ _ (fun x β' fz' w' h1 h2 h3 => ?_)
                rw [hH] at h1 h2 h3
                have := hs.put h1 h2 hd' (av := .when g r.1) (x := x) (.when (fun _ => h3) (fun hf => by rw [hgt] at hf; cases hf))
                refine hK _ _ β' fz' ?_
                simpa only [hr, Option.map_some, Option.getD_some] using this
            | false =>
              rw [guard_not hs hg hgt]
              simp only [Bool.false_eq_true, if_false]
              have := hs.put hs.heap (Ext.refl _ _ _ _) hd' (av := .when g (((astep P C g (ev ρ) o H).map Prod.fst).getD .junk)) (x := undef) (.when (fun ht => by rw [hgt] at ht; cases ht) (fun _ => rfl))
              exact hK _ _ β fz this
      · cases h
  · cases h
end
end Go.AI
/- Regions, in whatever order. -/
namespace Go.AI
set_option linter.unusedSimpArgs false
set_option linter.unusedVariables false
open Go.RowKit

def runL (P : Program) (C : Orc) (nt : Nat) (ops : Array Oper) : List Oper → Env × Heap → Option (Env × Heap)
  | [], s => some s
  | o :: l, s => match step1 P C nt ops o s with
    | some s' => runL P C nt ops l s'
    | none => none

def tmpsOf (xs : Array Operand) : List Tmp := xs.toList.filterMap fun | .tmp t => some t | _ => none

def readsOf (ops : Array Oper) (o : Oper) : List Tmp :=
  tmpsOf o.op.operands ++ match o.guard with
    | none => []
    | some (j, _) => ((ops[j]?).bind (·.dst)).toList

def clash (ops : Array Oper) (o p : Oper) : Bool :=
  match o.dst with
  | some t => (readsOf ops p).contains t || p.dst == some t
  | none => false

def indep (inl : FuncId → Bool) (ops : Array Oper) (o p : Oper) : Bool :=
  !clash ops o p && !clash ops p o && !(hk inl o == 2 && hk inl p != 0) && !(hk inl p == 2 && hk inl o != 0)

def bits (acc : List Nat) (es : List Edge) : Nat :=
  es.foldl (fun s e => if Region.binds .any e then s ||| 2 ^ e.on ||| acc.getD e.on 0 else s) 0

def befs : List Oper → List Nat → List Nat
  | [], acc => acc
  | o :: r, acc => befs r (acc ++ [bits acc o.after.toList])

def raceFree (inl : FuncId → Bool) (ops : Array Oper) : Bool :=
  let B := befs ops.toList []
  (ops.toList.zipIdx.all fun (o, i) => o.after.all fun e => !Region.binds .any e || decide (e.on < i)) &&
  (List.range ops.size).all fun j => (List.range j).all fun i => indep inl ops (ops.getD i default) (ops.getD j default) || (B.getD j 0).testBit i

theorem bits_mem {acc : List Nat} {es : List Edge} {k : Nat} (h : (bits acc es).testBit k = true) : ∃ e ∈ es, Region.binds .any e = true ∧ (e.on = k ∨ (acc.getD e.on 0).testBit k = true) := by
  unfold bits at h
  have key : ∀ (es : List Edge) (s : Nat), (es.foldl (fun s e => if Region.binds .any e then s ||| 2 ^ e.on ||| acc.getD e.on 0 else s) s).testBit k = true → s.testBit k = true ∨ ∃ e ∈ es, Region.binds .any e = true ∧ (e.on = k ∨ (acc.getD e.on 0).testBit k = true) := by
    intro es
    induction es with
    | nil => intro s h; exact .inl h
    | cons e es ih =>
      intro s h
      rw [List.foldl_cons] at h
      rcases ih _ h with h | ⟨e', he', h'⟩
      · split at h
        · rename_i hb
          simp only [Nat.testBit_or, Bool.or_eq_true] at h
          rcases h with (h | h) | h
          · exact .inl h
          · refine .inr ⟨e, by simp, hb, .inl ?_⟩
            rw [Nat.testBit_two_pow] at h
            simpa using h
          · exact .inr ⟨e, by simp, hb, .inr h⟩
        · exact .inl h
      · exact .inr ⟨e', by simp [he'], h'⟩
  rcases key es 0 h with h | h
  · simp at h
  · exact h

theorem befs_pre : ∀ (l : List Oper) (acc : List Nat), ∃ more, befs l acc = acc ++ more
  | [], acc => ⟨[], by simp [befs]⟩
  | o :: r, acc => by
    obtain ⟨more, h⟩ := befs_pre r (acc ++ [bits acc o.after.toList])
    exact ⟨[bits acc o.after.toList] ++ more, by simp [befs, h]⟩

theorem befs_get : ∀ (l : List Oper) (acc : List Nat) (j : Nat) (o : Oper), l[j]? = some o → ∃ pre : List Nat, (∃ more, befs l acc = pre ++ more) ∧ pre.length = acc.length + j ∧ (befs l acc).getD (acc.length + j) 0 = bits pre o.after.toList
  | [], acc, j, o, h => by simp at h
  | p :: r, acc, 0, o, h => by
    simp at h; subst h
    obtain ⟨more, hm⟩ := befs_pre r (acc ++ [bits acc p.after.toList])
    refine ⟨acc, ⟨[bits acc p.after.toList] ++ more, by simp [befs, hm]⟩, rfl, ?_⟩
    simp [befs, hm]
  | p :: r, acc, j + 1, o, h => by
    obtain ⟨pre, h1, h2, h3⟩ := befs_get r (acc ++ [bits acc p.after.toList]) j o (by simpa using h)
    refine ⟨pre, by simpa [befs] using h1, by simp at h2; omega, ?_⟩
    simp only [befs]
    have : acc.length + (j + 1) = (acc ++ [bits acc p.after.toList]).length + j := by simp; omega
    rw [this]; exact h3

theorem bef_step {l : List Oper} {j k : Nat} {o : Oper} (ho : l[j]? = some o) (h : ((befs l []).getD j 0).testBit k = true) :
    ∃ e ∈ o.after.toList, Region.binds .any e = true ∧ (e.on = k ∨ ((befs l []).getD e.on 0).testBit k = true) := by
  obtain ⟨pre, ⟨more, h1⟩, h2, h3⟩ := befs_get l [] j o ho
  simp only [List.length_nil, Nat.zero_add] at h2 h3
  rw [h3] at h
  obtain ⟨e, he, hb, hk⟩ := bits_mem h
  refine ⟨e, he, hb, ?_⟩
  rcases hk with hk | hk
  · exact .inl hk
  · right
    rw [h1]
    by_cases hlt : e.on < pre.length
    · rw [List.getD_eq_getElem?_getD, List.getElem?_append_left hlt, ← List.getD_eq_getElem?_getD]; exact hk
    · rw [List.getD_eq_getElem?_getD, List.getElem?_eq_none (by omega)] at hk
      simp at hk

section
variable {P : Program} {C : Orc}

theorem map_ev_congr {e e' : AEv} {xs : Array Operand} (h : ∀ x ∈ xs, e x = e' x) : xs.toList.map e = xs.toList.map e' :=
  List.map_congr_left fun x hx => h x (Array.mem_toList_iff.1 hx)

theorem astepE_congr {e e' : AEv} {o : Oper} {H : Heap} (h : ∀ x ∈ o.op.operands, e x = e' x) : astepE P C e o H = astepE P C e' o H := by
  unfold astepE
  cases hop : o.op <;> simp only [hop, Op.operands] at h ⊢
  case move x => rw [h x (by simp)]
  case assign x => rw [h x (by simp)]
  case binOp op t x y u => rw [h x (by simp), h y (by simp)]
  case unOp op t x => rw [h x (by simp)]
  case convert s d x => rw [h x (by simp)]
  case extract x i => rw [h x (by simp)]
  case makeInterface t x => rw [h x (by simp)]
  case box t x => rw [h x (by simp)]
  case build t ps =>
    have : (ps.toList.map fun p => (p.1, e p.2)) = ps.toList.map fun p => (p.1, e' p.2) :=
      List.map_congr_left fun p hp => by rw [h p.2 (by simpa using ⟨p.1, by simpa using hp⟩)]
    rw [this]
  case buildSlice t len ps =>
    have : (ps.toList.map fun p => (p.1, e p.2)) = ps.toList.map fun p => (p.1, e' p.2) :=
      List.map_congr_left fun p hp => by rw [h p.2 (by simpa using ⟨p.1, by simpa using hp⟩)]
    rw [this]
  case load t x => rw [h x (by simp)]
  case store t x y => rw [h x (by simp), h y (by simp)]
  case fieldAddr s x f => rw [h x (by simp)]
  case field s x f => rw [h x (by simp)]
  case indexAddr t x i => rw [h x (by simp), h i (by simp)]
  case index t x i => rw [h x (by simp), h i (by simp)]
  case slice t x lo hi mx =>
    have h1 : lo.map e = lo.map e' := by cases lo with
      | none => rfl
      | some y => simp only [Option.map_some]; rw [h y (by simp)]
    have h2 : hi.map e = hi.map e' := by cases hi with
      | none => rfl
      | some y => simp only [Option.map_some]; rw [h y (by simp)]
    have h3 : mx.map e = mx.map e' := by cases mx with
      | none => rfl
      | some y => simp only [Option.map_some]; rw [h y (by simp)]
    rw [h x (by simp), h1, h2, h3]
  case makeSlice t l c => rw [h l (by simp), h c (by simp)]
  case nilCheck x => rw [h x (by simp)]
  case makeMap t r => cases r <;> rfl
  case lookup t m k ok => rw [h m (by simp), h k (by simp)]
  case mapUpdate t m k x => rw [h m (by simp), h k (by simp), h x (by simp)]
  case range t x => rw [h x (by simp)]
  case entry x => rw [h x (by simp)]
  case next x b => cases b <;> simp only [h x (by simp)]
  case makeFunc fn first caps =>
    cases fn with
    | func f =>
      simp only
      rw [map_ev_congr (fun x hx => h x (by simp [hx]))]
    | method n =>
      simp only
      split
      · rename_i x hf hc
        rw [h x (by have : x ∈ first.toList := by rw [hf]; simp
                    simp [Array.mem_toList_iff.1 this])]
      · rfl
    | _ => rfl
  case call c =>
    cases hc : c.callee with
    | builtin b =>
      simp only
      rw [map_ev_congr (fun x hx => h x (by simp [Call.operands, hx]))]
    | value f =>
      simp only
      rw [map_ev_congr (fun x hx => h x (by simp [Call.operands, hx])), h f (by simp [Call.operands, hc])]
    | invoke r m =>
      simp only
      rw [map_ev_congr (fun x hx => h x (by simp [Call.operands, hx])), h r (by simp [Call.operands, hc])]

theorem astep_congr {g : Bool} {e e' : AEv} {o : Oper} {H : Heap} (h : ∀ x ∈ o.op.operands, e x = e' x) : astep P C g e o H = astep P C g e' o H := by
  unfold astep
  split
  · rename_i c a b hop
    rw [hop] at h
    simp only [Op.operands] at h
    rw [h c (by simp), h a (by simp), h b (by simp)]
  · exact astepE_congr fun x hx => by rw [h x hx]

theorem astepE_none {e : AEv} {o : Oper} {H H' : Heap} {av : AVal} (hh : hk C.inl o = 0) (h : astepE P C e o H = some (av, H')) (H2 : Heap) : astepE P C e o H2 = some (av, H2) := by
  have hh0 := hh
  unfold astepE at h ⊢
  cases hop : o.op <;> simp only [hop, hk, reduceCtorEq] at h hh ⊢
  all_goals first
    | (simp only [Option.map_eq_some_iff, Prod.mk.injEq] at h; obtain ⟨_, hr, rfl, _⟩ := h; simp only [hr, Option.map_some]; done)
    | (simp only [Option.some.injEq, Prod.mk.injEq] at h; simp [h.1]; done)
    | (cases hh; done)
    | skip
  case binOp op t x y u =>
    split at h
    · rename_i q hq
      simp only [Option.some.injEq, Prod.mk.injEq] at h
      obtain ⟨rfl, _⟩ := h
      rfl
    · split at h
      · exfalso
        simp only [Option.map_eq_some_iff, Prod.mk.injEq] at h
        obtain ⟨_, hr, _⟩ := h
        unfold aEqH at hr
        split at hr
        · simp at hh
        · cases hr
      · cases h
  case slice t x lo hi mx =>
    split at h
    · rename_i q hq
      simp only [Option.some.injEq, Prod.mk.injEq] at h
      obtain ⟨rfl, _⟩ := h
      rfl
    · split at h
      · simp at hh
      · cases h
  case unOp op t x =>
    split at h
    · simp only [Option.map_eq_some_iff, Prod.mk.injEq] at h; obtain ⟨_, hr, rfl, _⟩ := h; simp only [hr, Option.map_some]
    · cases h
  case nilCheck x => split at h <;> simp at h <;> first | (simp [h.1]; done) | simp [h]
  case makeFunc fn first caps =>
    cases fn <;> simp at h
    · simp [h]
    · split at h
      · rename_i x hf hc
        split at h
        · rename_i t a he
          simp at h
          simp [hf, hc, he, h]
        · cases h
      · cases h
  case call c =>
    cases hc : c.callee with
    | builtin b =>
      simp only [hc] at h
      exact (aBuiltin_quiet (hk_builtin (inl := C.inl) hop hc (by rw [hh0]; decide)) h).2 H2
    | value f =>
      simp only [hc] at hh
      cases f <;> simp only at hh <;> (split at hh <;> cases hh)
    | invoke r m => simp [hk, hop, hc] at hh0

theorem astep_none {g : Bool} {e : AEv} {o : Oper} {H H' : Heap} {av : AVal} (hh : hk C.inl o = 0) (h : astep P C g e o H = some (av, H')) (H2 : Heap) : astep P C g e o H2 = some (av, H2) := by
  unfold astep at h ⊢
  split at h
  · simp only [Option.map_eq_some_iff, Prod.mk.injEq] at h
    obtain ⟨_, hr, rfl, _⟩ := h
    simp only [hr, Option.map_some]
  · exact astepE_none hh h H2

theorem astepE_fail {e : AEv} {o : Oper} {H : Heap} (hh : hk C.inl o = 0) (h : astepE P C e o H = none) (H2 : Heap) : astepE P C e o H2 = none := by
  cases hc : astepE P C e o H2 with
  | none => rfl
  | some r => rw [astepE_none (av := r.1) (H' := r.2) hh hc H] at h; cases h
theorem astep_fail {g : Bool} {e : AEv} {o : Oper} {H : Heap} (hh : hk C.inl o = 0) (h : astep P C g e o H = none) (H2 : Heap) : astep P C g e o H2 = none := by
  cases hc : astep P C g e o H2 with
  | none => rfl
  | some r => rw [astep_none (av := r.1) (H' := r.2) hh hc H] at h; cases h
end
end Go.AI
/- Regions, in whatever order: the theorem. -/
namespace Go.AI
set_option linter.unusedSimpArgs false
set_option linter.unusedVariables false
open Go.RowKit

def EqE (ρ ρ' : Env) : Prop := ∀ t, look ρ t = look ρ' t
def EqS (s s' : Env × Heap) : Prop := EqE s.1 s'.1 ∧ s.2 = s'.2

theorem EqE.ev {ρ ρ' : Env} (h : EqE ρ ρ') : ev ρ = ev ρ' := by
  funext x
  cases x <;> simp [AI.ev, h _]

theorem EqE.put {ρ ρ' : Env} (h : EqE ρ ρ') (d : Option Tmp) (a : AVal) : EqE (put ρ d a) (put ρ' d a) := by
  cases d with
  | none => exact h
  | some t => intro s; simp only [AI.put, look]; split
              · rfl
              · exact h s

theorem look_put (ρ : Env) (d : Option Tmp) (a : AVal) (t : Nat) : look (put ρ d a) t = if d = some t then a else look ρ t := by
  cases d with
  | none => simp [put]
  | some s =>
    simp only [put, look, Option.some.injEq]
    by_cases h : t = s
    · rw [if_pos h, if_pos h.symm]
    · rw [if_neg h, if_neg (fun e => h e.symm)]

section
variable {P : Program} {C : Orc} {nt : Nat} {ops : Array Oper}

theorem gsel_put {g wr : Bool} {x : Option (AVal × Heap)} {ρ : Env} {H : Heap} {d : Option Tmp} {r : Env × Heap} (h : gsel g wr x ρ H d = some r) :
    ∃ a H', r = (put ρ d a, H') ∧ (wr = false → H' = H) ∧ ∀ ρ2, gsel g wr x ρ2 H d = some (put ρ2 d a, H') := by
  unfold gsel at h ⊢
  split at h
  · rename_i hw
    have hwf : ∀ {p : Prop}, wr = false → p := fun e => by rw [hw] at e; cases e
    split at h
    · rename_i hg
      simp only [Option.map_eq_some_iff] at h
      obtain ⟨y, rfl, rfl⟩ := h
      exact ⟨_, _, rfl, hwf, fun ρ2 => by simp [hg, hw]⟩
    · rename_i hg
      simp only [Option.some.injEq] at h; subst h
      exact ⟨_, _, rfl, hwf, fun ρ2 => by simp [hg, hw]⟩
  · rename_i hw
    split at h
    · cases h
    · rename_i hg
      simp only [Option.some.injEq] at h; subst h
      exact ⟨_, _, rfl, fun _ => rfl, fun ρ2 => by rw [if_neg hw, if_neg hg]⟩

theorem step1_eq {o : Oper} {s s' : Env × Heap} (h : EqS s s') {r : Env × Heap} (hr : step1 P C nt ops o s = some r) : ∃ r', step1 P C nt ops o s' = some r' ∧ EqS r r' := by
  obtain ⟨ρ, H⟩ := s
  obtain ⟨ρ', H'⟩ := s'
  obtain ⟨h1, h2⟩ := h
  simp only at h1 h2
  subst h2
  unfold step1 at hr ⊢
  simp only [← h1.ev]
  split at hr
  · rename_i hd
    rw [if_pos hd]
    split at hr
    · simp only [Option.map_eq_some_iff] at hr
      obtain ⟨x, hx, rfl⟩ := hr
      simp only [hx, Option.map_some]
      exact ⟨_, rfl, h1.put _ _, rfl⟩
    · split at hr
      · rename_i g hg
        simp only [hg]
        obtain ⟨x, H2, rfl, _, hp⟩ := gsel_put hr
        exact ⟨_, hp ρ', h1.put _ _, rfl⟩
      · cases hr
  · cases hr

theorem runL_eq (l : List Oper) : ∀ {s s' : Env × Heap}, EqS s s' → ∀ {r : Env × Heap}, runL P C nt ops l s = some r → ∃ r', runL P C nt ops l s' = some r' ∧ EqS r r' := by
  induction l with
  | nil => intro s s' h r hr; simp only [runL, Option.some.injEq] at hr; subst hr; exact ⟨s', rfl, h⟩
  | cons o l ih =>
    intro s s' h r hr
    simp only [runL] at hr ⊢
    split at hr
    · rename_i x hx
      obtain ⟨y, hy, he⟩ := step1_eq h hx
      rw [hy]
      exact ih he hr
    · cases hr

theorem mem_reads {o : Oper} {t : Tmp} (h : Operand.tmp t ∈ o.op.operands) : t ∈ readsOf ops o := by
  unfold readsOf tmpsOf
  refine List.mem_append.2 (.inl (List.mem_filterMap.2 ⟨.tmp t, Array.mem_toList_iff.2 h, rfl⟩))

/-- what an operation does not see does not matter to it -/
theorem step1_frame {o : Oper} {ρ : Env} {H : Heap} {r : Env × Heap} (hr : step1 P C nt ops o (ρ, H) = some r) (ρ2 : Env) (H2 : Heap) (h1 : ∀ t, t ∈ readsOf ops o → look ρ2 t = look ρ t) (h2 : hk C.inl o = 0 ∨ H2 = H) :
    ∃ a H', r = (put ρ o.dst a, H') ∧ (hk C.inl o ≠ 2 → H' = H) ∧ step1 P C nt ops o (ρ2, H2) = some (put ρ2 o.dst a, if hk C.inl o = 2 then H' else H2) := by
  have hcong : ∀ g H, astep P C g (ev ρ2) o H = astep P C g (ev ρ) o H := fun g H => astep_congr (fun y hy => by
    cases y with
    | tmp t => exact h1 t (mem_reads hy)
    | _ => rfl)
  unfold step1 at hr ⊢
  split at hr
  · rename_i hd
    rw [if_pos hd]
    have hg : guardOk ops (ev ρ2) o = guardOk ops (ev ρ) o := by
      unfold guardOk
      split
      · rfl
      · rename_i j want hgd
        split
        · rename_i d hdd
          have : look ρ2 d = look ρ d := h1 d (by unfold readsOf; simp [hgd, hdd])
          simp only [ev, this]
        · rfl
    split at hr
    · rename_i hgn
      simp only [Option.map_eq_some_iff] at hr
      obtain ⟨⟨x, H'⟩, hx, rfl⟩ := hr
      refine ⟨x, H', rfl, fun hh => astep_read (fun _ => rfl) hh hx, ?_⟩
      by_cases h0 : hk C.inl o = 0
      · have hx2 := astep_none h0 ((hcong _ _).trans hx) H2
        rw [hx2, if_neg (by rw [h0]; decide)]
        rfl
      · rcases h2 with h2 | h2
        · exact absurd h2 h0
        · subst h2
          rw [hcong, hx]
          by_cases h3 : hk C.inl o = 2
          · rw [if_pos h3]; rfl
          · have := astep_read (fun _ => rfl) h3 hx
            rw [if_neg h3, this]; rfl
    · split at hr
      · rename_i g hg'
        simp only at hg'
        rw [hg'] at hg
        simp only [hg, hcong]
        obtain ⟨x, H', rfl, hw, hp⟩ := gsel_put hr
        refine ⟨x, H', rfl, fun hh => hw (by simpa using hh), ?_⟩
        by_cases h0 : hk C.inl o = 0
        · rw [if_neg (by rw [h0]; decide)]
          have hw0 : (hk C.inl o == 2) = false := by rw [h0]; rfl
          rw [hw0] at hr hp ⊢
          have hp2 := hp ρ2
          have hfst : (astep P C g (ev ρ) o H2).map Prod.fst = (astep P C g (ev ρ) o H).map Prod.fst := by
            cases hc : astep P C g (ev ρ) o H with
            | none => rw [astep_fail h0 hc H2]
            | some y => rw [astep_none (av := y.1) (H' := y.2) h0 hc H2]; rfl
          have hnn : (astep P C g (ev ρ) o H2).isNone = (astep P C g (ev ρ) o H).isNone := by
            cases hc : astep P C g (ev ρ) o H with
            | none => rw [astep_fail h0 hc H2]
            | some y => rw [astep_none (av := y.1) (H' := y.2) h0 hc H2]; rfl
          simp only [gsel, Bool.false_eq_true, if_false, hfst, hnn] at hp2 ⊢
          split at hp2
          · cases hp2
          · rename_i hno
            rw [if_neg hno]
            simp only [Option.some.injEq, Prod.mk.injEq] at hp2
            rw [hp2.1]
        · rcases h2 with h2 | h2
          · exact absurd h2 h0
          · subst h2
            rw [hp ρ2]
            by_cases h3 : hk C.inl o = 2
            · rw [if_pos h3]
            · rw [if_neg h3, hw (by simpa using h3)]
      · cases hr
  · cases hr

theorem clash_no {o p : Oper} (h : clash ops o p = false) {t : Tmp} (ht : o.dst = some t) : t ∉ readsOf ops p ∧ p.dst ≠ some t := by
  unfold clash at h
  simp only [ht, Bool.or_eq_false_iff] at h
  constructor
  · intro hm
    have := h.1
    simp [List.contains_eq_mem, hm] at this
  · intro hm
    have := h.2
    simp [hm] at this

theorem swap {o p : Oper} (hi : indep C.inl ops o p = true) {s s1 s2 : Env × Heap} (h1 : step1 P C nt ops o s = some s1) (h2 : step1 P C nt ops p s1 = some s2) :
    ∃ t1 t2, step1 P C nt ops p s = some t1 ∧ step1 P C nt ops o t1 = some t2 ∧ EqS s2 t2 := by
  obtain ⟨ρ, H⟩ := s
  simp only [indep, Bool.and_eq_true, Bool.not_eq_true', Bool.and_eq_false_iff] at hi
  obtain ⟨⟨⟨c1, c2⟩, c3⟩, c4⟩ := hi
  have c3' : hk C.inl o = 2 → hk C.inl p = 0 := by
    intro h
    rcases c3 with c3 | c3
    · simp [h] at c3
    · simpa using c3
  have c4' : hk C.inl p = 2 → hk C.inl o = 0 := by
    intro h
    rcases c4 with c4 | c4
    · simp [h] at c4
    · simpa using c4
  obtain ⟨a, H1, rfl, ho, _⟩ := step1_frame h1 ρ H (fun _ _ => rfl) (.inr rfl)
  -- p, seen from the start
  have hread1 : ∀ t, t ∈ readsOf ops p → look ρ t = look (put ρ o.dst a) t := by
    intro t ht
    rw [look_put]
    split
    · rename_i hd
      exact absurd ht (clash_no c1 hd).1
    · rfl
  have hH1 : hk C.inl p = 0 ∨ H = H1 := by
    by_cases h : hk C.inl o = 2
    · exact .inl (c3' h)
    · exact .inr (ho h).symm
  obtain ⟨b, H2, rfl, hp, hp2⟩ := step1_frame h2 ρ H hread1 hH1
  -- o, behind it
  have hread2 : ∀ t, t ∈ readsOf ops o → look (put ρ p.dst b) t = look ρ t := by
    intro t ht
    rw [look_put]
    split
    · rename_i hd
      exact absurd ht (clash_no c2 hd).1
    · rfl
  obtain ⟨a', H3, he, ho2, ho3⟩ := step1_frame h1 (put ρ p.dst b) (if hk C.inl p = 2 then H2 else H) hread2 (by
    by_cases h : hk C.inl p = 2
    · exact .inl (c4' h)
    · exact .inr (if_neg h))
  simp only [Prod.mk.injEq] at he
  obtain ⟨he1, rfl⟩ := he
  refine ⟨_, _, hp2, ho3, ?_, ?_⟩
  · intro t
    simp only
    rw [look_put, look_put, look_put, look_put]
    have haa : ∀ d, o.dst = some d → a = a' := by
      intro d hd
      simp only [put, hd, List.cons.injEq, Prod.mk.injEq, true_and, and_true] at he1
      exact he1
    by_cases q1 : p.dst = some t <;> by_cases q2 : o.dst = some t
    · exact absurd q1 (clash_no c1 q2).2
    · simp [q1, q2]
    · simp [q1, q2, haa t q2]
    · simp [q1, q2]
  · simp only
    by_cases q1 : hk C.inl o = 2
    · have q2 := c3' q1
      have q3 : hk C.inl p ≠ 2 := by rw [q2]; decide
      rw [if_pos q1, hp q3]
    · rw [if_neg q1]
      by_cases q2 : hk C.inl p = 2
      · rw [if_pos q2]
      · rw [if_neg q2, hp q2, ho q1]

theorem front {o : Oper} : ∀ (l1 l2 : List Oper) {s r : Env × Heap}, (∀ p ∈ l1, indep C.inl ops p o = true) → runL P C nt ops (l1 ++ o :: l2) s = some r →
    ∃ s1 r', step1 P C nt ops o s = some s1 ∧ runL P C nt ops (l1 ++ l2) s1 = some r' ∧ EqS r r'
  | [], l2, s, r, _, h => by
    simp only [List.nil_append, runL] at h ⊢
    split at h
    · rename_i x hx
      exact ⟨x, r, hx, h, fun _ => rfl, rfl⟩
    · cases h
  | p :: l1, l2, s, r, hi, h => by
    simp only [List.cons_append, runL] at h
    split at h
    · rename_i x hx
      obtain ⟨s1, r1, h1, h2, h3⟩ := front l1 l2 (fun q hq => hi q (by simp [hq])) h
      obtain ⟨t1, t2, g1, g2, g3⟩ := swap (hi p (by simp)) hx h1
      obtain ⟨r2, k1, k2⟩ := runL_eq _ g3 h2
      refine ⟨t1, r2, g1, ?_, fun t => (h3.1 t).trans (k2.1 t), h3.2.trans k2.2⟩
      simp only [List.cons_append, runL, g2]
      exact k1
    · cases h
end

/-- the operations that are still to come -/
def rest (ops : Array Oper) (listed : Array Bool) : List Nat := (List.range ops.size).filter fun i => !listed.getD i true

theorem rest_set {ops : Array Oper} {listed : Array Bool} {i : Nat} (hs : listed.size = ops.size) (hi : i < ops.size) (l1 l2 : List Nat) (h : rest ops listed = l1 ++ i :: l2) : rest ops (listed.setIfInBounds i true) = l1 ++ l2 := by
  have hnd : (rest ops listed).Nodup := (List.nodup_range (n := ops.size)).sublist List.filter_sublist
  have e1 : rest ops (listed.setIfInBounds i true) = (rest ops listed).filter (· ≠ i) := by
    unfold rest
    rw [List.filter_filter]
    apply List.filter_congr
    intro k hk
    by_cases hki : k = i
    · subst hki
      simp [Array.getD_eq_getD_getElem?, hs, hi]
    · have : (listed.setIfInBounds i true).getD k true = listed.getD k true := by
        rw [Array.getD_eq_getD_getElem?, Array.getD_eq_getD_getElem?, Array.getElem?_setIfInBounds_ne (by omega)]
      simp [this, hki]
  rw [e1, h]
  rw [h] at hnd
  have h1 : i ∉ l1 := fun hm => by
    have := (List.nodup_append.1 hnd).2.2 i hm i (by simp)
    exact this rfl
  have h2 : i ∉ l2 := (List.nodup_cons.1 (List.nodup_append.1 hnd).2.1).1
  rw [List.filter_append, List.filter_cons]
  simp only [ne_eq, not_true_eq_false, decide_false, Bool.false_eq_true, if_false]
  rw [List.filter_eq_self.2 (fun a ha => by simp; exact fun e => h1 (e ▸ ha)), List.filter_eq_self.2 (fun a ha => by simp; exact fun e => h2 (e ▸ ha))]

theorem getD_listed {listed : Array Bool} {n i : Nat} (hs : listed.size = n) (hi : i < n) : listed.getD i true = listed.getD i false := by
  simp [Array.getD_eq_getD_getElem?, hs, hi]

section
variable {nt : Fr} {base : Nat} {w0 : World} {P : Program} {C : Orc} {ops : Array Oper}

theorem any_wp (hC : OrcOk P C) (hrf : raceFree C.inl ops = true) (Q : Exit → Act → World → Prop) {ρn : Env} {Hn : Heap}
    (hQ : ∀ β fz ρ a w, EqE ρn ρ → Sim nt base w0 β fz ρ Hn a w → Q .normal a w) :
    ∀ (fuel : Nat) (listed : Array Bool) (ρ : Env) (H : Heap) (β : Nat → Nat) (fz : Nat → Prop) (a : Act) (w : World) (r : Env × Heap), listed.size = ops.size → (rest ops listed).length = fuel →
      (∀ i o, ops[i]? = some o → listed.getD i false = true → ∀ e ∈ o.after.toList, Region.binds .any e = true → listed.getD e.on false = true) →
      runL P C nt.nt ops ((rest ops listed).map fun i => ops.getD i default) (ρ, H) = some r → EqS (ρn, Hn) r → Sim nt base w0 β fz ρ H a w → wpAny P .any ops Q fuel listed a w := by
  have hrf' := hrf
  simp only [raceFree, Bool.and_eq_true, List.all_eq_true] at hrf'
  obtain ⟨hlt, hpair⟩ := hrf'
  have edge_lt : ∀ i o, ops[i]? = some o → ∀ e ∈ o.after.toList, Region.binds .any e = true → e.on < i := by
    intro i o ho e he hb
    have h1 := hlt (o, i) (by
      rw [List.mem_zipIdx_iff_getElem?]
      simpa using ho)
    simp only [Array.all_eq_true', Bool.or_eq_true, Bool.not_eq_true', decide_eq_true_eq] at h1
    rcases h1 e (Array.mem_toList_iff.1 he) with h | h
    · rw [hb] at h; cases h
    · exact h
  intro fuel
  induction fuel with
  | zero =>
    intro listed ρ H β fz a w r hsz hlen hcl hrun hr hs
    have hnil : rest ops listed = [] := List.length_eq_zero_iff.1 hlen
    rw [hnil] at hrun
    simp only [List.map_nil, runL, Option.some.injEq] at hrun
    subst hrun
    simp only [wpAny]
    refine ⟨?_, ?_⟩
    · unfold Region.ready
      rw [List.filter_eq_nil_iff]
      intro i hi
      have : i ∉ rest ops listed := by rw [hnil]; simp
      unfold rest at this
      rw [List.mem_filter] at this
      simp only [hi, true_and, Bool.not_eq_true', Bool.not_eq_false] at this
      simp [this]
    · obtain ⟨h1, h2⟩ := hr
      simp only at h1 h2
      subst h2
      exact hQ β fz ρ a w h1 hs
  | succ fuel ih =>
    intro listed ρ H β fz a w r hsz hlen hcl hrun hr hs
    simp only [wpAny]
    refine ⟨?_, ?_⟩
    · -- there is one that is ready: the first
      intro hready
      exfalso
      cases hrest : rest ops listed with
      | nil => rw [hrest] at hlen; simp at hlen
      | cons i l =>
        have him : i ∈ rest ops listed := by rw [hrest]; simp
        unfold rest at him
        rw [List.mem_filter] at him
        obtain ⟨hi1, hi2⟩ := him
        have hi1' : i < ops.size := by simpa using hi1
        have : i ∈ Region.ready .any ops listed := by
          unfold Region.ready
          rw [List.mem_filter]
          refine ⟨hi1, ?_⟩
          rw [hi2]
          have ho : ops[i]? = some ops[i] := Array.getElem?_eq_getElem hi1'
          simp only [ho, Option.map_some, Option.getD_some, Bool.true_and]
          rw [Array.all_eq_true']
          intro e he
          by_cases hb : Region.binds .any e = true
          · have hon := edge_lt i _ ho e (Array.mem_toList_iff.2 he) hb
            -- smaller ones are listed
            have hl : listed.getD e.on false = true := by
              rw [← getD_listed hsz (by omega)]
              cases hh : listed.getD e.on true with
              | true => rfl
              | false =>
                exfalso
                have hm : e.on ∈ rest ops listed := by
                  unfold rest
                  rw [List.mem_filter]
                  exact ⟨by simp; omega, by simp [hh]⟩
                have hsorted : (rest ops listed).Pairwise (· < ·) := List.Pairwise.filter _ List.pairwise_lt_range
                rw [hrest] at hm hsorted
                rcases List.mem_cons.1 hm with hm | hm
                · omega
                · have := (List.pairwise_cons.1 hsorted).1 _ hm
                  omega
            simp [hl]
          · simp [hb]
        rw [hready] at this
        simp at this
    · intro i hi
      unfold Region.ready at hi
      rw [List.mem_filter] at hi
      obtain ⟨hi1, hi2⟩ := hi
      have hi1' : i < ops.size := by simpa using hi1
      have ho : ops[i]? = some ops[i] := Array.getElem?_eq_getElem hi1'
      simp only [Bool.and_eq_true, ho, Option.map_some, Option.getD_some, Array.all_eq_true', Bool.or_eq_true, Bool.not_eq_true'] at hi2
      obtain ⟨hul, hed⟩ := hi2
      have him : i ∈ rest ops listed := by
        unfold rest
        rw [List.mem_filter]
        exact ⟨hi1, by simp [hul]⟩
      obtain ⟨l1, l2, hsplit⟩ := List.append_of_mem him
      -- all that comes before it by edges is listed
      have hbefore : ∀ (j : Nat) k, j < ops.size → (∀ e ∈ (ops.getD j default).after.toList, Region.binds .any e = true → listed.getD e.on false = true) → ((befs ops.toList []).getD j 0).testBit k = true → listed.getD k false = true := by
        intro j
        induction j using Nat.strongRecOn with
        | _ j ihj =>
          intro k hj hall hbit
          have hoj : ops.toList[j]? = some ops[j] := by simp [hj]
          have hoj' : ops.getD j default = ops[j] := by simp [Array.getD, hj]
          obtain ⟨e, he, hb, hk⟩ := bef_step hoj hbit
          have hle := hall e (by rw [hoj']; exact he) hb
          rcases hk with hk | hk
          · rw [← hk]; exact hle
          · have hon := edge_lt j ops[j] (by simp [hj]) e he hb
            refine ihj e.on hon k (by omega) ?_ hk
            have h1 : e.on < ops.size := by omega
            have : ops.getD e.on default = ops[e.on] := by simp [Array.getD, h1]
            rw [this]
            exact hcl e.on ops[e.on] (Array.getElem?_eq_getElem h1) hle
      have hgi : ops.getD i default = ops[i] := by simp [Array.getD, hi1']
      have hall : ∀ e ∈ (ops.getD i default).after.toList, Region.binds .any e = true → listed.getD e.on false = true := by
        intro e he hb
        rw [hgi] at he
        rcases hed e (Array.mem_toList_iff.1 he) with h | h
        · rw [hb] at h; cases h
        · exact h
      have hind : ∀ p ∈ l1.map (fun i => ops.getD i default), indep C.inl ops p (ops.getD i default) = true := by
        intro p hp
        simp only [List.mem_map] at hp
        obtain ⟨k, hk, rfl⟩ := hp
        have hsorted : (rest ops listed).Pairwise (· < ·) := List.Pairwise.filter _ List.pairwise_lt_range
        rw [hsplit] at hsorted
        have hki : k < i := (List.pairwise_append.1 hsorted).2.2 k hk i (by simp)
        have := hpair i (by simp [hi1']) k (by simp [hki])
        simp only [Bool.or_eq_true] at this
        rcases this with h | h
        · exact h
        · exfalso
          have hkl := hbefore i k hi1' hall h
          have hkm : k ∈ rest ops listed := by rw [hsplit]; simp [hk]
          unfold rest at hkm
          rw [List.mem_filter] at hkm
          have h1 : k < ops.size := by omega
          rw [← getD_listed hsz h1] at hkl
          rw [hkl] at hkm
          simp at hkm
      rw [hsplit, List.map_append, List.map_cons] at hrun
      obtain ⟨s1, r', h1, h2, h3⟩ := front _ _ hind hrun
      refine step1_wp (nt := nt) (base := base) (w0 := w0) hC (o := ops.getD i default) (by rw [hgi]; exact ho) hs h1 ?_
      intro a' w' β' fz' hs'
      have hrest' := rest_set hsz hi1' l1 l2 hsplit
      refine ih (listed.setIfInBounds i true) s1.1 s1.2 β' fz' a' w' r' (by simp [hsz]) ?_ ?_ ?_ ⟨fun t => (hr.1 t).trans (h3.1 t), hr.2.trans h3.2⟩ hs'
      · rw [hrest']
        rw [hsplit] at hlen
        simp at hlen ⊢
        omega
      · intro k o hk hkl e he hb
        have hgd : ∀ m, (listed.setIfInBounds i true).getD m false = true ↔ m = i ∨ listed.getD m false = true := by
          intro m
          by_cases hm : m = i
          · subst hm
            simp [Array.getD_eq_getD_getElem?, hsz, hi1']
          · rw [Array.getD_eq_getD_getElem?, Array.getElem?_setIfInBounds_ne (by omega), ← Array.getD_eq_getD_getElem?]
            simp [hm]
        rw [hgd] at hkl ⊢
        right
        rcases hkl with rfl | hkl
        · rw [ho] at hk
          simp only [Option.some.injEq] at hk
          subst hk
          exact hall e (by rw [hgi]; exact he) hb
        · exact hcl k o hk hkl e he hb
      · rw [hrest', List.map_append]
        exact h2

theorem seq_wp (hC : OrcOk P C) (Q : Exit → Act → World → Prop) {ρn : Env} {Hn : Heap} (hQ : ∀ β fz a w, Sim nt base w0 β fz ρn Hn a w → Q .normal a w) :
    ∀ (l : List Oper) (k : Nat) (ρ : Env) (H : Heap) (β : Nat → Nat) (fz : Nat → Prop) (a : Act) (w : World), (∀ j, l[j]? = ops[k + j]?) → runL P C nt.nt ops l (ρ, H) = some (ρn, Hn) → Sim nt base w0 β fz ρ H a w →
      wpOps P ops Q (List.range' k l.length) a w
  | [], k, ρ, H, β, fz, a, w, _, hrun, hs => by
    simp only [runL, Option.some.injEq, Prod.mk.injEq] at hrun
    obtain ⟨rfl, rfl⟩ := hrun
    exact hQ β fz a w hs
  | o :: l, k, ρ, H, β, fz, a, w, hl, hrun, hs => by
    simp only [runL] at hrun
    split at hrun
    · rename_i s1 h1
      have ho : ops[k]? = some o := by simpa using (hl 0).symm
      simp only [List.length_cons, List.range'_succ]
      rw [wpOps_cons]
      refine step1_wp hC ho hs h1 (fun a' w' β' fz' hs' => ?_)
      exact seq_wp hC Q hQ l (k + 1) s1.1 s1.2 β' fz' a' w' (fun j => by have := hl (j + 1); simpa [Nat.add_assoc, Nat.add_comm 1 j] using this) hrun hs'
    · cases hrun

theorem Sim.drew {β : Nat → Nat} {fz : Nat → Prop} {ρ : Env} {H : Heap} {a : Act} {w : World} (hs : Sim nt base w0 β fz ρ H a w) : Sim nt base w0 β fz ρ H a { w with drawn := w.drawn + 1 } := by
  obtain ⟨h1, h2⟩ := hs.heap.drew
  exact ⟨h1, hs.defers, hs.size, hs.ext.trans h2, fun t => (hs.env t).ext h2⟩

/-- A REGION -/
theorem region_wp (hC : OrcOk P C) (hm : P.follows .mixedOrders = true) {id : Nat} {draw : Bool} (hrf : draw = true → raceFree C.inl ops = true) (Q : Exit → Act → World → Prop) {ρ ρn : Env} {H Hn : Heap} {β : Nat → Nat} {fz : Nat → Prop} {a : Act} {w : World}
    (hs : Sim nt base w0 β fz ρ H a w) (hrun : runL P C nt.nt ops ops.toList (ρ, H) = some (ρn, Hn))
    (hQ : ∀ β fz a w, Sim nt base w0 β fz ρn Hn a w → Q .normal a w) : (Code.region id ops draw).wp P Q a w := by
  cases draw with
  | false =>
    apply wp_region
    have := seq_wp hC Q hQ ops.toList 0 ρ H β fz a w (by simp) hrun hs
    rw [List.range_eq_range']
    simpa using this
  | true =>
    apply wp_region_any hm
    have hrest : rest ops (Array.replicate ops.size false) = List.range ops.size := by
      unfold rest
      rw [List.filter_eq_self]
      intro i hi
      have : i < ops.size := by simpa using hi
      simp [Array.getD_eq_getD_getElem?, this]
    refine any_wp hC (hrf rfl) Q (ρn := ρn) (Hn := Hn) (fun β fz ρ a w he hs => hQ β fz a w ⟨hs.heap, hs.defers, hs.size, hs.ext, fun t => by rw [he t]; exact hs.env t⟩) ops.size _ ρ H β fz a _ (ρn, Hn) (by simp) (by rw [hrest]; simp) ?_ ?_ ⟨fun _ => rfl, rfl⟩ hs.drew
    · intro i o ho hl
      have : i < ops.size := (Array.getElem?_eq_some_iff.1 ho).1
      simp [Array.getD_eq_getD_getElem?, this] at hl
    · rw [hrest]
      have : (List.range ops.size).map (fun i => ops.getD i default) = ops.toList := by
        apply List.ext_getElem?
        intro i
        by_cases h : i < ops.size
        · simp [h, Array.getD]
        · simp [h]
      rw [this]; exact hrun
end
end Go.AI
