/- Functions. -/
import Derived.Test.YtdakclpneghkmaaGreatDoorL08
set_option linter.unusedSimpArgs false
set_option linter.unusedVariables false
namespace Go.AI
set_option linter.unusedSectionVars false
variable [Sym]
open Go.RowKit
section
variable {nt : Fr} {base : Nat} {w0 : World} {β : Nat → Nat} {fz : Nat → Prop} {ρ : Env} {H H' : Heap} {a : Act} {w : World} {P : Program} {C : Orc} {av : AVal} {n : Nat} {ok : Bool → Nat → Prop}
theorem load_run (hs : HSim base w0 β fz H w) {t : TypeId} {x : AVal} {v : Value} (hx : R β (okOf base fz) w H.length x v) (h : aLoad P t x H = some av) :
  ∃ ad y, v = .pointer (some ad) ∧ (loadVar t ad).run P w = .ok y w ∧ R β (okOf base fz) w H.length av y := by
 unfold aLoad at h
 split at h
 ·rename_i id sz i off
  split at h
  ·rename_i sz' rows hob
   split at h
   ·rename_i row hrow
    split at h
    ·rename_i hsz
     subst hsz
     obtain ⟨cs, e, g1, g2, g3, g4, g5⟩ := hs.cells hob
     have hi : i < rows.length := (List.getElem?_eq_some_iff.1 hrow).1
     have hrl : row.length = sz' := g2 row (List.mem_of_getElem? hrow)
     have hmul : (i + 1) * sz' ≤ rows.length * sz' := Nat.mul_le_mul_right _ hi
     rw [Nat.succ_mul] at hmul
     obtain ⟨y, hy, hR⟩ := read_R (β := β) (ok := okOf base fz) (w := w) (n := H.length) h (β id) (i * sz') (fun j => cs[i * sz' + j]?.getD undef)
      (fun j hj => by
       have : i * sz' + j < cs.size := by omega
       simp [World.cell?, g1, this]) (fun j c hj => g5 i row hrow j c hj)
     cases hx with
     | mp _ => exact absurd rfl (obj_live hob).2
     | ptr _ _ => exact ⟨_, y, rfl, hy, hR⟩
    ·split at h
     case isFalse => cases h
     rename_i hsz
     obtain ⟨rfl, hs0, rfl⟩ := hsz
     obtain ⟨cs, e, g1, g2, g3, g4, g5⟩ := hs.cells hob
     obtain ⟨f1, f2⟩ := flat1 g2
     obtain ⟨y, hy, hR⟩ := read_R (β := β) (ok := okOf base fz) (w := w) (n := H.length) h (β id) 0 (fun j => cs[j]?.getD undef)
      (fun j hj => by
       have : j < cs.size := by omega
       simp [World.cell?, g1, this]) (fun j c hj => by
       obtain ⟨r, r1, r2⟩ := f2 j c hj
       have := g5 j r r1 0 c r2
       simpa using this)
     cases hx with
     | mp _ => exact absurd rfl hs0
     | ptr _ _ =>
     simp only [Nat.zero_add] at hy
     exact ⟨_, y, by simp, hy, hR⟩
   ·cases h
  ·cases h
 ·rename_i row off
  cases hx with
  | @fptr _ _ _ b oo x' hb hc hr =>
   obtain ⟨y, hy, hR⟩ := read_R (β := β) (ok := okOf base fz) (w := w) (n := H.length) h b oo x' hc (fun j c hj => (hr j c hj).mono (Nat.zero_le _) (fun _ h => absurd h (Nat.not_lt_zero _)) (fun _ _ h => h) (fun _ _ _ => rfl) (Shapes.refl _))
   exact ⟨_, y, rfl, hy, hR⟩
 ·cases h
def resSem (tmps : Array Value) : ResultVar → Sem Value
 | .tmp t => pure (tmps.getD t undef)
 | .cell a t => do loadVar t (← asAddr (tmps.getD a undef))
theorem res_run (hs : Sim nt base w0 β fz ρ H a w) : ∀ (rs : List ResultVar) (l : Row), resA P ρ H rs = some l →
  ∃ xs : List Value, (rs.mapM (resSem a.tmps)).run P w = .ok xs w ∧ xs.length = l.length ∧ ∀ (j : Nat) (c : AVal), l[j]? = some c → R β (okOf base fz) w H.length c (xs[j]?.getD undef)
 | [], l, h => by simp [resA] at h; subst h; exact ⟨[], rfl, rfl, by simp⟩
 | .tmp t :: rs, l, h => by
  simp only [resA, Option.map_eq_some_iff] at h
  obtain ⟨l', hl', rfl⟩ := h
  obtain ⟨xs, h1, h2, h3⟩ := res_run hs rs l' hl'
  refine ⟨a.tmps.getD t undef :: xs, ?_, by simp [h2], fun j c hj => ?_⟩
  ·simp only [List.mapM_cons, Sem.run_bind, resSem, Sem.run_pure, Result.andThen_ok]
   rw [h1]; rfl
  ·cases j with
   | zero => simp at hj; subst hj; simpa using hs.env t
   | succ j => simpa using h3 j c (by simpa using hj)
 | .cell t ty :: rs, l, h => by
  simp only [resA] at h
  split at h
  ·rename_i x hx
   simp only [Option.map_eq_some_iff] at h
   obtain ⟨l', hl', rfl⟩ := h
   obtain ⟨xs, h1, h2, h3⟩ := res_run hs rs l' hl'
   obtain ⟨ad, y, q1, q2, q3⟩ := load_run hs.heap (hs.env t) hx
   refine ⟨y :: xs, ?_, by simp [h2], fun j c hj => ?_⟩
   ·simp only [List.mapM_cons, Sem.run_bind, resSem, q1, asAddr, Sem.run_pure, Result.andThen_ok, q2]
    rw [h1]; rfl
   ·cases j with
    | zero => simp at hj; subst hj; simpa using q3
    | succ j => simpa using h3 j c (by simpa using hj)
  ·cases h
theorem tup_R {l : Row} {xs : List Value} (hl : xs.length = l.length) (hr : ∀ (j : Nat) (c : AVal), l[j]? = some c → R β ok w n c (xs[j]?.getD undef)) :
  R β ok w n (tupA l) (if h : xs.toArray.size = 1 then xs.toArray[0] else .tuple xs.toArray) := by
 unfold tupA
 split
 ·rename_i x
  have h1 : xs.length = 1 := by simpa using hl
  obtain ⟨y, rfl⟩ := List.length_eq_one_iff.1 h1
  simpa using hr 0 x (by simp)
 ·rename_i hne
  have h1 : ¬ xs.toArray.size = 1 := by
   intro h
   have h2 : l.length = 1 := by simp at h; omega
   obtain ⟨y, hy⟩ := List.length_eq_one_iff.1 h2
   exact hne y hy
  rw [dif_neg h1]
  split
  ·rename_i ys hy
   have hcs := allV_some hy
   subst hcs
   have : xs = ys := by
    apply List.ext_getElem (by simpa using hl)
    intro j h1 h2
    have := hr j (.v ys[j]) (by simp [h2])
    generalize hz : xs[j]?.getD undef = z at this
    cases this
    simp [h1] at hz
    simpa using hz
   rw [this]; exact .v
  ·exact .tup (by simpa using hl.symm) (fun j c hj => by simpa using hr j c hj)
theorem results_run (hs : Sim nt base w0 β fz ρ H a w) {fn : Func} {l : Row} (h : resA P ρ H fn.results.toList = some l) :
  ∃ v, (results fn a.tmps).run P w = .ok v w ∧ R β (okOf base fz) w H.length (tupA l) v := by
 obtain ⟨xs, h1, h2, h3⟩ := res_run hs fn.results.toList l h
 refine ⟨_, ?_, tup_R h2 h3⟩
 have hm : (fn.results.mapM (resSem a.tmps)).run P w = .ok xs.toArray w := by
  rw [Array.mapM_eq_mapM_toList]
  simp only [Sem.run_map, h1, Result.andThen_ok]
 have he : results fn a.tmps = (do let vs ← fn.results.mapM (resSem a.tmps); pure (if h : vs.size = 1 then vs[0] else .tuple vs)) := by
  unfold results
  congr 1
 rw [he, Sem.run_bind, hm]
 rfl
theorem body_calls {f : FuncId} {fn : Func} {c : Code} (hf : P.funcs[f]? = some fn) (hb : fn.body = some c) {args : Row} {vals : Array Value} {Rr : AVal → Heap → Prop} {n0 : Nat} (hn : args.length ≤ fn.ntmps)
  (hA : AWp P fn.ntmps n0 c (retA P fn Rr) (envOf 0 args) H) (fr : Fr) (hfr : fr.nt = fn.ntmps) (hn0 : fr.n0 = n0) (hsim : HSim base w0 β fz H w) (hext : Ext fr.n0 fr.βe fr.fze fr.we H.length β fz w) (hargs : ArgsR β (okOf base fz) w H.length args vals)
  (K : Ending → World → Prop) (hK : ∀ x v β' fz' H' w', Rr x H' → HSim base w0 β' fz' H' w' → Ext fr.n0 fr.βe fr.fze fr.we H'.length β' fz' w' → R β' (okOf base fz') w' H'.length x v → K (.returned v) w') :
  Calls P f vals w K := by
 refine calls_of_wp hf hb ?_
 have hsz : (vals ++ Array.replicate (fn.ntmps - vals.size) undef).size = fn.ntmps := by
  have := hargs.1
  simp; omega
 have hs : Sim fr base w0 β fz (envOf 0 args) H { tmps := vals ++ Array.replicate (fn.ntmps - vals.size) undef, defers := [] } w := by
  refine ⟨hsim, rfl, by rw [hfr]; exact hsz, hext, fun t => ?_⟩
  rw [look_envOf]
  simp only [Nat.zero_le, if_true, Nat.sub_zero]
  cases ht : args[t]? with
  | none => exact .junk
  | some x =>
   have hlt : t < args.length := (List.getElem?_eq_some_iff.1 ht).1
   have := hargs.2 t x ht
   simp only [Option.getD_some]
   rw [Array.getD_eq_getD_getElem?, Array.getElem?_append_left (by rw [hargs.1]; exact hlt)]
   exact this
 refine wp_mono (hA fr base w0 β fz _ w hfr hn0 hs) ?_
 rintro e a' w' ⟨ρ', H', β', fz', q, hs'⟩
 have key : ∀ l, resA P ρ' H' fn.results.toList = some l → Rr (tupA l) H' → a'.defers = [] ∧ ∃ v, (results fn a'.tmps).run P w' = .ok v w' ∧ K (.returned v) w' := by
  intro l hl hq
  obtain ⟨v, h1, h2⟩ := results_run hs' hl
  exact ⟨hs'.defers, v, h1, hK _ v β' fz' H' w' hq hs'.heap hs'.ext h2⟩
 cases e with
 | normal =>
  simp only [retA] at q
  split at q
  ·rename_i l hl; exact key l hl q
  ·exact q.elim
 | ret =>
  simp only [retA] at q
  split at q
  ·rename_i l hl; exact key l hl q
  ·exact q.elim
 | exit id => exact q.elim
 | goto l => exact q.elim
 | panic ch => exact q.elim
 | outgrown => exact q.elim
end
section
variable {P : Program}
theorem HSim.start (w : World) : HSim w.heap.size w β0 (· < w.heap.size) [] w :=
 ⟨fun id sz rows h => by simp at h, fun a b ⟨x, hx⟩ => by simp at hx, fun a ⟨x, hx⟩ => by simp at hx, fun _ h => h, Below.refl _ _, Nat.le_refl _⟩
theorem pure_of {f : FuncId} {fn : Func} {c : Code} (hf : P.funcs[f]? = some fn) (hb : fn.body = some c) {m : Row → Option AVal}
  (h : ∀ args r, m args = some r → args.length ≤ fn.ntmps ∧ AWp P fn.ntmps 0 c (retA P fn fun x H => view H depthV x = r ∧ hot r = true) (envOf 0 args) []) : PureOk P f m := by
 intro args r hr w vals hargs
 obtain ⟨h1, h2⟩ := h args r hr
 refine body_calls hf hb h1 h2 ⟨fn.ntmps, 0, β0, (· < w.heap.size), w⟩ rfl rfl (HSim.start w) (Ext.refl _ _ _ _) hargs _ ?_
 rintro x v β' fz' H' w' ⟨hx1, hx2⟩ hs he hR
 have hv := view_R hs depthV x v hR
 rw [hx1] at hv
 exact ⟨v, rfl, hs.below, hot_R hx2 hv⟩
theorem inl_of {f : FuncId} {fn : Func} {c : Code} (hf : P.funcs[f]? = some fn) (hb : fn.body = some c) {m : Row → Heap → Option (AVal × Heap)}
  (h : ∀ args H r H', m args H = some (r, H') → args.length ≤ fn.ntmps ∧ AWp P fn.ntmps H.length c (retA P fn fun x H2 => x = r ∧ H2 = H') (envOf 0 args) H) : InlOk P f m := by
 intro args H r H' hr base w0 β fz w vals hs hargs
 obtain ⟨h1, h2⟩ := h args H r H' hr
 refine .of hf hb (body_calls hf hb h1 h2 ⟨fn.ntmps, H.length, β, fz, w⟩ rfl rfl hs (Ext.refl _ _ _ _) hargs _ ?_)
 rintro x v β' fz' H2 w' ⟨rfl, rfl⟩ hs' he hR
 exact ⟨v, β', fz', rfl, hs', he, hR⟩
def Softer (r x : AVal) : Prop := x = r ∨ (r = .esl ∧ x = .v (.slice none 0 0))
theorem Softer.known {β : Nat → Nat} {ok : Bool → Nat → Prop} {w : World} {n : Nat} {r x : AVal} {v : Value} (h : Softer r x) (hx : R β ok w n x v) : R β ok w n r v := by
 rcases h with rfl | ⟨rfl, rfl⟩
 ·exact hx
 ·rw [hx.v_inv]; exact .esl
theorem softer_self {r : AVal} : Softer r r = True := eq_true (.inl rfl)
theorem softer_nil : Softer .esl (.v (.slice none 0 0)) = True := eq_true (.inr ⟨rfl, rfl⟩)
theorem inl_soft {f : FuncId} {fn : Func} {c : Code} (hf : P.funcs[f]? = some fn) (hb : fn.body = some c) {m : Row → Heap → Option (AVal × Heap)}
  (h : ∀ args H r H', m args H = some (r, H') → args.length ≤ fn.ntmps ∧ AWp P fn.ntmps H.length c (retA P fn fun x H2 => Softer r x ∧ H2 = H') (envOf 0 args) H) : InlOk P f m := by
 intro args H r H' hr base w0 β fz w vals hs hargs
 obtain ⟨h1, h2⟩ := h args H r H' hr
 refine .of hf hb (body_calls hf hb h1 h2 ⟨fn.ntmps, H.length, β, fz, w⟩ rfl rfl hs (Ext.refl _ _ _ _) hargs _ ?_)
 rintro x v β' fz' H2 w' ⟨hx, rfl⟩ hs' he hR
 exact ⟨v, β', fz', rfl, hs', he, hx.known hR⟩
def noOrc : Orc := { pure := fun _ _ => none, inl := fun _ => false, inline := fun _ _ _ => none, dyn := fun _ => [], fp := fun _ _ => none, alt := fun _ => [], rd := fun _ => none, cl := fun _ => false }
def Orc.withP (C : Orc) (f : FuncId) (m : Row → Option AVal) : Orc := { C with pure := fun g args => if g = f then m args else C.pure g args }
def Orc.withI (C : Orc) (f : FuncId) (m : Row → Heap → Option (AVal × Heap)) : Orc := { C with inl := fun g => if g = f then true else C.inl g, inline := fun g args H => if g = f then m args H else C.inline g args H, fp := fun g args => if g = f then none else C.fp g args, cl := fun g => if g = f then false else C.cl g }
theorem noOrc_ok : OrcOk P noOrc := ⟨fun _ args r h => by simp [noOrc] at h, fun _ h => by simp [noOrc] at h, fun _ _ _ h => by simp [noOrc] at h, fun _ _ h => by simp [noOrc] at h, fun _ h => by simp [noOrc] at h⟩
theorem OrcOk.withP {C : Orc} (h : OrcOk P C) {f : FuncId} {m : Row → Option AVal} (hf : PureOk P f m) : OrcOk P (C.withP f m) := by
 refine ⟨fun g => ?_, h.inline, h.foot, h.rd, h.cells⟩
 by_cases hg : g = f
 ·subst hg
  intro args r hr
  simp only [Orc.withP, if_true] at hr
  exact hf args r hr
 ·intro args r hr
  simp only [Orc.withP, hg, if_false] at hr
  exact h.pure g args r hr
theorem OrcOk.withI {C : Orc} (h : OrcOk P C) {f : FuncId} {m : Row → Heap → Option (AVal × Heap)} (hf : InlOk P f m) : OrcOk P (C.withI f m) := by
 refine ⟨h.pure, fun g hi => ?_, fun g args ids hg => ?_, h.rd, fun g hg => ?_⟩
 rotate_left 2
 ·by_cases hgf : g = f
  ·simp [Orc.withI, hgf] at hg
  ·simp only [Orc.withI, hgf, if_false] at hg ⊢
   exact h.cells g hg
 ·by_cases hg : g = f
  ·subst hg
   intro args H r H' hr
   simp only [Orc.withI, if_true] at hr
   exact hf args H r H' hr
  ·intro args H r H' hr
   simp only [Orc.withI, hg, if_false] at hr hi
   exact h.inline g hi args H r H' hr
 ·by_cases hgf : g = f
  ·simp [Orc.withI, hgf] at hg
  ·simp only [Orc.withI, hgf, if_false] at hg ⊢
   exact h.foot g args ids hg
end
end Go.AI
/- Data as Lean data; contracts over them. -/
namespace Go.AI
set_option linter.unusedSectionVars false
variable [Sym]
set_option linter.unusedSimpArgs false
set_option linter.unusedVariables false
open Go.RowKit
structure RCod (α : Type) where
 sz : Nat
 enc : α → Row
 dec : Row → Option α
 de : ∀ e, dec (enc e) = some e
 len : ∀ e, (enc e).length = sz
 ok : ∀ {r : Row} {e : α}, dec r = some e → ∀ {β : Nat → Nat} {ok : Bool → Nat → Prop} {w : World} {n : Nat} {x : Nat → Value}, (∀ o b, ok o b → ok false b) →
  (∀ (j : Nat) (c : AVal), r[j]? = some c → R β ok w n c (x j)) → r.length = sz ∧ ∀ (j : Nat) (c : AVal), (enc e)[j]? = some c → R β ok w n c (x j)
structure Cod (α : Type) where
 enc : α → AVal
 dec : AVal → Option α
 de : ∀ e, dec (enc e) = some e
 ok : ∀ {x : AVal} {e : α}, dec x = some e → ∀ {β : Nat → Nat} {ok : Bool → Nat → Prop} {w : World} {n : Nat} {v : Value}, (∀ o b, ok o b → ok false b) → R β ok w n x v → R β ok w n (enc e) v
def RCod.plain {α : Type} (sz : Nat) (enc : α → Row) (dec : Row → Option α) (de : ∀ e, dec (enc e) = some e) (len : ∀ e, (enc e).length = sz) (eq : ∀ r e, dec r = some e → r = enc e) : RCod α :=
 ⟨sz, enc, dec, de, len, fun {r e} h β ok w n x hok hr => by
  have := eq r e h
  subst this
  exact ⟨len e, hr⟩⟩
def Cod.plain {α : Type} (enc : α → AVal) (dec : AVal → Option α) (de : ∀ e, dec (enc e) = some e) (eq : ∀ x e, dec x = some e → x = enc e) : Cod α :=
 ⟨enc, dec, de, fun {x e} h β ok w n v hok hr => by
  have := eq x e h
  subst this
  exact hr⟩
def intDec (k : IntKind) : AVal → Option Int
 | .v (.int k' n) => if k' = k then some n else none
 | _ => none
def cInt (k : IntKind) : Cod Int := Cod.plain (fun n => .v (.int k n)) (intDec k) (fun e => by simp [intDec]) (fun x e h => by
 unfold intDec at h
 split at h
 ·split at h
  ·rename_i hk; simp at h; rw [hk, h]
  ·cases h
 ·cases h)
def boolDec : AVal → Option Bool
 | .v (.bool b) => some b
 | _ => none
def cBool : Cod Bool := Cod.plain (fun b => .v (.bool b)) boolDec (fun e => rfl) (fun x e h => by
 unfold boolDec at h
 split at h
 ·simp at h; rw [h]
 ·cases h)
def aggDec {α : Type} (c : RCod α) : AVal → Option α
 | .v (.agg xs) => c.dec (xs.toList.map .v)
 | .agg cs => c.dec cs
 | _ => none
theorem aggDec_mk {α : Type} (c : RCod α) (r : Row) : aggDec c (mkAgg r) = c.dec r := by
 unfold mkAgg
 split
 ·rename_i xs hx
  rw [allV_some hx]
  simp [aggDec]
 ·rfl
def cAgg {α : Type} (c : RCod α) : Cod α where
 enc e := mkAgg (c.enc e)
 dec := aggDec c
 de e := by rw [aggDec_mk, c.de]
 ok := by
  intro x e h β ok w n v hok hr
  unfold aggDec at h
  split at h
  ·rename_i xs
   have hv := hr.v_inv
   subst hv
   obtain ⟨h1, h2⟩ := c.ok h (β := β) (ok := ok) (w := w) (n := n) (x := fun j => xs[j]?.getD undef) hok (fun j a ha => by
    simp only [List.getElem?_map, Option.map_eq_some_iff, Array.getElem?_toList] at ha
    obtain ⟨y, hy, rfl⟩ := ha
    simp only [hy, Option.getD_some]
    exact .v)
   exact mkAgg_R (by rw [c.len]; simpa using h1.symm) h2
  ·rename_i cs
   cases hr with
   | @agg _ _ xs hl hr =>
    obtain ⟨h1, h2⟩ := c.ok h (x := fun j => xs[j]?.getD undef) hok hr
    exact mkAgg_R (by rw [c.len, ← h1]; exact hl) h2
  ·cases h
def slDec {α : Type} (c : RCod α) : AVal → Option (List α)
 | .v (.slice none 0 0) => some []
 | .esl => some []
 | .fsl _ sz rows => if sz = c.sz then rows.mapM c.dec else none
 | _ => none
theorem mapM_dec {α : Type} (c : RCod α) : ∀ l : List α, (l.map c.enc).mapM c.dec = some l
 | [] => rfl
 | e :: l => by
  have := mapM_dec c l
  simp only [List.map_cons, List.mapM_cons, c.de, this]
  rfl
theorem mapM_dec' {α : Type} (c : RCod α) (l : List α) : l.mapM (c.dec ∘ c.enc) = some l := by
 have := mapM_dec c l
 rwa [List.mapM_map] at this
def argM {α : Type} (c : Cod α) (k : α → Row → Option AVal) : Row → Option AVal
 | x :: r => match c.dec x with
  | some e => k e r
  | none => none
 | [] => none
def finM (a : Option AVal) : Row → Option AVal
 | [] => a
 | _ :: _ => none
def Canon (args args' : Row) : Prop := args'.length = args.length ∧
 ∀ {β : Nat → Nat} {ok : Bool → Nat → Prop} {w : World} {n : Nat}, (∀ o b, ok o b → ok false b) → ∀ (j : Nat) (x : AVal) (v : Value), args'[j]? = some x → (∀ y, args[j]? = some y → R β ok w n y v) → R β ok w n x v
theorem Canon.nil : Canon [] [] := ⟨rfl, fun _ j x v h => by simp at h⟩
theorem Canon.cons {α : Type} (c : Cod α) {x : AVal} {e : α} (h : c.dec x = some e) {r r' : Row} (k : Canon r r') : Canon (x :: r) (c.enc e :: r') := by
 refine ⟨by simp [k.1], fun hok j y v hj hy => ?_⟩
 cases j with
 | zero => simp at hj; subst hj; exact c.ok h hok (hy x (by simp))
 | succ j => exact k.2 hok j y v (by simpa using hj) (fun z hz => hy z (by simpa using hz))
theorem Canon.args {args args' : Row} (h : Canon args args') {w : World} {vals : Array Value} (hargs : ArgsR β0 (ok0 w) w 0 args vals) : ArgsR β0 (ok0 w) w 0 args' vals :=
 ⟨hargs.1.trans h.1.symm, fun j x hj => h.2 (fun _ _ hb => ⟨hb.1, fun h => by cases h⟩) j x _ hj (fun y hy => hargs.2 j y hy)⟩
section
variable {P : Program} {f : FuncId} {fn : Func} {c : Code}
def Body (P : Program) (fn : Func) (c : Code) (args : Row) (r : AVal) : Prop :=
 args.length ≤ fn.ntmps ∧ AWp P fn.ntmps 0 c (retA P fn fun x H => view H depthV x = r ∧ hot r = true) (envOf 0 args) []
theorem pure_canon (hf : P.funcs[f]? = some fn) (hb : fn.body = some c) {m : Row → Option AVal} (h : ∀ args r, m args = some r → ∃ args', Canon args args' ∧ Body P fn c args' r) : PureOk P f m := by
 classical
 intro args r hr w vals hargs
 obtain ⟨args', hc, hB⟩ := h args r hr
 have := pure_of (m := fun x => if x = args' then some r else none) hf hb (fun a r' h' => by
  split at h'
  ·rename_i ha
   simp only [Option.some.injEq] at h'
   subst ha; subst h'
   exact hB
  ·cases h')
 exact this args' r (by simp) w vals (hc.args hargs)
theorem argM_some {α : Type} {c : Cod α} {k : α → Row → Option AVal} {args : Row} {r : AVal} (h : argM c k args = some r) : ∃ x e rest, args = x :: rest ∧ c.dec x = some e ∧ k e rest = some r := by
 cases args with
 | nil => simp [argM] at h
 | cons x rest =>
  simp only [argM] at h
  split at h
  ·rename_i e he; exact ⟨x, e, rest, rfl, he, h⟩
  ·cases h
theorem finM_some {g : Option AVal} {args : Row} {r : AVal} (h : finM g args = some r) : args = [] ∧ g = some r := by
 cases args with
 | nil => exact ⟨rfl, h⟩
 | cons _ _ => simp [finM] at h
variable {α₁ α₂ α₃ α₄ α₅ α₆ : Type}
theorem pure1 {c1 : Cod α₁} (hf : P.funcs[f]? = some fn) (hb : fn.body = some c) {g : α₁ → Option AVal} (h : ∀ e1 r, g e1 = some r → Body P fn c [c1.enc e1] r) : PureOk P f (argM c1 fun e1 => finM (g e1)) := by
 refine pure_canon hf hb fun args r hr => ?_
 obtain ⟨x1, e1, r1, rfl, h1, hr⟩ := argM_some hr
 obtain ⟨rfl, hr⟩ := finM_some hr
 exact ⟨_, .cons c1 h1 .nil, h e1 r hr⟩
theorem pure2 {c1 : Cod α₁} {c2 : Cod α₂} (hf : P.funcs[f]? = some fn) (hb : fn.body = some c) {g : α₁ → α₂ → Option AVal} (h : ∀ e1 e2 r, g e1 e2 = some r → Body P fn c [c1.enc e1, c2.enc e2] r) : PureOk P f (argM c1 fun e1 => argM c2 fun e2 => finM (g e1 e2)) := by
 refine pure_canon hf hb fun args r hr => ?_
 obtain ⟨x1, e1, r1, rfl, h1, hr⟩ := argM_some hr
 obtain ⟨x2, e2, r2, rfl, h2, hr⟩ := argM_some hr
 obtain ⟨rfl, hr⟩ := finM_some hr
 exact ⟨_, .cons c1 h1 (.cons c2 h2 .nil), h e1 e2 r hr⟩
theorem pure4 {c1 : Cod α₁} {c2 : Cod α₂} {c3 : Cod α₃} {c4 : Cod α₄} (hf : P.funcs[f]? = some fn) (hb : fn.body = some c) {g : α₁ → α₂ → α₃ → α₄ → Option AVal} (h : ∀ e1 e2 e3 e4 r, g e1 e2 e3 e4 = some r → Body P fn c [c1.enc e1, c2.enc e2, c3.enc e3, c4.enc e4] r) : PureOk P f (argM c1 fun e1 => argM c2 fun e2 => argM c3 fun e3 => argM c4 fun e4 => finM (g e1 e2 e3 e4)) := by
 refine pure_canon hf hb fun args r hr => ?_
 obtain ⟨x1, e1, r1, rfl, h1, hr⟩ := argM_some hr
 obtain ⟨x2, e2, r2, rfl, h2, hr⟩ := argM_some hr
 obtain ⟨x3, e3, r3, rfl, h3, hr⟩ := argM_some hr
 obtain ⟨x4, e4, r4, rfl, h4, hr⟩ := argM_some hr
 obtain ⟨rfl, hr⟩ := finM_some hr
 exact ⟨_, .cons c1 h1 (.cons c2 h2 (.cons c3 h3 (.cons c4 h4 .nil))), h e1 e2 e3 e4 r hr⟩
theorem body_of {C : Orc} {args : Row} {r : AVal} (hC : OrcOk P C) (hm : P.follows .mixedOrders = true) (hrf : codeRF C c = true) (hn : args.length ≤ fn.ntmps)
  (h : wpA P C fn.ntmps 0 c (retA P fn fun x H => view H depthV x = r ∧ hot r = true) (envOf 0 args) []) : Body P fn c args r :=
 ⟨hn, wpA_sound hC hm _ _ _ _ hrf h⟩
end
end Go.AI
/- What single steps come to: for evaluation. -/
set_option linter.unusedSimpArgs false
namespace Go.AI
set_option linter.unusedSectionVars false
variable [Sym]
open Go.RowKit
section
variable {P : Program} {α β : Type}
def iand (k : IntKind) (a b : Int) : Int := k.wrap (BitVec.ofInt k.bits a &&& BitVec.ofInt k.bits b).toNat
def ior (k : IntKind) (a b : Int) : Int := k.wrap (BitVec.ofInt k.bits a ||| BitVec.ofInt k.bits b).toNat
def ixor (k : IntKind) (a b : Int) : Int := k.wrap (BitVec.ofInt k.bits a ^^^ BitVec.ofInt k.bits b).toNat
def iandn (k : IntKind) (a b : Int) : Int := k.wrap (BitVec.ofInt k.bits a &&& ~~~BitVec.ofInt k.bits b).toNat
def ishl (k : IntKind) (a b : Int) : Int := k.wrap (a * 2 ^ (min b.toNat k.bits))
def ishr (k : IntKind) (a b : Int) : Int := a.fdiv (2 ^ (min b.toNat k.bits))
theorem w64 {a : Int} (h1 : -9223372036854775808 ≤ a) (h2 : a ≤ 9223372036854775807) : IntKind.i64.wrap a = a := by
 simp [IntKind.wrap, IntKind.bits, IntKind.signed]; omega
theorem wu32 {a : Int} (h1 : 0 ≤ a) (h2 : a ≤ 4294967295) : IntKind.u32.wrap a = a := by
 simp [IntKind.wrap, IntKind.bits, IntKind.signed]; omega
theorem wu8 {a : Int} (h1 : 0 ≤ a) (h2 : a ≤ 255) : IntKind.u8.wrap a = a := by
 simp [IntKind.wrap, IntKind.bits, IntKind.signed]; omega
theorem pr_pure (a : α) : pr P (pure a : Sem α) = some a := rfl
theorem pr_bind (x : Sem α) (f : α → Sem β) : pr P (x >>= f) = match pr P x with | some a => pr P (f a) | none => none := by
 show pr P (x.bind f) = _
 induction x with
 | pure a => rfl
 | program k ih => exact ih P
 | mark m k ih => exact ih
 | _ => rfl
variable {t u : TypeId} {x y : Operand} {k k' : IntKind} {a b : Int} {p q : Bool}
theorem ev_add : aBin P .add t x y (.v (.int k a)) (.v (.int k b)) = some (.v (.int k (k.wrap (a + b)))) := by
 simp [aBin, eqGuard, binOp, Op.intArith, pr_pure, asV]
theorem ev_sub : aBin P .sub t x y (.v (.int k a)) (.v (.int k b)) = some (.v (.int k (k.wrap (a - b)))) := by
 simp [aBin, eqGuard, binOp, Op.intArith, pr_pure, asV]
theorem ev_mul : aBin P .mul t x y (.v (.int k a)) (.v (.int k b)) = some (.v (.int k (k.wrap (a * b)))) := by
 simp [aBin, eqGuard, binOp, Op.intArith, pr_pure, asV]
theorem ev_quo (h : b ≠ 0) : aBin P .quo t x y (.v (.int k a)) (.v (.int k b)) = some (.v (.int k (k.wrap (a.tdiv b)))) := by
 simp [aBin, eqGuard, binOp, Op.intDiv, pr_pure, asV, h]
theorem ev_rem (h : b ≠ 0) : aBin P .rem t x y (.v (.int k a)) (.v (.int k b)) = some (.v (.int k (a.tmod b))) := by
 simp [aBin, eqGuard, binOp, Op.intDiv, pr_pure, asV, h]
theorem ev_and : aBin P .and t x y (.v (.int k a)) (.v (.int k b)) = some (.v (.int k (iand k a b))) := by
 simp [aBin, eqGuard, binOp, Op.intBits, pr_pure, asV, iand, ior, ixor, iandn]
theorem ev_or : aBin P .or t x y (.v (.int k a)) (.v (.int k b)) = some (.v (.int k (ior k a b))) := by
 simp [aBin, eqGuard, binOp, Op.intBits, pr_pure, asV, iand, ior, ixor, iandn]
theorem ev_xor : aBin P .xor t x y (.v (.int k a)) (.v (.int k b)) = some (.v (.int k (ixor k a b))) := by
 simp [aBin, eqGuard, binOp, Op.intBits, pr_pure, asV, iand, ior, ixor, iandn]
theorem ev_andNot : aBin P .andNot t x y (.v (.int k a)) (.v (.int k b)) = some (.v (.int k (iandn k a b))) := by
 simp [aBin, eqGuard, binOp, Op.intBits, pr_pure, asV, iand, ior, ixor, iandn]
theorem ev_shl (h : 0 ≤ b) : aBin P .shl t x y (.v (.int k a)) (.v (.int k' b)) = some (.v (.int k (ishl k a b))) := by
 have : ¬ b < 0 := by omega
 simp [aBin, eqGuard, binOp, Op.shift, pr_pure, asV, this, ishl, ishr]
theorem ev_shr (h : 0 ≤ b) : aBin P .shr t x y (.v (.int k a)) (.v (.int k' b)) = some (.v (.int k (ishr k a b))) := by
 have : ¬ b < 0 := by omega
 simp [aBin, eqGuard, binOp, Op.shift, pr_pure, asV, this, ishl, ishr]
theorem ev_eql : aBin P .eql t x y (.v (.int k a)) (.v (.int k b)) = some (.v (.bool (a == b))) := by
 simp [aBin, eqGuard, binOp, Op.intCmp, pr_pure, asV]
theorem ev_neq : aBin P .neq t x y (.v (.int k a)) (.v (.int k b)) = some (.v (.bool (a != b))) := by
 simp [aBin, eqGuard, binOp, Op.intCmp, pr_pure, asV]
theorem ev_lss : aBin P .lss t x y (.v (.int k a)) (.v (.int k b)) = some (.v (.bool (decide (a < b)))) := by
 simp [aBin, eqGuard, binOp, Op.intCmp, pr_pure, asV]
theorem ev_leq : aBin P .leq t x y (.v (.int k a)) (.v (.int k b)) = some (.v (.bool (decide (a ≤ b)))) := by
 simp [aBin, eqGuard, binOp, Op.intCmp, pr_pure, asV]
theorem ev_gtr : aBin P .gtr t x y (.v (.int k a)) (.v (.int k b)) = some (.v (.bool (decide (b < a)))) := by
 simp [aBin, eqGuard, binOp, Op.intCmp, pr_pure, asV]
theorem ev_geq : aBin P .geq t x y (.v (.int k a)) (.v (.int k b)) = some (.v (.bool (decide (b ≤ a)))) := by
 simp [aBin, eqGuard, binOp, Op.intCmp, pr_pure, asV]
theorem pr_und {d : TypeDesc} (h : P.underlying t = some d) : pr P (underlying t) = some d := by
 simp [underlying, pr_bind, program, pr, h, pr_pure]
theorem pr_eqB (d : Nat) (h : P.underlying t = some .bool) : pr P (Op.equalIn (d + 1) t (.bool p) (.bool q)) = some (p == q) := by
 simp only [Op.equalIn, pr_bind, pr_und h]
 rfl
theorem pr_eqB' (h : P.underlying t = some .bool) : pr P (Op.equal t (.bool p) (.bool q)) = some (p == q) := pr_eqB 9999 h
theorem ev_eqlB (h : P.underlying t = some .bool) : aBin P .eql t x y (.v (.bool p)) (.v (.bool q)) = some (.v (.bool (p == q))) := by
 have e : (do eqGuard .eql t x y (.bool p) (.bool q); binOp .eql t (.bool p) (.bool q) : Sem Value) = (do pure (.bool (← Op.equal t (.bool p) (.bool q)))) := rfl
 simp only [aBin]
 rw [e, pr_bind, pr_eqB' h]
 rfl
theorem ev_neqB (h : P.underlying t = some .bool) : aBin P .neq t x y (.v (.bool p)) (.v (.bool q)) = some (.v (.bool (!(p == q)))) := by
 have e : (do eqGuard .neq t x y (.bool p) (.bool q); binOp .neq t (.bool p) (.bool q) : Sem Value) = (do pure (.bool (!(← Op.equal t (.bool p) (.bool q))))) := rfl
 simp only [aBin]
 rw [e, pr_bind, pr_eqB' h]
 rfl
theorem ev_agg {xs ys : Array Value} {op : BinOp} : aBin P op t x y (.v (.agg xs)) (.v (.agg ys)) = eqAgg P op t xs.toList ys.toList := rfl
theorem ev_nilE {o : Bool} {sz : Nat} {rows : List Row} {e : TypeId} (h : sliceElem P t = some e) : aBin P .eql t x y (.fsl o sz rows) (.v (.slice none 0 0)) = some (if rows.isEmpty then .anyb else .v (.bool false)) := by
 simp [aBin, h]
theorem ev_nilOe {id sz s n kc : Nat} {e : TypeId} (h : sliceElem P t = some e) : aBin P .eql t x y (.osl id sz s n kc) (.v (.slice none 0 0)) = some (.v (.bool false)) := by simp [aBin, h]
theorem ev_nilOn {id sz s n kc : Nat} {e : TypeId} (h : sliceElem P t = some e) : aBin P .neq t x y (.osl id sz s n kc) (.v (.slice none 0 0)) = some (.v (.bool true)) := by simp [aBin, h]
theorem ev_nilXe {e : TypeId} (h : sliceElem P t = some e) : aBin P .eql t x y .esl (.v (.slice none 0 0)) = some .anyb := by simp [aBin, h]
theorem ev_nilXn {e : TypeId} (h : sliceElem P t = some e) : aBin P .neq t x y .esl (.v (.slice none 0 0)) = some .anyb := by simp [aBin, h]
theorem ev_nilN {o : Bool} {sz : Nat} {rows : List Row} {e : TypeId} (h : sliceElem P t = some e) : aBin P .neq t x y (.fsl o sz rows) (.v (.slice none 0 0)) = some (if rows.isEmpty then .anyb else .v (.bool true)) := by
 simp [aBin, h]
theorem ev_not : asV (pr P (Op.unary .not (.bool p))) = some (.v (.bool !p)) := rfl
theorem ev_neg : asV (pr P (Op.unary .neg (.int k a))) = some (.v (.int k (k.wrap (0 - a)))) := rfl
theorem ev_conv {d : TypeDesc} (h : P.underlying t = some d) (h2 : P.underlying u = some (.int k)) : asV (pr P (convert t u (.int k' a))) = some (.v (.int k (k.wrap a))) := by
 simp only [convert, pr_bind, pr_und h, pr_und h2]
 cases d <;> rfl
theorem ev_min2 {c d : Int} {ts : Array TypeId} : asV (pr P (Builtin.min_ ts 0 #[.int k c, .int k' d])) = some (.v (.int k (if d < c then d else c))) := rfl
theorem ev_max2 {c d : Int} {ts : Array TypeId} : asV (pr P (Builtin.max_ ts 0 #[.int k c, .int k' d])) = some (.v (.int k (if d > c then d else c))) := rfl
end
end Go.AI
namespace Go.AI
set_option linter.unusedSectionVars false
variable [Sym]
section
variable {P : Program} {C : Orc} {nt : Nat} {ops : Array Oper} {o : Oper} {ρ : Env} {H : Heap}
theorem gsel_f {x : Option (AVal × Heap)} {d : Option Tmp} : gsel false true x ρ H d = some (put ρ d (.v undef), H) := rfl
theorem gsel_t {x : Option (AVal × Heap)} {d : Option Tmp} : gsel true true x ρ H d = x.map fun r => (put ρ d r.1, r.2) := rfl
theorem gsel_s {b : Bool} {x : Option (AVal × Heap)} {d : Option Tmp} : gsel b false x ρ H d = if b = true ∧ x.isNone = true then none else some (put ρ d (.when b ((x.map Prod.fst).getD .junk)), H) := rfl
theorem imp_left {p q : Prop} : (p → q → p) ↔ True := ⟨fun _ => trivial, fun _ h _ => h⟩
theorem res_same {g : Bool} {x : AVal} : res g (.when g x) = x := by simp [res]
theorem res_and1 {g t : Bool} {x : AVal} : res (g && t) (.when g x) = x := by cases g <;> simp [res]
theorem res_and2 {g t : Bool} {x : AVal} : res (g && t) (.when t x) = x := by cases t <;> simp [res]
theorem res_and3 {g t s : Bool} {x : AVal} : res (g && t && s) (.when g x) = x := by cases g <;> simp [res]
theorem res_and4 {g t s : Bool} {x : AVal} : res (g && t && s) (.when t x) = x := by cases t <;> simp [res]
theorem res_and5 {g t s u : Bool} {x : AVal} : res (g && t && s && u) (.when g x) = x := by cases g <;> simp [res]
theorem res_and6 {g t s u : Bool} {x : AVal} : res (g && t && s && u) (.when (g && t) x) = x := by cases g <;> cases t <;> simp [res]
theorem res_false {g : Bool} {x : AVal} : res false (.when g x) = x := by simp [res]
theorem res_true {g : Bool} {x : AVal} : res g (.when true x) = x := by simp [res]
theorem res_v {g : Bool} {x : Value} : res g (.v x) = .v x := rfl
theorem res_ptr {g : Bool} {a b c d : Nat} : res g (.ptr a b c d) = .ptr a b c d := rfl
theorem res_fptr {g : Bool} {r : Row} {d : Nat} : res g (.fptr r d) = .fptr r d := rfl
theorem res_osl {g : Bool} {a b c d e : Nat} : res g (.osl a b c d e) = .osl a b c d e := rfl
theorem res_xsl {g : Bool} {a b c d e : Nat} : res g (.xsl a b c d e) = .xsl a b c d e := rfl
theorem res_fsl {g o : Bool} {a : Nat} {r : List Row} : res g (.fsl o a r) = .fsl o a r := rfl
theorem res_esl {g : Bool} : res g .esl = .esl := rfl
theorem res_agg {g : Bool} {r : Row} : res g (.agg r) = .agg r := rfl
theorem res_tup {g : Bool} {r : Row} : res g (.tup r) = .tup r := rfl
theorem res_fn {g : Bool} {f : FuncId} {r : Row} : res g (.fn f r) = .fn f r := rfl
theorem res_junk {g : Bool} : res g .junk = .junk := rfl
theorem res_anyb {g : Bool} : res g .anyb = .anyb := rfl
theorem iteV {c : Prop} [Decidable c] {p q : Bool} : (if c then AVal.v (.bool p) else AVal.v (.bool q)) = AVal.v (.bool (if c then p else q)) := by split <;> rfl
end
end Go.AI
namespace Go.AI
set_option linter.unusedSectionVars false
variable [Sym]
theorem hotR_set {rows : List Row} {k : Nat} {r : Row} (h : hotR rows = true) (h2 : hotC r = true) : hotR (rows.set k r) = true := by
 rw [hotR_all, List.all_eq_true] at *
 rw [hotC_all] at h2
 intro x hx
 rcases List.mem_or_eq_of_mem_set hx with hx | rfl
 ·exact h x hx
 ·exact h2
theorem hotR_append {rows rows' : List Row} (h : hotR rows = true) (h2 : hotR rows' = true) : hotR (rows ++ rows') = true := by
 rw [hotR_all] at *
 rw [List.all_append, h, h2]; rfl
theorem take_map_set {α : Type} {l : List α} {g : α → Row} {k : Nat} {r : Row} : List.take l.length ((l.map g).set k r) = (l.map g).set k r := List.take_of_length_le (by simp)
end Go.AI
namespace Go.AI
set_option linter.unusedSectionVars false
variable [Sym]
def irow (k : IntKind) (n : Int) : Row := [.v (.int k n)]
def irowDec (k : IntKind) : Row → Option Int
 | [.v (.int k' n)] => if k' = k then some n else none
 | _ => none
def rI (k : IntKind) : RCod Int := RCod.plain 1 (irow k) (irowDec k)
 (fun e => by simp [irowDec, irow]) (fun _ => rfl) (fun r e h => by
  unfold irowDec at h
  split at h
  ·split at h
   ·rename_i hk; simp at h; rw [hk, h]; rfl
   ·cases h
  ·cases h)
section
variable {k : IntKind}
theorem irow_cold (l : List Int) : coldR (l.map (irow k)) = l.map (irow k) := by
 induction l with
 | nil => simp [coldR]
 | cons e l ih => simp [coldR, coldC, AI.cold, ih, irow]
theorem irow_mapM (l : List Int) : (l.map (irow k)).mapM (irowDec k) = some l := mapM_dec (rI k) l
theorem irow_mapMc (l : List Int) : l.mapM (irowDec k ∘ irow k) = some l := mapM_dec' (rI k) l
theorem irow_view (H : Heap) (n : Nat) (e : Int) : List.map (AI.view H n) (irow k e) = irow k e := by cases n <;> simp [irow, AI.view]
theorem irow_viewc (H : Heap) (n : Nat) : List.map (AI.view H n) ∘ irow k = irow k := by funext e; exact irow_view H n e
theorem irow_hotR (l : List Int) : AI.hotR (l.map (irow k)) = true := by
 induction l with
 | nil => simp [AI.hotR]
 | cons e l ih => simp [AI.hotR, hotC, hot, ih, irow]
theorem irow_ren (n : Nat) (th : List Nat) (e : Int) : List.map (ren n th) (irow k e) = irow k e := by simp [irow, ren]
theorem irow_renc (n : Nat) (th : List Nat) : List.map (ren n th) ∘ irow k = irow k := by funext e; exact irow_ren n th e
theorem irow_low (n : Nat) (e : Int) : (irow k e).all (lowA n) = true := by simp [irow, lowA]
end
end Go.AI
namespace Go.AI
set_option linter.unusedSectionVars false
variable [Sym]
theorem ev_lenN {P : Program} {t e : TypeId} (h : P.underlying t = some (.slice e)) : asV (pr P (Builtin.len_ #[t] 0 #[.slice none 0 0])) = some (.v (.int .i64 0)) := by
 simp only [Builtin.len_]
 simp [pr_bind, pr_und h, pr_pure, asV, goInt]
theorem ev_lenT {P : Program} {t : TypeId} {s : ByteArray} (h : P.underlying t = some .string) : asV (pr P (Builtin.len_ #[t] 0 #[.string s])) = some (.v (.int .i64 s.size)) := by
 simp only [Builtin.len_]
 simp [pr_bind, pr_und h, pr_pure, asV, goInt]
end Go.AI
/- Loops that count. -/
set_option linter.unusedSimpArgs false
set_option linter.unusedVariables false
namespace Go.AI
set_option linter.unusedSectionVars false
variable [Sym]
section
variable {P : Program} {C : Orc} {nt n0 : Nat} {ρ ρ' : Env} {H H' : Heap}
theorem wpX_mono {L : Code → Post → Env → Heap → Prop} (hL : ∀ c Q Q' ρ H, (∀ e ρ H, Q e ρ H → Q' e ρ H) → L c Q ρ H → L c Q' ρ H) :
  ∀ (c : Code) (Q Q' : Post) (ρ : Env) (H : Heap), (∀ e ρ H, Q e ρ H → Q' e ρ H) → wpX P C nt L c Q ρ H → wpX P C nt L c Q' ρ H := by
 intro c
 induction c with
 | skip => intro Q Q' ρ H hq h; exact hq _ _ _ h
 | label l => intro Q Q' ρ H hq h; exact hq _ _ _ h
 | exit id => intro Q Q' ρ H hq h; exact hq _ _ _ h
 | ret => intro Q Q' ρ H hq h; exact hq _ _ _ h
 | region id ops draw =>
  intro Q Q' ρ H hq h
  simp only [wpX] at h ⊢
  split at h
  ·rename_i hd
   rw [if_pos hd]
   simp only [RunA] at h ⊢
   split at h
   ·exact hq _ _ _ h
   ·exact h.elim
  ·rename_i hd
   rw [if_neg hd]
   unfold RunR at h ⊢
   by_cases hnx : C.dyn id = [(1000000, 1000000)]
   ·rw [if_pos hnx] at h ⊢
    exact ⟨h.1, RunN_mono (fun ρ H q => hq _ _ _ q) h.2⟩
   rw [if_neg hnx] at h ⊢
   split at h
   ·rename_i ha
    rw [if_pos ha]
    simp only [RunD] at h ⊢
    split at h
    ·exact ⟨h.1, hq _ _ _ h.2⟩
    ·exact h.elim
   ·rename_i ha
    rw [if_neg ha]
    by_cases hmo : ((C.dyn id).headD (0, 0)).1 = 1000001
    ·rw [if_pos hmo] at h ⊢
     obtain ⟨s, hK, hT⟩ := h
     exact ⟨s, hq _ _ _ hK, hT⟩
    rw [if_neg hmo] at h ⊢
    have key : ∀ τ, RunE P C nt (C.dyn id).tail τ ops (Q .normal) ρ H → RunE P C nt (C.dyn id).tail τ ops (Q' .normal) ρ H := by
     intro τ h
     simp only [RunE] at h ⊢
     split at h
     ·exact ⟨h.1, hq _ _ _ h.2⟩
     ·exact h.elim
    exact ⟨key _ h.1, key _ h.2⟩
 | seq x y ihx ihy =>
  intro Q Q' ρ H hq h
  simp only [wpX] at h ⊢
  refine ihx _ _ ρ H ?_ h
  intro e ρ' H' q
  cases e with
  | normal => exact ihy _ _ _ _ hq q
  | _ => exact hq _ _ _ q
 | cond c x y ihx ihy =>
  intro Q Q' ρ H hq h
  simp only [wpX, condA] at h ⊢
  split at h
  ·rename_i t ht
   cases t
   ·exact ihy _ _ _ _ hq h
   ·exact ihx _ _ _ _ hq h
  ·exact ⟨ihx _ _ _ _ hq h.1, ihy _ _ _ _ hq h.2⟩
  ·exact h.elim
 | block id x ih =>
  intro Q Q' ρ H hq h
  simp only [wpX] at h ⊢
  refine ih _ _ ρ H ?_ h
  intro e ρ' H' q
  cases e with
  | exit id' =>
   simp only [blockA] at q ⊢
   split at q
   ·rename_i hh; rw [if_pos hh]; exact hq _ _ _ q
   ·rename_i hh; rw [if_neg hh]; exact hq _ _ _ q
  | _ => exact hq _ _ _ q
 | loop x ih => intro Q Q' ρ H hq h; exact hL x Q Q' ρ H hq h
 | rangeFunc _ _ _ _ _ _ => intro Q Q' ρ H _ h; simp [wpX] at h
 | scope _ _ => intro Q Q' ρ H _ h; simp [wpX] at h
 | goto _ => intro Q Q' ρ H _ h; simp [wpX] at h
 | refuse _ => intro Q Q' ρ H _ h; simp [wpX] at h
theorem thenA_mono {N N' : Env → Heap → Prop} {Q Q' : Post} (h1 : ∀ ρ H, N ρ H → N' ρ H) (h2 : ∀ e ρ H, Q e ρ H → Q' e ρ H) : ∀ e ρ H, thenA N Q e ρ H → thenA N' Q' e ρ H := by
 intro e ρ H q
 cases e with
 | normal => exact h1 _ _ q
 | _ => exact h2 _ _ _ q
theorem LoopK_mono : ∀ (k : Nat) (c : Code) (Q Q' : Post) (ρ : Env) (H : Heap), (∀ e ρ H, Q e ρ H → Q' e ρ H) → LoopK P C nt n0 k c Q ρ H → LoopK P C nt n0 k c Q' ρ H
 | 0, _, _, _, _, _, _, h => h.elim
 | k + 1, c, Q, Q', ρ, H, hq, h => by
  have hW : ∀ {Q Q' : Post} {ρ H}, (∀ e ρ H, Q e ρ H → Q' e ρ H) → wpX P C nt (LoopK P C nt n0 k) c Q ρ H → wpX P C nt (LoopK P C nt n0 k) c Q' ρ H := fun hq h => wpX_mono (LoopK_mono k) c _ _ _ _ hq h
  rcases h with ⟨n, h⟩ | ⟨σ, st, μ, s0, hw, hround⟩ | ⟨σ, st, μ, s0, th, hw, hround⟩ | ⟨σ, st, μ, s0, hw, hround⟩
  ·refine .inl ⟨n, ?_⟩
   induction n generalizing ρ H with
   | zero => exact h
   | succ n ihn => exact hW (thenA_mono (fun ρ H q => ihn ρ H q) hq) h
  ·exact .inr (.inl ⟨σ, st, μ, s0, hw, fun s => hW (thenA_mono (fun _ _ q => q) hq) (hround s)⟩)
  ·exact .inr (.inr (.inl ⟨σ, st, μ, s0, th, hw, fun s => hW (thenA_mono (fun _ _ q => q) hq) (hround s)⟩))
  ·exact .inr (.inr (.inr ⟨σ, st, μ, s0, hw, fun s => hW (thenA_mono (fun _ _ q => q) hq) (hround s)⟩))
def NextF {α : Type} (n0 : Nat) (st : Nat → α → Env × Heap) (inv : Nat → α → Prop) (k : Nat) (ρ : Env) (H : Heap) : Prop := ∃ a, inv k a ∧ Weaker n0 (st k a) (ρ, H)
@[congr] theorem NextF_congr {α : Type} {st : Nat → α → Env × Heap} {inv : Nat → α → Prop} {k : Nat} (h1 : ρ = ρ') (h2 : H = H') : NextF n0 st inv k ρ H = NextF n0 st inv k ρ' H' := by rw [h1, h2]
theorem wrapN {k n : Nat} (h : k < n) (hn : n ≤ 4294967296) : IntKind.i64.wrap ((k : Int) + 1) = (k : Int) + 1 := by
 rw [w64 (by omega) (by omega)]
theorem loop_for {K : Nat} {c : Code} {Q : Post} {α : Type} (n : Nat) (st : Nat → α → Env × Heap) (inv : Nat → α → Prop) (a0 : α) (hn : n ≤ 4294967296) (hi : inv 0 a0) (h0 : Weaker n0 (st 0 a0) (ρ, H))
  (step : ∀ k a, k < n → inv k a → IntKind.i64.wrap ((k : Int) + 1) = (k : Int) + 1 → wpX P C nt (LoopK P C nt n0 K) c (thenA (NextF n0 st inv (k + 1)) Q) (st k a).1 (st k a).2)
  (last : ∀ a, inv n a → wpX P C nt (LoopK P C nt n0 K) c (thenA (fun _ _ => False) Q) (st n a).1 (st n a).2) : LoopK P C nt n0 (K + 1) c Q ρ H := by
 refine loop_inv (σ := {p : Nat × α // p.1 ≤ n ∧ inv p.1 p.2}) (fun p => st p.val.1 p.val.2) (fun p => n - p.val.1) ⟨(0, a0), Nat.zero_le _, hi⟩ h0 ?_
 rintro ⟨⟨k, a⟩, hk, hka⟩
 simp only at hk hka ⊢
 rcases Nat.lt_or_ge k n with hlt | hge
 ·refine wpX_mono (LoopK_mono K) c _ _ _ _ (thenA_mono ?_ fun _ _ _ q => q) (step k a hlt hka (wrapN hlt hn))
  rintro ρ H ⟨a', h1, h2⟩
  exact ⟨⟨(k + 1, a'), hlt, h1⟩, by simp only; omega, h2⟩
 ·have : k = n := by omega
  subst this
  exact wpX_mono (LoopK_mono K) c _ _ _ _ (thenA_mono (fun _ _ q => q.elim) fun _ _ _ q => q) (last a hka)
def NextT {α : Type} (n0 : Nat) (st : Nat → α → Env × Heap) (inv : Nat → α → Prop) (k : Nat) (ρ : Env) (H : Heap) : Prop := ∃ a, inv k a ∧ ∃ th, WeakT n0 th (st k a) (ρ, H)
@[congr] theorem NextT_congr {α : Type} {st : Nat → α → Env × Heap} {inv : Nat → α → Prop} {k : Nat} (h1 : ρ = ρ') (h2 : H = H') : NextT n0 st inv k ρ H = NextT n0 st inv k ρ' H' := by rw [h1, h2]
theorem loop_forT {K : Nat} {c : Code} {Q : Post} {α : Type} (n : Nat) (st : Nat → α → Env × Heap) (inv : Nat → α → Prop) (a0 : α) (th : List Nat) (hn : n ≤ 4294967296) (hi : inv 0 a0) (h0 : WeakT n0 th (st 0 a0) (ρ, H))
  (step : ∀ k a, k < n → inv k a → IntKind.i64.wrap ((k : Int) + 1) = (k : Int) + 1 → wpX P C nt (LoopK P C nt n0 K) c (thenA (NextT n0 st inv (k + 1)) Q) (st k a).1 (st k a).2)
  (last : ∀ a, inv n a → wpX P C nt (LoopK P C nt n0 K) c (thenA (fun _ _ => False) Q) (st n a).1 (st n a).2) : LoopK P C nt n0 (K + 1) c Q ρ H := by
 refine loop_ren (σ := {p : Nat × α // p.1 ≤ n ∧ inv p.1 p.2}) (fun p => st p.val.1 p.val.2) (fun p => n - p.val.1) ⟨(0, a0), Nat.zero_le _, hi⟩ th h0 ?_
 rintro ⟨⟨k, a⟩, hk, hka⟩
 simp only at hk hka ⊢
 rcases Nat.lt_or_ge k n with hlt | hge
 ·refine wpX_mono (LoopK_mono K) c _ _ _ _ (thenA_mono ?_ fun _ _ _ q => q) (step k a hlt hka (wrapN hlt hn))
  rintro ρ H ⟨a', h1, h2⟩
  exact ⟨⟨(k + 1, a'), hlt, h1⟩, by simp only; omega, h2⟩
 ·have : k = n := by omega
  subst this
  exact wpX_mono (LoopK_mono K) c _ _ _ _ (thenA_mono (fun _ _ q => q.elim) fun _ _ _ q => q) (last a hka)
end
end Go.AI
namespace Go.AI
set_option linter.unusedSectionVars false
variable [Sym]
def ownA (id sz : Nat) (rows : List Row) : AVal := if rows = [] then .v (.slice none 0 0) else .osl id sz 0 rows.length rows.length
def ownT (sz : Nat) (rows : List Row) : Heap := if rows = [] then [] else [some (sz, rows)]
theorem ownA_nil {id sz : Nat} : ownA id sz [] = .v (.slice none 0 0) := rfl
theorem ownT_nil {sz : Nat} : ownT sz [] = [] := rfl
theorem ownA_cons {id sz : Nat} {rows : List Row} (h : rows ≠ []) : ownA id sz rows = .osl id sz 0 rows.length rows.length := by simp [ownA, h]
theorem ownT_cons {sz : Nat} {rows : List Row} (h : rows ≠ []) : ownT sz rows = [some (sz, rows)] := by simp [ownT, h]
end Go.AI
namespace Go.AI
set_option linter.unusedSectionVars false
variable [Sym]
theorem body_gen {P : Program} {fn : Func} {c : Code} {C : Orc} {args : Row} {r : AVal} (hC : OrcOk P C) (hm : P.follows .mixedOrders = true) (hrf : codeRF C c = true) (hn : args.length ≤ fn.ntmps)
  (h : ∀ C' : Orc, C'.pure = C.pure → C'.inl = C.inl → C'.inline = C.inline → C'.dyn = C.dyn → C'.fp = C.fp → C'.alt = C.alt → C'.rd = C.rd → C'.cl = C.cl → wpA P C' fn.ntmps 0 c (retA P fn fun x H => view H depthV x = r ∧ hot r = true) (envOf 0 args) []) : Body P fn c args r :=
 body_of hC hm hrf hn (h C rfl rfl rfl rfl rfl rfl rfl rfl)
theorem orcP {P : Program} {C : Orc} {f : FuncId} {m : Row → Option AVal} (_ : PureOk P f m) (h : C.pure f = m) : C.pure f = m := h
end Go.AI
namespace Go.AI
set_option linter.unusedSectionVars false
variable [Sym]
theorem selfLt {n : Nat} : ((n : Int) < (n : Int) + 1) = True := eq_true (by omega)
theorem natLt0 {n : Nat} : ((n : Int) + 1 = 0) = False := eq_false (by omega)
theorem natLt1 {n : Nat} : ((n : Int) + 1 ≤ 0) = False := eq_false (by omega)
theorem getLastMap {α β : Type} {g : α → β} {l : List α} {a : β} : (l.map g ++ [a])[l.length]? = some a := by
 simp
end Go.AI
namespace Go.AI
set_option linter.unusedSectionVars false
variable [Sym]
theorem ownA_c {id sz : Nat} {x : Row} {l : List Row} : ownA id sz (x :: l) = .osl id sz 0 (l.length + 1) (l.length + 1) := rfl
theorem ownT_c {sz : Nat} {x : Row} {l : List Row} : ownT sz (x :: l) = [some (sz, x :: l)] := rfl
theorem ownA_s {id sz : Nat} {x : Row} {l m : List Row} : ownA id sz (l ++ x :: m) = .osl id sz 0 (l ++ x :: m).length (l ++ x :: m).length := by simp [ownA]
theorem ownT_s {sz : Nat} {x : Row} {l m : List Row} : ownT sz (l ++ x :: m) = [some (sz, l ++ x :: m)] := by simp [ownT]
end Go.AI
namespace Go.AI
set_option linter.unusedSectionVars false
variable [Sym]
theorem takeMapLen {α β : Type} {l : List α} {g : α → β} : List.take l.length (l.map g) = l.map g := List.take_of_length_le (by simp)
end Go.AI
/- Function values; what slices' functions answer. -/
namespace Go.AI
set_option linter.unusedSectionVars false
variable [Sym]
set_option linter.unusedSimpArgs false
set_option linter.unusedVariables false
def fnDec {γ : Type} (g : FuncId) (c : RCod γ) : AVal → Option γ
 | .fn g' caps => if g' = g then c.dec caps else none
 | _ => none
def cFn {γ : Type} (g : FuncId) (c : RCod γ) : Cod γ where
 enc e := .fn g (c.enc e)
 dec := fnDec g c
 de e := by simp [fnDec, c.de]
 ok := by
  intro x e h β ok w n v hok hr
  unfold fnDec at h
  split at h
  ·rename_i g' caps
   split at h
   ·rename_i hg
    subst hg
    cases hr with
    | @fn _ _ _ xs hl hr =>
     obtain ⟨h1, h2⟩ := c.ok h (x := fun j => xs[j]?.getD undef) hok hr
     exact .fn (by rw [c.len, ← h1]; exact hl) h2
   ·cases h
  ·cases h
def rNil : RCod Unit := RCod.plain 0 (fun _ => []) (fun r => match r with | [] => some () | _ => none) (fun _ => rfl) (fun _ => rfl) (fun r e h => by
 split at h
 ·rfl
 ·cases h)
def cloneI (sz : Nat) : Row → Heap → Option (AVal × Heap)
 | [.fsl _ s rows], H => if s = sz ∧ rows.length ≤ 4294967296 then (if rows.isEmpty then some (.esl, H) else some (.osl H.length sz 0 rows.length rows.length, newObj' H sz rows)) else none
 | [.osl id s st n _], H => match obj H id with
  | some (s', rows) => if s = sz ∧ s' = sz ∧ st + n ≤ rows.length ∧ n ≤ 4294967296 then (if n = 0 then some (.esl, H) else some (.osl H.length sz 0 n n, newObj' H sz ((rows.drop st).take n))) else none
  | none => none
 | [.esl], H => some (.esl, H)
 | _, _ => none
theorem cloneI_some {sz : Nat} {args : Row} {H H' : Heap} {r : AVal} (h : cloneI sz args H = some (r, H')) :
  (∃ o rows, args = [.fsl o sz rows] ∧ rows.length ≤ 4294967296 ∧ ((rows = [] ∧ r = .esl ∧ H' = H) ∨ (rows ≠ [] ∧ r = .osl H.length sz 0 rows.length rows.length ∧ H' = newObj' H sz rows))) ∨
  (∃ id st n kc rows, args = [.osl id sz st n kc] ∧ obj H id = some (sz, rows) ∧ st + n ≤ rows.length ∧ n ≤ 4294967296 ∧ ((n = 0 ∧ r = .esl ∧ H' = H) ∨ (n ≠ 0 ∧ r = .osl H.length sz 0 n n ∧ H' = newObj' H sz ((rows.drop st).take n)))) ∨
  (args = [.esl] ∧ r = .esl ∧ H' = H) := by
 unfold cloneI at h
 split at h
 ·rename_i o s rows
  split at h
  ·rename_i hc
   obtain ⟨rfl, hl⟩ := hc
   refine .inl ⟨o, rows, rfl, hl, ?_⟩
   split at h
   ·rename_i he; simp at h; exact .inl ⟨by simpa using he, h.1.symm, h.2.symm⟩
   ·rename_i he; simp at h; exact .inr ⟨by simpa using he, h.1.symm, h.2.symm⟩
  ·cases h
 ·rename_i id s st n kc
  split at h
  ·rename_i s' rows hob
   split at h
   ·rename_i hc
    obtain ⟨rfl, rfl, hle, hl⟩ := hc
    refine .inr (.inl ⟨id, st, n, kc, rows, rfl, hob, hle, hl, ?_⟩)
    split at h
    ·rename_i he; simp at h; exact .inl ⟨he, h.1.symm, h.2.symm⟩
    ·rename_i he; simp at h; exact .inr ⟨he, h.1.symm, h.2.symm⟩
   ·cases h
  ·cases h
 ·simp at h; exact .inr (.inr ⟨rfl, h.1.symm, h.2.symm⟩)
 ·cases h
end Go.AI
