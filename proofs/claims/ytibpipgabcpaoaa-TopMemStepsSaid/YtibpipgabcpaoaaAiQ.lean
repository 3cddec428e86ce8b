/- Functions. -/
import Derived.Test.YtibpipgabcpaoaaAiP
set_option linter.unusedSimpArgs false
set_option linter.unusedVariables false
namespace Go.AI
open Go.RowKit
section
variable {nt : Fr} {base : Nat} {w0 : World} {β : Nat → Nat} {fz : Nat → Prop} {ρ : Env} {H H' : Heap} {a : Act} {w : World} {P : Program} {C : Orc} {av : AVal} {n : Nat} {ok : Bool → Nat → Prop}
theorem load_run (hs : HSim base w0 β fz H w) {t : TypeId} {x : AVal} {v : Value} (hx : R β (okOf base fz) w H.length x v) (h : aLoad P t x H = some av) :
  ∃ ad y, v = .pointer (some ad) ∧ (loadVar t ad).run P w = .ok y w ∧ R β (okOf base fz) w H.length av y := by
 unfold aLoad at h
 split at h
 ·rename_i id sz i off
  split at h
  ·rename_i sz' rows hob
   split at h
   ·rename_i row hrow
    split at h
    ·rename_i hsz
     subst hsz
     obtain ⟨cs, e, g1, g2, g3, g4, g5⟩ := hs.cells hob
     have hi : i < rows.length := (List.getElem?_eq_some_iff.1 hrow).1
     have hrl : row.length = sz' := g2 row (List.mem_of_getElem? hrow)
     have hmul : (i + 1) * sz' ≤ rows.length * sz' := Nat.mul_le_mul_right _ hi
     rw [Nat.succ_mul] at hmul
     obtain ⟨y, hy, hR⟩ := read_R (β := β) (ok := okOf base fz) (w := w) (n := H.length) h (β id) (i * sz') (fun j => cs[i * sz' + j]?.getD undef)
      (fun j hj => by
       have : i * sz' + j < cs.size := by omega
       simp [World.cell?, g1, this]) (fun j c hj => g5 i row hrow j c hj)
     cases hx with
     | mp _ => exact absurd rfl (obj_live hob).2
     | ptr _ _ => exact ⟨_, y, rfl, hy, hR⟩
    ·split at h
     case isFalse => cases h
     rename_i hsz
     obtain ⟨rfl, hs0, rfl, rfl⟩ := hsz
     obtain ⟨cs, e, g1, g2, g3, g4, g5⟩ := hs.cells hob
     obtain ⟨f1, f2⟩ := flat1 g2
     obtain ⟨y, hy, hR⟩ := read_R (β := β) (ok := okOf base fz) (w := w) (n := H.length) h (β id) 0 (fun j => cs[j]?.getD undef)
      (fun j hj => by
       have : j < cs.size := by omega
       simp [World.cell?, g1, this]) (fun j c hj => by
       obtain ⟨r, r1, r2⟩ := f2 j c hj
       have := g5 j r r1 0 c r2
       simpa using this)
     cases hx with
     | mp _ => exact absurd rfl hs0
     | ptr _ _ =>
     simp only [Nat.add_zero] at hy
     exact ⟨_, y, by simp, hy, hR⟩
   ·cases h
  ·cases h
 ·rename_i row off
  cases hx with
  | @fptr _ _ _ b oo x' hb hc hr =>
   obtain ⟨y, hy, hR⟩ := read_R (β := β) (ok := okOf base fz) (w := w) (n := H.length) h b oo x' hc (fun j c hj => (hr j c hj).mono (Nat.zero_le _) (fun _ h => absurd h (Nat.not_lt_zero _)) (fun _ _ h => h) (fun _ _ _ => rfl) (Shapes.refl _))
   exact ⟨_, y, rfl, hy, hR⟩
 ·cases h
def resSem (tmps : Array Value) : ResultVar → Sem Value
 | .tmp t => pure (tmps.getD t undef)
 | .cell a t => do loadVar t (← asAddr (tmps.getD a undef))
theorem res_run (hs : Sim nt base w0 β fz ρ H a w) : ∀ (rs : List ResultVar) (l : Row), resA P ρ H rs = some l →
  ∃ xs : List Value, (rs.mapM (resSem a.tmps)).run P w = .ok xs w ∧ xs.length = l.length ∧ ∀ (j : Nat) (c : AVal), l[j]? = some c → R β (okOf base fz) w H.length c (xs[j]?.getD undef)
 | [], l, h => by simp [resA] at h; subst h; exact ⟨[], rfl, rfl, by simp⟩
 | .tmp t :: rs, l, h => by
  simp only [resA, Option.map_eq_some_iff] at h
  obtain ⟨l', hl', rfl⟩ := h
  obtain ⟨xs, h1, h2, h3⟩ := res_run hs rs l' hl'
  refine ⟨a.tmps.getD t undef :: xs, ?_, by simp [h2], fun j c hj => ?_⟩
  ·simp only [List.mapM_cons, Sem.run_bind, resSem, Sem.run_pure, Result.andThen_ok]
   rw [h1]; rfl
  ·cases j with
   | zero => simp at hj; subst hj; simpa using hs.env t
   | succ j => simpa using h3 j c (by simpa using hj)
 | .cell t ty :: rs, l, h => by
  simp only [resA] at h
  split at h
  ·rename_i x hx
   simp only [Option.map_eq_some_iff] at h
   obtain ⟨l', hl', rfl⟩ := h
   obtain ⟨xs, h1, h2, h3⟩ := res_run hs rs l' hl'
   obtain ⟨ad, y, q1, q2, q3⟩ := load_run hs.heap (hs.env t) hx
   refine ⟨y :: xs, ?_, by simp [h2], fun j c hj => ?_⟩
   ·simp only [List.mapM_cons, Sem.run_bind, resSem, q1, asAddr, Sem.run_pure, Result.andThen_ok, q2]
    rw [h1]; rfl
   ·cases j with
    | zero => simp at hj; subst hj; simpa using q3
    | succ j => simpa using h3 j c (by simpa using hj)
  ·cases h
theorem tup_R {l : Row} {xs : List Value} (hl : xs.length = l.length) (hr : ∀ (j : Nat) (c : AVal), l[j]? = some c → R β ok w n c (xs[j]?.getD undef)) :
  R β ok w n (tupA l) (if h : xs.toArray.size = 1 then xs.toArray[0] else .tuple xs.toArray) := by
 unfold tupA
 split
 ·rename_i x
  have h1 : xs.length = 1 := by simpa using hl
  obtain ⟨y, rfl⟩ := List.length_eq_one_iff.1 h1
  simpa using hr 0 x (by simp)
 ·rename_i hne
  have h1 : ¬ xs.toArray.size = 1 := by
   intro h
   have h2 : l.length = 1 := by simp at h; omega
   obtain ⟨y, hy⟩ := List.length_eq_one_iff.1 h2
   exact hne y hy
  rw [dif_neg h1]
  split
  ·rename_i ys hy
   have hcs := allV_some hy
   subst hcs
   have : xs = ys := by
    apply List.ext_getElem (by simpa using hl)
    intro j h1 h2
    have := hr j (.v ys[j]) (by simp [h2])
    generalize hz : xs[j]?.getD undef = z at this
    cases this
    simp [h1] at hz
    simpa using hz
   rw [this]; exact .v
  ·exact .tup (by simpa using hl.symm) (fun j c hj => by simpa using hr j c hj)
theorem results_run (hs : Sim nt base w0 β fz ρ H a w) {fn : Func} {l : Row} (h : resA P ρ H fn.results.toList = some l) :
  ∃ v, (results fn a.tmps).run P w = .ok v w ∧ R β (okOf base fz) w H.length (tupA l) v := by
 obtain ⟨xs, h1, h2, h3⟩ := res_run hs fn.results.toList l h
 refine ⟨_, ?_, tup_R h2 h3⟩
 have hm : (fn.results.mapM (resSem a.tmps)).run P w = .ok xs.toArray w := by
  rw [Array.mapM_eq_mapM_toList]
  simp only [Sem.run_map, h1, Result.andThen_ok]
 have he : results fn a.tmps = (do let vs ← fn.results.mapM (resSem a.tmps); pure (if h : vs.size = 1 then vs[0] else .tuple vs)) := by
  unfold results
  congr 1
 rw [he, Sem.run_bind, hm]
 rfl
theorem body_calls {f : FuncId} {fn : Func} {c : Code} (hf : P.funcs[f]? = some fn) (hb : fn.body = some c) {args : Row} {vals : Array Value} {Rr : AVal → Heap → Prop} {n0 : Nat} (hn : args.length ≤ fn.ntmps)
  (hA : AWp P fn.ntmps n0 c (retA P fn Rr) (envOf 0 args) H) (fr : Fr) (hfr : fr.nt = fn.ntmps) (hn0 : fr.n0 = n0) (hsim : HSim base w0 β fz H w) (hext : Ext fr.n0 fr.βe fr.fze fr.we H.length β fz w) (hargs : ArgsR β (okOf base fz) w H.length args vals)
  (K : Ending → World → Prop) (hK : ∀ x v β' fz' H' w', Rr x H' → HSim base w0 β' fz' H' w' → Ext fr.n0 fr.βe fr.fze fr.we H'.length β' fz' w' → R β' (okOf base fz') w' H'.length x v → K (.returned v) w') :
  Calls P f vals w K := by
 refine calls_of_wp hf hb ?_
 have hsz : (vals ++ Array.replicate (fn.ntmps - vals.size) undef).size = fn.ntmps := by
  have := hargs.1
  simp; omega
 have hs : Sim fr base w0 β fz (envOf 0 args) H { tmps := vals ++ Array.replicate (fn.ntmps - vals.size) undef, defers := [] } w := by
  refine ⟨hsim, rfl, by rw [hfr]; exact hsz, hext, fun t => ?_⟩
  rw [look_envOf]
  simp only [Nat.zero_le, if_true, Nat.sub_zero]
  cases ht : args[t]? with
  | none => exact .junk
  | some x =>
   have hlt : t < args.length := (List.getElem?_eq_some_iff.1 ht).1
   have := hargs.2 t x ht
   simp only [Option.getD_some]
   rw [Array.getD_eq_getD_getElem?, Array.getElem?_append_left (by rw [hargs.1]; exact hlt)]
   exact this
 refine wp_mono (hA fr base w0 β fz _ w hfr hn0 hs) ?_
 rintro e a' w' ⟨ρ', H', β', fz', q, hs'⟩
 have key : ∀ l, resA P ρ' H' fn.results.toList = some l → Rr (tupA l) H' → a'.defers = [] ∧ ∃ v, (results fn a'.tmps).run P w' = .ok v w' ∧ K (.returned v) w' := by
  intro l hl hq
  obtain ⟨v, h1, h2⟩ := results_run hs' hl
  exact ⟨hs'.defers, v, h1, hK _ v β' fz' H' w' hq hs'.heap hs'.ext h2⟩
 cases e with
 | normal =>
  simp only [retA] at q
  split at q
  ·rename_i l hl; exact key l hl q
  ·exact q.elim
 | ret =>
  simp only [retA] at q
  split at q
  ·rename_i l hl; exact key l hl q
  ·exact q.elim
 | exit id => exact q.elim
 | goto l => exact q.elim
 | panic ch => exact q.elim
 | outgrown => exact q.elim
end
section
variable {P : Program}
theorem HSim.start (w : World) : HSim w.heap.size w β0 (· < w.heap.size) [] w :=
 ⟨fun id sz rows h => by simp at h, fun a b ⟨x, hx⟩ => by simp at hx, fun a ⟨x, hx⟩ => by simp at hx, fun _ h => h, Below.refl _ _, Nat.le_refl _⟩
theorem pure_of {f : FuncId} {fn : Func} {c : Code} (hf : P.funcs[f]? = some fn) (hb : fn.body = some c) {m : Row → Option AVal}
  (h : ∀ args r, m args = some r → args.length ≤ fn.ntmps ∧ AWp P fn.ntmps 0 c (retA P fn fun x H => view H depthV x = r ∧ hot r = true) (envOf 0 args) []) : PureOk P f m := by
 intro args r hr w vals hargs
 obtain ⟨h1, h2⟩ := h args r hr
 refine body_calls hf hb h1 h2 ⟨fn.ntmps, 0, β0, (· < w.heap.size), w⟩ rfl rfl (HSim.start w) (Ext.refl _ _ _ _) hargs _ ?_
 rintro x v β' fz' H' w' ⟨hx1, hx2⟩ hs he hR
 have hv := view_R hs depthV x v hR
 rw [hx1] at hv
 exact ⟨v, rfl, hs.below, hot_R hx2 hv⟩
def Softer (r x : AVal) : Prop := x = r ∨ (r = .esl ∧ x = .v (.slice none 0 0))
theorem Softer.known {β : Nat → Nat} {ok : Bool → Nat → Prop} {w : World} {n : Nat} {r x : AVal} {v : Value} (h : Softer r x) (hx : R β ok w n x v) : R β ok w n r v := by
 rcases h with rfl | ⟨rfl, rfl⟩
 ·exact hx
 ·rw [hx.v_inv]; exact .esl
theorem softer_self {r : AVal} : Softer r r = True := eq_true (.inl rfl)
theorem softer_nil : Softer .esl (.v (.slice none 0 0)) = True := eq_true (.inr ⟨rfl, rfl⟩)
def noOrc : Orc := { pure := fun _ _ => none, inl := fun _ => false, inline := fun _ _ _ => none, dyn := fun _ => [], fp := fun _ _ => none, alt := fun _ => [], rd := fun _ => none, cl := fun _ => false }
def Orc.withP (C : Orc) (f : FuncId) (m : Row → Option AVal) : Orc := { C with pure := fun g args => if g = f then m args else C.pure g args }
def Orc.withI (C : Orc) (f : FuncId) (m : Row → Heap → Option (AVal × Heap)) : Orc := { C with inl := fun g => if g = f then true else C.inl g, inline := fun g args H => if g = f then m args H else C.inline g args H, fp := fun g args => if g = f then none else C.fp g args, cl := fun g => if g = f then false else C.cl g }
theorem noOrc_ok : OrcOk P noOrc := ⟨fun _ args r h => by simp [noOrc] at h, fun _ h => by simp [noOrc] at h, fun _ _ _ h => by simp [noOrc] at h, fun _ _ h => by simp [noOrc] at h, fun _ h => by simp [noOrc] at h⟩
theorem OrcOk.withP {C : Orc} (h : OrcOk P C) {f : FuncId} {m : Row → Option AVal} (hf : PureOk P f m) : OrcOk P (C.withP f m) := by
 refine ⟨fun g => ?_, h.inline, h.foot, h.rd, h.cells⟩
 by_cases hg : g = f
 ·subst hg
  intro args r hr
  simp only [Orc.withP, if_true] at hr
  exact hf args r hr
 ·intro args r hr
  simp only [Orc.withP, hg, if_false] at hr
  exact h.pure g args r hr
def Orc.withD (C : Orc) (d : Nat → List (Nat × Nat)) : Orc := { C with dyn := d }
def Orc.withA (C : Orc) (d : Nat → List Nat) : Orc := { C with alt := d }
theorem OrcOk.withA {C : Orc} (h : OrcOk P C) (d : Nat → List Nat) : OrcOk P (C.withA d) := ⟨h.pure, h.inline, h.foot, h.rd, h.cells⟩
theorem OrcOk.withD {C : Orc} (h : OrcOk P C) (d : Nat → List (Nat × Nat)) : OrcOk P (C.withD d) := ⟨h.pure, h.inline, h.foot, h.rd, h.cells⟩
theorem OrcOk.withI {C : Orc} (h : OrcOk P C) {f : FuncId} {m : Row → Heap → Option (AVal × Heap)} (hf : InlOk P f m) : OrcOk P (C.withI f m) := by
 refine ⟨h.pure, fun g hi => ?_, fun g args ids hg => ?_, h.rd, fun g hg => ?_⟩
 rotate_left 2
 ·by_cases hgf : g = f
  ·simp [Orc.withI, hgf] at hg
  ·simp only [Orc.withI, hgf, if_false] at hg ⊢
   exact h.cells g hg
 ·by_cases hg : g = f
  ·subst hg
   intro args H r H' hr
   simp only [Orc.withI, if_true] at hr
   exact hf args H r H' hr
  ·intro args H r H' hr
   simp only [Orc.withI, hg, if_false] at hr hi
   exact h.inline g hi args H r H' hr
 ·by_cases hgf : g = f
  ·simp [Orc.withI, hgf] at hg
  ·simp only [Orc.withI, hgf, if_false] at hg ⊢
   exact h.foot g args ids hg
def Orc.withF (C : Orc) (f : FuncId) (q : Row → Option (List Nat)) : Orc := { C with fp := fun g args => if g = f then q args else C.fp g args }
theorem OrcOk.withF {C : Orc} (h : OrcOk P C) {f : FuncId} {m : Row → Heap → Option (AVal × Heap)} {q : Row → Option (List Nat)} (hq : ∀ args ids, q args = some ids → Loc (m args) ids true) (hm : C.inline f = m) : OrcOk P (C.withF f q) := by
 refine ⟨h.pure, h.inline, fun g args ids hg => ?_, h.rd, h.cells⟩
 by_cases hgf : g = f
 ·subst hgf
  simp only [Orc.withF, if_true] at hg ⊢
  rw [hm]
  exact hq args ids hg
 ·simp only [Orc.withF, hgf, if_false] at hg ⊢
  exact h.foot g args ids hg
def Orc.withR (C : Orc) (f : FuncId) (m : Row → Heap → Option AVal) : Orc := { C with rd := fun g => if g = f then some m else C.rd g }
theorem OrcOk.withR {C : Orc} (h : OrcOk P C) {f : FuncId} {m : Row → Heap → Option AVal} (hf : InlOk P f (fun args H => (m args H).map (·, H))) : OrcOk P (C.withR f m) := by
 refine ⟨h.pure, h.inline, h.foot, fun g m' hg => ?_, h.cells⟩
 by_cases hgf : g = f
 ·subst hgf
  simp only [Orc.withR, if_true, Option.some.injEq] at hg
  subst hg; exact hf
 ·simp only [Orc.withR, hgf, if_false] at hg
  exact h.rd g m' hg
def Orc.withC (C : Orc) (f : FuncId) : Orc := { C with cl := fun g => if g = f then true else C.cl g }
theorem OrcOk.withC {C : Orc} (h : OrcOk P C) {f : FuncId} {m : Row → Heap → Option (AVal × Heap)} (hm : C.inline f = m) (hf : ∀ args H r H', m args H = some (r, H') → MapsSame H H' ∧ H.length ≤ H'.length) : OrcOk P (C.withC f) := by
 refine ⟨h.pure, h.inline, h.foot, h.rd, fun g hg => ?_⟩
 by_cases hgf : g = f
 ·subst hgf
  show ∀ args H r H', C.inline g args H = some (r, H') → _
  rw [hm]; exact hf
 ·simp only [Orc.withC, hgf, if_false] at hg
  exact h.cells g hg
end
end Go.AI
