/- Data as Lean data; contracts over them. -/
import Derived.Test.YtibpipgabcpaoaaAiQ
namespace Go.AI
set_option linter.unusedSimpArgs false
set_option linter.unusedVariables false
open Go.RowKit
structure RCod (α : Type) where
 sz : Nat
 enc : α → Row
 dec : Row → Option α
 de : ∀ e, dec (enc e) = some e
 len : ∀ e, (enc e).length = sz
 ok : ∀ {r : Row} {e : α}, dec r = some e → ∀ {β : Nat → Nat} {ok : Bool → Nat → Prop} {w : World} {n : Nat} {x : Nat → Value}, (∀ o b, ok o b → ok false b) →
  (∀ (j : Nat) (c : AVal), r[j]? = some c → R β ok w n c (x j)) → r.length = sz ∧ ∀ (j : Nat) (c : AVal), (enc e)[j]? = some c → R β ok w n c (x j)
structure Cod (α : Type) where
 enc : α → AVal
 dec : AVal → Option α
 de : ∀ e, dec (enc e) = some e
 ok : ∀ {x : AVal} {e : α}, dec x = some e → ∀ {β : Nat → Nat} {ok : Bool → Nat → Prop} {w : World} {n : Nat} {v : Value}, (∀ o b, ok o b → ok false b) → R β ok w n x v → R β ok w n (enc e) v
def RCod.plain {α : Type} (sz : Nat) (enc : α → Row) (dec : Row → Option α) (de : ∀ e, dec (enc e) = some e) (len : ∀ e, (enc e).length = sz) (eq : ∀ r e, dec r = some e → r = enc e) : RCod α :=
 ⟨sz, enc, dec, de, len, fun {r e} h β ok w n x hok hr => by
  have := eq r e h
  subst this
  exact ⟨len e, hr⟩⟩
def Cod.plain {α : Type} (enc : α → AVal) (dec : AVal → Option α) (de : ∀ e, dec (enc e) = some e) (eq : ∀ x e, dec x = some e → x = enc e) : Cod α :=
 ⟨enc, dec, de, fun {x e} h β ok w n v hok hr => by
  have := eq x e h
  subst this
  exact hr⟩
def intDec (k : IntKind) : AVal → Option Int
 | .v (.int k' n) => if k' = k then some n else none
 | _ => none
def cInt (k : IntKind) : Cod Int := Cod.plain (fun n => .v (.int k n)) (intDec k) (fun e => by simp [intDec]) (fun x e h => by
 unfold intDec at h
 split at h
 ·split at h
  ·rename_i hk; simp at h; rw [hk, h]
  ·cases h
 ·cases h)
def boolDec : AVal → Option Bool
 | .v (.bool b) => some b
 | _ => none
def cBool : Cod Bool := Cod.plain (fun b => .v (.bool b)) boolDec (fun e => rfl) (fun x e h => by
 unfold boolDec at h
 split at h
 ·simp at h; rw [h]
 ·cases h)
def aggDec {α : Type} (c : RCod α) : AVal → Option α
 | .v (.agg xs) => c.dec (xs.toList.map .v)
 | .agg cs => c.dec cs
 | _ => none
theorem aggDec_mk {α : Type} (c : RCod α) (r : Row) : aggDec c (mkAgg r) = c.dec r := by
 unfold mkAgg
 split
 ·rename_i xs hx
  rw [allV_some hx]
  simp [aggDec]
 ·rfl
def cAgg {α : Type} (c : RCod α) : Cod α where
 enc e := mkAgg (c.enc e)
 dec := aggDec c
 de e := by rw [aggDec_mk, c.de]
 ok := by
  intro x e h β ok w n v hok hr
  unfold aggDec at h
  split at h
  ·rename_i xs
   have hv := hr.v_inv
   subst hv
   obtain ⟨h1, h2⟩ := c.ok h (β := β) (ok := ok) (w := w) (n := n) (x := fun j => xs[j]?.getD undef) hok (fun j a ha => by
    simp only [List.getElem?_map, Option.map_eq_some_iff, Array.getElem?_toList] at ha
    obtain ⟨y, hy, rfl⟩ := ha
    simp only [hy, Option.getD_some]
    exact .v)
   exact mkAgg_R (by rw [c.len]; simpa using h1.symm) h2
  ·rename_i cs
   cases hr with
   | @agg _ _ xs hl hr =>
    obtain ⟨h1, h2⟩ := c.ok h (x := fun j => xs[j]?.getD undef) hok hr
    exact mkAgg_R (by rw [c.len, ← h1]; exact hl) h2
  ·cases h
def slDec {α : Type} (c : RCod α) : AVal → Option (List α)
 | .v (.slice none 0 0) => some []
 | .esl => some []
 | .fsl _ sz rows => if sz = c.sz then rows.mapM c.dec else none
 | _ => none
theorem mapM_dec {α : Type} (c : RCod α) : ∀ l : List α, (l.map c.enc).mapM c.dec = some l
 | [] => rfl
 | e :: l => by
  have := mapM_dec c l
  simp only [List.map_cons, List.mapM_cons, c.de, this]
  rfl
theorem mapM_dec' {α : Type} (c : RCod α) (l : List α) : l.mapM (c.dec ∘ c.enc) = some l := by
 have := mapM_dec c l
 rwa [List.mapM_map] at this
theorem mapM_get {α : Type} (c : RCod α) : ∀ (rows : List Row) (l : List α), rows.mapM c.dec = some l → rows.length = l.length ∧ ∀ (i : Nat) (r : Row), rows[i]? = some r → ∃ e, l[i]? = some e ∧ c.dec r = some e
 | [], l, h => by simp at h; subst h; simp
 | r :: rows, l, h => by
  simp only [List.mapM_cons, Option.bind_eq_bind, Option.bind_eq_some_iff, Option.pure_def, Option.some.injEq] at h
  obtain ⟨e, he, l', hl', rfl⟩ := h
  obtain ⟨h1, h2⟩ := mapM_get c rows l' hl'
  refine ⟨by simp [h1], fun i r' hi => ?_⟩
  cases i with
  | zero => simp at hi; subst hi; exact ⟨e, by simp, he⟩
  | succ i => simpa using h2 i r' (by simpa using hi)
def cSl {α : Type} (c : RCod α) : Cod (List α) where
 enc l := .fsl false c.sz (l.map c.enc)
 dec := slDec c
 de l := by
  simp only [slDec, if_true]
  exact mapM_dec c l
 ok := by
  intro x e h β ok w n v hok hr
  unfold slDec at h
  split at h
  ·simp at h; subst h
   rw [hr.v_inv]; exact .fsl0
  ·simp at h; subst h
   cases hr; exact .fsl0
  ·rename_i o sz rows
   split at h
   ·rename_i hsz
    subst hsz
    obtain ⟨h1, h2⟩ := mapM_get c rows e h
    cases hr with
    | @fsl _ _ _ _ b off cap x' hl hs hb hc hr =>
     have hcell : ∀ (i : Nat) (r : Row), rows[i]? = some r → ∃ y, e[i]? = some y ∧ r.length = c.sz ∧ ∀ (j : Nat) (a : AVal), (c.enc y)[j]? = some a → R β ok w 0 a (x' i j) := by
      intro i r hi
      obtain ⟨y, hy, hd⟩ := h2 i r hi
      obtain ⟨k1, k2⟩ := c.ok hd (β := β) (ok := ok) (w := w) (n := 0) (x := fun j => x' i j) hok (hr i r hi)
      exact ⟨y, hy, k1, k2⟩
     have := R.fsl (β := β) (ok := ok) (w := w) (n := n) (o := false) (sz := c.sz) (rows := e.map c.enc) (b := b) (off := off) (cap := cap) x' (by simp; omega)
      (fun r hr => by
       simp only [List.mem_map] at hr
       obtain ⟨y, _, rfl⟩ := hr
       exact c.len y) (fun ⟨r, hr, hne⟩ => hok _ _ (hb (by
       obtain ⟨y, hy, rfl⟩ := List.mem_map.1 hr
       have hsz0 : 0 < c.sz := by rw [← c.len y]; exact List.length_pos_iff.2 hne
       have hel : 0 < e.length := List.length_pos_of_mem hy
       have h00 : 0 < rows.length := by omega
       obtain ⟨_, _, k, _⟩ := hcell 0 rows[0] (List.getElem?_eq_getElem h00)
       exact ⟨rows[0], List.getElem_mem h00, List.length_pos_iff.1 (by omega)⟩))) (fun i j hi hj => hc i j (by simp at hi; omega) hj)
      (fun i r hi j a ha => by
       simp only [List.getElem?_map, Option.map_eq_some_iff] at hi
       obtain ⟨y, hy, rfl⟩ := hi
       have hil : i < rows.length := by have := (List.getElem?_eq_some_iff.1 hy).1; omega
       obtain ⟨y', hy', _, k⟩ := hcell i rows[i] (List.getElem?_eq_getElem hil)
       rw [hy] at hy'
       simp only [Option.some.injEq] at hy'
       subst hy'
       exact k j a ha)
     simpa [h1] using this
    | fsl0 =>
     have : e = [] := by simpa using h1.symm
     subst this; exact .fsl0
   ·cases h
  ·cases h
def argM {α : Type} (c : Cod α) (k : α → Row → Option AVal) : Row → Option AVal
 | x :: r => match c.dec x with
  | some e => k e r
  | none => none
 | [] => none
def finM (a : Option AVal) : Row → Option AVal
 | [] => a
 | _ :: _ => none
def Canon (args args' : Row) : Prop := args'.length = args.length ∧
 ∀ {β : Nat → Nat} {ok : Bool → Nat → Prop} {w : World} {n : Nat}, (∀ o b, ok o b → ok false b) → ∀ (j : Nat) (x : AVal) (v : Value), args'[j]? = some x → (∀ y, args[j]? = some y → R β ok w n y v) → R β ok w n x v
theorem Canon.nil : Canon [] [] := ⟨rfl, fun _ j x v h => by simp at h⟩
theorem Canon.cons {α : Type} (c : Cod α) {x : AVal} {e : α} (h : c.dec x = some e) {r r' : Row} (k : Canon r r') : Canon (x :: r) (c.enc e :: r') := by
 refine ⟨by simp [k.1], fun hok j y v hj hy => ?_⟩
 cases j with
 | zero => simp at hj; subst hj; exact c.ok h hok (hy x (by simp))
 | succ j => exact k.2 hok j y v (by simpa using hj) (fun z hz => hy z (by simpa using hz))
theorem Canon.args {args args' : Row} (h : Canon args args') {w : World} {vals : Array Value} (hargs : ArgsR β0 (ok0 w) w 0 args vals) : ArgsR β0 (ok0 w) w 0 args' vals :=
 ⟨hargs.1.trans h.1.symm, fun j x hj => h.2 (fun _ _ hb => ⟨hb.1, fun h => by cases h⟩) j x _ hj (fun y hy => hargs.2 j y hy)⟩
section
variable {P : Program} {f : FuncId} {fn : Func} {c : Code}
def Body (P : Program) (fn : Func) (c : Code) (args : Row) (r : AVal) : Prop :=
 args.length ≤ fn.ntmps ∧ AWp P fn.ntmps 0 c (retA P fn fun x H => view H depthV x = r ∧ hot r = true) (envOf 0 args) []
theorem pure_canon (hf : P.funcs[f]? = some fn) (hb : fn.body = some c) {m : Row → Option AVal} (h : ∀ args r, m args = some r → ∃ args', Canon args args' ∧ Body P fn c args' r) : PureOk P f m := by
 classical
 intro args r hr w vals hargs
 obtain ⟨args', hc, hB⟩ := h args r hr
 have := pure_of (m := fun x => if x = args' then some r else none) hf hb (fun a r' h' => by
  split at h'
  ·rename_i ha
   simp only [Option.some.injEq] at h'
   subst ha; subst h'
   exact hB
  ·cases h')
 exact this args' r (by simp) w vals (hc.args hargs)
theorem pure0 (hf : P.funcs[f]? = some fn) (hb : fn.body = some c) {g : Option AVal} (h : ∀ r, g = some r → Body P fn c [] r) : PureOk P f (finM g) := by
 refine pure_canon hf hb fun args r hr => ?_
 cases args with
 | nil => exact ⟨[], .nil, h r hr⟩
 | cons _ _ => simp [finM] at hr
theorem argM_some {α : Type} {c : Cod α} {k : α → Row → Option AVal} {args : Row} {r : AVal} (h : argM c k args = some r) : ∃ x e rest, args = x :: rest ∧ c.dec x = some e ∧ k e rest = some r := by
 cases args with
 | nil => simp [argM] at h
 | cons x rest =>
  simp only [argM] at h
  split at h
  ·rename_i e he; exact ⟨x, e, rest, rfl, he, h⟩
  ·cases h
theorem finM_some {g : Option AVal} {args : Row} {r : AVal} (h : finM g args = some r) : args = [] ∧ g = some r := by
 cases args with
 | nil => exact ⟨rfl, h⟩
 | cons _ _ => simp [finM] at h
variable {α₁ α₂ α₃ α₄ α₅ α₆ : Type}
theorem pure1 {c1 : Cod α₁} (hf : P.funcs[f]? = some fn) (hb : fn.body = some c) {g : α₁ → Option AVal} (h : ∀ e1 r, g e1 = some r → Body P fn c [c1.enc e1] r) : PureOk P f (argM c1 fun e1 => finM (g e1)) := by
 refine pure_canon hf hb fun args r hr => ?_
 obtain ⟨x1, e1, r1, rfl, h1, hr⟩ := argM_some hr
 obtain ⟨rfl, hr⟩ := finM_some hr
 exact ⟨_, .cons c1 h1 .nil, h e1 r hr⟩
theorem pure2 {c1 : Cod α₁} {c2 : Cod α₂} (hf : P.funcs[f]? = some fn) (hb : fn.body = some c) {g : α₁ → α₂ → Option AVal} (h : ∀ e1 e2 r, g e1 e2 = some r → Body P fn c [c1.enc e1, c2.enc e2] r) : PureOk P f (argM c1 fun e1 => argM c2 fun e2 => finM (g e1 e2)) := by
 refine pure_canon hf hb fun args r hr => ?_
 obtain ⟨x1, e1, r1, rfl, h1, hr⟩ := argM_some hr
 obtain ⟨x2, e2, r2, rfl, h2, hr⟩ := argM_some hr
 obtain ⟨rfl, hr⟩ := finM_some hr
 exact ⟨_, .cons c1 h1 (.cons c2 h2 .nil), h e1 e2 r hr⟩
theorem pure3 {c1 : Cod α₁} {c2 : Cod α₂} {c3 : Cod α₃} (hf : P.funcs[f]? = some fn) (hb : fn.body = some c) {g : α₁ → α₂ → α₃ → Option AVal} (h : ∀ e1 e2 e3 r, g e1 e2 e3 = some r → Body P fn c [c1.enc e1, c2.enc e2, c3.enc e3] r) : PureOk P f (argM c1 fun e1 => argM c2 fun e2 => argM c3 fun e3 => finM (g e1 e2 e3)) := by
 refine pure_canon hf hb fun args r hr => ?_
 obtain ⟨x1, e1, r1, rfl, h1, hr⟩ := argM_some hr
 obtain ⟨x2, e2, r2, rfl, h2, hr⟩ := argM_some hr
 obtain ⟨x3, e3, r3, rfl, h3, hr⟩ := argM_some hr
 obtain ⟨rfl, hr⟩ := finM_some hr
 exact ⟨_, .cons c1 h1 (.cons c2 h2 (.cons c3 h3 .nil)), h e1 e2 e3 r hr⟩
theorem body_of {C : Orc} {args : Row} {r : AVal} (hC : OrcOk P C) (hm : P.follows .mixedOrders = true) (hrf : codeRF C c = true) (hn : args.length ≤ fn.ntmps)
  (h : wpA P C fn.ntmps 0 c (retA P fn fun x H => view H depthV x = r ∧ hot r = true) (envOf 0 args) []) : Body P fn c args r :=
 ⟨hn, wpA_sound hC hm _ _ _ _ hrf h⟩
end
end Go.AI
