/- Contracts of functions that own what they return. -/
import Derived.Test.YtibpipgabcpaoaaAiY
import Derived.Test.YtibpipgabcpaoaaAiS
import Derived.ProofKit
import Derived.OpenShut
import Derived.Deep.Slices
import Derived.Test.YtibpipgabcpaoaaGB
set_option linter.unusedSimpArgs false
set_option linter.unusedVariables false
namespace Go.AI
open Go.RowKit
section
variable {P : Program} {f : FuncId} {fn : Func} {code : Code} {α α₁ α₂ α₃ ρ : Type}
def argG (c : Cod α) (k : α → Row → Option ρ) : Row → Option ρ
 | x :: r => match c.dec x with
  | some e => k e r
  | none => none
 | [] => none
def finG (a : Option ρ) : Row → Option ρ
 | [] => a
 | _ :: _ => none
def own0 (k : Row → Option (AVal × Heap)) : Row → Heap → Option (AVal × Heap)
 | args, [] => k args
 | _, _ :: _ => none
def own1 (c : RCod α) (k0 : Row → Option (AVal × Heap)) (k : List α → Row → Option (AVal × Heap)) : Row → Heap → Option (AVal × Heap)
 | .osl 0 sz 0 n kc :: rest, [some (sz', rows)] => if sz = c.sz ∧ sz' = c.sz ∧ n = rows.length ∧ kc = n ∧ 0 < n then (match rows.mapM c.dec with | some l => k l rest | none => none) else none
 | .esl :: rest, [] => k0 rest
 | .v (.slice none 0 0) :: rest, [] => k0 rest
 | _, _ => none
theorem argG_some {c : Cod α} {k : α → Row → Option ρ} {args : Row} {r : ρ} (h : argG c k args = some r) : ∃ x e rest, args = x :: rest ∧ c.dec x = some e ∧ k e rest = some r := by
 cases args with
 | nil => simp [argG] at h
 | cons x rest =>
  simp only [argG] at h
  split at h
  ·rename_i e he; exact ⟨x, e, rest, rfl, he, h⟩
  ·cases h
theorem finG_some {g : Option ρ} {args : Row} {r : ρ} (h : finG g args = some r) : args = [] ∧ g = some r := by
 cases args with
 | nil => exact ⟨rfl, h⟩
 | cons _ _ => simp [finG] at h
theorem Canon.argsX {args args' : Row} (h : Canon args args') {β : Nat → Nat} {base : Nat} {fz : Nat → Prop} {w : World} {n : Nat} {vals : Array Value} (hargs : ArgsR β (okOf base fz) w n args vals) : ArgsR β (okOf base fz) w n args' vals :=
 ⟨hargs.1.trans h.1.symm, fun j x hj => h.2 (fun _ _ hb => ⟨hb.1, fun h => by cases h⟩) j x _ hj (fun y hy => hargs.2 j y hy)⟩
def BodyI (P : Program) (fn : Func) (c : Code) (args : Row) (H : Heap) (r : AVal) (H' : Heap) : Prop :=
 args.length ≤ fn.ntmps ∧ AWp P fn.ntmps H.length c (retA P fn fun x H2 => ∃ th, WeakT H.length th ([(0, r)], H') ([(0, x)], H2)) (envOf 0 args) H
theorem inl_canon (hf : P.funcs[f]? = some fn) (hb : fn.body = some code) {m : Row → Heap → Option (AVal × Heap)}
  (h : ∀ args H r H', m args H = some (r, H') → ∃ args', Canon args args' ∧ BodyI P fn code args' H r H') : InlOk P f m := by
 intro args H r H' hr base w0 β fz w vals hs hargs
 obtain ⟨args', hc, h1, h2⟩ := h args H r H' hr
 refine .of hf hb (body_calls hf hb h1 h2 ⟨fn.ntmps, H.length, β, fz, w⟩ rfl rfl hs (Ext.refl _ _ _ _) (hc.argsX hargs) _ ?_)
 rintro x v β' fz' H2 w' ⟨th, hx⟩ hs' he hR
 obtain ⟨β2, q1, q2, q3⟩ := hsim_weakT hs' he hR hx
 exact ⟨v, β2, fz', rfl, q1, q2, q3⟩
theorem bodyI_of {C : Orc} {args : Row} {H H' : Heap} {r : AVal} (hC : OrcOk P C) (hm : P.follows .mixedOrders = true) (hrf : codeRF C code = true) (hn : args.length ≤ fn.ntmps)
  (h : ∀ C' : Orc, C'.pure = C.pure → C'.inl = C.inl → C'.inline = C.inline → C'.dyn = C.dyn → C'.fp = C.fp → C'.alt = C.alt → C'.rd = C.rd → C'.cl = C.cl → wpA P C' fn.ntmps H.length code (retA P fn fun x H2 => ∃ th, WeakT H.length th ([(0, r)], H') ([(0, x)], H2)) (envOf 0 args) H) : BodyI P fn code args H r H' :=
 ⟨hn, wpA_sound hC hm _ _ _ _ hrf (h C rfl rfl rfl rfl rfl rfl rfl rfl)⟩
def Exact (c : RCod α) : Prop := ∀ r e, c.dec r = some e → r = c.enc e
theorem Exact.rows {c : RCod α} (hp : Exact c) : ∀ {rows : List Row} {l : List α}, rows.mapM c.dec = some l → rows = l.map c.enc
 | [], l, h => by simp at h; subst h; rfl
 | r :: rows, l, h => by
  simp only [List.mapM_cons, Option.bind_eq_bind, Option.bind_eq_some_iff, Option.pure_def, Option.some.injEq] at h
  obtain ⟨e, he, l', hl', rfl⟩ := h
  rw [hp r e he, Exact.rows hp hl', List.map_cons]
theorem Canon.soften {rest rest' : Row} (h : Canon rest rest') {x y : AVal} (hxy : ∀ {β : Nat → Nat} {ok : Bool → Nat → Prop} {w : World} {n : Nat} {v : Value}, R β ok w n x v → R β ok w n y v) : Canon (x :: rest) (y :: rest') := by
 refine ⟨by simp [h.1], fun hok j z v hj hy => ?_⟩
 cases j with
 | zero => simp at hj; subst hj; exact hxy (hy x (by simp))
 | succ j => exact h.2 hok j z v (by simpa using hj) (fun a ha => hy a (by simpa using ha))
theorem own1_1 {c : RCod α} {c1 : Cod α₁} (hp : Exact c) (hf : P.funcs[f]? = some fn) (hb : fn.body = some code) {g0 : α₁ → Option (AVal × Heap)} {g : List α → α₁ → Option (AVal × Heap)}
  (h0 : ∀ e1 r H', g0 e1 = some (r, H') → BodyI P fn code [.esl, c1.enc e1] [] r H')
  (h : ∀ l e1 r H', l ≠ [] → g l e1 = some (r, H') → BodyI P fn code [.osl 0 c.sz 0 l.length l.length, c1.enc e1] [some (c.sz, l.map c.enc)] r H') :
  InlOk P f (own1 c (argG c1 fun e1 => finG (g0 e1)) (fun l => argG c1 fun e1 => finG (g l e1))) := by
 refine inl_canon hf hb fun args H r H' hr => ?_
 unfold own1 at hr
 split at hr
 ·rename_i sz n kc rest sz' rows
  split at hr
  ·rename_i hc
   obtain ⟨rfl, rfl, rfl, rfl, hn⟩ := hc
   split at hr
   ·rename_i l hl
    have hrows := hp.rows hl
    subst hrows
    obtain ⟨x1, e1, r1, rfl, h1, hr⟩ := argG_some hr
    obtain ⟨rfl, hr⟩ := finG_some hr
    have hl0 : l ≠ [] := by rintro rfl; simp at hn
    have := h l e1 r H' hl0 hr
    exact ⟨_, .soften (.cons c1 h1 .nil) (fun h => h), by simpa using this⟩
   ·cases hr
  ·cases hr
 ·obtain ⟨x1, e1, r1, rfl, h1, hr⟩ := argG_some hr
  obtain ⟨rfl, hr⟩ := finG_some hr
  exact ⟨_, .soften (.cons c1 h1 .nil) (fun h => h), h0 e1 r H' hr⟩
 ·obtain ⟨x1, e1, r1, rfl, h1, hr⟩ := argG_some hr
  obtain ⟨rfl, hr⟩ := finG_some hr
  exact ⟨_, .soften (.cons c1 h1 .nil) (fun h => by rw [h.v_inv]; exact .esl), h0 e1 r H' hr⟩
 ·cases hr
end
end Go.AI
namespace Go.AI
section
variable {k : IntKind}
theorem irow_tau (fp : List Nat) (n : Nat) (e : Int) : List.map (tau fp n) (irow k e) = irow k e := by simp [irow, tau]
theorem irow_tauc (fp : List Nat) (n : Nat) : List.map (tau fp n) ∘ irow k = irow k := by funext e; exact irow_tau fp n e
theorem irow_bare (e : Int) : (irow k e).all bareA = true := by simp [irow, bareA]
theorem irow_bareR (l : List Int) : ((l.map (irow k)).all fun row => row.all bareA) = true := by simp [irow_bare]
theorem irow_flat (l : List Int) : flat0 (l.map (irow k)) = true := by simp [flat0, irow_low]
end
end Go.AI
namespace Go.AI
def cloneF : Row → Option (List Nat)
 | [.fsl _ _ _] => some []
 | [.osl id _ _ _ _] => some [id]
 | [.esl] => some []
 | _ => none
def frame0F (args : Row) : Option (List Nat) := if args.all noId then some [] else none
def frame1F : Row → Option (List Nat)
 | .osl id _ _ _ _ :: rest => if rest.all noId then some [id] else none
 | args => frame0F args
def insertF : Row → Option (List Nat)
 | [.osl id _ 0 _ _, .v (.int .i64 _), .osl vid _ 0 1 1] => some [id, vid]
 | [.esl, .v (.int .i64 _), .osl vid _ 0 1 1] => some [vid]
 | _ => none
end Go.AI
/- More codecs; slices.Delete. -/
set_option linter.unusedSimpArgs false
set_option linter.unusedVariables false
namespace Go.AI
open Go.RowKit
def cellDec {α : Type} (c : Cod α) : Row → Option α
 | [x] => c.dec x
 | _ => none
def rCell {α : Type} (c : Cod α) : RCod α where
 sz := 1
 enc e := [c.enc e]
 dec := cellDec c
 de e := c.de e
 len _ := rfl
 ok := by
  intro r e h β ok w n x hok hr
  unfold cellDec at h
  split at h
  ·refine ⟨rfl, fun j a hj => ?_⟩
   cases j with
   | zero => simp at hj; subst hj; exact c.ok h hok (hr 0 _ rfl)
   | succ j => simp at hj
  ·cases h
def fpDec {α : Type} (c : RCod α) : AVal → Option α
 | .fptr row 0 => c.dec row
 | _ => none
def cFp {α : Type} (c : RCod α) : Cod α where
 enc e := .fptr (c.enc e) 0
 dec := fpDec c
 de e := by simp [fpDec, c.de]
 ok := by
  intro x e h β ok w n v hok hr
  unfold fpDec at h
  split at h
  ·rename_i row
   cases hr with
   | fptr x' hb hc hr =>
    obtain ⟨h1, h2⟩ := c.ok h (β := β) (ok := ok) (w := w) (n := 0) (x := x') hok hr
    exact .fptr x' (fun hne => hok _ _ (hb (by rintro rfl; exact hne (List.length_eq_zero_iff.1 (by rw [c.len]; exact h1.symm))))) (fun j hj => hc j (by rw [c.len] at hj; omega)) h2
  ·cases h
def rTwo {α β : Type} (a : Cod α) (b : Cod β) : RCod (α × β) where
 sz := 2
 enc e := [a.enc e.1, b.enc e.2]
 dec r := match r with
  | [x, y] => match a.dec x, b.dec y with | some x, some y => some (x, y) | _, _ => none
  | _ => none
 de e := by simp [a.de, b.de]
 len _ := rfl
 ok := by
  intro r e h β ok w n x hok hr
  split at h
  ·rename_i u v
   split at h
   ·rename_i p q hp hq
    simp at h
    subst h
    refine ⟨rfl, fun j c hj => ?_⟩
    match j, hj with
    | 0, hj => simp at hj; subst hj; exact a.ok hp hok (hr 0 _ rfl)
    | 1, hj => simp at hj; subst hj; exact b.ok hq hok (hr 1 _ rfl)
    | j + 2, hj => simp at hj
   ·cases h
  ·cases h
section
variable {base : Nat} {w0 : World} {β : Nat → Nat} {fz : Nat → Prop} {H : Heap} {w : World} {P : Program}
theorem HSim.trunc (hs : HSim base w0 β fz H w) {id sz : Nat} {L M : List Row} (hid : H[id]? = some (some (sz, L ++ M))) (h00 : sz ≠ 0) : HSim base w0 β fz (H.set id (some (sz, L))) w ∧ Ext H.length β fz w (H.set id (some (sz, L))).length β fz w := by
 have hlt : id < H.length := (List.getElem?_eq_some_iff.1 hid).1
 have live : ∀ k, Live (H.set id (some (sz, L))) k → Live H k := fun k hk => Live.set hk ⟨_, hid⟩
 refine ⟨⟨fun k s2 r2 hk => ?_, fun a b ha hb => hs.inj a b (live a ha) (live b hb), fun k hk => hs.own k (live k hk), hs.fzlt, hs.below, hs.base⟩, ⟨by simp, fun _ _ => rfl, fun _ h => h, fun _ _ => rfl, Shapes.refl _⟩⟩
 by_cases hki : k = id
 ·subst hki
  rw [List.getElem?_set_self hlt] at hk
  simp only [Option.some.injEq, Prod.mk.injEq] at hk
  obtain ⟨rfl, rfl⟩ := hk
  obtain ⟨cs, e, g1, g2, g3, g4, g5⟩ := hs.cells0 hid h00
  rw [OSim, if_neg h00]
  refine ⟨cs, e, g1, fun r hr => g2 r (by simp [hr]), Nat.le_trans (Nat.mul_le_mul_right _ (by simp)) g3, g4, fun i r hi j c hj => ?_⟩
  rw [List.length_set]
  have hil := (List.getElem?_eq_some_iff.1 hi).1
  exact g5 i r (by rw [List.getElem?_append_left hil]; exact hi) j c hj
 ·rw [List.getElem?_set_ne (by omega)] at hk
  rw [List.length_set]
  exact hs.objs' k s2 r2 hk
def deleteF : Row → Option (List Nat)
 | [.osl id _ 0 _ _, .v (.int .i64 _), .v (.int .i64 _)] => some [id]
 | _ => none
end
end Go.AI
namespace Go.AI
theorem hotR_cat (a b : List Row) : hotR (a ++ b) = (hotR a && hotR b) := by simp [hotR_all]
theorem tmodN {a b : Nat} : Int.tmod (a : Int) (b : Int) = ((a % b : Nat) : Int) := rfl
end Go.AI
/- From what the statements say of arguments to what the interpreter knows of them. -/
namespace Go.AI
set_option linter.unusedSimpArgs false
set_option linter.unusedVariables false
open Go.RowKit Go.ChangeShapes Go.WideShapes Go.ChangeAt Go.Deep
theorem law_calls {P : Program} {f : FuncId} {m : Row → Option AVal} {args : Row} {vals : Array Value} {W : World} (hp : PureOk P f m) (hm : m args = some (.v (.bool true))) (hargs : ArgsR β0 (ok0 W) W 0 args vals) :
  Calls P f vals W fun e W' => e = .returned (.bool true) ∧ RowKit.Below W.heap.size W W' := by
 refine (hp args _ hm W vals hargs).mono ?_
 rintro e w' ⟨v, rfl, hb, hR⟩
 rw [hR.v_inv]
 exact ⟨rfl, hb.kit⟩
theorem ArgsR.nil {W : World} : ArgsR β0 (ok0 W) W 0 [] #[] := ⟨rfl, fun j a h => by simp at h⟩
theorem ArgsR.of {W : World} {args : Row} {vals : List Value} (h : vals.length = args.length) (k : ∀ (j : Nat) (a : AVal), args[j]? = some a → R β0 (ok0 W) W 0 a (vals[j]?.getD undef)) : ArgsR β0 (ok0 W) W 0 args vals.toArray :=
 ⟨by simpa using h, fun j a ha => by simpa using k j a ha⟩
section
variable {H : Type} {enc : TypeId × Value → H} {P : Program} {W : World} {base : Nat} {spare : Nat → Bool} {held : Bool}
def RdRow {α : Type} (P : Program) (t : TypeId) (c : RCod α) (good : α → Prop) : Prop :=
 ∀ {H : Type} {enc : TypeId × Value → H} {W : World} {base : Nat} {spare : Nat → Bool} {held : Bool} {fuel : Nat} {cs : List Value} {x : DataW H × List MemPlace},
  DataW.trod enc P W base spare held fuel t cs = some x → cs.length = c.sz ∧ (∀ v ∈ cs, v.oneCell' = true) ∧ ∃ e : α, good e ∧ ∀ (j : Nat) (a : AVal), (c.enc e)[j]? = some a → R β0 (ok0 W) W 0 a (cs[j]?.getD undef)
theorem rd_int {t : TypeId} {k : IntKind} {v : Value} {d : DataW H} {p : List MemPlace} (ht : P.underlying t = some (.int k)) (hv : Value.okWide P W .any base t v) (h : DataW.Trod enc P W 0 spare held t v d p) :
  ∃ n : Int, (Lit.int k n).wf = true ∧ v = .int k n := by
 obtain ⟨n, rfl, _, _, hw⟩ := open_int ht hv h
 exact ⟨n, hw, rfl⟩
theorem rd_slv {α : Type} {t e : TypeId} {c : RCod α} {good : α → Prop} {v : Value} (ht : P.underlying t = some (.slice e)) (hsz : P.cellsOf e = c.sz) (h0 : 0 < c.sz) (hc : RdRow P e c good) (hv : ∃ a l k, v = .slice a l k) {bs : Nat} {fuel : Nat} {dx : DataW H × List MemPlace}
  (hf : DataW.trod enc P W bs spare held fuel t v.cells.toList = some dx) : ∃ l : List α, l.length ≤ maxLen ∧ (∀ x ∈ l, good x) ∧ R β0 (ok0 W) W 0 ((cSl c).enc l) v := by
 obtain ⟨a0, len0, cap0, rfl⟩ := hv
 rcases open_slice ht hf with ⟨hcs, _⟩ | ⟨a, len, cap, m, n, D, Pl, hcs, _, hl, hm, hmm, _, hi⟩
 ·simp [Value.cells] at hcs
  obtain ⟨rfl, rfl, rfl⟩ := hcs
  exact ⟨[], by simp, by simp, .fsl0⟩
 ·simp [Value.cells] at hcs
  obtain ⟨rfl, rfl, rfl⟩ := hcs
  rw [hsz] at hi
  have hml : len0 ≤ m := by rw [hmm]; split <;> omega
  -- the elements, one by one
  have hex : ∀ i, i < len0 → ∃ x : α, good x ∧ ∃ cs : List Value, cs.length = c.sz ∧ (∀ v ∈ cs, v.oneCell' = true) ∧ (∀ j, j < c.sz → W.cell? (a.add (i * c.sz + j)) = cs[j]?) ∧ ∀ (j : Nat) (b : AVal), (c.enc x)[j]? = some b → R β0 (ok0 W) W 0 b (cs[j]?.getD undef) := by
   intro i hil
   obtain ⟨cs', hc1, hc2⟩ := hi i (by omega)
   obtain ⟨g1, g2, x, hx, hR⟩ := hc hc2
   obtain ⟨_, hcl, hat⟩ := World.cells?_some hc1
   refine ⟨x, hx, cs', g1, g2, fun j hj => ?_, hR⟩
   have := hat j (by omega)
   rwa [Go.Deep.add_add] at this
  have hlist : ∃ l : List α, l.length = len0 ∧ ∀ i x, l[i]? = some x → good x ∧ ∃ cs : List Value, cs.length = c.sz ∧ (∀ v ∈ cs, v.oneCell' = true) ∧ (∀ j, j < c.sz → W.cell? (a.add (i * c.sz + j)) = cs[j]?) ∧ ∀ (j : Nat) (b : AVal), (c.enc x)[j]? = some b → R β0 (ok0 W) W 0 b (cs[j]?.getD undef) := by
   have : ∀ k, k ≤ len0 → ∃ l : List α, l.length = k ∧ ∀ i x, l[i]? = some x → good x ∧ ∃ cs : List Value, cs.length = c.sz ∧ (∀ v ∈ cs, v.oneCell' = true) ∧ (∀ j, j < c.sz → W.cell? (a.add (i * c.sz + j)) = cs[j]?) ∧ ∀ (j : Nat) (b : AVal), (c.enc x)[j]? = some b → R β0 (ok0 W) W 0 b (cs[j]?.getD undef) := by
    intro k
    induction k with
    | zero => intro _; exact ⟨[], rfl, fun i x h => by simp at h⟩
    | succ k ih =>
     intro hk
     obtain ⟨l, hl1, hl2⟩ := ih (by omega)
     obtain ⟨x, hx, cs, q⟩ := hex k (by omega)
     refine ⟨l ++ [x], by simp [hl1], fun i y hy => ?_⟩
     rw [List.getElem?_append] at hy
     split at hy
     ·exact hl2 i y hy
     ·rename_i hge
      have h00 : i - l.length = 0 := by
       by_cases h00 : i - l.length = 0
       ·exact h00
       ·simp [h00] at hy
      rw [h00] at hy
      simp at hy
      subst hy
      have : i = k := by omega
      subst this
      exact ⟨hx, cs, q⟩
   exact this len0 (Nat.le_refl _)
  obtain ⟨l, hl1, hl2⟩ := hlist
  refine ⟨l, by omega, fun x hx => ?_, ?_⟩
  ·obtain ⟨i, hi⟩ := List.getElem?_of_mem hx
   exact (hl2 i x hi).1
  ·by_cases hl0 : len0 = 0
   ·have : l = [] := List.length_eq_zero_iff.1 (by omega)
    subst this
    subst hl0
    exact .fsl0
   ·obtain ⟨b, off, spot⟩ := a
    have h1 := hl2 0 l[0] (by simp)
    obtain ⟨_, cs0, k1, k2, k3, k4⟩ := h1
    have hcell := k3 0 h0
    have hc0 : cs0[0]? = some (cs0[0]'(by omega)) := List.getElem?_eq_getElem (by omega)
    rw [hc0] at hcell
    have hspot : spot = none := by simpa [Addr.add] using World.cell?_spot hcell
    subst hspot
    have hblk : b < W.heap.size := by
     rw [Nat.zero_mul, Nat.zero_add, add_none] at hcell
     by_cases hb : b < W.heap.size
     ·exact hb
     ·simp [World.cell?, Array.getElem?_eq_none (Nat.le_of_not_lt hb)] at hcell
    have := R.fsl (β := β0) (ok := ok0 W) (w := W) (n := 0) (o := false) (sz := c.sz) (rows := l.map c.enc) (b := b) (off := off) (cap := cap0)
     (fun i j => (W.cell? ⟨b, off + i * c.sz + j, none⟩).getD undef) (by simp; omega)
     (fun r hr => by
      simp only [List.mem_map] at hr
      obtain ⟨y, _, rfl⟩ := hr
      exact c.len y) (fun _ => ⟨hblk, fun h => by cases h⟩)
     (fun i j hi hj => by
      have hil : i < l.length := by simpa using hi
      obtain ⟨_, cs, q1, q2, q3, q4⟩ := hl2 i l[i] (List.getElem?_eq_getElem hil)
      have := q3 j hj
      rw [add_none, ← Nat.add_assoc] at this
      have hcj : cs[j]? = some (cs[j]'(by omega)) := List.getElem?_eq_getElem (by omega)
      rw [hcj] at this
      rw [this]
      exact ⟨rfl, q2 _ (List.getElem_mem _)⟩)
     (fun i r hi j b' hj => by
      simp only [List.getElem?_map, Option.map_eq_some_iff] at hi
      obtain ⟨y, hy, rfl⟩ := hi
      obtain ⟨_, cs, q1, q2, q3, q4⟩ := hl2 i y hy
      have hjl : j < c.sz := by
       have := (List.getElem?_eq_some_iff.1 hj).1
       rwa [c.len] at this
      have e1 := q3 j hjl
      rw [add_none, ← Nat.add_assoc] at e1
      rw [e1]
      exact q4 j b' hj)
    simpa [cSl, hl1] using this
theorem rd_sl {α : Type} {t e : TypeId} {c : RCod α} {good : α → Prop} {v : Value} {d : DataW H} {p : List MemPlace} (ht : P.underlying t = some (.slice e)) (hsz : P.cellsOf e = c.sz) (h0 : 0 < c.sz) (hc : RdRow P e c good) (hv : Value.okWide P W .any base t v)
  (h : DataW.Trod enc P W 0 spare held t v d p) : ∃ l : List α, l.length ≤ maxLen ∧ (∀ x ∈ l, good x) ∧ R β0 (ok0 W) W 0 ((cSl c).enc l) v := by
 obtain ⟨fuel, hf⟩ := h
 exact rd_slv ht hsz h0 hc (okWide_slice ht hv) hf
end
end Go.AI
/- slices.Replace, of one element by some; slices.overlaps the other way round. -/
set_option linter.unusedSimpArgs false
set_option linter.unusedVariables false
namespace Go.AI
open Go.RowKit
section
variable {base : Nat} {w0 : World} {β : Nat → Nat} {fz : Nat → Prop} {H : Heap} {w : World} {P : Program}
def ovlJ : Row → Heap → Option (AVal × Heap)
 | [.xsl a sza _ la _, .osl b szb _ lb _], H => if a ≠ b ∧ 0 < la ∧ 0 < lb ∧ 0 < sza ∧ 0 < szb ∧ (obj H a).isSome = true ∧ (obj H b).isSome = true then some (.v (.bool false), H) else none
 | _, _ => none
def replaceI (sz : Nat) : Row → Heap → Option (AVal × Heap)
 | [.osl id sz1 0 n kc, .v (.int .i64 i), .v (.int .i64 j), .v (.slice none 0 0)], H =>
  match obj H id with
  | some (sz3, rows) =>
   if sz1 = sz ∧ sz3 = sz ∧ 0 < sz ∧ rows.length = n ∧ kc = n ∧ 0 ≤ i ∧ i < n ∧ j = i + 1 ∧ n ≤ 1048576 then
    some (.osl id sz 0 (n - 1) (n - 1), H.set id (some (sz, rows.eraseIdx i.toNat)))
   else none
  | none => none
 | [.osl id sz1 0 n kc, .v (.int .i64 i), .v (.int .i64 j), .osl vid sz2 0 m kv], H =>
  match obj H id, obj H vid with
  | some (sz3, rows), some (sz4, vr) =>
   if sz1 = sz ∧ sz2 = sz ∧ sz3 = sz ∧ sz4 = sz ∧ 0 < sz ∧ id ≠ vid ∧ rows.length = n ∧ kc = n ∧ vr.length = m ∧ kv = m ∧ 0 < m ∧ 0 ≤ i ∧ i < n ∧ j = i + 1 ∧ n ≤ 1048576 ∧ m ≤ 1048576 then
    some (.osl H.length sz 0 (n - 1 + m) (n - 1 + m), (H.set id none) ++ [some (sz, rows.take i.toNat ++ vr ++ rows.drop (i.toNat + 1))])
   else none
  | _, _ => none
 | _, _ => none
def replaceF : Row → Option (List Nat)
 | [.osl id _ 0 _ _, .v (.int .i64 _), .v (.int .i64 _), .v (.slice none 0 0)] => some [id]
 | [.osl id _ 0 _ _, .v (.int .i64 _), .v (.int .i64 _), .osl vid _ 0 _ _] => some [id, vid]
 | _ => none
end
end Go.AI
/- Arguments read part by part. -/
namespace Go.AI
set_option linter.unusedSimpArgs false
set_option linter.unusedVariables false
open Go.RowKit Go.ChangeShapes Go.WideShapes Go.ChangeAt Go.Deep
def rB : RCod Bool := RCod.plain 1 (fun b => [.v (.bool b)]) (fun r => match r with | [.v (.bool b)] => some b | _ => none) (fun _ => rfl) (fun _ => rfl) (fun r e h => by
 split at h
 ·simp at h; subst h; rfl
 ·cases h)
def InK (k : IntKind) (n : Int) : Prop := (Lit.int k n).wf = true
theorem rdI {P : Program} {t : TypeId} {k : IntKind} (ht : P.underlying t = some (.int k)) : RdRow P t (rI k) (InK k) := by
 intro H enc W base spare held fuel cs x h
 obtain ⟨n, e, hw⟩ := DataW.trod_int ht h
 subst e
 refine ⟨rfl, by simp [Value.oneCell'], n, hw.2, fun j a ha => ?_⟩
 simp only [rI, RCod.plain, irow] at ha
 match j, ha with
 | 0, ha => simp at ha; subst ha; exact .v
 | j + 1, ha => simp at ha
def RowsAt (W : World) (cs : List Value) (o : Nat) (r : Row) : Prop := (∀ v ∈ cs.drop o, v.oneCell' = true) ∧ ∀ (j : Nat) (a : AVal), r[j]? = some a → R β0 (ok0 W) W 0 a ((cs.drop o)[j]?.getD undef)
theorem RowsAt.nil {W : World} {cs : List Value} {o : Nat} (h : cs.length ≤ o) : RowsAt W cs o [] := by
 refine ⟨fun v hv => ?_, fun j a ha => by simp at ha⟩
 rw [List.drop_eq_nil_of_le h] at hv
 simp at hv
theorem RowsAt.cons {W : World} {cs : List Value} {o n : Nat} {r s : Row} (h1 : ∀ v ∈ (cs.drop o).take n, v.oneCell' = true) (hl : ((cs.drop o).take n).length = n) (hr : r.length = n)
  (h2 : ∀ (j : Nat) (a : AVal), r[j]? = some a → R β0 (ok0 W) W 0 a (((cs.drop o).take n)[j]?.getD undef)) (h3 : RowsAt W cs (o + n) s) : RowsAt W cs o (r ++ s) := by
 have hd : cs.drop o = (cs.drop o).take n ++ cs.drop (o + n) := by rw [← List.drop_drop, List.take_append_drop]
 constructor
 ·intro v hv
  rw [hd] at hv
  rcases List.mem_append.1 hv with h | h
  ·exact h1 v h
  ·exact h3.1 v h
 ·intro j a ha
  rw [hd]
  by_cases hj : j < n
  ·rw [List.getElem?_append_left (by omega)] at ha
   rw [List.getElem?_append_left (by omega)]
   exact h2 j a ha
  ·rw [List.getElem?_append_right (by omega)] at ha
   rw [List.getElem?_append_right (by omega), hl]
   rw [hr] at ha
   exact h3.2 _ a ha
theorem RowsAt.field {P : Program} {α : Type} {t : TypeId} {c : RCod α} {good : α → Prop} (hc : RdRow P t c good) {H : Type} {enc : TypeId × Value → H} {W : World} {base : Nat} {spare : Nat → Bool} {held : Bool} {fuel : Nat} {cs : List Value} {o n : Nat} {x : DataW H × List MemPlace}
  (hn : P.cellsOf t = n) (h : DataW.trod enc P W base spare held fuel t ((cs.drop o).take (P.cellsOf t)) = some x) : ∃ e, good e ∧ ∀ s, RowsAt W cs (o + n) s → RowsAt W cs o (c.enc e ++ s) := by
 rw [hn] at h
 obtain ⟨h1, h2, e, he, hR⟩ := hc h
 refine ⟨e, he, fun s hs => ?_⟩
 have hle : ((cs.drop o).take n).length ≤ n := by simp; omega
 by_cases hh : ((cs.drop o).take n).length = n
 ·exact .cons h2 hh (by rw [c.len, ← h1, hh]) hR hs
 ·have hd : cs.drop (o + n) = [] := by
   apply List.drop_eq_nil_of_le
   simp at hh
   omega
  have ht : (cs.drop o).take n = cs.drop o := List.take_of_length_le (by simp at hh ⊢; omega)
  rw [ht] at h1 h2 hR
  refine ⟨h2, fun j a ha => ?_⟩
  by_cases hj : j < (c.enc e).length
  ·rw [List.getElem?_append_left hj] at ha
   exact hR j a ha
  ·rw [List.getElem?_append_right (by omega)] at ha
   have := hs.2 _ a ha
   rw [hd] at this
   have hx : (cs.drop o)[j]? = none := List.getElem?_eq_none (by rw [h1, ← c.len e]; omega)
   rw [hx]
   simpa using this
end Go.AI
