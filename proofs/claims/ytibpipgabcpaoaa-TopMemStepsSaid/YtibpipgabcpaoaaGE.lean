/- What a call leaves is one of several states; a state split into several. -/
import Derived.Test.YtibpipgabcpaoaaGD
namespace Go.AI
set_option linter.unusedSimpArgs false
set_option linter.unusedVariables false
open Go.RowKit
def EntS {σ : Type} (n0 : Nat) (st : σ → Env × Heap) (s : Env × Heap) : Prop :=
 ∀ (f : Fr) (base : Nat) (w0 : World) (β : Nat → Nat) (fz : Nat → Prop) (a : Act) (w : World), f.n0 = n0 → Sim f base w0 β fz s.1 s.2 a w → ∃ (x : σ) (β' : Nat → Nat) (fz' : Nat → Prop), Sim f base w0 β' fz' (st x).1 (st x).2 a w
section
variable {P : Program} {C : Orc} {nt n0 : Nat} {ρ : Env} {H : Heap} {σ : Type}
theorem AWp.entS {st : σ → Env × Heap} {c : Code} {Q : Post} (h : ∀ x, AWp P nt n0 c Q (st x).1 (st x).2) (he : EntS n0 st (ρ, H)) : AWp P nt n0 c Q ρ H := by
 intro f base w0 β fz a w h1 h2 hs
 obtain ⟨x, β', fz', hs'⟩ := he f base w0 β fz a w h2 hs
 exact h x f base w0 β' fz' a w h1 h2 hs'
theorem EntS.of {st : σ → Env × Heap} {s : Env × Heap} (x : σ) (h : Ent n0 (st x) s) : EntS n0 st s := fun f base w0 β fz a w h0 hs => by
 obtain ⟨β', fz', hs'⟩ := h f base w0 β fz a w h0 hs
 exact ⟨x, β', fz', hs'⟩
end
section
variable {nt : Fr} {base : Nat} {w0 : World} {β : Nat → Nat} {fz : Nat → Prop} {ρ : Env} {H : Heap} {a : Act} {w : World} {P : Program} {C : Orc} {ops : Array Oper} {σ : Type}
end
section
variable {P : Program} {C : Orc} {nt n0 : Nat} {ρ : Env} {H : Heap} {σ : Type} {ops : Array Oper}
end
end Go.AI
/- append behind a slice that begins inside its object: in place, or a new object. -/
namespace Go.AI
set_option linter.unusedSimpArgs false
set_option linter.unusedVariables false
open Go.RowKit
section
variable {base : Nat} {w0 : World} {β : Nat → Nat} {fz : Nat → Prop} {e' : AEv} {H : Heap} {a : Act} {w : World} {P : Program} {C : Orc} {o : Oper}
end
section
variable {P : Program} {C : Orc} {nt n0 : Nat} {ρ : Env} {H : Heap} {ops : Array Oper}
end
end Go.AI
/- Code walked statement by statement, up to a place. -/
namespace Go.AI
set_option linter.unusedSimpArgs false
set_option linter.unusedVariables false
inductive Pk where
 | z
 | s (p : Pk)
def splitC : Pk → Code → List Code × Code
 | .s p, .seq x y => (x :: (splitC p y).1, (splitC p y).2)
 | _, c => ([], c)
def seqs : List Code → Code → Code
 | [], c => c
 | x :: l, c => .seq x (seqs l c)
theorem seqs_split (p : Pk) (c : Code) : seqs (splitC p c).1 (splitC p c).2 = c := by
 induction p generalizing c with
 | z => cases c <;> rfl
 | s p ih => cases c <;> simp [splitC, seqs, ih]
def wpL (P : Program) (C : Orc) (nt n0 : Nat) (K : Env → Heap → Prop) (Q : Post) : List Code → Env → Heap → Prop
 | [], ρ, H => K ρ H
 | x :: l, ρ, H => wpX P C nt (LoopK P C nt n0 4) x (thenA (wpL P C nt n0 K Q l) Q) ρ H
section
variable {P : Program} {C : Orc} {nt n0 : Nat} {ρ : Env} {H : Heap}
theorem codeRF_seqs : ∀ {l : List Code} {c : Code}, codeRF C (seqs l c) = true → (∀ x ∈ l, codeRF C x = true) ∧ codeRF C c = true
 | [], c, h => ⟨fun x hx => by simp at hx, h⟩
 | x :: l, c, h => by
  simp only [seqs, codeRF, Bool.and_eq_true] at h
  obtain ⟨h1, h2⟩ := codeRF_seqs h.2
  refine ⟨fun y hy => ?_, h2⟩
  rcases List.mem_cons.1 hy with rfl | hy
  ·exact h.1
  ·exact h1 y hy
theorem wpL_sound (hC : OrcOk P C) (hm : P.follows .mixedOrders = true) {c : Code} {Q : Post} : ∀ (l : List Code) (ρ : Env) (H : Heap), (∀ x ∈ l, codeRF C x = true) → wpL P C nt n0 (AWp P nt n0 c Q) Q l ρ H → AWp P nt n0 (seqs l c) Q ρ H
 | [], ρ, H, _, h => h
 | x :: l, ρ, H, hrf, h => by
  refine AWp.seq (AWp.mono (wpA_sound hC hm x _ _ _ (hrf x (List.mem_cons_self ..)) h) fun e ρ' H' q => ?_)
  cases e with
  | normal => exact wpL_sound hC hm l ρ' H' (fun y hy => hrf y (List.mem_cons_of_mem _ hy)) q
  | _ => exact q
theorem AWp.split (hC : OrcOk P C) (hm : P.follows .mixedOrders = true) {c : Code} {Q : Post} (p : Pk) (hrf : codeRF C c = true) (h : wpL P C nt n0 (AWp P nt n0 (splitC p c).2 Q) Q (splitC p c).1 ρ H) : AWp P nt n0 c Q ρ H := by
 have := seqs_split p c
 rw [← this] at hrf
 have h2 := wpL_sound hC hm _ _ _ (codeRF_seqs hrf).1 h
 rwa [this] at h2
end
end Go.AI
/- Contracts that answer one of several states: heads; a whole object known a little less. -/
namespace Go.AI
set_option linter.unusedSimpArgs false
set_option linter.unusedVariables false
open Go.RowKit
section
variable {P : Program} {f : FuncId} {fn : Func} {code : Code} {σ α₁ α₂ α₃ α₄ α₅ : Type}
theorem Lss.junk {a : AVal} : Lss a .junk := fun _ _ => .junk
end
section
variable {P : Program} {C : Orc} {nt n0 : Nat} {ρ : Env} {H : Heap} {ops : Array Oper} {σ : Type}
end
end Go.AI
/- A call that meets only some objects: the others stay. A contract by choice. -/
namespace Go.AI
set_option linter.unusedSimpArgs false
set_option linter.unusedVariables false
open Go.RowKit
def hideH (K : Nat → Bool) (H : Heap) : Heap := H.mapIdx fun i o => if K i then o else none
def bareO : Option (Nat × List Row) → Option (Nat × List Row)
 | some q => if (q.2.all fun row => row.all bareA) then some q else none
 | none => none
def showH (K : Nat → Bool) (H H' : Heap) : Heap := H'.mapIdx fun i o => match H[i]? with
 | some x => if K i then bareO o else x
 | none => bareO o
def hidF (K : Row → Heap → Nat → Bool) (m : Row → Heap → Option (AVal × Heap)) (args : Row) (H : Heap) : Option (AVal × Heap) :=
 match m args (hideH (K args H) H) with
 | some (r, H') => if bareA r then some (r, showH (K args H) H H') else none
 | none => none
theorem hideH_len {K : Nat → Bool} {H : Heap} : (hideH K H).length = H.length := by simp [hideH]
theorem showH_len {K : Nat → Bool} {H H' : Heap} : (showH K H H').length = H'.length := by simp [showH]
theorem hideH_get {K : Nat → Bool} {H : Heap} {i : Nat} : (hideH K H)[i]? = (H[i]?).map fun o => if K i then o else none := by
 unfold hideH; rw [List.getElem?_mapIdx]
theorem showH_get {K : Nat → Bool} {H H' : Heap} {i : Nat} : (showH K H H')[i]? = (H'[i]?).map fun o => match H[i]? with
 | some x => if K i then bareO o else x
 | none => bareO o := by
 unfold showH; rw [List.getElem?_mapIdx]
theorem hideH_live {K : Nat → Bool} {H : Heap} {i : Nat} {q : Nat × List Row} (h : (hideH K H)[i]? = some (some q)) : K i = true ∧ H[i]? = some (some q) := by
 rw [hideH_get] at h
 cases hi : H[i]? with
 | none => rw [hi] at h; cases h
 | some o =>
  rw [hi] at h
  simp only [Option.map_some, Option.some.injEq] at h
  split at h
  ·rename_i hk; exact ⟨hk, by rw [h]⟩
  ·cases h
theorem hideH_yes {K : Nat → Bool} {H : Heap} {i : Nat} {o : Option (Nat × List Row)} (hk : K i = true) (h : H[i]? = some o) : (hideH K H)[i]? = some o := by
 rw [hideH_get, h]; simp [hk]
theorem hideH_no {K : Nat → Bool} {H : Heap} {i : Nat} (hk : K i = false) (h : i < H.length) : (hideH K H)[i]? = some none := by
 rw [hideH_get, List.getElem?_eq_getElem h]; simp [hk]
theorem bareO_some {o : Option (Nat × List Row)} {q : Nat × List Row} (h : bareO o = some q) : o = some q ∧ (∀ row ∈ q.2, ∀ a ∈ row, bareA a = true) := by
 unfold bareO at h
 split at h
 ·split at h
  ·rename_i hb
   cases h
   refine ⟨rfl, fun row hr a ha => ?_⟩
   rw [List.all_eq_true] at hb
   have := hb row hr
   rw [List.all_eq_true] at this
   exact this a ha
  ·cases h
 ·cases h
theorem bareO_of {q : Nat × List Row} (h : (q.2.all fun row => row.all bareA) = true) : bareO (some q) = some q := by
 unfold bareO; simp only; rw [if_pos h]
theorem showH_live {K : Nat → Bool} {H H' : Heap} {i : Nat} {q : Nat × List Row} (h : (showH K H H')[i]? = some (some q)) :
  (K i = false ∧ H[i]? = some (some q) ∧ i < H'.length) ∨ ((H[i]? = none ∨ K i = true) ∧ H'[i]? = some (some q) ∧ (∀ row ∈ q.2, ∀ a ∈ row, bareA a = true)) := by
 rw [showH_get] at h
 cases hi : H'[i]? with
 | none => rw [hi] at h; cases h
 | some o =>
  rw [hi] at h
  simp only [Option.map_some, Option.some.injEq] at h
  have hlt := (List.getElem?_eq_some_iff.1 hi).1
  cases hj : H[i]? with
  | none =>
   rw [hj] at h
   obtain ⟨rfl, h2⟩ := bareO_some h
   exact .inr ⟨.inl rfl, rfl, h2⟩
  | some x =>
   rw [hj] at h
   simp only at h
   cases hk : K i with
   | true =>
    rw [hk] at h
    obtain ⟨rfl, h2⟩ := bareO_some h
    exact .inr ⟨.inr rfl, rfl, h2⟩
   | false =>
    rw [hk] at h
    simp only [Bool.false_eq_true, if_false] at h
    exact .inl ⟨rfl, by rw [h], hlt⟩
section
variable {base : Nat} {w0 : World} {β : Nat → Nat} {fz : Nat → Prop} {H : Heap} {w : World} {P : Program}
theorem bare_R {n : Nat} {β1 : Nat → Nat} {ok ok2 : Bool → Nat → Prop} : ∀ {a : AVal} {v : Value}, R β1 ok w n a v → bareA a = true → R β1 ok2 w n a v := by
 intro a v h
 induction h with
 | junk => intro _; exact .junk
 | anyb => intro _; exact .anyb
 | v => intro _; exact .v
 | ptr h h0 => intro _; exact .ptr h h0
 | mp h => intro _; exact .mp h
 | fptr x hb hc hr ih => intro hb; simp [bareA] at hb
 | osl h hl hk ha => intro _; exact .osl h hl hk ha
 | xsl h hl ha => intro _; exact .xsl h hl ha
 | @fsl _ _ _ rows _ _ _ x hl hs hb hc hr ih =>
  intro hb
  simp [bareA] at hb
  subst hb
  exact .fsl0
 | fsl0 => intro _; exact .fsl0
 | esl => intro _; exact .esl
 | agg hl hr ih =>
  intro hb
  simp only [bareA, bareC_all] at hb
  exact .agg hl fun j a ha => ih j a ha (List.all_eq_true.1 hb a (List.mem_of_getElem? ha))
 | tup hl hr ih =>
  intro hb
  simp only [bareA, bareC_all] at hb
  exact .tup hl fun j a ha => ih j a ha (List.all_eq_true.1 hb a (List.mem_of_getElem? ha))
 | fn hl hr ih => intro hb; simp [bareA] at hb
 | when h hu ih => intro hb; simp [bareA] at hb
 | ifc h ih => intro hb; simp [bareA] at hb
 | meth => intro hb; simp [bareA] at hb
theorem OSim.bare {n id sz : Nat} {β1 : Nat → Nat} {fz1 fz2 : Nat → Prop} {rows : List Row} (h : OSim base β1 fz1 w n id sz rows) (hb : ∀ row ∈ rows, ∀ a ∈ row, bareA a = true) : OSim base β1 fz2 w n id sz rows := by
 unfold OSim at h ⊢
 split
 ·rename_i h0
  rw [if_pos h0] at h
  rcases h with h | h
  case inr => exact .inr (h.same (fun r hr a ha v hR => bare_R hR (hb r hr a ha)) rfl)
  obtain ⟨rs, hp, es, clock, h1, h2, hbn, h3⟩ := h
  refine .inl ⟨rs, hp, es, clock, h1, h2, hbn, fun i r hi => ?_⟩
  obtain ⟨en, a, g1, g2, g3⟩ := h3 i r hi
  exact ⟨en, a, g1, g2, bare_R g3 (hb r (hp.mem_iff.1 (List.mem_of_getElem? hi)) a (by rw [g2]; simp))⟩
 ·rename_i h0
  rw [if_neg h0] at h
  obtain ⟨cs, e, h1, h2, h3, h4, h5⟩ := h
  exact ⟨cs, e, h1, h2, h3, h4, fun i r hi j a ha => bare_R (h5 i r hi j a ha) (hb r (List.mem_of_getElem? hi) a (List.mem_of_getElem? ha))⟩
theorem hide_end {K : Nat → Bool} {β' : Nat → Nat} {fz1 fz' : Nat → Prop} {H' : Heap} {w' : World} {r : AVal} {v : Value} (hs : HSim base w0 β fz H w) (h1 : ∀ b, fz b → fz1 b) (h2 : ∀ i, Live H i → K i = false → fz1 (β i))
  (hs' : HSim base w0 β' fz' H' w') (k : Ext H.length β fz1 w H'.length β' fz' w') (hR : R β' (okOf base fz') w' H'.length r v) (hr : bareA r = true) :
  HSim base w0 β' fz (showH K H H') w' ∧ Ext H.length β fz w (showH K H H').length β' fz w' ∧ R β' (okOf base fz) w' (showH K H H').length r v := by
 have ext : Ext H.length β fz w (showH K H H').length β' fz w' := ⟨by rw [showH_len]; exact k.hn, k.hβ, fun _ h => h, fun b hb => k.blk b (h1 b hb), k.shape⟩
 refine ⟨⟨?_, ?_, ?_, ?_, hs'.below, hs.base⟩, ext, by rw [showH_len]; exact bare_R hR hr⟩
 ·intro id sz rows hid
  rcases showH_live hid with ⟨hk, ho, _⟩ | ⟨_, ho, hb⟩
  ·have hlt := (List.getElem?_eq_some_iff.1 ho).1
   exact (hs.objs' id sz rows ho).ext ext (by rw [k.hβ id hlt]; exact k.blk _ (h2 id ⟨_, ho⟩ hk))
  ·rw [showH_len]
   exact (hs'.objs' id sz rows ho).bare hb
 ·rintro a b ⟨x, hx⟩ ⟨y, hy⟩ he
  rcases showH_live hx with ⟨ka, ha, _⟩ | ⟨_, ha, _⟩ <;> rcases showH_live hy with ⟨kb, hb, _⟩ | ⟨_, hb, _⟩
  ·rw [k.hβ a (List.getElem?_eq_some_iff.1 ha).1, k.hβ b (List.getElem?_eq_some_iff.1 hb).1] at he
   exact hs.inj a b ⟨_, ha⟩ ⟨_, hb⟩ he
  ·exfalso
   refine (hs'.own b ⟨_, hb⟩).2 ?_
   rw [← he, k.hβ a (List.getElem?_eq_some_iff.1 ha).1]
   exact k.hfz _ (h2 a ⟨_, ha⟩ ka)
  ·exfalso
   refine (hs'.own a ⟨_, ha⟩).2 ?_
   rw [he, k.hβ b (List.getElem?_eq_some_iff.1 hb).1]
   exact k.hfz _ (h2 b ⟨_, hb⟩ kb)
  ·exact hs'.inj a b ⟨_, ha⟩ ⟨_, hb⟩ he
 ·rintro a ⟨x, hx⟩
  rcases showH_live hx with ⟨ka, ha, _⟩ | ⟨_, ha, _⟩
  ·rw [k.hβ a (List.getElem?_eq_some_iff.1 ha).1]
   exact hs.own a ⟨_, ha⟩
  ·exact ⟨(hs'.own a ⟨_, ha⟩).1, fun h => (hs'.own a ⟨_, ha⟩).2 (k.hfz _ (h1 _ h))⟩
 ·intro b hb
  exact hs'.fzlt b (k.hfz b (h1 b hb))
theorem hid_ok {f : FuncId} {K : Row → Heap → Nat → Bool} {m : Row → Heap → Option (AVal × Heap)} (hm : InlOk P f m) : InlOk P f (hidF K m) := by
 intro args H r H2 hr base w0 β fz w vals hs hargs fn hfn
 unfold hidF at hr
 split at hr
 ·rename_i r1 H1 hm1
  split at hr
  ·rename_i hb
   simp only [Option.some.injEq, Prod.mk.injEq] at hr
   obtain ⟨rfl, rfl⟩ := hr
   generalize hK : K args H = k at *
   obtain ⟨fz1, hfz1⟩ : ∃ fz1 : Nat → Prop, fz1 = fun b => fz b ∨ ∃ i, Live H i ∧ k i = false ∧ β i = b := ⟨_, rfl⟩
   have g1 : ∀ b, fz b → fz1 b := fun b h => by rw [hfz1]; exact .inl h
   have g2 : ∀ i, Live H i → k i = false → fz1 (β i) := fun i h1 h2 => by rw [hfz1]; exact .inr ⟨i, h1, h2, rfl⟩
   have e0 : Ext H.length β fz w (hideH k H).length β fz1 w := ⟨by rw [hideH_len]; exact Nat.le_refl _, fun _ _ => rfl, g1, fun _ _ => rfl, Shapes.refl _⟩
   have hs1 : HSim base w0 β fz1 (hideH k H) w := by
    refine ⟨?_, ?_, ?_, ?_, hs.below, hs.base⟩
    ·intro id sz rows h
     exact (hs.objs' id sz rows (hideH_live h).2).ext e0 rfl
    ·rintro a b ⟨x, hx⟩ ⟨y, hy⟩ he
     exact hs.inj a b ⟨_, (hideH_live hx).2⟩ ⟨_, (hideH_live hy).2⟩ he
    ·rintro a ⟨x, hx⟩
     obtain ⟨ka, ha⟩ := hideH_live hx
     refine ⟨(hs.own a ⟨_, ha⟩).1, fun h => ?_⟩
     rw [hfz1] at h
     rcases h with h | ⟨i, hi, hki, he⟩
     ·exact (hs.own a ⟨_, ha⟩).2 h
     ·have := hs.inj i a hi ⟨_, ha⟩ he
      subst this
      rw [ka] at hki; cases hki
    ·intro b hb
     rw [hfz1] at hb
     rcases hb with h | ⟨i, hi, _, rfl⟩
     ·exact hs.fzlt b h
     ·exact hs.blt hi
   have hargs1 : ArgsR β (okOf base fz1) w (hideH k H).length args vals := ⟨hargs.1, fun j a ha => (hargs.2 j a ha).ext e0⟩
   have key : ∀ (e : Ending) (w1 : World), (∃ v β' fz', e = .returned v ∧ HSim base w0 β' fz' H1 w1 ∧ Ext (hideH k H).length β fz1 w H1.length β' fz' w1 ∧ R β' (okOf base fz') w1 H1.length r1 v) →
     ∃ v β' fz', e = .returned v ∧ HSim base w0 β' fz' (showH k H H1) w1 ∧ Ext H.length β fz w (showH k H H1).length β' fz' w1 ∧ R β' (okOf base fz') w1 (showH k H H1).length r1 v := by
    rintro e w1 ⟨v, β1, fz2, he, k1, k2, k3⟩
    rw [hideH_len] at k2
    obtain ⟨q1, q2, q3⟩ := hide_end (K := k) hs g1 g2 k1 k2 k3 hb
    exact ⟨v, β1, fz, he, q1, q2, q3⟩
   obtain ⟨c1, c2⟩ := hm _ _ _ _ hm1 base w0 β fz1 w vals hs1 hargs1 fn hfn
   refine ⟨fun h => (c1 h).mono (fun e w1 => key e w1), fun h => ?_⟩
   obtain ⟨v, w', h1, h2⟩ := c2 h
   exact ⟨v, w', h1, key _ _ h2⟩
  ·cases hr
 ·cases hr
end
noncomputable def chM (P : Program) (fn : Func) (Sp : Row → Heap → AVal → Heap → Prop) (args : Row) (H : Heap) : Option (AVal × Heap) :=
 @dite _ (∃ p : AVal × Heap, (∃ c, fn.body = some c ∧ BodyE P fn c args H p.1 p.2) ∧ Sp args H p.1 p.2) (Classical.propDecidable _) (fun h => some h.choose) fun _ => none
theorem chM_ev {P : Program} {fn : Func} {c : Code} {Sp : Row → Heap → AVal → Heap → Prop} {args : Row} {H : Heap} (hb : fn.body = some c) (h : ∃ r H', BodyE P fn c args H r H' ∧ Sp args H r H') : ∃ r H', chM P fn Sp args H = some (r, H') ∧ Sp args H r H' := by
 obtain ⟨r, H', h1, h2⟩ := h
 have hx : ∃ p : AVal × Heap, (∃ c, fn.body = some c ∧ BodyE P fn c args H p.1 p.2) ∧ Sp args H p.1 p.2 := ⟨(r, H'), ⟨c, hb, h1⟩, h2⟩
 refine ⟨hx.choose.1, hx.choose.2, ?_, hx.choose_spec.2⟩
 unfold chM
 rw [dif_pos hx]
theorem chM_ok {P : Program} {f : FuncId} {fn : Func} {c : Code} (hf : P.funcs[f]? = some fn) (hb : fn.body = some c) {Sp : Row → Heap → AVal → Heap → Prop} : InlOk P f (chM P fn Sp) := by
 refine inl_canonE hf hb fun args H r H' hr => ⟨args, ⟨rfl, fun _ _ x _ hj h => h x hj⟩, ?_⟩
 unfold chM at hr
 split at hr
 ·rename_i hx
  obtain ⟨c', hc, h1⟩ := hx.choose_spec.1
  rw [hb] at hc
  cases hc
  rw [Option.some.inj hr] at h1
  exact h1
 ·cases hr
end Go.AI
