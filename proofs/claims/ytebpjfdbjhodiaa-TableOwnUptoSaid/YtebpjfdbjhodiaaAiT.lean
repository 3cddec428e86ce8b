/- From what the statements say of arguments to what the interpreter knows of them. -/
import Derived.Test.YtebpjfdbjhodiaaAiS
import Derived.ProofKit
import Derived.OpenShut
import Derived.Deep.Slices
namespace Go.AI
set_option linter.unusedSimpArgs false
set_option linter.unusedVariables false
open Go.RowKit Go.ChangeShapes Go.WideShapes Go.ChangeAt Go.Deep

theorem law_calls {P : Program} {f : FuncId} {m : Row → Option AVal} {args : Row} {vals : Array Value} {W : World} (hp : PureOk P f m) (hm : m args = some (.v (.bool true))) (hargs : ArgsR β0 (ok0 W) W 0 args vals) :
    Calls P f vals W fun e W' => e = .returned (.bool true) ∧ RowKit.Below W.heap.size W W' := by
  refine (hp args _ hm W vals hargs).mono ?_
  rintro e w' ⟨v, rfl, hb, hR⟩
  rw [hR.v_inv]
  exact ⟨rfl, hb.kit⟩

theorem ArgsR.nil {W : World} : ArgsR β0 (ok0 W) W 0 [] #[] := ⟨rfl, fun j a h => by simp at h⟩
theorem ArgsR.of {W : World} {args : Row} {vals : List Value} (h : vals.length = args.length) (k : ∀ (j : Nat) (a : AVal), args[j]? = some a → R β0 (ok0 W) W 0 a (vals[j]?.getD undef)) : ArgsR β0 (ok0 W) W 0 args vals.toArray :=
  ⟨by simpa using h, fun j a ha => by simpa using k j a ha⟩

section
variable {H : Type} {enc : TypeId × Value → H} {P : Program} {W : World} {base : Nat} {spare : Nat → Bool} {held : Bool}

/-- a row of a type, read -/
def RdRow {α : Type} (P : Program) (t : TypeId) (c : RCod α) (good : α → Prop) : Prop :=
  ∀ {H : Type} {enc : TypeId × Value → H} {W : World} {base : Nat} {spare : Nat → Bool} {held : Bool} {fuel : Nat} {cs : List Value} {x : DataW H × List MemPlace},
    DataW.trod enc P W base spare held fuel t cs = some x → cs.length = c.sz ∧ (∀ v ∈ cs, v.oneCell' = true) ∧ ∃ e : α, good e ∧ ∀ (j : Nat) (a : AVal), (c.enc e)[j]? = some a → R β0 (ok0 W) W 0 a (cs[j]?.getD undef)

theorem rd_int {t : TypeId} {k : IntKind} {v : Value} {d : DataW H} {p : List MemPlace} (ht : P.underlying t = some (.int k)) (hv : Value.okWide P W .any base t v) (h : DataW.Trod enc P W 0 spare held t v d p) :
    ∃ n : Int, (Lit.int k n).wf = true ∧ v = .int k n := by
  obtain ⟨n, rfl, _, _, hw⟩ := open_int ht hv h
  exact ⟨n, hw, rfl⟩

theorem rd_bool {t : TypeId} {v : Value} {d : DataW H} {p : List MemPlace} (ht : P.underlying t = some .bool) (hv : Value.okWide P W .any base t v) (h : DataW.Trod enc P W 0 spare held t v d p) : ∃ b : Bool, v = .bool b := by
  obtain ⟨b, rfl, _, _⟩ := open_bool ht hv h
  exact ⟨b, rfl⟩

theorem rd_agg {α : Type} {t : TypeId} {fs : Array Field} {c : RCod α} {good : α → Prop} {v : Value} {d : DataW H} {p : List MemPlace} (ht : P.underlying t = some (.struct fs)) (hc : RdRow P t c good) (hv : Value.okWide P W .any base t v) (h : DataW.Trod enc P W 0 spare held t v d p) :
    ∃ e, good e ∧ R β0 (ok0 W) W 0 ((cAgg c).enc e) v := by
  obtain ⟨cs, rfl, _⟩ := okWide_struct ht hv
  obtain ⟨fuel, hf⟩ := h
  obtain ⟨h1, h2, e, he, hR⟩ := hc hf
  refine ⟨e, he, mkAgg_R (by rw [c.len]; simpa [Value.cells] using h1.symm) fun j a ha => ?_⟩
  simpa [Value.cells] using hR j a ha

theorem rd_slv {α : Type} {t e : TypeId} {c : RCod α} {good : α → Prop} {v : Value} (ht : P.underlying t = some (.slice e)) (hsz : P.cellsOf e = c.sz) (h0 : 0 < c.sz) (hc : RdRow P e c good) (hv : ∃ a l k, v = .slice a l k) {bs : Nat} {fuel : Nat} {dx : DataW H × List MemPlace}
    (hf : DataW.trod enc P W bs spare held fuel t v.cells.toList = some dx) : ∃ l : List α, l.length ≤ maxLen ∧ (∀ x ∈ l, good x) ∧ R β0 (ok0 W) W 0 ((cSl c).enc l) v := by
  obtain ⟨a0, len0, cap0, rfl⟩ := hv
  rcases open_slice ht hf with ⟨hcs, _⟩ | ⟨a, len, cap, m, n, D, Pl, hcs, _, hl, hm, hmm, _, hi⟩
  · simp [Value.cells] at hcs
    obtain ⟨rfl, rfl, rfl⟩ := hcs
    exact ⟨[], by simp, by simp, .fsl0⟩
  · simp [Value.cells] at hcs
    obtain ⟨rfl, rfl, rfl⟩ := hcs
    rw [hsz] at hi
    have hml : len0 ≤ m := by rw [hmm]; split <;> omega
    -- the elements, one by one
    have hex : ∀ i, i < len0 → ∃ x : α, good x ∧ ∃ cs : List Value, cs.length = c.sz ∧ (∀ v ∈ cs, v.oneCell' = true) ∧ (∀ j, j < c.sz → W.cell? (a.add (i * c.sz + j)) = cs[j]?) ∧ ∀ (j : Nat) (b : AVal), (c.enc x)[j]? = some b → R β0 (ok0 W) W 0 b (cs[j]?.getD undef) := by
      intro i hil
      obtain ⟨cs', hc1, hc2⟩ := hi i (by omega)
      obtain ⟨g1, g2, x, hx, hR⟩ := hc hc2
      obtain ⟨_, hcl, hat⟩ := World.cells?_some hc1
      refine ⟨x, hx, cs', g1, g2, fun j hj => ?_, hR⟩
      have := hat j (by omega)
      rwa [Go.Deep.add_add] at this
    have hlist : ∃ l : List α, l.length = len0 ∧ ∀ i x, l[i]? = some x → good x ∧ ∃ cs : List Value, cs.length = c.sz ∧ (∀ v ∈ cs, v.oneCell' = true) ∧ (∀ j, j < c.sz → W.cell? (a.add (i * c.sz + j)) = cs[j]?) ∧ ∀ (j : Nat) (b : AVal), (c.enc x)[j]? = some b → R β0 (ok0 W) W 0 b (cs[j]?.getD undef) := by
      have : ∀ k, k ≤ len0 → ∃ l : List α, l.length = k ∧ ∀ i x, l[i]? = some x → good x ∧ ∃ cs : List Value, cs.length = c.sz ∧ (∀ v ∈ cs, v.oneCell' = true) ∧ (∀ j, j < c.sz → W.cell? (a.add (i * c.sz + j)) = cs[j]?) ∧ ∀ (j : Nat) (b : AVal), (c.enc x)[j]? = some b → R β0 (ok0 W) W 0 b (cs[j]?.getD undef) := by
        intro k
        induction k with
        | zero => intro _; exact ⟨[], rfl, fun i x h => by simp at h⟩
        | succ k ih =>
          intro hk
          obtain ⟨l, hl1, hl2⟩ := ih (by omega)
          obtain ⟨x, hx, cs, q⟩ := hex k (by omega)
          refine ⟨l ++ [x], by simp [hl1], fun i y hy => ?_⟩
          rw [List.getElem?_append] at hy
          split at hy
          · exact hl2 i y hy
          · rename_i hge
            have h00 : i - l.length = 0 := by
              by_cases h00 : i - l.length = 0
              · exact h00
              · simp [h00] at hy
            rw [h00] at hy
            simp at hy
            subst hy
            have : i = k := by omega
            subst this
            exact ⟨hx, cs, q⟩
      exact this len0 (Nat.le_refl _)
    obtain ⟨l, hl1, hl2⟩ := hlist
    refine ⟨l, by omega, fun x hx => ?_, ?_⟩
    · obtain ⟨i, hi⟩ := List.getElem?_of_mem hx
      exact (hl2 i x hi).1
    · by_cases hl0 : len0 = 0
      · have : l = [] := List.length_eq_zero_iff.1 (by omega)
        subst this
        subst hl0
        exact .fsl0
      · obtain ⟨b, off, spot⟩ := a
        have h1 := hl2 0 l[0] (by simp)
        obtain ⟨_, cs0, k1, k2, k3, k4⟩ := h1
        have hcell := k3 0 h0
        have hc0 : cs0[0]? = some (cs0[0]'(by omega)) := List.getElem?_eq_getElem (by omega)
        rw [hc0] at hcell
        have hspot : spot = none := by simpa [Addr.add] using World.cell?_spot hcell
        subst hspot
        have hblk : b < W.heap.size := by
          rw [Nat.zero_mul, Nat.zero_add, add_none] at hcell
          by_cases hb : b < W.heap.size
          · exact hb
          · simp [World.cell?, Array.getElem?_eq_none (Nat.le_of_not_lt hb)] at hcell
        have := R.fsl (β := β0) (ok := ok0 W) (w := W) (n := 0) (o := false) (sz := c.sz) (rows := l.map c.enc) (b := b) (off := off) (cap := cap0)
          (fun i j => (W.cell? ⟨b, off + i * c.sz + j, none⟩).getD undef) (by simp; omega)
          (fun r hr => by
            simp only [List.mem_map] at hr
            obtain ⟨y, _, rfl⟩ := hr
            exact c.len y) (fun _ => ⟨hblk, fun h => by cases h⟩)
          (fun i j hi hj => by
            have hil : i < l.length := by simpa using hi
            obtain ⟨_, cs, q1, q2, q3, q4⟩ := hl2 i l[i] (List.getElem?_eq_getElem hil)
            have := q3 j hj
            rw [add_none, ← Nat.add_assoc] at this
            have hcj : cs[j]? = some (cs[j]'(by omega)) := List.getElem?_eq_getElem (by omega)
            rw [hcj] at this
            rw [this]
            exact ⟨rfl, q2 _ (List.getElem_mem _)⟩)
          (fun i r hi j b' hj => by
            simp only [List.getElem?_map, Option.map_eq_some_iff] at hi
            obtain ⟨y, hy, rfl⟩ := hi
            obtain ⟨_, cs, q1, q2, q3, q4⟩ := hl2 i y hy
            have hjl : j < c.sz := by
              have := (List.getElem?_eq_some_iff.1 hj).1
              rwa [c.len] at this
            have e1 := q3 j hjl
            rw [add_none, ← Nat.add_assoc] at e1
            rw [e1]
            exact q4 j b' hj)
        simpa [cSl, hl1] using this
theorem rd_sl {α : Type} {t e : TypeId} {c : RCod α} {good : α → Prop} {v : Value} {d : DataW H} {p : List MemPlace} (ht : P.underlying t = some (.slice e)) (hsz : P.cellsOf e = c.sz) (h0 : 0 < c.sz) (hc : RdRow P e c good) (hv : Value.okWide P W .any base t v)
    (h : DataW.Trod enc P W 0 spare held t v d p) : ∃ l : List α, l.length ≤ maxLen ∧ (∀ x ∈ l, good x) ∧ R β0 (ok0 W) W 0 ((cSl c).enc l) v := by
  obtain ⟨fuel, hf⟩ := h
  exact rd_slv ht hsz h0 hc (okWide_slice ht hv) hf
end
end Go.AI
