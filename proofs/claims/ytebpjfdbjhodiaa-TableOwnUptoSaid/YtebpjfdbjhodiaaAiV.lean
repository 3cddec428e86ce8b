/- Arguments read part by part. -/
import Derived.Test.YtebpjfdbjhodiaaAiT
import Derived.Test.YtebpjfdbjhodiaaAiU
import Derived.Test.YtebpjfdbjhodiaaAiZa
namespace Go.AI
set_option linter.unusedSimpArgs false
set_option linter.unusedVariables false
open Go.RowKit Go.ChangeShapes Go.WideShapes Go.ChangeAt Go.Deep

/-- one cell -/
def rB : RCod Bool := RCod.plain 1 (fun b => [.v (.bool b)]) (fun r => match r with | [.v (.bool b)] => some b | _ => none) (fun _ => rfl) (fun _ => rfl) (fun r e h => by
  split at h
  · simp at h; subst h; rfl
  · cases h)
def InK (k : IntKind) (n : Int) : Prop := (Lit.int k n).wf = true

theorem rdI {P : Program} {t : TypeId} {k : IntKind} (ht : P.underlying t = some (.int k)) : RdRow P t (rI k) (InK k) := by
  intro H enc W base spare held fuel cs x h
  obtain ⟨n, e, hw⟩ := DataW.trod_int ht h
  subst e
  refine ⟨rfl, by simp [Value.oneCell'], n, hw.2, fun j a ha => ?_⟩
  simp only [rI, RCod.plain, irow] at ha
  match j, ha with
  | 0, ha => simp at ha; subst ha; exact .v
  | j + 1, ha => simp at ha
theorem rdB {P : Program} {t : TypeId} (ht : P.underlying t = some .bool) : RdRow P t rB (fun _ => True) := by
  intro H enc W base spare held fuel cs x h
  obtain ⟨n, e, hw⟩ := DataW.trod_bool ht h
  subst e
  refine ⟨rfl, by simp [Value.oneCell'], n, trivial, fun j a ha => ?_⟩
  simp only [rB, RCod.plain] at ha
  match j, ha with
  | 0, ha => simp at ha; subst ha; exact .v
  | j + 1, ha => simp at ha

/-- a row of cells from a place on -/
def RowsAt (W : World) (cs : List Value) (o : Nat) (r : Row) : Prop := (∀ v ∈ cs.drop o, v.oneCell' = true) ∧ ∀ (j : Nat) (a : AVal), r[j]? = some a → R β0 (ok0 W) W 0 a ((cs.drop o)[j]?.getD undef)
theorem RowsAt.nil {W : World} {cs : List Value} {o : Nat} (h : cs.length ≤ o) : RowsAt W cs o [] := by
  refine ⟨fun v hv => ?_, fun j a ha => by simp at ha⟩
  rw [List.drop_eq_nil_of_le h] at hv
  simp at hv
theorem RowsAt.cons {W : World} {cs : List Value} {o n : Nat} {r s : Row} (h1 : ∀ v ∈ (cs.drop o).take n, v.oneCell' = true) (hl : ((cs.drop o).take n).length = n) (hr : r.length = n)
    (h2 : ∀ (j : Nat) (a : AVal), r[j]? = some a → R β0 (ok0 W) W 0 a (((cs.drop o).take n)[j]?.getD undef)) (h3 : RowsAt W cs (o + n) s) : RowsAt W cs o (r ++ s) := by
  have hd : cs.drop o = (cs.drop o).take n ++ cs.drop (o + n) := by rw [← List.drop_drop, List.take_append_drop]
  constructor
  · intro v hv
    rw [hd] at hv
    rcases List.mem_append.1 hv with h | h
    · exact h1 v h
    · exact h3.1 v h
  · intro j a ha
    rw [hd]
    by_cases hj : j < n
    · rw [List.getElem?_append_left (by omega)] at ha
      rw [List.getElem?_append_left (by omega)]
      exact h2 j a ha
    · rw [List.getElem?_append_right (by omega)] at ha
      rw [List.getElem?_append_right (by omega), hl]
      rw [hr] at ha
      exact h3.2 _ a ha
theorem RowsAt.field {P : Program} {α : Type} {t : TypeId} {c : RCod α} {good : α → Prop} (hc : RdRow P t c good) {H : Type} {enc : TypeId × Value → H} {W : World} {base : Nat} {spare : Nat → Bool} {held : Bool} {fuel : Nat} {cs : List Value} {o n : Nat} {x : DataW H × List MemPlace}
    (hn : P.cellsOf t = n) (h : DataW.trod enc P W base spare held fuel t ((cs.drop o).take (P.cellsOf t)) = some x) : ∃ e, good e ∧ ∀ s, RowsAt W cs (o + n) s → RowsAt W cs o (c.enc e ++ s) := by
  rw [hn] at h
  obtain ⟨h1, h2, e, he, hR⟩ := hc h
  refine ⟨e, he, fun s hs => ?_⟩
  have hle : ((cs.drop o).take n).length ≤ n := by simp; omega
  by_cases hh : ((cs.drop o).take n).length = n
  · exact .cons h2 hh (by rw [c.len, ← h1, hh]) hR hs
  · have hd : cs.drop (o + n) = [] := by
      apply List.drop_eq_nil_of_le
      simp at hh
      omega
    have ht : (cs.drop o).take n = cs.drop o := List.take_of_length_le (by simp at hh ⊢; omega)
    rw [ht] at h1 h2 hR
    refine ⟨h2, fun j a ha => ?_⟩
    by_cases hj : j < (c.enc e).length
    · rw [List.getElem?_append_left hj] at ha
      exact hR j a ha
    · rw [List.getElem?_append_right (by omega)] at ha
      have := hs.2 _ a ha
      rw [hd] at this
      have hx : (cs.drop o)[j]? = none := List.getElem?_eq_none (by rw [h1, ← c.len e]; omega)
      rw [hx]
      simpa using this

theorem okWide_arrA {P : Program} {W : World} {base n : Nat} {t e : TypeId} {v : Value} (ht : P.underlying t = some (.array n e)) (h : Value.okWide P W .any base t v) : ∃ cs, v = .agg cs ∧ cs.size = P.cellsOf t := by
  simp only [Value.okWide, ht] at h
  obtain ⟨cs, h1, h2, _⟩ := h
  exact ⟨cs, h1, h2⟩
theorem rd_arr {H : Type} {enc : TypeId × Value → H} {P : Program} {W : World} {base : Nat} {spare : Nat → Bool} {held : Bool} {α : Type} {t e : TypeId} {n : Nat} {c : RCod α} {good : α → Prop} {v : Value} {d : DataW H} {p : List MemPlace} (ht : P.underlying t = some (.array n e)) (hc : RdRow P t c good) (hv : Value.okWide P W .any base t v) (h : DataW.Trod enc P W 0 spare held t v d p) :
    ∃ e, good e ∧ R β0 (ok0 W) W 0 ((cAgg c).enc e) v := by
  obtain ⟨cs, rfl, _⟩ := okWide_arrA ht hv
  obtain ⟨fuel, hf⟩ := h
  obtain ⟨h1, h2, e, he, hR⟩ := hc hf
  refine ⟨e, he, mkAgg_R (by rw [c.len]; simpa [Value.cells] using h1.symm) fun j a ha => ?_⟩
  simpa [Value.cells] using hR j a ha
/-- a slice inside -/
def rS {α : Type} (c : RCod α) : RCod (List α) := rCell (cSl c)
theorem rdS {P : Program} {t e : TypeId} {α : Type} {c : RCod α} {good : α → Prop} (ht : P.underlying t = some (.slice e)) (hsz : P.cellsOf e = c.sz) (h0 : 0 < c.sz) (hc : RdRow P e c good) : RdRow P t (rS c) (fun l => l.length ≤ maxLen ∧ ∀ x ∈ l, good x) := by
  intro H enc W base spare held fuel cs x h
  have hcs : ∃ a l k, cs = [.slice a l k] := by
    rcases open_slice ht h with ⟨hcs, _⟩ | ⟨a, len, cap, m, n, D, Pl, hcs, _⟩
    · exact ⟨_, _, _, hcs⟩
    · exact ⟨_, _, _, hcs⟩
  obtain ⟨a, l, k, rfl⟩ := hcs
  obtain ⟨xs, h1, h2, h3⟩ := rd_slv (v := .slice a l k) ht hsz h0 hc ⟨a, l, k, rfl⟩ h
  refine ⟨rfl, by simp [Value.oneCell'], xs, ⟨h1, h2⟩, fun j b hj => ?_⟩
  cases j with
  | zero => simp [rS, rCell] at hj; subst hj; simpa using h3
  | succ j => simp [rS, rCell] at hj
end Go.AI
