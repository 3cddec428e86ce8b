/- What is read where the bulk is bounded. -/
import Derived.Test.YtebpjfdbjhodiaaRows
import Derived.Test.YtebpjfdbjhodiaaAiV
import Derived.KernelRfl
import Derived.Deep.Slices
import Derived.ChangeSame
namespace Go.Proofs.Ytebpjfdbjhodiaa
open Go.ChangeShapes Go.WideShapes Go.ChangeAt Go.RowKit Go.AI Go.Deep
set_option linter.unusedSimpArgs false
set_option linter.unusedVariables false
theorem bk_one {H : Type} (d : DataW H) : 1 ≤ Rows.uptoBulk d := by
  cases d with
  | lit l => cases l <;> simp [Rows.uptoBulk]
  | nil => simp [Rows.uptoBulk]
  | ptr d => simp [Rows.uptoBulk]
  | slice elems spare => simp [Rows.uptoBulk]
  | agg parts => simp [Rows.uptoBulk]
  | iface t d => simp [Rows.uptoBulk]
  | map entries => simp [Rows.uptoBulk]
  | held h => simp [Rows.uptoBulk]
theorem bk_len {H : Type} (l : List (DataW H)) : l.length ≤ Rows.uptoBulkAll l := by
  induction l with
  | nil => simp [Rows.uptoBulkAll]
  | cons x r ih => have := bk_one x; simp only [Rows.uptoBulkAll, List.length_cons]; omega
theorem bk_mem {H : Type} {l : List (DataW H)} {d : DataW H} (h : d ∈ l) : Rows.uptoBulk d ≤ Rows.uptoBulkAll l := by
  induction l with
  | nil => simp at h
  | cons x r ih =>
    simp only [Rows.uptoBulkAll]
    rcases List.mem_cons.1 h with rfl | h
    · omega
    · have := ih h; omega
def RdK {α : Type} (P : Program) (t : TypeId) (c : RCod α) (good : α → Prop) : Prop :=
  ∀ {H : Type} {enc : TypeId × Value → H} {W : World} {base : Nat} {spare : Nat → Bool} {held : Bool} {fuel : Nat} {cs : List Value} {x : DataW H × List MemPlace},
    DataW.trod enc P W base spare held fuel t cs = some x → Rows.uptoBulk x.1 ≤ 1048576 → cs.length = c.sz ∧ (∀ v ∈ cs, v.oneCell' = true) ∧ ∃ e : α, good e ∧ ∀ (j : Nat) (a : AVal), (c.enc e)[j]? = some a → R β0 (ok0 W) W 0 a (cs[j]?.getD undef)
theorem RdK.of {α : Type} {P : Program} {t : TypeId} {c : RCod α} {good : α → Prop} (h : RdRow P t c good) : RdK P t c good := fun h1 _ => h h1
theorem RowsAt.fieldK {P : Program} {α : Type} {t : TypeId} {c : RCod α} {good : α → Prop} (hc : RdK P t c good) {H : Type} {enc : TypeId × Value → H} {W : World} {base : Nat} {spare : Nat → Bool} {held : Bool} {fuel : Nat} {cs : List Value} {o n : Nat} {x : DataW H × List MemPlace}
    (hn : P.cellsOf t = n) (h : DataW.trod enc P W base spare held fuel t ((cs.drop o).take (P.cellsOf t)) = some x) (hB : Rows.uptoBulk x.1 ≤ 1048576) : ∃ e, good e ∧ ∀ s, RowsAt W cs (o + n) s → RowsAt W cs o (c.enc e ++ s) := by
  rw [hn] at h
  obtain ⟨h1, h2, e, he, hR⟩ := hc h hB
  refine ⟨e, he, fun s hs => ?_⟩
  have hle : ((cs.drop o).take n).length ≤ n := by simp; omega
  by_cases hh : ((cs.drop o).take n).length = n
  · exact .cons h2 hh (by rw [c.len, ← h1, hh]) hR hs
  · have hd : cs.drop (o + n) = [] := by
      apply List.drop_eq_nil_of_le
      simp at hh
      omega
    have ht : (cs.drop o).take n = cs.drop o := List.take_of_length_le (by simp at hh ⊢; omega)
    rw [ht] at h1 h2 hR
    refine ⟨h2, fun j a ha => ?_⟩
    by_cases hj : j < (c.enc e).length
    · rw [List.getElem?_append_left hj] at ha
      exact hR j a ha
    · rw [List.getElem?_append_right (by omega)] at ha
      have := hs.2 _ a ha
      rw [hd] at this
      have hx : (cs.drop o)[j]? = none := List.getElem?_eq_none (by rw [h1, ← c.len e]; omega)
      rw [hx]
      simpa using this

section
variable {P : Program} {H : Type} {enc : TypeId × Value → H} {W : World} {spare : Nat → Bool} {held : Bool} {base : Nat}
theorem rk_slv {α : Type} {t e : TypeId} {c : RCod α} {good : α → Prop} {v : Value} (ht : P.underlying t = some (.slice e)) (hsz : P.cellsOf e = c.sz) (h0 : 0 < c.sz) (hc : RdK P e c good) (hv : ∃ a l k, v = .slice a l k) {bs : Nat} {fuel : Nat} {dx : DataW H × List MemPlace}
    (hf : DataW.trod enc P W bs spare held fuel t v.cells.toList = some dx) (hB : Rows.uptoBulk dx.1 ≤ 1048576) : ∃ l : List α, l.length ≤ 1048576 ∧ (∀ x ∈ l, good x) ∧ R β0 (ok0 W) W 0 ((cSl c).enc l) v := by
  obtain ⟨a0, len0, cap0, rfl⟩ := hv
  rcases open_slice ht hf with ⟨hcs, _⟩ | ⟨a, len, cap, m, n, D, Pl, hcs, _, hl, hm, hmm, hdx, hi⟩
  · simp [Value.cells] at hcs
    obtain ⟨rfl, rfl, rfl⟩ := hcs
    exact ⟨[], by simp, by simp, .fsl0⟩
  · simp [Value.cells] at hcs
    obtain ⟨rfl, rfl, rfl⟩ := hcs
    rw [hsz] at hi
    have hml : len0 ≤ m := by rw [hmm]; split <;> omega
    subst hdx
    simp only [Rows.uptoBulk] at hB
    have hlB : len0 ≤ 1048576 := by have := bk_len ((List.range len0).map D); simp at this; omega
    have hDB : ∀ i, i < len0 → Rows.uptoBulk (D i) ≤ 1048576 := fun i hi => by have := bk_mem (List.mem_map.2 ⟨i, List.mem_range.2 hi, rfl⟩ : D i ∈ (List.range len0).map D); omega
    -- the elements, one by one
    have hex : ∀ i, i < len0 → ∃ x : α, good x ∧ ∃ cs : List Value, cs.length = c.sz ∧ (∀ v ∈ cs, v.oneCell' = true) ∧ (∀ j, j < c.sz → W.cell? (a.add (i * c.sz + j)) = cs[j]?) ∧ ∀ (j : Nat) (b : AVal), (c.enc x)[j]? = some b → R β0 (ok0 W) W 0 b (cs[j]?.getD undef) := by
      intro i hil
      obtain ⟨cs', hc1, hc2⟩ := hi i (by omega)
      obtain ⟨g1, g2, x, hx, hR⟩ := hc hc2 (hDB i hil)
      obtain ⟨_, hcl, hat⟩ := World.cells?_some hc1
      refine ⟨x, hx, cs', g1, g2, fun j hj => ?_, hR⟩
      have := hat j (by omega)
      rwa [Go.Deep.add_add] at this
    have hlist : ∃ l : List α, l.length = len0 ∧ ∀ i x, l[i]? = some x → good x ∧ ∃ cs : List Value, cs.length = c.sz ∧ (∀ v ∈ cs, v.oneCell' = true) ∧ (∀ j, j < c.sz → W.cell? (a.add (i * c.sz + j)) = cs[j]?) ∧ ∀ (j : Nat) (b : AVal), (c.enc x)[j]? = some b → R β0 (ok0 W) W 0 b (cs[j]?.getD undef) := by
      have : ∀ k, k ≤ len0 → ∃ l : List α, l.length = k ∧ ∀ i x, l[i]? = some x → good x ∧ ∃ cs : List Value, cs.length = c.sz ∧ (∀ v ∈ cs, v.oneCell' = true) ∧ (∀ j, j < c.sz → W.cell? (a.add (i * c.sz + j)) = cs[j]?) ∧ ∀ (j : Nat) (b : AVal), (c.enc x)[j]? = some b → R β0 (ok0 W) W 0 b (cs[j]?.getD undef) := by
        intro k
        induction k with
        | zero => intro _; exact ⟨[], rfl, fun i x h => by simp at h⟩
        | succ k ih =>
          intro hk
          obtain ⟨l, hl1, hl2⟩ := ih (by omega)
          obtain ⟨x, hx, cs, q⟩ := hex k (by omega)
          refine ⟨l ++ [x], by simp [hl1], fun i y hy => ?_⟩
          rw [List.getElem?_append] at hy
          split at hy
          · exact hl2 i y hy
          · rename_i hge
            have h00 : i - l.length = 0 := by
              by_cases h00 : i - l.length = 0
              · exact h00
              · simp [h00] at hy
            rw [h00] at hy
            simp at hy
            subst hy
            have : i = k := by omega
            subst this
            exact ⟨hx, cs, q⟩
      exact this len0 (Nat.le_refl _)
    obtain ⟨l, hl1, hl2⟩ := hlist
    refine ⟨l, by omega, fun x hx => ?_, ?_⟩
    · obtain ⟨i, hi⟩ := List.getElem?_of_mem hx
      exact (hl2 i x hi).1
    · by_cases hl0 : len0 = 0
      · have : l = [] := List.length_eq_zero_iff.1 (by omega)
        subst this
        subst hl0
        exact .fsl0
      · obtain ⟨b, off, spot⟩ := a
        have h1 := hl2 0 l[0] (by simp)
        obtain ⟨_, cs0, k1, k2, k3, k4⟩ := h1
        have hcell := k3 0 h0
        have hc0 : cs0[0]? = some (cs0[0]'(by omega)) := List.getElem?_eq_getElem (by omega)
        rw [hc0] at hcell
        have hspot : spot = none := by simpa [Addr.add] using World.cell?_spot hcell
        subst hspot
        have hblk : b < W.heap.size := by
          rw [Nat.zero_mul, Nat.zero_add, add_none] at hcell
          by_cases hb : b < W.heap.size
          · exact hb
          · simp [World.cell?, Array.getElem?_eq_none (Nat.le_of_not_lt hb)] at hcell
        have := R.fsl (β := β0) (ok := ok0 W) (w := W) (n := 0) (o := false) (sz := c.sz) (rows := l.map c.enc) (b := b) (off := off) (cap := cap0)
          (fun i j => (W.cell? ⟨b, off + i * c.sz + j, none⟩).getD undef) (by simp; omega)
          (fun r hr => by
            simp only [List.mem_map] at hr
            obtain ⟨y, _, rfl⟩ := hr
            exact c.len y) (fun _ => ⟨hblk, fun h => by cases h⟩)
          (fun i j hi hj => by
            have hil : i < l.length := by simpa using hi
            obtain ⟨_, cs, q1, q2, q3, q4⟩ := hl2 i l[i] (List.getElem?_eq_getElem hil)
            have := q3 j hj
            rw [add_none, ← Nat.add_assoc] at this
            have hcj : cs[j]? = some (cs[j]'(by omega)) := List.getElem?_eq_getElem (by omega)
            rw [hcj] at this
            rw [this]
            exact ⟨rfl, q2 _ (List.getElem_mem _)⟩)
          (fun i r hi j b' hj => by
            simp only [List.getElem?_map, Option.map_eq_some_iff] at hi
            obtain ⟨y, hy, rfl⟩ := hi
            obtain ⟨_, cs, q1, q2, q3, q4⟩ := hl2 i y hy
            have hjl : j < c.sz := by
              have := (List.getElem?_eq_some_iff.1 hj).1
              rwa [c.len] at this
            have e1 := q3 j hjl
            rw [add_none, ← Nat.add_assoc] at e1
            rw [e1]
            exact q4 j b' hj)
        simpa [cSl, hl1] using this
theorem rk_agg {α : Type} {t : TypeId} {fs : Array Field} {c : RCod α} {good : α → Prop} {v : Value} {d : DataW H} {p : List MemPlace} (ht : P.underlying t = some (.struct fs)) (hc : RdK P t c good) (hv : Value.okWide P W .any base t v) (h : DataW.Trod enc P W 0 spare held t v d p) (hB : Rows.uptoBulk d ≤ 1048576) :
    ∃ e, good e ∧ R β0 (ok0 W) W 0 ((cAgg c).enc e) v := by
  obtain ⟨cs, rfl, _⟩ := okWide_struct ht hv
  obtain ⟨fuel, hf⟩ := h
  obtain ⟨h1, h2, e, he, hR⟩ := hc hf hB
  refine ⟨e, he, mkAgg_R (by rw [c.len]; simpa [Value.cells] using h1.symm) fun j a ha => ?_⟩
  simpa [Value.cells] using hR j a ha
theorem rk_arr {α : Type} {t e : TypeId} {n : Nat} {c : RCod α} {good : α → Prop} {v : Value} {d : DataW H} {p : List MemPlace} (ht : P.underlying t = some (.array n e)) (hc : RdK P t c good) (hv : ∃ cs, v = .agg cs) (h : DataW.Trod enc P W 0 spare held t v d p) (hB : Rows.uptoBulk d ≤ 1048576) :
    ∃ e, good e ∧ R β0 (ok0 W) W 0 ((cAgg c).enc e) v := by
  obtain ⟨cs, rfl⟩ := hv
  obtain ⟨fuel, hf⟩ := h
  obtain ⟨h1, h2, e, he, hR⟩ := hc hf hB
  refine ⟨e, he, mkAgg_R (by rw [c.len]; simpa [Value.cells] using h1.symm) fun j a ha => ?_⟩
  simpa [Value.cells] using hR j a ha
theorem rk_sl {α : Type} {t e : TypeId} {c : RCod α} {good : α → Prop} {v : Value} {d : DataW H} {p : List MemPlace} (ht : P.underlying t = some (.slice e)) (hsz : P.cellsOf e = c.sz) (h0 : 0 < c.sz) (hc : RdK P e c good) (hv : Value.okWide P W .any base t v)
    (h : DataW.Trod enc P W 0 spare held t v d p) (hB : Rows.uptoBulk d ≤ 1048576) : ∃ l : List α, l.length ≤ 1048576 ∧ (∀ x ∈ l, good x) ∧ R β0 (ok0 W) W 0 ((cSl c).enc l) v := by
  obtain ⟨fuel, hf⟩ := h
  exact rk_slv ht hsz h0 hc (okWide_slice ht hv) hf hB
end
theorem rkS {P : Program} {t e : TypeId} {α : Type} {c : RCod α} {good : α → Prop} (ht : P.underlying t = some (.slice e)) (hsz : P.cellsOf e = c.sz) (h0 : 0 < c.sz) (hc : RdK P e c good) : RdK P t (rS c) (fun l => l.length ≤ 1048576 ∧ ∀ x ∈ l, good x) := by
  intro H enc W base spare held fuel cs x h hB
  have hcs : ∃ a l k, cs = [.slice a l k] := by
    rcases open_slice ht h with ⟨hcs, _⟩ | ⟨a, len, cap, m, n, D, Pl, hcs, _⟩
    · exact ⟨_, _, _, hcs⟩
    · exact ⟨_, _, _, hcs⟩
  obtain ⟨a, l, k, rfl⟩ := hcs
  obtain ⟨xs, h1, h2, h3⟩ := rk_slv (v := .slice a l k) ht hsz h0 hc ⟨a, l, k, rfl⟩ h hB
  refine ⟨rfl, by simp [Value.oneCell'], xs, ⟨h1, h2⟩, fun j b hj => ?_⟩
  cases j with
  | zero => simp [rS, rCell] at hj; subst hj; simpa using h3
  | succ j => simp [rS, rCell] at hj
end Go.Proofs.Ytebpjfdbjhodiaa
