/- From what the statements say of arguments to what the interpreter knows of them. -/
import Derived.Test.YtdakclpneghkmaaGreatDoorL09
import Derived.ProofKit
import Derived.OpenShut
import Derived.Deep.Slices
import Derived.Test.YtdakclpneghkmaaGreatDoorL10
namespace Go.AI
set_option linter.unusedSimpArgs false
set_option linter.unusedVariables false
open Go.RowKit Go.ChangeShapes Go.WideShapes Go.ChangeAt Go.Deep
theorem law_calls {P : Program} {f : FuncId} {m : Row → Option AVal} {args : Row} {vals : Array Value} {W : World} (hp : PureOk P f m) (hm : m args = some (.v (.bool true))) (hargs : ArgsR β0 (ok0 W) W 0 args vals) :
    Calls P f vals W fun e W' => e = .returned (.bool true) ∧ RowKit.Below W.heap.size W W' := by
  refine (hp args _ hm W vals hargs).mono ?_
  rintro e w' ⟨v, rfl, hb, hR⟩
  rw [hR.v_inv]
  exact ⟨rfl, hb.kit⟩
theorem ArgsR.nil {W : World} : ArgsR β0 (ok0 W) W 0 [] #[] := ⟨rfl, fun j a h => by simp at h⟩
theorem ArgsR.of {W : World} {args : Row} {vals : List Value} (h : vals.length = args.length) (k : ∀ (j : Nat) (a : AVal), args[j]? = some a → R β0 (ok0 W) W 0 a (vals[j]?.getD undef)) : ArgsR β0 (ok0 W) W 0 args vals.toArray :=
  ⟨by simpa using h, fun j a ha => by simpa using k j a ha⟩
section
variable {H : Type} {enc : TypeId × Value → H} {P : Program} {W : World} {base : Nat} {spare : Nat → Bool} {held : Bool}
/-- a row of a type, read -/
def RdRow {α : Type} (P : Program) (t : TypeId) (c : RCod α) (good : α → Prop) : Prop :=
  ∀ {H : Type} {enc : TypeId × Value → H} {W : World} {base : Nat} {spare : Nat → Bool} {held : Bool} {fuel : Nat} {cs : List Value} {x : DataW H × List MemPlace},
    DataW.trod enc P W base spare held fuel t cs = some x → cs.length = c.sz ∧ (∀ v ∈ cs, v.oneCell' = true) ∧ ∃ e : α, good e ∧ ∀ (j : Nat) (a : AVal), (c.enc e)[j]? = some a → R β0 (ok0 W) W 0 a (cs[j]?.getD undef)
theorem rd_slv {α : Type} {t e : TypeId} {c : RCod α} {good : α → Prop} {v : Value} (ht : P.underlying t = some (.slice e)) (hsz : P.cellsOf e = c.sz) (h0 : 0 < c.sz) (hc : RdRow P e c good) (hv : ∃ a l k, v = .slice a l k) {bs : Nat} {fuel : Nat} {dx : DataW H × List MemPlace}
    (hf : DataW.trod enc P W bs spare held fuel t v.cells.toList = some dx) : ∃ l : List α, l.length ≤ maxLen ∧ (∀ x ∈ l, good x) ∧ R β0 (ok0 W) W 0 ((cSl c).enc l) v := by
  obtain ⟨a0, len0, cap0, rfl⟩ := hv
  rcases open_slice ht hf with ⟨hcs, _⟩ | ⟨a, len, cap, m, n, D, Pl, hcs, _, hl, hm, hmm, _, hi⟩
  · simp [Value.cells] at hcs
    obtain ⟨rfl, rfl, rfl⟩ := hcs
    exact ⟨[], by simp, by simp, .fsl0⟩
  · simp [Value.cells] at hcs
    obtain ⟨rfl, rfl, rfl⟩ := hcs
    rw [hsz] at hi
    have hml : len0 ≤ m := by rw [hmm]; split <;> omega
    -- the elements, one by one
    have hex : ∀ i, i < len0 → ∃ x : α, good x ∧ ∃ cs : List Value, cs.length = c.sz ∧ (∀ v ∈ cs, v.oneCell' = true) ∧ (∀ j, j < c.sz → W.cell? (a.add (i * c.sz + j)) = cs[j]?) ∧ ∀ (j : Nat) (b : AVal), (c.enc x)[j]? = some b → R β0 (ok0 W) W 0 b (cs[j]?.getD undef) := by
      intro i hil
      obtain ⟨cs', hc1, hc2⟩ := hi i (by omega)
      obtain ⟨g1, g2, x, hx, hR⟩ := hc hc2
      obtain ⟨_, hcl, hat⟩ := World.cells?_some hc1
      refine ⟨x, hx, cs', g1, g2, fun j hj => ?_, hR⟩
      have := hat j (by omega)
      rwa [Go.Deep.add_add] at this
    have hlist : ∃ l : List α, l.length = len0 ∧ ∀ i x, l[i]? = some x → good x ∧ ∃ cs : List Value, cs.length = c.sz ∧ (∀ v ∈ cs, v.oneCell' = true) ∧ (∀ j, j < c.sz → W.cell? (a.add (i * c.sz + j)) = cs[j]?) ∧ ∀ (j : Nat) (b : AVal), (c.enc x)[j]? = some b → R β0 (ok0 W) W 0 b (cs[j]?.getD undef) := by
      have : ∀ k, k ≤ len0 → ∃ l : List α, l.length = k ∧ ∀ i x, l[i]? = some x → good x ∧ ∃ cs : List Value, cs.length = c.sz ∧ (∀ v ∈ cs, v.oneCell' = true) ∧ (∀ j, j < c.sz → W.cell? (a.add (i * c.sz + j)) = cs[j]?) ∧ ∀ (j : Nat) (b : AVal), (c.enc x)[j]? = some b → R β0 (ok0 W) W 0 b (cs[j]?.getD undef) := by
        intro k
        induction k with
        | zero => intro _; exact ⟨[], rfl, fun i x h => by simp at h⟩
        | succ k ih =>
          intro hk
          obtain ⟨l, hl1, hl2⟩ := ih (by omega)
          obtain ⟨x, hx, cs, q⟩ := hex k (by omega)
          refine ⟨l ++ [x], by simp [hl1], fun i y hy => ?_⟩
          rw [List.getElem?_append] at hy
          split at hy
          · exact hl2 i y hy
          · rename_i hge
            have h00 : i - l.length = 0 := by
              by_cases h00 : i - l.length = 0
              · exact h00
              · simp [h00] at hy
            rw [h00] at hy
            simp at hy
            subst hy
            have : i = k := by omega
            subst this
            exact ⟨hx, cs, q⟩
      exact this len0 (Nat.le_refl _)
    obtain ⟨l, hl1, hl2⟩ := hlist
    refine ⟨l, by omega, fun x hx => ?_, ?_⟩
    · obtain ⟨i, hi⟩ := List.getElem?_of_mem hx
      exact (hl2 i x hi).1
    · by_cases hl0 : len0 = 0
      · have : l = [] := List.length_eq_zero_iff.1 (by omega)
        subst this
        subst hl0
        exact .fsl0
      · obtain ⟨b, off, spot⟩ := a
        have h1 := hl2 0 l[0] (by simp)
        obtain ⟨_, cs0, k1, k2, k3, k4⟩ := h1
        have hcell := k3 0 h0
        have hc0 : cs0[0]? = some (cs0[0]'(by omega)) := List.getElem?_eq_getElem (by omega)
        rw [hc0] at hcell
        have hspot : spot = none := by simpa [Addr.add] using World.cell?_spot hcell
        subst hspot
        have hblk : b < W.heap.size := by
          rw [Nat.zero_mul, Nat.zero_add, add_none] at hcell
          by_cases hb : b < W.heap.size
          · exact hb
          · simp [World.cell?, Array.getElem?_eq_none (Nat.le_of_not_lt hb)] at hcell
        have := R.fsl (β := β0) (ok := ok0 W) (w := W) (n := 0) (o := false) (sz := c.sz) (rows := l.map c.enc) (b := b) (off := off) (cap := cap0)
          (fun i j => (W.cell? ⟨b, off + i * c.sz + j, none⟩).getD undef) (by simp; omega)
          (fun r hr => by
            simp only [List.mem_map] at hr
            obtain ⟨y, _, rfl⟩ := hr
            exact c.len y) (fun _ => ⟨hblk, fun h => by cases h⟩)
          (fun i j hi hj => by
            have hil : i < l.length := by simpa using hi
            obtain ⟨_, cs, q1, q2, q3, q4⟩ := hl2 i l[i] (List.getElem?_eq_getElem hil)
            have := q3 j hj
            rw [add_none, ← Nat.add_assoc] at this
            have hcj : cs[j]? = some (cs[j]'(by omega)) := List.getElem?_eq_getElem (by omega)
            rw [hcj] at this
            rw [this]
            exact ⟨rfl, q2 _ (List.getElem_mem _)⟩)
          (fun i r hi j b' hj => by
            simp only [List.getElem?_map, Option.map_eq_some_iff] at hi
            obtain ⟨y, hy, rfl⟩ := hi
            obtain ⟨_, cs, q1, q2, q3, q4⟩ := hl2 i y hy
            have hjl : j < c.sz := by
              have := (List.getElem?_eq_some_iff.1 hj).1
              rwa [c.len] at this
            have e1 := q3 j hjl
            rw [add_none, ← Nat.add_assoc] at e1
            rw [e1]
            exact q4 j b' hj)
        simpa [cSl, hl1] using this
theorem rd_sl {α : Type} {t e : TypeId} {c : RCod α} {good : α → Prop} {v : Value} {d : DataW H} {p : List MemPlace} (ht : P.underlying t = some (.slice e)) (hsz : P.cellsOf e = c.sz) (h0 : 0 < c.sz) (hc : RdRow P e c good) (hv : Value.okWide P W .any base t v)
    (h : DataW.Trod enc P W 0 spare held t v d p) : ∃ l : List α, l.length ≤ maxLen ∧ (∀ x ∈ l, good x) ∧ R β0 (ok0 W) W 0 ((cSl c).enc l) v := by
  obtain ⟨fuel, hf⟩ := h
  exact rd_slv ht hsz h0 hc (okWide_slice ht hv) hf
end
end Go.AI
/- slices.Replace, of one element by some; slices.overlaps the other way round. -/
set_option linter.unusedSimpArgs false
set_option linter.unusedVariables false
namespace Go.AI
open Go.RowKit
section
variable {base : Nat} {w0 : World} {β : Nat → Nat} {fz : Nat → Prop} {H : Heap} {w : World} {P : Program}
/-- slices.overlaps of two objects of one's own: no -/
def ovlJ : Row → Heap → Option (AVal × Heap)
  | [.xsl a sza _ la _, .osl b szb _ lb _], H => if a ≠ b ∧ 0 < la ∧ 0 < lb ∧ 0 < sza ∧ 0 < szb ∧ (obj H a).isSome = true ∧ (obj H b).isSome = true then some (.v (.bool false), H) else none
  | _, _ => none
/-- slices.Replace, of one element by some -/
def replaceI (sz : Nat) : Row → Heap → Option (AVal × Heap)
  | [.osl id sz1 0 n kc, .v (.int .i64 i), .v (.int .i64 j), .v (.slice none 0 0)], H =>
    match obj H id with
    | some (sz3, rows) =>
      if sz1 = sz ∧ sz3 = sz ∧ 0 < sz ∧ rows.length = n ∧ kc = n ∧ 0 ≤ i ∧ i < n ∧ j = i + 1 ∧ n ≤ 1048576 then
        some (.osl id sz 0 (n - 1) (n - 1), H.set id (some (sz, rows.eraseIdx i.toNat)))
      else none
    | none => none
  | [.osl id sz1 0 n kc, .v (.int .i64 i), .v (.int .i64 j), .osl vid sz2 0 m kv], H =>
    match obj H id, obj H vid with
    | some (sz3, rows), some (sz4, vr) =>
      if sz1 = sz ∧ sz2 = sz ∧ sz3 = sz ∧ sz4 = sz ∧ 0 < sz ∧ id ≠ vid ∧ rows.length = n ∧ kc = n ∧ vr.length = m ∧ kv = m ∧ 0 < m ∧ 0 ≤ i ∧ i < n ∧ j = i + 1 ∧ n ≤ 1048576 ∧ m ≤ 1048576 then
        some (.osl H.length sz 0 (n - 1 + m) (n - 1 + m), (H.set id none) ++ [some (sz, rows.take i.toNat ++ vr ++ rows.drop (i.toNat + 1))])
      else none
    | _, _ => none
  | _, _ => none
def replaceF : Row → Option (List Nat)
  | [.osl id _ 0 _ _, .v (.int .i64 _), .v (.int .i64 _), .v (.slice none 0 0)] => some [id]
  | [.osl id _ 0 _ _, .v (.int .i64 _), .v (.int .i64 _), .osl vid _ 0 _ _] => some [id, vid]
  | _ => none
end
end Go.AI
/- Arguments read part by part. -/
namespace Go.AI
set_option linter.unusedSimpArgs false
set_option linter.unusedVariables false
open Go.RowKit Go.ChangeShapes Go.WideShapes Go.ChangeAt Go.Deep
/-- one cell -/
def rB : RCod Bool := RCod.plain 1 (fun b => [.v (.bool b)]) (fun r => match r with | [.v (.bool b)] => some b | _ => none) (fun _ => rfl) (fun _ => rfl) (fun r e h => by
  split at h
  · simp at h; subst h; rfl
  · cases h)
def InK (k : IntKind) (n : Int) : Prop := (Lit.int k n).wf = true
theorem rdI {P : Program} {t : TypeId} {k : IntKind} (ht : P.underlying t = some (.int k)) : RdRow P t (rI k) (InK k) := by
  intro H enc W base spare held fuel cs x h
  obtain ⟨n, e, hw⟩ := DataW.trod_int ht h
  subst e
  refine ⟨rfl, by simp [Value.oneCell'], n, hw.2, fun j a ha => ?_⟩
  simp only [rI, RCod.plain, irow] at ha
  match j, ha with
  | 0, ha => simp at ha; subst ha; exact .v
  | j + 1, ha => simp at ha
theorem rdB {P : Program} {t : TypeId} (ht : P.underlying t = some .bool) : RdRow P t rB (fun _ => True) := by
  intro H enc W base spare held fuel cs x h
  obtain ⟨n, e, hw⟩ := DataW.trod_bool ht h
  subst e
  refine ⟨rfl, by simp [Value.oneCell'], n, trivial, fun j a ha => ?_⟩
  simp only [rB, RCod.plain] at ha
  match j, ha with
  | 0, ha => simp at ha; subst ha; exact .v
  | j + 1, ha => simp at ha
/-- a row of cells from a place on -/
def RowsAt (W : World) (cs : List Value) (o : Nat) (r : Row) : Prop := (∀ v ∈ cs.drop o, v.oneCell' = true) ∧ ∀ (j : Nat) (a : AVal), r[j]? = some a → R β0 (ok0 W) W 0 a ((cs.drop o)[j]?.getD undef)
theorem RowsAt.nil {W : World} {cs : List Value} {o : Nat} (h : cs.length ≤ o) : RowsAt W cs o [] := by
  refine ⟨fun v hv => ?_, fun j a ha => by simp at ha⟩
  rw [List.drop_eq_nil_of_le h] at hv
  simp at hv
theorem RowsAt.cons {W : World} {cs : List Value} {o n : Nat} {r s : Row} (h1 : ∀ v ∈ (cs.drop o).take n, v.oneCell' = true) (hl : ((cs.drop o).take n).length = n) (hr : r.length = n)
    (h2 : ∀ (j : Nat) (a : AVal), r[j]? = some a → R β0 (ok0 W) W 0 a (((cs.drop o).take n)[j]?.getD undef)) (h3 : RowsAt W cs (o + n) s) : RowsAt W cs o (r ++ s) := by
  have hd : cs.drop o = (cs.drop o).take n ++ cs.drop (o + n) := by rw [← List.drop_drop, List.take_append_drop]
  constructor
  · intro v hv
    rw [hd] at hv
    rcases List.mem_append.1 hv with h | h
    · exact h1 v h
    · exact h3.1 v h
  · intro j a ha
    rw [hd]
    by_cases hj : j < n
    · rw [List.getElem?_append_left (by omega)] at ha
      rw [List.getElem?_append_left (by omega)]
      exact h2 j a ha
    · rw [List.getElem?_append_right (by omega)] at ha
      rw [List.getElem?_append_right (by omega), hl]
      rw [hr] at ha
      exact h3.2 _ a ha
theorem RowsAt.field {P : Program} {α : Type} {t : TypeId} {c : RCod α} {good : α → Prop} (hc : RdRow P t c good) {H : Type} {enc : TypeId × Value → H} {W : World} {base : Nat} {spare : Nat → Bool} {held : Bool} {fuel : Nat} {cs : List Value} {o n : Nat} {x : DataW H × List MemPlace}
    (hn : P.cellsOf t = n) (h : DataW.trod enc P W base spare held fuel t ((cs.drop o).take (P.cellsOf t)) = some x) : ∃ e, good e ∧ ∀ s, RowsAt W cs (o + n) s → RowsAt W cs o (c.enc e ++ s) := by
  rw [hn] at h
  obtain ⟨h1, h2, e, he, hR⟩ := hc h
  refine ⟨e, he, fun s hs => ?_⟩
  have hle : ((cs.drop o).take n).length ≤ n := by simp; omega
  by_cases hh : ((cs.drop o).take n).length = n
  · exact .cons h2 hh (by rw [c.len, ← h1, hh]) hR hs
  · have hd : cs.drop (o + n) = [] := by
      apply List.drop_eq_nil_of_le
      simp at hh
      omega
    have ht : (cs.drop o).take n = cs.drop o := List.take_of_length_le (by simp at hh ⊢; omega)
    rw [ht] at h1 h2 hR
    refine ⟨h2, fun j a ha => ?_⟩
    by_cases hj : j < (c.enc e).length
    · rw [List.getElem?_append_left hj] at ha
      exact hR j a ha
    · rw [List.getElem?_append_right (by omega)] at ha
      have := hs.2 _ a ha
      rw [hd] at this
      have hx : (cs.drop o)[j]? = none := List.getElem?_eq_none (by rw [h1, ← c.len e]; omega)
      rw [hx]
      simpa using this
end Go.AI
