/- From what the statements say of arguments to what the interpreter knows of them. -/
import Derived.Test.YtdakclpneghkmaaGreatDoorL09
import Derived.ProofKit
import Derived.OpenShut
import Derived.Deep.Slices
import Derived.Test.YtdakclpneghkmaaGreatDoorL10
namespace Go.AI
set_option linter.unusedSectionVars false
variable [Sym]
set_option linter.unusedSimpArgs false
set_option linter.unusedVariables false
open Go.RowKit Go.ChangeShapes Go.WideShapes Go.ChangeAt Go.Deep
theorem law_calls {P : Program} {f : FuncId} {m : Row → Option AVal} {args : Row} {vals : Array Value} {W : World} (hp : PureOk P f m) (hm : m args = some (.v (.bool true))) (hargs : ArgsR β0 (ok0 W) W 0 args vals) :
  Calls P f vals W fun e W' => e = .returned (.bool true) ∧ RowKit.Below W.heap.size W W' := by
 refine (hp args _ hm W vals hargs).mono ?_
 rintro e w' ⟨v, rfl, hb, hR⟩
 rw [hR.v_inv]
 exact ⟨rfl, hb.kit⟩
theorem ArgsR.nil {W : World} : ArgsR β0 (ok0 W) W 0 [] #[] := ⟨rfl, fun j a h => by simp at h⟩
theorem ArgsR.of {W : World} {args : Row} {vals : List Value} (h : vals.length = args.length) (k : ∀ (j : Nat) (a : AVal), args[j]? = some a → R β0 (ok0 W) W 0 a (vals[j]?.getD undef)) : ArgsR β0 (ok0 W) W 0 args vals.toArray :=
 ⟨by simpa using h, fun j a ha => by simpa using k j a ha⟩
section
variable {H : Type} {enc : TypeId × Value → H} {P : Program} {W : World} {base : Nat} {spare : Nat → Bool} {held : Bool}
def RdRow {α : Type} (P : Program) (t : TypeId) (c : RCod α) (good : α → Prop) : Prop :=
 ∀ {H : Type} {enc : TypeId × Value → H} {W : World} {base : Nat} {spare : Nat → Bool} {held : Bool} {fuel : Nat} {cs : List Value} {x : DataW H × List MemPlace},
  DataW.trod enc P W base spare held fuel t cs = some x → cs.length = c.sz ∧ (∀ v ∈ cs, v.oneCell' = true) ∧ ∃ e : α, good e ∧ ∀ (j : Nat) (a : AVal), (c.enc e)[j]? = some a → R β0 (ok0 W) W 0 a (cs[j]?.getD undef)
end
end Go.AI
/- slices.Replace, of one element by some; slices.overlaps the other way round. -/
set_option linter.unusedSimpArgs false
set_option linter.unusedVariables false
namespace Go.AI
set_option linter.unusedSectionVars false
variable [Sym]
open Go.RowKit
section
variable {base : Nat} {w0 : World} {β : Nat → Nat} {fz : Nat → Prop} {H : Heap} {w : World} {P : Program}
def ovlJ : Row → Heap → Option (AVal × Heap)
 | [.xsl a sza _ la _, .osl b szb _ lb _], H => if a ≠ b ∧ 0 < la ∧ 0 < lb ∧ 0 < sza ∧ 0 < szb ∧ (obj H a).isSome = true ∧ (obj H b).isSome = true then some (.v (.bool false), H) else none
 | _, _ => none
def replaceI (sz : Nat) : Row → Heap → Option (AVal × Heap)
 | [.osl id sz1 0 n kc, .v (.int .i64 i), .v (.int .i64 j), .v (.slice none 0 0)], H =>
  match obj H id with
  | some (sz3, rows) =>
   if sz1 = sz ∧ sz3 = sz ∧ 0 < sz ∧ rows.length = n ∧ kc = n ∧ 0 ≤ i ∧ i < n ∧ j = i + 1 ∧ n ≤ 1048576 then
    some (.osl id sz 0 (n - 1) (n - 1), H.set id (some (sz, rows.eraseIdx i.toNat)))
   else none
  | none => none
 | [.osl id sz1 0 n kc, .v (.int .i64 i), .v (.int .i64 j), .osl vid sz2 0 m kv], H =>
  match obj H id, obj H vid with
  | some (sz3, rows), some (sz4, vr) =>
   if sz1 = sz ∧ sz2 = sz ∧ sz3 = sz ∧ sz4 = sz ∧ 0 < sz ∧ id ≠ vid ∧ rows.length = n ∧ kc = n ∧ vr.length = m ∧ kv = m ∧ 0 < m ∧ 0 ≤ i ∧ i < n ∧ j = i + 1 ∧ n ≤ 1048576 ∧ m ≤ 1048576 then
    some (.osl H.length sz 0 (n - 1 + m) (n - 1 + m), (H.set id none) ++ [some (sz, rows.take i.toNat ++ vr ++ rows.drop (i.toNat + 1))])
   else none
  | _, _ => none
 | _, _ => none
def replaceF : Row → Option (List Nat)
 | [.osl id _ 0 _ _, .v (.int .i64 _), .v (.int .i64 _), .v (.slice none 0 0)] => some [id]
 | [.osl id _ 0 _ _, .v (.int .i64 _), .v (.int .i64 _), .osl vid _ 0 _ _] => some [id, vid]
 | _ => none
end
end Go.AI
/- Arguments read part by part. -/
namespace Go.AI
set_option linter.unusedSectionVars false
variable [Sym]
set_option linter.unusedSimpArgs false
set_option linter.unusedVariables false
open Go.RowKit Go.ChangeShapes Go.WideShapes Go.ChangeAt Go.Deep
def RowsAt (W : World) (cs : List Value) (o : Nat) (r : Row) : Prop := (∀ v ∈ cs.drop o, v.oneCell' = true) ∧ ∀ (j : Nat) (a : AVal), r[j]? = some a → R β0 (ok0 W) W 0 a ((cs.drop o)[j]?.getD undef)
theorem RowsAt.nil {W : World} {cs : List Value} {o : Nat} (h : cs.length ≤ o) : RowsAt W cs o [] := by
 refine ⟨fun v hv => ?_, fun j a ha => by simp at ha⟩
 rw [List.drop_eq_nil_of_le h] at hv
 simp at hv
theorem RowsAt.cons {W : World} {cs : List Value} {o n : Nat} {r s : Row} (h1 : ∀ v ∈ (cs.drop o).take n, v.oneCell' = true) (hl : ((cs.drop o).take n).length = n) (hr : r.length = n)
  (h2 : ∀ (j : Nat) (a : AVal), r[j]? = some a → R β0 (ok0 W) W 0 a (((cs.drop o).take n)[j]?.getD undef)) (h3 : RowsAt W cs (o + n) s) : RowsAt W cs o (r ++ s) := by
 have hd : cs.drop o = (cs.drop o).take n ++ cs.drop (o + n) := by rw [← List.drop_drop, List.take_append_drop]
 constructor
 ·intro v hv
  rw [hd] at hv
  rcases List.mem_append.1 hv with h | h
  ·exact h1 v h
  ·exact h3.1 v h
 ·intro j a ha
  rw [hd]
  by_cases hj : j < n
  ·rw [List.getElem?_append_left (by omega)] at ha
   rw [List.getElem?_append_left (by omega)]
   exact h2 j a ha
  ·rw [List.getElem?_append_right (by omega)] at ha
   rw [List.getElem?_append_right (by omega), hl]
   rw [hr] at ha
   exact h3.2 _ a ha
theorem RowsAt.field {P : Program} {α : Type} {t : TypeId} {c : RCod α} {good : α → Prop} (hc : RdRow P t c good) {H : Type} {enc : TypeId × Value → H} {W : World} {base : Nat} {spare : Nat → Bool} {held : Bool} {fuel : Nat} {cs : List Value} {o n : Nat} {x : DataW H × List MemPlace}
  (hn : P.cellsOf t = n) (h : DataW.trod enc P W base spare held fuel t ((cs.drop o).take (P.cellsOf t)) = some x) : ∃ e, good e ∧ ∀ s, RowsAt W cs (o + n) s → RowsAt W cs o (c.enc e ++ s) := by
 rw [hn] at h
 obtain ⟨h1, h2, e, he, hR⟩ := hc h
 refine ⟨e, he, fun s hs => ?_⟩
 have hle : ((cs.drop o).take n).length ≤ n := by simp; omega
 by_cases hh : ((cs.drop o).take n).length = n
 ·exact .cons h2 hh (by rw [c.len, ← h1, hh]) hR hs
 ·have hd : cs.drop (o + n) = [] := by
   apply List.drop_eq_nil_of_le
   simp at hh
   omega
  have ht : (cs.drop o).take n = cs.drop o := List.take_of_length_le (by simp at hh ⊢; omega)
  rw [ht] at h1 h2 hR
  refine ⟨h2, fun j a ha => ?_⟩
  by_cases hj : j < (c.enc e).length
  ·rw [List.getElem?_append_left hj] at ha
   exact hR j a ha
  ·rw [List.getElem?_append_right (by omega)] at ha
   have := hs.2 _ a ha
   rw [hd] at this
   have hx : (cs.drop o)[j]? = none := List.getElem?_eq_none (by rw [h1, ← c.len e]; omega)
   rw [hx]
   simpa using this
end Go.AI
