/- slices.Insert of one element; slices.overlaps. -/
import Derived.Test.YtdakclpneghkmaaGreatDoorL09
import Derived.Lib.Overlaps
namespace Go.AI
set_option linter.unusedSectionVars false
variable [Sym]
set_option linter.unusedSimpArgs false
set_option linter.unusedVariables false
open Go.RowKit
section
variable {base : Nat} {w0 : World} {β : Nat → Nat} {fz : Nat → Prop} {H : Heap} {w : World} {P : Program}
theorem obj_get {H : Heap} {id : Nat} {x : Nat × List Row} (h : obj H id = some x) : H[id]? = some (some x) := obj_some h
def ovlI : Row → Heap → Option (AVal × Heap)
 | [.osl a sza _ la _, .xsl b szb _ lb _], H => if a ≠ b ∧ 0 < la ∧ 0 < lb ∧ 0 < sza ∧ 0 < szb ∧ (obj H a).isSome = true ∧ (obj H b).isSome = true then some (.v (.bool false), H) else none
 | _, _ => none
end
end Go.AI
/- Calls of functions that own what they return: the frame. -/
set_option linter.unusedSimpArgs false
set_option linter.unusedVariables false
namespace Go.AI
set_option linter.unusedSectionVars false
variable [Sym]
open Go.RowKit
section
variable {base : Nat} {w0 : World} {β : Nat → Nat} {fz fz' : Nat → Prop} {H : Heap} {w : World} {P : Program}
def tauI (fp : List Nat) (n : Nat) (j : Nat) : Nat := match fp[j]? with | some id => id | none => n + (j - fp.length)
mutual
def tau (fp : List Nat) (n : Nat) : AVal → AVal
 | .ptr id sz i off => .ptr (tauI fp n id) sz i off
 | .osl id sz s len kc => .osl (tauI fp n id) sz s len kc
 | .xsl id sz s len kc => .xsl (tauI fp n id) sz s len kc
 | .agg cs => .agg (tauC fp n cs)
 | .tup vs => .tup (tauC fp n vs)
 | a => a
def tauC (fp : List Nat) (n : Nat) : List AVal → List AVal
 | [] => []
 | a :: r => tau fp n a :: tauC fp n r
end
mutual
def bareA : AVal → Bool
 | .v _ => true
 | .ptr _ _ _ _ => true
 | .osl _ _ _ _ _ => true
 | .xsl _ _ _ _ _ => true
 | .esl => true
 | .junk => true
 | .anyb => true
 | .anyi _ => true
 | .str _ => true
 | .agg cs => bareC cs
 | .tup vs => bareC vs
 | .fsl _ _ rows => rows.isEmpty
 | _ => false
def bareC : List AVal → Bool
 | [] => true
 | a :: r => bareA a && bareC r
end
def tauO (fp : List Nat) (n : Nat) : Option (Nat × List Row) → Option (Nat × List Row)
 | some o => some (o.1, o.2.map (List.map (tau fp n)))
 | none => none
def flat0 (rows : List Row) : Bool := rows.all fun r => r.all (lowA 0)
def bareH : Heap → Bool
 | [] => true
 | some o :: r => (o.2.all fun row => row.all bareA) && bareH r
 | none :: r => bareH r
def frame0 (m : Row → Heap → Option (AVal × Heap)) (args : Row) (H : Heap) : Option (AVal × Heap) :=
 match m (args.map fun a => cold (view H depthV a)) [] with
 | some (r, H1) => if bareA r && bareH H1 then some (tau [] H.length r, H ++ H1.map (tauO [] H.length)) else none
 | none => none
def frame1 (m : Row → Heap → Option (AVal × Heap)) : Row → Heap → Option (AVal × Heap)
 | .osl id sz s len kc :: rest, H =>
  match obj H id with
  | some (sz', rows) =>
   if flat0 rows then
    match m (.osl 0 sz s len kc :: rest.map fun a => cold (view (H.set id none) depthV a)) [some (sz', rows)] with
    | some (r, o :: H1) => if bareA r && bareH (o :: H1) then some (tau [id] H.length r, (H.set id (tauO [id] H.length o)) ++ H1.map (tauO [id] H.length)) else none
    | _ => none
   else none
  | none => none
 | args, H => frame0 m args H
end
end Go.AI
/- Contracts of functions that own what they return. -/
set_option linter.unusedSimpArgs false
set_option linter.unusedVariables false
namespace Go.AI
set_option linter.unusedSectionVars false
variable [Sym]
open Go.RowKit
section
variable {P : Program} {f : FuncId} {fn : Func} {code : Code} {α α₁ α₂ α₃ ρ : Type}
def argG (c : Cod α) (k : α → Row → Option ρ) : Row → Option ρ
 | x :: r => match c.dec x with
  | some e => k e r
  | none => none
 | [] => none
def finG (a : Option ρ) : Row → Option ρ
 | [] => a
 | _ :: _ => none
def own0 (k : Row → Option (AVal × Heap)) : Row → Heap → Option (AVal × Heap)
 | args, [] => k args
 | _, _ :: _ => none
def own1 (c : RCod α) (k0 : Row → Option (AVal × Heap)) (k : List α → Row → Option (AVal × Heap)) : Row → Heap → Option (AVal × Heap)
 | .osl 0 sz 0 n kc :: rest, [some (sz', rows)] => if sz = c.sz ∧ sz' = c.sz ∧ n = rows.length ∧ kc = n ∧ 0 < n then (match rows.mapM c.dec with | some l => k l rest | none => none) else none
 | .esl :: rest, [] => k0 rest
 | .v (.slice none 0 0) :: rest, [] => k0 rest
 | _, _ => none
theorem Canon.argsX {args args' : Row} (h : Canon args args') {β : Nat → Nat} {base : Nat} {fz : Nat → Prop} {w : World} {n : Nat} {vals : Array Value} (hargs : ArgsR β (okOf base fz) w n args vals) : ArgsR β (okOf base fz) w n args' vals :=
 ⟨hargs.1.trans h.1.symm, fun j x hj => h.2 (fun _ _ hb => ⟨hb.1, fun h => by cases h⟩) j x _ hj (fun y hy => hargs.2 j y hy)⟩
def Exact (c : RCod α) : Prop := ∀ r e, c.dec r = some e → r = c.enc e
theorem Exact.rows {c : RCod α} (hp : Exact c) : ∀ {rows : List Row} {l : List α}, rows.mapM c.dec = some l → rows = l.map c.enc
 | [], l, h => by simp at h; subst h; rfl
 | r :: rows, l, h => by
  simp only [List.mapM_cons, Option.bind_eq_bind, Option.bind_eq_some_iff, Option.pure_def, Option.some.injEq] at h
  obtain ⟨e, he, l', hl', rfl⟩ := h
  rw [hp r e he, Exact.rows hp hl', List.map_cons]
end
end Go.AI
namespace Go.AI
set_option linter.unusedSectionVars false
variable [Sym]
section
variable {k : IntKind}
theorem irow_tau (fp : List Nat) (n : Nat) (e : Int) : List.map (tau fp n) (irow k e) = irow k e := by simp [irow, tau]
theorem irow_tauc (fp : List Nat) (n : Nat) : List.map (tau fp n) ∘ irow k = irow k := by funext e; exact irow_tau fp n e
theorem irow_bare (e : Int) : (irow k e).all bareA = true := by simp [irow, bareA]
theorem irow_bareR (l : List Int) : ((l.map (irow k)).all fun row => row.all bareA) = true := by simp [irow_bare]
theorem irow_flat (l : List Int) : flat0 (l.map (irow k)) = true := by simp [flat0, irow_low]
end
end Go.AI
namespace Go.AI
set_option linter.unusedSectionVars false
variable [Sym]
def cloneF : Row → Option (List Nat)
 | [.fsl _ _ _] => some []
 | [.osl id _ _ _ _] => some [id]
 | [.esl] => some []
 | _ => none
theorem clone_loc {sz : Nat} : ∀ args ids, cloneF args = some ids → Loc (cloneI sz args) ids true := by
 intro args ids h
 unfold cloneF at h
 split at h
 ·rename_i o s rows
  simp at h
  subst h
  refine Loc.new ⟨fun n => if s = sz ∧ rows.length ≤ 4294967296 then (if rows.isEmpty then some (.esl, []) else some (.osl n sz 0 rows.length rows.length, [if sz = 0 then none else some (sz, rows)])) else none, fun H => ?_⟩
  simp only [cloneI, newObj']
  split
  ·split <;> simp
  ·rfl
 ·rename_i id s st n kc
  simp at h
  subst h
  refine ⟨fun f m => match f id with
   | some (s', rows) => if s = sz ∧ s' = sz ∧ st + n ≤ rows.length ∧ n ≤ 4294967296 then (if n = 0 then some (.esl, [], []) else some (.osl m sz 0 n n, [], [if sz = 0 then none else some (sz, (rows.drop st).take n)])) else none
   | none => none, ⟨fun f g n hh => by simp only [hh id (by simp)], fun f n r hr => ?_, fun h => by cases h⟩, fun H => ?_⟩
  ·refine ⟨fun u hu => ?_, fun h => by cases h⟩
   split at hr
   ·split at hr
    ·split at hr
     ·simp at hr; subst hr; simp at hu
     ·simp at hr; subst hr; simp at hu
    ·cases hr
   ·cases hr
  ·simp only [cloneI, newObj']
   cases obj H id with
   | none => rfl
   | some p =>
    obtain ⟨s', rows⟩ := p
    simp only
    split
    ·split <;> simp [updL]
    ·rfl
 ·simp at h
  subst h
  exact Loc.const (some .esl)
 ·cases h
def frame0F (args : Row) : Option (List Nat) := if args.all noId then some [] else none
def frame1F : Row → Option (List Nat)
 | .osl id _ _ _ _ :: rest => if rest.all noId then some [id] else none
 | args => frame0F args
def insertF : Row → Option (List Nat)
 | [.osl id _ 0 _ _, .v (.int .i64 _), .osl vid _ 0 1 1] => some [id, vid]
 | [.esl, .v (.int .i64 _), .osl vid _ 0 1 1] => some [vid]
 | _ => none
end Go.AI
/- More codecs; slices.Delete. -/
set_option linter.unusedSimpArgs false
set_option linter.unusedVariables false
namespace Go.AI
set_option linter.unusedSectionVars false
variable [Sym]
open Go.RowKit
def cellDec {α : Type} (c : Cod α) : Row → Option α
 | [x] => c.dec x
 | _ => none
def rCell {α : Type} (c : Cod α) : RCod α where
 sz := 1
 enc e := [c.enc e]
 dec := cellDec c
 de e := c.de e
 len _ := rfl
 ok := by
  intro r e h β ok w n x hok hr
  unfold cellDec at h
  split at h
  ·refine ⟨rfl, fun j a hj => ?_⟩
   cases j with
   | zero => simp at hj; subst hj; exact c.ok h hok (hr 0 _ rfl)
   | succ j => simp at hj
  ·cases h
def fpDec {α : Type} (c : RCod α) : AVal → Option α
 | .fptr row 0 => c.dec row
 | _ => none
def cFp {α : Type} (c : RCod α) : Cod α where
 enc e := .fptr (c.enc e) 0
 dec := fpDec c
 de e := by simp [fpDec, c.de]
 ok := by
  intro x e h β ok w n v hok hr
  unfold fpDec at h
  split at h
  ·rename_i row
   cases hr with
   | fptr x' hb hc hr =>
    obtain ⟨h1, h2⟩ := c.ok h (β := β) (ok := ok) (w := w) (n := 0) (x := x') hok hr
    exact .fptr x' (fun hne => hok _ _ (hb (by rintro rfl; exact hne (List.length_eq_zero_iff.1 (by rw [c.len]; exact h1.symm))))) (fun j hj => hc j (by rw [c.len] at hj; omega)) h2
  ·cases h
def rTwo {α β : Type} (a : Cod α) (b : Cod β) : RCod (α × β) where
 sz := 2
 enc e := [a.enc e.1, b.enc e.2]
 dec r := match r with
  | [x, y] => match a.dec x, b.dec y with | some x, some y => some (x, y) | _, _ => none
  | _ => none
 de e := by simp [a.de, b.de]
 len _ := rfl
 ok := by
  intro r e h β ok w n x hok hr
  split at h
  ·rename_i u v
   split at h
   ·rename_i p q hp hq
    simp at h
    subst h
    refine ⟨rfl, fun j c hj => ?_⟩
    match j, hj with
    | 0, hj => simp at hj; subst hj; exact a.ok hp hok (hr 0 _ rfl)
    | 1, hj => simp at hj; subst hj; exact b.ok hq hok (hr 1 _ rfl)
    | j + 2, hj => simp at hj
   ·cases h
  ·cases h
section
variable {base : Nat} {w0 : World} {β : Nat → Nat} {fz : Nat → Prop} {H : Heap} {w : World} {P : Program}
def deleteF : Row → Option (List Nat)
 | [.osl id _ 0 _ _, .v (.int .i64 _), .v (.int .i64 _)] => some [id]
 | _ => none
end
end Go.AI
namespace Go.AI
set_option linter.unusedSectionVars false
variable [Sym]
theorem hotR_cat (a b : List Row) : hotR (a ++ b) = (hotR a && hotR b) := by simp [hotR_all]
theorem tmodN {a b : Nat} : Int.tmod (a : Int) (b : Int) = ((a % b : Nat) : Int) := rfl
end Go.AI
