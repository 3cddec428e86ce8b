/- A small abstract interpreter over the model: its values and its steps. -/
import Derived.Orders
import Derived.Below
import Derived.Laws.CopyRow
import Derived.Laws.Rows
import Derived.Laws.CopyOwn
import Derived.Laws.World
namespace Go.AI
set_option linter.unusedSimpArgs false
set_option linter.unusedVariables false
open Go.RowKit
class Sym where
 P : Nat → Value → Prop
 one : ∀ {k x}, P k x → x.oneCell' = true
inductive AVal where
 | junk
 | anyb
 | anyi (k : IntKind)
 | str (k : Nat)
 | v (x : Value)
 | ptr (id sz i off : Nat)
 | fptr (row : List AVal) (off : Nat)
 | osl (id sz s len kc : Nat)
 | xsl (id sz s len cap : Nat)
 | fsl (o : Bool) (sz : Nat) (rows : List (List AVal))
 | esl
 | agg (cs : List AVal)
 | tup (vs : List AVal)
 | fn (f : FuncId) (caps : List AVal)
 | when (b : Bool) (a : AVal)
 | ifc (t : TypeId) (a : AVal)
 | meth (n : String) (t : TypeId)
 deriving Inhabited
abbrev Env := List (Nat × AVal)
abbrev Row := List AVal
abbrev Heap := List (Option (Nat × List Row))
def look : Env → Nat → AVal
 | [], _ => .junk
 |(t, a) :: r, s => if s = t then a else look r s
def put (ρ : Env) (d : Option Tmp) (a : AVal) : Env :=
 match d with
 | some t => (t, a) :: ρ
 | none => ρ
def ev (ρ : Env) : Operand → AVal
 | .tmp t => look ρ t
 | .const x => .v x
 | .global _ => .junk
 | .func f => .fn f []
def pr {α : Type} (P : Program) : Sem α → Option α
 | .pure a => some a
 | .program k => pr P (k P)
 | .mark _ k => pr P k
 | _ => none
theorem pr_run {α : Type} {P : Program} {s : Sem α} {a : α} (h : pr P s = some a) (w : World) : s.run P w = .ok a w := by
 induction s with
 | pure b => simp only [pr, Option.some.injEq] at h; subst h; rfl
 | program k ih => exact ih P h
 | mark m k ih => exact ih h
 | load _ _ _ _ => simp [pr] at h
 | store _ _ _ _ _ => simp [pr] at h
 | new _ _ _ => simp [pr] at h
 | shape _ _ _ => simp [pr] at h
 | freeze _ _ _ _ => simp [pr] at h
 | frozen _ _ _ => simp [pr] at h
 | getObj _ _ _ => simp [pr] at h
 | setObj _ _ _ _ => simp [pr] at h
 | choose _ _ _ => simp [pr] at h
 | sys _ _ _ => simp [pr] at h
 | halt _ => simp [pr] at h
def szOf (P : Program) (t : TypeId) : Option Nat := (P.info? t).map (·.size)
def bytesOf (P : Program) (t : TypeId) : Option Nat := (P.info? t).map (·.bytes)
def aggOf (P : Program) (t : TypeId) : Option Bool :=
 match P.underlying t with
 | some (.struct _) => some true
 | some (.array _ _) => some true
 | some _ => some false
 | none => none
def zeroOf (P : Program) (t : TypeId) : Option Value := (P.info? t).bind (·.zero)
def fieldOf (P : Program) (s : TypeId) (f : Nat) : Option (Nat × Nat × TypeId) :=
 match P.underlying s with
 | some (.struct fs) => match fs[f]? with
  | some f => (szOf P f.type).map fun n => (f.offset, n, f.type)
  | none => none
 | _ => none
def sliceElem (P : Program) (t : TypeId) : Option TypeId :=
 match P.underlying t with
 | some (.slice e) => some e
 | _ => none
def arrayOf (P : Program) (t : TypeId) : Option (Nat × TypeId) :=
 match P.underlying t with
 | some (.array n e) => some (n, e)
 | _ => none
def oneA : AVal → Bool
 | .v x => x.oneCell'
 | .junk => false
 | .agg _ => false
 | .tup _ => false
 | .when _ _ => false
 | _ => true
def allOne : List Value → Bool
 | [] => true
 | x :: r => x.oneCell' && allOne r
def allOneA : List AVal → Bool
 | [] => true
 | x :: r => oneA x && allOneA r
theorem allOne_mem {l : List Value} (h : allOne l = true) (c : Value) (hc : c ∈ l) : c.oneCell' = true := by
 induction l with
 | nil => simp at hc
 | cons x r ih =>
  simp only [allOne, Bool.and_eq_true] at h
  rcases List.mem_cons.1 hc with rfl | hc
  ·exact h.1
  ·exact ih h.2 hc
theorem allOneA_mem {l : List AVal} (h : allOneA l = true) (c : AVal) (hc : c ∈ l) : oneA c = true := by
 induction l with
 | nil => simp at hc
 | cons x r ih =>
  simp only [allOneA, Bool.and_eq_true] at h
  rcases List.mem_cons.1 hc with rfl | hc
  ·exact h.1
  ·exact ih h.2 hc
def cellsOf : AVal → Option Row
 | .v (.agg cs) => if allOne cs.toList then some (cs.toList.map .v) else none
 | .v (.tuple _) => none
 | .v x => some [.v x]
 | .agg cs => if allOneA cs then some cs else none
 | .junk => none
 | .tup _ => none
 | .when _ _ => none
 | a => some [a]
def allV : Row → Option (List Value)
 | [] => some []
 | .v x :: r => (allV r).map (x :: ·)
 | _ => none
def mkAgg (cs : Row) : AVal :=
 match allV cs with
 | some xs => .v (.agg xs.toArray)
 | none => .agg cs
def readAt (P : Program) (t : TypeId) (row : Row) (off : Nat) : Option AVal :=
 match aggOf P t with
 | some true => match szOf P t with
  | some n => if off + n ≤ row.length then some (mkAgg ((row.drop off).take n)) else none
  | none => none
 | some false => row[off]?
 | none => none
def writeAt : Row → Nat → Row → Row
 | row, 0, [] => row
 | [], _, _ => []
 | _ :: r, 0, c :: cs => c :: writeAt r 0 cs
 | x :: r, off + 1, cs => x :: writeAt r off cs
def obj (H : Heap) (id : Nat) : Option (Nat × List Row) := (H[id]?).bind fun o => o.bind fun q => if q.1 = 0 then none else some q
def view (H : Heap) : Nat → AVal → AVal
 | _, .v x => .v x
 | d + 1, .osl id sz s n _ =>
  match obj H id with
  | some (sz', rows) => if sz' = sz ∧ s + n ≤ rows.length then .fsl true sz (((rows.drop s).take n).map fun r => r.map (view H d)) else .junk
  | none => .junk
 | d + 1, .ptr id sz i off =>
  match obj H id with
  | some (sz', rows) => match rows[i]? with
   | some r => if sz' = sz then .fptr (r.map (view H d)) off else .junk
   | none => .junk
  | none => .junk
 | d + 1, .agg cs => .agg (cs.map (view H d))
 | d + 1, .tup vs => .tup (vs.map (view H d))
 | d + 1, .ifc t a => .ifc t (view H d a)
 | d + 1, .fn f caps => .fn f (caps.map (view H d))
 | _, .junk => .junk
 | _, .anyb => .anyb
 | _, .anyi k => .anyi k
 | _, .str k => .str k
 | _, .fptr row off => .fptr row off
 | _, .fsl o sz rows => .fsl o sz rows
 | _, .esl => .esl
 | _, .meth n t => .meth n t
 | _, .when _ _ => .junk
 | _, .xsl _ _ _ _ _ => .junk
 | 0, _ => .junk
mutual
def cold : AVal → AVal
 | .fsl _ sz rows => .fsl false sz (coldR rows)
 | .fptr row off => .fptr (coldC row) off
 | .agg cs => .agg (coldC cs)
 | .tup vs => .tup (coldC vs)
 | .ifc t a => .ifc t (cold a)
 | .fn f caps => .fn f (coldC caps)
 | .when _ _ => .junk
 | a => a
def coldC : List AVal → List AVal
 | [] => []
 | a :: r => cold a :: coldC r
def coldR : List (List AVal) → List (List AVal)
 | [] => []
 | a :: r => coldC a :: coldR r
end
theorem coldC_map (l : Row) : coldC l = l.map cold := by
 induction l with
 | nil => simp [coldC]
 | cons a r ih => simp [coldC, ih]
theorem coldR_map (l : List Row) : coldR l = l.map (List.map cold) := by
 induction l with
 | nil => simp [coldR]
 | cons a r ih => simp [coldR, ih, coldC_map]
mutual
def hot : AVal → Bool
 | .v _ => true
 | .fsl o _ rows => (o || rows.isEmpty) && hotR rows
 | .esl => true
 | .agg cs => hotC cs
 | .tup vs => hotC vs
 | .junk => true
 | .anyb => true
 | .anyi _ => true
 | .str _ => true
 | _ => false
def hotC : List AVal → Bool
 | [] => true
 | a :: r => hot a && hotC r
def hotR : List (List AVal) → Bool
 | [] => true
 | a :: r => hotC a && hotR r
end
theorem hotC_all (l : Row) : hotC l = l.all hot := by
 induction l with
 | nil => simp [hotC]
 | cons a r ih => simp [hotC, ih]
theorem hotR_all (l : List Row) : hotR l = l.all (List.all · hot) := by
 induction l with
 | nil => simp [hotR]
 | cons a r ih => simp [hotR, ih, hotC_all]
structure Orc where
 pure : FuncId → Row → Option AVal
 inl : FuncId → Bool
 inline : FuncId → Row → Heap → Option (AVal × Heap)
 dyn : Nat → List (Nat × Nat)
 fp : FuncId → Row → Option (List Nat)
 alt : Nat → List Nat
 rd : FuncId → Option (Row → Heap → Option AVal)
 cl : FuncId → Bool
def updL : Heap → List (Nat × Option (Nat × List Row)) → Heap
 | H, [] => H
 | H, u :: us => updL (H.set u.1 u.2) us
structure LocW (ids : List Nat) (nw : Bool) (Φ : (Nat → Option (Nat × List Row)) → Nat → Option (AVal × List (Nat × Option (Nat × List Row)) × Heap)) : Prop where
 same : ∀ f g n, (∀ id ∈ ids, f id = g id) → Φ f n = Φ g n
 keys : ∀ f n r, Φ f n = some r → (∀ u ∈ r.2.1, u.1 ∈ ids) ∧ (nw = false → r.2.2 = [])
 len : nw = false → ∀ f n m, Φ f n = Φ f m
def Loc (F : Heap → Option (AVal × Heap)) (ids : List Nat) (nw : Bool) : Prop := ∃ Φ, LocW ids nw Φ ∧ ∀ H, F H = (Φ (obj H) H.length).map fun r => (r.1, updL H r.2.1 ++ r.2.2)
abbrev AEv := Operand → AVal
def asV : Option Value → Option AVal
 | some x => some (.v x)
 | none => none
def flatF (P : Program) (g : TypeId → Option (List Nat)) : List Field → Nat → Option (List Nat)
 | [], _ => some []
 | f :: fs, off =>
  if f.name = "_" ∨ f.offset ≠ off then none else
  match g f.type with
  | some ts => if szOf P f.type = some ts.length then (flatF P g fs (off + ts.length)).map (ts ++ ·) else none
  | none => none
def flatT (P : Program) : Nat → TypeId → Option (List Nat)
 | 0, _ => none
 | d + 1, t =>
  match P.underlying t with
  | some .bool => some [0]
  | some (.int _) => some [1]
  | some .string => some [2]
  | some (.struct fs) => if P.stoodInHeld t then none else flatF P (flatT P d) fs.toList 0
  | some (.array n e) =>
   match flatT P d e with
   | some ts => if szOf P e = some ts.length then some (List.replicate n ts).flatten else none
   | none => none
  | _ => none
def eqC : Nat → Value → Value → Option Bool
 | 0, .bool a, .bool b => some (a == b)
 | 1, .int k a, .int k' b => if k = k' then some (a == b) else none
 | 2, .string a, .string b => some (a.toList == b.toList)
 | _, _, _ => none
def eqTy : List Nat → List Value → List Value → Option Bool
 | [], [], [] => some true
 | t :: ts, x :: xs, y :: ys => match eqC t x y with
  | some c => match eqTy ts xs ys with
   | some r => some (c && r)
   | none => none
  | none => none
 | _, _, _ => none
def eqOkT (P : Program) (t : TypeId) : Option (List Nat) := if P.eqGuardType P.depth t = true ∨ aggOf P t ≠ some true then none else flatT P 6 t
def eqAgg (P : Program) (op : BinOp) (t : TypeId) (xs ys : List Value) : Option AVal :=
 match eqOkT P t with
 | some ts => match eqTy ts xs ys with
  | some b => match op with
   | .eql => some (.v (.bool b))
   | .neq => some (.v (.bool !b))
   | _ => none
  | none => none
 | none => none
def aBin (P : Program) (op : BinOp) (t : TypeId) (x y : Operand) (a b : AVal) : Option AVal :=
 match a, b with
 | .v (.agg xs), .v (.agg ys) => eqAgg P op t xs.toList ys.toList
 | .v a, .v b => asV (pr P (do eqGuard op t x y a b; binOp op t a b))
 | .fsl _ _ rows, .v (.slice none 0 0) =>
  match sliceElem P t, op with
  | some _, .eql => some (if rows.isEmpty then .anyb else .v (.bool false))
  | some _, .neq => some (if rows.isEmpty then .anyb else .v (.bool true))
  | _, _ => none
 | .osl _ _ _ _ _, .v (.slice none 0 0) =>
  match sliceElem P t, op with
  | some _, .eql => some (.v (.bool false))
  | some _, .neq => some (.v (.bool true))
  | _, _ => none
 | .esl, .v (.slice none 0 0) =>
  match sliceElem P t, op with
  | some _, .eql => some .anyb
  | some _, .neq => some .anyb
  | _, _ => none
 | .ptr _ sz _ _, .v (.map none) =>
  if sz = 0 then match P.underlying t, op with
   | some (.map _ _), .eql => some (.v (.bool false))
   | some (.map _ _), .neq => some (.v (.bool true))
   | _, _ => none
  else none
 | .ptr _ sz _ _, .v (.pointer none) =>
  if sz = 0 then none else match P.underlying t, op with
   | some (.pointer _), .eql => some (.v (.bool false))
   | some (.pointer _), .neq => some (.v (.bool true))
   | _, _ => none
 | _, _ => none
def aExtract (a : AVal) (i : Nat) : Option AVal :=
 match a with
 | .tup vs => vs[i]?
 | .v (.tuple vs) => (vs[i]?).map .v
 | _ => none
def newObj' (H : Heap) (sz : Nat) (rows : List Row) : Heap := H ++ [if sz = 0 then none else some (sz, rows)]
def aAlloc (P : Program) (t : TypeId) (H : Heap) : Option (AVal × Heap) :=
 match zeroOf P t with
 | some z => if allOne z.cells.toList = true ∧ z.cells.size ≠ 0 then some (.ptr H.length z.cells.size 0 0, newObj' H z.cells.size [z.cells.toList.map .v]) else none
 | none => none
def aBox (a : AVal) (H : Heap) : Option (AVal × Heap) :=
 match cellsOf a with
 | some cs => if cs.length = 0 then none else some (.ptr H.length cs.length 0 0, newObj' H cs.length [cs])
 | none => none
def placesOf (P : Program) (t : TypeId) : Option (List (Nat × Nat)) :=
 match P.underlying t with
 | some (.struct fs) => fs.toList.mapM fun f => (szOf P f.type).map fun n => (f.offset, n)
 | _ => none
def fillA (place : Nat → Option (Nat × Nat)) (cells : Row) : List (Nat × AVal) → Option Row
 | [] => some cells
 |(i, a) :: rest =>
  match place i, cellsOf a with
  | some (off, size), some cs => if cs.length = size ∧ off + size ≤ cells.length then fillA place (writeAt cells off cs) rest else none
  | _, _ => none
def aBuild (P : Program) (t : TypeId) (parts : List (Nat × AVal)) : Option AVal :=
 match zeroOf P t with
 | some z =>
  match placesOf P t with
  | some pl => (fillA (pl[·]?) (z.cells.toList.map .v) parts).map mkAgg
  | none => match arrayOf P t with
   | some (_, e) => match szOf P e with
    | some n => (fillA (fun i => some (i * n, n)) (z.cells.toList.map .v) parts).map mkAgg
    | none => none
   | none => none
 | none => none
def setRows (sz : Nat) (rows : List Row) : List (Nat × AVal) → Option (List Row)
 | [] => some rows
 |(i, a) :: rest =>
  match cellsOf a with
  | some cs => if cs.length = sz ∧ i < rows.length then setRows sz (rows.set i cs) rest else none
  | none => none
def aBuildSlice (P : Program) (t : TypeId) (len : Nat) (parts : List (Nat × AVal)) (H : Heap) : Option (AVal × Heap) :=
 match sliceElem P t with
 | some e => match szOf P e, zeroOf P e with
  | some sz, some z =>
   if z.cells.size = sz ∧ allOne z.cells.toList = true ∧ 0 < sz ∧ len * sz ≤ 16777216 then
    match setRows sz (List.replicate len (z.cells.toList.map .v)) parts with
    | some rows => if len = 0 then some (.esl, H) else some (.osl H.length sz 0 len len, newObj' H sz rows)
    | none => none
   else none
  | _, _ => none
 | none => none
def aLoad (P : Program) (t : TypeId) (a : AVal) (H : Heap) : Option AVal :=
 match a with
 | .ptr id sz i off => match obj H id with
  | some (sz', rows) => match rows[i]? with
   | some row => if sz' = sz then readAt P t row off else if sz' = 1 ∧ sz ≠ 0 ∧ i = 0 then readAt P t rows.flatten off else none
   | none => none
  | none => none
 | .fptr row off => readAt P t row off
 | _ => none
def aStore (P : Program) (t : TypeId) (a x : AVal) (H : Heap) : Option Heap :=
 match a with
 | .ptr id sz i off => match obj H id with
  | some (sz', rows) => match rows[i]?, cellsOf x, szOf P t with
   | some row, some cs, some n => if sz' = sz ∧ cs.length = n ∧ off + n ≤ row.length then some (H.set id (some (sz, rows.set i (writeAt row off cs))))
    else if sz' = 1 ∧ sz ≠ 0 ∧ i = 0 ∧ cs.length = n ∧ off + n ≤ rows.length then some (H.set id (some (1, rows.take off ++ cs.map (fun c => [c]) ++ rows.drop (off + cs.length)))) else none
   | _, _, _ => none
  | none => none
 | _ => none
def aFieldAddr (P : Program) (s : TypeId) (a : AVal) (f : Nat) : Option AVal :=
 match fieldOf P s f with
 | some (o, n, _) => if n = 0 then none else match a with
  | .ptr id sz i off => if sz = 0 then none else some (.ptr id sz i (off + o))
  | .fptr row off => some (.fptr row (off + o))
  | _ => none
 | none => none
def isAggA : AVal → Bool
 | .v (.agg _) => true
 | .agg _ => true
 | _ => false
def aField (P : Program) (s : TypeId) (a : AVal) (f : Nat) : Option AVal :=
 match fieldOf P s f, cellsOf a with
 | some (o, _, ft), some cs => if isAggA a then readAt P ft cs o else none
 | _, _ => none
def idx (a : AVal) (n : Nat) : Option Nat :=
 match a with
 | .v (.int _ i) => if 0 ≤ i ∧ i < n then some i.toNat else none
 | _ => none
def aIndexAddr (P : Program) (t : TypeId) (a i : AVal) : Option AVal :=
 match arrayOf P t with
 | some (n, e) => match szOf P e, idx i n with
  | some sz, some k => match a with
   | .ptr id s j off => if s = 0 then none else some (.ptr id s j (off + k * sz))
   | .fptr row off => some (.fptr row (off + k * sz))
   | _ => none
  | _, _ => none
 | none => match sliceElem P t with
  | some e => match szOf P e with
   | some sz => match a with
    | .osl id sz' s len _ => if sz' = sz ∧ sz ≠ 0 then (idx i len).map fun k => .ptr id sz (s + k) 0 else none
    | .fsl _ sz' rows => if sz' = sz then match idx i rows.length with
      | some k => (rows[k]?).map fun r => .fptr r 0
      | none => none
     else none
    | _ => none
   | none => none
  | none => none
def aIndex (P : Program) (t : TypeId) (a i : AVal) : Option AVal :=
 match arrayOf P t with
 | some (n, e) => match szOf P e, idx i n, cellsOf a with
  | some sz, some k, some cs => if isAggA a then readAt P e cs (k * sz) else none
  | _, _, _ => none
 | none => match a, i with
  | .v x, .v y => asV (pr P (Instr.index t x y))
  | _, _ => none
def bnd (a : Option AVal) (dflt top : Nat) : Option Nat :=
 match a with
 | none => some dflt
 | some (.v (.int _ i)) => if 0 ≤ i ∧ i ≤ top then some i.toNat else none
 | _ => none
def soft : AVal → AVal
 | .xsl id sz s len cap => .osl id sz s len cap
 | a => a
def vOpt : Option AVal → Option (Option Value)
 | none => some none
 | some (.v x) => some (some x)
 | _ => none
def aSlice (P : Program) (t : TypeId) (a : AVal) (lo hi mx : Option AVal) : Option AVal :=
 match sliceElem P t with
 | some e => match szOf P e with
  | some sz => match a with
   | .osl id sz' s len kc =>
    if sz' = sz then match mx with
     | none => match bnd hi len kc with
      | some h => (bnd lo 0 h).map fun l => .osl id sz (s + l) (h - l) (kc - l)
      | none => none
     | some m => match bnd (some m) 0 kc with
      | some m => match hi with
       | some h => match bnd (some h) 0 m with
        | some h => (bnd lo 0 h).map fun l => if m = l then .esl else .osl id sz (s + l) (h - l) (m - l)
        | none => none
       | none => none
      | none => none
    else none
   | .xsl id sz' s len cap =>
    if sz' = sz then match mx with
     | none => match bnd hi len cap with
      | some h => (bnd lo 0 h).map fun l => .xsl id sz (s + l) (h - l) (cap - l)
      | none => none
     | some _ => none
    else none
   | .fsl o sz' rows =>
    if sz' = sz then match mx with
     | none => match bnd hi rows.length rows.length with
      | some h => (bnd lo 0 h).map fun l => .fsl o sz ((rows.drop l).take (h - l))
      | none => none
     | some m => match bnd (some m) 0 rows.length with
      | some m => match hi with
       | some h => match bnd (some h) 0 m with
        | some h => (bnd lo 0 h).map fun l => if m = l then .esl else .fsl o sz ((rows.drop l).take (h - l))
        | none => none
       | none => none
      | none => none
    else none
   | .esl => match bnd hi 0 0, bnd lo 0 0, bnd mx 0 0 with
    | some _, some _, some _ => if mx.isSome && hi.isNone then none else some .esl
    | _, _, _ => none
   | .v (.slice none 0 0) => match bnd hi 0 0, bnd lo 0 0, bnd mx 0 0 with
    | some _, some _, some _ => if mx.isSome && hi.isNone then none else some (.v (.slice none 0 0))
    | _, _, _ => none
   | _ => none
  | none => none
 | none => match a, vOpt lo, vOpt hi, mx with
  | .v (.string s), some l, some h, none => asV (pr P (Instr.sliceAt t (.string s) l h none))
  | _, _, _, _ => none
def aMakeSlice (P : Program) (t : TypeId) (l c : AVal) (H : Heap) : Option (AVal × Heap) :=
 match sliceElem P t with
 | some e => match szOf P e, zeroOf P e, bytesOf P e with
  | some sz, some z, some by_ => match l, c with
   | .v (.int _ l), .v (.int _ c) =>
    if z.cells.size = sz ∧ allOne z.cells.toList = true ∧ 0 < sz ∧ 0 ≤ l ∧ l ≤ c ∧ c ≤ 4294967296 ∧ by_ ≤ 8192 then
     some (.osl H.length sz 0 l.toNat c.toNat, newObj' H sz (List.replicate c.toNat (z.cells.toList.map .v)))
    else none
   | _, _ => none
  | _, _, _ => none
 | none => none
def rowsOf (H : Heap) (sz : Nat) : AVal → Option (List Row)
 | .osl id sz' s len _ => match obj H id with
  | some (sz'', rows) => if sz' = sz ∧ sz'' = sz ∧ s + len ≤ rows.length then some ((rows.drop s).take len) else none
  | none => none
 | .fsl _ sz' rows => if sz' = sz then some rows else none
 | .esl => some []
 | .v (.slice none 0 0) => some []
 | _ => none
def vRow (r : Row) : Bool := r.all fun a => match a with | .v _ => true | _ => false
def aAppend (P : Program) (t : TypeId) (s x : AVal) (H : Heap) : Option (AVal × Heap) :=
 match sliceElem P t with
 | some e => match szOf P e, zeroOf P e, bytesOf P e with
  | some sz, some z, some by_ => match rowsOf H sz x with
   | some xr =>
    if z.cells.size = sz ∧ allOne z.cells.toList = true ∧ 0 < sz ∧ by_ ≤ 8192 then
     match s with
     | .osl id sz' st len kc => match obj H id with
      | some (sz'', rows) =>
       if sz' = sz ∧ sz'' = sz ∧ st + len ≤ rows.length ∧ len + xr.length ≤ 4294967296 then
        if len + xr.length ≤ kc then
         some (.osl id sz st (len + xr.length) kc, H.set id (some (sz, rows.take (st + len) ++ xr ++ rows.drop (st + len + xr.length))))
        else if st = 0 ∧ len = rows.length then
         some (.osl H.length sz 0 (len + xr.length) (len + xr.length), (H.set id none) ++ [some (sz, rows ++ xr)])
        else if st + len = rows.length ∧ (rows.drop st).all vRow = true ∧ xr.all vRow = true then
         some (.fsl true sz (rows.drop st ++ xr), (H.set id none) ++ [none])
        else none
       else none
      | none => none
     | .fsl o sz' rows => if xr.length = 0 then some (.fsl o sz' rows, H) else none
     | .esl => if xr.length = 0 then some (.esl, H)
       else if xr.length ≤ 4294967296 then some (.osl H.length sz 0 xr.length xr.length, newObj' H sz xr) else none
     | .v (.slice none 0 0) => if xr.length = 0 then some (.v (.slice none 0 0), H)
       else if xr.length ≤ 4294967296 then some (.osl H.length sz 0 xr.length xr.length, newObj' H sz xr) else none
     | _ => none
    else none
   | none => none
  | _, _, _ => none
 | none => none
def aLen (P : Program) (t : TypeId) (a : AVal) : Option AVal :=
 match arrayOf P t with
 | some (n, _) => some (.v (goInt n))
 | none => match soft a with
  | .v x => asV (pr P (Builtin.len_ #[t] 0 #[x]))
  | .osl _ _ _ len _ => (sliceElem P t).map fun _ => .v (goInt len)
  | .fsl _ _ rows => (sliceElem P t).map fun _ => .v (goInt rows.length)
  | .esl => (sliceElem P t).map fun _ => .v (goInt 0)
  | _ => none
def valsOf : Row → Option (List Value)
 | [] => some []
 | .v x :: r => (valsOf r).map (x :: ·)
 | _ :: _ => none
def aClear (P : Program) (t : TypeId) (a : AVal) (H : Heap) : Option (AVal × Heap) :=
 match sliceElem P t with
 | some e => match szOf P e, zeroOf P e with
  | some sz, some z => match soft a with
   | .osl id sz' s len _ => match obj H id with
    | some (sz'', rows) =>
     if z.cells.size = sz ∧ allOne z.cells.toList = true ∧ sz' = sz ∧ sz'' = sz ∧ s + len ≤ rows.length then
      some (.v (.tuple #[]), H.set id (some (sz, rows.take s ++ List.replicate len (z.cells.toList.map .v) ++ rows.drop (s + len))))
     else none
    | none => none
   | .esl => some (.v (.tuple #[]), H)
   | .v (.slice none 0 0) => some (.v (.tuple #[]), H)
   | _ => none
  | _, _ => none
 | none => none
def aCopy (P : Program) (t : TypeId) (d x : AVal) (H : Heap) : Option (AVal × Heap) :=
 match sliceElem P t with
 | some e => match szOf P e with
  | some sz => match rowsOf H sz (soft x) with
   | some xr => match soft d with
    | .osl id sz' s len _ => match obj H id with
     | some (sz'', rows) =>
      if sz' = sz ∧ sz'' = sz ∧ s + len ≤ rows.length ∧ 0 < sz then
       some (.v (goInt (min xr.length len : Nat)), H.set id (some (sz, rows.take s ++ xr.take len ++ rows.drop (s + min xr.length len))))
      else none
     | none => none
    | _ => none
   | none => none
  | none => none
 | none => none
def strV (b : ByteArray) : List Value := b.data.toList.map fun x => .int .u8 x.toNat
def strR (b : ByteArray) : List Row := (strV b).map fun v => [.v v]
def aCopyS (P : Program) (t : TypeId) (d : AVal) (b : ByteArray) (H : Heap) : Option (AVal × Heap) :=
 match sliceElem P t with
 | some e => match szOf P e with
  | some sz => match soft d with
   | .osl id sz' s len _ => match obj H id with
    | some (sz'', rows) =>
     if sz = 1 ∧ sz' = 1 ∧ sz'' = 1 ∧ s + len ≤ rows.length then
      some (.v (goInt (min (strR b).length len : Nat)), H.set id (some (1, rows.take s ++ (strR b).take len ++ rows.drop (s + min (strR b).length len))))
     else none
    | none => none
   | _ => none
  | none => none
 | none => none
def aCopyX (P : Program) (t : TypeId) (d x : AVal) (H : Heap) : Option (AVal × Heap) :=
 match x with
 | .v (.string b) => aCopyS P t d b H
 | x => aCopy P t d x H
def aAppendZ (P : Program) (t u : TypeId) (s x : AVal) (H : Heap) : Option (AVal × Heap) :=
 match sliceElem P t, P.underlying u with
 | some e, some (.int _) => match szOf P e, zeroOf P e, bytesOf P e with
  | some sz, some z, some by_ => match s, x with
   | .xsl id sz' st len cap, .v (.int _ k) => match obj H id with
    | some (sz'', rows) =>
     if z.cells.size = sz ∧ allOne z.cells.toList = true ∧ 0 < sz ∧ by_ ≤ 8192 ∧ sz' = sz ∧ sz'' = sz ∧ st + len ≤ rows.length ∧ 0 ≤ k ∧ cap < len + k.toNat ∧ len + k.toNat ≤ 4294967296 then
      some (.osl H.length sz 0 (len + k.toNat) (len + k.toNat), newObj' H sz ((rows.drop st).take len ++ List.replicate k.toNat (z.cells.toList.map .v)))
     else none
    | none => none
   | s, .v (.int _ k) => if 0 ≤ k ∧ k ≤ 4294967296 then aAppend P t s (.fsl true sz (List.replicate k.toNat (z.cells.toList.map .v))) H else none
   | _, _ => none
  | _, _, _ => none
 | _, _ => none
def aCap (P : Program) (t : TypeId) (a : AVal) : Option AVal :=
 match sliceElem P t, a with
 | some _, .xsl _ _ _ _ cap => some (.v (goInt cap))
 | _, _ => none
def depthV : Nat := 4
def keyEq (P : Program) (key : TypeId) (k k' : Value) : Option Bool :=
 match k, k' with
 | .agg xs, .agg ys => match eqOkT P key with
  | some ts => eqTy ts xs.toList ys.toList
  | none => none
 | .int a x, .int b y => match P.underlying key with
  | some (.int _) => if a = b then some (x == y) else none
  | _ => none
 | _, _ => none
def findR (P : Program) (key : TypeId) (k : Value) : List Row → Option (Option AVal)
 | [] => some none
 | [.v k', a] :: r => match keyEq P key k k', findR P key k r with
  | some true, some none => some (some a)
  | some false, q => q
  | _, _ => none
 | _ => none
def putR (P : Program) (key : TypeId) (k : Value) (x : AVal) : List Row → Option (List Row)
 | [] => some [[.v k, x]]
 | [.v k', a] :: r => match keyEq P key k k', findR P key k r with
  | some true, some none => if Instr.sameBits 10000 k' k then some ([.v k, x] :: r) else none
  | some false, _ => (putR P key k x r).map ([.v k', a] :: ·)
  | _, _ => none
 | _ => none
def delR (P : Program) (key : TypeId) (k : Value) : List Row → Option (List Row)
 | [] => some []
 | [.v k', a] :: r => match keyEq P key k k', findR P key k r with
  | some true, some none => some r
  | some false, _ => (delR P key k r).map ([.v k', a] :: ·)
  | _, _ => none
 | _ => none
def keyOk (P : Program) (key : TypeId) (k : Value) : Bool := (pr P (Instr.checkKey true 10000 key k)).isSome && (pr P (Instr.checkKey false 10000 key k)).isSome && (P.underlying key).isSome
def aDelete (P : Program) (t : TypeId) (m k : AVal) (H : Heap) : Option (AVal × Heap) :=
 match P.underlying t with
 | some (.map key _) => match m, k with
  | .ptr id 0 0 0, .v k => match H[id]? with
   | some (some (0, rows)) => if keyOk P key k = true then (delR P key k rows).map fun rows' => (.v (.tuple #[]), H.set id (some (0, rows'))) else none
   | _ => none
  | _, _ => none
 | _ => none
def aBuiltin (P : Program) (b : Builtin) (ts : Array TypeId) (args : List AVal) (H : Heap) : Option (AVal × Heap) :=
 match b, ts.toList, args with
 | .len, [t], [a] => (aLen P t a).map (·, H)
 | .append, [t, u], [s, x] => match sliceElem P u with
  | some _ => aAppend P t s x H
  | none => aAppendZ P t u s x H
 | .cap, [t], [a] => (aCap P t a).map (·, H)
 | .clear, [t], [a] => aClear P t a H
 | .copy, [t, _], [d, x] => aCopyX P t d x H
 | .delete, t :: _, [m, k] => aDelete P t m k H
 | .min, ts, args => match valsOf args with
  | some vs => (asV (pr P (Builtin.min_ ts.toArray 0 vs.toArray))).map (·, H)
  | none => none
 | .max, ts, args => match valsOf args with
  | some vs => (asV (pr P (Builtin.max_ ts.toArray 0 vs.toArray))).map (·, H)
  | none => none
 | _, _, _ => none
def dynF : Nat := 1000000007
def aCall (P : Program) (C : Orc) (static : Bool) (f : AVal) (args : List AVal) (H : Heap) : Option (AVal × Heap) :=
 match f with
 | .fn g caps =>
  match P.funcs[g]? with
  | some fn =>
   if C.inl g then (if (static || C.inl dynF) && !(fn.name == "runtime.NumGoroutine") then C.inline g (args ++ caps) H else none)
   else if fn.name == "runtime.NumGoroutine" || fn.body.isNone then none
   else match C.rd g with
    | some m => (m (args ++ caps) H).map (·, H)
    | none => (C.pure g ((args ++ caps).map fun a => cold (view H depthV a))).map (·, H)
  | none => none
 | _ => none
def isStatic : Operand → Bool
 | .func _ => true
 | _ => false
def res (g : Bool) (a : AVal) : AVal :=
 match a with
 | .when b x => if (g = true → b = true) then x else .junk
 | a => a
def lkRes (ok : Bool) (z : Option Value) : Option AVal → Option AVal
 | some a => some (if ok then .tup [a, .v (.bool true)] else a)
 | none => z.map fun z => .v (if ok then .tuple #[z, .bool false] else z)
def aLookup (P : Program) (t : TypeId) (m k : AVal) (ok : Bool) (H : Heap) : Option AVal :=
 match P.underlying t with
 | some (.map key elem) => match m, k with
  | .ptr id 0 0 0, .v k => match H[id]? with
   | some (some (0, rows)) => if keyOk P key k = true then (match findR P key k rows with
     | some r => lkRes ok (zeroOf P elem) r
     | none => none) else none
   | _ => none
  | .v (.map none), .v k => if keyOk P key k = true then lkRes ok (zeroOf P elem) none else none
  | _, _ => none
 | _ => none
def aMapUpdate (P : Program) (t : TypeId) (m k x : AVal) (H : Heap) : Option Heap :=
 match P.underlying t with
 | some (.map key _) => match m, k with
  | .ptr id 0 0 0, .v k => match H[id]? with
   | some (some (0, rows)) => if keyOk P key k = true then (putR P key k x rows).map fun rows' => H.set id (some (0, rows')) else none
   | _ => none
  | _, _ => none
 | _ => none
def aEqH (P : Program) (op : BinOp) (t : TypeId) (a b : AVal) (H : Heap) : Option AVal :=
 match P.underlying t, op, a, b with
 | some (.pointer e), .eql, .ptr i s x y, .ptr i' s' x' y' =>
  if szOf P e = some 0 ∨ szOf P e = none then none
  else if s = s' ∧ x = x' ∧ y = y' ∧ s ≠ 0 ∧ (obj H i).isSome = true ∧ (obj H i').isSome = true then some (.v (.bool (i == i'))) else none
 | _, _, _, _ => none
def aSliceA (P : Program) (t : TypeId) (a : AVal) (H : Heap) : Option (AVal × Heap) :=
 match arrayOf P t, a with
 | some (n, e), .ptr id sz 0 off => match obj H id with
  | some (sz', rows) => if szOf P e = some 1 ∧ sz ≠ 0 ∧ 1 < n then
    if sz' = 1 then (if off + n ≤ rows.length then some (.osl id 1 off n n, H) else none)
    else match rows with
     | [row] => if sz' = sz ∧ off + n ≤ row.length then some (.osl id 1 off n n, H.set id (some (1, row.map fun c => [c]))) else none
     | _ => none
   else none
  | none => none
 | _, _ => none
def aRange (P : Program) (t : TypeId) (a : AVal) (H : Heap) : Option (AVal × Heap) :=
 match P.underlying t, a with
 | some (.map _ _), .ptr id 0 0 0 => match H[id]? with
  | some (some (0, [.v (.int .i64 c)] :: _)) => some (.ptr H.length 1 0 0, H ++ [some (0, [[.ptr id 0 0 0, .v (.int .i64 c), .v (.int .i64 c)], []])])
  | some (some (0, [])) => some (.ptr H.length 1 0 0, H ++ [some (0, [[.ptr id 0 0 0, .junk, .junk], []])])
  | _ => none
 | _, _ => none
def stampR (s : Int) : List Row → Option (AVal × AVal)
 | [] => none
 | [k, a, .v (.int .i64 t)] :: r => if t = s then some (k, a) else stampR s r
 | _ => none
def aEntry (a : AVal) (H : Heap) : Option AVal :=
 match a with
 | .ptr rid 1 0 0 => match H[rid]? with
  | some (some (0, [[.ptr id 0 0 0, .v (.int .i64 _), .v (.int .i64 c)], seen])) => match H[id]?, seen.getLast? with
   | some (some (0, [.v (.int .i64 c')] :: es)), some (.v (.int .i64 s)) => if c = c' then (stampR s es).map fun r => .tup [r.1, r.2] else none
   | _, _ => none
  | _ => none
 | _ => none
def aNext (a : AVal) (H : Heap) : Option AVal :=
 match a with
 | .ptr rid 1 0 0 => match H[rid]? with
  | some (some (0, [[.ptr id 0 0 0, _, _], []])) => match H[id]? with
   | some (some (0, [])) => some (.v (.tuple #[.bool false]))
   | _ => none
  | _ => none
 | _ => none
def strB (l : List Int) : ByteArray := l.foldl (fun b a => b.push (UInt8.ofNat a.toNat)) .empty
def bytesR : List Row → Option (List Int)
 | [] => some []
 | [.v (.int .u8 n)] :: r => (bytesR r).map (n :: ·)
 | _ => none
def strT (P : Program) (s d : TypeId) : Bool :=
 match P.underlying d, P.underlying s with
 | some .string, some (.slice e) => match P.underlying e with
  | some (.int .u8) => true
  | _ => false
 | _, _ => false
def aStr (P : Program) (s d : TypeId) (a : AVal) (H : Heap) : Option AVal :=
 if strT P s d = true then (rowsOf H 1 (soft a)).bind fun rows => (bytesR rows).map fun l => .v (.string (strB l)) else none
def bytRows (b : ByteArray) : List Row := b.data.toList.map fun x => [.v (.int .u8 x.toNat)]
def aByt (P : Program) (s d : TypeId) (a : Value) : Option AVal :=
 match a with
 | .string b => match P.underlying s, P.underlying d with
  | some _, some (.slice e) => match P.underlying e with
   | some (.int .u8) => some (.fsl true 1 (bytRows b))
   | _ => none
  | _, _ => none
 | _ => none
def aMkI (P : Program) (t : TypeId) (a : AVal) : Option AVal :=
 match P.underlying t with
 | some (.interface _) => none
 | some _ => some (.ifc t a)
 | none => none
def methodF (P : Program) (t : TypeId) (name : String) : Option FuncId :=
 match P.info? t, P.underlying t with
 | some i, some d => match i.methods.find? (·.name == name) with
  | some m => if m.path.toList = [] then (match m.func, d with
    | some (f, true), .pointer _ => some f
    | some (_, _), .pointer _ => none
    | some (f, false), _ => some f
    | _, _ => none) else none
  | none => none
 | _, _ => none
def statM (inl : FuncId → Bool) (name : String) : Bool := name == "Stat" && !inl 1000000009
def aInvoke (P : Program) (C : Orc) (name : String) (a : AVal) (args : List AVal) (H : Heap) : Option (AVal × Heap) :=
 match a with
 | .ifc t x => match methodF P t name with
  | some g => match statM C.inl name && C.inl g with
   | true => none
   | false => aCall P C true (.fn g []) (x :: args) H
  | none => none
 | _ => none
def astepE (P : Program) (C : Orc) (e : AEv) (o : Oper) (H : Heap) : Option (AVal × Heap) :=
 match o.op with
 | .move x => some (e x, H)
 | .assign x => some (e x, H)
 | .binOp op t x y _ => match aBin P op t x y (e x) (e y) with
  | some a => some (a, H)
  | none => match x, y with
   | .tmp _, .tmp _ => (aEqH P op t (e x) (e y) H).map (·, H)
   | _, _ => none
 | .unOp op _ x => match e x with
  | .v a => (asV (pr P (Op.unary op a))).map (·, H)
  | _ => none
 | .convert s d x => match e x with
  | .v a => match asV (pr P (convert s d a)) with
   | some r => some (r, H)
   | none => (aByt P s d a).map (·, H)
  | a => (aStr P s d a H).map (·, H)
 | .extract x i => (aExtract (e x) i).map (·, H)
 | .alloc t => aAlloc P t H
 | .box _ x => aBox (e x) H
 | .build t parts => (aBuild P t (parts.toList.map fun p => (p.1, e p.2))).map (·, H)
 | .buildSlice t len parts => aBuildSlice P t len (parts.toList.map fun p => (p.1, e p.2)) H
 | .load t x => (aLoad P t (e x) H).map (·, H)
 | .store t x y => (aStore P t (e x) (e y) H).map fun H' => (.v undef, H')
 | .fieldAddr s x f => (aFieldAddr P s (e x) f).map (·, H)
 | .field s x f => (aField P s (e x) f).map (·, H)
 | .indexAddr t x i => (aIndexAddr P t (e x) (e i)).map (·, H)
 | .index t x i => (aIndex P t (e x) (e i)).map (·, H)
 | .slice t x lo hi mx => match aSlice P t (e x) (lo.map e) (hi.map e) (mx.map e) with
  | some a => some (a, H)
  | none => match lo, hi, mx with
   | none, none, none => aSliceA P t (e x) H
   | _, _, _ => none
 | .makeSlice t l c => aMakeSlice P t (e l) (e c) H
 | .nilCheck x => match e x with
  | .ptr id sz i off => if sz = 0 then none else some (.ptr id sz i off, H)
  | .fptr row off => some (.fptr row off, H)
  | .fn f caps => some (.fn f caps, H)
  | .ifc t y => some (.ifc t y, H)
  | .meth n t => if (methodF P t n).isSome then some (.meth n t, H) else none
  | _ => none
 | .makeMap _ none => some (.ptr H.length 0 0 0, H ++ [some (0, [])])
 | .lookup t m k ok => (aLookup P t (e m) (e k) ok H).map (·, H)
 | .mapUpdate t m k x => (aMapUpdate P t (e m) (e k) (e x) H).map fun H' => (.v undef, H')
 | .range t x => aRange P t (e x) H
 | .entry x => (aEntry (e x) H).map (·, H)
 | .next x false => (aNext (e x) H).map (·, H)
 | .makeFunc (.func f) first caps => if first.size = 0 then some (.fn f (caps.toList.map e), H) else none
 | .makeFunc (.method n) first caps => match first.toList, caps.toList with
  | [x], [] => match e x with
   | .ifc t _ => some (.meth n t, H)
   | _ => none
  | _, _ => none
 | .makeInterface t x => (aMkI P t (e x)).map (·, H)
 | .call c => match c.callee with
  | .builtin b => aBuiltin P b c.argTypes (c.args.toList.map e) H
  | .value f => aCall P C (isStatic f) (e f) (c.args.toList.map e) H
  | .invoke r name => aInvoke P C name (e r) (c.args.toList.map e) H
 | _ => none
def aPick (g : Bool) (t a b : AVal) : Option AVal :=
 match t with
 | .v (.bool t) => some (if t then res (g && t) a else res (g && !t) b)
 | _ => none
def astep (P : Program) (C : Orc) (g : Bool) (r : AEv) (o : Oper) (H : Heap) : Option (AVal × Heap) :=
 match o.op with
 | .pick c a b => (aPick g (res g (r c)) (r a) (r b)).map (·, H)
 | _ => astepE P C (fun x => res g (r x)) o H
end Go.AI
/- The relation between what is known and what is in memory. -/
namespace Go.AI
set_option linter.unusedSectionVars false
variable [Sym]
set_option linter.unusedSimpArgs false
set_option linter.unusedVariables false
open Go.RowKit
inductive R (β : Nat → Nat) (ok : Bool → Nat → Prop) (w : World) : Nat → AVal → Value → Prop
 | junk {n x} : R β ok w n .junk x
 | anyb {n b} : R β ok w n .anyb (.bool b)
 | anyi {n k i} : R β ok w n (.anyi k) (.int k i)
 | str {n k s} (h : Sym.P k s) : R β ok w n (.str k) s
 | v {n x} : R β ok w n (.v x) x
 | ptr {n id sz i off} (h : id < n) (h0 : sz ≠ 0) : R β ok w n (.ptr id sz i off) (.pointer (some ⟨β id, i * sz + off, none⟩))
 | mp {n id} (h : id < n) : R β ok w n (.ptr id 0 0 0) (.map (some (β id)))
 | fptr {n row off b o} (x : Nat → Value) (hb : row ≠ [] → ok false b) (hc : ∀ j : Nat, j < row.length → w.cell? ⟨b, o + j, none⟩ = some (x j))
   (hr : ∀ (j : Nat) (a : AVal), row[j]? = some a → R β ok w 0 a (x j)) : R β ok w n (.fptr row off) (.pointer (some ⟨b, o + off, none⟩))
 | osl {n id sz s len kc a cap} (h : id < n) (hl : len ≤ kc) (hk : kc ≤ cap)
   (ha : cap = 0 ∨ (a = ⟨β id, s * sz, none⟩ ∧ ∃ (cs : Array Value) (e : TypeId) (f : Nat × Nat), w.heap[β id]? = some (.cells cs e f) ∧ (s + cap) * sz ≤ cs.size)) :
   R β ok w n (.osl id sz s len kc) (.slice (some a) len cap)
 | xsl {n id sz s len cap a} (h : id < n) (hl : len ≤ cap)
   (ha : cap = 0 ∨ (a = ⟨β id, s * sz, none⟩ ∧ ∃ (cs : Array Value) (e : TypeId) (f : Nat × Nat), w.heap[β id]? = some (.cells cs e f) ∧ (s + cap) * sz ≤ cs.size)) :
   R β ok w n (.xsl id sz s len cap) (.slice (some a) len cap)
 | fsl {n o sz rows b off cap} (x : Nat → Nat → Value) (hl : rows.length ≤ cap) (hs : ∀ r ∈ rows, r.length = sz) (hb : (∃ r ∈ rows, r ≠ []) → ok o b)
   (hc : ∀ i j : Nat, i < rows.length → j < sz → w.cell? ⟨b, off + i * sz + j, none⟩ = some (x i j) ∧ (x i j).oneCell' = true)
   (hr : ∀ (i : Nat) (r : Row), rows[i]? = some r → ∀ (j : Nat) (a : AVal), r[j]? = some a → R β ok w 0 a (x i j)) :
   R β ok w n (.fsl o sz rows) (.slice (some ⟨b, off, none⟩) rows.length cap)
 | fsl0 {n o sz a cap} : R β ok w n (.fsl o sz []) (.slice a 0 cap)
 | esl {n a} : R β ok w n .esl (.slice a 0 0)
 | agg {n cs xs} (hl : cs.length = xs.size) (hr : ∀ (j : Nat) (a : AVal), cs[j]? = some a → R β ok w n a (xs[j]?.getD undef)) : R β ok w n (.agg cs) (.agg xs)
 | tup {n cs xs} (hl : cs.length = xs.size) (hr : ∀ (j : Nat) (a : AVal), cs[j]? = some a → R β ok w n a (xs[j]?.getD undef)) : R β ok w n (.tup cs) (.tuple xs)
 | fn {n f cs xs} (hl : cs.length = xs.size) (hr : ∀ (j : Nat) (a : AVal), cs[j]? = some a → R β ok w n a (xs[j]?.getD undef)) : R β ok w n (.fn f cs) (.func (.func f) #[] xs)
 | when {n b a x} (h : b = true → R β ok w n a x) (hu : b = false → x = undef) : R β ok w n (.when b a) x
 | ifc {n t a x} (h : R β ok w n a x) : R β ok w n (.ifc t a) (.iface t x)
 | meth {n nm t x} : R β ok w n (.meth nm t) (.func (.method nm) #[.iface t x] #[])
theorem ne_of_lt_len {α : Type} {l : List α} {j : Nat} (h : j < l.length) : l ≠ [] := by rintro rfl; simp at h
theorem ne_of_lt_rows {rows : List Row} {sz i j : Nat} (hs : ∀ r ∈ rows, r.length = sz) (hi : i < rows.length) (hj : j < sz) : ∃ r ∈ rows, r ≠ [] :=
 ⟨rows[i], List.getElem_mem hi, ne_of_lt_len (j := j) (by rw [hs _ (List.getElem_mem hi)]; exact hj)⟩
theorem ne_map {α γ : Type} {f : α → γ} {l : List α} (h : l.map f ≠ []) : l ≠ [] := by rintro rfl; exact h rfl
theorem ne_maps {f : Row → Row} (hf : ∀ r, f r ≠ [] → r ≠ []) {rows : List Row} (h : ∃ r ∈ rows.map f, r ≠ []) : ∃ r ∈ rows, r ≠ [] := by
 obtain ⟨r, hr, hn⟩ := h
 obtain ⟨q, hq, rfl⟩ := List.mem_map.1 hr
 exact ⟨q, hq, hf _ hn⟩
def Shapes (w w' : World) : Prop := ∀ (b : Nat) (cs : Array Value) (e : TypeId) (f : Nat × Nat), w.heap[b]? = some (.cells cs e f) → ∃ (cs' : Array Value) (f' : Nat × Nat), w'.heap[b]? = some (.cells cs' e f') ∧ cs'.size = cs.size
theorem Shapes.refl (w : World) : Shapes w w := fun _ cs _ f h => ⟨cs, f, h, rfl⟩
theorem Shapes.trans {a b c : World} (h : Shapes a b) (k : Shapes b c) : Shapes a c := fun n cs e f hh => by
 obtain ⟨cs', f', h1, h2⟩ := h n cs e f hh
 obtain ⟨cs'', f'', h3, h4⟩ := k n cs' e f' h1
 exact ⟨cs'', f'', h3, h4.trans h2⟩
theorem cell_of_heap {w w' : World} {b o : Nat} (h : w'.heap[b]? = w.heap[b]?) : w'.cell? ⟨b, o, none⟩ = w.cell? ⟨b, o, none⟩ :=
 World.cell?_of_block h
theorem R.mono {β β' : Nat → Nat} {ok ok' : Bool → Nat → Prop} {w w' : World} {n n' : Nat} {a : AVal} {x : Value} (h : R β ok w n a x) (hn : n ≤ n')
  (hβ : ∀ id, id < n → β' id = β id) (hok : ∀ o b, ok o b → ok' o b) (hblk : ∀ o b, ok o b → w'.heap[b]? = w.heap[b]?)
  (hsh : Shapes w w') : R β' ok' w' n' a x := by
 induction h generalizing n' with
 | junk => exact .junk
 | anyb => exact .anyb
 | anyi => exact .anyi
 | str h => exact .str h
 | v => exact .v
 | @ptr n id sz i off h h0 => rw [← hβ id h]; exact .ptr (by omega) h0
 | @mp n id h => rw [← hβ id h]; exact .mp (by omega)
 | fptr x hb hc hr ih =>
  exact .fptr x (fun h => hok _ _ (hb h)) (fun j hj => (cell_of_heap (hblk _ _ (hb (ne_of_lt_len hj)))).trans (hc j hj)) (fun j a ha => ih j a ha (Nat.le_refl 0) (fun _ h => absurd h (Nat.not_lt_zero _)))
 | @osl n id sz s len kc a cap h hl hk ha =>
  refine .osl (by omega) hl hk ?_
  rcases ha with ha | ⟨ha, cs, e, f, hcs, hle⟩
  ·exact .inl ha
  ·obtain ⟨cs', f', h1, h2⟩ := hsh _ _ _ _ hcs
   exact .inr ⟨by rw [hβ id h]; exact ha, cs', e, f', by rw [hβ id h]; exact h1, by omega⟩
 | @xsl n id sz s len cap a h hl ha =>
  refine .xsl (by omega) hl ?_
  rcases ha with ha | ⟨ha, cs, e, f, hcs, hle⟩
  ·exact .inl ha
  ·obtain ⟨cs', f', h1, h2⟩ := hsh _ _ _ _ hcs
   exact .inr ⟨by rw [hβ id h]; exact ha, cs', e, f', by rw [hβ id h]; exact h1, by omega⟩
 | fsl x hl hs hb hc hr ih =>
  exact .fsl x hl hs (fun h => hok _ _ (hb h)) (fun i j hi hj => ⟨(cell_of_heap (hblk _ _ (hb (ne_of_lt_rows hs hi hj)))).trans (hc i j hi hj).1, (hc i j hi hj).2⟩) (fun i r hi j a ha => ih i r hi j a ha (Nat.le_refl 0) (fun _ h => absurd h (Nat.not_lt_zero _)))
 | fsl0 => exact .fsl0
 | esl => exact .esl
 | agg hl hr ih => exact .agg hl fun j a ha => ih j a ha hn hβ
 | tup hl hr ih => exact .tup hl fun j a ha => ih j a ha hn hβ
 | fn hl hr ih => exact .fn hl fun j a ha => ih j a ha hn hβ
 | when h hu ih => exact .when (fun hb => ih hb hn hβ) hu
 | ifc h ih => exact .ifc (ih hn hβ)
 | meth => exact .meth
theorem soft_R {β : Nat → Nat} {ok : Bool → Nat → Prop} {w : World} {n : Nat} {a : AVal} {x : Value} (h : R β ok w n a x) : R β ok w n (soft a) x := by
 unfold soft
 split
 ·cases h with
  | xsl h hl ha => exact .osl h hl (Nat.le_refl _) ha
 ·exact h
def okOf (base : Nat) (fz : Nat → Prop) (o : Bool) (b : Nat) : Prop := fz b ∧ (o = true → base ≤ b)
def Live (H : Heap) (id : Nat) : Prop := ∃ o, H[id]? = some (some o)
def CSim (base : Nat) (β : Nat → Nat) (fz : Nat → Prop) (w : World) (n id sz : Nat) (rows : List Row) : Prop :=
 ∃ (cs : Array Value) (e : TypeId), w.heap[β id]? = some (.cells cs e (0, 0)) ∧ (∀ r ∈ rows, r.length = sz) ∧ rows.length * sz ≤ cs.size ∧ (∀ (j : Nat) (c : Value), cs[j]? = some c → c.oneCell' = true) ∧
  ∀ (i : Nat) (r : Row), rows[i]? = some r → ∀ (j : Nat) (a : AVal), r[j]? = some a → R β (okOf base fz) w n a (cs[i * sz + j]?.getD undef)
structure Born (es : List MapEntry) (clock : Nat) : Prop where
 nodup : (es.map (·.born)).Nodup
 lt : ∀ e ∈ es, e.born < clock
def MSimO (base : Nat) (β : Nat → Nat) (fz : Nat → Prop) (w : World) (n id : Nat) (rows : List Row) : Prop :=
 ∃ (es : Array MapEntry) (clock : Nat), w.heap[β id]? = some (.map es clock) ∧ es.size = rows.length ∧ Born es.toList clock ∧
  ∀ (i : Nat) (r : Row), rows[i]? = some r → ∃ (en : MapEntry) (a : AVal), es[i]? = some en ∧ r = [.v en.key, a] ∧ R β (okOf base fz) w n a en.val
def MSim (base : Nat) (β : Nat → Nat) (fz : Nat → Prop) (w : World) (n id : Nat) (rows : List Row) : Prop :=
 ∃ rs : List Row, rs.Perm rows ∧ MSimO base β fz w n id rs
def Fits (o : Obj) (xs : List (List Value)) : Prop :=
 (∃ (es : Array MapEntry) (clock : Nat), o = .map es clock ∧ Born es.toList clock ∧ xs = [.int .i64 (clock : Int)] :: es.toList.map fun e => [e.key, e.val, .int .i64 (e.born : Int)]) ∨
 (∃ (m since stepped : Nat) (seen : Array Nat), o = .mapIter (some m) since seen stepped ∧ xs = [[.map (some m), .int .i64 (since : Int), .int .i64 (stepped : Int)], seen.toList.map fun s => .int .i64 (s : Int)])
def RowsR (β : Nat → Nat) (ok : Bool → Nat → Prop) (w : World) (n : Nat) (rows : List Row) (xs : List (List Value)) : Prop :=
 xs.length = rows.length ∧ ∀ (i : Nat) (r : Row) (x : List Value), rows[i]? = some r → xs[i]? = some x → x.length = r.length ∧ ∀ (j : Nat) (a : AVal) (v : Value), r[j]? = some a → x[j]? = some v → R β ok w n a v
def GSim (base : Nat) (β : Nat → Nat) (fz : Nat → Prop) (w : World) (n id : Nat) (rows : List Row) : Prop :=
 ∃ (o : Obj) (xs : List (List Value)), w.heap[β id]? = some o ∧ Fits o xs ∧ RowsR β (okOf base fz) w n rows xs ∧ ∃ (r : Row) (rs : List Row), rows = r :: rs ∧ r.length ≠ 2
theorem GSim.map {base base' n n' id id' : Nat} {β β' : Nat → Nat} {fz fz' : Nat → Prop} {w w' : World} {rows : List Row} (h : GSim base β fz w n id rows) {f : AVal → AVal}
  (hf : ∀ r ∈ rows, ∀ a ∈ r, ∀ v, R β (okOf base fz) w n a v → R β' (okOf base' fz') w' n' (f a) v) (hb : w'.heap[β' id']? = w.heap[β id]?) : GSim base' β' fz' w' n' id' (rows.map (List.map f)) := by
 obtain ⟨o, xs, h1, h2, ⟨h3, h4⟩, r, rs, h5, h6⟩ := h
 refine ⟨o, xs, hb.trans h1, h2, ⟨by simpa using h3, fun i r x hi hx => ?_⟩, r.map f, rs.map (List.map f), by rw [h5]; rfl, by simpa using h6⟩
 simp only [List.getElem?_map, Option.map_eq_some_iff] at hi
 obtain ⟨r', hr', rfl⟩ := hi
 obtain ⟨k1, k2⟩ := h4 i r' x hr' hx
 refine ⟨by simpa using k1, fun j a v ha hv => ?_⟩
 simp only [List.getElem?_map, Option.map_eq_some_iff] at ha
 obtain ⟨a', ha', rfl⟩ := ha
 exact hf r' (List.mem_of_getElem? hr') a' (List.mem_of_getElem? ha') v (k2 j a' v ha' hv)
theorem GSim.unmap {base base' n n' id id' : Nat} {β β' : Nat → Nat} {fz fz' : Nat → Prop} {w w' : World} {rows : List Row} {f : AVal → AVal} (h : GSim base β fz w n id (rows.map (List.map f)))
  (hf : ∀ r ∈ rows, ∀ a ∈ r, ∀ v, R β (okOf base fz) w n (f a) v → R β' (okOf base' fz') w' n' a v) (hb : w'.heap[β' id']? = w.heap[β id]?) : GSim base' β' fz' w' n' id' rows := by
 obtain ⟨o, xs, h1, h2, ⟨h3, h4⟩, r, rs, h5, h6⟩ := h
 refine ⟨o, xs, hb.trans h1, h2, ⟨by simpa using h3, fun i r x hi hx => ?_⟩, ?_⟩
 ·obtain ⟨k1, k2⟩ := h4 i (r.map f) x (by simp [hi]) hx
  exact ⟨by simpa using k1, fun j a v ha hv => hf r (List.mem_of_getElem? hi) a (List.mem_of_getElem? ha) v (k2 j (f a) v (by simp [ha]) hv)⟩
 ·cases rows with
  | nil => cases h5
  | cons q qs =>
   simp only [List.map_cons, List.cons.injEq] at h5
   exact ⟨q, qs, rfl, by rw [← h5.1] at h6; simpa using h6⟩
theorem GSim.same {base base' n n' id id' : Nat} {β β' : Nat → Nat} {fz fz' : Nat → Prop} {w w' : World} {rows : List Row} (h : GSim base β fz w n id rows)
  (hf : ∀ r ∈ rows, ∀ a ∈ r, ∀ v, R β (okOf base fz) w n a v → R β' (okOf base' fz') w' n' a v) (hb : w'.heap[β' id']? = w.heap[β id]?) : GSim base' β' fz' w' n' id' rows := by
 have := h.map (f := fun a => a) hf hb
 simpa using this
theorem GSim.cells {base n id : Nat} {β : Nat → Nat} {fz : Nat → Prop} {w : World} {rows : List Row} (h : GSim base β fz w n id rows) {cs : Array Value} {e : TypeId} {f : Nat × Nat} : w.heap[β id]? ≠ some (.cells cs e f) := by
 obtain ⟨o, xs, h1, h2, _⟩ := h
 intro hc
 rw [h1] at hc
 cases hc
 rcases h2 with ⟨_, _, h2, _⟩ | ⟨_, _, _, _, h2, _⟩ <;> cases h2
def KSim (base : Nat) (β : Nat → Nat) (fz : Nat → Prop) (w : World) (n id : Nat) (rows : List Row) : Prop := MSim base β fz w n id rows ∨ GSim base β fz w n id rows
theorem KSim.ofMap {base n id : Nat} {β : Nat → Nat} {fz : Nat → Prop} {w : World} {rows : List Row} (h : KSim base β fz w n id rows) (h2 : ∀ r rs, rows = r :: rs → r.length = 2) : MSim base β fz w n id rows := by
 rcases h with h | ⟨_, _, _, _, _, r, rs, h5, h6⟩
 ·exact h
 ·exact absurd (h2 r rs h5) h6
def OSim (base : Nat) (β : Nat → Nat) (fz : Nat → Prop) (w : World) (n id sz : Nat) (rows : List Row) : Prop :=
 if sz = 0 then KSim base β fz w n id rows else CSim base β fz w n id sz rows
structure Below (B : Nat) (w w' : World) : Prop where
 os : w'.os = w.os
 tape : w'.tape = w.tape
 output : w'.output = w.output
 size : w.heap.size ≤ w'.heap.size
 block : ∀ k, k < B → w'.heap[k]? = w.heap[k]?
 drawn : w.drawn ≤ w'.drawn
theorem Below.kit {B : Nat} {w w' : World} (h : Below B w w') : RowKit.Below B w w' := ⟨h.os, h.tape, h.output, h.size, h.block⟩
theorem Below.refl (B : Nat) (w : World) : Below B w w := ⟨rfl, rfl, rfl, Nat.le_refl _, fun _ _ => rfl, Nat.le_refl _⟩
theorem Below.trans {B : Nat} {a b c : World} (h : Below B a b) (k : Below B b c) : Below B a c :=
 ⟨k.os.trans h.os, k.tape.trans h.tape, k.output.trans h.output, Nat.le_trans h.size k.size, fun i hi => (k.block i hi).trans (h.block i hi), Nat.le_trans h.drawn k.drawn⟩
theorem Below.mono {B B' : Nat} {w w' : World} (h : Below B w w') (hB : B' ≤ B) : Below B' w w' := ⟨h.os, h.tape, h.output, h.size, fun k hk => h.block k (Nat.lt_of_lt_of_le hk hB), h.drawn⟩
theorem Below.drew {B : Nat} {a w : World} (h : Below B a w) : Below B a w.drew := ⟨h.os, h.tape, h.output, h.size, h.block, Nat.le_succ_of_le h.drawn⟩
theorem Below.heap_alloc (w : World) (o : Obj) (k : Nat) (h : k < w.heap.size) : (w.alloc o).heap[k]? = w.heap[k]? := RowKit.Below.heap_alloc w o k h
theorem Below.alloc {B : Nat} {a w : World} (h : Below B a w) (hB : B ≤ w.heap.size) (o : Obj) : Below B a (w.alloc o) :=
 h.trans ⟨rfl, rfl, rfl, by simp, fun k hk => Below.heap_alloc _ _ _ (by omega), Nat.le_refl _⟩
structure HSim (base : Nat) (w0 : World) (β : Nat → Nat) (fz : Nat → Prop) (H : Heap) (w : World) : Prop where
 objs' : ∀ (id sz : Nat) (rows : List Row), H[id]? = some (some (sz, rows)) → OSim base β fz w H.length id sz rows
 inj : ∀ id id', Live H id → Live H id' → β id = β id' → id = id'
 own : ∀ id, Live H id → base ≤ β id ∧ ¬ fz (β id)
 fzlt : ∀ b, fz b → b < w.heap.size
 below : Below base w0 w
 base : base ≤ w0.heap.size
theorem obj_live {H : Heap} {id : Nat} {o : Nat × List Row} (h : obj H id = some o) : H[id]? = some (some o) ∧ o.1 ≠ 0 := by
 unfold obj at h
 cases h1 : H[id]? with
 | none => rw [h1] at h; cases h
 | some x =>
  cases x with
  | none => rw [h1] at h; cases h
  | some q =>
   rw [h1] at h
   simp only [Option.bind_some] at h
   split at h
   ·cases h
   ·rename_i h0; cases h; exact ⟨rfl, h0⟩
theorem HSim.cells {base : Nat} {w0 : World} {β : Nat → Nat} {fz : Nat → Prop} {H : Heap} {w : World} (hs : HSim base w0 β fz H w) {id sz : Nat} {rows : List Row} (h : obj H id = some (sz, rows)) : CSim base β fz w H.length id sz rows := by
 obtain ⟨h1, h2⟩ := obj_live h
 have := hs.objs' id sz rows h1
 rwa [OSim, if_neg h2] at this
theorem HSim.cells0 {base : Nat} {w0 : World} {β : Nat → Nat} {fz : Nat → Prop} {H : Heap} {w : World} (hs : HSim base w0 β fz H w) {id sz : Nat} {rows : List Row} (h : H[id]? = some (some (sz, rows))) (h0 : sz ≠ 0) : CSim base β fz w H.length id sz rows := by
 have := hs.objs' id sz rows h
 rwa [OSim, if_neg h0] at this
theorem HSim.cells1 {base : Nat} {w0 : World} {β : Nat → Nat} {fz : Nat → Prop} {H : Heap} {w : World} (hs : HSim base w0 β fz H w) {id sz : Nat} {rows : List Row} (h : H[id]? = some (some (sz, rows))) {cs : Array Value} {e : TypeId} {f : Nat × Nat} (hc : w.heap[β id]? = some (.cells cs e f)) : sz ≠ 0 ∧ CSim base β fz w H.length id sz rows := by
 have h1 := hs.objs' id sz rows h
 unfold OSim at h1
 split at h1
 ·rcases h1 with ⟨_, _, es, clock, h2, _⟩ | h1
  ·rw [hc] at h2; cases h2
  ·exact absurd hc h1.cells
 ·exact ⟨by assumption, h1⟩
theorem HSim.blt {base : Nat} {w0 : World} {β : Nat → Nat} {fz : Nat → Prop} {H : Heap} {w : World} (hs : HSim base w0 β fz H w) {id : Nat} (h : Live H id) : β id < w.heap.size := by
 obtain ⟨⟨sz, rows⟩, h⟩ := h
 have h1 := hs.objs' id sz rows h
 unfold OSim at h1
 split at h1
 ·rcases h1 with ⟨_, _, es, clock, h2, _⟩ | ⟨_, _, h2, _⟩ <;> exact (Array.getElem?_eq_some_iff.1 h2).1
 ·obtain ⟨cs, e, h2, _⟩ := h1
  exact (Array.getElem?_eq_some_iff.1 h2).1
structure Ext (n : Nat) (β : Nat → Nat) (fz : Nat → Prop) (w : World) (n' : Nat) (β' : Nat → Nat) (fz' : Nat → Prop) (w' : World) : Prop where
 hn : n ≤ n'
 hβ : ∀ id, id < n → β' id = β id
 hfz : ∀ b, fz b → fz' b
 blk : ∀ b, fz b → w'.heap[b]? = w.heap[b]?
 shape : Shapes w w'
theorem Ext.refl (n : Nat) (β : Nat → Nat) (fz : Nat → Prop) (w : World) : Ext n β fz w n β fz w := ⟨Nat.le_refl _, fun _ _ => rfl, fun _ h => h, fun _ _ => rfl, Shapes.refl _⟩
theorem Ext.trans {n n' n'' : Nat} {β β' β'' : Nat → Nat} {fz fz' fz'' : Nat → Prop} {w w' w'' : World} (h : Ext n β fz w n' β' fz' w') (k : Ext n' β' fz' w' n'' β'' fz'' w'') : Ext n β fz w n'' β'' fz'' w'' :=
 ⟨Nat.le_trans h.hn k.hn, fun id hi => (k.hβ id (Nat.lt_of_lt_of_le hi h.hn)).trans (h.hβ id hi), fun b hb => k.hfz b (h.hfz b hb), fun b hb => (k.blk b (h.hfz b hb)).trans (h.blk b hb), h.shape.trans k.shape⟩
theorem R.ext {base n n' : Nat} {β β' : Nat → Nat} {fz fz' : Nat → Prop} {w w' : World} {a : AVal} {x : Value} (h : R β (okOf base fz) w n a x) (k : Ext n β fz w n' β' fz' w') : R β' (okOf base fz') w' n' a x :=
 h.mono k.hn k.hβ (fun _ b hb => ⟨k.hfz b hb.1, hb.2⟩) (fun _ b hb => k.blk b hb.1) k.shape
theorem OSim.ext {base n n' : Nat} {β β' : Nat → Nat} {fz fz' : Nat → Prop} {w w' : World} {id id' sz : Nat} {rows : List Row} (h : OSim base β fz w n id sz rows) (k : Ext n β fz w n' β' fz' w') (hb : w'.heap[β' id']? = w.heap[β id]?) : OSim base β' fz' w' n' id' sz rows := by
 unfold OSim at h ⊢
 split
 ·rename_i h0
  rw [if_pos h0] at h
  rcases h with h | h
  case inr => exact .inr (h.same (fun _ _ _ _ _ hr => hr.ext k) hb)
  obtain ⟨rs, hp, es, clock, h1, h2, hbn, h3⟩ := h
  refine .inl ⟨rs, hp, es, clock, hb.trans h1, h2, hbn, fun i r hi => ?_⟩
  obtain ⟨en, a, g1, g2, g3⟩ := h3 i r hi
  exact ⟨en, a, g1, g2, g3.ext k⟩
 ·rename_i h0
  rw [if_neg h0] at h
  obtain ⟨cs, e, h1, h2, h3, h4, h5⟩ := h
  exact ⟨cs, e, hb.trans h1, h2, h3, h4, fun i r hi j a ha => (h5 i r hi j a ha).ext k⟩
structure Fr where
 nt : Nat
 n0 : Nat
 βe : Nat → Nat
 fze : Nat → Prop
 we : World
structure Sim (nt : Fr) (base : Nat) (w0 : World) (β : Nat → Nat) (fz : Nat → Prop) (ρ : Env) (H : Heap) (a : Act) (w : World) : Prop where
 heap : HSim base w0 β fz H w
 defers : a.defers = []
 size : a.tmps.size = nt.nt
 ext : Ext nt.n0 nt.βe nt.fze nt.we H.length β fz w
 env : ∀ t, R β (okOf base fz) w H.length (look ρ t) (a.tmps.getD t undef)
theorem Sim.ev {nt : Fr} {base : Nat} {w0 : World} {β : Nat → Nat} {fz : Nat → Prop} {ρ : Env} {H : Heap} {a : Act} {w : World} (h : Sim nt base w0 β fz ρ H a w) (x : Operand) :
  R β (okOf base fz) w H.length (ev ρ x) (a.eval x) := by
 cases x with
 | tmp t => exact h.env t
 | const c => exact .v
 | global g => exact .junk
 | func f => exact .fn rfl (fun j a ha => by simp at ha)
structure SimE (base : Nat) (w0 : World) (β : Nat → Nat) (fz : Nat → Prop) (e : AEv) (H : Heap) (a : Act) (w : World) : Prop where
 heap : HSim base w0 β fz H w
 ev : ∀ x : Operand, R β (okOf base fz) w H.length (e x) (a.eval x)
theorem res_R {β : Nat → Nat} {ok : Bool → Nat → Prop} {w : World} {n : Nat} {g : Bool} {a : AVal} {x : Value} (hg : g = true) (h : R β ok w n a x) : R β ok w n (res g a) x := by
 unfold res
 split
 ·cases h with
  | when h hu =>
   split
   ·rename_i hb; exact h (hb hg)
   ·exact .junk
 ·exact h
theorem Sim.res {nt : Fr} {base : Nat} {w0 : World} {β : Nat → Nat} {fz : Nat → Prop} {ρ : Env} {H : Heap} {a : Act} {w : World} (h : Sim nt base w0 β fz ρ H a w) {g : Bool} (hg : g = true) :
  SimE base w0 β fz (fun x => res g (AI.ev ρ x)) H a w := ⟨h.heap, fun x => res_R hg (h.ev x)⟩
theorem Sim.put {nt : Fr} {base : Nat} {w0 : World} {β β' : Nat → Nat} {fz fz' : Nat → Prop} {ρ : Env} {H H' : Heap} {a : Act} {w w' : World} (h : Sim nt base w0 β fz ρ H a w)
  (hh : HSim base w0 β' fz' H' w') (k : Ext H.length β fz w H'.length β' fz' w') {d : Option Tmp} {av : AVal} {x : Value} (hd : ∀ t, d = some t → t < nt.nt) (hx : R β' (okOf base fz') w' H'.length av x) :
  Sim nt base w0 β' fz' (put ρ d av) H' (a.put d x) w' := by
 cases d with
 | none => exact ⟨hh, h.defers, h.size, h.ext.trans k, fun t => (h.env t).ext k⟩
 | some t =>
  have ht := hd t rfl
  refine ⟨hh, h.defers, by simp [Act.put, h.size], h.ext.trans k, fun s => ?_⟩
  simp only [AI.put, look, Act.put]
  by_cases hs : s = t
  ·subst hs
   rw [if_pos rfl]
   have : (a.tmps.setIfInBounds s x).getD s undef = x := by
    simp [Array.getD, h.size, ht]
   rw [this]; exact hx
  ·rw [if_neg hs]
   have : (a.tmps.setIfInBounds t x).getD s undef = a.tmps.getD s undef := by
    simp only [Array.getD_eq_getD_getElem?]
    rw [Array.getElem?_setIfInBounds_ne (by omega)]
   rw [this]; exact (h.env s).ext k
end Go.AI
/- Each step of the interpreter is true of the model: the heap. -/
namespace Go.AI
set_option linter.unusedSectionVars false
variable [Sym]
set_option linter.unusedSimpArgs false
set_option linter.unusedVariables false
open Go.RowKit
theorem add_none (b o k : Nat) : (⟨b, o, none⟩ : Addr).add k = ⟨b, o + k, none⟩ := by
 unfold Addr.add; split <;> simp_all
section
variable {base : Nat} {w0 : World} {β : Nat → Nat} {fz : Nat → Prop} {H : Heap} {w : World} {P : Program} {n : Nat} {ok : Bool → Nat → Prop}
theorem one_R {a : AVal} {x : Value} (h : oneA a = true) (hr : R β ok w n a x) : x.oneCell' = true := by
 cases hr with
 | str h => exact Sym.one h
 | _ => simp_all [oneA, Value.oneCell']
theorem cells_one {x : Value} (h : x.oneCell' = true) : x.cells = #[x] := by
 cases x <;> simp_all [Value.oneCell', Value.cells]
theorem cells_R {a : AVal} {cs : Row} {x : Value} (h : cellsOf a = some cs) (hr : R β ok w n a x) :
  x.cells.size = cs.length ∧ (∀ (j : Nat) (c : AVal), cs[j]? = some c → R β ok w n c (x.cells[j]?.getD undef)) ∧ ∀ c, c ∈ x.cells → c.oneCell' = true := by
 have one : ∀ a : AVal, oneA a = true → R β ok w n a x → x.cells.size = [a].length ∧ (∀ (j : Nat) (c : AVal), [a][j]? = some c → R β ok w n c (x.cells[j]?.getD undef)) ∧ ∀ c, c ∈ x.cells → c.oneCell' = true := by
  intro a ha hr
  have h1 := one_R ha hr
  rw [cells_one h1]
  refine ⟨rfl, fun j c hj => ?_, fun c hc => ?_⟩
  ·cases j with
   | zero => simp at hj; subst hj; simpa using hr
   | succ j => simp at hj
  ·simp at hc; subst hc; exact h1
 cases a with
 | v y =>
  cases hr
  by_cases hy : x.oneCell' = true
  ·have : cs = [.v x] := by
    cases x <;> simp_all [cellsOf, Value.oneCell']
   subst this
   exact one _ hy .v
  ·cases x with
   | agg ys =>
    simp only [cellsOf] at h
    split at h
    ·rename_i hall
     simp only [Option.some.injEq] at h
     subst h
     refine ⟨by simp [Value.cells], fun j c hj => ?_, fun c hc => ?_⟩
     ·simp only [List.getElem?_map, Option.map_eq_some_iff, Array.getElem?_toList] at hj
      obtain ⟨y, hy, rfl⟩ := hj
      simp only [Value.cells, hy, Option.getD_some]
      exact .v
     ·exact allOne_mem hall c (Array.mem_toList_iff.2 hc)
    ·cases h
   | _ => simp_all [Value.oneCell', cellsOf]
 | agg ys =>
  cases hr with
  | @agg _ _ xs hl hr =>
   simp only [cellsOf] at h
   split at h
   ·rename_i hall
    simp only [Option.some.injEq] at h
    subst h
    refine ⟨hl.symm, hr, fun c hc => ?_⟩
    obtain ⟨j, hj⟩ := Array.getElem?_of_mem hc
    change xs[j]? = some c at hj
    have hj' : j < xs.size := (Array.getElem?_eq_some_iff.1 hj).1
    have hjy : j < ys.length := by omega
    have := hr j ys[j] (List.getElem?_eq_getElem hjy)
    rw [hj] at this
    exact one_R (allOneA_mem hall _ (List.getElem_mem hjy)) this
   ·cases h
 | junk => simp [cellsOf] at h
 | tup vs => simp [cellsOf] at h
 | anyb => simp [cellsOf] at h; subst h; exact one _ rfl hr
 | anyi _ => simp [cellsOf] at h; subst h; exact one _ rfl hr
 | str _ => simp [cellsOf] at h; subst h; exact one _ rfl hr
 | ptr _ _ _ _ => simp [cellsOf] at h; subst h; exact one _ rfl hr
 | fptr _ _ => simp [cellsOf] at h; subst h; exact one _ rfl hr
 | osl _ _ _ _ _ => simp [cellsOf] at h; subst h; exact one _ rfl hr
 | xsl _ _ _ _ _ => simp [cellsOf] at h; subst h; exact one _ rfl hr
 | fsl _ _ _ => simp [cellsOf] at h; subst h; exact one _ rfl hr
 | esl => simp [cellsOf] at h; subst h; exact one _ rfl hr
 | fn _ _ => simp [cellsOf] at h; subst h; exact one _ rfl hr
 | when _ _ => simp [cellsOf] at h
 | ifc _ _ => simp [cellsOf] at h; subst h; exact one _ rfl hr
 | meth _ _ => simp [cellsOf] at h; subst h; exact one _ rfl hr
theorem allV_some {cs : Row} {xs : List Value} (h : allV cs = some xs) : cs = xs.map .v := by
 induction cs generalizing xs with
 | nil => simp [allV] at h; subst h; rfl
 | cons a r ih =>
  cases a <;> simp only [allV, Option.map_eq_some_iff, reduceCtorEq] at h
  obtain ⟨ys, hy, rfl⟩ := h
  simp [ih hy]
theorem mkAgg_R {cs : Row} {xs : Array Value} (hl : cs.length = xs.size) (hr : ∀ (j : Nat) (a : AVal), cs[j]? = some a → R β ok w n a (xs[j]?.getD undef)) : R β ok w n (mkAgg cs) (.agg xs) := by
 unfold mkAgg
 split
 ·rename_i ys hy
  have hcs := allV_some hy
  subst hcs
  have : xs = ys.toArray := by
   apply Array.ext (by simpa using hl.symm)
   intro j h1 h2
   have := hr j (.v (ys[j]'(by simpa using h2))) (by simp at h2; simp [h2])
   generalize hz : xs[j]?.getD undef = z at this
   cases this
   simp [h1] at hz
   simpa using hz
  rw [this]; exact .v
 ·exact .agg hl hr
theorem read_R {t : TypeId} {row : Row} {off : Nat} {a : AVal} (h : readAt P t row off = some a) (b o : Nat) (x : Nat → Value)
  (hc : ∀ j : Nat, j < row.length → w.cell? ⟨b, o + j, none⟩ = some (x j)) (hr : ∀ (j : Nat) (c : AVal), row[j]? = some c → R β ok w n c (x j)) :
  ∃ y, (loadVar t ⟨b, o + off, none⟩).run P w = .ok y w ∧ R β ok w n a y := by
 unfold readAt at h
 split at h
 ·rename_i hagg
  have hA : (isAgg t).run P w = .ok true w := by
   unfold aggOf at hagg
   unfold isAgg underlying
   cases hu : P.underlying t with
   | none => simp [hu] at hagg
   | some d => cases d <;> simp_all
  split at h
  ·rename_i k hk
   split at h
   ·rename_i hle
    simp only [Option.some.injEq] at h
    subst h
    have hS : (sizeOf t).run P w = .ok k w := by
     unfold szOf at hk
     unfold sizeOf typeInfo
     cases hi : P.info? t with
     | none => simp [hi] at hk
     | some i => simp [hi] at hk; simp [hi, hk]
    have hL := run_loadCells (P := P) w ⟨b, o + off, none⟩ k (fun j => x (off + j)) (fun j hj => by
     rw [add_none]; have := hc (off + j) (by omega); rwa [← Nat.add_assoc] at this)
    refine ⟨.agg ((List.range k).map fun j => x (off + j)).toArray, ?_, ?_⟩
    ·simp [loadVar, hA, hS, hL]
    ·refine mkAgg_R (by simp; omega) fun j c hj => ?_
     have hjk : j < k := by
      have := (List.getElem?_eq_some_iff.1 hj).1; simp at this; omega
     have : ((row.drop off).take k)[j]? = row[off + j]? := by
      rw [List.getElem?_take_of_lt hjk, List.getElem?_drop]
     rw [this] at hj
     have := hr _ _ hj
     simpa [hjk] using this
   ·cases h
  ·cases h
 ·rename_i hagg
  have hA : (isAgg t).run P w = .ok false w := by
   unfold aggOf at hagg
   unfold isAgg underlying
   cases hu : P.underlying t with
   | none => simp [hu] at hagg
   | some d => cases d <;> simp_all
  have hlt : off < row.length := (List.getElem?_eq_some_iff.1 h).1
  refine ⟨x off, ?_, hr _ _ h⟩
  simp [loadVar, hA, hc off hlt]
 ·cases h
theorem part_R {t : TypeId} {row : Row} {off : Nat} {a : AVal} (h : readAt P t row off = some a) (xs : Array Value) (hl : xs.size = row.length)
  (hr : ∀ (j : Nat) (c : AVal), row[j]? = some c → R β ok w n c (xs[j]?.getD undef)) :
  ∃ y, (part t xs off).run P w = .ok y w ∧ R β ok w n a y := by
 unfold readAt at h
 split at h
 ·rename_i hagg
  have hA : (isAgg t).run P w = .ok true w := by
   unfold aggOf at hagg
   unfold isAgg underlying
   cases hu : P.underlying t with
   | none => simp [hu] at hagg
   | some d => cases d <;> simp_all
  split at h
  ·rename_i k hk
   split at h
   ·rename_i hle
    simp only [Option.some.injEq] at h
    subst h
    have hS : (sizeOf t).run P w = .ok k w := by
     unfold szOf at hk
     unfold sizeOf typeInfo
     cases hi : P.info? t with
     | none => simp [hi] at hk
     | some i => simp [hi] at hk; simp [hi, hk]
    refine ⟨.agg (xs.extract off (off + k)), ?_, ?_⟩
    ·simp [part, hA, hS]
    ·refine mkAgg_R (by simp; omega) fun j c hj => ?_
     have hjk : j < k := by
      have := (List.getElem?_eq_some_iff.1 hj).1; simp at this; omega
     have : ((row.drop off).take k)[j]? = row[off + j]? := by
      rw [List.getElem?_take_of_lt hjk, List.getElem?_drop]
     rw [this] at hj
     have h2 := hr _ _ hj
     have : (xs.extract off (off + k))[j]? = xs[off + j]? := by
      rw [Array.getElem?_extract, if_pos (by omega)]
     rw [this]; exact h2
   ·cases h
  ·cases h
 ·rename_i hagg
  have hA : (isAgg t).run P w = .ok false w := by
   unfold aggOf at hagg
   unfold isAgg underlying
   cases hu : P.underlying t with
   | none => simp [hu] at hagg
   | some d => cases d <;> simp_all
  have hlt : off < row.length := (List.getElem?_eq_some_iff.1 h).1
  have hx : xs[off]? = some (xs[off]'(by omega)) := Array.getElem?_eq_getElem (by omega)
  refine ⟨xs[off]'(by omega), ?_, ?_⟩
  ·simp only [part, Sem.run_bind, hA, Result.andThen_ok, Bool.false_eq_true, if_false, hx]; rfl
  ·have := hr _ _ h; rwa [hx] at this
 ·cases h
end
end Go.AI
