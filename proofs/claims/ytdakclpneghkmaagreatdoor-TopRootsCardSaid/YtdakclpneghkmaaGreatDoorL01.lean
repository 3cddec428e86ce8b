/- Each step of the interpreter is true of the model: stores, new objects. -/
import Derived.Test.YtdakclpneghkmaaGreatDoorL00
import Derived.Laws.StructEq
import Derived.ChangeKeysEq
import Derived.WalkSpells
namespace Go.AI
set_option linter.unusedSectionVars false
variable [Sym]
set_option linter.unusedSimpArgs false
set_option linter.unusedVariables false
open Go.RowKit
theorem Below.setRow {B : Nat} {a w : World} (h : Below B a w) {g : Nat} (hg : B ≤ g) (cs : Array Value) : Below B a (w.setRow g cs) := by
 have k := below_setRow h.kit hg cs
 exact ⟨k.os, k.tape, k.output, k.size, k.block, by rw [setRow_drawn]; exact h.drawn⟩
theorem Shapes.setRow {w : World} {g : Nat} {cs cs' : Array Value} {e : TypeId} {f : Nat × Nat} (hg : w.heap[g]? = some (.cells cs e f)) (hs : cs'.size = cs.size) : Shapes w (w.setRow g cs') := by
 intro b c e' f' hb
 by_cases h : b = g
 ·subst h
  rw [hg] at hb
  simp only [Option.some.injEq, Obj.cells.injEq] at hb
  obtain ⟨rfl, rfl, rfl⟩ := hb
  exact ⟨cs', f, setRow_heap w b cs cs' e f hg, hs⟩
 ·exact ⟨c, f', by rw [setRow_other w g b cs' h]; exact hb, rfl⟩
theorem Shapes.alloc (w : World) (o : Obj) : Shapes w (w.alloc o) := by
 intro b c e f hb
 have : b < w.heap.size := (Array.getElem?_eq_some_iff.1 hb).1
 exact ⟨c, f, by rw [Below.heap_alloc w o b this]; exact hb, rfl⟩
section
variable {base : Nat} {w0 : World} {β : Nat → Nat} {fz : Nat → Prop} {H : Heap} {w : World} {P : Program}
theorem Live.set {H : Heap} {id k : Nat} {o : Option (Nat × List Row)} (h : Live (H.set id o) k) (hl : Live H id) : Live H k := by
 obtain ⟨x, hx⟩ := h
 by_cases hk : k = id
 ·subst hk; exact hl
 ·rw [List.getElem?_set_ne (by omega)] at hx; exact ⟨x, hx⟩
theorem HSim.store (hs : HSim base w0 β fz H w) {id sz : Nat} {rows rows' : List Row} (hid : H[id]? = some (some (sz, rows))) {cs cs' : Array Value} {e : TypeId}
  (hcs : w.heap[β id]? = some (.cells cs e (0, 0))) (hsz : cs'.size = cs.size) (hrl : ∀ r ∈ rows', r.length = sz) (hle : rows'.length * sz ≤ cs'.size)
  (hone : ∀ (j : Nat) (c : Value), cs'[j]? = some c → c.oneCell' = true)
  (hr : ∀ (i : Nat) (r : Row), rows'[i]? = some r → ∀ (j : Nat) (a : AVal), r[j]? = some a → R β (okOf base fz) w H.length a (cs'[i * sz + j]?.getD undef)) :
  HSim base w0 β fz (H.set id (some (sz, rows'))) (w.setRow (β id) cs') ∧ Ext H.length β fz w (H.set id (some (sz, rows'))).length β fz (w.setRow (β id) cs') := by
 have hlive : Live H id := ⟨_, hid⟩
 have hown := hs.own id hlive
 have ext : Ext H.length β fz w (H.set id (some (sz, rows'))).length β fz (w.setRow (β id) cs') :=
  ⟨by simp, fun _ _ => rfl, fun _ h => h, fun b hb => setRow_other w (β id) b cs' (fun e => hown.2 (e ▸ hb)), Shapes.setRow hcs hsz⟩
 refine ⟨⟨?_, ?_, ?_, ?_, hs.below.setRow hown.1 _, hs.base⟩, ext⟩
 ·intro k sz' rws hk
  by_cases hki : k = id
  ·subst hki
   have hlt : k < H.length := (List.getElem?_eq_some_iff.1 hid).1
   rw [List.getElem?_set_self hlt] at hk
   simp only [Option.some.injEq, Prod.mk.injEq] at hk
   obtain ⟨rfl, rfl⟩ := hk
   rw [OSim, if_neg (hs.cells1 hid hcs).1]
   exact ⟨cs', e, setRow_heap w (β k) cs cs' e _ hcs, hrl, hle, hone, fun i r hi j a ha => (hr i r hi j a ha).ext ext⟩
  ·rw [List.getElem?_set_ne (by omega)] at hk
   have hne : β k ≠ β id := fun he => hki (hs.inj k id ⟨_, hk⟩ hlive he)
   exact (hs.objs' k sz' rws hk).ext ext (setRow_other w (β id) (β k) cs' hne)
 ·exact fun a b ha hb => hs.inj a b (ha.set hlive) (hb.set hlive)
 ·exact fun k hk => hs.own k (hk.set hlive)
 ·exact fun b hb => by rw [setRow_size]; exact hs.fzlt b hb
def bump (β : Nat → Nat) (n b : Nat) : Nat → Nat := fun i => if i = n then b else β i
theorem HSim.alloc (hs : HSim base w0 β fz H w) {sz : Nat} {rows : List Row} {cs : Array Value} {e : TypeId} (hrl : ∀ r ∈ rows, r.length = sz) (hle : rows.length * sz ≤ cs.size)
  (hone : ∀ (j : Nat) (c : Value), cs[j]? = some c → c.oneCell' = true)
  (hr : ∀ (i : Nat) (r : Row), rows[i]? = some r → ∀ (j : Nat) (a : AVal), r[j]? = some a → R β (okOf base fz) w H.length a (cs[i * sz + j]?.getD undef)) :
  HSim base w0 (bump β H.length w.heap.size) fz (newObj' H sz rows) (w.alloc (.cells cs e)) ∧
   Ext H.length β fz w (newObj' H sz rows).length (bump β H.length w.heap.size) fz (w.alloc (.cells cs e)) := by
 have hbl := Nat.le_trans hs.base hs.below.size
 have ext : Ext H.length β fz w (newObj' H sz rows).length (bump β H.length w.heap.size) fz (w.alloc (.cells cs e)) :=
  ⟨by simp [newObj'], fun id hi => by simp [bump]; omega, fun _ h => h, fun b hb => Below.heap_alloc w _ b (hs.fzlt b hb), Shapes.alloc w _⟩
 have hold : ∀ k x, (newObj' H sz rows)[k]? = some x → k ≠ H.length → H[k]? = some x := by
  intro k x hk hne
  unfold newObj' at hk
  rw [List.getElem?_append] at hk
  split at hk
  ·exact hk
  ·have : k - H.length ≠ 0 := by omega
   simp [this] at hk
 have hlive : ∀ k, Live (newObj' H sz rows) k → k ≠ H.length → Live H k := fun k ⟨x, hx⟩ hne => ⟨x, hold k _ hx hne⟩
 have hbl' : ∀ k, Live H k → β k < w.heap.size := by
  intro k hk
  exact hs.blt hk
 have hlt : ∀ k, Live H k → k < H.length := fun k ⟨x, hx⟩ => (List.getElem?_eq_some_iff.1 hx).1
 refine ⟨⟨?_, ?_, ?_, ?_, hs.below.alloc hbl _, hs.base⟩, ext⟩
 ·intro k sz' rws hk
  by_cases hki : k = H.length
  ·subst hki
   have : (newObj' H sz rows)[H.length]? = some (if sz = 0 then none else some (sz, rows)) := by simp [newObj']
   rw [this] at hk
   split at hk
   ·cases hk
   rename_i h0
   simp only [Option.some.injEq, Prod.mk.injEq] at hk
   obtain ⟨rfl, rfl⟩ := hk
   rw [OSim, if_neg h0]
   refine ⟨cs, e, ?_, hrl, hle, hone, fun i r hi j a ha => (hr i r hi j a ha).ext ext⟩
   simp only [bump, if_true]
   show (w.heap.push _)[w.heap.size]? = _
   simp
  ·have hk' := hold k _ hk hki
   refine (hs.objs' k sz' rws hk').ext ext ?_
   simp only [bump, hki, if_false]
   rw [Below.heap_alloc w _ (β k) (hbl' k ⟨_, hk'⟩)]
 ·intro a b ha hb he
  by_cases h1 : a = H.length <;> by_cases h2 : b = H.length
  ·omega
  ·have := hbl' b (hlive b hb h2)
   simp [bump, h1, h2] at he; omega
  ·have := hbl' a (hlive a ha h1)
   simp [bump, h1, h2] at he; omega
  ·simp only [bump, h1, h2, if_false] at he
   exact hs.inj a b (hlive a ha h1) (hlive b hb h2) he
 ·intro k hk
  by_cases h1 : k = H.length
  ·simp only [bump, h1, if_true]
   exact ⟨hbl, fun hf => Nat.lt_irrefl _ (hs.fzlt _ hf)⟩
  ·simp only [bump, h1, if_false]
   exact hs.own k (hlive k hk h1)
 ·exact fun b hb => by have := hs.fzlt b hb; show b < (w.heap.push _).size; simp; omega
theorem newR (β : Nat → Nat) (H : Heap) (w : World) (sz i off : Nat) (h0 : sz ≠ 0) (ok : Bool → Nat → Prop) (w' : World) (rows : List Row) :
  R (bump β H.length w.heap.size) ok w' (newObj' H sz rows).length (.ptr H.length sz i off) (.pointer (some ⟨w.heap.size, i * sz + off, none⟩)) := by
 have := R.ptr (β := bump β H.length w.heap.size) (ok := ok) (w := w') (n := (newObj' H sz rows).length) (id := H.length) (sz := sz) (i := i) (off := off) (by simp [newObj']) h0
 simpa [bump] using this
end
end Go.AI
/- Structs and arrays compared. -/
namespace Go.AI
set_option linter.unusedSectionVars false
variable [Sym]
set_option linter.unusedSimpArgs false
set_option linter.unusedVariables false
open Go.RowKit
theorem eqTy_cons {t : Nat} {ts : List Nat} {xs ys : List Value} {b : Bool} (h : eqTy (t :: ts) xs ys = some b) :
  ∃ x xs' y ys' c r, xs = x :: xs' ∧ ys = y :: ys' ∧ eqC t x y = some c ∧ eqTy ts xs' ys' = some r ∧ b = (c && r) := by
 cases xs with
 | nil => simp [eqTy] at h
 | cons x xs =>
  cases ys with
  | nil => simp [eqTy] at h
  | cons y ys =>
   simp only [eqTy] at h
   split at h
   ·rename_i c hc
    split at h
    ·rename_i r hr
     simp only [Option.some.injEq] at h
     exact ⟨x, xs, y, ys, c, r, rfl, rfl, hc, hr, h.symm⟩
    ·cases h
   ·cases h
theorem eqTy_nil {xs ys : List Value} {b : Bool} (h : eqTy [] xs ys = some b) : xs = [] ∧ ys = [] ∧ b = true := by
 cases xs <;> cases ys <;> simp [eqTy] at h
 exact ⟨rfl, rfl, h⟩
theorem eqTy_app : ∀ (ts1 ts2 : List Nat) (xs ys : List Value) (b : Bool), eqTy (ts1 ++ ts2) xs ys = some b →
  ∃ b1 b2, eqTy ts1 (xs.take ts1.length) (ys.take ts1.length) = some b1 ∧ eqTy ts2 (xs.drop ts1.length) (ys.drop ts1.length) = some b2 ∧ b = (b1 && b2)
 | [], ts2, xs, ys, b, h => ⟨true, b, by simp [eqTy], by simpa using h, by simp⟩
 | t :: ts1, ts2, xs, ys, b, h => by
  obtain ⟨x, xs', y, ys', c, r, rfl, rfl, hc, hr, rfl⟩ := eqTy_cons h
  obtain ⟨b1, b2, h1, h2, h3⟩ := eqTy_app ts1 ts2 xs' ys' r hr
  exact ⟨c && b1, b2, by simp [eqTy, hc, h1], by simpa using h2, by rw [h3, Bool.and_assoc]⟩
theorem eqTy_len : ∀ (ts : List Nat) (xs ys : List Value) (b : Bool), eqTy ts xs ys = some b → xs.length = ts.length ∧ ys.length = ts.length
 | [], xs, ys, b, h => by
  obtain ⟨rfl, rfl, _⟩ := eqTy_nil h
  exact ⟨rfl, rfl⟩
 | t :: ts, xs, ys, b, h => by
  obtain ⟨x, xs', y, ys', c, r, rfl, rfl, hc, hr, rfl⟩ := eqTy_cons h
  have := eqTy_len ts xs' ys' r hr
  simp; omega
theorem eqTy_one {t : Nat} {xs ys : List Value} {b : Bool} (h : eqTy [t] xs ys = some b) : ∃ x y, xs = [x] ∧ ys = [y] ∧ eqC t x y = some b := by
 obtain ⟨x, xs', y, ys', c, r, rfl, rfl, hc, hr, rfl⟩ := eqTy_cons h
 obtain ⟨rfl, rfl, rfl⟩ := eqTy_nil hr
 exact ⟨x, y, rfl, rfl, by simpa using hc⟩
section
variable {P : Program} {w : World}
def ofCells (P : Program) (t : TypeId) (xs : List Value) : Value :=
 match aggOf P t with
 | some true => .agg xs.toArray
 | _ => xs.headD undef
theorem part_ofCells {t : TypeId} {n off : Nat} (hsz : szOf P t = some n) (hn : 0 < n ∨ aggOf P t = some true) (ha : (aggOf P t).isSome) (xs : Array Value) (hl : off + n ≤ xs.size) :
  (part t xs off).run P w = .ok (ofCells P t ((xs.toList.drop off).take n)) w := by
 unfold ofCells
 have hS : (sizeOf t).run P w = .ok n w := by
  unfold szOf at hsz
  unfold sizeOf typeInfo
  cases hi : P.info? t with
  | none => simp [hi] at hsz
  | some i => simp [hi] at hsz; simp [hi, hsz]
 cases hagg : aggOf P t with
 | none => rw [hagg] at ha; cases ha
 | some b =>
  cases b with
  | true =>
   have hA : (isAgg t).run P w = .ok true w := by
    unfold aggOf at hagg
    unfold isAgg underlying
    cases hu : P.underlying t with
    | none => simp [hu] at hagg
    | some d => cases d <;> simp_all
   simp only [part, Sem.run_bind, hA, Result.andThen_ok, if_true, hS, Sem.run_pure]
   congr 2
   apply Array.ext'
   simp [Array.toList_extract, List.extract_eq_take_drop]
  | false =>
   have hA : (isAgg t).run P w = .ok false w := by
    unfold aggOf at hagg
    unfold isAgg underlying
    cases hu : P.underlying t with
    | none => simp [hu] at hagg
    | some d => cases d <;> simp_all
   have hn' : 0 < n := by
    rcases hn with h | h
    ·exact h
    ·rw [hagg] at h; cases h
   have hx : xs[off]? = some (xs[off]'(by omega)) := Array.getElem?_eq_getElem (by omega)
   simp only [part, Sem.run_bind, hA, Result.andThen_ok, Bool.false_eq_true, if_false, hx, Sem.run_pure]
   congr 1
   have : (xs.toList.drop off).take n = xs[off]'(by omega) :: ((xs.toList.drop (off + 1)).take (n - 1)) := by
    rw [List.drop_eq_getElem_cons (by simp; omega)]
    obtain ⟨m, rfl⟩ : ∃ m, n = m + 1 := ⟨n - 1, by omega⟩
    simp
   rw [this]; rfl
def EqOk (P : Program) (d : Nat) (t : TypeId) (ts : List Nat) : Prop :=
 (aggOf P t).isSome ∧ (0 < ts.length ∨ aggOf P t = some true) ∧ ∀ (w : World) (d' : Nat) (xs ys : List Value) (b : Bool), d ≤ d' → eqTy ts xs ys = some b → (Op.equalIn d' t (ofCells P t xs) (ofCells P t ys)).run P w = .ok b w
theorem eqFields_run {g : TypeId → Option (List Nat)} {d d' : Nat} (hd : d ≤ d') (hg : ∀ t ts, g t = some ts → EqOk P d t ts) (xs ys : Array Value) : ∀ (fs : List Field) (off : Nat) (ts : List Nat) (b : Bool), flatF P g fs off = some ts →
  eqTy ts (xs.toList.drop off) (ys.toList.drop off) = some b → (Op.eqFields d' xs ys fs).run P w = .ok b w
 | [], off, ts, b, h, he => by
  simp only [flatF, Option.some.injEq] at h
  subst h
  obtain ⟨_, _, rfl⟩ := eqTy_nil he
  rfl
 | f :: fs, off, ts, b, h, he => by
  simp only [flatF] at h
  split at h
  ·cases h
  ·rename_i hc
   have hn1 : ¬ f.name = "_" := fun e => hc (.inl e)
   have hn2 : f.offset = off := Classical.byContradiction fun e => hc (.inr e)
   split at h
   ·rename_i ts1 hts1
    split at h
    ·rename_i hsz
     simp only [Option.map_eq_some_iff] at h
     obtain ⟨ts2, hts2, rfl⟩ := h
     obtain ⟨b1, b2, h1, h2, rfl⟩ := eqTy_app ts1 ts2 _ _ b he
     have hlen := eqTy_len _ _ _ _ he
     simp only [List.length_drop, Array.length_toList, List.length_append] at hlen
     obtain ⟨g1, g2, g3⟩ := hg f.type ts1 hts1
     have hlx : off + ts1.length ≤ xs.size ∨ ts1.length = 0 := by omega
     have hly : off + ts1.length ≤ ys.size ∨ ts1.length = 0 := by omega
     by_cases h0 : ts1.length = 0 ∧ ¬ (off ≤ xs.size ∧ off ≤ ys.size)
     ·-- an empty part behind the end: its cells are none
      have hA : aggOf P f.type = some true := by
       rcases g2 with h | h
       ·omega
       ·exact h
      have key : ∀ zs : Array Value, (part f.type zs off).run P w = .ok (ofCells P f.type ((zs.toList.drop off).take ts1.length)) w := by
       intro zs
       by_cases hz : off ≤ zs.size
       ·exact part_ofCells hsz (.inr hA) g1 zs (by omega)
       ·have hS : (sizeOf f.type).run P w = .ok ts1.length w := by
         unfold szOf at hsz
         unfold sizeOf typeInfo
         cases hi : P.info? f.type with
         | none => simp [hi] at hsz
         | some i => simp [hi] at hsz; simp [hi, hsz]
        have hI : (isAgg f.type).run P w = .ok true w := by
         unfold aggOf at hA
         unfold isAgg underlying
         cases hu : P.underlying f.type with
         | none => simp [hu] at hA
         | some d => cases d <;> simp_all
        simp only [part, Sem.run_bind, hI, Result.andThen_ok, if_true, hS, Sem.run_pure, ofCells, hA]
        congr 2
        apply Array.ext'
        simp [Array.toList_extract, List.extract_eq_take_drop]
      have h3 := g3 w d' _ _ b1 hd h1
      have ih := eqFields_run hd hg xs ys fs (off + ts1.length) ts2 b2 hts2 (by simpa [List.drop_drop] using h2)
      simp only [Op.eqFields, hn1, ne_eq, not_false_eq_true, if_true, Sem.run_bind, hn2, key xs, key ys, Result.andThen_ok, h3]
      cases b1
      ·simp
      ·simpa using ih
     ·have p1 := part_ofCells (w := w) hsz g2 g1 xs (off := off) (by omega)
      have p2 := part_ofCells (w := w) hsz g2 g1 ys (off := off) (by omega)
      have h3 := g3 w d' _ _ b1 hd h1
      have ih := eqFields_run hd hg xs ys fs (off + ts1.length) ts2 b2 hts2 (by simpa [List.drop_drop] using h2)
      simp only [Op.eqFields, hn1, ne_eq, not_false_eq_true, if_true, Sem.run_bind, hn2, p1, p2, Result.andThen_ok, h3]
      cases b1
      ·simp
      ·simpa using ih
    ·cases h
   ·cases h
theorem eqItems_run {e : TypeId} {ts : List Nat} {d d' : Nat} (hd : d ≤ d') (hsz : szOf P e = some ts.length) (hg : EqOk P d e ts) (xs ys : Array Value) : ∀ (n k : Nat) (b : Bool),
  eqTy (List.replicate n ts).flatten (xs.toList.drop (k * ts.length)) (ys.toList.drop (k * ts.length)) = some b → (Op.eqItems d' e ts.length xs ys (List.range' k n)).run P w = .ok b w
 | 0, k, b, he => by
  simp only [List.replicate_zero, List.flatten_nil] at he
  obtain ⟨_, _, rfl⟩ := eqTy_nil he
  rfl
 | n + 1, k, b, he => by
  simp only [List.replicate_succ, List.flatten_cons] at he
  obtain ⟨b1, b2, h1, h2, rfl⟩ := eqTy_app ts _ _ _ b he
  have hlen := eqTy_len _ _ _ _ he
  simp only [List.length_drop, Array.length_toList, List.length_append] at hlen
  obtain ⟨g1, g2, g3⟩ := hg
  have h3 := g3 w d' _ _ b1 hd h1
  have ih := eqItems_run hd hsz ⟨g1, g2, g3⟩ xs ys n (k + 1) b2 (by rw [Nat.succ_mul]; simpa [List.drop_drop] using h2)
  have hpart : ∀ zs : Array Value, (zs.size - k * ts.length = ts.length + ((List.replicate n ts).flatten).length) → (part e zs (k * ts.length)).run P w = .ok (ofCells P e ((zs.toList.drop (k * ts.length)).take ts.length)) w := by
   intro zs hz
   by_cases hl : k * ts.length + ts.length ≤ zs.size
   ·exact part_ofCells hsz g2 g1 zs hl
   ·have h0 : ts.length = 0 := by omega
    rw [h0] at hl; simp at hl
  simp only [List.range'_succ, Op.eqItems, Sem.run_bind, hpart xs hlen.1, hpart ys hlen.2, Result.andThen_ok, h3]
  cases b1
  ·simp
  ·simpa using ih
theorem flat_ok : ∀ (d : Nat) (t : TypeId) (ts : List Nat), flatT P d t = some ts → EqOk P d t ts
 | 0, t, ts, h => by simp [flatT] at h
 | d + 1, t, ts, h => by
  simp only [flatT] at h
  split at h
  ·rename_i hu
   simp only [Option.some.injEq] at h; subst h
   have ha : aggOf P t = some false := by simp [aggOf, hu]
   refine ⟨by simp [ha], .inl (by simp), fun w d' xs ys b hd he => ?_⟩
   obtain ⟨d', rfl⟩ : ∃ m, d' = m + 1 := ⟨d' - 1, by omega⟩
   obtain ⟨x, y, rfl, rfl, hc⟩ := eqTy_one he
   cases x <;> cases y <;> simp [eqC] at hc
   subst hc
   simp only [ofCells, ha, List.headD_cons]
   exact run_equalIn_bool w d' t _ _ hu
  ·rename_i k hu
   simp only [Option.some.injEq] at h; subst h
   have ha : aggOf P t = some false := by simp [aggOf, hu]
   refine ⟨by simp [ha], .inl (by simp), fun w d' xs ys b hd he => ?_⟩
   obtain ⟨d', rfl⟩ : ∃ m, d' = m + 1 := ⟨d' - 1, by omega⟩
   obtain ⟨x, y, rfl, rfl, hc⟩ := eqTy_one he
   cases x <;> cases y <;> simp [eqC] at hc
   obtain ⟨rfl, rfl⟩ := hc
   simp only [ofCells, ha, List.headD_cons]
   exact run_equalIn_int w d' t _ _ _ _ hu
  ·rename_i hu
   simp only [Option.some.injEq] at h; subst h
   have ha : aggOf P t = some false := by simp [aggOf, hu]
   refine ⟨by simp [ha], .inl (by simp), fun w d' xs ys b hd he => ?_⟩
   obtain ⟨d', rfl⟩ : ∃ m, d' = m + 1 := ⟨d' - 1, by omega⟩
   obtain ⟨x, y, rfl, rfl, hc⟩ := eqTy_one he
   cases x <;> cases y <;> simp [eqC] at hc
   subst hc
   simp only [ofCells, ha, List.headD_cons]
   exact run_equalIn_string w d' t _ _ hu
  ·rename_i fs hu
   split at h
   ·cases h
   ·rename_i hst
    have ha : aggOf P t = some true := by simp [aggOf, hu]
    refine ⟨by simp [ha], .inr ha, fun w d' xs ys b hd he => ?_⟩
    obtain ⟨d', rfl⟩ : ∃ m, d' = m + 1 := ⟨d' - 1, by omega⟩
    simp only [ofCells, ha]
    have hf : P.fieldsOf t = fs := by simp [Program.fieldsOf, hu]
    rw [run_equalIn_struct w d' t _ _ (by rw [hf]; exact hu) (by simpa using hst), hf]
    exact eqFields_run (d := d) (by omega) (fun t ts h => flat_ok d t ts h) _ _ fs.toList 0 ts b h (by simpa using he)
  ·rename_i k e hu
   split at h
   ·rename_i ts1 hts1
    split at h
    ·rename_i hsz
     simp only [Option.some.injEq] at h
     subst h
     have ha : aggOf P t = some true := by simp [aggOf, hu]
     refine ⟨by simp [ha], .inr ha, fun w d' xs ys b hd he => ?_⟩
     obtain ⟨d', rfl⟩ : ∃ m, d' = m + 1 := ⟨d' - 1, by omega⟩
     simp only [ofCells, ha]
     obtain ⟨i, hi⟩ : ∃ i, P.info? e = some i := by
      unfold szOf at hsz
      cases hh : P.info? e with
      | none => simp [hh] at hsz
      | some i => exact ⟨i, rfl⟩
     have hce : P.cellsOf e = ts1.length := by
      unfold szOf at hsz
      rw [hi] at hsz
      simp at hsz
      simp [Program.cellsOf, hi, hsz]
     rw [run_equalIn_array w d' _ _ hu hi, hce, List.range_eq_range']
     exact eqItems_run (d := d) (by omega) hsz (flat_ok d e ts1 hts1) _ _ k 0 b (by simpa using he)
    ·cases h
   ·cases h
  ·cases h
theorem eq_agg {t : TypeId} {ts : List Nat} {xs ys : Array Value} {b : Bool} (h : flatT P 6 t = some ts) (he : eqTy ts xs.toList ys.toList = some b) (w : World) (hagg : aggOf P t = some true) :
  (Op.equalIn 10000 t (.agg xs) (.agg ys)).run P w = .ok b w := by
 have := (flat_ok 6 t ts h).2.2 w 10000 xs.toList ys.toList b (by decide) he
 simpa [ofCells, hagg] using this
end
end Go.AI
/- Each step of the interpreter is true of the model: the operations, one by one. -/
namespace Go.AI
set_option linter.unusedSectionVars false
variable [Sym]
set_option linter.unusedSimpArgs false
set_option linter.unusedVariables false
open Go.RowKit
def Does (P : Program) (o : Oper) (a : Act) (w : World) (base : Nat) (w0 : World) (β : Nat → Nat) (fz : Nat → Prop) (H : Heap) (av : AVal) (H' : Heap) : Prop :=
 ∀ (K : Act → World → Prop) (Q : Exit → Act → World → Prop), (∀ x β' fz' w', HSim base w0 β' fz' H' w' → Ext H.length β fz w H'.length β' fz' w' → R β' (okOf base fz') w' H'.length av x → K (a.put o.dst x) w') → o.wp P a w K Q
section
variable {base : Nat} {w0 : World} {β : Nat → Nat} {fz : Nat → Prop} {e' : AEv} {H H' : Heap} {a : Act} {w : World} {P : Program} {C : Orc} {o : Oper} {av : AVal} {n : Nat} {ok : Bool → Nat → Prop}
theorem R.v_inv {x y : Value} (h : R β ok w n (.v x) y) : y = x := by cases h; rfl
theorem does_val {β' : Nat → Nat} {fz' : Nat → Prop} {w' : World} {x : Value} (hrun : (execOp a.eval o).run P w = .ok (.value x) w') (hs : HSim base w0 β' fz' H' w') (he : Ext H.length β fz w H'.length β' fz' w')
  (hr : R β' (okOf base fz') w' H'.length av x) : Does P o a w base w0 β fz H av H' := by
 intro K Q hK
 unfold Oper.wp
 rw [hrun]
 exact hK x β' fz' w' hs he hr
theorem does_skip {β' : Nat → Nat} {fz' : Nat → Prop} {w' : World} (hrun : (execOp a.eval o).run P w = .ok .skip w') (hs : HSim base w0 β' fz' H' w') (he : Ext H.length β fz w H'.length β' fz' w') :
  Does P o a w base w0 β fz H (.v undef) H' := by
 intro K Q hK
 unfold Oper.wp
 rw [hrun]
 exact hK undef β' fz' w' hs he .v
theorem does_pure {x : Value} (hs : HSim base w0 β fz H w) (hrun : (execOp a.eval o).run P w = .ok (.value x) w) (hr : R β (okOf base fz) w H.length av x) : Does P o a w base w0 β fz H av H :=
 does_val hrun hs (Ext.refl _ _ _ _) hr
theorem run_sz {t : TypeId} {k : Nat} (h : szOf P t = some k) (w : World) : (sizeOf t).run P w = .ok k w := by
 unfold szOf at h
 unfold sizeOf typeInfo
 cases hi : P.info? t with
 | none => simp [hi] at h
 | some i => simp [hi] at h; simp [hi, h]
theorem run_zero {t : TypeId} {z : Value} (h : zeroOf P t = some z) (w : World) : (zeroValue t).run P w = .ok z w := by
 unfold zeroOf at h
 unfold zeroValue typeInfo
 cases hi : P.info? t with
 | none => simp [hi] at h
 | some i => simp [hi] at h; simp [hi, h]
theorem run_slice_und {t e : TypeId} (h : sliceElem P t = some e) : P.underlying t = some (.slice e) := by
 unfold sliceElem at h
 cases hu : P.underlying t with
 | none => simp [hu] at h
 | some d => cases d <;> simp_all
theorem run_array_und {t e : TypeId} {k : Nat} (h : arrayOf P t = some (k, e)) : P.underlying t = some (.array k e) := by
 unfold arrayOf at h
 cases hu : P.underlying t with
 | none => simp [hu] at h
 | some d => cases d <;> simp_all
theorem asV_some {x : Option Value} {av : AVal} (h : asV x = some av) : ∃ y, x = some y ∧ av = .v y := by
 cases x with
 | none => simp [asV] at h
 | some y => simp [asV] at h; exact ⟨y, rfl, h.symm⟩
theorem does_move {x : Operand} (hop : o.op = .move x ∨ o.op = .assign x) (hs : SimE base w0 β fz e' H a w) : Does P o a w base w0 β fz H (e' x) H := by
 refine does_pure hs.heap (x := a.eval x) ?_ (hs.ev x)
 rcases hop with h | h <;> simp [execOp, h]
theorem does_pick {c x y : Operand} {g : Bool} {r : AEv} (hop : o.op = .pick c x y) (hg : g = true) (hs : HSim base w0 β fz H w) (hr : ∀ x, R β (okOf base fz) w H.length (r x) (a.eval x)) (h : aPick g (res g (r c)) (r x) (r y) = some av) : Does P o a w base w0 β fz H av H := by
 unfold aPick at h
 split at h
 ·rename_i t hc
  simp only [Option.some.injEq] at h
  subst h
  have h1 := res_R hg (hr c)
  rw [hc] at h1
  have h2 := h1.v_inv
  refine does_pure hs (x := if t then a.eval x else a.eval y) (by simp [execOp, hop, h2, asBool]) ?_
  cases t
  ·exact res_R (by simp [hg]) (hr y)
  ·exact res_R (by simp [hg]) (hr x)
 ·cases h
theorem does_un {op : UnOp} {t : TypeId} {x : Operand} {y : Value} (hop : o.op = .unOp op t x) (hs : SimE base w0 β fz e' H a w) (hx : e' x = .v y) (h : asV (pr P (Op.unary op y)) = some av) : Does P o a w base w0 β fz H av H := by
 have h1 := hs.ev x
 rw [hx] at h1
 obtain ⟨z, hz, rfl⟩ := asV_some h
 exact does_pure hs.heap (x := z) (by simp [execOp, hop, h1.v_inv, pr_run hz w]) .v
theorem does_conv {s d : TypeId} {x : Operand} {y : Value} (hop : o.op = .convert s d x) (hs : SimE base w0 β fz e' H a w) (hx : e' x = .v y) (h : asV (pr P (convert s d y)) = some av) : Does P o a w base w0 β fz H av H := by
 have h1 := hs.ev x
 rw [hx] at h1
 obtain ⟨z, hz, rfl⟩ := asV_some h
 exact does_pure hs.heap (x := z) (by simp [execOp, hop, h1.v_inv, pr_run hz w]) .v
theorem does_bin {op : BinOp} {t u : TypeId} {x y : Operand} (hop : o.op = .binOp op t x y u) (hs : SimE base w0 β fz e' H a w) (h : aBin P op t x y (e' x) (e' y) = some av) : Does P o a w base w0 β fz H av H := by
 have hx := hs.ev x
 have hy := hs.ev y
 unfold aBin at h
 split at h
 ·rename_i xs ys hp hq
  rw [hp] at hx; rw [hq] at hy
  unfold eqAgg eqOkT at h
  split at h
  ·rename_i ts hts
   split at hts
   ·cases hts
   ·rename_i hg
    split at h
    ·rename_i b hb
     have hrun := eq_agg (P := P) hts hb (w := w) (Classical.byContradiction fun e => hg (.inr e))
     have hgd := run_eqGuard_agg (P := P) w op t x y xs ys (by cases hh : P.eqGuardType P.depth t <;> simp_all)
     split at h
     ·simp only [Option.some.injEq] at h
      subst h
      refine does_pure hs.heap (x := .bool b) ?_ .v
      simp only [execOp, hop, hx.v_inv, hy.v_inv]
      simp only [Sem.run_bind, hgd, Result.andThen_ok, run_eql_struct, hrun]
      rfl
     ·simp only [Option.some.injEq] at h
      subst h
      refine does_pure hs.heap (x := .bool !b) ?_ .v
      simp only [execOp, hop, hx.v_inv, hy.v_inv]
      simp only [Sem.run_bind, hgd, Result.andThen_ok, run_neq_struct, hrun]
      rfl
     ·cases h
    ·cases h
  ·cases h
 ·rename_i p q _ hp hq
  rw [hp] at hx; rw [hq] at hy
  obtain ⟨z, hz, rfl⟩ := asV_some h
  have hz' := pr_run hz w
  refine does_pure hs.heap (x := z) ?_ .v
  simp only [execOp, hop, hx.v_inv, hy.v_inv]
  rw [Sem.run_bind, hz']
  rfl
 ·rename_i oo sz rows hp hq
  rw [hp] at hx; rw [hq] at hy
  have hyv := hy.v_inv
  split at h
  ·rename_i e hsl
   have hu := run_slice_und hsl
   obtain ⟨ad, l, c, hv, had⟩ : ∃ ad l c, a.eval x = .slice ad l c ∧ (rows.isEmpty = false → ad.isNone = false) := by
    generalize a.eval x = v at hx
    cases hx with
    | fsl x hl hs hb hc hr => exact ⟨_, _, _, rfl, fun _ => rfl⟩
    | fsl0 => exact ⟨_, _, _, rfl, fun hh => by simp at hh⟩
   simp only [Option.some.injEq] at h
   refine does_pure hs.heap (x := .bool ad.isNone) ?_ ?_
   ·simp only [execOp, hop, hv, hyv]
    simp only [eqGuard]
    simp [Lib.run_eql_slice_nil w t e ad l c 0 0 hu]
   ·subst h
    split
    ·exact .anyb
    ·rename_i hr; rw [had (by simpa using hr)]; exact .v
  ·rename_i e hsl
   have hu := run_slice_und hsl
   obtain ⟨ad, l, c, hv, had⟩ : ∃ ad l c, a.eval x = .slice ad l c ∧ (rows.isEmpty = false → ad.isNone = false) := by
    generalize a.eval x = v at hx
    cases hx with
    | fsl x hl hs hb hc hr => exact ⟨_, _, _, rfl, fun _ => rfl⟩
    | fsl0 => exact ⟨_, _, _, rfl, fun hh => by simp at hh⟩
   simp only [Option.some.injEq] at h
   refine does_pure hs.heap (x := .bool !ad.isNone) ?_ ?_
   ·simp only [execOp, hop, hv, hyv]
    simp only [eqGuard]
    simp [run_neq_slice_nil_any w t e ad l c 0 0 hu]
   ·subst h
    split
    ·exact .anyb
    ·rename_i hr; rw [had (by simpa using hr)]; exact .v
  ·cases h
 ·rename_i hp hq
  rw [hp] at hx; rw [hq] at hy
  have hyv := hy.v_inv
  obtain ⟨ad, l, c, hv, had⟩ : ∃ ad l c, a.eval x = .slice ad l c ∧ ad.isNone = false := by
   generalize a.eval x = v at hx
   cases hx with
   | osl h hl hk ha => exact ⟨_, _, _, rfl, rfl⟩
  split at h
  ·rename_i e hsl
   have hu := run_slice_und hsl
   simp only [Option.some.injEq] at h
   refine does_pure hs.heap (x := .bool ad.isNone) ?_ ?_
   ·simp only [execOp, hop, hv, hyv]
    simp only [eqGuard]
    simp [Lib.run_eql_slice_nil w t e ad l c 0 0 hu]
   ·subst h
    rw [had]; exact .v
  ·rename_i e hsl
   have hu := run_slice_und hsl
   simp only [Option.some.injEq] at h
   refine does_pure hs.heap (x := .bool !ad.isNone) ?_ ?_
   ·simp only [execOp, hop, hv, hyv]
    simp only [eqGuard]
    simp [run_neq_slice_nil_any w t e ad l c 0 0 hu]
   ·subst h
    rw [had]; exact .v
  ·cases h
 ·rename_i hp hq
  rw [hp] at hx; rw [hq] at hy
  have hyv := hy.v_inv
  obtain ⟨ad, l, c, hv, had⟩ : ∃ ad l c, a.eval x = .slice ad l c ∧ True := by
   generalize a.eval x = v at hx
   cases hx with
   | esl => exact ⟨_, _, _, rfl, trivial⟩
  split at h
  ·rename_i e hsl
   have hu := run_slice_und hsl
   simp only [Option.some.injEq] at h
   refine does_pure hs.heap (x := .bool ad.isNone) ?_ ?_
   ·simp only [execOp, hop, hv, hyv]
    simp only [eqGuard]
    simp [Lib.run_eql_slice_nil w t e ad l c 0 0 hu]
   ·subst h
    exact .anyb
  ·rename_i e hsl
   have hu := run_slice_und hsl
   simp only [Option.some.injEq] at h
   refine does_pure hs.heap (x := .bool !ad.isNone) ?_ ?_
   ·simp only [execOp, hop, hv, hyv]
    simp only [eqGuard]
    simp [run_neq_slice_nil_any w t e ad l c 0 0 hu]
   ·subst h
    exact .anyb
  ·cases h
 ·rename_i id sz i off hp hq
  rw [hp] at hx; rw [hq] at hy
  have hyv := hy.v_inv
  split at h
  ·rename_i h0
   subst h0
   have hv : ∃ b, a.eval x = .map (some b) := by
    generalize a.eval x = v at hx
    cases hx with
    | ptr _ h0 => exact absurd rfl h0
    | mp _ => exact ⟨_, rfl⟩
   obtain ⟨b, hv⟩ := hv
   split at h
   ·rename_i hu
    simp only [Option.some.injEq] at h
    subst h
    refine does_pure hs.heap (x := .bool false) ?_ .v
    simp only [execOp, hop, hv, hyv]
    simp only [eqGuard]
    simp [run_eql_map_nil w _ _ _ (some b) hu]
   ·rename_i hu
    simp only [Option.some.injEq] at h
    subst h
    refine does_pure hs.heap (x := .bool true) ?_ .v
    simp only [execOp, hop, hv, hyv]
    simp only [eqGuard]
    simp [run_neq_map_nil w _ _ _ (some b) hu]
   ·cases h
  ·cases h
 ·rename_i id sz i off hp hq
  rw [hp] at hx; rw [hq] at hy
  have hyv := hy.v_inv
  split at h
  ·cases h
  ·rename_i h0
   have hv : ∃ b, a.eval x = .pointer (some b) := by
    generalize a.eval x = v at hx
    cases hx with
    | ptr _ _ => exact ⟨_, rfl⟩
    | mp _ => exact absurd rfl h0
   obtain ⟨b, hv⟩ := hv
   split at h
   ·rename_i hu
    simp only [Option.some.injEq] at h
    subst h
    refine does_pure hs.heap (x := .bool false) ?_ .v
    simp only [execOp, hop, hv, hyv]
    simp only [eqGuard]
    simp [run_eql_pointer_nil w t (some b) (by rw [hu, Program.pointee, hu])]
   ·rename_i hu
    simp only [Option.some.injEq] at h
    subst h
    refine does_pure hs.heap (x := .bool true) ?_ .v
    simp only [execOp, hop, hv, hyv]
    simp only [eqGuard]
    simp [run_neq_pointer_nil w t (some b) (by rw [hu, Program.pointee, hu])]
   ·cases h
 ·cases h
theorem does_extract {x : Operand} {i : Nat} (hop : o.op = .extract x i) (hs : SimE base w0 β fz e' H a w) (h : aExtract (e' x) i = some av) : Does P o a w base w0 β fz H av H := by
 have hx := hs.ev x
 unfold aExtract at h
 split at h
 ·rename_i vs hp
  rw [hp] at hx
  generalize hv : a.eval x = v at hx
  cases hx with
  | @tup _ _ xs hl hr =>
   have hi : i < vs.length := (List.getElem?_eq_some_iff.1 h).1
   have hxi : xs[i]? = some (xs[i]'(by omega)) := Array.getElem?_eq_getElem (by omega)
   refine does_pure hs.heap (x := xs[i]'(by omega)) ?_ ?_
   ·simp only [execOp, hop, hv, Instr.extract, hxi]; rfl
   ·have := hr i av h; rwa [hxi] at this
 ·rename_i vs hp
  rw [hp] at hx
  have hv := hx.v_inv
  simp only [Option.map_eq_some_iff] at h
  obtain ⟨y, hy, rfl⟩ := h
  refine does_pure hs.heap (x := y) ?_ .v
  simp only [execOp, hop, hv, Instr.extract, hy]; rfl
 ·cases h
theorem does_alloc {t : TypeId} (hop : o.op = .alloc t) (hs : SimE base w0 β fz e' H a w) (h : aAlloc P t H = some (av, H')) : Does P o a w base w0 β fz H av H' := by
 unfold aAlloc at h
 split at h
 ·rename_i z hz
  split at h
  ·rename_i hall
   obtain ⟨hall, hz0⟩ := hall
   simp only [Option.some.injEq, Prod.mk.injEq] at h
   obtain ⟨rfl, rfl⟩ := h
   obtain ⟨h1, h2⟩ := hs.heap.alloc (sz := z.cells.size) (rows := [z.cells.toList.map .v]) (cs := z.cells) (e := t) (by simp) (by simp)
    (fun j c hj => allOne_mem hall c (Array.mem_toList_iff.2 (Array.mem_of_getElem? hj)))
    (fun i r hi j c hj => by
     cases i with
     | succ i => simp at hi
     | zero =>
      simp at hi; subst hi
      simp only [List.getElem?_map, Option.map_eq_some_iff, Array.getElem?_toList] at hj
      obtain ⟨y, hy, rfl⟩ := hj
      simp only [Nat.zero_mul, Nat.zero_add, hy, Option.getD_some]
      exact .v)
   refine does_val (w' := w.alloc (.cells z.cells t)) (x := .pointer (some ⟨w.heap.size, 0, none⟩)) ?_ h1 h2 ?_
   ·simp only [execOp, hop]
    simp [Instr.alloc, run_zero hz, newVar, newRow]
   ·simpa using newR β H w z.cells.size 0 0 hz0 (okOf base fz) (w.alloc (.cells z.cells t)) [z.cells.toList.map .v]
  ·cases h
 ·cases h
theorem does_box {t : TypeId} {x : Operand} (hop : o.op = .box t x) (hs : SimE base w0 β fz e' H a w) (h : aBox (e' x) H = some (av, H')) : Does P o a w base w0 β fz H av H' := by
 unfold aBox at h
 split at h
 ·rename_i cs hcs
  split at h
  ·cases h
  rename_i hz0
  simp only [Option.some.injEq, Prod.mk.injEq] at h
  obtain ⟨rfl, rfl⟩ := h
  obtain ⟨hl, hr, h1⟩ := cells_R hcs (hs.ev x)
  obtain ⟨h1, h2⟩ := hs.heap.alloc (sz := cs.length) (rows := [cs]) (cs := (a.eval x).cells) (e := t) (by simp) (by simp [hl])
   (fun j c hj => h1 c (Array.mem_of_getElem? hj))
   (fun i r hi j c hj => by
    cases i with
    | succ i => simp at hi
    | zero => simp at hi; subst hi; simpa using hr j c hj)
  refine does_val (w' := w.alloc (.cells (a.eval x).cells t)) (x := .pointer (some ⟨w.heap.size, 0, none⟩)) ?_ h1 h2 ?_
  ·simp only [execOp, hop]
   simp [Instr.box, newVar, newRow]
  ·simpa using newR β H w cs.length 0 0 hz0 (okOf base fz) (w.alloc (.cells (a.eval x).cells t)) [cs]
 ·cases h
theorem obj_some {H : Heap} {id : Nat} {x : Nat × List Row} (h : obj H id = some x) : H[id]? = some (some x) := (obj_live h).1
theorem flat1 {rows : List Row} (h : ∀ r ∈ rows, r.length = 1) : rows.flatten.length = rows.length ∧ ∀ (j : Nat) (c : AVal), rows.flatten[j]? = some c → ∃ r, rows[j]? = some r ∧ r[0]? = some c := by
 induction rows with
 | nil => exact ⟨rfl, fun j c hj => by simp at hj⟩
 | cons r rows ih =>
  obtain ⟨i1, i2⟩ := ih (fun q hq => h q (by simp [hq]))
  have hr := h r (by simp)
  obtain ⟨x, rfl⟩ := List.length_eq_one_iff.1 hr
  refine ⟨by simp [i1], fun j c hj => ?_⟩
  cases j with
  | zero => exact ⟨[x], rfl, by simpa using hj⟩
  | succ j =>
   obtain ⟨q, q1, q2⟩ := i2 j c (by simpa using hj)
   exact ⟨q, by simpa using q1, q2⟩
theorem does_load {t : TypeId} {x : Operand} (hop : o.op = .load t x) (hs : SimE base w0 β fz e' H a w) (h : aLoad P t (e' x) H = some av) : Does P o a w base w0 β fz H av H := by
 have hx := hs.ev x
 unfold aLoad at h
 split at h
 ·rename_i id sz i off hp
  rw [hp] at hx
  split at h
  ·rename_i sz' rows hob
   split at h
   ·rename_i row hrow
    split at h
    ·rename_i hsz
     subst hsz
     obtain ⟨cs, e, g1, g2, g3, g4, g5⟩ := hs.heap.cells hob
     have hi : i < rows.length := (List.getElem?_eq_some_iff.1 hrow).1
     have hrl : row.length = sz' := g2 row (List.mem_of_getElem? hrow)
     have hmul : (i + 1) * sz' ≤ rows.length * sz' := Nat.mul_le_mul_right _ hi
     rw [Nat.succ_mul] at hmul
     obtain ⟨y, hy, hR⟩ := read_R (β := β) (ok := okOf base fz) (w := w) (n := H.length) h (β id) (i * sz') (fun j => cs[i * sz' + j]?.getD undef)
      (fun j hj => by
       have : i * sz' + j < cs.size := by omega
       simp [World.cell?, g1, this]) (fun j c hj => g5 i row hrow j c hj)
     generalize hv : a.eval x = v at hx
     cases hx with
     | mp _ => exact absurd rfl (obj_live hob).2
     | ptr _ _ =>
     refine does_pure hs.heap (x := y) ?_ hR
     simp only [execOp, hop, hv]
     simp [Instr.loadAt, Instr.sureAddr, hy]
    ·split at h
     case isFalse => cases h
     rename_i hsz
     obtain ⟨rfl, hs0, rfl⟩ := hsz
     obtain ⟨cs, e, g1, g2, g3, g4, g5⟩ := hs.heap.cells hob
     obtain ⟨f1, f2⟩ := flat1 g2
     obtain ⟨y, hy, hR⟩ := read_R (β := β) (ok := okOf base fz) (w := w) (n := H.length) h (β id) 0 (fun j => cs[j]?.getD undef)
      (fun j hj => by
       have : j < cs.size := by omega
       simp [World.cell?, g1, this]) (fun j c hj => by
       obtain ⟨r, r1, r2⟩ := f2 j c hj
       have := g5 j r r1 0 c r2
       simpa using this)
     generalize hv : a.eval x = v at hx
     cases hx with
     | mp _ => exact absurd rfl hs0
     | ptr _ _ =>
     refine does_pure hs.heap (x := y) ?_ hR
     simp only [execOp, hop, hv]
     simp only [Nat.zero_add] at hy
     simp [Instr.loadAt, Instr.sureAddr, hy]
   ·cases h
  ·cases h
 ·rename_i row off hp
  rw [hp] at hx
  generalize hv : a.eval x = v at hx
  cases hx with
  | @fptr _ _ _ b oo x' hb hc hr =>
   obtain ⟨y, hy, hR⟩ := read_R (β := β) (ok := okOf base fz) (w := w) (n := H.length) h b oo x' hc (fun j c hj => (hr j c hj).mono (Nat.zero_le _) (fun _ h => absurd h (Nat.not_lt_zero _)) (fun _ _ h => h) (fun _ _ _ => rfl) (Shapes.refl _))
   refine does_pure hs.heap (x := y) ?_ hR
   simp only [execOp, hop, hv]
   simp [Instr.loadAt, Instr.sureAddr, hy]
 ·cases h
theorem writeAt_length (row : Row) (off : Nat) (cs : Row) : (writeAt row off cs).length = row.length := by
 induction row generalizing off cs with
 | nil => cases off <;> cases cs <;> simp [writeAt]
 | cons x r ih => cases off <;> cases cs <;> simp [writeAt, ih]
theorem writeAt_get (row : Row) (off : Nat) (cs : Row) (h : off + cs.length ≤ row.length) (j : Nat) :
  (writeAt row off cs)[j]? = if off ≤ j ∧ j < off + cs.length then cs[j - off]? else row[j]? := by
 induction row generalizing off cs j with
 | nil =>
  simp at h
  obtain ⟨rfl, h2⟩ := h
  have : cs = [] := by simpa using h2
  subst this
  simp [writeAt]
 | cons x r ih =>
  cases off with
  | zero =>
   cases cs with
   | nil =>
    have : ¬ (j < 0) := by omega
    simp [writeAt]
   | cons c cs =>
    cases j with
    | zero => simp [writeAt]
    | succ j =>
     have := ih 0 cs (by simp at h; omega) j
     simp only [writeAt, List.getElem?_cons_succ, this, Nat.zero_le, true_and, Nat.zero_add, List.length_cons, Nat.sub_zero, Nat.add_lt_add_iff_right]
  | succ off =>
   cases j with
   | zero => cases cs <;> simp [writeAt]
   | succ j =>
    have := ih off cs (by simp at h; omega) j
    have e : (writeAt (x :: r) (off + 1) cs) = x :: writeAt r off cs := by cases cs <;> rfl
    rw [e, List.getElem?_cons_succ, this]
    by_cases hh : off ≤ j ∧ j < off + cs.length
    ·rw [if_pos hh, if_pos (by omega)]; congr 1; omega
    ·rw [if_neg hh, if_neg (by omega)]; simp
end
end Go.AI
/- Each step of the interpreter is true of the model: stores, addresses, slices. -/
namespace Go.AI
set_option linter.unusedSectionVars false
variable [Sym]
set_option linter.unusedSimpArgs false
set_option linter.unusedVariables false
open Go.RowKit
theorem splice_get {α : Type} (l vs : List α) (p : Nat) (h : p + vs.length ≤ l.length) (k : Nat) :
  (l.take p ++ vs ++ l.drop (p + vs.length))[k]? = if p ≤ k ∧ k < p + vs.length then vs[k - p]? else l[k]? := by
 have hp : (l.take p).length = p := by simp; omega
 by_cases h1 : k < p
 ·rw [if_neg (by omega), List.append_assoc, List.getElem?_append_left (by omega), List.getElem?_take_of_lt h1]
 ·by_cases h2 : k < p + vs.length
  ·rw [if_pos (by omega), List.append_assoc, List.getElem?_append_right (by omega), hp, List.getElem?_append_left (by omega)]
  ·rw [if_neg (by omega), List.getElem?_append_right (by simp; omega), List.getElem?_drop]
   congr 1; simp; omega
theorem splice_len {α : Type} (l vs : List α) (p : Nat) (h : p + vs.length ≤ l.length) : (l.take p ++ vs ++ l.drop (p + vs.length)).length = l.length := by
 simp; omega
theorem row_lt {i n sz j : Nat} (hi : i < n) (hj : j < sz) : i * sz + j < n * sz := by
 have : (i + 1) * sz ≤ n * sz := Nat.mul_le_mul_right _ hi
 rw [Nat.succ_mul] at this; omega
theorem row_ne {i i' sz j j' : Nat} (h : i ≠ i') (hj : j < sz) (hj' : j' < sz) : i * sz + j ≠ i' * sz + j' := by
 rcases Nat.lt_or_gt_of_ne h with h | h
 ·have : (i + 1) * sz ≤ i' * sz := Nat.mul_le_mul_right _ h
  rw [Nat.succ_mul] at this; omega
 ·have : (i' + 1) * sz ≤ i * sz := Nat.mul_le_mul_right _ h
  rw [Nat.succ_mul] at this; omega
section
variable {base : Nat} {w0 : World} {β : Nat → Nat} {fz : Nat → Prop} {e' : AEv} {H H' : Heap} {a : Act} {w : World} {P : Program} {C : Orc} {o : Oper} {av : AVal} {n : Nat} {ok : Bool → Nat → Prop}
theorem does_store {t : TypeId} {x y : Operand} (hop : o.op = .store t x y) (hs : SimE base w0 β fz e' H a w) (h : aStore P t (e' x) (e' y) H = some H') : Does P o a w base w0 β fz H (.v undef) H' := by
 have hx := hs.ev x
 have hy := hs.ev y
 unfold aStore at h
 split at h
 ·rename_i id sz i off hp
  rw [hp] at hx
  split at h
  ·rename_i sz' rows hob
   split at h
   ·rename_i row cs k hrow hcs hk
    split at h
    ·rename_i hcond
     obtain ⟨rfl, hlen, hoff⟩ := hcond
     simp only [Option.some.injEq] at h
     subst h
     have hob' := obj_some hob
     obtain ⟨cur, e, g1, g2, g3, g4, g5⟩ := hs.heap.cells hob
     have hi : i < rows.length := (List.getElem?_eq_some_iff.1 hrow).1
     have hrl : row.length = sz' := g2 row (List.mem_of_getElem? hrow)
     obtain ⟨c1, c2, c3⟩ := cells_R hcs hy
     have hmul : (i + 1) * sz' ≤ rows.length * sz' := Nat.mul_le_mul_right _ hi
     rw [Nat.succ_mul] at hmul
     generalize hv : a.eval x = v at hx
     cases hx with
     | mp _ => exact absurd rfl (obj_live hob).2
     | ptr _ _ =>
     have hlt : (i * sz' + off) + (a.eval y).cells.toList.length ≤ cur.toList.length := by simp; omega
     have hrun := run_storeCells_at P (β id) (i * sz' + off) e (a.eval y).cells.toList 0 cur w g1 (by simpa using hlt) (fun v hv => c3 v (Array.mem_toList_iff.1 hv))
     simp only [Nat.add_zero] at hrun
     generalize hcur : (cur.toList.take (i * sz' + off) ++ (a.eval y).cells.toList ++ cur.toList.drop (i * sz' + off + (a.eval y).cells.toList.length)) = cur' at hrun
     have hget : ∀ k, cur'.toArray[k]? = if i * sz' + off ≤ k ∧ k < i * sz' + off + cs.length then (a.eval y).cells[k - (i * sz' + off)]? else cur[k]? := by
      intro k
      rw [List.getElem?_toArray, ← hcur, splice_get _ _ _ hlt]
      simp [c1]
     have hsz : cur'.toArray.size = cur.size := by rw [← hcur]; simpa using splice_len _ _ _ hlt
     obtain ⟨s1, s2⟩ := hs.heap.store (rows' := rows.set i (writeAt row off cs)) hob' g1 hsz
      (fun r hr => by
       rcases List.mem_or_eq_of_mem_set hr with hr | rfl
       ·exact g2 r hr
       ·rw [writeAt_length, hrl])
      (by rw [List.length_set, hsz]; exact g3)
      (fun j c hj => by
       rw [hget] at hj
       split at hj
       ·exact c3 c (Array.mem_of_getElem? hj)
       ·exact g4 j c hj)
      (fun i' r hi' j c hj => by
       rw [hget]
       by_cases hii : i' = i
       ·subst hii
        rw [List.getElem?_set_self hi] at hi'
        simp only [Option.some.injEq] at hi'
        subst hi'
        rw [writeAt_get _ _ _ (by omega)] at hj
        by_cases hh : off ≤ j ∧ j < off + cs.length
        ·rw [if_pos hh] at hj
         rw [if_pos (by omega)]
         have := c2 _ _ hj
         rwa [show i' * sz' + j - (i' * sz' + off) = j - off from by omega]
        ·rw [if_neg hh] at hj
         rw [if_neg (by omega)]
         exact g5 i' row hrow j c hj
       ·rw [List.getElem?_set_ne (by omega)] at hi'
        have hjl : j < sz' := by
         have := (List.getElem?_eq_some_iff.1 hj).1
         rw [g2 r (List.mem_of_getElem? hi')] at this; exact this
        have hne : ¬ (i * sz' + off ≤ i' * sz' + j ∧ i' * sz' + j < i * sz' + off + cs.length) := by
         intro hc
         have h3 : i' * sz' + j - i * sz' < sz' := by omega
         exact row_ne hii hjl h3 (by omega)
        rw [if_neg hne]
        exact g5 i' r hi' j c hj)
     refine does_skip ?_ s1 s2
     simp only [execOp, hop, hv]
     have hS := run_sz hk w
     have hne : ¬ (a.eval y).cells.size ≠ k := by omega
     simp [Instr.storeAt, Instr.sureAddr, storeVar, hS, c1, hlen, hrun]
    ·split at h
     case isFalse => cases h
     rename_i hcond
     obtain ⟨rfl, hs0, rfl, hlen, hoff⟩ := hcond
     simp only [Option.some.injEq] at h
     subst h
     have hob' := obj_some hob
     obtain ⟨cur, e, g1, g2, g3, g4, g5⟩ := hs.heap.cells hob
     obtain ⟨c1, c2, c3⟩ := cells_R hcs hy
     generalize hv : a.eval x = v at hx
     cases hx with
     | mp _ => exact absurd rfl hs0
     | ptr _ _ =>
     have hlt : off + (a.eval y).cells.toList.length ≤ cur.toList.length := by simp; omega
     have hrun := run_storeCells_at P (β id) off e (a.eval y).cells.toList 0 cur w g1 (by simpa using hlt) (fun v hv => c3 v (Array.mem_toList_iff.1 hv))
     simp only [Nat.add_zero] at hrun
     generalize hcur : (cur.toList.take off ++ (a.eval y).cells.toList ++ cur.toList.drop (off + (a.eval y).cells.toList.length)) = cur' at hrun
     have hget : ∀ k, cur'.toArray[k]? = if off ≤ k ∧ k < off + cs.length then (a.eval y).cells[k - off]? else cur[k]? := by
      intro k
      rw [List.getElem?_toArray, ← hcur, splice_get _ _ _ hlt]
      simp [c1]
     have hsz : cur'.toArray.size = cur.size := by rw [← hcur]; simpa using splice_len _ _ _ hlt
     have hml : (cs.map fun c => [c]).length = cs.length := by simp
     have hro : off + (cs.map fun c => [c]).length ≤ rows.length := by simp; omega
     obtain ⟨s1, s2⟩ := hs.heap.store (rows' := rows.take off ++ (cs.map fun c => [c]) ++ rows.drop (off + (cs.map fun c => [c]).length)) hob' g1 hsz
      (fun r hr => by
       simp only [List.mem_append] at hr
       rcases hr with (hr | hr) | hr
       ·exact g2 r (List.mem_of_mem_take hr)
       ·obtain ⟨c, _, rfl⟩ := List.mem_map.1 hr; rfl
       ·exact g2 r (List.mem_of_mem_drop hr))
      (by rw [splice_len _ _ _ hro, hsz]; exact g3)
      (fun j c hj => by
       rw [hget] at hj
       split at hj
       ·exact c3 c (Array.mem_of_getElem? hj)
       ·exact g4 j c hj)
      (fun i' r hi' j c hj => by
       rw [hget]
       rw [splice_get _ _ _ hro, hml] at hi'
       by_cases hh : off ≤ i' ∧ i' < off + cs.length
       ·rw [if_pos hh] at hi'
        simp only [List.getElem?_map, Option.map_eq_some_iff] at hi'
        obtain ⟨c', hc', rfl⟩ := hi'
        cases j with
        | succ j => simp at hj
        | zero =>
         simp at hj; subst hj
         rw [if_pos (by omega)]
         have := c2 _ _ hc'
         rwa [show i' * 1 + 0 - off = i' - off from by omega]
       ·rw [if_neg hh] at hi'
        have hjl : j < 1 := by
         have := (List.getElem?_eq_some_iff.1 hj).1
         rw [g2 r (List.mem_of_getElem? hi')] at this; exact this
        rw [if_neg (by omega)]
        exact g5 i' r hi' j c hj)
     rw [hml] at s1 s2
     refine does_skip ?_ s1 s2
     simp only [execOp, hop, hv]
     have hS := run_sz hk w
     simp [Instr.storeAt, Instr.sureAddr, storeVar, hS, c1, hlen, hrun]
   ·cases h
  ·cases h
 ·cases h
theorem does_fieldAddr {s : TypeId} {x : Operand} {f : Nat} (hop : o.op = .fieldAddr s x f) (hs : SimE base w0 β fz e' H a w) (h : aFieldAddr P s (e' x) f = some av) : Does P o a w base w0 β fz H av H := by
 have hx := hs.ev x
 unfold aFieldAddr at h
 split at h
 ·rename_i of k ty hf
  split at h
  ·cases h
  ·rename_i hk
   have hrun : ∀ b off : Nat, (Instr.fieldAt s (.pointer (some ⟨b, off, none⟩)) f).run P w = .ok (.pointer (some ⟨b, off + of, none⟩)) w := by
    intro b off
    unfold fieldOf at hf
    split at hf
    ·rename_i fs hu
     split at hf
     ·rename_i fld hfl
      simp only [Option.map_eq_some_iff, Prod.mk.injEq] at hf
      obtain ⟨m, hm, rfl, rfl, rfl⟩ := hf
      simp [Instr.fieldAt, run_underlying hu, hfl, Instr.sureAddr, fieldPlace, run_sz hm, hk, add_none]
     ·cases hf
    ·cases hf
   split at h
   ·rename_i id sz i off hp
    rw [hp] at hx
    split at h
    ·cases h
    rename_i hz0
    simp only [Option.some.injEq] at h
    subst h
    generalize hv : a.eval x = v at hx
    cases hx with
    | mp _ => exact absurd rfl hz0
    | ptr hid _ =>
     refine does_pure hs.heap (x := .pointer (some ⟨β id, i * sz + off + of, none⟩)) ?_ ?_
     ·simp only [execOp, hop, hv]; simp [hrun]
     ·have := R.ptr (β := β) (ok := okOf base fz) (w := w) (sz := sz) (i := i) (off := off + of) hid hz0
      rwa [← Nat.add_assoc] at this
   ·rename_i row off hp
    rw [hp] at hx
    simp only [Option.some.injEq] at h
    subst h
    generalize hv : a.eval x = v at hx
    cases hx with
    | @fptr _ _ _ b oo x' hb hc hr =>
     refine does_pure hs.heap (x := .pointer (some ⟨b, oo + off + of, none⟩)) ?_ ?_
     ·simp only [execOp, hop, hv]; simp [hrun]
     ·rw [Nat.add_assoc]; exact .fptr x' hb hc hr
   ·cases h
 ·cases h
theorem isAgg_R {x : Value} (h : isAggA av = true) (hr : R β ok w n av x) : ∃ xs, x = .agg xs := by
 cases hr <;> simp_all [isAggA]
 cases x <;> simp_all
theorem does_field {s : TypeId} {x : Operand} {f : Nat} (hop : o.op = .field s x f) (hs : SimE base w0 β fz e' H a w) (h : aField P s (e' x) f = some av) : Does P o a w base w0 β fz H av H := by
 unfold aField at h
 split at h
 ·rename_i of k ty cs hf hcs
  split at h
  ·rename_i hag
   obtain ⟨c1, c2, c3⟩ := cells_R hcs (hs.ev x)
   obtain ⟨y, hy, hR⟩ := part_R (w := w) h (a.eval x).cells c1 c2
   obtain ⟨xs, hxs⟩ := isAgg_R hag (hs.ev x)
   refine does_pure hs.heap (x := y) ?_ hR
   unfold fieldOf at hf
   split at hf
   ·rename_i fs hu
    split at hf
    ·rename_i fld hfl
     simp only [Option.map_eq_some_iff, Prod.mk.injEq] at hf
     obtain ⟨m, hm, rfl, rfl, rfl⟩ := hf
     rw [hxs] at hy
     simp only [execOp, hop, hxs]
     simp only [Value.cells] at hy
     simp [Instr.field, run_underlying hu, hfl, asAgg, hy]
    ·cases hf
   ·cases hf
  ·cases h
 ·cases h
theorem idx_some {i : AVal} {k m : Nat} {v : Value} (h : idx i m = some k) (hr : R β ok w n i v) : ∃ kd z, v = .int kd z ∧ 0 ≤ z ∧ z < m ∧ z.toNat = k := by
 unfold idx at h
 split at h
 ·rename_i kd z
  split at h
  ·rename_i hz
   simp only [Option.some.injEq] at h
   exact ⟨kd, z, hr.v_inv, hz.1, hz.2, h⟩
  ·cases h
 ·cases h
theorem does_index {t : TypeId} {x i : Operand} (hop : o.op = .index t x i) (hs : SimE base w0 β fz e' H a w) (h : aIndex P t (e' x) (e' i) = some av) : Does P o a w base w0 β fz H av H := by
 unfold aIndex at h
 split at h
 ·rename_i m e hA
  have hu := run_array_und hA
  split at h
  ·rename_i sz k cs hsz hk hcs
   split at h
   ·rename_i hag
    obtain ⟨c1, c2, c3⟩ := cells_R hcs (hs.ev x)
    obtain ⟨y, hy, hR⟩ := part_R (w := w) h (a.eval x).cells c1 c2
    obtain ⟨xs, hxs⟩ := isAgg_R hag (hs.ev x)
    obtain ⟨kd, z, hz, z0, z1, rfl⟩ := idx_some hk (hs.ev i)
    refine does_pure hs.heap (x := y) ?_ hR
    rw [hxs] at hy
    simp only [Value.cells] at hy
    simp only [execOp, hop, hxs, hz]
    simp [Instr.index, run_underlying hu, asIntOf, z0, z1, run_sz hsz, hy]
   ·cases h
  ·cases h
 ·split at h
  ·rename_i p q hp hq
   have hx := hs.ev x; have hi := hs.ev i
   rw [hp] at hx; rw [hq] at hi
   obtain ⟨z, hz, rfl⟩ := asV_some h
   refine does_pure hs.heap (x := z) ?_ .v
   simp only [execOp, hop, hx.v_inv, hi.v_inv]
   simp [pr_run hz w]
  ·cases h
theorem does_indexAddr {t : TypeId} {x i : Operand} (hop : o.op = .indexAddr t x i) (hs : SimE base w0 β fz e' H a w) (h : aIndexAddr P t (e' x) (e' i) = some av) : Does P o a w base w0 β fz H av H := by
 have hx := hs.ev x
 unfold aIndexAddr at h
 split at h
 ·rename_i m e hA
  have hu := run_array_und hA
  split at h
  ·rename_i sz k hsz hk
   obtain ⟨kd, z, hz, z0, z1, rfl⟩ := idx_some hk (hs.ev i)
   have hrun : ∀ b off : Nat, (Instr.indexAt t (.pointer (some ⟨b, off, none⟩)) (.int kd z)).run P w = .ok (.pointer (some ⟨b, off + z.toNat * sz, none⟩)) w := by
    intro b off
    simp [Instr.indexAt, run_underlying hu, asIntOf, z0, z1, run_sz hsz, Instr.sureAddr, add_none]
   split at h
   ·rename_i id s j off hp
    rw [hp] at hx
    split at h
    ·cases h
    rename_i hz0
    simp only [Option.some.injEq] at h
    subst h
    generalize hv : a.eval x = v at hx
    cases hx with
    | mp _ => exact absurd rfl hz0
    | ptr hid _ =>
     refine does_pure hs.heap (x := .pointer (some ⟨β id, j * s + off + z.toNat * sz, none⟩)) ?_ ?_
     ·simp only [execOp, hop, hv, hz]; simp [hrun]
     ·have := R.ptr (β := β) (ok := okOf base fz) (w := w) (sz := s) (i := j) (off := off + z.toNat * sz) hid hz0
      rwa [← Nat.add_assoc] at this
   ·rename_i row off hp
    rw [hp] at hx
    simp only [Option.some.injEq] at h
    subst h
    generalize hv : a.eval x = v at hx
    cases hx with
    | @fptr _ _ _ b oo x' hb hc hr =>
     refine does_pure hs.heap (x := .pointer (some ⟨b, oo + off + z.toNat * sz, none⟩)) ?_ ?_
     ·simp only [execOp, hop, hv, hz]; simp [hrun]
     ·rw [Nat.add_assoc]; exact .fptr x' hb hc hr
   ·cases h
  ·cases h
 ·split at h
  ·rename_i e hE
   have hu := run_slice_und hE
   split at h
   ·rename_i sz hsz
    have hrun : ∀ (ad : Addr) (len cap : Nat) (kd : IntKind) (z : Int), 0 ≤ z → z < len → (Instr.indexAt t (.slice (some ad) len cap) (.int kd z)).run P w = .ok (.pointer (some (ad.add (z.toNat * sz)))) w := by
     intro ad len cap kd z z0 z1
     simp [Instr.indexAt, run_underlying hu, asIntOf, z0, z1, run_sz hsz]
    split at h
    ·rename_i id sz' s len kc hp
     split at h
     ·rename_i hss
      obtain ⟨hss, hz0⟩ := hss
      subst hss
      rw [hp] at hx
      simp only [Option.map_eq_some_iff] at h
      obtain ⟨k, hk, rfl⟩ := h
      obtain ⟨kd, z, hz, z0, z1, rfl⟩ := idx_some hk (hs.ev i)
      generalize hv : a.eval x = v at hx
      cases hx with
      | @osl _ _ _ _ _ _ ad cap hid hl hkc ha =>
       rcases ha with ha | ⟨ha, _⟩
       ·omega
       ·refine does_pure hs.heap (x := .pointer (some (ad.add (z.toNat * sz')))) ?_ ?_
        ·simp only [execOp, hop, hv, hz]; simp [hrun _ _ _ _ _ z0 z1]
        ·have := R.ptr (β := β) (ok := okOf base fz) (w := w) (sz := sz') (i := s + z.toNat) (off := 0) hid hz0
         rw [ha, add_none]
         rwa [Nat.add_zero, Nat.add_mul] at this
     ·cases h
    ·rename_i oo sz' rows hp
     split at h
     ·rename_i hss
      subst hss
      rw [hp] at hx
      split at h
      ·rename_i k hk
       simp only [Option.map_eq_some_iff] at h
       obtain ⟨r, hr0, rfl⟩ := h
       obtain ⟨kd, z, hz, z0, z1, rfl⟩ := idx_some hk (hs.ev i)
       generalize hv : a.eval x = v at hx
       cases hx with
       | @fsl _ _ _ _ b off cap x' hl hsr hb hc hr =>
        have hlt : z.toNat < rows.length := by omega
        refine does_pure hs.heap (x := .pointer (some ⟨b, off + z.toNat * sz', none⟩)) ?_ ?_
        ·simp only [execOp, hop, hv, hz]; simp [hrun _ _ _ _ _ z0 z1, add_none]
        ·have hrl := hsr r (List.mem_of_getElem? hr0)
         have := R.fptr (β := β) (ok := okOf base fz) (w := w) (n := H.length) (row := r) (off := 0) (b := b) (o := off + z.toNat * sz') (x' z.toNat) (fun hne => ⟨(hb ⟨r, List.mem_of_getElem? hr0, hne⟩).1, fun h => by cases h⟩)
          (fun j hj => (hc z.toNat j hlt (by omega)).1) (fun j c hj => hr z.toNat r hr0 j c hj)
         simpa using this
       | fsl0 => simp at hr0
      ·cases h
     ·cases h
    ·cases h
   ·cases h
  ·cases h
theorem nilAhead_run {t : TypeId} {name : String} {g : FuncId} {n : Nat} {v : Value} (h : methodF P t name = some g) (w : World) : (nilAhead (n + 1) t v name).run P w = .ok (some false) w := by
 unfold methodF at h
 split at h
 ·rename_i i d hi hd
  split at h
  ·rename_i m hm
   split at h
   ·rename_i hp
    have hti : ∀ w : World, (typeInfo t).run P w = .ok i w := fun w => by simp [typeInfo, hi]
    have hun : ∀ w : World, (underlying t).run P w = .ok d w := fun w => by simp [underlying, hd]
    cases hfn : m.func with
    | none => rw [hfn] at h; simp at h
    | some q =>
     obtain ⟨f, pr⟩ := q
     rw [hfn] at h
     cases d <;> cases pr <;> simp at h <;> subst h <;> simp [nilAhead, hti, hun, hm, hp, hfn, followBlind]
   ·cases h
  ·cases h
 ·cases h
theorem does_nilCheck {x : Operand} (hop : o.op = .nilCheck x) (hs : SimE base w0 β fz e' H a w) (h : (match e' x with
  | .ptr id sz i off => if sz = 0 then none else some (AVal.ptr id sz i off, H)
  | .fptr row off => some (.fptr row off, H)
  | .fn f caps => some (.fn f caps, H)
  | .ifc t y => some (.ifc t y, H)
  | .meth n t => if (methodF P t n).isSome then some (.meth n t, H) else none
  | _ => none) = some (av, H')) : Does P o a w base w0 β fz H av H' := by
 have hx := hs.ev x
 split at h
 ·rename_i id sz i off hp
  split at h
  ·cases h
  rename_i hz0
  simp only [Option.some.injEq, Prod.mk.injEq] at h
  obtain ⟨rfl, rfl⟩ := h
  rw [hp] at hx
  generalize hv : a.eval x = v at hx
  refine does_pure hs.heap (x := v) ?_ hx
  cases hx with
  | mp _ => exact absurd rfl hz0
  | ptr _ _ =>
  simp [execOp, hop, hv]
 ·rename_i row off hp
  simp only [Option.some.injEq, Prod.mk.injEq] at h
  obtain ⟨rfl, rfl⟩ := h
  rw [hp] at hx
  generalize hv : a.eval x = v at hx
  refine does_pure hs.heap (x := v) ?_ hx
  cases hx
  simp [execOp, hop, hv]
 ·rename_i f caps hp
  simp only [Option.some.injEq, Prod.mk.injEq] at h
  obtain ⟨rfl, rfl⟩ := h
  rw [hp] at hx
  generalize hv : a.eval x = v at hx
  refine does_pure hs.heap (x := v) ?_ hx
  cases hx
  simp [execOp, hop, hv]
 ·rename_i ti y hp
  simp only [Option.some.injEq, Prod.mk.injEq] at h
  obtain ⟨rfl, rfl⟩ := h
  rw [hp] at hx
  generalize hv : a.eval x = v at hx
  refine does_pure hs.heap (x := v) ?_ hx
  cases hx
  simp [execOp, hop, hv]
 ·rename_i nm t hp
  split at h
  ·rename_i hm
   simp only [Option.some.injEq, Prod.mk.injEq] at h
   obtain ⟨rfl, rfl⟩ := h
   obtain ⟨g, hg⟩ := Option.isSome_iff_exists.1 hm
   rw [hp] at hx
   generalize hv : a.eval x = v at hx
   refine does_pure hs.heap (x := v) ?_ hx
   cases hx with
   | @meth _ _ _ y =>
   have hn := nilAhead_run (n := P.types.size + 99) (v := y) hg w
   simp [execOp, hop, hv, Made.depth, hn]
  ·cases h
 ·cases h
theorem does_makeMeth {n : String} {first caps : Array Operand} (hop : o.op = .makeFunc (.method n) first caps) (hs : SimE base w0 β fz e' H a w) (h : (match first.toList, caps.toList with
  | [x], [] => match e' x with
   | .ifc t _ => some (AVal.meth n t, H)
   | _ => none
  | _, _ => none) = some (av, H')) : Does P o a w base w0 β fz H av H' := by
 split at h
 ·rename_i x hf hc
  split at h
  ·rename_i t y hp
   simp only [Option.some.injEq, Prod.mk.injEq] at h
   obtain ⟨rfl, rfl⟩ := h
   have hx := hs.ev x
   rw [hp] at hx
   generalize hv : a.eval x = v at hx
   cases hx with
   | @ifc _ _ _ z hz =>
   have h1 : first = #[x] := by apply Array.ext'; simpa using hf
   have h2 : caps = #[] := by apply Array.ext'; simpa using hc
   subst h1 h2
   refine does_pure hs.heap (x := .func (.method n) #[.iface t z] #[]) ?_ .meth
   simp [execOp, hop, Instr.makeFunc, hv]
  ·cases h
 ·cases h
theorem does_makeFunc {f : FuncId} {first caps : Array Operand} (hop : o.op = .makeFunc (.func f) first caps) (hs : SimE base w0 β fz e' H a w) (hf : first.size = 0) : Does P o a w base w0 β fz H (.fn f (caps.toList.map (e'))) H := by
 have : first = #[] := by simpa using hf
 subst this
 refine does_pure hs.heap (x := .func (.func f) #[] (caps.map a.eval)) (by simp [execOp, hop, Instr.makeFunc]) ?_
 refine .fn (by simp) fun j c hj => ?_
 simp only [List.getElem?_map, Option.map_eq_some_iff, Array.getElem?_toList] at hj
 obtain ⟨y, hy, rfl⟩ := hj
 simp only [Array.getElem?_map, hy, Option.map_some, Option.getD_some]
 exact hs.ev y
end
end Go.AI
