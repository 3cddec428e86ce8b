/- Structs and arrays compared. -/
import Derived.Test.YtibpipgabcpaoaaGA
import Derived.Laws.StructEq
import Derived.ChangeKeysEq
namespace Go.AI
set_option linter.unusedSimpArgs false
set_option linter.unusedVariables false
open Go.RowKit
theorem eqTy_cons {t : Nat} {ts : List Nat} {xs ys : List Value} {b : Bool} (h : eqTy (t :: ts) xs ys = some b) :
  ∃ x xs' y ys' c r, xs = x :: xs' ∧ ys = y :: ys' ∧ eqC t x y = some c ∧ eqTy ts xs' ys' = some r ∧ b = (c && r) := by
 cases xs with
 | nil => simp [eqTy] at h
 | cons x xs =>
  cases ys with
  | nil => simp [eqTy] at h
  | cons y ys =>
   simp only [eqTy] at h
   split at h
   ·rename_i c hc
    split at h
    ·rename_i r hr
     simp only [Option.some.injEq] at h
     exact ⟨x, xs, y, ys, c, r, rfl, rfl, hc, hr, h.symm⟩
    ·cases h
   ·cases h
theorem eqTy_nil {xs ys : List Value} {b : Bool} (h : eqTy [] xs ys = some b) : xs = [] ∧ ys = [] ∧ b = true := by
 cases xs <;> cases ys <;> simp [eqTy] at h
 exact ⟨rfl, rfl, h⟩
theorem eqTy_app : ∀ (ts1 ts2 : List Nat) (xs ys : List Value) (b : Bool), eqTy (ts1 ++ ts2) xs ys = some b →
  ∃ b1 b2, eqTy ts1 (xs.take ts1.length) (ys.take ts1.length) = some b1 ∧ eqTy ts2 (xs.drop ts1.length) (ys.drop ts1.length) = some b2 ∧ b = (b1 && b2)
 | [], ts2, xs, ys, b, h => ⟨true, b, by simp [eqTy], by simpa using h, by simp⟩
 | t :: ts1, ts2, xs, ys, b, h => by
  obtain ⟨x, xs', y, ys', c, r, rfl, rfl, hc, hr, rfl⟩ := eqTy_cons h
  obtain ⟨b1, b2, h1, h2, h3⟩ := eqTy_app ts1 ts2 xs' ys' r hr
  exact ⟨c && b1, b2, by simp [eqTy, hc, h1], by simpa using h2, by rw [h3, Bool.and_assoc]⟩
theorem eqTy_len : ∀ (ts : List Nat) (xs ys : List Value) (b : Bool), eqTy ts xs ys = some b → xs.length = ts.length ∧ ys.length = ts.length
 | [], xs, ys, b, h => by
  obtain ⟨rfl, rfl, _⟩ := eqTy_nil h
  exact ⟨rfl, rfl⟩
 | t :: ts, xs, ys, b, h => by
  obtain ⟨x, xs', y, ys', c, r, rfl, rfl, hc, hr, rfl⟩ := eqTy_cons h
  have := eqTy_len ts xs' ys' r hr
  simp; omega
theorem eqTy_one {t : Nat} {xs ys : List Value} {b : Bool} (h : eqTy [t] xs ys = some b) : ∃ x y, xs = [x] ∧ ys = [y] ∧ eqC t x y = some b := by
 obtain ⟨x, xs', y, ys', c, r, rfl, rfl, hc, hr, rfl⟩ := eqTy_cons h
 obtain ⟨rfl, rfl, rfl⟩ := eqTy_nil hr
 exact ⟨x, y, rfl, rfl, by simpa using hc⟩
section
variable {P : Program} {w : World}
def ofCells (P : Program) (t : TypeId) (xs : List Value) : Value :=
 match aggOf P t with
 | some true => .agg xs.toArray
 | _ => xs.headD undef
theorem part_ofCells {t : TypeId} {n off : Nat} (hsz : szOf P t = some n) (hn : 0 < n ∨ aggOf P t = some true) (ha : (aggOf P t).isSome) (xs : Array Value) (hl : off + n ≤ xs.size) :
  (part t xs off).run P w = .ok (ofCells P t ((xs.toList.drop off).take n)) w := by
 unfold ofCells
 have hS : (sizeOf t).run P w = .ok n w := by
  unfold szOf at hsz
  unfold sizeOf typeInfo
  cases hi : P.info? t with
  | none => simp [hi] at hsz
  | some i => simp [hi] at hsz; simp [hi, hsz]
 cases hagg : aggOf P t with
 | none => rw [hagg] at ha; cases ha
 | some b =>
  cases b with
  | true =>
   have hA : (isAgg t).run P w = .ok true w := by
    unfold aggOf at hagg
    unfold isAgg underlying
    cases hu : P.underlying t with
    | none => simp [hu] at hagg
    | some d => cases d <;> simp_all
   simp only [part, Sem.run_bind, hA, Result.andThen_ok, if_true, hS, Sem.run_pure]
   congr 2
   apply Array.ext'
   simp [Array.toList_extract, List.extract_eq_take_drop]
  | false =>
   have hA : (isAgg t).run P w = .ok false w := by
    unfold aggOf at hagg
    unfold isAgg underlying
    cases hu : P.underlying t with
    | none => simp [hu] at hagg
    | some d => cases d <;> simp_all
   have hn' : 0 < n := by
    rcases hn with h | h
    ·exact h
    ·rw [hagg] at h; cases h
   have hx : xs[off]? = some (xs[off]'(by omega)) := Array.getElem?_eq_getElem (by omega)
   simp only [part, Sem.run_bind, hA, Result.andThen_ok, Bool.false_eq_true, if_false, hx, Sem.run_pure]
   congr 1
   have : (xs.toList.drop off).take n = xs[off]'(by omega) :: ((xs.toList.drop (off + 1)).take (n - 1)) := by
    rw [List.drop_eq_getElem_cons (by simp; omega)]
    obtain ⟨m, rfl⟩ : ∃ m, n = m + 1 := ⟨n - 1, by omega⟩
    simp
   rw [this]; rfl
def EqOk (P : Program) (d : Nat) (t : TypeId) (ts : List Nat) : Prop :=
 (aggOf P t).isSome ∧ (0 < ts.length ∨ aggOf P t = some true) ∧ ∀ (w : World) (d' : Nat) (xs ys : List Value) (b : Bool), d ≤ d' → eqTy ts xs ys = some b → (Op.equalIn d' t (ofCells P t xs) (ofCells P t ys)).run P w = .ok b w
theorem eqFields_run {g : TypeId → Option (List Nat)} {d d' : Nat} (hd : d ≤ d') (hg : ∀ t ts, g t = some ts → EqOk P d t ts) (xs ys : Array Value) : ∀ (fs : List Field) (off : Nat) (ts : List Nat) (b : Bool), flatF P g fs off = some ts →
  eqTy ts (xs.toList.drop off) (ys.toList.drop off) = some b → (Op.eqFields d' xs ys fs).run P w = .ok b w
 | [], off, ts, b, h, he => by
  simp only [flatF, Option.some.injEq] at h
  subst h
  obtain ⟨_, _, rfl⟩ := eqTy_nil he
  rfl
 | f :: fs, off, ts, b, h, he => by
  simp only [flatF] at h
  split at h
  ·cases h
  ·rename_i hc
   have hn1 : ¬ f.name = "_" := fun e => hc (.inl e)
   have hn2 : f.offset = off := Classical.byContradiction fun e => hc (.inr e)
   split at h
   ·rename_i ts1 hts1
    split at h
    ·rename_i hsz
     simp only [Option.map_eq_some_iff] at h
     obtain ⟨ts2, hts2, rfl⟩ := h
     obtain ⟨b1, b2, h1, h2, rfl⟩ := eqTy_app ts1 ts2 _ _ b he
     have hlen := eqTy_len _ _ _ _ he
     simp only [List.length_drop, Array.length_toList, List.length_append] at hlen
     obtain ⟨g1, g2, g3⟩ := hg f.type ts1 hts1
     have hlx : off + ts1.length ≤ xs.size ∨ ts1.length = 0 := by omega
     have hly : off + ts1.length ≤ ys.size ∨ ts1.length = 0 := by omega
     by_cases h0 : ts1.length = 0 ∧ ¬ (off ≤ xs.size ∧ off ≤ ys.size)
     ·-- an empty part behind the end: its cells are none
      have hA : aggOf P f.type = some true := by
       rcases g2 with h | h
       ·omega
       ·exact h
      have key : ∀ zs : Array Value, (part f.type zs off).run P w = .ok (ofCells P f.type ((zs.toList.drop off).take ts1.length)) w := by
       intro zs
       by_cases hz : off ≤ zs.size
       ·exact part_ofCells hsz (.inr hA) g1 zs (by omega)
       ·have hS : (sizeOf f.type).run P w = .ok ts1.length w := by
         unfold szOf at hsz
         unfold sizeOf typeInfo
         cases hi : P.info? f.type with
         | none => simp [hi] at hsz
         | some i => simp [hi] at hsz; simp [hi, hsz]
        have hI : (isAgg f.type).run P w = .ok true w := by
         unfold aggOf at hA
         unfold isAgg underlying
         cases hu : P.underlying f.type with
         | none => simp [hu] at hA
         | some d => cases d <;> simp_all
        simp only [part, Sem.run_bind, hI, Result.andThen_ok, if_true, hS, Sem.run_pure, ofCells, hA]
        congr 2
        apply Array.ext'
        simp [Array.toList_extract, List.extract_eq_take_drop]
      have h3 := g3 w d' _ _ b1 hd h1
      have ih := eqFields_run hd hg xs ys fs (off + ts1.length) ts2 b2 hts2 (by simpa [List.drop_drop] using h2)
      simp only [Op.eqFields, hn1, ne_eq, not_false_eq_true, if_true, Sem.run_bind, hn2, key xs, key ys, Result.andThen_ok, h3]
      cases b1
      ·simp
      ·simpa using ih
     ·have p1 := part_ofCells (w := w) hsz g2 g1 xs (off := off) (by omega)
      have p2 := part_ofCells (w := w) hsz g2 g1 ys (off := off) (by omega)
      have h3 := g3 w d' _ _ b1 hd h1
      have ih := eqFields_run hd hg xs ys fs (off + ts1.length) ts2 b2 hts2 (by simpa [List.drop_drop] using h2)
      simp only [Op.eqFields, hn1, ne_eq, not_false_eq_true, if_true, Sem.run_bind, hn2, p1, p2, Result.andThen_ok, h3]
      cases b1
      ·simp
      ·simpa using ih
    ·cases h
   ·cases h
theorem eqItems_run {e : TypeId} {ts : List Nat} {d d' : Nat} (hd : d ≤ d') (hsz : szOf P e = some ts.length) (hg : EqOk P d e ts) (xs ys : Array Value) : ∀ (n k : Nat) (b : Bool),
  eqTy (List.replicate n ts).flatten (xs.toList.drop (k * ts.length)) (ys.toList.drop (k * ts.length)) = some b → (Op.eqItems d' e ts.length xs ys (List.range' k n)).run P w = .ok b w
 | 0, k, b, he => by
  simp only [List.replicate_zero, List.flatten_nil] at he
  obtain ⟨_, _, rfl⟩ := eqTy_nil he
  rfl
 | n + 1, k, b, he => by
  simp only [List.replicate_succ, List.flatten_cons] at he
  obtain ⟨b1, b2, h1, h2, rfl⟩ := eqTy_app ts _ _ _ b he
  have hlen := eqTy_len _ _ _ _ he
  simp only [List.length_drop, Array.length_toList, List.length_append] at hlen
  obtain ⟨g1, g2, g3⟩ := hg
  have h3 := g3 w d' _ _ b1 hd h1
  have ih := eqItems_run hd hsz ⟨g1, g2, g3⟩ xs ys n (k + 1) b2 (by rw [Nat.succ_mul]; simpa [List.drop_drop] using h2)
  have hpart : ∀ zs : Array Value, (zs.size - k * ts.length = ts.length + ((List.replicate n ts).flatten).length) → (part e zs (k * ts.length)).run P w = .ok (ofCells P e ((zs.toList.drop (k * ts.length)).take ts.length)) w := by
   intro zs hz
   by_cases hl : k * ts.length + ts.length ≤ zs.size
   ·exact part_ofCells hsz g2 g1 zs hl
   ·have h0 : ts.length = 0 := by omega
    rw [h0] at hl; simp at hl
  simp only [List.range'_succ, Op.eqItems, Sem.run_bind, hpart xs hlen.1, hpart ys hlen.2, Result.andThen_ok, h3]
  cases b1
  ·simp
  ·simpa using ih
theorem flat_ok : ∀ (d : Nat) (t : TypeId) (ts : List Nat), flatT P d t = some ts → EqOk P d t ts
 | 0, t, ts, h => by simp [flatT] at h
 | d + 1, t, ts, h => by
  simp only [flatT] at h
  split at h
  ·rename_i hu
   simp only [Option.some.injEq] at h; subst h
   have ha : aggOf P t = some false := by simp [aggOf, hu]
   refine ⟨by simp [ha], .inl (by simp), fun w d' xs ys b hd he => ?_⟩
   obtain ⟨d', rfl⟩ : ∃ m, d' = m + 1 := ⟨d' - 1, by omega⟩
   obtain ⟨x, y, rfl, rfl, hc⟩ := eqTy_one he
   cases x <;> cases y <;> simp [eqC] at hc
   subst hc
   simp only [ofCells, ha, List.headD_cons]
   exact run_equalIn_bool w d' t _ _ hu
  ·rename_i k hu
   simp only [Option.some.injEq] at h; subst h
   have ha : aggOf P t = some false := by simp [aggOf, hu]
   refine ⟨by simp [ha], .inl (by simp), fun w d' xs ys b hd he => ?_⟩
   obtain ⟨d', rfl⟩ : ∃ m, d' = m + 1 := ⟨d' - 1, by omega⟩
   obtain ⟨x, y, rfl, rfl, hc⟩ := eqTy_one he
   cases x <;> cases y <;> simp [eqC] at hc
   obtain ⟨rfl, rfl⟩ := hc
   simp only [ofCells, ha, List.headD_cons]
   exact run_equalIn_int w d' t _ _ _ _ hu
  ·rename_i hu
   simp only [Option.some.injEq] at h; subst h
   have ha : aggOf P t = some false := by simp [aggOf, hu]
   refine ⟨by simp [ha], .inl (by simp), fun w d' xs ys b hd he => ?_⟩
   obtain ⟨d', rfl⟩ : ∃ m, d' = m + 1 := ⟨d' - 1, by omega⟩
   obtain ⟨x, y, rfl, rfl, hc⟩ := eqTy_one he
   cases x <;> cases y <;> simp [eqC] at hc
   subst hc
   simp only [ofCells, ha, List.headD_cons]
   exact run_equalIn_string w d' t _ _ hu
  ·rename_i fs hu
   split at h
   ·cases h
   ·rename_i hst
    have ha : aggOf P t = some true := by simp [aggOf, hu]
    refine ⟨by simp [ha], .inr ha, fun w d' xs ys b hd he => ?_⟩
    obtain ⟨d', rfl⟩ : ∃ m, d' = m + 1 := ⟨d' - 1, by omega⟩
    simp only [ofCells, ha]
    have hf : P.fieldsOf t = fs := by simp [Program.fieldsOf, hu]
    rw [run_equalIn_struct w d' t _ _ (by rw [hf]; exact hu) (by simpa using hst), hf]
    exact eqFields_run (d := d) (by omega) (fun t ts h => flat_ok d t ts h) _ _ fs.toList 0 ts b h (by simpa using he)
  ·rename_i k e hu
   split at h
   ·rename_i ts1 hts1
    split at h
    ·rename_i hsz
     simp only [Option.some.injEq] at h
     subst h
     have ha : aggOf P t = some true := by simp [aggOf, hu]
     refine ⟨by simp [ha], .inr ha, fun w d' xs ys b hd he => ?_⟩
     obtain ⟨d', rfl⟩ : ∃ m, d' = m + 1 := ⟨d' - 1, by omega⟩
     simp only [ofCells, ha]
     obtain ⟨i, hi⟩ : ∃ i, P.info? e = some i := by
      unfold szOf at hsz
      cases hh : P.info? e with
      | none => simp [hh] at hsz
      | some i => exact ⟨i, rfl⟩
     have hce : P.cellsOf e = ts1.length := by
      unfold szOf at hsz
      rw [hi] at hsz
      simp at hsz
      simp [Program.cellsOf, hi, hsz]
     rw [run_equalIn_array w d' _ _ hu hi, hce, List.range_eq_range']
     exact eqItems_run (d := d) (by omega) hsz (flat_ok d e ts1 hts1) _ _ k 0 b (by simpa using he)
    ·cases h
   ·cases h
  ·cases h
theorem eq_agg {t : TypeId} {ts : List Nat} {xs ys : Array Value} {b : Bool} (h : flatT P 6 t = some ts) (he : eqTy ts xs.toList ys.toList = some b) (w : World) (hagg : aggOf P t = some true) :
  (Op.equalIn 10000 t (.agg xs) (.agg ys)).run P w = .ok b w := by
 have := (flat_ok 6 t ts h).2.2 w 10000 xs.toList ys.toList b (by decide) he
 simpa [ofCells, hagg] using this
end
end Go.AI
