/- The relation between what is known and what is in memory. -/
import Derived.Test.YtdakclpneghkmaaGreatDoorL00
import Derived.Laws.CopyRow
import Derived.Laws.Rows
import Derived.Laws.CopyOwn
import Derived.Laws.World
import Derived.Laws.StructEq
import Derived.ChangeKeysEq
namespace Go.AI
set_option linter.unusedSimpArgs false
set_option linter.unusedVariables false
open Go.RowKit

inductive R (β : Nat → Nat) (ok : Bool → Nat → Prop) (w : World) : Nat → AVal → Value → Prop
  | junk {n x} : R β ok w n .junk x
  | anyb {n b} : R β ok w n .anyb (.bool b)
  | v {n x} : R β ok w n (.v x) x
  | ptr {n id sz i off} (h : id < n) (h0 : sz ≠ 0) : R β ok w n (.ptr id sz i off) (.pointer (some ⟨β id, i * sz + off, none⟩))
  | mp {n id} (h : id < n) : R β ok w n (.ptr id 0 0 0) (.map (some (β id)))
  | fptr {n row off b o} (x : Nat → Value) (hb : row ≠ [] → ok false b) (hc : ∀ j : Nat, j < row.length → w.cell? ⟨b, o + j, none⟩ = some (x j))
      (hr : ∀ (j : Nat) (a : AVal), row[j]? = some a → R β ok w 0 a (x j)) : R β ok w n (.fptr row off) (.pointer (some ⟨b, o + off, none⟩))
  | osl {n id sz s len kc a cap} (h : id < n) (hl : len ≤ kc) (hk : kc ≤ cap)
      (ha : cap = 0 ∨ (a = ⟨β id, s * sz, none⟩ ∧ ∃ (cs : Array Value) (e : TypeId) (f : Nat × Nat), w.heap[β id]? = some (.cells cs e f) ∧ (s + cap) * sz ≤ cs.size)) :
      R β ok w n (.osl id sz s len kc) (.slice (some a) len cap)
  | xsl {n id sz s len cap a} (h : id < n) (hl : len ≤ cap)
      (ha : cap = 0 ∨ (a = ⟨β id, s * sz, none⟩ ∧ ∃ (cs : Array Value) (e : TypeId) (f : Nat × Nat), w.heap[β id]? = some (.cells cs e f) ∧ (s + cap) * sz ≤ cs.size)) :
      R β ok w n (.xsl id sz s len cap) (.slice (some a) len cap)
  | fsl {n o sz rows b off cap} (x : Nat → Nat → Value) (hl : rows.length ≤ cap) (hs : ∀ r ∈ rows, r.length = sz) (hb : (∃ r ∈ rows, r ≠ []) → ok o b)
      (hc : ∀ i j : Nat, i < rows.length → j < sz → w.cell? ⟨b, off + i * sz + j, none⟩ = some (x i j) ∧ (x i j).oneCell' = true)
      (hr : ∀ (i : Nat) (r : Row), rows[i]? = some r → ∀ (j : Nat) (a : AVal), r[j]? = some a → R β ok w 0 a (x i j)) :
      R β ok w n (.fsl o sz rows) (.slice (some ⟨b, off, none⟩) rows.length cap)
  | fsl0 {n o sz a cap} : R β ok w n (.fsl o sz []) (.slice a 0 cap)
  | esl {n a} : R β ok w n .esl (.slice a 0 0)
  | agg {n cs xs} (hl : cs.length = xs.size) (hr : ∀ (j : Nat) (a : AVal), cs[j]? = some a → R β ok w n a (xs[j]?.getD undef)) : R β ok w n (.agg cs) (.agg xs)
  | tup {n cs xs} (hl : cs.length = xs.size) (hr : ∀ (j : Nat) (a : AVal), cs[j]? = some a → R β ok w n a (xs[j]?.getD undef)) : R β ok w n (.tup cs) (.tuple xs)
  | fn {n f cs xs} (hl : cs.length = xs.size) (hr : ∀ (j : Nat) (a : AVal), cs[j]? = some a → R β ok w n a (xs[j]?.getD undef)) : R β ok w n (.fn f cs) (.func (.func f) #[] xs)
  | when {n b a x} (h : b = true → R β ok w n a x) (hu : b = false → x = undef) : R β ok w n (.when b a) x
  | ifc {n t a x} (h : R β ok w n a x) : R β ok w n (.ifc t a) (.iface t x)
  | meth {n nm t x} : R β ok w n (.meth nm t) (.func (.method nm) #[.iface t x] #[])

theorem ne_of_lt_len {α : Type} {l : List α} {j : Nat} (h : j < l.length) : l ≠ [] := by rintro rfl; simp at h
theorem ne_of_lt_rows {rows : List Row} {sz i j : Nat} (hs : ∀ r ∈ rows, r.length = sz) (hi : i < rows.length) (hj : j < sz) : ∃ r ∈ rows, r ≠ [] :=
  ⟨rows[i], List.getElem_mem hi, ne_of_lt_len (j := j) (by rw [hs _ (List.getElem_mem hi)]; exact hj)⟩
theorem ne_of_get {α : Type} {l : List α} {j : Nat} {a : α} (h : l[j]? = some a) : l ≠ [] := by rintro rfl; simp at h
theorem ne_map {α γ : Type} {f : α → γ} {l : List α} (h : l.map f ≠ []) : l ≠ [] := by rintro rfl; exact h rfl
theorem ne_maps {f : Row → Row} (hf : ∀ r, f r ≠ [] → r ≠ []) {rows : List Row} (h : ∃ r ∈ rows.map f, r ≠ []) : ∃ r ∈ rows, r ≠ [] := by
  obtain ⟨r, hr, hn⟩ := h
  obtain ⟨q, hq, rfl⟩ := List.mem_map.1 hr
  exact ⟨q, hq, hf _ hn⟩
/-- the shapes of all blocks stay -/
def Shapes (w w' : World) : Prop := ∀ (b : Nat) (cs : Array Value) (e : TypeId) (f : Nat × Nat), w.heap[b]? = some (.cells cs e f) → ∃ (cs' : Array Value) (f' : Nat × Nat), w'.heap[b]? = some (.cells cs' e f') ∧ cs'.size = cs.size

theorem Shapes.refl (w : World) : Shapes w w := fun _ cs _ f h => ⟨cs, f, h, rfl⟩
theorem Shapes.trans {a b c : World} (h : Shapes a b) (k : Shapes b c) : Shapes a c := fun n cs e f hh => by
  obtain ⟨cs', f', h1, h2⟩ := h n cs e f hh
  obtain ⟨cs'', f'', h3, h4⟩ := k n cs' e f' h1
  exact ⟨cs'', f'', h3, h4.trans h2⟩

theorem cell_of_heap {w w' : World} {b o : Nat} (h : w'.heap[b]? = w.heap[b]?) : w'.cell? ⟨b, o, none⟩ = w.cell? ⟨b, o, none⟩ :=
  World.cell?_of_block h

theorem R.mono {β β' : Nat → Nat} {ok ok' : Bool → Nat → Prop} {w w' : World} {n n' : Nat} {a : AVal} {x : Value} (h : R β ok w n a x) (hn : n ≤ n')
    (hβ : ∀ id, id < n → β' id = β id) (hok : ∀ o b, ok o b → ok' o b) (hblk : ∀ o b, ok o b → w'.heap[b]? = w.heap[b]?)
    (hsh : Shapes w w') : R β' ok' w' n' a x := by
  induction h generalizing n' with
  | junk => exact .junk
  | anyb => exact .anyb
  | v => exact .v
  | @ptr n id sz i off h h0 => rw [← hβ id h]; exact .ptr (by omega) h0
  | @mp n id h => rw [← hβ id h]; exact .mp (by omega)
  | fptr x hb hc hr ih =>
    exact .fptr x (fun h => hok _ _ (hb h)) (fun j hj => (cell_of_heap (hblk _ _ (hb (ne_of_lt_len hj)))).trans (hc j hj)) (fun j a ha => ih j a ha (Nat.le_refl 0) (fun _ h => absurd h (Nat.not_lt_zero _)))
  | @osl n id sz s len kc a cap h hl hk ha =>
    refine .osl (by omega) hl hk ?_
    rcases ha with ha | ⟨ha, cs, e, f, hcs, hle⟩
    · exact .inl ha
    · obtain ⟨cs', f', h1, h2⟩ := hsh _ _ _ _ hcs
      exact .inr ⟨by rw [hβ id h]; exact ha, cs', e, f', by rw [hβ id h]; exact h1, by omega⟩
  | @xsl n id sz s len cap a h hl ha =>
    refine .xsl (by omega) hl ?_
    rcases ha with ha | ⟨ha, cs, e, f, hcs, hle⟩
    · exact .inl ha
    · obtain ⟨cs', f', h1, h2⟩ := hsh _ _ _ _ hcs
      exact .inr ⟨by rw [hβ id h]; exact ha, cs', e, f', by rw [hβ id h]; exact h1, by omega⟩
  | fsl x hl hs hb hc hr ih =>
    exact .fsl x hl hs (fun h => hok _ _ (hb h)) (fun i j hi hj => ⟨(cell_of_heap (hblk _ _ (hb (ne_of_lt_rows hs hi hj)))).trans (hc i j hi hj).1, (hc i j hi hj).2⟩) (fun i r hi j a ha => ih i r hi j a ha (Nat.le_refl 0) (fun _ h => absurd h (Nat.not_lt_zero _)))
  | fsl0 => exact .fsl0
  | esl => exact .esl
  | agg hl hr ih => exact .agg hl fun j a ha => ih j a ha hn hβ
  | tup hl hr ih => exact .tup hl fun j a ha => ih j a ha hn hβ
  | fn hl hr ih => exact .fn hl fun j a ha => ih j a ha hn hβ
  | when h hu ih => exact .when (fun hb => ih hb hn hβ) hu
  | ifc h ih => exact .ifc (ih hn hβ)
  | meth => exact .meth

theorem soft_R {β : Nat → Nat} {ok : Bool → Nat → Prop} {w : World} {n : Nat} {a : AVal} {x : Value} (h : R β ok w n a x) : R β ok w n (soft a) x := by
  unfold soft
  split
  · cases h with
    | xsl h hl ha => exact .osl h hl (Nat.le_refl _) ha
  · exact h

/-- which blocks frozen data may lie in -/
def okOf (base : Nat) (fz : Nat → Prop) (o : Bool) (b : Nat) : Prop := fz b ∧ (o = true → base ≤ b)

def Live (H : Heap) (id : Nat) : Prop := ∃ o, H[id]? = some (some o)

/-- an object of cells -/
def CSim (base : Nat) (β : Nat → Nat) (fz : Nat → Prop) (w : World) (n id sz : Nat) (rows : List Row) : Prop :=
  ∃ (cs : Array Value) (e : TypeId), w.heap[β id]? = some (.cells cs e (0, 0)) ∧ (∀ r ∈ rows, r.length = sz) ∧ rows.length * sz ≤ cs.size ∧ (∀ (j : Nat) (c : Value), cs[j]? = some c → c.oneCell' = true) ∧
    ∀ (i : Nat) (r : Row), rows[i]? = some r → ∀ (j : Nat) (a : AVal), r[j]? = some a → R β (okOf base fz) w n a (cs[i * sz + j]?.getD undef)
/-- entries were born one after the other -/
structure Born (es : List MapEntry) (clock : Nat) : Prop where
  nodup : (es.map (·.born)).Nodup
  lt : ∀ e ∈ es, e.born < clock
/-- a map: its entries' keys are known, in their order -/
def MSimO (base : Nat) (β : Nat → Nat) (fz : Nat → Prop) (w : World) (n id : Nat) (rows : List Row) : Prop :=
  ∃ (es : Array MapEntry) (clock : Nat), w.heap[β id]? = some (.map es clock) ∧ es.size = rows.length ∧ Born es.toList clock ∧
    ∀ (i : Nat) (r : Row), rows[i]? = some r → ∃ (en : MapEntry) (a : AVal), es[i]? = some en ∧ r = [.v en.key, a] ∧ R β (okOf base fz) w n a en.val
/-- the same, in whatever order -/
def MSim (base : Nat) (β : Nat → Nat) (fz : Nat → Prop) (w : World) (n id : Nat) (rows : List Row) : Prop :=
  ∃ rs : List Row, rs.Perm rows ∧ MSimO base β fz w n id rs
/-- a map that is walked through, with its clock and its entries' stamps; an iterator -/
def Fits (o : Obj) (xs : List (List Value)) : Prop :=
  (∃ (es : Array MapEntry) (clock : Nat), o = .map es clock ∧ Born es.toList clock ∧ xs = [.int .i64 (clock : Int)] :: es.toList.map fun e => [e.key, e.val, .int .i64 (e.born : Int)]) ∨
  (∃ (m since stepped : Nat) (seen : Array Nat), o = .mapIter (some m) since seen stepped ∧ xs = [[.map (some m), .int .i64 (since : Int), .int .i64 (stepped : Int)], seen.toList.map fun s => .int .i64 (s : Int)])
def RowsR (β : Nat → Nat) (ok : Bool → Nat → Prop) (w : World) (n : Nat) (rows : List Row) (xs : List (List Value)) : Prop :=
  xs.length = rows.length ∧ ∀ (i : Nat) (r : Row) (x : List Value), rows[i]? = some r → xs[i]? = some x → x.length = r.length ∧ ∀ (j : Nat) (a : AVal) (v : Value), r[j]? = some a → x[j]? = some v → R β ok w n a v
def GSim (base : Nat) (β : Nat → Nat) (fz : Nat → Prop) (w : World) (n id : Nat) (rows : List Row) : Prop :=
  ∃ (o : Obj) (xs : List (List Value)), w.heap[β id]? = some o ∧ Fits o xs ∧ RowsR β (okOf base fz) w n rows xs ∧ ∃ (r : Row) (rs : List Row), rows = r :: rs ∧ r.length ≠ 2
theorem GSim.map {base base' n n' id id' : Nat} {β β' : Nat → Nat} {fz fz' : Nat → Prop} {w w' : World} {rows : List Row} (h : GSim base β fz w n id rows) {f : AVal → AVal}
    (hf : ∀ r ∈ rows, ∀ a ∈ r, ∀ v, R β (okOf base fz) w n a v → R β' (okOf base' fz') w' n' (f a) v) (hb : w'.heap[β' id']? = w.heap[β id]?) : GSim base' β' fz' w' n' id' (rows.map (List.map f)) := by
  obtain ⟨o, xs, h1, h2, ⟨h3, h4⟩, r, rs, h5, h6⟩ := h
  refine ⟨o, xs, hb.trans h1, h2, ⟨by simpa using h3, fun i r x hi hx => ?_⟩, r.map f, rs.map (List.map f), by rw [h5]; rfl, by simpa using h6⟩
  simp only [List.getElem?_map, Option.map_eq_some_iff] at hi
  obtain ⟨r', hr', rfl⟩ := hi
  obtain ⟨k1, k2⟩ := h4 i r' x hr' hx
  refine ⟨by simpa using k1, fun j a v ha hv => ?_⟩
  simp only [List.getElem?_map, Option.map_eq_some_iff] at ha
  obtain ⟨a', ha', rfl⟩ := ha
  exact hf r' (List.mem_of_getElem? hr') a' (List.mem_of_getElem? ha') v (k2 j a' v ha' hv)
theorem GSim.unmap {base base' n n' id id' : Nat} {β β' : Nat → Nat} {fz fz' : Nat → Prop} {w w' : World} {rows : List Row} {f : AVal → AVal} (h : GSim base β fz w n id (rows.map (List.map f)))
    (hf : ∀ r ∈ rows, ∀ a ∈ r, ∀ v, R β (okOf base fz) w n (f a) v → R β' (okOf base' fz') w' n' a v) (hb : w'.heap[β' id']? = w.heap[β id]?) : GSim base' β' fz' w' n' id' rows := by
  obtain ⟨o, xs, h1, h2, ⟨h3, h4⟩, r, rs, h5, h6⟩ := h
  refine ⟨o, xs, hb.trans h1, h2, ⟨by simpa using h3, fun i r x hi hx => ?_⟩, ?_⟩
  · obtain ⟨k1, k2⟩ := h4 i (r.map f) x (by simp [hi]) hx
    exact ⟨by simpa using k1, fun j a v ha hv => hf r (List.mem_of_getElem? hi) a (List.mem_of_getElem? ha) v (k2 j (f a) v (by simp [ha]) hv)⟩
  · cases rows with
    | nil => cases h5
    | cons q qs =>
      simp only [List.map_cons, List.cons.injEq] at h5
      exact ⟨q, qs, rfl, by rw [← h5.1] at h6; simpa using h6⟩
theorem GSim.same {base base' n n' id id' : Nat} {β β' : Nat → Nat} {fz fz' : Nat → Prop} {w w' : World} {rows : List Row} (h : GSim base β fz w n id rows)
    (hf : ∀ r ∈ rows, ∀ a ∈ r, ∀ v, R β (okOf base fz) w n a v → R β' (okOf base' fz') w' n' a v) (hb : w'.heap[β' id']? = w.heap[β id]?) : GSim base' β' fz' w' n' id' rows := by
  have := h.map (f := fun a => a) hf hb
  simpa using this
theorem GSim.cells {base n id : Nat} {β : Nat → Nat} {fz : Nat → Prop} {w : World} {rows : List Row} (h : GSim base β fz w n id rows) {cs : Array Value} {e : TypeId} {f : Nat × Nat} : w.heap[β id]? ≠ some (.cells cs e f) := by
  obtain ⟨o, xs, h1, h2, _⟩ := h
  intro hc
  rw [h1] at hc
  cases hc
  rcases h2 with ⟨_, _, h2, _⟩ | ⟨_, _, _, _, h2, _⟩ <;> cases h2
/-- a map, or one that is walked through, or an iterator -/
def KSim (base : Nat) (β : Nat → Nat) (fz : Nat → Prop) (w : World) (n id : Nat) (rows : List Row) : Prop := MSim base β fz w n id rows ∨ GSim base β fz w n id rows
/-- each row is a key and a value: it is a map -/
theorem KSim.ofMap {base n id : Nat} {β : Nat → Nat} {fz : Nat → Prop} {w : World} {rows : List Row} (h : KSim base β fz w n id rows) (h2 : ∀ r rs, rows = r :: rs → r.length = 2) : MSim base β fz w n id rows := by
  rcases h with h | ⟨_, _, _, _, _, r, rs, h5, h6⟩
  · exact h
  · exact absurd (h2 r rs h5) h6
def OSim (base : Nat) (β : Nat → Nat) (fz : Nat → Prop) (w : World) (n id sz : Nat) (rows : List Row) : Prop :=
  if sz = 0 then KSim base β fz w n id rows else CSim base β fz w n id sz rows

/-- below block number B the world is as it was, and the draws go on -/
structure Below (B : Nat) (w w' : World) : Prop where
  os : w'.os = w.os
  tape : w'.tape = w.tape
  output : w'.output = w.output
  size : w.heap.size ≤ w'.heap.size
  block : ∀ k, k < B → w'.heap[k]? = w.heap[k]?
  drawn : w.drawn ≤ w'.drawn
theorem Below.kit {B : Nat} {w w' : World} (h : Below B w w') : RowKit.Below B w w' := ⟨h.os, h.tape, h.output, h.size, h.block⟩
theorem Below.refl (B : Nat) (w : World) : Below B w w := ⟨rfl, rfl, rfl, Nat.le_refl _, fun _ _ => rfl, Nat.le_refl _⟩
theorem Below.trans {B : Nat} {a b c : World} (h : Below B a b) (k : Below B b c) : Below B a c :=
  ⟨k.os.trans h.os, k.tape.trans h.tape, k.output.trans h.output, Nat.le_trans h.size k.size, fun i hi => (k.block i hi).trans (h.block i hi), Nat.le_trans h.drawn k.drawn⟩
theorem Below.mono {B B' : Nat} {w w' : World} (h : Below B w w') (hB : B' ≤ B) : Below B' w w' := ⟨h.os, h.tape, h.output, h.size, fun k hk => h.block k (Nat.lt_of_lt_of_le hk hB), h.drawn⟩
theorem Below.drew {B : Nat} {a w : World} (h : Below B a w) : Below B a w.drew := ⟨h.os, h.tape, h.output, h.size, h.block, Nat.le_succ_of_le h.drawn⟩
theorem Below.heap_alloc (w : World) (o : Obj) (k : Nat) (h : k < w.heap.size) : (w.alloc o).heap[k]? = w.heap[k]? := RowKit.Below.heap_alloc w o k h
theorem Below.alloc {B : Nat} {a w : World} (h : Below B a w) (hB : B ≤ w.heap.size) (o : Obj) : Below B a (w.alloc o) :=
  h.trans ⟨rfl, rfl, rfl, by simp, fun k hk => Below.heap_alloc _ _ _ (by omega), Nat.le_refl _⟩
structure HSim (base : Nat) (w0 : World) (β : Nat → Nat) (fz : Nat → Prop) (H : Heap) (w : World) : Prop where
  objs' : ∀ (id sz : Nat) (rows : List Row), H[id]? = some (some (sz, rows)) → OSim base β fz w H.length id sz rows
  inj : ∀ id id', Live H id → Live H id' → β id = β id' → id = id'
  own : ∀ id, Live H id → base ≤ β id ∧ ¬ fz (β id)
  fzlt : ∀ b, fz b → b < w.heap.size
  below : Below base w0 w
  base : base ≤ w0.heap.size

theorem obj_live {H : Heap} {id : Nat} {o : Nat × List Row} (h : obj H id = some o) : H[id]? = some (some o) ∧ o.1 ≠ 0 := by
  unfold obj at h
  cases h1 : H[id]? with
  | none => rw [h1] at h; cases h
  | some x =>
    cases x with
    | none => rw [h1] at h; cases h
    | some q =>
      rw [h1] at h
      simp only [Option.bind_some] at h
      split at h
      · cases h
      · rename_i h0; cases h; exact ⟨rfl, h0⟩
theorem HSim.cells {base : Nat} {w0 : World} {β : Nat → Nat} {fz : Nat → Prop} {H : Heap} {w : World} (hs : HSim base w0 β fz H w) {id sz : Nat} {rows : List Row} (h : obj H id = some (sz, rows)) : CSim base β fz w H.length id sz rows := by
  obtain ⟨h1, h2⟩ := obj_live h
  have := hs.objs' id sz rows h1
  rwa [OSim, if_neg h2] at this
theorem HSim.cells0 {base : Nat} {w0 : World} {β : Nat → Nat} {fz : Nat → Prop} {H : Heap} {w : World} (hs : HSim base w0 β fz H w) {id sz : Nat} {rows : List Row} (h : H[id]? = some (some (sz, rows))) (h0 : sz ≠ 0) : CSim base β fz w H.length id sz rows := by
  have := hs.objs' id sz rows h
  rwa [OSim, if_neg h0] at this
/-- the block is of cells: so is the object -/
theorem HSim.cells1 {base : Nat} {w0 : World} {β : Nat → Nat} {fz : Nat → Prop} {H : Heap} {w : World} (hs : HSim base w0 β fz H w) {id sz : Nat} {rows : List Row} (h : H[id]? = some (some (sz, rows))) {cs : Array Value} {e : TypeId} {f : Nat × Nat} (hc : w.heap[β id]? = some (.cells cs e f)) : sz ≠ 0 ∧ CSim base β fz w H.length id sz rows := by
  have h1 := hs.objs' id sz rows h
  unfold OSim at h1
  split at h1
  · rcases h1 with ⟨_, _, es, clock, h2, _⟩ | h1
    · rw [hc] at h2; cases h2
    · exact absurd hc h1.cells
  · exact ⟨by assumption, h1⟩
theorem HSim.blt {base : Nat} {w0 : World} {β : Nat → Nat} {fz : Nat → Prop} {H : Heap} {w : World} (hs : HSim base w0 β fz H w) {id : Nat} (h : Live H id) : β id < w.heap.size := by
  obtain ⟨⟨sz, rows⟩, h⟩ := h
  have h1 := hs.objs' id sz rows h
  unfold OSim at h1
  split at h1
  · rcases h1 with ⟨_, _, es, clock, h2, _⟩ | ⟨_, _, h2, _⟩ <;> exact (Array.getElem?_eq_some_iff.1 h2).1
  · obtain ⟨cs, e, h2, _⟩ := h1
    exact (Array.getElem?_eq_some_iff.1 h2).1

/-- what a step may do -/
structure Ext (n : Nat) (β : Nat → Nat) (fz : Nat → Prop) (w : World) (n' : Nat) (β' : Nat → Nat) (fz' : Nat → Prop) (w' : World) : Prop where
  hn : n ≤ n'
  hβ : ∀ id, id < n → β' id = β id
  hfz : ∀ b, fz b → fz' b
  blk : ∀ b, fz b → w'.heap[b]? = w.heap[b]?
  shape : Shapes w w'

theorem Ext.refl (n : Nat) (β : Nat → Nat) (fz : Nat → Prop) (w : World) : Ext n β fz w n β fz w := ⟨Nat.le_refl _, fun _ _ => rfl, fun _ h => h, fun _ _ => rfl, Shapes.refl _⟩

theorem Ext.trans {n n' n'' : Nat} {β β' β'' : Nat → Nat} {fz fz' fz'' : Nat → Prop} {w w' w'' : World} (h : Ext n β fz w n' β' fz' w') (k : Ext n' β' fz' w' n'' β'' fz'' w'') : Ext n β fz w n'' β'' fz'' w'' :=
  ⟨Nat.le_trans h.hn k.hn, fun id hi => (k.hβ id (Nat.lt_of_lt_of_le hi h.hn)).trans (h.hβ id hi), fun b hb => k.hfz b (h.hfz b hb), fun b hb => (k.blk b (h.hfz b hb)).trans (h.blk b hb), h.shape.trans k.shape⟩

theorem R.ext {base n n' : Nat} {β β' : Nat → Nat} {fz fz' : Nat → Prop} {w w' : World} {a : AVal} {x : Value} (h : R β (okOf base fz) w n a x) (k : Ext n β fz w n' β' fz' w') : R β' (okOf base fz') w' n' a x :=
  h.mono k.hn k.hβ (fun _ b hb => ⟨k.hfz b hb.1, hb.2⟩) (fun _ b hb => k.blk b hb.1) k.shape

/-- an object that nothing touched -/
theorem OSim.ext {base n n' : Nat} {β β' : Nat → Nat} {fz fz' : Nat → Prop} {w w' : World} {id id' sz : Nat} {rows : List Row} (h : OSim base β fz w n id sz rows) (k : Ext n β fz w n' β' fz' w') (hb : w'.heap[β' id']? = w.heap[β id]?) : OSim base β' fz' w' n' id' sz rows := by
  unfold OSim at h ⊢
  split
  · rename_i h0
    rw [if_pos h0] at h
    rcases h with h | h
    case inr => exact .inr (h.same (fun _ _ _ _ _ hr => hr.ext k) hb)
    obtain ⟨rs, hp, es, clock, h1, h2, hbn, h3⟩ := h
    refine .inl ⟨rs, hp, es, clock, hb.trans h1, h2, hbn, fun i r hi => ?_⟩
    obtain ⟨en, a, g1, g2, g3⟩ := h3 i r hi
    exact ⟨en, a, g1, g2, g3.ext k⟩
  · rename_i h0
    rw [if_neg h0] at h
    obtain ⟨cs, e, h1, h2, h3, h4, h5⟩ := h
    exact ⟨cs, e, hb.trans h1, h2, h3, h4, fun i r hi j a ha => (h5 i r hi j a ha).ext k⟩

/-- how many slots there are; where the call began -/
structure Fr where
  nt : Nat
  n0 : Nat
  βe : Nat → Nat
  fze : Nat → Prop
  we : World

/-- slots -/
structure Sim (nt : Fr) (base : Nat) (w0 : World) (β : Nat → Nat) (fz : Nat → Prop) (ρ : Env) (H : Heap) (a : Act) (w : World) : Prop where
  heap : HSim base w0 β fz H w
  defers : a.defers = []
  size : a.tmps.size = nt.nt
  ext : Ext nt.n0 nt.βe nt.fze nt.we H.length β fz w
  env : ∀ t, R β (okOf base fz) w H.length (look ρ t) (a.tmps.getD t undef)

theorem Sim.ev {nt : Fr} {base : Nat} {w0 : World} {β : Nat → Nat} {fz : Nat → Prop} {ρ : Env} {H : Heap} {a : Act} {w : World} (h : Sim nt base w0 β fz ρ H a w) (x : Operand) :
    R β (okOf base fz) w H.length (ev ρ x) (a.eval x) := by
  cases x with
  | tmp t => exact h.env t
  | const c => exact .v
  | global g => exact .junk
  | func f => exact .fn rfl (fun j a ha => by simp at ha)

/-- operands as they are known -/
structure SimE (base : Nat) (w0 : World) (β : Nat → Nat) (fz : Nat → Prop) (e : AEv) (H : Heap) (a : Act) (w : World) : Prop where
  heap : HSim base w0 β fz H w
  ev : ∀ x : Operand, R β (okOf base fz) w H.length (e x) (a.eval x)

theorem res_R {β : Nat → Nat} {ok : Bool → Nat → Prop} {w : World} {n : Nat} {g : Bool} {a : AVal} {x : Value} (hg : g = true) (h : R β ok w n a x) : R β ok w n (res g a) x := by
  unfold res
  split
  · cases h with
    | when h hu =>
      split
      · rename_i hb; exact h (hb hg)
      · exact .junk
  · exact h

theorem Sim.res {nt : Fr} {base : Nat} {w0 : World} {β : Nat → Nat} {fz : Nat → Prop} {ρ : Env} {H : Heap} {a : Act} {w : World} (h : Sim nt base w0 β fz ρ H a w) {g : Bool} (hg : g = true) :
    SimE base w0 β fz (fun x => res g (AI.ev ρ x)) H a w := ⟨h.heap, fun x => res_R hg (h.ev x)⟩

theorem Sim.put {nt : Fr} {base : Nat} {w0 : World} {β β' : Nat → Nat} {fz fz' : Nat → Prop} {ρ : Env} {H H' : Heap} {a : Act} {w w' : World} (h : Sim nt base w0 β fz ρ H a w)
    (hh : HSim base w0 β' fz' H' w') (k : Ext H.length β fz w H'.length β' fz' w') {d : Option Tmp} {av : AVal} {x : Value} (hd : ∀ t, d = some t → t < nt.nt) (hx : R β' (okOf base fz') w' H'.length av x) :
    Sim nt base w0 β' fz' (put ρ d av) H' (a.put d x) w' := by
  cases d with
  | none => exact ⟨hh, h.defers, h.size, h.ext.trans k, fun t => (h.env t).ext k⟩
  | some t =>
    have ht := hd t rfl
    refine ⟨hh, h.defers, by simp [Act.put, h.size], h.ext.trans k, fun s => ?_⟩
    simp only [AI.put, look, Act.put]
    by_cases hs : s = t
    · subst hs
      rw [if_pos rfl]
      have : (a.tmps.setIfInBounds s x).getD s undef = x := by
        simp [Array.getD, h.size, ht]
      rw [this]; exact hx
    · rw [if_neg hs]
      have : (a.tmps.setIfInBounds t x).getD s undef = a.tmps.getD s undef := by
        simp only [Array.getD_eq_getD_getElem?]
        rw [Array.getElem?_setIfInBounds_ne (by omega)]
      rw [this]; exact (h.env s).ext k
end Go.AI
/- Each step of the interpreter is true of the model: the heap. -/
namespace Go.AI
set_option linter.unusedSimpArgs false
set_option linter.unusedVariables false
open Go.RowKit

theorem add_none (b o k : Nat) : (⟨b, o, none⟩ : Addr).add k = ⟨b, o + k, none⟩ := by
  unfold Addr.add; split <;> simp_all

section
variable {base : Nat} {w0 : World} {β : Nat → Nat} {fz : Nat → Prop} {H : Heap} {w : World} {P : Program} {n : Nat} {ok : Bool → Nat → Prop}

theorem one_R {a : AVal} {x : Value} (h : oneA a = true) (hr : R β ok w n a x) : x.oneCell' = true := by
  cases hr <;> simp_all [oneA, Value.oneCell']

theorem cells_one {x : Value} (h : x.oneCell' = true) : x.cells = #[x] := by
  cases x <;> simp_all [Value.oneCell', Value.cells]

theorem cells_R {a : AVal} {cs : Row} {x : Value} (h : cellsOf a = some cs) (hr : R β ok w n a x) :
    x.cells.size = cs.length ∧ (∀ (j : Nat) (c : AVal), cs[j]? = some c → R β ok w n c (x.cells[j]?.getD undef)) ∧ ∀ c, c ∈ x.cells → c.oneCell' = true := by
  have one : ∀ a : AVal, oneA a = true → R β ok w n a x → x.cells.size = [a].length ∧ (∀ (j : Nat) (c : AVal), [a][j]? = some c → R β ok w n c (x.cells[j]?.getD undef)) ∧ ∀ c, c ∈ x.cells → c.oneCell' = true := by
    intro a ha hr
    have h1 := one_R ha hr
    rw [cells_one h1]
    refine ⟨rfl, fun j c hj => ?_, fun c hc => ?_⟩
    · cases j with
      | zero => simp at hj; subst hj; simpa using hr
      | succ j => simp at hj
    · simp at hc; subst hc; exact h1
  cases a with
  | v y =>
    cases hr
    by_cases hy : x.oneCell' = true
    · have : cs = [.v x] := by
        cases x <;> simp_all [cellsOf, Value.oneCell']
      subst this
      exact one _ hy .v
    · cases x with
      | agg ys =>
        simp only [cellsOf] at h
        split at h
        · rename_i hall
          simp only [Option.some.injEq] at h
          subst h
          refine ⟨by simp [Value.cells], fun j c hj => ?_, fun c hc => ?_⟩
          · simp only [List.getElem?_map, Option.map_eq_some_iff, Array.getElem?_toList] at hj
            obtain ⟨y, hy, rfl⟩ := hj
            simp only [Value.cells, hy, Option.getD_some]
            exact .v
          · exact allOne_mem hall c (Array.mem_toList_iff.2 hc)
        · cases h
      | _ => simp_all [Value.oneCell', cellsOf]
  | agg ys =>
    cases hr with
    | @agg _ _ xs hl hr =>
      simp only [cellsOf] at h
      split at h
      · rename_i hall
        simp only [Option.some.injEq] at h
        subst h
        refine ⟨hl.symm, hr, fun c hc => ?_⟩
        obtain ⟨j, hj⟩ := Array.getElem?_of_mem hc
        change xs[j]? = some c at hj
        have hj' : j < xs.size := (Array.getElem?_eq_some_iff.1 hj).1
        have hjy : j < ys.length := by omega
        have := hr j ys[j] (List.getElem?_eq_getElem hjy)
        rw [hj] at this
        exact one_R (allOneA_mem hall _ (List.getElem_mem hjy)) this
      · cases h
  | junk => simp [cellsOf] at h
  | tup vs => simp [cellsOf] at h
  | anyb => simp [cellsOf] at h; subst h; exact one _ rfl hr
  | ptr _ _ _ _ => simp [cellsOf] at h; subst h; exact one _ rfl hr
  | fptr _ _ => simp [cellsOf] at h; subst h; exact one _ rfl hr
  | osl _ _ _ _ _ => simp [cellsOf] at h; subst h; exact one _ rfl hr
  | xsl _ _ _ _ _ => simp [cellsOf] at h; subst h; exact one _ rfl hr
  | fsl _ _ _ => simp [cellsOf] at h; subst h; exact one _ rfl hr
  | esl => simp [cellsOf] at h; subst h; exact one _ rfl hr
  | fn _ _ => simp [cellsOf] at h; subst h; exact one _ rfl hr
  | when _ _ => simp [cellsOf] at h
  | ifc _ _ => simp [cellsOf] at h; subst h; exact one _ rfl hr
  | meth _ _ => simp [cellsOf] at h; subst h; exact one _ rfl hr

theorem allV_some {cs : Row} {xs : List Value} (h : allV cs = some xs) : cs = xs.map .v := by
  induction cs generalizing xs with
  | nil => simp [allV] at h; subst h; rfl
  | cons a r ih =>
    cases a <;> simp only [allV, Option.map_eq_some_iff, reduceCtorEq] at h
    obtain ⟨ys, hy, rfl⟩ := h
    simp [ih hy]

theorem mkAgg_R {cs : Row} {xs : Array Value} (hl : cs.length = xs.size) (hr : ∀ (j : Nat) (a : AVal), cs[j]? = some a → R β ok w n a (xs[j]?.getD undef)) : R β ok w n (mkAgg cs) (.agg xs) := by
  unfold mkAgg
  split
  · rename_i ys hy
    have hcs := allV_some hy
    subst hcs
    have : xs = ys.toArray := by
      apply Array.ext (by simpa using hl.symm)
      intro j h1 h2
      have := hr j (.v (ys[j]'(by simpa using h2))) (by simp at h2; simp [h2])
      generalize hz : xs[j]?.getD undef = z at this
      cases this
      simp [h1] at hz
      simpa using hz
    rw [this]; exact .v
  · exact .agg hl hr

/-- what a row in memory shows -/
theorem read_R {t : TypeId} {row : Row} {off : Nat} {a : AVal} (h : readAt P t row off = some a) (b o : Nat) (x : Nat → Value)
    (hc : ∀ j : Nat, j < row.length → w.cell? ⟨b, o + j, none⟩ = some (x j)) (hr : ∀ (j : Nat) (c : AVal), row[j]? = some c → R β ok w n c (x j)) :
    ∃ y, (loadVar t ⟨b, o + off, none⟩).run P w = .ok y w ∧ R β ok w n a y := by
  unfold readAt at h
  split at h
  · rename_i hagg
    have hA : (isAgg t).run P w = .ok true w := by
      unfold aggOf at hagg
      unfold isAgg underlying
      cases hu : P.underlying t with
      | none => simp [hu] at hagg
      | some d => cases d <;> simp_all
    split at h
    · rename_i k hk
      split at h
      · rename_i hle
        simp only [Option.some.injEq] at h
        subst h
        have hS : (sizeOf t).run P w = .ok k w := by
          unfold szOf at hk
          unfold sizeOf typeInfo
          cases hi : P.info? t with
          | none => simp [hi] at hk
          | some i => simp [hi] at hk; simp [hi, hk]
        have hL := run_loadCells (P := P) w ⟨b, o + off, none⟩ k (fun j => x (off + j)) (fun j hj => by
          rw [add_none]; have := hc (off + j) (by omega); rwa [← Nat.add_assoc] at this)
        refine ⟨.agg ((List.range k).map fun j => x (off + j)).toArray, ?_, ?_⟩
        · simp [loadVar, hA, hS, hL]
        · refine mkAgg_R (by simp; omega) fun j c hj => ?_
          have hjk : j < k := by
            have := (List.getElem?_eq_some_iff.1 hj).1; simp at this; omega
          have : ((row.drop off).take k)[j]? = row[off + j]? := by
            rw [List.getElem?_take_of_lt hjk, List.getElem?_drop]
          rw [this] at hj
          have := hr _ _ hj
          simpa [hjk] using this
      · cases h
    · cases h
  · rename_i hagg
    have hA : (isAgg t).run P w = .ok false w := by
      unfold aggOf at hagg
      unfold isAgg underlying
      cases hu : P.underlying t with
      | none => simp [hu] at hagg
      | some d => cases d <;> simp_all
    have hlt : off < row.length := (List.getElem?_eq_some_iff.1 h).1
    refine ⟨x off, ?_, hr _ _ h⟩
    simp [loadVar, hA, hc off hlt]
  · cases h

theorem part_R {t : TypeId} {row : Row} {off : Nat} {a : AVal} (h : readAt P t row off = some a) (xs : Array Value) (hl : xs.size = row.length)
    (hr : ∀ (j : Nat) (c : AVal), row[j]? = some c → R β ok w n c (xs[j]?.getD undef)) :
    ∃ y, (part t xs off).run P w = .ok y w ∧ R β ok w n a y := by
  unfold readAt at h
  split at h
  · rename_i hagg
    have hA : (isAgg t).run P w = .ok true w := by
      unfold aggOf at hagg
      unfold isAgg underlying
      cases hu : P.underlying t with
      | none => simp [hu] at hagg
      | some d => cases d <;> simp_all
    split at h
    · rename_i k hk
      split at h
      · rename_i hle
        simp only [Option.some.injEq] at h
        subst h
        have hS : (sizeOf t).run P w = .ok k w := by
          unfold szOf at hk
          unfold sizeOf typeInfo
          cases hi : P.info? t with
          | none => simp [hi] at hk
          | some i => simp [hi] at hk; simp [hi, hk]
        refine ⟨.agg (xs.extract off (off + k)), ?_, ?_⟩
        · simp [part, hA, hS]
        · refine mkAgg_R (by simp; omega) fun j c hj => ?_
          have hjk : j < k := by
            have := (List.getElem?_eq_some_iff.1 hj).1; simp at this; omega
          have : ((row.drop off).take k)[j]? = row[off + j]? := by
            rw [List.getElem?_take_of_lt hjk, List.getElem?_drop]
          rw [this] at hj
          have h2 := hr _ _ hj
          have : (xs.extract off (off + k))[j]? = xs[off + j]? := by
            rw [Array.getElem?_extract, if_pos (by omega)]
          rw [this]; exact h2
      · cases h
    · cases h
  · rename_i hagg
    have hA : (isAgg t).run P w = .ok false w := by
      unfold aggOf at hagg
      unfold isAgg underlying
      cases hu : P.underlying t with
      | none => simp [hu] at hagg
      | some d => cases d <;> simp_all
    have hlt : off < row.length := (List.getElem?_eq_some_iff.1 h).1
    have hx : xs[off]? = some (xs[off]'(by omega)) := Array.getElem?_eq_getElem (by omega)
    refine ⟨xs[off]'(by omega), ?_, ?_⟩
    · simp only [part, Sem.run_bind, hA, Result.andThen_ok, Bool.false_eq_true, if_false, hx]; rfl
    · have := hr _ _ h; rwa [hx] at this
  · cases h
end
end Go.AI
/- Each step of the interpreter is true of the model: stores, new objects. -/
namespace Go.AI
set_option linter.unusedSimpArgs false
set_option linter.unusedVariables false
open Go.RowKit

theorem Below.setRow {B : Nat} {a w : World} (h : Below B a w) {g : Nat} (hg : B ≤ g) (cs : Array Value) : Below B a (w.setRow g cs) := by
  have k := below_setRow h.kit hg cs
  exact ⟨k.os, k.tape, k.output, k.size, k.block, by rw [setRow_drawn]; exact h.drawn⟩
theorem Shapes.setRow {w : World} {g : Nat} {cs cs' : Array Value} {e : TypeId} {f : Nat × Nat} (hg : w.heap[g]? = some (.cells cs e f)) (hs : cs'.size = cs.size) : Shapes w (w.setRow g cs') := by
  intro b c e' f' hb
  by_cases h : b = g
  · subst h
    rw [hg] at hb
    simp only [Option.some.injEq, Obj.cells.injEq] at hb
    obtain ⟨rfl, rfl, rfl⟩ := hb
    exact ⟨cs', f, setRow_heap w b cs cs' e f hg, hs⟩
  · exact ⟨c, f', by rw [setRow_other w g b cs' h]; exact hb, rfl⟩

theorem Shapes.alloc (w : World) (o : Obj) : Shapes w (w.alloc o) := by
  intro b c e f hb
  have : b < w.heap.size := (Array.getElem?_eq_some_iff.1 hb).1
  exact ⟨c, f, by rw [Below.heap_alloc w o b this]; exact hb, rfl⟩

section
variable {base : Nat} {w0 : World} {β : Nat → Nat} {fz : Nat → Prop} {H : Heap} {w : World} {P : Program}

theorem Live.set {H : Heap} {id k : Nat} {o : Option (Nat × List Row)} (h : Live (H.set id o) k) (hl : Live H id) : Live H k := by
  obtain ⟨x, hx⟩ := h
  by_cases hk : k = id
  · subst hk; exact hl
  · rw [List.getElem?_set_ne (by omega)] at hx; exact ⟨x, hx⟩

theorem HSim.store (hs : HSim base w0 β fz H w) {id sz : Nat} {rows rows' : List Row} (hid : H[id]? = some (some (sz, rows))) {cs cs' : Array Value} {e : TypeId}
    (hcs : w.heap[β id]? = some (.cells cs e (0, 0))) (hsz : cs'.size = cs.size) (hrl : ∀ r ∈ rows', r.length = sz) (hle : rows'.length * sz ≤ cs'.size)
    (hone : ∀ (j : Nat) (c : Value), cs'[j]? = some c → c.oneCell' = true)
    (hr : ∀ (i : Nat) (r : Row), rows'[i]? = some r → ∀ (j : Nat) (a : AVal), r[j]? = some a → R β (okOf base fz) w H.length a (cs'[i * sz + j]?.getD undef)) :
    HSim base w0 β fz (H.set id (some (sz, rows'))) (w.setRow (β id) cs') ∧ Ext H.length β fz w (H.set id (some (sz, rows'))).length β fz (w.setRow (β id) cs') := by
  have hlive : Live H id := ⟨_, hid⟩
  have hown := hs.own id hlive
  have ext : Ext H.length β fz w (H.set id (some (sz, rows'))).length β fz (w.setRow (β id) cs') :=
    ⟨by simp, fun _ _ => rfl, fun _ h => h, fun b hb => setRow_other w (β id) b cs' (fun e => hown.2 (e ▸ hb)), Shapes.setRow hcs hsz⟩
  refine ⟨⟨?_, ?_, ?_, ?_, hs.below.setRow hown.1 _, hs.base⟩, ext⟩
  · intro k sz' rws hk
    by_cases hki : k = id
    · subst hki
      have hlt : k < H.length := (List.getElem?_eq_some_iff.1 hid).1
      rw [List.getElem?_set_self hlt] at hk
      simp only [Option.some.injEq, Prod.mk.injEq] at hk
      obtain ⟨rfl, rfl⟩ := hk
      rw [OSim, if_neg (hs.cells1 hid hcs).1]
      exact ⟨cs', e, setRow_heap w (β k) cs cs' e _ hcs, hrl, hle, hone, fun i r hi j a ha => (hr i r hi j a ha).ext ext⟩
    · rw [List.getElem?_set_ne (by omega)] at hk
      have hne : β k ≠ β id := fun he => hki (hs.inj k id ⟨_, hk⟩ hlive he)
      exact (hs.objs' k sz' rws hk).ext ext (setRow_other w (β id) (β k) cs' hne)
  · exact fun a b ha hb => hs.inj a b (ha.set hlive) (hb.set hlive)
  · exact fun k hk => hs.own k (hk.set hlive)
  · exact fun b hb => by rw [setRow_size]; exact hs.fzlt b hb

/-- a name for a new object's block -/
def bump (β : Nat → Nat) (n b : Nat) : Nat → Nat := fun i => if i = n then b else β i

theorem HSim.alloc (hs : HSim base w0 β fz H w) {sz : Nat} {rows : List Row} {cs : Array Value} {e : TypeId} (hrl : ∀ r ∈ rows, r.length = sz) (hle : rows.length * sz ≤ cs.size)
    (hone : ∀ (j : Nat) (c : Value), cs[j]? = some c → c.oneCell' = true)
    (hr : ∀ (i : Nat) (r : Row), rows[i]? = some r → ∀ (j : Nat) (a : AVal), r[j]? = some a → R β (okOf base fz) w H.length a (cs[i * sz + j]?.getD undef)) :
    HSim base w0 (bump β H.length w.heap.size) fz (newObj' H sz rows) (w.alloc (.cells cs e)) ∧
      Ext H.length β fz w (newObj' H sz rows).length (bump β H.length w.heap.size) fz (w.alloc (.cells cs e)) := by
  have hbl := Nat.le_trans hs.base hs.below.size
  have ext : Ext H.length β fz w (newObj' H sz rows).length (bump β H.length w.heap.size) fz (w.alloc (.cells cs e)) :=
    ⟨by simp [newObj'], fun id hi => by simp [bump]; omega, fun _ h => h, fun b hb => Below.heap_alloc w _ b (hs.fzlt b hb), Shapes.alloc w _⟩
  have hold : ∀ k x, (newObj' H sz rows)[k]? = some x → k ≠ H.length → H[k]? = some x := by
    intro k x hk hne
    unfold newObj' at hk
    rw [List.getElem?_append] at hk
    split at hk
    · exact hk
    · have : k - H.length ≠ 0 := by omega
      simp [this] at hk
  have hlive : ∀ k, Live (newObj' H sz rows) k → k ≠ H.length → Live H k := fun k ⟨x, hx⟩ hne => ⟨x, hold k _ hx hne⟩
  have hbl' : ∀ k, Live H k → β k < w.heap.size := by
    intro k hk
    exact hs.blt hk
  have hlt : ∀ k, Live H k → k < H.length := fun k ⟨x, hx⟩ => (List.getElem?_eq_some_iff.1 hx).1
  refine ⟨⟨?_, ?_, ?_, ?_, hs.below.alloc hbl _, hs.base⟩, ext⟩
  · intro k sz' rws hk
    by_cases hki : k = H.length
    · subst hki
      have : (newObj' H sz rows)[H.length]? = some (if sz = 0 then none else some (sz, rows)) := by simp [newObj']
      rw [this] at hk
      split at hk
      · cases hk
      rename_i h0
      simp only [Option.some.injEq, Prod.mk.injEq] at hk
      obtain ⟨rfl, rfl⟩ := hk
      rw [OSim, if_neg h0]
      refine ⟨cs, e, ?_, hrl, hle, hone, fun i r hi j a ha => (hr i r hi j a ha).ext ext⟩
      simp only [bump, if_true]
      show (w.heap.push _)[w.heap.size]? = _
      simp
    · have hk' := hold k _ hk hki
      refine (hs.objs' k sz' rws hk').ext ext ?_
      simp only [bump, hki, if_false]
      rw [Below.heap_alloc w _ (β k) (hbl' k ⟨_, hk'⟩)]
  · intro a b ha hb he
    by_cases h1 : a = H.length <;> by_cases h2 : b = H.length
    · omega
    · have := hbl' b (hlive b hb h2)
      simp [bump, h1, h2] at he; omega
    · have := hbl' a (hlive a ha h1)
      simp [bump, h1, h2] at he; omega
    · simp only [bump, h1, h2, if_false] at he
      exact hs.inj a b (hlive a ha h1) (hlive b hb h2) he
  · intro k hk
    by_cases h1 : k = H.length
    · simp only [bump, h1, if_true]
      exact ⟨hbl, fun hf => Nat.lt_irrefl _ (hs.fzlt _ hf)⟩
    · simp only [bump, h1, if_false]
      exact hs.own k (hlive k hk h1)
  · exact fun b hb => by have := hs.fzlt b hb; show b < (w.heap.push _).size; simp; omega

theorem newR (β : Nat → Nat) (H : Heap) (w : World) (sz i off : Nat) (h0 : sz ≠ 0) (ok : Bool → Nat → Prop) (w' : World) (rows : List Row) :
    R (bump β H.length w.heap.size) ok w' (newObj' H sz rows).length (.ptr H.length sz i off) (.pointer (some ⟨w.heap.size, i * sz + off, none⟩)) := by
  have := R.ptr (β := bump β H.length w.heap.size) (ok := ok) (w := w') (n := (newObj' H sz rows).length) (id := H.length) (sz := sz) (i := i) (off := off) (by simp [newObj']) h0
  simpa [bump] using this
end
end Go.AI
/- Structs and arrays compared. -/
namespace Go.AI
set_option linter.unusedSimpArgs false
set_option linter.unusedVariables false
open Go.RowKit

theorem eqTy_cons {t : Nat} {ts : List Nat} {xs ys : List Value} {b : Bool} (h : eqTy (t :: ts) xs ys = some b) :
    ∃ x xs' y ys' c r, xs = x :: xs' ∧ ys = y :: ys' ∧ eqC t x y = some c ∧ eqTy ts xs' ys' = some r ∧ b = (c && r) := by
  cases xs with
  | nil => simp [eqTy] at h
  | cons x xs =>
    cases ys with
    | nil => simp [eqTy] at h
    | cons y ys =>
      simp only [eqTy] at h
      split at h
      · rename_i c hc
        split at h
        · rename_i r hr
          simp only [Option.some.injEq] at h
          exact ⟨x, xs, y, ys, c, r, rfl, rfl, hc, hr, h.symm⟩
        · cases h
      · cases h

theorem eqTy_nil {xs ys : List Value} {b : Bool} (h : eqTy [] xs ys = some b) : xs = [] ∧ ys = [] ∧ b = true := by
  cases xs <;> cases ys <;> simp [eqTy] at h
  exact ⟨rfl, rfl, h⟩

theorem eqTy_app : ∀ (ts1 ts2 : List Nat) (xs ys : List Value) (b : Bool), eqTy (ts1 ++ ts2) xs ys = some b →
    ∃ b1 b2, eqTy ts1 (xs.take ts1.length) (ys.take ts1.length) = some b1 ∧ eqTy ts2 (xs.drop ts1.length) (ys.drop ts1.length) = some b2 ∧ b = (b1 && b2)
  | [], ts2, xs, ys, b, h => ⟨true, b, by simp [eqTy], by simpa using h, by simp⟩
  | t :: ts1, ts2, xs, ys, b, h => by
    obtain ⟨x, xs', y, ys', c, r, rfl, rfl, hc, hr, rfl⟩ := eqTy_cons h
    obtain ⟨b1, b2, h1, h2, h3⟩ := eqTy_app ts1 ts2 xs' ys' r hr
    exact ⟨c && b1, b2, by simp [eqTy, hc, h1], by simpa using h2, by rw [h3, Bool.and_assoc]⟩

theorem eqTy_len : ∀ (ts : List Nat) (xs ys : List Value) (b : Bool), eqTy ts xs ys = some b → xs.length = ts.length ∧ ys.length = ts.length
  | [], xs, ys, b, h => by
    obtain ⟨rfl, rfl, _⟩ := eqTy_nil h
    exact ⟨rfl, rfl⟩
  | t :: ts, xs, ys, b, h => by
    obtain ⟨x, xs', y, ys', c, r, rfl, rfl, hc, hr, rfl⟩ := eqTy_cons h
    have := eqTy_len ts xs' ys' r hr
    simp; omega

theorem eqTy_one {t : Nat} {xs ys : List Value} {b : Bool} (h : eqTy [t] xs ys = some b) : ∃ x y, xs = [x] ∧ ys = [y] ∧ eqC t x y = some b := by
  obtain ⟨x, xs', y, ys', c, r, rfl, rfl, hc, hr, rfl⟩ := eqTy_cons h
  obtain ⟨rfl, rfl, rfl⟩ := eqTy_nil hr
  exact ⟨x, y, rfl, rfl, by simpa using hc⟩

section
variable {P : Program} {w : World}

/-- what the cells of a type stand for -/
def ofCells (P : Program) (t : TypeId) (xs : List Value) : Value :=
  match aggOf P t with
  | some true => .agg xs.toArray
  | _ => xs.headD undef

theorem part_ofCells {t : TypeId} {n off : Nat} (hsz : szOf P t = some n) (hn : 0 < n ∨ aggOf P t = some true) (ha : (aggOf P t).isSome) (xs : Array Value) (hl : off + n ≤ xs.size) :
    (part t xs off).run P w = .ok (ofCells P t ((xs.toList.drop off).take n)) w := by
  unfold ofCells
  have hS : (sizeOf t).run P w = .ok n w := by
    unfold szOf at hsz
    unfold sizeOf typeInfo
    cases hi : P.info? t with
    | none => simp [hi] at hsz
    | some i => simp [hi] at hsz; simp [hi, hsz]
  cases hagg : aggOf P t with
  | none => rw [hagg] at ha; cases ha
  | some b =>
    cases b with
    | true =>
      have hA : (isAgg t).run P w = .ok true w := by
        unfold aggOf at hagg
        unfold isAgg underlying
        cases hu : P.underlying t with
        | none => simp [hu] at hagg
        | some d => cases d <;> simp_all
      simp only [part, Sem.run_bind, hA, Result.andThen_ok, if_true, hS, Sem.run_pure]
      congr 2
      apply Array.ext'
      simp [Array.toList_extract, List.extract_eq_take_drop]
    | false =>
      have hA : (isAgg t).run P w = .ok false w := by
        unfold aggOf at hagg
        unfold isAgg underlying
        cases hu : P.underlying t with
        | none => simp [hu] at hagg
        | some d => cases d <;> simp_all
      have hn' : 0 < n := by
        rcases hn with h | h
        · exact h
        · rw [hagg] at h; cases h
      have hx : xs[off]? = some (xs[off]'(by omega)) := Array.getElem?_eq_getElem (by omega)
      simp only [part, Sem.run_bind, hA, Result.andThen_ok, Bool.false_eq_true, if_false, hx, Sem.run_pure]
      congr 1
      have : (xs.toList.drop off).take n = xs[off]'(by omega) :: ((xs.toList.drop (off + 1)).take (n - 1)) := by
        rw [List.drop_eq_getElem_cons (by simp; omega)]
        obtain ⟨m, rfl⟩ : ∃ m, n = m + 1 := ⟨n - 1, by omega⟩
        simp
      rw [this]; rfl

/-- cell by cell -/
def EqOk (P : Program) (d : Nat) (t : TypeId) (ts : List Nat) : Prop :=
  (aggOf P t).isSome ∧ (0 < ts.length ∨ aggOf P t = some true) ∧ ∀ (w : World) (d' : Nat) (xs ys : List Value) (b : Bool), d ≤ d' → eqTy ts xs ys = some b → (Op.equalIn d' t (ofCells P t xs) (ofCells P t ys)).run P w = .ok b w

theorem eqFields_run {g : TypeId → Option (List Nat)} {d d' : Nat} (hd : d ≤ d') (hg : ∀ t ts, g t = some ts → EqOk P d t ts) (xs ys : Array Value) : ∀ (fs : List Field) (off : Nat) (ts : List Nat) (b : Bool), flatF P g fs off = some ts →
    eqTy ts (xs.toList.drop off) (ys.toList.drop off) = some b → (Op.eqFields d' xs ys fs).run P w = .ok b w
  | [], off, ts, b, h, he => by
    simp only [flatF, Option.some.injEq] at h
    subst h
    obtain ⟨_, _, rfl⟩ := eqTy_nil he
    rfl
  | f :: fs, off, ts, b, h, he => by
    simp only [flatF] at h
    split at h
    · cases h
    · rename_i hc
      have hn1 : ¬ f.name = "_" := fun e => hc (.inl e)
      have hn2 : f.offset = off := Classical.byContradiction fun e => hc (.inr e)
      split at h
      · rename_i ts1 hts1
        split at h
        · rename_i hsz
          simp only [Option.map_eq_some_iff] at h
          obtain ⟨ts2, hts2, rfl⟩ := h
          obtain ⟨b1, b2, h1, h2, rfl⟩ := eqTy_app ts1 ts2 _ _ b he
          have hlen := eqTy_len _ _ _ _ he
          simp only [List.length_drop, Array.length_toList, List.length_append] at hlen
          obtain ⟨g1, g2, g3⟩ := hg f.type ts1 hts1
          have hlx : off + ts1.length ≤ xs.size ∨ ts1.length = 0 := by omega
          have hly : off + ts1.length ≤ ys.size ∨ ts1.length = 0 := by omega
          by_cases h0 : ts1.length = 0 ∧ ¬ (off ≤ xs.size ∧ off ≤ ys.size)
          · -- an empty part behind the end: its cells are none
            have hA : aggOf P f.type = some true := by
              rcases g2 with h | h
              · omega
              · exact h
            have key : ∀ zs : Array Value, (part f.type zs off).run P w = .ok (ofCells P f.type ((zs.toList.drop off).take ts1.length)) w := by
              intro zs
              by_cases hz : off ≤ zs.size
              · exact part_ofCells hsz (.inr hA) g1 zs (by omega)
              · have hS : (sizeOf f.type).run P w = .ok ts1.length w := by
                  unfold szOf at hsz
                  unfold sizeOf typeInfo
                  cases hi : P.info? f.type with
                  | none => simp [hi] at hsz
                  | some i => simp [hi] at hsz; simp [hi, hsz]
                have hI : (isAgg f.type).run P w = .ok true w := by
                  unfold aggOf at hA
                  unfold isAgg underlying
                  cases hu : P.underlying f.type with
                  | none => simp [hu] at hA
                  | some d => cases d <;> simp_all
                simp only [part, Sem.run_bind, hI, Result.andThen_ok, if_true, hS, Sem.run_pure, ofCells, hA]
                congr 2
                apply Array.ext'
                simp [Array.toList_extract, List.extract_eq_take_drop]
            have h3 := g3 w d' _ _ b1 hd h1
            have ih := eqFields_run hd hg xs ys fs (off + ts1.length) ts2 b2 hts2 (by simpa [List.drop_drop] using h2)
            simp only [Op.eqFields, hn1, ne_eq, not_false_eq_true, if_true, Sem.run_bind, hn2, key xs, key ys, Result.andThen_ok, h3]
            cases b1
            · simp
            · simpa using ih
          · have p1 := part_ofCells (w := w) hsz g2 g1 xs (off := off) (by omega)
            have p2 := part_ofCells (w := w) hsz g2 g1 ys (off := off) (by omega)
            have h3 := g3 w d' _ _ b1 hd h1
            have ih := eqFields_run hd hg xs ys fs (off + ts1.length) ts2 b2 hts2 (by simpa [List.drop_drop] using h2)
            simp only [Op.eqFields, hn1, ne_eq, not_false_eq_true, if_true, Sem.run_bind, hn2, p1, p2, Result.andThen_ok, h3]
            cases b1
            · simp
            · simpa using ih
        · cases h
      · cases h

theorem eqItems_run {e : TypeId} {ts : List Nat} {d d' : Nat} (hd : d ≤ d') (hsz : szOf P e = some ts.length) (hg : EqOk P d e ts) (xs ys : Array Value) : ∀ (n k : Nat) (b : Bool),
    eqTy (List.replicate n ts).flatten (xs.toList.drop (k * ts.length)) (ys.toList.drop (k * ts.length)) = some b → (Op.eqItems d' e ts.length xs ys (List.range' k n)).run P w = .ok b w
  | 0, k, b, he => by
    simp only [List.replicate_zero, List.flatten_nil] at he
    obtain ⟨_, _, rfl⟩ := eqTy_nil he
    rfl
  | n + 1, k, b, he => by
    simp only [List.replicate_succ, List.flatten_cons] at he
    obtain ⟨b1, b2, h1, h2, rfl⟩ := eqTy_app ts _ _ _ b he
    have hlen := eqTy_len _ _ _ _ he
    simp only [List.length_drop, Array.length_toList, List.length_append] at hlen
    obtain ⟨g1, g2, g3⟩ := hg
    have h3 := g3 w d' _ _ b1 hd h1
    have ih := eqItems_run hd hsz ⟨g1, g2, g3⟩ xs ys n (k + 1) b2 (by rw [Nat.succ_mul]; simpa [List.drop_drop] using h2)
    have hpart : ∀ zs : Array Value, (zs.size - k * ts.length = ts.length + ((List.replicate n ts).flatten).length) → (part e zs (k * ts.length)).run P w = .ok (ofCells P e ((zs.toList.drop (k * ts.length)).take ts.length)) w := by
      intro zs hz
      by_cases hl : k * ts.length + ts.length ≤ zs.size
      · exact part_ofCells hsz g2 g1 zs hl
      · have h0 : ts.length = 0 := by omega
        rw [h0] at hl; simp at hl
    simp only [List.range'_succ, Op.eqItems, Sem.run_bind, hpart xs hlen.1, hpart ys hlen.2, Result.andThen_ok, h3]
    cases b1
    · simp
    · simpa using ih

theorem flat_ok : ∀ (d : Nat) (t : TypeId) (ts : List Nat), flatT P d t = some ts → EqOk P d t ts
  | 0, t, ts, h => by simp [flatT] at h
  | d + 1, t, ts, h => by
    simp only [flatT] at h
    split at h
    · rename_i hu
      simp only [Option.some.injEq] at h; subst h
      have ha : aggOf P t = some false := by simp [aggOf, hu]
      refine ⟨by simp [ha], .inl (by simp), fun w d' xs ys b hd he => ?_⟩
      obtain ⟨d', rfl⟩ : ∃ m, d' = m + 1 := ⟨d' - 1, by omega⟩
      obtain ⟨x, y, rfl, rfl, hc⟩ := eqTy_one he
      cases x <;> cases y <;> simp [eqC] at hc
      subst hc
      simp only [ofCells, ha, List.headD_cons]
      exact run_equalIn_bool w d' t _ _ hu
    · rename_i k hu
      simp only [Option.some.injEq] at h; subst h
      have ha : aggOf P t = some false := by simp [aggOf, hu]
      refine ⟨by simp [ha], .inl (by simp), fun w d' xs ys b hd he => ?_⟩
      obtain ⟨d', rfl⟩ : ∃ m, d' = m + 1 := ⟨d' - 1, by omega⟩
      obtain ⟨x, y, rfl, rfl, hc⟩ := eqTy_one he
      cases x <;> cases y <;> simp [eqC] at hc
      obtain ⟨rfl, rfl⟩ := hc
      simp only [ofCells, ha, List.headD_cons]
      exact run_equalIn_int w d' t _ _ _ _ hu
    · rename_i hu
      simp only [Option.some.injEq] at h; subst h
      have ha : aggOf P t = some false := by simp [aggOf, hu]
      refine ⟨by simp [ha], .inl (by simp), fun w d' xs ys b hd he => ?_⟩
      obtain ⟨d', rfl⟩ : ∃ m, d' = m + 1 := ⟨d' - 1, by omega⟩
      obtain ⟨x, y, rfl, rfl, hc⟩ := eqTy_one he
      cases x <;> cases y <;> simp [eqC] at hc
      subst hc
      simp only [ofCells, ha, List.headD_cons]
      exact run_equalIn_string w d' t _ _ hu
    · rename_i fs hu
      split at h
      · cases h
      · rename_i hst
        have ha : aggOf P t = some true := by simp [aggOf, hu]
        refine ⟨by simp [ha], .inr ha, fun w d' xs ys b hd he => ?_⟩
        obtain ⟨d', rfl⟩ : ∃ m, d' = m + 1 := ⟨d' - 1, by omega⟩
        simp only [ofCells, ha]
        have hf : P.fieldsOf t = fs := by simp [Program.fieldsOf, hu]
        rw [run_equalIn_struct w d' t _ _ (by rw [hf]; exact hu) (by simpa using hst), hf]
        exact eqFields_run (d := d) (by omega) (fun t ts h => flat_ok d t ts h) _ _ fs.toList 0 ts b h (by simpa using he)
    · rename_i k e hu
      split at h
      · rename_i ts1 hts1
        split at h
        · rename_i hsz
          simp only [Option.some.injEq] at h
          subst h
          have ha : aggOf P t = some true := by simp [aggOf, hu]
          refine ⟨by simp [ha], .inr ha, fun w d' xs ys b hd he => ?_⟩
          obtain ⟨d', rfl⟩ : ∃ m, d' = m + 1 := ⟨d' - 1, by omega⟩
          simp only [ofCells, ha]
          obtain ⟨i, hi⟩ : ∃ i, P.info? e = some i := by
            unfold szOf at hsz
            cases hh : P.info? e with
            | none => simp [hh] at hsz
            | some i => exact ⟨i, rfl⟩
          have hce : P.cellsOf e = ts1.length := by
            unfold szOf at hsz
            rw [hi] at hsz
            simp at hsz
            simp [Program.cellsOf, hi, hsz]
          rw [run_equalIn_array w d' _ _ hu hi, hce, List.range_eq_range']
          exact eqItems_run (d := d) (by omega) hsz (flat_ok d e ts1 hts1) _ _ k 0 b (by simpa using he)
        · cases h
      · cases h
    · cases h

theorem eq_agg {t : TypeId} {ts : List Nat} {xs ys : Array Value} {b : Bool} (h : flatT P 6 t = some ts) (he : eqTy ts xs.toList ys.toList = some b) (w : World) (hagg : aggOf P t = some true) :
    (Op.equalIn 10000 t (.agg xs) (.agg ys)).run P w = .ok b w := by
  have := (flat_ok 6 t ts h).2.2 w 10000 xs.toList ys.toList b (by decide) he
  simpa [ofCells, hagg] using this
end
end Go.AI
