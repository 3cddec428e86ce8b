/- Each step of the interpreter is true of the model: stores, new objects. -/
import Derived.Test.YtebpjfdbjhodiaaAiC
namespace Go.AI
set_option linter.unusedSimpArgs false
set_option linter.unusedVariables false
open Go.RowKit

theorem Below.setRow {B : Nat} {a w : World} (h : Below B a w) {g : Nat} (hg : B ≤ g) (cs : Array Value) : Below B a (w.setRow g cs) := by
  have k := below_setRow h.kit hg cs
  exact ⟨k.os, k.tape, k.output, k.size, k.block, by rw [setRow_drawn]; exact h.drawn⟩
theorem Shapes.setRow {w : World} {g : Nat} {cs cs' : Array Value} {e : TypeId} {f : Nat × Nat} (hg : w.heap[g]? = some (.cells cs e f)) (hs : cs'.size = cs.size) : Shapes w (w.setRow g cs') := by
  intro b c e' f' hb
  by_cases h : b = g
  · subst h
    rw [hg] at hb
    simp only [Option.some.injEq, Obj.cells.injEq] at hb
    obtain ⟨rfl, rfl, rfl⟩ := hb
    exact ⟨cs', f, setRow_heap w b cs cs' e f hg, hs⟩
  · exact ⟨c, f', by rw [setRow_other w g b cs' h]; exact hb, rfl⟩

theorem Shapes.alloc (w : World) (o : Obj) : Shapes w (w.alloc o) := by
  intro b c e f hb
  have : b < w.heap.size := (Array.getElem?_eq_some_iff.1 hb).1
  exact ⟨c, f, by rw [Below.heap_alloc w o b this]; exact hb, rfl⟩

section
variable {base : Nat} {w0 : World} {β : Nat → Nat} {fz : Nat → Prop} {H : Heap} {w : World} {P : Program}

theorem Live.set {H : Heap} {id k : Nat} {o : Option (Nat × List Row)} (h : Live (H.set id o) k) (hl : Live H id) : Live H k := by
  obtain ⟨x, hx⟩ := h
  by_cases hk : k = id
  · subst hk; exact hl
  · rw [List.getElem?_set_ne (by omega)] at hx; exact ⟨x, hx⟩

theorem HSim.store (hs : HSim base w0 β fz H w) {id sz : Nat} {rows rows' : List Row} (hid : H[id]? = some (some (sz, rows))) {cs cs' : Array Value} {e : TypeId}
    (hcs : w.heap[β id]? = some (.cells cs e (0, 0))) (hsz : cs'.size = cs.size) (hrl : ∀ r ∈ rows', r.length = sz) (hle : rows'.length * sz ≤ cs'.size)
    (hone : ∀ (j : Nat) (c : Value), cs'[j]? = some c → c.oneCell' = true)
    (hr : ∀ (i : Nat) (r : Row), rows'[i]? = some r → ∀ (j : Nat) (a : AVal), r[j]? = some a → R β (okOf base fz) w H.length a (cs'[i * sz + j]?.getD undef)) :
    HSim base w0 β fz (H.set id (some (sz, rows'))) (w.setRow (β id) cs') ∧ Ext H.length β fz w (H.set id (some (sz, rows'))).length β fz (w.setRow (β id) cs') := by
  have hlive : Live H id := ⟨_, hid⟩
  have hown := hs.own id hlive
  have ext : Ext H.length β fz w (H.set id (some (sz, rows'))).length β fz (w.setRow (β id) cs') :=
    ⟨by simp, fun _ _ => rfl, fun _ h => h, fun b hb => setRow_other w (β id) b cs' (fun e => hown.2 (e ▸ hb)), Shapes.setRow hcs hsz⟩
  refine ⟨⟨?_, ?_, ?_, ?_, hs.below.setRow hown.1 _, hs.base⟩, ext⟩
  · intro k sz' rws hk
    by_cases hki : k = id
    · subst hki
      have hlt : k < H.length := (List.getElem?_eq_some_iff.1 hid).1
      rw [List.getElem?_set_self hlt] at hk
      simp only [Option.some.injEq, Prod.mk.injEq] at hk
      obtain ⟨rfl, rfl⟩ := hk
      rw [OSim, if_neg (hs.cells1 hid hcs).1]
      exact ⟨cs', e, setRow_heap w (β k) cs cs' e _ hcs, hrl, hle, hone, fun i r hi j a ha => (hr i r hi j a ha).ext ext⟩
    · rw [List.getElem?_set_ne (by omega)] at hk
      have hne : β k ≠ β id := fun he => hki (hs.inj k id ⟨_, hk⟩ hlive he)
      exact (hs.objs' k sz' rws hk).ext ext (setRow_other w (β id) (β k) cs' hne)
  · exact fun a b ha hb => hs.inj a b (ha.set hlive) (hb.set hlive)
  · exact fun k hk => hs.own k (hk.set hlive)
  · exact fun b hb => by rw [setRow_size]; exact hs.fzlt b hb

/-- a name for a new object's block -/
def bump (β : Nat → Nat) (n b : Nat) : Nat → Nat := fun i => if i = n then b else β i

theorem HSim.alloc (hs : HSim base w0 β fz H w) {sz : Nat} {rows : List Row} {cs : Array Value} {e : TypeId} (hrl : ∀ r ∈ rows, r.length = sz) (hle : rows.length * sz ≤ cs.size)
    (hone : ∀ (j : Nat) (c : Value), cs[j]? = some c → c.oneCell' = true)
    (hr : ∀ (i : Nat) (r : Row), rows[i]? = some r → ∀ (j : Nat) (a : AVal), r[j]? = some a → R β (okOf base fz) w H.length a (cs[i * sz + j]?.getD undef)) :
    HSim base w0 (bump β H.length w.heap.size) fz (newObj' H sz rows) (w.alloc (.cells cs e)) ∧
      Ext H.length β fz w (newObj' H sz rows).length (bump β H.length w.heap.size) fz (w.alloc (.cells cs e)) := by
  have hbl := Nat.le_trans hs.base hs.below.size
  have ext : Ext H.length β fz w (newObj' H sz rows).length (bump β H.length w.heap.size) fz (w.alloc (.cells cs e)) :=
    ⟨by simp [newObj'], fun id hi => by simp [bump]; omega, fun _ h => h, fun b hb => Below.heap_alloc w _ b (hs.fzlt b hb), Shapes.alloc w _⟩
  have hold : ∀ k x, (newObj' H sz rows)[k]? = some x → k ≠ H.length → H[k]? = some x := by
    intro k x hk hne
    unfold newObj' at hk
    rw [List.getElem?_append] at hk
    split at hk
    · exact hk
    · have : k - H.length ≠ 0 := by omega
      simp [this] at hk
  have hlive : ∀ k, Live (newObj' H sz rows) k → k ≠ H.length → Live H k := fun k ⟨x, hx⟩ hne => ⟨x, hold k _ hx hne⟩
  have hbl' : ∀ k, Live H k → β k < w.heap.size := by
    intro k hk
    exact hs.blt hk
  have hlt : ∀ k, Live H k → k < H.length := fun k ⟨x, hx⟩ => (List.getElem?_eq_some_iff.1 hx).1
  refine ⟨⟨?_, ?_, ?_, ?_, hs.below.alloc hbl _, hs.base⟩, ext⟩
  · intro k sz' rws hk
    by_cases hki : k = H.length
    · subst hki
      have : (newObj' H sz rows)[H.length]? = some (if sz = 0 then none else some (sz, rows)) := by simp [newObj']
      rw [this] at hk
      split at hk
      · cases hk
      rename_i h0
      simp only [Option.some.injEq, Prod.mk.injEq] at hk
      obtain ⟨rfl, rfl⟩ := hk
      rw [OSim, if_neg h0]
      refine ⟨cs, e, ?_, hrl, hle, hone, fun i r hi j a ha => (hr i r hi j a ha).ext ext⟩
      simp only [bump, if_true]
      show (w.heap.push _)[w.heap.size]? = _
      simp
    · have hk' := hold k _ hk hki
      refine (hs.objs' k sz' rws hk').ext ext ?_
      simp only [bump, hki, if_false]
      rw [Below.heap_alloc w _ (β k) (hbl' k ⟨_, hk'⟩)]
  · intro a b ha hb he
    by_cases h1 : a = H.length <;> by_cases h2 : b = H.length
    · omega
    · have := hbl' b (hlive b hb h2)
      simp [bump, h1, h2] at he; omega
    · have := hbl' a (hlive a ha h1)
      simp [bump, h1, h2] at he; omega
    · simp only [bump, h1, h2, if_false] at he
      exact hs.inj a b (hlive a ha h1) (hlive b hb h2) he
  · intro k hk
    by_cases h1 : k = H.length
    · simp only [bump, h1, if_true]
      exact ⟨hbl, fun hf => Nat.lt_irrefl _ (hs.fzlt _ hf)⟩
    · simp only [bump, h1, if_false]
      exact hs.own k (hlive k hk h1)
  · exact fun b hb => by have := hs.fzlt b hb; show b < (w.heap.push _).size; simp; omega

theorem newR (β : Nat → Nat) (H : Heap) (w : World) (sz i off : Nat) (h0 : sz ≠ 0) (ok : Bool → Nat → Prop) (w' : World) (rows : List Row) :
    R (bump β H.length w.heap.size) ok w' (newObj' H sz rows).length (.ptr H.length sz i off) (.pointer (some ⟨w.heap.size, i * sz + off, none⟩)) := by
  have := R.ptr (β := bump β H.length w.heap.size) (ok := ok) (w := w') (n := (newObj' H sz rows).length) (id := H.length) (sz := sz) (i := i) (off := off) (by simp [newObj']) h0
  simpa [bump] using this
end
end Go.AI
