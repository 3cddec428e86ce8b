/- Each step of the interpreter is true of the model: rows of an object; append, copy, clear, make. -/
import Derived.Test.YtdakclpneghkmaaGreatDoorL02
namespace Go.AI
set_option linter.unusedSectionVars false
variable [Sym]
set_option linter.unusedSimpArgs false
set_option linter.unusedVariables false
open Go.RowKit
theorem splice_rows {α : Type} (l ys : List α) (p : Nat) (h : p ≤ l.length) (i : Nat) :
  (l.take p ++ ys ++ l.drop (p + ys.length))[i]? = if i < p then l[i]? else if i < p + ys.length then ys[i - p]? else l[i]? := by
 have hp : (l.take p).length = p := by simp; omega
 by_cases h1 : i < p
 ·rw [if_pos h1, List.append_assoc, List.getElem?_append_left (by omega), List.getElem?_take_of_lt h1]
 ·rw [if_neg h1]
  by_cases h2 : i < p + ys.length
  ·rw [if_pos h2, List.append_assoc, List.getElem?_append_right (by omega), hp, List.getElem?_append_left (by omega)]
  ·rw [if_neg h2, List.getElem?_append_right (by simp; omega), List.getElem?_drop]
   congr 1; simp; omega
section
variable {base : Nat} {w0 : World} {β : Nat → Nat} {fz : Nat → Prop} {e' : AEv} {H H' : Heap} {a : Act} {w : World} {P : Program} {C : Orc} {o : Oper} {av : AVal} {n : Nat} {ok : Bool → Nat → Prop}
theorem HSim.drew (hs : HSim base w0 β fz H w) : HSim base w0 β fz H w.drew ∧ Ext H.length β fz w H.length β fz w.drew := by
 have ext : Ext H.length β fz w H.length β fz w.drew := ⟨Nat.le_refl _, fun _ _ => rfl, fun _ h => h, fun _ _ => rfl, Shapes.refl w⟩
 refine ⟨⟨?_, hs.inj, hs.own, hs.fzlt, hs.below.drew, hs.base⟩, ext⟩
 intro id sz rows hid
 exact (hs.objs' id sz rows hid).ext ext rfl
theorem HSim.kill (hs : HSim base w0 β fz H w) (id : Nat) : HSim base w0 β fz (H.set id none) w ∧ Ext H.length β fz w (H.set id none).length β fz w := by
 have ext : Ext H.length β fz w (H.set id none).length β fz w := ⟨by simp, fun _ _ => rfl, fun _ h => h, fun _ _ => rfl, Shapes.refl w⟩
 have hold : ∀ (k : Nat) x, (H.set id none)[k]? = some (some x) → H[k]? = some (some x) := by
  intro k x hk
  by_cases h : k = id
  ·subst h
   by_cases hl : k < H.length
   ·rw [List.getElem?_set_self hl] at hk; simp at hk
   ·rw [List.getElem?_eq_none (by simpa using hl)] at hk; cases hk
  ·rwa [List.getElem?_set_ne (by omega)] at hk
 refine ⟨⟨?_, fun a b ⟨x, hx⟩ ⟨y, hy⟩ => hs.inj a b ⟨x, hold _ _ hx⟩ ⟨y, hold _ _ hy⟩, fun k ⟨x, hx⟩ => hs.own k ⟨x, hold _ _ hx⟩, hs.fzlt, hs.below, hs.base⟩, ext⟩
 intro k sz rows hk
 exact (hs.objs' k sz rows (hold _ _ hk)).ext ext rfl
theorem HSim.rename (hs : HSim base w0 β fz H w) {id sz : Nat} {rows : List Row} (hid : H[id]? = some (some (sz, rows))) :
  HSim base w0 (bump β H.length (β id)) fz (newObj' (H.set id none) sz rows) w ∧ Ext H.length β fz w (newObj' (H.set id none) sz rows).length (bump β H.length (β id)) fz w := by
 have ext : Ext H.length β fz w (newObj' (H.set id none) sz rows).length (bump β H.length (β id)) fz w :=
  ⟨by simp [newObj'], fun k hk => by simp [bump]; omega, fun _ h => h, fun _ _ => rfl, Shapes.refl w⟩
 have hold : ∀ (k : Nat) x, (newObj' (H.set id none) sz rows)[k]? = some (some x) → k = H.length ∧ x = (sz, rows) ∨ k ≠ H.length ∧ k ≠ id ∧ H[k]? = some (some x) := by
  intro k x hk
  unfold newObj' at hk
  rw [List.getElem?_append] at hk
  split at hk
  ·rename_i hl
   simp at hl
   right
   by_cases h : k = id
   ·subst h; rw [List.getElem?_set_self hl] at hk; simp at hk
   ·rw [List.getElem?_set_ne (by omega)] at hk; exact ⟨by omega, h, hk⟩
  ·rename_i hl
   simp at hl
   left
   simp only [List.length_set] at hk
   have h0 : k - H.length = 0 := by
    by_cases h : k - H.length = 0
    ·exact h
    ·simp [h] at hk
   rw [h0] at hk
   simp at hk
   exact ⟨by omega, hk.2.symm⟩
 have hlive : Live H id := ⟨_, hid⟩
 refine ⟨⟨?_, ?_, ?_, hs.fzlt, hs.below, hs.base⟩, ext⟩
 ·intro k sz' rws hk
  rcases hold _ _ hk with ⟨rfl, hx⟩ | ⟨h1, h2, h3⟩
  ·simp only [Prod.mk.injEq] at hx
   obtain ⟨rfl, rfl⟩ := hx
   exact (hs.objs' id _ _ hid).ext ext (by simp [bump])
  ·exact (hs.objs' k _ _ h3).ext ext (by simp [bump, h1])
 ·rintro p q ⟨x, hx⟩ ⟨y, hy⟩ he
  rcases hold _ _ hx with ⟨rfl, hx'⟩ | ⟨h1, h2, h3⟩ <;> rcases hold _ _ hy with ⟨rfl, hy'⟩ | ⟨h4, h5, h6⟩
  ·rfl
  ·simp only [bump, if_true, h4, if_false] at he
   exact absurd (hs.inj id q hlive ⟨_, h6⟩ he).symm h5
  ·simp only [bump, if_true, h1, if_false] at he
   exact absurd (hs.inj p id ⟨_, h3⟩ hlive he) h2
  ·simp only [bump, h1, h4, if_false] at he
   exact hs.inj p q ⟨_, h3⟩ ⟨_, h6⟩ he
 ·rintro p ⟨x, hx⟩
  rcases hold _ _ hx with ⟨rfl, hx'⟩ | ⟨h1, h2, h3⟩
  ·simp only [bump, if_true]; exact hs.own id hlive
  ·simp only [bump, h1, if_false]; exact hs.own p ⟨_, h3⟩
def FlatR (β : Nat → Nat) (ok : Bool → Nat → Prop) (w : World) (n sz : Nat) (rows : List Row) (cs : List Value) : Prop :=
 (∀ r ∈ rows, r.length = sz) ∧ cs.length = rows.length * sz ∧ (∀ c ∈ cs, c.oneCell' = true) ∧
  ∀ (i : Nat) (r : Row), rows[i]? = some r → ∀ (j : Nat) (c : AVal), r[j]? = some c → R β ok w n c (cs[i * sz + j]?.getD undef)
theorem HSim.splice (hs : HSim base w0 β fz H w) {id sz p : Nat} {rows ys : List Row} {vs : List Value} (hid : H[id]? = some (some (sz, rows))) {cur : Array Value} {e : TypeId}
  (hcs : w.heap[β id]? = some (.cells cur e (0, 0))) (hp : p ≤ rows.length) (hf : FlatR β (okOf base fz) w H.length sz ys vs) (hfit : (p + ys.length) * sz ≤ cur.size) :
  HSim base w0 β fz (H.set id (some (sz, rows.take p ++ ys ++ rows.drop (p + ys.length)))) (w.setRow (β id) (cur.toList.take (p * sz) ++ vs ++ cur.toList.drop (p * sz + vs.length)).toArray) ∧
  Ext H.length β fz w (H.set id (some (sz, rows.take p ++ ys ++ rows.drop (p + ys.length)))).length β fz (w.setRow (β id) (cur.toList.take (p * sz) ++ vs ++ cur.toList.drop (p * sz + vs.length)).toArray) := by
 obtain ⟨f1, f2, f3, f4⟩ := hf
 obtain ⟨_, cur0, e0, g1, g2, g3, g4, g5⟩ := hs.cells1 hid hcs
 rw [hcs] at g1
 simp only [Option.some.injEq, Obj.cells.injEq, and_true] at g1
 obtain ⟨rfl, rfl⟩ := g1
 have hfit' : p * sz + vs.length ≤ cur.toList.length := by rw [f2, ← Nat.add_mul]; simpa using hfit
 have hsz : (cur.toList.take (p * sz) ++ vs ++ cur.toList.drop (p * sz + vs.length)).toArray.size = cur.size := by simpa using splice_len _ _ _ hfit'
 have hget : ∀ k, (cur.toList.take (p * sz) ++ vs ++ cur.toList.drop (p * sz + vs.length)).toArray[k]? = if p * sz ≤ k ∧ k < p * sz + vs.length then vs[k - p * sz]? else cur[k]? := by
  intro k; rw [List.getElem?_toArray, splice_get _ _ _ hfit']; simp
 refine hs.store hid hcs hsz ?_ ?_ ?_ ?_
 ·intro r hr
  simp only [List.mem_append] at hr
  rcases hr with (hr | hr) | hr
  ·exact g2 r (List.mem_of_mem_take hr)
  ·exact f1 r hr
  ·exact g2 r (List.mem_of_mem_drop hr)
 ·rw [hsz]
  by_cases hh : p + ys.length ≤ rows.length
  ·have : (rows.take p ++ ys ++ rows.drop (p + ys.length)).length = rows.length := splice_len _ _ _ hh
   rw [this]; exact g3
  ·have : (rows.take p ++ ys ++ rows.drop (p + ys.length)).length = p + ys.length := by simp; omega
   rw [this]; exact hfit
 ·intro j c hj
  rw [hget] at hj
  split at hj
  ·exact f3 c (List.mem_of_getElem? hj)
  ·exact g4 j c hj
 ·intro i r hi j c hj
  rw [hget]
  rw [splice_rows _ _ _ hp] at hi
  by_cases h1 : i < p
  ·rw [if_pos h1] at hi
   have hjl : j < sz := by
    have := (List.getElem?_eq_some_iff.1 hj).1
    rw [g2 r (List.mem_of_getElem? hi)] at this; exact this
   have := row_lt h1 hjl
   rw [if_neg (by omega)]
   exact g5 i r hi j c hj
  ·rw [if_neg h1] at hi
   by_cases h2 : i < p + ys.length
   ·rw [if_pos h2] at hi
    have hjl : j < sz := by
     have := (List.getElem?_eq_some_iff.1 hj).1
     rw [f1 r (List.mem_of_getElem? hi)] at this; exact this
    have e1 : i * sz + j - p * sz = (i - p) * sz + j := by
     have : i * sz = (i - p) * sz + p * sz := by rw [← Nat.add_mul]; congr 1; omega
     omega
    have e2 : p * sz ≤ i * sz := Nat.mul_le_mul_right _ (by omega)
    have e3 := row_lt (i := i - p) (n := ys.length) (by omega) hjl
    rw [if_pos (by omega), e1]
    exact f4 (i - p) r hi j c hj
   ·rw [if_neg h2] at hi
    have e2 : (p + ys.length) * sz ≤ i * sz := Nat.mul_le_mul_right _ (by omega)
    rw [Nat.add_mul] at e2
    rw [if_neg (by omega)]
    exact g5 i r hi j c hj
theorem FlatR.take {sz : Nat} {rows : List Row} {cs : List Value} (h : FlatR β ok w n sz rows cs) (k : Nat) : FlatR β ok w n sz (rows.take k) (cs.take ((rows.take k).length * sz)) := by
 obtain ⟨h1, h2, h3, h4⟩ := h
 have hle : (rows.take k).length * sz ≤ rows.length * sz := Nat.mul_le_mul_right _ (by simp; omega)
 refine ⟨fun r hr => h1 r (List.mem_of_mem_take hr), by rw [List.length_take, h2]; omega, fun c hc => h3 c (List.mem_of_mem_take hc), fun i r hi j c hj => ?_⟩
 have hik : i < (rows.take k).length := (List.getElem?_eq_some_iff.1 hi).1
 have hi' : rows[i]? = some r := by
  rw [List.getElem?_take] at hi
  split at hi
  ·exact hi
  ·cases hi
 have hjl : j < sz := by
  have := (List.getElem?_eq_some_iff.1 hj).1
  rw [h1 r (List.mem_of_getElem? hi')] at this; exact this
 rw [List.getElem?_take_of_lt (row_lt hik hjl)]
 exact h4 i r hi' j c hj
theorem FlatR.app {sz : Nat} {rows ys : List Row} {cs ds : List Value} (h : FlatR β ok w n sz rows cs) (k : FlatR β ok w n sz ys ds) : FlatR β ok w n sz (rows ++ ys) (cs ++ ds) := by
 obtain ⟨h1, h2, h3, h4⟩ := h
 obtain ⟨k1, k2, k3, k4⟩ := k
 refine ⟨fun r hr => ?_, by simp [h2, k2, Nat.add_mul], fun c hc => ?_, fun i r hi j c hj => ?_⟩
 ·rcases List.mem_append.1 hr with hr | hr
  ·exact h1 r hr
  ·exact k1 r hr
 ·rcases List.mem_append.1 hc with hc | hc
  ·exact h3 c hc
  ·exact k3 c hc
 ·rw [List.getElem?_append] at hi
  split at hi
  ·rename_i hlt
   have hjl : j < sz := by
    have := (List.getElem?_eq_some_iff.1 hj).1
    rw [h1 r (List.mem_of_getElem? hi)] at this; exact this
   have := row_lt hlt hjl
   rw [List.getElem?_append_left (by omega)]
   exact h4 i r hi j c hj
  ·rename_i hlt
   have e2 : rows.length * sz ≤ i * sz := Nat.mul_le_mul_right _ (by omega)
   rw [List.getElem?_append_right (by omega)]
   have := k4 (i - rows.length) r hi j c hj
   have e : i * sz + j - cs.length = (i - rows.length) * sz + j := by
    have : i * sz = (i - rows.length) * sz + rows.length * sz := by rw [← Nat.add_mul]; congr 1; omega
    omega
   rw [e]; exact this
theorem rows_R (hs : HSim base w0 β fz H w) {sz : Nat} {x : AVal} {xr : List Row} {v : Value} (h : rowsOf H sz x = some xr) (h0 : 0 < sz) (hr : R β (okOf base fz) w H.length x v) :
  ∃ ad cap cs, v = .slice ad xr.length cap ∧ xr.length ≤ cap ∧ FlatR β (okOf base fz) w H.length sz xr cs ∧
   ∀ k, k ≤ xr.length → (Builtin.firstCells sz k v).run P w = .ok (cs.take (k * sz)).toArray w := by
 unfold rowsOf at h
 split at h
 ·rename_i id sz' s len kc
  split at h
  ·rename_i sz'' rows hob
   split at h
   ·rename_i hc
    obtain ⟨rfl, rfl, hsl⟩ := hc
    simp only [Option.some.injEq] at h
    subst h
    obtain ⟨cur, e, g1, g2, g3, g4, g5⟩ := hs.cells hob
    have hlen : ((rows.drop s).take len).length = len := by simp; omega
    have hmul : (s + len) * sz'' ≤ rows.length * sz'' := Nat.mul_le_mul_right _ hsl
    rw [Nat.add_mul] at hmul
    have hcl : ((cur.toList.drop (s * sz'')).take (len * sz'')).length = len * sz'' := by simp; omega
    have hF : FlatR β (okOf base fz) w H.length sz'' ((rows.drop s).take len) ((cur.toList.drop (s * sz'')).take (len * sz'')) := by
     refine ⟨fun r hr => g2 r (List.mem_of_mem_drop (List.mem_of_mem_take hr)), by rw [hcl, hlen], fun c hc => ?_, fun i r hi j c hj => ?_⟩
     ·obtain ⟨k, hk⟩ := List.getElem?_of_mem (List.mem_of_mem_drop (List.mem_of_mem_take hc))
      exact g4 k c (by simpa using hk)
     ·have hil : i < len := by have := (List.getElem?_eq_some_iff.1 hi).1; omega
      rw [List.getElem?_take_of_lt hil, List.getElem?_drop] at hi
      have hjl : j < sz'' := by
       have := (List.getElem?_eq_some_iff.1 hj).1
       rw [g2 r (List.mem_of_getElem? hi)] at this; exact this
      have := g5 (s + i) r hi j c hj
      rw [List.getElem?_take_of_lt (row_lt hil hjl), List.getElem?_drop]
      rw [Nat.add_mul] at this
      simpa [Nat.add_assoc] using this
    cases hr with
    | @osl _ _ _ _ _ _ ad cap hid hl hkc ha =>
     refine ⟨some ad, cap, _, by rw [hlen], by omega, hF, fun k hk => ?_⟩
     rw [hlen] at hk
     have hks : k * sz'' ≤ len * sz'' := Nat.mul_le_mul_right _ hk
     have hlt : ((List.take (len * sz'') (List.drop (s * sz'') cur.toList)).take (k * sz'')).length = k * sz'' := by
      rw [List.length_take, hcl]; omega
     have := run_loadCells_list (P := P) w ad ((List.take (len * sz'') (List.drop (s * sz'') cur.toList)).take (k * sz'')) (fun j u hj => by
      have hjk : j < k * sz'' := by have := (List.getElem?_eq_some_iff.1 hj).1; omega
      rw [List.getElem?_take_of_lt hjk, List.getElem?_take_of_lt (by omega), List.getElem?_drop] at hj
      rcases ha with ha | ⟨ha, _⟩
      ·have h1 : len = 0 := by omega
       have : k = 0 := by omega
       rw [this] at hjk; omega
      ·rw [ha, add_none]
       simpa [World.cell?, g1] using hj)
     rw [hlt] at this
     simpa [Builtin.firstCells] using this
   ·cases h
  ·cases h
 ·rename_i oo sz' rows
  split at h
  ·rename_i hss
   subst hss
   simp only [Option.some.injEq] at h
   subst h
   cases hr with
   | @fsl _ _ _ _ b off cap x' hl hsr hb hc hr =>
    have hdm : ∀ k, k < rows.length * sz' → k / sz' < rows.length ∧ k % sz' < sz' := fun k hk => ⟨by rw [Nat.div_lt_iff_lt_mul h0]; exact hk, Nat.mod_lt _ h0⟩
    have hij : ∀ i j, j < sz' → (i * sz' + j) / sz' = i ∧ (i * sz' + j) % sz' = j := fun i j hj => by
     constructor
     ·rw [Nat.mul_comm, Nat.mul_add_div h0, Nat.div_eq_of_lt hj, Nat.add_zero]
     ·rw [Nat.mul_comm, Nat.mul_add_mod, Nat.mod_eq_of_lt hj]
    have hF : FlatR β (okOf base fz) w H.length sz' rows ((List.range (rows.length * sz')).map fun k => x' (k / sz') (k % sz')) := by
     refine ⟨hsr, by simp, fun c hc' => ?_, fun i r hi j c hj => ?_⟩
     ·simp only [List.mem_map, List.mem_range] at hc'
      obtain ⟨k, hk, rfl⟩ := hc'
      obtain ⟨q1, q2⟩ := hdm k hk
      exact (hc _ _ q1 q2).2
     ·have hil : i < rows.length := (List.getElem?_eq_some_iff.1 hi).1
      have hjl : j < sz' := by
       have := (List.getElem?_eq_some_iff.1 hj).1
       rw [hsr r (List.mem_of_getElem? hi)] at this; exact this
      have hlt := row_lt hil hjl
      have := hr i r hi j c hj
      simp only [List.getElem?_map, List.getElem?_range hlt, Option.map_some, Option.getD_some, (hij i j hjl).1, (hij i j hjl).2]
      exact this.mono (Nat.zero_le _) (fun _ h => absurd h (Nat.not_lt_zero _)) (fun _ _ h => h) (fun _ _ _ => rfl) (Shapes.refl _)
    refine ⟨_, cap, _, rfl, hl, hF, fun k hk => ?_⟩
    have hks : k * sz' ≤ rows.length * sz' := Nat.mul_le_mul_right _ hk
    have hlt : (((List.range (rows.length * sz')).map fun k => x' (k / sz') (k % sz')).take (k * sz')).length = k * sz' := by rw [List.length_take, List.length_map, List.length_range]; omega
    have := run_loadCells_list (P := P) w ⟨b, off, none⟩ (((List.range (rows.length * sz')).map fun k => x' (k / sz') (k % sz')).take (k * sz')) (fun j u hj => by
     have hjk : j < k * sz' := by have := (List.getElem?_eq_some_iff.1 hj).1; omega
     rw [List.getElem?_take_of_lt hjk] at hj
     simp only [List.getElem?_map, List.getElem?_range (show j < rows.length * sz' by omega), Option.map_some, Option.some.injEq] at hj
     subst hj
     obtain ⟨q1, q2⟩ := hdm j (by omega)
     have := (hc _ _ q1 q2).1
     rw [add_none]
     have e : off + j / sz' * sz' + j % sz' = off + j := by
      have := Nat.div_add_mod j sz'
      rw [Nat.mul_comm] at this; omega
     rw [e] at this; exact this)
    rw [hlt] at this
    simpa [Builtin.firstCells] using this
   | @fsl0 _ _ _ ad cap =>
    refine ⟨ad, cap, [], rfl, Nat.zero_le _, ⟨by simp, by simp, by simp, by simp⟩, fun k hk => ?_⟩
    have : k = 0 := by simpa using hk
    subst this
    cases ad <;> simp [Builtin.firstCells, loadCells, loadCellsFrom]
  ·cases h
 ·simp only [Option.some.injEq] at h
  subst h
  cases hr with
  | @esl _ ad =>
   refine ⟨ad, 0, [], rfl, Nat.le_refl _, ⟨by simp, by simp, by simp, by simp⟩, fun k hk => ?_⟩
   have : k = 0 := by simpa using hk
   subst this
   cases ad <;> simp [Builtin.firstCells, loadCells, loadCellsFrom]
 ·simp only [Option.some.injEq] at h
  subst h
  have := hr.v_inv
  subst this
  refine ⟨none, 0, [], rfl, Nat.le_refl _, ⟨by simp, by simp, by simp, by simp⟩, fun k hk => ?_⟩
  have : k = 0 := by simpa using hk
  subst this
  simp [Builtin.firstCells]
 ·cases h
end
end Go.AI
/- Each step of the interpreter is true of the model: append, copy, clear, make, len. -/
namespace Go.AI
set_option linter.unusedSectionVars false
variable [Sym]
set_option linter.unusedSimpArgs false
set_option linter.unusedVariables false
open Go.RowKit
theorem growBy_le (newLen : Nat) : ∀ r c, Builtin.growBy newLen r c ≤ max c (newLen + (newLen + 768) / 4)
 | 0, c => by simp [Builtin.growBy]; omega
 | r + 1, c => by
  simp only [Builtin.growBy]
  split
  ·omega
  ·have := growBy_le newLen r (c + (c + 768) / 4)
   omega
theorem nextcap_le {need cap : Nat} (h : cap < need) : Builtin.nextslicecap need cap ≤ 2 * need + 1024 := by
 unfold Builtin.nextslicecap
 split
 ·omega
 ·split
  ·omega
  ·have := growBy_le need 4 cap
   omega
section
variable {base : Nat} {w0 : World} {β : Nat → Nat} {fz : Nat → Prop} {e' : AEv} {H H' : Heap} {a : Act} {w : World} {P : Program} {C : Orc} {o : Oper} {av : AVal} {n : Nat} {ok : Bool → Nat → Prop}
theorem run_append_in {t u e e2 ty : TypeId} {sz k sLen sCap m c : Nat} {bs xb : Option Addr} {new : Array Value} {w' : World} (hu : P.underlying t = some (.slice e)) (hu2 : P.underlying u = some (.slice e2)) (hsz : szOf P e = some sz)
  (hnew : (Builtin.firstCells sz m (.slice xb m c)).run P w = .ok new w) (hfit : sLen + m ≤ sCap) (hk : k = sLen + m)
  (hst : ∀ ad, bs = some ad → (storeCells (ad.add (sLen * sz)) new.toList).run P w = .ok () w') (hno : bs = none → w' = w) :
  (Builtin.append_ #[t, u] ty #[.slice bs sLen sCap, .slice xb m c]).run P w = .ok (.slice bs k sCap) w' := by
 subst hk
 cases bs with
 | none =>
  have := hno rfl
  subst this
  simp [Builtin.append_, run_underlying hu, run_underlying hu2, run_sz hsz, Builtin.lenOf, hnew, hfit]
 | some ad =>
  simp [Builtin.append_, run_underlying hu, run_underlying hu2, run_sz hsz, Builtin.lenOf, hnew, hfit, hst ad rfl]
theorem run_bytes {e : TypeId} {b : Nat} (h : bytesOf P e = some b) (w : World) : ∃ i, (typeInfo e).run P w = .ok i w ∧ i.bytes = b := by
 unfold bytesOf at h
 unfold typeInfo
 cases hi : P.info? e with
 | none => simp [hi] at h
 | some i => simp [hi] at h; exact ⟨i, by simp [hi], h⟩
theorem run_append_grow {t u e e2 ty : TypeId} {sz sLen sCap m c by_ : Nat} {bs xb : Option Addr} {old new : Array Value} {z : Value} (hu : P.underlying t = some (.slice e)) (hu2 : P.underlying u = some (.slice e2)) (hsz : szOf P e = some sz)
  (hz : zeroOf P e = some z) (hby : bytesOf P e = some by_) (hb : by_ ≤ 8192) (hneed : sLen + m ≤ 4294967296)
  (e0 : (Builtin.firstCells sz sLen (.slice bs sLen sCap)).run P w.drew = .ok old w.drew) (e1 : (Builtin.firstCells sz m (.slice xb m c)).run P w.drew = .ok new w.drew) (hfit : ¬ sLen + m ≤ sCap) :
  ∃ newCap, sLen + m ≤ newCap ∧ (Builtin.append_ #[t, u] ty #[.slice bs sLen sCap, .slice xb m c]).run P w =
   .ok (.slice (some ⟨w.heap.size, 0, none⟩) (sLen + m) newCap) (w.drew.alloc (.cells (old ++ new ++ Builtin.zeroCells z.cells (newCap - (sLen + m))) e)) := by
 have hn := nextcap_le (need := sLen + m) (cap := sCap) (by omega)
 have hmul : Builtin.nextslicecap (sLen + m) sCap * by_ ≤ (2 * (sLen + m) + 1024) * 8192 := Nat.mul_le_mul hn hb
 have hle : ¬ Builtin.nextslicecap (sLen + m) sCap * by_ > 281474976710656 := by omega
 refine ⟨(Question.appendCap (sLen + m) sCap e).cut (w.tape w.drawn (.appendCap (sLen + m) sCap e)), by simp [Question.cut], ?_⟩
 generalize hc : (Question.appendCap (sLen + m) sCap e).cut (w.tape w.drawn (.appendCap (sLen + m) sCap e)) = newCap
 obtain ⟨i, hi, hib⟩ := run_bytes hby w
 obtain ⟨i', hi', hib'⟩ := run_bytes hby w.drew
 simp only [Builtin.append_]
 simp [run_underlying hu, run_underlying hu2, run_sz hsz, Builtin.lenOf, hfit, hi, hib, hle, hc, Question.forced, hi', e0, e1, run_zero hz, newRow]
 intro h1; exfalso; omega
theorem flat_zero {z : Value} {k sz : Nat} (hz : z.cells.size = sz) (h0 : 0 < sz) (hone : allOne z.cells.toList = true) : FlatR β ok w n sz (List.replicate k (z.cells.toList.map .v)) (Builtin.zeroCells z.cells k).toList := by
 refine ⟨fun r hr => ?_, by simp [Builtin.zeroCells, hz], fun c hc => ?_, fun i r hi j c hj => ?_⟩
 ·have := List.eq_of_mem_replicate hr; subst this; simp [hz]
 ·simp only [Builtin.zeroCells, Array.toList_map, List.mem_map, Array.mem_toList_iff, Array.mem_range] at hc
  obtain ⟨q, hq, rfl⟩ := hc
  have hlt : q % z.cells.size < z.cells.size := Nat.mod_lt _ (by omega)
  rw [getElem!_pos z.cells _ hlt]
  exact allOne_mem hone _ (Array.mem_toList_iff.2 (Array.getElem_mem hlt))
 ·have hik : i < k := by have := (List.getElem?_eq_some_iff.1 hi).1; simpa using this
  have hr := List.eq_of_mem_replicate (List.mem_of_getElem? hi)
  subst hr
  simp only [List.getElem?_map, Option.map_eq_some_iff, Array.getElem?_toList] at hj
  obtain ⟨y, hy, rfl⟩ := hj
  have hjl : j < z.cells.size := (Array.getElem?_eq_some_iff.1 hy).1
  have hyv := (Array.getElem?_eq_some_iff.1 hy).2
  have hlt := row_lt hik (hz ▸ hjl)
  have hm : (i * sz + j) % z.cells.size = j := by
   rw [hz, Nat.mul_comm, Nat.mul_add_mod, Nat.mod_eq_of_lt (by omega)]
  simp only [Builtin.zeroCells, Array.toList_map, List.getElem?_map, Array.getElem?_toList]
  rw [Array.getElem?_range, if_pos (by rw [hz]; exact hlt)]
  simp only [Option.map_some, Option.getD_some, hm]
  rw [getElem!_pos z.cells j hjl, hyv]
  exact .v
theorem HSim.alloc_flat (hs : HSim base w0 β fz H w) {sz : Nat} {rows : List Row} {cs more : List Value} {e : TypeId} (hf : FlatR β (okOf base fz) w H.length sz rows cs) (hone : ∀ c ∈ more, c.oneCell' = true) :
  HSim base w0 (bump β H.length w.heap.size) fz (newObj' H sz rows) (w.alloc (.cells (cs ++ more).toArray e)) ∧
   Ext H.length β fz w (newObj' H sz rows).length (bump β H.length w.heap.size) fz (w.alloc (.cells (cs ++ more).toArray e)) := by
 obtain ⟨f1, f2, f3, f4⟩ := hf
 refine hs.alloc f1 (by simp [f2]) (fun j c hj => ?_) (fun i r hi j c hj => ?_)
 ·rw [List.getElem?_toArray] at hj
  rcases List.mem_append.1 (List.mem_of_getElem? hj) with h | h
  ·exact f3 c h
  ·exact hone c h
 ·have hil : i < rows.length := (List.getElem?_eq_some_iff.1 hi).1
  have hjl : j < sz := by
   have := (List.getElem?_eq_some_iff.1 hj).1
   rw [f1 r (List.mem_of_getElem? hi)] at this; exact this
  have := row_lt hil hjl
  rw [List.getElem?_toArray, List.getElem?_append_left (by omega)]
  exact f4 i r hi j c hj
theorem FlatR.ext {sz n' : Nat} {β' : Nat → Nat} {fz' : Nat → Prop} {w' : World} {rows : List Row} {cs : List Value} (h : FlatR β (okOf base fz) w n sz rows cs) (k : Ext n β fz w n' β' fz' w') : FlatR β' (okOf base fz') w' n' sz rows cs :=
 ⟨h.1, h.2.1, h.2.2.1, fun i r hi j c hj => (h.2.2.2 i r hi j c hj).ext k⟩
theorem newSl (β : Nat → Nat) (H : Heap) (b sz len cap : Nat) (ok : Bool → Nat → Prop) (w' : World) (rows : List Row) {cs : Array Value} {e : TypeId} {f : Nat × Nat} (hb : w'.heap[b]? = some (.cells cs e f)) (hle : cap * sz ≤ cs.size) {kc : Nat} (hk : len ≤ kc) (hkc : kc ≤ cap) :
  R (bump β H.length b) ok w' (newObj' H sz rows).length (.osl H.length sz 0 len kc) (.slice (some ⟨b, 0, none⟩) len cap) := by
 refine .osl (by simp [newObj']) hk hkc (.inr ⟨by simp [bump], cs, e, f, by simpa [bump] using hb, by simpa using hle⟩)
theorem HSim.freeze (hs : HSim base w0 β fz H w) {n : Nat} (hl : Live H n) : HSim base w0 β (fun b => fz b ∨ b = β n) (H.set n none) w ∧ Ext H.length β fz w (H.set n none).length β (fun b => fz b ∨ b = β n) w := by
 have ext : Ext H.length β fz w (H.set n none).length β (fun b => fz b ∨ b = β n) w := ⟨by simp, fun _ _ => rfl, fun _ h => .inl h, fun _ _ => rfl, Shapes.refl w⟩
 have hold : ∀ (k : Nat) x, (H.set n none)[k]? = some (some x) → H[k]? = some (some x) ∧ k ≠ n := by
  intro k x hk
  by_cases h : k = n
  ·subst h
   by_cases hl : k < H.length
   ·rw [List.getElem?_set_self hl] at hk; simp at hk
   ·rw [List.getElem?_eq_none (by simpa using hl)] at hk; cases hk
  ·rw [List.getElem?_set_ne (by omega)] at hk; exact ⟨hk, h⟩
 refine ⟨⟨?_, fun a b ⟨x, hx⟩ ⟨y, hy⟩ => hs.inj a b ⟨x, (hold _ _ hx).1⟩ ⟨y, (hold _ _ hy).1⟩, ?_, ?_, hs.below, hs.base⟩, ext⟩
 ·intro k sz rows hk
  exact (hs.objs' k sz rows (hold _ _ hk).1).ext ext rfl
 ·rintro k ⟨x, hx⟩
  obtain ⟨h1, h2⟩ := hold _ _ hx
  have := hs.own k ⟨x, h1⟩
  refine ⟨this.1, ?_⟩
  rintro (h | h)
  ·exact this.2 h
  ·exact h2 (hs.inj k n ⟨x, h1⟩ hl h)
 ·rintro b (h | h)
  ·exact hs.fzlt b h
  ·subst h; exact hs.blt hl
theorem HSim.frozeV (hs : HSim base w0 β fz H w) {n sz st cap : Nat} {rows R0 : List Row} (hob : obj H n = some (sz, rows)) (hst : rows.drop st = R0) (hle : st ≤ rows.length) (hv : R0.all vRow = true) (hcap : R0.length ≤ cap) {fz' : Nat → Prop} (hn : fz' (β n)) {m : Nat} :
  R β (okOf base fz') w m (.fsl true sz R0) (.slice (some ⟨β n, st * sz, none⟩) R0.length cap) := by
 obtain ⟨cs, e, g1, g2, g3, g4, g5⟩ := hs.cells hob
 have hlen : st + R0.length = rows.length := by rw [← hst]; simp; omega
 have hmem : ∀ r ∈ R0, r ∈ rows := fun r hr => List.mem_of_mem_drop (by rw [hst]; exact hr)
 refine .fsl (fun i j => cs[(st + i) * sz + j]?.getD undef) hcap (fun r hr => g2 r (hmem r hr)) (fun _ => ⟨hn, fun _ => (hs.own n ⟨_, obj_some hob⟩).1⟩) ?_ ?_
 ·intro i j hi hj
  have h1 : (st + i) * sz + j < rows.length * sz := row_lt (by omega) hj
  have h2 : (st + i) * sz + j < cs.size := by omega
  rw [← Nat.add_mul]
  exact ⟨by simp [World.cell?, g1, h2], g4 ((st + i) * sz + j) _ (by simp [h2])⟩
 ·intro i r hi j c hj
  have hi2 : rows[st + i]? = some r := by rw [← hst, List.getElem?_drop] at hi; exact hi
  have hr := g5 (st + i) r hi2 j c hj
  rw [List.all_eq_true] at hv
  have h1 := hv r (List.mem_of_getElem? hi)
  unfold vRow at h1
  rw [List.all_eq_true] at h1
  have h2 := h1 c (List.mem_of_getElem? hj)
  cases c with
  | v y => rw [hr.v_inv]; exact .v
  | _ => simp at h2
structure Tail (P : Program) (w : World) (β : Nat → Nat) (ok : Bool → Nat → Prop) (n : Nat) (t u ty : TypeId) (xv : Value) (e : TypeId) (sz : Nat) (z : Value) (xr : List Row) (xcs xcs' : List Value) : Prop where
 F : FlatR β ok w n sz xr xcs
 F' : FlatR β ok w.drew n sz xr xcs'
 inp : ∀ {sLen sCap k : Nat} {bs : Option Addr} {w' : World}, sLen + xr.length ≤ sCap → k = sLen + xr.length → (∀ ad, bs = some ad → (storeCells (ad.add (sLen * sz)) xcs).run P w = .ok () w') → (bs = none → w' = w) → (Builtin.append_ #[t, u] ty #[.slice bs sLen sCap, xv]).run P w = .ok (.slice bs k sCap) w'
 grow : ∀ {sLen sCap : Nat} {bs : Option Addr} {old : Array Value}, sLen + xr.length ≤ 4294967296 → (Builtin.firstCells sz sLen (.slice bs sLen sCap)).run P w.drew = .ok old w.drew → ¬ sLen + xr.length ≤ sCap → ∃ newCap, sLen + xr.length ≤ newCap ∧ (Builtin.append_ #[t, u] ty #[.slice bs sLen sCap, xv]).run P w = .ok (.slice (some ⟨w.heap.size, 0, none⟩) (sLen + xr.length) newCap) (w.drew.alloc (.cells (old ++ xcs'.toArray ++ Builtin.zeroCells z.cells (newCap - (sLen + xr.length))) e))
theorem does_appendC {t u ty : TypeId} {s : Operand} {X : AVal} {xv : Value} (hop : execOp a.eval o = (do pure (.value (← Builtin.append_ #[t, u] ty #[a.eval s, xv])) : Sem Next)) (hs : SimE base w0 β fz e' H a w)
  (T : ∀ (e : TypeId) (sz : Nat) (z : Value) (by_ : Nat) (xr : List Row), sliceElem P t = some e → szOf P e = some sz → zeroOf P e = some z → bytesOf P e = some by_ → z.cells.size = sz → allOne z.cells.toList = true → 0 < sz → by_ ≤ 8192 → rowsOf H sz X = some xr → ∃ xcs xcs', Tail P w β (okOf base fz) H.length t u ty xv e sz z xr xcs xcs')
  (h : aAppend P t (e' s) X H = some (av, H')) : Does P o a w base w0 β fz H av H' := by
 unfold aAppend at h
 split at h
 ·rename_i e hE
  have hu := run_slice_und hE
  split at h
  ·rename_i sz z by_ hsz hz hby
   split at h
   ·rename_i xr hxr
    split at h
    ·rename_i hcond
     obtain ⟨hzs, hzo, h0, hb⟩ := hcond
     obtain ⟨xcs, xcs', hT⟩ := T e sz z by_ xr hE hsz hz hby hzs hzo h0 hb hxr
     have hxF := hT.F
     have hxF' := hT.F'
     obtain ⟨hd, hde⟩ := hs.heap.drew
     have hsv := hs.ev s
     -- a new block of its own
     have grow0 : ∀ (bs : Option Addr), a.eval s = .slice bs 0 0 → xr.length ≠ 0 → xr.length ≤ 4294967296 → Does P o a w base w0 β fz H (.osl H.length sz 0 xr.length xr.length) (newObj' H sz xr) := by
      intro bs hbs hx hlen
      have e0 : (Builtin.firstCells sz 0 (.slice bs 0 0)).run P w.drew = .ok #[] w.drew := by
       cases bs <;> simp [Builtin.firstCells, loadCells, loadCellsFrom]
      obtain ⟨newCap, hnc, hrun⟩ := hT.grow (by omega) e0 (by omega)
      simp only [Nat.zero_add] at hnc hrun
      obtain ⟨q1, q2⟩ := hd.alloc_flat (e := e) hxF' (more := (Builtin.zeroCells z.cells (newCap - xr.length)).toList) (flat_zero (β := β) (ok := okOf base fz) (w := w) (n := 0) hzs h0 hzo).2.2.1
      have hcs : (#[] ++ xcs'.toArray ++ Builtin.zeroCells z.cells (newCap - xr.length)) = (xcs' ++ (Builtin.zeroCells z.cells (newCap - xr.length)).toList).toArray := by simp
      refine does_val (β' := bump β H.length w.heap.size) (fz' := fz) ?_ q1 (hde.trans q2) (newSl β H w.heap.size sz xr.length newCap _ _ xr (heap_alloc_new w.drew _) ?_ (Nat.le_refl _) hnc)
      ·rw [hop, hbs, Sem.run_bind, hrun, hcs]; rfl
      ·have h1 := hxF'.2.1
       have h2 := (flat_zero (β := β) (ok := okOf base fz) (w := w) (n := 0) (k := newCap - xr.length) hzs h0 hzo).2.1
       simp only [List.length_replicate] at h2
       have h3 : newCap * sz = xr.length * sz + (newCap - xr.length) * sz := by rw [← Nat.add_mul]; congr 1; omega
       simp only [List.size_toArray, List.length_append]
       omega
     split at h
     ·-- onto an object
      rename_i id sz' st len kc hp
      split at h
      ·rename_i sz'' rows hob
       split at h
       ·rename_i hc2
        obtain ⟨rfl, rfl, hsl, hneed⟩ := hc2
        have hob' := obj_some hob
        have h00 : sz'' ≠ 0 := (obj_live hob).2
        obtain ⟨cur, e', g1, g2, g3, g4, g5⟩ := hs.heap.cells hob
        rw [hp] at hsv
        generalize hvs : a.eval s = vs at hsv
        cases hsv with
        | @osl _ _ _ _ _ _ ad cap hid hl hkc ha =>
         -- within the capacity
         have inplace : len + xr.length ≤ cap → 0 < cap → (∃ cs f, w.heap[β id]? = some (.cells cs e' f) ∧ (st + cap) * sz'' ≤ cs.size) ∧ ad = ⟨β id, st * sz'', none⟩ ∧
           ∃ w', (Builtin.append_ #[t, u] ty #[.slice (some ad) len cap, xv]).run P w = .ok (.slice (some ad) (len + xr.length) cap) w' ∧
           HSim base w0 β fz (H.set id (some (sz'', rows.take (st + len) ++ xr ++ rows.drop (st + len + xr.length)))) w' ∧
           Ext H.length β fz w (H.set id (some (sz'', rows.take (st + len) ++ xr ++ rows.drop (st + len + xr.length)))).length β fz w' := by
          intro hfit hcap
          rcases ha with ha | ⟨ha, cs, e3, f3, h1, h2⟩
          ·omega
          ·rw [g1] at h1
           simp only [Option.some.injEq, Obj.cells.injEq] at h1
           obtain ⟨rfl, rfl, rfl⟩ := h1
           have hfit2 : (st + len + xr.length) * sz'' ≤ cur.size := Nat.le_trans (Nat.mul_le_mul_right _ (by omega)) h2
           obtain ⟨q1, q2⟩ := hs.heap.splice (p := st + len) hob' g1 hsl hxF hfit2
           refine ⟨⟨cur, _, g1, h2⟩, ha, _, ?_, q1, q2⟩
           refine hT.inp hfit rfl (fun ad' had => ?_) (fun h => by cases h)
           simp only [Option.some.injEq] at had
           subst had
           have hl2 : (st * sz'' + len * sz'') + 0 + xcs.length ≤ cur.size := by
            rw [hxF.2.1, ← Nat.add_mul, Nat.add_zero, ← Nat.add_mul]; exact hfit2
           have := run_storeCells_at P (β id) (st * sz'' + len * sz'') e' xcs 0 cur w g1 hl2 hxF.2.2.1
           rw [ha, add_none]
           simpa [Nat.add_mul] using this
         split at h
         ·rename_i hin
          simp only [Option.some.injEq, Prod.mk.injEq] at h
          obtain ⟨rfl, rfl⟩ := h
          by_cases hcap : 0 < cap
          ·obtain ⟨⟨cs, f, i1, i2⟩, had, w', hrun, q1, q2⟩ := inplace (by omega) hcap
           refine does_val (x := .slice (some ad) (len + xr.length) cap) ?_ q1 q2 ?_
           ·rw [hop, hvs, Sem.run_bind, hrun]; rfl
           ·have : R β (okOf base fz) w H.length (.osl id sz'' st (len + xr.length) kc) (.slice (some ad) (len + xr.length) cap) := .osl hid (by omega) hkc (.inr ⟨had, cs, e', f, i1, i2⟩)
            exact this.ext q2
          ·have hc0 : cap = 0 := by omega
           have hx : xr = [] := by
            have : xr.length = 0 := by omega
            simpa using this
           have hl0 : len = 0 := by omega
           have hH : H.set id (some (sz'', rows.take (st + len) ++ xr ++ rows.drop (st + len + xr.length))) = H := by
            rw [hx]
            simp only [List.append_nil, List.length_nil, Nat.add_zero, List.take_append_drop]
            apply List.ext_getElem?
            intro k
            by_cases hk : k = id
            ·subst hk
             rw [List.getElem?_set_self (List.getElem?_eq_some_iff.1 hob').1, hob']
            ·rw [List.getElem?_set_ne (by omega)]
           rw [hH]
           have hx' : xcs = [] := by
            have := hxF.2.1
            rw [hx] at this
            simpa using this
           refine does_pure hs.heap (x := .slice (some ad) (len + xr.length) cap) ?_ (.osl hid (by omega) hkc (.inl hc0))
           have hrun := hT.inp (w' := w) (bs := some ad) (sLen := len) (sCap := cap) (by omega) rfl (fun ad' _ => by rw [hx']; rfl) (fun h => by cases h)
           rw [hop, hvs, Sem.run_bind, hrun]; rfl
         ·rename_i hin
          split at h
          ·rename_i hc3
           obtain ⟨rfl, rfl⟩ := hc3
           simp only [Option.some.injEq, Prod.mk.injEq] at h
           obtain ⟨rfl, rfl⟩ := h
           by_cases hfit : rows.length + xr.length ≤ cap
           ·obtain ⟨⟨cs, f, i1, i2⟩, had, w', hrun, q1, q2⟩ := inplace hfit (by omega)
            have hrows : rows.take (0 + rows.length) ++ xr ++ rows.drop (0 + rows.length + xr.length) = rows ++ xr := by
             simp [List.drop_eq_nil_of_le]
            rw [hrows] at q1 q2
            have hget : (H.set id (some (sz'', rows ++ xr)))[id]? = some (some (sz'', rows ++ xr)) := List.getElem?_set_self (List.getElem?_eq_some_iff.1 hob').1
            obtain ⟨p1, p2⟩ := q1.rename hget
            have hH : newObj' ((H.set id (some (sz'', rows ++ xr))).set id none) sz'' (rows ++ xr) = (H.set id none) ++ [some (sz'', rows ++ xr)] := by
             simp [newObj', List.set_set, h00]
            rw [hH] at p1 p2
            simp only [List.length_set] at p1 p2 q2
            refine does_val (x := .slice (some ad) (rows.length + xr.length) cap) ?_ p1 (q2.trans p2) ?_
            ·rw [hop, hvs, Sem.run_bind, hrun]; rfl
            ·obtain ⟨cs', f', j1, j2⟩ := q2.shape _ _ _ _ i1
             have := newSl β (H.set id none) (β id) sz'' (rows.length + xr.length) cap (okOf base fz) w' (rows ++ xr) j1 (by rw [j2]; simpa using i2) (kc := rows.length + xr.length) (Nat.le_refl _) hfit
             simp only [List.length_set] at this
             rw [had]
             simpa [newObj'] using this
           ·have hrs : rowsOf H sz'' (.osl id sz'' 0 rows.length kc) = some rows := by simp [rowsOf, hob]
            obtain ⟨sb, sc, scs, hsv2, hsl2, hsF, hsrun⟩ := rows_R (P := P) hd hrs h0 ((R.osl (β := β) (ok := okOf base fz) (w := w) hid hl hkc ha).ext hde)
            simp only [Value.slice.injEq, true_and] at hsv2
            obtain ⟨rfl, rfl⟩ := hsv2
            have hs0 := hsrun rows.length (Nat.le_refl _)
            rw [List.take_of_length_le (by rw [hsF.2.1]; exact Nat.le_refl _)] at hs0
            obtain ⟨newCap, hnc, hrun⟩ := hT.grow hneed hs0 hfit
            obtain ⟨k1, k2⟩ := hd.kill id
            have hFF := (hsF.app hxF').ext k2
            obtain ⟨q1, q2⟩ := k1.alloc_flat (e := e) hFF (more := (Builtin.zeroCells z.cells (newCap - (rows.length + xr.length))).toList) (flat_zero (β := β) (ok := okOf base fz) (w := w) (n := 0) hzs h0 hzo).2.2.1
            have hcs : (scs.toArray ++ xcs'.toArray ++ Builtin.zeroCells z.cells (newCap - (rows.length + xr.length))) = ((scs ++ xcs') ++ (Builtin.zeroCells z.cells (newCap - (rows.length + xr.length))).toList).toArray := by simp
            have hsl3 := newSl β (H.set id none) w.heap.size sz'' (rows.length + xr.length) newCap (okOf base fz) _ (rows ++ xr) (heap_alloc_new w.drew (.cells ((scs ++ xcs') ++ (Builtin.zeroCells z.cells (newCap - (rows.length + xr.length))).toList).toArray e)) ?hle (kc := rows.length + xr.length) (Nat.le_refl _) hnc
            case hle =>
             have h1 := hFF.2.1
             have h2 := (flat_zero (β := β) (ok := okOf base fz) (w := w) (n := 0) (k := newCap - (rows.length + xr.length)) hzs h0 hzo).2.1
             simp only [List.length_replicate] at h2
             simp only [List.length_append] at h1
             have h3 : newCap * sz'' = (rows.length + xr.length) * sz'' + (newCap - (rows.length + xr.length)) * sz'' := by rw [← Nat.add_mul]; congr 1; omega
             simp only [List.size_toArray, List.length_append]
             omega
            have hq : (newObj' (H.set id none) sz'' (rows ++ xr)) = H.set id none ++ [some (sz'', rows ++ xr)] := by simp [newObj', h00]
            rw [hq] at q1 q2 hsl3
            have hlen2 : (H.set id none).length = H.length := by simp
            rw [hlen2] at q1 q2 hsl3 k2
            refine does_val ?_ q1 (hde.trans (k2.trans q2)) hsl3
            rw [hop, hvs, Sem.run_bind, hrun, hcs]
            rfl
          ·split at h
           ·rename_i hc4
            obtain ⟨hend, hv1, hv2⟩ := hc4
            simp only [Option.some.injEq, Prod.mk.injEq] at h
            obtain ⟨rfl, rfl⟩ := h
            have hdl : (rows.drop st).length = len := by simp; omega
            have hdl2 : (rows.drop st ++ xr).length = len + xr.length := by rw [List.length_append, hdl]
            have hvv : (rows.drop st ++ xr).all vRow = true := by rw [List.all_append, hv1, hv2]; rfl
            have hset : ∀ (X : Option (Nat × List Row)), (H.set id none ++ [X]).set H.length none = H.set id none ++ [none] := fun X => by
             rw [List.set_append_right _ _ (by simp)]; simp
            by_cases hfit : len + xr.length ≤ cap
            ·obtain ⟨⟨cs, f, i1, i2⟩, had, w', hrun, q1, q2⟩ := inplace hfit (by omega)
             have hrows : rows.take (st + len) ++ xr ++ rows.drop (st + len + xr.length) = rows ++ xr := by
              rw [List.take_of_length_le (by omega), List.drop_eq_nil_of_le (by omega), List.append_nil]
             rw [hrows] at q1 q2
             have hget : (H.set id (some (sz'', rows ++ xr)))[id]? = some (some (sz'', rows ++ xr)) := List.getElem?_set_self (List.getElem?_eq_some_iff.1 hob').1
             obtain ⟨p1, p2⟩ := q1.rename hget
             have hH : newObj' ((H.set id (some (sz'', rows ++ xr))).set id none) sz'' (rows ++ xr) = (H.set id none) ++ [some (sz'', rows ++ xr)] := by
              simp [newObj', List.set_set, h00]
             rw [hH] at p1 p2
             simp only [List.length_set] at p1 p2 q2
             have hnew : (H.set id none ++ [some (sz'', rows ++ xr)])[H.length]? = some (some (sz'', rows ++ xr)) := by
              rw [List.getElem?_append_right (by simp)]; simp
             have hobn : obj (H.set id none ++ [some (sz'', rows ++ xr)]) H.length = some (sz'', rows ++ xr) := by simp [obj, h00]
             obtain ⟨r1, r2⟩ := p1.freeze (n := H.length) ⟨_, hnew⟩
             rw [hset] at r1 r2
             have hR := p1.frozeV (st := st) (R0 := rows.drop st ++ xr) (cap := cap) (fz' := fun b => fz b ∨ b = bump β H.length (β id) H.length) (m := (H.set id none ++ [none]).length) hobn (by rw [List.drop_append_of_le_length (by omega)]) (by simp; omega) hvv (by simp; omega) (.inr rfl)
             have hbm : bump β H.length (β id) H.length = β id := by simp [bump]
             refine does_val (x := .slice (some ad) (len + xr.length) cap) ?_ r1 (q2.trans (p2.trans r2)) ?_
             ·rw [hop, hvs, Sem.run_bind, hrun]; rfl
             ·rw [had]
              rw [hdl2, hbm] at hR
              rw [hbm]
              exact hR
            ·have hrs : rowsOf H sz'' (.osl id sz'' st len kc) = some (rows.drop st) := by
              simp [rowsOf, hob, hsl, List.take_of_length_le (Nat.le_of_eq hdl)]
             obtain ⟨sb, sc, scs, hsv2, hsl2, hsF, hsrun⟩ := rows_R (P := P) hd hrs h0 ((R.osl (β := β) (ok := okOf base fz) (w := w) hid hl hkc ha).ext hde)
             rw [hdl] at hsv2 hsrun
             simp only [Value.slice.injEq, true_and] at hsv2
             obtain ⟨rfl, rfl⟩ := hsv2
             have hs0 := hsrun len (Nat.le_refl _)
             rw [List.take_of_length_le (by rw [hsF.2.1, hdl]; exact Nat.le_refl _)] at hs0
             obtain ⟨newCap, hnc, hrun⟩ := hT.grow hneed hs0 hfit
             obtain ⟨k1, k2⟩ := hd.kill id
             have hFF := (hsF.app hxF').ext k2
             obtain ⟨q1, q2⟩ := k1.alloc_flat (e := e) hFF (more := (Builtin.zeroCells z.cells (newCap - (len + xr.length))).toList) (flat_zero (β := β) (ok := okOf base fz) (w := w) (n := 0) hzs h0 hzo).2.2.1
             have hcs : (scs.toArray ++ xcs'.toArray ++ Builtin.zeroCells z.cells (newCap - (len + xr.length))) = ((scs ++ xcs') ++ (Builtin.zeroCells z.cells (newCap - (len + xr.length))).toList).toArray := by simp
             have hq : (newObj' (H.set id none) sz'' (rows.drop st ++ xr)) = H.set id none ++ [some (sz'', rows.drop st ++ xr)] := by simp [newObj', h00]
             rw [hq] at q1 q2
             have hlen2 : (H.set id none).length = H.length := by simp
             rw [hlen2] at q1 q2 k2
             have hnew : (H.set id none ++ [some (sz'', rows.drop st ++ xr)])[H.length]? = some (some (sz'', rows.drop st ++ xr)) := by
              rw [List.getElem?_append_right (by simp)]; simp
             have hobn : obj (H.set id none ++ [some (sz'', rows.drop st ++ xr)]) H.length = some (sz'', rows.drop st ++ xr) := by simp [obj, h00]
             obtain ⟨r1, r2⟩ := q1.freeze (n := H.length) ⟨_, hnew⟩
             rw [hset] at r1 r2
             have hR := q1.frozeV (st := 0) (R0 := rows.drop st ++ xr) (cap := newCap) (fz' := fun b => fz b ∨ b = bump β H.length w.drew.heap.size H.length) (m := (H.set id none ++ [none]).length) hobn (by simp) (by simp) hvv (by rw [List.length_append, hdl]; exact hnc) (.inr rfl)
             have hbm : bump β H.length w.drew.heap.size H.length = w.heap.size := by simp [bump]
             refine does_val ?_ r1 (hde.trans (k2.trans (q2.trans r2))) (x := .slice (some ⟨w.heap.size, 0, none⟩) (len + xr.length) newCap) ?_
             ·rw [hop, hvs, Sem.run_bind, hrun, hcs]
              rfl
             ·rw [hdl2, hbm, Nat.zero_mul] at hR
              rw [hbm]
              exact hR
           ·cases h
       ·cases h
      ·cases h
     ·-- nothing onto frozen data
      rename_i oo sz' rows hp
      split at h
      ·rename_i hx
       simp only [Option.some.injEq, Prod.mk.injEq] at h
       obtain ⟨rfl, rfl⟩ := h
       rw [hp] at hsv
       have hx' : xcs = [] := by
        have := hxF.2.1
        rw [hx] at this
        simpa using this
       obtain ⟨bs, cap, hv, hlc⟩ : ∃ bs cap, a.eval s = .slice bs rows.length cap ∧ rows.length ≤ cap := by
        generalize a.eval s = v at hsv
        cases hsv with
        | fsl x hl hs hb hc hr => exact ⟨_, _, rfl, hl⟩
        | fsl0 => exact ⟨_, _, rfl, Nat.zero_le _⟩
       have hrun := hT.inp (w' := w) (bs := bs) (sLen := rows.length) (sCap := cap) (by omega) rfl (fun ad' _ => by rw [hx']; rfl) (fun _ => rfl)
       refine does_pure hs.heap (x := .slice bs rows.length cap) ?_ (by rw [← hv]; exact hsv)
       rw [hop, hv, Sem.run_bind, hrun, hx]; rfl
      ·cases h
     ·-- onto an empty one
      rename_i hp
      rw [hp] at hsv
      generalize hvs : a.eval s = vs at hsv
      cases hsv with
      | @esl _ ad =>
       split at h
       ·rename_i hx
        simp only [Option.some.injEq, Prod.mk.injEq] at h
        obtain ⟨rfl, rfl⟩ := h
        have hx' : xcs = [] := by
         have := hxF.2.1
         rw [hx] at this
         simpa using this
        have hrun := hT.inp (w' := w) (bs := ad) (sLen := 0) (sCap := 0) (by omega) rfl (fun ad' _ => by rw [hx']; rfl) (fun _ => rfl)
        refine does_pure hs.heap (x := .slice ad 0 0) ?_ .esl
        rw [hop, hvs, Sem.run_bind, hrun, hx]; rfl
       ·rename_i hx
        split at h
        ·rename_i hlen
         simp only [Option.some.injEq, Prod.mk.injEq] at h
         obtain ⟨rfl, rfl⟩ := h
         exact grow0 ad hvs hx hlen
        ·cases h
     ·-- onto nil
      rename_i hp
      rw [hp] at hsv
      have hvs := hsv.v_inv
      split at h
      ·rename_i hx
       simp only [Option.some.injEq, Prod.mk.injEq] at h
       obtain ⟨rfl, rfl⟩ := h
       have hx' : xcs = [] := by
        have := hxF.2.1
        rw [hx] at this
        simpa using this
       have hrun := hT.inp (w' := w) (bs := none) (sLen := 0) (sCap := 0) (by omega) rfl (fun ad' _ => by rw [hx']; rfl) (fun _ => rfl)
       refine does_pure hs.heap (x := .slice none 0 0) ?_ .v
       rw [hop, hvs, Sem.run_bind, hrun, hx]; rfl
      ·rename_i hx
       split at h
       ·rename_i hlen
        simp only [Option.some.injEq, Prod.mk.injEq] at h
        obtain ⟨rfl, rfl⟩ := h
        exact grow0 none hvs hx hlen
       ·cases h
     ·cases h
    ·cases h
   ·cases h
  ·cases h
 ·cases h
theorem does_append {t u ty : TypeId} {s x : Operand} {e2 : TypeId} (hop : execOp a.eval o = (do pure (.value (← Builtin.append_ #[t, u] ty #[a.eval s, a.eval x])) : Sem Next)) (hs : SimE base w0 β fz e' H a w)
  (hE2 : sliceElem P u = some e2) (h : aAppend P t (e' s) (e' x) H = some (av, H')) : Does P o a w base w0 β fz H av H' := by
 have hu2 := run_slice_und hE2
 refine does_appendC hop hs (fun e sz z by_ xr hE hsz hz hby hzs hzo h0 hb hxr => ?_) h
 have hu := run_slice_und hE
 obtain ⟨xb, xc, xcs, hxv, hxl, hxF, hxrun⟩ := rows_R (P := P) hs.heap hxr h0 (hs.ev x)
 obtain ⟨hd, hde⟩ := hs.heap.drew
 have hxR' := (hs.ev x).ext hde
 obtain ⟨xb', xc', xcs', hxv', hxl', hxF', hxrun'⟩ := rows_R (P := P) hd hxr h0 hxR'
 rw [hxv] at hxv'
 simp only [Value.slice.injEq, true_and] at hxv'
 obtain ⟨rfl, rfl⟩ := hxv'
 have hx0 := hxrun xr.length (Nat.le_refl _)
 have hx1 := hxrun' xr.length (Nat.le_refl _)
 rw [hxv, List.take_of_length_le (by rw [hxF.2.1]; exact Nat.le_refl _)] at hx0
 rw [hxv, List.take_of_length_le (by rw [hxF'.2.1]; exact Nat.le_refl _)] at hx1
 refine ⟨xcs, xcs', hxF, hxF', fun hfit hk hst hno => ?_, fun hneed e0 hfit => ?_⟩
 ·rw [hxv]
  exact run_append_in hu hu2 hsz hx0 hfit hk (fun ad had => by simpa using hst ad had) hno
 ·rw [hxv]
  exact run_append_grow (w := w) (ty := ty) hu hu2 hsz hz hby hb hneed e0 hx1 hfit
end
end Go.AI
