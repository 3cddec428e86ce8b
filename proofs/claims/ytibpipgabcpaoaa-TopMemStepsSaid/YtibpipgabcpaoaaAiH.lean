/- Each step of the interpreter is true of the model: rows of an object; append, copy, clear, make. -/
import Derived.Test.YtibpipgabcpaoaaAiG
namespace Go.AI
set_option linter.unusedSimpArgs false
set_option linter.unusedVariables false
open Go.RowKit
theorem splice_rows {α : Type} (l ys : List α) (p : Nat) (h : p ≤ l.length) (i : Nat) :
  (l.take p ++ ys ++ l.drop (p + ys.length))[i]? = if i < p then l[i]? else if i < p + ys.length then ys[i - p]? else l[i]? := by
 have hp : (l.take p).length = p := by simp; omega
 by_cases h1 : i < p
 ·rw [if_pos h1, List.append_assoc, List.getElem?_append_left (by omega), List.getElem?_take_of_lt h1]
 ·rw [if_neg h1]
  by_cases h2 : i < p + ys.length
  ·rw [if_pos h2, List.append_assoc, List.getElem?_append_right (by omega), hp, List.getElem?_append_left (by omega)]
  ·rw [if_neg h2, List.getElem?_append_right (by simp; omega), List.getElem?_drop]
   congr 1; simp; omega
section
variable {base : Nat} {w0 : World} {β : Nat → Nat} {fz : Nat → Prop} {e' : AEv} {H H' : Heap} {a : Act} {w : World} {P : Program} {C : Orc} {o : Oper} {av : AVal} {n : Nat} {ok : Bool → Nat → Prop}
theorem HSim.drew (hs : HSim base w0 β fz H w) : HSim base w0 β fz H w.drew ∧ Ext H.length β fz w H.length β fz w.drew := by
 have ext : Ext H.length β fz w H.length β fz w.drew := ⟨Nat.le_refl _, fun _ _ => rfl, fun _ h => h, fun _ _ => rfl, Shapes.refl w⟩
 refine ⟨⟨?_, hs.inj, hs.own, hs.fzlt, hs.below.drew, hs.base⟩, ext⟩
 intro id sz rows hid
 exact (hs.objs' id sz rows hid).ext ext rfl
theorem HSim.kill (hs : HSim base w0 β fz H w) (id : Nat) : HSim base w0 β fz (H.set id none) w ∧ Ext H.length β fz w (H.set id none).length β fz w := by
 have ext : Ext H.length β fz w (H.set id none).length β fz w := ⟨by simp, fun _ _ => rfl, fun _ h => h, fun _ _ => rfl, Shapes.refl w⟩
 have hold : ∀ (k : Nat) x, (H.set id none)[k]? = some (some x) → H[k]? = some (some x) := by
  intro k x hk
  by_cases h : k = id
  ·subst h
   by_cases hl : k < H.length
   ·rw [List.getElem?_set_self hl] at hk; simp at hk
   ·rw [List.getElem?_eq_none (by simpa using hl)] at hk; cases hk
  ·rwa [List.getElem?_set_ne (by omega)] at hk
 refine ⟨⟨?_, fun a b ⟨x, hx⟩ ⟨y, hy⟩ => hs.inj a b ⟨x, hold _ _ hx⟩ ⟨y, hold _ _ hy⟩, fun k ⟨x, hx⟩ => hs.own k ⟨x, hold _ _ hx⟩, hs.fzlt, hs.below, hs.base⟩, ext⟩
 intro k sz rows hk
 exact (hs.objs' k sz rows (hold _ _ hk)).ext ext rfl
theorem HSim.rename (hs : HSim base w0 β fz H w) {id sz : Nat} {rows : List Row} (hid : H[id]? = some (some (sz, rows))) :
  HSim base w0 (bump β H.length (β id)) fz (newObj' (H.set id none) sz rows) w ∧ Ext H.length β fz w (newObj' (H.set id none) sz rows).length (bump β H.length (β id)) fz w := by
 have ext : Ext H.length β fz w (newObj' (H.set id none) sz rows).length (bump β H.length (β id)) fz w :=
  ⟨by simp [newObj'], fun k hk => by simp [bump]; omega, fun _ h => h, fun _ _ => rfl, Shapes.refl w⟩
 have hold : ∀ (k : Nat) x, (newObj' (H.set id none) sz rows)[k]? = some (some x) → k = H.length ∧ x = (sz, rows) ∨ k ≠ H.length ∧ k ≠ id ∧ H[k]? = some (some x) := by
  intro k x hk
  unfold newObj' at hk
  rw [List.getElem?_append] at hk
  split at hk
  ·rename_i hl
   simp at hl
   right
   by_cases h : k = id
   ·subst h; rw [List.getElem?_set_self hl] at hk; simp at hk
   ·rw [List.getElem?_set_ne (by omega)] at hk; exact ⟨by omega, h, hk⟩
  ·rename_i hl
   simp at hl
   left
   simp only [List.length_set] at hk
   have h0 : k - H.length = 0 := by
    by_cases h : k - H.length = 0
    ·exact h
    ·simp [h] at hk
   rw [h0] at hk
   simp at hk
   exact ⟨by omega, hk.2.symm⟩
 have hlive : Live H id := ⟨_, hid⟩
 refine ⟨⟨?_, ?_, ?_, hs.fzlt, hs.below, hs.base⟩, ext⟩
 ·intro k sz' rws hk
  rcases hold _ _ hk with ⟨rfl, hx⟩ | ⟨h1, h2, h3⟩
  ·simp only [Prod.mk.injEq] at hx
   obtain ⟨rfl, rfl⟩ := hx
   exact (hs.objs' id _ _ hid).ext ext (by simp [bump])
  ·exact (hs.objs' k _ _ h3).ext ext (by simp [bump, h1])
 ·rintro p q ⟨x, hx⟩ ⟨y, hy⟩ he
  rcases hold _ _ hx with ⟨rfl, hx'⟩ | ⟨h1, h2, h3⟩ <;> rcases hold _ _ hy with ⟨rfl, hy'⟩ | ⟨h4, h5, h6⟩
  ·rfl
  ·simp only [bump, if_true, h4, if_false] at he
   exact absurd (hs.inj id q hlive ⟨_, h6⟩ he).symm h5
  ·simp only [bump, if_true, h1, if_false] at he
   exact absurd (hs.inj p id ⟨_, h3⟩ hlive he) h2
  ·simp only [bump, h1, h4, if_false] at he
   exact hs.inj p q ⟨_, h3⟩ ⟨_, h6⟩ he
 ·rintro p ⟨x, hx⟩
  rcases hold _ _ hx with ⟨rfl, hx'⟩ | ⟨h1, h2, h3⟩
  ·simp only [bump, if_true]; exact hs.own id hlive
  ·simp only [bump, h1, if_false]; exact hs.own p ⟨_, h3⟩
def FlatR (β : Nat → Nat) (ok : Bool → Nat → Prop) (w : World) (n sz : Nat) (rows : List Row) (cs : List Value) : Prop :=
 (∀ r ∈ rows, r.length = sz) ∧ cs.length = rows.length * sz ∧ (∀ c ∈ cs, c.oneCell' = true) ∧
  ∀ (i : Nat) (r : Row), rows[i]? = some r → ∀ (j : Nat) (c : AVal), r[j]? = some c → R β ok w n c (cs[i * sz + j]?.getD undef)
theorem HSim.splice (hs : HSim base w0 β fz H w) {id sz p : Nat} {rows ys : List Row} {vs : List Value} (hid : H[id]? = some (some (sz, rows))) {cur : Array Value} {e : TypeId}
  (hcs : w.heap[β id]? = some (.cells cur e (0, 0))) (hp : p ≤ rows.length) (hf : FlatR β (okOf base fz) w H.length sz ys vs) (hfit : (p + ys.length) * sz ≤ cur.size) :
  HSim base w0 β fz (H.set id (some (sz, rows.take p ++ ys ++ rows.drop (p + ys.length)))) (w.setRow (β id) (cur.toList.take (p * sz) ++ vs ++ cur.toList.drop (p * sz + vs.length)).toArray) ∧
  Ext H.length β fz w (H.set id (some (sz, rows.take p ++ ys ++ rows.drop (p + ys.length)))).length β fz (w.setRow (β id) (cur.toList.take (p * sz) ++ vs ++ cur.toList.drop (p * sz + vs.length)).toArray) := by
 obtain ⟨f1, f2, f3, f4⟩ := hf
 obtain ⟨_, cur0, e0, g1, g2, g3, g4, g5⟩ := hs.cells1 hid hcs
 rw [hcs] at g1
 simp only [Option.some.injEq, Obj.cells.injEq, and_true] at g1
 obtain ⟨rfl, rfl⟩ := g1
 have hfit' : p * sz + vs.length ≤ cur.toList.length := by rw [f2, ← Nat.add_mul]; simpa using hfit
 have hsz : (cur.toList.take (p * sz) ++ vs ++ cur.toList.drop (p * sz + vs.length)).toArray.size = cur.size := by simpa using splice_len _ _ _ hfit'
 have hget : ∀ k, (cur.toList.take (p * sz) ++ vs ++ cur.toList.drop (p * sz + vs.length)).toArray[k]? = if p * sz ≤ k ∧ k < p * sz + vs.length then vs[k - p * sz]? else cur[k]? := by
  intro k; rw [List.getElem?_toArray, splice_get _ _ _ hfit']; simp
 refine hs.store hid hcs hsz ?_ ?_ ?_ ?_
 ·intro r hr
  simp only [List.mem_append] at hr
  rcases hr with (hr | hr) | hr
  ·exact g2 r (List.mem_of_mem_take hr)
  ·exact f1 r hr
  ·exact g2 r (List.mem_of_mem_drop hr)
 ·rw [hsz]
  by_cases hh : p + ys.length ≤ rows.length
  ·have : (rows.take p ++ ys ++ rows.drop (p + ys.length)).length = rows.length := splice_len _ _ _ hh
   rw [this]; exact g3
  ·have : (rows.take p ++ ys ++ rows.drop (p + ys.length)).length = p + ys.length := by simp; omega
   rw [this]; exact hfit
 ·intro j c hj
  rw [hget] at hj
  split at hj
  ·exact f3 c (List.mem_of_getElem? hj)
  ·exact g4 j c hj
 ·intro i r hi j c hj
  rw [hget]
  rw [splice_rows _ _ _ hp] at hi
  by_cases h1 : i < p
  ·rw [if_pos h1] at hi
   have hjl : j < sz := by
    have := (List.getElem?_eq_some_iff.1 hj).1
    rw [g2 r (List.mem_of_getElem? hi)] at this; exact this
   have := row_lt h1 hjl
   rw [if_neg (by omega)]
   exact g5 i r hi j c hj
  ·rw [if_neg h1] at hi
   by_cases h2 : i < p + ys.length
   ·rw [if_pos h2] at hi
    have hjl : j < sz := by
     have := (List.getElem?_eq_some_iff.1 hj).1
     rw [f1 r (List.mem_of_getElem? hi)] at this; exact this
    have e1 : i * sz + j - p * sz = (i - p) * sz + j := by
     have : i * sz = (i - p) * sz + p * sz := by rw [← Nat.add_mul]; congr 1; omega
     omega
    have e2 : p * sz ≤ i * sz := Nat.mul_le_mul_right _ (by omega)
    have e3 := row_lt (i := i - p) (n := ys.length) (by omega) hjl
    rw [if_pos (by omega), e1]
    exact f4 (i - p) r hi j c hj
   ·rw [if_neg h2] at hi
    have e2 : (p + ys.length) * sz ≤ i * sz := Nat.mul_le_mul_right _ (by omega)
    rw [Nat.add_mul] at e2
    rw [if_neg (by omega)]
    exact g5 i r hi j c hj
theorem FlatR.take {sz : Nat} {rows : List Row} {cs : List Value} (h : FlatR β ok w n sz rows cs) (k : Nat) : FlatR β ok w n sz (rows.take k) (cs.take ((rows.take k).length * sz)) := by
 obtain ⟨h1, h2, h3, h4⟩ := h
 have hle : (rows.take k).length * sz ≤ rows.length * sz := Nat.mul_le_mul_right _ (by simp; omega)
 refine ⟨fun r hr => h1 r (List.mem_of_mem_take hr), by rw [List.length_take, h2]; omega, fun c hc => h3 c (List.mem_of_mem_take hc), fun i r hi j c hj => ?_⟩
 have hik : i < (rows.take k).length := (List.getElem?_eq_some_iff.1 hi).1
 have hi' : rows[i]? = some r := by
  rw [List.getElem?_take] at hi
  split at hi
  ·exact hi
  ·cases hi
 have hjl : j < sz := by
  have := (List.getElem?_eq_some_iff.1 hj).1
  rw [h1 r (List.mem_of_getElem? hi')] at this; exact this
 rw [List.getElem?_take_of_lt (row_lt hik hjl)]
 exact h4 i r hi' j c hj
theorem FlatR.app {sz : Nat} {rows ys : List Row} {cs ds : List Value} (h : FlatR β ok w n sz rows cs) (k : FlatR β ok w n sz ys ds) : FlatR β ok w n sz (rows ++ ys) (cs ++ ds) := by
 obtain ⟨h1, h2, h3, h4⟩ := h
 obtain ⟨k1, k2, k3, k4⟩ := k
 refine ⟨fun r hr => ?_, by simp [h2, k2, Nat.add_mul], fun c hc => ?_, fun i r hi j c hj => ?_⟩
 ·rcases List.mem_append.1 hr with hr | hr
  ·exact h1 r hr
  ·exact k1 r hr
 ·rcases List.mem_append.1 hc with hc | hc
  ·exact h3 c hc
  ·exact k3 c hc
 ·rw [List.getElem?_append] at hi
  split at hi
  ·rename_i hlt
   have hjl : j < sz := by
    have := (List.getElem?_eq_some_iff.1 hj).1
    rw [h1 r (List.mem_of_getElem? hi)] at this; exact this
   have := row_lt hlt hjl
   rw [List.getElem?_append_left (by omega)]
   exact h4 i r hi j c hj
  ·rename_i hlt
   have e2 : rows.length * sz ≤ i * sz := Nat.mul_le_mul_right _ (by omega)
   rw [List.getElem?_append_right (by omega)]
   have := k4 (i - rows.length) r hi j c hj
   have e : i * sz + j - cs.length = (i - rows.length) * sz + j := by
    have : i * sz = (i - rows.length) * sz + rows.length * sz := by rw [← Nat.add_mul]; congr 1; omega
    omega
   rw [e]; exact this
theorem rows_R (hs : HSim base w0 β fz H w) {sz : Nat} {x : AVal} {xr : List Row} {v : Value} (h : rowsOf H sz x = some xr) (h0 : 0 < sz) (hr : R β (okOf base fz) w H.length x v) :
  ∃ ad cap cs, v = .slice ad xr.length cap ∧ xr.length ≤ cap ∧ FlatR β (okOf base fz) w H.length sz xr cs ∧
   ∀ k, k ≤ xr.length → (Builtin.firstCells sz k v).run P w = .ok (cs.take (k * sz)).toArray w := by
 unfold rowsOf at h
 split at h
 ·rename_i id sz' s len kc
  split at h
  ·rename_i sz'' rows hob
   split at h
   ·rename_i hc
    obtain ⟨rfl, rfl, hsl⟩ := hc
    simp only [Option.some.injEq] at h
    subst h
    obtain ⟨cur, e, g1, g2, g3, g4, g5⟩ := hs.cells hob
    have hlen : ((rows.drop s).take len).length = len := by simp; omega
    have hmul : (s + len) * sz'' ≤ rows.length * sz'' := Nat.mul_le_mul_right _ hsl
    rw [Nat.add_mul] at hmul
    have hcl : ((cur.toList.drop (s * sz'')).take (len * sz'')).length = len * sz'' := by simp; omega
    have hF : FlatR β (okOf base fz) w H.length sz'' ((rows.drop s).take len) ((cur.toList.drop (s * sz'')).take (len * sz'')) := by
     refine ⟨fun r hr => g2 r (List.mem_of_mem_drop (List.mem_of_mem_take hr)), by rw [hcl, hlen], fun c hc => ?_, fun i r hi j c hj => ?_⟩
     ·obtain ⟨k, hk⟩ := List.getElem?_of_mem (List.mem_of_mem_drop (List.mem_of_mem_take hc))
      exact g4 k c (by simpa using hk)
     ·have hil : i < len := by have := (List.getElem?_eq_some_iff.1 hi).1; omega
      rw [List.getElem?_take_of_lt hil, List.getElem?_drop] at hi
      have hjl : j < sz'' := by
       have := (List.getElem?_eq_some_iff.1 hj).1
       rw [g2 r (List.mem_of_getElem? hi)] at this; exact this
      have := g5 (s + i) r hi j c hj
      rw [List.getElem?_take_of_lt (row_lt hil hjl), List.getElem?_drop]
      rw [Nat.add_mul] at this
      simpa [Nat.add_assoc] using this
    cases hr with
    | @osl _ _ _ _ _ _ ad cap hid hl hkc ha =>
     refine ⟨some ad, cap, _, by rw [hlen], by omega, hF, fun k hk => ?_⟩
     rw [hlen] at hk
     have hks : k * sz'' ≤ len * sz'' := Nat.mul_le_mul_right _ hk
     have hlt : ((List.take (len * sz'') (List.drop (s * sz'') cur.toList)).take (k * sz'')).length = k * sz'' := by
      rw [List.length_take, hcl]; omega
     have := run_loadCells_list (P := P) w ad ((List.take (len * sz'') (List.drop (s * sz'') cur.toList)).take (k * sz'')) (fun j u hj => by
      have hjk : j < k * sz'' := by have := (List.getElem?_eq_some_iff.1 hj).1; omega
      rw [List.getElem?_take_of_lt hjk, List.getElem?_take_of_lt (by omega), List.getElem?_drop] at hj
      rcases ha with ha | ⟨ha, _⟩
      ·have h1 : len = 0 := by omega
       have : k = 0 := by omega
       rw [this] at hjk; omega
      ·rw [ha, add_none]
       simpa [World.cell?, g1] using hj)
     rw [hlt] at this
     simpa [Builtin.firstCells] using this
   ·cases h
  ·cases h
 ·rename_i oo sz' rows
  split at h
  ·rename_i hss
   subst hss
   simp only [Option.some.injEq] at h
   subst h
   cases hr with
   | @fsl _ _ _ _ b off cap x' hl hsr hb hc hr =>
    have hdm : ∀ k, k < rows.length * sz' → k / sz' < rows.length ∧ k % sz' < sz' := fun k hk => ⟨by rw [Nat.div_lt_iff_lt_mul h0]; exact hk, Nat.mod_lt _ h0⟩
    have hij : ∀ i j, j < sz' → (i * sz' + j) / sz' = i ∧ (i * sz' + j) % sz' = j := fun i j hj => by
     constructor
     ·rw [Nat.mul_comm, Nat.mul_add_div h0, Nat.div_eq_of_lt hj, Nat.add_zero]
     ·rw [Nat.mul_comm, Nat.mul_add_mod, Nat.mod_eq_of_lt hj]
    have hF : FlatR β (okOf base fz) w H.length sz' rows ((List.range (rows.length * sz')).map fun k => x' (k / sz') (k % sz')) := by
     refine ⟨hsr, by simp, fun c hc' => ?_, fun i r hi j c hj => ?_⟩
     ·simp only [List.mem_map, List.mem_range] at hc'
      obtain ⟨k, hk, rfl⟩ := hc'
      obtain ⟨q1, q2⟩ := hdm k hk
      exact (hc _ _ q1 q2).2
     ·have hil : i < rows.length := (List.getElem?_eq_some_iff.1 hi).1
      have hjl : j < sz' := by
       have := (List.getElem?_eq_some_iff.1 hj).1
       rw [hsr r (List.mem_of_getElem? hi)] at this; exact this
      have hlt := row_lt hil hjl
      have := hr i r hi j c hj
      simp only [List.getElem?_map, List.getElem?_range hlt, Option.map_some, Option.getD_some, (hij i j hjl).1, (hij i j hjl).2]
      exact this.mono (Nat.zero_le _) (fun _ h => absurd h (Nat.not_lt_zero _)) (fun _ _ h => h) (fun _ _ _ => rfl) (Shapes.refl _)
    refine ⟨_, cap, _, rfl, hl, hF, fun k hk => ?_⟩
    have hks : k * sz' ≤ rows.length * sz' := Nat.mul_le_mul_right _ hk
    have hlt : (((List.range (rows.length * sz')).map fun k => x' (k / sz') (k % sz')).take (k * sz')).length = k * sz' := by rw [List.length_take, List.length_map, List.length_range]; omega
    have := run_loadCells_list (P := P) w ⟨b, off, none⟩ (((List.range (rows.length * sz')).map fun k => x' (k / sz') (k % sz')).take (k * sz')) (fun j u hj => by
     have hjk : j < k * sz' := by have := (List.getElem?_eq_some_iff.1 hj).1; omega
     rw [List.getElem?_take_of_lt hjk] at hj
     simp only [List.getElem?_map, List.getElem?_range (show j < rows.length * sz' by omega), Option.map_some, Option.some.injEq] at hj
     subst hj
     obtain ⟨q1, q2⟩ := hdm j (by omega)
     have := (hc _ _ q1 q2).1
     rw [add_none]
     have e : off + j / sz' * sz' + j % sz' = off + j := by
      have := Nat.div_add_mod j sz'
      rw [Nat.mul_comm] at this; omega
     rw [e] at this; exact this)
    rw [hlt] at this
    simpa [Builtin.firstCells] using this
   | @fsl0 _ _ _ ad cap =>
    refine ⟨ad, cap, [], rfl, Nat.zero_le _, ⟨by simp, by simp, by simp, by simp⟩, fun k hk => ?_⟩
    have : k = 0 := by simpa using hk
    subst this
    cases ad <;> simp [Builtin.firstCells, loadCells, loadCellsFrom]
  ·cases h
 ·simp only [Option.some.injEq] at h
  subst h
  cases hr with
  | @esl _ ad =>
   refine ⟨ad, 0, [], rfl, Nat.le_refl _, ⟨by simp, by simp, by simp, by simp⟩, fun k hk => ?_⟩
   have : k = 0 := by simpa using hk
   subst this
   cases ad <;> simp [Builtin.firstCells, loadCells, loadCellsFrom]
 ·simp only [Option.some.injEq] at h
  subst h
  have := hr.v_inv
  subst this
  refine ⟨none, 0, [], rfl, Nat.le_refl _, ⟨by simp, by simp, by simp, by simp⟩, fun k hk => ?_⟩
  have : k = 0 := by simpa using hk
  subst this
  simp [Builtin.firstCells]
 ·cases h
end
end Go.AI
