/- slices.SortFunc of one's own list. -/
import Derived.Test.YtibpipgabcpaoaaGD
import Derived.Shelf.SlSortCmp.NoneTotal
set_option linter.unusedSimpArgs false
set_option linter.unusedVariables false
namespace Go.AI
open Go.RowKit Go.Sort Go.Proofs
section
variable {α : Type} [Inhabited α]
end
theorem mapBlock_setRow {w : World} {blk : Nat} {cs : Array Value} {e : TypeId} {f : Nat × Nat} (h : w.heap[blk]? = some (.cells cs e f)) (g : Array Value → Array Value) : mapBlock w blk g = w.setRow blk (g cs) := by
 unfold mapBlock World.setRow
 congr 1
 apply Array.ext_getElem?
 intro i
 simp only [Array.getElem?_modify]
 by_cases hi : blk = i
 ·subst hi
  simp [h, onCells]
 ·simp [hi]
structure SortOk {α : Type} [Inhabited α] (P : Program) (f g sz : Nat) (enc : α → List Value) (cf : α → α → Int) : Prop where
 body : ∃ fn c, P.funcs[f]? = some fn ∧ fn.body = some c
 sorts : ∀ (blk off cap : Nat) (d : Array α) (w : World), CmpLays P g #[] enc sz cf blk off d.size w → HoldsK enc sz w blk off d → blk < w.heap.size → d.size < 4611686018427387904 →
  Calls P f #[.slice (some ⟨blk, off, none⟩) d.size cap, .func (.func g) #[] #[]] w fun e w' => e = .returned (.tuple #[]) ∧ ∃ n os, w' = sortWorldK enc sz w blk off n (pdq (ltOf cf) d 0 d.size (Lib.bitLen d.size) true true) os
 none : ∀ (p : Option Addr) (cap : Nat) (fv : Value) (w : World), Calls P f #[.slice p 0 cap, fv] w fun e w' => e = .returned (.tuple #[]) ∧ w' = w
theorem mapM_map {α β : Type} {dec : β → Option α} {f : α → β} (h : ∀ r e, dec r = some e → r = f e) : ∀ (rows : List β) (l : List α), rows.mapM dec = some l → rows = l.map f
 | [], l, hl => by simp at hl; subst hl; rfl
 | r :: rows, l, hl => by
  simp only [List.mapM_cons, Option.bind_eq_bind, Option.bind_eq_some_iff, Option.pure_def, Option.some.injEq] at hl
  obtain ⟨a, ha, l', hl', rfl⟩ := hl
  rw [List.map_cons, ← h r a ha, ← mapM_map h rows l' hl']
set_option maxHeartbeats 1000000 in
theorem perm_core {base : Nat} {w0 : World} {β : Nat → Nat} {fz : Nat → Prop} {H : Heap} {w : World} (hsim : HSim base w0 β fz H w) {α : Type} [Inhabited α] {enc : α → List Value} {id sz n kc cap : Nat} {rows : List Row} {a : Addr} {l : List α}
  (h0 : 0 < sz) (hk : ∀ x, (enc x).length = sz) (h1 : ∀ x, ∀ v ∈ enc x, v.oneCell' = true) (hx : R β (okOf base fz) w H.length (.osl id sz 0 n kc) (.slice (some a) n cap)) (hob : obj H id = some (sz, rows)) (hn : n ≤ rows.length) (hn0 : n ≠ 0)
  (hrows : rows.take n = l.map fun e => (enc e).map .v) :
  a = ⟨β id, 0, none⟩ ∧ l.length = n ∧ HoldsK enc sz w (β id) 0 l.toArray ∧ β id < w.heap.size ∧ ∀ (L : List α), L.length = n → ∀ m' os, ∃ β' fz', HSim base w0 β' fz' (H.set id (some (sz, L.map (fun e => (enc e).map .v) ++ rows.drop n))) (sortWorldK enc sz w (β id) 0 m' L.toArray os) ∧
   Ext H.length β fz w (H.set id (some (sz, L.map (fun e => (enc e).map AVal.v) ++ rows.drop n))).length β' fz' (sortWorldK enc sz w (β id) 0 m' L.toArray os) := by
 cases hx with
 | osl hid hl hkc ha =>
  have hll : l.length = n := by
   have := congrArg List.length hrows
   simp at this; omega
  obtain ⟨hob1, hsz0⟩ := obj_live hob
  obtain ⟨cs, e, g1, g2, g3, g4, g5⟩ := hsim.cells hob
  have hlive : Live H id := ⟨_, hob1⟩
  have hb0 := hsim.own id hlive
  have ha' : a = ⟨β id, 0, none⟩ := by
   rcases ha with h | ⟨h, _⟩
   ·omega
   ·simpa using h
  subst ha'
  -- what the cells hold
  have hcell : ∀ i j, i < n → j < sz → cs[i * sz + j]? = some ((enc l[i]!)[j]!) := by
   intro i j hi hj
   have hri : rows[i]? = some ((enc l[i]!).map .v) := by
    have : (rows.take n)[i]? = (l.map fun e => (enc e).map AVal.v)[i]? := by rw [hrows]
    rw [List.getElem?_take_of_lt hi, List.getElem?_map, List.getElem?_eq_getElem (l := l) (by omega), Option.map_some] at this
    rw [this, getElem!_pos l i (by omega)]
   have hjl : j < (enc l[i]!).length := by rw [hk]; exact hj
   have := g5 i _ hri j (.v (enc l[i]!)[j]) (by rw [List.getElem?_map, List.getElem?_eq_getElem hjl]; rfl)
   have hin : i * sz + j < cs.size := by
    have : (i + 1) * sz ≤ rows.length * sz := Nat.mul_le_mul_right _ (by omega)
    rw [Nat.add_mul, Nat.one_mul] at this
    omega
   have h2 := this.v_inv
   rw [Array.getElem?_eq_getElem hin, Option.getD_some] at h2
   rw [Array.getElem?_eq_getElem hin, h2, getElem!_pos _ j hjl]
  have hH : HoldsK enc sz w (β id) 0 l.toArray := by
   intro t ht
   rw [size_flatK] at ht
   have ht2 : t < l.toArray.size * sz := ht
   rw [get_flatK _ _ _ _ ht]
   have hq : t / sz < n := by
    rw [← hll]
    exact Nat.div_lt_of_lt_mul (by rw [Nat.mul_comm]; simpa using ht2)
   have hr3 : t % sz < sz := Nat.mod_lt _ h0
   have := hcell _ _ hq hr3
   rw [Nat.div_add_mod' t sz] at this
   refine ⟨?_, by simp [World.frozen?, g1]⟩
   simp only [World.cell?, g1, Nat.zero_add]
   rw [this]
   simp
  refine ⟨rfl, hll, hH, hsim.blt hlive, fun L hL m' os => ?_⟩
  obtain ⟨D, hD⟩ : ∃ D, D = L.toArray := ⟨_, rfl⟩
  have hDl : L = D.toList := by rw [hD]
  have hDs : D.size = n := by rw [hD]; simpa using hL
  rw [← hD]
  -- the new cells
  obtain ⟨cs', hcs'⟩ : ∃ cs', cs' = putCells _root_.id 0 (flatK enc sz D) cs := ⟨_, rfl⟩
  have hw : sortWorldK enc sz w (β id) 0 m' D os = grow (Sort.ahead (w.setRow (β id) cs') m') os := by
   unfold sortWorldK putRowK putRow
   have : mapBlock (Sort.ahead w m') (β id) (putCells _root_.id 0 (flatK enc sz D)) = Sort.ahead (mapBlock w (β id) (putCells _root_.id 0 (flatK enc sz D))) m' := rfl
   rw [this, mapBlock_setRow g1]
   subst hcs'
   rfl
  have hsz' : cs'.size = cs.size := by rw [hcs']; simp [putCells]
  have hfit : n * sz ≤ cs.size := Nat.le_trans (Nat.mul_le_mul_right _ hn) g3
  have hnew : ∀ t, cs'[t]? = if t < n * sz then some ((enc D[t / sz]!)[t % sz]!) else cs[t]? := by
   intro t
   rw [hcs']
   simp only [putCells, Array.getElem?_mapIdx, size_flatK, hDs, Nat.zero_le, true_and, Nat.zero_add, Nat.sub_zero]
   by_cases ht : t < n * sz
   ·rw [if_pos ht, Array.getElem?_eq_getElem (by omega), Option.map_some, if_pos ht, get_flatK _ _ _ _ (by rw [hDs]; exact ht)]
    rfl
   ·rw [if_neg ht]
    cases cs[t]? with
    | none => rfl
    | some z => simp [ht]
  obtain ⟨q1, q2⟩ := hsim.store (rows' := L.map (fun e => (enc e).map AVal.v) ++ rows.drop n) hob1 g1 hsz' (by
    intro r hr
    rcases List.mem_append.1 hr with hr | hr
    ·simp only [List.mem_map] at hr
     obtain ⟨z, _, rfl⟩ := hr
     simp [hk]
    ·exact g2 r (List.mem_of_mem_drop hr))
   (by
    rw [hsz']
    refine Nat.le_trans (Nat.mul_le_mul_right _ ?_) g3
    simp [hDl, hDs]; omega)
   (by
    intro j c hj
    rw [hnew] at hj
    split at hj
    ·rename_i ht
     simp only [Option.some.injEq] at hj
     subst hj
     have hr3 : j % sz < sz := Nat.mod_lt _ h0
     rw [getElem!_pos _ _ (by rw [hk]; exact hr3)]
     exact h1 _ _ (List.getElem_mem _)
    ·exact g4 j c hj)
   (by
    intro i r hi j a hj
    by_cases hin : i < n
    ·have hDl' : (L.map (fun e => (enc e).map AVal.v)).length = n := by simp [hDl, hDs]
     rw [List.getElem?_append_left (by omega), List.getElem?_map, hDl, List.getElem?_eq_getElem (by simpa [hDs] using hin), Option.map_some, Option.some.injEq] at hi
     subst hi
     rw [List.getElem?_map, Option.map_eq_some_iff] at hj
     obtain ⟨u, hu, rfl⟩ := hj
     have hjl := (List.getElem?_eq_some_iff.1 hu).1
     have hjs : j < sz := by rw [hk] at hjl; exact hjl
     have hlt : i * sz + j < n * sz := by
      have : (i + 1) * sz ≤ n * sz := Nat.mul_le_mul_right _ hin
      rw [Nat.add_mul, Nat.one_mul] at this
      omega
     have e1 : (i * sz + j) / sz = i := by
      rw [Nat.mul_comm, Nat.mul_add_div h0, Nat.div_eq_of_lt hjs]; rfl
     have e2 : (i * sz + j) % sz = j := by
      rw [Nat.mul_comm, Nat.mul_add_mod, Nat.mod_eq_of_lt hjs]
     rw [hnew, if_pos hlt, e1, e2, Option.getD_some]
     have hDi : D[i]! = D.toList[i]'(by simpa [hDs] using hin) := by
      rw [getElem!_pos D i (by omega)]; simp
     rw [hDi, getElem!_pos _ j hjl, (List.getElem?_eq_some_iff.1 hu).2]
     exact .v
    ·have hDl' : (L.map (fun e => (enc e).map AVal.v)).length = n := by simp [hDl, hDs]
     rw [List.getElem?_append_right (by omega), List.getElem?_drop, hDl', show n + (i - n) = i by omega] at hi
     have hge : ¬ i * sz + j < n * sz := by
      have : n * sz ≤ i * sz := Nat.mul_le_mul_right _ (by omega)
      omega
     rw [hnew, if_neg hge]
     exact g5 i r hi j a hj)
  have hbel : Below (w.setRow (β id) cs').heap.size (w.setRow (β id) cs') (grow (Sort.ahead (w.setRow (β id) cs') m') os) :=
   ⟨rfl, rfl, rfl, by simp [grow, Sort.ahead], fun k hk => by simp only [grow, Sort.ahead]; rw [Array.getElem?_append_left hk], by simp [grow, Sort.ahead]⟩
  obtain ⟨q3, q4⟩ := q1.called hbel
  rw [hw]
  exact ⟨β, _, q3, q2.trans q4⟩
/-! slices.Sort of integers -/
def sortZ (l : List Int) : List Int := l.mergeSort fun x y => decide (x ≤ y)
theorem sortZ_perm (l : List Int) : (sortZ l).Perm l := List.mergeSort_perm _ _
theorem sortZ_len (l : List Int) : (sortZ l).length = l.length := (sortZ_perm l).length_eq
theorem sortZ_sorted (l : List Int) : (sortZ l).Pairwise (· ≤ ·) := by
 have := List.pairwise_mergeSort (le := fun x y : Int => decide (x ≤ y)) (fun a b c h1 h2 => by simp at *; omega) (fun a b => by simp; omega) l
 exact this.imp (by simp)
def encZ (z : Int) : List Value := [.int .i64 z]
structure SortZOk (P : Program) (f : Nat) : Prop where
 body : ∃ fn c, P.funcs[f]? = some fn ∧ fn.body = some c
 sorts : ∀ (blk off cap : Nat) (zs : List Int) (w : World), Holds (Value.int .i64) w blk off zs.toArray → blk < w.heap.size → zs.length < 4611686018427387904 →
  Calls P f #[.slice (some ⟨blk, off, none⟩) zs.length cap] w fun e w' => e = .returned (.tuple #[]) ∧ ∃ n os, w' = grow (putRow (Value.int .i64) (Sort.ahead w n) blk off (zs.mergeSort fun x y => decide (x ≤ y)).toArray) os
 none : ∀ (p : Option Addr) (cap : Nat) (w : World), Calls P f #[.slice p 0 cap] w fun e w' => e = .returned (.tuple #[]) ∧ w' = w
def sortZI : Row → Heap → Option (AVal × Heap)
 | [.osl id sz1 0 n kc], H =>
  match obj H id with
  | some (sz3, rows) =>
   if sz1 = 1 ∧ sz3 = 1 ∧ n ≤ rows.length ∧ n ≤ 1048576 then
    (if n = 0 then some (.v (.tuple #[]), H) else
    match (rows.take n).mapM (irowDec .i64) with
    | some l => some (.v (.tuple #[]), H.set id (some (1, (sortZ l).map (irow .i64) ++ rows.drop n)))
    | none => none)
   else none
  | none => none
 | [.esl], H => some (.v (.tuple #[]), H)
 | [.v (.slice none 0 0)], H => some (.v (.tuple #[]), H)
 | _, _ => none
theorem flatK_Z (d : Array Int) (t : Nat) (h : t < d.size) : (flatK encZ 1 d)[t]! = .int .i64 d[t]! := by
 rw [get_flatK _ _ _ _ (by omega)]
 simp [encZ, Nat.mod_one]
theorem holds_Z {w : World} {blk off : Nat} {d : Array Int} (h : HoldsK encZ 1 w blk off d) : Holds (Value.int .i64) w blk off d := by
 intro j hj
 have := h j (by rw [size_flatK]; omega)
 rwa [flatK_Z d j hj] at this
theorem putRow_Z (w : World) (blk off : Nat) (d : Array Int) : putRow (Value.int .i64) w blk off d = putRowK encZ 1 w blk off d := by
 unfold putRowK putRow
 congr 1
 funext c
 unfold putCells
 apply Array.ext_getElem?
 intro i
 simp only [Array.getElem?_mapIdx, size_flatK, Nat.mul_one]
 cases c[i]? with
 | none => rfl
 | some z =>
  simp only [Option.map_some]
  by_cases h : off ≤ i ∧ i < off + d.size
  ·rw [if_pos h, if_pos h, flatK_Z _ _ (by omega)]; rfl
  ·rw [if_neg h, if_neg h]
set_option maxHeartbeats 1000000 in
theorem sortZ_inl {P : Program} {f : Nat} (hs : SortZOk P f) : InlOk P f sortZI := by
 intro args H r H' hr base w0 β fz w vals hsim hargs
 obtain ⟨fn, c, hf, hb⟩ := hs.body
 have triv : ∀ p cap, vals = #[.slice p 0 cap] → r = .v (.tuple #[]) → H' = H → CallsX P f vals w fun e w' => ∃ v β' fz', e = .returned v ∧ HSim base w0 β' fz' H' w' ∧ Ext H.length β fz w H'.length β' fz' w' ∧ R β' (okOf base fz') w' H'.length r v := by
  rintro p cap rfl rfl rfl
  refine .of hf hb ((hs.none p cap w).mono ?_)
  rintro e w' ⟨rfl, rfl⟩
  exact ⟨_, β, fz, rfl, hsim, Ext.refl _ _ _ _, .v⟩
 have one : ∀ a, args = [a] → ∃ x, vals = #[x] ∧ R β (okOf base fz) w H.length a x := by
  rintro a rfl
  obtain ⟨hl, hR⟩ := hargs
  obtain ⟨vs⟩ := vals
  match vs, hl with
  | [x], _ =>
   refine ⟨x, rfl, ?_⟩
   simpa using hR 0 a rfl
 unfold sortZI at hr
 split at hr
 ·rename_i id sz1 n kc
  obtain ⟨x, hv, hx⟩ := one _ rfl
  split at hr
  ·rename_i sz3 rows hob
   split at hr
   ·rename_i hc
    obtain ⟨e1, e2, hn, hn2⟩ := hc
    subst e1 e2
    have hx0 := hx
    cases hx with
    | osl hid hl hkc ha =>
     rename_i a cap
     split at hr
     ·rename_i hn0
      subst hn0
      simp only [Option.some.injEq, Prod.mk.injEq] at hr
      exact triv _ _ hv hr.1.symm hr.2.symm
     ·rename_i hn0
      split at hr
      ·rename_i l hl3
       simp only [Option.some.injEq, Prod.mk.injEq] at hr
       obtain ⟨rfl, rfl⟩ := hr
       subst hv
       obtain ⟨rfl, hll, hH, hblt, hend⟩ := perm_core (enc := encZ) (sz := 1) hsim (by decide) (fun _ => rfl) (fun x v hv => by simp [encZ] at hv; subst hv; rfl) hx0 hob hn hn0 (mapM_map (fun r e h => by
        unfold irowDec at h
        split at h
        ·split at h
         ·rename_i hk; simp at h; subst h hk; rfl
         ·cases h
        ·cases h) _ _ hl3)
       have hlt : l.length < 4611686018427387904 := by rw [hll]; omega
       have hcall := hs.sorts (β id) 0 cap l w (holds_Z hH) hblt hlt
       rw [hll] at hcall
       refine .of hf hb (hcall.mono ?_)
       rintro e' w' ⟨rfl, m', os, rfl⟩
       obtain ⟨β', fz', q1, q2⟩ := hend (sortZ l) (by rw [sortZ_len, hll]) m' os
       unfold sortWorldK at q1 q2
       rw [putRow_Z]
       exact ⟨_, β', fz', rfl, q1, q2, .v⟩
      ·cases hr
   ·cases hr
  ·cases hr
 ·obtain ⟨x, hv, hx⟩ := one _ rfl
  simp only [Option.some.injEq, Prod.mk.injEq] at hr
  cases hx with
  | esl => exact triv _ _ hv hr.1.symm hr.2.symm
 ·obtain ⟨x, hv, hx⟩ := one _ rfl
  simp only [Option.some.injEq, Prod.mk.injEq] at hr
  cases hx with
  | v => exact triv _ _ hv hr.1.symm hr.2.symm
 ·cases hr
end Go.AI
