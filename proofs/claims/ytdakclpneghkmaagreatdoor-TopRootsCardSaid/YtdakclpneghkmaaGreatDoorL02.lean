/- Each step of the interpreter is true of the model: maps. -/
import Derived.Test.YtdakclpneghkmaaGreatDoorL01
import Derived.MapKept
import Derived.Laws.StructEq
namespace Go.AI
set_option linter.unusedSectionVars false
variable [Sym]
set_option linter.unusedSimpArgs false
set_option linter.unusedVariables false
open Go.RowKit
section
variable {base : Nat} {w0 : World} {β : Nat → Nat} {fz : Nat → Prop} {e' : AEv} {H H' : Heap} {a : Act} {w : World} {P : Program} {C : Orc} {o : Oper} {av : AVal} {n : Nat} {ok : Bool → Nat → Prop}
def setMap (w : World) (r : Nat) (es : Array MapEntry) (clock : Nat) : World := { w with heap := w.heap.setIfInBounds r (.map es clock) }
theorem setMap_self {r : Nat} {es : Array MapEntry} {clock : Nat} (h : r < w.heap.size) : (setMap w r es clock).heap[r]? = some (.map es clock) := by
 simp [setMap, h]
theorem setMap_other {r k : Nat} {es : Array MapEntry} {clock : Nat} (h : k ≠ r) : (setMap w r es clock).heap[k]? = w.heap[k]? := by
 simp only [setMap]
 rw [Array.getElem?_setIfInBounds_ne (fun e => h e.symm)]
theorem HSim.setM (hs : HSim base w0 β fz H w) {id : Nat} {rows rows' rs' : List Row} (hid : H[id]? = some (some (0, rows))) (hmap : ∃ es0 c0, w.heap[β id]? = some (.map es0 c0)) (hp : rs'.Perm rows') {es : Array MapEntry} {clock : Nat} (hsz : es.size = rs'.length) (hbn : Born es.toList clock)
  (hr : ∀ (i : Nat) (r : Row), rs'[i]? = some r → ∃ (en : MapEntry) (a : AVal), es[i]? = some en ∧ r = [.v en.key, a] ∧ R β (okOf base fz) w H.length a en.val) :
  HSim base w0 β fz (H.set id (some (0, rows'))) (setMap w (β id) es clock) ∧ Ext H.length β fz w (H.set id (some (0, rows'))).length β fz (setMap w (β id) es clock) := by
 have hlive : Live H id := ⟨_, hid⟩
 have hown := hs.own id hlive
 have hb := hs.blt hlive
 obtain ⟨es0, c0, hmap⟩ := hmap
 have shp : Shapes w (setMap w (β id) es clock) := by
  intro b cs e f h
  have hne : b ≠ β id := fun q => by rw [q, hmap] at h; cases h
  exact ⟨cs, f, by rw [setMap_other hne]; exact h, rfl⟩
 have ext : Ext H.length β fz w (H.set id (some (0, rows'))).length β fz (setMap w (β id) es clock) :=
  ⟨by simp, fun _ _ => rfl, fun _ h => h, fun b hb => setMap_other (fun e => hown.2 (e ▸ hb)), shp⟩
 refine ⟨⟨?_, ?_, ?_, ?_, ?_, hs.base⟩, ext⟩
 ·intro k sz' rws hk
  by_cases hki : k = id
  ·subst hki
   have hlt : k < H.length := (List.getElem?_eq_some_iff.1 hid).1
   rw [List.getElem?_set_self hlt] at hk
   simp only [Option.some.injEq, Prod.mk.injEq] at hk
   obtain ⟨rfl, rfl⟩ := hk
   rw [OSim, if_pos rfl]
   refine .inl ⟨rs', hp, es, clock, setMap_self hb, hsz, hbn, fun i r hi => ?_⟩
   obtain ⟨en, x, h1, h2, h3⟩ := hr i r hi
   exact ⟨en, x, h1, h2, h3.ext ext⟩
  ·rw [List.getElem?_set_ne (by omega)] at hk
   have hne : β k ≠ β id := fun he => hki (hs.inj k id ⟨_, hk⟩ hlive he)
   exact (hs.objs' k sz' rws hk).ext ext (setMap_other hne)
 ·exact fun a b ha hb => hs.inj a b (ha.set hlive) (hb.set hlive)
 ·exact fun k hk => hs.own k (hk.set hlive)
 ·exact fun b hb => by have := hs.fzlt b hb; simpa [setMap] using this
 ·exact hs.below.trans ⟨rfl, rfl, rfl, by simp [setMap], fun k hk => setMap_other (by omega), Nat.le_refl _⟩
theorem HSim.allocM (hs : HSim base w0 β fz H w) : HSim base w0 (bump β H.length w.heap.size) fz (H ++ [some (0, [])]) (w.alloc (.map #[] 0)) ∧ Ext H.length β fz w (H ++ [some (0, ([] : List Row))]).length (bump β H.length w.heap.size) fz (w.alloc (.map #[] 0)) := by
 have hbl := Nat.le_trans hs.base hs.below.size
 have ext : Ext H.length β fz w (H ++ [some (0, ([] : List Row))]).length (bump β H.length w.heap.size) fz (w.alloc (.map #[] 0)) :=
  ⟨by simp, fun id hi => by simp [bump]; omega, fun _ h => h, fun b hb => Below.heap_alloc w _ b (hs.fzlt b hb), Shapes.alloc w _⟩
 have hold : ∀ k x, (H ++ [some (0, ([] : List Row))])[k]? = some x → k ≠ H.length → H[k]? = some x := by
  intro k x hk hne
  rw [List.getElem?_append] at hk
  split at hk
  ·exact hk
  ·have : k - H.length ≠ 0 := by omega
   simp [this] at hk
 have hlive : ∀ k, Live (H ++ [some (0, ([] : List Row))]) k → k ≠ H.length → Live H k := fun k ⟨x, hx⟩ hne => ⟨x, hold k _ hx hne⟩
 refine ⟨⟨?_, ?_, ?_, ?_, hs.below.alloc hbl _, hs.base⟩, ext⟩
 ·intro k sz' rws hk
  by_cases hki : k = H.length
  ·subst hki
   have : (H ++ [some (0, ([] : List Row))])[H.length]? = some (some (0, [])) := by simp
   rw [this] at hk
   simp only [Option.some.injEq, Prod.mk.injEq] at hk
   obtain ⟨rfl, rfl⟩ := hk
   rw [OSim, if_pos rfl]
   refine .inl ⟨[], .refl _, #[], 0, ?_, rfl, ⟨by simp, by simp⟩, fun i r hi => by simp at hi⟩
   simp only [bump, if_true]
   show (w.heap.push _)[w.heap.size]? = _
   simp
  ·have hk' := hold k _ hk hki
   refine (hs.objs' k sz' rws hk').ext ext ?_
   simp only [bump, hki, if_false]
   rw [Below.heap_alloc w _ (β k) (hs.blt ⟨_, hk'⟩)]
 ·intro a b ha hb he
  by_cases h1 : a = H.length <;> by_cases h2 : b = H.length
  ·omega
  ·have := hs.blt (hlive b hb h2)
   simp [bump, h1, h2] at he; omega
  ·have := hs.blt (hlive a ha h1)
   simp [bump, h1, h2] at he; omega
  ·simp only [bump, h1, h2, if_false] at he
   exact hs.inj a b (hlive a ha h1) (hlive b hb h2) he
 ·intro k hk
  by_cases h1 : k = H.length
  ·simp only [bump, h1, if_true]
   exact ⟨hbl, fun hf => Nat.lt_irrefl _ (hs.fzlt _ hf)⟩
  ·simp only [bump, h1, if_false]
   exact hs.own k (hlive k hk h1)
 ·exact fun b hb => by have := hs.fzlt b hb; show b < (w.heap.push _).size; simp; omega
theorem does_makeMap {t : TypeId} (hop : o.op = .makeMap t none) (hs : SimE base w0 β fz e' H a w) : Does P o a w base w0 β fz H (.ptr H.length 0 0 0) (H ++ [some (0, [])]) := by
 obtain ⟨h1, h2⟩ := hs.heap.allocM
 refine does_val (w' := w.alloc (.map #[] 0)) (x := .map (some w.heap.size)) ?_ h1 h2 ?_
 ·simp only [execOp, hop]
  simp [Instr.makeMap, newObj, Sem.run]
 ·have := R.mp (β := bump β H.length w.heap.size) (ok := okOf base fz) (w := w.alloc (.map #[] 0)) (n := (H ++ [some (0, ([] : List Row))]).length) (id := H.length) (by simp)
  simpa [bump] using this
theorem keyEq_run {key : TypeId} {k k' : Value} {b : Bool} (h : keyEq P key k k' = some b) : (Op.equal key k k').run P w = .ok b w := by
 unfold keyEq at h
 split at h
 ·rename_i xs ys
  split at h
  ·rename_i ts hts
   unfold eqOkT at hts
   split at hts
   ·cases hts
   ·rename_i hg
    exact eq_agg hts h w (Classical.byContradiction fun e => hg (.inr e))
  ·cases h
 ·rename_i x a y
  split at h
  ·rename_i kd hu
   split at h
   ·rename_i hk
    subst hk
    cases h
    exact run_equalIn_int w 9999 key _ kd _ _ hu
   ·cases h
  ·cases h
 ·cases h
theorem findR_perm {key : TypeId} {k : Value} {rs rows : List Row} (h : rs.Perm rows) : findR P key k rs = findR P key k rows := by
 induction h with
 | nil => rfl
 | cons x _ ih => match x with
  | [] => rfl
  | [.v k', a] => simp only [findR, ih]
  | [.junk, _] | [.anyb, _] | [.anyi _, _] | [.str _, _] | [.ptr .., _] | [.fptr .., _] | [.osl .., _] | [.xsl .., _] | [.fsl .., _] | [.esl, _] | [.agg .., _] | [.tup .., _] | [.fn .., _] | [.when .., _] | [.ifc .., _] | [.meth .., _] => rfl
  | [_] => simp [findR]
  | _ :: _ :: _ :: _ => simp [findR]
 | swap x y l =>
  by_cases hx : ∃ k' a, x = [.v k', a]
  ·obtain ⟨k1, a1, rfl⟩ := hx
   by_cases hy : ∃ k' a, y = [.v k', a]
   ·obtain ⟨k2, a2, rfl⟩ := hy
    simp only [findR]
    rcases keyEq P key k k1 with _ | _ | _ <;> rcases keyEq P key k k2 with _ | _ | _ <;> rcases findR P key k l with _ | _ | _ <;> rfl
   ·have e : ∀ l', findR P key k (y :: l') = none := fun l' => by
     unfold findR; split <;> (try rfl) <;> (rename_i h; cases h) <;> (rename_i hh; exact absurd ⟨_, _, rfl⟩ hy)
    rw [e]; simp only [findR, e]
    rcases keyEq P key k k1 with _ | _ | _ <;> rfl
  ·have e : ∀ l', findR P key k (x :: l') = none := fun l' => by
    unfold findR; split <;> (try rfl) <;> (rename_i h; cases h) <;> (rename_i hh; exact absurd ⟨_, _, rfl⟩ hx)
   rw [e]
   by_cases hy : ∃ k' a, y = [.v k', a]
   ·obtain ⟨k2, a2, rfl⟩ := hy
    simp only [findR, e]
    rcases keyEq P key k k2 with _ | _ | _ <;> rfl
   ·unfold findR; split <;> (try rfl) <;> (rename_i h; cases h) <;> (rename_i hh; exact absurd ⟨_, _, rfl⟩ hy)
 | trans _ _ h1 h2 => exact h1.trans h2
theorem find_run {key : TypeId} {k : Value} : ∀ {rows : List Row} {es : List MapEntry} {r : Option AVal}, findR P key k rows = some r → es.length = rows.length →
  (∀ (i : Nat) (r : Row), rows[i]? = some r → ∃ (en : MapEntry) (a : AVal), es[i]? = some en ∧ r = [.v en.key, a] ∧ R β ok w n a en.val) → ∀ (j : Nat),
  (∃ i en a, (Instr.findAsking key k es j).run P w = .ok (some (j + i, en.val)) w ∧ r = some a ∧ es[i]? = some en ∧ R β ok w n a en.val) ∨ ((Instr.findAsking key k es j).run P w = .ok none w ∧ r = none) := by
 intro rows
 induction rows with
 | nil =>
  intro es r h hl hr j
  cases es with
  | nil =>
   simp only [findR, Option.some.injEq] at h
   exact .inr ⟨by simp [Instr.findAsking], h.symm⟩
  | cons e es => simp at hl
 | cons row rows ih =>
  intro es r h hl hr j
  cases es with
  | nil => simp at hl
  | cons e es =>
   obtain ⟨en, a, h1, rfl, h3⟩ := hr 0 row rfl
   simp only [List.getElem?_cons_zero, Option.some.injEq] at h1
   subst h1
   simp only [findR] at h
   split at h
   ·rename_i hq _
    simp only [Option.some.injEq] at h
    refine .inl ⟨0, e, a, ?_, h.symm, rfl, h3⟩
    simp [Instr.findAsking, keyEq_run hq]
   ·rename_i hq
    rcases ih h (by simpa using hl) (fun i r hi => by simpa using hr (i + 1) r (by simpa using hi)) (j + 1) with ⟨i, en, x, g1, g2, g3, g4⟩ | ⟨g1, g2⟩
    ·refine .inl ⟨i + 1, en, x, ?_, g2, by simpa using g3, g4⟩
     simp only [Instr.findAsking, Sem.run_bind, keyEq_run hq]
     simpa [show j + (i + 1) = j + 1 + i by omega] using g1
    ·refine .inr ⟨?_, g2⟩
     simp only [Instr.findAsking, Sem.run_bind, keyEq_run hq]
     simpa using g1
   ·cases h
theorem same_now {key : TypeId} {d : TypeDesc} {k k' : Value} (hu : P.underlying key = some d) {b : Bool} (hb : Instr.sameNow d k k' = some b) : (Op.equal key k k').run P w = .ok b w := by
 cases d with
 | int kd =>
  cases k <;> cases k' <;> simp [Instr.sameNow] at hb
  obtain ⟨rfl, rfl⟩ := hb
  exact run_equalIn_int w 9999 key _ kd _ _ hu
 | string =>
  cases k <;> cases k' <;> simp [Instr.sameNow] at hb
  rename_i a b
  subst hb
  have := run_equalIn_string w 9999 key a b hu
  have e : (a == b) = (a.toList == b.toList) := by
   rw [Bool.eq_iff_iff, MapKept.bytes_beq]
   constructor
   ·rintro rfl; simp
   ·intro h; simp only [ByteArray.toList_eq, beq_iff_eq] at h; exact ByteArray.ext (Array.toList_inj.mp h)
  rw [e]
  exact this
 | bool =>
  cases k <;> cases k' <;> simp [Instr.sameNow] at hb
  subst hb
  exact run_equalIn_bool w 9999 key _ _ hu
 | _ => simp [Instr.sameNow] at hb
theorem find_now {key : TypeId} {d : TypeDesc} {k : Value} (hu : P.underlying key = some d) : ∀ {rows : List Row} {es : List MapEntry} {q : Option AVal}, findR P key k rows = some q → es.length = rows.length →
  (∀ (i : Nat) (r : Row), rows[i]? = some r → ∃ (en : MapEntry) (a : AVal), es[i]? = some en ∧ r = [.v en.key, a]) → ∀ (j : Nat) r, Instr.findNow d k es j = some r → (Instr.findAsking key k es j).run P w = .ok r w := by
 intro rows
 induction rows with
 | nil =>
  intro es q h hl hr j r hn
  cases es with
  | nil => simp only [Instr.findNow, Option.some.injEq] at hn; subst hn; simp [Instr.findAsking]
  | cons e es => simp at hl
 | cons row rows ih =>
  intro es q h hl hr j r hn
  cases es with
  | nil => simp at hl
  | cons e es =>
   obtain ⟨en, a, h1, rfl⟩ := hr 0 row rfl
   simp only [List.getElem?_cons_zero, Option.some.injEq] at h1
   subst h1
   simp only [Instr.findNow] at hn
   simp only [Instr.findAsking, Sem.run_bind]
   split at hn
   ·rename_i hb
    simp only [Option.some.injEq] at hn
    subst hn
    simp [same_now hu hb]
   ·rename_i hb
    simp only [same_now hu hb]
    simp only [findR] at h
    split at h
    ·rename_i hq _
     have := keyEq_run (w := w) hq
     rw [same_now hu hb] at this
     cases this
    ·simpa using ih h (by simpa using hl) (fun i r hi => by simpa using hr (i + 1) r (by simpa using hi)) (j + 1) r hn
    ·cases h
   ·cases hn
theorem findKey_run {key : TypeId} {d : TypeDesc} {k : Value} (hu : P.underlying key = some d) {rows : List Row} {es : List MapEntry} {q : Option AVal} (h : findR P key k rows = some q) (hl : es.length = rows.length)
  (hr : ∀ (i : Nat) (r : Row), rows[i]? = some r → ∃ (en : MapEntry) (a : AVal), es[i]? = some en ∧ r = [.v en.key, a]) : (Instr.findKey key k es).run P w = (Instr.findAsking key k es 0).run P w := by
 simp only [Instr.findKey, Sem.run_bind, run_underlying hu, Result.andThen]
 cases hn : Instr.findNow d k es 0 with
 | none => rfl
 | some r => simp only []; rw [find_now hu h hl hr 0 r hn]; rfl
theorem keyOk_run {key : TypeId} {k : Value} (h : keyOk P key k = true) : (∃ d, P.underlying key = some d) ∧ ∀ b w, (Instr.checkKey b 10000 key k).run P w = .ok () w := by
 simp only [keyOk, Bool.and_eq_true, Option.isSome_iff_exists] at h
 obtain ⟨⟨⟨u, h1⟩, ⟨v, h2⟩⟩, h3⟩ := h
 refine ⟨h3, fun b w => ?_⟩
 cases b
 ·exact pr_run h2 w
 ·exact pr_run h1 w
theorem find_two {key : TypeId} {k : Value} {rows : List Row} {q : Option AVal} (h : findR P key k rows = some q) : ∀ r rs, rows = r :: rs → r.length = 2 := by
 rintro r rs rfl
 unfold findR at h
 split at h
 ·cases ‹_ = []›
 ·rename_i e
  cases e; rfl
 ·cases h
theorem does_lookup {t : TypeId} {m k : Operand} {ok : Bool} (hop : o.op = .lookup t m k ok) (hs : SimE base w0 β fz e' H a w) (h : aLookup P t (e' m) (e' k) ok H = some av) : Does P o a w base w0 β fz H av H := by
 have hm := hs.ev m
 have hk := hs.ev k
 unfold aLookup at h
 split at h
 ·rename_i key elem hu
  split at h
  ·rename_i id kv hp hq
   rw [hp] at hm; rw [hq] at hk
   have hkv := hk.v_inv
   split at h
   ·rename_i rows hob
    split at h
    ·rename_i hko
     obtain ⟨⟨d, hd⟩, hck⟩ := keyOk_run hko
     split at h
     ·rename_i q hfr
      have hO := hs.heap.objs' id 0 rows hob
      rw [OSim, if_pos rfl] at hO
      replace hO := hO.ofMap (find_two hfr)
      obtain ⟨rs, hpm, es, clock, h1, h2, hbn, h3⟩ := hO
      rw [← findR_perm hpm] at hfr
      have hl2 : es.toList.length = rs.length := by rw [Array.length_toList]; exact h2
      have hmv : a.eval m = .map (some (β id)) := by
       generalize a.eval m = v at hm
       cases hm with
       | ptr _ h0 => exact absurd rfl h0
       | mp _ => rfl
      have hfk : (Instr.findKey key kv es.toList).run P w = (Instr.findAsking key kv es.toList 0).run P w := findKey_run hd hfr hl2 (fun i r hi => by
       obtain ⟨en, x, g1, g2, _⟩ := h3 i r hi
       exact ⟨en, x, by simpa using g1, g2⟩)
      rcases find_run (β := β) (ok := okOf base fz) (w := w) (n := H.length) hfr hl2 (fun i r hi => by
       obtain ⟨en, x, g1, g2, g3⟩ := h3 i r hi
       exact ⟨en, x, by simpa using g1, g2, g3⟩) 0 with ⟨i, en, x, g1, rfl, g3, g4⟩ | ⟨g1, rfl⟩
      ·simp only [lkRes, Option.some.injEq] at h
       subst h
       cases ok
       ·refine does_pure hs.heap (x := en.val) ?_ g4
        simp only [execOp, hop, hmv, hkv]
        simp [Instr.lookup, run_underlying hu, MapKept.run_getObj_map h1, hck, hfk, g1, Result.andThen]
       ·refine does_pure hs.heap (x := .tuple #[en.val, .bool true]) ?_ ?_
        ·simp only [execOp, hop, hmv, hkv]
         simp [Instr.lookup, run_underlying hu, MapKept.run_getObj_map h1, hck, hfk, g1, Result.andThen]
        ·refine .tup rfl fun j c hj => ?_
         match j, hj with
         | 0, hj => simp at hj; subst hj; exact g4
         | 1, hj => simp at hj; subst hj; exact .v
         | j + 2, hj => simp at hj
      ·simp only [lkRes, Option.map_eq_some_iff] at h
       obtain ⟨z, hz, rfl⟩ := h
       refine does_pure hs.heap (x := if ok then .tuple #[z, .bool false] else z) ?_ .v
       simp only [execOp, hop, hmv, hkv]
       simp [Instr.lookup, run_underlying hu, MapKept.run_getObj_map h1, hck, hfk, g1, Result.andThen, run_zero hz]
     ·cases h
    ·cases h
   ·cases h
  ·rename_i kv hp hq
   rw [hp] at hm; rw [hq] at hk
   have hkv := hk.v_inv
   have hmv := hm.v_inv
   split at h
   ·rename_i hko
    obtain ⟨⟨d, hd⟩, hck⟩ := keyOk_run hko
    simp only [lkRes, Option.map_eq_some_iff] at h
    obtain ⟨z, hz, rfl⟩ := h
    refine does_pure hs.heap (x := if ok then .tuple #[z, .bool false] else z) ?_ .v
    simp only [execOp, hop, hmv, hkv]
    have hfk : (Instr.findKey key kv []).run P w = .ok none w := by
     have := findKey_run (P := P) (w := w) (k := kv) hd (rows := []) (es := []) (q := none) rfl rfl (fun i r hi => by simp at hi)
     rw [this]; simp [Instr.findAsking]
    simp [Instr.lookup, run_underlying hu, hck, hfk, Result.andThen, run_zero hz]
   ·cases h
  ·cases h
 ·cases h
theorem put_find {key : TypeId} {k : Value} {x : AVal} : ∀ {rows rows' : List Row}, putR P key k x rows = some rows' → ∃ q, findR P key k rows = some q := by
 intro rows
 induction rows with
 | nil => intro rows' _; exact ⟨none, rfl⟩
 | cons row rows ih =>
  intro rows' h
  unfold putR at h
  split at h
  ·rename_i heq; cases heq
  ·rename_i k' a r heq
   cases heq
   simp only [findR]
   split at h
   ·rename_i h1 h2
    exact ⟨_, rfl⟩
   ·rename_i h1
    simp only [Option.map_eq_some_iff] at h
    obtain ⟨r', hr', _⟩ := h
    obtain ⟨q, hq⟩ := ih hr'
    exact ⟨q, hq⟩
   ·cases h
  ·cases h
theorem putR_perm {key : TypeId} {k : Value} {x : AVal} : ∀ {rs rows rows' : List Row}, rs.Perm rows → putR P key k x rows = some rows' → ∃ rs', putR P key k x rs = some rs' ∧ rs'.Perm rows' := by
 intro rs rows rows' h
 induction h generalizing rows' with
 | nil => intro hp; exact ⟨_, hp, .refl _⟩
 | @cons y l1 l2 hl ih =>
  intro hp
  unfold putR at hp
  split at hp
  ·rename_i heq; cases heq
  ·rename_i k' a r heq
   cases heq
   simp only [putR, findR_perm hl]
   split at hp
   ·rename_i h1 h2
    split at hp
    ·rename_i h3
     cases hp
     simp only [h3, if_true]
     exact ⟨_, rfl, hl.cons _⟩
    ·cases hp
   ·rename_i h1
    simp only [Option.map_eq_some_iff] at hp
    obtain ⟨r', hr', rfl⟩ := hp
    obtain ⟨rs', g1, g2⟩ := ih hr'
    rw [g1]
    exact ⟨_, rfl, g2.cons _⟩
   ·cases hp
  ·cases hp
 | swap y z l =>
  intro hp
  -- rows = y :: z :: l ; rs = z :: y :: l
  unfold putR at hp
  split at hp
  ·rename_i heq; cases heq
  ·rename_i k1 a1 r heq
   cases heq
   split at hp
   ·rename_i h1 h2
    split at hp
    ·rename_i h3
     cases hp
     unfold findR at h2
     split at h2
     ·rename_i heq; cases heq
     ·rename_i k2 a2 r2 heq
      cases heq
      split at h2
      ·cases h2
      ·rename_i h4
       refine ⟨_, ?_, List.Perm.swap _ _ _⟩
       simp only [putR, findR, h4, h2, h1]
       simp [h3]
      ·cases h2
     ·cases h2
    ·cases hp
   ·rename_i h1
    simp only [Option.map_eq_some_iff] at hp
    obtain ⟨r', hr', rfl⟩ := hp
    unfold putR at hr'
    split at hr'
    ·rename_i heq; cases heq
    ·rename_i k2 a2 r2 heq
     cases heq
     split at hr'
     ·rename_i h4 h5
      split at hr'
      ·rename_i h6
       cases hr'
       refine ⟨_, ?_, List.Perm.swap _ _ _⟩
       simp only [putR, findR, h4, h5, h1]
       simp [h6]
      ·cases hr'
     ·rename_i h4
      simp only [Option.map_eq_some_iff] at hr'
      obtain ⟨r3, hr3, rfl⟩ := hr'
      obtain ⟨q, hq⟩ := put_find hr3
      refine ⟨_, ?_, List.Perm.swap _ _ _⟩
      simp only [putR, findR, h4, hq, h1, hr3]
      rfl
     ·cases hr'
    ·cases hr'
   ·cases hp
  ·cases hp
 | trans h1 h2 ih1 ih2 =>
  intro hp
  obtain ⟨r2, g1, g2⟩ := ih2 hp
  obtain ⟨r1, g3, g4⟩ := ih1 g1
  exact ⟨r1, g3, g4.trans g2⟩
theorem put_run {key : TypeId} {k : Value} {x : AVal} : ∀ {rows rows' : List Row} {es : List MapEntry}, putR P key k x rows = some rows' → es.length = rows.length →
  (∀ (i : Nat) (r : Row), rows[i]? = some r → ∃ (en : MapEntry) (a : AVal), es[i]? = some en ∧ r = [.v en.key, a]) → ∀ (j : Nat),
  (∃ i en, (Instr.findAsking key k es j).run P w = .ok (some (j + i, en.val)) w ∧ rows' = rows.set i [.v k, x] ∧ es[i]? = some en ∧ Instr.sameBits 10000 en.key k = true) ∨ ((Instr.findAsking key k es j).run P w = .ok none w ∧ rows' = rows ++ [[.v k, x]]) := by
 intro rows
 induction rows with
 | nil =>
  intro rows' es h hl hr j
  cases es with
  | nil =>
   simp only [putR, Option.some.injEq] at h
   exact .inr ⟨by simp [Instr.findAsking], h.symm⟩
  | cons e es => simp at hl
 | cons row rows ih =>
  intro rows' es h hl hr j
  cases es with
  | nil => simp at hl
  | cons e es =>
   obtain ⟨en, a, h1, rfl⟩ := hr 0 row rfl
   simp only [List.getElem?_cons_zero, Option.some.injEq] at h1
   subst h1
   simp only [putR] at h
   split at h
   ·rename_i hq _
    split at h
    ·rename_i hsb
     simp only [Option.some.injEq] at h
     refine .inl ⟨0, e, ?_, h.symm, rfl, hsb⟩
     simp [Instr.findAsking, keyEq_run hq]
    ·cases h
   ·rename_i hq
    simp only [Option.map_eq_some_iff] at h
    obtain ⟨r', hr', rfl⟩ := h
    rcases ih hr' (by simpa using hl) (fun i r hi => by simpa using hr (i + 1) r (by simpa using hi)) (j + 1) with ⟨i, en, g1, g2, g3, g4⟩ | ⟨g1, g2⟩
    ·refine .inl ⟨i + 1, en, ?_, by rw [g2]; rfl, by simpa using g3, g4⟩
     simp only [Instr.findAsking, Sem.run_bind, keyEq_run hq]
     simpa [show j + (i + 1) = j + 1 + i by omega] using g1
    ·refine .inr ⟨?_, by rw [g2]; rfl⟩
     simp only [Instr.findAsking, Sem.run_bind, keyEq_run hq]
     simpa using g1
   ·cases h
theorem does_mapUpdate {t : TypeId} {m k x : Operand} (hop : o.op = .mapUpdate t m k x) (hs : SimE base w0 β fz e' H a w) (h : aMapUpdate P t (e' m) (e' k) (e' x) H = some H') : Does P o a w base w0 β fz H (.v undef) H' := by
 have hm := hs.ev m
 have hk := hs.ev k
 have hx := hs.ev x
 unfold aMapUpdate at h
 split at h
 ·rename_i key elem hu
  split at h
  ·rename_i id kv hp hq
   rw [hp] at hm; rw [hq] at hk
   have hkv := hk.v_inv
   split at h
   ·rename_i rows hob
    split at h
    ·rename_i hko
     obtain ⟨⟨d, hd⟩, hck⟩ := keyOk_run hko
     simp only [Option.map_eq_some_iff] at h
     obtain ⟨rows0, hpr0, rfl⟩ := h
     have hO := hs.heap.objs' id 0 rows hob
     rw [OSim, if_pos rfl] at hO
     replace hO := hO.ofMap (find_two (put_find hpr0).choose_spec)
     obtain ⟨rs, hpm, es, clock, h1, h2, hbn, h3⟩ := hO
     obtain ⟨rows', hpr, hpm2⟩ := putR_perm hpm hpr0
     have hmv : a.eval m = .map (some (β id)) := by
      generalize a.eval m = v at hm
      cases hm with
      | ptr _ h0 => exact absurd rfl h0
      | mp _ => rfl
     have hl2 : es.toList.length = rs.length := by rw [Array.length_toList]; exact h2
     have h3' : ∀ (i : Nat) (r : Row), rs[i]? = some r → ∃ (en : MapEntry) (a : AVal), es.toList[i]? = some en ∧ r = [.v en.key, a] := fun i r hi => by
      obtain ⟨en, x, g1, g2, _⟩ := h3 i r hi
      exact ⟨en, x, by simpa using g1, g2⟩
     obtain ⟨q, hfr⟩ := put_find hpr
     have hfk : (Instr.findKey key kv es.toList).run P w = (Instr.findAsking key kv es.toList 0).run P w := findKey_run hd hfr hl2 h3'
     rcases put_run (w := w) hpr hl2 h3' 0 with ⟨i, en, g1, rfl, g3, g4⟩ | ⟨g1, rfl⟩
     ·have hge : es[i]? = some en := by simpa using g3
      have hil : i < es.size := (Array.getElem?_eq_some_iff.1 hge).1
      obtain ⟨s1, s2⟩ := hs.heap.setM (es := es.modify i fun e => { e with key := kv, val := a.eval x }) (clock := clock) hob ⟨_, _, h1⟩ hpm2 (by simpa using h2) (by
       have e1 : (es.modify i fun e => { e with key := kv, val := a.eval x }).toList.map (·.born) = es.toList.map (·.born) := by
        rw [Array.toList_modify]
        apply List.ext_getElem?
        intro m
        simp only [List.getElem?_map, List.getElem?_modify]
        by_cases hm : i = m
        ·simp only [hm, if_true]
         cases es.toList[m]? <;> rfl
        ·simp only [hm, if_false]
         cases es.toList[m]? <;> rfl
       refine ⟨by rw [e1]; exact hbn.nodup, fun en' hen => ?_⟩
       have : en'.born ∈ (es.modify i fun e => { e with key := kv, val := a.eval x }).toList.map (·.born) := List.mem_map.2 ⟨_, hen, rfl⟩
       rw [e1] at this
       obtain ⟨e2, he2, he3⟩ := List.mem_map.1 this
       rw [← he3]; exact hbn.lt e2 he2) (fun j r hj => by
       by_cases hji : j = i
       ·subst hji
        rw [List.getElem?_set_self (by omega)] at hj
        cases hj
        refine ⟨{ en with key := kv, val := a.eval x }, e' x, ?_, rfl, hx⟩
        rw [Array.getElem?_modify, if_pos rfl, hge]; rfl
       ·rw [List.getElem?_set_ne (fun e => hji e.symm)] at hj
        obtain ⟨en', y, f1, f2, f3⟩ := h3 j r hj
        refine ⟨en', y, ?_, f2, f3⟩
        rw [Array.getElem?_modify, if_neg (fun e => hji e.symm), f1])
      refine does_skip ?_ s1 s2
      simp only [execOp, hop, hmv, hkv]
      simp [Instr.mapUpdate, run_underlying hu, MapKept.run_getObj_map h1, hck, hfk, g1, Result.andThen, Instr.keyThatStays, hge, g4, MapKept.run_setObj_map _ h1, setMap]
     ·obtain ⟨s1, s2⟩ := hs.heap.setM (es := es.push { key := kv, val := a.eval x, born := clock }) (clock := clock + 1) hob ⟨_, _, h1⟩ hpm2 (by simp; omega) (by
       refine ⟨?_, fun en' hen => ?_⟩
       ·rw [Array.toList_push, List.map_append, List.nodup_append]
        refine ⟨hbn.nodup, by simp, fun b hb c hc => ?_⟩
        obtain ⟨e2, he2, rfl⟩ := List.mem_map.1 hb
        simp only [List.map_cons, List.map_nil, List.mem_singleton] at hc
        have := hbn.lt e2 he2
        omega
       ·rw [Array.toList_push, List.mem_append] at hen
        rcases hen with hen | hen
        ·exact Nat.lt_succ_of_lt (hbn.lt _ hen)
        ·simp only [List.mem_singleton] at hen; rw [hen]; simp) (fun j r hj => by
       by_cases hji : j < rs.length
       ·rw [List.getElem?_append_left hji] at hj
        obtain ⟨en', y, f1, f2, f3⟩ := h3 j r hj
        refine ⟨en', y, ?_, f2, f3⟩
        rw [Array.getElem?_push, if_neg (by omega), f1]
       ·rw [List.getElem?_append_right (by omega)] at hj
        have : j - rs.length = 0 := by
         apply Classical.byContradiction; intro hn
         rw [List.getElem?_eq_none (by simp; omega)] at hj; cases hj
        rw [this] at hj
        cases hj
        refine ⟨{ key := kv, val := a.eval x, born := clock }, e' x, ?_, rfl, hx⟩
        rw [Array.getElem?_push, if_pos (by omega)])
      refine does_skip ?_ s1 s2
      simp only [execOp, hop, hmv, hkv]
      simp [Instr.mapUpdate, run_underlying hu, MapKept.run_getObj_map h1, hck, hfk, g1, Result.andThen, MapKept.run_setObj_map _ h1, setMap]
    ·cases h
   ·cases h
  ·cases h
 ·cases h
theorem del_run {key : TypeId} {k : Value} : ∀ {rows rows' : List Row} {es : List MapEntry}, delR P key k rows = some rows' → es.length = rows.length →
  (∀ (i : Nat) (r : Row), rows[i]? = some r → ∃ (en : MapEntry) (a : AVal), es[i]? = some en ∧ r = [.v en.key, a]) → ∀ (j : Nat),
  (∃ i en, (Instr.findAsking key k es j).run P w = .ok (some (j + i, en.val)) w ∧ rows' = rows.eraseIdx i ∧ es[i]? = some en) ∨ ((Instr.findAsking key k es j).run P w = .ok none w ∧ rows' = rows) := by
 intro rows
 induction rows with
 | nil =>
  intro rows' es h hl hr j
  cases es with
  | nil =>
   simp only [delR, Option.some.injEq] at h
   exact .inr ⟨by simp [Instr.findAsking], h.symm⟩
  | cons e es => simp at hl
 | cons row rows ih =>
  intro rows' es h hl hr j
  cases es with
  | nil => simp at hl
  | cons e es =>
   obtain ⟨en, a, h1, rfl⟩ := hr 0 row rfl
   simp only [List.getElem?_cons_zero, Option.some.injEq] at h1
   subst h1
   simp only [delR] at h
   split at h
   ·rename_i hq _
    cases h
    refine .inl ⟨0, e, ?_, rfl, rfl⟩
    simp [Instr.findAsking, keyEq_run hq]
   ·rename_i hq
    simp only [Option.map_eq_some_iff] at h
    obtain ⟨r', hr', rfl⟩ := h
    rcases ih hr' (by simpa using hl) (fun i r hi => by simpa using hr (i + 1) r (by simpa using hi)) (j + 1) with ⟨i, en, g1, g2, g3⟩ | ⟨g1, g2⟩
    ·refine .inl ⟨i + 1, en, ?_, by rw [g2]; rfl, by simpa using g3⟩
     simp only [Instr.findAsking, Sem.run_bind, keyEq_run hq]
     simpa [show j + (i + 1) = j + 1 + i by omega] using g1
    ·refine .inr ⟨?_, by rw [g2]⟩
     simp only [Instr.findAsking, Sem.run_bind, keyEq_run hq]
     simpa using g1
   ·cases h
theorem del_find {key : TypeId} {k : Value} : ∀ {rows rows' : List Row}, delR P key k rows = some rows' → ∃ q, findR P key k rows = some q := by
 intro rows
 induction rows with
 | nil => intro rows' _; exact ⟨none, rfl⟩
 | cons row rows ih =>
  intro rows' h
  unfold delR at h
  split at h
  ·rename_i heq; cases heq
  ·rename_i k' a r heq
   cases heq
   simp only [findR]
   split at h
   ·rename_i h1 h2
    exact ⟨_, rfl⟩
   ·rename_i h1
    simp only [Option.map_eq_some_iff] at h
    obtain ⟨r', hr', _⟩ := h
    obtain ⟨q, hq⟩ := ih hr'
    exact ⟨q, hq⟩
   ·cases h
  ·cases h
theorem delR_perm {key : TypeId} {k : Value} : ∀ {rs rows rows' : List Row}, rs.Perm rows → delR P key k rows = some rows' → ∃ rs', delR P key k rs = some rs' ∧ rs'.Perm rows' := by
 intro rs rows rows' h
 induction h generalizing rows' with
 | nil => intro hp; exact ⟨_, hp, .refl _⟩
 | @cons y l1 l2 hl ih =>
  intro hp
  unfold delR at hp
  split at hp
  ·rename_i heq; cases heq
  ·rename_i k' a r heq
   cases heq
   simp only [delR, findR_perm hl]
   split at hp
   ·rename_i h1 h2
    cases hp
    exact ⟨_, rfl, hl⟩
   ·rename_i h1
    simp only [Option.map_eq_some_iff] at hp
    obtain ⟨r', hr', rfl⟩ := hp
    obtain ⟨rs', g1, g2⟩ := ih hr'
    rw [g1]
    exact ⟨_, rfl, g2.cons _⟩
   ·cases hp
  ·cases hp
 | swap y z l =>
  intro hp
  unfold delR at hp
  split at hp
  ·rename_i heq; cases heq
  ·rename_i k1 a1 r heq
   cases heq
   split at hp
   ·rename_i h1 h2
    cases hp
    unfold findR at h2
    split at h2
    ·rename_i heq; cases heq
    ·rename_i k2 a2 r2 heq
     cases heq
     split at h2
     ·cases h2
     ·rename_i h4
      refine ⟨_, ?_, .refl _⟩
      simp only [delR, findR, h4, h2, h1]
      rfl
     ·cases h2
    ·cases h2
   ·rename_i h1
    simp only [Option.map_eq_some_iff] at hp
    obtain ⟨r', hr', rfl⟩ := hp
    unfold delR at hr'
    split at hr'
    ·rename_i heq; cases heq
    ·rename_i k2 a2 r2 heq
     cases heq
     split at hr'
     ·rename_i h4 h5
      cases hr'
      refine ⟨_, ?_, .refl _⟩
      simp only [delR, findR, h4, h5, h1]
     ·rename_i h4
      simp only [Option.map_eq_some_iff] at hr'
      obtain ⟨r3, hr3, rfl⟩ := hr'
      obtain ⟨q, hq⟩ := del_find hr3
      refine ⟨_, ?_, List.Perm.swap _ _ _⟩
      simp only [delR, findR, h4, hq, h1, hr3]
      rfl
     ·cases hr'
    ·cases hr'
   ·cases hp
  ·cases hp
 | trans h1 h2 ih1 ih2 =>
  intro hp
  obtain ⟨r2, g1, g2⟩ := ih2 hp
  obtain ⟨r1, g3, g4⟩ := ih1 g1
  exact ⟨r1, g3, g4.trans g2⟩
theorem does_delete {t ty : TypeId} {ts : Array TypeId} {m k : Operand} (hop : execOp a.eval o = (do pure (.value (← Builtin.delete_ ts ty #[a.eval m, a.eval k])) : Sem Next)) (hts : ts[0]? = some t) (hs : SimE base w0 β fz e' H a w) (h : aDelete P t (e' m) (e' k) H = some (av, H')) : Does P o a w base w0 β fz H av H' := by
 have hm := hs.ev m
 have hk := hs.ev k
 unfold aDelete at h
 split at h
 ·rename_i key elem hu
  split at h
  ·rename_i id kv hp hq
   rw [hp] at hm; rw [hq] at hk
   have hkv := hk.v_inv
   split at h
   ·rename_i rows hob
    split at h
    ·rename_i hko
     obtain ⟨⟨d, hd⟩, hck⟩ := keyOk_run hko
     simp only [Option.map_eq_some_iff, Prod.mk.injEq] at h
     obtain ⟨rows0, hpr0, rfl, rfl⟩ := h
     have hO := hs.heap.objs' id 0 rows hob
     rw [OSim, if_pos rfl] at hO
     replace hO := hO.ofMap (find_two (del_find hpr0).choose_spec)
     obtain ⟨rs, hpm, es, clock, h1, h2, hbn, h3⟩ := hO
     obtain ⟨rows', hpr, hpm2⟩ := delR_perm hpm hpr0
     have hmv : a.eval m = .map (some (β id)) := by
      generalize a.eval m = v at hm
      cases hm with
      | ptr _ h0 => exact absurd rfl h0
      | mp _ => rfl
     have hl2 : es.toList.length = rs.length := by rw [Array.length_toList]; exact h2
     have h3' : ∀ (i : Nat) (r : Row), rs[i]? = some r → ∃ (en : MapEntry) (a : AVal), es.toList[i]? = some en ∧ r = [.v en.key, a] := fun i r hi => by
      obtain ⟨en, x, g1, g2, _⟩ := h3 i r hi
      exact ⟨en, x, by simpa using g1, g2⟩
     obtain ⟨q, hfr⟩ := del_find hpr
     have hfk : (Instr.findKey key kv es.toList).run P w = (Instr.findAsking key kv es.toList 0).run P w := findKey_run hd hfr hl2 h3'
     rcases del_run (w := w) hpr hl2 h3' 0 with ⟨i, en, g1, rfl, g3⟩ | ⟨g1, rfl⟩
     ·have hge : es[i]? = some en := by simpa using g3
      have hil : i < es.size := (Array.getElem?_eq_some_iff.1 hge).1
      have hel : (es.eraseIdxIfInBounds i).toList = es.toList.eraseIdx i := by
       unfold Array.eraseIdxIfInBounds
       rw [dif_pos hil]
       simp
      obtain ⟨s1, s2⟩ := hs.heap.setM (es := es.eraseIdxIfInBounds i) (clock := clock) hob ⟨_, _, h1⟩ hpm2 (by
       have e1 := congrArg List.length hel
       rw [Array.length_toList] at e1
       rw [e1, List.length_eraseIdx, List.length_eraseIdx, hl2]) (by
       refine ⟨?_, fun en' hen => ?_⟩
       ·rw [hel]
        exact hbn.nodup.sublist ((List.eraseIdx_sublist ..).map _)
       ·rw [hel] at hen
        exact hbn.lt _ ((List.eraseIdx_sublist ..).subset hen)) (fun j r hj => by
       have e2 : ∀ m : Nat, (es.eraseIdxIfInBounds i)[m]? = (es.toList.eraseIdx i)[m]? := fun m => by rw [← hel, Array.getElem?_toList]
       rw [List.getElem?_eraseIdx] at hj
       by_cases hji : j < i
       ·rw [if_pos hji] at hj
        obtain ⟨en', y, f1, f2, f3⟩ := h3 j r hj
        refine ⟨en', y, ?_, f2, f3⟩
        rw [e2, List.getElem?_eraseIdx, if_pos hji]; simpa using f1
       ·rw [if_neg hji] at hj
        obtain ⟨en', y, f1, f2, f3⟩ := h3 (j + 1) r hj
        refine ⟨en', y, ?_, f2, f3⟩
        rw [e2, List.getElem?_eraseIdx, if_neg hji]; simpa using f1)
      refine does_val (x := .tuple #[]) ?_ s1 s2 .v
      rw [hop]
      simp [Builtin.delete_, hts, hmv, hkv, run_underlying hu, MapKept.run_getObj_map h1, hck, hfk, g1, Result.andThen, MapKept.run_setObj_map _ h1, setMap]
     ·obtain ⟨s1, s2⟩ := hs.heap.setM (es := es) (clock := clock) hob ⟨_, _, h1⟩ hpm2 h2 hbn h3
      refine does_val (x := .tuple #[]) ?_ s1 s2 .v
      rw [hop]
      simp [Builtin.delete_, hts, hmv, hkv, run_underlying hu, MapKept.run_getObj_map h1, hck, hfk, g1, Result.andThen, MapKept.run_setObj_map _ h1, setMap]
    ·cases h
   ·cases h
  ·cases h
 ·cases h
end
end Go.AI
/- Each step of the interpreter is true of the model: slicing, len, min, max. -/
namespace Go.AI
set_option linter.unusedSectionVars false
variable [Sym]
set_option linter.unusedSimpArgs false
set_option linter.unusedVariables false
open Go.RowKit
section
variable {base : Nat} {w0 : World} {β : Nat → Nat} {fz : Nat → Prop} {e' : AEv} {H H' : Heap} {a : Act} {w : World} {P : Program} {C : Orc} {o : Oper} {av : AVal} {n : Nat} {ok : Bool → Nat → Prop}
theorem bnd_some {i : AVal} {k d m : Nat} {v : Value} (h : bnd (some i) d m = some k) (hr : R β ok w n i v) : ∃ kd z, v = .int kd z ∧ 0 ≤ z ∧ z ≤ m ∧ z.toNat = k := by
 unfold bnd at h
 split at h
 ·rename_i h0; cases h0
 ·rename_i kd z h0
  simp only [Option.some.injEq] at h0
  subst h0
  split at h
  ·rename_i hz
   simp only [Option.some.injEq] at h
   exact ⟨kd, z, hr.v_inv, hz.1, hz.2, h⟩
  ·cases h
 ·cases h
theorem run_bound {kd : IntKind} {z : Int} {m : Nat} (z0 : 0 ≤ z) (z1 : z ≤ m) (c : BoundsCode) : (Instr.sliceBound (.int kd z) m c).run P w = .ok z.toNat w := by
 simp [Instr.sliceBound, asIntOf, z0, z1]
theorem bnd_run {x : Option Operand} {k d m : Nat} (hs : SimE base w0 β fz e' H a w) (h : bnd (x.map (e')) d m = some k) (c : BoundsCode) :
  ((match x.map a.eval with
   | some v => Instr.sliceBound v m c
   | none => pure d).run P w = .ok k w) ∧ (x = none → k = d) ∧ (x ≠ none → k ≤ m) := by
 cases x with
 | none => simp [bnd] at h; subst h; exact ⟨rfl, fun _ => rfl, fun hh => absurd rfl hh⟩
 | some i =>
  obtain ⟨kd, z, hz, z0, z1, rfl⟩ := bnd_some h (hs.ev i)
  refine ⟨?_, (fun hh => absurd hh (by simp)), fun _ => by omega⟩
  simp only [Option.map_some, hz]
  exact run_bound z0 z1 c
theorem does_slice {t : TypeId} {x : Operand} {lo hi mx : Option Operand} (hop : o.op = .slice t x lo hi mx) (hs : SimE base w0 β fz e' H a w)
  (h : aSlice P t (e' x) (lo.map (e')) (hi.map (e')) (mx.map (e')) = some av) : Does P o a w base w0 β fz H av H := by
 have hx := hs.ev x
 unfold aSlice at h
 split at h
 ·rename_i e hE
  have hu := run_slice_und hE
  split at h
  ·rename_i sz hsz
   -- what the operation comes to
   have run2 : ∀ (ad : Option Addr) (len cap l k : Nat), mx = none → (bnd (hi.map (e')) len cap = some k) → bnd (lo.map (e')) 0 k = some l →
     (Instr.sliceAt t (.slice ad len cap) (lo.map a.eval) (hi.map a.eval) (mx.map a.eval)).run P w = .ok (.slice (if cap = l then ad else ad.map (·.add (l * sz))) (k - l) (cap - l)) w := by
    intro ad len cap l k hm h1 h2
    subst hm
    have b1 := (bnd_run (P := P) hs h1 .sliceAcap).1
    have b2 := (bnd_run (P := P) hs h2 .sliceB).1
    have hb : (Instr.sliceBounds true len cap (lo.map a.eval) (hi.map a.eval) none).run P w = .ok (l, k, cap) w := by
     simp only [Instr.sliceBounds]
     cases hi <;> cases lo <;> simp_all
    simp [Instr.sliceAt, Instr.slice, run_underlying hu, hb, run_sz hsz]
   have run3 : ∀ (ad : Option Addr) (len cap l k m : Nat) (mm hh : Operand), mx = some mm → hi = some hh → bnd (some (e' mm)) 0 cap = some m → bnd (some (e' hh)) 0 m = some k → bnd (lo.map (e')) 0 k = some l →
     (Instr.sliceAt t (.slice ad len cap) (lo.map a.eval) (hi.map a.eval) (mx.map a.eval)).run P w = .ok (.slice (if m = l then ad else ad.map (·.add (l * sz))) (k - l) (m - l)) w := by
    intro ad len cap l k m mm hh hm1 hm2 h1 h2 h3
    subst hm1; subst hm2
    have b1 := (bnd_run (P := P) (x := some mm) hs h1 .slice3Acap).1
    have b2 := (bnd_run (P := P) (x := some hh) hs h2 .slice3B).1
    have b3 := (bnd_run (P := P) hs h3 .slice3C).1
    have hb : (Instr.sliceBounds true len cap (lo.map a.eval) (some (a.eval hh)) (some (a.eval mm))).run P w = .ok (l, k, m) w := by
     simp only [Instr.sliceBounds]
     cases lo <;> simp_all
    simp [Instr.sliceAt, Instr.slice, run_underlying hu, hb, run_sz hsz]
   have up : ∀ {y : Option Operand} {d p q k : Nat}, bnd (y.map (e')) d p = some k → p ≤ q → bnd (y.map (e')) d q = some k := by
    intro y d p q k hh hpq
    cases y with
    | none => exact hh
    | some i =>
     simp only [Option.map_some, bnd] at hh ⊢
     split at hh
     ·rename_i h0; cases h0
     ·rename_i h0
      split at hh
      ·rename_i hz; rw [if_pos (by omega)]; exact hh
      ·cases hh
     ·cases hh
   split at h
   ·-- own slices
    rename_i id sz' s len kc hp
    split at h
    ·rename_i hss
     subst hss
     rw [hp] at hx
     generalize hv : a.eval x = v at hx
     cases hx with
     | @osl _ _ _ _ _ _ ad cap hid hl hkc ha =>
      split at h
      ·rename_i hm
       have hm' : mx = none := by cases mx <;> simp_all
       split at h
       ·rename_i k hk
        simp only [Option.map_eq_some_iff] at h
        obtain ⟨l, hl', rfl⟩ := h
        have hkk : k ≤ kc := by
         rcases Option.eq_none_or_eq_some hi with hh | ⟨y, hh⟩
         ·rw [hh] at hk; simp [bnd] at hk; omega
         ·exact (bnd_run (P := P) hs hk .sliceB).2.2 (by simp [hh])
        have hlk : l ≤ k := by
         rcases Option.eq_none_or_eq_some lo with hh | ⟨y, hh⟩
         ·rw [hh] at hl'; simp [bnd] at hl'; omega
         ·exact (bnd_run (P := P) hs hl' .sliceB).2.2 (by simp [hh])
        refine does_pure hs.heap ?_ ?_ (x := .slice (if cap = l then some ad else some (ad.add (l * sz'))) (k - l) (cap - l))
        ·simp only [execOp, hop, hv]
         have := run2 (some ad) len cap l k hm' (up hk hkc) hl'
         rw [Sem.run_bind, this]; simp
        ·by_cases hcl : cap = l
         ·rw [if_pos hcl]; exact .osl hid (by omega) (by omega) (.inl (by omega))
         ·rw [if_neg hcl]
          rcases ha with ha | ⟨ha, cs, e', f', h1, h2⟩
          ·omega
          ·refine .osl hid (by omega) (by omega) (.inr ⟨?_, cs, e', f', h1, ?_⟩)
           ·rw [ha, add_none, Nat.add_mul]
           ·have : s + l + (cap - l) = s + cap := by omega
            rw [this]; exact h2
       ·cases h
      ·rename_i m0 hm
       obtain ⟨mm, hmm, hmv⟩ : ∃ mm, mx = some mm ∧ e' mm = m0 := by cases mx <;> simp_all
       subst hmv
       split at h
       ·rename_i m hm1
        split at h
        ·rename_i h0 hh0
         obtain ⟨hh, hhi, hhv⟩ : ∃ hh, hi = some hh ∧ e' hh = h0 := by cases hi <;> simp_all
         subst hhv
         split at h
         ·rename_i k hk
          simp only [Option.map_eq_some_iff] at h
          obtain ⟨l, hl', rfl⟩ := h
          have hmk : m ≤ kc := (bnd_run (P := P) (x := some mm) hs hm1 .sliceB).2.2 (by simp)
          have hkm : k ≤ m := (bnd_run (P := P) (x := some hh) hs hk .sliceB).2.2 (by simp)
          have hlk : l ≤ k := by
           rcases Option.eq_none_or_eq_some lo with hh | ⟨y, hh⟩
           ·rw [hh] at hl'; simp [bnd] at hl'; omega
           ·exact (bnd_run (P := P) hs hl' .sliceB).2.2 (by simp [hh])
          refine does_pure hs.heap ?_ ?_ (x := .slice (if m = l then some ad else some (ad.add (l * sz'))) (k - l) (m - l))
          ·simp only [execOp, hop, hv]
           have := run3 (some ad) len cap l k m mm hh hmm hhi (up (y := some mm) hm1 hkc) hk hl'
           rw [Sem.run_bind, this]; simp
          ·by_cases hcl : m = l
           ·rw [if_pos hcl, if_pos hcl]
            have e1 : k - l = 0 := by omega
            have e2 : m - l = 0 := by omega
            rw [e1, e2]; exact .esl
           ·rw [if_neg hcl, if_neg hcl]
            rcases ha with ha | ⟨ha, cs, e', f', h1, h2⟩
            ·omega
            ·refine .osl hid (by omega) (Nat.le_refl _) (.inr ⟨?_, cs, e', f', h1, ?_⟩)
             ·rw [ha, add_none, Nat.add_mul]
             ·have : (s + l + (m - l)) * sz' ≤ (s + cap) * sz' := Nat.mul_le_mul_right _ (by omega)
              omega
         ·cases h
        ·cases h
       ·cases h
    ·cases h
   ·-- own slices, the capacity known
    rename_i id sz' s len cap hp
    split at h
    ·rename_i hss
     subst hss
     rw [hp] at hx
     generalize hv : a.eval x = v at hx
     cases hx with
     | @xsl _ _ _ _ _ _ ad hid hl ha =>
      split at h
      ·rename_i hm
       have hm' : mx = none := by cases mx <;> simp_all
       split at h
       ·rename_i k hk
        simp only [Option.map_eq_some_iff] at h
        obtain ⟨l, hl', rfl⟩ := h
        have hkk : k ≤ cap := by
         rcases Option.eq_none_or_eq_some hi with hh | ⟨y, hh⟩
         ·rw [hh] at hk; simp [bnd] at hk; omega
         ·exact (bnd_run (P := P) hs hk .sliceB).2.2 (by simp [hh])
        have hlk : l ≤ k := by
         rcases Option.eq_none_or_eq_some lo with hh | ⟨y, hh⟩
         ·rw [hh] at hl'; simp [bnd] at hl'; omega
         ·exact (bnd_run (P := P) hs hl' .sliceB).2.2 (by simp [hh])
        refine does_pure hs.heap ?_ ?_ (x := .slice (if cap = l then some ad else some (ad.add (l * sz'))) (k - l) (cap - l))
        ·simp only [execOp, hop, hv]
         have := run2 (some ad) len cap l k hm' hk hl'
         rw [Sem.run_bind, this]; simp
        ·by_cases hcl : cap = l
         ·rw [if_pos hcl]; exact .xsl hid (by omega) (.inl (by omega))
         ·rw [if_neg hcl]
          rcases ha with ha | ⟨ha, cs, e', f', h1, h2⟩
          ·omega
          ·refine .xsl hid (by omega) (.inr ⟨?_, cs, e', f', h1, ?_⟩)
           ·rw [ha, add_none, Nat.add_mul]
           ·have : s + l + (cap - l) = s + cap := by omega
            rw [this]; exact h2
       ·cases h
      ·cases h
    ·cases h
   ·-- frozen slices
    rename_i oo sz' rows hp
    split at h
    ·rename_i hss
     subst hss
     rw [hp] at hx
     generalize hv : a.eval x = v at hx
     obtain ⟨ad, cap, hvv, hlc, hR⟩ : ∃ ad cap, v = .slice ad rows.length cap ∧ rows.length ≤ cap ∧ ∀ l k c', l ≤ k → k ≤ rows.length → k - l ≤ c' → (c' ≠ 0 → l ≠ cap ∧ c' ≤ cap - l) →
       R β (okOf base fz) w H.length (.fsl oo sz' ((rows.drop l).take (k - l))) (.slice (if c' = 0 then ad else ad.map (·.add (l * sz'))) (k - l) c') := by
      cases hx with
      | @fsl _ _ _ _ b off cap x' hl hsr hb hc hr =>
       refine ⟨_, cap, rfl, hl, fun l k c' h1 h2 h3 h4 => ?_⟩
       have hlen : ((rows.drop l).take (k - l)).length = k - l := by simp; omega
       by_cases hkl : k - l = 0
       ·rw [hkl]; simp only [List.take_zero]; exact .fsl0
       ·have hc0 : c' ≠ 0 := by omega
        rw [if_neg hc0]
        simp only [Option.map_some, add_none]
        have hget : ∀ i, i < k - l → ((rows.drop l).take (k - l))[i]? = rows[l + i]? := fun i hi => by
         rw [List.getElem?_take_of_lt hi, List.getElem?_drop]
        have := R.fsl (β := β) (ok := okOf base fz) (w := w) (n := H.length) (o := oo) (sz := sz') (rows := (rows.drop l).take (k - l)) (b := b) (off := off + l * sz') (cap := c') (fun i j => x' (l + i) j) (by omega)
         (fun r hr => hsr r (List.mem_of_mem_drop (List.mem_of_mem_take hr))) (fun ⟨r, hr, hn⟩ => hb ⟨r, List.mem_of_mem_drop (List.mem_of_mem_take hr), hn⟩)
         (fun i j hi hj => by
          have := hc (l + i) j (by omega) hj
          rwa [Nat.add_mul, ← Nat.add_assoc] at this)
         (fun i r hi j c hj => by
          have : i < k - l := by have := (List.getElem?_eq_some_iff.1 hi).1; omega
          rw [hget i this] at hi
          exact hr (l + i) r hi j c hj)
        rwa [hlen] at this
      | @fsl0 _ _ _ ad cap =>
       refine ⟨ad, cap, rfl, Nat.zero_le _, fun l k c' h1 h2 h3 h4 => ?_⟩
       have : k - l = 0 := by simp at h2; omega
       rw [this]; simp only [List.drop_nil, List.take_nil]; exact .fsl0
     subst hvv
     split at h
     ·rename_i hm
      have hm' : mx = none := by cases mx <;> simp_all
      split at h
      ·rename_i k hk
       simp only [Option.map_eq_some_iff] at h
       obtain ⟨l, hl', rfl⟩ := h
       have hkk : k ≤ rows.length := by
        rcases Option.eq_none_or_eq_some hi with hh | ⟨y, hh⟩
        ·rw [hh] at hk; simp [bnd] at hk; omega
        ·exact (bnd_run (P := P) hs hk .sliceB).2.2 (by simp [hh])
       have hlk : l ≤ k := by
        rcases Option.eq_none_or_eq_some lo with hh | ⟨y, hh⟩
        ·rw [hh] at hl'; simp [bnd] at hl'; omega
        ·exact (bnd_run (P := P) hs hl' .sliceB).2.2 (by simp [hh])
       refine does_pure hs.heap ?_ (hR l k (cap - l) hlk hkk (by omega) (fun hc => ⟨by omega, Nat.le_refl _⟩))
       simp only [execOp, hop, hv]
       have := run2 ad rows.length cap l k hm' (up hk hlc) hl'
       rw [Sem.run_bind, this]
       by_cases hcl : cap = l
       ·have : cap - l = 0 := by omega
        simp [hcl]
       ·have h1 : cap - l ≠ 0 := by omega
        simp [hcl, h1]
      ·cases h
     ·rename_i m0 hm
      obtain ⟨mm, hmm, hmv⟩ : ∃ mm, mx = some mm ∧ e' mm = m0 := by cases mx <;> simp_all
      subst hmv
      split at h
      ·rename_i m hm1
       split at h
       ·rename_i h0 hh0
        obtain ⟨hh, hhi, hhv⟩ : ∃ hh, hi = some hh ∧ e' hh = h0 := by cases hi <;> simp_all
        subst hhv
        split at h
        ·rename_i k hk
         simp only [Option.map_eq_some_iff] at h
         obtain ⟨l, hl', rfl⟩ := h
         have hmk : m ≤ rows.length := (bnd_run (P := P) (x := some mm) hs hm1 .sliceB).2.2 (by simp)
         have hkm : k ≤ m := (bnd_run (P := P) (x := some hh) hs hk .sliceB).2.2 (by simp)
         have hlk : l ≤ k := by
          rcases Option.eq_none_or_eq_some lo with hh | ⟨y, hh⟩
          ·rw [hh] at hl'; simp [bnd] at hl'; omega
          ·exact (bnd_run (P := P) hs hl' .sliceB).2.2 (by simp [hh])
         have hrun := run3 ad rows.length cap l k m mm hh hmm hhi (up (y := some mm) hm1 hlc) hk hl'
         by_cases hcl : m = l
         ·rw [if_pos hcl]
          refine does_pure hs.heap (x := .slice ad 0 0) ?_ .esl
          simp only [execOp, hop, hv]
          rw [Sem.run_bind, hrun]
          have e1 : k - l = 0 := by omega
          have e2 : m - l = 0 := by omega
          simp [hcl, e1]
         ·rw [if_neg hcl]
          refine does_pure hs.heap ?_ (hR l k (m - l) hlk (by omega) (by omega) (fun hc => ⟨by omega, by omega⟩))
          simp only [execOp, hop, hv]
          rw [Sem.run_bind, hrun]
          have h1 : m - l ≠ 0 := by omega
          simp [hcl, h1]
        ·cases h
       ·cases h
      ·cases h
    ·cases h
   ·-- empty
    rename_i hp
    rw [hp] at hx
    generalize hv : a.eval x = v at hx
    split at h
    ·rename_i p q r h1 h2 h3
     split at h
     ·cases h
     ·rename_i hcnd
      simp only [Option.some.injEq] at h
      subst h
      cases hx with
      | @esl _ ad =>
       have hp0 : p = 0 := by
        rcases Option.eq_none_or_eq_some hi with hh | ⟨y, hh⟩
        ·rw [hh] at h1; simp [bnd] at h1; omega
        ·have := (bnd_run (P := P) hs h1 .sliceB).2.2 (by simp [hh]); omega
       have hq0 : q = 0 := by
        rcases Option.eq_none_or_eq_some lo with hh | ⟨y, hh⟩
        ·rw [hh] at h2; simp [bnd] at h2; omega
        ·have := (bnd_run (P := P) hs h2 .sliceB).2.2 (by simp [hh]); omega
       subst hp0; subst hq0
       refine does_pure hs.heap (x := .slice ad 0 0) ?_ .esl
       simp only [execOp, hop, hv]
       rcases Option.eq_none_or_eq_some mx with hm | ⟨mm, hm⟩
       ·have := run2 ad 0 0 0 0 hm h1 h2
        rw [Sem.run_bind, this]; simp
       ·rcases Option.eq_none_or_eq_some hi with hh | ⟨y, hh⟩
        ·exfalso; apply hcnd; simp [hm, hh]
        ·have hr0 : r = 0 := by
          have := (bnd_run (P := P) hs h3 .sliceB).2.2 (by simp [hm]); omega
         subst hr0
         have := run3 ad 0 0 0 0 0 mm y hm hh (by rw [hm] at h3; exact h3) (by rw [hh] at h1; exact h1) h2
         rw [Sem.run_bind, this]; simp
    ·cases h
   ·-- nil
    rename_i hp
    rw [hp] at hx
    have hv := hx.v_inv
    split at h
    ·rename_i p q r h1 h2 h3
     split at h
     ·cases h
     ·rename_i hcnd
      simp only [Option.some.injEq] at h
      subst h
      have hp0 : p = 0 := by
       rcases Option.eq_none_or_eq_some hi with hh | ⟨y, hh⟩
       ·rw [hh] at h1; simp [bnd] at h1; omega
       ·have := (bnd_run (P := P) hs h1 .sliceB).2.2 (by simp [hh]); omega
      have hq0 : q = 0 := by
       rcases Option.eq_none_or_eq_some lo with hh | ⟨y, hh⟩
       ·rw [hh] at h2; simp [bnd] at h2; omega
       ·have := (bnd_run (P := P) hs h2 .sliceB).2.2 (by simp [hh]); omega
      subst hp0; subst hq0
      refine does_pure hs.heap (x := .slice none 0 0) ?_ .v
      simp only [execOp, hop, hv]
      rcases Option.eq_none_or_eq_some mx with hm | ⟨mm, hm⟩
      ·have := run2 none 0 0 0 0 hm h1 h2
       rw [Sem.run_bind, this]; simp
      ·rcases Option.eq_none_or_eq_some hi with hh | ⟨y, hh⟩
       ·exfalso; apply hcnd; simp [hm, hh]
       ·have hr0 : r = 0 := by
         have := (bnd_run (P := P) hs h3 .sliceB).2.2 (by simp [hm]); omega
        subst hr0
        have := run3 none 0 0 0 0 0 mm y hm hh (by rw [hm] at h3; exact h3) (by rw [hh] at h1; exact h1) h2
        rw [Sem.run_bind, this]; simp
    ·cases h
   ·cases h
  ·cases h
 ·-- a string's part
  split at h
  ·rename_i s l hh hE hl hhi hmx
   have hv : a.eval x = .string s := by
    have := hs.ev x
    rw [hE] at this
    exact this.v_inv
   have up : ∀ {y : Option Operand} {q : Option Value}, vOpt (y.map e') = some q → y.map a.eval = q := by
    intro y q hq
    cases y with
    | none => simp only [Option.map_none, vOpt, Option.some.injEq] at hq; exact hq
    | some z =>
     simp only [Option.map_some] at hq ⊢
     have hz := hs.ev z
     unfold vOpt at hq
     split at hq
     ·rename_i e; cases e
     ·rename_i v e
      simp only [Option.some.injEq] at e hq
      rw [e] at hz
      rw [hz.v_inv, ← hq]
     ·cases hq
   have hm : mx = none := by cases mx <;> simp_all
   obtain ⟨z, hz, rfl⟩ := asV_some h
   refine does_pure hs.heap (x := z) ?_ .v
   subst hm
   have e1 := up hl
   have e2 := up hhi
   simp only [execOp, hop, hv, e1, e2, Option.map_none]
   rw [Sem.run_bind, pr_run hz w]; rfl
  ·cases h
end
end Go.AI
