/- Each step of the interpreter is true of the model: maps walked through, pointers compared, arrays sliced. -/
import Derived.Test.YtdakclpneghkmaaGreatDoorL04
import Derived.LaidEqlPtr
import Derived.Lib.ConvBytes
import Derived.Maps.RangeRun
import Derived.Test.YtdakclpneghkmaaGreatDoorL02
namespace Go.AI
set_option linter.unusedSectionVars false
variable [Sym]
set_option linter.unusedSimpArgs false
set_option linter.unusedVariables false
open Go.RowKit
section
variable {base : Nat} {w0 : World} {β : Nat → Nat} {fz : Nat → Prop} {e' : AEv} {H H' : Heap} {a : Act} {w : World} {P : Program} {C : Orc} {o : Oper} {av : AVal} {n : Nat} {ok : Bool → Nat → Prop}
theorem KSim.walked {base n id : Nat} {rows : List Row} {r : Row} (h : KSim base β fz w n id rows) (hr : r ∈ rows) (h2 : r.length ≠ 2) : GSim base β fz w n id rows := by
 rcases h with ⟨rs, hp, es, clock, _, _, _, h3⟩ | h
 ·exfalso
  obtain ⟨i, hi⟩ := List.mem_iff_getElem?.1 (hp.mem_iff.2 hr)
  obtain ⟨_, _, _, e, _⟩ := h3 i r hi
  rw [e] at h2; exact h2 rfl
 ·exact h
theorem HSim.walk (hs : HSim base w0 β fz H w) {id : Nat} {c : Int} {L : List Row} (h : H[id]? = some (some (0, [.v (.int .i64 c)] :: L))) :
  ∃ (es : Array MapEntry) (clock : Nat), w.heap[β id]? = some (.map es clock) ∧ Born es.toList clock ∧ c = (clock : Int) ∧ L.length = es.size ∧
   ∀ (i : Nat) (r : Row) (en : MapEntry), L[i]? = some r → es[i]? = some en → ∃ k x b, r = [k, x, b] ∧ R β (okOf base fz) w H.length k en.key ∧ R β (okOf base fz) w H.length x en.val ∧ R β (okOf base fz) w H.length b (.int .i64 (en.born : Int)) := by
 have hO := hs.objs' id 0 _ h
 rw [OSim, if_pos rfl] at hO
 obtain ⟨ob, xs, h1, h2, ⟨h3, h4⟩, _⟩ := hO.walked (r := [.v (.int .i64 c)]) (by simp) (by simp)
 rcases h2 with ⟨es, clock, rfl, hb, rfl⟩ | ⟨m, si, st, seen, rfl, rfl⟩
 ·have hc := ((h4 0 _ _ rfl rfl).2 0 _ _ rfl rfl).v_inv
  simp only [Value.int.injEq, true_and] at hc
  refine ⟨es, clock, h1, hb, hc.symm, by simpa using h3.symm, fun i r en hi he => ?_⟩
  have he2 : ([Value.int .i64 (clock : Int)] :: es.toList.map fun e => [e.key, e.val, .int .i64 (e.born : Int)])[i + 1]? = some [en.key, en.val, .int .i64 (en.born : Int)] := by
   simp [he]
  obtain ⟨q1, q2⟩ := h4 (i + 1) r _ (by simpa using hi) he2
  match r, q1 with
  | [k, x, b], _ => exact ⟨k, x, b, rfl, q2 0 _ _ rfl rfl, q2 1 _ _ rfl rfl, q2 2 _ _ rfl rfl⟩
 ·have := (h4 0 _ _ rfl rfl).1
  simp at this
theorem HSim.iter (hs : HSim base w0 β fz H w) {rid id : Nat} {s c : Int} {sn : Row} (h : H[rid]? = some (some (0, [[.ptr id 0 0 0, .v (.int .i64 s), .v (.int .i64 c)], sn]))) :
  ∃ (since stepped : Nat) (seen : Array Nat), w.heap[β rid]? = some (.mapIter (some (β id)) since seen stepped) ∧ s = (since : Int) ∧ c = (stepped : Int) ∧ sn.length = seen.size ∧
   ∀ (j : Nat) (x : AVal) (b : Nat), sn[j]? = some x → seen[j]? = some b → R β (okOf base fz) w H.length x (.int .i64 (b : Int)) := by
 have hO := hs.objs' rid 0 _ h
 rw [OSim, if_pos rfl] at hO
 obtain ⟨ob, xs, h1, h2, ⟨h3, h4⟩, _⟩ := hO.walked (r := [.ptr id 0 0 0, .v (.int .i64 s), .v (.int .i64 c)]) (by simp) (by simp)
 rcases h2 with ⟨es, clock, rfl, hb, rfl⟩ | ⟨m, si, st, seen, rfl, rfl⟩
 ·have := (h4 0 _ _ rfl rfl).1
  simp at this
 ·obtain ⟨_, q⟩ := h4 0 _ _ rfl rfl
  have hm := q 0 _ _ rfl rfl
  have hm2 : m = β id := by
   generalize hv : Value.map (some m) = v at hm
   cases hm with
   | ptr _ h0 => exact absurd rfl h0
   | mp _ => simpa using hv
  subst hm2
  have e1 := (q 1 _ _ rfl rfl).v_inv
  have e2 := (q 2 _ _ rfl rfl).v_inv
  simp only [Value.int.injEq, true_and] at e1 e2
  obtain ⟨l1, l2⟩ := h4 1 sn _ rfl rfl
  refine ⟨si, st, seen, h1, e1.symm, e2.symm, by simpa using l1.symm, fun j x b hx hb => l2 j x _ hx (by simp [hb])⟩
theorem HSim.allocG (hs : HSim base w0 β fz H w) {rows : List Row} {ob : Obj} (hG : GSim base (bump β H.length w.heap.size) fz (w.alloc ob) (H ++ [some (0, rows)]).length H.length rows) :
  HSim base w0 (bump β H.length w.heap.size) fz (H ++ [some (0, rows)]) (w.alloc ob) ∧ Ext H.length β fz w (H ++ [some (0, rows)]).length (bump β H.length w.heap.size) fz (w.alloc ob) := by
 have hbl := Nat.le_trans hs.base hs.below.size
 have ext : Ext H.length β fz w (H ++ [some (0, rows)]).length (bump β H.length w.heap.size) fz (w.alloc ob) :=
  ⟨by simp, fun id hi => by simp [bump]; omega, fun _ h => h, fun b hb => Below.heap_alloc w _ b (hs.fzlt b hb), Shapes.alloc w _⟩
 have hold : ∀ k x, (H ++ [some (0, rows)])[k]? = some x → k ≠ H.length → H[k]? = some x := by
  intro k x hk hne
  rw [List.getElem?_append] at hk
  split at hk
  ·exact hk
  ·have : k - H.length ≠ 0 := by omega
   simp [this] at hk
 have hlive : ∀ k, Live (H ++ [some (0, rows)]) k → k ≠ H.length → Live H k := fun k ⟨x, hx⟩ hne => ⟨x, hold k _ hx hne⟩
 refine ⟨⟨?_, ?_, ?_, ?_, hs.below.alloc hbl _, hs.base⟩, ext⟩
 ·intro k sz' rws hk
  by_cases hki : k = H.length
  ·subst hki
   have : (H ++ [some (0, rows)])[H.length]? = some (some (0, rows)) := by simp
   rw [this] at hk
   simp only [Option.some.injEq, Prod.mk.injEq] at hk
   obtain ⟨rfl, rfl⟩ := hk
   rw [OSim, if_pos rfl]
   exact .inr hG
  ·have hk' := hold k _ hk hki
   refine (hs.objs' k sz' rws hk').ext ext ?_
   simp only [bump, hki, if_false]
   rw [Below.heap_alloc w _ (β k) (hs.blt ⟨_, hk'⟩)]
 ·intro a b ha hb he
  by_cases h1 : a = H.length <;> by_cases h2 : b = H.length
  ·omega
  ·have := hs.blt (hlive b hb h2)
   simp [bump, h1, h2] at he; omega
  ·have := hs.blt (hlive a ha h1)
   simp [bump, h1, h2] at he; omega
  ·simp only [bump, h1, h2, if_false] at he
   exact hs.inj a b (hlive a ha h1) (hlive b hb h2) he
 ·intro k hk
  by_cases h1 : k = H.length
  ·simp only [bump, h1, if_true]
   exact ⟨hbl, fun hf => Nat.lt_irrefl _ (hs.fzlt _ hf)⟩
  ·simp only [bump, h1, if_false]
   exact hs.own k (hlive k hk h1)
 ·exact fun b hb => by have := hs.fzlt b hb; show b < (w.heap.push _).size; simp; omega
theorem mapV {v : Value} {id : Nat} (h : R β ok w n (.ptr id 0 0 0) v) : v = .map (some (β id)) := by
 cases h with
 | ptr _ h0 => exact absurd rfl h0
 | mp _ => rfl
theorem ptrV {v : Value} {id sz i off : Nat} (h0 : sz ≠ 0) (h : R β ok w n (.ptr id sz i off) v) : id < n ∧ v = .pointer (some ⟨β id, i * sz + off, none⟩) := by
 cases h with
 | ptr h _ => exact ⟨h, rfl⟩
 | mp _ => exact absurd rfl h0
theorem HSim.void (hs : HSim base w0 β fz H w) {id : Nat} (h : H[id]? = some (some (0, []))) : ∃ clock, w.heap[β id]? = some (.map #[] clock) := by
 have hO := hs.objs' id 0 _ h
 rw [OSim, if_pos rfl] at hO
 obtain ⟨rs, hp, es, clock, h1, h2, _⟩ := hO.ofMap (fun _ _ e => by cases e)
 have hr : rs = [] := List.Perm.eq_nil hp
 subst hr
 have : es = #[] := Array.eq_empty_of_size_eq_zero (by simpa using h2)
 subst this
 exact ⟨clock, h1⟩
theorem HSim.iter0 (hs : HSim base w0 β fz H w) {rid id : Nat} {s c : AVal} (h : H[rid]? = some (some (0, [[.ptr id 0 0 0, s, c], []]))) :
  ∃ (since stepped : Nat), w.heap[β rid]? = some (.mapIter (some (β id)) since #[] stepped) := by
 have hO := hs.objs' rid 0 _ h
 rw [OSim, if_pos rfl] at hO
 obtain ⟨ob, xs, h1, h2, ⟨h3, h4⟩, _⟩ := hO.walked (r := [.ptr id 0 0 0, s, c]) (by simp) (by simp)
 rcases h2 with ⟨es, clock, rfl, hb, rfl⟩ | ⟨m, si, st, seen, rfl, rfl⟩
 ·have := (h4 0 _ _ rfl rfl).1
  simp at this
 ·obtain ⟨_, q⟩ := h4 0 _ _ rfl rfl
  have hm := q 0 _ _ rfl rfl
  have hm2 : m = β id := by
   generalize hv : Value.map (some m) = v at hm
   cases hm with
   | ptr _ h0 => exact absurd rfl h0
   | mp _ => simpa using hv
  subst hm2
  obtain ⟨l1, _⟩ := h4 1 [] _ rfl rfl
  have : seen = #[] := Array.eq_empty_of_size_eq_zero (by simpa using l1)
  subst this
  exact ⟨si, st, h1⟩
theorem does_next0 {x : Operand} (hop : o.op = .next x false) (hs : SimE base w0 β fz e' H a w) (h : aNext (e' x) H = some av) : Does P o a w base w0 β fz H av H := by
 have hx := hs.ev x
 unfold aNext at h
 split at h
 ·rename_i rid hp
  rw [hp] at hx
  obtain ⟨_, hv⟩ := ptrV (by decide) hx
  split at h
  ·rename_i id s c hit
   split at h
   ·rename_i hmp
    simp only [Option.some.injEq] at h
    subst h
    obtain ⟨clock, h1⟩ := hs.heap.void hmp
    obtain ⟨si, st, h2⟩ := hs.heap.iter0 hit
    refine does_pure hs.heap (x := .tuple #[.bool false]) ?_ .v
    simp only [execOp, hop, hv]
    simp [Instr.next, getObj, Sem.run_bind, Sem.run, h1, h2, Result.andThen, choose, Question.forced]
   ·cases h
  ·cases h
 ·cases h
theorem does_range {t : TypeId} {x : Operand} (hop : o.op = .range t x) (hs : SimE base w0 β fz e' H a w) (h : aRange P t (e' x) H = some (av, H')) : Does P o a w base w0 β fz H av H' := by
 have hx := hs.ev x
 unfold aRange at h
 split at h
 ·rename_i k el id hu hp
  rw [hp] at hx
  have hv := mapV hx
  split at h
  ·rename_i c L hob
   simp only [Option.some.injEq, Prod.mk.injEq] at h
   obtain ⟨rfl, rfl⟩ := h
   obtain ⟨es, clock, h1, hb, rfl, hl, hr⟩ := hs.heap.walk hob
   have hid : id < H.length := (List.getElem?_eq_some_iff.1 hob).1
   have hG : GSim base (bump β H.length w.heap.size) fz (w.alloc (.mapIter (some (β id)) clock #[] clock)) (H ++ [some (0, [[AVal.ptr id 0 0 0, .v (.int .i64 (clock : Int)), .v (.int .i64 (clock : Int))], []])]).length H.length
     [[.ptr id 0 0 0, .v (.int .i64 (clock : Int)), .v (.int .i64 (clock : Int))], []] := by
    refine ⟨.mapIter (some (β id)) clock #[] clock, [[.map (some (β id)), .int .i64 (clock : Int), .int .i64 (clock : Int)], []], ?_, .inr ⟨β id, clock, clock, #[], rfl, rfl⟩, ⟨rfl, fun i r xx hi hxx => ?_⟩, _, _, rfl, by simp⟩
    ·simp only [bump, if_true]
     show (w.heap.push _)[w.heap.size]? = _
     simp
    ·match i, hi, hxx with
     | 0, hi, hxx =>
      simp at hi hxx
      subst hi hxx
      refine ⟨rfl, fun j y v hy hv => ?_⟩
      match j, hy, hv with
      | 0, hy, hv =>
       simp at hy hv
       subst hy hv
       have := R.mp (β := bump β H.length w.heap.size) (ok := okOf base fz) (w := w.alloc (.mapIter (some (β id)) clock #[] clock)) (n := (H ++ [some (0, [[AVal.ptr id 0 0 0, .v (.int .i64 (clock : Int)), .v (.int .i64 (clock : Int))], []])]).length) (id := id) (by simp; omega)
       have hne : id ≠ H.length := by omega
       simpa [bump, hne] using this
      | 1, hy, hv => simp at hy hv; subst hy hv; exact .v
      | 2, hy, hv => simp at hy hv; subst hy hv; exact .v
     | 1, hi, hxx =>
      simp at hi hxx
      subst hi hxx
      exact ⟨rfl, fun j y v hy _ => by simp at hy⟩
   obtain ⟨q1, q2⟩ := hs.heap.allocG hG
   refine does_val (w' := w.alloc (.mapIter (some (β id)) clock #[] clock)) (x := .pointer (some ⟨w.heap.size, 0, none⟩)) ?_ q1 q2 ?_
   ·simp only [execOp, hop, hv]
    simp [run_range_map w t k el (β id) es clock hu h1]
   ·have := R.ptr (β := bump β H.length w.heap.size) (ok := okOf base fz) (w := w.alloc (.mapIter (some (β id)) clock #[] clock)) (n := (H ++ [some (0, [[AVal.ptr id 0 0 0, .v (.int .i64 (clock : Int)), .v (.int .i64 (clock : Int))], []])]).length) (id := H.length) (sz := 1) (i := 0) (off := 0) (by simp) (by decide)
    simpa [bump] using this
  ·rename_i hob
   simp only [Option.some.injEq, Prod.mk.injEq] at h
   obtain ⟨rfl, rfl⟩ := h
   obtain ⟨clock, h1⟩ := hs.heap.void hob
   have hid : id < H.length := (List.getElem?_eq_some_iff.1 hob).1
   have hG : GSim base (bump β H.length w.heap.size) fz (w.alloc (.mapIter (some (β id)) clock #[] clock)) (H ++ [some (0, [[AVal.ptr id 0 0 0, .junk, .junk], []])]).length H.length
     [[.ptr id 0 0 0, .junk, .junk], []] := by
    refine ⟨.mapIter (some (β id)) clock #[] clock, [[.map (some (β id)), .int .i64 (clock : Int), .int .i64 (clock : Int)], []], ?_, .inr ⟨β id, clock, clock, #[], rfl, rfl⟩, ⟨rfl, fun i r xx hi hxx => ?_⟩, _, _, rfl, by simp⟩
    ·simp only [bump, if_true]
     show (w.heap.push _)[w.heap.size]? = _
     simp
    ·match i, hi, hxx with
     | 0, hi, hxx =>
      simp at hi hxx
      subst hi hxx
      refine ⟨rfl, fun j y v hy hv => ?_⟩
      match j, hy, hv with
      | 0, hy, hv =>
       simp at hy hv
       subst hy hv
       have := R.mp (β := bump β H.length w.heap.size) (ok := okOf base fz) (w := w.alloc (.mapIter (some (β id)) clock #[] clock)) (n := (H ++ [some (0, [[AVal.ptr id 0 0 0, .junk, .junk], []])]).length) (id := id) (by simp; omega)
       have hne : id ≠ H.length := by omega
       simpa [bump, hne] using this
      | 1, hy, hv => simp at hy hv; subst hy hv; exact .junk
      | 2, hy, hv => simp at hy hv; subst hy hv; exact .junk
     | 1, hi, hxx =>
      simp at hi hxx
      subst hi hxx
      exact ⟨rfl, fun j y v hy _ => by simp at hy⟩
   obtain ⟨q1, q2⟩ := hs.heap.allocG hG
   refine does_val (w' := w.alloc (.mapIter (some (β id)) clock #[] clock)) (x := .pointer (some ⟨w.heap.size, 0, none⟩)) ?_ q1 q2 ?_
   ·simp only [execOp, hop, hv]
    simp [run_range_map w t k el (β id) #[] clock hu h1]
   ·have := R.ptr (β := bump β H.length w.heap.size) (ok := okOf base fz) (w := w.alloc (.mapIter (some (β id)) clock #[] clock)) (n := (H ++ [some (0, [[AVal.ptr id 0 0 0, .junk, .junk], []])]).length) (id := H.length) (sz := 1) (i := 0) (off := 0) (by simp) (by decide)
    simpa [bump] using this
  ·cases h
 ·cases h
theorem stamp_at {s : Int} : ∀ {L : List Row} {k x : AVal}, stampR s L = some (k, x) → ∃ i : Nat, L[i]? = some [k, x, .v (.int .i64 s)]
 | [], _, _, h => by simp [stampR] at h
 | r :: L, k, x, h => by
  unfold stampR at h
  split at h
  ·cases ‹_ = []›
  ·rename_i k' a' t r' e
   cases e
   split at h
   ·rename_i ht
    cases h
    exact ⟨0, by rw [ht]; rfl⟩
   ·obtain ⟨i, hi⟩ := stamp_at h
    exact ⟨i + 1, by simpa using hi⟩
  ·cases h
theorem does_entry {x : Operand} (hop : o.op = .entry x) (hs : SimE base w0 β fz e' H a w) (h : aEntry (e' x) H = some av) : Does P o a w base w0 β fz H av H := by
 have hx := hs.ev x
 unfold aEntry at h
 split at h
 ·rename_i rid hp
  rw [hp] at hx
  obtain ⟨_, hv⟩ := ptrV (by decide) hx
  split at h
  ·rename_i id s0 c sn hit
   split at h
   ·rename_i c' L s hmp hla
    split at h
    ·rename_i hcc
     subst hcc
     simp only [Option.map_eq_some_iff] at h
     obtain ⟨⟨k, y⟩, hst, rfl⟩ := h
     obtain ⟨es, clock, h1, hb, e1, hl, hr⟩ := hs.heap.walk hmp
     obtain ⟨since, stepped, seen, g1, g2, g3, g4, g5⟩ := hs.heap.iter hit
     have hcl : clock = stepped := by omega
     obtain ⟨i, hi⟩ := stamp_at hst
     have hie : i < es.size := by rw [← hl]; exact (List.getElem?_eq_some_iff.1 hi).1
     obtain ⟨k', y', b', e2, r1, r2, r3⟩ := hr i _ es[i] hi (Array.getElem?_eq_getElem hie)
     simp only [List.cons.injEq, and_true] at e2
     obtain ⟨rfl, rfl, rfl⟩ := e2
     have hbn := r3.v_inv
     simp only [Value.int.injEq, true_and] at hbn
     have hsz : 0 < seen.size := by
      rw [← g4]
      cases sn with
      | nil => simp at hla
      | cons _ _ => simp
     have hla2 : sn[seen.size - 1]? = some (.v (.int .i64 s)) := by rw [← g4, ← List.getLast?_eq_getElem?]; exact hla
     have hbk : seen.back? = some seen[seen.size - 1] := by
      rw [Array.back?_eq_getElem?, Array.getElem?_eq_getElem (by omega)]
     have hsl := (g5 (seen.size - 1) _ _ hla2 (Array.getElem?_eq_getElem (by omega))).v_inv
     simp only [Value.int.injEq, true_and] at hsl
     have hst2 : es[i].born = seen[seen.size - 1] := by omega
     have hf : es.find? (·.born == seen[seen.size - 1]) = some es[i] := by
      rw [← hst2, ← Array.find?_toList]
      exact find_born es[i] es.toList hb.nodup (by simp)
     refine does_pure hs.heap (x := .tuple #[es[i].key, es[i].val]) ?_ ?_
     ·simp only [execOp, hop, hv]
      subst hcl
      simp only [Instr.entry, getObj]
      simp [Sem.run, g1, h1, hbk, hf, Result.andThen]
     ·refine .tup (by simp) fun j a' ha => ?_
      match j, ha with
      | 0, ha => simp at ha; subst ha; simpa using r1
      | 1, ha => simp at ha; subst ha; simpa using r2
    ·cases h
   ·cases h
  ·cases h
 ·cases h
theorem HSim.rerow (hs : HSim base w0 β fz H w) {id sz sz' : Nat} {R R' : List Row} (hob : obj H id = some (sz, R)) (h0 : sz' ≠ 0) (hC : CSim base β fz w H.length id sz' R') :
  HSim base w0 β fz (H.set id (some (sz', R'))) w := by
 have hlive : Live H id := ⟨_, obj_some hob⟩
 refine ⟨fun k z rws hk => ?_, fun a b ha hb => hs.inj a b (ha.set hlive) (hb.set hlive), fun k hk => hs.own k (hk.set hlive), hs.fzlt, hs.below, hs.base⟩
 rw [List.length_set]
 by_cases hki : k = id
 ·subst hki
  have hlt : k < H.length := (List.getElem?_eq_some_iff.1 (obj_some hob)).1
  rw [List.getElem?_set_self hlt] at hk
  simp only [Option.some.injEq, Prod.mk.injEq] at hk
  obtain ⟨rfl, rfl⟩ := hk
  rw [OSim, if_neg h0]
  exact hC
 ·rw [List.getElem?_set_ne (fun e => hki e.symm)] at hk
  exact hs.objs' k z rws hk
theorem does_sliceA {t : TypeId} {x : Operand} (hop : o.op = .slice t x none none none) (hs : SimE base w0 β fz e' H a w) (h : aSliceA P t (e' x) H = some (av, H')) : Does P o a w base w0 β fz H av H' := by
 have hx := hs.ev x
 unfold aSliceA at h
 split at h
 ·rename_i n e id sz off harr hp
  rw [hp] at hx
  split at h
  ·rename_i sz' rows hob
   split at h
   ·rename_i hc
    obtain ⟨hsz, hz0, hn⟩ := hc
    obtain ⟨hlt, hv⟩ := ptrV hz0 hx
    obtain ⟨cs, ty, g1, g2, g3, g4, g5⟩ := hs.heap.cells hob
    have hu : P.underlying t = some (.array n e) := by
     unfold arrayOf at harr
     split at harr
     ·rename_i n' e' hu; cases harr; exact hu
     ·cases harr
    have h0 : ¬ n = 0 := by omega
    split at h
    ·rename_i h1
     subst h1
     split at h
     case isFalse => cases h
     rename_i hoff
     simp only [Option.some.injEq, Prod.mk.injEq] at h
     obtain ⟨rfl, rfl⟩ := h
     have hcs : rows.length ≤ cs.size := by simpa using g3
     refine does_pure hs.heap (x := .slice (some ⟨β id, off, none⟩) n n) ?_ ?_
     ·simp only [execOp, hop, hv]
      simp [Instr.sliceAt, run_underlying hu, Instr.sureAddr, Instr.sliceBounds, run_sz hsz, Addr.add, h0]
     ·exact R.osl (β := β) (ok := okOf base fz) (w := w) (n := H.length) (id := id) (sz := 1) (s := off) (len := n) (kc := n) (a := ⟨β id, off, none⟩) (cap := n) hlt (Nat.le_refl _) (Nat.le_refl _) (.inr ⟨by simp, cs, ty, _, g1, by omega⟩)
    ·split at h
     case h_2 => cases h
     rename_i row
     split at h
     case isFalse => cases h
     rename_i hoff
     obtain ⟨rfl, hoff⟩ := hoff
     simp only [Option.some.injEq, Prod.mk.injEq] at h
     obtain ⟨rfl, rfl⟩ := h
     have hrl : row.length = sz' := g2 row (by simp)
     have hcs : sz' ≤ cs.size := by simpa using g3
     have hC : CSim base β fz w H.length id 1 (row.map fun c => [c]) := by
      refine ⟨cs, ty, g1, fun r hr => ?_, by simp; omega, g4, fun i r hi j y hy => ?_⟩
      ·obtain ⟨c, _, rfl⟩ := List.mem_map.1 hr; rfl
      ·simp only [List.getElem?_map, Option.map_eq_some_iff] at hi
       obtain ⟨c, hc, rfl⟩ := hi
       cases j with
       | succ j => simp at hy
       | zero =>
        simp at hy; subst hy
        have := g5 0 row rfl i c hc
        simpa using this
     have ext : Ext H.length β fz w (H.set id (some (1, row.map fun c => [c]))).length β fz w := ⟨by simp, fun _ _ => rfl, fun _ h => h, fun _ _ => rfl, Shapes.refl _⟩
     refine does_val (w' := w) (x := .slice (some ⟨β id, off, none⟩) n n) ?_ (hs.heap.rerow hob (by decide) hC) ext ?_
     ·simp only [execOp, hop, hv]
      simp [Instr.sliceAt, run_underlying hu, Instr.sureAddr, Instr.sliceBounds, run_sz hsz, Addr.add, h0]
     ·exact R.osl (β := β) (ok := okOf base fz) (w := w) (n := (H.set id (some (1, row.map fun c => [c]))).length) (id := id) (sz := 1) (s := off) (len := n) (kc := n) (a := ⟨β id, off, none⟩) (cap := n) (by simpa using hlt) (Nat.le_refl _) (Nat.le_refl _) (.inr ⟨by simp, cs, ty, _, g1, by omega⟩)
   ·cases h
  ·cases h
 ·cases h
theorem does_eqH {op : BinOp} {t u : TypeId} {x y : Operand} (hop : o.op = .binOp op t x y u) (hs : SimE base w0 β fz e' H a w) (h : aEqH P op t (e' x) (e' y) H = some av) : Does P o a w base w0 β fz H av H := by
 have hx := hs.ev x
 have hy := hs.ev y
 unfold aEqH at h
 split at h
 ·rename_i te i s xx yy i' s' x' y' hu hp hq
  split at h
  ·cases h
  ·rename_i hsz
   split at h
   ·rename_i hc
    obtain ⟨rfl, rfl, rfl, hs0, hl1, hl2⟩ := hc
    simp only [Option.some.injEq] at h
    subst h
    rw [hp] at hx; rw [hq] at hy
    obtain ⟨_, hvx⟩ := ptrV hs0 hx
    obtain ⟨_, hvy⟩ := ptrV hs0 hy
    have hj : ∃ j : TypeInfo, P.info? te = some j ∧ j.size ≠ 0 := by
     unfold szOf at hsz
     cases hi : P.info? te with
     | none => rw [hi] at hsz; exact absurd (.inr rfl) hsz
     | some j => rw [hi] at hsz; exact ⟨j, rfl, fun e => hsz (.inl (by simp [e]))⟩
    obtain ⟨j, hj1, hj2⟩ := hj
    have hlive : ∀ {k : Nat}, (obj H k).isSome = true → ∃ q, obj H k = some q := fun h => Option.isSome_iff_exists.1 h
    obtain ⟨⟨z1, R1⟩, o1⟩ := hlive hl1
    obtain ⟨⟨z2, R2⟩, o2⟩ := hlive hl2
    obtain ⟨c1, t1, k1, _⟩ := hs.heap.cells o1
    obtain ⟨c2, t2, k2, _⟩ := hs.heap.cells o2
    refine does_pure hs.heap (x := .bool (i == i')) ?_ .v
    simp only [execOp, hop, hvx, hvy]
    simp only [eqGuard]
    by_cases he : i = i'
    ·subst he
     simp [run_eql_ptr_same w _ hu hj1]
    ·have hne : β i ≠ β i' := fun e => he (hs.heap.inj i i' ⟨_, obj_some o1⟩ ⟨_, obj_some o2⟩ e)
     have := run_eql_ptr_other w (a := ⟨β i, xx * s + yy, none⟩) (b := ⟨β i', xx * s + yy, none⟩) hu hj1 hj2 (fun e => hne (by injection e)) k1 k2
     simp [this, he]
   ·cases h
 ·cases h
end
theorem b2s_run {P : Program} {w : World} {a : Addr} {l : List Int} {cap : Nat} (h : (loadCells a l.length).run P w = .ok (l.map fun n => Value.int .u8 n).toArray w) : (Conv.bytesToString (.slice (some a) l.length cap)).run P w = .ok (.string (strB l)) w := by
 unfold Conv.bytesToString
 simp [h, strB]
theorem bytesR_len : ∀ {rows : List Row} {l : List Int}, bytesR rows = some l → rows = l.map fun n => [.v (.int .u8 n)]
 | [], l, h => by simp only [bytesR, Option.some.injEq] at h; subst h; rfl
 | r :: rows, l, h => by
  unfold bytesR at h
  split at h
  ·rename_i h0; cases h0
  ·rename_i n r' h0
   cases h0
   simp only [Option.map_eq_some_iff] at h
   obtain ⟨l', h1, rfl⟩ := h
   rw [bytesR_len h1]; rfl
  ·cases h
section
variable {base : Nat} {w0 : World} {β : Nat → Nat} {fz : Nat → Prop} {H : Heap} {w : World} {P : Program}
theorem str_run {s d : TypeId} {x r : AVal} {v : Value} (hs : HSim base w0 β fz H w) (hv : R β (okOf base fz) w H.length x v) (h : aStr P s d x H = some r) : ∃ b, r = .v (.string b) ∧ (convert s d v).run P w = .ok (.string b) w := by
 unfold aStr at h
 split at h
 case isFalse => cases h
 rename_i hT
 unfold strT at hT
 split at hT
 ·rename_i e hd hS
  split at hT
  ·rename_i he
   simp only [Option.bind_eq_some_iff] at h
   obtain ⟨rows, hr, h⟩ := h
   ·simp only [Option.map_eq_some_iff] at h
    obtain ⟨l, hl, rfl⟩ := h
    refine ⟨_, rfl, ?_⟩
    obtain ⟨ad, cap, cs, rfl, hcap, hF, hrun⟩ := rows_R (P := P) hs hr (by decide) (soft_R hv)
    have hrows := bytesR_len hl
    have hlen : rows.length = l.length := by rw [hrows, List.length_map]
    have hcs : cs = l.map fun n => Value.int .u8 n := by
     apply List.ext_getElem
     ·rw [hF.2.1, hlen, List.length_map]; omega
     ·intro i h1 h2
      rw [List.length_map] at h2
      have h3 := hF.2.2.2 i [.v (.int .u8 l[i])] (by rw [hrows]; simp [h2]) 0 _ rfl
      rw [Nat.mul_one, Nat.add_zero] at h3
      have h4 := h3.v_inv
      rw [List.getElem?_eq_getElem h1] at h4
      simpa using h4
    have hk := hrun rows.length (Nat.le_refl _)
    rw [hlen] at hk ⊢
    have hu1 : (underlying s).run P w = .ok (.slice e) w := by simp [underlying, hS]
    have hu2 : (underlying d).run P w = .ok .string w := by simp [underlying, hd]
    have hu3 : (underlying e).run P w = .ok (.int .u8) w := by simp [underlying, he]
    unfold convert
    cases ad with
    | none =>
     simp only [Builtin.firstCells] at hk
     rw [hcs, List.take_of_length_le (by simp)] at hk
     have hl0 : l = [] := by
      simp at hk
      simpa using hk
     subst hl0
     simp [hu1, hu2, hu3, Conv.bytesToString, strB]
    | some a =>
     have hk2 : (loadCells a l.length).run P w = .ok (l.map fun n => Value.int .u8 n).toArray w := by
      simp only [Builtin.firstCells, Nat.mul_one] at hk
      rw [hk, hcs, List.take_of_length_le (by simp)]
     have := b2s_run (cap := cap) hk2
     simp [hu1, hu2, hu3, this]
  ·cases hT
 ·cases hT
theorem does_str {e' : AEv} {a : Act} {o : Oper} {av : AVal} {s d : TypeId} {x : Operand} (hop : o.op = .convert s d x) (hs : SimE base w0 β fz e' H a w) (h : aStr P s d (e' x) H = some av) : Does P o a w base w0 β fz H av H := by
 obtain ⟨b, rfl, hrun⟩ := str_run (P := P) hs.heap (hs.ev x) h
 refine does_pure hs.heap (x := .string b) ?_ .v
 simp only [execOp, hop]
 simp [hrun]
theorem byt_below (w : World) (e : TypeId) (s : ByteArray) : Below w.heap.size w (Lib.bytesWorld w e s) := by
 refine ⟨?_, ?_, ?_, by rw [Lib.bytesWorld_size]; omega, fun k hk => Lib.bytesWorld_at_old w e s k hk, ?_⟩
 all_goals simp [Lib.bytesWorld, World.freeze, World.alloc, World.drew, -World.alloc_eq, -World.drew_eq]
theorem does_byt {e' : AEv} {a : Act} {o : Oper} {av : AVal} {s d : TypeId} {x : Operand} {y : Value} (hop : o.op = .convert s d x) (hs : SimE base w0 β fz e' H a w) (hx : e' x = .v y) (h : aByt P s d y = some av) : Does P o a w base w0 β fz H av H := by
 have hy : a.eval x = y := by have := hs.ev x; rw [hx] at this; exact this.v_inv
 unfold aByt at h
 split at h
 case h_2 => cases h
 rename_i b
 split at h
 case h_2 => cases h
 rename_i u e hu hd
 split at h
 case h_2 => cases h
 rename_i he
 simp only [Option.some.injEq] at h
 subst h
 obtain ⟨q1, q2⟩ := hs.heap.called (byt_below w e b)
 have hrun : (convert s d (a.eval x)).run P w = .ok (.slice (some ⟨w.heap.size, 0, none⟩) b.size (grownCap w b.size 0 e)) (Lib.bytesWorld w e b) := by
  rw [hy]
  exact Lib.run_convert_string_bytes (P := P) w s d e b hu hd he
 refine does_val (x := .slice (some ⟨w.heap.size, 0, none⟩) b.size (grownCap w b.size 0 e)) ?_ q1 q2 ?_
 ·simp only [execOp, hop]
  simp [hrun]
 ·have hlen : (bytRows b).length = b.size := by simp [bytRows]
  have hwl : w.heap.size < (Lib.bytesWorld w e b).heap.size := by rw [Lib.bytesWorld_size]; omega
  have hb0 : base ≤ w.heap.size := Nat.le_trans hs.heap.base hs.heap.below.size
  rw [← hlen]
  refine .fsl (fun i _ => .int .u8 (b.data.toList.getD i 0).toNat) (by rw [hlen]; exact grownCap_ge w b.size 0 e) (fun r hr => ?_) (fun _ => ⟨.inr ⟨Nat.le_refl _, hwl⟩, fun _ => hb0⟩) (fun i j hi hj => ?_) (fun i r hi j c hj => ?_)
  ·simp only [bytRows, List.mem_map] at hr
   obtain ⟨_, _, rfl⟩ := hr
   rfl
  ·have hj0 : j = 0 := by omega
   subst hj0
   rw [hlen] at hi
   exact ⟨by simpa using Lib.bytesWorld_cell w e b i hi, rfl⟩
  ·simp only [bytRows, List.getElem?_map, Option.map_eq_some_iff] at hi
   obtain ⟨y, hy, rfl⟩ := hi
   cases j with
   | zero =>
    simp only [List.getElem?_cons_zero, Option.some.injEq] at hj
    subst hj
    have e2 : b.data.toList.getD i 0 = y := by simp [List.getD, hy]
    rw [e2]
    exact .v
   | succ j => simp at hj
end
end Go.AI
/- One operation; a region in the order of its text. -/
namespace Go.AI
set_option linter.unusedSectionVars false
variable [Sym]
set_option linter.unusedSimpArgs false
set_option linter.unusedVariables false
open Go.RowKit
section
variable {base : Nat} {w0 : World} {β : Nat → Nat} {fz : Nat → Prop} {e' : AEv} {H H' : Heap} {a : Act} {w : World} {P : Program} {C : Orc} {o : Oper} {av : AVal} {n : Nat} {ok ok' : Bool → Nat → Prop}
theorem valsOf_eval (hs : SimE base w0 β fz e' H a w) : ∀ (xs : List Operand) (vs : List Value), valsOf (xs.map (e')) = some vs → xs.map a.eval = vs
 | [], vs, h => by simp [valsOf] at h; subst h; rfl
 | x :: xs, vs, h => by
  simp only [List.map_cons] at h
  have hx := hs.ev x
  generalize e' x = y at *
  cases y <;> simp only [valsOf, reduceCtorEq, Option.map_eq_some_iff] at h
  obtain ⟨ys, hy, rfl⟩ := h
  rw [List.map_cons, valsOf_eval hs xs ys hy, hx.v_inv]
theorem arr1 {α : Type} {xs : Array α} {x : α} (h : xs.toList = [x]) : xs = #[x] := by
 cases xs; simpa using h
theorem arr2 {α : Type} {xs : Array α} {x y : α} (h : xs.toList = [x, y]) : xs = #[x, y] := by
 cases xs; simpa using h
theorem does_builtin {c : Call} {b : Builtin} (hop : o.op = .call c) (hf : c.callee = .builtin b) (hs : SimE base w0 β fz e' H a w)
  (h : aBuiltin P b c.argTypes (c.args.toList.map (e')) H = some (av, H')) : Does P o a w base w0 β fz H av H' := by
 have hex : execOp a.eval o = builtin b c.argTypes o.type (c.args.map fun | .const _ => true | _ => false) (c.args.map a.eval) := by
  simp only [execOp, hop, resolve, hf]; rfl
 have hargs1 : ∀ x : AVal, c.args.toList.map (e') = [x] → ∃ p, c.args = #[p] ∧ e' p = x := by
  intro x hx
  obtain ⟨p, hp1, hp2⟩ : ∃ p, c.args.toList = [p] ∧ e' p = x := by
   cases hl : c.args.toList with
   | nil => simp [hl] at hx
   | cons p r => cases r <;> simp [hl] at hx; exact ⟨p, rfl, hx⟩
  exact ⟨p, arr1 hp1, hp2⟩
 have hargs2 : ∀ x y : AVal, c.args.toList.map (e') = [x, y] → ∃ p q, c.args = #[p, q] ∧ e' p = x ∧ e' q = y := by
  intro x y hx
  obtain ⟨p, q, hp1, hp2, hp3⟩ : ∃ p q, c.args.toList = [p, q] ∧ e' p = x ∧ e' q = y := by
   cases hl : c.args.toList with
   | nil => simp [hl] at hx
   | cons p r =>
    cases r with
    | nil => simp [hl] at hx
    | cons q r => cases r <;> simp [hl] at hx; exact ⟨p, q, rfl, hx.1, hx.2⟩
  exact ⟨p, q, arr2 hp1, hp2, hp3⟩
 unfold aBuiltin at h
 split at h
 ·rename_i t x hts hx
  simp only [Option.map_eq_some_iff, Prod.mk.injEq] at h
  obtain ⟨r, hr, rfl, rfl⟩ := h
  obtain ⟨p, hp1, rfl⟩ := hargs1 _ hx
  refine does_len (t := t) (ty := o.type) (x := p) ?_ hs hr
  rw [hex, arr1 hts, hp1]; simp [builtin]
 ·rename_i t u s x hts hx
  split at h
  ·rename_i e2 hE2
   obtain ⟨p, q, hp1, rfl, rfl⟩ := hargs2 _ _ hx
   refine does_append (t := t) (u := u) (ty := o.type) (s := p) (x := q) ?_ hs hE2 h
   rw [hex, arr2 hts, hp1]; simp [builtin]
  ·obtain ⟨p, q, hp1, rfl, rfl⟩ := hargs2 _ _ hx
   refine does_appendZ (t := t) (u := u) (ty := o.type) (s := p) (x := q) ?_ hs h
   rw [hex, arr2 hts, hp1]; simp [builtin]
 ·rename_i t x hts hx
  simp only [Option.map_eq_some_iff, Prod.mk.injEq] at h
  obtain ⟨r, hr, rfl, rfl⟩ := h
  obtain ⟨p, hp1, rfl⟩ := hargs1 _ hx
  refine does_cap (t := t) (ty := o.type) (x := p) ?_ hs hr
  rw [hex, arr1 hts, hp1]; simp [builtin]
 ·rename_i t x hts hx
  obtain ⟨p, hp1, rfl⟩ := hargs1 _ hx
  refine does_clear (t := t) (ty := o.type) (x := p) ?_ hs h
  rw [hex, arr1 hts, hp1]; simp [builtin]
 ·rename_i t u d x hts hx
  obtain ⟨p, q, hp1, rfl, rfl⟩ := hargs2 _ _ hx
  refine does_copyX (t := t) (u := u) (ty := o.type) (d := p) (x := q) ?_ hs h
  rw [hex, arr2 hts, hp1]; simp [builtin]
 ·rename_i t u m k hts hx
  obtain ⟨p, q, hp1, rfl, rfl⟩ := hargs2 _ _ hx
  have ht0 : c.argTypes[0]? = some t := by
   have : c.argTypes.toList[0]? = some t := by rw [hts]; rfl
   simpa using this
  refine does_delete (t := t) (ts := c.argTypes) (ty := o.type) (m := p) (k := q) ?_ ht0 hs h
  rw [hex, hp1]; simp [builtin]
 ·split at h
  ·rename_i vs hvs
   simp only [Option.map_eq_some_iff, Prod.mk.injEq] at h
   obtain ⟨r, hr, rfl, rfl⟩ := h
   obtain ⟨z, hz, rfl⟩ := asV_some hr
   have hv := valsOf_eval hs _ _ hvs
   refine does_pure hs.heap (x := z) ?_ .v
   rw [hex]
   have : c.args.map a.eval = vs.toArray := by apply Array.ext'; rw [← hv]; exact Array.toList_map
   rw [this]
   simp only [builtin]
   have h2 : Builtin.min_ c.argTypes o.type vs.toArray = Builtin.min_ (c.argTypes.toList.toArray) 0 vs.toArray := rfl
   rw [h2, Sem.run_bind, pr_run hz w]; rfl
  ·cases h
 ·split at h
  ·rename_i vs hvs
   simp only [Option.map_eq_some_iff, Prod.mk.injEq] at h
   obtain ⟨r, hr, rfl, rfl⟩ := h
   obtain ⟨z, hz, rfl⟩ := asV_some hr
   have hv := valsOf_eval hs _ _ hvs
   refine does_pure hs.heap (x := z) ?_ .v
   rw [hex]
   have : c.args.map a.eval = vs.toArray := by apply Array.ext'; rw [← hv]; exact Array.toList_map
   rw [this]
   simp only [builtin]
   have h2 : Builtin.max_ c.argTypes o.type vs.toArray = Builtin.max_ (c.argTypes.toList.toArray) 0 vs.toArray := rfl
   rw [h2, Sem.run_bind, pr_run hz w]; rfl
  ·cases h
 ·cases h
theorem astepE_does (hC : OrcOk P C) (hs : SimE base w0 β fz e' H a w) (h : astepE P C e' o H = some (av, H')) : Does P o a w base w0 β fz H av H' := by
 unfold astepE at h
 split at h
 ·rename_i x hop
  simp only [Option.some.injEq, Prod.mk.injEq] at h
  obtain ⟨rfl, rfl⟩ := h
  exact does_move (.inl hop) hs
 ·rename_i x hop
  simp only [Option.some.injEq, Prod.mk.injEq] at h
  obtain ⟨rfl, rfl⟩ := h
  exact does_move (.inr hop) hs
 ·rename_i op t x y u hop
  split at h
  ·rename_i q hq
   simp only [Option.some.injEq, Prod.mk.injEq] at h
   obtain ⟨rfl, rfl⟩ := h
   exact does_bin hop hs hq
  ·split at h
   ·simp only [Option.map_eq_some_iff, Prod.mk.injEq] at h
    obtain ⟨q, hq, rfl, rfl⟩ := h
    exact does_eqH hop hs hq
   ·cases h
 ·rename_i op t x hop
  split at h
  ·rename_i y hy
   simp only [Option.map_eq_some_iff, Prod.mk.injEq] at h
   obtain ⟨q, hq, rfl, rfl⟩ := h
   exact does_un hop hs hy hq
  ·cases h
 ·rename_i s d x hop
  split at h
  ·rename_i y hy
   split at h
   ·rename_i q hq
    simp only [Option.some.injEq, Prod.mk.injEq] at h
    obtain ⟨rfl, rfl⟩ := h
    exact does_conv hop hs hy hq
   ·simp only [Option.map_eq_some_iff, Prod.mk.injEq] at h
    obtain ⟨q, hq, rfl, rfl⟩ := h
    exact does_byt hop hs hy hq
  ·simp only [Option.map_eq_some_iff, Prod.mk.injEq] at h
   obtain ⟨q, hq, rfl, rfl⟩ := h
   exact does_str hop hs hq
 ·rename_i x i hop
  simp only [Option.map_eq_some_iff, Prod.mk.injEq] at h
  obtain ⟨q, hq, rfl, rfl⟩ := h
  exact does_extract hop hs hq
 ·rename_i t hop
  exact does_alloc hop hs h
 ·rename_i t x hop
  exact does_box hop hs h
 ·rename_i t parts hop
  simp only [Option.map_eq_some_iff, Prod.mk.injEq] at h
  obtain ⟨q, hq, rfl, rfl⟩ := h
  exact does_build hop hs hq
 ·rename_i t len parts hop
  exact does_buildSlice hop hs h
 ·rename_i t x hop
  simp only [Option.map_eq_some_iff, Prod.mk.injEq] at h
  obtain ⟨q, hq, rfl, rfl⟩ := h
  exact does_load hop hs hq
 ·rename_i t x y hop
  simp only [Option.map_eq_some_iff, Prod.mk.injEq] at h
  obtain ⟨q, hq, rfl, rfl⟩ := h
  exact does_store hop hs hq
 ·rename_i s x f hop
  simp only [Option.map_eq_some_iff, Prod.mk.injEq] at h
  obtain ⟨q, hq, rfl, rfl⟩ := h
  exact does_fieldAddr hop hs hq
 ·rename_i s x f hop
  simp only [Option.map_eq_some_iff, Prod.mk.injEq] at h
  obtain ⟨q, hq, rfl, rfl⟩ := h
  exact does_field hop hs hq
 ·rename_i t x i hop
  simp only [Option.map_eq_some_iff, Prod.mk.injEq] at h
  obtain ⟨q, hq, rfl, rfl⟩ := h
  exact does_indexAddr hop hs hq
 ·rename_i t x i hop
  simp only [Option.map_eq_some_iff, Prod.mk.injEq] at h
  obtain ⟨q, hq, rfl, rfl⟩ := h
  exact does_index hop hs hq
 ·rename_i t x lo hi mx hop
  split at h
  ·rename_i q hq
   simp only [Option.some.injEq, Prod.mk.injEq] at h
   obtain ⟨rfl, rfl⟩ := h
   exact does_slice hop hs hq
  ·split at h
   ·exact does_sliceA hop hs h
   ·cases h
 ·rename_i t l c hop
  exact does_makeSlice hop hs h
 ·rename_i x hop
  exact does_nilCheck hop hs h
 ·rename_i t hop
  simp only [Option.some.injEq, Prod.mk.injEq] at h
  obtain ⟨rfl, rfl⟩ := h
  exact does_makeMap hop hs
 ·rename_i t m k ok hop
  simp only [Option.map_eq_some_iff, Prod.mk.injEq] at h
  obtain ⟨q, hq, rfl, rfl⟩ := h
  exact does_lookup hop hs hq
 ·rename_i t m k x hop
  simp only [Option.map_eq_some_iff, Prod.mk.injEq] at h
  obtain ⟨q, hq, rfl, rfl⟩ := h
  exact does_mapUpdate hop hs hq
 ·rename_i t x hop
  exact does_range hop hs h
 ·rename_i x hop
  simp only [Option.map_eq_some_iff, Prod.mk.injEq] at h
  obtain ⟨q, hq, rfl, rfl⟩ := h
  exact does_entry hop hs hq
 ·rename_i x hop
  simp only [Option.map_eq_some_iff, Prod.mk.injEq] at h
  obtain ⟨q, hq, rfl, rfl⟩ := h
  exact does_next0 hop hs hq
 ·rename_i f first caps hop
  split at h
  ·rename_i hf
   simp only [Option.some.injEq, Prod.mk.injEq] at h
   obtain ⟨rfl, rfl⟩ := h
   exact does_makeFunc hop hs hf
  ·cases h
 ·rename_i n first caps hop
  exact does_makeMeth hop hs h
 ·rename_i t x hop
  simp only [Option.map_eq_some_iff, Prod.mk.injEq] at h
  obtain ⟨q, hq, rfl, rfl⟩ := h
  exact does_mkI hop hs hq
 ·rename_i c hop
  split at h
  ·rename_i b hb
   exact does_builtin hop hb hs h
  ·rename_i f hf
   exact does_call hop hf hC hs h
  ·rename_i r name hf
   exact does_invoke hop hf hC hs h
 ·cases h
theorem astep_does {g : Bool} {r : AEv} (hC : OrcOk P C) (hg : g = true) (hs : HSim base w0 β fz H w) (hr : ∀ x, R β (okOf base fz) w H.length (r x) (a.eval x)) (h : astep P C g r o H = some (av, H')) : Does P o a w base w0 β fz H av H' := by
 unfold astep at h
 split at h
 ·rename_i c x y hop
  simp only [Option.map_eq_some_iff, Prod.mk.injEq] at h
  obtain ⟨q, hq, rfl, rfl⟩ := h
  exact does_pick hop hg hs hr hq
 ·exact astepE_does hC ⟨hs, fun x => res_R hg (hr x)⟩ h
end
def guardOk (ops : Array Oper) (e : AEv) (o : Oper) : Option Bool :=
 match o.guard with
 | none => some true
 | some (j, want) => match (ops[j]?).bind (·.dst) with
  | some d => match e (.tmp d) with
   | .v (.bool b) => some (b == want)
   | .when g (.v (.bool b)) => some (g && (b == want))
   | .v _ => some false
   | _ => none
  | none => some false
def dstOk (nt : Nat) (o : Oper) : Bool :=
 match o.dst with
 | some t => t < nt
 | none => true
def hk (inl : FuncId → Bool) (o : Oper) : Nat :=
 match o.op with
 | .load _ _ => 1
 | .store _ _ _ => 2
 | .alloc _ => 2
 | .box _ _ => 2
 | .makeSlice _ _ _ => 2
 | .buildSlice _ _ _ => 2
 | .makeMap _ _ => 2
 | .lookup _ _ _ _ => 1
 | .mapUpdate _ _ _ _ => 2
 | .range _ _ => 2
 | .entry _ => 1
 | .next _ _ => 1
 | .convert _ _ _ => 1
 | .slice _ _ none none none => 2
 | .binOp .eql _ (.tmp _) (.tmp _) _ => 1
 | .call c => match c.callee with
  | .builtin .len => 0
  | .builtin .min => 0
  | .builtin .max => 0
  | .builtin _ => 2
  | .value (.func f) => if inl f then 2 else 1
  | .value _ => if inl dynF then 2 else 1
  | .invoke _ n => if statM inl n = true then 1 else 2
 | _ => 0
def gsel (g : Bool) (wr : Bool) (x : Option (AVal × Heap)) (ρ : Env) (H : Heap) (d : Option Tmp) : Option (Env × Heap) :=
 if wr = true then
  (if g = true then x.map fun r => (put ρ d r.1, r.2) else some (put ρ d (.v undef), H))
 else if g = true ∧ x.isNone = true then none else some (put ρ d (.when g ((x.map Prod.fst).getD .junk)), H)
def step1 (P : Program) (C : Orc) (nt : Nat) (ops : Array Oper) (o : Oper) (s : Env × Heap) : Option (Env × Heap) :=
 if dstOk nt o then
  match o.guard with
  | none => (astep P C true (ev s.1) o s.2).map fun r => (put s.1 o.dst r.1, r.2)
  | some _ => match guardOk ops (ev s.1) o with
   | some g => gsel g (hk C.inl o == 2) (astep P C g (ev s.1) o s.2) s.1 s.2 o.dst
   | none => none
 else none
theorem aBuiltin_quiet {P : Program} {b : Builtin} {ts : Array TypeId} {args : List AVal} {H H' : Heap} {av : AVal} (hb : b = .len ∨ b = .min ∨ b = .max) (h : aBuiltin P b ts args H = some (av, H')) :
  H' = H ∧ ∀ H2, aBuiltin P b ts args H2 = some (av, H2) := by
 have hmap : ∀ {x : Option AVal}, x.map (·, H) = some (av, H') → H' = H ∧ ∀ H2 : Heap, x.map (·, H2) = some (av, H2) := by
  intro x hx
  simp only [Option.map_eq_some_iff, Prod.mk.injEq] at hx
  obtain ⟨r, rfl, rfl, rfl⟩ := hx
  exact ⟨rfl, fun _ => rfl⟩
 rcases hb with rfl | rfl | rfl
 ·unfold aBuiltin at h ⊢
  split at h
  all_goals first
   | exact hmap h
   |(exfalso; simp_all; done)
   | cases h
 ·unfold aBuiltin at h ⊢
  split at h
  all_goals first
   |(split at h
     ·exact hmap h
     ·cases h)
   |(exfalso; simp_all; done)
   | cases h
 ·unfold aBuiltin at h ⊢
  split at h
  all_goals first
   |(split at h
     ·exact hmap h
     ·cases h)
   |(exfalso; simp_all; done)
   | cases h
theorem hk_builtin {inl : FuncId → Bool} {o : Oper} {c : Call} {b : Builtin} (hop : o.op = .call c) (hc : c.callee = .builtin b) (h : hk inl o ≠ 2) : b = .len ∨ b = .min ∨ b = .max := by
 unfold hk at h
 simp only [hop, hc] at h
 cases b <;> simp at h <;> simp
theorem astepE_read {P : Program} {C : Orc} {e : AEv} {o : Oper} {H H' : Heap} {av : AVal} (he : ∀ f, e (.func f) = .fn f []) (hh : hk C.inl o ≠ 2) (h : astepE P C e o H = some (av, H')) : H' = H := by
 have hh0 := hh
 unfold astepE at h
 cases hop : o.op <;> simp only [hop, hk, reduceCtorEq, ne_eq, not_true_eq_false] at h hh
 all_goals first
  |(simp only [Option.map_eq_some_iff, Prod.mk.injEq] at h; obtain ⟨_, _, _, rfl⟩ := h; rfl)
  |(simp only [Option.some.injEq, Prod.mk.injEq] at h; exact h.2.symm)
  | skip
 case binOp op t x y u =>
  split at h
  ·simp only [Option.some.injEq, Prod.mk.injEq] at h; exact h.2.symm
  ·split at h
   ·simp only [Option.map_eq_some_iff, Prod.mk.injEq] at h; obtain ⟨_, _, _, rfl⟩ := h; rfl
   ·cases h
 case slice t x lo hi mx =>
  split at h
  ·simp only [Option.some.injEq, Prod.mk.injEq] at h; exact h.2.symm
  ·split at h
   ·simp at hh
   ·cases h
 case unOp op t x =>
  split at h
  ·simp only [Option.map_eq_some_iff, Prod.mk.injEq] at h; obtain ⟨_, _, _, rfl⟩ := h; rfl
  ·cases h
 case convert s d x =>
  split at h
  ·split at h
   ·simp only [Option.some.injEq, Prod.mk.injEq] at h; exact h.2.symm
   ·simp only [Option.map_eq_some_iff, Prod.mk.injEq] at h; obtain ⟨_, _, _, rfl⟩ := h; rfl
  ·simp only [Option.map_eq_some_iff, Prod.mk.injEq] at h; obtain ⟨_, _, _, rfl⟩ := h; rfl
 case next x b =>
  cases b
  ·simp only [Option.map_eq_some_iff, Prod.mk.injEq] at h; obtain ⟨_, _, _, rfl⟩ := h; rfl
  ·cases h
 case nilCheck x => split at h <;> simp at h <;> first | exact h.2.symm | exact h.2.2.symm
 case makeFunc fn first caps =>
  cases fn <;> simp at h
  ·exact h.2.2.symm
  ·split at h
   ·split at h <;> simp at h
    exact h.2.symm
   ·cases h
 case call c =>
  cases hc : c.callee with
  | builtin b =>
   simp only [hc] at h
   exact (aBuiltin_quiet (hk_builtin hop hc hh0) h).1
  | value f =>
   simp only [hc] at h hh
   unfold aCall at h
   split at h
   ·rename_i g caps hg
    split at h
    ·split at h
     ·rename_i hin
      split at h
      ·rename_i hst
       have hst' : isStatic f = true := by
        cases hq : isStatic f with
        | true => rfl
        | false =>
         exfalso
         cases f <;> simp [isStatic] at hq <;> simp only at hh <;> simp [hq, isStatic] at hst <;> simp [hst.1] at hh
       cases f <;> simp [isStatic] at hst'
       rename_i f
       rw [he] at hg
       simp only [AVal.fn.injEq] at hg
       obtain ⟨rfl, rfl⟩ := hg
       simp [hin] at hh
      ·cases h
     ·split at h
      ·cases h
      ·split at h <;> (simp only [Option.map_eq_some_iff, Prod.mk.injEq] at h; obtain ⟨_, _, _, rfl⟩ := h; rfl)
    ·cases h
   ·cases h
  | invoke r m =>
   have hst : statM C.inl m = true := by
    cases q : statM C.inl m with
    | true => rfl
    | false => simp [hk, hop, hc, q] at hh0
   simp only [hc] at h
   unfold aInvoke at h
   split at h
   ·split at h
    ·rename_i g hg
     cases hin : C.inl g with
     | true => rw [hst, hin] at h; cases h
     | false =>
      rw [hst, hin] at h
      simp only [Bool.and_false] at h
      unfold aCall at h
      simp only at h
      split at h
      ·simp only [hin, Bool.false_eq_true, if_false] at h
       split at h
       ·cases h
       ·split at h <;> (simp only [Option.map_eq_some_iff, Prod.mk.injEq] at h; obtain ⟨_, _, _, rfl⟩ := h; rfl)
      ·cases h
    ·cases h
   ·cases h
theorem astep_read {P : Program} {C : Orc} {g : Bool} {e : AEv} {o : Oper} {H H' : Heap} {av : AVal} (he : ∀ f, e (.func f) = .fn f []) (hh : hk C.inl o ≠ 2) (h : astep P C g e o H = some (av, H')) : H' = H := by
 unfold astep at h
 split at h
 ·simp only [Option.map_eq_some_iff, Prod.mk.injEq] at h; obtain ⟨_, _, _, rfl⟩ := h; rfl
 ·exact astepE_read (fun f => by simp [he, res]) hh h
section
variable {nt : Fr} {base : Nat} {w0 : World} {β : Nat → Nat} {fz : Nat → Prop} {ρ : Env} {H H' : Heap} {a : Act} {w : World} {P : Program} {C : Orc} {o : Oper} {av : AVal} {n : Nat} {ok ok' : Bool → Nat → Prop}
theorem yielded_at {ops : Array Oper} {j : Nat} {d : Tmp} (hd : (ops[j]?).bind (·.dst) = some d) : yielded ops a.tmps j = match a.tmps.getD d undef with | .bool b => some b | _ => none := by
 unfold yielded
 rw [hd]
 simp only [Option.bind_some, Array.getD_eq_getD_getElem?]
 cases hh : a.tmps[d]? with
 | none => rfl
 | some y => cases y <;> rfl
theorem guard_wanted {ops : Array Oper} {b : Bool} (hs : Sim nt base w0 β fz ρ H a w) (h : guardOk ops (ev ρ) o = some b) : b = true → Region.wanted o (yielded ops a.tmps) = true := by
 unfold guardOk at h
 unfold Region.wanted
 intro hb
 subst hb
 split at h
 ·rename_i hg; simp [hg]
 ·rename_i j want hg
  simp only [hg]
  split at h
  ·rename_i d hd
   have hx := hs.env d
   rw [yielded_at hd]
   simp only [ev] at h
   split at h
   ·rename_i c hc
    rw [hc] at hx
    rw [hx.v_inv]
    simp only [Option.some.injEq] at h
    cases c <;> cases want <;> simp_all
   ·rename_i g c hc
    rw [hc] at hx
    simp only [Option.some.injEq, Bool.and_eq_true] at h
    cases hx with
    | when hx hu =>
     rw [(hx h.1).v_inv]
     cases c <;> cases want <;> simp_all
   ·simp at h
   ·cases h
  ·simp at h
theorem guard_not {ops : Array Oper} {b : Bool} (hs : Sim nt base w0 β fz ρ H a w) (h : guardOk ops (ev ρ) o = some b) : b = false → Region.wanted o (yielded ops a.tmps) = false := by
 unfold guardOk at h
 unfold Region.wanted
 intro hb
 subst hb
 split at h
 ·simp at h
 ·rename_i j want hg
  simp only [hg]
  split at h
  ·rename_i d hd
   have hx := hs.env d
   rw [yielded_at hd]
   simp only [ev] at h
   split at h
   ·rename_i c hc
    rw [hc] at hx
    rw [hx.v_inv]
    simp only [Option.some.injEq] at h
    cases c <;> cases want <;> simp_all
   ·rename_i g c hc
    rw [hc] at hx
    cases hx with
    | when hx hu =>
     cases g with
     | false => rw [hu rfl]; simp [undef]
     | true =>
      simp only [Option.some.injEq, Bool.true_and] at h
      rw [(hx rfl).v_inv]
      cases c <;> cases want <;> simp_all
   ·rename_i x hc1 hc
    rw [hc] at hx
    rw [hx.v_inv]
    cases x <;> first | rfl | (rename_i bb; exact absurd rfl (hc1 bb))
   ·cases h
  ·rename_i hd
   have hy : yielded ops a.tmps j = none := by
    unfold yielded
    rw [hd]; rfl
   rw [hy]; rfl
theorem step1_wp {ops : Array Oper} {i : Nat} {s' : Env × Heap} {K : Act → World → Prop} {Q : Exit → Act → World → Prop} (hC : OrcOk P C) (ho : ops[i]? = some o) (hs : Sim nt base w0 β fz ρ H a w) (h : step1 P C nt.nt ops o (ρ, H) = some s')
  (hK : ∀ a' w' β' fz', Sim nt base w0 β' fz' s'.1 s'.2 a' w' → K a' w') : wpOp P ops Q i K a w := by
 unfold step1 at h
 split at h
 ·rename_i hd
  have hd' : ∀ t, o.dst = some t → t < nt.nt := by
   intro t ht
   simp only [dstOk, ht] at hd
   simpa using hd
  unfold wpOp
  simp only [ho]
  split at h
  ·rename_i hgd
   have hw : Region.wanted o (yielded ops a.tmps) = true := by simp [Region.wanted, hgd]
   rw [hw]
   simp only [if_true]
   left
   simp only [Option.map_eq_some_iff] at h
   obtain ⟨⟨r, H'⟩, hr, rfl⟩ := h
   exact astep_does hC rfl hs.heap hs.ev hr _ _ (fun x β' fz' w' h1 h2 h3 => hK _ _ β' fz' (hs.put h1 h2 hd' h3))
  ·split at h
   ·rename_i g hg
    have skip : g = false → s' = (put ρ o.dst (.v undef), H) → (if Region.wanted o (yielded ops a.tmps) = true then o.wp P a w K Q ∨ o.asks P a w ∧ LetsOut Q else K (a.put o.dst undef) w) := by
     intro hgf he
     rw [guard_not hs hg hgf]
     simp only [Bool.false_eq_true, if_false]
     subst he
     exact hK _ _ β fz (hs.put hs.heap (Ext.refl _ _ _ _) hd' .v)
    unfold gsel at h
    split at h
    ·split at h
     ·rename_i hgt
      simp only [Option.map_eq_some_iff] at h
      obtain ⟨r, hr, rfl⟩ := h
      rw [guard_wanted hs hg hgt]
      simp only [if_true]
      left
      exact astep_does (av := r.1) (H' := r.2) hC hgt hs.heap hs.ev hr _ _ (fun x β' fz' w' h1 h2 h3 => hK _ _ β' fz' (hs.put h1 h2 hd' h3))
     ·rename_i hgt
      simp only [Option.some.injEq] at h
      exact skip (by simpa using hgt) h.symm
    ·rename_i hwr
     split at h
     ·cases h
     ·rename_i hno
      simp only [Option.some.injEq] at h
      subst h
      cases hgt : g with
      | true =>
       cases hr : astep P C g (ev ρ) o H with
       | none => exact absurd ⟨hgt, by simp only [hr]; rfl⟩ hno
       | some r =>
        have hH : r.2 = H := astep_read (av := r.1) (H' := r.2) (fun _ => rfl) (by simpa using hwr) hr
        rw [guard_wanted hs hg hgt]
        simp only [if_true]
        left
        refine astep_does (av := r.1) (H' := r.2) hC hgt hs.heap hs.ev hr _ _ (fun x β' fz' w' h1 h2 h3 => ?_)
        rw [hH] at h1 h2 h3
        have := hs.put h1 h2 hd' (av := .when g r.1) (x := x) (.when (fun _ => h3) (fun hf => by rw [hgt] at hf; cases hf))
        refine hK _ _ β' fz' ?_
        simpa only [hr, Option.map_some, Option.getD_some] using this
      | false =>
       rw [guard_not hs hg hgt]
       simp only [Bool.false_eq_true, if_false]
       have := hs.put hs.heap (Ext.refl _ _ _ _) hd' (av := .when g (((astep P C g (ev ρ) o H).map Prod.fst).getD .junk)) (x := undef) (.when (fun ht => by rw [hgt] at ht; cases ht) (fun _ => rfl))
       exact hK _ _ β fz this
   ·cases h
 ·cases h
end
end Go.AI
/- Regions, in whatever order. -/
namespace Go.AI
set_option linter.unusedSectionVars false
variable [Sym]
set_option linter.unusedSimpArgs false
set_option linter.unusedVariables false
open Go.RowKit
def runL (P : Program) (C : Orc) (nt : Nat) (ops : Array Oper) : List Oper → Env × Heap → Option (Env × Heap)
 | [], s => some s
 | o :: l, s => match step1 P C nt ops o s with
  | some s' => runL P C nt ops l s'
  | none => none
def tmpsOf (xs : Array Operand) : List Tmp := xs.toList.filterMap fun | .tmp t => some t | _ => none
def readsOf (ops : Array Oper) (o : Oper) : List Tmp :=
 tmpsOf o.op.operands ++ match o.guard with
  | none => []
  | some (j, _) => ((ops[j]?).bind (·.dst)).toList
def clash (ops : Array Oper) (o p : Oper) : Bool :=
 match o.dst with
 | some t => (readsOf ops p).contains t || p.dst == some t
 | none => false
def indep (inl : FuncId → Bool) (ops : Array Oper) (o p : Oper) : Bool :=
 !clash ops o p && !clash ops p o && !(hk inl o == 2 && hk inl p != 0) && !(hk inl p == 2 && hk inl o != 0)
def bits (acc : List Nat) (es : List Edge) : Nat :=
 es.foldl (fun s e => if Region.binds .any e then s ||| 2 ^ e.on ||| acc.getD e.on 0 else s) 0
def befs : List Oper → List Nat → List Nat
 | [], acc => acc
 | o :: r, acc => befs r (acc ++ [bits acc o.after.toList])
def raceFree (inl : FuncId → Bool) (ops : Array Oper) : Bool :=
 let B := befs ops.toList []
 (ops.toList.zipIdx.all fun (o, i) => o.after.all fun e => !Region.binds .any e || decide (e.on < i)) &&
 (List.range ops.size).all fun j => (List.range j).all fun i => indep inl ops (ops.getD i default) (ops.getD j default) || (B.getD j 0).testBit i
theorem bits_mem {acc : List Nat} {es : List Edge} {k : Nat} (h : (bits acc es).testBit k = true) : ∃ e ∈ es, Region.binds .any e = true ∧ (e.on = k ∨ (acc.getD e.on 0).testBit k = true) := by
 unfold bits at h
 have key : ∀ (es : List Edge) (s : Nat), (es.foldl (fun s e => if Region.binds .any e then s ||| 2 ^ e.on ||| acc.getD e.on 0 else s) s).testBit k = true → s.testBit k = true ∨ ∃ e ∈ es, Region.binds .any e = true ∧ (e.on = k ∨ (acc.getD e.on 0).testBit k = true) := by
  intro es
  induction es with
  | nil => intro s h; exact .inl h
  | cons e es ih =>
   intro s h
   rw [List.foldl_cons] at h
   rcases ih _ h with h | ⟨e', he', h'⟩
   ·split at h
    ·rename_i hb
     simp only [Nat.testBit_or, Bool.or_eq_true] at h
     rcases h with (h | h) | h
     ·exact .inl h
     ·refine .inr ⟨e, by simp, hb, .inl ?_⟩
      rw [Nat.testBit_two_pow] at h
      simpa using h
     ·exact .inr ⟨e, by simp, hb, .inr h⟩
    ·exact .inl h
   ·exact .inr ⟨e', by simp [he'], h'⟩
 rcases key es 0 h with h | h
 ·simp at h
 ·exact h
theorem befs_pre : ∀ (l : List Oper) (acc : List Nat), ∃ more, befs l acc = acc ++ more
 | [], acc => ⟨[], by simp [befs]⟩
 | o :: r, acc => by
  obtain ⟨more, h⟩ := befs_pre r (acc ++ [bits acc o.after.toList])
  exact ⟨[bits acc o.after.toList] ++ more, by simp [befs, h]⟩
theorem befs_get : ∀ (l : List Oper) (acc : List Nat) (j : Nat) (o : Oper), l[j]? = some o → ∃ pre : List Nat, (∃ more, befs l acc = pre ++ more) ∧ pre.length = acc.length + j ∧ (befs l acc).getD (acc.length + j) 0 = bits pre o.after.toList
 | [], acc, j, o, h => by simp at h
 | p :: r, acc, 0, o, h => by
  simp at h; subst h
  obtain ⟨more, hm⟩ := befs_pre r (acc ++ [bits acc p.after.toList])
  refine ⟨acc, ⟨[bits acc p.after.toList] ++ more, by simp [befs, hm]⟩, rfl, ?_⟩
  simp [befs, hm]
 | p :: r, acc, j + 1, o, h => by
  obtain ⟨pre, h1, h2, h3⟩ := befs_get r (acc ++ [bits acc p.after.toList]) j o (by simpa using h)
  refine ⟨pre, by simpa [befs] using h1, by simp at h2; omega, ?_⟩
  simp only [befs]
  have : acc.length + (j + 1) = (acc ++ [bits acc p.after.toList]).length + j := by simp; omega
  rw [this]; exact h3
theorem bef_step {l : List Oper} {j k : Nat} {o : Oper} (ho : l[j]? = some o) (h : ((befs l []).getD j 0).testBit k = true) :
  ∃ e ∈ o.after.toList, Region.binds .any e = true ∧ (e.on = k ∨ ((befs l []).getD e.on 0).testBit k = true) := by
 obtain ⟨pre, ⟨more, h1⟩, h2, h3⟩ := befs_get l [] j o ho
 simp only [List.length_nil, Nat.zero_add] at h2 h3
 rw [h3] at h
 obtain ⟨e, he, hb, hk⟩ := bits_mem h
 refine ⟨e, he, hb, ?_⟩
 rcases hk with hk | hk
 ·exact .inl hk
 ·right
  rw [h1]
  by_cases hlt : e.on < pre.length
  ·rw [List.getD_eq_getElem?_getD, List.getElem?_append_left hlt, ← List.getD_eq_getElem?_getD]; exact hk
  ·rw [List.getD_eq_getElem?_getD, List.getElem?_eq_none (by omega)] at hk
   simp at hk
section
variable {P : Program} {C : Orc}
theorem map_ev_congr {e e' : AEv} {xs : Array Operand} (h : ∀ x ∈ xs, e x = e' x) : xs.toList.map e = xs.toList.map e' :=
 List.map_congr_left fun x hx => h x (Array.mem_toList_iff.1 hx)
theorem astepE_congr {e e' : AEv} {o : Oper} {H : Heap} (h : ∀ x ∈ o.op.operands, e x = e' x) : astepE P C e o H = astepE P C e' o H := by
  unfold astepE
  cases hop : o.op <;> simp only [hop, Op.operands] at h ⊢
  case move x => rw [h x (by simp)]
  case assign x => rw [h x (by simp)]
  case binOp op t x y u => rw [h x (by simp), h y (by simp)]
  case unOp op t x => rw [h x (by simp)]
  case convert s d x => rw [h x (by simp)]
  case extract x i => rw [h x (by simp)]
  case makeInterface t x => rw [h x (by simp)]
  case box t x => rw [h x (by simp)]
  case build t ps =>
    have : (ps.toList.map fun p => (p.1, e p.2)) = ps.toList.map fun p => (p.1, e' p.2) :=
      List.map_congr_left fun p hp => by rw [h p.2 (by simpa using ⟨p.1, by simpa using hp⟩)]
    rw [this]
  case buildSlice t len ps =>
    have : (ps.toList.map fun p => (p.1, e p.2)) = ps.toList.map fun p => (p.1, e' p.2) :=
      List.map_congr_left fun p hp => by rw [h p.2 (by simpa using ⟨p.1, by simpa using hp⟩)]
    rw [this]
  case load t x => rw [h x (by simp)]
  case store t x y => rw [h x (by simp), h y (by simp)]
  case fieldAddr s x f => rw [h x (by simp)]
  case field s x f => rw [h x (by simp)]
  case indexAddr t x i => rw [h x (by simp), h i (by simp)]
  case index t x i => rw [h x (by simp), h i (by simp)]
  case slice t x lo hi mx =>
    have h1 : lo.map e = lo.map e' := by cases lo with
      | none => rfl
      | some y => simp only [Option.map_some]; rw [h y (by simp)]
    have h2 : hi.map e = hi.map e' := by cases hi with
      | none => rfl
      | some y => simp only [Option.map_some]; rw [h y (by simp)]
    have h3 : mx.map e = mx.map e' := by cases mx with
      | none => rfl
      | some y => simp only [Option.map_some]; rw [h y (by simp)]
    rw [h x (by simp), h1, h2, h3]
  case makeSlice t l c => rw [h l (by simp), h c (by simp)]
  case nilCheck x => rw [h x (by simp)]
  case makeMap t r => cases r <;> rfl
  case lookup t m k ok => rw [h m (by simp), h k (by simp)]
  case mapUpdate t m k x => rw [h m (by simp), h k (by simp), h x (by simp)]
  case range t x => rw [h x (by simp)]
  case entry x => rw [h x (by simp)]
  case next x b => cases b <;> simp only [h x (by simp)]
  case makeFunc fn first caps =>
    cases fn with
    | func f =>
      simp only
      rw [map_ev_congr (fun x hx => h x (by simp [hx]))]
    | method n =>
      simp only
      split
      · rename_i x hf hc
        rw [h x (by have : x ∈ first.toList := by rw [hf]; simp
                    simp [Array.mem_toList_iff.1 this])]
      · rfl
    | _ => rfl
  case call c =>
    cases hc : c.callee with
    | builtin b =>
      simp only
      rw [map_ev_congr (fun x hx => h x (by simp [Call.operands, hx]))]
    | value f =>
      simp only
      rw [map_ev_congr (fun x hx => h x (by simp [Call.operands, hx])), h f (by simp [Call.operands, hc])]
    | invoke r m =>
      simp only
      rw [map_ev_congr (fun x hx => h x (by simp [Call.operands, hx])), h r (by simp [Call.operands, hc])]
theorem astep_congr {g : Bool} {e e' : AEv} {o : Oper} {H : Heap} (h : ∀ x ∈ o.op.operands, e x = e' x) : astep P C g e o H = astep P C g e' o H := by
 unfold astep
 split
 ·rename_i c a b hop
  rw [hop] at h
  simp only [Op.operands] at h
  rw [h c (by simp), h a (by simp), h b (by simp)]
 ·exact astepE_congr fun x hx => by rw [h x hx]
theorem astepE_none {e : AEv} {o : Oper} {H H' : Heap} {av : AVal} (hh : hk C.inl o = 0) (h : astepE P C e o H = some (av, H')) (H2 : Heap) : astepE P C e o H2 = some (av, H2) := by
 have hh0 := hh
 unfold astepE at h ⊢
 cases hop : o.op <;> simp only [hop, hk, reduceCtorEq] at h hh ⊢
 all_goals first
  |(simp only [Option.map_eq_some_iff, Prod.mk.injEq] at h; obtain ⟨_, hr, rfl, _⟩ := h; simp only [hr, Option.map_some]; done)
  |(simp only [Option.some.injEq, Prod.mk.injEq] at h; simp [h.1]; done)
  |(cases hh; done)
  | skip
 case binOp op t x y u =>
  split at h
  ·rename_i q hq
   simp only [Option.some.injEq, Prod.mk.injEq] at h
   obtain ⟨rfl, _⟩ := h
   rfl
  ·split at h
   ·exfalso
    simp only [Option.map_eq_some_iff, Prod.mk.injEq] at h
    obtain ⟨_, hr, _⟩ := h
    unfold aEqH at hr
    split at hr
    ·simp at hh
    ·cases hr
   ·cases h
 case slice t x lo hi mx =>
  split at h
  ·rename_i q hq
   simp only [Option.some.injEq, Prod.mk.injEq] at h
   obtain ⟨rfl, _⟩ := h
   rfl
  ·split at h
   ·simp at hh
   ·cases h
 case unOp op t x =>
  split at h
  ·simp only [Option.map_eq_some_iff, Prod.mk.injEq] at h; obtain ⟨_, hr, rfl, _⟩ := h; simp only [hr, Option.map_some]
  ·cases h
 case nilCheck x => split at h <;> simp at h <;> first | (simp [h.1]; done) | simp [h]
 case makeFunc fn first caps =>
  cases fn <;> simp at h
  ·simp [h]
  ·split at h
   ·rename_i x hf hc
    split at h
    ·rename_i t a he
     simp at h
     simp [hf, hc, he, h]
    ·cases h
   ·cases h
 case call c =>
  cases hc : c.callee with
  | builtin b =>
   simp only [hc] at h
   exact (aBuiltin_quiet (hk_builtin (inl := C.inl) hop hc (by rw [hh0]; decide)) h).2 H2
  | value f =>
   simp only [hc] at hh
   cases f <;> simp only at hh <;> (split at hh <;> cases hh)
  | invoke r m =>
   simp only [hk, hop, hc] at hh0
   split at hh0 <;> cases hh0
theorem astep_none {g : Bool} {e : AEv} {o : Oper} {H H' : Heap} {av : AVal} (hh : hk C.inl o = 0) (h : astep P C g e o H = some (av, H')) (H2 : Heap) : astep P C g e o H2 = some (av, H2) := by
 unfold astep at h ⊢
 split at h
 ·simp only [Option.map_eq_some_iff, Prod.mk.injEq] at h
  obtain ⟨_, hr, rfl, _⟩ := h
  simp only [hr, Option.map_some]
 ·exact astepE_none hh h H2
theorem astep_fail {g : Bool} {e : AEv} {o : Oper} {H : Heap} (hh : hk C.inl o = 0) (h : astep P C g e o H = none) (H2 : Heap) : astep P C g e o H2 = none := by
 cases hc : astep P C g e o H2 with
 | none => rfl
 | some r => rw [astep_none (av := r.1) (H' := r.2) hh hc H] at h; cases h
end
end Go.AI
