/- Each step of the interpreter is true of the model: maps walked through, pointers compared, arrays sliced. -/
import Derived.Test.YtibpipgabcpaoaaAiL
import Derived.LaidEqlPtr
import Derived.Maps.RangeRun
namespace Go.AI
set_option linter.unusedSimpArgs false
set_option linter.unusedVariables false
open Go.RowKit
section
variable {base : Nat} {w0 : World} {β : Nat → Nat} {fz : Nat → Prop} {e' : AEv} {H H' : Heap} {a : Act} {w : World} {P : Program} {C : Orc} {o : Oper} {av : AVal} {n : Nat} {ok : Bool → Nat → Prop}
theorem KSim.walked {base n id : Nat} {rows : List Row} {r : Row} (h : KSim base β fz w n id rows) (hr : r ∈ rows) (h2 : r.length ≠ 2) : GSim base β fz w n id rows := by
 rcases h with ⟨rs, hp, es, clock, _, _, _, h3⟩ | h
 ·exfalso
  obtain ⟨i, hi⟩ := List.mem_iff_getElem?.1 (hp.mem_iff.2 hr)
  obtain ⟨_, _, _, e, _⟩ := h3 i r hi
  rw [e] at h2; exact h2 rfl
 ·exact h
theorem HSim.walk (hs : HSim base w0 β fz H w) {id : Nat} {c : Int} {L : List Row} (h : H[id]? = some (some (0, [.v (.int .i64 c)] :: L))) :
  ∃ (es : Array MapEntry) (clock : Nat), w.heap[β id]? = some (.map es clock) ∧ Born es.toList clock ∧ c = (clock : Int) ∧ L.length = es.size ∧
   ∀ (i : Nat) (r : Row) (en : MapEntry), L[i]? = some r → es[i]? = some en → ∃ k x b, r = [k, x, b] ∧ R β (okOf base fz) w H.length k en.key ∧ R β (okOf base fz) w H.length x en.val ∧ R β (okOf base fz) w H.length b (.int .i64 (en.born : Int)) := by
 have hO := hs.objs' id 0 _ h
 rw [OSim, if_pos rfl] at hO
 obtain ⟨ob, xs, h1, h2, ⟨h3, h4⟩, _⟩ := hO.walked (r := [.v (.int .i64 c)]) (by simp) (by simp)
 rcases h2 with ⟨es, clock, rfl, hb, rfl⟩ | ⟨m, si, st, seen, rfl, rfl⟩
 ·have hc := ((h4 0 _ _ rfl rfl).2 0 _ _ rfl rfl).v_inv
  simp only [Value.int.injEq, true_and] at hc
  refine ⟨es, clock, h1, hb, hc.symm, by simpa using h3.symm, fun i r en hi he => ?_⟩
  have he2 : ([Value.int .i64 (clock : Int)] :: es.toList.map fun e => [e.key, e.val, .int .i64 (e.born : Int)])[i + 1]? = some [en.key, en.val, .int .i64 (en.born : Int)] := by
   simp [he]
  obtain ⟨q1, q2⟩ := h4 (i + 1) r _ (by simpa using hi) he2
  match r, q1 with
  | [k, x, b], _ => exact ⟨k, x, b, rfl, q2 0 _ _ rfl rfl, q2 1 _ _ rfl rfl, q2 2 _ _ rfl rfl⟩
 ·have := (h4 0 _ _ rfl rfl).1
  simp at this
theorem HSim.iter (hs : HSim base w0 β fz H w) {rid id : Nat} {s c : Int} {sn : Row} (h : H[rid]? = some (some (0, [[.ptr id 0 0 0, .v (.int .i64 s), .v (.int .i64 c)], sn]))) :
  ∃ (since stepped : Nat) (seen : Array Nat), w.heap[β rid]? = some (.mapIter (some (β id)) since seen stepped) ∧ s = (since : Int) ∧ c = (stepped : Int) ∧ sn.length = seen.size ∧
   ∀ (j : Nat) (x : AVal) (b : Nat), sn[j]? = some x → seen[j]? = some b → R β (okOf base fz) w H.length x (.int .i64 (b : Int)) := by
 have hO := hs.objs' rid 0 _ h
 rw [OSim, if_pos rfl] at hO
 obtain ⟨ob, xs, h1, h2, ⟨h3, h4⟩, _⟩ := hO.walked (r := [.ptr id 0 0 0, .v (.int .i64 s), .v (.int .i64 c)]) (by simp) (by simp)
 rcases h2 with ⟨es, clock, rfl, hb, rfl⟩ | ⟨m, si, st, seen, rfl, rfl⟩
 ·have := (h4 0 _ _ rfl rfl).1
  simp at this
 ·obtain ⟨_, q⟩ := h4 0 _ _ rfl rfl
  have hm := q 0 _ _ rfl rfl
  have hm2 : m = β id := by
   generalize hv : Value.map (some m) = v at hm
   cases hm with
   | ptr _ h0 => exact absurd rfl h0
   | mp _ => simpa using hv
  subst hm2
  have e1 := (q 1 _ _ rfl rfl).v_inv
  have e2 := (q 2 _ _ rfl rfl).v_inv
  simp only [Value.int.injEq, true_and] at e1 e2
  obtain ⟨l1, l2⟩ := h4 1 sn _ rfl rfl
  refine ⟨si, st, seen, h1, e1.symm, e2.symm, by simpa using l1.symm, fun j x b hx hb => l2 j x _ hx (by simp [hb])⟩
theorem HSim.allocG (hs : HSim base w0 β fz H w) {rows : List Row} {ob : Obj} (hG : GSim base (bump β H.length w.heap.size) fz (w.alloc ob) (H ++ [some (0, rows)]).length H.length rows) :
  HSim base w0 (bump β H.length w.heap.size) fz (H ++ [some (0, rows)]) (w.alloc ob) ∧ Ext H.length β fz w (H ++ [some (0, rows)]).length (bump β H.length w.heap.size) fz (w.alloc ob) := by
 have hbl := Nat.le_trans hs.base hs.below.size
 have ext : Ext H.length β fz w (H ++ [some (0, rows)]).length (bump β H.length w.heap.size) fz (w.alloc ob) :=
  ⟨by simp, fun id hi => by simp [bump]; omega, fun _ h => h, fun b hb => Below.heap_alloc w _ b (hs.fzlt b hb), Shapes.alloc w _⟩
 have hold : ∀ k x, (H ++ [some (0, rows)])[k]? = some x → k ≠ H.length → H[k]? = some x := by
  intro k x hk hne
  rw [List.getElem?_append] at hk
  split at hk
  ·exact hk
  ·have : k - H.length ≠ 0 := by omega
   simp [this] at hk
 have hlive : ∀ k, Live (H ++ [some (0, rows)]) k → k ≠ H.length → Live H k := fun k ⟨x, hx⟩ hne => ⟨x, hold k _ hx hne⟩
 refine ⟨⟨?_, ?_, ?_, ?_, hs.below.alloc hbl _, hs.base⟩, ext⟩
 ·intro k sz' rws hk
  by_cases hki : k = H.length
  ·subst hki
   have : (H ++ [some (0, rows)])[H.length]? = some (some (0, rows)) := by simp
   rw [this] at hk
   simp only [Option.some.injEq, Prod.mk.injEq] at hk
   obtain ⟨rfl, rfl⟩ := hk
   rw [OSim, if_pos rfl]
   exact .inr hG
  ·have hk' := hold k _ hk hki
   refine (hs.objs' k sz' rws hk').ext ext ?_
   simp only [bump, hki, if_false]
   rw [Below.heap_alloc w _ (β k) (hs.blt ⟨_, hk'⟩)]
 ·intro a b ha hb he
  by_cases h1 : a = H.length <;> by_cases h2 : b = H.length
  ·omega
  ·have := hs.blt (hlive b hb h2)
   simp [bump, h1, h2] at he; omega
  ·have := hs.blt (hlive a ha h1)
   simp [bump, h1, h2] at he; omega
  ·simp only [bump, h1, h2, if_false] at he
   exact hs.inj a b (hlive a ha h1) (hlive b hb h2) he
 ·intro k hk
  by_cases h1 : k = H.length
  ·simp only [bump, h1, if_true]
   exact ⟨hbl, fun hf => Nat.lt_irrefl _ (hs.fzlt _ hf)⟩
  ·simp only [bump, h1, if_false]
   exact hs.own k (hlive k hk h1)
 ·exact fun b hb => by have := hs.fzlt b hb; show b < (w.heap.push _).size; simp; omega
theorem mapV {v : Value} {id : Nat} (h : R β ok w n (.ptr id 0 0 0) v) : v = .map (some (β id)) := by
 cases h with
 | ptr _ h0 => exact absurd rfl h0
 | mp _ => rfl
theorem ptrV {v : Value} {id sz i off : Nat} (h0 : sz ≠ 0) (h : R β ok w n (.ptr id sz i off) v) : id < n ∧ v = .pointer (some ⟨β id, i * sz + off, none⟩) := by
 cases h with
 | ptr h _ => exact ⟨h, rfl⟩
 | mp _ => exact absurd rfl h0
theorem does_range {t : TypeId} {x : Operand} (hop : o.op = .range t x) (hs : SimE base w0 β fz e' H a w) (h : aRange P t (e' x) H = some (av, H')) : Does P o a w base w0 β fz H av H' := by
 have hx := hs.ev x
 unfold aRange at h
 split at h
 ·rename_i k el id hu hp
  rw [hp] at hx
  have hv := mapV hx
  split at h
  ·rename_i c L hob
   simp only [Option.some.injEq, Prod.mk.injEq] at h
   obtain ⟨rfl, rfl⟩ := h
   obtain ⟨es, clock, h1, hb, rfl, hl, hr⟩ := hs.heap.walk hob
   have hid : id < H.length := (List.getElem?_eq_some_iff.1 hob).1
   have hG : GSim base (bump β H.length w.heap.size) fz (w.alloc (.mapIter (some (β id)) clock #[] clock)) (H ++ [some (0, [[AVal.ptr id 0 0 0, .v (.int .i64 (clock : Int)), .v (.int .i64 (clock : Int))], []])]).length H.length
     [[.ptr id 0 0 0, .v (.int .i64 (clock : Int)), .v (.int .i64 (clock : Int))], []] := by
    refine ⟨.mapIter (some (β id)) clock #[] clock, [[.map (some (β id)), .int .i64 (clock : Int), .int .i64 (clock : Int)], []], ?_, .inr ⟨β id, clock, clock, #[], rfl, rfl⟩, ⟨rfl, fun i r xx hi hxx => ?_⟩, _, _, rfl, by simp⟩
    ·simp only [bump, if_true]
     show (w.heap.push _)[w.heap.size]? = _
     simp
    ·match i, hi, hxx with
     | 0, hi, hxx =>
      simp at hi hxx
      subst hi hxx
      refine ⟨rfl, fun j y v hy hv => ?_⟩
      match j, hy, hv with
      | 0, hy, hv =>
       simp at hy hv
       subst hy hv
       have := R.mp (β := bump β H.length w.heap.size) (ok := okOf base fz) (w := w.alloc (.mapIter (some (β id)) clock #[] clock)) (n := (H ++ [some (0, [[AVal.ptr id 0 0 0, .v (.int .i64 (clock : Int)), .v (.int .i64 (clock : Int))], []])]).length) (id := id) (by simp; omega)
       have hne : id ≠ H.length := by omega
       simpa [bump, hne] using this
      | 1, hy, hv => simp at hy hv; subst hy hv; exact .v
      | 2, hy, hv => simp at hy hv; subst hy hv; exact .v
     | 1, hi, hxx =>
      simp at hi hxx
      subst hi hxx
      exact ⟨rfl, fun j y v hy _ => by simp at hy⟩
   obtain ⟨q1, q2⟩ := hs.heap.allocG hG
   refine does_val (w' := w.alloc (.mapIter (some (β id)) clock #[] clock)) (x := .pointer (some ⟨w.heap.size, 0, none⟩)) ?_ q1 q2 ?_
   ·simp only [execOp, hop, hv]
    simp [run_range_map w t k el (β id) es clock hu h1]
   ·have := R.ptr (β := bump β H.length w.heap.size) (ok := okOf base fz) (w := w.alloc (.mapIter (some (β id)) clock #[] clock)) (n := (H ++ [some (0, [[AVal.ptr id 0 0 0, .v (.int .i64 (clock : Int)), .v (.int .i64 (clock : Int))], []])]).length) (id := H.length) (sz := 1) (i := 0) (off := 0) (by simp) (by decide)
    simpa [bump] using this
  ·cases h
 ·cases h
theorem stamp_at {s : Int} : ∀ {L : List Row} {k x : AVal}, stampR s L = some (k, x) → ∃ i : Nat, L[i]? = some [k, x, .v (.int .i64 s)]
 | [], _, _, h => by simp [stampR] at h
 | r :: L, k, x, h => by
  unfold stampR at h
  split at h
  ·cases ‹_ = []›
  ·rename_i k' a' t r' e
   cases e
   split at h
   ·rename_i ht
    cases h
    exact ⟨0, by rw [ht]; rfl⟩
   ·obtain ⟨i, hi⟩ := stamp_at h
    exact ⟨i + 1, by simpa using hi⟩
  ·cases h
theorem does_entry {x : Operand} (hop : o.op = .entry x) (hs : SimE base w0 β fz e' H a w) (h : aEntry (e' x) H = some av) : Does P o a w base w0 β fz H av H := by
 have hx := hs.ev x
 unfold aEntry at h
 split at h
 ·rename_i rid hp
  rw [hp] at hx
  obtain ⟨_, hv⟩ := ptrV (by decide) hx
  split at h
  ·rename_i id s0 c sn hit
   split at h
   ·rename_i c' L s hmp hla
    split at h
    ·rename_i hcc
     subst hcc
     simp only [Option.map_eq_some_iff] at h
     obtain ⟨⟨k, y⟩, hst, rfl⟩ := h
     obtain ⟨es, clock, h1, hb, e1, hl, hr⟩ := hs.heap.walk hmp
     obtain ⟨since, stepped, seen, g1, g2, g3, g4, g5⟩ := hs.heap.iter hit
     have hcl : clock = stepped := by omega
     obtain ⟨i, hi⟩ := stamp_at hst
     have hie : i < es.size := by rw [← hl]; exact (List.getElem?_eq_some_iff.1 hi).1
     obtain ⟨k', y', b', e2, r1, r2, r3⟩ := hr i _ es[i] hi (Array.getElem?_eq_getElem hie)
     simp only [List.cons.injEq, and_true] at e2
     obtain ⟨rfl, rfl, rfl⟩ := e2
     have hbn := r3.v_inv
     simp only [Value.int.injEq, true_and] at hbn
     have hsz : 0 < seen.size := by
      rw [← g4]
      cases sn with
      | nil => simp at hla
      | cons _ _ => simp
     have hla2 : sn[seen.size - 1]? = some (.v (.int .i64 s)) := by rw [← g4, ← List.getLast?_eq_getElem?]; exact hla
     have hbk : seen.back? = some seen[seen.size - 1] := by
      rw [Array.back?_eq_getElem?, Array.getElem?_eq_getElem (by omega)]
     have hsl := (g5 (seen.size - 1) _ _ hla2 (Array.getElem?_eq_getElem (by omega))).v_inv
     simp only [Value.int.injEq, true_and] at hsl
     have hst2 : es[i].born = seen[seen.size - 1] := by omega
     have hf : es.find? (·.born == seen[seen.size - 1]) = some es[i] := by
      rw [← hst2, ← Array.find?_toList]
      exact find_born es[i] es.toList hb.nodup (by simp)
     refine does_pure hs.heap (x := .tuple #[es[i].key, es[i].val]) ?_ ?_
     ·simp only [execOp, hop, hv]
      subst hcl
      simp only [Instr.entry, getObj]
      simp [Sem.run, g1, h1, hbk, hf, Result.andThen]
     ·refine .tup (by simp) fun j a' ha => ?_
      match j, ha with
      | 0, ha => simp at ha; subst ha; simpa using r1
      | 1, ha => simp at ha; subst ha; simpa using r2
    ·cases h
   ·cases h
  ·cases h
 ·cases h
theorem HSim.rerow (hs : HSim base w0 β fz H w) {id sz sz' : Nat} {R R' : List Row} (hob : obj H id = some (sz, R)) (h0 : sz' ≠ 0) (hC : CSim base β fz w H.length id sz' R') :
  HSim base w0 β fz (H.set id (some (sz', R'))) w := by
 have hlive : Live H id := ⟨_, obj_some hob⟩
 refine ⟨fun k z rws hk => ?_, fun a b ha hb => hs.inj a b (ha.set hlive) (hb.set hlive), fun k hk => hs.own k (hk.set hlive), hs.fzlt, hs.below, hs.base⟩
 rw [List.length_set]
 by_cases hki : k = id
 ·subst hki
  have hlt : k < H.length := (List.getElem?_eq_some_iff.1 (obj_some hob)).1
  rw [List.getElem?_set_self hlt] at hk
  simp only [Option.some.injEq, Prod.mk.injEq] at hk
  obtain ⟨rfl, rfl⟩ := hk
  rw [OSim, if_neg h0]
  exact hC
 ·rw [List.getElem?_set_ne (fun e => hki e.symm)] at hk
  exact hs.objs' k z rws hk
theorem does_sliceA {t : TypeId} {x : Operand} (hop : o.op = .slice t x none none none) (hs : SimE base w0 β fz e' H a w) (h : aSliceA P t (e' x) H = some (av, H')) : Does P o a w base w0 β fz H av H' := by
 have hx := hs.ev x
 unfold aSliceA at h
 split at h
 ·rename_i n e id sz harr hp
  rw [hp] at hx
  split at h
  ·rename_i sz' row hob
   split at h
   ·rename_i hc
    obtain ⟨hsz, rfl, rfl, hrl, hn⟩ := hc
    simp only [Option.some.injEq, Prod.mk.injEq] at h
    obtain ⟨rfl, rfl⟩ := h
    obtain ⟨hlt, hv⟩ := ptrV (by omega) hx
    obtain ⟨cs, ty, g1, g2, g3, g4, g5⟩ := hs.heap.cells hob
    have hu : P.underlying t = some (.array sz' e) := by
     unfold arrayOf at harr
     split at harr
     ·rename_i n' e' hu; cases harr; exact hu
     ·cases harr
    have hcs : sz' ≤ cs.size := by simpa using g3
    have hC : CSim base β fz w H.length id 1 (row.map fun c => [c]) := by
     refine ⟨cs, ty, g1, fun r hr => ?_, by simp; omega, g4, fun i r hi j y hy => ?_⟩
     ·obtain ⟨c, _, rfl⟩ := List.mem_map.1 hr; rfl
     ·simp only [List.getElem?_map, Option.map_eq_some_iff] at hi
      obtain ⟨c, hc, rfl⟩ := hi
      cases j with
      | succ j => simp at hy
      | zero =>
       simp at hy; subst hy
       have := g5 0 row rfl i c hc
       simpa using this
    have ext : Ext H.length β fz w (H.set id (some (1, row.map fun c => [c]))).length β fz w := ⟨by simp, fun _ _ => rfl, fun _ h => h, fun _ _ => rfl, Shapes.refl _⟩
    refine does_val (w' := w) (x := .slice (some ⟨β id, 0, none⟩) sz' sz') ?_ (hs.heap.rerow hob (by decide) hC) ext ?_
    ·simp only [execOp, hop, hv]
     have h0 : ¬ sz' = 0 := by omega
     simp [Instr.sliceAt, run_underlying hu, Instr.sureAddr, Instr.sliceBounds, run_sz hsz, Addr.add, h0]
    ·have := R.osl (β := β) (ok := okOf base fz) (w := w) (n := (H.set id (some (1, row.map fun c => [c]))).length) (id := id) (sz := 1) (s := 0) (len := sz') (kc := sz') (a := ⟨β id, 0, none⟩) (cap := sz') (by simpa using hlt) (Nat.le_refl _) (Nat.le_refl _) (.inr ⟨by simp, cs, ty, _, g1, by omega⟩)
     exact this
   ·cases h
  ·cases h
 ·cases h
theorem does_eqH {op : BinOp} {t u : TypeId} {x y : Operand} (hop : o.op = .binOp op t x y u) (hs : SimE base w0 β fz e' H a w) (h : aEqH P op t (e' x) (e' y) H = some av) : Does P o a w base w0 β fz H av H := by
 have hx := hs.ev x
 have hy := hs.ev y
 unfold aEqH at h
 split at h
 ·rename_i te i s xx yy i' s' x' y' hu hp hq
  split at h
  ·cases h
  ·rename_i hsz
   split at h
   ·rename_i hc
    obtain ⟨rfl, rfl, rfl, hs0, hl1, hl2⟩ := hc
    simp only [Option.some.injEq] at h
    subst h
    rw [hp] at hx; rw [hq] at hy
    obtain ⟨_, hvx⟩ := ptrV hs0 hx
    obtain ⟨_, hvy⟩ := ptrV hs0 hy
    have hj : ∃ j : TypeInfo, P.info? te = some j ∧ j.size ≠ 0 := by
     unfold szOf at hsz
     cases hi : P.info? te with
     | none => rw [hi] at hsz; exact absurd (.inr rfl) hsz
     | some j => rw [hi] at hsz; exact ⟨j, rfl, fun e => hsz (.inl (by simp [e]))⟩
    obtain ⟨j, hj1, hj2⟩ := hj
    have hlive : ∀ {k : Nat}, (obj H k).isSome = true → ∃ q, obj H k = some q := fun h => Option.isSome_iff_exists.1 h
    obtain ⟨⟨z1, R1⟩, o1⟩ := hlive hl1
    obtain ⟨⟨z2, R2⟩, o2⟩ := hlive hl2
    obtain ⟨c1, t1, k1, _⟩ := hs.heap.cells o1
    obtain ⟨c2, t2, k2, _⟩ := hs.heap.cells o2
    refine does_pure hs.heap (x := .bool (i == i')) ?_ .v
    simp only [execOp, hop, hvx, hvy]
    simp only [eqGuard]
    by_cases he : i = i'
    ·subst he
     simp [run_eql_ptr_same w _ hu hj1]
    ·have hne : β i ≠ β i' := fun e => he (hs.heap.inj i i' ⟨_, obj_some o1⟩ ⟨_, obj_some o2⟩ e)
     have := run_eql_ptr_other w (a := ⟨β i, xx * s + yy, none⟩) (b := ⟨β i', xx * s + yy, none⟩) hu hj1 hj2 (fun e => hne (by injection e)) k1 k2
     simp [this, he]
   ·cases h
 ·cases h
end
end Go.AI
