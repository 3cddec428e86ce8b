/- keep's loops: their operations. Printed by a program. -/
import Derived.Test.YtdakclpneghkmaaGreatDoorTab
import Derived.Test.YtdakclpneghkmaaGreatDoorL18
namespace Go.Proofs.GD
set_option linter.unusedSectionVars false
variable [Go.AI.Sym]
open Go Go.AI
set_option maxRecDepth 100000
noncomputable def kTail : Nat → Code
 | 0 => bodyC Tryz.f128
 | n + 1 => sndC (kTail n)
noncomputable def kAt (n : Nat) : Code := fstC (kTail n)
noncomputable def kL1 : Code := kAt 8
noncomputable def kL2 : Code := kAt 10
def ops13 : Array Oper := #[{ dst := some 65, op := Op.move (Operand.tmp 0), type := 145, pos := "txn.go:223", after := #[], guard := none }, { dst := some 66, op := Op.nilCheck (Operand.tmp 65), type := 0, pos := "txn.go:223", after := #[{ on := 0, ground := Ground.data }], guard := none }, { dst := some 67, op := Op.fieldAddr 250 (Operand.tmp 66) 5, type := 0, pos := "txn.go:223", after := #[{ on := 1, ground := Ground.data }], guard := none }, { dst := some 68, op := Op.load 140 (Operand.tmp 67), type := 140, pos := "txn.go:223", after := #[{ on := 2, ground := Ground.data }], guard := none }, { dst := some 69, op := Op.range 140 (Operand.tmp 68), type := 0, pos := "txn.go:223", after := #[{ on := 3, ground := Ground.data }], guard := none }]
def ops14 : Array Oper := #[{ dst := some 70, op := Op.next (Operand.tmp 69) false, type := 0, pos := "txn.go:223", after := #[], guard := none }, { dst := some 71, op := Op.extract (Operand.tmp 70) 0, type := 4, pos := "txn.go:223", after := #[{ on := 0, ground := Ground.data }], guard := none }]
def ops15 : Array Oper := #[{ dst := some 72, op := Op.entry (Operand.tmp 69), type := 0, pos := "txn.go:223", after := #[], guard := none }, { dst := some 73, op := Op.extract (Operand.tmp 72) 0, type := 3, pos := "txn.go:223", after := #[{ on := 0, ground := Ground.data }], guard := none }, { dst := some 10, op := Op.assign (Operand.tmp 73), type := 3, pos := "txn.go:223", after := #[{ on := 1, ground := Ground.data }, { on := 0, ground := Ground.phase }, { on := 1, ground := Ground.phase }], guard := none }]
def ops16 : Array Oper := #[{ dst := some 75, op := Op.move (Operand.tmp 8), type := 69, pos := "txn.go:224", after := #[], guard := none }, { dst := some 76, op := Op.nilCheck (Operand.tmp 75), type := 0, pos := "txn.go:224", after := #[{ on := 0, ground := Ground.data }], guard := none }, { dst := some 77, op := Op.fieldAddr 143 (Operand.tmp 76) 5, type := 0, pos := "txn.go:224", after := #[{ on := 1, ground := Ground.data }], guard := none }, { dst := some 78, op := Op.load 140 (Operand.tmp 77), type := 140, pos := "txn.go:224", after := #[{ on := 2, ground := Ground.data }], guard := none }, { dst := some 79, op := Op.move (Operand.tmp 10), type := 3, pos := "txn.go:224", after := #[], guard := none }, { dst := some 80, op := Op.lookup 140 (Operand.tmp 78) (Operand.tmp 79) true, type := 331, pos := "txn.go:224", after := #[{ on := 3, ground := Ground.data }, { on := 4, ground := Ground.data }], guard := none }, { dst := some 74, op := Op.move (Operand.tmp 80), type := 331, pos := "txn.go:224", after := #[{ on := 5, ground := Ground.data }], guard := none }, { dst := some 81, op := Op.extract (Operand.tmp 74) 0, type := 28, pos := "txn.go:224", after := #[{ on := 6, ground := Ground.data }], guard := none }, { dst := some 82, op := Op.extract (Operand.tmp 74) 1, type := 4, pos := "txn.go:224", after := #[{ on := 6, ground := Ground.data }, { on := 9, ground := Ground.gcOnly Departure.lateStores }], guard := none }, { dst := some 11, op := Op.assign (Operand.tmp 81), type := 28, pos := "txn.go:224", after := #[{ on := 7, ground := Ground.data }, { on := 0, ground := Ground.phase }, { on := 1, ground := Ground.phase }, { on := 2, ground := Ground.phase }, { on := 3, ground := Ground.phase }, { on := 4, ground := Ground.phase }, { on := 5, ground := Ground.phase }, { on := 6, ground := Ground.phase }, { on := 7, ground := Ground.phase }, { on := 8, ground := Ground.textOnly Departure.lateStores }], guard := none }, { dst := some 12, op := Op.assign (Operand.tmp 82), type := 4, pos := "txn.go:224", after := #[{ on := 8, ground := Ground.data }, { on := 9, ground := Ground.chain }, { on := 0, ground := Ground.phase }, { on := 1, ground := Ground.phase }, { on := 2, ground := Ground.phase }, { on := 3, ground := Ground.phase }, { on := 4, ground := Ground.phase }, { on := 5, ground := Ground.phase }, { on := 6, ground := Ground.phase }, { on := 7, ground := Ground.phase }, { on := 8, ground := Ground.phase }, { on := 9, ground := Ground.phase }], guard := none }]
def ops17 : Array Oper := #[{ dst := some 83, op := Op.move (Operand.tmp 12), type := 4, pos := "txn.go:224", after := #[], guard := none }, { dst := some 84, op := Op.unOp UnOp.not 4 (Operand.tmp 83), type := 4, pos := "txn.go:224", after := #[{ on := 0, ground := Ground.data }], guard := none }]
def ops18 : Array Oper := #[{ dst := some 85, op := Op.move (Operand.tmp 9), type := 3, pos := "txn.go:225", after := #[], guard := none }, { dst := some 86, op := Op.binOp BinOp.add 3 (Operand.tmp 85) (Operand.const (Value.int IntKind.i64 1)) 3, type := 3, pos := "txn.go:225", after := #[{ on := 0, ground := Ground.data }], guard := none }, { dst := some 9, op := Op.assign (Operand.tmp 86), type := 3, pos := "txn.go:225", after := #[{ on := 1, ground := Ground.data }, { on := 0, ground := Ground.phase }, { on := 1, ground := Ground.phase }], guard := none }]
def ops23 : Array Oper := #[{ dst := some 99, op := Op.move (Operand.tmp 0), type := 145, pos := "txn.go:233", after := #[], guard := none }, { dst := some 100, op := Op.nilCheck (Operand.tmp 99), type := 0, pos := "txn.go:233", after := #[{ on := 0, ground := Ground.data }], guard := none }, { dst := some 101, op := Op.fieldAddr 250 (Operand.tmp 100) 5, type := 0, pos := "txn.go:233", after := #[{ on := 1, ground := Ground.data }], guard := none }, { dst := some 102, op := Op.load 140 (Operand.tmp 101), type := 140, pos := "txn.go:233", after := #[{ on := 2, ground := Ground.data }], guard := none }, { dst := some 103, op := Op.range 140 (Operand.tmp 102), type := 0, pos := "txn.go:233", after := #[{ on := 3, ground := Ground.data }], guard := none }]
def ops24 : Array Oper := #[{ dst := some 104, op := Op.next (Operand.tmp 103) false, type := 0, pos := "txn.go:233", after := #[], guard := none }, { dst := some 105, op := Op.extract (Operand.tmp 104) 0, type := 4, pos := "txn.go:233", after := #[{ on := 0, ground := Ground.data }], guard := none }]
def ops25 : Array Oper := #[{ dst := some 106, op := Op.entry (Operand.tmp 103), type := 0, pos := "txn.go:233", after := #[], guard := none }, { dst := some 107, op := Op.extract (Operand.tmp 106) 0, type := 3, pos := "txn.go:233", after := #[{ on := 0, ground := Ground.data }], guard := none }, { dst := some 108, op := Op.extract (Operand.tmp 106) 1, type := 28, pos := "txn.go:233", after := #[{ on := 0, ground := Ground.data }, { on := 3, ground := Ground.gcOnly Departure.lateStores }], guard := none }, { dst := some 14, op := Op.assign (Operand.tmp 107), type := 3, pos := "txn.go:233", after := #[{ on := 1, ground := Ground.data }, { on := 0, ground := Ground.phase }, { on := 1, ground := Ground.phase }, { on := 2, ground := Ground.textOnly Departure.lateStores }], guard := none }, { dst := some 15, op := Op.assign (Operand.tmp 108), type := 28, pos := "txn.go:233", after := #[{ on := 2, ground := Ground.data }, { on := 3, ground := Ground.chain }, { on := 0, ground := Ground.phase }, { on := 1, ground := Ground.phase }, { on := 2, ground := Ground.phase }, { on := 3, ground := Ground.phase }], guard := none }]
def ops26 : Array Oper := #[{ dst := some 109, op := Op.move (Operand.tmp 8), type := 69, pos := "txn.go:234", after := #[], guard := none }, { dst := some 110, op := Op.nilCheck (Operand.tmp 109), type := 0, pos := "txn.go:234", after := #[{ on := 0, ground := Ground.data }], guard := none }, { dst := some 111, op := Op.fieldAddr 143 (Operand.tmp 110) 5, type := 0, pos := "txn.go:234", after := #[{ on := 1, ground := Ground.data }], guard := none }, { dst := some 112, op := Op.load 140 (Operand.tmp 111), type := 140, pos := "txn.go:234", after := #[{ on := 2, ground := Ground.data }], guard := none }, { dst := some 113, op := Op.move (Operand.tmp 14), type := 3, pos := "txn.go:234", after := #[], guard := none }, { dst := some 114, op := Op.move (Operand.tmp 15), type := 28, pos := "txn.go:234", after := #[], guard := none }, { dst := none, op := Op.mapUpdate 140 (Operand.tmp 112) (Operand.tmp 113) (Operand.tmp 114), type := 0, pos := "txn.go:234", after := #[{ on := 3, ground := Ground.data }, { on := 4, ground := Ground.data }, { on := 5, ground := Ground.data }, { on := 0, ground := Ground.phase }, { on := 1, ground := Ground.phase }, { on := 2, ground := Ground.phase }, { on := 3, ground := Ground.phase }, { on := 4, ground := Ground.phase }, { on := 5, ground := Ground.phase }], guard := none }]
theorem kL1_eq : kL1 = .seq (.region 13 ops13 false) (.block 2 (.loop (.seq (.region 14 ops14 false) (.seq (.cond (.tmp 71) .skip (.exit 2)) (.block 3 (.seq (.region 15 ops15 false) (.seq (.region 16 ops16 false) (.seq (.region 17 ops17 false) (.cond (.tmp 84) (.region 18 ops18 false) .skip))))))))) := by kernel_rfl
theorem kL2_eq : kL2 = .seq (.region 23 ops23 false) (.block 4 (.loop (.seq (.region 24 ops24 false) (.seq (.cond (.tmp 105) .skip (.exit 4)) (.block 5 (.seq (.region 25 ops25 false) (.region 26 ops26 false))))))) := by kernel_rfl
end Go.Proofs.GD
/- keep's first loop: how many sectors are new. -/
namespace Go.Proofs.GD
set_option linter.unusedSectionVars false
variable [Go.AI.Sym]
open Go Go.AI Go.RowKit
set_option maxRecDepth 100000
set_option linter.unusedVariables false
abbrev nI (n : Int) : AVal := .v (.int .i64 n)
theorem fa1 (id : Nat) : aFieldAddr Tryz.prog 250 (.ptr id 200 0 0) 5 = some (.ptr id 200 0 196) := by kernel_rfl
theorem fa2 (id : Nat) : aFieldAddr Tryz.prog 143 (.ptr id 198 0 0) 5 = some (.ptr id 198 0 196) := by kernel_rfl
theorem mixed : Tryz.prog.follows .mixedOrders = true := by kernel_rfl
theorem runL_step {P : Program} {C : Orc} {nt : Nat} {ops : Array Oper} {o : Oper} {l : List Oper} {ρ : Env} {H H' : Heap} {v : AVal} {r : Option (Env × Heap)} (hg : o.guard = none) (hd : dstOk nt o = true)
  (ha : astep P C true (AI.ev ρ) o H = some (v, H')) (h : runL P C nt ops l (AI.put ρ o.dst v, H') = r) : runL P C nt ops (o :: l) (ρ, H) = r := by
 simp only [runL, step1, hd, if_true, hg, ha, Option.map_some]
 exact h
theorem mapS {W : Heap} {x : Option AVal} {a : AVal} (h : x = some a) : x.map (·, W) = some (a, W) := by rw [h]; rfl
theorem AWp.run {P : Program} {C : Orc} (hC : OrcOk P C) (hm : P.follows .mixedOrders = true) {nt n0 id : Nat} {ops : Array Oper} {ρ ρ' : Env} {H H' : Heap} (h : runL P C nt ops ops.toList (ρ, H) = some (ρ', H')) : AWp P nt n0 (.region id ops false) (IsX (.normal, ρ', H')) ρ H :=
 execRV_sound (id := id) (draw := false) (s := (ρ', H')) hC hm rfl (by unfold execRV; simpa using h)
theorem AWp.block {P : Program} {nt n0 id : Nat} {c : Code} {Q : Post} {ρ : Env} {H : Heap} (h : AWp P nt n0 c (blockA id Q) ρ H) : AWp P nt n0 (.block id c) Q ρ H := by
 intro f base w0 β fz a w h1 h2 hs
 refine wp_block (wp_mono (h f base w0 β fz a w h1 h2 hs) ?_)
 rintro e a' w' ⟨ρ2, H2, β', fz', q, s⟩
 cases e with
 | exit id' =>
  simp only [blockA] at q
  simp only [Exit.inBlock]
  by_cases hid : id' = id
  ·rw [if_pos hid] at q ⊢; exact ⟨ρ2, H2, β', fz', q, s⟩
  ·rw [if_neg hid] at q ⊢; exact ⟨ρ2, H2, β', fz', q, s⟩
 | _ => exact ⟨ρ2, H2, β', fz', q, s⟩
theorem AWp.skip {P : Program} {nt n0 : Nat} {Q : Post} {ρ : Env} {H : Heap} (h : Q .normal ρ H) : AWp P nt n0 .skip Q ρ H := fun f base w0 β fz a w h1 h2 hs => wp_skip ⟨ρ, H, β, fz, h, hs⟩
theorem load_same {P : Program} {t : TypeId} {id sz i off : Nat} {H H' : Heap} (h : obj H id = obj H' id) : aLoad P t (.ptr id sz i off) H = aLoad P t (.ptr id sz i off) H' := by
 simp only [aLoad, h]
theorem lookup_same {P : Program} {t : TypeId} {id : Nat} {k : Value} {ok : Bool} {H H' : Heap} (h : H[id]? = H'[id]?) : aLookup P t (.ptr id 0 0 0) (.v k) ok H = aLookup P t (.ptr id 0 0 0) (.v k) ok H' := by
 simp only [aLookup, h]
def Wk (H : Heap) (mid : Nat) (c : Int) (es : List Row) (sn : Row) : Heap := (H.set mid (some (0, [.v (.int .i64 c)] :: es))) ++ [some (0, [[.ptr mid 0 0 0, .v (.int .i64 c), .v (.int .i64 c)], sn])]
section
variable {H : Heap} {mid : Nat} {c : Int} {es rows : List Row} {sn : Row}
theorem Wk_len : (Wk H mid c es sn).length = H.length + 1 := by simp [Wk]
theorem Wk_it : (Wk H mid c es sn)[H.length]? = some (some (0, [[.ptr mid 0 0 0, .v (.int .i64 c), .v (.int .i64 c)], sn])) := by
 have : H.length = (H.set mid (some (0, [.v (.int .i64 c)] :: es))).length := by simp
 unfold Wk
 rw [List.getElem?_append_right (by simp)]
 simp
theorem Wk_lt {i : Nat} (h : i < H.length) (hm : i ≠ mid) : (Wk H mid c es sn)[i]? = H[i]? := by
 unfold Wk
 rw [List.getElem?_append_left (by simpa using h), List.getElem?_set_ne (by omega)]
theorem Wk_mid (hM : H[mid]? = some (some (0, rows))) : (Wk H mid c es sn)[mid]? = some (some (0, [.v (.int .i64 c)] :: es)) := by
 have hlt := (List.getElem?_eq_some_iff.1 hM).1
 unfold Wk
 rw [List.getElem?_append_left (by simpa using hlt), List.getElem?_set_self hlt]
theorem Wk_set {sn' : Row} : (Wk H mid c es sn).set H.length (some (0, [[.ptr mid 0 0 0, .v (.int .i64 c), .v (.int .i64 c)], sn'])) = Wk H mid c es sn' := by
 unfold Wk
 simp
theorem obj0 {H : Heap} {i : Nat} {r : List Row} (h : H[i]? = some (some (0, r))) : obj H i = none := by simp [obj, h]
theorem Wk_obj (hM : H[mid]? = some (some (0, rows))) (i : Nat) : obj (Wk H mid c es sn) i = obj H i := by
 by_cases h1 : i = mid
 ·subst h1; rw [obj0 (Wk_mid hM), obj0 hM]
 ·by_cases h2 : i < H.length
  ·simp only [obj, Wk_lt h2 h1]
  ·by_cases h3 : i = H.length
   ·subst h3
    rw [obj0 Wk_it]
    simp [obj]
   ·have e1 : (Wk H mid c es sn)[i]? = none := List.getElem?_eq_none (by rw [Wk_len]; omega)
    have e2 : H[i]? = none := List.getElem?_eq_none (by omega)
    simp [obj, e1, e2]
theorem Wk_range (hM : H[mid]? = some (some (0, rows))) {t : TypeId} {a b : TypeId} (ht : Tryz.prog.underlying t = some (.map a b)) : aRange Tryz.prog t (.ptr mid 0 0 0) (H.set mid (some (0, [.v (.int .i64 c)] :: es))) = some (.ptr H.length 1 0 0, Wk H mid c es []) := by
 have hlt := (List.getElem?_eq_some_iff.1 hM).1
 unfold aRange
 simp only [ht, List.getElem?_set_self hlt]
 simp [Wk]
theorem stamp_of : ∀ {es : List Row} {i : Nat} {k a : AVal} {b : Int}, (∀ r ∈ es, ∃ (k : Value) (a : AVal) (b : Int), r = [.v k, a, .v (.int .i64 b)]) → (es.map stampA).Nodup → es[i]? = some [k, a, .v (.int .i64 b)] → stampR b es = some (k, a)
 | [], i, k, a, b, _, _, h => by simp at h
 | r :: es, i, k, a, b, hw, hn, h => by
  obtain ⟨k', a', b', rfl⟩ := hw r (by simp)
  simp only [List.map_cons, List.nodup_cons] at hn
  cases i with
  | zero =>
   simp only [List.getElem?_cons_zero, Option.some.injEq, List.cons.injEq, AVal.v.injEq, Value.int.injEq, true_and, and_true] at h
   obtain ⟨rfl, rfl, rfl⟩ := h
   simp [stampR]
  | succ i =>
   simp only [List.getElem?_cons_succ] at h
   have hne : b' ≠ b := by
    intro e
    subst e
    exact hn.1 (List.mem_map.2 ⟨_, List.mem_of_getElem? h, rfl⟩)
   simp only [stampR, if_neg hne]
   exact stamp_of (fun r hr => hw r (by simp [hr])) hn.2 h
theorem Wk_entry (hM : H[mid]? = some (some (0, rows))) (hx : Exp rows es) {i : Nat} {k a : AVal} {b : Int} (hi : es[i]? = some [k, a, .v (.int .i64 b)]) : aEntry (.ptr H.length 1 0 0) (Wk H mid c es (sn ++ [.v (.int .i64 b)])) = some (.tup [k, a]) := by
 unfold aEntry
 simp only [Wk_it, Wk_mid hM, List.getLast?_append, List.getLast?_singleton, Option.some_or, if_true, stamp_of hx.wf hx.nodup hi, Option.map_some]
theorem Wk_end {n0 : Nat} {ρ : Env} (hM : H[mid]? = some (some (0, rows))) (hx : Exp rows es) : Ent n0 (ρ, H ++ [none]) (ρ, Wk H mid c es sn) := by
 have h1 : Ent n0 (ρ, (Wk H mid c es sn).set mid (some (0, rows))) (ρ, Wk H mid c es sn) := Ent.ofH (by simp) (fun hs => hs.plain (Wk_mid hM) hx)
 have hlt := (List.getElem?_eq_some_iff.1 hM).1
 have e : (Wk H mid c es sn).set mid (some (0, rows)) = H ++ [some (0, [[.ptr mid 0 0 0, .v (.int .i64 c), .v (.int .i64 c)], sn])] := by
  unfold Wk
  rw [List.set_append_left _ _ (by simpa using hlt), List.set_set]
  congr 1
  apply List.ext_getElem?
  intro i
  by_cases hi : i = mid
  ·subst hi; rw [List.getElem?_set_self hlt, hM]
  ·rw [List.getElem?_set_ne (by omega)]
 rw [e] at h1
 refine Ent.trans (Ent.ofH (by simp) (fun hs => hs.sub ⟨by simp, fun id q hq => ?_⟩)) h1
 rw [List.getElem?_append] at hq ⊢
 split
 ·rename_i h; rw [if_pos h] at hq; exact hq
 ·rename_i h
  rw [if_neg h] at hq
  cases hk : id - H.length with
  | zero => rw [hk] at hq; simp at hq
  | succ j => rw [hk] at hq; simp at hq
end
open Classical in
noncomputable def cnt (g : Row → Bool) (es : List Row) (sn : Row) : Nat := es.countP fun r => decide (stampA r ∈ sn) && g r
open Classical in
theorem cnt_add {g : Row → Bool} {sn : Row} {b : AVal} (hb : b ∉ sn) : ∀ {es : List Row} {i : Nat} {r : Row}, (es.map stampA).Nodup → es[i]? = some r → stampA r = b → cnt g es (sn ++ [b]) = cnt g es sn + (if g r then 1 else 0)
 | [], i, r, _, h, _ => by simp at h
 | q :: es, i, r, hn, h, hs => by
  simp only [List.map_cons, List.nodup_cons] at hn
  unfold cnt
  simp only [List.countP_cons]
  cases i with
  | zero =>
   simp only [List.getElem?_cons_zero, Option.some.injEq] at h
   subst h
   have h1 : es.countP (fun r => decide (stampA r ∈ sn ++ [b]) && g r) = es.countP (fun r => decide (stampA r ∈ sn) && g r) := by
    refine List.countP_congr fun x hx => ?_
    have : stampA x ≠ b := fun e => hn.1 (by rw [hs, ← e]; exact List.mem_map.2 ⟨x, hx, rfl⟩)
    simp [this]
   rw [h1, hs]
   simp [hb]
  | succ i =>
   simp only [List.getElem?_cons_succ] at h
   have ih := cnt_add (g := g) hb hn.2 h hs
   unfold cnt at ih
   rw [ih]
   have hne : stampA q ≠ b := fun e => hn.1 (by rw [e, ← hs]; exact List.mem_map.2 ⟨r, List.mem_of_getElem? h, rfl⟩)
   have : decide (stampA q ∈ sn ++ [b]) = decide (stampA q ∈ sn) := by simp [hne]
   rw [this]; omega
open Classical in
theorem cnt_all {g : Row → Bool} {es : List Row} {sn : Row} (h : ∀ r ∈ es, stampA r ∈ sn) : cnt g es sn = es.countP g := by
 unfold cnt
 refine List.countP_congr fun x hx => ?_
 simp [h x hx]
theorem cnt_nil {g : Row → Bool} {es : List Row} : cnt g es [] = 0 := by unfold cnt; simp
theorem cnt_le {g : Row → Bool} {es : List Row} {sn : Row} : cnt g es sn ≤ es.length := List.countP_le_length
end Go.Proofs.GD
/- keep's first loop, in whatever order. -/
namespace Go.Proofs.GD
set_option linter.unusedSectionVars false
variable [Go.AI.Sym]
open Go Go.AI Go.RowKit
set_option maxRecDepth 100000
set_option linter.unusedVariables false
abbrev oC : Orc := orcN nilX
theorem oC_ok : OrcOk Tryz.prog oC := orcN_ok nilX_ok
theorem und140 : ∃ a b, Tryz.prog.underlying 140 = some (.map a b) := by
 have h : (match Tryz.prog.underlying 140 with | some (.map _ _) => true | _ => false) = true := by kernel_rfl
 split at h
 ·exact ⟨_, _, by assumption⟩
 ·cases h
theorem add1 (a : Int) : aBin Tryz.prog .add 3 (.tmp 85) (.const (.int .i64 1)) (nI a) (nI 1) = some (nI (IntKind.i64.wrap (a + 1))) := by kernel_rfl
theorem wrap_small {a : Int} (h0 : -9223372036854775808 ≤ a) (h1 : a < 9223372036854775808) : IntKind.i64.wrap a = a := by
 simp only [IntKind.wrap, IntKind.signed, IntKind.bits]
 simp
 omega
def unseen (pres : Value → Bool) (r : Row) : Bool := match r with
 | [.v k, _] => !pres k
 | _ => false
def E1 (tid fid rid : Nat) (x2 : AVal) (m : Int) : Env := [(9, nI m), (69, .ptr rid 1 0 0), (0, .ptr tid 200 0 0), (2, x2), (8, .ptr fid 198 0 0)]
section
variable {H : Heap} {tid fid mid td : Nat} {c : Int} {es rows : List Row} {pres : Value → Bool} {x2 : AVal}
def Looks (H : Heap) (td : Nat) (rows : List Row) (pres : Value → Bool) : Prop :=
 ∀ (k : Value) (a : AVal), [.v k, a] ∈ rows → ∃ r x, aLookup Tryz.prog 140 (.ptr td 0 0 0) (.v k) true H = some r ∧ aExtract r 0 = some x ∧ aExtract r 1 = some (.v (.bool (pres k))) ∧ res true r = r
theorem run16 {W : Heap} {k : Value} {r x : AVal} {b : Bool} {ρ : Env} (h8 : AI.ev ρ (.tmp 8) = .ptr fid 198 0 0) (h10 : AI.ev ρ (.tmp 10) = .v k)
  (hF : aLoad Tryz.prog 140 (.ptr fid 198 0 196) W = some (.ptr td 0 0 0)) (hL : aLookup Tryz.prog 140 (.ptr td 0 0 0) (.v k) true W = some r) (hx : aExtract r 0 = some x) (hb : aExtract r 1 = some (.v (.bool b))) (hr : res true r = r) :
  runL Tryz.prog oC 136 ops16 ops16.toList (ρ, W) = some ((12, .v (.bool b)) :: (11, res true x) :: (82, .v (.bool b)) :: (81, x) :: (74, r) :: (80, r) :: (79, .v k) :: (78, .ptr td 0 0 0) :: (77, .ptr fid 198 0 196) :: (76, .ptr fid 198 0 0) :: (75, .ptr fid 198 0 0) :: ρ, W) := by
 show runL _ _ _ _ (_ :: _ :: _ :: _ :: _ :: _ :: _ :: _ :: _ :: _ :: _ :: []) _ = _
 refine runL_step rfl rfl (v := .ptr fid 198 0 0) (congrArg (fun z => some (res true z, W)) h8) ?_
 refine runL_step rfl rfl rfl ?_
 refine runL_step rfl rfl (mapS (fa2 fid)) ?_
 refine runL_step rfl rfl (mapS hF) ?_
 refine runL_step rfl rfl (v := .v k) (congrArg (fun z => some (res true z, W)) (show AI.ev _ (.tmp 10) = .v k from h10)) ?_
 refine runL_step rfl rfl (mapS hL) ?_
 refine runL_step rfl rfl (v := r) (congrArg (fun z => some (z, W)) hr) ?_
 refine runL_step rfl rfl (v := x) (mapS (x := aExtract (res true r) 0) (by rw [hr]; exact hx)) ?_
 refine runL_step rfl rfl (v := .v (.bool b)) (mapS (x := aExtract (res true r) 1) (by rw [hr]; exact hb)) ?_
 refine runL_step rfl rfl rfl ?_
 refine runL_step rfl rfl rfl ?_
 exact rfl
theorem run13 {W : Heap} {ρ : Env} {W' : Heap} {i : AVal} (h0 : AI.ev ρ (.tmp 0) = .ptr tid 200 0 0) (hT : aLoad Tryz.prog 140 (.ptr tid 200 0 196) W = some (.ptr mid 0 0 0)) (hR : aRange Tryz.prog 140 (.ptr mid 0 0 0) W = some (i, W')) :
  runL Tryz.prog oC 136 ops13 ops13.toList (ρ, W) = some ((69, i) :: (68, .ptr mid 0 0 0) :: (67, .ptr tid 200 0 196) :: (66, .ptr tid 200 0 0) :: (65, .ptr tid 200 0 0) :: ρ, W') := by
 show runL _ _ _ _ (_ :: _ :: _ :: _ :: _ :: []) _ = _
 refine runL_step rfl rfl (v := .ptr tid 200 0 0) (congrArg (fun z => some (res true z, W)) h0) ?_
 refine runL_step rfl rfl rfl ?_
 refine runL_step rfl rfl (mapS (fa1 tid)) ?_
 refine runL_step rfl rfl (mapS hT) ?_
 refine runL_step rfl rfl hR ?_
 exact rfl
theorem body1 {n0 : Nat} {Q : Post} (hM : H[mid]? = some (some (0, rows))) (hx : Exp rows es) (hF : aLoad Tryz.prog 140 (.ptr fid 198 0 196) H = some (.ptr td 0 0 0)) (htd : td ≠ mid) (htl : td < H.length) (hL : Looks H td rows pres)
  {m : Int} (hm0 : 0 ≤ m) (hm1 : m < 1000000) {sn : Row} {i : Nat} {k a : AVal} {b : Int} (hi : es[i]? = some [k, a, .v (.int .i64 b)]) {g : Row → Bool} (hg : ∀ k a b, g [.v k, a, b] = !pres k)
  (hQ : ∀ ρ', (∀ p ∈ E1 tid fid H.length x2 (m + (if g [k, a, .v (.int .i64 b)] then 1 else 0)), AI.look ρ' p.1 = p.2) → Q .normal ρ' (Wk H mid c es (sn ++ [.v (.int .i64 b)]))) :
  AWp Tryz.prog 136 n0 (.block 3 (.seq (.region 15 ops15 false) (.seq (.region 16 ops16 false) (.seq (.region 17 ops17 false) (.cond (.tmp 84) (.region 18 ops18 false) .skip))))) Q ((71, .v (.bool true)) :: (70, .tup [.v (.bool true), k, a]) :: E1 tid fid H.length x2 m) (Wk H mid c es (sn ++ [.v (.int .i64 b)])) := by
 obtain ⟨kv, a', b', e⟩ := hx.wf _ (List.mem_of_getElem? hi)
 simp only [List.cons.injEq, AVal.v.injEq, Value.int.injEq, true_and, and_true] at e
 obtain ⟨rfl, rfl, rfl⟩ := e
 have hmem : [.v kv, a] ∈ rows := hx.perm.mem_iff.1 (List.mem_map.2 ⟨_, List.mem_of_getElem? hi, rfl⟩)
 obtain ⟨r, x, l1, l2, l3, l4⟩ := hL kv a hmem
 have hE := Wk_entry (c := c) (sn := sn) hM hx hi
 have hF' : aLoad Tryz.prog 140 (.ptr fid 198 0 196) (Wk H mid c es (sn ++ [.v (.int .i64 b)])) = some (.ptr td 0 0 0) := by rw [load_same (Wk_obj hM fid)]; exact hF
 have hL' : aLookup Tryz.prog 140 (.ptr td 0 0 0) (.v kv) true (Wk H mid c es (sn ++ [.v (.int .i64 b)])) = some r := by rw [lookup_same (Wk_lt htl htd)]; exact l1
 refine AWp.block ?_
 have e15 : runL Tryz.prog oC 136 ops15 ops15.toList ((71, .v (.bool true)) :: (70, .tup [.v (.bool true), .v kv, a]) :: E1 tid fid H.length x2 m, Wk H mid c es (sn ++ [.v (.int .i64 b)])) = some ((10, .v kv) :: (73, .v kv) :: (72, .tup [.v kv, a]) :: (71, .v (.bool true)) :: (70, .tup [.v (.bool true), .v kv, a]) :: E1 tid fid H.length x2 m, Wk H mid c es (sn ++ [.v (.int .i64 b)])) := by
  show runL _ _ _ _ (_ :: _ :: _ :: []) _ = _
  refine runL_step rfl rfl (mapS hE) ?_
  refine runL_step rfl rfl rfl ?_
  refine runL_step rfl rfl rfl ?_
  exact rfl
 refine AWp.seqX (AWp.run oC_ok mixed e15) ?_
 refine AWp.seqX (AWp.run oC_ok mixed (run16 rfl rfl hF' hL' l2 l3 l4)) ?_
 have e17 : ∀ (ρ : Env) (W : Heap), runL Tryz.prog oC 136 ops17 ops17.toList ((12, .v (.bool (pres kv))) :: ρ, W) = some ((84, .v (.bool !pres kv)) :: (83, .v (.bool (pres kv))) :: (12, .v (.bool (pres kv))) :: ρ, W) := by
  intro ρ W
  cases pres kv <;> kernel_rfl
 refine AWp.seqX (AWp.run oC_ok mixed (e17 _ _)) ?_
 rw [hg] at hQ
 cases hp : pres kv with
 | true =>
  refine AWp.condF rfl (AWp.skip ?_)
  rw [hp] at hQ
  simp only [blockA]
  refine hQ _ fun p hpm => ?_
  simp only [E1, List.mem_cons, List.not_mem_nil, or_false] at hpm
  rcases hpm with rfl | rfl | rfl | rfl | rfl
  ·simp [E1, AI.look]
  all_goals rfl
 | false =>
  refine AWp.condT rfl ?_
  have e18 : ∀ (ρ : Env) (W : Heap), AI.ev ρ (.tmp 9) = nI m → runL Tryz.prog oC 136 ops18 ops18.toList (ρ, W) = some ((9, nI (m + 1)) :: (86, nI (m + 1)) :: (85, nI m) :: ρ, W) := by
   intro ρ W h9
   show runL _ _ _ _ (_ :: _ :: _ :: []) _ = _
   have hw : IntKind.i64.wrap (m + 1) = m + 1 := wrap_small (by omega) (by omega)
   refine runL_step rfl rfl (v := nI m) (congrArg (fun z => some (res true z, W)) h9) ?_
   refine runL_step (v := nI (m + 1)) (H' := W) rfl rfl ?_ ?_
   ·have := add1 m
    rw [hw] at this
    show (match aBin Tryz.prog .add 3 (.tmp 85) (.const (.int .i64 1)) (nI m) (nI 1) with | some a => some (a, W) | none => none) = _
    rw [this]
   refine runL_step rfl rfl rfl ?_
   exact rfl
  refine AWp.ofX (AWp.run oC_ok mixed (e18 _ _ rfl)) ?_
  rw [hp] at hQ
  simp only [blockA]
  refine hQ _ fun p hpm => ?_
  simp only [E1, List.mem_cons, List.not_mem_nil, or_false] at hpm
  rcases hpm with rfl | rfl | rfl | rfl | rfl <;> rfl
theorem wf3 (hx : Exp rows es) : ∀ r ∈ es, ∃ (k a : AVal) (b : Int), r = [k, a, .v (.int .i64 b)] := fun r hr => let ⟨k, a, b, h⟩ := hx.wf r hr; ⟨.v k, a, b, h⟩
theorem run14 (ρ : Env) (W : Heap) (b : Bool) (l : Row) : runL Tryz.prog oC 136 ops14 [ops14.getD 1 default] ((70, .tup (.v (.bool b) :: l)) :: ρ, W) = some ((71, .v (.bool b)) :: (70, .tup (.v (.bool b) :: l)) :: ρ, W) := by kernel_rfl
theorem run14' (ρ : Env) (W : Heap) : runL Tryz.prog oC 136 ops14 [ops14.getD 1 default] ((70, .v (.tuple #[.bool false])) :: ρ, W) = some ((71, .v (.bool false)) :: (70, .v (.tuple #[.bool false])) :: ρ, W) := by kernel_rfl
open Classical in
theorem loop1 {n0 : Nat} {ρ : Env} {n : Nat} (h0 : AI.look ρ 0 = .ptr tid 200 0 0) (h8 : AI.look ρ 8 = .ptr fid 198 0 0) (h9 : AI.look ρ 9 = nI n) (hn : n < 100000)
  (hT : aLoad Tryz.prog 140 (.ptr tid 200 0 196) H = some (.ptr mid 0 0 0)) (hM : H[mid]? = some (some (0, rows))) (hne : rows ≠ []) (h2 : ∀ r ∈ rows, r.length = 2) (hlen : rows.length < 100000)
  (hF : aLoad Tryz.prog 140 (.ptr fid 198 0 196) H = some (.ptr td 0 0 0)) (htd : td ≠ mid) (htl : td < H.length) (hL : Looks H td rows pres) :
  AWp Tryz.prog 136 n0 kL1 (IsX (.normal, [(9, nI (n + rows.countP (unseen pres))), (0, .ptr tid 200 0 0), (2, AI.look ρ 2), (8, .ptr fid 198 0 0)], H ++ [none])) ρ H := by
 rw [kL1_eq]
 refine AWp.toX ?_
 refine AWp.expose hM hne h2 fun c es hx => ?_
 have hlt := (List.getElem?_eq_some_iff.1 hM).1
 have hobj : ∀ i, obj (H.set mid (some (0, [.v (.int .i64 c)] :: es))) i = obj H i := by
  intro i
  by_cases hi : i = mid
  ·subst hi
   rw [obj0 hM, obj0 (r := [.v (.int .i64 c)] :: es) (by rw [List.getElem?_set_self hlt])]
  ·simp only [obj]
   rw [List.getElem?_set_ne (by omega)]
 obtain ⟨ka, kb, hu⟩ := und140
 have hR := Wk_range (c := c) (es := es) hM hu
 have hT' : aLoad Tryz.prog 140 (.ptr tid 200 0 196) (H.set mid (some (0, [.v (.int .i64 c)] :: es))) = some (.ptr mid 0 0 0) := by rw [load_same (hobj tid)]; exact hT
 have e0 : AI.ev ρ (.tmp 0) = .ptr tid 200 0 0 := h0
 refine AWp.seqX (AWp.run oC_ok mixed (run13 e0 hT' hR)) ?_
 let g : Row → Bool := fun r => match r with | [.v k, _, _] => !pres k | _ => false
 have hg : ∀ k a b, g [.v k, a, b] = !pres k := fun _ _ _ => rfl
 let st : { sn : Row // ∀ x ∈ sn, ∃ b : Int, x = .v (.int .i64 b) } → Env × Heap := fun s => (E1 tid fid H.length (AI.look ρ 2) ((n : Int) + (cnt g es s.1 : Int)), Wk H mid c es s.1)
 refine AWp.block (LoopA_sound (W := fun Q ρ H => AWp Tryz.prog 136 n0 _ Q ρ H) (fun Q ρ H h => h) (.inr (.inr (.inr ⟨_, st, fun s => es.length - cnt (fun _ => true) es s.1, ⟨[], fun x hx => by simp at hx⟩, Ent.env fun p hp => ?_, fun s => ?_⟩))))
 ·simp only [E1, cnt_nil, List.mem_cons, List.not_mem_nil, or_false] at hp
  rcases hp with rfl | rfl | rfl | rfl | rfl
  ·show AI.look ρ 9 = _
   simpa using h9
  ·rfl
  ·exact h0
  ·rfl
  ·exact h8
 ·have hl : es.length = rows.length := by have := hx.perm.length_eq; simpa using this
  have hcl : cnt g es s.1 ≤ es.length := cnt_le
  refine AWp.rangeStep (C := oC) oC_ok (o1 := ops14.getD 0 default) (o2 := ops14.getD 1 default) (d1 := 70) (by rfl) rfl rfl rfl (by decide) (fun ρ H b l => run14 ρ H b l) (fun ρ H => run14' ρ H) (rid := H.length) (mid := mid) rfl Wk_it (Wk_mid hM) (Int.le_refl _) (wf3 hx) s.2 (fun i k a b hi hb => ?_) (fun hall => ?_)
  ·simp only [st, Wk_set]
   obtain ⟨kv, a', b', e⟩ := hx.wf _ (List.mem_of_getElem? hi)
   have hstep := cnt_add (g := g) hb hx.nodup hi rfl
   have hstep1 : cnt (fun _ => true) es (s.1 ++ [.v (.int .i64 b)]) = cnt (fun _ => true) es s.1 + 1 := by simpa using cnt_add (g := fun _ => true) hb hx.nodup hi rfl
   have hle1 : cnt (fun _ => true) es (s.1 ++ [.v (.int .i64 b)]) ≤ es.length := cnt_le
   refine body1 hM hx hF htd htl hL (by omega) (by omega) hi hg fun ρ' hρ => ?_
   refine ⟨⟨s.1 ++ [.v (.int .i64 b)], fun x hx' => ?_⟩, ?_, Ent.env fun p hp => ?_⟩
   ·rcases List.mem_append.1 hx' with h | h
    ·exact s.2 x h
    ·simp at h; exact ⟨b, h⟩
   ·show es.length - cnt (fun _ => true) es (s.1 ++ [.v (.int .i64 b)]) < es.length - cnt (fun _ => true) es s.1
    omega
   ·refine hρ p ?_
    simp only [hstep] at hp
    have e3 : ((n : Int) + (cnt g es s.1 : Int) + if g [k, a, .v (.int .i64 b)] = true then 1 else 0) = (n : Int) + ((cnt g es s.1 + if g [k, a, .v (.int .i64 b)] = true then 1 else 0 : Nat) : Int) := by
     split <;> simp <;> omega
    rw [e3]
    exact hp
  ·have hall' : ∀ r ∈ es, stampA r ∈ s.1 := by
    intro r hr
    obtain ⟨k, a, b, rfl⟩ := hx.wf r hr
    obtain ⟨i, hi⟩ := List.mem_iff_getElem?.1 hr
    exact hall i _ _ b hi
   have hc : (cnt g es s.1 : Int) = (rows.countP (unseen pres) : Nat) := by
    rw [cnt_all hall', ← hx.perm.countP_eq, List.countP_map]
    congr 1
    refine List.countP_congr fun r hr => ?_
    obtain ⟨k, a, b, rfl⟩ := hx.wf r hr
    simp [g, pairR, unseen]
   refine ⟨rfl, Ent.trans (Ent.env fun p hp => ?_) (Wk_end hM hx)⟩
   simp only [List.mem_cons, List.not_mem_nil, or_false] at hp
   rcases hp with rfl | rfl | rfl | rfl
   ·rw [← hc]; rfl
   all_goals rfl
end
end Go.Proofs.GD
/- keep's second loop: what is put is put, in whatever order. -/
namespace Go.Proofs.GD
set_option linter.unusedSectionVars false
variable [Go.AI.Sym]
open Go Go.AI Go.RowKit
set_option maxRecDepth 100000
set_option linter.unusedVariables false
set_option linter.unusedSimpArgs false
def getK {α β : Type} [DecidableEq α] (k : α) : List (α × β) → Option β
 | [] => none
 | x :: l => if x.1 = k then some x.2 else getK k l
section
variable {α β : Type} [DecidableEq α]
theorem getK_none {k : α} : ∀ {l : List (α × β)}, getK k l = none ↔ k ∉ l.map (·.1)
 | [] => by simp [getK]
 | x :: l => by
  unfold getK
  by_cases h : x.1 = k
  ·rw [if_pos h]; simp [h]
  ·rw [if_neg h, getK_none]; simp; intro _ e; exact h e.symm
theorem getK_mem {k : α} {v : β} : ∀ {l : List (α × β)}, getK k l = some v → (k, v) ∈ l
 | [], h => by simp [getK] at h
 | x :: l, h => by
  unfold getK at h
  by_cases e : x.1 = k
  ·rw [if_pos e] at h; cases h; subst e; simp
  ·rw [if_neg e] at h; exact List.mem_cons_of_mem _ (getK_mem h)
theorem getK_of {k : α} {v : β} : ∀ {l : List (α × β)}, (l.map (·.1)).Nodup → (k, v) ∈ l → getK k l = some v
 | [], _, h => by simp at h
 | x :: l, hn, h => by
  rw [List.map_cons, List.nodup_cons] at hn
  unfold getK
  rcases List.mem_cons.1 h with rfl | h
  ·rw [if_pos rfl]
  ·rw [if_neg, getK_of hn.2 h]
   intro e
   exact hn.1 (List.mem_map.2 ⟨_, h, e.symm⟩)
end
theorem keyI_eq (a b : Int) : keyEq Tryz.prog 3 (.int .i64 a) (.int .i64 b) = some (a == b) := by
 simp [keyEq]
theorem keyI_ok (a : Int) : keyOk Tryz.prog 3 (.int .i64 a) = true := rfl
section
variable {β : Type} {g : Int × β → Row} {v : β → AVal}
theorem find_key (hg : ∀ x, g x = [.v (.int .i64 x.1), v x.2]) (s : Int) : ∀ (l : List (Int × β)), (l.map (·.1)).Nodup → findR Tryz.prog 3 (.int .i64 s) (l.map g) = some ((getK s l).map v)
 | [], _ => rfl
 | x :: l, hn => by
  rw [List.map_cons, List.nodup_cons] at hn
  have ih := find_key hg s l hn.2
  rw [List.map_cons, hg x]
  simp only [findR, keyI_eq, getK]
  by_cases h : x.1 = s
  ·subst h
   rw [getK_none.2 hn.1] at ih
   simp [ih]
  ·have h2 : (s == x.1) = false := by simp; exact fun e => h e.symm
   simp [h2, ih, h]
def putK (k : Int) (v : β) : List (Int × β) → List (Int × β)
 | [] => [(k, v)]
 | x :: l => if x.1 = k then (k, v) :: l else x :: putK k v l
theorem put_key (hg : ∀ x, g x = [.v (.int .i64 x.1), v x.2]) (s : Int) (b : β) : ∀ (l : List (Int × β)), (l.map (·.1)).Nodup → putR Tryz.prog 3 (.int .i64 s) (v b) (l.map g) = some ((putK s b l).map g)
 | [], _ => by simp [putR, putK, hg]
 | x :: l, hn => by
  rw [List.map_cons, List.nodup_cons] at hn
  have ih := put_key hg s b l hn.2
  have hf := find_key hg s l hn.2
  rw [List.map_cons, hg x]
  simp only [putR, keyI_eq, putK]
  by_cases h : x.1 = s
  ·subst h
   rw [getK_none.2 hn.1] at hf
   have hb : Instr.sameBits 10000 (.int .i64 x.1) (.int .i64 x.1) = true := by unfold Instr.sameBits; simp
   simp [hf, hb, hg]
  ·have h2 : (s == x.1) = false := by simp; exact fun e => h e.symm
   simp [h2, ih, h, hf, hg]
theorem putK_keys (k : Int) (v : β) : ∀ (l : List (Int × β)), (putK k v l).map (·.1) = if k ∈ l.map (·.1) then l.map (·.1) else l.map (·.1) ++ [k]
 | [] => rfl
 | x :: l => by
  unfold putK
  by_cases h : x.1 = k
  ·rw [if_pos h]; simp [h]
  ·rw [if_neg h, List.map_cons, putK_keys k v l]
   have : k ∈ (x :: l).map (·.1) ↔ k ∈ l.map (·.1) := by
    rw [List.map_cons, List.mem_cons]; exact ⟨fun h2 => h2.resolve_left fun e => h e.symm, .inr⟩
   by_cases h3 : k ∈ l.map (·.1)
   ·rw [if_pos h3, if_pos (this.2 h3)]; rfl
   ·rw [if_neg h3, if_neg (fun e => h3 (this.1 e))]; rfl
theorem putK_nodup {k : Int} {v : β} {l : List (Int × β)} (h : (l.map (·.1)).Nodup) : ((putK k v l).map (·.1)).Nodup := by
 rw [putK_keys]
 split
 ·exact h
 ·rename_i hk
  rw [List.nodup_append]
  exact ⟨h, by simp, fun a ha b hb e => by simp at hb; rw [e, hb] at ha; exact hk ha⟩
theorem getK_putK {k k' : Int} {v : β} : ∀ (l : List (Int × β)), getK k' (putK k v l) = if k' = k then some v else getK k' l
 | [] => by
  simp only [putK, getK]
  by_cases h : k' = k
  ·rw [if_pos h, if_pos h.symm]
  ·rw [if_neg h, if_neg fun e => h e.symm]
 | x :: l => by
  unfold putK
  by_cases h : x.1 = k
  ·rw [if_pos h]
   simp only [getK]
   by_cases h2 : k' = k
   ·rw [if_pos h2, if_pos h2.symm]
   ·rw [if_neg h2, if_neg (fun e => h2 e.symm), if_neg (fun e => h2 (e.symm.trans h))]
  ·rw [if_neg h]
   simp only [getK, getK_putK l]
   by_cases h2 : k' = k
   ·rw [if_pos h2, if_pos h2, if_neg (fun e => h (e.trans h2))]
   ·rw [if_neg h2, if_neg h2]
end
abbrev KV := List (Int × AVal)
def gI (x : Int × AVal) : Row := [.v (.int .i64 x.1), x.2]
theorem gI_ok : ∀ x, gI x = [.v (.int .i64 x.1), id x.2] := fun _ => rfl
def putAll (T : KV) (l : KV) : KV := l.foldl (fun T r => putK r.1 r.2 T) T
theorem putAll_nodup : ∀ {l T : KV}, (T.map (·.1)).Nodup → ((putAll T l).map (·.1)).Nodup
 | [], T, h => h
 | r :: l, T, h => by
  show ((putAll (putK r.1 r.2 T) l).map (·.1)).Nodup
  exact putAll_nodup (putK_nodup h)
theorem putAll_get {k : Int} : ∀ {l T : KV}, (l.map (·.1)).Nodup → getK k (putAll T l) = (getK k l).or (getK k T)
 | [], T, h => by simp [putAll, getK]
 | r :: l, T, h => by
  rw [List.map_cons, List.nodup_cons] at h
  show getK k (putAll (putK r.1 r.2 T) l) = _
  rw [putAll_get h.2, getK_putK]
  simp only [getK]
  by_cases hk : k = r.1
  ·rw [if_pos hk, if_pos hk.symm]
   have : getK k l = none := getK_none.2 (by rw [hk]; exact h.1)
   rw [this]; rfl
  ·rw [if_neg hk, if_neg (fun e => hk e.symm)]
theorem nodup_keys {l : KV} (h : (l.map (·.1)).Nodup) : l.Nodup := List.Pairwise.of_map _ (fun a b hab e => hab (by rw [e])) h
theorem putAll_perm {l l' T : KV} (hT : (T.map (·.1)).Nodup) (hl : (l.map (·.1)).Nodup) (hp : l.Perm l') : (putAll T l).Perm (putAll T l') := by
 have hl' : (l'.map (·.1)).Nodup := (hp.map _).nodup_iff.1 hl
 refine (List.perm_ext_iff_of_nodup (nodup_keys (putAll_nodup hT)) (nodup_keys (putAll_nodup hT))).2 fun x => ?_
 have key : ∀ {A : KV}, (A.map (·.1)).Nodup → (x ∈ A ↔ getK x.1 A = some x.2) := fun hA => ⟨fun h => getK_of hA h, fun h => getK_mem h⟩
 rw [key (putAll_nodup hT), key (putAll_nodup hT), putAll_get hl, putAll_get hl']
 have : getK x.1 l = getK x.1 l' := by
  cases h : getK x.1 l with
  | none =>
   refine (getK_none.2 fun hm => getK_none.1 h ?_).symm
   exact (hp.map _).mem_iff.2 hm
  | some v => exact (getK_of hl' (hp.mem_iff.1 (getK_mem h))).symm
 rw [this]
theorem und140' : Tryz.prog.underlying 140 = some (.map 3 28) := by kernel_rfl
def E2 (tid fid rid : Nat) (x2 : AVal) : Env := [(103, .ptr rid 1 0 0), (0, .ptr tid 200 0 0), (2, x2), (8, .ptr fid 198 0 0)]
def kvOf (r : Row) : Int × AVal := match r with
 | [.v (.int .i64 k), a, _] => (k, a)
 | _ => (0, .junk)
def kvP (r : Row) : Int × AVal := match r with
 | [.v (.int .i64 k), a] => (k, a)
 | _ => (0, .junk)
section
variable {H : Heap} {tid fid mid td : Nat} {c : Int} {es : List Row} {R T : KV} {x2 : AVal}
theorem Wk_setTd {sn : Row} {q : Option (Nat × List Row)} (htd : td ≠ mid) (htl : td < H.length) : (Wk H mid c es sn).set td q = Wk (H.set td q) mid c es sn := by
 unfold Wk
 rw [List.set_append_left _ _ (by simpa using htl), List.set_comm _ _ htd]
theorem run23 {W : Heap} {ρ : Env} {W' : Heap} {i : AVal} (h0 : AI.ev ρ (.tmp 0) = .ptr tid 200 0 0) (hT : aLoad Tryz.prog 140 (.ptr tid 200 0 196) W = some (.ptr mid 0 0 0)) (hR : aRange Tryz.prog 140 (.ptr mid 0 0 0) W = some (i, W')) :
  runL Tryz.prog oC 136 ops23 ops23.toList (ρ, W) = some ((103, i) :: (102, .ptr mid 0 0 0) :: (101, .ptr tid 200 0 196) :: (100, .ptr tid 200 0 0) :: (99, .ptr tid 200 0 0) :: ρ, W') := by
 show runL _ _ _ _ (_ :: _ :: _ :: _ :: _ :: []) _ = _
 refine runL_step rfl rfl (v := .ptr tid 200 0 0) (congrArg (fun z => some (res true z, W)) h0) ?_
 refine runL_step rfl rfl rfl ?_
 refine runL_step rfl rfl (mapS (fa1 tid)) ?_
 refine runL_step rfl rfl (mapS hT) ?_
 refine runL_step rfl rfl hR ?_
 exact rfl
theorem run24 (ρ : Env) (W : Heap) (b : Bool) (l : Row) : runL Tryz.prog oC 136 ops24 [ops24.getD 1 default] ((104, .tup (.v (.bool b) :: l)) :: ρ, W) = some ((105, .v (.bool b)) :: (104, .tup (.v (.bool b) :: l)) :: ρ, W) := by kernel_rfl
theorem run24' (ρ : Env) (W : Heap) : runL Tryz.prog oC 136 ops24 [ops24.getD 1 default] ((104, .v (.tuple #[.bool false])) :: ρ, W) = some ((105, .v (.bool false)) :: (104, .v (.tuple #[.bool false])) :: ρ, W) := by kernel_rfl
theorem kv_pair (r : Row) (h : ∃ (k : Value) (a : AVal) (b : Int), r = [.v k, a, .v (.int .i64 b)]) : kvOf r = kvP (pairR r) := by
 obtain ⟨k, a, b, rfl⟩ := h
 cases k with
 | int kd n => cases kd <;> rfl
 | _ => rfl
theorem es_kv (hx : Exp (R.map gI) es) : (es.map kvOf).Perm R := by
 have h1 : es.map kvOf = (es.map pairR).map kvP := by
  rw [List.map_map]
  exact List.map_congr_left fun r hr => kv_pair r (hx.wf r hr)
 have h2 : (R.map gI).map kvP = R := by
  rw [List.map_map]
  conv => rhs; rw [← List.map_id R]
  exact List.map_congr_left fun x _ => rfl
 rw [h1]
 exact (hx.perm.map kvP).trans (by rw [h2])
theorem body2 {n0 : Nat} {Q : Post} (hM : H[mid]? = some (some (0, R.map gI))) (hx : Exp (R.map gI) es) (hF : aLoad Tryz.prog 140 (.ptr fid 198 0 196) H = some (.ptr td 0 0 0)) (htd : td ≠ mid) (htl : td < H.length)
  (hTd : H[td]? = some (some (0, T.map gI))) (hTn : (T.map (·.1)).Nodup) (hr : ∀ x ∈ R, res true x.2 = x.2)
  {sn : Row} {i : Nat} {k a : AVal} {b : Int} (hi : es[i]? = some [k, a, .v (.int .i64 b)])
  (hQ : ∀ ρ', (∀ p ∈ E2 tid fid H.length x2, AI.look ρ' p.1 = p.2) → Q .normal ρ' (Wk (H.set td (some (0, (putK (kvOf [k, a, .v (.int .i64 b)]).1 (kvOf [k, a, .v (.int .i64 b)]).2 T).map gI))) mid c es (sn ++ [.v (.int .i64 b)]))) :
  AWp Tryz.prog 136 n0 (.block 5 (.seq (.region 25 ops25 false) (.region 26 ops26 false))) Q ((105, .v (.bool true)) :: (104, .tup [.v (.bool true), k, a]) :: E2 tid fid H.length x2) (Wk H mid c es (sn ++ [.v (.int .i64 b)])) := by
 have hmem : pairR [k, a, .v (.int .i64 b)] ∈ R.map gI := hx.perm.mem_iff.1 (List.mem_map.2 ⟨_, List.mem_of_getElem? hi, rfl⟩)
 obtain ⟨⟨ki, a'⟩, hxm, hxe⟩ := List.mem_map.1 hmem
 simp only [gI, pairR, List.cons.injEq, and_true] at hxe
 obtain ⟨rfl, rfl⟩ := hxe
 have hra : res true a' = a' := hr _ hxm
 have hE := Wk_entry (c := c) (sn := sn) hM hx hi
 have hF' : aLoad Tryz.prog 140 (.ptr fid 198 0 196) (Wk H mid c es (sn ++ [.v (.int .i64 b)])) = some (.ptr td 0 0 0) := by rw [load_same (Wk_obj hM fid)]; exact hF
 refine AWp.block ?_
 have e25 : runL Tryz.prog oC 136 ops25 ops25.toList ((105, .v (.bool true)) :: (104, .tup [.v (.bool true), .v (.int .i64 ki), a']) :: E2 tid fid H.length x2, Wk H mid c es (sn ++ [.v (.int .i64 b)])) = some ((15, a') :: (14, nI ki) :: (108, a') :: (107, nI ki) :: (106, .tup [nI ki, a']) :: (105, .v (.bool true)) :: (104, .tup [.v (.bool true), .v (.int .i64 ki), a']) :: E2 tid fid H.length x2, Wk H mid c es (sn ++ [.v (.int .i64 b)])) := by
  show runL _ _ _ _ (_ :: _ :: _ :: _ :: _ :: []) _ = _
  refine runL_step rfl rfl (mapS hE) ?_
  refine runL_step rfl rfl rfl ?_
  refine runL_step rfl rfl rfl ?_
  refine runL_step rfl rfl rfl ?_
  refine runL_step rfl rfl (v := a') (congrArg (fun z => some (z, Wk H mid c es (sn ++ [AVal.v (.int .i64 b)]))) hra) ?_
  exact rfl
 refine AWp.seqX (AWp.run oC_ok mixed e25) ?_
 have hup : aMapUpdate Tryz.prog 140 (.ptr td 0 0 0) (nI ki) a' (Wk H mid c es (sn ++ [.v (.int .i64 b)])) = some (Wk (H.set td (some (0, (putK ki a' T).map gI))) mid c es (sn ++ [.v (.int .i64 b)])) := by
  have hk : keyOk Tryz.prog 3 (.int .i64 ki) = true := keyI_ok ki
  have hp := put_key (g := gI) (v := id) gI_ok ki a' T hTn
  simp only [id] at hp
  unfold aMapUpdate
  simp only [und140', Wk_lt htl htd, hTd, hk, if_true, hp, Option.map_some, Wk_setTd htd htl]
 have e26 : ∀ ρ : Env, AI.ev ρ (.tmp 8) = .ptr fid 198 0 0 → AI.ev ρ (.tmp 14) = nI ki → AI.ev ρ (.tmp 15) = a' → runL Tryz.prog oC 136 ops26 ops26.toList (ρ, Wk H mid c es (sn ++ [.v (.int .i64 b)])) = some ((114, a') :: (113, nI ki) :: (112, .ptr td 0 0 0) :: (111, .ptr fid 198 0 196) :: (110, .ptr fid 198 0 0) :: (109, .ptr fid 198 0 0) :: ρ, Wk (H.set td (some (0, (putK ki a' T).map gI))) mid c es (sn ++ [.v (.int .i64 b)])) := by
  intro ρ h8 h14 h15
  show runL _ _ _ _ (_ :: _ :: _ :: _ :: _ :: _ :: _ :: []) _ = _
  refine runL_step rfl rfl (v := .ptr fid 198 0 0) (congrArg (fun z => some (res true z, Wk H mid c es (sn ++ [AVal.v (.int .i64 b)]))) h8) ?_
  refine runL_step rfl rfl rfl ?_
  refine runL_step rfl rfl (mapS (fa2 fid)) ?_
  refine runL_step rfl rfl (mapS hF') ?_
  refine runL_step rfl rfl (v := nI ki) (congrArg (fun z => some (res true z, Wk H mid c es (sn ++ [AVal.v (.int .i64 b)]))) (show AI.ev _ (.tmp 14) = nI ki from h14)) ?_
  refine runL_step rfl rfl (v := a') (by
   have : AI.ev ρ (.tmp 15) = a' := h15
   exact (congrArg (fun z => some (res true z, Wk H mid c es (sn ++ [AVal.v (.int .i64 b)]))) this).trans (congrArg (fun z => some (z, Wk H mid c es (sn ++ [AVal.v (.int .i64 b)]))) hra)) ?_
  refine runL_step (v := .v undef) (H' := Wk (H.set td (some (0, (putK ki a' T).map gI))) mid c es (sn ++ [.v (.int .i64 b)])) rfl rfl ?_ ?_
  ·show (aMapUpdate Tryz.prog 140 (.ptr td 0 0 0) (nI ki) (res true a') (Wk H mid c es (sn ++ [.v (.int .i64 b)]))).map (fun H' => (AVal.v undef, H')) = _
   rw [hra, hup]; rfl
  exact rfl
 refine AWp.ofX (AWp.run oC_ok mixed (e26 _ rfl rfl rfl)) ?_
 simp only [blockA]
 refine hQ _ fun p hpm => ?_
 simp only [E2, List.mem_cons, List.not_mem_nil, or_false] at hpm
 rcases hpm with rfl | rfl | rfl | rfl <;> rfl
theorem loop2 {n0 : Nat} {ρ : Env} (h0 : AI.look ρ 0 = .ptr tid 200 0 0) (h8 : AI.look ρ 8 = .ptr fid 198 0 0)
  (hT : aLoad Tryz.prog 140 (.ptr tid 200 0 196) H = some (.ptr mid 0 0 0)) (hM : H[mid]? = some (some (0, R.map gI))) (hne : R ≠ [])
  (hF : aLoad Tryz.prog 140 (.ptr fid 198 0 196) H = some (.ptr td 0 0 0)) (htd : td ≠ mid) (htl : td < H.length)
  (hTd : H[td]? = some (some (0, T.map gI))) (hTn : (T.map (·.1)).Nodup) (hRn : (R.map (·.1)).Nodup) (hr : ∀ x ∈ R, res true x.2 = x.2) :
  AWp Tryz.prog 136 n0 kL2 (IsX (.normal, [(0, .ptr tid 200 0 0), (2, AI.look ρ 2), (8, .ptr fid 198 0 0)], H.set td (some (0, (putAll T R).map gI)) ++ [none])) ρ H := by
 rw [kL2_eq]
 refine AWp.toX ?_
 refine AWp.expose hM (by simpa using hne) (fun r hr => by obtain ⟨x, _, rfl⟩ := List.mem_map.1 hr; rfl) fun c es hx => ?_
 have hlt := (List.getElem?_eq_some_iff.1 hM).1
 have hobj : ∀ (q : List Row) (i : Nat), obj (H.set mid (some (0, q))) i = obj H i := by
  intro q i
  by_cases hi : i = mid
  ·subst hi
   rw [obj0 hM, obj0 (r := q) (by rw [List.getElem?_set_self hlt])]
  ·simp only [obj]
   rw [List.getElem?_set_ne (by omega)]
 have hobjT : ∀ (q : List Row) (i : Nat), obj (H.set td (some (0, q))) i = obj H i := by
  intro q i
  by_cases hi : i = td
  ·subst hi
   rw [obj0 hTd, obj0 (r := q) (by rw [List.getElem?_set_self htl])]
  ·simp only [obj]
   rw [List.getElem?_set_ne (by omega)]
 have hR := Wk_range (c := c) (es := es) hM und140'
 have hT' : aLoad Tryz.prog 140 (.ptr tid 200 0 196) (H.set mid (some (0, [.v (.int .i64 c)] :: es))) = some (.ptr mid 0 0 0) := by rw [load_same (hobj _ tid)]; exact hT
 have e0 : AI.ev ρ (.tmp 0) = .ptr tid 200 0 0 := h0
 refine AWp.seqX (AWp.run oC_ok mixed (run23 e0 hT' hR)) ?_
 let HT : List Row → Heap := fun vis => H.set td (some (0, (putAll T (vis.map kvOf)).map gI))
 let st : { vis : List Row // (vis.map stampA).Nodup ∧ ∀ r ∈ vis, r ∈ es } → Env × Heap := fun s => (E2 tid fid H.length (AI.look ρ 2), Wk (HT s.1) mid c es (s.1.map stampA))
 have hHTl : ∀ vis, (HT vis).length = H.length := fun vis => by simp [HT]
 have hHTm : ∀ vis, (HT vis)[mid]? = some (some (0, R.map gI)) := fun vis => by
  simp only [HT]
  rw [List.getElem?_set_ne htd]; exact hM
 have hHTt : ∀ vis, (HT vis)[td]? = some (some (0, (putAll T (vis.map kvOf)).map gI)) := fun vis => by
  simp only [HT]
  rw [List.getElem?_set_self htl]
 have hwf3 : ∀ r ∈ es, ∃ (k a : AVal) (b : Int), r = [k, a, .v (.int .i64 b)] := wf3 hx
 refine AWp.block (LoopA_sound (W := fun Q ρ H => AWp Tryz.prog 136 n0 _ Q ρ H) (fun Q ρ H h => h) (.inr (.inr (.inr ⟨_, st, fun s => es.length - s.1.length, ⟨[], by simp, fun x hx => by simp at hx⟩, ?_, fun s => ?_⟩))))
 ·have e : Wk (HT []) mid c es [] = Wk H mid c es [] := by
   have : HT [] = H := by
    simp only [HT, List.map_nil, putAll, List.foldl_nil]
    apply List.ext_getElem?
    intro i
    by_cases hi : i = td
    ·subst hi; rw [List.getElem?_set_self htl, hTd]
    ·rw [List.getElem?_set_ne (by omega)]
   rw [this]
  show Ent n0 (E2 tid fid H.length (AI.look ρ 2), Wk (HT []) mid c es []) _
  rw [e]
  refine Ent.env fun p hp => ?_
  simp only [E2, List.mem_cons, List.not_mem_nil, or_false] at hp
  rcases hp with rfl | rfl | rfl | rfl
  ·rfl
  ·exact h0
  ·rfl
  ·exact h8
 ·obtain ⟨vis, hvn, hvm⟩ := s
  have hsn : ∀ x ∈ vis.map stampA, ∃ b : Int, x = AVal.v (.int .i64 b) := fun x hx' => by
   obtain ⟨r, hr', rfl⟩ := List.mem_map.1 hx'
   obtain ⟨k, a, b, rfl⟩ := hwf3 r (hvm r hr')
   exact ⟨b, rfl⟩
  refine AWp.rangeStep (C := oC) oC_ok (o1 := ops24.getD 0 default) (o2 := ops24.getD 1 default) (d1 := 104) (by rfl) rfl rfl rfl (by decide) (fun ρ H b l => run24 ρ H b l) (fun ρ H => run24' ρ H) (rid := H.length) (mid := mid) rfl (by have := Wk_it (H := HT vis) (mid := mid) (c := c) (es := es) (sn := vis.map stampA); rw [hHTl] at this; exact this) (Wk_mid (hHTm vis)) (Int.le_refl _) hwf3 hsn (fun i k a b hi hb => ?_) (fun hall => ?_)
  ·have e1 : (Wk (HT vis) mid c es (vis.map stampA)).set H.length (some (0, [[.ptr mid 0 0 0, .v (.int .i64 c), .v (.int .i64 c)], vis.map stampA ++ [.v (.int .i64 b)]])) = Wk (HT vis) mid c es (vis.map stampA ++ [.v (.int .i64 b)]) := by
    have := Wk_set (H := HT vis) (mid := mid) (c := c) (es := es) (sn := vis.map stampA) (sn' := vis.map stampA ++ [.v (.int .i64 b)])
    rw [hHTl] at this; exact this
   show AWp _ _ _ _ _ _ ((Wk (HT vis) mid c es (vis.map stampA)).set H.length _)
   rw [e1]
   have hF' : aLoad Tryz.prog 140 (.ptr fid 198 0 196) (HT vis) = some (.ptr td 0 0 0) := by rw [load_same (hobjT _ fid)]; exact hF
   have hb2 := body2 (n0 := n0) (c := c) (x2 := AI.look ρ 2) (tid := tid) (Q := thenA (fun ρ' H' => ∃ s' : { vis : List Row // (vis.map stampA).Nodup ∧ ∀ r ∈ vis, r ∈ es }, es.length - s'.1.length < es.length - vis.length ∧ Ent n0 (st s') (ρ', H')) (blockA 4 fun e2 ρ2 H2 => e2 = .normal ∧ Ent n0 ([(0, .ptr tid 200 0 0), (2, AI.look ρ 2), (8, .ptr fid 198 0 0)], H.set td (some (0, (putAll T R).map gI)) ++ [none]) (ρ2, H2)))
    (hHTm vis) hx hF' htd (by rw [hHTl]; exact htl) (hHTt vis) (putAll_nodup hTn) hr (sn := vis.map stampA) hi
   rw [hHTl] at hb2
   refine hb2 fun ρ' hρ => ?_
   have hnew : ((vis ++ [[k, a, .v (.int .i64 b)]]).map stampA).Nodup := by
    rw [List.map_append, List.nodup_append]
    refine ⟨hvn, by simp, fun x hx1 y hy => ?_⟩
    simp only [List.map_cons, List.map_nil, List.mem_singleton] at hy
    subst hy
    exact fun e => hb (by rw [show AVal.v (.int .i64 b) = x from e.symm]; exact hx1)
   have hsub : ∀ r ∈ vis ++ [[k, a, .v (.int .i64 b)]], r ∈ es := fun r hr' => by
    rcases List.mem_append.1 hr' with h | h
    ·exact hvm r h
    ·simp at h; subst h; exact List.mem_of_getElem? hi
   refine ⟨⟨vis ++ [[k, a, .v (.int .i64 b)]], hnew, hsub⟩, ?_, ?_⟩
   ·have hle : (vis ++ [[k, a, .v (.int .i64 b)]]).length ≤ es.length := by
     have h1 := List.Nodup.length_le_of_subset (l₁ := vis ++ [[k, a, .v (.int .i64 b)]]) (l₂ := es) (List.Pairwise.of_map _ (fun a b hab e => hab (by rw [e])) hnew) hsub
     exact h1
    simp only [List.length_append, List.length_cons, List.length_nil] at hle ⊢
    omega
   ·have e2 : (HT vis).set td (some (0, (putK (kvOf [k, a, .v (.int .i64 b)]).1 (kvOf [k, a, .v (.int .i64 b)]).2 (putAll T (vis.map kvOf))).map gI)) = HT (vis ++ [[k, a, .v (.int .i64 b)]]) := by
     simp only [HT, List.set_set, List.map_append, List.map_cons, List.map_nil, putAll, List.foldl_append, List.foldl_cons, List.foldl_nil]
    rw [e2]
    have e3 : vis.map stampA ++ [AVal.v (.int .i64 b)] = (vis ++ [[k, a, .v (.int .i64 b)]]).map stampA := by simp [stampA]
    rw [e3]
    exact Ent.env hρ
  ·have hperm : vis.Perm es := (List.perm_ext_iff_of_nodup (List.Pairwise.of_map _ (fun a b hab e => hab (by rw [e])) hvn) (List.Pairwise.of_map _ (fun a b hab e => hab (by rw [e])) hx.nodup)).2 fun r => ⟨hvm r, fun hr' => by
    obtain ⟨k, a, b, rfl⟩ := hwf3 r hr'
    obtain ⟨i, hi⟩ := List.mem_iff_getElem?.1 hr'
    obtain ⟨r2, h2, h3⟩ := List.mem_map.1 (hall i k a b hi)
    obtain ⟨k2, a2, b2, rfl⟩ := hwf3 r2 (hvm r2 h2)
    simp only [stampA] at h3
    have : [k2, a2, AVal.v (.int .i64 b2)] = [k, a, AVal.v (.int .i64 b)] := by
     obtain ⟨j, hj⟩ := List.mem_iff_getElem?.1 (hvm _ h2)
     have s1 := stamp_of hx.wf hx.nodup hi
     simp only [AVal.v.injEq, Value.int.injEq, true_and] at h3
     subst h3
     have s2 := stamp_of hx.wf hx.nodup hj
     rw [s1] at s2
     simp only [Option.some.injEq, Prod.mk.injEq] at s2
     rw [s2.1, s2.2]
    rw [← this]; exact h2⟩
   have hpp : (putAll T (vis.map kvOf)).Perm (putAll T R) := by
    have hvR : (vis.map kvOf).Perm R := (hperm.map kvOf).trans (es_kv hx)
    exact putAll_perm hTn ((hvR.map _).nodup_iff.2 hRn) hvR
   show _ = _ ∧ Ent n0 _ (_, Wk (HT vis) mid c es (vis.map stampA))
   refine ⟨rfl, Ent.trans (Ent.env (ρ := (105, .v (.bool false)) :: (104, .v (.tuple #[.bool false])) :: E2 tid fid H.length (AI.look ρ 2)) fun p hp => ?_) (Ent.trans (Ent.ofH (H := HT vis ++ [none]) ?_ (fun hs => ?_)) (Wk_end (hHTm vis) hx))⟩
   ·simp only [List.mem_cons, List.not_mem_nil, or_false] at hp
    rcases hp with rfl | rfl | rfl <;> rfl
   ·simp [HT]
   ·have h1 := hs.permM (id := td) (rows := (putAll T (vis.map kvOf)).map gI) (rows' := (putAll T R).map gI) (by rw [List.getElem?_append_left (by rw [hHTl]; exact htl)]; exact hHTt vis) (fun r hr' => by obtain ⟨x, _, rfl⟩ := List.mem_map.1 hr'; rfl) (hpp.map gI)
    have e4 : (HT vis ++ [none]).set td (some (0, (putAll T R).map gI)) = H.set td (some (0, (putAll T R).map gI)) ++ [none] := by
     rw [List.set_append_left _ _ (by rw [hHTl]; exact htl)]
     simp only [HT, List.set_set]
    rw [e4] at h1
    exact h1
end
end Go.Proofs.GD
/- keep's region that asks how many entries a map has. -/
namespace Go.AI
set_option linter.unusedSectionVars false
variable [Go.AI.Sym]
set_option linter.unusedSimpArgs false
set_option linter.unusedVariables false
open Go.RowKit
theorem does_lenM {base : Nat} {w0 : World} {β : Nat → Nat} {fz : Nat → Prop} {H : Heap} {a : Act} {w : World} {P : Program} {o : Oper} {c : Call} {x : Operand} {t k el : TypeId} {id : Nat} {rows : List Row}
  (hop : o.op = .call c) (hcal : c.callee = .builtin .len) (hargs : c.args = #[x]) (hty : c.argTypes = #[t]) (hu : P.underlying t = some (.map k el))
  (hs : HSim base w0 β fz H w) (hx : R β (okOf base fz) w H.length (.ptr id 0 0 0) (a.eval x)) (hid : H[id]? = some (some (0, rows))) (h2 : ∀ r ∈ rows, r.length = 2) : Does P o a w base w0 β fz H (.v (goInt rows.length)) H := by
 have hv := mapV hx
 have hO := hs.objs' id 0 rows hid
 rw [OSim, if_pos rfl] at hO
 obtain ⟨rs, hp, es, clock, h1, h3, _⟩ := hO.ofMap (fun r rest e => h2 r (by rw [e]; simp))
 have hsz : es.size = rows.length := by rw [h3, hp.length_eq]
 refine does_pure hs (x := goInt rows.length) ?_ .v
 have hl : (Builtin.len_ #[t] o.type #[.map (some (β id))]).run P w = .ok (goInt rows.length) w := by
  simp [Builtin.len_, run_underlying hu, MapKept.run_getObj_map h1, hsz, Result.andThen]
 have he : (execOp a.eval o).run P w = (do pure (Next.value (← Builtin.len_ #[t] o.type #[a.eval x])) : Sem Next).run P w := by
  simp [execOp, hop, resolve, hcal, hargs, hty, invoke, builtin]
 rw [he, hv, Sem.run_bind, hl]; rfl
section
variable {P : Program} {C : Orc} {nt n0 : Nat} {ρ : Env} {H : Heap} {ops : Array Oper}
theorem AWp.doesAt (hC : OrcOk P C) {id : Nat} {l1 l2 : List Oper} {o : Oper} {d : Tmp} {s1 s2 : Env × Heap} {av : AVal} {H' : Heap}
  (hops : ops.toList = l1 ++ o :: l2) (hgd : o.guard = none) (hdst : o.dst = some d) (hd : d < nt)
  (h1 : runL P C nt ops l1 (ρ, H) = some s1) (hdo : ∀ (f : Fr) (base : Nat) (w0 : World) (β : Nat → Nat) (fz : Nat → Prop) (a : Act) (w : World), Sim f base w0 β fz s1.1 s1.2 a w → Does P o a w base w0 β fz s1.2 av H')
  (h2 : runL P C nt ops l2 (put s1.1 (some d) av, H') = some s2) : AWp P nt n0 (.region id ops false) (IsX (.normal, s2.1, s2.2)) ρ H := by
 intro fr base w0 β fz a w e1 e2 hs
 subst e1
 apply wp_region
 have hsz : ops.size = l1.length + (1 + l2.length) := by rw [← Array.length_toList, hops]; simp; omega
 have hrng : List.range ops.size = List.range' 0 l1.length ++ (l1.length :: List.range' (l1.length + 1) l2.length) := by
  rw [hsz, List.range_eq_range', ← List.range'_append_1, Nat.zero_add, Nat.add_comm 1, List.range'_succ]
 rw [hrng]
 have hgetop : ∀ j, ops[j]? = (l1 ++ o :: l2)[j]? := fun j => by rw [← Array.getElem?_toList, hops]
 refine seqK_wp hC _ _ (ρn := s1.1) (Hn := s1.2) (fun β1 fz1 a1 w1 hs1 => ?_) l1 0 ρ H β fz a w (fun j hj => by rw [Nat.zero_add, hgetop, List.getElem?_append_left hj]) h1 hs
 rw [wpOps_cons]
 unfold wpOp
 have ho : ops[l1.length]? = some o := by rw [hgetop, List.getElem?_append_right (Nat.le_refl _), Nat.sub_self]; rfl
 simp only [ho]
 have hw : Region.wanted o (yielded ops a1.tmps) = true := by simp [Region.wanted, hgd]
 rw [hw]
 simp only [if_true]
 left
 refine hdo _ _ _ _ _ _ _ hs1 _ _ (fun y β' fz' w' k1 k2 k3 => ?_)
 have hs2 := hs1.put k1 k2 (d := o.dst) (fun t ht => by rw [hdst] at ht; cases ht; exact hd) k3
 rw [hdst] at hs2
 rw [hdst]
 exact seq_wp hC _ (fun β2 fz2 a2 w2 hs3 => ⟨s2.1, s2.2, β2, fz2, rfl, hs3⟩) l2 (l1.length + 1) _ _ β' fz' _ w' (fun j => by rw [hgetop, List.getElem?_append_right (by omega), show l1.length + 1 + j - l1.length = j + 1 by omega]; rfl) h2 hs2
end
end Go.AI
