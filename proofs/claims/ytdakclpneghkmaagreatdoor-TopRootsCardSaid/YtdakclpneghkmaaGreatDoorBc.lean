/- Phase B: what is done at the link. -/
import Derived.Test.YtdakclpneghkmaaGreatDoorLb
import Derived.Test.YtdakclpneghkmaaGreatDoorWA
import Derived.Test.YtdakclpneghkmaaGreatDoorSp
namespace Go.Proofs.GD
set_option linter.unusedSectionVars false
variable [Go.AI.Sym]
open Go Go.AI Go.RowKit
set_option maxRecDepth 100000
noncomputable def li0 : Code := bodyC Tryz.f303
noncomputable def liR0 : Code := fstC li0
noncomputable def liB1 : Code := fstC (sndC li0)
noncomputable def liR4 : Code := fstC (sndC (sndC li0))
noncomputable def liB5 : Code := fstC (sndC (sndC (sndC li0)))
noncomputable def liB8 : Code := fstC (sndC (sndC (sndC (sndC (sndC li0)))))
noncomputable def liB10 : Code := fstC (sndC (sndC (sndC (sndC (sndC (sndC li0))))))
def liE : Env := [(0, .ptr 2827 10 0 0), (1, .v (.int .i64 4))]
def SWz (z : Nat) : LS := LBz z ++ [(2826, .ls 1 [[.v (.int .i64 3)]])]
def kWz (z : Nat) (x : Nat → UInt8) (c : Int) (bx : Nat → LO) : LS := (100, .ls 1 (blkR z x)) :: (2827, .ls 10 [wkR c]) :: bxL bx
def strZ (z : Nat) (x : Nat → UInt8) : ByteArray := strB ((List.range z).map fun i => ((x i).toNat : Int))
def RunT (z : Nat) : Prop := ∀ (x : Nat → UInt8) (bx : Nat → LO) (c : Int), obsB (runG 303 54 cat4 liR4 liE (mkT 2828 (SWz z ++ kWz z x c bx))) 0 2837 (SWz z) [0, 6, 7] ((kWz z x c bx).map Prod.fst) = some ([(0, .ptr 2827 10 0 0), (6, .v (.string (strZ z x))), (7, .v (.int .i64 0))], (kWz z x c bx).map fun p => some (absO (toO p.2)))
end Go.Proofs.GD
/- The state with marks, and with the text's size and bytes. -/
namespace Go.Proofs.GD
set_option linter.unusedSectionVars false
variable [Go.AI.Sym]
open Go Go.AI Go.RowKit
set_option maxRecDepth 100000
structure MarksL (z : Nat) (x : Nat → UInt8) : Prop where
 size : ∀ v, Sym.P 70 v ↔ v = .int .i64 z
 sizeB : ∀ v, Sym.P 71 v ↔ v = .int .u8 z
 byte : ∀ i, i < 64 → ∀ v, Sym.P (100 + i) v ↔ v = .int .u8 (bif Nat.blt i z then (x i).toNat else 0)
theorem lss_to {k : Nat} {y : Value} (h : ∀ v, Sym.P k v → v = y) : Lss (.str k) (.v y) := fun _ hr => by
 cases hr with
 | str hP => rw [h _ hP]; exact .v
theorem lss_of {k : Nat} {y : Value} (h : Sym.P k y) : Lss (.v y) (.str k) := fun _ hr => by
 rw [hr.v_inv]; exact .str h
def secR (b : AVal) : List Row := [[.v (.int .u8 2)], [.v (.int .u8 255)], [.v (.int .u8 1)], [.v (.int .u8 0)], [.v (.int .u8 0)], [.v (.int .u8 16)], [.v (.int .u8 0)], [.v (.int .u8 1)], [.v (.int .u8 1)], [.v (.int .u8 55)], [.v (.int .u8 1)], [.v (.int .u8 0)], [.v (.int .u8 0)], [.v (.int .u8 0)], [.v (.int .u8 0)], [.v (.int .u8 0)], [.v (.int .u8 0)], [.v (.int .u8 0)], [.v (.int .u8 0)], [.v (.int .u8 0)], [.v (.int .u8 0)], [.v (.int .u8 0)], [.v (.int .u8 0)], [.v (.int .u8 0)], [.v (.int .u8 0)], [.v (.int .u8 0)], [.v (.int .u8 0)], [.v (.int .u8 0)], [.v (.int .u8 0)], [.v (.int .u8 0)], [.v (.int .u8 0)], [.v (.int .u8 0)], [.v (.int .u8 3)], [.v (.int .u8 255)], [.v (.int .u8 1)], [.v (.int .u8 0)], [.v (.int .u8 0)], [b], [.v (.int .u8 0)], [.v (.int .u8 1)], [.v (.int .u8 0)], [.v (.int .u8 54)], [.v (.int .u8 1)], [.v (.int .u8 0)], [.v (.int .u8 0)], [.v (.int .u8 0)], [.v (.int .u8 0)], [.v (.int .u8 0)], [.v (.int .u8 0)], [.v (.int .u8 0)], [.v (.int .u8 0)], [.v (.int .u8 0)], [.v (.int .u8 0)], [.v (.int .u8 0)], [.v (.int .u8 0)], [.v (.int .u8 0)], [.v (.int .u8 0)], [.v (.int .u8 0)], [.v (.int .u8 0)], [.v (.int .u8 0)], [.v (.int .u8 0)], [.v (.int .u8 0)], [.v (.int .u8 0)], [.v (.int .u8 0)]]
theorem sec_is (b : AVal) : absO (toO (.ar 1 64 [.v (.int .u8 0)] [(0, [.v (.int .u8 2)]), (1, [.v (.int .u8 255)]), (2, [.v (.int .u8 1)]), (5, [.v (.int .u8 16)]), (7, [.v (.int .u8 1)]), (8, [.v (.int .u8 1)]), (9, [.v (.int .u8 55)]), (10, [.v (.int .u8 1)]), (32, [.v (.int .u8 3)]), (33, [.v (.int .u8 255)]), (34, [.v (.int .u8 1)]), (37, [b]), (39, [.v (.int .u8 1)]), (41, [.v (.int .u8 54)]), (42, [.v (.int .u8 1)])])) = some (1, secR b) := by kernel_rfl
theorem RowsL.map_ {α : Type} {f g : α → AVal} : ∀ {l : List α}, (∀ i ∈ l, Lss (f i) (g i)) → RowsL (l.map fun i => [f i]) (l.map fun i => [g i])
 | [], _ => trivial
 | i :: l, h => ⟨⟨h i (by simp), trivial⟩, RowsL.map_ fun j hj => h j (by simp [hj])⟩
theorem sec_lss {b b' : AVal} (h : Lss b b') : RowsL (secR b) (secR b') := by
 unfold secR
 repeat' (first | exact trivial | exact h | exact Lss.refl _ | constructor)
theorem lbc_lss {zA zA' zbA zbA' : AVal} (h1 : Lss zA zA') (h2 : Lss zbA zbA') : LsZ (LBc zA zbA) (LBc zA' zbA') := by
 unfold LBc
 repeat' (first | exact trivial | refine ⟨rfl, .inl rfl, ?_⟩ | refine ⟨rfl, .inr ⟨1, _, _, by decide, sec_is zbA, sec_is zbA', sec_lss h2⟩, ?_⟩ | refine ⟨rfl, .inr ⟨8, _, _, by decide, rfl, rfl, ?_⟩, ?_⟩ | refine ⟨RowL.refl _, ?_⟩ | refine ⟨⟨Lss.refl _, Lss.refl _, Lss.refl _, Lss.refl _, h1, RowL.refl _⟩, ?_⟩)
theorem blk_to {z : Nat} {x : Nat → UInt8} (hM : MarksL z x) : LoL (.ls 1 blM) (.ls 1 (blkR z x)) := .inr ⟨1, blM, blkR z x, by decide, rfl, rfl, RowsL.map_ fun i hi => lss_to fun v hv => (hM.byte i (List.mem_range.1 hi) v).1 hv⟩
theorem blk_of {z : Nat} {x : Nat → UInt8} (hM : MarksL z x) : LoL (.ls 1 (blkR z x)) (.ls 1 blM) := .inr ⟨1, blkR z x, blM, by decide, rfl, rfl, RowsL.map_ fun i hi => lss_of ((hM.byte i (List.mem_range.1 hi) _).2 rfl)⟩
theorem lb_to {z : Nat} {x : Nat → UInt8} (hM : MarksL z x) : LsZ (LBc (.str 70) (.str 71)) (LBz z) := lbc_lss (lss_to fun v hv => (hM.size v).1 hv) (lss_to fun v hv => (hM.sizeB v).1 hv)
theorem lb_of {z : Nat} {x : Nat → UInt8} (hM : MarksL z x) : LsZ (LBz z) (LBc (.str 70) (.str 71)) := lbc_lss (lss_of ((hM.size _).2 rfl)) (lss_of ((hM.sizeB _).2 rfl))
theorem sbb_to {z : Nat} {x : Nat → UInt8} (hM : MarksL z x) (c : Int) (bx : Nat → LO) : LsZ (SBB c bx) (SWz z ++ kWz z x c bx) := LsZ.app (LsZ.app (lb_to hM) (LsZ.refl _)) ⟨rfl, blk_to hM, LsZ.refl _⟩
theorem sbb_of {z : Nat} {x : Nat → UInt8} (hM : MarksL z x) (c : Int) (bx : Nat → LO) : LsZ (SWz z ++ kWz z x c bx) (SBB c bx) := LsZ.app (LsZ.app (lb_of hM) (LsZ.refl _)) ⟨rfl, blk_of hM, LsZ.refl _⟩
end Go.Proofs.GD
/- Phase B: walker.link: its contract. -/
namespace Go.AI
set_option linter.unusedSectionVars false
variable [Go.AI.Sym]
set_option linter.unusedSectionVars false
theorem putLH_app : ∀ {l : LS} {H : Heap} {o : Option (Nat × List Row)}, (∀ p ∈ l, p.1 < H.length) → putLH l (H ++ [o]) = putLH l H ++ [o]
 | [], _, _, _ => rfl
 | p :: l, H, o, h => by
  show putLH l ((H ++ [o]).set p.1 _) = putLH l (H.set p.1 _) ++ [o]
  rw [List.set_append_left _ _ (h p (by simp))]
  exact putLH_app fun q hq => by simpa using h q (by simp [hq])
theorem putLH_two : ∀ {l m : LS} {H : Heap}, putLH (l ++ m) H = putLH m (putLH l H)
 | [], _, _ => rfl
 | _ :: l, _, _ => putLH_two (l := l)
theorem mkH_push {n : Nat} {l : LS} {sz : Nat} {rows : List Row} (h : okLS n l = true) : mkH n l ++ [some (sz, rows)] = mkH (n + 1) (l ++ [(n, .ls sz rows)]) := by
 simp only [okLS, Bool.and_eq_true, List.all_eq_true, decide_eq_true_eq] at h
 unfold mkH
 rw [putLH_two, List.replicate_succ', putLH_app fun p hp => by simpa using (h.2 p hp).1]
 have hl : (putLH l (List.replicate n none)).length = n := mkH_len n l
 show _ = (putLH l (List.replicate n none) ++ [none]).set n (some (sz, rows))
 rw [List.set_append_right _ _ (by omega), hl, Nat.sub_self]
 rfl
theorem ent_cut {n : Nat} {l : LS} {H : Heap} {ρ ρ' : Env} (hn : n ≤ H.length) (hok : okLS n l = true) (hl : lowLS n l = true) (hρ : ∀ p ∈ ρ', lowA n p.2 = true ∧ look ρ p.1 = p.2) (h : ∀ p ∈ l, H[p.1]? = some (absO (toO p.2))) : Ent n (ρ', mkH n l) (ρ, H) := by
 refine Ent.weakT (th := []) ⟨⟨by rw [mkH_len]; exact Nat.le_refl _, hn⟩, ⟨List.nodup_nil, by rw [mkH_len]; rfl, fun x hx => by cases hx⟩, fun p hp => ?_, ?_⟩
 ·obtain ⟨h1, h2⟩ := hρ p hp
  rw [mkH_len]
  exact ⟨by rw [ren_low n _ h1]; exact h2, h1⟩
 ·refine heapT_ofO fun id o ho => ?_
  rw [Nat.zero_add, mkH_len]
  have hid : id < n := by have := (List.getElem?_eq_some_iff.1 ho).1; rwa [mkH_len] at this
  rcases putLH_mem id o ho with h0 | ⟨p, hp, h1, h2⟩
  ·rw [List.getElem?_replicate] at h0
   split at h0 <;> cases h0
  ·simp only [okLS, Bool.and_eq_true, List.all_eq_true, decide_eq_true_eq] at hok
   simp only [lowLS, Bool.and_eq_true, List.all_eq_true] at hl
   have hlow := lowLO_ok (hok.2 p hp).2 (hl p hp).2 _ h2
   refine ⟨?_, hlow⟩
   have e : thOf n [] id = id := by simp [thOf, hid]
   rw [e]
   have e2 : o.2.map (List.map (ren n [])) = o.2 := by
    rw [List.map_congr_left (g := fun r => r) fun row hrow => ?_, List.map_id']
    rw [List.map_congr_left (g := fun a => a) fun a ha => ren_low n a (List.all_eq_true.1 (List.all_eq_true.1 hlow row hrow) a ha), List.map_id']
   rw [e2, ← h1, h p hp, h2]
theorem Ent.frzS {n0 : Nat} {H : Heap} {ρ : Env} {t n sz kc len : Nat} {rows : List Row} (hob : obj H n = some (sz, rows)) (hlen : len = rows.length) (hflat : ∀ r ∈ rows, r.all (lowA 0) = true) (hc : look ρ t = .osl n sz 0 len kc) : Ent n0 ((t, .fsl true sz rows) :: ρ, H.set n none) (ρ, H) := by
 intro f base w0 β fz a w hn0 hs
 have hl : Live H n := ⟨_, obj_some hob⟩
 obtain ⟨s1, e1⟩ := hs.heap.freeze hl
 refine ⟨β, fun b => fz b ∨ b = β n, ⟨s1, hs.defers, hs.size, ?_, fun s => ?_⟩⟩
 ·have := hs.ext.trans e1
  simpa using this
 ·simp only [look]
  split
  ·rename_i e
   subst e
   have := hs.env s
   rw [hc] at this
   exact hs.heap.froze hob hlen hflat (fun b hb => .inl hb) (.inr rfl) this
  ·have := (hs.env s).ext e1
   simpa using this
end Go.AI
namespace Go.Proofs.GD
set_option linter.unusedSectionVars false
variable [Go.AI.Sym]
open Go Go.AI Go.RowKit
set_option maxRecDepth 100000
set_option maxHeartbeats 2000000
set_option linter.unusedSimpArgs false
set_option linter.unusedVariables false
attribute [local simp] wpA wpX RunA RunD runF foot footP footB idsA bare apart runL step1 gsel_f gsel_t gsel_s res_same res_and1 res_and2 res_and3 res_and4 res_and5 res_and6 res_false res_true res_v res_ptr res_fptr res_osl res_xsl soft aAppendZ aCap ovlI ovlJ res_fsl res_esl res_agg res_tup res_fn res_junk res_anyb aPick hk imp_left iteV dstOk guardOk astep astepE AI.ev AI.look AI.put envOf aBox cellsOf allOne allOneA oneA Value.oneCell' Value.cells newObj' aFieldAddr aLoad obj readAt thenA blockA condA retA resA tupA view hot hotC hotR depthV cAgg cInt cBool mkAgg allV aAlloc aBuild fillA writeAt aStore isAggA aField idx aIndexAddr aIndex bnd aSlice aExtract aLen aBuiltin aCall isStatic eqAgg eqTy eqC ev_add ev_sub ev_mul ev_quo ev_rem ev_and ev_or ev_xor ev_andNot ev_shl ev_shr ev_eql ev_neq ev_lss ev_leq ev_gtr ev_geq ev_agg w64 wu32 wu8 ev_not ev_neg Cod.plain RCod.plain argM finM cold coldC coldR goInt intDec boolDec aggDec Weaker heapW lowA lowC Again slDec undef aBuildSlice setRows aAppend rowsOf aMakeSlice aClear aCopy softer_self softer_nil valsOf ev_min2 ev_max2 hotR_set hotR_append take_map_set irow_cold irow_mapM irow_mapMc irow_view irow_viewc irow_hotR irow_ren irow_renc irow_low WeakT heapT thOf ren renC AgainT NextF NextT fnDec cFn rNil selfLt natLt0 natLt1 getLastMap frame0 frame1 own0 own1 argG finG tau tauI tauO tauC bareA bareC bareH irow_tau irow_tauc irow_bare irow_flat irow_bareR ownA_nil ownT_nil ownA_c ownT_c ownA_s ownT_s takeMapLen footC plainA noId noIdC cloneF frame0F frame1F insertF replaceI replaceF cellDec rCell fpDec cFp rTwo deleteF allV_oA oneA_oA res_oA RunR RunE runFT footAt hotR_cat tmodN aEqH aSliceA frameN newA newC newH fqSz3 fqBy3 fqAg3 fqZe3 fqSl3 fqAr3 fqPl3 fqSz4 fqBy4 fqAg4 fqZe4 fqSl4 fqAr4 fqPl4 fqSz5 fqBy5 fqAg5 fqZe5 fqSl5 fqAr5 fqPl5 fqSz27 fqBy27 fqAg27 fqZe27 fqSl27 fqAr27 fqPl27 fqSz28 fqBy28 fqAg28 fqZe28 fqSl28 fqAr28 fqPl28 fqSz39 fqBy39 fqAg39 fqZe39 fqSl39 fqAr39 fqPl39 fqCv3x5 fqCv5x3 fqEb4 fqNb4 fqLn28 fqNe28 fqNn28 fqOe28 fqOn28 fqXe28 fqXn28 fqLn39 fqNe39 fqNn39 fqOe39 fqOn39 fqXe39 fqXn39 fqFm13 fqFi13 fqSz9 fqBy9 fqAg9 fqZe9 fqSl9 fqAr9 fqPl9 fqSz46 fqBy46 fqAg46 fqZe46 fqSl46 fqAr46 fqPl46 fqLt9 fqLn46 fqNe46 fqNn46 fqOe46 fqOn46 fqXe46 fqXn46 fqFm63 fqFi63 fqFm129 fqFi129 fqFm207 fqFi207 fqFm270 fqFi270 fqFm271 fqFi271 fqFm272 fqFi272 fqFm318 fqFm319 fqFi319 fqFm320 fqFi320 fqFm350 ev_eqlS ev_neqS
def f303o5 : Array Oper := #[{ dst := some 31, op := Op.move (Operand.tmp 7), type := 27, pos := "path.go:118", after := #[], guard := none }, { dst := some 32, op := Op.binOp BinOp.neq 27 (Operand.tmp 31) (Operand.const (Value.int IntKind.i64 0)) 27, type := 4, pos := "path.go:118", after := #[{ on := 0, ground := Ground.data }], guard := none }]
def f303o7 : Array Oper := #[{ dst := some 35, op := Op.move (Operand.tmp 6), type := 9, pos := "path.go:121", after := #[], guard := none }, { dst := some 36, op := Op.call { callee := Callee.value (Operand.func 63), args := #[Operand.tmp 35], argTypes := #[9] }, type := 148, pos := "path.go:121", after := #[{ on := 0, ground := Ground.data }], guard := none }, { dst := some 34, op := Op.move (Operand.tmp 36), type := 148, pos := "path.go:121", after := #[{ on := 1, ground := Ground.data }], guard := none }, { dst := some 37, op := Op.extract (Operand.tmp 34) 0, type := 4, pos := "path.go:121", after := #[{ on := 2, ground := Ground.data }], guard := none }, { dst := some 38, op := Op.extract (Operand.tmp 34) 1, type := 46, pos := "path.go:121", after := #[{ on := 2, ground := Ground.data }, { on := 6, ground := Ground.gcOnly Departure.lateStores }], guard := none }, { dst := some 39, op := Op.extract (Operand.tmp 34) 2, type := 27, pos := "path.go:121", after := #[{ on := 2, ground := Ground.data }, { on := 7, ground := Ground.gcOnly Departure.lateStores }], guard := none }, { dst := some 8, op := Op.assign (Operand.tmp 37), type := 4, pos := "path.go:121", after := #[{ on := 3, ground := Ground.data }, { on := 1, ground := Ground.chain }, { on := 0, ground := Ground.phase }, { on := 1, ground := Ground.phase }, { on := 2, ground := Ground.phase }, { on := 3, ground := Ground.phase }, { on := 4, ground := Ground.textOnly Departure.lateStores }, { on := 5, ground := Ground.textOnly Departure.lateStores }], guard := none }, { dst := some 9, op := Op.assign (Operand.tmp 38), type := 46, pos := "path.go:121", after := #[{ on := 4, ground := Ground.data }, { on := 6, ground := Ground.chain }, { on := 0, ground := Ground.phase }, { on := 1, ground := Ground.phase }, { on := 2, ground := Ground.phase }, { on := 3, ground := Ground.phase }, { on := 4, ground := Ground.phase }, { on := 5, ground := Ground.textOnly Departure.lateStores }, { on := 6, ground := Ground.phase }], guard := none }, { dst := some 7, op := Op.assign (Operand.tmp 39), type := 27, pos := "path.go:121", after := #[{ on := 5, ground := Ground.data }, { on := 7, ground := Ground.chain }, { on := 0, ground := Ground.phase }, { on := 1, ground := Ground.phase }, { on := 2, ground := Ground.phase }, { on := 3, ground := Ground.phase }, { on := 4, ground := Ground.phase }, { on := 5, ground := Ground.phase }, { on := 6, ground := Ground.phase }, { on := 7, ground := Ground.phase }], guard := none }]
def f303o8 : Array Oper := #[{ dst := some 40, op := Op.move (Operand.tmp 7), type := 27, pos := "path.go:122", after := #[], guard := none }, { dst := some 41, op := Op.binOp BinOp.neq 27 (Operand.tmp 40) (Operand.const (Value.int IntKind.i64 0)) 27, type := 4, pos := "path.go:122", after := #[{ on := 0, ground := Ground.data }], guard := none }]
def f303o10 : Array Oper := #[{ dst := some 43, op := Op.move (Operand.tmp 8), type := 4, pos := "path.go:125", after := #[], guard := none }]
def f303o12 : Array Oper := #[{ dst := some 52, op := Op.move (Operand.tmp 9), type := 46, pos := "path.go:128", after := #[], guard := none }, { dst := some 53, op := Op.call { callee := Callee.value (Operand.func 338), args := #[Operand.tmp 52], argTypes := #[46] }, type := 46, pos := "path.go:128", after := #[{ on := 0, ground := Ground.data }], guard := none }, { dst := some 4, op := Op.assign (Operand.tmp 53), type := 46, pos := "path.go:128", after := #[{ on := 1, ground := Ground.data }, { on := 1, ground := Ground.chain }, { on := 0, ground := Ground.phase }, { on := 1, ground := Ground.phase }], guard := none }, { dst := some 5, op := Op.assign (Operand.const (Value.int IntKind.i64 0)), type := 27, pos := "path.go:128", after := #[{ on := 2, ground := Ground.chain }, { on := 0, ground := Ground.phase }, { on := 1, ground := Ground.phase }, { on := 2, ground := Ground.phase }], guard := none }]
noncomputable def liX6 : Code := cond2 (sndC (fstC (sndC (sndC (sndC li0)))))
noncomputable def liX9 : Code := cond2 (sndC (fstC (sndC (sndC (sndC (sndC (sndC li0)))))))
noncomputable def liR11 : Code := cond2 (sndC (fstC (sndC (sndC (sndC (sndC (sndC (sndC li0))))))))
noncomputable def liT : Code := .seq (.seq (.region 5 f303o5 false) (.cond (.tmp 32) liX6 .skip)) (.seq (.region 7 f303o7 false) (.seq (.seq (.region 8 f303o8 false) (.cond (.tmp 41) liX9 .skip)) (.seq (.seq (.region 10 f303o10 false) (.cond (.tmp 43) liR11 .skip)) (.seq (.region 12 f303o12 false) .ret))))
theorem li_eq : li0 = .seq liR0 (.seq liB1 (.seq liR4 liT)) := by kernel_rfl
section
variable (bx : Nat → LO) (c : Int)
theorem l_R0 : obsB (runG 303 54 cat4 liR0 liE (mkT 2828 (SBB c bx))) 0 2828 SWb [0, 1] ((kWB c bx).map Prod.fst) = some (liE, (kWB c bx).map fun p => some (absO (toO p.2))) := by kernel_rfl
theorem l_B1 (h : c = 0 ∨ c = 1 ∨ c = 2 ∨ c = 3 ∨ c = 4 ∨ c = 5 ∨ c = 6 ∨ c = 7) : obsB (runG 303 54 cat4 liB1 liE (mkT 2828 (SBB c bx))) 0 2828 SWb [0, 1] ((kWB (c + 1) bx).map Prod.fst) = some (liE, (kWB (c + 1) bx).map fun p => some (absO (toO p.2))) := by
 rcases h with rfl | rfl | rfl | rfl | rfl | rfl | rfl | rfl <;> kernel_rfl
theorem l_B1e : obsB (runG 303 54 cat4 liB1 liE (mkT 2828 (SBB 8 bx))) 1 2828 SWb [4, 5] ((kWB 9 bx).map Prod.fst) = some ([(4, .v (.slice none 0 0)), (5, .v (.int .i64 14))], (kWB 9 bx).map fun p => some (absO (toO p.2))) := by kernel_rfl
def li9 (L : AVal) : Env := [(0, .ptr 2827 10 0 0), (9, L)]
theorem l_R11 (L : AVal) : obsB (runG 303 54 cat4 liR11 (li9 L) (mkT 2828 (SBB c bx))) 0 2828 SWb [0, 9] ((kWB c bx).map Prod.fst) = some (li9 L, (kWB c bx).map fun p => some (absO (toO p.2))) := by kernel_rfl
end
def li6 (s : ByteArray) : Env := [(0, .ptr 2827 10 0 0), (6, .v (.string s)), (7, .v (.int .i64 0))]
theorem i5 {H : Heap} {s : ByteArray} : AWp Tryz.prog 54 2828 (.region 5 f303o5 false) (fun e ρ' H' => e = .normal ∧ H' = H ∧ ∀ q ∈ (32, .v (.bool false)) :: li6 s, AI.look ρ' q.1 = q.2) (li6 s) H := by
 refine wpA_sound noOrc_ok fqMix _ _ _ _ (by kernel_rfl) ?_
 simp [f303o5, noOrc, li6]
def li7 (x y : AVal) : Env := [(0, .ptr 2827 10 0 0), (8, x), (9, y), (7, .v (.int .i64 0))]
theorem i7 {H : Heap} {s : ByteArray} {b : Bool} {y : AVal} (h : (∃ rows, splitR s = .tup [.v (.bool b), y, .v (.int .i64 0)] ∧ y = .fsl true 1 rows) ∨ ∃ y', splitR s = .v (.tuple #[.bool b, y', .int .i64 0]) ∧ y = .v y') :
  AWp Tryz.prog 54 2828 (.region 7 f303o7 false) (fun e ρ' H' => e = .normal ∧ H' = H ∧ ∀ q ∈ li7 (.v (.bool b)) y, AI.look ρ' q.1 = q.2) ((32, .v (.bool false)) :: li6 s) H := by
 refine wpA_sound (noOrc_ok.withP sp63) fqMix _ _ _ _ (by kernel_rfl) ?_
 rcases h with ⟨rows, h, rfl⟩ | ⟨y', h, rfl⟩ <;> simp [f303o7, noOrc, Orc.withP, li6, li7, h, argM, cStr, strDec, finM]
theorem i8 {H : Heap} {x : AVal} {y : AVal} : AWp Tryz.prog 54 2828 (.region 8 f303o8 false) (fun e ρ' H' => e = .normal ∧ H' = H ∧ ∀ q ∈ (41, .v (.bool false)) :: li7 x y, AI.look ρ' q.1 = q.2) (li7 x y) H := by
 refine wpA_sound noOrc_ok fqMix _ _ _ _ (by kernel_rfl) ?_
 simp [f303o8, noOrc, li7]
theorem i10 {H : Heap} {b : Bool} {y : AVal} : AWp Tryz.prog 54 2828 (.region 10 f303o10 false) (fun e ρ' H' => e = .normal ∧ H' = H ∧ ∀ q ∈ (43, .v (.bool b)) :: li9 y, AI.look ρ' q.1 = q.2) ((41, .v (.bool false)) :: li7 (.v (.bool b)) y) H := by
 refine wpA_sound noOrc_ok fqMix _ _ _ _ (by kernel_rfl) ?_
 simp [f303o10, noOrc, li7, li9]
theorem fqNm338 : (Tryz.f338.name = "runtime.NumGoroutine") = False := eq_false (by decide)
theorem i12 {H : Heap} {rows : List Row} (hne : rows ≠ []) (hl : rows.length ≤ 4294967296) : AWp Tryz.prog 54 2828 (.region 12 f303o12 false) (fun e ρ' H' => e = .normal ∧ H' = H ++ [some (1, rows)] ∧ ∀ q ∈ [(4, .osl H.length 1 0 rows.length rows.length), (5, AVal.v (.int .i64 0))], AI.look ρ' q.1 = q.2) (li9 (.fsl true 1 rows)) H := by
 refine wpA_sound (noOrc_ok.withI cloneS) fqMix _ _ _ _ (by kernel_rfl) ?_
 simp [f303o12, noOrc, Orc.withI, li9, cloneI, hne, hl, fqNm338]
theorem i12n {H : Heap} : AWp Tryz.prog 54 2828 (.region 12 f303o12 false) (fun e ρ' H' => e = .normal ∧ H' = H ∧ ∀ q ∈ [(4, .esl), (5, AVal.v (.int .i64 0))], AI.look ρ' q.1 = q.2) (li9 .esl) H := by
 refine wpA_sound (noOrc_ok.withI cloneS) fqMix _ _ _ _ (by kernel_rfl) ?_
 simp [f303o12, noOrc, Orc.withI, li9, cloneI, fqNm338]
end Go.Proofs.GD
/- Phase B: walker.link: its contract. -/
namespace Go.Proofs.GD
set_option linter.unusedSectionVars false
variable [Go.AI.Sym]
open Go Go.AI Go.RowKit
set_option maxRecDepth 100000
set_option maxHeartbeats 400000
theorem AWp.entP {nt n0 : Nat} {c : Code} {Q : Post} {ρ ρ' : Env} {H H' : Heap} (he : Ent n0 (ρ', H') (ρ, H)) (h : AWp Tryz.prog nt n0 c Q ρ' H') : AWp Tryz.prog nt n0 c Q ρ H := AWp.ent (s := (ρ', H')) h he
theorem okLS_app {n : Nat} {l m : LS} (h1 : okLS n l = true) (h2 : ∀ p ∈ m, p.1 < n ∧ okLO p.2 = true) : okLS n (l ++ m) = true := by
 simp only [okLS, Bool.and_eq_true, List.all_eq_true, decide_eq_true_eq] at h1 ⊢
 refine ⟨h1.1, fun p hp => ?_⟩
 rcases List.mem_append.1 hp with h | h
 ·exact h1.2 p h
 ·exact h2 p h
theorem lowLS_app {n : Nat} {l m : LS} (h1 : lowLS n l = true) (h2 : ∀ p ∈ m, p.1 < n ∧ lowLO n p.2 = true) : lowLS n (l ++ m) = true := by
 simp only [lowLS, Bool.and_eq_true, List.all_eq_true, decide_eq_true_eq] at h1 ⊢
 intro p hp
 rcases List.mem_append.1 hp with h | h
 ·exact h1 p h
 ·exact h2 p h
theorem mem_bx {bx : Nat → LO} {p : Nat × LO} (h : p ∈ bxL bx) : p.1 < 2822 ∧ ∃ i, p.2 = bx i := by
 simp only [bxL, List.mem_cons, List.not_mem_nil, or_false] at h
 rcases h with h | h | h | h | h | h | h | h | h | h | h | h | h | h | h | h <;> subst h <;> exact ⟨by simp, _, rfl⟩
theorem blM_low {n : Nat} : lowLO n (.ls 1 blM) = true := by
 simp [lowLO, blM, lowA]
variable {bx : Nat → LO}
theorem kWB_ok (hB : Bl 2822 bx) (c : Int) : ∀ p ∈ kWB c bx, p.1 < 2828 ∧ okLO p.2 = true := by
 intro p hp
 rcases List.mem_cons.1 hp with rfl | hp
 ·exact ⟨by simp, rfl⟩
 rcases List.mem_cons.1 hp with rfl | hp
 ·exact ⟨by simp, rfl⟩
 obtain ⟨h1, i, h2⟩ := mem_bx hp
 exact ⟨by omega, by rw [h2]; exact hB.ok i⟩
theorem kWB_low (hB : Bl 2822 bx) (c : Int) : ∀ p ∈ kWB c bx, p.1 < 2828 ∧ lowLO 2828 p.2 = true := by
 intro p hp
 rcases List.mem_cons.1 hp with rfl | hp
 ·exact ⟨by simp, blM_low⟩
 rcases List.mem_cons.1 hp with rfl | hp
 ·exact ⟨by simp, rfl⟩
 obtain ⟨h1, i, h2⟩ := mem_bx hp
 exact ⟨by omega, by rw [h2]; exact low_bx (by decide) (hB.low i)⟩
theorem sbb_ok (hB : Bl 2822 bx) (c : Int) : okLS 2828 (SBB c bx) = true := okLS_app (by kernel_rfl) (kWB_ok hB c)
theorem sbb_low (hB : Bl 2822 bx) (c : Int) : lowLS 2828 (SBB c bx) = true := lowLS_app (by kernel_rfl) (kWB_low hB c)
theorem sbz_ok (hB : Bl 2822 bx) (z : Nat) (x : Nat → UInt8) (c : Int) : okLS 2828 (SWz z ++ kWz z x c bx) = true := okLS_app (by kernel_rfl) (fun p hp => by
 rcases List.mem_cons.1 hp with rfl | hp
 ·exact ⟨by simp, rfl⟩
 rcases List.mem_cons.1 hp with rfl | hp
 ·exact ⟨by simp, rfl⟩
 obtain ⟨h1, i, h2⟩ := mem_bx hp
 exact ⟨by omega, by rw [h2]; exact hB.ok i⟩)
theorem shrB (hB : Bl 2822 bx) {c : Int} {ρ : Env} {n' : Nat} (hn : 2828 ≤ n') (h1 : ∀ p ∈ ρ, lowA 2828 p.2 = true) (h2 : ∀ p ∈ ρ, AI.look ρ p.1 = p.2) : Ent 2828 (ρ, mkH 2828 (SBB c bx)) (ρ, mkH n' (SBB c bx)) := ent_shrink hn (sbb_ok hB c) (sbb_low hB c) h1 h2
structure LkOk (z : Nat) (x : Nat → UInt8) (tgt : ByteArray) : Prop where
 marks : MarksL z x
 run : RunT z
 is : strZ z x = tgt
 ok : spE tgt = 0
def tR (s : ByteArray) : List Row := (partsB s).map strRow
def lkR (tgt : ByteArray) : AVal := if partsB tgt = [] then .tup [.esl, .v (.int .i64 0)] else .tup [.osl 2828 1 0 (tR tgt).length (tR tgt).length, .v (.int .i64 0)]
def lkN (tgt : ByteArray) : Nat := if partsB tgt = [] then 2828 else 2829
def lkS (tgt : ByteArray) : LS := if partsB tgt = [] then [] else [(2828, .ls 1 (tR tgt))]
theorem w303e (hB : Bl 2822 bx) : InlOk Tryz.prog 303 (snapM [.ptr 2827 10 0 0, .v (.int .i64 4)] 2828 (SBB 8 bx) (.v (.tuple #[.slice none 0 0, .int .i64 14])) 2828 (SBB 9 bx)) := by
 refine snapE (code := li0) Tryz.func303 rfl (by show 2 ≤ 54; decide) ?_
 refine snapR (ρ' := [(4, .v (.slice none 0 0)), (5, .v (.int .i64 14))]) (e := .ret) (.inl rfl) ⟨_, rfl, rfl⟩ ?_
 rw [li_eq]
 refine AWp.seqE (partV hT4 (sbb_ok hB 8) (l_R0 bx 8)) ?_
 exact AWp.retE (partV hT4 (sbb_ok hB 8) (l_B1e bx))
theorem tR_len (s : ByteArray) (h : s.size ≤ 64) : (partsB s).length ≤ 65 := by
 have h1 : (piecesB s).length = ctN s + 1 := cutB_len _ _
 have h2 := ctN_le s
 have h3 := List.length_filter_le neB (piecesB s)
 unfold partsB
 omega
theorem spE_cases {s : ByteArray} (h : spE s = 0) : (∃ b, splitR s = .v (.tuple #[.bool b, .slice none 0 0, .int .i64 0]) ∧ partsB s = []) ∨ (∃ b, splitR s = .tup [.v (.bool b), .fsl true 1 ((partsB s).map strRow), .v (.int .i64 0)] ∧ partsB s ≠ []) := by
 rcases split_is s with ⟨e, he, hs⟩ | h2 | h2
 ·exfalso
  have e1 : spE s = e := by unfold spE; rw [hs]; rfl
  rw [h] at e1
  rcases he with rfl | rfl <;> cases e1
 ·exact .inl h2
 ·exact .inr h2
theorem spE_size {s : ByteArray} (h : spE s = 0) : s.size ≤ 64 := by
 rcases Nat.lt_or_ge 64 s.size with h1 | h1
 ·exfalso
  have e1 : spE s = 2 := by unfold spE splitR; rw [if_pos h1]; rfl
  rw [h] at e1; cases e1
 ·exact h1
theorem li_pre (hB : Bl 2822 bx) {c : Int} (h : c = 0 ∨ c = 1 ∨ c = 2 ∨ c = 3 ∨ c = 4 ∨ c = 5 ∨ c = 6 ∨ c = 7) {z : Nat} {x : Nat → UInt8} {tgt : ByteArray} (hK : LkOk z x tgt) {Q : Post} (hc : AWp Tryz.prog 54 2828 liT Q (li6 tgt) (mkH 2828 (SBB (c + 1) bx))) :
  AWp Tryz.prog 54 2828 li0 Q liE (mkH 2828 (SBB c bx)) := by
 rw [li_eq]
 refine AWp.seqE (partV hT4 (sbb_ok hB c) (l_R0 bx c)) (AWp.seqE (partV hT4 (sbb_ok hB c) (l_B1 bx c h)) ?_)
 refine AWp.entP (Ent.lss (sbb_to hK.marks (c + 1) bx)) ?_
 refine AWp.seqE (partV hT4 (sbz_ok hB z x (c + 1)) (hK.run x bx (c + 1))) ?_
 rw [hK.is]
 refine AWp.entP (Ent.lss (sbb_of hK.marks (c + 1) bx)) ?_
 refine AWp.entP (shrB hB (n' := 2837) (by decide) (fun q hq => ?_) (fun q hq => ?_)) hc
 ·simp only [List.mem_cons, List.not_mem_nil, or_false] at hq
  rcases hq with rfl | rfl | rfl <;> rfl
 ·simp only [List.mem_cons, List.not_mem_nil, or_false] at hq
  rcases hq with rfl | rfl | rfl <;> rfl
theorem li_mid (hB : Bl 2822 bx) {c : Int} {s : ByteArray} {b : Bool} {y y2 : AVal} {Q : Post} (hs : (∃ rows, splitR s = .tup [.v (.bool b), y, .v (.int .i64 0)] ∧ y = .fsl true 1 rows) ∨ ∃ y', splitR s = .v (.tuple #[.bool b, y', .int .i64 0]) ∧ y = .v y')
  (hy : Lss y y2) (hc : AWp Tryz.prog 54 2828 (.seq (.region 12 f303o12 false) .ret) Q (li9 y2) (mkH 2828 (SBB c bx))) : AWp Tryz.prog 54 2828 liT Q (li6 s) (mkH 2828 (SBB c bx)) := by
 have hent : ∀ {ρ : Env}, (∀ p ∈ li9 y, AI.look ρ p.1 = p.2) → Ent 2828 (li9 y2, mkH 2828 (SBB c bx)) (ρ, mkH 2828 (SBB c bx)) := fun {ρ} h => by
  refine Ent.trans (s' := ((9, y2) :: ρ, mkH 2828 (SBB c bx))) (Ent.env fun q hq => ?_) (Ent.slotL ?_)
  ·simp only [li9, List.mem_cons, List.not_mem_nil, or_false] at hq
   rcases hq with rfl | rfl
   ·exact h (0, .ptr 2827 10 0 0) (by simp [li9])
   ·rfl
  ·rw [h (9, y) (by simp [li9])]; exact hy
 refine AWp.seq (AWp.seqG i5 (AWp.condF rfl (AWp.skipG ?_)))
 show AWp Tryz.prog 54 2828 (.seq (.region 7 f303o7 false) _) Q _ _
 refine AWp.seqG (i7 hs) (AWp.seq (AWp.seqG i8 (AWp.condF rfl (AWp.skipG ?_))))
 show AWp Tryz.prog 54 2828 (.seq _ _) Q _ _
 refine AWp.seq (AWp.seqG i10 ?_)
 cases b with
 | false =>
  refine AWp.condF rfl (AWp.skipG ?_)
  show AWp Tryz.prog 54 2828 (.seq (.region 12 f303o12 false) .ret) Q _ _
  exact AWp.entP (hent fun p hp => by
   simp only [li9, List.mem_cons, List.not_mem_nil, or_false] at hp
   rcases hp with rfl | rfl <;> rfl) hc
 | true =>
  refine AWp.condT rfl ?_
  refine AWp.sub (ρ' := li9 y) (fun p hp => by
   simp only [li9, List.mem_cons, List.not_mem_nil, or_false] at hp
   rcases hp with rfl | rfl <;> rfl) ((partV hT4 (sbb_ok hB c) (l_R11 bx c y)).mono ?_)
  rintro ex ρ2 H2 ⟨h1, h2⟩
  rw [exN_on h1]
  show AWp Tryz.prog 54 2828 (.seq (.region 12 f303o12 false) .ret) Q ρ2 H2
  refine AWp.entP h2 (AWp.entP (hent fun p hp => ?_) hc)
  simp only [li9, List.mem_cons, List.not_mem_nil, or_false] at hp
  rcases hp with rfl | rfl <;> rfl
theorem w303 (hB : Bl 2822 bx) {c : Int} (h : c = 0 ∨ c = 1 ∨ c = 2 ∨ c = 3 ∨ c = 4 ∨ c = 5 ∨ c = 6 ∨ c = 7) {z : Nat} {x : Nat → UInt8} {tgt : ByteArray} (hK : LkOk z x tgt) :
  InlOk Tryz.prog 303 (snapM [.ptr 2827 10 0 0, .v (.int .i64 4)] 2828 (SBB c bx) (lkR tgt) (lkN tgt) (SBB (c + 1) bx ++ lkS tgt)) := by
 refine snapE (code := li0) Tryz.func303 rfl (by show 2 ≤ 54; decide) ?_
 rcases spE_cases hK.ok with ⟨b, hs, hp⟩ | ⟨b, hs, hp⟩
 ·have e1 : lkR tgt = .tup [.esl, .v (.int .i64 0)] := if_pos hp
  have e2 : lkN tgt = 2828 := if_pos hp
  have e3 : lkS tgt = [] := if_pos hp
  rw [e1, e2, e3, List.append_nil]
  refine snapR (ρ' := [(4, .esl), (5, .v (.int .i64 0))]) (e := .ret) (.inl rfl) ⟨_, rfl, rfl⟩ ?_
  refine li_pre hB h hK (li_mid hB (y := .v (.slice none 0 0)) (y2 := .esl) (.inr ⟨_, hs, rfl⟩) (fun _ hr => by rw [hr.v_inv]; exact .esl) ?_)
  exact AWp.seqG i12n (AWp.retG ⟨rfl, Ent.refl _ _⟩)
 ·have e1 : lkR tgt = .tup [.osl 2828 1 0 (tR tgt).length (tR tgt).length, .v (.int .i64 0)] := if_neg hp
  have e2 : lkN tgt = 2829 := if_neg hp
  have e3 : lkS tgt = [(2828, .ls 1 (tR tgt))] := if_neg hp
  rw [e1, e2, e3]
  refine snapR (ρ' := [(4, .osl 2828 1 0 (tR tgt).length (tR tgt).length), (5, .v (.int .i64 0))]) (e := .ret) (.inl rfl) ⟨_, rfl, rfl⟩ ?_
  refine li_pre hB h hK (li_mid hB (y := .fsl true 1 (tR tgt)) (y2 := .fsl true 1 (tR tgt)) (.inl ⟨_, hs, rfl⟩) (Lss.refl _) ?_)
  have hlen := tR_len tgt (spE_size hK.ok)
  have hne : tR tgt ≠ [] := by simpa [tR] using hp
  have hle : (tR tgt).length ≤ 4294967296 := by simp only [tR, List.length_map]; omega
  have hk := i12 (H := mkH 2828 (SBB (c + 1) bx)) hne hle
  rw [mkH_len, mkH_push (sbb_ok hB (c + 1))] at hk
  exact AWp.seqC hk (AWp.retG ⟨rfl, Ent.refl _ _⟩)
end Go.Proofs.GD
