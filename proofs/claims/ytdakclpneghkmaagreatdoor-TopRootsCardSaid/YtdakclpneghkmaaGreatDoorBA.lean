/- slices.Clone of nodes. -/
import Derived.Test.YtdakclpneghkmaaGreatDoorTab
import Derived.Test.YtdakclpneghkmaaGreatDoorL18
import Derived.Test.YtdakclpneghkmaaGreatDoorL11
import Derived.Test.YtdakclpneghkmaaGreatDoorL12
import Derived.Test.YtdakclpneghkmaaGreatDoorL13
import Derived.Test.YtdakclpneghkmaaGreatDoorKA
namespace Go.Proofs.GD
set_option linter.unusedSectionVars false
variable [Go.AI.Sym]
open Go Go.AI Go.RowKit
set_option maxHeartbeats 2000000
set_option maxRecDepth 100000
set_option linter.unusedSimpArgs false
set_option linter.unusedVariables false
section
theorem fxMix : Tryz.prog.follows .mixedOrders = true := by kernel_rfl
theorem fxSz126 : szOf Tryz.prog 126 = some 8 := by kernel_rfl
theorem fxBy126 : bytesOf Tryz.prog 126 = some 80 := by kernel_rfl
theorem fxAg126 : aggOf Tryz.prog 126 = some true := by kernel_rfl
theorem fxZe126 : zeroOf Tryz.prog 126 = some (.agg #[.int .i64 0, .int .i64 0, .int .i64 0, .int .i64 0, .int .i64 0, .int .i64 0, .int .i64 0, .slice none 0 0]) := by kernel_rfl
theorem fxSl126 : sliceElem Tryz.prog 126 = none := by kernel_rfl
theorem fxAr126 : arrayOf Tryz.prog 126 = none := by kernel_rfl
theorem fxPl126 : placesOf Tryz.prog 126 = some [(0, 1), (1, 1), (2, 1), (3, 1), (4, 1), (5, 1), (6, 1), (7, 1)] := by kernel_rfl
theorem fxSz134 : szOf Tryz.prog 134 = some 1 := by kernel_rfl
theorem fxBy134 : bytesOf Tryz.prog 134 = some 24 := by kernel_rfl
theorem fxAg134 : aggOf Tryz.prog 134 = some false := by kernel_rfl
theorem fxZe134 : zeroOf Tryz.prog 134 = some (.slice none 0 0) := by kernel_rfl
theorem fxSl134 : sliceElem Tryz.prog 134 = some 126 := by kernel_rfl
theorem fxAr134 : arrayOf Tryz.prog 134 = none := by kernel_rfl
theorem fxPl134 : placesOf Tryz.prog 134 = none := by kernel_rfl
theorem fxNe134 {x y : Operand} {o : Bool} {sz : Nat} {rows : List Row} : aBin Tryz.prog .eql 134 x y (.fsl o sz rows) (.v (.slice none 0 0)) = some (if rows.isEmpty then .anyb else .v (.bool false)) := ev_nilE fxSl134
theorem fxNn134 {x y : Operand} {o : Bool} {sz : Nat} {rows : List Row} : aBin Tryz.prog .neq 134 x y (.fsl o sz rows) (.v (.slice none 0 0)) = some (if rows.isEmpty then .anyb else .v (.bool true)) := ev_nilN fxSl134
theorem fxOe134 {x y : Operand} {a b c d e : Nat} : aBin Tryz.prog .eql 134 x y (.osl a b c d e) (.v (.slice none 0 0)) = some (.v (.bool false)) := ev_nilOe fxSl134
theorem fxOn134 {x y : Operand} {a b c d e : Nat} : aBin Tryz.prog .neq 134 x y (.osl a b c d e) (.v (.slice none 0 0)) = some (.v (.bool true)) := ev_nilOn fxSl134
theorem fxXe134 {x y : Operand} : aBin Tryz.prog .eql 134 x y .esl (.v (.slice none 0 0)) = some .anyb := ev_nilXe fxSl134
theorem fxXn134 {x y : Operand} : aBin Tryz.prog .neq 134 x y .esl (.v (.slice none 0 0)) = some .anyb := ev_nilXn fxSl134
attribute [local simp] wpA wpX RunA RunD runF foot footP footB idsA bare apart runL step1 gsel_f gsel_t gsel_s res_same res_and1 res_and2 res_and3 res_and4 res_and5 res_and6 res_false res_true res_v res_ptr res_fptr res_osl res_xsl soft aAppendZ aCap ovlI ovlJ res_fsl res_esl res_agg res_tup res_fn res_junk res_anyb aPick hk imp_left iteV dstOk guardOk astep astepE AI.ev AI.look AI.put envOf aBox cellsOf allOne allOneA oneA Value.oneCell' Value.cells newObj' aFieldAddr aLoad obj readAt thenA blockA condA retA resA tupA view hot hotC hotR depthV cAgg cInt cBool mkAgg allV aAlloc aBuild fillA writeAt aStore isAggA aField idx aIndexAddr aIndex bnd aSlice aExtract aLen aBuiltin aCall isStatic eqAgg eqTy eqC ev_add ev_sub ev_mul ev_quo ev_rem ev_and ev_or ev_xor ev_andNot ev_shl ev_shr ev_eql ev_neq ev_lss ev_leq ev_gtr ev_geq ev_agg w64 wu32 wu8 ev_not ev_neg Cod.plain RCod.plain argM finM cold coldC coldR goInt intDec boolDec aggDec Weaker heapW lowA lowC Again slDec undef aBuildSlice setRows aAppend rowsOf aMakeSlice aClear aCopyX aCopy softer_self softer_nil valsOf ev_min2 ev_max2 hotR_set hotR_append take_map_set irow_cold irow_mapM irow_mapMc irow_view irow_viewc irow_hotR irow_ren irow_renc irow_low WeakT heapT thOf ren renC AgainT NextF NextT fnDec cFn rNil selfLt natLt0 natLt1 getLastMap frame0 frame1 own0 own1 argG finG tau tauI tauO tauC bareA bareC bareH irow_tau irow_tauc irow_bare irow_flat irow_bareR ownA_nil ownT_nil ownA_c ownT_c ownA_s ownT_s takeMapLen footC plainA noId noIdC cloneF frame0F frame1F insertF replaceI replaceF cellDec rCell fpDec cFp rTwo deleteF allV_oA oneA_oA res_oA RunR RunE runFT footAt hotR_cat tmodN aEqH aSliceA fxSz126 fxBy126 fxAg126 fxZe126 fxSl126 fxAr126 fxPl126 fxSz134 fxBy134 fxAg134 fxZe134 fxSl134 fxAr134 fxPl134 fxNe134 fxNn134 fxOe134 fxOn134 fxXe134 fxXn134
theorem clone122 : InlOk Tryz.prog 122 (cloneI 8) := by
 refine inl_soft Tryz.func122 rfl ?_
 intro args H r H' hr
 rcases cloneI_some hr with ⟨o, rows, rfl, hl, hc⟩ | ⟨id, st, k, kc, rows, rfl, hob, hle, hl, hc⟩ | ⟨rfl, rfl, rfl⟩
 ·refine ⟨by simp [Tryz.ntmps122], wpA_sound noOrc_ok fxMix _ _ _ _ (by kernel_rfl) ?_⟩
  rcases hc with ⟨rfl, rfl, rfl⟩ | ⟨h0, rfl, rfl⟩
  ·simp [Tryz.ntmps122, Tryz.results122, noOrc]
  ·simp [Tryz.ntmps122, Tryz.results122, h0, hl, noOrc]
 ·refine ⟨by simp [Tryz.ntmps122], wpA_sound noOrc_ok fxMix _ _ _ _ (by kernel_rfl) ?_⟩
  have hob' := obj_get hob
  have e1 : min k (rows.length - st) = k := by omega
  have e2 : st + k ≤ rows.length := hle
  have e3 : st ≤ rows.length := by omega
  rcases hc with ⟨rfl, rfl, rfl⟩ | ⟨h0, rfl, rfl⟩
  ·simp [Tryz.ntmps122, Tryz.results122, noOrc, hob', e2, e3]
  ·simp [Tryz.ntmps122, Tryz.results122, hl, noOrc, hob', e1, e2, h0]
 ·refine ⟨by simp [Tryz.ntmps122], wpA_sound noOrc_ok fxMix _ _ _ _ (by kernel_rfl) ?_⟩
  simp [Tryz.ntmps122, Tryz.results122, noOrc]
end
end Go.Proofs.GD
/- fs.begin: a copy of the nodes and two maps, made in whatever order. -/
namespace Go.Proofs.GD
set_option linter.unusedSectionVars false
variable [Go.AI.Sym]
open Go Go.AI Go.RowKit
set_option maxRecDepth 100000
set_option linter.unusedVariables false
set_option linter.unusedSimpArgs false
noncomputable def bR1 : Code := fstC (sndC (bodyC Tryz.f60))
noncomputable def bOps : Array Oper := opsC bR1
noncomputable def bO (i : Nat) : Oper := bOps.getD i default
theorem b_body : Tryz.f60.body = some (.seq (fstC (bodyC Tryz.f60)) (.seq (.region 1 bOps true) .ret)) := by kernel_rfl
theorem b_ops : bOps.toList = [bO 0, bO 1, bO 2, bO 3, bO 4, bO 5, bO 6, bO 7, bO 8, bO 9, bO 10, bO 11, bO 12, bO 13, bO 14, bO 15, bO 16, bO 17, bO 18] := by kernel_rfl
def orcB : Orc where
 pure := fun _ _ => none
 inl := fun f => Nat.beq f 122
 inline := fun f => cond (Nat.beq f 122) (cloneI 8) (nilX f)
 dyn := fun _ => []
 fp := fun f args => cond (Nat.beq f 122) (cloneF args) none
 alt := fun _ => []
 rd := fun _ => none
 cl := fun _ => false
theorem orcB_ok : OrcOk Tryz.prog orcB where
 pure := fun f args r h => by simp [orcB] at h
 inline := fun f h => by
  have hf : f = 122 := Nat.eq_of_beq_eq_true h
  subst hf
  exact clone122
 foot := fun f args ids h => by
  cases hb : Nat.beq f 122 with
  | false => simp [orcB, hb] at h
  | true =>
   simp only [orcB, hb, cond_true] at h ⊢
   exact clone_loc args ids h
 rd := fun f m h => by simp [orcB] at h
 cells := fun f h => by simp [orcB] at h
def bPre : List Nat := [0, 1, 2, 3, 4, 5, 6, 7, 8, 9, 10, 11, 12]
def bPerms : List (List Nat) := [[13, 14, 15], [13, 15, 14], [14, 13, 15], [14, 15, 13], [15, 13, 14], [15, 14, 13]]
def bT : List (List Nat) := bPerms.map fun p => bPre ++ p ++ [16, 17, 18]
def bPairs : List (Nat × Nat) := [(4, 13), (4, 14), (4, 15), (8, 13), (8, 14), (8, 15), (12, 14), (12, 15)]
def bIdx : List Nat := [4, 8, 12, 13, 14, 15]
theorem b_rf : raceFreeM orcB.inl [13, 14, 15] bPairs bT bOps = true := by kernel_rfl
theorem fb2 (id : Nat) : aFieldAddr Tryz.prog 143 (.ptr id 198 0 0) 2 = some (.ptr id 198 0 2) := by kernel_rfl
theorem fb3 (id : Nat) : aFieldAddr Tryz.prog 143 (.ptr id 198 0 0) 3 = some (.ptr id 198 0 194) := by kernel_rfl
theorem fb4 (id : Nat) : aFieldAddr Tryz.prog 143 (.ptr id 198 0 0) 4 = some (.ptr id 198 0 195) := by kernel_rfl
theorem runFT_step {P : Program} {C : Orc} {nt n0 k : Nat} {ops : Array Oper} {idx l : List Nat} {o : Oper} {ρ : Env} {H H' : Heap} {v : AVal} {r : Env × Heap} {fs : List (Nat × Foot)}
  (hi : n0 ≤ H.length) (ho : ops.toList[k]? = some o) (hg : o.guard = none) (hd : dstOk nt o = true) (ha : astep P C true (AI.ev ρ) o H = some (v, H')) (h : runFT P C nt ops idx n0 l (AI.put ρ o.dst v, H') = some (r, fs)) :
  runFT P C nt ops idx n0 (k :: l) (ρ, H) = some (r, (k, if idx.contains k then foot C (AI.ev ρ) o else .other) :: fs) := by
 have h1 : (idx.contains k && !decide (n0 ≤ H.length)) = false := by rw [decide_eq_true hi]; simp
 have h2 : step1 P C nt ops o (ρ, H) = some (AI.put ρ o.dst v, H') := by
  simp only [step1, hd, if_true, hg, ha, Option.map_some]
 simp only [runFT, h1, Bool.false_eq_true, if_false, ho, h2, h]
theorem b_at (i : Nat) (h : i < 19) : bOps.toList[i]? = some (bO i) := by
 rw [b_ops]
 match i, h with
 | 0, _ => rfl
 | 1, _ => rfl
 | 2, _ => rfl
 | 3, _ => rfl
 | 4, _ => rfl
 | 5, _ => rfl
 | 6, _ => rfl
 | 7, _ => rfl
 | 8, _ => rfl
 | 9, _ => rfl
 | 10, _ => rfl
 | 11, _ => rfl
 | 12, _ => rfl
 | 13, _ => rfl
 | 14, _ => rfl
 | 15, _ => rfl
 | 16, _ => rfl
 | 17, _ => rfl
 | 18, _ => rfl
 | i + 19, h => omega
structure Bg (H : Heap) (fid : Nat) (v7 v11 : AVal) (nid st n kc : Nat) (rows : List Row) : Prop where
 h7 : aLoad Tryz.prog 121 (.ptr fid 198 0 2) H = some v7
 h11 : aLoad Tryz.prog 137 (.ptr fid 198 0 194) H = some v11
 h15 : aLoad Tryz.prog 134 (.ptr fid 198 0 195) H = some (.osl nid 8 st n kc)
 ob : obj H nid = some (8, rows)
 n0 : n ≠ 0
 le : st + n ≤ rows.length
 big : n ≤ 4294967296
 ne : nid ≠ fid
 flt : fid < H.length
 r7 : res true v7 = v7
 r11 : res true v11 = v11
section
variable {H : Heap} {fid nid st n kc : Nat} {v7 v11 : AVal} {rows : List Row}
def bEnv (fid nid st n kc : Nat) (v7 v11 : AVal) : Env := [(15, .osl nid 8 st n kc), (14, .ptr fid 198 0 195), (13, .ptr fid 198 0 0), (12, .ptr fid 198 0 0), (11, v11), (10, .ptr fid 198 0 194), (9, .ptr fid 198 0 0), (8, .ptr fid 198 0 0), (7, v7), (6, .ptr fid 198 0 2), (5, .ptr fid 198 0 0), (4, .ptr fid 198 0 0), (3, .ptr fid 198 0 0), (2, .v (.pointer none)), (0, .ptr fid 198 0 0)]
def fpF (fid : Nat) : Foot := .fp [fid] false
theorem b_pre (hB : Bg H fid v7 v11 nid st n kc rows) {l : List Nat} {r : Env × Heap} {fs : List (Nat × Foot)} (h : runFT Tryz.prog orcB 21 bOps bIdx H.length l (bEnv fid nid st n kc v7 v11, H) = some (r, fs)) :
  runFT Tryz.prog orcB 21 bOps bIdx H.length (bPre ++ l) ([(2, .v (.pointer none)), (0, .ptr fid 198 0 0)], H) = some (r, [(0, .other), (1, .other), (2, .other), (3, .other), (4, fpF fid), (5, .other), (6, .other), (7, .other), (8, fpF fid), (9, .other), (10, .other), (11, .other), (12, fpF fid)] ++ fs) := by
 have le := Nat.le_refl H.length
 refine runFT_step (o := bO 0) le (b_at 0 (by decide)) rfl rfl rfl ?_
 refine runFT_step (o := bO 1) le (b_at 1 (by decide)) rfl rfl rfl ?_
 refine runFT_step (o := bO 2) le (b_at 2 (by decide)) rfl rfl rfl ?_
 refine runFT_step (o := bO 3) le (b_at 3 (by decide)) rfl rfl (mapS (fb2 fid)) ?_
 refine runFT_step (o := bO 4) le (b_at 4 (by decide)) rfl rfl (mapS hB.h7) ?_
 refine runFT_step (o := bO 5) le (b_at 5 (by decide)) rfl rfl rfl ?_
 refine runFT_step (o := bO 6) le (b_at 6 (by decide)) rfl rfl rfl ?_
 refine runFT_step (o := bO 7) le (b_at 7 (by decide)) rfl rfl (mapS (fb3 fid)) ?_
 refine runFT_step (o := bO 8) le (b_at 8 (by decide)) rfl rfl (mapS hB.h11) ?_
 refine runFT_step (o := bO 9) le (b_at 9 (by decide)) rfl rfl rfl ?_
 refine runFT_step (o := bO 10) le (b_at 10 (by decide)) rfl rfl rfl ?_
 refine runFT_step (o := bO 11) le (b_at 11 (by decide)) rfl rfl (mapS (fb4 fid)) ?_
 refine runFT_step (o := bO 12) le (b_at 12 (by decide)) rfl rfl (mapS hB.h15) ?_
 exact h
theorem b_clone {ρ : Env} {K : Heap} {l : List Nat} {r : Env × Heap} {fs : List (Nat × Foot)} (hK : H.length ≤ K.length) (ho : obj K nid = some (8, rows)) (hle : st + n ≤ rows.length) (hn : n ≠ 0) (hbig : n ≤ 4294967296) (h15 : AI.ev ρ (.tmp 15) = .osl nid 8 st n kc)
  (h : runFT Tryz.prog orcB 21 bOps bIdx H.length l ((16, .osl K.length 8 0 n n) :: ρ, K ++ [some (8, (rows.drop st).take n)]) = some (r, fs)) :
  runFT Tryz.prog orcB 21 bOps bIdx H.length (13 :: l) (ρ, K) = some (r, (13, .fp [nid] true) :: fs) := by
 have hc : cloneI 8 [.osl nid 8 st n kc] K = some (.osl K.length 8 0 n n, K ++ [some (8, (rows.drop st).take n)]) := by
  simp only [cloneI, ho, newObj']
  simp [hle, hn, hbig]
 have hs := runFT_step (P := Tryz.prog) (C := orcB) (nt := 21) (idx := bIdx) (o := bO 13) (v := .osl K.length 8 0 n n) (H' := K ++ [some (8, (rows.drop st).take n)]) hK (b_at 13 (by decide)) rfl rfl (by
  show aCall Tryz.prog orcB true (.fn 122 []) [res true (AI.ev ρ (.tmp 15))] K = _
  rw [h15]
  exact hc) h
 rw [hs]
 have hf : foot orcB (AI.ev ρ) (bO 13) = .fp [nid] true := by
  show footC orcB 122 (.fn 122 []) [AI.ev ρ (.tmp 15)] = _
  rw [h15]; rfl
 show some (r, (13, foot orcB (AI.ev ρ) (bO 13)) :: fs) = _
 rw [hf]
theorem b_map (i : Nat) (hi : i = 14 ∨ i = 15) {ρ : Env} {K : Heap} {l : List Nat} {r : Env × Heap} {fs : List (Nat × Foot)} (hK : H.length ≤ K.length)
  (h : runFT Tryz.prog orcB 21 bOps bIdx H.length l ((i + 3, .ptr K.length 0 0 0) :: ρ, K ++ [some (0, [])]) = some (r, fs)) :
  runFT Tryz.prog orcB 21 bOps bIdx H.length (i :: l) (ρ, K) = some (r, (i, .fp [] true) :: fs) := by
 rcases hi with rfl | rfl
 ·exact runFT_step (o := bO 14) (v := .ptr K.length 0 0 0) (H' := K ++ [some (0, [])]) hK (b_at 14 (by decide)) rfl rfl rfl h
 ·exact runFT_step (o := bO 15) (v := .ptr K.length 0 0 0) (H' := K ++ [some (0, [])]) hK (b_at 15 (by decide)) rfl rfl rfl h
end
end Go.Proofs.GD
/- fs.begin: all orders come to one state. -/
namespace Go.Proofs.GD
set_option linter.unusedSectionVars false
variable [Go.AI.Sym]
open Go Go.AI Go.RowKit
set_option maxRecDepth 100000
set_option linter.unusedVariables false
set_option linter.unusedSimpArgs false
theorem writeAt_set : ∀ (row : Row) (off : Nat) (c : AVal), off < row.length → writeAt row off [c] = row.set off c
 | [], off, c, h => by simp at h
 | x :: r, 0, c, h => by
  have : writeAt r 0 [] = r := by cases r <;> rfl
  simp only [writeAt, List.set_cons_zero, this]
 | x :: r, off + 1, c, h => by
  simp only [writeAt, List.set_cons_succ]
  rw [writeAt_set r off c (by simpa using h)]
theorem fillA_app {pl : Nat → Option (Nat × Nat)} : ∀ (l1 l2 : List (Nat × AVal)) (cells : Row), fillA pl cells (l1 ++ l2) = (fillA pl cells l1).bind fun c => fillA pl c l2
 | [], l2, cells => rfl
 |(i, a) :: l1, l2, cells => by
  simp only [List.cons_append, fillA]
  split
  ·split
   ·exact fillA_app l1 l2 _
   ·rfl
  ·rfl
noncomputable def pl250 : Nat → Option (Nat × Nat) := fun i => ([(0, 1), (1, 192), (193, 1), (194, 1), (195, 1), (196, 1), (197, 1), (198, 1), (199, 1)] : List (Nat × Nat))[i]?
noncomputable def zc250 : Row := match zeroOf Tryz.prog 250 with
 | some z => z.cells.toList.map .v
 | none => []
theorem build250 (parts : List (Nat × AVal)) : aBuild Tryz.prog 250 parts = (fillA pl250 zc250 parts).map mkAgg := by
 have h1 : placesOf Tryz.prog 250 = some [(0, 1), (1, 192), (193, 1), (194, 1), (195, 1), (196, 1), (197, 1), (198, 1), (199, 1)] := by kernel_rfl
 have h2 : (zeroOf Tryz.prog 250).isSome = true := by kernel_rfl
 obtain ⟨z, hz⟩ := Option.isSome_iff_exists.1 h2
 unfold aBuild zc250
 rw [hz]
 simp only [h1]
 rfl
def setC (cells : Row) (n i1 i2 i3 : Nat) : Row := (((cells.set 194 (.osl i1 8 0 n n)).set 195 (.ptr i2 0 0 0)).set 196 (.ptr i3 0 0 0)).set 199 (.v (.int .i64 256))
theorem setC_len {cells : Row} {n i1 i2 i3 : Nat} : (setC cells n i1 i2 i3).length = cells.length := by simp [setC]
theorem fill3 {cells : Row} (hl : cells.length = 200) {n i1 i2 i3 : Nat} : fillA pl250 cells [(3, .osl i1 8 0 n n), (4, .ptr i2 0 0 0), (5, .ptr i3 0 0 0), (8, .v (.int .i64 256))] = some (setC cells n i1 i2 i3) := by
 have p3 : pl250 3 = some (194, 1) := rfl
 have p4 : pl250 4 = some (195, 1) := rfl
 have p5 : pl250 5 = some (196, 1) := rfl
 have p8 : pl250 8 = some (199, 1) := rfl
 simp [fillA, p3, p4, p5, p8, cellsOf, writeAt_set, hl, setC]
theorem allOneA_set : ∀ {l : Row} {i : Nat} {x : AVal}, allOneA l = true → oneA x = true → allOneA (l.set i x) = true
 | [], i, x, _, _ => by simp [allOneA]
 | a :: l, 0, x, h, hx => by
  simp only [allOneA, Bool.and_eq_true] at h
  simp only [List.set_cons_zero, allOneA, hx, h.2, Bool.and_self]
 | a :: l, i + 1, x, h, hx => by
  simp only [allOneA, Bool.and_eq_true] at h
  simp only [List.set_cons_succ, allOneA, h.1, allOneA_set h.2 hx, Bool.and_self]
structure Ce (H : Heap) (fid : Nat) (v7 v11 : AVal) (cells : Row) : Prop where
 fill : fillA pl250 zc250 [(0, .ptr fid 198 0 0), (1, v7), (2, v11)] = some cells
 len : cells.length = 200
 one : allOneA cells = true
 low : lowC H.length cells = true
 hd : ∃ a b c d t, cells = .ptr a b c d :: t
section
variable {H : Heap} {fid nid st n kc : Nat} {v7 v11 : AVal} {rows cells : Row}
theorem set_agg {i1 i2 i3 : Nat} (hC : Ce H fid v7 v11 cells) : mkAgg (setC cells n i1 i2 i3) = .agg (setC cells n i1 i2 i3) ∧ cellsOf (.agg (setC cells n i1 i2 i3)) = some (setC cells n i1 i2 i3) := by
 obtain ⟨a, b, c, d, t, ht⟩ := hC.hd
 constructor
 ·subst ht
  rfl
 ·have : allOneA (setC cells n i1 i2 i3) = true := allOneA_set (allOneA_set (allOneA_set (allOneA_set hC.one rfl) rfl) rfl) rfl
  simp only [cellsOf, this, if_true]
theorem b_suf {ρ : Env} {K : Heap} {i1 i2 i3 : Nat} (hC : Ce H fid v7 v11 cells) (hK : H.length ≤ K.length) (h3 : AI.ev ρ (.tmp 3) = .ptr fid 198 0 0) (h7 : res true (AI.ev ρ (.tmp 7)) = v7) (h11 : res true (AI.ev ρ (.tmp 11)) = v11) (h16 : AI.ev ρ (.tmp 16) = .osl i1 8 0 n n) (h17 : AI.ev ρ (.tmp 17) = .ptr i2 0 0 0) (h18 : AI.ev ρ (.tmp 18) = .ptr i3 0 0 0) :
  runFT Tryz.prog orcB 21 bOps bIdx H.length [16, 17, 18] (ρ, K) = some (((2, .ptr K.length 200 0 0) :: (20, .ptr K.length 200 0 0) :: (19, .agg (setC cells n i1 i2 i3)) :: ρ, K ++ [some (200, [setC cells n i1 i2 i3])]), [(16, .other), (17, .other), (18, .other)]) := by
 obtain ⟨e1, e2⟩ := set_agg (n := n) (i1 := i1) (i2 := i2) (i3 := i3) hC
 have hl : (setC cells n i1 i2 i3).length = 200 := by rw [setC_len, hC.len]
 have hb : aBuild Tryz.prog 250 [(0, .ptr fid 198 0 0), (1, v7), (2, v11), (3, .osl i1 8 0 n n), (4, .ptr i2 0 0 0), (5, .ptr i3 0 0 0), (8, .v (.int .i64 256))] = some (.agg (setC cells n i1 i2 i3)) := by
  rw [build250, show ([(0, .ptr fid 198 0 0), (1, v7), (2, v11), (3, .osl i1 8 0 n n), (4, .ptr i2 0 0 0), (5, .ptr i3 0 0 0), (8, .v (.int .i64 256))] : List (Nat × AVal)) = [(0, .ptr fid 198 0 0), (1, v7), (2, v11)] ++ [(3, .osl i1 8 0 n n), (4, .ptr i2 0 0 0), (5, .ptr i3 0 0 0), (8, .v (.int .i64 256))] from rfl, fillA_app, hC.fill, Option.bind_some, fill3 hC.len, Option.map_some, e1]
 refine runFT_step (P := Tryz.prog) (C := orcB) (nt := 21) (ops := bOps) (idx := bIdx) (n0 := H.length) (ρ := ρ) (H := K) (o := bO 16) (v := .agg (setC cells n i1 i2 i3)) (H' := K) hK (b_at 16 (by decide)) rfl rfl ?_ ?_
 ·show (aBuild Tryz.prog 250 [(0, res true (AI.ev ρ (.tmp 3))), (1, res true (AI.ev ρ (.tmp 7))), (2, res true (AI.ev ρ (.tmp 11))), (3, res true (AI.ev ρ (.tmp 16))), (4, res true (AI.ev ρ (.tmp 17))), (5, res true (AI.ev ρ (.tmp 18))), (8, .v (.int .i64 256))]).map (·, K) = _
  rw [h3, h7, h11, h16, h17, h18]
  exact mapS hb
 refine runFT_step (o := bO 17) (v := .ptr K.length 200 0 0) (H' := K ++ [some (200, [setC cells n i1 i2 i3])]) hK (b_at 17 (by decide)) rfl rfl ?_ ?_
 ·show aBox (.agg (setC cells n i1 i2 i3)) K = _
  unfold aBox
  rw [e2]
  simp only [hl, newObj']
  rfl
 refine runFT_step (o := bO 18) (v := .ptr K.length 200 0 0) (H' := K ++ [some (200, [setC cells n i1 i2 i3])]) (by simp; omega) (b_at 18 (by decide)) rfl rfl rfl ?_
 exact rfl
end
end Go.Proofs.GD
/- fs.begin's contract. -/
namespace Go.Proofs.GD
set_option linter.unusedSectionVars false
variable [Go.AI.Sym]
open Go Go.AI Go.RowKit
set_option maxRecDepth 100000
set_option linter.unusedVariables false
set_option linter.unusedSimpArgs false
theorem setC_get {cells : Row} {n i1 i2 i3 k : Nat} (hl : cells.length = 200) : (setC cells n i1 i2 i3)[k]? = if k = 199 then some (.v (.int .i64 256)) else if k = 196 then some (.ptr i3 0 0 0) else if k = 195 then some (.ptr i2 0 0 0) else if k = 194 then some (.osl i1 8 0 n n) else cells[k]? := by
 unfold setC
 simp only [List.getElem?_set, List.length_set, hl]
 by_cases h1 : k = 199
 ·subst h1; simp
 ·by_cases h2 : k = 196
  ·subst h2; simp
  ·by_cases h3 : k = 195
   ·subst h3; simp
   ·by_cases h4 : k = 194
    ·subst h4; simp
    ·simp [h1, h2, h3, h4, Ne.symm h1, Ne.symm h2, Ne.symm h3, Ne.symm h4]
def thB (p1 p2 p3 j : Nat) : Nat := if j = 0 then p1 else if j = 1 then p2 else if j = 2 then p3 else j
def canS (H : Heap) (R : List Row) (cells : Row) (n : Nat) : Heap := [some (8, R), some (0, []), some (0, []), some (200, [setC cells n H.length (H.length + 1) (H.length + 2)])]
section
variable {H S : Heap} {fid nid st n kc p1 p2 p3 : Nat} {v7 v11 : AVal} {rows : List Row} {cells : Row}
structure PS (H S : Heap) (R : List Row) (cells : Row) (n p1 p2 p3 : Nat) : Prop where
 len : S.length = 4
 c1 : S[p1]? = some (some (8, R))
 c2 : S[p2]? = some (some (0, []))
 c3 : S[p3]? = some (some (0, []))
 c4 : S[3]? = some (some (200, [setC cells n (H.length + p1) (H.length + p2) (H.length + p3)]))
 l1 : p1 < 3
 l2 : p2 < 3
 l3 : p3 < 3
 d12 : p1 ≠ p2
 d13 : p1 ≠ p3
 d23 : p2 ≠ p3
theorem b_perm (hB : Bg H fid v7 v11 nid st n kc rows) (hC : Ce H fid v7 v11 cells) (hS : PS H S ((rows.drop st).take n) cells n p1 p2 p3) {f : Fr} {base : Nat} {w0 w1 w : World} {β0 β : Nat → Nat} {fz0 fz : Nat → Prop} {a1 a : Act} {ρ0 ρ1 : Env}
  (hs0 : Sim f base w0 β0 fz0 ρ0 H a1 w1) (hs : Sim f base w0 β fz ρ1 (H ++ S) a w) (h2 : AI.look ρ1 2 = .ptr (H.length + 3) 200 0 0) :
  Sim f base w0 (perB H.length (thB p1 p2 p3) β) fz [(2, .ptr (H.length + 3) 200 0 0)] (H ++ canS H ((rows.drop st).take n) cells n) a w := by
 have hlen2 : (H ++ canS H ((rows.drop st).take n) cells n).length = (H ++ S).length := by simp [canS, hS.len]
 have hH : H.length ≤ (H ++ S).length := by simp
 obtain ⟨hl1, hl2, hl3, hd12, hd13, hd23⟩ := (⟨hS.l1, hS.l2, hS.l3, hS.d12, hS.d13, hS.d23⟩ : _ ∧ _ ∧ _ ∧ _ ∧ _ ∧ _)
 refine ⟨hs0.heap.permNew hs.heap (S' := canS H ((rows.drop st).take n) cells n) (by simp [canS, hS.len]) (θ := thB p1 p2 p3) (fun j hj => ?_) (fun i j hi hj he => ?_) (fun j sz rows' hj => ?_), hs.defers, hs.size, ⟨?_, fun id hid => ?_, hs.ext.hfz, hs.ext.blk, hs.ext.shape⟩, fun t => ?_⟩
 ·rw [hS.len] at hj ⊢
  unfold thB
  split <;> try split
  all_goals try split
  all_goals omega
 ·rw [hS.len] at hi hj
  unfold thB at he
  match i, j, hi, hj with
  | 0, 0, _, _ => rfl
  | 1, 1, _, _ => rfl
  | 2, 2, _, _ => rfl
  | 3, 3, _, _ => rfl
  | 0, 1, _, _ => simp at he; omega
  | 0, 2, _, _ => simp at he; omega
  | 0, 3, _, _ => simp at he; omega
  | 1, 0, _, _ => simp at he; omega
  | 1, 2, _, _ => simp at he; omega
  | 1, 3, _, _ => simp at he; omega
  | 2, 0, _, _ => simp at he; omega
  | 2, 1, _, _ => simp at he; omega
  | 2, 3, _, _ => simp at he; omega
  | 3, 0, _, _ => simp at he; omega
  | 3, 1, _, _ => simp at he; omega
  | 3, 2, _, _ => simp at he; omega
 ·match j, hj with
  | 0, hj =>
   simp only [canS, List.getElem?_cons_zero, Option.some.injEq, Prod.mk.injEq] at hj
   obtain ⟨rfl, rfl⟩ := hj
   refine .inr ⟨by decide, _, hS.c1, rfl, fun i r r' hr hr' => ?_⟩
   rw [hr] at hr'; cases hr'
   refine ⟨rfl, fun k a a' ha ha' v hv => ?_⟩
   rw [ha] at ha'; cases ha'
   have hmem : r ∈ rows := List.mem_of_mem_drop (List.mem_of_mem_take (List.mem_of_getElem? hr))
   obtain ⟨v0, h0⟩ := hs0.heap.wit (obj_get hB.ob) r hmem a (List.mem_of_getElem? ha)
   exact h0.low3 (fun id hid => perB_low hid) hH hv
  | 1, hj =>
   simp only [canS, List.getElem?_cons_succ, List.getElem?_cons_zero, Option.some.injEq, Prod.mk.injEq] at hj
   obtain ⟨rfl, rfl⟩ := hj
   exact .inl ⟨rfl, rfl, hS.c2⟩
  | 2, hj =>
   simp only [canS, List.getElem?_cons_succ, List.getElem?_cons_zero, Option.some.injEq, Prod.mk.injEq] at hj
   obtain ⟨rfl, rfl⟩ := hj
   exact .inl ⟨rfl, rfl, hS.c3⟩
  | 3, hj =>
   simp only [canS, List.getElem?_cons_succ, List.getElem?_cons_zero, Option.some.injEq, Prod.mk.injEq] at hj
   obtain ⟨rfl, rfl⟩ := hj
   refine .inr ⟨by decide, _, hS.c4, rfl, fun i r r' hr hr' => ?_⟩
   match i, hr, hr' with
   | 0, hr, hr' =>
    simp only [List.getElem?_cons_zero, Option.some.injEq] at hr hr'
    subst hr; subst hr'
    refine ⟨by rw [setC_len, setC_len], fun k a a' ha ha' v hv => ?_⟩
    rw [setC_get hC.len] at ha ha'
    by_cases k1 : k = 199
    ·rw [if_pos k1] at ha ha'; cases ha; cases ha'; cases hv; exact .v
    rw [if_neg k1] at ha ha'
    by_cases k2 : k = 196
    ·rw [if_pos k2] at ha ha'; cases ha; cases ha'
     cases hv with
     | ptr _ h0 => exact absurd rfl h0
     | mp h =>
      have : β (H.length + p3) = perB H.length (thB p1 p2 p3) β (H.length + 2) := by rw [perB_new]; rfl
      rw [this]
      exact .mp (by simp [hS.len])
    rw [if_neg k2] at ha ha'
    by_cases k3 : k = 195
    ·rw [if_pos k3] at ha ha'; cases ha; cases ha'
     cases hv with
     | ptr _ h0 => exact absurd rfl h0
     | mp h =>
      have : β (H.length + p2) = perB H.length (thB p1 p2 p3) β (H.length + 1) := by rw [perB_new]; rfl
      rw [this]
      exact .mp (by simp [hS.len])
    rw [if_neg k3] at ha ha'
    by_cases k4 : k = 194
    ·rw [if_pos k4] at ha ha'; cases ha; cases ha'
     have e : perB H.length (thB p1 p2 p3) β H.length = β (H.length + p1) := by
      have := perB_new (n0 := H.length) (j := 0) (θ := thB p1 p2 p3) (β := β)
      simpa [thB] using this
     cases hv with
     | osl h hl hk ha => exact .osl (by simp [hS.len]) hl hk (by rw [e]; exact ha)
    rw [if_neg k4] at ha ha'
    rw [ha] at ha'; cases ha'
    have hlow : lowA H.length a = true := by
     have := hC.low
     rw [lowC_all] at this
     exact List.all_eq_true.1 this a (List.mem_of_getElem? ha)
    exact (low_R hv hlow).low3 (fun id hid => perB_low hid) hH hv
   | i + 1, hr, hr' => simp at hr
  | j + 4, hj => simp [canS] at hj
 ·have := hs0.ext.hn; rw [hlen2]; exact Nat.le_trans this hH
 ·have := hs0.ext.hn
  rw [perB_low (Nat.lt_of_lt_of_le hid this)]
  exact hs.ext.hβ id hid
 ·rw [hlen2]
  by_cases ht : t = 2
  ·subst ht
   have h := hs.env 2
   rw [h2] at h
   have e : perB H.length (thB p1 p2 p3) β (H.length + 3) = β (H.length + 3) := by rw [perB_new]; rfl
   show R _ _ _ _ (.ptr (H.length + 3) 200 0 0) _
   generalize a.tmps.getD 2 undef = v at h
   cases h with
   | ptr h h0 => rw [← e]; exact .ptr h h0
  ·have : AI.look [(2, AVal.ptr (H.length + 3) 200 0 0)] t = .junk := by
    simp only [AI.look]
    rw [if_neg ht]
   rw [this]; exact .junk
end
end Go.Proofs.GD
