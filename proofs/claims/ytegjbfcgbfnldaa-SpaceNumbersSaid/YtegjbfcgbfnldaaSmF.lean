/- ringkeep2: sameAll, good. A private list of lists of bytes: theory. Package space: what a space has, page by page. Package space: a memory behind some deeds; the statements' own first question. Package space: lists of one's own that the memory leaves alone. ringkeep2.whole, its lists one's own. -/
import Derived.Test.YtegjbfcgbfnldaaFacts
import Derived.Test.YtegjbfcgbfnldaaAiZe
import Derived.Test.YtegjbfcgbfnldaaAiZi
import Derived.Test.YtegjbfcgbfnldaaAiZf
import Derived.Test.YtegjbfcgbfnldaaSmE
namespace Go.Proofs.Ytegjbfcgbfnldaa
open Go.AI
set_option linter.unusedSimpArgs false
set_option linter.unusedVariables false
section
set_option maxHeartbeats 2000000
set_option maxRecDepth 100000
set_option linter.unusedSimpArgs false
set_option linter.unusedVariables false
attribute [local simp] wpA wpX RunA RunD runF foot footP footB idsA bare apart runL step1 gsel_f gsel_t gsel_s res_same res_and1 res_and2 res_and3 res_and4 res_and5 res_and6 res_false res_true res_v res_ptr res_fptr res_osl res_xsl soft aAppendZ aCap ovlI ovlJ res_fsl res_esl res_agg res_tup res_fn res_junk res_anyb aPick hk imp_left iteV dstOk guardOk astep astepE AI.ev AI.look AI.put envOf aBox cellsOf allOne allOneA oneA Value.oneCell' Value.cells newObj' aFieldAddr aLoad obj readAt thenA blockA condA retA resA tupA view hot hotC hotR depthV cAgg cInt cBool mkAgg allV aAlloc aBuild fillA writeAt aStore isAggA aField idx aIndexAddr aIndex bnd aSlice aExtract aLen aBuiltin aCall isStatic eqAgg eqTy eqC ev_add ev_sub ev_mul ev_quo ev_rem ev_and ev_or ev_xor ev_andNot ev_shl ev_shr ev_eql ev_neq ev_lss ev_leq ev_gtr ev_geq ev_agg w64 wu32 wu8 ev_not ev_neg Cod.plain RCod.plain argM finM cold coldC coldR goInt intDec boolDec aggDec Weaker heapW lowA lowC Again slDec undef aBuildSlice setRows aAppend rowsOf aMakeSlice aClear aCopy softer_self softer_nil valsOf ev_min2 ev_max2 hotR_set hotR_append take_map_set irow_cold irow_mapM irow_mapMc irow_view irow_viewc irow_hotR irow_ren irow_renc irow_low WeakT heapT thOf ren renC AgainT NextF NextT fnDec cFn rNil selfLt natLt0 natLt1 getLastMap frame0 frame1 own0 own1 argG finG tau tauI tauO tauC bareA bareC bareH irow_tau irow_tauc irow_bare irow_flat irow_bareR ownA_nil ownT_nil ownA_c ownT_c ownA_s ownT_s takeMapLen footC plainA noId noIdC cloneF frame0F frame1F insertF replaceI replaceF cellDec rCell fpDec cFp rTwo deleteF allV_oA oneA_oA res_oA RunR RunE runFT footAt hotR_cat tmodN aEqH aSliceA frameN newA newC newH fxSz3 fxBy3 fxAg3 fxZe3 fxSz4 fxAg4 fxSz5 fxBy5 fxAg5 fxZe5 fxSl22 fxAr22 fxSz26 fxAg26 fxZe26 fxSz28 fxBy28 fxAg28 fxZe28 fxSl28 fxAr28 fxSl51 fxAr51 fxSl58 fxAr58 fxSz69 fxAg69 fxZe69 fxFi69x0 fxFi69x1 fxFi69x2 fxFi69x3 fxFi69x4 fxFi69x5 fxSz71 fxBy71 fxAg71 fxZe71 fxSz73 fxAg73 fxZe73 fxFi73x0 fxFi73x1 fxPl73 fxZe75 fxSz76 fxAg76 fxSl76 fxAr76 fxAg77 fxZe79 fxFi79x0 fxFi79x1 fxFi79x2 fxFi79x3 fxFi79x4 fxPl79 fxSz82 fxAg82 fxZe82 fxSl82 fxAr82 fxPl82 fxSl87 fxAr87 fxSz91 fxZe91 fxFi91x0 fxFi91x1 fxFi91x2 fxFi91x3 fxPl91 fxCv3x36 fxCv36x3 fxEb4 fxNb4 fxLn28 fxNe28 fxOe28 fxXe28 fxLn58 fxNe58 fxOe58 fxXe58 fxLn76 fxFm15 fxFm16 fxFi16 fxFm17 fxFm18 fxFm19 fxFi19 fxFm20 fxFi20 fxFm21 fxFm22 fxFm23 fxFm24 fxFm25 fxFi25 fxFm26 fxFm27 fxFm28 fxFi28 fxFm29 fxFi29 fxFm30 fxFm31 fxFm32 fxFm33 fxFi33 fxFm34 fxFm35 fxFm36 fxFm37 fxFm38 fxFi38 fxFm39 fxFm40 fxFm41 fxFi41 fxFm42 fxFm43 fxFm44 fxFi44 fxFm45 fxFi45 fxFm46 fxFm47 fxFm48 fxFm49 fxFi49 fxFm50 fxFi50 fxFm51 fxFi51 fxFm52 fxFi52 fxFm53 fxFm54 fxFi54 fxFm55 fxFi55 fxFm56 fxFm57 fxFi57 fxFm58 fxFi58 fxFm61 fxFm62 fxFi62 fxFm63 fxFi63 fxFm64 fxFm65 fxFi65 fxFm77 fxFi77
section
def bspR (o : Bool) : List Int → Row := slR 1 (irow .u8) o
def rBs : RCod (List Int) := rS (rI .u8)
theorem rBs_sz : rBs.sz = 1 := rfl
theorem bspR_cold {o : Bool} (L : List (List Int)) : coldR (L.map (bspR o)) = L.map (bspR false) := slR_cold irow_cold L
theorem bspR_dec {o : Bool} (l : List Int) : rBs.dec (bspR o l) = some l := slR_dec (cr := rI .u8) l
theorem bspR_mapM {o : Bool} (L : List (List Int)) : (L.map (bspR o)).mapM rBs.dec = some L := slR_mapM (cr := rI .u8) L
theorem bspR_mapMc {o : Bool} (L : List (List Int)) : L.mapM (rBs.dec ∘ bspR o) = some L := by
  have := bspR_mapM (o := o) L
  rwa [List.mapM_map] at this
theorem bspR_view {o : Bool} (H : Heap) (d : Nat) (l : List Int) : List.map (view H d) (bspR o l) = bspR o l := slR_view l
theorem bspR_viewc {o : Bool} (H : Heap) (d : Nat) : List.map (view H d) ∘ bspR o = bspR o := funext (bspR_view H d)
theorem bspR_hotR (L : List (List Int)) : hotR (L.map (bspR true)) = true := slR_hotR irow_hotR L
theorem bspR_ren {o : Bool} (n : Nat) (th : List Nat) (l : List Int) : List.map (ren n th) (bspR o l) = bspR o l := slR_ren l
theorem bspR_renc {o : Bool} (n : Nat) (th : List Nat) : List.map (ren n th) ∘ bspR o = bspR o := funext (bspR_ren n th)
theorem bspR_low {o : Bool} (n : Nat) (l : List Int) : (bspR o l).all (lowA n) = true := slR_low l
theorem bspR_get {o : Bool} (l : List Int) : (bspR o l)[0]? = some (.fsl o 1 (l.map (irow .u8))) := rfl
theorem bspR_len {o : Bool} (l : List Int) : (bspR o l).length = 1 := rfl
attribute [local simp] rBs_sz bspR_cold bspR_dec bspR_mapM bspR_mapMc bspR_view bspR_viewc bspR_hotR bspR_ren bspR_renc bspR_low bspR_get bspR_len
theorem byEq_pure : PureOk Try.prog 29 (argM (cSl (rI .u8)) fun l => argM (cSl (rI .u8)) fun m => finM (if l.length ≤ 4294967296 then some (.v (.bool (decide (l = m)))) else none)) := by
  refine pure2 Try.func29 rfl ?_
  rintro l m r hr
  by_cases hc : l.length ≤ 4294967296
  case neg => rw [if_neg hc] at hr; cases hr
  rw [if_pos hc] at hr
  simp only [Option.some.injEq] at hr
  subst hr
  refine body_gen noOrc_ok fxMix (by kernel_rfl) (by simp [Try.ntmps29]) ?_
  intro C cP cI cN cD cF cA cR cL
  replace cI : C.inl = fun _ => false := cI
  replace cR : C.rd = fun _ => none := cR
  replace cD : C.dyn = fun _ => [] := cD
  clear cP cN cF cA
  simp [Try.ntmps29, Try.results29, cSl, cI, cD, cR, rI]
  split
  · rename_i hn
    have hn : l.length = m.length := by omega
    refine loop_for l.length (fun k (_ : Unit) => ([(0, .fsl false 1 (l.map (irow .u8))), (1, .fsl false 1 (m.map (irow .u8))), (12, .v (.int .i64 l.length)), (13, .v (.int .i64 k))], [])) (fun k _ => l.drop k = m.drop k ↔ l = m) () hc (by simp) (by simp) ?_ ?_
    · intro k _ hk hall hw
      have hk3 : k < m.length := by omega
      rw [List.drop_eq_getElem_cons hk, List.drop_eq_getElem_cons hk3, List.cons.injEq] at hall
      by_cases q2 : l[k] = m[k]
      · simp only [q2, true_and] at hall
        simp [Try.ntmps29, Try.results29, cSl, cI, cD, cR, hk, hk3, hw, rI, irow, q2]
        exact hall
      · have hne : ¬ l = m := fun h => q2 (hall.2 h).1
        simp [Try.ntmps29, Try.results29, cSl, cI, cD, cR, hk, hk3, hw, rI, irow, q2]
        exact hne
    · intro _ hall
      simp [hn] at hall
      simp [Try.ntmps29, Try.results29, cSl, cI, cD, cR, hall]
  · rename_i hn
    rintro rfl
    exact hn rfl
theorem same1_pure : PureOk Try.prog 55 (argM (cSl (rI .u8)) fun x => argM (cSl (rI .u8)) fun y => finM (if x.length ≤ 4294967296 then some (.v (.bool (decide (x = y)))) else none)) := by
  refine pure2 Try.func55 rfl ?_
  rintro x y r hr
  by_cases hc : x.length ≤ 4294967296
  case neg => rw [if_neg hc] at hr; cases hr
  rw [if_pos hc] at hr
  simp only [Option.some.injEq] at hr
  subst hr
  refine body_gen (noOrc_ok.withP byEq_pure) fxMix (by kernel_rfl) (by simp [Try.ntmps55]) ?_
  intro C cP cI cN cD cF cA cR cL
  have cp0 := orcP byEq_pure (C := C) (by rw [cP]; rfl)
  replace cI : C.inl = fun _ => false := cI
  replace cR : C.rd = fun _ => none := cR
  replace cD : C.dyn = fun _ => [] := cD
  clear cP cN cF cA
  simp [Try.ntmps55, Try.results55, cSl, cp0, cI, cD, cR, rI, hc]
theorem eqB_pure : PureOk Try.prog 54 (argM (cSl rBs) fun l => argM (cSl rBs) fun m => argM (cFn 55 rNil) fun e => finM (if l.length ≤ 4294967296 ∧ ∀ x ∈ l, x.length ≤ 4294967296 then some (.v (.bool (decide (l = m)))) else none)) := by
  refine pure3 Try.func54 rfl ?_
  rintro l m e r hr
  by_cases hc : l.length ≤ 4294967296 ∧ ∀ x ∈ l, x.length ≤ 4294967296
  case neg => rw [if_neg hc] at hr; cases hr
  rw [if_pos hc] at hr
  simp only [Option.some.injEq] at hr
  subst hr
  refine body_gen (noOrc_ok.withP same1_pure) fxMix (by kernel_rfl) (by simp [Try.ntmps54]) ?_
  intro C cP cI cN cD cF cA cR cL
  have cp0 := orcP same1_pure (C := C) (by rw [cP]; rfl)
  replace cI : C.inl = fun _ => false := cI
  replace cR : C.rd = fun _ => none := cR
  replace cD : C.dyn = fun _ => [] := cD
  clear cP cN cF cA
  have he : ∀ l : List (List Int), (cSl rBs).enc l = .fsl false 1 (l.map (slR 1 (irow .u8) false)) := fun _ => rfl
  have hd : ∀ l : List Int, slDec (rI .u8) (.fsl false 1 (l.map (irow .u8))) = some l := fun l => mapM_dec (rI .u8) l
  simp only [he]
  simp [Try.ntmps54, Try.results54, cSl, cp0, cI, cD, cR, rBs, rS, rI, cFn, rNil, RCod.plain]
  split
  · rename_i hn
    have hn : l.length = m.length := by omega
    refine loop_for l.length (fun k (_ : Unit) => ([(1, .fsl false 1 (m.map (slR 1 (irow .u8) false))), (2, .fn 55 []), (15, .fsl false 1 (l.map (slR 1 (irow .u8) false))), (16, .v (.int .i64 l.length)), (17, .v (.int .i64 k))], [])) (fun k _ => l.drop k = m.drop k ↔ l = m) () hc.1 (by simp) (by simp) ?_ ?_
    · intro k _ hk hall hw
      have hk3 : k < m.length := by omega
      have hl8 := hc.2 _ (List.getElem_mem hk)
      rw [List.drop_eq_getElem_cons hk, List.drop_eq_getElem_cons hk3, List.cons.injEq] at hall
      by_cases q2 : l[k] = m[k]
      · simp only [q2, true_and] at hall
        rw [q2] at hl8
        simp [Try.ntmps54, Try.results54, cSl, cp0, cI, cD, cR, hk, hk3, hw, rBs, rS, rI, slR, q2, hl8]
        exact hall
      · have hne : ¬ l = m := fun h => q2 (hall.2 h).1
        simp [Try.ntmps54, Try.results54, cSl, cp0, cI, cD, cR, hk, hk3, hw, rBs, rS, rI, slR, q2, hl8]
        exact hne
    · intro _ hall
      simp [hn] at hall
      simp [Try.ntmps54, Try.results54, cSl, cp0, cI, cD, cR, hall]
  · rename_i hn
    rintro rfl
    exact hn rfl
theorem same_pure : PureOk Try.prog 33 (argM (cSl rBs) fun l => argM (cSl rBs) fun m => finM (if l.length ≤ 4294967296 ∧ ∀ x ∈ l, x.length ≤ 4294967296 then some (.v (.bool (decide (l = m)))) else none)) := by
  refine pure2 Try.func33 rfl ?_
  rintro l m r hr
  by_cases hc : l.length ≤ 4294967296 ∧ ∀ x ∈ l, x.length ≤ 4294967296
  case neg => rw [if_neg hc] at hr; cases hr
  rw [if_pos hc] at hr
  simp only [Option.some.injEq] at hr
  subst hr
  refine body_gen (noOrc_ok.withP eqB_pure) fxMix (by kernel_rfl) (by simp [Try.ntmps33]) ?_
  intro C cP cI cN cD cF cA cR cL
  have cp0 := orcP eqB_pure (C := C) (by rw [cP]; rfl)
  replace cI : C.inl = fun _ => false := cI
  replace cR : C.rd = fun _ => none := cR
  replace cD : C.dyn = fun _ => [] := cD
  clear cP cN cF cA
  have he : ∀ l : List (List Int), (cSl rBs).enc l = .fsl false 1 (l.map (bspR false)) := fun _ => rfl
  simp only [he]
  have hcond : (∀ x, x ∈ l → x.length ≤ 4294967296) = True := eq_true hc.2
  simp [Try.ntmps33, Try.results33, cSl, cp0, cI, cD, cR, cFn, rNil, RCod.plain, hc.1, hcond]
theorem good1_pure : PureOk Try.prog 52 (argM (cInt .i64) fun e => finM (some (.v (.bool (e != 0))))) := by
  refine pure1 Try.func52 rfl ?_
  rintro e r hr
  simp only [Option.some.injEq] at hr
  subst hr
  refine body_gen noOrc_ok fxMix (by kernel_rfl) (by simp [Try.ntmps52]) ?_
  intro C cP cI cN cD cF cA cR cL
  replace cI : C.inl = fun _ => false := cI
  replace cR : C.rd = fun _ => none := cR
  replace cD : C.dyn = fun _ => [] := cD
  clear cP cN cF cA
  simp [Try.ntmps52, Try.results52, cSl, cI, cD, cR]
theorem goodIdx_pure : PureOk Try.prog 62 (argM (cSl (rI .i64)) fun l => argM (cFn 52 rNil) fun cp => finM (if l.length ≤ 4294967296 then some (.v (.int .i64 (idxP ((· != 0)) l))) else none)) := by
  refine pure2 Try.func62 rfl ?_
  rintro l cp r hr
  by_cases hc : l.length ≤ 4294967296
  case neg => rw [if_neg hc] at hr; cases hr
  rw [if_pos hc] at hr
  simp only [Option.some.injEq] at hr
  subst hr
  refine body_gen (noOrc_ok.withP good1_pure) fxMix (by kernel_rfl) (by simp [Try.ntmps62]) ?_
  intro C cP cI cN cD cF cA cR cL
  have cp0 := orcP good1_pure (C := C) (by rw [cP]; rfl)
  replace cI : C.inl = fun _ => false := cI
  replace cR : C.rd = fun _ => none := cR
  replace cD : C.dyn = fun _ => [] := cD
  clear cP cN cF cA
  simp [Try.ntmps62, Try.results62, cSl, cp0, cI, cD, cR, rI, irow]
  refine loop_for l.length (fun k (_ : Unit) => ([(0, .fsl false 1 (l.map (irow .i64))), (1, .fn 52 []), (7, .v (.int .i64 l.length)), (8, .v (.int .i64 k))], [])) (fun k _ => ((l.drop k).findIdx? ((· != 0))).map (· + k) = l.findIdx? ((· != 0))) () hc (by simp) (by simp [rI, irow]) ?_ ?_
  · intro k _ hk hall hw
    by_cases q : ((· != 0)) l[k] = true
    · rw [find_drop hk, if_pos q] at hall
      try simp at q
      simp [Try.ntmps62, Try.results62, cSl, cp0, cI, cD, cR, hk, hw, rI, irow, q, idxP, ← hall]
    · rw [find_drop hk, if_neg q] at hall
      try simp at q
      simp [Try.ntmps62, Try.results62, cSl, cp0, cI, cD, cR, hk, hw, rI, irow, q]
      simpa using hall
  · intro _ hall
    simp at hall
    simp [Try.ntmps62, Try.results62, cSl, cp0, cI, cD, cR, idxP, ← hall]
theorem goodAny_pure : PureOk Try.prog 51 (argM (cSl (rI .i64)) fun l => argM (cFn 52 rNil) fun cp => finM (if l.length ≤ 4294967296 then some (.v (.bool (l.any ((· != 0))))) else none)) := by
  refine pure2 Try.func51 rfl ?_
  rintro l cp r hr
  by_cases hc : l.length ≤ 4294967296
  case neg => rw [if_neg hc] at hr; cases hr
  rw [if_pos hc] at hr
  simp only [Option.some.injEq] at hr
  subst hr
  refine body_gen (noOrc_ok.withP goodIdx_pure) fxMix (by kernel_rfl) (by simp [Try.ntmps51]) ?_
  intro C cP cI cN cD cF cA cR cL
  have cp0 := orcP goodIdx_pure (C := C) (by rw [cP]; rfl)
  replace cI : C.inl = fun _ => false := cI
  replace cR : C.rd = fun _ => none := cR
  replace cD : C.dyn = fun _ => [] := cD
  clear cP cN cF cA
  simp [Try.ntmps51, Try.results51, cSl, cp0, cI, cD, cR, hc, idxP_iff, rI] <;> (rw [Bool.eq_iff_iff]; simp)
theorem good_pure : PureOk Try.prog 28 (argM (cSl (rI .i64)) fun l => finM (if l.length ≤ 4294967296 then some (.v (.bool (l.all (· == 0)))) else none)) := by
  refine pure1 Try.func28 rfl ?_
  rintro l r hr
  by_cases hc : l.length ≤ 4294967296
  case neg => rw [if_neg hc] at hr; cases hr
  rw [if_pos hc] at hr
  simp only [Option.some.injEq] at hr
  subst hr
  refine body_gen (noOrc_ok.withP goodAny_pure) fxMix (by kernel_rfl) (by simp [Try.ntmps28]) ?_
  intro C cP cI cN cD cF cA cR cL
  have cp0 := orcP goodAny_pure (C := C) (by rw [cP]; rfl)
  replace cI : C.inl = fun _ => false := cI
  replace cR : C.rd = fun _ => none := cR
  replace cD : C.dyn = fun _ => [] := cD
  clear cP cN cF cA
  simp [Try.ntmps28, Try.results28, cSl, cp0, cI, cD, cR, rI, hc] <;> (rw [Bool.eq_iff_iff]; simp)
end
section
abbrev byR (l : List Int) : List Row := l.map (irow .u8)
/-- one's own list of one's own lists: where they lie -/
structure PlAt (H : Heap) (P : Nat) (rows : List Row) (f : Nat → Nat) (L : List (List Int)) : Prop where
  hP : obj H P = some (1, rows)
  hl : rows.length = L.length
  hr : ∀ i (hi : i < L.length), rows[i]? = some [oA (f i) 1 L[i].length]
  ho : ∀ i (hi : i < L.length), L[i] ≠ [] → obj H (f i) = some (1, byR L[i])
  hd : ∀ i j (hi : i < L.length) (hj : j < L.length), i ≠ j → L[i] ≠ [] → L[j] ≠ [] → f i ≠ f j
  hx : ∀ i (hi : i < L.length), L[i] ≠ [] → f i ≠ P
theorem obj_lt {H : Heap} {id : Nat} {o : Nat × List Row} (h : obj H id = some o) : id < H.length := (List.getElem?_eq_some_iff.1 (obj_live h).1).1
theorem obj_set_ne {H : Heap} {i j : Nat} {x : Option (Nat × List Row)} (h : i ≠ j) : obj (H.set i x) j = obj H j := by
  unfold obj; rw [List.getElem?_set_ne h]
theorem obj_set_self {H : Heap} {i : Nat} {o : Nat × List Row} (h : i < H.length) (h0 : o.1 ≠ 0) : obj (H.set i (some o)) i = some o := by
  unfold obj; rw [List.getElem?_set_self h]; simp [h0]
theorem obj_at {H K : Heap} {i : Nat} {o : Nat × List Row} (e : i = H.length) (h0 : o.1 ≠ 0) : obj (H ++ some o :: K) i = some o := by
  subst e
  unfold obj; rw [List.getElem?_append_right (Nat.le_refl _)]; simp [h0]
theorem obj_n {X K : Heap} {n m : Nat} (h : X.length = n) : obj (X ++ K) (n + m) = obj K m := by
  unfold obj; rw [List.getElem?_append_right (by omega)]; congr 2; omega
theorem obj_s2 {H K : Heap} {a b j : Nat} {x y : Option (Nat × List Row)} (hj : j < H.length) (h1 : j ≠ a) (h2 : j ≠ b) : obj ((H.set a x).set b y ++ K) j = obj H j := by
  rw [obj_app (by simpa using hj), obj_set_ne (fun e => h2 e.symm), obj_set_ne (fun e => h1 e.symm)]
theorem obj_s2b {H K : Heap} {a b : Nat} {x : Option (Nat × List Row)} {sz : Nat} {R : List Row} (hb : b < H.length) (h0 : sz ≠ 0) : obj ((H.set a x).set b (some (sz, R)) ++ K) b = some (sz, R) := by
  rw [obj_app (by simpa using hb), obj_set_self (by simpa using hb) h0]
theorem obj_s2a {H K : Heap} {a b : Nat} {y : Option (Nat × List Row)} {sz : Nat} {R : List Row} (ha : a < H.length) (hab : b ≠ a) (h0 : sz ≠ 0) : obj ((H.set a (some (sz, R))).set b y ++ K) a = some (sz, R) := by
  rw [obj_app (by simpa using ha), obj_set_ne hab, obj_set_self ha h0]
namespace PlAt
variable {H H' : Heap} {P P' : Nat} {rows : List Row} {f : Nat → Nat} {L : List (List Int)}
/-- a list put behind the others -/
theorem app (h : PlAt H P rows f L) {l : List Int} {q : Nat} (hP' : obj H' P' = some (1, rows ++ [[oA q 1 l.length]])) (hs : ∀ i (hi : i < L.length), L[i] ≠ [] → obj H' (f i) = obj H (f i))
    (hq : l ≠ [] → obj H' q = some (1, byR l) ∧ H.length ≤ q ∧ q ≠ P') (hPP : P' = P ∨ H.length ≤ P') : PlAt H' P' (rows ++ [[oA q 1 l.length]]) (fun i => if i < L.length then f i else q) (L ++ [l]) := by
  have hlt : ∀ i (hi : i < L.length), L[i] ≠ [] → f i < H.length := fun i hi hn => obj_lt (h.ho i hi hn)
  refine ⟨hP', by simp [h.hl], fun i hi => ?_, fun i hi hn => ?_, fun i j hi hj hij h1 h2 => ?_, fun i hi hn => ?_⟩
  · rw [List.length_append, List.length_singleton] at hi
    by_cases e : i < L.length
    · rw [List.getElem?_append_left (by rw [h.hl]; exact e), h.hr i e]
      simp [e, List.getElem_append_left e]
    · have e2 : i = L.length := by omega
      subst e2
      rw [List.getElem?_append_right (by rw [h.hl]; omega), h.hl]
      simp
  · rw [List.length_append, List.length_singleton] at hi
    by_cases e : i < L.length
    · simp only [e, if_true]
      rw [List.getElem_append_left e] at hn ⊢
      rw [hs i e hn]; exact h.ho i e hn
    · have e2 : i = L.length := by omega
      subst e2
      simp only [Nat.lt_irrefl, if_false]
      simp only [List.getElem_concat_length] at hn ⊢
      exact (hq hn).1
  · rw [List.length_append, List.length_singleton] at hi hj
    try simp only
    by_cases e : i < L.length
    · rw [List.getElem_append_left e] at h1
      by_cases e2 : j < L.length
      · rw [List.getElem_append_left e2] at h2
        rw [if_pos e, if_pos e2]
        exact h.hd i j e e2 hij h1 h2
      · have e3 : j = L.length := by omega
        subst e3
        simp only [List.getElem_concat_length] at h2
        rw [if_pos e, if_neg e2]
        have := hlt i e h1
        have := (hq h2).2.1
        omega
    · have e3 : i = L.length := by omega
      subst e3
      have e2 : j < L.length := by omega
      simp only [List.getElem_concat_length] at h1
      rw [List.getElem_append_left e2] at h2
      rw [if_neg e, if_pos e2]
      have := hlt j e2 h2
      have := (hq h1).2.1
      omega
  · rw [List.length_append, List.length_singleton] at hi
    try simp only
    by_cases e : i < L.length
    · rw [List.getElem_append_left e] at hn
      rw [if_pos e]
      rcases hPP with rfl | hPP
      · exact h.hx i e hn
      · have := hlt i e hn; omega
    · have e3 : i = L.length := by omega
      subst e3
      simp only [List.getElem_concat_length] at hn
      rw [if_neg e]
      exact (hq hn).2.2
/-- a list put in another's place -/
theorem upd (h : PlAt H P rows f L) {l : List Int} {n q : Nat} (hn : n < L.length) (hP' : obj H' P = some (1, rows.set n [oA q 1 l.length])) (hs : ∀ i (hi : i < L.length), i ≠ n → L[i] ≠ [] → obj H' (f i) = obj H (f i))
    (hq : l ≠ [] → obj H' q = some (1, byR l) ∧ (H.length ≤ q ∨ (q = f n ∧ L[n] ≠ [])) ∧ q ≠ P) : PlAt H' P (rows.set n [oA q 1 l.length]) (fun i => if i = n then q else f i) (L.set n l) := by
  have hlt : ∀ i (hi : i < L.length), L[i] ≠ [] → f i < H.length := fun i hi hn => obj_lt (h.ho i hi hn)
  have hqn : l ≠ [] → ∀ i (hi : i < L.length), i ≠ n → L[i] ≠ [] → q ≠ f i := by
    intro hl i hi hin hLi
    rcases (hq hl).2.1 with h1 | ⟨rfl, h1⟩
    · have := hlt i hi hLi; omega
    · exact h.hd n i hn hi (fun e => hin e.symm) h1 hLi
  refine ⟨hP', by simp [h.hl], fun i hi => ?_, fun i hi hni => ?_, fun i j hi hj hij h1 h2 => ?_, fun i hi hni => ?_⟩
  · have hi' : i < L.length := by rw [List.length_set] at hi; exact hi
    by_cases e : i = n
    · subst e
      rw [List.getElem?_set_self (by rw [h.hl]; exact hi')]
      simp
    · rw [List.getElem?_set_ne (fun q => e q.symm), h.hr i hi', if_neg e]
      rw [List.getElem_set_ne (fun q => e q.symm)]
  · have hi' : i < L.length := by rw [List.length_set] at hi; exact hi
    try simp only
    by_cases e : i = n
    · subst e
      rw [if_pos rfl]
      simp only [List.getElem_set_self] at hni ⊢
      exact (hq hni).1
    · rw [if_neg e]
      rw [List.getElem_set_ne (fun q => e q.symm)] at hni ⊢
      rw [hs i hi' e hni]; exact h.ho i hi' hni
  · have hi' : i < L.length := by rw [List.length_set] at hi; exact hi
    have hj' : j < L.length := by rw [List.length_set] at hj; exact hj
    try simp only
    by_cases e : i = n
    · subst e
      have e2 : j ≠ i := fun q => hij q.symm
      rw [if_pos rfl, if_neg e2]
      simp only [List.getElem_set_self] at h1
      rw [List.getElem_set_ne (fun q => e2 q.symm)] at h2
      exact hqn h1 j hj' e2 h2
    · rw [if_neg e]
      rw [List.getElem_set_ne (fun q => e q.symm)] at h1
      by_cases e2 : j = n
      · subst e2
        rw [if_pos rfl]
        simp only [List.getElem_set_self] at h2
        exact fun q => hqn h2 i hi' e h1 q.symm
      · rw [if_neg e2]
        rw [List.getElem_set_ne (fun q => e2 q.symm)] at h2
        exact h.hd i j hi' hj' hij h1 h2
  · have hi' : i < L.length := by rw [List.length_set] at hi; exact hi
    try simp only
    by_cases e : i = n
    · subst e
      rw [if_pos rfl]
      simp only [List.getElem_set_self] at hni
      exact (hq hni).2.2
    · rw [if_neg e]
      rw [List.getElem_set_ne (fun q => e q.symm)] at hni
      exact h.hx i hi' hni
/-- a list taken out -/
theorem del (h : PlAt H P rows f L) {n : Nat} (hn : n < L.length) (hP' : obj H' P = some (1, rows.eraseIdx n)) (hs : ∀ i (hi : i < L.length), L[i] ≠ [] → obj H' (f i) = obj H (f i)) :
    PlAt H' P (rows.eraseIdx n) (fun i => if i < n then f i else f (i + 1)) (L.eraseIdx n) := by
  have hle : (L.eraseIdx n).length = L.length - 1 := by rw [List.length_eraseIdx, if_pos hn]
  have hge : ∀ i (hi : i < (L.eraseIdx n).length), ∃ (j : Nat) (hj : j < L.length), (L.eraseIdx n)[i] = L[j] ∧ (if i < n then f i else f (i + 1)) = f j ∧ (rows.eraseIdx n)[i]? = rows[j]? ∧ j = if i < n then i else i + 1 := by
    intro i hi
    rw [hle] at hi
    by_cases e : i < n
    · exact ⟨i, by omega, by rw [List.getElem_eraseIdx]; simp [e], by simp [e], by rw [List.getElem?_eraseIdx]; simp [e], by simp [e]⟩
    · exact ⟨i + 1, by omega, by rw [List.getElem_eraseIdx]; simp [e], by simp [e], by rw [List.getElem?_eraseIdx]; simp [e], by simp [e]⟩
  refine ⟨hP', by rw [List.length_eraseIdx, hle, h.hl, if_pos hn], fun i hi => ?_, fun i hi hni => ?_, fun i j hi hj hij h1 h2 => ?_, fun i hi hni => ?_⟩
  · obtain ⟨j, hj, e1, e2, e3, _⟩ := hge i hi
    rw [e3, h.hr j hj]
    simp only [e1, e2]
  · obtain ⟨j, hj, e1, e2, e3, _⟩ := hge i hi
    simp only [e2, e1] at hni ⊢
    rw [hs j hj hni]; exact h.ho j hj hni
  · obtain ⟨a, ha, e1, e2, e3, e4⟩ := hge i hi
    obtain ⟨b, hb, d1, d2, d3, d4⟩ := hge j hj
    simp only [e2, d2, e1, d1] at h1 h2 ⊢
    exact h.hd a b ha hb (by rw [e4, d4]; split <;> split <;> omega) h1 h2
  · obtain ⟨j, hj, e1, e2, e3, _⟩ := hge i hi
    simp only [e2, e1] at hni ⊢
    exact h.hx j hj hni
/-- what a call is told -/
theorem dec (h : PlAt H P rows f L) {m kc : Nat} (hm : m = L.length) : (cSl rBs).dec (cold (view H 4 (.osl P 1 0 m kc))) = some L :=
  dec_rows (d := 2) (cr := rI .u8) hm h.hP h.hl fun i hi => ⟨_, h.hr i hi, dec_oA (H := H) (d := 2) (id := f i) (cr := rI .u8) (l := L[i]) (h.ho i hi) (fun e => irow_view H 2 e) irow_cold⟩
end PlAt
theorem PlAt.keep {H : Heap} {P : Nat} {rows : List Row} {f : Nat → Nat} {L : List (List Int)} (h : PlAt H P rows f L) (K : Heap) : PlAt (H ++ K) P rows f L :=
  ⟨by rw [obj_app (obj_lt h.hP)]; exact h.hP, h.hl, h.hr, fun i hi hn => by rw [obj_app (obj_lt (h.ho i hi hn))]; exact h.ho i hi hn, h.hd, h.hx⟩
theorem Lss.nil_esl : Lss (.v (.slice none 0 0)) .esl := fun _ h => by rw [h.v_inv]; exact .esl
end
section
attribute [local simp] pgRow_len pg16 pg17 pg18 pg16' pg17' pg18' ww16 ww17 ww18 keyI_ok aLookup aMapUpdate aDelete lkRes bin_mn spV enV Try.underlying75 Try.underlying77
attribute [local simp] rBs_sz bspR_cold bspR_dec bspR_mapM bspR_mapMc bspR_view bspR_viewc bspR_hotR bspR_ren bspR_renc bspR_low bspR_get bspR_len
/-- what may be read of a page -/
def seen (A : Ab) (s k : Int) : List Int := if okV A s 1 k = true then ((vw A s k).map (·.1)).getD [] else []
def seenL (A : Ab) (s : Int) (n : Nat) : List (List Int) := (List.range n).map fun k => seen A s (k : Nat)
theorem seenL_next (A : Ab) (s : Int) (n : Nat) : seenL A s (n + 1) = seenL A s n ++ [seen A s (n : Nat)] := by
  unfold seenL
  rw [List.range_succ, List.map_append]; rfl
theorem seenL_len (A : Ab) (s : Int) (n : Nat) : (seenL A s n).length = n := by simp [seenL]
def esK (A : Ab) (s : Int) : En := match getK s A.sps with
  | none => []
  | some x => x.2
def whG (A : Ab) (s : Int) (k : Nat) : Nat := match getK s A.sps with
  | none => 0
  | some x => (mayR x.2 1 ((k : Int) * 16) 16).2
def whO (A : Ab) (s : Int) (k : Nat) : Bool := match getK s A.sps with
  | none => false
  | some x => (mayR x.2 1 ((k : Int) * 16) 16).1
/-- the memory behind so many pages that were looked at -/
def whL (A : Ab) (s : Int) : Nat → Lo
  | 0 => A.lo
  | k + 1 => if whO A s k = true then fetchL (esK A s) (whL A s k) ((k : Int) * 16) 16 else whL A s k
def whN (A : Ab) (s : Int) : Nat → Nat
  | 0 => 0
  | k + 1 => whN A s k + (if k = 0 then 0 else 1) + whG A s k + (if whO A s k = true then 31 + 1 else 0) + 1
theorem Like.whl (A : Ab) (s : Int) : ∀ k, Like A.lo (whL A s k)
  | 0 => Like.refl _
  | k + 1 => by
    have h := Like.whl A s k
    unfold whL
    split
    · exact h.trans (Like.fetch _ _ _ _)
    · exact h
theorem okV_like {A : Ab} {L' : Lo} (a : Like A.lo L') (s want k : Int) : okV { A with lo := L' } s want k = okV A s want k := by
  unfold okV
  rw [vw_like a]
theorem seen_eq {A A' : Ab} {s s' k : Int} (h : vw A' s' k = vw A s k) : seen A' s' k = seen A s k := by
  unfold seen okV
  rw [h]
theorem seenL_eq {A A' : Ab} {s s' : Int} (h : ∀ k, vw A' s' k = vw A s k) (n : Nat) : seenL A' s' n = seenL A s n := by
  unfold seenL
  apply List.map_congr_left
  intro k _
  exact seen_eq (h _)
theorem seenL_like {A : Ab} {L' : Lo} (a : Like A.lo L') (s : Int) (n : Nat) : seenL { A with lo := L' } s n = seenL A s n := seenL_eq (fun k => vw_like a s k) n
theorem seen_len {H : Heap} {mid : Nat} {A : Ab} (h : RG mid (H, A)) (s k : Int) : (seen A s k).length ≤ 16 := by
  unfold seen
  split
  · cases hv : vw A s k with
    | none => simp
    | some x =>
      have := vw_len (d := x.1) (rg := x.2) h.1 hv
      simp [this]
  · simp
theorem seenL_le {H : Heap} {mid : Nat} {A : Ab} (h : RG mid (H, A)) (s : Int) (n : Nat) : ∀ x ∈ seenL A s n, x.length ≤ 4294967296 := by
  intro x hx
  obtain ⟨k, _, rfl⟩ := List.mem_map.1 hx
  have := seen_len h s (k : Nat)
  omega
theorem yRow_irow (d : List Int) : yRow d = d.map (irow .u8) := rfl
/-- one page looked at -/
theorem page_ev {H : Heap} {mid : Nat} {A : Ab} (h : RG mid (H, A)) {s : Int} {k : Nat} (hk : k < 64) :
    (whO A s k = false ∧ whL A s (k + 1) = whL A s k ∧ seen A s k = [] ∧ ∃ e : Int, e ≠ 0 ∧ ∀ K, readM [.ptr mid 5 0 0, .v (.int .i64 s), .v (.int .i64 ((k : Int) * 16)), .v (.int .i64 16)] (wr H mid (whL A s k) ++ K) = some (.v (.tuple #[.slice none 0 0, .int .i64 e]), wr H mid (whL A s k) ++ (K ++ List.replicate (whG A s k) none))) ∨
    (whO A s k = true ∧ (seen A s k).length = 16 ∧ ∀ K, readM [.ptr mid 5 0 0, .v (.int .i64 s), .v (.int .i64 ((k : Int) * 16)), .v (.int .i64 16)] (wr H mid (whL A s k) ++ K) = some (.tup [.osl (H.length + (K.length + (whG A s k + 31))) 1 0 16 16, .v (.int .i64 0)], wr H mid (whL A s (k + 1)) ++ (K ++ (List.replicate (whG A s k + 31) none ++ [some (1, (seen A s k).map (irow .u8))])))) := by
  have lk := Like.whl A s k
  have lk' := Like.whl A s (k + 1)
  have r1 : ∀ K, RG mid (wr H mid (whL A s k) ++ K, { A with lo := whL A s k }) := fun K => rg_app ⟨h.1.like lk, h.2.like h.1.st.wf lk⟩
  have hw : IntKind.i64.wrap ((k : Int) * 16) = (k : Int) * 16 := w64 (by omega) (by omega)
  have hBl : (wr H mid (whL A s k)).length = H.length := wr_len
  have hev : ∀ K, readM [.ptr mid 5 0 0, .v (.int .i64 s), .v (.int .i64 ((k : Int) * 16)), .v (.int .i64 16)] (wr H mid (whL A s k) ++ K) = some (readR (wr H mid (whL A s k) ++ K) mid { A with lo := whL A s k } s ((k : Int) * 16) 16) := fun K => by
    simp only [readM, rg_at (r1 K), Option.bind_some]
    rw [if_pos hw]
  simp only [hev]
  unfold readR
  cases hg : getK s A.sps with
  | none =>
    left
    refine ⟨by simp [whO, hg], by simp [whL, whO, hg], ?_, 4, by decide, fun K => by simp [whG, hg]⟩
    unfold seen okV
    rw [vw_no hg]; rfl
  | some x =>
    obtain ⟨m, es⟩ := x
    simp only [hg]
    have h16 : ¬ ((16 : Int) < 0 ∨ (256 : Int) < 16) := by omega
    simp only [if_neg h16]
    have hO : whO A s k = (mayR es 1 ((k : Int) * 16) 16).1 := by simp only [whO, hg]
    have hG : whG A s k = (mayR es 1 ((k : Int) * 16) 16).2 := by simp only [whG, hg]
    have hE : esK A s = es := by simp only [esK, hg]
    have hm := may_iff h.2 (want := 1) (addr := (k : Int) * 16) hg 16
    have hdiv : ∀ i : Nat, i < 16 → ((k : Int) * 16 + (i : Int)) / 16 = k := fun i hi => by omega
    rw [hO, hG]
    by_cases hmay : (mayR es 1 ((k : Int) * 16) 16).1 = true
    · right
      have hmay' : (mayR es 1 ((k : Int) * 16) ((16 : Nat) : Int)).1 = true := hmay
      have hok := hm.1 hmay' 0 (by omega)
      rw [hdiv 0 (by omega)] at hok
      have hwl : whL A s (k + 1) = fetchL es (whL A s k) ((k : Int) * 16) 16 := by
        show (if whO A s k = true then _ else _) = _
        rw [hO, if_pos hmay, hE]
      have hs : seen A s k = fetchB es (whL A s k) ((k : Int) * 16) 16 := by
        have h1 : fetchB es (whL A s k) ((k : Int) * 16) 16 = btL { A with lo := whL A s k } s ((k : Int) * 16) 16 := fetchB_bt (r1 []).2 (A := { A with lo := whL A s k }) hg
        rw [h1]
        unfold seen
        rw [if_pos hok]
        unfold okV at hok
        cases hv : vw A s k with
        | none => rw [hv] at hok; cases hok
        | some y =>
          obtain ⟨d, rg⟩ := y
          have hv2 : vw { A with lo := whL A s k } s k = some (d, rg) := by rw [vw_like lk]; exact hv
          rw [Int.mul_comm, btL_page hv2 (vw_len h.1 hv)]
          rfl
      have hlen : (seen A s k).length = 16 := by rw [hs]; exact fetchB_len _ _ _ _
      refine ⟨hmay, hlen, fun K => ?_⟩
      rw [if_pos hmay, hwl, hs]
      have lf := Like.fetch es (whL A s k) ((k : Int) * 16) 16
      have e1 : ∀ K, wr (wr H mid (whL A s k) ++ K) mid (fetchL es (whL A s k) ((k : Int) * 16) 16) = wr H mid (fetchL es (whL A s k) ((k : Int) * 16) 16) ++ K := fun K => by
        rw [wr_app (by rw [hBl, ← hwl]; exact lk'.lt h.1.st), wr_wr lf]
      have e2 : Int.toNat 16 = 15 + 1 := rfl
      have e3 : Int.toNat 16 = 16 := rfl
      have e4 : (whL A s k) = ({ A with lo := whL A s k } : Ab).lo := rfl
      simp only [e3]
      rw [List.append_assoc, e1]
      generalize (mayR es 1 ((k : Int) * 16) 16).2 = g at *
      generalize fetchB es (whL A s k) ((k : Int) * 16) 16 = d at *
      simp only [outV, outK, tupA, yRow_irow, show (16 : Nat) = 15 + 1 from rfl]
      have e5 : List.replicate (g + 31) (none : Option (Nat × List Row)) = List.replicate g none ++ List.replicate 31 none := List.replicate_append_replicate.symm
      rw [e5]
      simp [hBl]
      omega
    · left
      have hnok : okV A s 1 k = false := by
        cases ho : okV A s 1 k with
        | false => rfl
        | true => exact absurd (hm.2 fun i hi => by rw [hdiv i hi]; exact ho) hmay
      refine ⟨by simpa using hmay, ?_, by unfold seen; rw [hnok]; rfl, 11, by decide, fun K => ?_⟩
      · show (if whO A s k = true then _ else _) = _
        rw [hO, if_neg hmay]
      · rw [if_neg hmay, List.append_assoc]
theorem wh_fail {n0 a : Nat} {ρ : Env} {B : Heap} {rows : List Row} : Ent n0 (ρ, B ++ (List.replicate (a + 1) none ++ [some (1, rows ++ [[.fsl true 1 []]])])) (ρ, B ++ (List.replicate a none ++ [some (1, [[.v (.slice none 0 0)]]), some (1, rows ++ [[.v (.slice none 0 0)]])])) := by
  have k := Ent.killAt (n0 := n0) (ρ := ρ) (H := B) (K := List.replicate a none) (M := [some (1, rows ++ [[.v (.slice none 0 0)]])]) (o := some (1, [[AVal.v (.slice none 0 0)]]))
  have c := Ent.cell (n0 := n0) (ρ := ρ) (H := B ++ (List.replicate a none ++ none :: [some (1, rows ++ [[.v (.slice none 0 0)]])])) (M := B.length + (a + 1)) (i := rows.length) (j := 0) (szM := 1) (R := rows ++ [[.v (.slice none 0 0)]]) (row := [.v (.slice none 0 0)]) (a := .v (.slice none 0 0)) (r := .fsl true 1 [])
    (by unfold obj; rw [List.getElem?_append_right (by omega), List.getElem?_append_right (by simp)]; simp) (by simp) rfl .nil
  refine Ent.trans (Eq.mp ?_ c) k
  congr 2
  rw [List.set_append_right _ _ (by omega), List.set_append_right _ _ (by simp)]
  simp [List.replicate_succ']
theorem wh_ok {n0 a : Nat} {ρ : Env} {B : Heap} {rows : List Row} {d : List Int} (hd : d.length = 16) : Ent n0 (ρ, B ++ (List.replicate (a + 2) none ++ [some (1, rows ++ [[.fsl true 1 (d.map (irow .u8))]])]))
    (ρ, B ++ (List.replicate a none ++ [some (1, d.map (irow .u8)), some (1, [[.osl (B.length + a) 1 0 16 16]]), some (1, rows ++ [[.osl (B.length + a) 1 0 16 16]])])) := by
  have k := Ent.killAt (n0 := n0) (ρ := ρ) (H := B) (K := List.replicate a none ++ [some (1, d.map (irow .u8))]) (M := [some (1, rows ++ [[.osl (B.length + a) 1 0 16 16]])]) (o := some (1, [[AVal.osl (B.length + a) 1 0 16 16]]))
  have c := Ent.frz (n0 := n0) (ρ := ρ) (H := B ++ (List.replicate a none ++ [some (1, d.map (irow .u8))] ++ none :: [some (1, rows ++ [[.osl (B.length + a) 1 0 16 16]])])) (n := B.length + a) (M := B.length + (a + 2)) (i := rows.length) (j := 0) (sz := 1) (kc := 16) (len := 16) (szM := 1) (rows := d.map (irow .u8)) (R := rows ++ [[.osl (B.length + a) 1 0 16 16]]) (r := [.osl (B.length + a) 1 0 16 16])
    (by unfold obj; rw [List.getElem?_append_right (by omega)]; simp) (by simp [hd]) (fun r hr => by obtain ⟨z, _, rfl⟩ := List.mem_map.1 hr; rfl) (by unfold obj; rw [List.getElem?_append_right (by omega), List.getElem?_append_right (by simp)]; simp) (by omega) (by simp) rfl
  refine Ent.trans (s' := (ρ, B ++ (List.replicate a none ++ [some (1, d.map (irow .u8))] ++ none :: [some (1, rows ++ [[.osl (B.length + a) 1 0 16 16]])]))) (Eq.mp ?_ c) (Eq.mp ?_ k)
  · congr 2
    rw [List.set_append_right _ _ (by omega), List.set_append_right _ _ (by simp)]
    simp [List.replicate_succ', List.set_append]
  · congr 2
    simp
theorem rep_none (a b : Nat) : List.replicate (a + b) (none : Option (Nat × List Row)) = List.replicate a none ++ List.replicate b none := List.replicate_append_replicate.symm
theorem wh_failF {n0 n1 a : Nat} {ρ' ρ : Env} {B X : Heap} {rows : List Row} (h : n1 = a + 1) (hX : X = B ++ (List.replicate a none ++ [some (1, [[.v (.slice none 0 0)]]), some (1, rows ++ [[.v (.slice none 0 0)]])])) (hl : ∀ p ∈ ρ', AI.look ρ p.1 = p.2) :
    Ent n0 (ρ', B ++ (List.replicate n1 none ++ [some (1, rows ++ [[.fsl true 1 (([] : List Int).map (irow .u8))]])])) (ρ, X) := by
  subst h hX
  exact (Ent.env hl).trans wh_fail
theorem wh_okF {n0 n1 a b : Nat} {ρ' ρ : Env} {B X : Heap} {rows : List Row} {d : List Int} (hd : d.length = 16) (h : n1 = a + 2) (hb : B.length = b) (hX : X = B ++ (List.replicate a none ++ [some (1, d.map (irow .u8)), some (1, [[.osl (b + a) 1 0 16 16]]), some (1, rows ++ [[.osl (b + a) 1 0 16 16]])])) (hl : ∀ p ∈ ρ', AI.look ρ p.1 = p.2) :
    Ent n0 (ρ', B ++ (List.replicate n1 none ++ [some (1, rows ++ [[.fsl true 1 (d.map (irow .u8))]])])) (ρ, X) := by
  subst h hb hX
  exact (Ent.env hl).trans (wh_ok hd)
/-- a list of one's own, frozen in the slot that holds it -/
theorem Ent.frzE {n0 t n sz kc len : Nat} {ρ : Env} {H : Heap} {rows : List Row} (hob : obj H n = some (sz, rows)) (hlen : len = rows.length) (hflat : ∀ r ∈ rows, r.all (lowA 0) = true) (ht : AI.look ρ t = .osl n sz 0 len kc) :
    Ent n0 ((t, .fsl true sz rows) :: ρ, H.set n none) (ρ, H) := by
  intro f base w0 β fz a w hn0 hs
  have hl : Live H n := ⟨_, obj_some hob⟩
  obtain ⟨s1, e1⟩ := hs.heap.freeze hl
  refine ⟨β, fun b => fz b ∨ b = β n, ⟨s1, hs.defers, hs.size, ?_, fun u => ?_⟩⟩
  · have := hs.ext.trans e1
    simpa using this
  · simp only [AI.look]
    split
    · rename_i e
      have h1 := hs.env t
      rw [ht] at h1
      rw [e]
      exact hs.heap.froze hob hlen hflat (fun b hb => .inl hb) (.inr rfl) h1
    · have := (hs.env u).ext e1
      simpa using this
theorem wh_end {n0 t a n : Nat} {B : Heap} {rows : List Row} (hn : rows.length = n) (hl : ∀ r ∈ rows, r.all (lowA 0) = true) : Ent n0 ([(t, .fsl true 1 rows)], B ++ List.replicate (a + 1) none) ([(t, .osl (B.length + a) 1 0 n n)], B ++ (List.replicate a none ++ [some (1, rows)])) := by
  have h := Ent.frzE (n0 := n0) (t := t) (ρ := [(t, .osl (B.length + a) 1 0 n n)]) (H := B ++ (List.replicate a none ++ [some (1, rows)])) (n := B.length + a) (sz := 1) (kc := n) (len := n) (rows := rows)
    (by unfold obj; rw [List.getElem?_append_right (by omega)]; simp) hn.symm hl (by simp [AI.look])
  refine Ent.trans (s' := ([(t, .fsl true 1 rows), (t, .osl (B.length + a) 1 0 n n)], B ++ List.replicate (a + 1) none)) ?_ (Eq.mp ?_ h)
  · exact Ent.env (by simp [AI.look])
  · congr 2
    rw [List.set_append_right _ _ (by omega)]
    simp [List.replicate_succ', List.set_append]
def outW (n : Nat) : Nat → AVal
  | 0 => .v (.slice none 0 0)
  | k + 1 => .osl n 1 0 (k + 1) (k + 1)
def objW (rows : List Row) : Nat → Heap
  | 0 => []
  | _ + 1 => [some (1, rows)]
noncomputable def wholeM : Row → Heap → Option (AVal × Heap)
  | [.ptr mid 5 0 0, .v (.int .i64 s)], H => (repAt H mid).map fun A => (.fsl true 1 ((seenL A s 64).map (bspR true)), wr H mid (whL A s 64) ++ List.replicate (whN A s 64 + 1) none)
  | _, _ => none
theorem whole_inl : InlOk Try.prog 31 wholeM := by
  refine inl_canonE Try.func31 rfl fun args H r H' hr => ⟨args, canon_refl args, ?_⟩
  unfold wholeM at hr
  split at hr
  case h_2 => cases hr
  rename_i mid s
  simp only [Option.bind_eq_some_iff, Option.map_eq_some_iff] at hr
  obtain ⟨A, hA, hr⟩ := hr
  simp only [Prod.mk.injEq] at hr
  obtain ⟨rfl, rfl⟩ := hr
  have hrg : RG mid (H, A) := repAt_iff.1 hA
  refine bodyE_of (noOrc_ok.withI read_inl) fxMix (by kernel_rfl) (by simp [Try.ntmps31]) ?_
  intro C cP cI cN cD cF cA cR cL
  have cn0 := orcI read_inl (C := C) (by rw [cN]; rfl)
  replace cI := fun g => congrFun cI g
  simp only [Orc.withP, Orc.withI, Orc.withF, Orc.withD, Orc.withA, Orc.withR, Orc.withC, noOrc] at cI
  replace cR : C.rd = fun _ => none := cR
  replace cD : C.dyn = fun _ => [] := cD
  clear cP cN cF cA
  simp [Try.ntmps31, Try.results31, cSl, cn0, cI, cD, cR]
  refine loop_forE 64 (fun k (_ : Unit) => ([(0, .ptr mid 5 0 0), (1, .v (.int .i64 s)), (5, outW (H.length + whN A s k) k), (9, .v (.int .i64 k))], wr H mid (whL A s k) ++ (List.replicate (whN A s k) none ++ objW ((seenL A s k).map (bspR true)) k))) (fun k _ => True) () (fun k _ hk _ => by omega) trivial ?_ ?_ ?_
  · have hs := hrg.1.st.wr_self
    simp only [whL, whN, outW, objW, List.replicate_zero, List.append_nil, hs]
    exact Ent.env (by simp)
  · rintro k _ hk _ hw
    have hw16 : IntKind.i64.wrap ((k : Int) * 16) = (k : Int) * 16 := w64 (by omega) (by omega)
    have hk64 : (k : Int) < 64 := by omega
    have hBl : (wr H mid (whL A s k)).length = H.length := wr_len
    have hBl' : (wr H mid (whL A s (k + 1))).length = H.length := wr_len
    have hsn := seenL_next A s k
    have hsl := seenL_len A s k
    have hN : whN A s (k + 1) = whN A s k + (if k = 0 then 0 else 1) + whG A s k + (if whO A s k = true then 31 + 1 else 0) + 1 := rfl
    have hp := page_ev hrg (s := s) hk
    have hlow : ∀ r ∈ (seenL A s k).map (bspR true), r.all (lowA 0) = true := fun r hr => by obtain ⟨z, _, rfl⟩ := List.mem_map.1 hr; exact bspR_low 0 z
    have hRl : ((seenL A s k).map (bspR true)).length = k := by simp [hsl]
    have hsm : (seenL A s (k + 1)).map (bspR true) = (seenL A s k).map (bspR true) ++ [[.fsl true 1 ((seen A s k).map (irow .u8))]] := by
      rw [hsn, List.map_append, List.map_cons, List.map_nil]; rfl
    clear hsn hlow
    obtain ⟨B, hB⟩ : ∃ x, wr H mid (whL A s k) = x := ⟨_, rfl⟩
    obtain ⟨B', hB'⟩ : ∃ x, wr H mid (whL A s (k + 1)) = x := ⟨_, rfl⟩
    obtain ⟨a, ha⟩ : ∃ x, whN A s k = x := ⟨_, rfl⟩
    obtain ⟨R, hR⟩ : ∃ x, (seenL A s k).map (bspR true) = x := ⟨_, rfl⟩
    rw [hR] at hsm hRl
    rw [ha] at hN
    rw [hB] at hBl hp
    rw [hB'] at hBl' hp
    simp only [hR, ha, hB]
    rcases hp with ⟨hO, h1, h2, e, he, h3⟩ | ⟨hO, h2, h3⟩
    · rw [hO] at hN
      simp only [Bool.false_eq_true, if_false] at hN
      have hBB : B' = B := by rw [← hB, ← hB', h1]
      rw [h2] at hsm
      subst hBB
      have h3' := h3 (List.replicate a none ++ objW R k)
      cases k with
      | zero =>
        simp only [objW, outW, List.append_nil, Int.natCast_zero, Int.ofNat_zero, Int.zero_mul] at h3' hw16 ⊢
        simp [Try.ntmps31, Try.results31, cSl, cn0, cI, cD, cR, h3', he, hBl, hw16]
        refine ⟨(), trivial, ?_⟩
        have hR0 : R = [] := List.length_eq_zero_iff.1 hRl
        subst hR0
        simp only [hB', hN, hsm, objW, outW]
        refine wh_failF (a := a + whG A s 0) (by simp) ?_ ?_
        · simp
        · simp
      | succ i =>
        simp only [objW, outW, Int.natCast_add, Int.natCast_one] at h3' hw16 hk64 ⊢
        have hni : ¬ i + 1 + 1 ≤ i + 1 := by omega
        have hni2 : i + 1 + 1 ≤ 4294967296 := by omega
        simp [Try.ntmps31, Try.results31, cSl, cn0, cI, cD, cR, h3', he, hBl, hw16, hk64, hni, hni2, hRl, List.getElem?_append, List.set_append]
        refine ⟨(), trivial, ?_⟩
        simp only [hB', hN, hsm, objW, outW]
        have hwi : IntKind.i64.wrap ((i : Int) + 1 + 1) = (i : Int) + 1 + 1 := w64 (by omega) (by omega)
        refine wh_failF (a := a + 1 + whG A s (i + 1)) (by simp) ?_ ?_
        · rw [rep_none (a + 1) (whG A s (i + 1)), rep_none a 1]; simp
        · simp [hwi]; omega
    · rw [hO] at hN
      simp only [if_true] at hN
      have h3' := h3 (List.replicate a none ++ objW R k)
      generalize seen A s k = d at *
      cases k with
      | zero =>
        simp only [objW, outW, List.append_nil, Int.natCast_zero, Int.ofNat_zero, Int.zero_mul] at h3' hw16 ⊢
        simp [Try.ntmps31, Try.results31, cSl, cn0, cI, cD, cR, h3', hBl, hBl', hw16]
        refine ⟨(), trivial, ?_⟩
        have hR0 : R = [] := List.length_eq_zero_iff.1 hRl
        subst hR0
        simp only [hB', hN, hsm, objW, outW]
        refine wh_okF (a := a + (whG A s 0 + 31)) h2 (by simp; omega) hBl' ?_ ?_
        · rw [rep_none a (whG A s 0 + 31), List.append_assoc (List.replicate a none)]; simp
        · simp; omega
      | succ i =>
        simp only [objW, outW, Int.natCast_add, Int.natCast_one] at h3' hw16 hk64 ⊢
        have hni : ¬ i + 1 + 1 ≤ i + 1 := by omega
        have hni2 : i + 1 + 1 ≤ 4294967296 := by omega
        simp [Try.ntmps31, Try.results31, cSl, cn0, cI, cD, cR, h3', hBl, hBl', hw16, hk64, hni, hni2, hRl, List.getElem?_append, List.set_append]
        refine ⟨(), trivial, ?_⟩
        simp only [hB', hN, hsm, objW, outW]
        have hwi : IntKind.i64.wrap ((i : Int) + 1 + 1) = (i : Int) + 1 + 1 := w64 (by omega) (by omega)
        refine wh_okF (a := a + 1 + (whG A s (i + 1) + 31)) h2 (by simp; omega) hBl' ?_ ?_
        · rw [rep_none (a + 1) (whG A s (i + 1) + 31), rep_none a 1]; simp
        · simp [hwi]; omega
  · rintro _ _
    have hlow : ∀ r ∈ (seenL A s 64).map (bspR true), r.all (lowA 0) = true := fun r hr => by obtain ⟨z, _, rfl⟩ := List.mem_map.1 hr; exact bspR_low 0 z
    have hRl : ((seenL A s 64).map (bspR true)).length = 64 := by simp [seenL_len]
    have hBl : (wr H mid (whL A s 64)).length = H.length := wr_len
    have he := wh_end (n0 := H.length) (t := 0) (a := whN A s 64) (B := wr H mid (whL A s 64)) hRl hlow
    rw [hBl] at he
    simp [Try.ntmps31, Try.results31, cSl, cn0, cI, cD, cR, outW, objW]
    exact he
end
section
attribute [local simp] pgRow_len pg16 pg17 pg18 pg16' pg17' pg18' ww16 ww17 ww18 keyI_ok aLookup aMapUpdate aDelete lkRes bin_mn spV enV Try.underlying75 Try.underlying77
theorem begun_ev {f s : Int} {l : List Dd} (hg : goodL l) : begM [.v (.int .i64 f), .v (.int .i64 s), .fsl false 6 (l.map Dd.row)] [] = some (.v (.pointer none), []) ∨
    ∃ G A, begM [.v (.int .i64 f), .v (.int .i64 s), .fsl false 6 (l.map Dd.row)] [] = some (.ptr 1 5 0 0, G) ∧ RG 1 (G, A) ∧ A.lo.fr = f ∧ A.lo.sl = s := by
  rw [begM_at hg]
  unfold begR
  by_cases hb : newB f s
  · rw [if_pos hb]; exact .inl rfl
  · rw [if_neg hb]
    obtain ⟨A, h1, h2, h3⟩ := begX_rg hg (new_rep (H := []) hb) l.length (Nat.le_refl _)
    exact .inr ⟨_, A, rfl, h1, h2, h3⟩
theorem bt_vw {A : Ab} {s k i : Int} {d : List Int} {rg : Int} (h : vw A s k = some (d, rg)) (hi : 0 ≤ i ∧ i < 16) : bt A s (16 * k + i) = (d[i.toNat]?).getD 0 := by
  unfold bt
  rw [show (16 * k + i) / 16 = k by omega, show ((16 * k + i) % 16).toNat = i.toNat by omega, h]
theorem bin_pM {x y : Operand} {id i off : Nat} : aBin Try.prog .eql 23 x y (.ptr id 5 i off) (.v (.pointer none)) = some (.v (.bool false)) := by
  unfold aBin
  simp [Try.underlying23]
theorem bin_pMM {k : Nat} : aBin Try.prog .eql 23 (.tmp k) (.const (.pointer none)) (.v (.pointer none)) (.v (.pointer none)) = some (.v (.bool true)) := by
  rfl
instance goodDec (l : List Dd) : Decidable (goodL l) := by unfold goodL; infer_instance
theorem rDd_sz : rDd.sz = 6 := rfl
theorem rDd_enc : rDd.enc = Dd.row := rfl
attribute [local simp] bin_pM bin_pMM
theorem free_ev2 {H : Heap} {mid : Nat} {A : Ab} (h : RG mid (H, A)) : ∃ a b : Int, freeM [.ptr mid 5 0 0] H = some (.v (.tuple #[.int .i64 a, .int .i64 b])) ∧ a + b = A.lo.fr + A.lo.sl - A.lo.pgs.length ∧ a = A.lo.fr - A.lo.hr ∧ -2000 ≤ a ∧ a ≤ 2000 ∧ -2000 ≤ b ∧ b ≤ 2000 := by
  have h1 := h.1.st.wf.le
  have h2 := hr_le A.lo
  simp only at h1
  exact ⟨_, _, free_ev h, by omega, rfl, by omega, by omega, by omega, by omega⟩
theorem whole_ev {H : Heap} {mid : Nat} {A : Ab} (h : RG mid (H, A)) (s : Int) : ∃ G L', wholeM [.ptr mid 5 0 0, .v (.int .i64 s)] H = some (.fsl true 1 ((seenL A s 64).map (bspR true)), G) ∧ Like A.lo L' ∧ RG mid (G, { A with lo := L' }) := by
  have lk := Like.whl A s 64
  refine ⟨wr H mid (whL A s 64) ++ List.replicate (whN A s 64 + 1) none, whL A s 64, ?_, lk, rg_app ⟨h.1.like lk, h.2.like h.1.st.wf lk⟩⟩
  simp only [wholeM, rg_at h, Option.map_some]
theorem spaces_pure : PureOk Try.prog 16 ( finM (some (.v (.bool true)))) := by
  refine pure0 Try.func16 rfl ?_
  rintro  r hr
  simp only [Option.some.injEq] at hr
  subst hr
  refine body_gen (((((noOrc_ok.withP good_pure).withI new_inl).withI make_inl).withI put_inl).withI load_inl) fxMix (by kernel_rfl) (by simp [Try.ntmps16]) ?_
  intro C cP cI cN cD cF cA cR cL
  have cp0 := orcP good_pure (C := C) (by rw [cP]; rfl)
  have cn0 := orcI new_inl (C := C) (by rw [cN]; rfl)
  have cn1 := orcI make_inl (C := C) (by rw [cN]; rfl)
  have cn2 := orcI put_inl (C := C) (by rw [cN]; rfl)
  have cn3 := orcI load_inl (C := C) (by rw [cN]; rfl)
  replace cI := fun g => congrFun cI g
  simp only [Orc.withP, Orc.withI, Orc.withF, Orc.withD, Orc.withA, Orc.withR, Orc.withC, noOrc] at cI
  replace cR : C.rd = fun _ => none := cR
  replace cD : C.dyn = fun _ => [] := cD
  clear cP cN cF cA
  have hnb : ¬ newB 4 0 := by decide
  have hnew : newM [.v (.int .i64 4), .v (.int .i64 0)] [] = some (.tup [.ptr 1 5 0 0, .v (.int .i64 0)], ([] ++ [some (0, []), some (5, [(newL ([] : Heap).length 4 0).row])] : Heap)) := rfl
  have r0 : RG 1 (([] ++ [some (0, []), some (5, [(newL ([] : Heap).length 4 0).row])] : Heap), (⟨newL ([] : Heap).length 4 0, []⟩ : Ab)) := new_rep (H := []) hnb
  generalize ([] ++ [some (0, []), some (5, [(newL ([] : Heap).length 4 0).row])] : Heap) = G0 at *
  obtain ⟨s, e, G1, A1, hmk, r1, hlo, hc⟩ := make_ev r0
  rcases hc with ⟨rfl, hfr, _, hh, hv, _, _⟩ | ⟨_, _, _, hfr⟩
  case inr => cases hfr
  have hs : s = 1 := by cases hfr; rfl
  subst hs
  have r2 := rg_app (K := [some (1, [[.v (.int .u8 9)]])]) r1
  obtain ⟨e2, G2, A2, hput, r3, _, hc2⟩ := put_ev r2 (s := 1) (at_ := 2) (rights := 1) (d := [9])
  have hput' : putM [.ptr 1 5 0 0, .v (.int .i64 1), .v (.int .i64 2), .v (.int .i64 1), .osl G1.length 1 0 1 1] (G1 ++ [some (1, [[.v (.int .u8 9)]])]) = some (.v (.int .i64 e2), G2) := by
    have hb : bytesAt (G1 ++ [some (1, [[.v (.int .u8 9)]])]) (.osl G1.length 1 0 1 1) = some [9] := by
      simp only [bytesAt]
      rw [List.getElem?_append_right (Nat.le_refl _), Nat.sub_self]; rfl
    have hrp : repAt (G1 ++ [some (1, [[.v (.int .u8 9)]])]) 1 = some A1 := rg_at r2
    simp only [putM, hb, Option.map_some, hrp, Option.bind_some, hput]
  rcases hc2 with ⟨rfl, _, _, _, hv2⟩ | ⟨_, _, hc2⟩
  case inr =>
    exfalso
    rcases hc2 with h | h | h | h | h
    · exact h hh
    · exact absurd h (by decide)
    · simp at h
    · exact h (hv 2)
    · rw [hlo] at h
      exact absurd h (by decide)
  have hv3 := hv2 2
  rw [if_pos rfl] at hv3
  obtain ⟨b, e3, G3, L3, hld, _, r4, hc3, _⟩ := load_ev r3 (s := 1) (addr := 32) (want := 1) (by omega)
  have hok : okV A2 1 1 (32 / 16) = true := by unfold okV; rw [show (32 : Int) / 16 = 2 from rfl, hv3]; rfl
  have hbt : bt A2 1 32 = 9 := (bt_vw (k := 2) (i := 0) hv3 (by omega)).trans rfl
  have hh2 : has A2 1 := by unfold has; unfold vw at hv3; cases hg : getK (1 : Int) A2.sps with
    | none => rw [hg] at hv3; cases hv3
    | some x => rfl
  rcases hc3 with ⟨h, _⟩ | ⟨_, h, _⟩ | ⟨_, _, ⟨_, rfl, rfl⟩ | ⟨h, _⟩⟩
  · exact absurd hh2 h
  · omega
  · rw [hbt] at hld
    have hid : irowDec .i64 [.v (.int .i64 0)] = some 0 := rfl
    simp [Try.ntmps16, Try.results16, cSl, cp0, cn0, cn1, cn2, cn3, cI, cD, cR, hnew, tupA, hmk, hput', hld, List.getElem?_append, rI, hid]
  · rw [hok] at h; cases h
end
end
section
theorem Keep.app {mid : Nat} {H K : Heap} {A : Ab} : Keep mid (H, A) (H ++ K, A) := fun i rows h1 h2 =>
  ⟨h1, by simp only at h2 ⊢; rw [List.getElem?_append_left (List.getElem?_eq_some_iff.1 h2).1, h2]⟩
theorem Keep.like {mid : Nat} {H : Heap} {A : Ab} {L' : Lo} (a : Like A.lo L') : Keep mid (H, A) (wr H mid L', { A with lo := L' }) := fun i rows h1 h2 =>
  ⟨a.none h1, by simp only at h2 ⊢; rw [wr_ne (a.none h1), h2]⟩
theorem rg_uniq {mid : Nat} {H : Heap} {A B : Ab} (h : RG mid (H, A)) (h' : RG mid (H, B)) : A = B := by
  have := (rg_at h).symm.trans (rg_at h')
  exact Option.some.inj this
theorem unX_keep {mid : Nat} {s k : Int} {X : Heap × Ab} (h : RG mid X) : Keep mid X (unX mid s k X) := by
  obtain ⟨r, g⟩ := h
  unfold unX
  cases hg : getK s X.2.sps with
  | none => exact Keep.refl _ _
  | some x =>
    obtain ⟨m, es⟩ := x
    simp only
    cases hk : getK k es with
    | none => exact Keep.app
    | some y =>
      obtain ⟨p, rg⟩ := y
      simp only
      obtain ⟨q, hq⟩ := g.page hg hk
      rw [hq]
      simp only
      intro i rows hc hi
      have hil := (List.getElem?_eq_some_iff.1 hi).1
      have him : m ≠ i := by
        rintro rfl
        have := r.en _ (getK_mem hg)
        simp only at this
        rw [hi] at this; cases this
      have hip : i ≠ p := by
        rintro rfl
        rw [(r.st.pg hq).1] at hi; cases hi
      refine ⟨Less.letP i hc, ?_⟩
      simp only
      rw [List.getElem?_set_ne him, wr_ne (Less.letP i hc), letB_get (by simp; omega) hip, List.getElem?_append_left hil, hi]
theorem unmapX_keep {mid : Nat} {s first : Int} {X : Heap × Ab} (h : RG mid X) : ∀ n, Keep mid X (unmapX mid s first X n)
  | 0 => Keep.refl _ _
  | n + 1 => (unmapX_keep h n).trans (unX_keep (unmapX_rg h n))
theorem unmap_keep {H H' : Heap} {mid : Nat} {A A' : Ab} (h : RG mid (H, A)) {s first n : Int} {r : AVal} (hr : unmapM [.ptr mid 5 0 0, .v (.int .i64 s), .v (.int .i64 first), .v (.int .i64 n)] H = some (r, H')) (h' : RG mid (H', A')) : Keep mid (H, A) (H', A') := by
  simp only [unmapM, rg_at h, Option.map_some, Option.some.injEq, unmapR, Prod.mk.injEq] at hr
  obtain ⟨_, rfl⟩ := hr
  split at h'
  · rw [rg_uniq h' h]
    rename_i hs
    rw [if_pos hs]
    exact Keep.refl _ _
  · rename_i hs
    rw [if_neg hs]
    rw [rg_uniq h' (unmapX_rg h n.toNat)]
    exact unmapX_keep h n.toNat
theorem load_keep {H H' : Heap} {mid : Nat} {A A' : Ab} (h : RG mid (H, A)) {s addr want : Int} {r : AVal} (hr : loadM [.ptr mid 5 0 0, .v (.int .i64 s), .v (.int .u32 addr), .v (.int .i64 want)] H = some (r, H')) (h' : RG mid (H', A')) : Keep mid (H, A) (H', A') := by
  simp only [loadM, rg_at h, Option.bind_some] at hr
  split at hr
  case isFalse => cases hr
  simp only [Option.some.injEq] at hr
  unfold loadR at hr
  split at hr
  · cases hr
    rw [rg_uniq h' h]
    exact Keep.refl _ _
  · split at hr
    · cases hr
      rw [rg_uniq h' h]
      exact Keep.refl _ _
    · rename_i x _ _
      split at hr
      · simp only [Prod.mk.injEq] at hr
        obtain ⟨_, rfl⟩ := hr
        have hk := (Keep.app (mid := mid) (H := H) (A := A) (K := List.replicate (mayR x.2 want addr 1).2 none)).trans ((Keep.like (Like.fetch x.2 A.lo addr 1)).trans (Keep.app (K := outK [byteK x.2 A.lo addr] 1)))
        rw [rg_uniq h' (fetch_rg (rg_app h) x.2 addr _)]
        exact hk
      · simp only [Prod.mk.injEq] at hr
        obtain ⟨_, rfl⟩ := hr
        rw [rg_uniq h' (rg_app h)]
        exact Keep.app
theorem write_keep {H H' : Heap} {mid : Nat} {A A' : Ab} (h : RG mid (H, A)) {s addr : Int} {d : List Int} {r : AVal} (hw : IntKind.i64.wrap addr = addr) (hr : writeR H mid A s addr d = (r, H')) (h' : RG mid (H', A')) : Keep mid (H, A) (H', A') := by
  unfold writeR at hr
  cases hg : getK s A.sps with
  | none =>
    rw [hg] at hr
    cases hr
    rw [rg_uniq h' h]
    exact Keep.refl _ _
  | some x =>
    obtain ⟨m, es⟩ := x
    rw [hg] at hr
    simp only at hr
    split at hr
    · cases hr
      rw [rg_uniq h' h]
      exact Keep.refl _ _
    · rename_i hlen
      split at hr
      · rename_i hmay
        have hsp := may_span (es := es) (n := (d.length : Int)) (by omega) hw hmay
        have hr1 : RG mid (H ++ List.replicate (mayR es 2 addr d.length).2 none, A) := rg_app h
        have hk1 : Keep mid (H, A) (H ++ List.replicate (mayR es 2 addr d.length).2 none, A) := Keep.app
        refine hk1.trans ?_
        generalize H ++ List.replicate (mayR es 2 addr d.length).2 none = G at *
        unfold layR at hr
        rw [hg] at hr
        simp only at hr
        split at hr
        · rename_i hroom
          simp only [Prod.mk.injEq] at hr
          obtain ⟨_, rfl⟩ := hr
          by_cases h0 : d.length = 0
          · rw [h0] at h' ⊢
            rw [rg_uniq h' hr1]
            exact Keep.refl _ _
          · have hk3 : 0 ≤ addr := by
              rcases hsp with ⟨h1, _⟩ | ⟨_, _, k3, _⟩ <;> omega
            have hI := lay_inv0 hr1 hg hsp hroom h0
            have iR := layN_inv (d := d) hI hk3 d.length (Nat.le_refl _)
            rw [rg_uniq h' iR.rg]
            exact iR.kp
        · simp only [Prod.mk.injEq] at hr
          obtain ⟨_, rfl⟩ := hr
          rw [rg_uniq h' hr1]
          exact Keep.refl _ _
      · simp only [Prod.mk.injEq] at hr
        obtain ⟨_, rfl⟩ := hr
        rw [rg_uniq h' (rg_app h)]
        exact Keep.app
theorem putS_keep {mid mp : Nat} {k rg : Int} {d : List Int} {x : Ms} {i : Nat} {rows : List Row} (hf : ∀ p ∈ x.L.pgs.map (·.1), p < x.H.length) (him : mp ≠ i) (h1 : x.L.cell mid i = none) (h2 : x.H[i]? = some (some (1, rows))) :
    (putS mid mp k d rg x).L.cell mid i = none ∧ (putS mid mp k d rg x).H[i]? = some (some (1, rows)) := by
  have hil := (List.getElem?_eq_some_iff.1 h2).1
  have hc := addL_cell (d := d) hf hil h1
  refine ⟨hc, ?_⟩
  simp only [putS]
  rw [List.getElem?_set_ne him, wr_ne hc, addH_get hil h1, h2]
theorem map_keep {H H' : Heap} {mid : Nat} {A A' : Ab} (h : RG mid (H, A)) {s first n rights : Int} {r : AVal} (hr : mapM [.ptr mid 5 0 0, .v (.int .i64 s), .v (.int .i64 first), .v (.int .i64 n), .v (.int .i64 rights)] H = some (r, H')) (h' : RG mid (H', A')) : Keep mid (H, A) (H', A') := by
  simp only [mapM, rg_at h, Option.map_some, Option.some.injEq] at hr
  unfold mapR at hr
  split at hr
  · cases hr
    rw [rg_uniq h' h]
    exact Keep.refl _ _
  rename_i hsp
  cases hg : getK s A.sps with
  | none => unfold spanE at hsp; rw [hg] at hsp; simp at hsp
  | some x =>
    obtain ⟨m, es⟩ := x
    rw [hg] at hr
    simp only at hr
    split at hr
    · simp only [Prod.mk.injEq] at hr
      obtain ⟨_, rfl⟩ := hr
      rw [rg_uniq h' (rg_app h)]
      exact Keep.app
    · rename_i hhit
      split at hr
      case isFalse =>
        simp only [Prod.mk.injEq] at hr
        obtain ⟨_, rfl⟩ := hr
        rw [rg_uniq h' (rg_app h)]
        exact Keep.app
      rename_i hroom
      have hb : ¬ spanBad first n rights := fun hb => by
        unfold spanE at hsp
        rw [hg] at hsp
        simp only at hsp
        rw [if_pos hb] at hsp
        simp at hsp
      unfold spanBad at hb
      obtain ⟨N, rfl⟩ := Int.eq_ofNat_of_zero_le (show 0 ≤ n by omega)
      simp only [Int.toNat_natCast] at hr hhit
      have hno : ∀ i : Nat, i < N → getK (first + (i : Nat)) es = none := fun i hi => by
        cases e : getK (first + (i : Nat)) es with
        | none => rfl
        | some y =>
          exfalso
          apply hhit
          unfold hitB
          rw [List.any_eq_true]
          exact ⟨i, List.mem_range.2 hi, by rw [e]; rfl⟩
      have hst : stS m s A ⟨H ++ List.replicate N none, A.lo, es⟩ = A := by
        unfold stS
        rw [setK_self h.1.nds hg]
      have hx : RG mid ((⟨H ++ List.replicate N none, A.lo, es⟩ : Ms).H, stS m s A ⟨H ++ List.replicate N none, A.lo, es⟩) := by
        rw [hst]; exact rg_app h
      have hsx : ∀ j, j ≤ N → RG mid ((mapS mid m first rights ⟨H ++ List.replicate N none, A.lo, es⟩ j).H, stS m s A (mapS mid m first rights ⟨H ++ List.replicate N none, A.lo, es⟩ j)) := fun j hj =>
        (mapS_spec (rg := rights) (first := first) hx ⟨_, hg⟩ (by omega) (by omega) j (by omega) (by simp only; omega) (fun i hi => hno i (by omega))).1
      simp only [Prod.mk.injEq] at hr
      obtain ⟨_, rfl⟩ := hr
      rw [rg_uniq h' (hsx N (Nat.le_refl _))]
      intro i rows hc hi
      simp only at hc hi
      have him : m ≠ i := by
        rintro rfl
        have := h.1.en _ (getK_mem hg)
        simp only at this
        rw [hi] at this; cases this
      have key : ∀ j, j ≤ N → (mapS mid m first rights ⟨H ++ List.replicate N none, A.lo, es⟩ j).L.cell mid i = none ∧ (mapS mid m first rights ⟨H ++ List.replicate N none, A.lo, es⟩ j).H[i]? = some (some (1, rows)) := by
        intro j
        induction j with
        | zero => exact fun _ => ⟨hc, by simp only [mapS]; rw [List.getElem?_append_left (List.getElem?_eq_some_iff.1 hi).1, hi]⟩
        | succ j ih =>
          intro hj
          obtain ⟨k1, k2⟩ := ih (by omega)
          have hrg := hsx j (by omega)
          exact putS_keep (fun p => hrg.1.st.id_lt) him k1 k2
      exact key N (Nat.le_refl _)
end
section
set_option maxHeartbeats 2000000
set_option maxRecDepth 100000
set_option linter.unusedSimpArgs false
set_option linter.unusedVariables false
attribute [local simp] wpA wpX RunA RunD runF foot footP footB idsA bare apart runL step1 gsel_f gsel_t gsel_s res_same res_and1 res_and2 res_and3 res_and4 res_and5 res_and6 res_false res_true res_v res_ptr res_fptr res_osl res_xsl soft aAppendZ aCap ovlI ovlJ res_fsl res_esl res_agg res_tup res_fn res_junk res_anyb aPick hk imp_left iteV dstOk guardOk astep astepE AI.ev AI.look AI.put envOf aBox cellsOf allOne allOneA oneA Value.oneCell' Value.cells newObj' aFieldAddr aLoad obj readAt thenA blockA condA retA resA tupA view hot hotC hotR depthV cAgg cInt cBool mkAgg allV aAlloc aBuild fillA writeAt aStore isAggA aField idx aIndexAddr aIndex bnd aSlice aExtract aLen aBuiltin aCall isStatic eqAgg eqTy eqC ev_add ev_sub ev_mul ev_quo ev_rem ev_and ev_or ev_xor ev_andNot ev_shl ev_shr ev_eql ev_neq ev_lss ev_leq ev_gtr ev_geq ev_agg w64 wu32 wu8 ev_not ev_neg Cod.plain RCod.plain argM finM cold coldC coldR goInt intDec boolDec aggDec Weaker heapW lowA lowC Again slDec undef aBuildSlice setRows aAppend rowsOf aMakeSlice aClear aCopy softer_self softer_nil valsOf ev_min2 ev_max2 hotR_set hotR_append take_map_set irow_cold irow_mapM irow_mapMc irow_view irow_viewc irow_hotR irow_ren irow_renc irow_low WeakT heapT thOf ren renC AgainT NextF NextT fnDec cFn rNil selfLt natLt0 natLt1 getLastMap frame0 frame1 own0 own1 argG finG tau tauI tauO tauC bareA bareC bareH irow_tau irow_tauc irow_bare irow_flat irow_bareR ownA_nil ownT_nil ownA_c ownT_c ownA_s ownT_s takeMapLen footC plainA noId noIdC cloneF frame0F frame1F insertF replaceI replaceF cellDec rCell fpDec cFp rTwo deleteF allV_oA oneA_oA res_oA RunR RunE runFT footAt hotR_cat tmodN aEqH aSliceA frameN newA newC newH fxSz3 fxBy3 fxAg3 fxZe3 fxSz4 fxAg4 fxSz5 fxBy5 fxAg5 fxZe5 fxSl22 fxAr22 fxSz26 fxAg26 fxZe26 fxSz28 fxBy28 fxAg28 fxZe28 fxSl28 fxAr28 fxSl51 fxAr51 fxSl58 fxAr58 fxSz69 fxAg69 fxZe69 fxFi69x0 fxFi69x1 fxFi69x2 fxFi69x3 fxFi69x4 fxFi69x5 fxSz71 fxBy71 fxAg71 fxZe71 fxSz73 fxAg73 fxZe73 fxFi73x0 fxFi73x1 fxPl73 fxZe75 fxSz76 fxAg76 fxSl76 fxAr76 fxAg77 fxZe79 fxFi79x0 fxFi79x1 fxFi79x2 fxFi79x3 fxFi79x4 fxPl79 fxSz82 fxAg82 fxZe82 fxSl82 fxAr82 fxPl82 fxSl87 fxAr87 fxSz91 fxZe91 fxFi91x0 fxFi91x1 fxFi91x2 fxFi91x3 fxPl91 fxCv3x36 fxCv36x3 fxEb4 fxNb4 fxLn28 fxNe28 fxOe28 fxXe28 fxLn58 fxNe58 fxOe58 fxXe58 fxLn76 fxFm15 fxFm16 fxFi16 fxFm17 fxFm18 fxFm19 fxFi19 fxFm20 fxFi20 fxFm21 fxFm22 fxFm23 fxFm24 fxFm25 fxFi25 fxFm26 fxFm27 fxFm28 fxFi28 fxFm29 fxFi29 fxFm30 fxFm31 fxFm32 fxFm33 fxFi33 fxFm34 fxFm35 fxFm36 fxFm37 fxFm38 fxFi38 fxFm39 fxFm40 fxFm41 fxFi41 fxFm42 fxFm43 fxFm44 fxFi44 fxFm45 fxFi45 fxFm46 fxFm47 fxFm48 fxFm49 fxFi49 fxFm50 fxFi50 fxFm51 fxFi51 fxFm52 fxFi52 fxFm53 fxFm54 fxFi54 fxFm55 fxFi55 fxFm56 fxFm57 fxFi57 fxFm58 fxFi58 fxFm61 fxFm62 fxFi62 fxFm63 fxFi63 fxFm64 fxFm65 fxFi65 fxFm77 fxFi77
section
attribute [local simp] pgRow_len pg16 pg17 pg18 pg16' pg17' pg18' ww16 ww17 ww18 keyI_ok aLookup aMapUpdate aDelete lkRes bin_mn spV enV Try.underlying75 Try.underlying77
def whK (A : Ab) (s : Int) : Nat → Heap
  | 0 => []
  | k + 1 => (whK A s k ++ ((if k = 0 then [] else [none]) ++ (List.replicate (whG A s k) none ++ (if whO A s k = true then List.replicate 31 none ++ [some (1, (seen A s k).map (irow .u8))] else [])))) ++ [none]
def whP (A : Ab) (s : Int) (b k : Nat) : Nat := b + ((whK A s k).length + ((if k = 0 then 0 else 1) + (whG A s k + 31)))
def whR (A : Ab) (s : Int) (b : Nat) (n : Nat) : List Row := (List.range n).map fun k => [oA (whP A s b k) 1 (seen A s (k : Nat)).length]
theorem whR_next (A : Ab) (s : Int) (b n : Nat) : whR A s b (n + 1) = whR A s b n ++ [[oA (whP A s b n) 1 (seen A s (n : Nat)).length]] := by
  unfold whR
  rw [List.range_succ, List.map_append]; rfl
theorem whR_len (A : Ab) (s : Int) (b n : Nat) : (whR A s b n).length = n := by simp [whR]
theorem whK_pre (A : Ab) (s : Int) : ∀ {k i : Nat}, i ≤ k → ∃ T, whK A s k = whK A s i ++ T
  | 0, i, h => ⟨[], by have : i = 0 := by omega
                       subst this; simp⟩
  | k + 1, i, h => by
    by_cases e : i = k + 1
    · subst e; exact ⟨[], by simp⟩
    · obtain ⟨T, hT⟩ := whK_pre A s (show i ≤ k by omega)
      refine ⟨T ++ ((if k = 0 then [] else [none]) ++ (List.replicate (whG A s k) none ++ (if whO A s k = true then List.replicate 31 none ++ [some (1, (seen A s k).map (irow .u8))] else []))) ++ [none], ?_⟩
      rw [whK, hT]
      simp only [List.append_assoc]
theorem whK_at (A : Ab) (s : Int) {k : Nat} (h : whO A s k = true) : (whK A s (k + 1))[(whK A s k).length + ((if k = 0 then 0 else 1) + (whG A s k + 31))]? = some (some (1, (seen A s k).map (irow .u8))) ∧ (whK A s k).length + ((if k = 0 then 0 else 1) + (whG A s k + 31)) < (whK A s (k + 1)).length := by
  rw [whK]
  simp only [h, if_true]
  have hl : ((if k = 0 then ([] : Heap) else [none])).length = if k = 0 then 0 else 1 := by split <;> rfl
  constructor
  · rw [List.append_assoc, List.getElem?_append_right (by omega), Nat.add_sub_cancel_left, List.append_assoc, List.getElem?_append_right (by omega), hl, Nat.add_sub_cancel_left, List.append_assoc, List.getElem?_append_right (by simp)]
    simp
  · simp [hl]
theorem seen_O {H : Heap} {mid : Nat} {A : Ab} (h : RG mid (H, A)) {s : Int} {k : Nat} (hk : k < 64) (hs : seen A s k ≠ []) : whO A s k = true ∧ (seen A s k).length = 16 := by
  rcases page_ev h (s := s) hk with ⟨_, _, h2, _⟩ | ⟨h1, h2, _⟩
  · exact absurd h2 hs
  · exact ⟨h1, h2⟩
theorem wo_pl {H B : Heap} {mid : Nat} {A : Ab} (h : RG mid (H, A)) (s : Int) {n : Nat} (hn : n ≤ 64) : PlAt (B ++ (whK A s n ++ [some (1, whR A s B.length n)])) (B.length + (whK A s n).length) (whR A s B.length n) (whP A s B.length) (seenL A s n) := by
  have hget : ∀ i (hi : i < (seenL A s n).length), (seenL A s n)[i] = seen A s (i : Nat) := fun i hi => by simp [seenL]
  have hll := seenL_len A s n
  have hat : ∀ i, i < n → seen A s (i : Nat) ≠ [] → (whK A s n)[(whK A s i).length + ((if i = 0 then 0 else 1) + (whG A s i + 31))]? = some (some (1, (seen A s i).map (irow .u8))) ∧ (whK A s i).length + ((if i = 0 then 0 else 1) + (whG A s i + 31)) < (whK A s (i + 1)).length := fun i hi hs => by
    obtain ⟨hO, _⟩ := seen_O h (by omega) hs
    obtain ⟨h1, h2⟩ := whK_at A s hO
    obtain ⟨T, hT⟩ := whK_pre A s (show i + 1 ≤ n by omega)
    refine ⟨?_, h2⟩
    rw [hT, List.getElem?_append_left h2, h1]
  have hle : ∀ {i j : Nat}, i ≤ j → (whK A s i).length ≤ (whK A s j).length := fun {i j} hij => by
    obtain ⟨T, hT⟩ := whK_pre A s hij
    rw [hT]; simp
  refine ⟨?_, by rw [whR_len, hll], fun i hi => ?_, fun i hi hne => ?_, fun i j hi hj hij h1 h2 => ?_, fun i hi hne => ?_⟩
  · unfold obj
    rw [List.getElem?_append_right (by omega), Nat.add_sub_cancel_left, List.getElem?_append_right (Nat.le_refl _), Nat.sub_self]; rfl
  · rw [hget i hi]
    rw [hll] at hi
    simp [whR, hi]
  · rw [hget i hi] at hne ⊢
    rw [hll] at hi
    obtain ⟨k1, k2⟩ := hat i hi hne
    have := hle (show i + 1 ≤ n by omega)
    unfold obj whP
    rw [List.getElem?_append_right (by omega), Nat.add_sub_cancel_left, List.getElem?_append_left (by omega), k1]; rfl
  · rw [hget i hi] at h1
    rw [hget j hj] at h2
    rw [hll] at hi hj
    obtain ⟨_, k1⟩ := hat i hi h1
    obtain ⟨_, k2⟩ := hat j hj h2
    unfold whP
    rcases Nat.lt_or_gt_of_ne hij with hlt | hlt
    · have := hle (show i + 1 ≤ j by omega); omega
    · have := hle (show j + 1 ≤ i by omega); omega
  · rw [hget i hi] at hne
    rw [hll] at hi
    obtain ⟨_, k1⟩ := hat i hi hne
    have := hle (show i + 1 ≤ n by omega)
    unfold whP
    omega
noncomputable def wholeOM : Row → Heap → Option (AVal × Heap)
  | [.ptr mid 5 0 0, .v (.int .i64 s)], H => (repAt H mid).map fun A => (.osl (H.length + (whK A s 64).length) 1 0 64 64, wr H mid (whL A s 64) ++ (whK A s 64 ++ [some (1, whR A s H.length 64)]))
  | _, _ => none
theorem wo_fail {n0 : Nat} {ρ' ρ : Env} {B J X : Heap} {rows : List Row} (hX : X = B ++ (J ++ [some (1, [[.v (.slice none 0 0)]]), some (1, rows ++ [[.v (.slice none 0 0)]])])) (hl : ∀ p ∈ ρ', AI.look ρ p.1 = p.2) : Ent n0 (ρ', B ++ ((J ++ [none]) ++ [some (1, rows ++ [[.esl]])])) (ρ, X) := by
  subst hX
  have k := Ent.killAt (n0 := n0) (ρ := ρ) (H := B) (K := J) (M := [some (1, rows ++ [[.v (.slice none 0 0)]])]) (o := some (1, [[AVal.v (.slice none 0 0)]]))
  have c := Ent.rowL (n0 := n0) (ρ := ρ) (H := B ++ (J ++ none :: [some (1, rows ++ [[.v (.slice none 0 0)]])])) (M := B.length + (J.length + 1)) (i := rows.length) (szM := 1) (R := rows ++ [[.v (.slice none 0 0)]]) (row := [.v (.slice none 0 0)]) (row' := [.esl])
    (by unfold obj; rw [List.getElem?_append_right (by omega), List.getElem?_append_right (by omega)]; simp) (by simp) rfl (fun j a r ha hr => by
      match j, ha, hr with
      | 0, ha, hr => simp at ha hr; subst ha hr; exact @Lss.nil_esl
      | j + 1, ha, hr => simp at ha)
  refine (Ent.env hl).trans (Ent.trans (s' := (ρ, B ++ (J ++ none :: [some (1, rows ++ [[.v (.slice none 0 0)]])]))) (Eq.mp ?_ c) k)
  congr 2
  rw [List.set_append_right _ _ (by omega), List.set_append_right _ _ (by omega)]
  simp
theorem wo_ok {n0 : Nat} {ρ' ρ : Env} {B J X : Heap} {t : Option (Nat × List Row)} {rows : List Row} (hX : X = B ++ (J ++ [t, some (1, rows)])) (hl : ∀ p ∈ ρ', AI.look ρ p.1 = p.2) : Ent n0 (ρ', B ++ ((J ++ [none]) ++ [some (1, rows)])) (ρ, X) := by
  subst hX
  have k := Ent.killAt (n0 := n0) (ρ := ρ) (H := B) (K := J) (M := [some (1, rows)]) (o := t)
  rw [List.append_assoc]
  exact (Ent.env hl).trans k
theorem wholeO_inl : InlOk Try.prog 31 wholeOM := by
  refine inl_canonE Try.func31 rfl fun args H r H' hr => ⟨args, canon_refl args, ?_⟩
  unfold wholeOM at hr
  split at hr
  case h_2 => cases hr
  rename_i mid s
  simp only [Option.bind_eq_some_iff, Option.map_eq_some_iff] at hr
  obtain ⟨A, hA, hr⟩ := hr
  simp only [Prod.mk.injEq] at hr
  obtain ⟨rfl, rfl⟩ := hr
  have hrg : RG mid (H, A) := repAt_iff.1 hA
  refine bodyE_of (noOrc_ok.withI read_inl) fxMix (by kernel_rfl) (by simp [Try.ntmps31]) ?_
  intro C cP cI cN cD cF cA cR cL
  have cn0 := orcI read_inl (C := C) (by rw [cN]; rfl)
  replace cI := fun g => congrFun cI g
  simp only [Orc.withP, Orc.withI, Orc.withF, Orc.withD, Orc.withA, Orc.withR, Orc.withC, noOrc] at cI
  replace cR : C.rd = fun _ => none := cR
  replace cD : C.dyn = fun _ => [] := cD
  clear cP cN cF cA
  simp [Try.ntmps31, Try.results31, cSl, cn0, cI, cD, cR]
  refine loop_forE 64 (fun k (_ : Unit) => ([(0, .ptr mid 5 0 0), (1, .v (.int .i64 s)), (5, outW (H.length + (whK A s k).length) k), (9, .v (.int .i64 k))], wr H mid (whL A s k) ++ (whK A s k ++ objW (whR A s H.length k) k))) (fun k _ => True) () (fun k _ hk _ => by omega) trivial ?_ ?_ ?_
  · have hs := hrg.1.st.wr_self
    simp only [whL, whK, outW, objW, List.append_nil, hs]
    exact Ent.env (by simp)
  · rintro k _ hk _ hw
    have hw16 : IntKind.i64.wrap ((k : Int) * 16) = (k : Int) * 16 := w64 (by omega) (by omega)
    have hk64 : (k : Int) < 64 := by omega
    have hBl : (wr H mid (whL A s k)).length = H.length := wr_len
    have hBl' : (wr H mid (whL A s (k + 1))).length = H.length := wr_len
    have hsm := whR_next A s H.length k
    have hRl := whR_len A s H.length k
    have hKn : whK A s (k + 1) = (whK A s k ++ ((if k = 0 then [] else [none]) ++ (List.replicate (whG A s k) none ++ (if whO A s k = true then List.replicate 31 none ++ [some (1, (seen A s k).map (irow .u8))] else [])))) ++ [none] := rfl
    have hPk : whP A s H.length k = H.length + ((whK A s k).length + ((if k = 0 then 0 else 1) + (whG A s k + 31))) := rfl
    have hp := page_ev hrg (s := s) hk
    obtain ⟨B, hB⟩ : ∃ x, wr H mid (whL A s k) = x := ⟨_, rfl⟩
    obtain ⟨B', hB'⟩ : ∃ x, wr H mid (whL A s (k + 1)) = x := ⟨_, rfl⟩
    obtain ⟨K, hK⟩ : ∃ x, whK A s k = x := ⟨_, rfl⟩
    obtain ⟨R, hR⟩ : ∃ x, whR A s H.length k = x := ⟨_, rfl⟩
    rw [hR] at hsm hRl
    rw [hK] at hKn hPk
    rw [hB] at hBl hp
    rw [hB'] at hBl' hp
    simp only [hR, hK, hB]
    rcases hp with ⟨hO, h1, h2, e, he, h3⟩ | ⟨hO, h2, h3⟩
    · rw [hO] at hKn
      simp only [Bool.false_eq_true, if_false, List.append_nil] at hKn
      have hBB : B' = B := by rw [← hB, ← hB', h1]
      rw [h2] at hsm
      have h3' := h3 (K ++ objW R k)
      subst hBB
      cases k with
      | zero =>
        simp only [objW, outW, List.append_nil, Int.natCast_zero, Int.ofNat_zero, Int.zero_mul] at h3' hw16 ⊢
        have hR0 : R = [] := List.length_eq_zero_iff.1 hRl
        subst hR0
        simp [Try.ntmps31, Try.results31, cSl, cn0, cI, cD, cR, h3', he, hBl, hw16]
        refine ⟨(), trivial, ?_⟩
        simp only [hB', hKn, hsm, objW, outW]
        refine wo_fail (J := K ++ List.replicate (whG A s 0) none) ?_ ?_
        · simp
        · simp
      | succ i =>
        simp only [objW, outW, Int.natCast_add, Int.natCast_one] at h3' hw16 hk64 ⊢
        have hni : ¬ i + 1 + 1 ≤ i + 1 := by omega
        have hni2 : i + 1 + 1 ≤ 4294967296 := by omega
        simp [Try.ntmps31, Try.results31, cSl, cn0, cI, cD, cR, h3', he, hBl, hw16, hk64, hni, hni2, hRl, List.getElem?_append, List.set_append]
        refine ⟨(), trivial, ?_⟩
        simp only [hB', hKn, hsm, objW, outW]
        have hwi : IntKind.i64.wrap ((i : Int) + 1 + 1) = (i : Int) + 1 + 1 := w64 (by omega) (by omega)
        refine wo_fail (J := K ++ ([none] ++ List.replicate (whG A s (i + 1)) none)) ?_ ?_
        · simp
        · simp [hwi]
    · rw [hO] at hKn
      simp only [if_true] at hKn
      have h3' := h3 (K ++ objW R k)
      rw [h2] at hsm
      generalize seen A s k = d at *
      cases k with
      | zero =>
        simp only [objW, outW, List.append_nil, Int.natCast_zero, Int.ofNat_zero, Int.zero_mul] at h3' hw16 ⊢
        have hR0 : R = [] := List.length_eq_zero_iff.1 hRl
        subst hR0
        simp [Try.ntmps31, Try.results31, cSl, cn0, cI, cD, cR, h3', hBl, hBl', hw16]
        refine ⟨(), trivial, ?_⟩
        simp only [hB', hKn, hsm, objW, outW]
        refine wo_ok (t := some (1, [[.osl (H.length + (K.length + (whG A s 0 + 31))) 1 0 16 16]])) ?_ ?_
        · simp [hPk, oA, rep_none]
        · simp
      | succ i =>
        simp only [objW, outW, Int.natCast_add, Int.natCast_one] at h3' hw16 hk64 ⊢
        have hni : ¬ i + 1 + 1 ≤ i + 1 := by omega
        have hni2 : i + 1 + 1 ≤ 4294967296 := by omega
        simp [Try.ntmps31, Try.results31, cSl, cn0, cI, cD, cR, h3', hBl, hBl', hw16, hk64, hni, hni2, hRl, List.getElem?_append, List.set_append]
        refine ⟨(), trivial, ?_⟩
        simp only [hB', hKn, hsm, objW, outW]
        have hwi : IntKind.i64.wrap ((i : Int) + 1 + 1) = (i : Int) + 1 + 1 := w64 (by omega) (by omega)
        have hpe : H.length + (K.length + 1 + (whG A s (i + 1) + 31)) = H.length + (K.length + (1 + (whG A s (i + 1) + 31))) := by omega
        refine wo_ok (t := some (1, [[.osl (H.length + (K.length + 1 + (whG A s (i + 1) + 31))) 1 0 16 16]])) ?_ ?_
        · simp [hPk, oA, rep_none, hpe]
        · simp [hwi]
  · rintro _ _
    simp [Try.ntmps31, Try.results31, cSl, cn0, cI, cD, cR, outW, objW]
    exact Ent.refl _ _
/-- a private list that is no part of the memory -/
structure Pl (mid : Nat) (X : Heap × Ab) (P : Nat) (rows : List Row) (f : Nat → Nat) (L : List (List Int)) : Prop where
  at' : PlAt X.1 P rows f L
  cP : X.2.lo.cell mid P = none
  cf : ∀ i (hi : i < L.length), L[i] ≠ [] → X.2.lo.cell mid (f i) = none
theorem Pl.keep {mid : Nat} {X Y : Heap × Ab} {P : Nat} {rows : List Row} {f : Nat → Nat} {L : List (List Int)} (h : Pl mid X P rows f L) (k : Keep mid X Y) : Pl mid Y P rows f L := by
  have hob : ∀ {i : Nat} {rws : List Row}, X.2.lo.cell mid i = none → obj X.1 i = some (1, rws) → Y.2.lo.cell mid i = none ∧ obj Y.1 i = some (1, rws) := fun {i rws} h1 h2 => by
    obtain ⟨k1, k2⟩ := k i rws h1 (obj_get h2)
    exact ⟨k1, by unfold obj; rw [k2]; rfl⟩
  exact ⟨⟨(hob h.cP h.at'.hP).2, h.at'.hl, h.at'.hr, fun i hi hn => (hob (h.cf i hi hn) (h.at'.ho i hi hn)).2, h.at'.hd, h.at'.hx⟩, (hob h.cP h.at'.hP).1, fun i hi hn => (hob (h.cf i hi hn) (h.at'.ho i hi hn)).1⟩
theorem wholeO_ev {H : Heap} {mid : Nat} {A : Ab} (h : RG mid (H, A)) (s : Int) : ∃ G L' P rows f, wholeOM [.ptr mid 5 0 0, .v (.int .i64 s)] H = some (.osl P 1 0 64 64, G) ∧ Like A.lo L' ∧ RG mid (G, { A with lo := L' }) ∧ Pl mid (G, { A with lo := L' }) P rows f (seenL A s 64) ∧ Keep mid (H, A) (G, { A with lo := L' }) ∧ H.length ≤ P ∧ ∀ i, H.length ≤ f i := by
  have lk := Like.whl A s 64
  have hwl : (wr H mid (whL A s 64)).length = H.length := wr_len
  have hrg : RG mid (wr H mid (whL A s 64) ++ (whK A s 64 ++ [some (1, whR A s H.length 64)]), { A with lo := whL A s 64 }) := rg_app ⟨h.1.like lk, h.2.like h.1.st.wf lk⟩
  have hpl := wo_pl (B := wr H mid (whL A s 64)) h s (n := 64) (Nat.le_refl _)
  rw [hwl] at hpl
  have hfree : ∀ i, H.length ≤ i → (whL A s 64).cell mid i = none := fun i hi => by
    cases e : (whL A s 64).cell mid i with
    | none => rfl
    | some y =>
      have := lk.lt h.1.st i y e
      simp only at this
      omega
  refine ⟨wr H mid (whL A s 64) ++ (whK A s 64 ++ [some (1, whR A s H.length 64)]), whL A s 64, H.length + (whK A s 64).length, whR A s H.length 64, whP A s H.length, ?_, lk, hrg, ⟨hpl, hfree _ (by omega), fun i hi hn => hfree _ (by unfold whP; omega)⟩, (Keep.like lk).trans Keep.app, by omega, fun i => by unfold whP; omega⟩
  simp only [wholeOM, rg_at h, Option.map_some]
end
end
end Go.Proofs.Ytegjbfcgbfnldaa
