/- FrameOwn: what is asked before and behind. FrameOwn: how long the results are. The same under other names, wherever the call began. ringkeep2.FrameOwn. -/
import Derived.Test.YtebpjfdbjhodiaaFmA
import Derived.Test.YtebpjfdbjhodiaaFmB
import Derived.Test.YtebpjfdbjhodiaaAiZe
import Derived.Test.YtebpjfdbjhodiaaAiZi
namespace Go.Proofs.Ytebpjfdbjhodiaa
open Go.AI
set_option linter.unusedSimpArgs false
set_option linter.unusedVariables false
section
set_option maxHeartbeats 2000000
set_option maxRecDepth 100000
set_option linter.unusedSimpArgs false
set_option linter.unusedVariables false
attribute [local simp] wpA wpX RunA RunD runF foot footP footB idsA bare apart runL step1 gsel_f gsel_t gsel_s res_same res_and1 res_and2 res_and3 res_and4 res_and5 res_and6 res_false res_true res_v res_ptr res_fptr res_osl res_xsl soft aAppendZ aCap ovlI ovlJ res_fsl res_esl res_agg res_tup res_fn res_junk res_anyb aPick hk imp_left iteV dstOk guardOk astep astepE AI.ev AI.look AI.put envOf aBox cellsOf allOne allOneA oneA Value.oneCell' Value.cells newObj' aFieldAddr aLoad obj readAt thenA blockA condA retA resA tupA view hot hotC hotR depthV cAgg cInt cBool mkAgg allV aAlloc aBuild fillA writeAt aStore isAggA aField idx aIndexAddr aIndex bnd aSlice aExtract aLen aBuiltin aCall isStatic eqAgg eqTy eqC ev_add ev_sub ev_mul ev_quo ev_rem ev_and ev_or ev_xor ev_andNot ev_shl ev_shr ev_eql ev_neq ev_lss ev_leq ev_gtr ev_geq ev_agg w64 wu32 wu8 ev_not ev_neg Cod.plain RCod.plain argM finM cold coldC coldR goInt intDec boolDec aggDec Weaker heapW lowA lowC Again slDec undef aBuildSlice setRows aAppend rowsOf aMakeSlice aClear aCopy softer_self softer_nil valsOf ev_min2 ev_max2 hotR_set hotR_append take_map_set irow_cold irow_mapM irow_mapMc irow_view irow_viewc irow_hotR irow_ren irow_renc irow_low WeakT heapT thOf ren renC AgainT NextF NextT fnDec cFn rNil selfLt natLt0 natLt1 getLastMap frame0 frame1 own0 own1 argG finG tau tauI tauO tauC bareA bareC bareH irow_tau irow_tauc irow_bare irow_flat irow_bareR ownA_nil ownT_nil ownA_c ownT_c ownA_s ownT_s takeMapLen footC plainA noId noIdC cloneF frame0F frame1F insertF replaceI replaceF cellDec rCell fpDec cFp rTwo deleteF allV_oA oneA_oA res_oA RunR RunE runFT footAt hotR_cat tmodN aEqH aSliceA frameN newA newC newH fxSz3 fxBy3 fxAg3 fxZe3 fxSl3 fxSz96 fxAg96 fxZe96 fxSl96 fxAr96 fxSz97 fxAg97 fxZe97 fxSl97 fxAr97 fxSz99 fxAg99 fxZe99 fxFi99x0 fxFi99x1 fxPl99 fxSz100 fxAg100 fxSl100 fxAr100 fxSz102 fxAg102 fxZe102 fxFi102x0 fxFi102x1 fxPl102 fxSz104 fxAg104 fxZe104 fxFi104x0 fxFi104x1 fxPl104 fxSz107 fxBy107 fxAg107 fxZe107 fxFi107x0 fxFi107x1 fxFi107x2 fxPl107 fxSz110 fxBy110 fxAg110 fxZe110 fxFi110x0 fxFi110x1 fxPl110 fxSz111 fxAg111 fxZe111 fxSl111 fxAr111 fxSz112 fxBy112 fxAg112 fxZe112 fxSl112 fxAr112 fxSz114 fxBy114 fxAg114 fxZe114 fxFi114x0 fxFi114x1 fxPl114 fxZe131 fxAr131 fxPl131 fxZe132 fxAr132 fxPl132 fxZe133 fxAr133 fxPl133 fxEq107 fxEq110 fxNe96 fxOe96 fxXe96 fxLn97 fxNe97 fxOe97 fxXe97 fxNe100 fxOe100 fxXe100 fxNe112 fxOe112 fxXe112 fxFm41 fxFi41 fxFm42 fxFi42 fxFm43 fxFi43 fxFm44 fxFm45 fxFm46 fxFi46 fxFi47 fxFj47 fxFm48 fxFi48 fxFm49 fxFi49 fxFm50 fxFi50 fxFm51 fxFm52 fxFm53 fxFm54 fxFm55 fxFm56 fxFm113 fxFi113 fxFm114 fxFi114 fxFm115 fxFi115 fxFm116 fxFi116 fxFm117 fxFi117 fxFm118 fxFm119 fxFi119 fxFm120 fxFi120 fxFm121 fxFi121 fxFm122 fxFi122 fxFm123 fxFm124 fxFm125 fxFi125 fxFm126 fxFm127 fxFi127 fxFm128 fxFi128 fxFm129 fxFm130 fxFi130 fxFm131 fxFi131 fxFm132 fxFm133 fxFi133 fxFm134 fxFm135 fxFm172 fxFi172 fxFm173 fxFm176 fxFi176 fxFm177 fxFi177 fxFm178 fxFi178 fxFm179 fxFm180 fxFm182 fxFi182 fxFm183
section
attribute [local simp] Frm.eta Frm.cold Frm.mapM Frm.mapMc Frm.view Frm.viewc Frm.hotR Frm.ren Frm.renc Frm.low Frm.tau Frm.tauc Frm.bare Frm.flat Frm.flat1 Frm.mapMt Frm.mapMd Frm.coldt Frm.coldd Frm.hotRt Frm.hotRd
attribute [local simp] Rm.eta Rm.cold Rm.mapM Rm.mapMc Rm.view Rm.viewc Rm.hotR Rm.ren Rm.renc Rm.low Rm.tau Rm.tauc Rm.bare Rm.flat Rm.flat1 Rm.mapMt Rm.mapMd Rm.coldt Rm.coldd Rm.hotRt Rm.hotRd
attribute [local simp] Twn.eta Twn.dec_row Twn.dec_hrow Twn.cold Twn.hcold Twn.mapM Twn.mapMc Twn.hmapM Twn.hmapMc Twn.view Twn.viewc Twn.hview Twn.hviewc Twn.hotR Twn.ren Twn.renc Twn.low Twn.hlow
attribute [local simp] Place.eta Place.cold Place.mapM Place.mapMc Place.view Place.viewc Place.hotR Place.ren Place.renc Place.low Place.tau Place.tauc Place.bare Place.flat Place.flat1 Place.mapMt Place.mapMd Place.coldt Place.coldd Place.hotRt Place.hotRd
attribute [local simp] Box.eta Box.dec_row Box.dec_hrow Box.cold Box.hcold Box.mapM Box.mapMc Box.hmapM Box.hmapMc Box.view Box.viewc Box.hview Box.hviewc Box.hotR Box.ren Box.renc Box.low Box.hlow
attribute [local simp] Slb.eta Slb.dec_row Slb.dec_hrow
attribute [local simp] slA_new slA_newH slA_tau slA_tauO okL_tau okL_bare okL_allV okL_one okL_res
theorem fr_eq (x y : Frm) : x = y ↔ (x.st = y.st ∧ x.ow = y.ow ∧ x.ct = y.ct) := by
  obtain ⟨a, b, c⟩ := x
  obtain ⟨d, e, f⟩ := y
  simp
def rUs : RCod (List (List Int)) := rS (rS (rI .i64))
theorem rowsA_bare {c : Nat} {L : List Box} : (∀ x ∈ rowsA c L, ∀ y ∈ x, bareA y = true) = True := by
  refine eq_true fun x hx y hy => ?_
  obtain ⟨i, hi⟩ := List.getElem?_of_mem hx
  have hil : i < L.length := by have := (List.getElem?_eq_some_iff.1 hi).1; rwa [rowsA_len] at this
  rw [rowsA_get hil] at hi
  simp only [Option.some.injEq] at hi
  subst hi
  simp only [ownB, List.mem_cons, List.not_mem_nil, or_false] at hy
  rcases hy with rfl | rfl <;> rfl
theorem tailA_bare : ∀ L : List Box, bareH (tailA L) = true
  | [] => rfl
  | b :: L => by
    have := tailA_bare L
    simp only [tailA, List.map_cons, bareH] at this ⊢
    simp [irow, bareA]
    exact this
attribute [local simp] rowsA_bare tailA_bare rowsA_tau tailA_tau
theorem frEqual_pure : PureOk Try.prog 49 (argM (cSl rFrm) fun l => argM (cSl rFrm) fun m => finM (if l.length ≤ 4294967296 then some (.v (.bool (decide (l = m)))) else none)) := by
  refine pure2 Try.func49 rfl ?_
  rintro l m r hr
  by_cases hc : l.length ≤ 4294967296
  case neg => rw [if_neg hc] at hr; cases hr
  rw [if_pos hc] at hr
  simp only [Option.some.injEq] at hr
  subst hr
  refine body_gen noOrc_ok fxMix (by kernel_rfl) (by simp [Try.ntmps49]) ?_
  intro C cP cI cN cD cF cA cR cL
  replace cI : C.inl = fun _ => false := cI
  replace cR : C.rd = fun _ => none := cR
  replace cD : C.dyn = fun _ => [] := cD
  clear cP cN cF cA
  simp [Try.ntmps49, Try.results49, cSl, cI, cD, cR, rFrm, Frm.row, frmDec]
  split
  · rename_i hn
    have hn : l.length = m.length := by omega
    refine loop_for l.length (fun k (_ : Unit) => ([(0, .fsl false 3 (l.map Frm.row)), (1, .fsl false 3 (m.map Frm.row)), (12, .v (.int .i64 l.length)), (13, .v (.int .i64 k))], [])) (fun k _ => l.drop k = m.drop k ↔ l = m) () hc (by simp) (by simp) ?_ ?_
    · intro k _ hk hall hw
      have hk3 : k < m.length := by omega
      rw [List.drop_eq_getElem_cons hk, List.drop_eq_getElem_cons hk3, List.cons.injEq] at hall
      have he := fr_eq l[k] m[k]
      by_cases q2 : l[k] = m[k]
      · have q3 := he.1 q2
        clear he
        simp only [q2, true_and] at hall
        simp [Try.ntmps49, Try.results49, cSl, cI, cD, cR, hk, hk3, hw, rFrm, Frm.row, frmDec, q3]
        exact hall
      · have hne : ¬ l = m := fun h => q2 (hall.2 h).1
        simp [Try.ntmps49, Try.results49, cSl, cI, cD, cR, hk, hk3, hw, rFrm, Frm.row, frmDec]
        split
        · exact hne
        · rename_i q
          exact absurd (he.2 (by simp_all)) q2
    · intro _ hall
      simp [hn] at hall
      simp [Try.ntmps49, Try.results49, cSl, cI, cD, cR, hall]
  · rename_i hn
    rintro rfl
    exact hn rfl
theorem rmEqual_pure : PureOk Try.prog 50 (argM (cSl rRm) fun l => argM (cSl rRm) fun m => finM (if l.length ≤ 4294967296 then some (.v (.bool (decide (l = m)))) else none)) := by
  refine pure2 Try.func50 rfl ?_
  rintro l m r hr
  by_cases hc : l.length ≤ 4294967296
  case neg => rw [if_neg hc] at hr; cases hr
  rw [if_pos hc] at hr
  simp only [Option.some.injEq] at hr
  subst hr
  refine body_gen noOrc_ok fxMix (by kernel_rfl) (by simp [Try.ntmps50]) ?_
  intro C cP cI cN cD cF cA cR cL
  replace cI : C.inl = fun _ => false := cI
  replace cR : C.rd = fun _ => none := cR
  replace cD : C.dyn = fun _ => [] := cD
  clear cP cN cF cA
  simp [Try.ntmps50, Try.results50, cSl, cI, cD, cR, rRm, Rm.row]
  split
  · rename_i hn
    have hn : l.length = m.length := by omega
    refine loop_for l.length (fun k (_ : Unit) => ([(0, .fsl false 2 (l.map Rm.row)), (1, .fsl false 2 (m.map Rm.row)), (12, .v (.int .i64 l.length)), (13, .v (.int .i64 k))], [])) (fun k _ => l.drop k = m.drop k ↔ l = m) () hc (by simp) (by simp) ?_ ?_
    · intro k _ hk hall hw
      have hk3 : k < m.length := by omega
      rw [List.drop_eq_getElem_cons hk, List.drop_eq_getElem_cons hk3, List.cons.injEq] at hall
      have he := rm_eq l[k] m[k]
      by_cases q2 : l[k] = m[k]
      · have q3 := he.1 q2
        clear he
        simp only [q2, true_and] at hall
        simp [Try.ntmps50, Try.results50, cSl, cI, cD, cR, hk, hk3, hw, rRm, Rm.row, q3]
        exact hall
      · have hne : ¬ l = m := fun h => q2 (hall.2 h).1
        simp [Try.ntmps50, Try.results50, cSl, cI, cD, cR, hk, hk3, hw, rRm, Rm.row]
        split
        · exact hne
        · rename_i q
          exact absurd (he.2 (by simp_all)) q2
    · intro _ hall
      simp [hn] at hall
      simp [Try.ntmps50, Try.results50, cSl, cI, cD, cR, hall]
  · rename_i hn
    rintro rfl
    exact hn rfl
theorem inEq_pure : PureOk Try.prog 48 (argM (cSl (rI .i64)) fun l => argM (cSl (rI .i64)) fun m => finM (if l.length ≤ 4294967296 then some (.v (.bool (decide (l = m)))) else none)) := by
  refine pure2 Try.func48 rfl ?_
  rintro l m r hr
  by_cases hc : l.length ≤ 4294967296
  case neg => rw [if_neg hc] at hr; cases hr
  rw [if_pos hc] at hr
  simp only [Option.some.injEq] at hr
  subst hr
  refine body_gen noOrc_ok fxMix (by kernel_rfl) (by simp [Try.ntmps48]) ?_
  intro C cP cI cN cD cF cA cR cL
  replace cI : C.inl = fun _ => false := cI
  replace cR : C.rd = fun _ => none := cR
  replace cD : C.dyn = fun _ => [] := cD
  clear cP cN cF cA
  simp [Try.ntmps48, Try.results48, cSl, cI, cD, cR, rI]
  split
  · rename_i hn
    have hn : l.length = m.length := by omega
    refine loop_for l.length (fun k (_ : Unit) => ([(0, .fsl false 1 (l.map (irow .i64))), (1, .fsl false 1 (m.map (irow .i64))), (12, .v (.int .i64 l.length)), (13, .v (.int .i64 k))], [])) (fun k _ => l.drop k = m.drop k ↔ l = m) () hc (by simp) (by simp) ?_ ?_
    · intro k _ hk hall hw
      have hk3 : k < m.length := by omega
      rw [List.drop_eq_getElem_cons hk, List.drop_eq_getElem_cons hk3, List.cons.injEq] at hall
      by_cases q2 : l[k] = m[k]
      · simp only [q2, true_and] at hall
        simp [Try.ntmps48, Try.results48, cSl, cI, cD, cR, hk, hk3, hw, rI, irow, q2]
        exact hall
      · have hne : ¬ l = m := fun h => q2 (hall.2 h).1
        simp [Try.ntmps48, Try.results48, cSl, cI, cD, cR, hk, hk3, hw, rI, irow, q2]
        exact hne
    · intro _ hall
      simp [hn] at hall
      simp [Try.ntmps48, Try.results48, cSl, cI, cD, cR, hall]
  · rename_i hn
    rintro rfl
    exact hn rfl
theorem twins_pure : PureOk Try.prog 42 ( finM (some (.v (.bool true)))) := by
  refine pure0 Try.func42 rfl ?_
  rintro  r hr
  simp only [Option.some.injEq] at hr
  subst hr
  refine body_gen (noOrc_ok.withP twMost_pure) fxMix (by kernel_rfl) (by simp [Try.ntmps42]) ?_
  intro C cP cI cN cD cF cA cR cL
  have cp0 := orcP twMost_pure (C := C) (by rw [cP]; rfl)
  replace cI : C.inl = fun _ => false := cI
  replace cR : C.rd = fun _ => none := cR
  replace cD : C.dyn = fun _ => [] := cD
  clear cP cN cF cA
  have h1 : twCheck ⟨2, [⟨0, 2⟩]⟩ = 0 := by decide +kernel
  have h2 : maxO [⟨0, 2⟩] = 2 := by decide
  have h3 : sumP [⟨0, 2⟩] = 4 := by decide
  simp [Try.ntmps42, Try.results42, cSl, cp0, cI, cD, cR, rTwn, twnDec, rRm, Rm.row, Twn.row, rmDec, h1, h2, h3]
theorem slabs_pure : PureOk Try.prog 43 ( finM (some (.v (.bool true)))) := by
  refine pure0 Try.func43 rfl ?_
  rintro  r hr
  simp only [Option.some.injEq] at hr
  subst hr
  refine body_gen (noOrc_ok.withI slTake_inl) fxMix (by kernel_rfl) (by simp [Try.ntmps43]) ?_
  intro C cP cI cN cD cF cA cR cL
  have cn0 := orcI slTake_inl (C := C) (by rw [cN]; rfl)
  replace cI := fun g => congrFun cI g
  simp only [Orc.withP, Orc.withI, Orc.withF, Orc.withD, Orc.withA, Orc.withR, Orc.withC, noOrc] at cI
  replace cR : C.rd = fun _ => none := cR
  replace cD : C.dyn = fun _ => [] := cD
  clear cP cN cF cA
  have h1 : slTake ⟨4, []⟩ 5 = .ok (⟨4, [⟨5, [0]⟩]⟩, ⟨5, 0⟩, true) := rfl
  have h2 : okS ⟨4, []⟩ := by intro b hb; simp at hb
  simp [Try.ntmps43, Try.results43, cSl, cn0, cI, cD, cR, rSlb, slbDec, rBox, h1, h2, skX, skU, okL]
  done
theorem clIntP : PureOk Try.prog 46 (argM (cSl (rI .i64)) fun l => finM (if l.length ≤ 4294967296 then some (.fsl true 1 (l.map (irow .i64))) else none)) := by
  refine pureS1 Try.func46 rfl ?_
  rintro l r' hr
  by_cases hc : l.length ≤ 4294967296
  case neg => rw [if_neg hc] at hr; cases hr
  rw [if_pos hc] at hr
  simp only [Option.some.injEq] at hr
  subst hr
  refine bodyS_of noOrc_ok fxMix (by kernel_rfl) (by simp [Try.ntmps46]) ?_
  intro C cP cI cN cD cF cA cR cL
  replace cI : C.inl = fun _ => false := cI
  replace cR : C.rd = fun _ => none := cR
  replace cD : C.dyn = fun _ => [] := cD
  clear cP cN cF cA
  by_cases h : l = []
  · subst h
    simp [Try.ntmps46, Try.results46, cSl, cI, cD, cR, rI]
    exact ⟨⟨.nil, rfl⟩, ⟨.esl, rfl⟩⟩
  · simp [Try.ntmps46, Try.results46, cSl, cI, cD, cR, rI, h, hc]
    exact shows_osl rfl (by rfl) (fun e => by simp [irow, view]) (fun e => by simp [irow, hotC, hot])
theorem sameF_pure : PureOk Try.prog 47 (argM (cFp rSlb) fun s => argM (cFp rUs) fun u => argM (cFp (rS rFrm)) fun l => argM (cFp (rS rFrm)) fun b => argM (cFp rTwn) fun t => argM (cFp (rS rRm)) fun f => finM (if (s.boxes.map Box.used = u ∧ l = b ∧ t.free = f) ∧ (s.boxes.length ≤ 4294967295 ∧ (∀ x ∈ s.boxes, x.used.length ≤ 4294967296) ∧ l.length ≤ 4294967296 ∧ t.free.length ≤ 4294967296) then some (.v (.bool true)) else none)) := by
  refine pure6 Try.func47 rfl ?_
  rintro s u l b t f r hr
  by_cases hc : (s.boxes.map Box.used = u ∧ l = b ∧ t.free = f) ∧ (s.boxes.length ≤ 4294967295 ∧ (∀ x ∈ s.boxes, x.used.length ≤ 4294967296) ∧ l.length ≤ 4294967296 ∧ t.free.length ≤ 4294967296)
  case neg => rw [if_neg hc] at hr; cases hr
  rw [if_pos hc] at hr
  simp only [Option.some.injEq] at hr
  subst hr
  refine body_gen (((noOrc_ok.withP inEq_pure).withP frEqual_pure).withP rmEqual_pure) fxMix (by kernel_rfl) (by simp [Try.ntmps47]) ?_
  intro C cP cI cN cD cF cA cR cL
  have cp0 := orcP inEq_pure (C := C) (by rw [cP]; rfl)
  have cp1 := orcP frEqual_pure (C := C) (by rw [cP]; rfl)
  have cp2 := orcP rmEqual_pure (C := C) (by rw [cP]; rfl)
  replace cI : C.inl = fun _ => false := cI
  replace cR : C.rd = fun _ => none := cR
  replace cD : C.dyn = fun _ => [] := cD
  clear cP cN cF cA
  obtain ⟨z, L⟩ := s
  obtain ⟨N, m⟩ := t
  obtain ⟨⟨rfl, rfl, rfl⟩, g1, g2, g3, g4⟩ := hc
  simp only at g1 g2 g3 g4
  simp [Try.ntmps47, Try.results47, cSl, cp0, cp1, cp2, cI, cD, cR, rSlb, slbDec, rBox, Slb.row, rTwn, twnDec, rRm, Twn.row, rUs, rS, rFrm, rI, g3, g4]
  refine loop_for L.length (fun k (_ : Unit) => ([(1, .fptr [.fsl false 1 (List.map ((fun e => [AVal.fsl false 1 (List.map (irow .i64) e)]) ∘ Box.used) L)] 0), (2, .fptr [.fsl false 3 (List.map Frm.row l)] 0), (3, .fptr [.fsl false 3 (List.map Frm.row l)] 0), (4, .fptr [.v (.int .i64 N), .fsl false 2 (List.map Rm.row m)] 0), (5, .fptr [.fsl false 2 (List.map Rm.row m)] 0), (10, .fsl false 2 (List.map Box.row L)), (11, .v (.int .i64 L.length)), (12, .v (.int .i64 k))], [])) (fun k _ => True) () (by omega) trivial ?_ ?_ ?_
  · simp
  · rintro k _ hk _ hw
    have hu := g2 _ (List.getElem_mem hk)
    simp [Try.ntmps47, Try.results47, cSl, cp0, cp1, cp2, cI, cD, cR, hk, hw, Box.row, hu, rI]
  · rintro _ _
    simp [Try.ntmps47, Try.results47, cSl, cp0, cp1, cp2, cI, cD, cR, g3, g4, rFrm, rRm]
end
end
section
theorem frH_len {l : List Frm} {n : Int} : (frX (frHold l n)).2.1.length ≤ l.length := by
  unfold frHold
  split
  · split
    · simp [frX]
    · split <;> simp [frX]
  · simp [frX]
theorem frLt_len {l : List Frm} {n : Int} : (frX (frLet l n)).2.1.length ≤ l.length := by
  unfold frLet
  split
  · split <;> simp [frX]
  · simp [frX]
theorem tk_len {t : Twn} {o : Int} : (tkX (twTake t o)).2.2.1.length ≤ t.free.length + 64 := by
  unfold twTake
  split
  · rename_i h0
    obtain ⟨g1, g2, g3⟩ := twCheck_ok.1 h0
    split
    · simp [tkX]
    · split
      · simp [tkX]
      · split
        · rename_i r hr
          have hf := g3.1 r (List.mem_of_getElem? hr)
          have h1 := hf.1
          have h2 := hf.2.1
          simp only [tkX, List.length_append, List.length_take, List.length_drop, leftR_len]
          omega
        · simp [tkX]
  · simp [tkX]
theorem giveGo_len {bud : Rm → Rm → Bool} {N : Int} : ∀ (n : Nat) (r : Rm) (l : List Rm), (giveGo bud N n r l).length ≤ l.length + 1
  | 0, r, l => by simp only [giveGo, insR_len]; exact Nat.le_refl _
  | n + 1, r, l => by
    simp only [giveGo]
    split
    · have := giveGo_len (bud := bud) (N := N) n ⟨min r.at_ (l[‹Nat›]?.getD r).at_, r.order + 1⟩ (l.eraseIdx ‹Nat›)
      have h2 := List.length_eraseIdx_le l ‹Nat›
      omega
    · rw [insR_len]; exact Nat.le_refl _
theorem tw_len {t : Twn} {a o : Int} : (twX (twGive t a o)).2.2.1.length ≤ t.free.length + 1 := by
  unfold twGive
  split
  · split
    · exact giveGo_len _ _ _
    · simp [twX]
  · simp [twX]
theorem sk_len {s : Slb} {f : Int} (hu : ∀ b ∈ s.boxes, b.used.length ≤ 1048576) : (skX (slTake s f)).2.1.boxes.length ≤ s.boxes.length + 1 ∧ ∀ b ∈ (skX (slTake s f)).2.1.boxes, b.used.length ≤ 1048577 := by
  unfold slTake
  split
  · split
    · rename_i i hi
      rw [List.findIdx?_eq_some_iff_getElem] at hi
      obtain ⟨hiL, _⟩ := hi
      simp only [skX, List.length_set]
      refine ⟨by omega, fun b hb => ?_⟩
      rcases List.mem_or_eq_of_mem_set hb with hb | rfl
      · have := hu b hb; omega
      · have := hu _ (List.getElem_mem hiL)
        simp [hiL]; omega
    · split
      · simp [skX]
      · split
        · simp [skX]
        · simp only [skX, List.length_append, List.length_take, List.length_cons, List.length_drop]
          refine ⟨by omega, fun b hb => ?_⟩
          rcases List.mem_append.1 hb with hb | hb
          · have := hu b (List.mem_of_mem_take hb); omega
          · rcases List.mem_cons.1 hb with rfl | hb
            · simp
            · have := hu b (List.mem_of_mem_drop hb); omega
  · simp [skX]
theorem gi_len {s : Slb} {p : Place} (hu : ∀ b ∈ s.boxes, b.used.length ≤ 1048576) : (giX (slGive s p)).2.1.boxes.length ≤ s.boxes.length + 1 ∧ ∀ b ∈ (giX (slGive s p)).2.1.boxes, b.used.length ≤ 1048577 := by
  unfold slGive
  split
  · split
    · rename_i i hi
      rw [List.findIdx?_eq_some_iff_getElem] at hi
      obtain ⟨hiL, _⟩ := hi
      simp only
      split
      · simp only [giX, List.length_set]
        refine ⟨by omega, fun b hb => ?_⟩
        rcases List.mem_or_eq_of_mem_set hb with hb | rfl
        · have := hu b hb; omega
        · have := hu _ (List.getElem_mem hiL)
          have h2 := List.length_eraseIdx_le (s.boxes[i]?.getD ⟨0, []⟩).used ((idxOf p.at_ (s.boxes[i]?.getD ⟨0, []⟩).used).getD 0)
          simp [hiL] at h2 ⊢; omega
      · simp only [giX]
        have h2 := List.length_eraseIdx_le s.boxes i
        refine ⟨by omega, fun b hb => ?_⟩
        have := hu b ((List.eraseIdx_sublist ..).subset hb); omega
    · simp [giX]
  · simp [giX]
end
section
theorem thOf_le {n0 m : Nat} {th : List Nat} (h : n0 ≤ m) (id : Nat) : thOf n0 (List.range' n0 (m - n0) ++ th) id = thOf m th id := by
  unfold thOf
  by_cases h1 : id < n0
  · rw [if_pos h1, if_pos (by omega)]
  · rw [if_neg h1]
    by_cases h2 : id < m
    · rw [if_pos h2, List.getElem?_append_left (by simp; omega), List.getElem?_range' (by omega)]
      simp; omega
    · rw [if_neg h2, List.getElem?_append_right (by simp; omega)]
      simp only [List.length_range']
      rw [show id - n0 - (m - n0) = id - m by omega]
mutual
theorem ren_le {n0 m : Nat} {th : List Nat} (h : n0 ≤ m) : ∀ a : AVal, ren n0 (List.range' n0 (m - n0) ++ th) a = ren m th a
  | .ptr id sz i off => by simp only [ren, thOf_le h]
  | .osl id sz s len kc => by simp only [ren, thOf_le h]
  | .xsl id sz s len kc => by simp only [ren, thOf_le h]
  | .agg cs => by simp only [ren, renC_le h cs]
  | .tup cs => by simp only [ren, renC_le h cs]
  | .fn f cs => by simp only [ren, renC_le h cs]
  | .when b a => by simp only [ren, ren_le h a]
  | .junk => rfl
  | .anyb => rfl
  | .v _ => rfl
  | .esl => rfl
  | .fsl _ _ _ => rfl
  | .fptr _ _ => rfl
theorem renC_le {n0 m : Nat} {th : List Nat} (h : n0 ≤ m) : ∀ l : List AVal, renC n0 (List.range' n0 (m - n0) ++ th) l = renC m th l
  | [] => rfl
  | a :: l => by simp only [renC, ren_le h a, renC_le h l]
end
theorem heapT_le {n0 m n : Nat} {th : List Nat} {H : Heap} (h : n0 ≤ m) : ∀ {i : Nat} {X : Heap}, heapT m th n H i X → heapT n0 (List.range' n0 (m - n0) ++ th) n H i X
  | _, [], _ => trivial
  | i, none :: r, hx => by
    simp only [heapT] at hx ⊢
    exact heapT_le h hx
  | i, some o :: r, hx => by
    simp only [heapT] at hx ⊢
    refine ⟨?_, hx.2.1, heapT_le h hx.2.2⟩
    rw [thOf_le h, hx.1]
    congr 4
    funext r
    congr 1
    funext a
    exact (ren_le h a).symm
theorem ent_le {m : Nat} {th : List Nat} {s' s : Env × Heap} (h : WeakT m th s' s) {n0 : Nat} (hn : n0 ≤ m) : Ent n0 s' s := by
  obtain ⟨⟨h1, h2⟩, ⟨h3, h4, h5⟩, h6, h7⟩ := h
  refine Ent.weakT (th := List.range' n0 (m - n0) ++ th) ⟨⟨by omega, by omega⟩, ⟨?_, by simp; omega, fun x hx => ?_⟩, fun p hp => ?_, heapT_le hn h7⟩
  · rw [List.nodup_append]
    refine ⟨List.nodup_range', h3, fun a ha b hb => ?_⟩
    have := List.mem_range'_1.1 ha
    have := h5 b hb
    omega
  · rcases List.mem_append.1 hx with hx | hx
    · have := List.mem_range'_1.1 hx
      omega
    · have := h5 x hx
      omega
  · rw [ren_le hn]
    exact h6 p hp
end
section
set_option maxHeartbeats 2000000
set_option maxRecDepth 100000
set_option linter.unusedSimpArgs false
set_option linter.unusedVariables false
attribute [local simp] wpA wpX RunA RunD runF foot footP footB idsA bare apart runL step1 gsel_f gsel_t gsel_s res_same res_and1 res_and2 res_and3 res_and4 res_and5 res_and6 res_false res_true res_v res_ptr res_fptr res_osl res_xsl soft aAppendZ aCap ovlI ovlJ res_fsl res_esl res_agg res_tup res_fn res_junk res_anyb aPick hk imp_left iteV dstOk guardOk astep astepE AI.ev AI.look AI.put envOf aBox cellsOf allOne allOneA oneA Value.oneCell' Value.cells newObj' aFieldAddr aLoad obj readAt thenA blockA condA retA resA tupA view hot hotC hotR depthV cAgg cInt cBool mkAgg allV aAlloc aBuild fillA writeAt aStore isAggA aField idx aIndexAddr aIndex bnd aSlice aExtract aLen aBuiltin aCall isStatic eqAgg eqTy eqC ev_add ev_sub ev_mul ev_quo ev_rem ev_and ev_or ev_xor ev_andNot ev_shl ev_shr ev_eql ev_neq ev_lss ev_leq ev_gtr ev_geq ev_agg w64 wu32 wu8 ev_not ev_neg Cod.plain RCod.plain argM finM cold coldC coldR goInt intDec boolDec aggDec Weaker heapW lowA lowC Again slDec undef aBuildSlice setRows aAppend rowsOf aMakeSlice aClear aCopy softer_self softer_nil valsOf ev_min2 ev_max2 hotR_set hotR_append take_map_set irow_cold irow_mapM irow_mapMc irow_view irow_viewc irow_hotR irow_ren irow_renc irow_low WeakT heapT thOf ren renC AgainT NextF NextT fnDec cFn rNil selfLt natLt0 natLt1 getLastMap frame0 frame1 own0 own1 argG finG tau tauI tauO tauC bareA bareC bareH irow_tau irow_tauc irow_bare irow_flat irow_bareR ownA_nil ownT_nil ownA_c ownT_c ownA_s ownT_s takeMapLen footC plainA noId noIdC cloneF frame0F frame1F insertF replaceI replaceF cellDec rCell fpDec cFp rTwo deleteF allV_oA oneA_oA res_oA RunR RunE runFT footAt hotR_cat tmodN aEqH aSliceA frameN newA newC newH fxSz3 fxBy3 fxAg3 fxZe3 fxSl3 fxSz96 fxAg96 fxZe96 fxSl96 fxAr96 fxSz97 fxAg97 fxZe97 fxSl97 fxAr97 fxSz99 fxAg99 fxZe99 fxFi99x0 fxFi99x1 fxPl99 fxSz100 fxAg100 fxSl100 fxAr100 fxSz102 fxAg102 fxZe102 fxFi102x0 fxFi102x1 fxPl102 fxSz104 fxAg104 fxZe104 fxFi104x0 fxFi104x1 fxPl104 fxSz107 fxBy107 fxAg107 fxZe107 fxFi107x0 fxFi107x1 fxFi107x2 fxPl107 fxSz110 fxBy110 fxAg110 fxZe110 fxFi110x0 fxFi110x1 fxPl110 fxSz111 fxAg111 fxZe111 fxSl111 fxAr111 fxSz112 fxBy112 fxAg112 fxZe112 fxSl112 fxAr112 fxSz114 fxBy114 fxAg114 fxZe114 fxFi114x0 fxFi114x1 fxPl114 fxZe131 fxAr131 fxPl131 fxZe132 fxAr132 fxPl132 fxZe133 fxAr133 fxPl133 fxEq107 fxEq110 fxNe96 fxOe96 fxXe96 fxLn97 fxNe97 fxOe97 fxXe97 fxNe100 fxOe100 fxXe100 fxNe112 fxOe112 fxXe112 fxFm41 fxFi41 fxFm42 fxFi42 fxFm43 fxFi43 fxFm44 fxFm45 fxFm46 fxFi46 fxFi47 fxFj47 fxFm48 fxFi48 fxFm49 fxFi49 fxFm50 fxFi50 fxFm51 fxFm52 fxFm53 fxFm54 fxFm55 fxFm56 fxFm113 fxFi113 fxFm114 fxFi114 fxFm115 fxFi115 fxFm116 fxFi116 fxFm117 fxFi117 fxFm118 fxFm119 fxFi119 fxFm120 fxFi120 fxFm121 fxFi121 fxFm122 fxFi122 fxFm123 fxFm124 fxFm125 fxFi125 fxFm126 fxFm127 fxFi127 fxFm128 fxFi128 fxFm129 fxFm130 fxFi130 fxFm131 fxFi131 fxFm132 fxFm133 fxFi133 fxFm134 fxFm135 fxFm172 fxFi172 fxFm173 fxFm176 fxFi176 fxFm177 fxFi177 fxFm178 fxFi178 fxFm179 fxFm180 fxFm182 fxFi182 fxFm183
section
attribute [local simp] Frm.eta Frm.cold Frm.mapM Frm.mapMc Frm.view Frm.viewc Frm.hotR Frm.ren Frm.renc Frm.low Frm.tau Frm.tauc Frm.bare Frm.flat Frm.flat1 Frm.mapMt Frm.mapMd Frm.coldt Frm.coldd Frm.hotRt Frm.hotRd
attribute [local simp] Rm.eta Rm.cold Rm.mapM Rm.mapMc Rm.view Rm.viewc Rm.hotR Rm.ren Rm.renc Rm.low Rm.tau Rm.tauc Rm.bare Rm.flat Rm.flat1 Rm.mapMt Rm.mapMd Rm.coldt Rm.coldd Rm.hotRt Rm.hotRd
attribute [local simp] Twn.eta Twn.dec_row Twn.dec_hrow Twn.cold Twn.hcold Twn.mapM Twn.mapMc Twn.hmapM Twn.hmapMc Twn.view Twn.viewc Twn.hview Twn.hviewc Twn.hotR Twn.ren Twn.renc Twn.low Twn.hlow
attribute [local simp] Place.eta Place.cold Place.mapM Place.mapMc Place.view Place.viewc Place.hotR Place.ren Place.renc Place.low Place.tau Place.tauc Place.bare Place.flat Place.flat1 Place.mapMt Place.mapMd Place.coldt Place.coldd Place.hotRt Place.hotRd
attribute [local simp] Box.eta Box.dec_row Box.dec_hrow Box.cold Box.hcold Box.mapM Box.mapMc Box.hmapM Box.hmapMc Box.view Box.viewc Box.hview Box.hviewc Box.hotR Box.ren Box.renc Box.low Box.hlow
attribute [local simp] Slb.eta Slb.dec_row Slb.dec_hrow
attribute [local simp] slA_new slA_newH okL_tau okL_bare okL_allV okL_one okL_res
theorem frCU : InlOk Try.prog 44 (cloneU 3) := cloneU_ok clFr
theorem rmCU : InlOk Try.prog 45 (cloneU 2) := cloneU_ok rmClone
theorem fr_bareU {ok : Bool} {l : List Frm} {r : Heap} : bareH (okO ok 3 (l.map Frm.row) :: r) = bareH r := okO_bare (g := Frm.row) (fun e => by simp [Frm.row, bareA])
theorem rm_bareU {ok : Bool} {l : List Rm} {r : Heap} : bareH (okO ok 2 (l.map Rm.row) :: r) = bareH r := okO_bare (g := Rm.row) (fun e => by simp [Rm.row, bareA])
theorem fr_tauU {ok : Bool} {m : Nat} {l : List Frm} : tauO [] m (okO ok 3 (l.map Frm.row)) = okO ok 3 (l.map Frm.row) := okO_tau (g := Frm.row) (fun e => by simp [Frm.row, tau])
theorem rm_tauU {ok : Bool} {m : Nat} {l : List Rm} : tauO [] m (okO ok 2 (l.map Rm.row)) = okO ok 2 (l.map Rm.row) := okO_tau (g := Rm.row) (fun e => by simp [Rm.row, tau])
theorem oA_cells {id sz n : Nat} : cellsOf (oA id sz n) = some [oA id sz n] := by unfold oA; split <;> rfl
theorem okL_cells {ok : Bool} {id sz n : Nat} : cellsOf (okL ok id sz n) = some [okL ok id sz n] := by unfold okL; split <;> rfl
theorem cells_agg {cs : Row} : cellsOf (.agg cs) = if allOneA cs = true then some cs else none := rfl
theorem cells_vagg {cs : Array Value} : cellsOf (.v (.agg cs)) = if allOne cs.toList = true then some (cs.toList.map .v) else none := rfl
theorem cells_int {k : IntKind} {x : Int} : cellsOf (.v (.int k x)) = some [.v (.int k x)] := rfl
theorem cells_bool {b : Bool} : cellsOf (.v (.bool b)) = some [.v (.bool b)] := rfl
theorem cells_slice {a : Option Addr} {n k : Nat} : cellsOf (.v (.slice a n k)) = some [.v (.slice a n k)] := rfl
theorem cells_osl {a b c d e : Nat} : cellsOf (.osl a b c d e) = some [.osl a b c d e] := rfl
theorem cells_esl : cellsOf .esl = some [.esl] := rfl
theorem cells_fsl {o : Bool} {sz : Nat} {rows : List Row} : cellsOf (.fsl o sz rows) = some [.fsl o sz rows] := rfl
theorem cells_okc {ok : Bool} {id sz n : Nat} {k : IntKind} {x : Int} : cellsOf (.agg [.v (.int k x), okL ok id sz n]) = some [.v (.int k x), okL ok id sz n] := by unfold okL; split <;> rfl
attribute [local simp high] cells_okc
attribute [local simp] cells_agg cells_vagg cells_int cells_bool cells_slice cells_osl cells_esl cells_fsl oA_cells okL_cells
attribute [local simp] fr_bareU rm_bareU fr_tauU rm_tauU allV_oA oneA_oA res_oA rowsA_bare tailA_bare rowsA_tau tailA_tau
theorem okLf {id sz n : Nat} : okL false id sz n = .esl := rfl
theorem okLt {id sz n : Nat} : okL true id sz n = .osl id sz 0 n n := rfl
theorem one_esl : oneA .esl = true := rfl
theorem one_osl {a b c d e : Nat} : oneA (.osl a b c d e) = true := rfl
theorem one_int {k : IntKind} {x : Int} : oneA (.v (.int k x)) = true := rfl
theorem allOne_nil : allOneA [] = true := rfl
theorem allOne_cons {a : AVal} {r : Row} : allOneA (a :: r) = (oneA a && allOneA r) := rfl
/-- the list of the boxes' places, as it grows -/
def usA (k : Nat) : AVal := if k = 0 then .v (.slice none 0 0) else .osl 9 1 0 k k
def usR (L : List Box) : List Row := L.map fun b => [.fsl true 1 (b.used.map (irow .i64))]
def usO (k : Nat) (L : List Box) : Option (Nat × List Row) := if k = 0 then none else some (1, usR (L.take k))
theorem usA_cells {k : Nat} : cellsOf (usA k) = some [usA k] := by unfold usA; split <;> rfl
theorem usR_take {L : List Box} {k : Nat} (hk : k < L.length) : usR (L.take (k + 1)) = usR (L.take k) ++ [[.fsl true 1 (L[k].used.map (irow .i64))]] := by
  unfold usR
  rw [List.take_succ_eq_append_getElem hk, List.map_append]; rfl
theorem usR_nil : usR [] = [] := rfl
theorem usR_ren {n0 : Nat} {th : List Nat} {M : List Box} : List.map (List.map (ren n0 th)) (usR M) = usR M := by
  simp only [usR, List.map_map]; rfl
theorem usR_low {n : Nat} {M : List Box} : (∀ x ∈ usR M, ∀ y ∈ x, lowA n y = true) = True := by
  refine eq_true fun x hx y hy => ?_
  obtain ⟨b, _, rfl⟩ := List.mem_map.1 hx
  simp at hy; subst hy; rfl
theorem coldR_fr {l : List Frm} : coldR (l.map Frm.row) = l.map Frm.row := by
  induction l with
  | nil => rfl
  | cons a l ih => simp only [List.map_cons, coldR, ih, Frm.row, coldC, cold]
theorem coldR_rm {l : List Rm} : coldR (l.map Rm.row) = l.map Rm.row := by
  induction l with
  | nil => rfl
  | cons a l ih => simp only [List.map_cons, coldR, ih, Rm.row, coldC, cold]
theorem coldR_in {l : List Int} : coldR (l.map (irow .i64)) = l.map (irow .i64) := by
  induction l with
  | nil => rfl
  | cons a l ih => simp only [List.map_cons, coldR, ih, irow, coldC, cold]
theorem coldR_bx {l : List Box} : coldR (l.map Box.row) = l.map Box.row := by
  induction l with
  | nil => rfl
  | cons a l ih => simp only [List.map_cons, coldR, ih, Box.row, coldC, cold, coldR_in]
theorem vwL {H : Heap} {l : List Frm} : cold (view H 4 (.fsl false 3 (l.map Frm.row))) = .fsl false 3 (l.map Frm.row) := by
  simp only [view, cold, coldR_fr]
theorem vwT {H : Heap} {l : List Rm} {v : Value} : cold (view H 4 (.agg [.v v, .fsl false 2 (l.map Rm.row)])) = .agg [.v v, .fsl false 2 (l.map Rm.row)] := by
  simp [view, cold, coldC, coldR_rm]
theorem vwS {H : Heap} {l : List Box} {v : Value} : cold (view H 4 (.agg [.v v, .fsl false 2 (l.map Box.row)])) = .agg [.v v, .fsl false 2 (l.map Box.row)] := by
  simp [view, cold, coldC, coldR_bx]
theorem vwP {H : Heap} {a b : Value} : cold (view H 4 (.agg [.v a, .v b])) = .agg [.v a, .v b] := by
  simp [view, cold, coldC]
theorem vwV {H : Heap} {v : Value} : cold (view H 4 (.v v)) = .v v := by simp [view, cold]
def sHp (o : Bool) (c : Nat) (L : List Box) : Heap := if o = true then some (2, rowsA c L) :: tailA L else [none]
theorem sHp_bare {o : Bool} {c : Nat} {L : List Box} : bareH (if o = true then some (2, rowsA c L) :: tailA L else [none]) = true := by
  split
  · simp only [bareH, tailA_bare, Bool.and_true]
    simp
  · rfl
theorem sHp_tau {o : Bool} {c n : Nat} {L : List Box} : List.map (tauO [] n) (if o = true then some (2, rowsA c L) :: tailA L else [none]) = sHp o (n + c) L := by
  unfold sHp
  split
  · simp only [List.map_cons, tauO, rowsA_tau, tailA_tau]
  · rfl
theorem obj_lt {H : Heap} {id : Nat} {o : Nat × List Row} (h : obj H id = some o) : id < H.length := (List.getElem?_eq_some_iff.1 (obj_get h)).1
theorem obj_app' {H K : Heap} {i : Nat} {o : Nat × List Row} (h : obj H i = some o) : obj (H ++ K) i = some o := by rw [obj_app (obj_lt h)]; exact h
theorem obj_set' {H : Heap} {i j : Nat} {x : Option (Nat × List Row)} {o : Nat × List Row} (h : obj H i = some o) (e : j ≠ i) : obj (H.set j x) i = some o := by rw [ob_ne e]; exact h
theorem dFr {l : List Frm} : List.mapM frmDec (l.map Frm.row) = some l := mapM_dec rFrm l
theorem dRm {l : List Rm} : List.mapM rmDec (l.map Rm.row) = some l := mapM_dec rRm l
theorem dBx {l : List Box} : List.mapM boxDec (l.map Box.row) = some l := mapM_dec rBox l
structure FB (l : List Frm) (N : Int) (m : List Rm) (z : Int) (L : List Box) (G : Heap) : Prop where
  o0 : obj G 0 = some (1, [[.fsl false 3 (l.map Frm.row)]])
  o1 : obj G 1 = some (2, [[.v (.int .i64 N), .fsl false 2 (m.map Rm.row)]])
  o2 : obj G 2 = some (2, [[.v (.int .i64 z), .fsl false 2 (L.map Box.row)]])
  o4 : l ≠ [] → obj G 4 = some (3, l.map Frm.row)
  o5 : m ≠ [] → obj G 5 = some (2, m.map Rm.row)
  o6 : obj G 6 = some (1, [[oA 4 3 l.length]])
  o7 : obj G 7 = some (1, [[oA 5 2 m.length]])
  o8 : obj G 8 = some (1, [[usA L.length]])
  o9 : L ≠ [] → obj G 9 = some (1, usR L)
namespace FB
variable {l : List Frm} {N : Int} {m : List Rm} {z : Int} {L : List Box} {G : Heap}
theorem app (h : FB l N m z L G) (K : Heap) : FB l N m z L (G ++ K) :=
  ⟨obj_app' h.o0, obj_app' h.o1, obj_app' h.o2, fun e => obj_app' (h.o4 e), fun e => obj_app' (h.o5 e), obj_app' h.o6, obj_app' h.o7, obj_app' h.o8, fun e => obj_app' (h.o9 e)⟩
theorem set (h : FB l N m z L G) {i : Nat} (hi : 10 ≤ i) (o : Option (Nat × List Row)) : FB l N m z L (G.set i o) :=
  ⟨obj_set' h.o0 (by omega), obj_set' h.o1 (by omega), obj_set' h.o2 (by omega), fun e => obj_set' (h.o4 e) (by omega), fun e => obj_set' (h.o5 e) (by omega), obj_set' h.o6 (by omega), obj_set' h.o7 (by omega), obj_set' h.o8 (by omega), fun e => obj_set' (h.o9 e) (by omega)⟩
theorem vFr {d : Nat} : List.map (fun r => List.map (view G d) r) (l.map Frm.row) = l.map Frm.row := by
  simp [Frm.row, view]
theorem vRm {d : Nat} : List.map (fun r => List.map (view G d) r) (m.map Rm.row) = m.map Rm.row := by
  simp [Rm.row, view]
theorem vUs {d : Nat} : List.map (fun r => List.map (view G d) r) (usR L) = usR L := by
  simp [usR, view]
theorem d0 (h : FB l N m z L G) : (cFp (rS rFrm)).dec (cold (view G 4 (.ptr 0 1 0 0))) = some l := by
  have := h.o0
  simp [-obj, view, this, cold, coldC, coldR_fr, cFp, rS, cSl, slDec, rFrm, -List.mapM_map, dFr]
theorem d1 (h : FB l N m z L G) : (cFp rTwn).dec (cold (view G 4 (.ptr 1 2 0 0))) = some ⟨N, m⟩ := by
  have := h.o1
  simp [-obj, view, this, cold, coldC, coldR_rm, cFp, rTwn, twnDec, rRm, -List.mapM_map, dRm]
theorem d2 (h : FB l N m z L G) : (cFp rSlb).dec (cold (view G 4 (.ptr 2 2 0 0))) = some ⟨z, L⟩ := by
  have := h.o2
  simp [-obj, view, this, cold, coldC, coldR_bx, cFp, rSlb, slbDec, rBox, -List.mapM_map, dBx]
theorem d6 (h : FB l N m z L G) : (cFp (rS rFrm)).dec (cold (view G 4 (.ptr 6 1 0 0))) = some l := by
  have h5 := h.o6
  by_cases e : l = []
  · subst e
    simp [-obj, view, h5, cold, coldC, cFp, rS, cSl, slDec, oA]
  · have h3 := h.o4 e
    have hn : ¬ l.length = 0 := fun q => e (List.length_eq_zero_iff.1 q)
    have ht : List.take l.length (l.map Frm.row) = l.map Frm.row := List.take_of_length_le (by simp)
    simp [-obj, view, h5, h3, hn, ht, -List.map_map, vFr, cold, coldC, coldR_fr, cFp, rS, cSl, slDec, rFrm, oA, e, -List.mapM_map, dFr]
theorem d7 (h : FB l N m z L G) : (cFp (rS rRm)).dec (cold (view G 4 (.ptr 7 1 0 0))) = some m := by
  have h5 := h.o7
  by_cases e : m = []
  · subst e
    simp [-obj, view, h5, cold, coldC, cFp, rS, cSl, slDec, oA]
  · have h3 := h.o5 e
    have hn : ¬ m.length = 0 := fun q => e (List.length_eq_zero_iff.1 q)
    have ht : List.take m.length (m.map Rm.row) = m.map Rm.row := List.take_of_length_le (by simp)
    simp [-obj, view, h5, h3, hn, ht, -List.map_map, vRm, cold, coldC, coldR_rm, cFp, rS, cSl, slDec, rRm, oA, e, -List.mapM_map, dRm]
theorem coldUs : coldR (usR L) = L.map fun b => [.fsl false 1 (b.used.map (irow .i64))] := by
  induction L with
  | nil => rfl
  | cons a l ih =>
    simp only [usR, List.map_cons, coldR, coldC, cold, coldR_in] at ih ⊢
    rw [ih]
theorem dUs : List.mapM (rS (rI .i64)).dec (L.map fun b => [.fsl false 1 (b.used.map (irow .i64))]) = some (L.map Box.used) := by
  have := mapM_dec (rS (rI .i64)) (L.map Box.used)
  rw [List.map_map] at this
  exact this
theorem d8 (h : FB l N m z L G) : (cFp rUs).dec (cold (view G 4 (.ptr 8 1 0 0))) = some (L.map Box.used) := by
  have h5 := h.o8
  by_cases e : L = []
  · subst e
    simp [-obj, view, h5, cold, coldC, cFp, rUs, rS, cSl, slDec, usA]
  · have h3 := h.o9 e
    have hn : ¬ L.length = 0 := fun q => e (List.length_eq_zero_iff.1 q)
    have hul : (usR L).length = L.length := by simp [usR]
    have ht : List.take L.length (usR L) = usR L := List.take_of_length_le (by omega)
    have hd := dUs (L := L)
    simp [-obj, view, h5, h3, hn, hul, ht, -List.map_map, vUs, cold, coldC, coldUs, cFp, rUs, usA, e]
    show slDec (rS (rI .i64)) (.fsl false 1 (L.map fun b => [.fsl false 1 (b.used.map (irow .i64))])) = _
    simp only [slDec]
    rw [if_pos (show 1 = (rS (rI .i64)).sz from rfl)]
    exact hd
theorem ofCons {x : Option (Nat × List Row)} {K : Heap} : FB l N m z L (some (1, [[.fsl false 3 (l.map Frm.row)]]) :: some (2, [[.v (.int .i64 N), .fsl false 2 (m.map Rm.row)]]) :: some (2, [[.v (.int .i64 z), .fsl false 2 (L.map Box.row)]]) :: x :: oT 3 (l.map Frm.row) :: oT 2 (m.map Rm.row) :: some (1, [[oA 4 3 l.length]]) :: some (1, [[oA 5 2 m.length]]) :: some (1, [[usA L.length]]) :: usO L.length L :: K) :=
  ⟨rfl, rfl, rfl, fun e => by simp [obj, oT, e], fun e => by simp [obj, oT, e], rfl, rfl, rfl, fun e => by simp [obj, usO, e]⟩
end FB

def HF (G : Heap) (o : Bool) (i n : Nat) : Prop := o = true → ∃ L : List Frm, L.length = n ∧ obj G i = some (3, L.map Frm.row)
def HR (G : Heap) (o : Bool) (i n : Nat) : Prop := o = true → ∃ L : List Rm, L.length = n ∧ obj G i = some (2, L.map Rm.row)
def HS (G : Heap) (o : Bool) (i : Nat) (L : List Box) : Prop := o = true → obj G i = some (2, rowsA (i + 1) L) ∧ ∀ (j : Nat) (h : j < L.length), ∃ u : List Int, u.length = L[j].used.length ∧ obj G (i + 1 + j) = some (1, u.map (irow .i64))
theorem HF.app {G K : Heap} {o : Bool} {i n : Nat} (h : HF G o i n) : HF (G ++ K) o i n := fun e => let ⟨L, h1, h2⟩ := h e; ⟨L, h1, obj_app' h2⟩
theorem HR.app {G K : Heap} {o : Bool} {i n : Nat} (h : HR G o i n) : HR (G ++ K) o i n := fun e => let ⟨L, h1, h2⟩ := h e; ⟨L, h1, obj_app' h2⟩
theorem HS.app {G K : Heap} {o : Bool} {i : Nat} {L : List Box} (h : HS G o i L) : HS (G ++ K) o i L := fun e => ⟨obj_app' (h e).1, fun j hj => let ⟨u, h1, h2⟩ := (h e).2 j hj; ⟨u, h1, obj_app' h2⟩⟩
theorem HF.set {G : Heap} {o : Bool} {i n j : Nat} {x : Option (Nat × List Row)} (h : HF G o i n) (e : j ≠ i) : HF (G.set j x) o i n := fun q => let ⟨L, h1, h2⟩ := h q; ⟨L, h1, obj_set' h2 e⟩
theorem HR.set {G : Heap} {o : Bool} {i n j : Nat} {x : Option (Nat × List Row)} (h : HR G o i n) (e : j ≠ i) : HR (G.set j x) o i n := fun q => let ⟨L, h1, h2⟩ := h q; ⟨L, h1, obj_set' h2 e⟩
theorem HS.set {G : Heap} {o : Bool} {i k : Nat} {L : List Box} {x : Option (Nat × List Row)} (h : HS G o i L) (e : o = true → k < i ∨ i + L.length < k) : HS (G.set k x) o i L := fun q => ⟨obj_set' (h q).1 (by have := e q; omega), fun j hj => let ⟨u, h1, h2⟩ := (h q).2 j hj; ⟨u, h1, obj_set' h2 (by have := e q; omega)⟩⟩
theorem HF.upd {G : Heap} {o : Bool} {i n : Nat} {L : List Frm} (hi : i < G.length) (hl : L.length = n) : HF (G.set i (some (3, L.map Frm.row))) o i n := fun _ => ⟨L, hl, ob_self hi (by decide)⟩
theorem HR.upd {G : Heap} {o : Bool} {i n : Nat} {L : List Rm} (hi : i < G.length) (hl : L.length = n) : HR (G.set i (some (2, L.map Rm.row))) o i n := fun _ => ⟨L, hl, ob_self hi (by decide)⟩
theorem HS.upd {G : Heap} {o : Bool} {i : Nat} {L : List Box} (h : HS G o i L) {j : Nat} (hj : j < L.length) {v : List Int} (hv : v.length = L[j].used.length) : HS (G.set (i + 1 + j) (some (1, v.map (irow .i64)))) o i L := fun q => by
  obtain ⟨h1, h2⟩ := h q
  refine ⟨obj_set' h1 (by omega), fun k hk => ?_⟩
  by_cases e : k = j
  · subst e
    obtain ⟨u, _, h3⟩ := h2 k hk
    exact ⟨v, hv, ob_self (obj_lt h3) (by decide)⟩
  · obtain ⟨u, h3, h4⟩ := h2 k hk
    exact ⟨u, h3, obj_set' h4 (by omega)⟩
structure FI (l : List Frm) (N : Int) (m : List Rm) (z : Int) (L : List Box) (o1 o2 o3 o4 o5 o6 : Bool) (n1 n2 n3 n4 : Nat) (N3 N4 z5 z6 : Int) (L5 L6 : List Box) (P Q R : Nat) (G : Heap) : Prop where
  b : FB l N m z L G
  l1 : HF G o1 10 n1
  l2 : HF G o2 11 n2
  l3 : HR G o3 12 n3
  l4 : HR G o4 14 n4
  l5 : HS G o5 16 L5
  l6 : HS G o6 Q L6
  b3 : obj G 13 = some (2, [[.v (.int .i64 N3), okL o3 12 2 n3]])
  b4 : obj G 15 = some (2, [[.v (.int .i64 N4), okL o4 14 2 n4]])
  b5 : obj G P = some (2, [[.v (.int .i64 z5), okL o5 16 2 L5.length]])
  b6 : obj G R = some (2, [[.v (.int .i64 z6), okL o6 Q 2 L6.length]])
  p : 17 ≤ P ∧ (o5 = true → P = 17 + L5.length)
  q : Q = P + 2
  r : Q + 1 ≤ R ∧ (o6 = true → R = Q + 1 + L6.length)
namespace FI
variable {l : List Frm} {N : Int} {m : List Rm} {z : Int} {L : List Box} {o1 o2 o3 o4 o5 o6 : Bool} {n1 n2 n3 n4 : Nat} {N3 N4 z5 z6 : Int} {L5 L6 : List Box} {P Q R : Nat} {G : Heap}
theorem app (h : FI l N m z L o1 o2 o3 o4 o5 o6 n1 n2 n3 n4 N3 N4 z5 z6 L5 L6 P Q R G) (K : Heap) : FI l N m z L o1 o2 o3 o4 o5 o6 n1 n2 n3 n4 N3 N4 z5 z6 L5 L6 P Q R (G ++ K) :=
  ⟨h.b.app K, h.l1.app, h.l2.app, h.l3.app, h.l4.app, h.l5.app, h.l6.app, obj_app' h.b3, obj_app' h.b4, obj_app' h.b5, obj_app' h.b6, h.p, h.q, h.r⟩
theorem len (h : FI l N m z L o1 o2 o3 o4 o5 o6 n1 n2 n3 n4 N3 N4 z5 z6 L5 L6 P Q R G) : 19 < G.length := by
  have := obj_lt h.b6; have := h.p; have := h.q; have := h.r; omega
theorem s1 (h : FI l N m z L o1 o2 o3 o4 o5 o6 n1 n2 n3 n4 N3 N4 z5 z6 L5 L6 P Q R G) {W : List Frm} (hl : W.length = n1) : FI l N m z L o1 o2 o3 o4 o5 o6 n1 n2 n3 n4 N3 N4 z5 z6 L5 L6 P Q R (G.set 10 (some (3, W.map Frm.row))) := by
  have h1 := h.p
  have h2 := h.q
  have h3 := h.r
  exact ⟨h.b.set (by decide) _, HF.upd (by have := h.len; omega) hl, h.l2.set (by decide), h.l3.set (by decide), h.l4.set (by decide), h.l5.set (by omega), h.l6.set (by omega), obj_set' h.b3 (by decide), obj_set' h.b4 (by decide), obj_set' h.b5 (by omega), obj_set' h.b6 (by omega), h.p, h.q, h.r⟩
theorem s2 (h : FI l N m z L o1 o2 o3 o4 o5 o6 n1 n2 n3 n4 N3 N4 z5 z6 L5 L6 P Q R G) {W : List Frm} (hl : W.length = n2) : FI l N m z L o1 o2 o3 o4 o5 o6 n1 n2 n3 n4 N3 N4 z5 z6 L5 L6 P Q R (G.set 11 (some (3, W.map Frm.row))) := by
  have h1 := h.p
  have h2 := h.q
  have h3 := h.r
  exact ⟨h.b.set (by decide) _, h.l1.set (by decide), HF.upd (by have := h.len; omega) hl, h.l3.set (by decide), h.l4.set (by decide), h.l5.set (by omega), h.l6.set (by omega), obj_set' h.b3 (by decide), obj_set' h.b4 (by decide), obj_set' h.b5 (by omega), obj_set' h.b6 (by omega), h.p, h.q, h.r⟩
theorem s3 (h : FI l N m z L o1 o2 o3 o4 o5 o6 n1 n2 n3 n4 N3 N4 z5 z6 L5 L6 P Q R G) {W : List Rm} (hl : W.length = n3) : FI l N m z L o1 o2 o3 o4 o5 o6 n1 n2 n3 n4 N3 N4 z5 z6 L5 L6 P Q R (G.set 12 (some (2, W.map Rm.row))) := by
  have h1 := h.p
  have h2 := h.q
  have h3 := h.r
  exact ⟨h.b.set (by decide) _, h.l1.set (by decide), h.l2.set (by decide), HR.upd (by have := h.len; omega) hl, h.l4.set (by decide), h.l5.set (by omega), h.l6.set (by omega), obj_set' h.b3 (by decide), obj_set' h.b4 (by decide), obj_set' h.b5 (by omega), obj_set' h.b6 (by omega), h.p, h.q, h.r⟩
theorem s4 (h : FI l N m z L o1 o2 o3 o4 o5 o6 n1 n2 n3 n4 N3 N4 z5 z6 L5 L6 P Q R G) {W : List Rm} (hl : W.length = n4) : FI l N m z L o1 o2 o3 o4 o5 o6 n1 n2 n3 n4 N3 N4 z5 z6 L5 L6 P Q R (G.set 14 (some (2, W.map Rm.row))) := by
  have h1 := h.p
  have h2 := h.q
  have h3 := h.r
  exact ⟨h.b.set (by decide) _, h.l1.set (by decide), h.l2.set (by decide), h.l3.set (by decide), HR.upd (by have := h.len; omega) hl, h.l5.set (by omega), h.l6.set (by omega), obj_set' h.b3 (by decide), obj_set' h.b4 (by decide), obj_set' h.b5 (by omega), obj_set' h.b6 (by omega), h.p, h.q, h.r⟩
theorem s5 (h : FI l N m z L o1 o2 o3 o4 true o6 n1 n2 n3 n4 N3 N4 z5 z6 L5 L6 P Q R G) {j : Nat} (hj : j < L5.length) {v : List Int} (hv : v.length = L5[j].used.length) : FI l N m z L o1 o2 o3 o4 true o6 n1 n2 n3 n4 N3 N4 z5 z6 L5 L6 P Q R (G.set (16 + 1 + j) (some (1, v.map (irow .i64)))) := by
  have h1 := h.p.1
  have h1' := h.p.2 rfl
  have h2 := h.q
  have h3 := h.r
  exact ⟨h.b.set (by omega) _, h.l1.set (by omega), h.l2.set (by omega), h.l3.set (by omega), h.l4.set (by omega), h.l5.upd hj hv, h.l6.set (by omega), obj_set' h.b3 (by omega), obj_set' h.b4 (by omega), obj_set' h.b5 (by omega), obj_set' h.b6 (by omega), h.p, h.q, h.r⟩
theorem s6 (h : FI l N m z L o1 o2 o3 o4 o5 true n1 n2 n3 n4 N3 N4 z5 z6 L5 L6 P Q R G) {j : Nat} (hj : j < L6.length) {v : List Int} (hv : v.length = L6[j].used.length) : FI l N m z L o1 o2 o3 o4 o5 true n1 n2 n3 n4 N3 N4 z5 z6 L5 L6 P Q R (G.set (Q + 1 + j) (some (1, v.map (irow .i64)))) := by
  have h1 := h.p
  have h2 := h.q
  have h3 := h.r.1
  have h3' := h.r.2 rfl
  exact ⟨h.b.set (by omega) _, h.l1.set (by omega), h.l2.set (by omega), h.l3.set (by omega), h.l4.set (by omega), h.l5.set (fun e => by have := h.p.2 e; omega), h.l6.upd hj hv, obj_set' h.b3 (by omega), obj_set' h.b4 (by omega), obj_set' h.b5 (by omega), obj_set' h.b6 (by omega), h.p, h.q, h.r⟩
end FI
theorem HS.of {o : Bool} {c : Nat} {L : List Box} {A B : Heap} (hc : c = A.length + 1) : HS (A ++ (sHp o c L ++ B)) o A.length L := fun q => by
  subst q hc
  have e : sHp true (A.length + 1) L = some (2, rowsA (A.length + 1) L) :: tailA L := rfl
  rw [e]
  refine ⟨ob_of (by rw [List.getElem?_append_right (Nat.le_refl _), Nat.sub_self]; rfl) (by decide), fun j hj => ⟨L[j].used, rfl, ob_of ?_ (by decide)⟩⟩
  rw [List.getElem?_append_right (by omega), show A.length + 1 + j - A.length = j + 1 by omega, List.cons_append, List.getElem?_cons_succ, List.getElem?_append_left (by rw [tailA_len]; exact hj)]
  simp [tailA, hj]
theorem sHp_len {o : Bool} {c : Nat} {L : List Box} : 1 ≤ (sHp o c L).length ∧ (o = true → (sHp o c L).length = 1 + L.length) := by
  unfold sHp
  cases o <;> simp [tailA_len]; omega

def pre16 (l : List Frm) (N : Int) (m : List Rm) (z : Int) (L : List Box) (p : Option (Nat × List Row)) (o1 o2 o3 o4 : Bool) (L1 L2 : List Frm) (L3 L4 : List Rm) (n3 n4 : Int) : Heap :=
  [some (1, [[.fsl false 3 (l.map Frm.row)]]), some (2, [[.v (.int .i64 N), .fsl false 2 (m.map Rm.row)]]), some (2, [[.v (.int .i64 z), .fsl false 2 (L.map Box.row)]]), p, oT 3 (l.map Frm.row), oT 2 (m.map Rm.row), some (1, [[oA 4 3 l.length]]), some (1, [[oA 5 2 m.length]]), some (1, [[usA L.length]]), usO L.length L,
    okO o1 3 (L1.map Frm.row), okO o2 3 (L2.map Frm.row), okO o3 2 (L3.map Rm.row), some (2, [[.v (.int .i64 n3), okL o3 12 2 L3.length]]), okO o4 2 (L4.map Rm.row), some (2, [[.v (.int .i64 n4), okL o4 14 2 L4.length]])]
theorem fi_start {l : List Frm} {N : Int} {m : List Rm} {z : Int} {L : List Box} {p y : Option (Nat × List Row)} {o1 o2 o3 o4 o5 o6 : Bool} {L1 L2 : List Frm} {L3 L4 : List Rm} {n3 n4 z5 z6 : Int} {L5 L6 : List Box} :
    FI l N m z L o1 o2 o3 o4 o5 o6 L1.length L2.length L3.length L4.length n3 n4 z5 z6 L5 L6 ((sHp o5 17 L5).length + 16) ((sHp o5 17 L5).length + 18) ((sHp o5 17 L5).length + ((sHp o6 ((sHp o5 17 L5).length + 19) L6).length + 2) + 16)
      (pre16 l N m z L p o1 o2 o3 o4 L1 L2 L3 L4 n3 n4 ++ (sHp o5 17 L5 ++ (some (2, [[.v (.int .i64 z5), okL o5 16 2 L5.length]]) :: y :: (sHp o6 ((sHp o5 17 L5).length + 19) L6 ++ [some (2, [[.v (.int .i64 z6), okL o6 ((sHp o5 17 L5).length + 18) 2 L6.length]])])))) := by
  obtain ⟨k5, k5'⟩ := @sHp_len o5 17 L5
  have hQ : HS (pre16 l N m z L p o1 o2 o3 o4 L1 L2 L3 L4 n3 n4 ++ (sHp o5 17 L5 ++ (some (2, [[.v (.int .i64 z5), okL o5 16 2 L5.length]]) :: y :: (sHp o6 ((sHp o5 17 L5).length + 19) L6 ++ [some (2, [[.v (.int .i64 z6), okL o6 ((sHp o5 17 L5).length + 18) 2 L6.length]])])))) o6 ((sHp o5 17 L5).length + 18) L6 := by
    have := HS.of (o := o6) (c := (sHp o5 17 L5).length + 19) (L := L6) (A := pre16 l N m z L p o1 o2 o3 o4 L1 L2 L3 L4 n3 n4 ++ (sHp o5 17 L5 ++ [some (2, [[.v (.int .i64 z5), okL o5 16 2 L5.length]]), y])) (B := [some (2, [[.v (.int .i64 z6), okL o6 ((sHp o5 17 L5).length + 18) 2 L6.length]])]) (by simp [pre16])
    have hl : (pre16 l N m z L p o1 o2 o3 o4 L1 L2 L3 L4 n3 n4 ++ (sHp o5 17 L5 ++ [some (2, [[.v (.int .i64 z5), okL o5 16 2 L5.length]]), y])).length = (sHp o5 17 L5).length + 18 := by simp [pre16]
    rw [hl] at this
    simpa only [List.append_assoc, List.cons_append, List.nil_append] using this
  generalize hE : (sHp o5 17 L5).length = E at *
  obtain ⟨k6, k6'⟩ := @sHp_len o6 (E + 19) L6
  have hpl : (pre16 l N m z L p o1 o2 o3 o4 L1 L2 L3 L4 n3 n4).length = 16 := rfl
  refine ⟨FB.ofCons, fun e => ⟨L1, rfl, by simp [e, okO, obj, pre16]⟩, fun e => ⟨L2, rfl, by simp [e, okO, obj, pre16]⟩, fun e => ⟨L3, rfl, by simp [e, okO, obj, pre16]⟩, fun e => ⟨L4, rfl, by simp [e, okO, obj, pre16]⟩, ?_, hQ, rfl, rfl, ?_, ?_, ⟨by omega, fun e => by have := k5' e; omega⟩, by omega, ⟨by omega, fun e => by have := k6' e; omega⟩⟩
  · exact HS.of (A := pre16 l N m z L p o1 o2 o3 o4 L1 L2 L3 L4 n3 n4) (c := 17) rfl
  · refine ob_of ?_ (by decide)
    rw [List.getElem?_append_right (by omega), List.getElem?_append_right (by omega), hpl, hE, show E + 16 - 16 - E = 0 by omega]; rfl
  · refine ob_of ?_ (by decide)
    rw [List.getElem?_append_right (by omega), List.getElem?_append_right (by omega), hpl, hE, show E + ((sHp o6 (E + 19) L6).length + 2) + 16 - 16 - E = (sHp o6 (E + 19) L6).length + 1 + 1 by omega, List.getElem?_cons_succ, List.getElem?_cons_succ, List.getElem?_append_right (Nat.le_refl _), Nat.sub_self]; rfl

theorem frameOwn_pure : PureOk Try.prog 5 (argM (cSl rFrm) fun l => argM (cInt .i64) fun n => argM (cAgg rTwn) fun t => argM (cInt .i64) fun at_ => argM (cInt .i64) fun ord => argM (cAgg rSlb) fun s => argM (cAgg rPlace) fun p => finM (if (l.length ≤ 1048576 ∧ t.free.length ≤ 1048576 ∧ s.boxes.length ≤ 1048576 ∧ ∀ x ∈ s.boxes, x.used.length ≤ 1048576) ∧ okS s then some (.v (.bool true)) else none)) := by
  refine pure7 Try.func5 rfl ?_
  rintro l n t at_ ord s p r hr
  by_cases hc : (l.length ≤ 1048576 ∧ t.free.length ≤ 1048576 ∧ s.boxes.length ≤ 1048576 ∧ ∀ x ∈ s.boxes, x.used.length ≤ 1048576) ∧ okS s
  case neg => rw [if_neg hc] at hr; cases hr
  rw [if_pos hc] at hr
  simp only [Option.some.injEq] at hr
  subst hr
  refine body_gen (((((((((((((((noOrc_ok.withP frames_pure).withP twins_pure).withP slabs_pure).withP clIntP).withP sameF_pure).withI frHold_inl).withI frLet_inl).withI twTake_inl).withI twGive_inl).withI slTake_inl).withI slGive_inl).withIF frCU cloneU_loc).withIF rmCU cloneU_loc).withD (fun i => if i = 3 then [(1000001,114),(1,3),(0,5),(3,5),(0,6),(3,6)] else if i = 8 then [(0,4)] else [])).withA (fun i => if i = 3 then [0,1,2,3,4,5,6,7,8,0,1,2,3,4,6,5,7,8,0,1,2,3,5,4,6,7,8,0,1,2,3,5,6,4,7,8,0,1,2,3,6,4,5,7,8,0,1,2,3,6,5,4,7,8,0,2,3,5,1,4,6,7,8,0,2,3,5,1,6,4,7,8,0,2,3,5,6,1,4,7,8,0,2,3,6,1,4,5,7,8,0,2,3,6,1,5,4,7,8,0,2,3,6,5,1,4,7,8] else [])) fxMix (by kernel_rfl) (by simp [Try.ntmps5]) ?_
  intro C cP cI cN cD cF cA cR cL
  have cp0 := orcP frames_pure (C := C) (by rw [cP]; rfl)
  have cp1 := orcP twins_pure (C := C) (by rw [cP]; rfl)
  have cp2 := orcP slabs_pure (C := C) (by rw [cP]; rfl)
  have cp3 := orcP clIntP (C := C) (by rw [cP]; rfl)
  have ch0 := orcP sameF_pure (C := C) (by rw [cP]; rfl)
  have cn0 := orcI frHold_inl (C := C) (by rw [cN]; rfl)
  have cn1 := orcI frLet_inl (C := C) (by rw [cN]; rfl)
  have cn2 := orcI twTake_inl (C := C) (by rw [cN]; rfl)
  have cn3 := orcI twGive_inl (C := C) (by rw [cN]; rfl)
  have cn4 := orcI slTake_inl (C := C) (by rw [cN]; rfl)
  have cn5 := orcI slGive_inl (C := C) (by rw [cN]; rfl)
  have cn6 := orcI frCU (C := C) (by rw [cN]; rfl)
  have cn7 := orcI rmCU (C := C) (by rw [cN]; rfl)
  replace cI := fun g => congrFun cI g
  simp only [Orc.withP, Orc.withI, Orc.withF, Orc.withD, Orc.withA, Orc.withR, Orc.withC, noOrc] at cI
  replace cR : C.rd = fun _ => none := cR
  replace cD : C.dyn = fun i => if i = 3 then [(1000001,114),(1,3),(0,5),(3,5),(0,6),(3,6)] else if i = 8 then [(0,4)] else [] := cD
  replace cF := fun g => congrFun cF g
  simp only [Orc.withP, Orc.withI, Orc.withF, Orc.withD, Orc.withA, Orc.withR, Orc.withC, noOrc] at cF
  replace cA : C.alt = fun i => if i = 3 then [0,1,2,3,4,5,6,7,8,0,1,2,3,4,6,5,7,8,0,1,2,3,5,4,6,7,8,0,1,2,3,5,6,4,7,8,0,1,2,3,6,4,5,7,8,0,1,2,3,6,5,4,7,8,0,2,3,5,1,4,6,7,8,0,2,3,5,1,6,4,7,8,0,2,3,5,6,1,4,7,8,0,2,3,6,1,4,5,7,8,0,2,3,6,1,5,4,7,8,0,2,3,6,5,1,4,7,8] else [] := cA
  clear cP cN
  obtain ⟨N, m⟩ := t
  obtain ⟨z, L⟩ := s
  obtain ⟨pf, pa⟩ := p
  obtain ⟨⟨hl, hm, hL, hu⟩, hok⟩ := hc
  simp only at hl hm hL hu
  have hl2 : (l.map Frm.row).length ≤ 4294967296 := by simp; omega
  have hm2 : (m.map Rm.row).length ≤ 4294967296 := by simp; omega
  have u1 : ∀ (o : Bool) (H : Heap), cloneU 3 [.fsl o 3 (l.map Frm.row)] H = some (oA H.length 3 l.length, H ++ [oT 3 (l.map Frm.row)]) := fun o H => by rw [cloneU_fsl (by decide) hl2]; simp
  have u2 : ∀ (o : Bool) (H : Heap), cloneU 2 [.fsl o 2 (m.map Rm.row)] H = some (oA H.length 2 m.length, H ++ [oT 2 (m.map Rm.row)]) := fun o H => by rw [cloneU_fsl (by decide) hm2]; simp
  have hnm : ¬ Try.f47.name = "runtime.NumGoroutine" := by decide
  have hsame : ∀ G, FB l N m z L G → C.pure 47 [cold (view G 4 (.ptr 2 2 0 0)), cold (view G 4 (.ptr 8 1 0 0)), cold (view G 4 (.ptr 0 1 0 0)), cold (view G 4 (.ptr 6 1 0 0)), cold (view G 4 (.ptr 1 2 0 0)), cold (view G 4 (.ptr 7 1 0 0))] = some (.v (.bool true)) := by
    intro G hb
    rw [ch0]
    simp only [argM, hb.d0, hb.d1, hb.d2, hb.d6, hb.d7, hb.d8, finM]
    rw [if_pos ⟨by simp, by omega, fun x hx => by have := hu x hx; omega, by omega, by omega⟩]
  have hs0 := fun x K => hsame _ (@FB.ofCons l N m z L x K)
  simp [Try.ntmps5, Try.results5, cSl, cp0, cp1, cp2, cp3, cn0, cn1, cn2, cn3, cn4, cn5, cn6, cn7, cI, cD, cR, cF, cA, -view, -cold, -cellsOf, rFrm, frmDec, Frm.row, rTwn, twnDec, Twn.row, rRm, rmDec, Rm.row, rSlb, slbDec, Slb.row, rBox, boxDec, Box.row, rPlace, placeDec, Place.row, u1, u2]
  refine ⟨([(1, .v (.int .i64 n)), (3, .v (.int .i64 at_)), (4, .v (.int .i64 ord)), (7, .ptr 0 1 0 0), (9, .ptr 1 2 0 0), (12, .ptr 2 2 0 0), (13, .ptr 3 2 0 0), (15, .ptr 6 1 0 0), (16, .ptr 7 1 0 0)], [some (1, [[.fsl false 3 (l.map Frm.row)]]), some (2, [[.v (.int .i64 N), .fsl false 2 (m.map Rm.row)]]), some (2, [[.v (.int .i64 z), .fsl false 2 (L.map Box.row)]]), some (2, [[.v (.int .i64 pf), .v (.int .i64 pa)]]), oT 3 (l.map Frm.row), oT 2 (m.map Rm.row), some (1, [[oA 4 3 l.length]]), some (1, [[oA 5 2 m.length]])]), ?_, ?_⟩
  · simp [Try.ntmps5, Try.results5, cSl, cp0, cp1, cp2, cp3, cn0, cn1, cn2, cn3, cn4, cn5, cn6, cn7, cI, cD, cR, cF, cA, -view, -cold, -cellsOf, -tauO, rFrm, frmDec, Frm.row, rTwn, twnDec, Twn.row, rRm, rmDec, Rm.row, rSlb, slbDec, Slb.row, rBox, boxDec, Box.row, rPlace, placeDec, Place.row, u1, u2]
    refine loop_forE L.length (fun k (_ : Unit) => ([(1, .v (.int .i64 n)), (3, .v (.int .i64 at_)), (4, .v (.int .i64 ord)), (7, .ptr 0 1 0 0), (9, .ptr 1 2 0 0), (12, .ptr 2 2 0 0), (13, .ptr 3 2 0 0), (15, .ptr 6 1 0 0), (16, .ptr 7 1 0 0), (17, .ptr 8 1 0 0), (65, .fsl false 2 (L.map Box.row)), (66, .v (.int .i64 L.length)), (67, .v (.int .i64 k))], [some (1, [[.fsl false 3 (l.map Frm.row)]]), some (2, [[.v (.int .i64 N), .fsl false 2 (m.map Rm.row)]]), some (2, [[.v (.int .i64 z), .fsl false 2 (L.map Box.row)]]), some (2, [[.v (.int .i64 pf), .v (.int .i64 pa)]]), oT 3 (l.map Frm.row), oT 2 (m.map Rm.row), some (1, [[oA 4 3 l.length]]), some (1, [[oA 5 2 m.length]]), some (1, [[usA k]]), usO k L])) (fun _ _ => True) () (fun k _ hk _ => by omega) trivial ?_ ?_ ?_
    · refine Ent.weak ?_
      by_cases hl0 : l = [] <;> by_cases hm0 : m = [] <;> simp [usA, usO, oT, oA, hl0, hm0, Frm.row, Rm.row, lowA, lowC]
    · rintro k _ hk _ hw
      have hu1 := hu _ (List.getElem_mem hk)
      have hu2 : L[k].used.length ≤ 4294967296 := by omega
      have hut := usR_take hk
      have hul : (usR (L.take k)).length = k := by simp [usR]; omega
      by_cases hk0 : k = 0
      · subst hk0
        simp [Try.ntmps5, Try.results5, cSl, cp0, cp1, cp2, cp3, cn0, cn1, cn2, cn3, cn4, cn5, cn6, cn7, cI, cD, cR, cF, cA, -view, -cold, -cellsOf, -tauO, rFrm, frmDec, Frm.row, rTwn, twnDec, Twn.row, rRm, rmDec, Rm.row, rSlb, slbDec, Slb.row, rBox, boxDec, Box.row, rPlace, placeDec, Place.row, hk, hw, hu2, usA, usO, view, cold, rI]
        simp only [Nat.zero_add] at hut
        refine ⟨(), trivial, Ent.weakT (th := [0, 1, 2, 3, 4, 5, 6, 7, 8, 12]) ?_⟩
        by_cases hl0 : l = [] <;> by_cases hm0 : m = [] <;> simp [hut, oT, oA, usR_nil, usR_ren, usR_low, irow, hl0, hm0, Frm.row, Rm.row, lowA, lowC]
      · have hk1 : ¬ k + 1 ≤ k := by omega
        have hk2 : k + 1 ≤ 4294967296 := by omega
        simp [Try.ntmps5, Try.results5, cSl, cp0, cp1, cp2, cp3, cn0, cn1, cn2, cn3, cn4, cn5, cn6, cn7, cI, cD, cR, cF, cA, -view, -cold, -cellsOf, -tauO, rFrm, frmDec, Frm.row, rTwn, twnDec, Twn.row, rRm, rmDec, Rm.row, rSlb, slbDec, Slb.row, rBox, boxDec, Box.row, rPlace, placeDec, Place.row, hk, hw, hu2, usA, usO, hk0, hul, hk1, hk2, view, cold, rI]
        refine ⟨(), trivial, Ent.weakT (th := [0, 1, 2, 3, 4, 5, 6, 7, 8, 12]) ?_⟩
        by_cases hl0 : l = [] <;> by_cases hm0 : m = [] <;> simp [hut, oT, oA, usR_nil, usR_ren, usR_low, irow, hl0, hm0, Frm.row, Rm.row, lowA, lowC]
    · rintro _ _
      obtain ⟨⟨o1, L1, e1⟩, hq1⟩ : ∃ q, frX (frHold l n) = q := ⟨_, rfl⟩
      obtain ⟨⟨o2, L2, e2⟩, hq2⟩ : ∃ q, frX (frLet l n) = q := ⟨_, rfl⟩
      obtain ⟨⟨o3, n3, L3, a3, e3⟩, hq3⟩ : ∃ q, tkX (twTake ⟨N, m⟩ ord) = q := ⟨_, rfl⟩
      obtain ⟨⟨o4, n4, L4, e4⟩, hq4⟩ : ∃ q, twX (twGive ⟨N, m⟩ at_ ord) = q := ⟨_, rfl⟩
      obtain ⟨⟨o5, ⟨z5, L5⟩, p5, b5, e5⟩, hq5⟩ : ∃ q, skX (slTake ⟨z, L⟩ n) = q := ⟨_, rfl⟩
      obtain ⟨⟨o6, ⟨z6, L6⟩, b6, e6⟩, hq6⟩ : ∃ q, giX (slGive ⟨z, L⟩ ⟨pf, pa⟩) = q := ⟨_, rfl⟩
      simp [Try.ntmps5, Try.results5, cSl, cp0, cp1, cp2, cp3, cn0, cn1, cn2, cn3, cn4, cn5, cn6, cn7, cI, cD, cR, cF, cA, -view, -cold, -cellsOf, -tauO, rFrm, frmDec, Frm.row, rTwn, twnDec, Twn.row, rRm, rmDec, Rm.row, rSlb, slbDec, Slb.row, rBox, boxDec, Box.row, rPlace, placeDec, Place.row, frU, ltU, tkU, twU, skU, giU, hq1, hq2, hq3, hq4, hq5, hq6, hok, hnm, vwL, vwT, vwS, vwP, vwV, sHp_bare, sHp_tau, hs0]
      have hfi := @fi_start l N m z L (some (2, [[.v (.int .i64 pf), .v (.int .i64 pa)]])) (some (2, [[.v (.int .i64 p5.frame), .v (.int .i64 p5.at_)]])) o1 o2 o3 o4 o5 o6 L1 L2 L3 L4 n3 n4 z5 z6 L5 L6
      have hb1 : L1.length ≤ 4294967296 := by have := @frH_len l n; rw [hq1] at this; simp only at this; omega
      have hb2 : L2.length ≤ 4294967296 := by have := @frLt_len l n; rw [hq2] at this; simp only at this; omega
      have hb3 : L3.length ≤ 4294967296 := by have := @tk_len ⟨N, m⟩ ord; rw [hq3] at this; simp only at this; omega
      have hb4 : L4.length ≤ 4294967296 := by have := @tw_len ⟨N, m⟩ at_ ord; rw [hq4] at this; simp only at this; omega
      have hb5 := @sk_len ⟨z, L⟩ n hu
      rw [hq5] at hb5
      simp only at hb5
      have hb6 := @gi_len ⟨z, L⟩ ⟨pf, pa⟩ hu
      rw [hq6] at hb6
      simp only at hb6
      have hub5 : ∀ (j : Nat) (hj : j < L5.length), L5[j].used.length ≤ 4294967296 := fun j hj => by have := hb5.2 _ (List.getElem_mem hj); omega
      have hub6 : ∀ (j : Nat) (hj : j < L6.length), L6[j].used.length ≤ 4294967296 := fun j hj => by have := hb6.2 _ (List.getElem_mem hj); omega
      replace hb5 : L5.length ≤ 4294967296 := by have := hb5.1; omega
      replace hb6 : L6.length ≤ 4294967296 := by have := hb6.1; omega
      clear hq1 hq2 hq3 hq4 hq5 hq6
      generalize hP : (sHp o5 17 L5).length + 16 = P at hfi
      generalize hQ : (sHp o5 17 L5).length + 18 = Q at hfi
      generalize hR : (sHp o5 17 L5).length + ((sHp o6 ((sHp o5 17 L5).length + 19) L6).length + 2) + 16 = R at hfi
      refine loop_forE 2 (fun k (G : Heap) => ([(20, .fn 47 [.ptr 2 2 0 0, .ptr 8 1 0 0, .ptr 0 1 0 0, .ptr 6 1 0 0, .ptr 1 2 0 0, .ptr 7 1 0 0]), (26, .ptr 13 2 0 0), (29, .ptr 15 2 0 0), (31, .ptr P 2 0 0), (35, .ptr R 2 0 0), (38, .v (.bool true)), (125, .agg [(okL o1 10 3 L1.length), (okL o2 11 3 L2.length)]), (126, .v (.int .i64 k))], G)) (fun k G => FI l N m z L o1 o2 o3 o4 o5 o6 L1.length L2.length L3.length L4.length n3 n4 z5 z6 L5 L6 P Q R G) _ (fun k _ hk _ => by omega) hfi ?_ ?_ ?_
      · subst hP hQ hR
        refine Ent.env fun p hp => ?_
        simp only [List.mem_cons, List.not_mem_nil, or_false] at hp
        rcases hp with rfl | rfl | rfl | rfl | rfl | rfl | rfl | rfl <;> rfl
      · clear hfi hP hQ hR
        rintro k G hk hp hw
        rcases (by omega : k = 0 ∨ k = 1) with rfl | rfl
        · cases o1 with
          | false =>
            simp [Try.ntmps5, Try.results5, cSl, cp0, cp1, cp2, cp3, cn0, cn1, cn2, cn3, cn4, cn5, cn6, cn7, cI, cD, cR, cF, cA, -view, -cold, -cellsOf, -oneA, -allOneA, one_esl, one_osl, one_int, allOne_nil, allOne_cons, cells_okc, okLf]
            refine loop_forE 0 (fun j (_ : Unit) => ([(20, .fn 47 [.ptr 2 2 0 0, .ptr 8 1 0 0, .ptr 0 1 0 0, .ptr 6 1 0 0, .ptr 1 2 0 0, .ptr 7 1 0 0]), (26, .ptr 13 2 0 0), (29, .ptr 15 2 0 0), (31, .ptr P 2 0 0), (35, .ptr R 2 0 0), (38, .v (.bool true)), (40, .esl), (125, .agg [(okL false 10 3 L1.length), (okL o2 11 3 L2.length)]), (126, .v (.int .i64 0)), (130, .v (.int .i64 0)), (131, .v (.int .i64 j))], G)) (fun j _ => True) () (fun j _ hj _ => by omega) trivial ?_ (fun j _ hj => by omega) ?_
            · exact Ent.env (by simp [okLf])
            rintro _ _
            simp [Try.ntmps5, Try.results5, cSl, cp0, cp1, cp2, cp3, cn0, cn1, cn2, cn3, cn4, cn5, cn6, cn7, cI, cD, cR, cF, cA, -view, -cold, -cellsOf, -oneA, -allOneA, one_esl, one_osl, one_int, allOne_nil, allOne_cons, cells_okc, okLf]
            exact ⟨_, hp, Ent.env (by simp [okLf])⟩
          | true =>
            simp [Try.ntmps5, Try.results5, cSl, cp0, cp1, cp2, cp3, cn0, cn1, cn2, cn3, cn4, cn5, cn6, cn7, cI, cD, cR, cF, cA, -view, -cold, -cellsOf, -oneA, -allOneA, one_esl, one_osl, one_int, allOne_nil, allOne_cons, cells_okc, okLt]
            refine loop_forE L1.length (fun j (X : Heap) => ([(20, .fn 47 [.ptr 2 2 0 0, .ptr 8 1 0 0, .ptr 0 1 0 0, .ptr 6 1 0 0, .ptr 1 2 0 0, .ptr 7 1 0 0]), (26, .ptr 13 2 0 0), (29, .ptr 15 2 0 0), (31, .ptr P 2 0 0), (35, .ptr R 2 0 0), (38, .v (.bool true)), (40, .osl 10 3 0 L1.length L1.length), (125, .agg [(okL true 10 3 L1.length), (okL o2 11 3 L2.length)]), (126, .v (.int .i64 0)), (130, .v (.int .i64 L1.length)), (131, .v (.int .i64 j))], X)) (fun j X => FI l N m z L true o2 o3 o4 o5 o6 L1.length L2.length L3.length L4.length n3 n4 z5 z6 L5 L6 P Q R X) G (fun j _ hj _ => by omega) hp ?_ ?_ ?_
            · exact Ent.env (by simp [okLt])
            · rintro j X hj hp hw2
              obtain ⟨W, hW, hob⟩ := hp.l1 rfl
              have hg := obj_get hob
              have hi := obj_lt hob
              have hgi := (List.getElem?_eq_some_iff.1 hg).2
              have hjW : j < W.length := by omega
              simp [Try.ntmps5, Try.results5, cSl, cp0, cp1, cp2, cp3, cn0, cn1, cn2, cn3, cn4, cn5, cn6, cn7, cI, cD, cR, cF, cA, -view, -cold, -cellsOf, -oneA, -allOneA, one_esl, one_osl, one_int, allOne_nil, allOne_cons, cells_okc, okLt, hw2, hg, hW, hj, hjW, hi, hgi, Frm.row]
              refine ⟨X.set 10 (some (3, (W.set j ⟨W[j].st, W[j].ow, IntKind.i64.wrap (W[j].ct + 1)⟩).map Frm.row)), hp.s1 (by rw [List.length_set]; exact hW), ?_⟩
              rw [List.map_set]
              exact Ent.env (by simp [okLt])
            · rintro X hp
              simp [Try.ntmps5, Try.results5, cSl, cp0, cp1, cp2, cp3, cn0, cn1, cn2, cn3, cn4, cn5, cn6, cn7, cI, cD, cR, cF, cA, -view, -cold, -cellsOf, -oneA, -allOneA, one_esl, one_osl, one_int, allOne_nil, allOne_cons, cells_okc, okLt]
              exact ⟨_, hp, Ent.env (by simp [okLt])⟩
        · cases o2 with
          | false =>
            simp [Try.ntmps5, Try.results5, cSl, cp0, cp1, cp2, cp3, cn0, cn1, cn2, cn3, cn4, cn5, cn6, cn7, cI, cD, cR, cF, cA, -view, -cold, -cellsOf, -oneA, -allOneA, one_esl, one_osl, one_int, allOne_nil, allOne_cons, cells_okc, okLf]
            refine loop_forE 0 (fun j (_ : Unit) => ([(20, .fn 47 [.ptr 2 2 0 0, .ptr 8 1 0 0, .ptr 0 1 0 0, .ptr 6 1 0 0, .ptr 1 2 0 0, .ptr 7 1 0 0]), (26, .ptr 13 2 0 0), (29, .ptr 15 2 0 0), (31, .ptr P 2 0 0), (35, .ptr R 2 0 0), (38, .v (.bool true)), (40, .esl), (125, .agg [(okL o1 10 3 L1.length), (okL false 11 3 L2.length)]), (126, .v (.int .i64 1)), (130, .v (.int .i64 0)), (131, .v (.int .i64 j))], G)) (fun j _ => True) () (fun j _ hj _ => by omega) trivial ?_ (fun j _ hj => by omega) ?_
            · exact Ent.env (by simp [okLf])
            rintro _ _
            simp [Try.ntmps5, Try.results5, cSl, cp0, cp1, cp2, cp3, cn0, cn1, cn2, cn3, cn4, cn5, cn6, cn7, cI, cD, cR, cF, cA, -view, -cold, -cellsOf, -oneA, -allOneA, one_esl, one_osl, one_int, allOne_nil, allOne_cons, cells_okc, okLf]
            exact ⟨_, hp, Ent.env (by simp [okLf])⟩
          | true =>
            simp [Try.ntmps5, Try.results5, cSl, cp0, cp1, cp2, cp3, cn0, cn1, cn2, cn3, cn4, cn5, cn6, cn7, cI, cD, cR, cF, cA, -view, -cold, -cellsOf, -oneA, -allOneA, one_esl, one_osl, one_int, allOne_nil, allOne_cons, cells_okc, okLt]
            refine loop_forE L2.length (fun j (X : Heap) => ([(20, .fn 47 [.ptr 2 2 0 0, .ptr 8 1 0 0, .ptr 0 1 0 0, .ptr 6 1 0 0, .ptr 1 2 0 0, .ptr 7 1 0 0]), (26, .ptr 13 2 0 0), (29, .ptr 15 2 0 0), (31, .ptr P 2 0 0), (35, .ptr R 2 0 0), (38, .v (.bool true)), (40, .osl 11 3 0 L2.length L2.length), (125, .agg [(okL o1 10 3 L1.length), (okL true 11 3 L2.length)]), (126, .v (.int .i64 1)), (130, .v (.int .i64 L2.length)), (131, .v (.int .i64 j))], X)) (fun j X => FI l N m z L o1 true o3 o4 o5 o6 L1.length L2.length L3.length L4.length n3 n4 z5 z6 L5 L6 P Q R X) G (fun j _ hj _ => by omega) hp ?_ ?_ ?_
            · exact Ent.env (by simp [okLt])
            · rintro j X hj hp hw2
              obtain ⟨W, hW, hob⟩ := hp.l2 rfl
              have hg := obj_get hob
              have hi := obj_lt hob
              have hgi := (List.getElem?_eq_some_iff.1 hg).2
              have hjW : j < W.length := by omega
              simp [Try.ntmps5, Try.results5, cSl, cp0, cp1, cp2, cp3, cn0, cn1, cn2, cn3, cn4, cn5, cn6, cn7, cI, cD, cR, cF, cA, -view, -cold, -cellsOf, -oneA, -allOneA, one_esl, one_osl, one_int, allOne_nil, allOne_cons, cells_okc, okLt, hw2, hg, hW, hj, hjW, hi, hgi, Frm.row]
              refine ⟨X.set 11 (some (3, (W.set j ⟨W[j].st, W[j].ow, IntKind.i64.wrap (W[j].ct + 1)⟩).map Frm.row)), hp.s2 (by rw [List.length_set]; exact hW), ?_⟩
              rw [List.map_set]
              exact Ent.env (by simp [okLt])
            · rintro X hp
              simp [Try.ntmps5, Try.results5, cSl, cp0, cp1, cp2, cp3, cn0, cn1, cn2, cn3, cn4, cn5, cn6, cn7, cI, cD, cR, cF, cA, -view, -cold, -cellsOf, -oneA, -allOneA, one_esl, one_osl, one_int, allOne_nil, allOne_cons, cells_okc, okLt]
              exact ⟨_, hp, Ent.env (by simp [okLt])⟩
      · clear hfi hP hQ hR
        rintro G hp
        have e13 := obj_get hp.b3
        have e15 := obj_get hp.b4
        have g13 := (List.getElem?_eq_some_iff.1 e13).2
        have g15 := (List.getElem?_eq_some_iff.1 e15).2
        have gl := hp.len
        have gl13 : 13 < G.length := by omega
        have gl15 : 15 < G.length := by omega
        simp [Try.ntmps5, Try.results5, cSl, cp0, cp1, cp2, cp3, cn0, cn1, cn2, cn3, cn4, cn5, cn6, cn7, cI, cD, cR, cF, cA, -view, -cold, -cellsOf, -oneA, -allOneA, one_esl, one_osl, one_int, allOne_nil, allOne_cons, cells_okc, e13, e15, g13, g15, gl13, gl15]
        refine loop_forE 2 (fun k (G : Heap) => ([(20, .fn 47 [.ptr 2 2 0 0, .ptr 8 1 0 0, .ptr 0 1 0 0, .ptr 6 1 0 0, .ptr 1 2 0 0, .ptr 7 1 0 0]), (31, .ptr P 2 0 0), (35, .ptr R 2 0 0), (38, .v (.bool true)), (146, .agg [.v (.int .i64 n3), (okL o3 12 2 L3.length), .v (.int .i64 n4), (okL o4 14 2 L4.length)]), (147, .v (.int .i64 k))], G)) (fun k G => FI l N m z L o1 o2 o3 o4 o5 o6 L1.length L2.length L3.length L4.length n3 n4 z5 z6 L5 L6 P Q R G) G (fun k _ hk _ => by omega) hp ?_ ?_ ?_
        · exact Ent.env (by simp)
        · clear e13 e15 g13 g15 gl gl13 gl15
          rintro k G hk hp hw
          rcases (by omega : k = 0 ∨ k = 1) with rfl | rfl
          · cases o3 with
            | false =>
              simp [Try.ntmps5, Try.results5, cSl, cp0, cp1, cp2, cp3, cn0, cn1, cn2, cn3, cn4, cn5, cn6, cn7, cI, cD, cR, cF, cA, -view, -cold, -cellsOf, -oneA, -allOneA, one_esl, one_osl, one_int, allOne_nil, allOne_cons, cells_okc, okLf]
              refine loop_forE 0 (fun j (_ : Unit) => ([(20, .fn 47 [.ptr 2 2 0 0, .ptr 8 1 0 0, .ptr 0 1 0 0, .ptr 6 1 0 0, .ptr 1 2 0 0, .ptr 7 1 0 0]), (31, .ptr P 2 0 0), (35, .ptr R 2 0 0), (38, .v (.bool true)), (43, .ptr G.length 2 0 0), (146, .agg [.v (.int .i64 n3), (okL false 12 2 L3.length), .v (.int .i64 n4), (okL o4 14 2 L4.length)]), (147, .v (.int .i64 0)), (152, .v (.int .i64 0)), (153, .v (.int .i64 j))], G ++ [some (2, [[.v (.int .i64 n3), .esl]])])) (fun j _ => True) () (fun j _ hj _ => by omega) trivial ?_ (fun j _ hj => by omega) ?_
              · exact Ent.env (by simp [okLf])
              rintro _ _
              simp [Try.ntmps5, Try.results5, cSl, cp0, cp1, cp2, cp3, cn0, cn1, cn2, cn3, cn4, cn5, cn6, cn7, cI, cD, cR, cF, cA, -view, -cold, -cellsOf, -oneA, -allOneA, one_esl, one_osl, one_int, allOne_nil, allOne_cons, cells_okc, okLf]
              exact ⟨_, hp.app _, Ent.env (by simp [okLf])⟩
            | true =>
              simp [Try.ntmps5, Try.results5, cSl, cp0, cp1, cp2, cp3, cn0, cn1, cn2, cn3, cn4, cn5, cn6, cn7, cI, cD, cR, cF, cA, -view, -cold, -cellsOf, -oneA, -allOneA, one_esl, one_osl, one_int, allOne_nil, allOne_cons, cells_okc, okLt]
              refine loop_forE L3.length (fun j (X : Heap) => ([(20, .fn 47 [.ptr 2 2 0 0, .ptr 8 1 0 0, .ptr 0 1 0 0, .ptr 6 1 0 0, .ptr 1 2 0 0, .ptr 7 1 0 0]), (31, .ptr P 2 0 0), (35, .ptr R 2 0 0), (38, .v (.bool true)), (43, .ptr G.length 2 0 0), (146, .agg [.v (.int .i64 n3), (okL true 12 2 L3.length), .v (.int .i64 n4), (okL o4 14 2 L4.length)]), (147, .v (.int .i64 0)), (152, .v (.int .i64 L3.length)), (153, .v (.int .i64 j))], X ++ [some (2, [[.v (.int .i64 n3), .osl 12 2 0 L3.length L3.length]])])) (fun j X => FI l N m z L o1 o2 true o4 o5 o6 L1.length L2.length L3.length L4.length n3 n4 z5 z6 L5 L6 P Q R X ∧ X.length = G.length) G (fun j _ hj _ => by omega) ⟨hp, rfl⟩ ?_ ?_ ?_
              · exact Ent.env (by simp [okLt])
              · rintro j X hj ⟨hp, hXl⟩ hw2
                obtain ⟨W, hW, hob⟩ := hp.l3 rfl
                have hg := obj_get hob
                have hi := obj_lt hob
                have hgi := (List.getElem?_eq_some_iff.1 hg).2
                have hjW : j < W.length := by omega
                have eX : ∀ o : Option (Nat × List Row), (X ++ [o])[G.length]? = some o := fun o => by rw [← hXl]; simp
                have eW : ∀ o : Option (Nat × List Row), (X ++ [o])[12]? = some (some (2, W.map Rm.row)) := fun o => by rw [List.getElem?_append_left hi]; exact hg
                simp [Try.ntmps5, Try.results5, cSl, cp0, cp1, cp2, cp3, cn0, cn1, cn2, cn3, cn4, cn5, cn6, cn7, cI, cD, cR, cF, cA, -view, -cold, -cellsOf, -oneA, -allOneA, one_esl, one_osl, one_int, allOne_nil, allOne_cons, cells_okc, okLt, hw2, eX, eW, hW, hj, hjW, hXl, hi, hgi, Rm.row]
                refine ⟨X.set 12 (some (2, (W.set j ⟨IntKind.i64.wrap (W[j].at_ + 1), W[j].order⟩).map Rm.row)), ⟨hp.s3 (by rw [List.length_set]; exact hW), by rw [List.length_set]; exact hXl⟩, ?_⟩
                dsimp only
                rw [List.map_set, ← List.set_append_left _ _ hi]
                exact Ent.env (by simp [okLt])
              · rintro X ⟨hp, hXl⟩
                simp [Try.ntmps5, Try.results5, cSl, cp0, cp1, cp2, cp3, cn0, cn1, cn2, cn3, cn4, cn5, cn6, cn7, cI, cD, cR, cF, cA, -view, -cold, -cellsOf, -oneA, -allOneA, one_esl, one_osl, one_int, allOne_nil, allOne_cons, cells_okc, okLt]
                exact ⟨_, hp.app _, Ent.env (by simp [okLt])⟩
          · cases o4 with
            | false =>
              simp [Try.ntmps5, Try.results5, cSl, cp0, cp1, cp2, cp3, cn0, cn1, cn2, cn3, cn4, cn5, cn6, cn7, cI, cD, cR, cF, cA, -view, -cold, -cellsOf, -oneA, -allOneA, one_esl, one_osl, one_int, allOne_nil, allOne_cons, cells_okc, okLf]
              refine loop_forE 0 (fun j (_ : Unit) => ([(20, .fn 47 [.ptr 2 2 0 0, .ptr 8 1 0 0, .ptr 0 1 0 0, .ptr 6 1 0 0, .ptr 1 2 0 0, .ptr 7 1 0 0]), (31, .ptr P 2 0 0), (35, .ptr R 2 0 0), (38, .v (.bool true)), (43, .ptr G.length 2 0 0), (146, .agg [.v (.int .i64 n3), (okL o3 12 2 L3.length), .v (.int .i64 n4), (okL false 14 2 L4.length)]), (147, .v (.int .i64 1)), (152, .v (.int .i64 0)), (153, .v (.int .i64 j))], G ++ [some (2, [[.v (.int .i64 n4), .esl]])])) (fun j _ => True) () (fun j _ hj _ => by omega) trivial ?_ (fun j _ hj => by omega) ?_
              · exact Ent.env (by simp [okLf])
              rintro _ _
              simp [Try.ntmps5, Try.results5, cSl, cp0, cp1, cp2, cp3, cn0, cn1, cn2, cn3, cn4, cn5, cn6, cn7, cI, cD, cR, cF, cA, -view, -cold, -cellsOf, -oneA, -allOneA, one_esl, one_osl, one_int, allOne_nil, allOne_cons, cells_okc, okLf]
              exact ⟨_, hp.app _, Ent.env (by simp [okLf])⟩
            | true =>
              simp [Try.ntmps5, Try.results5, cSl, cp0, cp1, cp2, cp3, cn0, cn1, cn2, cn3, cn4, cn5, cn6, cn7, cI, cD, cR, cF, cA, -view, -cold, -cellsOf, -oneA, -allOneA, one_esl, one_osl, one_int, allOne_nil, allOne_cons, cells_okc, okLt]
              refine loop_forE L4.length (fun j (X : Heap) => ([(20, .fn 47 [.ptr 2 2 0 0, .ptr 8 1 0 0, .ptr 0 1 0 0, .ptr 6 1 0 0, .ptr 1 2 0 0, .ptr 7 1 0 0]), (31, .ptr P 2 0 0), (35, .ptr R 2 0 0), (38, .v (.bool true)), (43, .ptr G.length 2 0 0), (146, .agg [.v (.int .i64 n3), (okL o3 12 2 L3.length), .v (.int .i64 n4), (okL true 14 2 L4.length)]), (147, .v (.int .i64 1)), (152, .v (.int .i64 L4.length)), (153, .v (.int .i64 j))], X ++ [some (2, [[.v (.int .i64 n4), .osl 14 2 0 L4.length L4.length]])])) (fun j X => FI l N m z L o1 o2 o3 true o5 o6 L1.length L2.length L3.length L4.length n3 n4 z5 z6 L5 L6 P Q R X ∧ X.length = G.length) G (fun j _ hj _ => by omega) ⟨hp, rfl⟩ ?_ ?_ ?_
              · exact Ent.env (by simp [okLt])
              · rintro j X hj ⟨hp, hXl⟩ hw2
                obtain ⟨W, hW, hob⟩ := hp.l4 rfl
                have hg := obj_get hob
                have hi := obj_lt hob
                have hgi := (List.getElem?_eq_some_iff.1 hg).2
                have hjW : j < W.length := by omega
                have eX : ∀ o : Option (Nat × List Row), (X ++ [o])[G.length]? = some o := fun o => by rw [← hXl]; simp
                have eW : ∀ o : Option (Nat × List Row), (X ++ [o])[14]? = some (some (2, W.map Rm.row)) := fun o => by rw [List.getElem?_append_left hi]; exact hg
                simp [Try.ntmps5, Try.results5, cSl, cp0, cp1, cp2, cp3, cn0, cn1, cn2, cn3, cn4, cn5, cn6, cn7, cI, cD, cR, cF, cA, -view, -cold, -cellsOf, -oneA, -allOneA, one_esl, one_osl, one_int, allOne_nil, allOne_cons, cells_okc, okLt, hw2, eX, eW, hW, hj, hjW, hXl, hi, hgi, Rm.row]
                refine ⟨X.set 14 (some (2, (W.set j ⟨IntKind.i64.wrap (W[j].at_ + 1), W[j].order⟩).map Rm.row)), ⟨hp.s4 (by rw [List.length_set]; exact hW), by rw [List.length_set]; exact hXl⟩, ?_⟩
                dsimp only
                rw [List.map_set, ← List.set_append_left _ _ hi]
                exact Ent.env (by simp [okLt])
              · rintro X ⟨hp, hXl⟩
                simp [Try.ntmps5, Try.results5, cSl, cp0, cp1, cp2, cp3, cn0, cn1, cn2, cn3, cn4, cn5, cn6, cn7, cI, cD, cR, cF, cA, -view, -cold, -cellsOf, -oneA, -allOneA, one_esl, one_osl, one_int, allOne_nil, allOne_cons, cells_okc, okLt]
                exact ⟨_, hp.app _, Ent.env (by simp [okLt])⟩
        · clear e13 e15 g13 g15 gl gl13 gl15
          rintro G hp
          have eP := obj_get hp.b5
          have eR := obj_get hp.b6
          have gP := (List.getElem?_eq_some_iff.1 eP).2
          have gR := (List.getElem?_eq_some_iff.1 eR).2
          have lP := obj_lt hp.b5
          have lR := obj_lt hp.b6
          simp [Try.ntmps5, Try.results5, cSl, cp0, cp1, cp2, cp3, cn0, cn1, cn2, cn3, cn4, cn5, cn6, cn7, cI, cD, cR, cF, cA, -view, -cold, -cellsOf, -oneA, -allOneA, one_esl, one_osl, one_int, allOne_nil, allOne_cons, cells_okc, eP, eR, gP, gR, lP, lR]
          refine loop_forE 2 (fun k (G : Heap) => ([(20, .fn 47 [.ptr 2 2 0 0, .ptr 8 1 0 0, .ptr 0 1 0 0, .ptr 6 1 0 0, .ptr 1 2 0 0, .ptr 7 1 0 0]), (38, .v (.bool true)), (169, .agg [.v (.int .i64 z5), (okL o5 16 2 L5.length), .v (.int .i64 z6), (okL o6 Q 2 L6.length)]), (170, .v (.int .i64 k))], G)) (fun k G => FI l N m z L o1 o2 o3 o4 o5 o6 L1.length L2.length L3.length L4.length n3 n4 z5 z6 L5 L6 P Q R G) G (fun k _ hk _ => by omega) hp ?_ ?_ ?_
          · exact Ent.env (by simp)
          · clear eP eR gP gR lP lR
            rintro k G hk hp hw
            rcases (by omega : k = 0 ∨ k = 1) with rfl | rfl
            · cases o5 with
              | false =>
                simp [Try.ntmps5, Try.results5, cSl, cp0, cp1, cp2, cp3, cn0, cn1, cn2, cn3, cn4, cn5, cn6, cn7, cI, cD, cR, cF, cA, -view, -cold, -cellsOf, -oneA, -allOneA, one_esl, one_osl, one_int, allOne_nil, allOne_cons, cells_okc, okLf]
                refine loop_forE 0 (fun j (_ : Unit) => ([(20, .fn 47 [.ptr 2 2 0 0, .ptr 8 1 0 0, .ptr 0 1 0 0, .ptr 6 1 0 0, .ptr 1 2 0 0, .ptr 7 1 0 0]), (38, .v (.bool true)), (46, .ptr G.length 2 0 0), (169, .agg [.v (.int .i64 z5), (okL false 16 2 L5.length), .v (.int .i64 z6), (okL o6 Q 2 L6.length)]), (170, .v (.int .i64 0)), (175, .v (.int .i64 0)), (176, .v (.int .i64 j))], G ++ [some (2, [[.v (.int .i64 z5), .esl]])])) (fun j _ => True) () (fun j _ hj _ => by omega) trivial ?_ (fun j _ hj => by omega) ?_
                · exact Ent.env (by simp [okLf])
                rintro _ _
                simp [Try.ntmps5, Try.results5, cSl, cp0, cp1, cp2, cp3, cn0, cn1, cn2, cn3, cn4, cn5, cn6, cn7, cI, cD, cR, cF, cA, -view, -cold, -cellsOf, -oneA, -allOneA, one_esl, one_osl, one_int, allOne_nil, allOne_cons, cells_okc, okLf]
                exact ⟨_, hp.app _, Ent.env (by simp [okLf])⟩
              | true =>
                simp [Try.ntmps5, Try.results5, cSl, cp0, cp1, cp2, cp3, cn0, cn1, cn2, cn3, cn4, cn5, cn6, cn7, cI, cD, cR, cF, cA, -view, -cold, -cellsOf, -oneA, -allOneA, one_esl, one_osl, one_int, allOne_nil, allOne_cons, cells_okc, okLt]
                refine loop_forE L5.length (fun j (X : Heap) => ([(20, .fn 47 [.ptr 2 2 0 0, .ptr 8 1 0 0, .ptr 0 1 0 0, .ptr 6 1 0 0, .ptr 1 2 0 0, .ptr 7 1 0 0]), (38, .v (.bool true)), (46, .ptr G.length 2 0 0), (169, .agg [.v (.int .i64 z5), (okL true 16 2 L5.length), .v (.int .i64 z6), (okL o6 Q 2 L6.length)]), (170, .v (.int .i64 0)), (175, .v (.int .i64 L5.length)), (176, .v (.int .i64 j))], X ++ [some (2, [[.v (.int .i64 z5), .osl 16 2 0 L5.length L5.length]])])) (fun j X => FI l N m z L o1 o2 o3 o4 true o6 L1.length L2.length L3.length L4.length n3 n4 z5 z6 L5 L6 P Q R X ∧ X.length = G.length) G (fun j _ hj _ => by omega) ⟨hp, rfl⟩ ?_ ?_ ?_
                · exact Ent.env (by simp [okLt])
                · rintro j X hj ⟨hp, hXl⟩ hw2
                  obtain ⟨hob, hin⟩ := hp.l5 rfl
                  obtain ⟨u0, hu0, hob0⟩ := hin j hj
                  have hg := obj_get hob
                  have hi := obj_lt hob
                  have hgi := (List.getElem?_eq_some_iff.1 hg).2
                  have hgr := rowsA_get (c := 16 + 1) hj
                  have hrl : (rowsA (16 + 1) L5).length = L5.length := rowsA_len
                  have hg2 : (rowsA (16 + 1) L5)[j]'(by rw [hrl]; exact hj) = ownB (16 + 1 + j) L5[j] := by
                    rw [List.getElem?_eq_getElem (by rw [hrl]; exact hj)] at hgr
                    simpa using hgr
                  have eX : ∀ o : Option (Nat × List Row), (X ++ [o])[G.length]? = some o := fun o => by rw [← hXl]; simp
                  have eW : ∀ o : Option (Nat × List Row), (X ++ [o])[16]? = some (some (2, rowsA (16 + 1) L5)) := fun o => by rw [List.getElem?_append_left hi]; exact hg
                  have hu6 := hub5 j hj
                  simp only [Nat.reduceAdd] at hg2 hrl eW
                  clear hu0 hob0 u0 hin
                  simp [Try.ntmps5, Try.results5, cSl, cp0, cp1, cp2, cp3, cn0, cn1, cn2, cn3, cn4, cn5, cn6, cn7, cI, cD, cR, cF, cA, -view, -cold, -cellsOf, -oneA, -allOneA, one_esl, one_osl, one_int, allOne_nil, allOne_cons, cells_okc, okLt, hw2, eX, eW, hj, hXl, hrl, hg2, ownB, hi, hgi]
                  refine loop_forE L5[j].used.length (fun i (X : Heap) => ([(20, .fn 47 [.ptr 2 2 0 0, .ptr 8 1 0 0, .ptr 0 1 0 0, .ptr 6 1 0 0, .ptr 1 2 0 0, .ptr 7 1 0 0]), (38, .v (.bool true)), (46, .ptr G.length 2 0 0), (47, .v (.int .i64 j)), (169, .agg [.v (.int .i64 z5), (okL true 16 2 L5.length), .v (.int .i64 z6), (okL o6 Q 2 L6.length)]), (170, .v (.int .i64 0)), (175, .v (.int .i64 L5.length)), (176, .v (.int .i64 j)), (185, .v (.int .i64 L5[j].used.length)), (186, .v (.int .i64 i))], X ++ [some (2, [[.v (.int .i64 z5), .osl 16 2 0 L5.length L5.length]])])) (fun i X => FI l N m z L o1 o2 o3 o4 true o6 L1.length L2.length L3.length L4.length n3 n4 z5 z6 L5 L6 P Q R X ∧ X.length = G.length) X (fun i _ hi _ => by omega) ⟨hp, hXl⟩ ?_ ?_ ?_
                  · exact Ent.env (by simp [okLt])
                  · clear eX eW hob hg hi hgi hp hXl
                    clear X
                    rintro i X hi2 ⟨hp, hXl⟩ hw3
                    obtain ⟨hob, hin⟩ := hp.l5 rfl
                    obtain ⟨u, hul, hobu⟩ := hin j hj
                    have hg := obj_get hob
                    have hi := obj_lt hob
                    have hgi := (List.getElem?_eq_some_iff.1 hg).2
                    have hgu := obj_get hobu
                    have hiu := obj_lt hobu
                    have hgiu := (List.getElem?_eq_some_iff.1 hgu).2
                    have eX : ∀ o : Option (Nat × List Row), (X ++ [o])[G.length]? = some o := fun o => by rw [← hXl]; simp
                    have eW : ∀ o : Option (Nat × List Row), (X ++ [o])[16]? = some (some (2, rowsA (16 + 1) L5)) := fun o => by rw [List.getElem?_append_left hi]; exact hg
                    have eU : ∀ o : Option (Nat × List Row), (X ++ [o])[16 + 1 + j]? = some (some (1, u.map (irow .i64))) := fun o => by rw [List.getElem?_append_left hiu]; exact hgu
                    have hiul : i < u.length := by omega
                    simp only [Nat.reduceAdd] at eW eU hiu hgiu hgu hgi
                    simp [Try.ntmps5, Try.results5, cSl, cp0, cp1, cp2, cp3, cn0, cn1, cn2, cn3, cn4, cn5, cn6, cn7, cI, cD, cR, cF, cA, -view, -cold, -cellsOf, -oneA, -allOneA, one_esl, one_osl, one_int, allOne_nil, allOne_cons, cells_okc, okLt, hw3, eX, eW, eU, hj, hi2, hiul, hXl, hrl, hg2, hul, ownB, irow, hi, hgi, hiu, hgiu]
                    refine ⟨X.set (16 + 1 + j) (some (1, (u.set i (IntKind.i64.wrap (u[i] + 1))).map (irow .i64))), ⟨hp.s5 hj (by rw [List.length_set]; exact hul), by rw [List.length_set]; exact hXl⟩, ?_⟩
                    dsimp only
                    rw [List.map_set, ← List.set_append_left _ _ hiu]
                    exact Ent.env (by simp [okLt, irow])
                  · rintro X ⟨hp, hXl⟩
                    simp [Try.ntmps5, Try.results5, cSl, cp0, cp1, cp2, cp3, cn0, cn1, cn2, cn3, cn4, cn5, cn6, cn7, cI, cD, cR, cF, cA, -view, -cold, -cellsOf, -oneA, -allOneA, one_esl, one_osl, one_int, allOne_nil, allOne_cons, cells_okc, okLt, hw2]
                    exact ⟨X, ⟨hp, hXl⟩, Ent.env (by simp [okLt])⟩
                · rintro X ⟨hp, hXl⟩
                  simp [Try.ntmps5, Try.results5, cSl, cp0, cp1, cp2, cp3, cn0, cn1, cn2, cn3, cn4, cn5, cn6, cn7, cI, cD, cR, cF, cA, -view, -cold, -cellsOf, -oneA, -allOneA, one_esl, one_osl, one_int, allOne_nil, allOne_cons, cells_okc, okLt]
                  exact ⟨_, hp.app _, Ent.env (by simp [okLt])⟩
            · cases o6 with
              | false =>
                simp [Try.ntmps5, Try.results5, cSl, cp0, cp1, cp2, cp3, cn0, cn1, cn2, cn3, cn4, cn5, cn6, cn7, cI, cD, cR, cF, cA, -view, -cold, -cellsOf, -oneA, -allOneA, one_esl, one_osl, one_int, allOne_nil, allOne_cons, cells_okc, okLf]
                refine loop_forE 0 (fun j (_ : Unit) => ([(20, .fn 47 [.ptr 2 2 0 0, .ptr 8 1 0 0, .ptr 0 1 0 0, .ptr 6 1 0 0, .ptr 1 2 0 0, .ptr 7 1 0 0]), (38, .v (.bool true)), (46, .ptr G.length 2 0 0), (169, .agg [.v (.int .i64 z5), (okL o5 16 2 L5.length), .v (.int .i64 z6), (okL false Q 2 L6.length)]), (170, .v (.int .i64 1)), (175, .v (.int .i64 0)), (176, .v (.int .i64 j))], G ++ [some (2, [[.v (.int .i64 z6), .esl]])])) (fun j _ => True) () (fun j _ hj _ => by omega) trivial ?_ (fun j _ hj => by omega) ?_
                · exact Ent.env (by simp [okLf])
                rintro _ _
                simp [Try.ntmps5, Try.results5, cSl, cp0, cp1, cp2, cp3, cn0, cn1, cn2, cn3, cn4, cn5, cn6, cn7, cI, cD, cR, cF, cA, -view, -cold, -cellsOf, -oneA, -allOneA, one_esl, one_osl, one_int, allOne_nil, allOne_cons, cells_okc, okLf]
                exact ⟨_, hp.app _, Ent.env (by simp [okLf])⟩
              | true =>
                simp [Try.ntmps5, Try.results5, cSl, cp0, cp1, cp2, cp3, cn0, cn1, cn2, cn3, cn4, cn5, cn6, cn7, cI, cD, cR, cF, cA, -view, -cold, -cellsOf, -oneA, -allOneA, one_esl, one_osl, one_int, allOne_nil, allOne_cons, cells_okc, okLt]
                refine loop_forE L6.length (fun j (X : Heap) => ([(20, .fn 47 [.ptr 2 2 0 0, .ptr 8 1 0 0, .ptr 0 1 0 0, .ptr 6 1 0 0, .ptr 1 2 0 0, .ptr 7 1 0 0]), (38, .v (.bool true)), (46, .ptr G.length 2 0 0), (169, .agg [.v (.int .i64 z5), (okL o5 16 2 L5.length), .v (.int .i64 z6), (okL true Q 2 L6.length)]), (170, .v (.int .i64 1)), (175, .v (.int .i64 L6.length)), (176, .v (.int .i64 j))], X ++ [some (2, [[.v (.int .i64 z6), .osl Q 2 0 L6.length L6.length]])])) (fun j X => FI l N m z L o1 o2 o3 o4 o5 true L1.length L2.length L3.length L4.length n3 n4 z5 z6 L5 L6 P Q R X ∧ X.length = G.length) G (fun j _ hj _ => by omega) ⟨hp, rfl⟩ ?_ ?_ ?_
                · exact Ent.env (by simp [okLt])
                · rintro j X hj ⟨hp, hXl⟩ hw2
                  obtain ⟨hob, hin⟩ := hp.l6 rfl
                  obtain ⟨u0, hu0, hob0⟩ := hin j hj
                  have hg := obj_get hob
                  have hi := obj_lt hob
                  have hgi := (List.getElem?_eq_some_iff.1 hg).2
                  have hgr := rowsA_get (c := Q + 1) hj
                  have hrl : (rowsA (Q + 1) L6).length = L6.length := rowsA_len
                  have hg2 : (rowsA (Q + 1) L6)[j]'(by rw [hrl]; exact hj) = ownB (Q + 1 + j) L6[j] := by
                    rw [List.getElem?_eq_getElem (by rw [hrl]; exact hj)] at hgr
                    simpa using hgr
                  have eX : ∀ o : Option (Nat × List Row), (X ++ [o])[G.length]? = some o := fun o => by rw [← hXl]; simp
                  have eW : ∀ o : Option (Nat × List Row), (X ++ [o])[Q]? = some (some (2, rowsA (Q + 1) L6)) := fun o => by rw [List.getElem?_append_left hi]; exact hg
                  have hu6 := hub6 j hj
                  skip
                  clear hu0 hob0 u0 hin
                  simp [Try.ntmps5, Try.results5, cSl, cp0, cp1, cp2, cp3, cn0, cn1, cn2, cn3, cn4, cn5, cn6, cn7, cI, cD, cR, cF, cA, -view, -cold, -cellsOf, -oneA, -allOneA, one_esl, one_osl, one_int, allOne_nil, allOne_cons, cells_okc, okLt, hw2, eX, eW, hj, hXl, hrl, hg2, ownB, hi, hgi]
                  refine loop_forE L6[j].used.length (fun i (X : Heap) => ([(20, .fn 47 [.ptr 2 2 0 0, .ptr 8 1 0 0, .ptr 0 1 0 0, .ptr 6 1 0 0, .ptr 1 2 0 0, .ptr 7 1 0 0]), (38, .v (.bool true)), (46, .ptr G.length 2 0 0), (47, .v (.int .i64 j)), (169, .agg [.v (.int .i64 z5), (okL o5 16 2 L5.length), .v (.int .i64 z6), (okL true Q 2 L6.length)]), (170, .v (.int .i64 1)), (175, .v (.int .i64 L6.length)), (176, .v (.int .i64 j)), (185, .v (.int .i64 L6[j].used.length)), (186, .v (.int .i64 i))], X ++ [some (2, [[.v (.int .i64 z6), .osl Q 2 0 L6.length L6.length]])])) (fun i X => FI l N m z L o1 o2 o3 o4 o5 true L1.length L2.length L3.length L4.length n3 n4 z5 z6 L5 L6 P Q R X ∧ X.length = G.length) X (fun i _ hi _ => by omega) ⟨hp, hXl⟩ ?_ ?_ ?_
                  · exact Ent.env (by simp [okLt])
                  · clear eX eW hob hg hi hgi hp hXl
                    clear X
                    rintro i X hi2 ⟨hp, hXl⟩ hw3
                    obtain ⟨hob, hin⟩ := hp.l6 rfl
                    obtain ⟨u, hul, hobu⟩ := hin j hj
                    have hg := obj_get hob
                    have hi := obj_lt hob
                    have hgi := (List.getElem?_eq_some_iff.1 hg).2
                    have hgu := obj_get hobu
                    have hiu := obj_lt hobu
                    have hgiu := (List.getElem?_eq_some_iff.1 hgu).2
                    have eX : ∀ o : Option (Nat × List Row), (X ++ [o])[G.length]? = some o := fun o => by rw [← hXl]; simp
                    have eW : ∀ o : Option (Nat × List Row), (X ++ [o])[Q]? = some (some (2, rowsA (Q + 1) L6)) := fun o => by rw [List.getElem?_append_left hi]; exact hg
                    have eU : ∀ o : Option (Nat × List Row), (X ++ [o])[Q + 1 + j]? = some (some (1, u.map (irow .i64))) := fun o => by rw [List.getElem?_append_left hiu]; exact hgu
                    have hiul : i < u.length := by omega
                    skip
                    simp [Try.ntmps5, Try.results5, cSl, cp0, cp1, cp2, cp3, cn0, cn1, cn2, cn3, cn4, cn5, cn6, cn7, cI, cD, cR, cF, cA, -view, -cold, -cellsOf, -oneA, -allOneA, one_esl, one_osl, one_int, allOne_nil, allOne_cons, cells_okc, okLt, hw3, eX, eW, eU, hj, hi2, hiul, hXl, hrl, hg2, hul, ownB, irow, hi, hgi, hiu, hgiu]
                    refine ⟨X.set (Q + 1 + j) (some (1, (u.set i (IntKind.i64.wrap (u[i] + 1))).map (irow .i64))), ⟨hp.s6 hj (by rw [List.length_set]; exact hul), by rw [List.length_set]; exact hXl⟩, ?_⟩
                    dsimp only
                    rw [List.map_set, ← List.set_append_left _ _ hiu]
                    exact Ent.env (by simp [okLt, irow])
                  · rintro X ⟨hp, hXl⟩
                    simp [Try.ntmps5, Try.results5, cSl, cp0, cp1, cp2, cp3, cn0, cn1, cn2, cn3, cn4, cn5, cn6, cn7, cI, cD, cR, cF, cA, -view, -cold, -cellsOf, -oneA, -allOneA, one_esl, one_osl, one_int, allOne_nil, allOne_cons, cells_okc, okLt, hw2]
                    exact ⟨X, ⟨hp, hXl⟩, Ent.env (by simp [okLt])⟩
                · rintro X ⟨hp, hXl⟩
                  simp [Try.ntmps5, Try.results5, cSl, cp0, cp1, cp2, cp3, cn0, cn1, cn2, cn3, cn4, cn5, cn6, cn7, cI, cD, cR, cF, cA, -view, -cold, -cellsOf, -oneA, -allOneA, one_esl, one_osl, one_int, allOne_nil, allOne_cons, cells_okc, okLt]
                  exact ⟨_, hp.app _, Ent.env (by simp [okLt])⟩
          · clear eP eR gP gR lP lR
            rintro G hp
            have hsG := hsame G hp.b
            simp [Try.ntmps5, Try.results5, cSl, cp0, cp1, cp2, cp3, cn0, cn1, cn2, cn3, cn4, cn5, cn6, cn7, cI, cD, cR, cF, cA, -view, -cold, -cellsOf, -oneA, -allOneA, one_esl, one_osl, one_int, allOne_nil, allOne_cons, cells_okc, hsG, hnm]
            simp [view]
  · intro τ hτ
    rw [show chunksOf 9 _ = [[0,1,2,3,4,5,6,7,8],[0,1,2,3,4,6,5,7,8],[0,1,2,3,5,4,6,7,8],[0,1,2,3,5,6,4,7,8],[0,1,2,3,6,4,5,7,8],[0,1,2,3,6,5,4,7,8],[0,2,3,5,1,4,6,7,8],[0,2,3,5,1,6,4,7,8],[0,2,3,5,6,1,4,7,8],[0,2,3,6,1,4,5,7,8],[0,2,3,6,1,5,4,7,8],[0,2,3,6,5,1,4,7,8]] from by rfl] at hτ
    simp only [List.mem_cons, List.not_mem_nil, or_false] at hτ
    rcases hτ with rfl | rfl | rfl | rfl | rfl | rfl | rfl | rfl | rfl | rfl | rfl | rfl
    · simp [Try.ntmps5, Try.results5, cSl, cp0, cp1, cp2, cp3, cn0, cn1, cn2, cn3, cn4, cn5, cn6, cn7, cI, cD, cR, cF, cA, -view, -cold, -cellsOf, rFrm, frmDec, Frm.row, rTwn, twnDec, Twn.row, rRm, rmDec, Rm.row, rSlb, slbDec, Slb.row, rBox, boxDec, Box.row, rPlace, placeDec, Place.row, u1, u2]
      intro n0 hn
      refine ent_le (th := [4, 5, 6, 7]) ?_ hn
      by_cases hl0 : l = [] <;> by_cases hm0 : m = [] <;> simp [oT, oA, hl0, hm0, lowA, lowC]
    · simp [Try.ntmps5, Try.results5, cSl, cp0, cp1, cp2, cp3, cn0, cn1, cn2, cn3, cn4, cn5, cn6, cn7, cI, cD, cR, cF, cA, -view, -cold, -cellsOf, rFrm, frmDec, Frm.row, rTwn, twnDec, Twn.row, rRm, rmDec, Rm.row, rSlb, slbDec, Slb.row, rBox, boxDec, Box.row, rPlace, placeDec, Place.row, u1, u2]
      intro n0 hn
      refine ent_le (th := [4, 5, 7, 6]) ?_ hn
      by_cases hl0 : l = [] <;> by_cases hm0 : m = [] <;> simp [oT, oA, hl0, hm0, lowA, lowC]
    · simp [Try.ntmps5, Try.results5, cSl, cp0, cp1, cp2, cp3, cn0, cn1, cn2, cn3, cn4, cn5, cn6, cn7, cI, cD, cR, cF, cA, -view, -cold, -cellsOf, rFrm, frmDec, Frm.row, rTwn, twnDec, Twn.row, rRm, rmDec, Rm.row, rSlb, slbDec, Slb.row, rBox, boxDec, Box.row, rPlace, placeDec, Place.row, u1, u2]
      intro n0 hn
      refine ent_le (th := [4, 6, 5, 7]) ?_ hn
      by_cases hl0 : l = [] <;> by_cases hm0 : m = [] <;> simp [oT, oA, hl0, hm0, lowA, lowC]
    · simp [Try.ntmps5, Try.results5, cSl, cp0, cp1, cp2, cp3, cn0, cn1, cn2, cn3, cn4, cn5, cn6, cn7, cI, cD, cR, cF, cA, -view, -cold, -cellsOf, rFrm, frmDec, Frm.row, rTwn, twnDec, Twn.row, rRm, rmDec, Rm.row, rSlb, slbDec, Slb.row, rBox, boxDec, Box.row, rPlace, placeDec, Place.row, u1, u2]
      intro n0 hn
      refine ent_le (th := [4, 7, 5, 6]) ?_ hn
      by_cases hl0 : l = [] <;> by_cases hm0 : m = [] <;> simp [oT, oA, hl0, hm0, lowA, lowC]
    · simp [Try.ntmps5, Try.results5, cSl, cp0, cp1, cp2, cp3, cn0, cn1, cn2, cn3, cn4, cn5, cn6, cn7, cI, cD, cR, cF, cA, -view, -cold, -cellsOf, rFrm, frmDec, Frm.row, rTwn, twnDec, Twn.row, rRm, rmDec, Rm.row, rSlb, slbDec, Slb.row, rBox, boxDec, Box.row, rPlace, placeDec, Place.row, u1, u2]
      intro n0 hn
      refine ent_le (th := [4, 6, 7, 5]) ?_ hn
      by_cases hl0 : l = [] <;> by_cases hm0 : m = [] <;> simp [oT, oA, hl0, hm0, lowA, lowC]
    · simp [Try.ntmps5, Try.results5, cSl, cp0, cp1, cp2, cp3, cn0, cn1, cn2, cn3, cn4, cn5, cn6, cn7, cI, cD, cR, cF, cA, -view, -cold, -cellsOf, rFrm, frmDec, Frm.row, rTwn, twnDec, Twn.row, rRm, rmDec, Rm.row, rSlb, slbDec, Slb.row, rBox, boxDec, Box.row, rPlace, placeDec, Place.row, u1, u2]
      intro n0 hn
      refine ent_le (th := [4, 7, 6, 5]) ?_ hn
      by_cases hl0 : l = [] <;> by_cases hm0 : m = [] <;> simp [oT, oA, hl0, hm0, lowA, lowC]
    · simp [Try.ntmps5, Try.results5, cSl, cp0, cp1, cp2, cp3, cn0, cn1, cn2, cn3, cn4, cn5, cn6, cn7, cI, cD, cR, cF, cA, -view, -cold, -cellsOf, rFrm, frmDec, Frm.row, rTwn, twnDec, Twn.row, rRm, rmDec, Rm.row, rSlb, slbDec, Slb.row, rBox, boxDec, Box.row, rPlace, placeDec, Place.row, u1, u2]
      intro n0 hn
      refine ent_le (th := [5, 6, 4, 7]) ?_ hn
      by_cases hl0 : l = [] <;> by_cases hm0 : m = [] <;> simp [oT, oA, hl0, hm0, lowA, lowC]
    · simp [Try.ntmps5, Try.results5, cSl, cp0, cp1, cp2, cp3, cn0, cn1, cn2, cn3, cn4, cn5, cn6, cn7, cI, cD, cR, cF, cA, -view, -cold, -cellsOf, rFrm, frmDec, Frm.row, rTwn, twnDec, Twn.row, rRm, rmDec, Rm.row, rSlb, slbDec, Slb.row, rBox, boxDec, Box.row, rPlace, placeDec, Place.row, u1, u2]
      intro n0 hn
      refine ent_le (th := [5, 7, 4, 6]) ?_ hn
      by_cases hl0 : l = [] <;> by_cases hm0 : m = [] <;> simp [oT, oA, hl0, hm0, lowA, lowC]
    · simp [Try.ntmps5, Try.results5, cSl, cp0, cp1, cp2, cp3, cn0, cn1, cn2, cn3, cn4, cn5, cn6, cn7, cI, cD, cR, cF, cA, -view, -cold, -cellsOf, rFrm, frmDec, Frm.row, rTwn, twnDec, Twn.row, rRm, rmDec, Rm.row, rSlb, slbDec, Slb.row, rBox, boxDec, Box.row, rPlace, placeDec, Place.row, u1, u2]
      intro n0 hn
      refine ent_le (th := [6, 7, 4, 5]) ?_ hn
      by_cases hl0 : l = [] <;> by_cases hm0 : m = [] <;> simp [oT, oA, hl0, hm0, lowA, lowC]
    · simp [Try.ntmps5, Try.results5, cSl, cp0, cp1, cp2, cp3, cn0, cn1, cn2, cn3, cn4, cn5, cn6, cn7, cI, cD, cR, cF, cA, -view, -cold, -cellsOf, rFrm, frmDec, Frm.row, rTwn, twnDec, Twn.row, rRm, rmDec, Rm.row, rSlb, slbDec, Slb.row, rBox, boxDec, Box.row, rPlace, placeDec, Place.row, u1, u2]
      intro n0 hn
      refine ent_le (th := [5, 6, 7, 4]) ?_ hn
      by_cases hl0 : l = [] <;> by_cases hm0 : m = [] <;> simp [oT, oA, hl0, hm0, lowA, lowC]
    · simp [Try.ntmps5, Try.results5, cSl, cp0, cp1, cp2, cp3, cn0, cn1, cn2, cn3, cn4, cn5, cn6, cn7, cI, cD, cR, cF, cA, -view, -cold, -cellsOf, rFrm, frmDec, Frm.row, rTwn, twnDec, Twn.row, rRm, rmDec, Rm.row, rSlb, slbDec, Slb.row, rBox, boxDec, Box.row, rPlace, placeDec, Place.row, u1, u2]
      intro n0 hn
      refine ent_le (th := [5, 7, 6, 4]) ?_ hn
      by_cases hl0 : l = [] <;> by_cases hm0 : m = [] <;> simp [oT, oA, hl0, hm0, lowA, lowC]
    · simp [Try.ntmps5, Try.results5, cSl, cp0, cp1, cp2, cp3, cn0, cn1, cn2, cn3, cn4, cn5, cn6, cn7, cI, cD, cR, cF, cA, -view, -cold, -cellsOf, rFrm, frmDec, Frm.row, rTwn, twnDec, Twn.row, rRm, rmDec, Rm.row, rSlb, slbDec, Slb.row, rBox, boxDec, Box.row, rPlace, placeDec, Place.row, u1, u2]
      intro n0 hn
      refine ent_le (th := [6, 7, 5, 4]) ?_ hn
      by_cases hl0 : l = [] <;> by_cases hm0 : m = [] <;> simp [oT, oA, hl0, hm0, lowA, lowC]
end
end
end Go.Proofs.Ytebpjfdbjhodiaa
