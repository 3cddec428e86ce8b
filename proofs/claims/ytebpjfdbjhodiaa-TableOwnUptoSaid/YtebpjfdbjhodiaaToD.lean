/- TableOwn: what the closure compares. TableOwn: the arguments, and their copies, as they lie in memory. TableOwn: the three that are asked first. TableOwn: the three processors' calls, as they answer among other objects. TableOwn: what stays as it was while the own lists are changed. TableOwn: the tables' lists are bounded. ringkeep2.TableOwn. -/
import Derived.Test.YtebpjfdbjhodiaaToA
import Derived.Test.YtebpjfdbjhodiaaToB
import Derived.Test.YtebpjfdbjhodiaaToC
import Derived.Test.YtebpjfdbjhodiaaAiZe
import Derived.Test.YtebpjfdbjhodiaaAiZi
import Derived.Test.YtebpjfdbjhodiaaAiZf
namespace Go.Proofs.Ytebpjfdbjhodiaa
open Go.AI
set_option linter.unusedSimpArgs false
set_option linter.unusedVariables false
section
set_option maxHeartbeats 2000000
set_option maxRecDepth 100000
set_option linter.unusedSimpArgs false
set_option linter.unusedVariables false
attribute [local simp] wpA wpX RunA RunD runF foot footP footB idsA bare apart runL step1 gsel_f gsel_t gsel_s res_same res_and1 res_and2 res_and3 res_and4 res_and5 res_and6 res_false res_true res_v res_ptr res_fptr res_osl res_xsl soft aAppendZ aCap ovlI ovlJ res_fsl res_esl res_agg res_tup res_fn res_junk res_anyb aPick hk imp_left iteV dstOk guardOk astep astepE AI.ev AI.look AI.put envOf aBox cellsOf allOne allOneA oneA Value.oneCell' Value.cells newObj' aFieldAddr aLoad obj readAt thenA blockA condA retA resA tupA view hot hotC hotR depthV cAgg cInt cBool mkAgg allV aAlloc aBuild fillA writeAt aStore isAggA aField idx aIndexAddr aIndex bnd aSlice aExtract aLen aBuiltin aCall isStatic eqAgg eqTy eqC ev_add ev_sub ev_mul ev_quo ev_rem ev_and ev_or ev_xor ev_andNot ev_shl ev_shr ev_eql ev_neq ev_lss ev_leq ev_gtr ev_geq ev_agg w64 wu32 wu8 ev_not ev_neg Cod.plain RCod.plain argM finM cold coldC coldR goInt intDec boolDec aggDec Weaker heapW lowA lowC Again slDec undef aBuildSlice setRows aAppend rowsOf aMakeSlice aClear aCopy softer_self softer_nil valsOf ev_min2 ev_max2 hotR_set hotR_append take_map_set irow_cold irow_mapM irow_mapMc irow_view irow_viewc irow_hotR irow_ren irow_renc irow_low WeakT heapT thOf ren renC AgainT NextF NextT fnDec cFn rNil selfLt natLt0 natLt1 getLastMap frame0 frame1 own0 own1 argG finG tau tauI tauO tauC bareA bareC bareH irow_tau irow_tauc irow_bare irow_flat irow_bareR ownA_nil ownT_nil ownA_c ownT_c ownA_s ownT_s takeMapLen footC plainA noId noIdC cloneF frame0F frame1F insertF replaceI replaceF cellDec rCell fpDec cFp rTwo deleteF allV_oA oneA_oA res_oA RunR RunE runFT footAt hotR_cat tmodN aEqH aSliceA frameN newA newC newH fxSz3 fxAg3 fxSl3 fxAg4 fxSz53 fxBy53 fxAg53 fxZe53 fxSl53 fxAr53 fxSz55 fxAg55 fxZe55 fxFi55x0 fxFi55x1 fxPl55 fxSz57 fxAg57 fxZe57 fxAr57 fxPl57 fxSz59 fxBy59 fxAg59 fxZe59 fxFi59x0 fxFi59x1 fxFi59x2 fxFi59x3 fxFi59x4 fxFi59x5 fxPl59 fxSz60 fxAg60 fxSl60 fxAr60 fxSz62 fxBy62 fxAg62 fxZe62 fxFi62x0 fxFi62x1 fxSz63 fxAg63 fxZe63 fxSl63 fxAr63 fxSz65 fxBy65 fxAg65 fxZe65 fxFi65x0 fxFi65x1 fxFi65x2 fxPl65 fxSz66 fxAg66 fxZe66 fxSl66 fxAr66 fxSz68 fxAg68 fxZe68 fxSl68 fxAr68 fxSz69 fxBy69 fxAg69 fxZe69 fxSl69 fxAr69 fxSz70 fxAg70 fxSl70 fxAr70 fxSz72 fxBy72 fxAg72 fxZe72 fxFi72x0 fxFi72x1 fxSz74 fxAg74 fxSz76 fxBy76 fxAg76 fxZe76 fxFi76x0 fxFi76x1 fxFi76x2 fxPl76 fxZe92 fxAr92 fxPl92 fxZe93 fxAr93 fxPl93 fxZe94 fxAr94 fxPl94 fxEq59 fxEq65 fxEq76 fxNe53 fxOe53 fxXe53 fxNe60 fxOe60 fxXe60 fxLn63 fxNe63 fxOe63 fxXe63 fxNe69 fxOe69 fxXe69 fxNe70 fxOe70 fxXe70 fxFm22 fxFi22 fxFm23 fxFi23 fxFm24 fxFi24 fxFm25 fxFi25 fxFm26 fxFi26 fxFm27 fxFm28 fxFi28 fxFj28 fxFm29 fxFi29 fxFm30 fxFi30 fxFm31 fxFi31 fxFm32 fxFm33 fxFm34 fxFm36 fxFi36 fxFm38 fxFi38 fxFm39 fxFm40 fxFm93 fxFi93 fxFm94 fxFi94 fxFm95 fxFi95 fxFm96 fxFm97 fxFm98 fxFm99 fxFi99 fxFm100 fxFi100 fxFm101 fxFi101 fxFm102 fxFi102 fxFm103 fxFi103 fxFm104 fxFm105 fxFm106 fxFm107 fxFi107 fxFm108 fxFm109 fxFi109 fxFm110 fxFi110 fxFm111 fxFm112 fxFm163 fxFi163 fxFm164 fxFi164 fxFm165 fxFm166 fxFm167 fxFi167 fxFm168 fxFi168 fxFm169 fxFi169 fxFm170 fxFi170 fxFm171 fxFm199 fxFi199 fxFm200 fxFi200 fxFm201 fxFm221 fxFi221
section
attribute [local simp] Entry.eta Entry.cold Entry.mapM Entry.mapMc Entry.view Entry.viewc Entry.hotR Entry.ren Entry.renc Entry.low Entry.tau Entry.tauc Entry.bare Entry.flat Entry.flat1 Entry.mapMt Entry.mapMd Entry.coldt Entry.coldd Entry.hotRt Entry.hotRd
attribute [local simp] Nd.eta Nd.dec_row Nd.dec_hrow Nd.cold Nd.hcold Nd.mapM Nd.mapMc Nd.hmapM Nd.hmapMc Nd.view Nd.viewc Nd.hview Nd.hviewc Nd.hotR Nd.ren Nd.renc Nd.low Nd.hlow
attribute [local simp] Ln.eta Ln.cold Ln.mapM Ln.mapMc Ln.view Ln.viewc Ln.hotR Ln.ren Ln.renc Ln.low Ln.tau Ln.tauc Ln.bare Ln.flat Ln.flat1 Ln.mapMt Ln.mapMd Ln.coldt Ln.coldd Ln.hotRt Ln.hotRd
attribute [local simp] Od.eta Od.cold Od.mapM Od.mapMc Od.view Od.viewc Od.hotR Od.ren Od.renc Od.low Od.tau Od.tauc Od.bare Od.flat Od.flat1 Od.mapMt Od.mapMd Od.coldt Od.coldd Od.hotRt Od.hotRd
attribute [local simp] Cpu.eta Cpu.dec_row Cpu.dec_hrow Cpu.cold Cpu.hcold Cpu.mapM Cpu.mapMc Cpu.hmapM Cpu.hmapMc Cpu.view Cpu.viewc Cpu.hview Cpu.hviewc Cpu.hotR Cpu.ren Cpu.renc Cpu.low Cpu.hlow
attribute [local simp] Ar.eta Ar.cold Ar.mapM Ar.mapMc Ar.view Ar.viewc Ar.hotR Ar.ren Ar.renc Ar.low Ar.tau Ar.tauc Ar.bare Ar.flat Ar.flat1 Ar.mapMt Ar.mapMd Ar.coldt Ar.coldd Ar.hotRt Ar.hotRd
attribute [local simp] tb_write tb_hwrite tb_allV tb_hallV tb_len tb_hlen tb_all tb_hall tb_one tb_hone tb_low tb_hlow tb_lowC tb_hlowC tb_view tb_hview tb_cold tb_hcold tb_hot Tb.dec_row Tb.dec_hrow
theorem en_eq (a b : Entry) : a = b ↔ (a.here = b.here ∧ a.slot = b.slot ∧ a.at_ = b.at_ ∧ a.rights = b.rights ∧ a.used = b.used ∧ a.dirty = b.dirty ∧ a.copy = b.copy) := by cases a; cases b; simp
theorem enEqual_pure : PureOk Try.prog 29 (argM (cSl rEnt) fun l => argM (cSl rEnt) fun m => finM (if l.length ≤ 4294967296 then some (.v (.bool (decide (l = m)))) else none)) := by
  refine pure2 Try.func29 rfl ?_
  rintro l m r hr
  by_cases hc : l.length ≤ 4294967296
  case neg => rw [if_neg hc] at hr; cases hr
  rw [if_pos hc] at hr
  simp only [Option.some.injEq] at hr
  subst hr
  refine body_gen noOrc_ok fxMix (by kernel_rfl) (by simp [Try.ntmps29]) ?_
  intro C cP cI cN cD cF cA cR cL
  replace cI : C.inl = fun _ => false := cI
  replace cR : C.rd = fun _ => none := cR
  replace cD : C.dyn = fun _ => [] := cD
  clear cP cN cF cA
  simp [Try.ntmps29, Try.results29, cSl, cI, cD, cR, rEnt, Entry.row, entDec]
  split
  · rename_i hn
    have hn : l.length = m.length := by omega
    refine loop_for l.length (fun k (_ : Unit) => ([(0, .fsl false 7 (l.map Entry.row)), (1, .fsl false 7 (m.map Entry.row)), (12, .v (.int .i64 l.length)), (13, .v (.int .i64 k))], [])) (fun k _ => l.drop k = m.drop k ↔ l = m) () hc (by simp) (by simp) ?_ ?_
    · intro k _ hk hall hw
      have hk3 : k < m.length := by omega
      rw [List.drop_eq_getElem_cons hk, List.drop_eq_getElem_cons hk3, List.cons.injEq] at hall
      have he := en_eq l[k] m[k]
      by_cases q2 : l[k] = m[k]
      · have q3 := he.1 q2
        clear he
        simp only [q2, true_and] at hall
        simp [Try.ntmps29, Try.results29, cSl, cI, cD, cR, hk, hk3, hw, rEnt, Entry.row, entDec, q3]
        exact hall
      · have hne : ¬ l = m := fun h => q2 (hall.2 h).1
        simp [Try.ntmps29, Try.results29, cSl, cI, cD, cR, hk, hk3, hw, rEnt, Entry.row, entDec]
        split
        · exact hne
        · rename_i q
          exact absurd (he.2 (by simp_all)) q2
    · intro _ hall
      simp [hn] at hall
      simp [Try.ntmps29, Try.results29, cSl, cI, cD, cR, hall]
  · rename_i hn
    rintro rfl
    exact hn rfl
theorem lnEqual_pure : PureOk Try.prog 30 (argM (cSl rLn) fun l => argM (cSl rLn) fun m => finM (if l.length ≤ 4294967296 then some (.v (.bool (decide (l = m)))) else none)) := by
  refine pure2 Try.func30 rfl ?_
  rintro l m r hr
  by_cases hc : l.length ≤ 4294967296
  case neg => rw [if_neg hc] at hr; cases hr
  rw [if_pos hc] at hr
  simp only [Option.some.injEq] at hr
  subst hr
  refine body_gen noOrc_ok fxMix (by kernel_rfl) (by simp [Try.ntmps30]) ?_
  intro C cP cI cN cD cF cA cR cL
  replace cI : C.inl = fun _ => false := cI
  replace cR : C.rd = fun _ => none := cR
  replace cD : C.dyn = fun _ => [] := cD
  clear cP cN cF cA
  simp [Try.ntmps30, Try.results30, cSl, cI, cD, cR, rLn, Ln.row, lnDec]
  split
  · rename_i hn
    have hn : l.length = m.length := by omega
    refine loop_for l.length (fun k (_ : Unit) => ([(0, .fsl false 3 (l.map Ln.row)), (1, .fsl false 3 (m.map Ln.row)), (12, .v (.int .i64 l.length)), (13, .v (.int .i64 k))], [])) (fun k _ => l.drop k = m.drop k ↔ l = m) () hc (by simp) (by simp) ?_ ?_
    · intro k _ hk hall hw
      have hk3 : k < m.length := by omega
      rw [List.drop_eq_getElem_cons hk, List.drop_eq_getElem_cons hk3, List.cons.injEq] at hall
      have he := ln_eq l[k] m[k]
      by_cases q2 : l[k] = m[k]
      · have q3 := he.1 q2
        clear he
        simp only [q2, true_and] at hall
        simp [Try.ntmps30, Try.results30, cSl, cI, cD, cR, hk, hk3, hw, rLn, Ln.row, lnDec, q3]
        exact hall
      · have hne : ¬ l = m := fun h => q2 (hall.2 h).1
        simp [Try.ntmps30, Try.results30, cSl, cI, cD, cR, hk, hk3, hw, rLn, Ln.row, lnDec]
        split
        · exact hne
        · rename_i q
          exact absurd (he.2 (by simp_all)) q2
    · intro _ hall
      simp [hn] at hall
      simp [Try.ntmps30, Try.results30, cSl, cI, cD, cR, hall]
  · rename_i hn
    rintro rfl
    exact hn rfl
theorem arEqualU_pure : PureOk Try.prog 31 (argM (cSl rAr) fun l => argM (cSl rAr) fun m => finM (if l.length ≤ 4294967296 then some (.v (.bool (decide (l = m)))) else none)) := by
  refine pure2 Try.func31 rfl ?_
  rintro l m r hr
  by_cases hc : l.length ≤ 4294967296
  case neg => rw [if_neg hc] at hr; cases hr
  rw [if_pos hc] at hr
  simp only [Option.some.injEq] at hr
  subst hr
  refine body_gen noOrc_ok fxMix (by kernel_rfl) (by simp [Try.ntmps31]) ?_
  intro C cP cI cN cD cF cA cR cL
  replace cI : C.inl = fun _ => false := cI
  replace cR : C.rd = fun _ => none := cR
  replace cD : C.dyn = fun _ => [] := cD
  clear cP cN cF cA
  simp [Try.ntmps31, Try.results31, cSl, cI, cD, cR, rAr, Ar.row]
  split
  · rename_i hn
    have hn : l.length = m.length := by omega
    refine loop_for l.length (fun k (_ : Unit) => ([(0, .fsl false 3 (l.map Ar.row)), (1, .fsl false 3 (m.map Ar.row)), (12, .v (.int .i64 l.length)), (13, .v (.int .i64 k))], [])) (fun k _ => l.drop k = m.drop k ↔ l = m) () hc (by simp) (by simp) ?_ ?_
    · intro k _ hk hall hw
      have hk3 : k < m.length := by omega
      rw [List.drop_eq_getElem_cons hk, List.drop_eq_getElem_cons hk3, List.cons.injEq] at hall
      have he := ar_eq l[k] m[k]
      by_cases q2 : l[k] = m[k]
      · have q3 := he.1 q2
        clear he
        simp only [q2, true_and] at hall
        simp [Try.ntmps31, Try.results31, cSl, cI, cD, cR, hk, hk3, hw, rAr, Ar.row, q3]
        exact hall
      · have hne : ¬ l = m := fun h => q2 (hall.2 h).1
        simp [Try.ntmps31, Try.results31, cSl, cI, cD, cR, hk, hk3, hw, rAr, Ar.row]
        split
        · exact hne
        · rename_i q
          exact absurd (he.2 (by simp_all)) q2
    · intro _ hall
      simp [hn] at hall
      simp [Try.ntmps31, Try.results31, cSl, cI, cD, cR, hall]
  · rename_i hn
    rintro rfl
    exact hn rfl
def enR (o : Bool) : List Entry → Row := slR 7 Entry.row o
def lnR (o : Bool) : List Ln → Row := slR 3 Ln.row o
def rEnS : RCod (List Entry) := rS rEnt
def rLnS : RCod (List Ln) := rS rLn
theorem e_tb {t : Tb} : (cFp rTb).enc t = .fptr t.row 0 := rfl
theorem e_en {L : List (List Entry)} : (cFp (rS rEnS)).enc L = .fptr [.fsl false 1 (L.map (enR false))] 0 := rfl
theorem e_cp {L : List Cpu} : (cFp (rS rCpu)).enc L = .fptr [.fsl false 2 (L.map Cpu.row)] 0 := rfl
theorem e_ln {L : List (List Ln)} : (cFp (rS rLnS)).enc L = .fptr [.fsl false 1 (L.map (lnR false))] 0 := rfl
theorem e_ar {L : List Ar} : (cFp (rS rAr)).enc L = .fptr [.fsl false 3 (L.map Ar.row)] 0 := rfl
theorem sameT_pure : PureOk Try.prog 28 (argM (cFp rTb) fun t => argM (cFp (rS rEnS)) fun b => argM (cFp (rS rCpu)) fun l => argM (cFp (rS rLnS)) fun c => argM (cFp (rS rAr)) fun m => argM (cFp (rS rAr)) fun d => finM (if (b = t.l.map Nd.ents ∧ c = l.map Cpu.lines ∧ m = d) ∧ (l.length ≤ 4294967295 ∧ m.length ≤ 4294967295 ∧ (∀ n ∈ t.l, n.ents.length ≤ 4294967295) ∧ ∀ c ∈ l, c.lines.length ≤ 4294967295) then some (.v (.bool true)) else none)) := by
  refine pure6 Try.func28 rfl ?_
  rintro t b l c m d r hr
  by_cases hc : (b = t.l.map Nd.ents ∧ c = l.map Cpu.lines ∧ m = d) ∧ (l.length ≤ 4294967295 ∧ m.length ≤ 4294967295 ∧ (∀ n ∈ t.l, n.ents.length ≤ 4294967295) ∧ ∀ c ∈ l, c.lines.length ≤ 4294967295)
  case neg => rw [if_neg hc] at hr; cases hr
  rw [if_pos hc] at hr
  simp only [Option.some.injEq] at hr
  subst hr
  refine body_gen (((noOrc_ok.withP enEqual_pure).withP lnEqual_pure).withP arEqualU_pure) fxMix (by kernel_rfl) (by simp [Try.ntmps28]) ?_
  intro C cP cI cN cD cF cA cR cL
  have cp0 := orcP enEqual_pure (C := C) (by rw [cP]; rfl)
  have cp1 := orcP lnEqual_pure (C := C) (by rw [cP]; rfl)
  have cp2 := orcP arEqualU_pure (C := C) (by rw [cP]; rfl)
  replace cI : C.inl = fun _ => false := cI
  replace cR : C.rd = fun _ => none := cR
  replace cD : C.dyn = fun _ => [] := cD
  clear cP cN cF cA
  obtain ⟨⟨rfl, rfl, rfl⟩, g1, g2, g3, g4⟩ := hc
  have hl8 := t.h
  have g2' : m.length ≤ 4294967296 := by omega
  rw [e_tb, e_en, e_cp, e_ln, e_ar]
  simp [Try.ntmps28, Try.results28, cSl, cp0, cp1, cp2, cI, cD, cR, rTb]
  refine loop_for 8 (fun k (_ : Unit) => ([(1, .fptr [.fsl false 1 ((t.l.map Nd.ents).map (enR false))] 0), (2, .fptr [.fsl false 2 (l.map Cpu.row)] 0), (3, .fptr [.fsl false 1 ((l.map Cpu.lines).map (lnR false))] 0), (4, .fptr [.fsl false 3 (m.map Ar.row)] 0), (5, .fptr [.fsl false 3 (m.map Ar.row)] 0), (11, .agg t.row), (12, .v (.int .i64 k))], [])) (fun k _ => True) () (by omega) trivial (by simp) ?_ ?_
  · rintro k _ hk _ hw
    have hkl : k < t.l.length := by omega
    have hki : (k : Int) < 8 := by omega
    have htk := tb_take t hk
    have g3k := g3 _ (List.getElem_mem hkl)
    have g3k' : t.l[k].ents.length ≤ 4294967296 := by omega
    have hle : k * 2 + 2 ≤ 16 := by omega
    simp [Try.ntmps28, Try.results28, cSl, cp0, cp1, cp2, cI, cD, cR, hk, hki, hkl, htk, hle, hw, g3k', Nd.row, enR, slR, rEnt]
  · rintro _ _
    simp [Try.ntmps28, Try.results28, cSl, cp0, cp1, cp2, cI, cD, cR]
    refine loop_for l.length (fun k (_ : Unit) => ([(3, .fptr [.fsl false 1 ((l.map Cpu.lines).map (lnR false))] 0), (4, .fptr [.fsl false 3 (m.map Ar.row)] 0), (5, .fptr [.fsl false 3 (m.map Ar.row)] 0), (25, .fsl false 2 (l.map Cpu.row)), (26, .v (.int .i64 l.length)), (27, .v (.int .i64 k))], [])) (fun k _ => True) () (by omega) trivial (by simp) ?_ ?_
    · rintro k _ hk _ hw
      have g4k := g4 _ (List.getElem_mem hk)
      have g4k' : l[k].lines.length ≤ 4294967296 := by omega
      simp [Try.ntmps28, Try.results28, cSl, cp0, cp1, cp2, cI, cD, cR, hk, hw, g4k', Cpu.row, lnR, slR, rLn]
    · rintro _ _
      simp [Try.ntmps28, Try.results28, cSl, cp0, cp1, cp2, cI, cD, cR, rAr, g2']
end
section
attribute [local simp] Entry.eta Entry.cold Entry.mapM Entry.mapMc Entry.view Entry.viewc Entry.hotR Entry.ren Entry.renc Entry.low Entry.tau Entry.tauc Entry.bare Entry.flat Entry.flat1 Entry.mapMt Entry.mapMd Entry.coldt Entry.coldd Entry.hotRt Entry.hotRd
attribute [local simp] Nd.eta Nd.dec_row Nd.dec_hrow Nd.cold Nd.hcold Nd.mapM Nd.mapMc Nd.hmapM Nd.hmapMc Nd.view Nd.viewc Nd.hview Nd.hviewc Nd.hotR Nd.ren Nd.renc Nd.low Nd.hlow
attribute [local simp] Ln.eta Ln.cold Ln.mapM Ln.mapMc Ln.view Ln.viewc Ln.hotR Ln.ren Ln.renc Ln.low Ln.tau Ln.tauc Ln.bare Ln.flat Ln.flat1 Ln.mapMt Ln.mapMd Ln.coldt Ln.coldd Ln.hotRt Ln.hotRd
attribute [local simp] Od.eta Od.cold Od.mapM Od.mapMc Od.view Od.viewc Od.hotR Od.ren Od.renc Od.low Od.tau Od.tauc Od.bare Od.flat Od.flat1 Od.mapMt Od.mapMd Od.coldt Od.coldd Od.hotRt Od.hotRd
attribute [local simp] Cpu.eta Cpu.dec_row Cpu.dec_hrow Cpu.cold Cpu.hcold Cpu.mapM Cpu.mapMc Cpu.hmapM Cpu.hmapMc Cpu.view Cpu.viewc Cpu.hview Cpu.hviewc Cpu.hotR Cpu.ren Cpu.renc Cpu.low Cpu.hlow
attribute [local simp] Ar.eta Ar.cold Ar.mapM Ar.mapMc Ar.view Ar.viewc Ar.hotR Ar.ren Ar.renc Ar.low Ar.tau Ar.tauc Ar.bare Ar.flat Ar.flat1 Ar.mapMt Ar.mapMd Ar.coldt Ar.coldd Ar.hotRt Ar.hotRd
attribute [local simp] tb_write tb_hwrite tb_allV tb_hallV tb_len tb_hlen tb_all tb_hall tb_one tb_hone tb_low tb_hlow tb_lowC tb_hlowC tb_view tb_hview tb_cold tb_hcold tb_hot Tb.dec_row Tb.dec_hrow
theorem obj_set' {H : Heap} {i j : Nat} {x : Option (Nat × List Row)} {o : Nat × List Row} (h : obj H i = some o) (e : j ≠ i) : obj (H.set j x) i = some o := by rw [ob_ne e]; exact h
theorem coldR_en {l : List Entry} : coldR (l.map Entry.row) = l.map Entry.row := Entry.cold l
theorem coldR_ln {l : List Ln} : coldR (l.map Ln.row) = l.map Ln.row := Ln.cold l
theorem coldR_ar {l : List Ar} : coldR (l.map Ar.row) = l.map Ar.row := Ar.cold l
theorem dAr {l : List Ar} : List.mapM arDec (l.map Ar.row) = some l := mapM_dec rAr l
/-- lists of lists, as they grow -/
def enRs (L : List (List Entry)) : List Row := L.map fun l => [.fsl true 7 (l.map Entry.row)]
def lnRs (L : List (List Ln)) : List Row := L.map fun l => [.fsl true 3 (l.map Ln.row)]
theorem enRs_cold {L : List (List Entry)} : coldR (enRs L) = L.map (enR false) := by
  induction L with
  | nil => rfl
  | cons a L ih =>
    simp only [enRs, List.map_cons] at ih ⊢
    simp only [coldR, ih, coldC, cold, coldR_en, enR, slR]
theorem lnRs_cold {L : List (List Ln)} : coldR (lnRs L) = L.map (lnR false) := by
  induction L with
  | nil => rfl
  | cons a L ih =>
    simp only [lnRs, List.map_cons] at ih ⊢
    simp only [coldR, ih, coldC, cold, coldR_ln, lnR, slR]
theorem enRs_view {H : Heap} {d : Nat} {L : List (List Entry)} : List.map (fun r => List.map (view H d) r) (enRs L) = enRs L := by
  simp [enRs, view]
theorem lnRs_view {H : Heap} {d : Nat} {L : List (List Ln)} : List.map (fun r => List.map (view H d) r) (lnRs L) = lnRs L := by
  simp [lnRs, view]
theorem enRs_dec (L : List (List Entry)) : slDec rEnS (.fsl false 1 (L.map (enR false))) = some L := by
  simp only [slDec]
  rw [if_pos (show 1 = rEnS.sz from rfl)]
  exact mapM_dec rEnS L
theorem lnRs_dec (L : List (List Ln)) : slDec rLnS (.fsl false 1 (L.map (lnR false))) = some L := by
  simp only [slDec]
  rw [if_pos (show 1 = rLnS.sz from rfl)]
  exact mapM_dec rLnS L
theorem cpU_dec (L : List Cpu) : slDec rCpu (.fsl false 2 (L.map Cpu.row)) = some L := by
  simp only [slDec]
  rw [if_pos (show 2 = rCpu.sz from rfl)]
  exact mapM_dec rCpu L
theorem cpU_cold {L : List Cpu} : coldR (L.map Cpu.row) = L.map Cpu.row := by
  induction L with
  | nil => rfl
  | cons a L ih => simp only [List.map_cons, coldR, ih, Cpu.row, coldC, cold, coldR_ln, Od.cold]
def lsA (id k : Nat) : AVal := if k = 0 then .v (.slice none 0 0) else .osl id 1 0 k k
structure KT (t : Tb) (l : List Cpu) (m : List Ar) (G : Heap) : Prop where
  o0 : obj G 0 = some (16, [t.row])
  o2 : obj G 2 = some (1, [[.fsl false 2 (l.map Cpu.row)]])
  o4 : obj G 4 = some (1, [[.fsl false 3 (m.map Ar.row)]])
  o6 : obj G 6 = some (1, [[.osl 7 1 0 8 8]])
  o7 : obj G 7 = some (1, enRs (t.l.map Nd.ents))
  o8 : obj G 8 = some (1, [[lsA 9 l.length]])
  o9 : l ≠ [] → obj G 9 = some (1, lnRs (l.map Cpu.lines))
  o10 : m ≠ [] → obj G 10 = some (3, m.map Ar.row)
  o11 : obj G 11 = some (1, [[oA 10 3 m.length]])
namespace KT
variable {t : Tb} {l : List Cpu} {m : List Ar} {G : Heap}
theorem app (h : KT t l m G) (K : Heap) : KT t l m (G ++ K) :=
  ⟨ob_app h.o0, ob_app h.o2, ob_app h.o4, ob_app h.o6, ob_app h.o7, ob_app h.o8, fun e => ob_app (h.o9 e), fun e => ob_app (h.o10 e), ob_app h.o11⟩
theorem set (h : KT t l m G) {i : Nat} (hi : 12 ≤ i) (o : Option (Nat × List Row)) : KT t l m (G.set i o) :=
  ⟨obj_set' h.o0 (by omega), obj_set' h.o2 (by omega), obj_set' h.o4 (by omega), obj_set' h.o6 (by omega), obj_set' h.o7 (by omega), obj_set' h.o8 (by omega), fun e => obj_set' (h.o9 e) (by omega), fun e => obj_set' (h.o10 e) (by omega), obj_set' h.o11 (by omega)⟩
theorem d0 (h : KT t l m G) : (cFp rTb).dec (cold (view G 4 (.ptr 0 16 0 0))) = some t := by
  have := h.o0
  simp [-obj, view, this, cold, cFp, rTb]
theorem d2 (h : KT t l m G) : (cFp (rS rCpu)).dec (cold (view G 4 (.ptr 2 1 0 0))) = some l := by
  have := h.o2
  simp [-obj, -List.mapM_map, view, this, cold, coldC, cpU_cold, cFp, rS, rCell, cSl]
  exact ⟨rfl, mapM_dec rCpu l⟩
theorem d4 (h : KT t l m G) : (cFp (rS rAr)).dec (cold (view G 4 (.ptr 4 1 0 0))) = some m := by
  have := h.o4
  simp [-obj, view, this, cold, coldC, coldR_ar, cFp, rS, cSl, slDec, rAr, -List.mapM_map, dAr]
theorem d6 (h : KT t l m G) : (cFp (rS rEnS)).dec (cold (view G 4 (.ptr 6 1 0 0))) = some (t.l.map Nd.ents) := by
  have h5 := h.o6
  have h3 := h.o7
  have hl : (enRs (t.l.map Nd.ents)).length = 8 := by simp [enRs, t.h]
  have ht : List.take 8 (enRs (t.l.map Nd.ents)) = enRs (t.l.map Nd.ents) := List.take_of_length_le (by omega)
  simp [-obj, view, h5, h3, hl, ht, -List.map_map, enRs_view, cold, coldC, enRs_cold, cFp, rS, rCell, cSl]
  have hm := mapM_dec' rEnS (t.l.map Nd.ents)
  rw [List.mapM_map] at hm
  exact ⟨rfl, hm⟩
theorem d8 (h : KT t l m G) : (cFp (rS rLnS)).dec (cold (view G 4 (.ptr 8 1 0 0))) = some (l.map Cpu.lines) := by
  have h5 := h.o8
  by_cases e : l = []
  · subst e
    simp [-obj, view, h5, cold, coldC, cFp, rS, cSl, slDec, lsA]
  · have h3 := h.o9 e
    have hn : ¬ l.length = 0 := fun q => e (List.length_eq_zero_iff.1 q)
    have hl : (lnRs (l.map Cpu.lines)).length = l.length := by simp [lnRs]
    have ht : List.take l.length (lnRs (l.map Cpu.lines)) = lnRs (l.map Cpu.lines) := List.take_of_length_le (by omega)
    simp [-obj, view, h5, h3, hn, hl, ht, e, lsA, -List.map_map, lnRs_view, cold, coldC, lnRs_cold, cFp, rS, rCell, cSl]
    have hm := mapM_dec' rLnS (l.map Cpu.lines)
    rw [List.mapM_map] at hm
    exact ⟨rfl, hm⟩
theorem d11 (h : KT t l m G) : (cFp (rS rAr)).dec (cold (view G 4 (.ptr 11 1 0 0))) = some m := by
  have h5 := h.o11
  by_cases e : m = []
  · subst e
    simp [-obj, view, h5, cold, coldC, cFp, rS, cSl, slDec, oA]
  · have h3 := h.o10 e
    have hn : ¬ m.length = 0 := fun q => e (List.length_eq_zero_iff.1 q)
    have ht : List.take m.length (m.map Ar.row) = m.map Ar.row := List.take_of_length_le (by simp)
    have hv : List.map (fun r => List.map (view G 2) r) (m.map Ar.row) = m.map Ar.row := by simp [Ar.row, view]
    simp [-obj, view, h5, h3, hn, ht, -List.map_map, hv, cold, coldC, coldR_ar, cFp, rS, cSl, slDec, rAr, oA, e, -List.mapM_map, dAr]
end KT
end
section
attribute [local simp] Entry.eta Entry.cold Entry.mapM Entry.mapMc Entry.view Entry.viewc Entry.hotR Entry.ren Entry.renc Entry.low Entry.tau Entry.tauc Entry.bare Entry.flat Entry.flat1 Entry.mapMt Entry.mapMd Entry.coldt Entry.coldd Entry.hotRt Entry.hotRd
attribute [local simp] Nd.eta Nd.dec_row Nd.dec_hrow Nd.cold Nd.hcold Nd.mapM Nd.mapMc Nd.hmapM Nd.hmapMc Nd.view Nd.viewc Nd.hview Nd.hviewc Nd.hotR Nd.ren Nd.renc Nd.low Nd.hlow
attribute [local simp] Ln.eta Ln.cold Ln.mapM Ln.mapMc Ln.view Ln.viewc Ln.hotR Ln.ren Ln.renc Ln.low Ln.tau Ln.tauc Ln.bare Ln.flat Ln.flat1 Ln.mapMt Ln.mapMd Ln.coldt Ln.coldd Ln.hotRt Ln.hotRd
attribute [local simp] Od.eta Od.cold Od.mapM Od.mapMc Od.view Od.viewc Od.hotR Od.ren Od.renc Od.low Od.tau Od.tauc Od.bare Od.flat Od.flat1 Od.mapMt Od.mapMd Od.coldt Od.coldd Od.hotRt Od.hotRd
attribute [local simp] Cpu.eta Cpu.dec_row Cpu.dec_hrow Cpu.cold Cpu.hcold Cpu.mapM Cpu.mapMc Cpu.hmapM Cpu.hmapMc Cpu.view Cpu.viewc Cpu.hview Cpu.hviewc Cpu.hotR Cpu.ren Cpu.renc Cpu.low Cpu.hlow
attribute [local simp] Ar.eta Ar.cold Ar.mapM Ar.mapMc Ar.view Ar.viewc Ar.hotR Ar.ren Ar.renc Ar.low Ar.tau Ar.tauc Ar.bare Ar.flat Ar.flat1 Ar.mapMt Ar.mapMd Ar.coldt Ar.coldd Ar.hotRt Ar.hotRd
attribute [local simp] tb_write tb_hwrite tb_allV tb_hallV tb_len tb_hlen tb_all tb_hall tb_one tb_hone tb_low tb_hlow tb_lowC tb_hlowC tb_view tb_hview tb_cold tb_hcold tb_hot Tb.dec_row Tb.dec_hrow
def hTb : Tb := ⟨⟨true, [⟨true, false, 8, 0, false, false, false⟩]⟩ :: List.replicate 7 ⟨false, []⟩, rfl⟩
theorem h_dec : tbDec [.v (.bool true), .fsl false 7 [[.v (.bool true), .v (.bool false), .v (.int .i64 8), .v (.int .i64 0), .v (.bool false), .v (.bool false), .v (.bool false)]], .v (.bool false), .v (.slice none 0 0), .v (.bool false), .v (.slice none 0 0), .v (.bool false), .v (.slice none 0 0), .v (.bool false), .v (.slice none 0 0), .v (.bool false), .v (.slice none 0 0), .v (.bool false), .v (.slice none 0 0), .v (.bool false), .v (.slice none 0 0)] = some hTb := rfl
theorem tables_pure : PureOk Try.prog 22 ( finM (some (.v (.bool true)))) := by
  refine pure0 Try.func22 rfl ?_
  rintro  r hr
  simp only [Option.some.injEq] at hr
  subst hr
  refine body_gen (noOrc_ok.withP walk_pure) fxMix (by kernel_rfl) (by simp [Try.ntmps22]) ?_
  intro C cP cI cN cD cF cA cR cL
  have cp0 := orcP walk_pure (C := C) (by rw [cP]; rfl)
  replace cI : C.inl = fun _ => false := cI
  replace cR : C.rd = fun _ => none := cR
  replace cD : C.dyn = fun _ => [] := cD
  clear cP cN cF cA
  have h1 : walkE hTb 3 = ⟨true, false, 11, 0, false, false, false⟩ := by decide +kernel
  have h2 : pageE hTb 3 = 0 := by decide +kernel
  simp [Try.ntmps22, Try.results22, cSl, cp0, cI, cD, cR, rTb, h_dec, h1, h2, Entry.val]
theorem tlbs_pure : PureOk Try.prog 23 ( finM (some (.v (.bool true)))) := by
  refine pure0 Try.func23 rfl ?_
  rintro  r hr
  simp only [Option.some.injEq] at hr
  subst hr
  refine body_gen (noOrc_ok.withP tlFill_pure) fxMix (by kernel_rfl) (by simp [Try.ntmps23]) ?_
  intro C cP cI cN cD cF cA cR cL
  have cp0 := orcP tlFill_pure (C := C) (by rw [cP]; rfl)
  replace cI : C.inl = fun _ => false := cI
  replace cR : C.rd = fun _ => none := cR
  replace cD : C.dyn = fun _ => [] := cD
  clear cP cN cF cA
  have hF : tlFill [⟨[], []⟩] 0 1 2 7 = .ok [⟨[⟨1, 2, 7⟩], []⟩] := rfl
  simp [Try.ntmps23, Try.results23, cSl, cp0, cI, cD, cR, rCpu, cpuDec, Cpu.row, Cpu.hrow, rLn, lnDec, Ln.row, rOd, odDec, hF, flE]
  done
theorem areas_pure : PureOk Try.prog 24 ( finM (some (.v (.bool true)))) := by
  refine pure0 Try.func24 rfl ?_
  rintro  r hr
  simp only [Option.some.injEq] at hr
  subst hr
  refine body_gen (noOrc_ok.withP arPut_pure) fxMix (by kernel_rfl) (by simp [Try.ntmps24]) ?_
  intro C cP cI cN cD cF cA cR cL
  have cp0 := orcP arPut_pure (C := C) (by rw [cP]; rfl)
  replace cI : C.inl = fun _ => false := cI
  replace cR : C.rd = fun _ => none := cR
  replace cD : C.dyn = fun _ => [] := cD
  clear cP cN cF cA
  have h1 : arPut [] ⟨1, 2, 3⟩ = .ok [⟨1, 2, 3⟩] := rfl
  simp [Try.ntmps24, Try.results24, cSl, cp0, cI, cD, cR, rAr, Ar.row, arDec, h1, slE]
end
section
attribute [local simp] Ln.eta Ln.cold Ln.mapM Ln.mapMc Ln.view Ln.viewc Ln.hotR Ln.ren Ln.renc Ln.low Ln.tau Ln.tauc Ln.bare Ln.flat Ln.flat1 Ln.mapMt Ln.mapMd Ln.coldt Ln.coldd Ln.hotRt Ln.hotRd
attribute [local simp] Od.eta Od.cold Od.mapM Od.mapMc Od.view Od.viewc Od.hotR Od.ren Od.renc Od.low Od.tau Od.tauc Od.bare Od.flat Od.flat1 Od.mapMt Od.mapMd Od.coldt Od.coldd Od.hotRt Od.hotRd
attribute [local simp] Cpu.eta Cpu.dec_row Cpu.dec_hrow Cpu.cold Cpu.hcold Cpu.mapM Cpu.mapMc Cpu.hmapM Cpu.hmapMc Cpu.view Cpu.viewc Cpu.hview Cpu.hviewc Cpu.hotR Cpu.ren Cpu.renc Cpu.low Cpu.hlow
def shootM : Row → Heap → Option (SB → AVal × Heap) := own0R (argG (cSl rCpu) fun l => argG (cInt .i64) fun _ => argG (cAgg rOd) fun _ => finG (if l.length ≤ 1048576 then some (cpV 1) else none))
def fillM : Row → Heap → Option (SB → AVal × Heap) := own0R (argG (cSl rCpu) fun l => argG (cInt .i64) fun _ => argG (cInt .i64) fun _ => argG (cInt .i64) fun _ => argG (cInt .u32) fun _ => finG (if l.length ≤ 1048576 then some (cpV 1) else none))
def serveM : Row → Heap → Option (SB → AVal × Heap) := own0R (argG (cSl rCpu) fun l => argG (cInt .i64) fun _ => finG (if l.length ≤ 1048576 then some (cpV 2) else none))
theorem vwCp {X : Heap} {l : List Cpu} : cold (view X depthV (.fsl false 2 (l.map Cpu.row))) = .fsl false 2 (l.map Cpu.row) := by simp [depthV, view, cold, cpU_cold]
theorem vwV2 {H : Heap} {v : Value} : cold (view H depthV (.v v)) = .v v := by simp [depthV, view, cold]
theorem cpGE {n k : Nat} {S : List (Option OL)} {G : Heap} : (tau [] n (cpU k S).1, G ++ (cpU k S).2.map (tauO [] n)) = (AVal.tup (cpA n S :: List.replicate k .junk), G ++ cpG n S) := by rw [cpU_tau]; simp only [cpU, cpH_tau]
theorem slDec_cp {l : List Cpu} {q : Bool} : slDec rCpu (.fsl q 2 (l.map Cpu.row)) = some l := by
  simp only [slDec]
  rw [if_pos (show 2 = rCpu.sz from rfl)]
  exact mapM_dec rCpu l
theorem shootF {G : Heap} {l : List Cpu} {b : Int} {o : Od} (hl : l.length ≤ 1048576) : frameR shootM [.fsl false 2 (l.map Cpu.row), .v (.int .i64 b), .v (.agg #[.int .i64 o.space, .int .i64 o.page])] G = some (fun S : SB => (.tup (cpA G.length S.1 :: List.replicate 1 .junk), G ++ cpG G.length S.1)) := by
  have h1 : shootM [.fsl false 2 (l.map Cpu.row), .v (.int .i64 b), .v (.agg #[.int .i64 o.space, .int .i64 o.page])] [] = some (cpV 1) := by
    simp [shootM, own0R, argG, finG, cSl, -slDec, slDec_cp, cInt, cAgg, rOd, odDec, hl]
  unfold frameR
  simp only [List.map_cons, List.map_nil, vwCp, vwV2, h1, Option.map_some, cpV, cpGE]
theorem fillF {G : Heap} {l : List Cpu} {b s p w : Int} (hl : l.length ≤ 1048576) : frameR fillM [.fsl false 2 (l.map Cpu.row), .v (.int .i64 b), .v (.int .i64 s), .v (.int .i64 p), .v (.int .u32 w)] G = some (fun S : SB => (.tup (cpA G.length S.1 :: List.replicate 1 .junk), G ++ cpG G.length S.1)) := by
  have h1 : fillM [.fsl false 2 (l.map Cpu.row), .v (.int .i64 b), .v (.int .i64 s), .v (.int .i64 p), .v (.int .u32 w)] [] = some (cpV 1) := by
    simp [fillM, own0R, argG, finG, cSl, -slDec, slDec_cp, cInt, hl]
  unfold frameR
  simp only [List.map_cons, List.map_nil, vwCp, vwV2, h1, Option.map_some, cpV, cpGE]
theorem serveF {G : Heap} {l : List Cpu} {b : Int} (hl : l.length ≤ 1048576) : frameR serveM [.fsl false 2 (l.map Cpu.row), .v (.int .i64 b)] G = some (fun S : SB => (.tup (cpA G.length S.1 :: List.replicate 2 .junk), G ++ cpG G.length S.1)) := by
  have h1 : serveM [.fsl false 2 (l.map Cpu.row), .v (.int .i64 b)] [] = some (cpV 2) := by
    simp [serveM, own0R, argG, finG, cSl, -slDec, slDec_cp, cInt, hl]
  unfold frameR
  simp only [List.map_cons, List.map_nil, vwCp, vwV2, h1, Option.map_some, cpV, cpGE]
theorem argG_some {α β : Type} {c : Cod α} {k : α → Row → Option β} {args : Row} {g : β} (h : argG c k args = some g) : ∃ e r, k e r = some g := by
  unfold argG at h
  split at h
  · split at h
    · exact ⟨_, _, h⟩
    · cases h
  · cases h
theorem finG_some {β : Type} {a : Option β} {args : Row} {g : β} (h : finG a args = some g) : a = some g := by
  unfold finG at h
  split at h
  · exact h
  · cases h
theorem shootK : InlR Try.prog 35 (frameR shootM) := frameR_ok shoot_own (fun _ _ h => by
  obtain ⟨_, _, h⟩ := argG_some h
  obtain ⟨_, _, h⟩ := argG_some h
  obtain ⟨_, _, h⟩ := argG_some h
  exact ite_bare (finG_some h))
theorem fillK : InlR Try.prog 36 (frameR fillM) := frameR_ok fill_own (fun _ _ h => by
  obtain ⟨_, _, h⟩ := argG_some h
  obtain ⟨_, _, h⟩ := argG_some h
  obtain ⟨_, _, h⟩ := argG_some h
  obtain ⟨_, _, h⟩ := argG_some h
  obtain ⟨_, _, h⟩ := argG_some h
  exact ite_bare (finG_some h))
theorem serveK : InlR Try.prog 37 (frameR serveM) := frameR_ok serve_own (fun _ _ h => by
  obtain ⟨_, _, h⟩ := argG_some h
  obtain ⟨_, _, h⟩ := argG_some h
  exact ite_bare (finG_some h))
end
section
attribute [local simp] Entry.eta Entry.cold Entry.mapM Entry.mapMc Entry.view Entry.viewc Entry.hotR Entry.ren Entry.renc Entry.low Entry.tau Entry.tauc Entry.bare Entry.flat Entry.flat1 Entry.mapMt Entry.mapMd Entry.coldt Entry.coldd Entry.hotRt Entry.hotRd
attribute [local simp] Nd.eta Nd.dec_row Nd.dec_hrow Nd.cold Nd.hcold Nd.mapM Nd.mapMc Nd.hmapM Nd.hmapMc Nd.view Nd.viewc Nd.hview Nd.hviewc Nd.hotR Nd.ren Nd.renc Nd.low Nd.hlow
attribute [local simp] Ln.eta Ln.cold Ln.mapM Ln.mapMc Ln.view Ln.viewc Ln.hotR Ln.ren Ln.renc Ln.low Ln.tau Ln.tauc Ln.bare Ln.flat Ln.flat1 Ln.mapMt Ln.mapMd Ln.coldt Ln.coldd Ln.hotRt Ln.hotRd
attribute [local simp] Od.eta Od.cold Od.mapM Od.mapMc Od.view Od.viewc Od.hotR Od.ren Od.renc Od.low Od.tau Od.tauc Od.bare Od.flat Od.flat1 Od.mapMt Od.mapMd Od.coldt Od.coldd Od.hotRt Od.hotRd
attribute [local simp] Cpu.eta Cpu.dec_row Cpu.dec_hrow Cpu.cold Cpu.hcold Cpu.mapM Cpu.mapMc Cpu.hmapM Cpu.hmapMc Cpu.view Cpu.viewc Cpu.hview Cpu.hviewc Cpu.hotR Cpu.ren Cpu.renc Cpu.low Cpu.hlow
attribute [local simp] Ar.eta Ar.cold Ar.mapM Ar.mapMc Ar.view Ar.viewc Ar.hotR Ar.ren Ar.renc Ar.low Ar.tau Ar.tauc Ar.bare Ar.flat Ar.flat1 Ar.mapMt Ar.mapMd Ar.coldt Ar.coldd Ar.hotRt Ar.hotRd
structure INV (G X : Heap) : Prop where
  fx : ∀ id o, obj G id = some o → (id < 12 ∨ o.1 ≠ 7 ∧ o.1 ≠ 3) → obj X id = some o
  en : ∀ id (es : List Entry), obj G id = some (7, es.map Entry.row) → ∃ W : List Entry, W.length = es.length ∧ obj X id = some (7, W.map Entry.row)
  ln : ∀ id (es : List Ln), obj G id = some (3, es.map Ln.row) → ∃ W : List Ln, W.length = es.length ∧ obj X id = some (3, W.map Ln.row)
  ar : ∀ id (es : List Ar), obj G id = some (3, es.map Ar.row) → ∃ W : List Ar, W.length = es.length ∧ obj X id = some (3, W.map Ar.row)
namespace INV
variable {G X : Heap}
theorem refl : INV G G := ⟨fun _ _ h _ => h, fun _ es h => ⟨es, rfl, h⟩, fun _ es h => ⟨es, rfl, h⟩, fun _ es h => ⟨es, rfl, h⟩⟩
theorem app (h : INV G X) (K : Heap) : INV G (X ++ K) := by
  refine ⟨fun id o h1 h2 => ob_app (h.fx id o h1 h2), fun id es h1 => ?_, fun id es h1 => ?_, fun id es h1 => ?_⟩
  · obtain ⟨W, a, b⟩ := h.en id es h1
    exact ⟨W, a, ob_app b⟩
  · obtain ⟨W, a, b⟩ := h.ln id es h1
    exact ⟨W, a, ob_app b⟩
  · obtain ⟨W, a, b⟩ := h.ar id es h1
    exact ⟨W, a, ob_app b⟩
theorem setE (h : INV G X) {id : Nat} (hid : 12 ≤ id) {es W : List Entry} (ho : obj G id = some (7, es.map Entry.row)) (hW : W.length = es.length) : INV G (X.set id (some (7, W.map Entry.row))) := by
  obtain ⟨W0, _, hb⟩ := h.en id es ho
  have hlt := ob_lt hb
  refine ⟨fun i o h1 h2 => ?_, fun i es h1 => ?_, fun i es h1 => ?_, fun i es h1 => ?_⟩
  · by_cases e : id = i
    · subst e
      rw [ho] at h1
      cases h1
      rcases h2 with h2 | h2
      · omega
      · exact absurd rfl h2.1
    · rw [ob_ne e]; exact h.fx i o h1 h2
  · by_cases e : id = i
    · subst e
      rw [ho] at h1
      have hl := congrArg (fun x => (x.2).length) (Option.some.inj h1)
      simp only [List.length_map] at hl
      exact ⟨W, by omega, ob_self hlt (by decide)⟩
    · rw [ob_ne e]; exact h.en i es h1
  · by_cases e : id = i
    · subst e
      rw [ho] at h1
      exact absurd (congrArg Prod.fst (Option.some.inj h1)) (show ¬ (7 : Nat) = 3 by decide)
    · rw [ob_ne e]; exact h.ln i es h1
  · by_cases e : id = i
    · subst e
      rw [ho] at h1
      exact absurd (congrArg Prod.fst (Option.some.inj h1)) (show ¬ (7 : Nat) = 3 by decide)
    · rw [ob_ne e]; exact h.ar i es h1
theorem ln_ne_ar {a : List Ln} {b : List Ar} (ha : a ≠ []) (h : a.map Ln.row = b.map Ar.row) : False := by
  cases a with
  | nil => exact ha rfl
  | cons x a =>
    cases b with
    | nil => cases h
    | cons y b =>
      simp only [List.map_cons, List.cons.injEq] at h
      have := h.1
      simp [Ln.row, Ar.row] at this
theorem setL (h : INV G X) {id : Nat} (hid : 12 ≤ id) {es W : List Ln} (hne : es ≠ []) (ho : obj G id = some (3, es.map Ln.row)) (hW : W.length = es.length) : INV G (X.set id (some (3, W.map Ln.row))) := by
  obtain ⟨W0, _, hb⟩ := h.ln id es ho
  have hlt := ob_lt hb
  refine ⟨fun i o h1 h2 => ?_, fun i es h1 => ?_, fun i es h1 => ?_, fun i es h1 => ?_⟩
  · by_cases e : id = i
    · subst e
      rw [ho] at h1
      cases h1
      rcases h2 with h2 | h2
      · omega
      · exact absurd rfl h2.2
    · rw [ob_ne e]; exact h.fx i o h1 h2
  · by_cases e : id = i
    · subst e
      rw [ho] at h1
      exact absurd (congrArg Prod.fst (Option.some.inj h1)) (show ¬ (3 : Nat) = 7 by decide)
    · rw [ob_ne e]; exact h.en i es h1
  · by_cases e : id = i
    · subst e
      rw [ho] at h1
      have hl := congrArg (fun x => (x.2).length) (Option.some.inj h1)
      simp only [List.length_map] at hl
      exact ⟨W, by omega, ob_self hlt (by decide)⟩
    · rw [ob_ne e]; exact h.ln i es h1
  · by_cases e : id = i
    · subst e
      rw [ho] at h1
      exact (ln_ne_ar hne (congrArg Prod.snd (Option.some.inj h1))).elim
    · rw [ob_ne e]; exact h.ar i es h1
theorem setA (h : INV G X) {id : Nat} (hid : 12 ≤ id) {es W : List Ar} (hne : es ≠ []) (ho : obj G id = some (3, es.map Ar.row)) (hW : W.length = es.length) : INV G (X.set id (some (3, W.map Ar.row))) := by
  obtain ⟨W0, _, hb⟩ := h.ar id es ho
  have hlt := ob_lt hb
  refine ⟨fun i o h1 h2 => ?_, fun i es h1 => ?_, fun i es h1 => ?_, fun i es h1 => ?_⟩
  · by_cases e : id = i
    · subst e
      rw [ho] at h1
      cases h1
      rcases h2 with h2 | h2
      · omega
      · exact absurd rfl h2.2
    · rw [ob_ne e]; exact h.fx i o h1 h2
  · by_cases e : id = i
    · subst e
      rw [ho] at h1
      exact absurd (congrArg Prod.fst (Option.some.inj h1)) (show ¬ (3 : Nat) = 7 by decide)
    · rw [ob_ne e]; exact h.en i es h1
  · by_cases e : id = i
    · subst e
      rw [ho] at h1
      have hs := congrArg Prod.snd (Option.some.inj h1)
      have hl := congrArg List.length hs
      simp only [List.length_map] at hl
      exact (ln_ne_ar (by rintro rfl; simp at hl; exact hne hl) hs.symm).elim
    · rw [ob_ne e]; exact h.ln i es h1
  · by_cases e : id = i
    · subst e
      rw [ho] at h1
      have hl := congrArg (fun x => (x.2).length) (Option.some.inj h1)
      simp only [List.length_map] at hl
      exact ⟨W, by omega, ob_self hlt (by decide)⟩
    · rw [ob_ne e]; exact h.ar i es h1
theorem kt {t : Tb} {l : List Cpu} {m : List Ar} (h : INV G X) (k : KT t l m G) : KT t l m X :=
  ⟨h.fx _ _ k.o0 (.inl (by decide)), h.fx _ _ k.o2 (.inl (by decide)), h.fx _ _ k.o4 (.inl (by decide)), h.fx _ _ k.o6 (.inl (by decide)), h.fx _ _ k.o7 (.inl (by decide)), h.fx _ _ k.o8 (.inl (by decide)), fun e => h.fx _ _ (k.o9 e) (.inl (by decide)), fun e => h.fx _ _ (k.o10 e) (.inl (by decide)), h.fx _ _ k.o11 (.inl (by decide))⟩
end INV
theorem wAt0 {c cs : Row} : ∀ {b : Row}, b.length = cs.length → writeAt (b ++ c) 0 cs = cs ++ c := by
  induction cs with
  | nil => intro b h; cases b with
    | nil => rw [writeAt]
    | cons x b => simp at h
  | cons y cs ih => intro b h; cases b with
    | nil => simp at h
    | cons x b => simp only [List.cons_append, writeAt]; rw [ih (by simpa using h)]
theorem wAtM {b c cs : Row} (h : b.length = cs.length) : ∀ {a : Row} {n : Nat}, a.length = n → writeAt (a ++ (b ++ c)) n cs = a ++ (cs ++ c) := by
  intro a
  induction a with
  | nil => rintro n rfl; exact wAt0 h
  | cons x a ih => rintro n rfl; simp only [List.cons_append, List.length_cons, writeAt]; rw [ih rfl]
theorem allV_app {a b : Row} (h : allV a = none) : allV (a ++ b) = none := by
  induction a with
  | nil => cases h
  | cons x a ih =>
    cases x with
    | v x =>
      simp only [List.cons_append, allV, Option.map_eq_none_iff] at h ⊢
      exact ih h
    | _ => rfl
theorem allOneA_app {a b : Row} : allOneA (a ++ b) = (allOneA a && allOneA b) := by
  induction a with
  | nil => rfl
  | cons x a ih => simp only [List.cons_append, allOneA, ih, Bool.and_assoc]
theorem rUl {g : Nat → Nat} {t : Tb} : (fl (rowsU g t.l)).length = 16 := rowsU_len16 t.h
theorem w48a {z0 z1 z2 z3 z4 z5 z6 z7 z8 z9 z10 z11 z12 z13 z14 z15 z16 z17 z18 z19 z20 z21 z22 z23 z24 z25 z26 z27 z28 z29 z30 z31 z32 z33 z34 z35 z36 z37 z38 z39 z40 z41 z42 z43 z44 z45 z46 z47 : AVal} {g : Nat → Nat} {t : Tb} : writeAt [z0, z1, z2, z3, z4, z5, z6, z7, z8, z9, z10, z11, z12, z13, z14, z15, z16, z17, z18, z19, z20, z21, z22, z23, z24, z25, z26, z27, z28, z29, z30, z31, z32, z33, z34, z35, z36, z37, z38, z39, z40, z41, z42, z43, z44, z45, z46, z47] 0 (fl (rowsU g t.l)) = fl (rowsU g t.l) ++ [z16, z17, z18, z19, z20, z21, z22, z23, z24, z25, z26, z27, z28, z29, z30, z31, z32, z33, z34, z35, z36, z37, z38, z39, z40, z41, z42, z43, z44, z45, z46, z47] :=
  wAt0 (b := [z0, z1, z2, z3, z4, z5, z6, z7, z8, z9, z10, z11, z12, z13, z14, z15]) (c := [z16, z17, z18, z19, z20, z21, z22, z23, z24, z25, z26, z27, z28, z29, z30, z31, z32, z33, z34, z35, z36, z37, z38, z39, z40, z41, z42, z43, z44, z45, z46, z47]) (by rw [rUl]; rfl)
theorem w48b {z16 z17 z18 z19 z20 z21 z22 z23 z24 z25 z26 z27 z28 z29 z30 z31 z32 z33 z34 z35 z36 z37 z38 z39 z40 z41 z42 z43 z44 z45 z46 z47 : AVal} {g h : Nat → Nat} {t u : Tb} : writeAt (fl (rowsU g t.l) ++ [z16, z17, z18, z19, z20, z21, z22, z23, z24, z25, z26, z27, z28, z29, z30, z31, z32, z33, z34, z35, z36, z37, z38, z39, z40, z41, z42, z43, z44, z45, z46, z47]) 16 (fl (rowsU h u.l)) = fl (rowsU g t.l) ++ (fl (rowsU h u.l) ++ [z32, z33, z34, z35, z36, z37, z38, z39, z40, z41, z42, z43, z44, z45, z46, z47]) :=
  wAtM (b := [z16, z17, z18, z19, z20, z21, z22, z23, z24, z25, z26, z27, z28, z29, z30, z31]) (c := [z32, z33, z34, z35, z36, z37, z38, z39, z40, z41, z42, z43, z44, z45, z46, z47]) (by rw [rUl]; rfl) rUl
theorem w48c {z32 z33 z34 z35 z36 z37 z38 z39 z40 z41 z42 z43 z44 z45 z46 z47 : AVal} {f g h : Nat → Nat} {s t u : Tb} : writeAt (fl (rowsU g t.l) ++ (fl (rowsU h u.l) ++ [z32, z33, z34, z35, z36, z37, z38, z39, z40, z41, z42, z43, z44, z45, z46, z47])) 32 (fl (rowsU f s.l)) = fl (rowsU g t.l) ++ (fl (rowsU h u.l) ++ fl (rowsU f s.l)) := by
  have h1 := wAtM (a := fl (rowsU g t.l) ++ fl (rowsU h u.l)) (b := [z32, z33, z34, z35, z36, z37, z38, z39, z40, z41, z42, z43, z44, z45, z46, z47]) (c := []) (cs := fl (rowsU f s.l)) (by rw [rUl]; rfl) (n := 32) (by rw [List.length_append, rUl, rUl])
  simpa only [List.append_assoc, List.append_nil] using h1
theorem t48a {g h f : Nat → Nat} {t u s : Tb} : List.take 16 (fl (rowsU g t.l) ++ (fl (rowsU h u.l) ++ fl (rowsU f s.l))) = fl (rowsU g t.l) := by
  rw [List.take_append_of_le_length (by rw [rUl]; omega), List.take_of_length_le (by rw [rUl]; omega)]
theorem t48b {g h f : Nat → Nat} {t u s : Tb} : List.take 16 (List.drop 16 (fl (rowsU g t.l) ++ (fl (rowsU h u.l) ++ fl (rowsU f s.l)))) = fl (rowsU h u.l) := by
  rw [List.drop_append_of_le_length (by rw [rUl]; omega), List.drop_of_length_le (by rw [rUl]; omega), List.nil_append, List.take_append_of_le_length (by rw [rUl]; omega), List.take_of_length_le (by rw [rUl]; omega)]
theorem t48c {g h f : Nat → Nat} {t u s : Tb} : List.take 16 (List.drop 32 (fl (rowsU g t.l) ++ (fl (rowsU h u.l) ++ fl (rowsU f s.l)))) = fl (rowsU f s.l) := by
  rw [← List.append_assoc, List.drop_append_of_le_length (by rw [List.length_append, rUl, rUl]; omega), List.drop_of_length_le (by rw [List.length_append, rUl, rUl]; omega), List.nil_append, List.take_of_length_le (by rw [rUl]; omega)]
def tj (Ta Tc Td : Tb) (j : Nat) : Tb := if j = 0 then Ta else if j = 1 then Tc else Td
def nj (j : Nat) : Nat := if j = 0 then 12 else if j = 1 then 21 else 30
theorem t48 {Ta Tc Td : Tb} {j : Nat} (hj : j < 3) : List.take 16 (List.drop (j * 16) (fl (rowsU (fun i => 12 + i) Ta.l) ++ (fl (rowsU (fun i => 21 + i) Tc.l) ++ fl (rowsU (fun i => 30 + i) Td.l)))) = fl (rowsU (fun i => nj j + i) (tj Ta Tc Td j).l) := by
  rcases (show j = 0 ∨ j = 1 ∨ j = 2 by omega) with rfl | rfl | rfl
  · exact t48a
  · exact t48b
  · exact t48c
theorem l48 {g h f : Nat → Nat} {t u s : Tb} : (fl (rowsU g t.l) ++ (fl (rowsU h u.l) ++ fl (rowsU f s.l))).length = 48 := by rw [List.length_append, List.length_append, rUl, rUl, rUl]
theorem v48 {g : Nat → Nat} {t : Tb} {r : Row} : allV (fl (rowsU g t.l) ++ r) = none := allV_app (rowsU_allV (by have := t.h; omega))
theorem box_at {g : Nat → Nat} {t : Tb} {i : Nat} (hi : i < t.l.length) : (fl (rowsU g t.l))[i * 2 + 1]? = some (oA (g i) 7 t.l[i].ents.length) := by
  rw [fl_get rowsU_two (by rw [rowsU_len]; exact hi) (by decide)]
  have h1 := rowsU_get (g := g) hi
  rw [List.getElem?_eq_getElem (by rw [rowsU_len]; exact hi)] at h1
  rw [Option.some.inj h1]; rfl
def cj (S1 S2 : List (Option OL)) (j : Nat) : Nat := if j = 0 then 39 else if j = 1 then 40 + S1.length else 41 + S1.length + S2.length
def sj (S1 S2 S3 : List (Option OL)) (j : Nat) : List (Option OL) := if j = 0 then S1 else if j = 1 then S2 else S3
theorem t3c {S1 S2 S3 : List (Option OL)} {j : Nat} (hj : j < 3) : [cpA 39 S1, cpA (40 + S1.length) S2, cpA (41 + S1.length + S2.length) S3][j]? = some (cpA (cj S1 S2 j) (sj S1 S2 S3 j)) := by
  rcases (show j = 0 ∨ j = 1 ∨ j = 2 by omega) with rfl | rfl | rfl <;> rfl
def okj (a b c : Bool) (j : Nat) : Bool := if j = 0 then a else if j = 1 then b else c
def lj (a b c : List Ar) (j : Nat) : List Ar := if j = 0 then a else if j = 1 then b else c
theorem t3o {okg okh oki : Bool} {n0 : Nat} {Lg Lh Li : List Ar} {j : Nat} (hj : j < 3) : [okL okg n0 3 Lg.length, okL okh (n0 + 1) 3 Lh.length, okL oki (n0 + 2) 3 Li.length][j]? = some (okL (okj okg okh oki j) (n0 + j) 3 (lj Lg Lh Li j).length) := by
  rcases (show j = 0 ∨ j = 1 ∨ j = 2 by omega) with rfl | rfl | rfl <;> rfl
theorem cells_cp3 {a b c : Nat} {S1 S2 S3 : List (Option OL)} : cellsOf (.agg [cpA a S1, cpA b S2, cpA c S3]) = some [cpA a S1, cpA b S2, cpA c S3] := by
  have h : ∀ (a : Nat) (S : List (Option OL)), oneA (cpA a S) = true := fun a S => by unfold cpA; split <;> rfl
  simp only [cellsOf, allOneA, h, Bool.and_self, if_true]
theorem cells_ok3 {o1 o2 o3 : Bool} {a b c k1 k2 k3 z1 z2 z3 : Nat} : cellsOf (.agg [okL o1 a z1 k1, okL o2 b z2 k2, okL o3 c z3 k3]) = some [okL o1 a z1 k1, okL o2 b z2 k2, okL o3 c z3 k3] := by
  simp only [cellsOf, allOneA, okL_one, Bool.and_self, if_true]
end
end
section
def Bd (t : Tb) : Prop := ∀ n ∈ t.l, n.ents.length ≤ 1048576
theorem bd_no : Bd noTb := fun n hn => by
  simp only [noTb] at hn
  rw [List.eq_of_mem_replicate hn]
  decide
theorem bd_set {t : Tb} (h : Bd t) {k : Nat} {n : Nd} (hn : n.ents.length ≤ 1048576) : Bd (t.set k n) := fun m hm => by
  rcases List.mem_or_eq_of_mem_set hm with h1 | rfl
  · exact h m h1
  · exact hn
theorem sp8_l (n : Nd) : (sp8 n).length = 8 := by
  exact spE_len _ _
theorem bd_tbSet {t : Tb} (h : Bd t) {k : Int} {x : Entry} : Bd (tbX (tbSet t k x)).1 := by
  unfold tbSet
  split
  · split
    · refine bd_set h ?_
      unfold setN setE
      split
      · exact Nat.zero_le _
      · simp only [List.length_set, sp8_l]; omega
    · exact bd_no
  · exact bd_no
theorem bd_tbJoin {t : Tb} (h : Bd t) {k : Int} : Bd (tbX (tbJoin t k)).1 := by
  unfold tbJoin
  split
  · split
    · exact bd_no
    · split
      · exact bd_set h (by simp)
      · exact bd_no
  · exact bd_no
theorem bd_tbSplit {t : Tb} (h : Bd t) {k : Int} : Bd (tbX (tbSplit t k)).1 := by
  unfold tbSplit
  split
  · split
    · exact bd_no
    · split
      · exact bd_set h (by simp only [sp8_l]; omega)
      · exact bd_no
  · exact bd_no
theorem layA_len (l : List Ar) (a : Ar) : (layA l a).length ≤ l.length + 1 := by
  have := fold_len (insA l a) []
  rw [insA_len] at this
  simp only [List.length_nil] at this
  unfold layA joinAll
  omega
theorem bd_put {m : List Ar} {y : Ar} : (arX (arPut m y)).2.1.length ≤ 2 * m.length + 1 := by
  unfold arPut
  split
  · split
    · exact Nat.zero_le _
    · have := layA_len m y
      show (layA m y).length ≤ _
      omega
  · exact Nat.zero_le _
theorem bd_turn {m : List Ar} {y : Ar} : (arX (arTurn m y)).2.1.length ≤ 2 * m.length + 1 := by
  unfold arTurn
  split
  · split
    · exact Nat.zero_le _
    · have := layA_len (cutA m y.page y.end_) y
      have h2 := cutA_len m y.page y.end_
      show (layA (cutA m y.page y.end_) y).length ≤ _
      omega
  · exact Nat.zero_le _
theorem bd_out {m : List Ar} {p n : Int} : (arX (arOut m p n)).2.1.length ≤ 2 * m.length + 1 := by
  unfold arOut
  split
  · have h2 := cutA_len m p (p + n)
    show (cutA m p (p + n)).length ≤ _
    omega
  · exact Nat.zero_le _
end
section
set_option maxHeartbeats 2000000
set_option maxRecDepth 100000
set_option linter.unusedSimpArgs false
set_option linter.unusedVariables false
attribute [local simp] wpA wpX RunA RunD runF foot footP footB idsA bare apart runL step1 gsel_f gsel_t gsel_s res_same res_and1 res_and2 res_and3 res_and4 res_and5 res_and6 res_false res_true res_v res_ptr res_fptr res_osl res_xsl soft aAppendZ aCap ovlI ovlJ res_fsl res_esl res_agg res_tup res_fn res_junk res_anyb aPick hk imp_left iteV dstOk guardOk astep astepE AI.ev AI.look AI.put envOf aBox cellsOf allOne allOneA oneA Value.oneCell' Value.cells newObj' aFieldAddr aLoad obj readAt thenA blockA condA retA resA tupA view hot hotC hotR depthV cAgg cInt cBool mkAgg allV aAlloc aBuild fillA writeAt aStore isAggA aField idx aIndexAddr aIndex bnd aSlice aExtract aLen aBuiltin aCall isStatic eqAgg eqTy eqC ev_add ev_sub ev_mul ev_quo ev_rem ev_and ev_or ev_xor ev_andNot ev_shl ev_shr ev_eql ev_neq ev_lss ev_leq ev_gtr ev_geq ev_agg w64 wu32 wu8 ev_not ev_neg Cod.plain RCod.plain argM finM cold coldC coldR goInt intDec boolDec aggDec Weaker heapW lowA lowC Again slDec undef aBuildSlice setRows aAppend rowsOf aMakeSlice aClear aCopy softer_self softer_nil valsOf ev_min2 ev_max2 hotR_set hotR_append take_map_set irow_cold irow_mapM irow_mapMc irow_view irow_viewc irow_hotR irow_ren irow_renc irow_low WeakT heapT thOf ren renC AgainT NextF NextT fnDec cFn rNil selfLt natLt0 natLt1 getLastMap frame0 frame1 own0 own1 argG finG tau tauI tauO tauC bareA bareC bareH irow_tau irow_tauc irow_bare irow_flat irow_bareR ownA_nil ownT_nil ownA_c ownT_c ownA_s ownT_s takeMapLen footC plainA noId noIdC cloneF frame0F frame1F insertF replaceI replaceF cellDec rCell fpDec cFp rTwo deleteF allV_oA oneA_oA res_oA RunR RunE runFT footAt hotR_cat tmodN aEqH aSliceA frameN newA newC newH fxSz3 fxAg3 fxSl3 fxAg4 fxSz53 fxBy53 fxAg53 fxZe53 fxSl53 fxAr53 fxSz55 fxAg55 fxZe55 fxFi55x0 fxFi55x1 fxPl55 fxSz57 fxAg57 fxZe57 fxAr57 fxPl57 fxSz59 fxBy59 fxAg59 fxZe59 fxFi59x0 fxFi59x1 fxFi59x2 fxFi59x3 fxFi59x4 fxFi59x5 fxPl59 fxSz60 fxAg60 fxSl60 fxAr60 fxSz62 fxBy62 fxAg62 fxZe62 fxFi62x0 fxFi62x1 fxSz63 fxAg63 fxZe63 fxSl63 fxAr63 fxSz65 fxBy65 fxAg65 fxZe65 fxFi65x0 fxFi65x1 fxFi65x2 fxPl65 fxSz66 fxAg66 fxZe66 fxSl66 fxAr66 fxSz68 fxAg68 fxZe68 fxSl68 fxAr68 fxSz69 fxBy69 fxAg69 fxZe69 fxSl69 fxAr69 fxSz70 fxAg70 fxSl70 fxAr70 fxSz72 fxBy72 fxAg72 fxZe72 fxFi72x0 fxFi72x1 fxSz74 fxAg74 fxSz76 fxBy76 fxAg76 fxZe76 fxFi76x0 fxFi76x1 fxFi76x2 fxPl76 fxZe92 fxAr92 fxPl92 fxZe93 fxAr93 fxPl93 fxZe94 fxAr94 fxPl94 fxEq59 fxEq65 fxEq76 fxNe53 fxOe53 fxXe53 fxNe60 fxOe60 fxXe60 fxLn63 fxNe63 fxOe63 fxXe63 fxNe69 fxOe69 fxXe69 fxNe70 fxOe70 fxXe70 fxFm22 fxFi22 fxFm23 fxFi23 fxFm24 fxFi24 fxFm25 fxFi25 fxFm26 fxFi26 fxFm27 fxFm28 fxFi28 fxFj28 fxFm29 fxFi29 fxFm30 fxFi30 fxFm31 fxFi31 fxFm32 fxFm33 fxFm34 fxFm36 fxFi36 fxFm38 fxFi38 fxFm39 fxFm40 fxFm93 fxFi93 fxFm94 fxFi94 fxFm95 fxFi95 fxFm96 fxFm97 fxFm98 fxFm99 fxFi99 fxFm100 fxFi100 fxFm101 fxFi101 fxFm102 fxFi102 fxFm103 fxFi103 fxFm104 fxFm105 fxFm106 fxFm107 fxFi107 fxFm108 fxFm109 fxFi109 fxFm110 fxFi110 fxFm111 fxFm112 fxFm163 fxFi163 fxFm164 fxFi164 fxFm165 fxFm166 fxFm167 fxFi167 fxFm168 fxFi168 fxFm169 fxFi169 fxFm170 fxFi170 fxFm171 fxFm199 fxFi199 fxFm200 fxFi200 fxFm201 fxFm221 fxFi221
section
set_option maxHeartbeats 40000000
attribute [local simp] Entry.eta Entry.cold Entry.mapM Entry.mapMc Entry.view Entry.viewc Entry.hotR Entry.ren Entry.renc Entry.low Entry.tau Entry.tauc Entry.bare Entry.flat Entry.flat1 Entry.mapMt Entry.mapMd Entry.coldt Entry.coldd Entry.hotRt Entry.hotRd
attribute [local simp] Nd.eta Nd.dec_row Nd.dec_hrow Nd.cold Nd.hcold Nd.mapM Nd.mapMc Nd.hmapM Nd.hmapMc Nd.view Nd.viewc Nd.hview Nd.hviewc Nd.hotR Nd.ren Nd.renc Nd.low Nd.hlow
attribute [local simp] Ln.eta Ln.cold Ln.mapM Ln.mapMc Ln.view Ln.viewc Ln.hotR Ln.ren Ln.renc Ln.low Ln.tau Ln.tauc Ln.bare Ln.flat Ln.flat1 Ln.mapMt Ln.mapMd Ln.coldt Ln.coldd Ln.hotRt Ln.hotRd
attribute [local simp] Od.eta Od.cold Od.mapM Od.mapMc Od.view Od.viewc Od.hotR Od.ren Od.renc Od.low Od.tau Od.tauc Od.bare Od.flat Od.flat1 Od.mapMt Od.mapMd Od.coldt Od.coldd Od.hotRt Od.hotRd
attribute [local simp] Cpu.eta Cpu.dec_row Cpu.dec_hrow Cpu.cold Cpu.hcold Cpu.mapM Cpu.mapMc Cpu.hmapM Cpu.hmapMc Cpu.view Cpu.viewc Cpu.hview Cpu.hviewc Cpu.hotR Cpu.ren Cpu.renc Cpu.low Cpu.hlow
attribute [local simp] Ar.eta Ar.cold Ar.mapM Ar.mapMc Ar.view Ar.viewc Ar.hotR Ar.ren Ar.renc Ar.low Ar.tau Ar.tauc Ar.bare Ar.flat Ar.flat1 Ar.mapMt Ar.mapMd Ar.coldt Ar.coldd Ar.hotRt Ar.hotRd
attribute [local simp] tb_write tb_hwrite tb_allV tb_hallV tb_len tb_hlen tb_all tb_hall tb_one tb_hone tb_low tb_hlow tb_lowC tb_hlowC tb_view tb_hview tb_cold tb_hcold tb_hot Tb.dec_row Tb.dec_hrow
attribute [local simp] okL_tau okL_bare okL_allV okL_one okL_res
attribute [local simp] rowsU_tauA tailU_tau tailU_bare rowsU_bare tailU_len rowsU_tauC rowsU_bareC
theorem oA_cells {id sz n : Nat} : cellsOf (oA id sz n) = some [oA id sz n] := by unfold oA; split <;> rfl
theorem okL_cells {ok : Bool} {id sz n : Nat} : cellsOf (okL ok id sz n) = some [okL ok id sz n] := by unfold okL; split <;> rfl
theorem cells_agg {cs : Row} : cellsOf (.agg cs) = if allOneA cs = true then some cs else none := rfl
theorem cells_vagg {cs : Array Value} : cellsOf (.v (.agg cs)) = if allOne cs.toList = true then some (cs.toList.map .v) else none := rfl
theorem cells_int {k : IntKind} {x : Int} : cellsOf (.v (.int k x)) = some [.v (.int k x)] := rfl
theorem cells_bool {b : Bool} : cellsOf (.v (.bool b)) = some [.v (.bool b)] := rfl
theorem cells_slice {a : Option Addr} {n k : Nat} : cellsOf (.v (.slice a n k)) = some [.v (.slice a n k)] := rfl
theorem cells_osl {a b c d e : Nat} : cellsOf (.osl a b c d e) = some [.osl a b c d e] := rfl
theorem cells_esl : cellsOf .esl = some [.esl] := rfl
theorem cells_fsl {o : Bool} {sz : Nat} {rows : List Row} : cellsOf (.fsl o sz rows) = some [.fsl o sz rows] := rfl
theorem cells_ptr {a b c d : Nat} : cellsOf (.ptr a b c d) = some [.ptr a b c d] := rfl
attribute [local simp] cells_ptr
attribute [-simp] cellsOf
attribute [local simp] cells_agg cells_vagg cells_int cells_bool cells_slice cells_osl cells_esl cells_fsl oA_cells okL_cells
attribute [local simp] allV_oA oneA_oA res_oA tau_oA bare_oA
theorem rU_allV {g : Nat → Nat} {t : Tb} : allV (fl (rowsU g t.l)) = none := rowsU_allV (by have := t.h; omega)
theorem rU_len {g : Nat → Nat} {t : Tb} : (fl (rowsU g t.l)).length = 16 := rowsU_len16 t.h
theorem rU_take {g : Nat → Nat} {t : Tb} : List.take 16 (fl (rowsU g t.l)) = fl (rowsU g t.l) := rowsU_take t.h
theorem rU_write {g : Nat → Nat} {t : Tb} : writeAt zTb 0 (fl (rowsU g t.l)) = fl (rowsU g t.l) := rowsU_write t.h rfl
theorem rU_write0 {g : Nat → Nat} {t : Tb} {a0 a1 a2 a3 a4 a5 a6 a7 a8 a9 b0 b1 b2 b3 b4 b5 : AVal} : writeAt [a0, a1, a2, a3, a4, a5, a6, a7, a8, a9, b0, b1, b2, b3, b4, b5] 0 (fl (rowsU g t.l)) = fl (rowsU g t.l) := rowsU_write t.h rfl
attribute [local simp] rU_write0 rU_allV rU_len rU_take rU_write rowsU_one
theorem clEn : InlOk Try.prog 25 (cloneI 7) := by
  refine inl_soft Try.func25 rfl ?_
  intro args H r H' hr
  rcases cloneI_some hr with ⟨o, rows, rfl, hl, hc⟩ | ⟨id, st, k, kc, rows, rfl, hob, hle, hl, hc⟩ | ⟨rfl, rfl, rfl⟩
  · refine ⟨by simp [Try.ntmps25], wpA_sound noOrc_ok fxMix _ _ _ _ (by kernel_rfl) ?_⟩
    rcases hc with ⟨rfl, rfl, rfl⟩ | ⟨h0, rfl, rfl⟩
    · simp [Try.ntmps25, Try.results25, noOrc]
    · simp [Try.ntmps25, Try.results25, h0, hl, noOrc]
  · refine ⟨by simp [Try.ntmps25], wpA_sound noOrc_ok fxMix _ _ _ _ (by kernel_rfl) ?_⟩
    have hob' := obj_get hob
    have e1 : min k (rows.length - st) = k := by omega
    have e2 : st + k ≤ rows.length := hle
    have e3 : st ≤ rows.length := by omega
    rcases hc with ⟨rfl, rfl, rfl⟩ | ⟨h0, rfl, rfl⟩
    · simp [Try.ntmps25, Try.results25, noOrc, hob', e2, e3]
    · simp [Try.ntmps25, Try.results25, hl, noOrc, hob', e1, e2, h0]
  · refine ⟨by simp [Try.ntmps25], wpA_sound noOrc_ok fxMix _ _ _ _ (by kernel_rfl) ?_⟩
    simp [Try.ntmps25, Try.results25, noOrc]
theorem clEnP : PureOk Try.prog 25 (argM (cSl rEnt) fun l => finM (if l.length ≤ 4294967296 then some (.fsl true 7 (l.map Entry.row)) else none)) := by
  refine pureS1 Try.func25 rfl ?_
  rintro l r' hr
  by_cases hc : l.length ≤ 4294967296
  case neg => rw [if_neg hc] at hr; cases hr
  rw [if_pos hc] at hr
  simp only [Option.some.injEq] at hr
  subst hr
  refine bodyS_of noOrc_ok fxMix (by kernel_rfl) (by simp [Try.ntmps25]) ?_
  intro C cP cI cN cD cF cA cR cL
  replace cI : C.inl = fun _ => false := cI
  replace cR : C.rd = fun _ => none := cR
  replace cD : C.dyn = fun _ => [] := cD
  clear cP cN cF cA
  by_cases h : l = []
  · subst h
    simp [Try.ntmps25, Try.results25, cSl, cI, cD, cR, rEnt]
    exact ⟨⟨.nil, rfl⟩, ⟨.esl, rfl⟩⟩
  · simp [Try.ntmps25, Try.results25, cSl, cI, cD, cR, rEnt, h, hc]
    exact shows_osl rfl (by rfl) (fun e => by simp [Entry.row, view]) (fun e => by simp [Entry.row, hotC, hot])
theorem clLnP : PureOk Try.prog 26 (argM (cSl rLn) fun l => finM (if l.length ≤ 4294967296 then some (.fsl true 3 (l.map Ln.row)) else none)) := by
  refine pureS1 Try.func26 rfl ?_
  rintro l r' hr
  by_cases hc : l.length ≤ 4294967296
  case neg => rw [if_neg hc] at hr; cases hr
  rw [if_pos hc] at hr
  simp only [Option.some.injEq] at hr
  subst hr
  refine bodyS_of noOrc_ok fxMix (by kernel_rfl) (by simp [Try.ntmps26]) ?_
  intro C cP cI cN cD cF cA cR cL
  replace cI : C.inl = fun _ => false := cI
  replace cR : C.rd = fun _ => none := cR
  replace cD : C.dyn = fun _ => [] := cD
  clear cP cN cF cA
  by_cases h : l = []
  · subst h
    simp [Try.ntmps26, Try.results26, cSl, cI, cD, cR, rLn]
    exact ⟨⟨.nil, rfl⟩, ⟨.esl, rfl⟩⟩
  · simp [Try.ntmps26, Try.results26, cSl, cI, cD, cR, rLn, h, hc]
    exact shows_osl rfl (by rfl) (fun e => by simp [Ln.row, view]) (fun e => by simp [Ln.row, hotC, hot])
theorem arCU : InlOk Try.prog 27 (cloneU 3) := cloneU_ok arClone_inl
def enA (k : Nat) : AVal := if k = 0 then .v (.slice none 0 0) else .osl 7 1 0 k k
def enO (k : Nat) (L : List (List Entry)) : Option (Nat × List Row) := if k = 0 then none else some (1, enRs (L.take k))
def lnO (k : Nat) (L : List (List Ln)) : Option (Nat × List Row) := if k = 0 then none else some (1, lnRs (L.take k))
theorem enRs_take {L : List (List Entry)} {k : Nat} (hk : k < L.length) : enRs (L.take (k + 1)) = enRs (L.take k) ++ [[.fsl true 7 (L[k].map Entry.row)]] := by
  unfold enRs
  rw [List.take_succ_eq_append_getElem hk, List.map_append]; rfl
theorem lnRs_take {L : List (List Ln)} {k : Nat} (hk : k < L.length) : lnRs (L.take (k + 1)) = lnRs (L.take k) ++ [[.fsl true 3 (L[k].map Ln.row)]] := by
  unfold lnRs
  rw [List.take_succ_eq_append_getElem hk, List.map_append]; rfl
theorem tbr_ren {n0 : Nat} {th : List Nat} {t : Tb} : t.row.map (ren n0 th) = t.row := by
  unfold Tb.row
  rw [fl_map, List.map_map]
  congr 1
theorem tbr_renC {n0 : Nat} {th : List Nat} {t : Tb} : renC n0 th t.row = t.row := by rw [renC_map, tbr_ren]
attribute [local simp] tbr_ren tbr_renC
theorem enRs_ren {n0 : Nat} {th : List Nat} {M : List (List Entry)} : List.map (List.map (ren n0 th)) (enRs M) = enRs M := by
  simp only [enRs, List.map_map]; rfl
theorem lnRs_ren {n0 : Nat} {th : List Nat} {M : List (List Ln)} : List.map (List.map (ren n0 th)) (lnRs M) = lnRs M := by
  simp only [lnRs, List.map_map]; rfl
theorem enRs_low {n : Nat} {M : List (List Entry)} : (∀ x ∈ enRs M, ∀ y ∈ x, lowA n y = true) = True := by
  refine eq_true fun x hx y hy => ?_
  obtain ⟨b, _, rfl⟩ := List.mem_map.1 hx
  simp at hy; subst hy; rfl
theorem lnRs_low {n : Nat} {M : List (List Ln)} : (∀ x ∈ lnRs M, ∀ y ∈ x, lowA n y = true) = True := by
  refine eq_true fun x hx y hy => ?_
  obtain ⟨b, _, rfl⟩ := List.mem_map.1 hx
  simp at hy; subst hy; rfl
def hBs (t : Tb) (x : Entry) (l : List Cpu) (o : Od) (m : List Ar) (y : Ar) : Heap := [some (16, [t.row]), some (7, [x.row]), some (1, [[.fsl false 2 (l.map Cpu.row)]]), some (2, [o.row]), some (1, [[.fsl false 3 (m.map Ar.row)]]), some (3, [y.row]), some (1, [[.osl 7 1 0 8 8]]), some (1, enRs (t.l.map Nd.ents)), some (1, [[lsA 9 l.length]]), (if l = [] then none else some (1, lnRs (l.map Cpu.lines))), oT 3 (m.map Ar.row), some (1, [[oA 10 3 m.length]])]
def hTb1 (n : Nat) (T : Tb) : Heap := tailU T.l ++ [some (16, [fl (rowsU (fun i => n + i) T.l)])]
theorem hTb1_len {n : Nat} {T : Tb} : (hTb1 n T).length = 9 := by simp [hTb1, tailU_len, T.h]
structure TbI (n : Nat) (T : Tb) (G : Heap) : Prop where
  o8 : obj G (n + 8) = some (16, [fl (rowsU (fun i => n + i) T.l)])
  oi : ∀ i (hi : i < T.l.length), T.l[i].ents ≠ [] → obj G (n + i) = some (7, T.l[i].ents.map Entry.row)
theorem TbI.app {n : Nat} {T : Tb} {G : Heap} (h : TbI n T G) (K : Heap) : TbI n T (G ++ K) := ⟨ob_app h.o8, fun i hi e => ob_app (h.oi i hi e)⟩
theorem TbI.of {n : Nat} {T : Tb} {B K : Heap} (hB : B.length = n) : TbI n T (B ++ (hTb1 n T ++ K)) := by
  have hl := T.h
  refine ⟨ob_of ?_ (by decide), fun i hi e => ob_of ?_ (by decide)⟩
  · rw [List.getElem?_append_right (by omega), List.getElem?_append_left (by rw [hTb1_len]; omega), hTb1, List.getElem?_append_right (by rw [tailU_len]; omega)]
    simp [tailU_len, hl, hB]
  · rw [List.getElem?_append_right (by omega), List.getElem?_append_left (by rw [hTb1_len]; omega), hTb1, List.getElem?_append_left (by rw [tailU_len]; omega)]
    have e1 : n + i - B.length = i := by omega
    rw [e1]
    simp [tailU, hi, oT, e]
structure KA (x : Entry) (o : Od) (y : Ar) (G : Heap) : Prop where
  o1 : obj G 1 = some (7, [x.row])
  o3 : obj G 3 = some (2, [o.row])
  o5 : obj G 5 = some (3, [y.row])
theorem KA.app {x : Entry} {o : Od} {y : Ar} {G : Heap} (h : KA x o y G) (K : Heap) : KA x o y (G ++ K) := ⟨ob_app h.o1, ob_app h.o3, ob_app h.o5⟩
theorem hBs_KT {t : Tb} {x : Entry} {l : List Cpu} {o : Od} {m : List Ar} {y : Ar} : KT t l m (hBs t x l o m y) :=
  ⟨rfl, rfl, rfl, rfl, rfl, rfl, fun e => by simp [hBs, obj, e], fun e => by simp [hBs, obj, oT, e], rfl⟩
theorem hBs_KA {t : Tb} {x : Entry} {l : List Cpu} {o : Od} {m : List Ar} {y : Ar} : KA x o y (hBs t x l o m y) := ⟨rfl, rfl, rfl⟩
theorem cpA_res {b : Bool} {n : Nat} {S : List (Option OL)} : res b (cpA n S) = cpA n S := by unfold cpA; split <;> rfl
theorem cpA_allV {n : Nat} {S : List (Option OL)} {r : Row} : allV (cpA n S :: r) = none := by unfold cpA; split <;> rfl
theorem cpA_one {n : Nat} {S : List (Option OL)} : oneA (cpA n S) = true := by unfold cpA; split <;> rfl
theorem cpA_cells {n : Nat} {S : List (Option OL)} : cellsOf (cpA n S) = some [cpA n S] := by unfold cpA; split <;> rfl
attribute [local simp] cpA_res cpA_allV cpA_one cpA_cells
theorem vwAr {X : Heap} {l : List Ar} : cold (view X 4 (.fsl false 3 (l.map Ar.row))) = .fsl false 3 (l.map Ar.row) := by simp [view, cold, coldR_ar]
theorem arTau {ok : Bool} {k : Nat} {l : List Ar} : tauO [] k (okO ok 3 (l.map Ar.row)) = okO ok 3 (l.map Ar.row) := okO_tau (g := Ar.row) (fun e => by simp [Ar.row, tau])
theorem arBare {ok : Bool} {l : List Ar} {r : Heap} : bareH (okO ok 3 (l.map Ar.row) :: r) = bareH r := okO_bare (g := Ar.row) (fun e => by simp [Ar.row, bareA])
attribute [local simp] arTau arBare
attribute [local simp high] cells_cp3 cells_ok3
attribute [local simp] w48a w48b w48c l48 v48 allOneA_app
structure CbI (n : Nat) (S : List (Option OL)) (G : Heap) : Prop where
  om : S ≠ [] → obj G n = some (2, cpR1 (fun i => n + (i + 1)) S)
  oi : ∀ i (hi : i < S.length) o, S[i] = some o → obj G (n + (i + 1)) = some (3, o.rows.map Ln.row)
theorem CbI.app {n : Nat} {S : List (Option OL)} {G : Heap} (h : CbI n S G) (K : Heap) : CbI n S (G ++ K) := ⟨fun e => ob_app (h.om e), fun i hi o e => ob_app (h.oi i hi o e)⟩
theorem cpG_len {n : Nat} {S : List (Option OL)} : (cpG n S).length = S.length + 1 := by simp [cpG]
theorem CbI.of {n : Nat} {S : List (Option OL)} {G : Heap} (hB : G.length = n) : CbI n S (G ++ cpG n S) := by
  refine ⟨fun e => ob_of ?_ (by decide), fun i hi o e => ob_of ?_ (by decide)⟩
  · rw [List.getElem?_append_right (by omega)]
    simp [cpG, hB, e]
  · rw [List.getElem?_append_right (by omega)]
    have e1 : n + (i + 1) - G.length = i + 1 := by omega
    rw [e1]
    simp [cpG, hi, e, olT]
/-- all that is kept of the arguments -/
structure AllI (t : Tb) (x : Entry) (l : List Cpu) (o : Od) (m : List Ar) (y : Ar) (Ta Tc Td : Tb) (G : Heap) : Prop where
  kt : KT t l m G
  ka : KA x o y G
  ta : TbI 12 Ta G
  tc : TbI 21 Tc G
  td : TbI 30 Td G
theorem AllI.app {t : Tb} {x : Entry} {l : List Cpu} {o : Od} {m : List Ar} {y : Ar} {Ta Tc Td : Tb} {G : Heap} (h : AllI t x l o m y Ta Tc Td G) (K : Heap) : AllI t x l o m y Ta Tc Td (G ++ K) := ⟨h.kt.app K, h.ka.app K, h.ta.app K, h.tc.app K, h.td.app K⟩
theorem tableOwn_pure : PureOk Try.prog 4 (argM (cAgg rTb) fun t => argM (cInt .i64) fun k => argM (cAgg rEnt) fun x => argM (cSl rCpu) fun l => argM (cAgg rOd) fun o => argM (cSl rAr) fun m => argM (cAgg rAr) fun y => finM (if (l.length ≤ 1048576 ∧ m.length ≤ 1048576) ∧ (∀ n ∈ t.l, n.ents.length ≤ 1048576) ∧ ∀ c ∈ l, c.lines.length ≤ 1048576 ∧ c.orders.length ≤ 1048576 then some (.v (.bool true)) else none)) := by
  refine pure7 Try.func4 rfl ?_
  rintro t k x l o m y r hr
  by_cases hc : (l.length ≤ 1048576 ∧ m.length ≤ 1048576) ∧ (∀ n ∈ t.l, n.ents.length ≤ 1048576) ∧ ∀ c ∈ l, c.lines.length ≤ 1048576 ∧ c.orders.length ≤ 1048576
  case neg => rw [if_neg hc] at hr; cases hr
  rw [if_pos hc] at hr
  simp only [Option.some.injEq] at hr
  subst hr
  refine body_split (.s (.s (.s (.s (.s (.s (.s (.s (.s (.s (.s .z))))))))))) ((((((((((((((noOrc_ok.withP tables_pure).withP tlbs_pure).withP areas_pure).withP clEnP).withP clLnP).withP sameT_pure).withI set_inl).withI tjoin_inl).withI tsplit_inl).withI arPutU_inl).withI arTurnU_inl).withI arOutU_inl).withIF arCU cloneU_loc).withD (fun i => if i = 7 then [(0,4)] else if i = 13 then [(0,4)] else [])) fxMix (by kernel_rfl) (by simp [Try.ntmps4]) ?_
  intro C cP cI cN cD cF cA cR cL
  have cp0 := orcP tables_pure (C := C) (by rw [cP]; rfl)
  have cp1 := orcP tlbs_pure (C := C) (by rw [cP]; rfl)
  have cp2 := orcP areas_pure (C := C) (by rw [cP]; rfl)
  have cp3 := orcP clEnP (C := C) (by rw [cP]; rfl)
  have cp4 := orcP clLnP (C := C) (by rw [cP]; rfl)
  have ch0 := orcP sameT_pure (C := C) (by rw [cP]; rfl)
  have cn0 := orcI set_inl (C := C) (by rw [cN]; rfl)
  have cn1 := orcI tjoin_inl (C := C) (by rw [cN]; rfl)
  have cn2 := orcI tsplit_inl (C := C) (by rw [cN]; rfl)
  have cn3 := orcI arPutU_inl (C := C) (by rw [cN]; rfl)
  have cn4 := orcI arTurnU_inl (C := C) (by rw [cN]; rfl)
  have cn5 := orcI arOutU_inl (C := C) (by rw [cN]; rfl)
  have cn6 := orcI arCU (C := C) (by rw [cN]; rfl)
  replace cI := fun g => congrFun cI g
  simp only [Orc.withP, Orc.withI, Orc.withF, Orc.withD, Orc.withA, Orc.withR, Orc.withC, noOrc] at cI
  replace cR : C.rd = fun _ => none := cR
  replace cD : C.dyn = fun i => if i = 7 then [(0,4)] else if i = 13 then [(0,4)] else [] := cD
  replace cF := fun g => congrFun cF g
  simp only [Orc.withP, Orc.withI, Orc.withF, Orc.withD, Orc.withA, Orc.withR, Orc.withC, noOrc] at cF
  replace cA : C.alt = fun _ => [] := cA
  clear cP cN
  intro hOk hRF
  obtain ⟨⟨hl, hm⟩, hn, hcl⟩ := hc
  have hl8 := t.h
  simp [Try.ntmps4, Try.results4, cSl, cp0, cp1, cp2, cp3, cp4, cn0, cn1, cn2, cn3, cn4, cn5, cn6, cI, cD, cR, cF, cA, -view, -cold, splitC, wpL, rTb, rEnt, entDec, Entry.row, rCpu, rOd, odDec, Od.row, rAr, arDec, Ar.row]
  refine loop_forE 8 (fun j (_ : Unit) => ([(1, .v (.int .i64 k)), (7, .ptr 0 16 0 0), (9, .ptr 1 7 0 0), (10, .ptr 2 1 0 0), (11, .ptr 3 2 0 0), (12, .ptr 4 1 0 0), (13, .ptr 5 3 0 0), (15, .ptr 6 1 0 0), (64, .agg t.row), (65, .v (.int .i64 j))], [some (16, [t.row]), some (7, [x.row]), some (1, [[.fsl false 2 (l.map Cpu.row)]]), some (2, [o.row]), some (1, [[.fsl false 3 (m.map Ar.row)]]), some (3, [y.row]), some (1, [[enA j]]), enO j (t.l.map Nd.ents)])) (fun _ _ => True) () (fun j _ hj _ => by omega) trivial ?_ ?_ ?_
  · refine Ent.weak ?_
    simp [enA, enO, Entry.row, Od.row, Ar.row, lowA, lowC]
  · rintro j _ hj _ hw
    have hjl : j < t.l.length := by omega
    have hji : (j : Int) < 8 := by omega
    have htk := tb_take t hj
    have hle : j * 2 + 2 ≤ 16 := by omega
    have hn1 := hn _ (List.getElem_mem hjl)
    have hn2 : t.l[j].ents.length ≤ 4294967296 := by omega
    by_cases hj0 : j = 0
    · have a1 : enA j = .v (.slice none 0 0) := by simp [enA, hj0]
      have a2 : enO j (t.l.map Nd.ents) = none := by simp [enO, hj0]
      simp [Try.ntmps4, Try.results4, cSl, cp0, cp1, cp2, cp3, cp4, cn0, cn1, cn2, cn3, cn4, cn5, cn6, cI, cD, cR, cF, cA, -view, -cold, -tauO, rTb, rEnt, entDec, Entry.row, rCpu, rOd, odDec, Od.row, rAr, arDec, Ar.row, hw, hji, hj, hjl, htk, hle, hn2, a1, a2, view, cold, Nd.row]
      have a4 : enA (j + 1) = .osl 7 1 0 1 1 := by simp [enA, hj0]
      have a5 : enO (j + 1) (t.l.map Nd.ents) = some (1, [[.fsl true 7 (t.l[j].ents.map Entry.row)]]) := by
        unfold enO
        rw [if_neg (by omega), enRs_take (by simpa using hjl)]
        simp [hj0, enRs]
      refine ⟨(), trivial, Ent.weakT (th := [0, 1, 2, 3, 4, 5, 6, 10]) ?_⟩
      simp [a4, a5, enRs_ren, enRs_low, lnRs_ren, lnRs_low, Entry.row, Od.row, Ar.row, lowA, lowC]
    · have a1 : enA j = .osl 7 1 0 j j := by simp [enA, hj0]
      have a2 : enO j (t.l.map Nd.ents) = some (1, enRs ((t.l.map Nd.ents).take j)) := by simp [enO, hj0]
      have a3 : (enRs ((t.l.map Nd.ents).take j)).length = j := by simp [enRs]; omega
      have hk1 : ¬ j + 1 ≤ j := by omega
      have hk2 : j + 1 ≤ 4294967296 := by omega
      simp [Try.ntmps4, Try.results4, cSl, cp0, cp1, cp2, cp3, cp4, cn0, cn1, cn2, cn3, cn4, cn5, cn6, cI, cD, cR, cF, cA, -view, -cold, -tauO, rTb, rEnt, entDec, Entry.row, rCpu, rOd, odDec, Od.row, rAr, arDec, Ar.row, hw, hji, hj, hjl, htk, hle, hn2, a1, a2, a3, hk1, hk2, view, cold, Nd.row]
      have a4 : enA (j + 1) = .osl 7 1 0 (j + 1) (j + 1) := by simp [enA]
      have a5 : enO (j + 1) (t.l.map Nd.ents) = some (1, enRs ((t.l.map Nd.ents).take j) ++ [[.fsl true 7 (t.l[j].ents.map Entry.row)]]) := by
        unfold enO
        rw [if_neg (by omega), enRs_take (by simpa using hjl)]
        simp
      refine ⟨(), trivial, Ent.weakT (th := [0, 1, 2, 3, 4, 5, 6, 10]) ?_⟩
      simp [a4, a5, enRs_ren, enRs_low, lnRs_ren, lnRs_low, Entry.row, Od.row, Ar.row, lowA, lowC]
  · rintro _ _
    have b1 : enA 8 = .osl 7 1 0 8 8 := rfl
    have b2 : enO 8 (t.l.map Nd.ents) = some (1, enRs (t.l.map Nd.ents)) := by
      unfold enO
      rw [if_neg (by decide), List.take_of_length_le (by simp [hl8])]
    simp [Try.ntmps4, Try.results4, cSl, cp0, cp1, cp2, cp3, cp4, cn0, cn1, cn2, cn3, cn4, cn5, cn6, cI, cD, cR, cF, cA, -view, -cold, splitC, wpL, rTb, rEnt, entDec, Entry.row, rCpu, rOd, odDec, Od.row, rAr, arDec, Ar.row, b1, b2]
    refine loop_forE l.length (fun j (_ : Unit) => ([(1, .v (.int .i64 k)), (7, .ptr 0 16 0 0), (9, .ptr 1 7 0 0), (10, .ptr 2 1 0 0), (11, .ptr 3 2 0 0), (12, .ptr 4 1 0 0), (13, .ptr 5 3 0 0), (15, .ptr 6 1 0 0), (18, .ptr 8 1 0 0), (75, .fsl false 2 (l.map Cpu.row)), (76, .v (.int .i64 l.length)), (77, .v (.int .i64 j))], [some (16, [t.row]), some (7, [x.row]), some (1, [[.fsl false 2 (l.map Cpu.row)]]), some (2, [o.row]), some (1, [[.fsl false 3 (m.map Ar.row)]]), some (3, [y.row]), some (1, [[.osl 7 1 0 8 8]]), some (1, enRs (t.l.map Nd.ents)), some (1, [[lsA 9 j]]), lnO j (l.map Cpu.lines)])) (fun _ _ => True) () (fun j _ hj _ => by omega) trivial ?_ ?_ ?_
    · refine Ent.weak ?_
      simp [lsA, lnO, enRs_ren, enRs_low, lnRs_ren, lnRs_low, Entry.row, Od.row, Ar.row, lowA, lowC]
    · rintro j _ hj _ hw
      have hc1 := (hcl _ (List.getElem_mem hj)).1
      have hc2 : l[j].lines.length ≤ 4294967296 := by omega
      by_cases hj0 : j = 0
      · have a1 : lsA 9 j = .v (.slice none 0 0) := by simp [lsA, hj0]
        have a2 : lnO j (l.map Cpu.lines) = none := by simp [lnO, hj0]
        simp [Try.ntmps4, Try.results4, cSl, cp0, cp1, cp2, cp3, cp4, cn0, cn1, cn2, cn3, cn4, cn5, cn6, cI, cD, cR, cF, cA, -view, -cold, -tauO, rTb, rEnt, entDec, Entry.row, rCpu, rOd, odDec, Od.row, rAr, arDec, Ar.row, hw, hj, hc2, rLn, lnDec, a1, a2, view, cold, Cpu.row]
        have a4 : lsA 9 (j + 1) = .osl 9 1 0 1 1 := by simp [lsA, hj0]
        have a5 : lnO (j + 1) (l.map Cpu.lines) = some (1, [[.fsl true 3 (l[j].lines.map Ln.row)]]) := by
          unfold lnO
          rw [if_neg (by omega), lnRs_take (by simpa using hj)]
          simp [hj0, lnRs]
        refine ⟨(), trivial, Ent.weakT (th := [0, 1, 2, 3, 4, 5, 6, 7, 8, 12]) ?_⟩
        simp [a4, a5, enRs_ren, enRs_low, lnRs_ren, lnRs_low, Entry.row, Od.row, Ar.row, lowA, lowC]
      · have a1 : lsA 9 j = .osl 9 1 0 j j := by simp [lsA, hj0]
        have a2 : lnO j (l.map Cpu.lines) = some (1, lnRs ((l.map Cpu.lines).take j)) := by simp [lnO, hj0]
        have a3 : (lnRs ((l.map Cpu.lines).take j)).length = j := by simp [lnRs]; omega
        have hk1 : ¬ j + 1 ≤ j := by omega
        have hk2 : j + 1 ≤ 4294967296 := by omega
        simp [Try.ntmps4, Try.results4, cSl, cp0, cp1, cp2, cp3, cp4, cn0, cn1, cn2, cn3, cn4, cn5, cn6, cI, cD, cR, cF, cA, -view, -cold, -tauO, rTb, rEnt, entDec, Entry.row, rCpu, rOd, odDec, Od.row, rAr, arDec, Ar.row, hw, hj, hc2, rLn, lnDec, a1, a2, a3, hk1, hk2, view, cold, Cpu.row]
        have a4 : lsA 9 (j + 1) = .osl 9 1 0 (j + 1) (j + 1) := by simp [lsA]
        have a5 : lnO (j + 1) (l.map Cpu.lines) = some (1, lnRs ((l.map Cpu.lines).take j) ++ [[.fsl true 3 (l[j].lines.map Ln.row)]]) := by
          unfold lnO
          rw [if_neg (by omega), lnRs_take (by simpa using hj)]
          simp
        refine ⟨(), trivial, Ent.weakT (th := [0, 1, 2, 3, 4, 5, 6, 7, 8, 12]) ?_⟩
        simp [a4, a5, enRs_ren, enRs_low, lnRs_ren, lnRs_low, Entry.row, Od.row, Ar.row, lowA, lowC]
    · rintro _ _
      have b3 : lnO l.length (l.map Cpu.lines) = if l.length = 0 then none else some (1, lnRs (l.map Cpu.lines)) := by
        unfold lnO
        split
        · rfl
        · rw [List.take_of_length_le (by simp)]
      obtain ⟨⟨Ta, ea⟩, hqa⟩ : ∃ q, tbX (tbSet t k x) = q := ⟨_, rfl⟩
      obtain ⟨⟨Tc, ec⟩, hqc⟩ : ∃ q, tbX (tbJoin t k) = q := ⟨_, rfl⟩
      obtain ⟨⟨Td, ed⟩, hqd⟩ : ∃ q, tbX (tbSplit t k) = q := ⟨_, rfl⟩
      have bda : Bd Ta := by have := bd_tbSet (t := t) hn (k := k) (x := x); rw [hqa] at this; exact this
      have bdc : Bd Tc := by have := bd_tbJoin (t := t) hn (k := k); rw [hqc] at this; exact this
      have bdd : Bd Td := by have := bd_tbSplit (t := t) hn (k := k); rw [hqd] at this; exact this
      have ha8 := Ta.h
      have hc8 := Tc.h
      have hd8 := Td.h
      have u1 : ∀ (q : Bool) (H : Heap), cloneU 3 [.fsl q 3 (m.map Ar.row)] H = some (oA H.length 3 m.length, H ++ [oT 3 (m.map Ar.row)]) := fun q H => by rw [cloneU_fsl (by decide) (by simp; omega)]; simp
      simp [Try.ntmps4, Try.results4, cSl, cp0, cp1, cp2, cp3, cp4, cn0, cn1, cn2, cn3, cn4, cn5, cn6, cI, cD, cR, cF, cA, -view, -cold, -tauO, splitC, wpL, rTb, rEnt, entDec, Entry.row, rCpu, rOd, odDec, Od.row, rAr, arDec, Ar.row, b3, u1, hqa, hqc, hqd, tbU, vwTb, vwV, ha8, hc8, hd8]
      obtain ⟨G, hG, ai, hlen⟩ : ∃ G, G = hBs t x l o m y ++ (hTb1 12 Ta ++ (hTb1 21 Tc ++ (hTb1 30 Td ++ []))) ∧ AllI t x l o m y Ta Tc Td G ∧ G.length = 39 := by
        refine ⟨_, rfl, ⟨hBs_KT.app _, hBs_KA.app _, TbI.of rfl, ?_, ?_⟩, ?_⟩
        · rw [← List.append_assoc]
          exact TbI.of (by simp [hTb1_len, hBs])
        · rw [← List.append_assoc, ← List.append_assoc]
          exact TbI.of (by simp [hTb1_len, hBs])
        · simp [hTb1_len, hBs]
      refine AWp.heapE (H' := G) (by rw [hG]; simp [hBs, hTb1, Entry.row, Od.row, Ar.row]) ?_
      clear hG
      have hl0 : l.length ≤ 1048576 := hl
      refine AWp.seq (AWp.callRi hOk 3 (σ := SB) (fun S => (.tup (cpA 39 S.1 :: List.replicate 1 .junk), G ++ cpG 39 S.1)) rfl rfl rfl rfl rfl (by decide) rfl (by decide) rfl shootK ?_)
      have f1 := shootF (G := G) (b := k) (o := o) hl0
      rw [hlen] at f1
      have k2 := obj_get ai.kt.o2
      have k3 := obj_get ai.ka.o3
      have k2' := (List.getElem?_eq_some_iff.1 k2).2
      have k3' := (List.getElem?_eq_some_iff.1 k3).2
      simp [Try.ntmps4, Try.results4, cSl, cp0, cp1, cp2, cp3, cp4, cn0, cn1, cn2, cn3, cn4, cn5, cn6, cI, cD, cR, cF, cA, -view, -cold, CalA, rCpu, k2, k3, k2', k3', hlen, f1, Od.row]
      clear f1 k2 k3 k2' k3'
      intro Z1
      obtain ⟨S1, hS1, eZ⟩ : ∃ S, bdS S ∧ Z1.1 = S := ⟨_, Z1.2, rfl⟩
      rw [eZ]
      clear eZ
      obtain ⟨G1, e1, ai1, cd1, len1⟩ : ∃ G1, G1 = G ++ cpG 39 S1 ∧ AllI t x l o m y Ta Tc Td G1 ∧ CbI 39 S1 G1 ∧ G1.length = 40 + S1.length := ⟨_, rfl, ai.app _, CbI.of hlen, by simp [hlen, cpG_len]; omega⟩
      refine AWp.heapE e1.symm ?_
      clear e1 ai hlen
      refine AWp.seq (AWp.callRi hOk 6 (σ := SB) (fun S => (.tup (cpA (40 + S1.length) S.1 :: List.replicate 1 .junk), G1 ++ cpG (40 + S1.length) S.1)) rfl rfl rfl rfl rfl (by decide) rfl (by decide) rfl fillK ?_)
      have f1 := fillF (G := G1) (b := k) (s := o.space) (p := o.page) (w := 1) hl0
      rw [len1] at f1
      have k2 := obj_get ai1.kt.o2
      have k3 := obj_get ai1.ka.o3
      have k2' := (List.getElem?_eq_some_iff.1 k2).2
      have k3' := (List.getElem?_eq_some_iff.1 k3).2
      simp [Try.ntmps4, Try.results4, cSl, cp0, cp1, cp2, cp3, cp4, cn0, cn1, cn2, cn3, cn4, cn5, cn6, cI, cD, cR, cF, cA, -view, -cold, CalA, rCpu, k2, k3, k2', k3', len1, f1, Od.row]
      clear f1 k2 k3 k2' k3'
      intro Z2
      obtain ⟨S2, hS2, eZ⟩ : ∃ S, bdS S ∧ Z2.1 = S := ⟨_, Z2.2, rfl⟩
      rw [eZ]
      clear eZ
      obtain ⟨G2, e1, ai2, cd2, ce2, len2⟩ : ∃ G2, G2 = G1 ++ cpG (40 + S1.length) S2 ∧ AllI t x l o m y Ta Tc Td G2 ∧ CbI 39 S1 G2 ∧ CbI (40 + S1.length) S2 G2 ∧ G2.length = 41 + S1.length + S2.length := ⟨_, rfl, ai1.app _, cd1.app _, CbI.of len1, by simp [len1, cpG_len]; omega⟩
      refine AWp.heapE e1.symm ?_
      clear e1 ai1 cd1 len1
      refine AWp.seq (AWp.callRi hOk 2 (σ := SB) (fun S => (.tup (cpA (41 + S1.length + S2.length) S.1 :: List.replicate 2 .junk), G2 ++ cpG (41 + S1.length + S2.length) S.1)) rfl rfl rfl rfl rfl (by decide) rfl (by decide) rfl serveK ?_)
      have f1 := serveF (G := G2) (b := k) hl0
      rw [len2] at f1
      have k2 := obj_get ai2.kt.o2
      have k2' := (List.getElem?_eq_some_iff.1 k2).2
      simp [Try.ntmps4, Try.results4, cSl, cp0, cp1, cp2, cp3, cp4, cn0, cn1, cn2, cn3, cn4, cn5, cn6, cI, cD, cR, cF, cA, -view, -cold, CalA, rCpu, k2, k2', len2, f1]
      clear f1 k2 k2'
      intro Z3
      obtain ⟨S3, hS3, eZ⟩ : ∃ S, bdS S ∧ Z3.1 = S := ⟨_, Z3.2, rfl⟩
      rw [eZ]
      clear eZ
      obtain ⟨G3, e1, ai3, cd3, ce3, cf3, len3⟩ : ∃ G3, G3 = G2 ++ cpG (41 + S1.length + S2.length) S3 ∧ AllI t x l o m y Ta Tc Td G3 ∧ CbI 39 S1 G3 ∧ CbI (40 + S1.length) S2 G3 ∧ CbI (41 + S1.length + S2.length) S3 G3 ∧ G3.length = 42 + S1.length + S2.length + S3.length := ⟨_, rfl, ai2.app _, cd2.app _, ce2.app _, CbI.of len2, by simp [len2, cpG_len]; omega⟩
      refine AWp.heapE e1.symm ?_
      clear e1 ai2 cd2 ce2 len2
      refine wpA_sound hOk fxMix _ _ _ _ (by rw [hRF]; kernel_rfl) ?_
      obtain ⟨⟨okg, Lg, eg⟩, hqg⟩ : ∃ q, arX (arPut m y) = q := ⟨_, rfl⟩
      obtain ⟨⟨okh, Lh, eh⟩, hqh⟩ : ∃ q, arX (arTurn m y) = q := ⟨_, rfl⟩
      obtain ⟨⟨oki, Li, ei⟩, hqi⟩ : ∃ q, arX (arOut m y.page y.n) = q := ⟨_, rfl⟩
      have blg : Lg.length ≤ 2097153 := by have h := bd_put (m := m) (y := y); rw [hqg] at h; simp only at h; omega
      have blh : Lh.length ≤ 2097153 := by have h := bd_turn (m := m) (y := y); rw [hqh] at h; simp only at h; omega
      have bli : Li.length ≤ 2097153 := by have h := bd_out (m := m) (p := y.page) (n := y.n); rw [hqi] at h; simp only at h; omega
      have k4 := obj_get ai3.kt.o4
      have k5 := obj_get ai3.ka.o5
      have k4' := (List.getElem?_eq_some_iff.1 k4).2
      have k5' := (List.getElem?_eq_some_iff.1 k5).2
      have e4 : ∀ K : Heap, (G3 ++ K)[4]? = some (some (1, [[.fsl false 3 (m.map Ar.row)]])) := fun K => obj_get (ob_app (K := K) ai3.kt.o4)
      have e5 : ∀ K : Heap, (G3 ++ K)[5]? = some (some (3, [y.row])) := fun K => obj_get (ob_app (K := K) ai3.ka.o5)
      have g20 : ∀ K : Heap, (G3 ++ K)[20]? = some (some (16, [fl (rowsU (fun i => 12 + i) Ta.l)])) := fun K => obj_get (ob_app (K := K) ai3.ta.o8)
      have g29 : ∀ K : Heap, (G3 ++ K)[29]? = some (some (16, [fl (rowsU (fun i => 21 + i) Tc.l)])) := fun K => obj_get (ob_app (K := K) ai3.tc.o8)
      have g38 : ∀ K : Heap, (G3 ++ K)[38]? = some (some (16, [fl (rowsU (fun i => 30 + i) Td.l)])) := fun K => obj_get (ob_app (K := K) ai3.td.o8)
      obtain ⟨n0, hn0⟩ : ∃ n0, n0 = 42 + S1.length + S2.length + S3.length := ⟨_, rfl⟩
      rw [← hn0] at len3
      have hsame : ∀ X, KT t l m X → C.pure 28 [cold (view X 4 (.ptr 0 16 0 0)), cold (view X 4 (.ptr 6 1 0 0)), cold (view X 4 (.ptr 2 1 0 0)), cold (view X 4 (.ptr 8 1 0 0)), cold (view X 4 (.ptr 4 1 0 0)), cold (view X 4 (.ptr 11 1 0 0))] = some (.v (.bool true)) := by
        intro X hb
        rw [ch0]
        simp only [argM, hb.d0, hb.d2, hb.d4, hb.d6, hb.d8, hb.d11, finM]
        rw [if_pos ⟨⟨trivial, trivial, trivial⟩, by omega, by omega, fun n hn' => by have := hn n hn'; omega, fun c hc' => by have := (hcl c hc').1; omega⟩]
      have hnm : ¬ Try.f28.name = "runtime.NumGoroutine" := by decide
      have hs0 := fun K => hsame _ (ai3.kt.app K)
      simp [Try.ntmps4, Try.results4, cSl, cp0, cp1, cp2, cp3, cp4, cn0, cn1, cn2, cn3, cn4, cn5, cn6, cI, cD, cR, cF, cA, -view, -cold, -tauO, rAr, arDec, k4, k5, k4', k5', e4, e5, g20, g29, g38, len3, Ar.row, hqg, hqh, hqi, arU, vwAr, vwV, dAr, hs0, hnm]
      obtain ⟨G4, hG4, ai4, cd4, ce4, cf4, ag4, ah4, aj4⟩ : ∃ G4, G4 = G3 ++ [okO okg 3 (Lg.map Ar.row), okO okh 3 (Lh.map Ar.row), okO oki 3 (Li.map Ar.row)] ∧ AllI t x l o m y Ta Tc Td G4 ∧ CbI 39 S1 G4 ∧ CbI (40 + S1.length) S2 G4 ∧ CbI (41 + S1.length + S2.length) S3 G4 ∧ (okg = true → obj G4 n0 = some (3, Lg.map Ar.row)) ∧ (okh = true → obj G4 (n0 + 1) = some (3, Lh.map Ar.row)) ∧ (oki = true → obj G4 (n0 + 2) = some (3, Li.map Ar.row)) := by
        refine ⟨_, rfl, ai3.app _, cd3.app _, ce3.app _, cf3.app _, fun e => ob_of ?_ (by decide), fun e => ob_of ?_ (by decide), fun e => ob_of ?_ (by decide)⟩
        all_goals rw [List.getElem?_append_right (by omega)]; simp [len3, okO, e]
      rw [← hG4]
      clear hG4 ai3 cd3 ce3 cf3 k4 k5 k4' k5' e4 e5 g20 g29 g38 hs0
      have n012 : 12 ≤ n0 := by omega
      have tbs : ∀ j, j < 3 → 12 ≤ nj j ∧ Bd (tj Ta Tc Td j) ∧ ∀ i (hi : i < (tj Ta Tc Td j).l.length), (tj Ta Tc Td j).l[i].ents ≠ [] → obj G4 (nj j + i) = some (7, (tj Ta Tc Td j).l[i].ents.map Entry.row) := by
        intro j hj
        rcases (show j = 0 ∨ j = 1 ∨ j = 2 by omega) with rfl | rfl | rfl
        · exact ⟨by decide, bda, ai4.ta.oi⟩
        · exact ⟨by decide, bdc, ai4.tc.oi⟩
        · exact ⟨by decide, bdd, ai4.td.oi⟩
      refine loop_forE 3 (fun j (X : Heap) => ([(22, .fn 28 [.ptr 0 16 0 0, .ptr 6 1 0 0, .ptr 2 1 0 0, .ptr 8 1 0 0, .ptr 4 1 0 0, .ptr 11 1 0 0]), (29, cpA 39 S1), (31, cpA (40 + S1.length) S2), (33, cpA (41 + S1.length + S2.length) S3), (36, okL okg n0 3 Lg.length), (38, okL okh (n0 + 1) 3 Lh.length), (40, okL oki (n0 + 2) 3 Li.length), (42, .v (.bool true)), (160, .agg (fl (rowsU (fun i => 12 + i) Ta.l) ++ (fl (rowsU (fun i => 21 + i) Tc.l) ++ fl (rowsU (fun i => 30 + i) Td.l)))), (161, .v (.int .i64 j))], X)) (fun _ X => INV G4 X) G4 (fun j _ hj _ => by omega) INV.refl ?_ ?_ ?_
      · exact Ent.env (by simp)
      · rintro j X hj hp hw
        obtain ⟨T, hT⟩ : ∃ T, tj Ta Tc Td j = T := ⟨_, rfl⟩
        obtain ⟨n12, hbd, hb⟩ := tbs j hj
        have t8 := t48 (Ta := Ta) (Tc := Tc) (Td := Td) hj
        simp only [hT] at hb t8 hbd
        generalize nj j = n at n12 hb t8
        have h8 := T.h
        have hji : (j : Int) < 3 := by omega
        have hj48 : j * 16 + 16 ≤ 48 := by omega
        simp [Try.ntmps4, Try.results4, cSl, cp0, cp1, cp2, cp3, cp4, cn0, cn1, cn2, cn3, cn4, cn5, cn6, cI, cD, cR, cF, cA, -view, -cold, -tauO, hj, hji, hj48, hw, t8]
        refine loop_forE 8 (fun i (Y : Heap) => ([(22, .fn 28 [.ptr 0 16 0 0, .ptr 6 1 0 0, .ptr 2 1 0 0, .ptr 8 1 0 0, .ptr 4 1 0 0, .ptr 11 1 0 0]), (29, cpA 39 S1), (31, cpA (40 + S1.length) S2), (33, cpA (41 + S1.length + S2.length) S3), (36, okL okg n0 3 Lg.length), (38, okL okh (n0 + 1) 3 Lh.length), (40, okL oki (n0 + 2) 3 Li.length), (42, .v (.bool true)), (160, .agg (fl (rowsU (fun i => 12 + i) Ta.l) ++ (fl (rowsU (fun i => 21 + i) Tc.l) ++ fl (rowsU (fun i => 30 + i) Td.l)))), (161, .v (.int .i64 j)), (44, .ptr X.length 16 0 0), (164, .v (.int .i64 i))], Y ++ [some (16, [fl (rowsU (fun i => n + i) T.l)])])) (fun _ Y => INV G4 Y ∧ Y.length = X.length) X (fun i _ hi _ => by omega) ⟨hp, rfl⟩ ?_ ?_ ?_
        · exact Ent.env (by simp)
        · clear hp
          rintro i Y hi ⟨hp, hXl⟩ hw2
          have hil : i < T.l.length := by omega
          have hii : (i : Int) < 8 := by omega
          have hi16 : i * 2 + 2 ≤ 16 := by omega
          have hbx := box_at (g := fun i => n + i) hil
          have eX : ∀ o : Option (Nat × List Row), (Y ++ [o])[X.length]? = some o := fun o => by rw [← hXl]; simp
          by_cases hz : T.l[i].ents = []
          · have oz : oA (n + i) 7 T.l[i].ents.length = .esl := by rw [hz]; rfl
            simp [Try.ntmps4, Try.results4, cSl, cp0, cp1, cp2, cp3, cp4, cn0, cn1, cn2, cn3, cn4, cn5, cn6, cI, cD, cR, cF, cA, -view, -cold, -tauO, eX, hbx, oz, hi, hii, hi16, hw2, hXl]
            refine loop_forE 0 (fun e (_ : Unit) => ([(22, .fn 28 [.ptr 0 16 0 0, .ptr 6 1 0 0, .ptr 2 1 0 0, .ptr 8 1 0 0, .ptr 4 1 0 0, .ptr 11 1 0 0]), (29, cpA 39 S1), (31, cpA (40 + S1.length) S2), (33, cpA (41 + S1.length + S2.length) S3), (36, okL okg n0 3 Lg.length), (38, okL okh (n0 + 1) 3 Lh.length), (40, okL oki (n0 + 2) 3 Li.length), (42, .v (.bool true)), (160, .agg (fl (rowsU (fun i => 12 + i) Ta.l) ++ (fl (rowsU (fun i => 21 + i) Tc.l) ++ fl (rowsU (fun i => 30 + i) Td.l)))), (161, .v (.int .i64 j)), (44, .ptr X.length 16 0 0), (45, .v (.int .i64 i)), (164, .v (.int .i64 i)), (171, .v (.int .i64 0)), (172, .v (.int .i64 e))], Y ++ [some (16, [fl (rowsU (fun i => n + i) T.l)])])) (fun _ _ => True) () (fun e _ he _ => by omega) trivial ?_ (fun e _ he => by omega) ?_
            · exact Ent.env (by simp)
            rintro _ _
            simp [Try.ntmps4, Try.results4, cSl, cp0, cp1, cp2, cp3, cp4, cn0, cn1, cn2, cn3, cn4, cn5, cn6, cI, cD, cR, cF, cA, -view, -cold, -tauO, hw2]
            exact ⟨Y, ⟨hp, hXl⟩, Ent.env (by simp)⟩
          · have hob := hb i hil hz
            have hbl := hbd _ (List.getElem_mem hil)
            have hnz : T.l[i].ents.length ≠ 0 := fun q => hz (List.length_eq_zero_iff.1 q)
            have oz : oA (n + i) 7 T.l[i].ents.length = .osl (n + i) 7 0 T.l[i].ents.length T.l[i].ents.length := oA_pos hnz
            simp [Try.ntmps4, Try.results4, cSl, cp0, cp1, cp2, cp3, cp4, cn0, cn1, cn2, cn3, cn4, cn5, cn6, cI, cD, cR, cF, cA, -view, -cold, -tauO, eX, hbx, oz, hi, hii, hi16, hw2, hXl]
            refine loop_forE T.l[i].ents.length (fun e (Z : Heap) => ([(22, .fn 28 [.ptr 0 16 0 0, .ptr 6 1 0 0, .ptr 2 1 0 0, .ptr 8 1 0 0, .ptr 4 1 0 0, .ptr 11 1 0 0]), (29, cpA 39 S1), (31, cpA (40 + S1.length) S2), (33, cpA (41 + S1.length + S2.length) S3), (36, okL okg n0 3 Lg.length), (38, okL okh (n0 + 1) 3 Lh.length), (40, okL oki (n0 + 2) 3 Li.length), (42, .v (.bool true)), (160, .agg (fl (rowsU (fun i => 12 + i) Ta.l) ++ (fl (rowsU (fun i => 21 + i) Tc.l) ++ fl (rowsU (fun i => 30 + i) Td.l)))), (161, .v (.int .i64 j)), (44, .ptr X.length 16 0 0), (45, .v (.int .i64 i)), (164, .v (.int .i64 i)), (171, .v (.int .i64 T.l[i].ents.length)), (172, .v (.int .i64 e))], Z ++ [some (16, [fl (rowsU (fun i => n + i) T.l)])])) (fun _ Z => INV G4 Z ∧ Z.length = X.length) Y (fun e _ he _ => by omega) ⟨hp, hXl⟩ ?_ ?_ ?_
            · exact Ent.env (by simp)
            · clear eX hp hXl
              clear Y
              rintro e Y he ⟨hp, hXl⟩ hw3
              obtain ⟨W, hWl, hobu⟩ := hp.en _ _ hob
              have hgu := obj_get hobu
              have hiu := ob_lt hobu
              have hgiu := (List.getElem?_eq_some_iff.1 hgu).2
              have eX : ∀ o : Option (Nat × List Row), (Y ++ [o])[X.length]? = some o := fun o => by rw [← hXl]; simp
              have eU : ∀ o : Option (Nat × List Row), (Y ++ [o])[n + i]? = some (some (7, W.map Entry.row)) := fun o => by rw [List.getElem?_append_left hiu]; exact hgu
              have heW : e < W.length := by omega
              simp [Try.ntmps4, Try.results4, cSl, cp0, cp1, cp2, cp3, cp4, cn0, cn1, cn2, cn3, cn4, cn5, cn6, cI, cD, cR, cF, cA, -view, -cold, -tauO, eX, eU, hbx, oz, hi, hii, hi16, hw3, hXl, he, heW, hWl, hiu, hgiu, Entry.row]
              refine ⟨Y.set (n + i) (some (7, (W.set e { W[e] with at_ := IntKind.i64.wrap (W[e].at_ + 1) }).map Entry.row)), ⟨hp.setE (by omega) hob (by rw [List.length_set]; exact hWl), by rw [List.length_set]; exact hXl⟩, ?_⟩
              dsimp only
              rw [List.map_set, ← List.set_append_left _ _ hiu]
              exact Ent.env (by simp [Entry.row])
            · rintro Z ⟨hp, hXl⟩
              simp [Try.ntmps4, Try.results4, cSl, cp0, cp1, cp2, cp3, cp4, cn0, cn1, cn2, cn3, cn4, cn5, cn6, cI, cD, cR, cF, cA, -view, -cold, -tauO, hw2]
              exact ⟨Z, ⟨hp, hXl⟩, Ent.env (by simp)⟩
        · rintro Z ⟨hp, hXl⟩
          simp [Try.ntmps4, Try.results4, cSl, cp0, cp1, cp2, cp3, cp4, cn0, cn1, cn2, cn3, cn4, cn5, cn6, cI, cD, cR, cF, cA, -view, -cold, -tauO, hw]
          exact ⟨_, hp.app _, Ent.env (by simp)⟩
      · rintro X hp
        simp [Try.ntmps4, Try.results4, cSl, cp0, cp1, cp2, cp3, cp4, cn0, cn1, cn2, cn3, cn4, cn5, cn6, cI, cD, cR, cF, cA, -view, -cold, -tauO]
        have cps : ∀ j, j < 3 → 12 ≤ cj S1 S2 j ∧ bdS (sj S1 S2 S3 j) ∧ CbI (cj S1 S2 j) (sj S1 S2 S3 j) G4 := by
          intro j hj
          rcases (show j = 0 ∨ j = 1 ∨ j = 2 by omega) with rfl | rfl | rfl
          · exact ⟨by show 12 ≤ 39; omega, hS1, cd4⟩
          · exact ⟨by show 12 ≤ 40 + S1.length; omega, hS2, ce4⟩
          · exact ⟨by show 12 ≤ 41 + S1.length + S2.length; omega, hS3, cf4⟩
        refine loop_forE 3 (fun j (X : Heap) => ([(22, .fn 28 [.ptr 0 16 0 0, .ptr 6 1 0 0, .ptr 2 1 0 0, .ptr 8 1 0 0, .ptr 4 1 0 0, .ptr 11 1 0 0]), (36, okL okg n0 3 Lg.length), (38, okL okh (n0 + 1) 3 Lh.length), (40, okL oki (n0 + 2) 3 Li.length), (42, .v (.bool true)), (192, .agg [cpA 39 S1, cpA (40 + S1.length) S2, cpA (41 + S1.length + S2.length) S3]), (193, .v (.int .i64 j))], X)) (fun _ X => INV G4 X) X (fun j _ hj _ => by omega) hp ?_ ?_ ?_
        · exact Ent.env (by simp)
        · clear hp
          clear X
          rintro j X hj hp hw
          have t3 := t3c (S1 := S1) (S2 := S2) (S3 := S3) hj
          have t3g := (List.getElem?_eq_some_iff.1 t3).2
          obtain ⟨n12, hbd, hcb⟩ := cps j hj
          generalize sj S1 S2 S3 j = S at t3 t3g hbd hcb
          generalize cj S1 S2 j = n at t3 t3g n12 hcb
          have hji : (j : Int) < 3 := by omega
          have hj3 : j + 1 ≤ 3 := by omega
          by_cases hS0 : S = []
          · have cz : cpA n S = .esl := by rw [hS0]; rfl
            simp [Try.ntmps4, Try.results4, cSl, cp0, cp1, cp2, cp3, cp4, cn0, cn1, cn2, cn3, cn4, cn5, cn6, cI, cD, cR, cF, cA, -view, -cold, -tauO, hj, hji, hj3, hw, t3g, cz]
            refine loop_forE 0 (fun i (_ : Unit) => ([(22, .fn 28 [.ptr 0 16 0 0, .ptr 6 1 0 0, .ptr 2 1 0 0, .ptr 8 1 0 0, .ptr 4 1 0 0, .ptr 11 1 0 0]), (36, okL okg n0 3 Lg.length), (38, okL okh (n0 + 1) 3 Lh.length), (40, okL oki (n0 + 2) 3 Li.length), (42, .v (.bool true)), (192, .agg [cpA 39 S1, cpA (40 + S1.length) S2, cpA (41 + S1.length + S2.length) S3]), (193, .v (.int .i64 j)), (48, .esl), (197, .v (.int .i64 0)), (198, .v (.int .i64 i))], X)) (fun _ _ => True) () (fun e _ he _ => by omega) trivial ?_ (fun e _ he => by omega) ?_
            · exact Ent.env (by simp)
            rintro _ _
            simp [Try.ntmps4, Try.results4, cSl, cp0, cp1, cp2, cp3, cp4, cn0, cn1, cn2, cn3, cn4, cn5, cn6, cI, cD, cR, cF, cA, -view, -cold, -tauO, hw]
            exact ⟨X, hp, Ent.env (by simp)⟩
          · have cz : cpA n S = .osl n 2 0 S.length S.length := by unfold cpA; rw [if_neg hS0]
            have hSl : S.length ≤ 1048576 := hbd.1
            have hom := hcb.om hS0
            simp [Try.ntmps4, Try.results4, cSl, cp0, cp1, cp2, cp3, cp4, cn0, cn1, cn2, cn3, cn4, cn5, cn6, cI, cD, cR, cF, cA, -view, -cold, -tauO, hj, hji, hj3, hw, t3g, cz]
            refine loop_forE S.length (fun i (Y : Heap) => ([(22, .fn 28 [.ptr 0 16 0 0, .ptr 6 1 0 0, .ptr 2 1 0 0, .ptr 8 1 0 0, .ptr 4 1 0 0, .ptr 11 1 0 0]), (36, okL okg n0 3 Lg.length), (38, okL okh (n0 + 1) 3 Lh.length), (40, okL oki (n0 + 2) 3 Li.length), (42, .v (.bool true)), (192, .agg [cpA 39 S1, cpA (40 + S1.length) S2, cpA (41 + S1.length + S2.length) S3]), (193, .v (.int .i64 j)), (48, .osl n 2 0 S.length S.length), (197, .v (.int .i64 S.length)), (198, .v (.int .i64 i))], Y)) (fun _ Y => INV G4 Y) X (fun i _ hi _ => by omega) hp ?_ ?_ ?_
            · exact Ent.env (by simp)
            · clear hp
              clear X
              rintro i X hi hp hw2
              have hn := hp.fx _ _ hom (.inr ⟨show (2 : Nat) ≠ 7 by decide, show (2 : Nat) ≠ 3 by decide⟩)
              have hgn := obj_get hn
              have hin := ob_lt hn
              have hgin := (List.getElem?_eq_some_iff.1 hgn).2
              have hrl : (cpR1 (fun i => n + (i + 1)) S).length = S.length := cpR1_len
              have hri : (cpR1 (fun i => n + (i + 1)) S)[i]'(by rw [hrl]; exact hi) = [olA (n + (i + 1)) S[i], .junk] := by
                have := cpR1_get (g := fun i => n + (i + 1)) hi
                rw [List.getElem?_eq_getElem (by rw [hrl]; exact hi)] at this
                exact Option.some.inj this
              rcases hq : S[i] with _ | o
              · have oz : olA (n + (i + 1)) S[i] = .esl := by rw [hq]; rfl
                rw [oz] at hri
                simp [Try.ntmps4, Try.results4, cSl, cp0, cp1, cp2, cp3, cp4, cn0, cn1, cn2, cn3, cn4, cn5, cn6, cI, cD, cR, cF, cA, -view, -cold, -tauO, hgn, hin, hgin, hrl, hri, hi, hw2]
                refine loop_forE 0 (fun e (_ : Unit) => ([(22, .fn 28 [.ptr 0 16 0 0, .ptr 6 1 0 0, .ptr 2 1 0 0, .ptr 8 1 0 0, .ptr 4 1 0 0, .ptr 11 1 0 0]), (36, okL okg n0 3 Lg.length), (38, okL okh (n0 + 1) 3 Lh.length), (40, okL oki (n0 + 2) 3 Li.length), (42, .v (.bool true)), (192, .agg [cpA 39 S1, cpA (40 + S1.length) S2, cpA (41 + S1.length + S2.length) S3]), (193, .v (.int .i64 j)), (48, .osl n 2 0 S.length S.length), (49, .v (.int .i64 i)), (197, .v (.int .i64 S.length)), (198, .v (.int .i64 i)), (206, .v (.int .i64 0)), (207, .v (.int .i64 e))], X)) (fun _ _ => True) () (fun e _ he _ => by omega) trivial ?_ (fun e _ he => by omega) ?_
                · exact Ent.env (by simp)
                rintro _ _
                simp [Try.ntmps4, Try.results4, cSl, cp0, cp1, cp2, cp3, cp4, cn0, cn1, cn2, cn3, cn4, cn5, cn6, cI, cD, cR, cF, cA, -view, -cold, -tauO, hw2]
                exact ⟨X, hp, Ent.env (by simp)⟩
              · have oz : olA (n + (i + 1)) S[i] = .osl (n + (i + 1)) 3 o.st o.len o.kc := by rw [hq]; rfl
                rw [oz] at hri
                have hol : o.len ≤ 1048577 := hbd.2 i o (by rw [List.getElem?_eq_getElem hi, hq])
                have hob := hcb.oi i hi o hq
                simp [Try.ntmps4, Try.results4, cSl, cp0, cp1, cp2, cp3, cp4, cn0, cn1, cn2, cn3, cn4, cn5, cn6, cI, cD, cR, cF, cA, -view, -cold, -tauO, hgn, hin, hgin, hrl, hri, hi, hw2]
                refine loop_forE o.len (fun e (Y : Heap) => ([(22, .fn 28 [.ptr 0 16 0 0, .ptr 6 1 0 0, .ptr 2 1 0 0, .ptr 8 1 0 0, .ptr 4 1 0 0, .ptr 11 1 0 0]), (36, okL okg n0 3 Lg.length), (38, okL okh (n0 + 1) 3 Lh.length), (40, okL oki (n0 + 2) 3 Li.length), (42, .v (.bool true)), (192, .agg [cpA 39 S1, cpA (40 + S1.length) S2, cpA (41 + S1.length + S2.length) S3]), (193, .v (.int .i64 j)), (48, .osl n 2 0 S.length S.length), (49, .v (.int .i64 i)), (197, .v (.int .i64 S.length)), (198, .v (.int .i64 i)), (206, .v (.int .i64 o.len)), (207, .v (.int .i64 e))], Y)) (fun _ Y => INV G4 Y) X (fun e _ he _ => by omega) hp ?_ ?_ ?_
                · exact Ent.env (by simp)
                · clear hgn hin hgin hn hp
                  clear X
                  rintro e X he hp hw3
                  have hn := hp.fx _ _ hom (.inr ⟨show (2 : Nat) ≠ 7 by decide, show (2 : Nat) ≠ 3 by decide⟩)
                  have hgn := obj_get hn
                  have hin := ob_lt hn
                  have hgin := (List.getElem?_eq_some_iff.1 hgn).2
                  obtain ⟨W, hWl, hobu⟩ := hp.ln _ _ hob
                  have hgu := obj_get hobu
                  have hiu := ob_lt hobu
                  have hgiu := (List.getElem?_eq_some_iff.1 hgu).2
                  have hok := o.ok
                  have heW : o.st + e < W.length := by omega
                  simp [Try.ntmps4, Try.results4, cSl, cp0, cp1, cp2, cp3, cp4, cn0, cn1, cn2, cn3, cn4, cn5, cn6, cI, cD, cR, cF, cA, -view, -cold, -tauO, hgn, hin, hgin, hrl, hri, hi, hw3, he, heW, hgu, hiu, hgiu, Ln.row]
                  refine ⟨X.set (n + (i + 1)) (some (3, (W.set (o.st + e) { W[o.st + e] with word := IntKind.u32.wrap (W[o.st + e].word + 1) }).map Ln.row)), hp.setL (by omega) (by intro q; rw [q] at hok; simp at hok; omega) hob (by rw [List.length_set]; exact hWl), ?_⟩
                  dsimp only
                  rw [List.map_set]
                  exact Ent.env (by simp [Ln.row])
                · rintro X hp
                  simp [Try.ntmps4, Try.results4, cSl, cp0, cp1, cp2, cp3, cp4, cn0, cn1, cn2, cn3, cn4, cn5, cn6, cI, cD, cR, cF, cA, -view, -cold, -tauO, hw2]
                  exact ⟨X, hp, Ent.env (by simp)⟩
            · rintro X hp
              simp [Try.ntmps4, Try.results4, cSl, cp0, cp1, cp2, cp3, cp4, cn0, cn1, cn2, cn3, cn4, cn5, cn6, cI, cD, cR, cF, cA, -view, -cold, -tauO, hw]
              exact ⟨X, hp, Ent.env (by simp)⟩
        · rintro X hp
          simp [Try.ntmps4, Try.results4, cSl, cp0, cp1, cp2, cp3, cp4, cn0, cn1, cn2, cn3, cn4, cn5, cn6, cI, cD, cR, cF, cA, -view, -cold, -tauO]
          have ars : ∀ j, j < 3 → 12 ≤ n0 + j ∧ (lj Lg Lh Li j).length ≤ 2097153 ∧ (okj okg okh oki j = true → obj G4 (n0 + j) = some (3, (lj Lg Lh Li j).map Ar.row)) := by
            intro j hj
            rcases (show j = 0 ∨ j = 1 ∨ j = 2 by omega) with rfl | rfl | rfl
            · exact ⟨by omega, blg, ag4⟩
            · exact ⟨by omega, blh, ah4⟩
            · exact ⟨by omega, bli, aj4⟩
          refine loop_forE 3 (fun j (X : Heap) => ([(22, .fn 28 [.ptr 0 16 0 0, .ptr 6 1 0 0, .ptr 2 1 0 0, .ptr 8 1 0 0, .ptr 4 1 0 0, .ptr 11 1 0 0]), (42, .v (.bool true)), (228, .agg [okL okg n0 3 Lg.length, okL okh (n0 + 1) 3 Lh.length, okL oki (n0 + 2) 3 Li.length]), (229, .v (.int .i64 j))], X)) (fun _ X => INV G4 X) X (fun j _ hj _ => by omega) hp ?_ ?_ ?_
          · exact Ent.env (by simp)
          · clear hp
            clear X
            rintro j X hj hp hw
            have t3 := t3o (okg := okg) (okh := okh) (oki := oki) (n0 := n0) (Lg := Lg) (Lh := Lh) (Li := Li) hj
            have t3g := (List.getElem?_eq_some_iff.1 t3).2
            obtain ⟨n12, hLl, har⟩ := ars j hj
            generalize lj Lg Lh Li j = L at t3 t3g hLl har
            generalize okj okg okh oki j = ok at t3 t3g har
            generalize n0 + j = n at t3 t3g n12 har
            have hji : (j : Int) < 3 := by omega
            have hj3 : j + 1 ≤ 3 := by omega
            by_cases hz : ok = true ∧ L ≠ []
            · obtain ⟨rfl, hne⟩ := hz
              have hob := har rfl
              have cz : okL true n 3 L.length = .osl n 3 0 L.length L.length := rfl
              simp [Try.ntmps4, Try.results4, cSl, cp0, cp1, cp2, cp3, cp4, cn0, cn1, cn2, cn3, cn4, cn5, cn6, cI, cD, cR, cF, cA, -view, -cold, -tauO, hj, hji, hj3, hw, t3g, cz]
              refine loop_forE L.length (fun e (Y : Heap) => ([(22, .fn 28 [.ptr 0 16 0 0, .ptr 6 1 0 0, .ptr 2 1 0 0, .ptr 8 1 0 0, .ptr 4 1 0 0, .ptr 11 1 0 0]), (42, .v (.bool true)), (228, .agg [okL okg n0 3 Lg.length, okL okh (n0 + 1) 3 Lh.length, okL oki (n0 + 2) 3 Li.length]), (229, .v (.int .i64 j)), (52, .osl n 3 0 L.length L.length), (233, .v (.int .i64 L.length)), (234, .v (.int .i64 e))], Y)) (fun _ Y => INV G4 Y) X (fun e _ he _ => by omega) hp ?_ ?_ ?_
              · exact Ent.env (by simp)
              · clear hp
                clear X
                rintro e X he hp hw3
                obtain ⟨W, hWl, hobu⟩ := hp.ar _ _ hob
                have hgu := obj_get hobu
                have hiu := ob_lt hobu
                have hgiu := (List.getElem?_eq_some_iff.1 hgu).2
                have heW : e < W.length := by omega
                simp [Try.ntmps4, Try.results4, cSl, cp0, cp1, cp2, cp3, cp4, cn0, cn1, cn2, cn3, cn4, cn5, cn6, cI, cD, cR, cF, cA, -view, -cold, -tauO, hw3, he, heW, hWl, hgu, hiu, hgiu, Ar.row]
                refine ⟨X.set n (some (3, (W.set e { W[e] with n := IntKind.i64.wrap (W[e].n + 1) }).map Ar.row)), hp.setA (by omega) hne hob (by rw [List.length_set]; exact hWl), ?_⟩
                dsimp only
                rw [List.map_set]
                exact Ent.env (by simp [Ar.row])
              · rintro X hp
                simp [Try.ntmps4, Try.results4, cSl, cp0, cp1, cp2, cp3, cp4, cn0, cn1, cn2, cn3, cn4, cn5, cn6, cI, cD, cR, cF, cA, -view, -cold, -tauO, hw]
                exact ⟨X, hp, Ent.env (by simp)⟩
            · by_cases hk : ok = true
              · have hL : L = [] := Classical.byContradiction fun q => hz ⟨hk, q⟩
                subst hk hL
                have cz : okL true n 3 0 = .osl n 3 0 0 0 := rfl
                simp only [List.length_nil, cz] at t3g
                simp [Try.ntmps4, Try.results4, cSl, cp0, cp1, cp2, cp3, cp4, cn0, cn1, cn2, cn3, cn4, cn5, cn6, cI, cD, cR, cF, cA, -view, -cold, -tauO, hj, hji, hj3, hw, t3g, cz]
                refine loop_forE 0 (fun e (_ : Unit) => ([(22, .fn 28 [.ptr 0 16 0 0, .ptr 6 1 0 0, .ptr 2 1 0 0, .ptr 8 1 0 0, .ptr 4 1 0 0, .ptr 11 1 0 0]), (42, .v (.bool true)), (228, .agg [okL okg n0 3 Lg.length, okL okh (n0 + 1) 3 Lh.length, okL oki (n0 + 2) 3 Li.length]), (229, .v (.int .i64 j)), (52, .osl n 3 0 0 0), (233, .v (.int .i64 0)), (234, .v (.int .i64 e))], X)) (fun _ _ => True) () (fun e _ he _ => by omega) trivial ?_ (fun e _ he => by omega) ?_
                · exact Ent.env (by simp)
                rintro _ _
                simp [Try.ntmps4, Try.results4, cSl, cp0, cp1, cp2, cp3, cp4, cn0, cn1, cn2, cn3, cn4, cn5, cn6, cI, cD, cR, cF, cA, -view, -cold, -tauO, hw]
                exact ⟨X, hp, Ent.env (by simp)⟩
              · have hk2 : ok = false := by simpa using hk
                subst hk2
                have cz : okL false n 3 L.length = .esl := rfl
                simp [Try.ntmps4, Try.results4, cSl, cp0, cp1, cp2, cp3, cp4, cn0, cn1, cn2, cn3, cn4, cn5, cn6, cI, cD, cR, cF, cA, -view, -cold, -tauO, hj, hji, hj3, hw, t3g, cz]
                refine loop_forE 0 (fun e (_ : Unit) => ([(22, .fn 28 [.ptr 0 16 0 0, .ptr 6 1 0 0, .ptr 2 1 0 0, .ptr 8 1 0 0, .ptr 4 1 0 0, .ptr 11 1 0 0]), (42, .v (.bool true)), (228, .agg [okL okg n0 3 Lg.length, okL okh (n0 + 1) 3 Lh.length, okL oki (n0 + 2) 3 Li.length]), (229, .v (.int .i64 j)), (52, .esl), (233, .v (.int .i64 0)), (234, .v (.int .i64 e))], X)) (fun _ _ => True) () (fun e _ he _ => by omega) trivial ?_ (fun e _ he => by omega) ?_
                · exact Ent.env (by simp)
                rintro _ _
                simp [Try.ntmps4, Try.results4, cSl, cp0, cp1, cp2, cp3, cp4, cn0, cn1, cn2, cn3, cn4, cn5, cn6, cI, cD, cR, cF, cA, -view, -cold, -tauO, hw]
                exact ⟨X, hp, Ent.env (by simp)⟩
          · rintro X hp
            have hs0 := hsame _ (hp.kt ai4.kt)
            simp [Try.ntmps4, Try.results4, cSl, cp0, cp1, cp2, cp3, cp4, cn0, cn1, cn2, cn3, cn4, cn5, cn6, cI, cD, cR, cF, cA, -view, -cold, -tauO, hs0, hnm]
            simp [view]
end
end
end Go.Proofs.Ytebpjfdbjhodiaa
