/- Package cow: See; ringkeep2.sees, sameAll. -/
import Derived.Test.YtfiindblaopaiaaCoF
namespace Go.Proofs.Ytfiindblaopaiaa
open Go.AI
set_option maxHeartbeats 2000000
set_option maxRecDepth 100000
set_option linter.unusedSimpArgs false
set_option linter.unusedVariables false
attribute [local simp] wpA wpX RunA RunD runF foot footP footB idsA bare apart runL step1 gsel_f gsel_t gsel_s res_same res_and1 res_and2 res_and3 res_and4 res_and5 res_and6 res_false res_true res_v res_ptr res_fptr res_osl res_xsl soft aAppendZ aCap ovlI ovlJ res_fsl res_esl res_agg res_tup res_fn res_junk res_anyb aPick hk imp_left iteV dstOk guardOk astep astepE AI.ev AI.look AI.put envOf aBox cellsOf allOne allOneA oneA Value.oneCell' Value.cells newObj' aFieldAddr aLoad obj readAt thenA blockA condA retA resA tupA view hot hotC hotR depthV cAgg cInt cBool mkAgg allV aAlloc aBuild fillA writeAt aStore isAggA aField idx aIndexAddr aIndex bnd aSlice aExtract aLen aBuiltin aCall isStatic eqAgg eqTy eqC ev_add ev_sub ev_mul ev_quo ev_rem ev_and ev_or ev_xor ev_andNot ev_shl ev_shr ev_eql ev_neq ev_lss ev_leq ev_gtr ev_geq ev_agg w64 wu32 wu8 ev_not ev_neg Cod.plain RCod.plain argM finM cold coldC coldR goInt intDec boolDec aggDec Weaker heapW lowA lowC Again slDec undef aBuildSlice setRows aAppend rowsOf aMakeSlice aClear aCopy softer_self softer_nil valsOf ev_min2 ev_max2 hotR_set hotR_append take_map_set irow_cold irow_mapM irow_mapMc irow_view irow_viewc irow_hotR irow_ren irow_renc irow_low WeakT heapT thOf ren renC AgainT NextF NextT fnDec cFn rNil selfLt natLt0 natLt1 getLastMap frame0 frame1 own0 own1 argG finG tau tauI tauO tauC bareA bareC bareH irow_tau irow_tauc irow_bare irow_flat irow_bareR ownA_nil ownT_nil ownA_c ownT_c ownA_s ownT_s takeMapLen footC plainA noId noIdC cloneF frame0F frame1F insertF replaceI replaceF cellDec rCell fpDec cFp rTwo deleteF allV_oA oneA_oA res_oA RunR RunE runFT footAt hotR_cat tmodN fxSz2 fxBy2 fxAg2 fxZe2 fxSl2 fxAr2 fxPl2 fxSz3 fxBy3 fxAg3 fxZe3 fxSl3 fxAr3 fxPl3 fxSz4 fxBy4 fxAg4 fxZe4 fxSl4 fxAr4 fxPl4 fxSz5 fxBy5 fxAg5 fxZe5 fxSl5 fxAr5 fxPl5 fxSz9 fxBy9 fxAg9 fxZe9 fxSl9 fxAr9 fxPl9 fxSz12 fxBy12 fxAg12 fxZe12 fxSl12 fxAr12 fxPl12 fxSz13 fxBy13 fxAg13 fxZe13 fxSl13 fxAr13 fxFi13x0 fxFi13x1 fxPl13 fxSz21 fxBy21 fxAg21 fxZe21 fxSl21 fxAr21 fxPl21 fxSz22 fxBy22 fxAg22 fxZe22 fxSl22 fxAr22 fxPl22 fxSz23 fxBy23 fxAg23 fxZe23 fxSl23 fxAr23 fxFi23x0 fxFi23x1 fxPl23 fxSz24 fxBy24 fxAg24 fxZe24 fxSl24 fxAr24 fxFi24x0 fxFi24x1 fxPl24 fxSz25 fxBy25 fxAg25 fxZe25 fxSl25 fxAr25 fxFi25x0 fxFi25x1 fxPl25 fxSz26 fxBy26 fxAg26 fxZe26 fxSl26 fxAr26 fxFi26x0 fxFi26x1 fxPl26 fxSz27 fxBy27 fxAg27 fxZe27 fxSl27 fxAr27 fxPl27 fxSz34 fxBy34 fxAg34 fxZe34 fxSl34 fxAr34 fxPl34 fxSz37 fxBy37 fxAg37 fxZe37 fxSl37 fxAr37 fxPl37 fxSz45 fxBy45 fxAg45 fxZe45 fxSl45 fxAr45 fxFi45x0 fxFi45x1 fxPl45 fxSz46 fxBy46 fxAg46 fxZe46 fxSl46 fxAr46 fxFi46x0 fxFi46x1 fxPl46 fxSz48 fxBy48 fxAg48 fxZe48 fxSl48 fxAr48 fxPl48 fxSz49 fxBy49 fxAg49 fxZe49 fxSl49 fxAr49 fxPl49 fxSz50 fxBy50 fxAg50 fxZe50 fxSl50 fxAr50 fxFi50x0 fxFi50x1 fxPl50 fxSz51 fxBy51 fxAg51 fxZe51 fxSl51 fxAr51 fxFi51x0 fxFi51x1 fxPl51 fxSz57 fxBy57 fxAg57 fxZe57 fxSl57 fxAr57 fxPl57 fxSz69 fxBy69 fxAg69 fxZe69 fxSl69 fxAr69 fxPl69 fxSz70 fxBy70 fxAg70 fxZe70 fxSl70 fxAr70 fxPl70 fxSz92 fxBy92 fxAg92 fxZe92 fxSl92 fxAr92 fxPl92 fxSz107 fxBy107 fxAg107 fxZe107 fxSl107 fxAr107 fxPl107 fxSz108 fxBy108 fxAg108 fxZe108 fxSl108 fxAr108 fxFi108x0 fxPl108 fxSz111 fxBy111 fxAg111 fxZe111 fxSl111 fxAr111 fxPl111 fxSz115 fxBy115 fxAg115 fxZe115 fxSl115 fxAr115 fxPl115 fxSz120 fxBy120 fxAg120 fxZe120 fxSl120 fxAr120 fxPl120 fxEq26 fxEq70 fxCv2x2 fxCv2x3 fxCv2x5 fxCv2x12 fxCv2x21 fxCv2x27 fxCv2x111 fxCv3x2 fxCv3x3 fxCv3x5 fxCv3x12 fxCv3x21 fxCv3x27 fxCv3x111 fxCv5x2 fxCv5x3 fxCv5x5 fxCv5x12 fxCv5x21 fxCv5x27 fxCv5x111 fxCv12x2 fxCv12x3 fxCv12x5 fxCv12x12 fxCv12x21 fxCv12x27 fxCv12x111 fxCv21x2 fxCv21x3 fxCv21x5 fxCv21x12 fxCv21x21 fxCv21x27 fxCv21x111 fxCv27x2 fxCv27x3 fxCv27x5 fxCv27x12 fxCv27x21 fxCv27x27 fxCv27x111 fxCv111x2 fxCv111x3 fxCv111x5 fxCv111x12 fxCv111x21 fxCv111x27 fxCv111x111 fxEb4 fxNb4 fxLt9 fxLn22 fxNe22 fxNn22 fxOe22 fxOn22 fxXe22 fxXn22 fxLn34 fxNe34 fxNn34 fxOe34 fxOn34 fxXe34 fxXn34 fxLn37 fxNe37 fxNn37 fxOe37 fxOn37 fxXe37 fxXn37 fxLn48 fxNe48 fxNn48 fxOe48 fxOn48 fxXe48 fxXn48 fxLn49 fxNe49 fxNn49 fxOe49 fxOn49 fxXe49 fxXn49 fxLn57 fxNe57 fxNn57 fxOe57 fxOn57 fxXe57 fxXn57 fxLn69 fxNe69 fxNn69 fxOe69 fxOn69 fxXe69 fxXn69 fxLn92 fxNe92 fxNn92 fxOe92 fxOn92 fxXe92 fxXn92 fxFn3 fxFm3 fxFb3 fxFi3 fxFj3 fxFn4 fxFm4 fxFb4 fxFi4 fxFj4 fxFn5 fxFm5 fxFb5 fxFi5 fxFj5 fxFn6 fxFm6 fxFb6 fxFi6 fxFj6 fxFn7 fxFm7 fxFb7 fxFi7 fxFj7 fxFn8 fxFm8 fxFb8 fxFi8 fxFj8 fxFn9 fxFm9 fxFb9 fxFi9 fxFj9 fxFn10 fxFm10 fxFb10 fxFi10 fxFj10 fxFn11 fxFm11 fxFb11 fxFi11 fxFj11 fxFn12 fxFm12 fxFb12 fxFi12 fxFj12 fxFn13 fxFm13 fxFb13 fxFi13 fxFj13 fxFn14 fxFm14 fxFb14 fxFi14 fxFj14 fxFn15 fxFm15 fxFb15 fxFi15 fxFj15 fxFn16 fxFm16 fxFb16 fxFi16 fxFj16 fxFn17 fxFm17 fxFb17 fxFi17 fxFj17 fxFn18 fxFm18 fxFb18 fxFi18 fxFj18 fxFn19 fxFm19 fxFb19 fxFi19 fxFj19 fxFn20 fxFm20 fxFb20 fxFi20 fxFj20 fxFn21 fxFm21 fxFb21 fxFi21 fxFj21 fxFn22 fxFm22 fxFb22 fxFi22 fxFj22 fxFn23 fxFm23 fxFb23 fxFi23 fxFj23 fxFn24 fxFm24 fxFb24 fxFi24 fxFj24 fxFn25 fxFm25 fxFb25 fxFi25 fxFj25 fxFn26 fxFm26 fxFb26 fxFi26 fxFj26 fxFn27 fxFm27 fxFb27 fxFi27 fxFj27 fxFn28 fxFm28 fxFb28 fxFi28 fxFj28 fxFn29 fxFm29 fxFb29 fxFi29 fxFj29 fxFn30 fxFm30 fxFb30 fxFi30 fxFj30 fxFn31 fxFm31 fxFb31 fxFi31 fxFj31 fxFn32 fxFm32 fxFb32 fxFi32 fxFj32 fxFn33 fxFm33 fxFb33 fxFi33 fxFj33 fxFn34 fxFm34 fxFb34 fxFi34 fxFj34 fxFn35 fxFm35 fxFb35 fxFi35 fxFj35 fxFn36 fxFm36 fxFb36 fxFi36 fxFj36 fxFn37 fxFm37 fxFb37 fxFi37 fxFj37 fxFn38 fxFm38 fxFb38 fxFi38 fxFj38 fxFn39 fxFm39 fxFb39 fxFi39 fxFj39 fxFn40 fxFm40 fxFb40 fxFi40 fxFj40 fxFn41 fxFm41 fxFb41 fxFi41 fxFj41 fxFn42 fxFm42 fxFb42 fxFi42 fxFj42 fxFn43 fxFm43 fxFb43 fxFi43 fxFj43 fxFn44 fxFm44 fxFb44 fxFi44 fxFj44 fxFn45 fxFm45 fxFb45 fxFi45 fxFj45 fxFn46 fxFm46 fxFb46 fxFi46 fxFj46 fxFn47 fxFm47 fxFb47 fxFi47 fxFj47 fxFn48 fxFm48 fxFb48 fxFi48 fxFj48 fxFn49 fxFm49 fxFb49 fxFi49 fxFj49 fxFn50 fxFm50 fxFb50 fxFi50 fxFj50 fxFn51 fxFm51 fxFb51 fxFi51 fxFj51 fxFn52 fxFm52 fxFb52 fxFi52 fxFj52 fxFn53 fxFm53 fxFb53 fxFi53 fxFj53 fxFn54 fxFm54 fxFb54 fxFi54 fxFj54 fxFn55 fxFm55 fxFb55 fxFi55 fxFj55 fxFn56 fxFm56 fxFn57 fxFm57 fxFb57 fxFi57 fxFj57 fxFn58 fxFm58 fxFb58 fxFi58 fxFj58 fxFn59 fxFm59 fxFn60 fxFm60 fxFb60 fxFi60 fxFj60 fxFn61 fxFm61 fxFb61 fxFi61 fxFj61 fxFn62 fxFm62 fxFb62 fxFi62 fxFj62 fxFn63 fxFm63 fxFb63 fxFi63 fxFj63 fxFn64 fxFm64 fxFb64 fxFi64 fxFj64 fxFn65 fxFm65 fxFb65 fxFi65 fxFj65 fxFn66 fxFm66 fxFb66 fxFi66 fxFj66
attribute [local simp] rSp_sz spR_cold spR_dec spR_mapM spR_mapMc spR_view spR_viewc spR_hotR spR_ren spR_renc spR_low spR_get spR_len Room.eta Room.dec_row Room.dec_hrow
attribute [local simp] heapW_rep
def seeB (r : Room) (l : List Int) : List Int := l.map fun c => r.cells[c.toNat]?.getD 0
def seeE : Except Int (List Int) → AVal
  | .ok l => if l = [] then .v (.tuple #[.slice none 0 0, .int .i64 0]) else .tup [.fsl true 1 (l.map (irow .u8)), .v (.int .i64 0)]
  | .error e => .v (.tuple #[.slice none 0 0, .int .i64 e])
def cowSee (r : Room) (s : Int) : Except Int (List Int) :=
  if cowSp r s = 0 then .ok (seeB r (r.spaces[s.toNat]?.getD [])) else .error (cowSp r s)
theorem heapW_repb {n g : Nat} {Y : Heap} {a b : Option (Nat × List Row)} : heapW n (List.replicate (g + 2) none ++ Y) (List.replicate g none ++ a :: b :: Y) ↔ heapW n Y Y := by
  rw [List.replicate_append_replicate.symm, List.append_assoc, heapW_rep]
  simp [List.replicate_succ, heapW]
theorem gR {z : Option (Nat × List Row)} {g : Nat} {Y : Heap} : (List.replicate g none ++ z :: Y)[g]? = some z := by
  rw [List.getElem?_append_right (by simp)]; simp
theorem sR {z z' : Option (Nat × List Row)} {g : Nat} {Y : Heap} : (List.replicate g none ++ z :: Y).set g z' = List.replicate g none ++ z' :: Y := by
  rw [List.set_append_right _ _ (by simp)]; simp
attribute [local simp] gR sR
def seeV (g : Nat) (l : List Int) : AVal := if l = [] then .v (.slice none 0 0) else .osl (g + 1) 1 0 l.length l.length
theorem cowSee_pure : PureOk Try.prog 50 (argM (cAgg rRoom) fun q => argM (cInt .i64) fun s => finM (some (seeE (cowSee q s)))) := by
  refine pureS2 Try.func50 rfl ?_
  rintro q s r' hr
  simp only [Option.some.injEq] at hr
  subst hr
  refine bodyS_of (noOrc_ok.withP cowSp_pure) fxMix (by kernel_rfl) (by simp [Try.ntmps50]) ?_
  intro C cP cI cN cD cF cA
  have cp0 := orcP cowSp_pure (C := C) (by rw [cP]; rfl)
  replace cI : C.inl = fun _ => false := cI
  replace cD : C.dyn = fun _ => [] := cD
  clear cP cN cF cA
  obtain ⟨cs, sp⟩ := q
  unfold cowSee
  simp only
  by_cases h0 : cowSp ⟨cs, sp⟩ s = 0
  case neg =>
    simp [Try.ntmps50, Try.results50, cSl, cp0, cI, cD, rI, rRoom, roomDec, Room.row, h0, seeE]
    exact showsV _
  obtain ⟨hck, k, rfl, hk⟩ := sp_ok h0
  obtain ⟨⟨g1, g2⟩, g3, g4⟩ := cow_ok hck
  simp only at hk g1 g2 g3 g4
  rw [if_pos h0]
  rw [Int.toNat_natCast]
  have hgk : (sp[k]?.getD []) = sp[k] := by simp [hk]
  have hg0 : (sp.map (spR false))[k]? = some (spR false sp[k]) := by simp [hk]
  have hl8 := (g3 _ (List.getElem_mem hk)).1
  have hlx := (g3 _ (List.getElem_mem hk)).2
  rw [hgk]
  simp [Try.ntmps50, Try.results50, cSl, cp0, cI, cD, rI, rRoom, roomDec, Room.row, h0, hk]
  generalize hlm : sp[k] = l at *
  refine loop_forB l.length (fun j (g : Nat) => ([(2, .ptr 0 2 0 0), (7, seeV g (seeB ⟨cs, sp⟩ (l.take j))), (20, .fsl false 1 (l.map (irow .i64))), (21, .v (.int .i64 l.length)), (22, .v (.int .i64 j))],
      some (2, [[.fsl false 1 (cs.map (irow .u8)), .fsl false 1 (sp.map (spR false))]]) :: cellH g (seeB ⟨cs, sp⟩ (l.take j)))) (fun k _ => True) 0 (by omega) trivial ?_ ?_ ?_
  · simp [seeV, cellH, seeB, heapW, lowA]
  · rintro j g hj _ hw
    have hx := hlx _ (List.getElem_mem hj)
    have hc3 : (l[j]).toNat < cs.length := by omega
    have hsu : seeB ⟨cs, sp⟩ (l.take (j + 1)) = seeB ⟨cs, sp⟩ (l.take j) ++ [cs[(l[j]).toNat]] := by
      unfold seeB
      rw [List.take_succ_eq_append_getElem hj, List.map_append]
      simp [hc3]
    have hle : (seeB ⟨cs, sp⟩ (l.take j)).length ≤ 8 := by simp [seeB]; omega
    generalize hB : seeB ⟨cs, sp⟩ (l.take j) = B at *
    have cN1 : ¬ B.length + 1 ≤ B.length := by omega
    have cN2 : B.length + 1 ≤ 4294967296 := by omega
    by_cases hb : B = []
    · simp [Try.ntmps50, Try.results50, cSl, cp0, cI, cD, seeV, cellH, hb, hsu, hj, hw, hx.1, hx.2, hc3, irow]
    · simp [Try.ntmps50, Try.results50, cSl, cp0, cI, cD, seeV, cellH, hb, hsu, hj, hw, hx.1, hx.2, hc3, irow, cN1, cN2]
      rw [heapW_repb]
      simp [heapW, lowA, irow]
  · rintro g _
    rw [List.take_length]
    by_cases hb : seeB ⟨cs, sp⟩ l = []
    · simp [Try.ntmps50, Try.results50, cSl, cp0, cI, cD, seeV, cellH, hb, seeE]
      exact showsV _
    · simp [Try.ntmps50, Try.results50, cSl, cp0, cI, cD, seeV, cellH, hb, seeE]
      exact showsT2 (shows_osl (d := 2) rfl (by simp [obj]) (fun e => irow_view _ 2 e) irw_hot) (showsV _)
def sRow (l : List Int) : Row := if l = [] then [.v (.slice none 0 0)] else [.fsl true 1 (l.map (irow .u8))]
theorem sRow_low (n : Nat) (l : List Int) : (sRow l).all (lowA n) = true := by
  unfold sRow
  split
  · simp [lowA]
  · have h := irow_low (k := .u8) n
    simp [lowA]
theorem sRow_lows (n : Nat) (L : List (List Int)) : ((L.map sRow).all fun row => row.all (lowA n)) = true := by
  rw [List.all_eq_true]
  intro r hr
  obtain ⟨l, _, rfl⟩ := List.mem_map.1 hr
  exact sRow_low n l
attribute [local simp] sRow_lows sRow_low
def bspR (o : Bool) : List Int → Row := slR 1 (irow .u8) o
def seesL (r : Room) : List (List Int) := r.spaces.map (seeB r)
def seesOk (r : Room) : Bool := decide (r.spaces = [] ∨ cowCheck r = 0)
def seesE (r : Room) : AVal :=
  if seesOk r = true then (if r.spaces = [] then .v (.tuple #[.slice none 0 0, .bool true]) else .tup [.fsl true 1 ((seesL r).map (bspR true)), .v (.bool true)]) else .v (.tuple #[.slice none 0 0, .bool false])
theorem sRow_shows {H : Heap} {d : Nat} (l : List Int) : ∃ x, sRow l = [x] ∧ ShowsA H (d + 1) (.fsl true 1 (l.map (irow .u8))) x := by
  unfold sRow
  by_cases h : l = []
  · exact ⟨_, by rw [if_pos h], by rw [h]; exact shows_nil⟩
  · refine ⟨_, by rw [if_neg h], ?_⟩
    have hv : view H (d + 1) (.fsl true 1 (l.map (irow .u8))) = .fsl true 1 (l.map (irow .u8)) := by simp [view]
    unfold ShowsA
    rw [hv]
    exact ⟨.refl _, by simp [hot, irow_hotR]⟩
def ssV (g : Nat) (L : List (List Int)) : AVal := if L = [] then .v (.slice none 0 0) else .osl (g + 1) 1 0 L.length L.length
def ssH (g : Nat) (L : List (List Int)) : Heap := if L = [] then [] else List.replicate g none ++ [some (1, L.map sRow)]
theorem sees_pure : PureOk Try.prog 25 (argM (cAgg rRoom) fun q => finM (if (q.spaces.length ≤ 1048576) then some (seesE q) else none)) := by
  refine pureS1 Try.func25 rfl ?_
  rintro q r' hr
  by_cases hc : (q.spaces.length ≤ 1048576)
  case neg => rw [if_neg hc] at hr; cases hr
  rw [if_pos hc] at hr
  simp only [Option.some.injEq] at hr
  subst hr
  refine bodyS_of (noOrc_ok.withP cowSee_pure) fxMix (by kernel_rfl) (by simp [Try.ntmps25]) ?_
  intro C cP cI cN cD cF cA
  have cp0 := orcP cowSee_pure (C := C) (by rw [cP]; rfl)
  replace cI : C.inl = fun _ => false := cI
  replace cD : C.dyn = fun _ => [] := cD
  clear cP cN cF cA
  obtain ⟨cs, sp⟩ := q
  simp only at hc
  simp [Try.ntmps25, Try.results25, cSl, cp0, cI, cD, rRoom, Room.row]
  by_cases h0 : cowCheck ⟨cs, sp⟩ = 0
  · refine loop_forB sp.length (fun j (g : Nat) => ([(1, .ptr 0 2 0 0), (4, ssV g ((seesL ⟨cs, sp⟩).take j)), (10, .v (.int .i64 sp.length)), (11, .v (.int .i64 j))],
      some (2, [[.fsl false 1 (cs.map (irow .u8)), .fsl false 1 (sp.map (spR false))]]) :: ssH g ((seesL ⟨cs, sp⟩).take j))) (fun k _ => True) 0 (by omega) trivial ?_ ?_ ?_
    · simp [ssV, ssH, heapW, lowA]
    · rintro j g hj _ hw
      have hj2 : j < (seesL ⟨cs, sp⟩).length := by simpa [seesL] using hj
      have hsj : cowSp ⟨cs, sp⟩ (j : Int) = 0 := by simp only [cowSp, h0]; rw [if_pos trivial, if_neg (by omega)]
      have hsee : cowSee ⟨cs, sp⟩ (j : Int) = .ok (seesL ⟨cs, sp⟩)[j] := by
        simp [cowSee, hsj, seesL, hj]
      have hsu : (seesL ⟨cs, sp⟩).take (j + 1) = (seesL ⟨cs, sp⟩).take j ++ [(seesL ⟨cs, sp⟩)[j]] := List.take_succ_eq_append_getElem hj2
      have hle : ((seesL ⟨cs, sp⟩).take j).length = j := by simp; omega
      generalize hX : (seesL ⟨cs, sp⟩)[j] = X at *
      generalize hB : (seesL ⟨cs, sp⟩).take j = B at *
      have cN1 : ¬ B.length + 1 ≤ B.length := by omega
      have cN2 : B.length + 1 ≤ 4294967296 := by omega
      by_cases hb : B = []
      · by_cases hx : X = []
        · simp [Try.ntmps25, Try.results25, cSl, cp0, cI, cD, rI, rRoom, roomDec, Room.row, ssV, ssH, hb, hsu, hj, hw, hsee, seeE, hx, sRow]
        · simp [Try.ntmps25, Try.results25, cSl, cp0, cI, cD, rI, rRoom, roomDec, Room.row, ssV, ssH, hb, hsu, hj, hw, hsee, seeE, hx, sRow]
      · by_cases hx : X = []
        · simp [Try.ntmps25, Try.results25, cSl, cp0, cI, cD, rI, rRoom, roomDec, Room.row, ssV, ssH, hb, hsu, hj, hw, hsee, seeE, hx, cN1, cN2, sRow]
          rw [heapW_repb]
          simp [heapW, lowA]
        · simp [Try.ntmps25, Try.results25, cSl, cp0, cI, cD, rI, rRoom, roomDec, Room.row, ssV, ssH, hb, hsu, hj, hw, hsee, seeE, hx, cN1, cN2, sRow]
          rw [heapW_repb]
          simp [heapW, lowA, irow]
    · rintro g _
      have hla : (seesL ⟨cs, sp⟩).take sp.length = seesL ⟨cs, sp⟩ := List.take_of_length_le (by simp [seesL])
      rw [hla]
      have hok : seesOk ⟨cs, sp⟩ = true := by simp [seesOk, h0]
      have hls : (seesL ⟨cs, sp⟩).length = sp.length := by simp [seesL]
      by_cases hb : sp = []
      · have hb' : seesL ⟨cs, sp⟩ = [] := by simp [seesL, hb]
        simp [Try.ntmps25, Try.results25, cSl, cp0, cI, cD, ssV, ssH, hb, hb', seesE, hok]
        exact showsV _
      · have hb' : ¬ seesL ⟨cs, sp⟩ = [] := by simp [seesL, hb]
        simp [Try.ntmps25, Try.results25, cSl, cp0, cI, cD, ssV, ssH, hb, hb', seesE, hok]
        refine showsT2 (shows_rows rfl (rows := (seesL ⟨cs, sp⟩).map sRow) (by simp [obj]) (by simp) (fun i hi => ?_)) (showsV _)
        obtain ⟨x, h1, h2⟩ := sRow_shows (H := some (2, [[AVal.fsl false 1 (List.map (irow IntKind.u8) cs), AVal.fsl false 1 (List.map (spR false) sp)]]) :: (List.replicate g none ++ [some (1, List.map sRow (seesL ⟨cs, sp⟩))])) (d := 1) (seesL ⟨cs, sp⟩)[i]
        exact ⟨x, by simp [hi, h1], h2⟩
  · by_cases hb : sp = []
    · subst hb
      have hok : seesOk ⟨cs, []⟩ = true := by simp [seesOk]
      refine loop_rounds 1 ?_
      simp [Try.ntmps25, Try.results25, cSl, cp0, cI, cD, UnrK, seesE, hok]
      exact showsV _
    · have hok : seesOk ⟨cs, sp⟩ = false := by simp [seesOk, h0, hb]
      have hsee : cowSee ⟨cs, sp⟩ 0 = .error (cowCheck ⟨cs, sp⟩) := by simp [cowSee, cowSp, h0]
      have hpos : 0 < sp.length := by cases sp with | nil => exact absurd rfl hb | cons => simp
      refine loop_rounds 1 ?_
      simp [Try.ntmps25, Try.results25, cSl, cp0, cI, cD, rI, rRoom, roomDec, Room.row, UnrK, seesE, hok, hsee, seeE, h0, hpos]
      exact showsV _
end Go.Proofs.Ytfiindblaopaiaa
