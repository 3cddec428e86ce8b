/- Package cow: rooms, Check. -/
import Derived.Test.YtfiindblaopaiaaFacts
import Derived.Test.YtfiindblaopaiaaAiZc
namespace Go.Proofs.Ytfiindblaopaiaa
open Go.AI
set_option maxHeartbeats 2000000
set_option maxRecDepth 100000
set_option linter.unusedSimpArgs false
set_option linter.unusedVariables false
attribute [local simp] wpA wpX RunA RunD runF foot footP footB idsA bare apart runL step1 gsel_f gsel_t gsel_s res_same res_and1 res_and2 res_and3 res_and4 res_and5 res_and6 res_false res_true res_v res_ptr res_fptr res_osl res_xsl soft aAppendZ aCap ovlI ovlJ res_fsl res_esl res_agg res_tup res_fn res_junk res_anyb aPick hk imp_left iteV dstOk guardOk astep astepE AI.ev AI.look AI.put envOf aBox cellsOf allOne allOneA oneA Value.oneCell' Value.cells newObj' aFieldAddr aLoad obj readAt thenA blockA condA retA resA tupA view hot hotC hotR depthV cAgg cInt cBool mkAgg allV aAlloc aBuild fillA writeAt aStore isAggA aField idx aIndexAddr aIndex bnd aSlice aExtract aLen aBuiltin aCall isStatic eqAgg eqTy eqC ev_add ev_sub ev_mul ev_quo ev_rem ev_and ev_or ev_xor ev_andNot ev_shl ev_shr ev_eql ev_neq ev_lss ev_leq ev_gtr ev_geq ev_agg w64 wu32 wu8 ev_not ev_neg Cod.plain RCod.plain argM finM cold coldC coldR goInt intDec boolDec aggDec Weaker heapW lowA lowC Again slDec undef aBuildSlice setRows aAppend rowsOf aMakeSlice aClear aCopy softer_self softer_nil valsOf ev_min2 ev_max2 hotR_set hotR_append take_map_set irow_cold irow_mapM irow_mapMc irow_view irow_viewc irow_hotR irow_ren irow_renc irow_low WeakT heapT thOf ren renC AgainT NextF NextT fnDec cFn rNil selfLt natLt0 natLt1 getLastMap frame0 frame1 own0 own1 argG finG tau tauI tauO tauC bareA bareC bareH irow_tau irow_tauc irow_bare irow_flat irow_bareR ownA_nil ownT_nil ownA_c ownT_c ownA_s ownT_s takeMapLen footC plainA noId noIdC cloneF frame0F frame1F insertF replaceI replaceF cellDec rCell fpDec cFp rTwo deleteF allV_oA oneA_oA res_oA RunR RunE runFT footAt hotR_cat tmodN fxSz2 fxBy2 fxAg2 fxZe2 fxSl2 fxAr2 fxPl2 fxSz3 fxBy3 fxAg3 fxZe3 fxSl3 fxAr3 fxPl3 fxSz4 fxBy4 fxAg4 fxZe4 fxSl4 fxAr4 fxPl4 fxSz5 fxBy5 fxAg5 fxZe5 fxSl5 fxAr5 fxPl5 fxSz9 fxBy9 fxAg9 fxZe9 fxSl9 fxAr9 fxPl9 fxSz12 fxBy12 fxAg12 fxZe12 fxSl12 fxAr12 fxPl12 fxSz13 fxBy13 fxAg13 fxZe13 fxSl13 fxAr13 fxFi13x0 fxFi13x1 fxPl13 fxSz21 fxBy21 fxAg21 fxZe21 fxSl21 fxAr21 fxPl21 fxSz22 fxBy22 fxAg22 fxZe22 fxSl22 fxAr22 fxPl22 fxSz23 fxBy23 fxAg23 fxZe23 fxSl23 fxAr23 fxFi23x0 fxFi23x1 fxPl23 fxSz24 fxBy24 fxAg24 fxZe24 fxSl24 fxAr24 fxFi24x0 fxFi24x1 fxPl24 fxSz25 fxBy25 fxAg25 fxZe25 fxSl25 fxAr25 fxFi25x0 fxFi25x1 fxPl25 fxSz26 fxBy26 fxAg26 fxZe26 fxSl26 fxAr26 fxFi26x0 fxFi26x1 fxPl26 fxSz27 fxBy27 fxAg27 fxZe27 fxSl27 fxAr27 fxPl27 fxSz34 fxBy34 fxAg34 fxZe34 fxSl34 fxAr34 fxPl34 fxSz37 fxBy37 fxAg37 fxZe37 fxSl37 fxAr37 fxPl37 fxSz45 fxBy45 fxAg45 fxZe45 fxSl45 fxAr45 fxFi45x0 fxFi45x1 fxPl45 fxSz46 fxBy46 fxAg46 fxZe46 fxSl46 fxAr46 fxFi46x0 fxFi46x1 fxPl46 fxSz48 fxBy48 fxAg48 fxZe48 fxSl48 fxAr48 fxPl48 fxSz49 fxBy49 fxAg49 fxZe49 fxSl49 fxAr49 fxPl49 fxSz50 fxBy50 fxAg50 fxZe50 fxSl50 fxAr50 fxFi50x0 fxFi50x1 fxPl50 fxSz51 fxBy51 fxAg51 fxZe51 fxSl51 fxAr51 fxFi51x0 fxFi51x1 fxPl51 fxSz57 fxBy57 fxAg57 fxZe57 fxSl57 fxAr57 fxPl57 fxSz69 fxBy69 fxAg69 fxZe69 fxSl69 fxAr69 fxPl69 fxSz70 fxBy70 fxAg70 fxZe70 fxSl70 fxAr70 fxPl70 fxSz92 fxBy92 fxAg92 fxZe92 fxSl92 fxAr92 fxPl92 fxSz107 fxBy107 fxAg107 fxZe107 fxSl107 fxAr107 fxPl107 fxSz108 fxBy108 fxAg108 fxZe108 fxSl108 fxAr108 fxFi108x0 fxPl108 fxSz111 fxBy111 fxAg111 fxZe111 fxSl111 fxAr111 fxPl111 fxSz115 fxBy115 fxAg115 fxZe115 fxSl115 fxAr115 fxPl115 fxSz120 fxBy120 fxAg120 fxZe120 fxSl120 fxAr120 fxPl120 fxEq26 fxEq70 fxCv2x2 fxCv2x3 fxCv2x5 fxCv2x12 fxCv2x21 fxCv2x27 fxCv2x111 fxCv3x2 fxCv3x3 fxCv3x5 fxCv3x12 fxCv3x21 fxCv3x27 fxCv3x111 fxCv5x2 fxCv5x3 fxCv5x5 fxCv5x12 fxCv5x21 fxCv5x27 fxCv5x111 fxCv12x2 fxCv12x3 fxCv12x5 fxCv12x12 fxCv12x21 fxCv12x27 fxCv12x111 fxCv21x2 fxCv21x3 fxCv21x5 fxCv21x12 fxCv21x21 fxCv21x27 fxCv21x111 fxCv27x2 fxCv27x3 fxCv27x5 fxCv27x12 fxCv27x21 fxCv27x27 fxCv27x111 fxCv111x2 fxCv111x3 fxCv111x5 fxCv111x12 fxCv111x21 fxCv111x27 fxCv111x111 fxEb4 fxNb4 fxLt9 fxLn22 fxNe22 fxNn22 fxOe22 fxOn22 fxXe22 fxXn22 fxLn34 fxNe34 fxNn34 fxOe34 fxOn34 fxXe34 fxXn34 fxLn37 fxNe37 fxNn37 fxOe37 fxOn37 fxXe37 fxXn37 fxLn48 fxNe48 fxNn48 fxOe48 fxOn48 fxXe48 fxXn48 fxLn49 fxNe49 fxNn49 fxOe49 fxOn49 fxXe49 fxXn49 fxLn57 fxNe57 fxNn57 fxOe57 fxOn57 fxXe57 fxXn57 fxLn69 fxNe69 fxNn69 fxOe69 fxOn69 fxXe69 fxXn69 fxLn92 fxNe92 fxNn92 fxOe92 fxOn92 fxXe92 fxXn92 fxFn3 fxFm3 fxFb3 fxFi3 fxFj3 fxFn4 fxFm4 fxFb4 fxFi4 fxFj4 fxFn5 fxFm5 fxFb5 fxFi5 fxFj5 fxFn6 fxFm6 fxFb6 fxFi6 fxFj6 fxFn7 fxFm7 fxFb7 fxFi7 fxFj7 fxFn8 fxFm8 fxFb8 fxFi8 fxFj8 fxFn9 fxFm9 fxFb9 fxFi9 fxFj9 fxFn10 fxFm10 fxFb10 fxFi10 fxFj10 fxFn11 fxFm11 fxFb11 fxFi11 fxFj11 fxFn12 fxFm12 fxFb12 fxFi12 fxFj12 fxFn13 fxFm13 fxFb13 fxFi13 fxFj13 fxFn14 fxFm14 fxFb14 fxFi14 fxFj14 fxFn15 fxFm15 fxFb15 fxFi15 fxFj15 fxFn16 fxFm16 fxFb16 fxFi16 fxFj16 fxFn17 fxFm17 fxFb17 fxFi17 fxFj17 fxFn18 fxFm18 fxFb18 fxFi18 fxFj18 fxFn19 fxFm19 fxFb19 fxFi19 fxFj19 fxFn20 fxFm20 fxFb20 fxFi20 fxFj20 fxFn21 fxFm21 fxFb21 fxFi21 fxFj21 fxFn22 fxFm22 fxFb22 fxFi22 fxFj22 fxFn23 fxFm23 fxFb23 fxFi23 fxFj23 fxFn24 fxFm24 fxFb24 fxFi24 fxFj24 fxFn25 fxFm25 fxFb25 fxFi25 fxFj25 fxFn26 fxFm26 fxFb26 fxFi26 fxFj26 fxFn27 fxFm27 fxFb27 fxFi27 fxFj27 fxFn28 fxFm28 fxFb28 fxFi28 fxFj28 fxFn29 fxFm29 fxFb29 fxFi29 fxFj29 fxFn30 fxFm30 fxFb30 fxFi30 fxFj30 fxFn31 fxFm31 fxFb31 fxFi31 fxFj31 fxFn32 fxFm32 fxFb32 fxFi32 fxFj32 fxFn33 fxFm33 fxFb33 fxFi33 fxFj33 fxFn34 fxFm34 fxFb34 fxFi34 fxFj34 fxFn35 fxFm35 fxFb35 fxFi35 fxFj35 fxFn36 fxFm36 fxFb36 fxFi36 fxFj36 fxFn37 fxFm37 fxFb37 fxFi37 fxFj37 fxFn38 fxFm38 fxFb38 fxFi38 fxFj38 fxFn39 fxFm39 fxFb39 fxFi39 fxFj39 fxFn40 fxFm40 fxFb40 fxFi40 fxFj40 fxFn41 fxFm41 fxFb41 fxFi41 fxFj41 fxFn42 fxFm42 fxFb42 fxFi42 fxFj42 fxFn43 fxFm43 fxFb43 fxFi43 fxFj43 fxFn44 fxFm44 fxFb44 fxFi44 fxFj44 fxFn45 fxFm45 fxFb45 fxFi45 fxFj45 fxFn46 fxFm46 fxFb46 fxFi46 fxFj46 fxFn47 fxFm47 fxFb47 fxFi47 fxFj47 fxFn48 fxFm48 fxFb48 fxFi48 fxFj48 fxFn49 fxFm49 fxFb49 fxFi49 fxFj49 fxFn50 fxFm50 fxFb50 fxFi50 fxFj50 fxFn51 fxFm51 fxFb51 fxFi51 fxFj51 fxFn52 fxFm52 fxFb52 fxFi52 fxFj52 fxFn53 fxFm53 fxFb53 fxFi53 fxFj53 fxFn54 fxFm54 fxFb54 fxFi54 fxFj54 fxFn55 fxFm55 fxFb55 fxFi55 fxFj55 fxFn56 fxFm56 fxFn57 fxFm57 fxFb57 fxFi57 fxFj57 fxFn58 fxFm58 fxFb58 fxFi58 fxFj58 fxFn59 fxFm59 fxFn60 fxFm60 fxFb60 fxFi60 fxFj60 fxFn61 fxFm61 fxFb61 fxFi61 fxFj61 fxFn62 fxFm62 fxFb62 fxFi62 fxFj62 fxFn63 fxFm63 fxFb63 fxFi63 fxFj63 fxFn64 fxFm64 fxFb64 fxFi64 fxFj64 fxFn65 fxFm65 fxFb65 fxFi65 fxFj65 fxFn66 fxFm66 fxFb66 fxFi66 fxFj66
structure Room where
  cells : List Int
  spaces : List (List Int)
def spR (o : Bool) : List Int → Row := slR 1 (irow .i64) o
def rSp : RCod (List Int) := rS (rI .i64)
def roomDec : Row → Option Room
  | [a, b] => match slDec (rI .u8) a, slDec rSp b with | some x, some y => some ⟨x, y⟩ | _, _ => none
  | _ => none
def Room.row (e : Room) : Row := [.fsl false 1 (e.cells.map (irow .u8)), .fsl false 1 (e.spaces.map (spR false))]
def Room.hrow (e : Room) : Row := [.fsl true 1 (e.cells.map (irow .u8)), .fsl true 1 (e.spaces.map (spR true))]
theorem spR_cold {o : Bool} (L : List (List Int)) : coldR (L.map (spR o)) = L.map (spR false) := slR_cold irow_cold L
theorem spR_dec {o : Bool} (l : List Int) : rSp.dec (spR o l) = some l := slR_dec (cr := rI .i64) l
theorem spR_mapM {o : Bool} (L : List (List Int)) : (L.map (spR o)).mapM rSp.dec = some L := slR_mapM (cr := rI .i64) L
theorem spR_mapMc {o : Bool} (L : List (List Int)) : L.mapM (rSp.dec ∘ spR o) = some L := by
  have := spR_mapM (o := o) L
  rwa [List.mapM_map] at this
theorem spR_view {o : Bool} (H : Heap) (d : Nat) (l : List Int) : List.map (view H d) (spR o l) = spR o l := slR_view l
theorem spR_viewc {o : Bool} (H : Heap) (d : Nat) : List.map (view H d) ∘ spR o = spR o := funext (spR_view H d)
theorem spR_hotR (L : List (List Int)) : hotR (L.map (spR true)) = true := slR_hotR irow_hotR L
theorem spR_ren {o : Bool} (n : Nat) (th : List Nat) (l : List Int) : List.map (ren n th) (spR o l) = spR o l := slR_ren l
theorem spR_renc {o : Bool} (n : Nat) (th : List Nat) : List.map (ren n th) ∘ spR o = spR o := funext (spR_ren n th)
theorem spR_low {o : Bool} (n : Nat) (l : List Int) : (spR o l).all (lowA n) = true := slR_low l
theorem spR_get {o : Bool} (l : List Int) : (spR o l)[0]? = some (.fsl o 1 (l.map (irow .i64))) := rfl
theorem spR_len {o : Bool} (l : List Int) : (spR o l).length = 1 := rfl
theorem Room.eta (e : Room) : Room.mk e.cells e.spaces = e := rfl
theorem Room.dec_row (e : Room) : roomDec e.row = some e := by
  have h0 := mapM_dec (rI .u8) e.cells
  have h1 := spR_mapM (o := false) e.spaces
  simp only [roomDec, Room.row]
  erw [show slDec (rI .u8) (.fsl false 1 (e.cells.map (irow .u8))) = some e.cells from h0, show slDec rSp (.fsl false 1 (e.spaces.map (spR false))) = some e.spaces from h1]
theorem Room.dec_hrow (e : Room) : roomDec e.hrow = some e := by
  have h0 := mapM_dec (rI .u8) e.cells
  have h1 := spR_mapM (o := true) e.spaces
  simp only [roomDec, Room.hrow]
  erw [show slDec (rI .u8) (.fsl true 1 (e.cells.map (irow .u8))) = some e.cells from h0, show slDec rSp (.fsl true 1 (e.spaces.map (spR true))) = some e.spaces from h1]
def rRoom : RCod Room where
  sz := 2
  enc := Room.row
  dec := roomDec
  de := Room.dec_row
  len _ := rfl
  ok := by
    intro r e h β ok w n x hok hr
    unfold roomDec at h
    split at h
    · split at h
      · rename_i h0 h1
        simp at h
        subst h
        refine ⟨rfl, fun j c hj => ?_⟩
        match j, hj with
        | 0, hj => simp [Room.row] at hj; subst hj; exact (cSl (rI .u8)).ok h0 hok (hr 0 _ rfl)
        | 1, hj => simp [Room.row] at hj; subst hj; exact (cSl rSp).ok h1 hok (hr 1 _ rfl)
        | j + 2, hj => simp [Room.row] at hj
      · cases h
    · cases h
theorem rSp_sz : rSp.sz = 1 := rfl
attribute [local simp] rSp_sz spR_cold spR_dec spR_mapM spR_mapMc spR_view spR_viewc spR_hotR spR_ren spR_renc spR_low spR_get spR_len Room.eta Room.dec_row Room.dec_hrow
def brow (b : Bool) : Row := [.v (.bool b)]
def boolR (n : Nat) (f : Nat → Bool) : List Row := ((List.range n).map f).map brow
theorem boolR_len (n : Nat) (f : Nat → Bool) : (boolR n f).length = n := by simp [boolR]
theorem boolR_get {n k : Nat} (f : Nat → Bool) (hk : k < n) : (boolR n f)[k]? = some (brow (f k)) := by simp [boolR, hk]
theorem boolR_get' {n : Nat} (f : Nat → Bool) (k : Nat) (h : k < (boolR n f).length) : (boolR n f)[k] = [.v (.bool (f k))] := by
  have h2 : k < n := by rw [boolR_len] at h; exact h
  have := boolR_get f h2
  rw [List.getElem?_eq_getElem h] at this
  simpa [brow] using this
theorem boolR_set {n k : Nat} (f : Nat → Bool) (hk : k < n) : (boolR n f).set k (brow true) = boolR n (fun q => f q || q == k) := by
  apply List.ext_getElem?
  intro i
  by_cases hi : i < n
  · by_cases hik : i = k
    · subst hik
      rw [List.getElem?_set_self (by rw [boolR_len]; exact hi), boolR_get _ hi]; simp
    · rw [List.getElem?_set_ne (fun e => hik e.symm), boolR_get _ hi, boolR_get _ hi]
      have : (i == k) = false := by simp [hik]
      rw [this, Bool.or_false]
  · rw [List.getElem?_eq_none (by rw [List.length_set, boolR_len]; omega), List.getElem?_eq_none (by rw [boolR_len]; omega)]
theorem boolR_ext {n : Nat} {f g : Nat → Bool} (h : ∀ q, q < n → f q = g q) : boolR n f = boolR n g := by
  unfold boolR
  congr 1
  exact List.map_congr_left fun q hq => h q (by simpa using hq)
theorem boolR_rep (n : Nat) : List.replicate n [AVal.v (.bool false)] = boolR n (fun _ => false) := by
  apply List.ext_getElem?
  intro i
  by_cases hi : i < n
  · rw [boolR_get _ hi]; simp [hi, brow]
  · rw [List.getElem?_eq_none (by simp; omega), List.getElem?_eq_none (by rw [boolR_len]; omega)]
theorem boolR_low (n m : Nat) (f : Nat → Bool) : ((boolR n f).all fun row => row.all (lowA m)) = true := by simp [boolR, brow, lowA]
/-- slices.Index, of booleans -/
def bidx (x : Bool) : List Bool → Option Nat
  | [] => none
  | y :: r => if x = y then some 0 else (bidx x r).map (· + 1)
def bidxI (x : Bool) (l : List Bool) : Int := match bidx x l with | some k => k | none => -1
theorem bidx_iff (x : Bool) (l : List Bool) : (bidx x l).isSome = true ↔ x ∈ l := by
  induction l with
  | nil => simp [bidx]
  | cons y r ih =>
    simp only [bidx]
    split
    · rename_i h; simp [h]
    · rename_i h; simp [h, ih]
theorem bidxI_iff (x : Bool) (l : List Bool) : 0 ≤ bidxI x l ↔ x ∈ l := by
  rw [← bidx_iff]
  unfold bidxI
  cases bidx x l <;> simp
theorem brow_cold (l : List Bool) : coldR (l.map brow) = l.map brow := by
  induction l with
  | nil => simp [coldR]
  | cons e l ih => simp [coldR, coldC, cold, ih, brow]
theorem brow_mapM (l : List Bool) : (l.map brow).mapM rB.dec = some l := mapM_dec rB l
theorem brow_mapMc (l : List Bool) : l.mapM (rB.dec ∘ brow) = some l := mapM_dec' rB l
theorem brow_view (H : Heap) (n : Nat) (e : Bool) : List.map (view H n) (brow e) = brow e := by cases n <;> simp [brow, view]
theorem brow_viewc (H : Heap) (n : Nat) : List.map (view H n) ∘ brow = brow := funext (brow_view H n)
theorem rB_sz : rB.sz = 1 := rfl
attribute [local simp] rB_sz brow_cold brow_mapM brow_mapMc brow_view brow_viewc boolR_len boolR_get'
theorem bindex_pure : PureOk Try.prog 62 (argM (cSl rB) fun l => argM (cBool) fun x => finM (if l.length ≤ 4294967296 then some (.v (.int .i64 (bidxI x l))) else none)) := by
  refine pure2 Try.func62 rfl ?_
  rintro l x r hr
  by_cases hc : l.length ≤ 4294967296
  case neg => rw [if_neg hc] at hr; cases hr
  rw [if_pos hc] at hr
  simp only [Option.some.injEq] at hr
  subst hr
  refine body_gen noOrc_ok fxMix (by kernel_rfl) (by simp [Try.ntmps62]) ?_
  intro C cP cI cN cD cF cA
  replace cI : C.inl = fun _ => false := cI
  replace cD : C.dyn = fun _ => [] := cD
  clear cP cN cF cA
  have he : ∀ l : List Bool, (cSl rB).enc l = .fsl false 1 (l.map brow) := fun _ => rfl
  simp only [he]
  simp [Try.ntmps62, Try.results62, cSl, cI, cD, ]
  refine loop_for l.length (fun k (_ : Unit) => ([(0, .fsl false 1 (l.map brow)), (1, .v (.bool x)), (7, .v (.int .i64 l.length)), (8, .v (.int .i64 k))], [])) (fun k _ => bidx x l = (bidx x (l.drop k)).map (· + k)) () hc (by simp) (by simp) ?_ ?_
  · intro k _ hk hall hw
    rw [List.drop_eq_getElem_cons hk, bidx] at hall
    by_cases q : x = l[k]
    · rw [if_pos q] at hall
      have hall' : bidx l[k] l = some k := by rw [← q]; simpa using hall
      simp [Try.ntmps62, Try.results62, cSl, cI, cD, hk, brow, hw, q, bidxI, hall']
    · rw [if_neg q] at hall
      have q' : (x == l[k]) = false := by simp [q]
      simp [Try.ntmps62, Try.results62, cSl, cI, cD, hk, brow, hw, q']
      rw [hall, Option.map_map]
      congr 1
      funext z
      simp; omega
  · intro _ hall
    simp [bidx] at hall
    simp [Try.ntmps62, Try.results62, cSl, cI, cD, bidxI, hall]
theorem bcontains_pure : PureOk Try.prog 53 (argM (cSl rB) fun l => argM (cBool) fun x => finM (if l.length ≤ 4294967296 then some (.v (.bool (decide (x ∈ l)))) else none)) := by
  refine pure2 Try.func53 rfl ?_
  rintro l x r hr
  by_cases hc : l.length ≤ 4294967296
  case neg => rw [if_neg hc] at hr; cases hr
  rw [if_pos hc] at hr
  simp only [Option.some.injEq] at hr
  subst hr
  refine body_gen (noOrc_ok.withP bindex_pure) fxMix (by kernel_rfl) (by simp [Try.ntmps53]) ?_
  intro C cP cI cN cD cF cA
  have cp0 := orcP bindex_pure (C := C) (by rw [cP]; rfl)
  replace cI : C.inl = fun _ => false := cI
  replace cD : C.dyn = fun _ => [] := cD
  clear cP cN cF cA
  have he : ∀ l : List Bool, (cSl rB).enc l = .fsl false 1 (l.map brow) := fun _ => rfl
  have hd : ∀ l : List Bool, slDec rB (.fsl false 1 (l.map brow)) = some l := fun l => mapM_dec rB l
  simp only [he]
  simp [Try.ntmps53, Try.results53, cSl, cp0, cI, cD, hc, bidxI_iff]
/-- Check, space by space -/
def okC (n : Nat) (l : List Int) : Bool := l.all fun x => decide (0 ≤ x) && decide (x < n)
def spGo (n : Nat) : List (List Int) → Int
  | [] => 0
  | l :: r => if 8 < l.length then 2 else if okC n l = true then spGo n r else 1
def inB (L : List Int) (c : Nat) : Bool := decide ((c : Int) ∈ L)
def cowCheck (r : Room) : Int :=
  if 64 < r.cells.length ∨ 8 < r.spaces.length then 2
  else if spGo r.cells.length r.spaces = 0 then (if (List.range r.cells.length).all (inB r.spaces.flatten) = true then 0 else 3)
  else spGo r.cells.length r.spaces
theorem spGo_ok (n : Nat) (L : List (List Int)) : spGo n L = 0 ↔ ∀ l ∈ L, l.length ≤ 8 ∧ ∀ x ∈ l, 0 ≤ x ∧ x < n := by
  induction L with
  | nil => simp [spGo]
  | cons l L ih =>
    simp only [spGo]
    split
    · rename_i h; simp; omega
    · rename_i h
      split
      · rename_i h2
        rw [ih]
        simp only [okC, List.all_eq_true, Bool.and_eq_true, decide_eq_true_eq] at h2
        simp only [List.mem_cons, forall_eq_or_imp]
        exact ⟨fun h3 => ⟨⟨by omega, h2⟩, h3⟩, fun h3 => h3.2⟩
      · rename_i h2
        simp only [List.mem_cons, forall_eq_or_imp]
        constructor
        · intro h3; simp at h3
        · rintro ⟨⟨_, h3⟩, _⟩
          exact absurd (by simp only [okC, List.all_eq_true, Bool.and_eq_true, decide_eq_true_eq]; exact h3) h2
theorem cowCheck_pure : PureOk Try.prog 28 (argM (cAgg rRoom) fun r => finM (some (.v (.int .i64 (cowCheck r))))) := by
  refine pure1 Try.func28 rfl ?_
  rintro r r hr
  simp only [Option.some.injEq] at hr
  subst hr
  refine body_gen (noOrc_ok.withP bcontains_pure) fxMix (by kernel_rfl) (by simp [Try.ntmps28]) ?_
  intro C cP cI cN cD cF cA
  have cp0 := orcP bcontains_pure (C := C) (by rw [cP]; rfl)
  replace cI : C.inl = fun _ => false := cI
  replace cD : C.dyn = fun _ => [] := cD
  clear cP cN cF cA
  obtain ⟨cs, sp⟩ := r
  unfold cowCheck
  simp only
  by_cases h1 : 64 < cs.length
  · have h1' : (64 : Int) < cs.length := by omega
    simp [Try.ntmps28, Try.results28, cSl, cp0, cI, cD, rRoom, Room.row, h1, h1']
  have h1' : ¬ (64 : Int) < cs.length := by omega
  by_cases h2 : 8 < sp.length
  · have h2' : (8 : Int) < sp.length := by omega
    simp [Try.ntmps28, Try.results28, cSl, cp0, cI, cD, rRoom, Room.row, h1, h1', h2, h2']
  have h2' : ¬ (8 : Int) < sp.length := by omega
  have h3 : cs.length ≤ 4294967296 := by omega
  have h3' : (cs.length : Int) ≤ 4294967296 := by omega
  simp [Try.ntmps28, Try.results28, cSl, cp0, cI, cD, rRoom, Room.row, h1, h1', h2, h2', h3, h3']
  generalize hn : cs.length = n at *
  refine loop_for sp.length (fun k (_ : Unit) => ([(1, .ptr 0 2 0 0), (3, .osl 1 1 0 n n), (23, .fsl false 1 (sp.map (spR false))), (24, .v (.int .i64 sp.length)), (25, .v (.int .i64 k))], [some (2, [Room.row ⟨cs, sp⟩]), some (1, boolR n (inB (sp.take k).flatten))])) (fun k _ => spGo n (sp.drop k) = spGo n sp) () (by omega) rfl ?_ ?_ ?_
  · have : inB ([] : List Int) = fun _ => false := by funext c; simp [inB]
    simp [Room.row, boolR_low, this, boolR_rep]
  · rintro k _ hk hall hw
    rw [List.drop_eq_getElem_cons hk, spGo] at hall
    have htk : (sp.take (k + 1)).flatten = (sp.take k).flatten ++ sp[k] := by
      rw [List.take_succ_eq_append_getElem hk, List.flatten_append]; simp
    generalize hl : sp[k] = l at *
    by_cases c1 : 8 < l.length
    · have c1' : (8 : Int) < l.length := by omega
      rw [if_pos c1] at hall
      simp [Try.ntmps28, Try.results28, cSl, cp0, cI, cD, hk, hw, hl, Room.row, c1', ← hall]
    have c1' : ¬ (8 : Int) < l.length := by omega
    rw [if_neg c1] at hall
    simp [Try.ntmps28, Try.results28, cSl, cp0, cI, cD, hk, hw, hl, Room.row, c1']
    refine loop_for l.length (fun j (_ : Unit) => ([(1, .ptr 0 2 0 0), (3, .osl 1 1 0 n n), (23, .fsl false 1 (sp.map (spR false))), (24, .v (.int .i64 sp.length)), (25, .v (.int .i64 k)), (32, .fsl false 1 (l.map (irow .i64))), (33, .v (.int .i64 l.length)), (34, .v (.int .i64 j))], [some (2, [Room.row ⟨cs, sp⟩]), some (1, boolR n (inB ((sp.take k).flatten ++ l.take j)))])) (fun j _ => ∀ x ∈ l.take j, 0 ≤ x ∧ x < n) () (by omega) (by simp) ?_ ?_ ?_
    · simp [Room.row, boolR_low]
    · rintro j _ hj hgood hw2
      have hx : l[j] ∈ l := List.getElem_mem hj
      by_cases d1 : l[j] < 0
      · have hno : ¬ okC n l = true := by
          intro h
          simp only [okC, List.all_eq_true, Bool.and_eq_true, decide_eq_true_eq] at h
          have := (h _ hx).1; omega
        rw [if_neg hno] at hall
        simp [Try.ntmps28, Try.results28, cSl, cp0, cI, cD, hj, irow, d1, ← hall]
      by_cases d2 : (n : Int) ≤ l[j]
      · have hno : ¬ okC n l = true := by
          intro h
          simp only [okC, List.all_eq_true, Bool.and_eq_true, decide_eq_true_eq] at h
          have := (h _ hx).2; omega
        rw [if_neg hno] at hall
        simp [Try.ntmps28, Try.results28, cSl, cp0, cI, cD, hj, irow, d1, d2, ← hall, Room.row, hn]
      obtain ⟨x, hxx⟩ := Int.eq_ofNat_of_zero_le (show 0 ≤ l[j] by omega)
      have hxn : x < n := by omega
      have hb := boolR_get (inB ((sp.take k).flatten ++ l.take j)) hxn
      have hs := boolR_set (inB ((sp.take k).flatten ++ l.take j)) hxn
      have he : boolR n (fun q => inB ((sp.take k).flatten ++ l.take j) q || q == x) = boolR n (inB ((sp.take k).flatten ++ l.take (j + 1))) := by
        refine boolR_ext fun q _ => ?_
        rw [List.take_succ_eq_append_getElem hj, hxx, ← List.append_assoc]
        rw [Bool.eq_iff_iff]
        have hqx : ((q : Int) = (x : Int)) ↔ q = x := by omega
        simp only [inB, Bool.or_eq_true, decide_eq_true_eq, beq_iff_eq, List.mem_append, List.mem_singleton, or_assoc, hqx]
      rw [he] at hs
      have hgood2 : ∀ y ∈ l.take (j + 1), 0 ≤ y ∧ y < n := by
        intro y hy
        rw [List.take_succ_eq_append_getElem hj] at hy
        rcases List.mem_append.1 hy with hy | hy
        · exact hgood y hy
        · simp at hy; subst hy; omega
      simp only [brow] at hb hs
      have d3 : ¬ (n : Int) ≤ x := by omega
      have d4 : ¬ (x : Int) < 0 := by omega
      simp [Try.ntmps28, Try.results28, cSl, cp0, cI, cD, hj, irow, hxx, d3, d4, Room.row, hn, hxn, hb, hs, hw2, boolR_low]
      exact hgood2
    · rintro _ hgood
      rw [List.take_length] at hgood
      have hyes : okC n l = true := by
        simp only [okC, List.all_eq_true, Bool.and_eq_true, decide_eq_true_eq]; exact hgood
      rw [if_pos hyes] at hall
      simp [Try.ntmps28, Try.results28, cSl, cp0, cI, cD, hw, Room.row, boolR_low, htk]
      exact hall
  · rintro _ hall
    simp only [List.drop_length, spGo] at hall
    have hdec : ∀ f, (boolR n f).mapM rB.dec = some ((List.range n).map f) := fun f => mapM_dec rB _
    have hcold : ∀ f, coldR (boolR n f) = boolR n f := fun f => brow_cold _
    have hv : ∀ (f : Nat → Bool) (H : Heap) (d : Nat), (boolR n f).map (List.map (view H d)) = boolR n f := by
      intro f H d
      unfold boolR
      rw [List.map_map, brow_viewc]
    have ht : ∀ f : Nat → Bool, List.take n (boolR n f) = boolR n f := fun f => List.take_of_length_le (by simp)
    by_cases hin : (List.range n).all (inB sp.flatten) = true
    · have hc : ¬ false ∈ (List.range n).map (inB sp.flatten) := by
        rw [List.mem_map]
        rintro ⟨c, hc1, hc2⟩
        rw [List.all_eq_true] at hin
        rw [hin c hc1] at hc2
        cases hc2
      have hin2 : (∀ x, x < n → inB sp.flatten x = true) = True := eq_true fun x hx => by rw [List.all_eq_true] at hin; exact hin x (by simpa using hx)
      simp [Try.ntmps28, Try.results28, cSl, cp0, cI, cD, ← hall, hin2, hdec, hcold, hv, ht, hc, h3]
    · have hc : false ∈ (List.range n).map (inB sp.flatten) := by
        rw [List.mem_map]
        simp only [List.all_eq_true] at hin
        apply Classical.byContradiction
        intro hno
        exact hin fun c hc1 => by
          cases h : inB sp.flatten c
          · exact absurd ⟨c, hc1, h⟩ hno
          · rfl
      have hin2 : (∀ x, x < n → inB sp.flatten x = true) = False := eq_false fun h => hin (by rw [List.all_eq_true]; exact fun x hx => h x (by simpa using hx))
      simp [Try.ntmps28, Try.results28, cSl, cp0, cI, cD, ← hall, hin2, hdec, hcold, hv, ht, hc, h3]
end Go.Proofs.Ytfiindblaopaiaa
