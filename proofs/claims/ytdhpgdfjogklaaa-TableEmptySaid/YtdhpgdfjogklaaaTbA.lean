/- Package table: nodes, at, huge, Check. -/
import Derived.Test.YtdhpgdfjogklaaaEnK
import Derived.Test.YtdhpgdfjogklaaaAiZg
namespace Go.Proofs.Ytdhpgdfjogklaaa
open Go.AI
set_option maxHeartbeats 2000000
set_option maxRecDepth 100000
set_option linter.unusedSimpArgs false
set_option linter.unusedVariables false
attribute [local simp] wpA wpX RunA RunD runF foot footP footB idsA bare apart runL step1 gsel_f gsel_t gsel_s res_same res_and1 res_and2 res_and3 res_and4 res_and5 res_and6 res_false res_true res_v res_ptr res_fptr res_osl res_xsl soft aAppendZ aCap ovlI ovlJ res_fsl res_esl res_agg res_tup res_fn res_junk res_anyb aPick hk imp_left iteV dstOk guardOk astep astepE AI.ev AI.look AI.put envOf aBox cellsOf allOne allOneA oneA Value.oneCell' Value.cells newObj' aFieldAddr aLoad obj readAt thenA blockA condA retA resA tupA view hot hotC hotR depthV cAgg cInt cBool mkAgg allV aAlloc aBuild fillA writeAt aStore isAggA aField idx aIndexAddr aIndex bnd aSlice aExtract aLen aBuiltin aCall isStatic eqAgg eqTy eqC ev_add ev_sub ev_mul ev_quo ev_rem ev_and ev_or ev_xor ev_andNot ev_shl ev_shr ev_eql ev_neq ev_lss ev_leq ev_gtr ev_geq ev_agg w64 wu32 wu8 ev_not ev_neg Cod.plain RCod.plain argM finM cold coldC coldR goInt intDec boolDec aggDec Weaker heapW lowA lowC Again slDec undef aBuildSlice setRows aAppend rowsOf aMakeSlice aClear aCopy softer_self softer_nil valsOf ev_min2 ev_max2 hotR_set hotR_append take_map_set irow_cold irow_mapM irow_mapMc irow_view irow_viewc irow_hotR irow_ren irow_renc irow_low WeakT heapT thOf ren renC AgainT NextF NextT fnDec cFn rNil selfLt natLt0 natLt1 getLastMap frame0 frame1 own0 own1 argG finG tau tauI tauO tauC bareA bareC bareH irow_tau irow_tauc irow_bare irow_flat irow_bareR ownA_nil ownT_nil ownA_c ownT_c ownA_s ownT_s takeMapLen footC plainA noId noIdC cloneF frame0F frame1F insertF replaceI replaceF cellDec rCell fpDec cFp rTwo deleteF allV_oA oneA_oA res_oA RunR RunE runFT footAt hotR_cat tmodN fxSz2 fxBy2 fxAg2 fxZe2 fxSl2 fxAr2 fxPl2 fxSz3 fxBy3 fxAg3 fxZe3 fxSl3 fxAr3 fxPl3 fxSz4 fxBy4 fxAg4 fxZe4 fxSl4 fxAr4 fxPl4 fxSz5 fxBy5 fxAg5 fxZe5 fxSl5 fxAr5 fxPl5 fxSz9 fxBy9 fxAg9 fxZe9 fxSl9 fxAr9 fxPl9 fxSz12 fxBy12 fxAg12 fxZe12 fxSl12 fxAr12 fxPl12 fxSz13 fxBy13 fxAg13 fxZe13 fxSl13 fxAr13 fxFi13x0 fxFi13x1 fxPl13 fxSz21 fxBy21 fxAg21 fxZe21 fxSl21 fxAr21 fxPl21 fxSz22 fxBy22 fxAg22 fxZe22 fxSl22 fxAr22 fxPl22 fxSz23 fxBy23 fxAg23 fxZe23 fxSl23 fxAr23 fxFi23x0 fxFi23x1 fxPl23 fxSz24 fxBy24 fxAg24 fxZe24 fxSl24 fxAr24 fxFi24x0 fxFi24x1 fxPl24 fxSz25 fxBy25 fxAg25 fxZe25 fxSl25 fxAr25 fxPl25 fxSz26 fxBy26 fxAg26 fxZe26 fxSl26 fxAr26 fxPl26 fxSz27 fxBy27 fxAg27 fxZe27 fxSl27 fxAr27 fxFi27x0 fxFi27x1 fxFi27x2 fxFi27x3 fxFi27x4 fxFi27x5 fxFi27x6 fxPl27 fxSz28 fxBy28 fxAg28 fxZe28 fxSl28 fxAr28 fxFi28x0 fxFi28x1 fxFi28x2 fxFi28x3 fxFi28x4 fxFi28x5 fxFi28x6 fxPl28 fxSz29 fxBy29 fxAg29 fxZe29 fxSl29 fxAr29 fxPl29 fxSz44 fxBy44 fxAg44 fxZe44 fxSl44 fxAr44 fxPl44 fxSz45 fxBy45 fxAg45 fxZe45 fxSl45 fxAr45 fxPl45 fxSz52 fxBy52 fxAg52 fxZe52 fxSl52 fxAr52 fxPl52 fxSz54 fxBy54 fxAg54 fxZe54 fxSl54 fxAr54 fxFi54x0 fxFi54x1 fxPl54 fxSz55 fxBy55 fxAg55 fxZe55 fxSl55 fxAr55 fxFi55x0 fxFi55x1 fxPl55 fxSz56 fxBy56 fxAg56 fxZe56 fxSl56 fxAr56 fxPl56 fxSz60 fxBy60 fxAg60 fxZe60 fxSl60 fxAr60 fxPl60 fxSz61 fxBy61 fxAg61 fxZe61 fxSl61 fxAr61 fxPl61 fxSz62 fxBy62 fxAg62 fxZe62 fxSl62 fxAr62 fxFi62x0 fxFi62x1 fxPl62 fxSz63 fxBy63 fxAg63 fxZe63 fxSl63 fxAr63 fxFi63x0 fxFi63x1 fxPl63 fxSz76 fxBy76 fxAg76 fxZe76 fxSl76 fxAr76 fxPl76 fxSz83 fxBy83 fxAg83 fxZe83 fxSl83 fxAr83 fxFi83x0 fxFi83x1 fxFi83x2 fxPl83 fxSz84 fxBy84 fxAg84 fxZe84 fxSl84 fxAr84 fxFi84x0 fxFi84x1 fxFi84x2 fxPl84 fxSz99 fxBy99 fxAg99 fxZe99 fxSl99 fxAr99 fxPl99 fxSz106 fxBy106 fxAg106 fxZe106 fxSl106 fxAr106 fxPl106 fxSz107 fxBy107 fxAg107 fxZe107 fxSl107 fxAr107 fxFi107x0 fxPl107 fxSz113 fxBy113 fxAg113 fxZe113 fxSl113 fxAr113 fxPl113 fxSz118 fxBy118 fxAg118 fxZe118 fxSl118 fxAr118 fxPl118 fxEq28 fxEq55 fxEq56 fxEq84 fxCv2x2 fxCv2x3 fxCv2x5 fxCv2x12 fxCv2x21 fxCv2x29 fxCv2x45 fxCv3x2 fxCv3x3 fxCv3x5 fxCv3x12 fxCv3x21 fxCv3x29 fxCv3x45 fxCv5x2 fxCv5x3 fxCv5x5 fxCv5x12 fxCv5x21 fxCv5x29 fxCv5x45 fxCv12x2 fxCv12x3 fxCv12x5 fxCv12x12 fxCv12x21 fxCv12x29 fxCv12x45 fxCv21x2 fxCv21x3 fxCv21x5 fxCv21x12 fxCv21x21 fxCv21x29 fxCv21x45 fxCv29x2 fxCv29x3 fxCv29x5 fxCv29x12 fxCv29x21 fxCv29x29 fxCv29x45 fxCv45x2 fxCv45x3 fxCv45x5 fxCv45x12 fxCv45x21 fxCv45x29 fxCv45x45 fxEb4 fxNb4 fxLt9 fxLn22 fxNe22 fxNn22 fxOe22 fxOn22 fxXe22 fxXn22 fxLn44 fxNe44 fxNn44 fxOe44 fxOn44 fxXe44 fxXn44 fxLn52 fxNe52 fxNn52 fxOe52 fxOn52 fxXe52 fxXn52 fxLn60 fxNe60 fxNn60 fxOe60 fxOn60 fxXe60 fxXn60 fxLn61 fxNe61 fxNn61 fxOe61 fxOn61 fxXe61 fxXn61 fxLn76 fxNe76 fxNn76 fxOe76 fxOn76 fxXe76 fxXn76 fxFn3 fxFm3 fxFb3 fxFi3 fxFj3 fxFn4 fxFm4 fxFb4 fxFi4 fxFj4 fxFn5 fxFm5 fxFb5 fxFi5 fxFj5 fxFn6 fxFm6 fxFb6 fxFi6 fxFj6 fxFn7 fxFm7 fxFb7 fxFi7 fxFj7 fxFn8 fxFm8 fxFb8 fxFi8 fxFj8 fxFn9 fxFm9 fxFb9 fxFi9 fxFj9 fxFn10 fxFm10 fxFb10 fxFi10 fxFj10 fxFn11 fxFm11 fxFb11 fxFi11 fxFj11 fxFn12 fxFm12 fxFb12 fxFi12 fxFj12 fxFn13 fxFm13 fxFb13 fxFi13 fxFj13 fxFn14 fxFm14 fxFb14 fxFi14 fxFj14 fxFn15 fxFm15 fxFb15 fxFi15 fxFj15 fxFn16 fxFm16 fxFb16 fxFi16 fxFj16 fxFn17 fxFm17 fxFb17 fxFi17 fxFj17 fxFn18 fxFm18 fxFb18 fxFi18 fxFj18 fxFn19 fxFm19 fxFb19 fxFi19 fxFj19 fxFn20 fxFm20 fxFb20 fxFi20 fxFj20 fxFn21 fxFm21 fxFb21 fxFi21 fxFj21 fxFn22 fxFm22 fxFb22 fxFi22 fxFj22 fxFn23 fxFm23 fxFb23 fxFi23 fxFj23 fxFn24 fxFm24 fxFb24 fxFi24 fxFj24 fxFn25 fxFm25 fxFb25 fxFi25 fxFj25 fxFn26 fxFm26 fxFb26 fxFi26 fxFj26 fxFn27 fxFm27 fxFb27 fxFi27 fxFj27 fxFn28 fxFm28 fxFb28 fxFi28 fxFj28 fxFn29 fxFm29 fxFb29 fxFi29 fxFj29 fxFn30 fxFm30 fxFb30 fxFi30 fxFj30 fxFn31 fxFm31 fxFb31 fxFi31 fxFj31 fxFn32 fxFm32 fxFb32 fxFi32 fxFj32 fxFn33 fxFm33 fxFb33 fxFi33 fxFj33 fxFn34 fxFm34 fxFb34 fxFi34 fxFj34 fxFn35 fxFm35 fxFb35 fxFi35 fxFj35 fxFn36 fxFm36 fxFb36 fxFi36 fxFj36 fxFn37 fxFm37 fxFb37 fxFi37 fxFj37 fxFn38 fxFm38 fxFb38 fxFi38 fxFj38 fxFn39 fxFm39 fxFb39 fxFi39 fxFj39 fxFn40 fxFm40 fxFb40 fxFi40 fxFj40 fxFn41 fxFm41 fxFb41 fxFi41 fxFj41 fxFn42 fxFm42 fxFb42 fxFi42 fxFj42 fxFn43 fxFm43 fxFb43 fxFi43 fxFj43 fxFn44 fxFm44 fxFb44 fxFi44 fxFj44 fxFn45 fxFm45 fxFb45 fxFi45 fxFj45 fxFn46 fxFm46 fxFb46 fxFi46 fxFj46 fxFn47 fxFm47 fxFb47 fxFi47 fxFj47 fxFn48 fxFm48 fxFb48 fxFi48 fxFj48 fxFn49 fxFm49 fxFb49 fxFi49 fxFj49 fxFn50 fxFm50 fxFb50 fxFi50 fxFj50 fxFn51 fxFm51 fxFb51 fxFi51 fxFj51 fxFn52 fxFm52 fxFb52 fxFi52 fxFj52 fxFn53 fxFm53 fxFb53 fxFi53 fxFj53 fxFn54 fxFm54 fxFb54 fxFi54 fxFj54 fxFn55 fxFm55 fxFb55 fxFi55 fxFj55 fxFn56 fxFm56 fxFb56 fxFi56 fxFj56 fxFn57 fxFm57 fxFb57 fxFi57 fxFj57 fxFn58 fxFm58 fxFb58 fxFi58 fxFj58 fxFn59 fxFm59 fxFb59 fxFi59 fxFj59 fxFn60 fxFm60 fxFb60 fxFi60 fxFj60
attribute [local simp] Entry.eta Entry.cold Entry.mapM Entry.mapMc Entry.view Entry.viewc Entry.hotR Entry.ren Entry.renc Entry.low Entry.tau Entry.tauc Entry.bare Entry.flat Entry.flat1 Entry.mapMt Entry.mapMd Entry.coldt Entry.coldd Entry.hotRt Entry.hotRd
structure Nd where
  huge : Bool
  ents : List Entry
  deriving DecidableEq
def ndDec : Row → Option Nd
  | [.v (.bool x0), a1] => match slDec rEnt a1 with | some x1 => some ⟨x0, x1⟩ | _ => none
  | _ => none
def Nd.row (e : Nd) : Row := [.v (.bool e.huge), .fsl false 7 (e.ents.map Entry.row)]
def Nd.hrow (e : Nd) : Row := [.v (.bool e.huge), .fsl true 7 (e.ents.map Entry.row)]
theorem Nd.eta (e : Nd) : Nd.mk e.huge e.ents = e := rfl
theorem Nd.dec_row (e : Nd) : ndDec e.row = some e := by
  have h1 := (cSl rEnt).de e.ents
  simp only [cSl] at h1
  simp only [ndDec, Nd.row]
  erw [h1]
theorem Nd.dec_hrow (e : Nd) : ndDec e.hrow = some e := Nd.dec_row e
def rNd : RCod Nd where
  sz := 2
  enc := Nd.row
  dec := ndDec
  de := Nd.dec_row
  len _ := rfl
  ok := by
    intro r e h β ok w n x hok hr
    unfold ndDec at h
    split at h
    · split at h
      · rename_i h1
        simp at h
        subst h
        refine ⟨rfl, fun j c hj => ?_⟩
        match j, hj with
        | 0, hj => simp [Nd.row] at hj; subst hj; exact hr 0 _ rfl
        | 1, hj => simp [Nd.row] at hj; subst hj; exact (cSl rEnt).ok h1 hok (hr 1 _ rfl)
        | j + 2, hj => simp [Nd.row] at hj
      · cases h
    · cases h
theorem Nd.cold (l : List Nd) : coldR (l.map Nd.row) = l.map Nd.row := by
  induction l with
  | nil => simp [coldR]
  | cons e l ih => simp [coldR, coldC, AI.cold, ih, Nd.row, Entry.cold, irow_cold]
theorem Nd.hcold (l : List Nd) : coldR (l.map Nd.hrow) = l.map Nd.row := by
  induction l with
  | nil => simp [coldR]
  | cons e l ih => simp [coldR, coldC, AI.cold, ih, Nd.row, Nd.hrow, Entry.cold, irow_cold]
theorem Nd.mapM (l : List Nd) : (l.map Nd.row).mapM ndDec = some l := mapM_dec rNd l
theorem Nd.mapMc (l : List Nd) : l.mapM (ndDec ∘ Nd.row) = some l := mapM_dec' rNd l
theorem Nd.hmapM (l : List Nd) : (l.map Nd.hrow).mapM ndDec = some l := by
  rw [List.mapM_map]
  have : ndDec ∘ Nd.hrow = ndDec ∘ Nd.row := by funext e; simp [Function.comp, Nd.dec_row, Nd.dec_hrow]
  rw [this]; exact Nd.mapMc l
theorem Nd.hmapMc (l : List Nd) : l.mapM (ndDec ∘ Nd.hrow) = some l := by
  have := Nd.hmapM l
  rwa [List.mapM_map] at this
theorem Nd.view (H : Heap) (n : Nat) (e : Nd) : List.map (AI.view H n) e.row = e.row := by cases n <;> simp [Nd.row, AI.view]
theorem Nd.viewc (H : Heap) (n : Nat) : List.map (AI.view H n) ∘ Nd.row = Nd.row := by funext e; exact Nd.view H n e
theorem Nd.hview (H : Heap) (n : Nat) (e : Nd) : List.map (AI.view H n) e.hrow = e.hrow := by cases n <;> simp [Nd.hrow, AI.view]
theorem Nd.hviewc (H : Heap) (n : Nat) : List.map (AI.view H n) ∘ Nd.hrow = Nd.hrow := by funext e; exact Nd.hview H n e
theorem Nd.hotR (l : List Nd) : AI.hotR (l.map Nd.hrow) = true := by
  induction l with
  | nil => simp [AI.hotR]
  | cons e l ih => simp [AI.hotR, hotC, hot, ih, Nd.hrow, Entry.hotR, irow_hotR]
theorem Nd.ren (n : Nat) (th : List Nat) (e : Nd) : List.map (AI.ren n th) e.row = e.row := by simp [Nd.row, AI.ren]
theorem Nd.renc (n : Nat) (th : List Nat) : List.map (AI.ren n th) ∘ Nd.row = Nd.row := by funext e; exact Nd.ren n th e
theorem Nd.low (n : Nat) (e : Nd) : e.row.all (lowA n) = true := by simp [Nd.row, lowA]
theorem Nd.hlow (n : Nat) (e : Nd) : e.hrow.all (lowA n) = true := by simp [Nd.hrow, lowA]
attribute [local simp] Nd.hlow Nd.eta Nd.dec_row Nd.dec_hrow Nd.cold Nd.hcold Nd.mapM Nd.mapMc Nd.hmapM Nd.hmapMc Nd.view Nd.viewc Nd.hview Nd.hviewc Nd.hotR Nd.ren Nd.renc Nd.low

structure Tb where
  l : List Nd
  h : l.length = 8
/-- rows of two cells, one behind the other -/
def fl : List Row → Row
  | [] => []
  | r :: rs => r ++ fl rs
theorem fl_len {rs : List Row} (h : ∀ r ∈ rs, r.length = 2) : (fl rs).length = rs.length * 2 := by
  induction rs with
  | nil => rfl
  | cons r rs ih =>
    have := h r List.mem_cons_self
    have := ih fun x hx => h x (List.mem_cons_of_mem _ hx)
    simp only [fl, List.length_append, List.length_cons]; omega
theorem fl_get {rs : List Row} (h : ∀ r ∈ rs, r.length = 2) : ∀ {k j : Nat} (hk : k < rs.length), j < 2 → (fl rs)[k * 2 + j]? = rs[k][j]? := by
  induction rs with
  | nil => intro k j hk; simp at hk
  | cons r rs ih =>
    intro k j hk hj
    have h1 := h r List.mem_cons_self
    cases k with
    | zero => simp only [fl, Nat.zero_mul, Nat.zero_add]; rw [List.getElem?_append_left (by omega)]; rfl
    | succ k =>
      simp only [fl]
      rw [List.getElem?_append_right (by omega)]
      have e : (k + 1) * 2 + j - r.length = k * 2 + j := by omega
      rw [e, ih (fun x hx => h x (List.mem_cons_of_mem _ hx)) (by simpa using hk) hj]
      simp
theorem fl_take {rs : List Row} (h : ∀ r ∈ rs, r.length = 2) {k : Nat} (hk : k < rs.length) : ((fl rs).drop (k * 2)).take 2 = rs[k] := by
  have hl := h _ (List.getElem_mem hk)
  have hf := fl_len h
  apply List.ext_getElem?
  intro j
  by_cases hj : j < 2
  · rw [List.getElem?_take_of_lt hj, List.getElem?_drop, fl_get h hk hj]
  · rw [List.getElem?_eq_none (by simp; omega), List.getElem?_eq_none (by omega)]
theorem fl_write {rs : List Row} (h : ∀ r ∈ rs, r.length = 2) : ∀ {k : Nat} {r : Row}, k < rs.length → r.length = 2 → writeAt (fl rs) (k * 2) r = fl (rs.set k r) := by
  intro k r hk hr
  have hf := fl_len h
  have h2 : ∀ x ∈ rs.set k r, x.length = 2 := fun x hx => by
    rcases List.mem_or_eq_of_mem_set hx with hx | rfl
    · exact h x hx
    · exact hr
  apply List.ext_getElem?
  intro i
  rw [writeAt_get _ _ _ (by omega)]
  by_cases hi : i < rs.length * 2
  · obtain ⟨q, j, rfl, hj⟩ : ∃ q j, i = q * 2 + j ∧ j < 2 := ⟨i / 2, i % 2, by omega, by omega⟩
    have hq : q < rs.length := by omega
    rw [fl_get h hq hj, fl_get h2 (by simpa using hq) hj]
    by_cases e : q = k
    · subst e
      rw [if_pos (by omega)]
      have : q * 2 + j - q * 2 = j := by omega
      rw [this]; simp
    · rw [if_neg (by omega), List.getElem_set_ne (fun x => e x.symm)]
  · rw [if_neg (by omega), List.getElem?_eq_none (by omega), List.getElem?_eq_none (by rw [fl_len h2]; simp; omega)]
theorem fl_write1 {rs : List Row} (h : ∀ r ∈ rs, r.length = 2) {k : Nat} {x : AVal} (hk : k < rs.length) : writeAt (fl rs) (k * 2 + 1) [x] = fl (rs.set k (rs[k].set 1 x)) := by
  have hf := fl_len h
  have hl := h _ (List.getElem_mem hk)
  have h2 : ∀ y ∈ rs.set k (rs[k].set 1 x), y.length = 2 := fun y hy => by
    rcases List.mem_or_eq_of_mem_set hy with hy | rfl
    · exact h y hy
    · simpa using hl
  apply List.ext_getElem?
  intro i
  rw [writeAt_get _ _ _ (by simp; omega)]
  by_cases hi : i < rs.length * 2
  · obtain ⟨q, j, rfl, hj⟩ : ∃ q j, i = q * 2 + j ∧ j < 2 := ⟨i / 2, i % 2, by omega, by omega⟩
    have hq : q < rs.length := by omega
    rw [fl_get h hq hj, fl_get h2 (by simpa using hq) hj]
    by_cases e : q = k
    · subst e
      rw [List.getElem_set_self]
      by_cases hj1 : j = 1
      · subst hj1
        rw [if_pos (by simp), List.getElem?_set_self (by omega)]
        simp
      · have : j = 0 := by omega
        subst this
        rw [if_neg (by simp; omega), List.getElem?_set_ne (by omega)]
    · rw [if_neg (by simp; omega), List.getElem_set_ne (fun y => e y.symm)]
  · rw [if_neg (by simp; omega), List.getElem?_eq_none (by omega), List.getElem?_eq_none (by rw [fl_len h2]; simp; omega)]
theorem nd_rows (l : List Nd) : ∀ r ∈ l.map Nd.row, r.length = 2 := by
  intro r hr
  obtain ⟨n, _, rfl⟩ := List.mem_map.1 hr
  rfl
theorem nd_hrows (l : List Nd) : ∀ r ∈ l.map Nd.hrow, r.length = 2 := by
  intro r hr
  obtain ⟨n, _, rfl⟩ := List.mem_map.1 hr
  rfl
def Tb.row (t : Tb) : Row := fl (t.l.map Nd.row)
def Tb.hrow (t : Tb) : Row := fl (t.l.map Nd.hrow)
def unfl : List AVal → Option (List Nd)
  | [] => some []
  | a :: b :: r => match ndDec [a, b], unfl r with | some n, some l => some (n :: l) | _, _ => none
  | _ => none
def tbDec (r : Row) : Option Tb := match unfl r with | some l => if h : l.length = 8 then some ⟨l, h⟩ else none | none => none
theorem unfl_row (l : List Nd) : unfl (fl (l.map Nd.row)) = some l := by
  induction l with
  | nil => rfl
  | cons n l ih =>
    have h : ndDec n.row = some n := Nd.dec_row n
    simp only [Nd.row] at h
    simp only [List.map_cons, fl, Nd.row, List.cons_append, List.nil_append, unfl, h]
    rw [ih]
theorem unfl_hrow (l : List Nd) : unfl (fl (l.map Nd.hrow)) = some l := by
  induction l with
  | nil => rfl
  | cons n l ih =>
    have h : ndDec n.hrow = some n := Nd.dec_hrow n
    simp only [Nd.hrow] at h
    simp only [List.map_cons, fl, Nd.hrow, List.cons_append, List.nil_append, unfl, h]
    rw [ih]
theorem Tb.dec_row (t : Tb) : tbDec t.row = some t := by
  obtain ⟨l, h⟩ := t
  simp [tbDec, Tb.row, unfl_row, h]
theorem Tb.dec_hrow (t : Tb) : tbDec t.hrow = some t := by
  obtain ⟨l, h⟩ := t
  simp [tbDec, Tb.hrow, unfl_hrow, h]
theorem unfl_ok : ∀ (r : Row) (l : List Nd), unfl r = some l → ∀ (β : Nat → Nat) (ok : Bool → Nat → Prop) (w : World) (n : Nat) (x : Nat → Value), (∀ o b, ok o b → ok false b) →
    (∀ (j : Nat) (c : AVal), r[j]? = some c → R β ok w n c (x j)) → r.length = l.length * 2 ∧ ∀ (j : Nat) (c : AVal), (fl (l.map Nd.row))[j]? = some c → R β ok w n c (x j)
  | [], l, h, β, ok, w, n, x, hok, hr => by
    simp [unfl] at h
    subst h
    exact ⟨rfl, fun j c hj => by simp [fl] at hj⟩
  | [_], l, h, _, _, _, _, _, _, _ => by simp [unfl] at h
  | a :: b :: r, l, h, β, ok, w, n, x, hok, hr => by
    simp only [unfl] at h
    split at h
    · rename_i nd l' hn hl
      simp at h
      subst h
      obtain ⟨_, h1⟩ := rNd.ok hn (β := β) (ok := ok) (w := w) (n := n) (x := x) hok (fun j c hj => by
        match j, hj with
        | 0, hj => exact hr 0 c (by simpa using hj)
        | 1, hj => exact hr 1 c (by simpa using hj)
        | j + 2, hj => simp at hj)
      obtain ⟨h2, h3⟩ := unfl_ok r l' hl β ok w n (fun j => x (j + 2)) hok (fun j c hj => hr (j + 2) c (by simpa using hj))
      refine ⟨by simp [h2]; omega, fun j c hj => ?_⟩
      match j, hj with
      | 0, hj => exact h1 0 c (by simpa [fl, Nd.row, rNd] using hj)
      | 1, hj => exact h1 1 c (by simpa [fl, Nd.row, rNd] using hj)
      | j + 2, hj => exact h3 j c (by simpa [fl, Nd.row] using hj)
    · cases h
def rTb : RCod Tb where
  sz := 16
  enc := Tb.row
  dec := tbDec
  de := Tb.dec_row
  len t := by rw [Tb.row, fl_len (nd_rows _), List.length_map, t.h]
  ok := by
    intro r e h β ok w n x hok hr
    unfold tbDec at h
    split at h
    · rename_i l hl
      split at h
      · rename_i h8
        simp at h
        subst h
        obtain ⟨h1, h2⟩ := unfl_ok r l hl β ok w n x hok hr
        exact ⟨by omega, h2⟩
      · cases h
    · cases h
theorem fl_view {H : Heap} {d : Nat} (l : List Nd) : (fl (l.map Nd.row)).map (view H d) = fl (l.map Nd.row) := by
  induction l with
  | nil => rfl
  | cons n l ih =>
    have := Nd.view H d n
    simp only [List.map_cons, fl, List.map_append, this, ih]
theorem fl_hview {H : Heap} {d : Nat} (l : List Nd) : (fl (l.map Nd.hrow)).map (view H d) = fl (l.map Nd.hrow) := by
  induction l with
  | nil => rfl
  | cons n l ih =>
    have := Nd.hview H d n
    simp only [List.map_cons, fl, List.map_append, this, ih]
theorem fl_cold (l : List Nd) : coldC (fl (l.map Nd.row)) = fl (l.map Nd.row) := by
  induction l with
  | nil => rfl
  | cons n l ih => simp [fl, Nd.row, coldC, AI.cold, Entry.cold] ; simpa [Nd.row] using ih
theorem fl_hcold (l : List Nd) : coldC (fl (l.map Nd.hrow)) = fl (l.map Nd.row) := by
  induction l with
  | nil => rfl
  | cons n l ih => simp [fl, Nd.row, Nd.hrow, coldC, AI.cold, Entry.cold] ; simpa [Nd.row, Nd.hrow] using ih
theorem fl_hot (l : List Nd) : hotC (fl (l.map Nd.hrow)) = true := by
  induction l with
  | nil => rfl
  | cons n l ih => simp [fl, Nd.hrow, hotC, hot, Entry.hotR] ; simpa [Nd.hrow] using ih
theorem fl_allV (n : Nd) (l : List Nd) : allV (fl ((n :: l).map Nd.row)) = none := by simp [fl, Nd.row, allV]
theorem fl_hallV (n : Nd) (l : List Nd) : allV (fl ((n :: l).map Nd.hrow)) = none := by simp [fl, Nd.hrow, allV]
end Go.Proofs.Ytdhpgdfjogklaaa
