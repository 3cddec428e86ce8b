/- Package twin: Check, New, Most; which frames are free. -/
import Derived.Test.YtjohjiphjmcolaaTwT
import Derived.Test.YtjohjiphjmcolaaAiZb
namespace Go.Proofs.Ytjohjiphjmcolaa
open Go.AI
set_option maxHeartbeats 2000000
set_option maxRecDepth 100000
set_option linter.unusedSimpArgs false
set_option linter.unusedVariables false
attribute [local simp] wpA wpX RunA RunD runF foot footP footB idsA bare apart runL step1 gsel_f gsel_t gsel_s res_same res_and1 res_and2 res_and3 res_and4 res_and5 res_and6 res_false res_true res_v res_ptr res_fptr res_osl res_xsl soft aAppendZ aCap ovlI ovlJ res_fsl res_esl res_agg res_tup res_fn res_junk res_anyb aPick hk imp_left iteV dstOk guardOk astep astepE AI.ev AI.look AI.put envOf aBox cellsOf allOne allOneA oneA Value.oneCell' Value.cells newObj' aFieldAddr aLoad obj readAt thenA blockA condA retA resA tupA view hot hotC hotR depthV cAgg cInt cBool mkAgg allV aAlloc aBuild fillA writeAt aStore isAggA aField idx aIndexAddr aIndex bnd aSlice aExtract aLen aBuiltin aCall isStatic eqAgg eqTy eqC ev_add ev_sub ev_mul ev_quo ev_rem ev_and ev_or ev_xor ev_andNot ev_shl ev_shr ev_eql ev_neq ev_lss ev_leq ev_gtr ev_geq ev_agg w64 wu32 wu8 ev_not ev_neg Cod.plain RCod.plain argM finM cold coldC coldR goInt intDec boolDec aggDec Weaker heapW lowA lowC Again slDec undef aBuildSlice setRows aAppend rowsOf aMakeSlice aClear aCopy softer_self softer_nil valsOf ev_min2 ev_max2 hotR_set hotR_append take_map_set irow_cold irow_mapM irow_mapMc irow_view irow_viewc irow_hotR irow_ren irow_renc irow_low WeakT heapT thOf ren renC AgainT NextF NextT fnDec cFn rNil selfLt natLt0 natLt1 getLastMap frame0 frame1 own0 own1 argG finG tau tauI tauO tauC bareA bareC bareH irow_tau irow_tauc irow_bare irow_flat irow_bareR ownA_nil ownT_nil ownA_c ownT_c ownA_s ownT_s takeMapLen footC plainA noId noIdC cloneF frame0F frame1F insertF replaceI replaceF cellDec rCell fpDec cFp rTwo deleteF RunR RunE runFT footAt hotR_cat tmodN fxSz2 fxBy2 fxAg2 fxZe2 fxSl2 fxAr2 fxPl2 fxSz3 fxBy3 fxAg3 fxZe3 fxSl3 fxAr3 fxPl3 fxSz4 fxBy4 fxAg4 fxZe4 fxSl4 fxAr4 fxPl4 fxSz5 fxBy5 fxAg5 fxZe5 fxSl5 fxAr5 fxPl5 fxSz9 fxBy9 fxAg9 fxZe9 fxSl9 fxAr9 fxPl9 fxSz12 fxBy12 fxAg12 fxZe12 fxSl12 fxAr12 fxPl12 fxSz13 fxBy13 fxAg13 fxZe13 fxSl13 fxAr13 fxFi13x0 fxFi13x1 fxPl13 fxSz21 fxBy21 fxAg21 fxZe21 fxSl21 fxAr21 fxPl21 fxSz22 fxBy22 fxAg22 fxZe22 fxSl22 fxAr22 fxPl22 fxSz23 fxBy23 fxAg23 fxZe23 fxSl23 fxAr23 fxFi23x0 fxFi23x1 fxFi23x2 fxPl23 fxSz24 fxBy24 fxAg24 fxZe24 fxSl24 fxAr24 fxFi24x0 fxFi24x1 fxFi24x2 fxPl24 fxSz25 fxBy25 fxAg25 fxZe25 fxSl25 fxAr25 fxPl25 fxSz42 fxBy42 fxAg42 fxZe42 fxSl42 fxAr42 fxPl42 fxSz43 fxBy43 fxAg43 fxZe43 fxSl43 fxAr43 fxFi43x0 fxFi43x1 fxPl43 fxSz44 fxBy44 fxAg44 fxZe44 fxSl44 fxAr44 fxFi44x0 fxFi44x1 fxPl44 fxSz48 fxBy48 fxAg48 fxZe48 fxSl48 fxAr48 fxFi48x0 fxFi48x1 fxPl48 fxSz49 fxBy49 fxAg49 fxZe49 fxSl49 fxAr49 fxFi49x0 fxFi49x1 fxPl49 fxSz53 fxBy53 fxAg53 fxZe53 fxSl53 fxAr53 fxPl53 fxSz59 fxBy59 fxAg59 fxZe59 fxSl59 fxAr59 fxPl59 fxSz68 fxBy68 fxAg68 fxZe68 fxSl68 fxAr68 fxPl68 fxSz85 fxBy85 fxAg85 fxZe85 fxSl85 fxAr85 fxPl85 fxSz91 fxBy91 fxAg91 fxZe91 fxSl91 fxAr91 fxPl91 fxSz92 fxBy92 fxAg92 fxZe92 fxSl92 fxAr92 fxFi92x0 fxPl92 fxSz95 fxBy95 fxAg95 fxZe95 fxSl95 fxAr95 fxPl95 fxSz99 fxBy99 fxAg99 fxZe99 fxSl99 fxAr99 fxPl99 fxSz104 fxBy104 fxAg104 fxZe104 fxSl104 fxAr104 fxPl104 fxEq24 fxEq49 fxEq53 fxCv2x2 fxCv2x3 fxCv2x5 fxCv2x12 fxCv2x21 fxCv2x25 fxCv2x95 fxCv3x2 fxCv3x3 fxCv3x5 fxCv3x12 fxCv3x21 fxCv3x25 fxCv3x95 fxCv5x2 fxCv5x3 fxCv5x5 fxCv5x12 fxCv5x21 fxCv5x25 fxCv5x95 fxCv12x2 fxCv12x3 fxCv12x5 fxCv12x12 fxCv12x21 fxCv12x25 fxCv12x95 fxCv21x2 fxCv21x3 fxCv21x5 fxCv21x12 fxCv21x21 fxCv21x25 fxCv21x95 fxCv25x2 fxCv25x3 fxCv25x5 fxCv25x12 fxCv25x21 fxCv25x25 fxCv25x95 fxCv95x2 fxCv95x3 fxCv95x5 fxCv95x12 fxCv95x21 fxCv95x25 fxCv95x95 fxEb4 fxNb4 fxLt9 fxLn22 fxNe22 fxNn22 fxLn42 fxNe42 fxNn42 fxLn59 fxNe59 fxNn59 fxLn68 fxNe68 fxNn68 fxFn3 fxFm3 fxFb3 fxFi3 fxFj3 fxFn4 fxFm4 fxFb4 fxFi4 fxFj4 fxFn5 fxFm5 fxFb5 fxFi5 fxFj5 fxFn6 fxFm6 fxFb6 fxFi6 fxFj6 fxFn7 fxFm7 fxFb7 fxFi7 fxFj7 fxFn8 fxFm8 fxFb8 fxFi8 fxFj8 fxFn9 fxFm9 fxFb9 fxFi9 fxFj9 fxFn10 fxFm10 fxFb10 fxFi10 fxFj10 fxFn11 fxFm11 fxFb11 fxFi11 fxFj11 fxFn12 fxFm12 fxFb12 fxFi12 fxFj12 fxFn13 fxFm13 fxFb13 fxFi13 fxFj13 fxFn14 fxFm14 fxFb14 fxFi14 fxFj14 fxFn15 fxFm15 fxFb15 fxFi15 fxFj15 fxFn16 fxFm16 fxFb16 fxFi16 fxFj16 fxFn17 fxFm17 fxFb17 fxFi17 fxFj17 fxFn18 fxFm18 fxFb18 fxFi18 fxFj18 fxFn19 fxFm19 fxFb19 fxFi19 fxFj19 fxFn20 fxFm20 fxFb20 fxFi20 fxFj20 fxFn21 fxFm21 fxFb21 fxFi21 fxFj21 fxFn22 fxFm22 fxFb22 fxFi22 fxFj22 fxFn23 fxFm23 fxFb23 fxFi23 fxFj23 fxFn24 fxFm24 fxFb24 fxFi24 fxFj24 fxFn25 fxFm25 fxFb25 fxFi25 fxFj25 fxFn26 fxFm26 fxFb26 fxFi26 fxFj26 fxFn27 fxFm27 fxFb27 fxFi27 fxFj27 fxFn28 fxFm28 fxFb28 fxFi28 fxFj28 fxFn29 fxFm29 fxFb29 fxFi29 fxFj29 fxFn30 fxFm30 fxFb30 fxFi30 fxFj30 fxFn31 fxFm31 fxFb31 fxFi31 fxFj31 fxFn32 fxFm32 fxFb32 fxFi32 fxFj32 fxFn33 fxFm33 fxFb33 fxFi33 fxFj33 fxFn34 fxFm34 fxFb34 fxFi34 fxFj34 fxFn35 fxFm35 fxFb35 fxFi35 fxFj35 fxFn36 fxFm36 fxFb36 fxFi36 fxFj36 fxFn37 fxFm37 fxFb37 fxFi37 fxFj37 fxFn38 fxFm38 fxFb38 fxFi38 fxFj38 fxFn39 fxFm39 fxFb39 fxFi39 fxFj39 fxFn40 fxFm40 fxFb40 fxFi40 fxFj40 fxFn41 fxFm41 fxFb41 fxFi41 fxFj41 fxFn42 fxFm42 fxFb42 fxFi42 fxFj42 fxFn43 fxFm43 fxFb43 fxFi43 fxFj43 fxFn44 fxFm44 fxFb44 fxFi44 fxFj44 fxFn45 fxFm45 fxFb45 fxFi45 fxFj45 fxFn46 fxFm46 fxFb46 fxFi46 fxFj46 fxFn47 fxFm47 fxFb47 fxFi47 fxFj47 fxFn48 fxFm48 fxFb48 fxFi48 fxFj48 fxFn49 fxFm49 fxFb49 fxFi49 fxFj49 fxFn50 fxFm50 fxFn51 fxFm51 fxFb51 fxFi51 fxFj51 fxFn52 fxFm52 fxFb52 fxFi52 fxFj52 fxFn53 fxFm53 fxFn54 fxFm54 fxFb54 fxFi54 fxFj54 fxFn55 fxFm55 fxFb55 fxFi55 fxFj55 fxFn56 fxFm56 fxFb56 fxFi56 fxFj56 fxFn57 fxFm57 fxFb57 fxFi57 fxFj57 fxFn58 fxFm58 fxFb58 fxFi58 fxFj58
attribute [local simp] Rm.eta Rm.cold Rm.mapM Rm.mapMc Rm.view Rm.viewc Rm.hotR Rm.ren Rm.renc Rm.low Rm.tau Rm.tauc Rm.bare Rm.flat Rm.flat1 Rm.mapMt Rm.mapMd Rm.coldt Rm.coldd Rm.hotRt Rm.hotRd
structure Twn where
  order : Int
  free : List Rm
  deriving DecidableEq
def twnDec : Row → Option Twn
  | [.v (.int .i64 x0), a1] => match slDec rRm a1 with | some x1 => some ⟨x0, x1⟩ | _ => none
  | _ => none
def Twn.row (e : Twn) : Row := [.v (.int .i64 e.order), .fsl false 2 (e.free.map Rm.row)]
def Twn.hrow (e : Twn) : Row := [.v (.int .i64 e.order), .fsl true 2 (e.free.map Rm.row)]
theorem Twn.eta (e : Twn) : Twn.mk e.order e.free = e := rfl
theorem Twn.dec_row (e : Twn) : twnDec e.row = some e := by
  have h1 := (cSl rRm).de e.free
  simp only [cSl] at h1
  simp only [twnDec, Twn.row]
  erw [h1]
theorem Twn.dec_hrow (e : Twn) : twnDec e.hrow = some e := Twn.dec_row e
def rTwn : RCod Twn where
  sz := 2
  enc := Twn.row
  dec := twnDec
  de := Twn.dec_row
  len _ := rfl
  ok := by
    intro r e h β ok w n x hok hr
    unfold twnDec at h
    split at h
    · split at h
      · rename_i h1
        simp at h
        subst h
        refine ⟨rfl, fun j c hj => ?_⟩
        match j, hj with
        | 0, hj => simp [Twn.row] at hj; subst hj; exact hr 0 _ rfl
        | 1, hj => simp [Twn.row] at hj; subst hj; exact (cSl rRm).ok h1 hok (hr 1 _ rfl)
        | j + 2, hj => simp [Twn.row] at hj
      · cases h
    · cases h
theorem Twn.cold (l : List Twn) : coldR (l.map Twn.row) = l.map Twn.row := by
  induction l with
  | nil => simp [coldR]
  | cons e l ih => simp [coldR, coldC, AI.cold, ih, Twn.row, Rm.cold, irow_cold]
theorem Twn.hcold (l : List Twn) : coldR (l.map Twn.hrow) = l.map Twn.row := by
  induction l with
  | nil => simp [coldR]
  | cons e l ih => simp [coldR, coldC, AI.cold, ih, Twn.row, Twn.hrow, Rm.cold, irow_cold]
theorem Twn.mapM (l : List Twn) : (l.map Twn.row).mapM twnDec = some l := mapM_dec rTwn l
theorem Twn.mapMc (l : List Twn) : l.mapM (twnDec ∘ Twn.row) = some l := mapM_dec' rTwn l
theorem Twn.hmapM (l : List Twn) : (l.map Twn.hrow).mapM twnDec = some l := by
  rw [List.mapM_map]
  have : twnDec ∘ Twn.hrow = twnDec ∘ Twn.row := by funext e; simp [Function.comp, Twn.dec_row, Twn.dec_hrow]
  rw [this]; exact Twn.mapMc l
theorem Twn.hmapMc (l : List Twn) : l.mapM (twnDec ∘ Twn.hrow) = some l := by
  have := Twn.hmapM l
  rwa [List.mapM_map] at this
theorem Twn.view (H : Heap) (n : Nat) (e : Twn) : List.map (AI.view H n) e.row = e.row := by cases n <;> simp [Twn.row, AI.view]
theorem Twn.viewc (H : Heap) (n : Nat) : List.map (AI.view H n) ∘ Twn.row = Twn.row := by funext e; exact Twn.view H n e
theorem Twn.hview (H : Heap) (n : Nat) (e : Twn) : List.map (AI.view H n) e.hrow = e.hrow := by cases n <;> simp [Twn.hrow, AI.view]
theorem Twn.hviewc (H : Heap) (n : Nat) : List.map (AI.view H n) ∘ Twn.hrow = Twn.hrow := by funext e; exact Twn.hview H n e
theorem Twn.hotR (l : List Twn) : AI.hotR (l.map Twn.hrow) = true := by
  induction l with
  | nil => simp [AI.hotR]
  | cons e l ih => simp [AI.hotR, hotC, hot, ih, Twn.hrow, Rm.hotR, irow_hotR]
theorem Twn.ren (n : Nat) (th : List Nat) (e : Twn) : List.map (AI.ren n th) e.row = e.row := by simp [Twn.row, AI.ren]
theorem Twn.renc (n : Nat) (th : List Nat) : List.map (AI.ren n th) ∘ Twn.row = Twn.row := by funext e; exact Twn.ren n th e
theorem Twn.low (n : Nat) (e : Twn) : e.row.all (lowA n) = true := by simp [Twn.row, lowA]
attribute [local simp] Twn.eta Twn.dec_row Twn.dec_hrow Twn.cold Twn.hcold Twn.mapM Twn.mapMc Twn.hmapM Twn.hmapMc Twn.view Twn.viewc Twn.hview Twn.hviewc Twn.hotR Twn.ren Twn.renc Twn.low

theorem ishl_pw {o : Int} (h0 : 0 ≤ o) (h6 : o ≤ 6) : ishl .i64 1 o = pw o := by
  rcases pw6 h0 h6 with rfl | rfl | rfl | rfl | rfl | rfl | rfl <;> decide +kernel
def twBud (a b : Rm) : Bool := a.order == b.order && ixor .i64 a.at_ b.at_ == ishl .i64 1 a.order
theorem xor_tab : ∀ o : Fin 7, ∀ a b : Fin 64, (2 ^ o.val ∣ a.val) → (2 ^ o.val ∣ b.val) →
    (ixor .i64 (a.val : Int) (b.val : Int) = ((2 ^ o.val : Nat) : Int) ↔ ((b.val = a.val + 2 ^ o.val ∧ 2 ^ (o.val + 1) ∣ a.val) ∨ (a.val = b.val + 2 ^ o.val ∧ 2 ^ (o.val + 1) ∣ b.val))) := by
  decide +kernel
theorem pw_nat (o : Int) : pw o = ((2 ^ o.toNat : Nat) : Int) := by unfold pw; simp
theorem bud_nat {o a b : Nat} (ho : o < 7) (ha : a < 64) (hb : b < 64) (d1 : 2 ^ o ∣ a) (d2 : 2 ^ o ∣ b) :
    (ixor .i64 (a : Int) (b : Int) = ((2 ^ o : Nat) : Int) ↔ ((b = a + 2 ^ o ∧ 2 ^ (o + 1) ∣ a) ∨ (a = b + 2 ^ o ∧ 2 ^ (o + 1) ∣ b))) := xor_tab ⟨o, ho⟩ ⟨a, ha⟩ ⟨b, hb⟩ d1 d2
theorem bud_key {o a b : Int} (o0 : 0 ≤ o) (o6 : o ≤ 6) (a0 : 0 ≤ a) (a6 : a < 64) (b0 : 0 ≤ b) (b6 : b < 64) (d1 : pw o ∣ a) (d2 : pw o ∣ b) :
    (ixor .i64 a b = pw o ↔ ((b = a + pw o ∧ pw (o + 1) ∣ a) ∨ (a = b + pw o ∧ pw (o + 1) ∣ b))) := by
  obtain ⟨o, rfl⟩ := Int.eq_ofNat_of_zero_le o0
  obtain ⟨a, rfl⟩ := Int.eq_ofNat_of_zero_le a0
  obtain ⟨b, rfl⟩ := Int.eq_ofNat_of_zero_le b0
  have e1 : pw (o : Int) = ((2 ^ o : Nat) : Int) := by rw [pw_nat]; simp
  have e2 : pw ((o : Int) + 1) = ((2 ^ (o + 1) : Nat) : Int) := by rw [pw_nat, show ((o : Int) + 1).toNat = o + 1 by omega]
  rw [e1] at d1 d2 ⊢
  rw [e2]
  rw [bud_nat (by omega) (by omega) (by omega) (Int.natCast_dvd_natCast.1 d1) (Int.natCast_dvd_natCast.1 d2)]
  rw [Int.natCast_dvd_natCast, Int.natCast_dvd_natCast, ← Int.natCast_add, ← Int.natCast_add, Int.natCast_inj, Int.natCast_inj]
theorem twBud_iff {N : Int} (hN : N ≤ 6) {x r : Rm} (hx : Fit N x) (hr : Fit N r) : twBud x r = true ↔ Bud x r := by
  obtain ⟨x1, x2, x3, x4, x5⟩ := hx
  obtain ⟨r1, r2, r3, r4, r5⟩ := hr
  have p1 := pw_pos x.order
  have p2 := pw_pos r.order
  have p3 := pw_le64 hN
  unfold twBud Bud
  rw [ishl_pw x1 (by omega)]
  simp only [Rm.end_] at *
  simp only [Bool.and_eq_true, beq_iff_eq]
  by_cases h1 : x.order = r.order
  · simp only [h1, true_and]
    rw [h1] at x5
    exact bud_key r1 (by omega) x3 (by omega) r3 (by omega) x5 r5
  · simp [h1]
/-- Check, room by room -/
def twOne (N e : Int) (p : Option Rm) (r : Rm) : Prop := 0 ≤ r.order ∧ r.order ≤ N ∧ e ≤ r.at_ ∧ r.at_ ≤ pw N - pw r.order ∧ r.at_.tmod (pw r.order) = 0 ∧ ∀ b, p = some b → twBud b r = false
instance (N e : Int) (p : Option Rm) (r : Rm) : Decidable (twOne N e p r) := by
  unfold twOne
  cases p with
  | none => exact decidable_of_iff (0 ≤ r.order ∧ r.order ≤ N ∧ e ≤ r.at_ ∧ r.at_ ≤ pw N - pw r.order ∧ r.at_.tmod (pw r.order) = 0) (by simp)
  | some b => exact decidable_of_iff (0 ≤ r.order ∧ r.order ≤ N ∧ e ≤ r.at_ ∧ r.at_ ≤ pw N - pw r.order ∧ r.at_.tmod (pw r.order) = 0 ∧ twBud b r = false) (by simp)
def twGo (N : Int) : Int → Option Rm → List Rm → Bool
  | _, _, [] => true
  | e, p, r :: l => decide (twOne N e p r) && twGo N r.end_ (some r) l
def twCheck (t : Twn) : Int := if t.order < 0 ∨ 6 < t.order then 1 else if twGo t.order 0 none t.free = true then 0 else 3
theorem tmod_dvd {a b : Int} : a.tmod b = 0 ↔ b ∣ a := ⟨Int.dvd_of_tmod_eq_zero, Int.tmod_eq_zero_of_dvd⟩
theorem twGo_iff {N : Int} (hN : N ≤ 6) : ∀ (l : List Rm) (e : Int) (p : Option Rm), 0 ≤ e → (∀ b, p = some b → Fit N b ∧ b.end_ = e) → (twGo N e p l = true ↔ Okl N l ∧ (∀ r ∈ l, e ≤ r.at_) ∧ ∀ b, p = some b → ∀ r ∈ l, Tw b r) := by
  intro l
  induction l with
  | nil => intro e p he hp; simp [twGo, Okl]
  | cons r l ih =>
    intro e p he hp
    have hfit : twOne N e p r ↔ Fit N r ∧ e ≤ r.at_ ∧ ∀ b, p = some b → twBud b r = false := by
      unfold twOne Fit
      simp only [Rm.end_, tmod_dvd]
      constructor
      · rintro ⟨h1, h2, h3, h4, h5, h6⟩; exact ⟨⟨h1, h2, by omega, by omega, h5⟩, h3, h6⟩
      · rintro ⟨⟨h1, h2, h3, h4, h5⟩, h6, h7⟩; exact ⟨h1, h2, h6, by omega, h5, h7⟩
    simp only [twGo, Bool.and_eq_true, decide_eq_true_eq, hfit]
    constructor
    · rintro ⟨⟨f, h2, h3⟩, h4⟩
      have fl := f.lt
      obtain ⟨i1, i2, i3⟩ := (ih r.end_ (some r) (by have := f.2.2.1; omega) (by rintro b hb; simp at hb; subst hb; exact ⟨f, rfl⟩)).1 h4
      refine ⟨okl_cons.2 ⟨f, i3 r rfl, i1⟩, ?_, ?_⟩
      · intro x hx
        rcases List.mem_cons.1 hx with rfl | hx
        · exact h2
        · have := i2 x hx; omega
      · intro b hb x hx
        obtain ⟨fb, eb⟩ := hp b hb
        rcases List.mem_cons.1 hx with rfl | hx
        · refine ⟨by omega, fun hbud => ?_⟩
          have := h3 b hb
          rw [(twBud_iff hN fb f).2 hbud] at this
          cases this
        · have h5 := i2 x hx
          refine ⟨by omega, fun hbud => ?_⟩
          have fx := i1.1 x hx
          obtain ⟨g1, ⟨g2, _⟩ | ⟨g2, _⟩⟩ := hbud
          · omega
          · have := fb.lt; have := fx.lt; omega
    · rintro ⟨h1, h2, h3⟩
      obtain ⟨f, t, ok⟩ := okl_cons.1 h1
      refine ⟨⟨f, h2 r (by simp), fun b hb => ?_⟩, (ih r.end_ (some r) (by have := f.lt; have := f.2.2.1; omega) (by rintro b hb; simp at hb; subst hb; exact ⟨f, rfl⟩)).2 ⟨ok, fun x hx => (t x hx).1, by rintro b hb; simp at hb; subst hb; exact t⟩⟩
      have := (h3 b hb r (by simp)).2
      rw [← twBud_iff hN (hp b hb).1 f] at this
      simpa using this
theorem twCheck_ok {t : Twn} : twCheck t = 0 ↔ 0 ≤ t.order ∧ t.order ≤ 6 ∧ Okl t.order t.free := by
  unfold twCheck
  split
  · rename_i h; simp; omega
  · rename_i h
    have := twGo_iff (N := t.order) (by omega) t.free 0 none (by omega) (by simp)
    split
    · rename_i h2
      simp
      exact ⟨by omega, by omega, (this.1 h2).1⟩
    · rename_i h2
      simp
      intro h3 h4 h5
      exact h2 (this.2 ⟨h5, fun r hr => (h5.1 r hr).2.2.1, by simp⟩)
theorem okl_len {N : Int} (hN : N ≤ 6) {l : List Rm} (h : Okl N l) : l.length ≤ 64 := by
  have key : ∀ (l : List Rm) (e : Int), Okl N l → (∀ r ∈ l, e ≤ r.at_) → 0 ≤ e → e ≤ pw N → (l.length : Int) ≤ pw N - e := by
    intro l
    induction l with
    | nil => intro e _ _ _ h; simp; omega
    | cons r l ih =>
      intro e h1 h2 h3 h4
      obtain ⟨f, t, ok⟩ := okl_cons.1 h1
      have := ih r.end_ ok (fun x hx => (t x hx).1) (by have := f.lt; have := f.2.2.1; omega) f.2.2.2.1
      have := f.lt
      have := h2 r (by simp)
      simp; omega
  have := key l 0 h (fun r hr => (h.1 r hr).2.2.1) (by omega) (by have := pw_pos N; omega)
  have := pw_le64 hN
  omega
end Go.Proofs.Ytjohjiphjmcolaa
