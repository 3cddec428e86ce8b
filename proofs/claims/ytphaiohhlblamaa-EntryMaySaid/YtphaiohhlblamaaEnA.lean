/- Package entry: what its functions answer, at every argument. -/
import Derived.Test.YtphaiohhlblamaaFacts
namespace Go.Proofs.Ytphaiohhlblamaa
open Go.AI
set_option maxHeartbeats 2000000
set_option maxRecDepth 100000
set_option linter.unusedSimpArgs false
set_option linter.unusedVariables false
attribute [local simp] wpA wpX RunA RunD runF foot footP footB idsA bare apart runL step1 gsel_f gsel_t gsel_s res_same res_and1 res_and2 res_and3 res_and4 res_and5 res_and6 res_false res_true res_v res_ptr res_fptr res_osl res_xsl soft aAppendZ aCap ovlI ovlJ res_fsl res_esl res_agg res_tup res_fn res_junk res_anyb aPick hk imp_left iteV dstOk guardOk astep astepE AI.ev AI.look AI.put envOf aBox cellsOf allOne allOneA oneA Value.oneCell' Value.cells newObj' aFieldAddr aLoad obj readAt thenA blockA condA retA resA tupA view hot hotC hotR depthV cAgg cInt cBool mkAgg allV aAlloc aBuild fillA writeAt aStore isAggA aField idx aIndexAddr aIndex bnd aSlice aExtract aLen aBuiltin aCall isStatic eqAgg eqTy eqC ev_add ev_sub ev_mul ev_quo ev_rem ev_and ev_or ev_xor ev_andNot ev_shl ev_shr ev_eql ev_neq ev_lss ev_leq ev_gtr ev_geq ev_agg w64 wu32 wu8 ev_not ev_neg Cod.plain RCod.plain argM finM cold coldC coldR goInt intDec boolDec aggDec Weaker heapW lowA lowC Again slDec undef aBuildSlice setRows aAppend rowsOf aMakeSlice aClear aCopy softer_self softer_nil valsOf ev_min2 ev_max2 hotR_set hotR_append take_map_set irow_cold irow_mapM irow_mapMc irow_view irow_viewc irow_hotR irow_ren irow_renc irow_low WeakT heapT thOf ren renC AgainT NextF NextT fnDec cFn rNil selfLt natLt0 natLt1 getLastMap frame0 frame1 own0 own1 argG finG tau tauI tauO tauC bareA bareC bareH irow_tau irow_tauc irow_bare irow_flat irow_bareR ownA_nil ownT_nil ownA_c ownT_c ownA_s ownT_s takeMapLen footC plainA noId noIdC cloneF frame0F frame1F insertF replaceI replaceF cellDec rCell fpDec cFp rTwo deleteF RunR RunE runFT footAt hotR_cat tmodN fxSz2 fxBy2 fxAg2 fxZe2 fxSl2 fxAr2 fxPl2 fxSz3 fxBy3 fxAg3 fxZe3 fxSl3 fxAr3 fxPl3 fxSz4 fxBy4 fxAg4 fxZe4 fxSl4 fxAr4 fxPl4 fxSz5 fxBy5 fxAg5 fxZe5 fxSl5 fxAr5 fxPl5 fxSz9 fxBy9 fxAg9 fxZe9 fxSl9 fxAr9 fxPl9 fxSz12 fxBy12 fxAg12 fxZe12 fxSl12 fxAr12 fxPl12 fxSz13 fxBy13 fxAg13 fxZe13 fxSl13 fxAr13 fxFi13x0 fxFi13x1 fxPl13 fxSz21 fxBy21 fxAg21 fxZe21 fxSl21 fxAr21 fxPl21 fxSz22 fxBy22 fxAg22 fxZe22 fxSl22 fxAr22 fxFi22x0 fxFi22x1 fxFi22x2 fxFi22x3 fxFi22x4 fxFi22x5 fxFi22x6 fxPl22 fxSz23 fxBy23 fxAg23 fxZe23 fxSl23 fxAr23 fxFi23x0 fxFi23x1 fxFi23x2 fxFi23x3 fxFi23x4 fxFi23x5 fxFi23x6 fxPl23 fxSz24 fxBy24 fxAg24 fxZe24 fxSl24 fxAr24 fxPl24 fxSz25 fxBy25 fxAg25 fxZe25 fxSl25 fxAr25 fxPl25 fxSz35 fxBy35 fxAg35 fxZe35 fxSl35 fxAr35 fxPl35 fxSz38 fxBy38 fxAg38 fxZe38 fxSl38 fxAr38 fxFi38x0 fxFi38x1 fxFi38x2 fxPl38 fxSz39 fxBy39 fxAg39 fxZe39 fxSl39 fxAr39 fxFi39x0 fxFi39x1 fxFi39x2 fxPl39 fxSz45 fxBy45 fxAg45 fxZe45 fxSl45 fxAr45 fxPl45 fxSz54 fxBy54 fxAg54 fxZe54 fxSl54 fxAr54 fxPl54 fxSz55 fxBy55 fxAg55 fxZe55 fxSl55 fxAr55 fxFi55x0 fxFi55x1 fxPl55 fxSz56 fxBy56 fxAg56 fxZe56 fxSl56 fxAr56 fxPl56 fxSz65 fxBy65 fxAg65 fxZe65 fxSl65 fxAr65 fxPl65 fxSz66 fxBy66 fxAg66 fxZe66 fxSl66 fxAr66 fxFi66x0 fxPl66 fxSz72 fxBy72 fxAg72 fxZe72 fxSl72 fxAr72 fxPl72 fxSz77 fxBy77 fxAg77 fxZe77 fxSl77 fxAr77 fxPl77 fxEq23 fxEq39 fxEq55 fxEq56 fxCv2x2 fxCv2x3 fxCv2x5 fxCv2x12 fxCv2x21 fxCv2x24 fxCv2x25 fxCv2x54 fxCv3x2 fxCv3x3 fxCv3x5 fxCv3x12 fxCv3x21 fxCv3x24 fxCv3x25 fxCv3x54 fxCv5x2 fxCv5x3 fxCv5x5 fxCv5x12 fxCv5x21 fxCv5x24 fxCv5x25 fxCv5x54 fxCv12x2 fxCv12x3 fxCv12x5 fxCv12x12 fxCv12x21 fxCv12x24 fxCv12x25 fxCv12x54 fxCv21x2 fxCv21x3 fxCv21x5 fxCv21x12 fxCv21x21 fxCv21x24 fxCv21x25 fxCv21x54 fxCv24x2 fxCv24x3 fxCv24x5 fxCv24x12 fxCv24x21 fxCv24x24 fxCv24x25 fxCv24x54 fxCv25x2 fxCv25x3 fxCv25x5 fxCv25x12 fxCv25x21 fxCv25x24 fxCv25x25 fxCv25x54 fxCv54x2 fxCv54x3 fxCv54x5 fxCv54x12 fxCv54x21 fxCv54x24 fxCv54x25 fxCv54x54 fxEb4 fxNb4 fxLt9 fxLn35 fxNe35 fxNn35 fxOe35 fxOn35 fxXe35 fxXn35 fxLn45 fxNe45 fxNn45 fxOe45 fxOn45 fxXe45 fxXn45 fxFn3 fxFm3 fxFb3 fxFi3 fxFj3 fxFn4 fxFm4 fxFb4 fxFi4 fxFj4 fxFn5 fxFm5 fxFb5 fxFi5 fxFj5 fxFn6 fxFm6 fxFb6 fxFi6 fxFj6 fxFn7 fxFm7 fxFb7 fxFi7 fxFj7 fxFn8 fxFm8 fxFb8 fxFi8 fxFj8 fxFn9 fxFm9 fxFb9 fxFi9 fxFj9 fxFn10 fxFm10 fxFb10 fxFi10 fxFj10 fxFn11 fxFm11 fxFb11 fxFi11 fxFj11 fxFn12 fxFm12 fxFb12 fxFi12 fxFj12 fxFn13 fxFm13 fxFb13 fxFi13 fxFj13 fxFn14 fxFm14 fxFb14 fxFi14 fxFj14 fxFn15 fxFm15 fxFb15 fxFi15 fxFj15 fxFn16 fxFm16 fxFb16 fxFi16 fxFj16 fxFn17 fxFm17 fxFb17 fxFi17 fxFj17 fxFn18 fxFm18 fxFb18 fxFi18 fxFj18 fxFn19 fxFm19 fxFb19 fxFi19 fxFj19 fxFn20 fxFm20 fxFb20 fxFi20 fxFj20 fxFn21 fxFm21 fxFb21 fxFi21 fxFj21 fxFn22 fxFm22 fxFb22 fxFi22 fxFj22 fxFn23 fxFm23 fxFb23 fxFi23 fxFj23 fxFn24 fxFm24 fxFb24 fxFi24 fxFj24 fxFn25 fxFm25 fxFb25 fxFi25 fxFj25 fxFn26 fxFm26 fxFb26 fxFi26 fxFj26 fxFn27 fxFm27 fxFb27 fxFi27 fxFj27
structure Entry where
  here : Bool
  slot : Bool
  at_ : Int
  rights : Int
  used : Bool
  dirty : Bool
  copy : Bool
  deriving DecidableEq
def entDec : Row → Option Entry
  | [.v (.bool x0), .v (.bool x1), .v (.int .i64 x2), .v (.int .i64 x3), .v (.bool x4), .v (.bool x5), .v (.bool x6)] => some ⟨x0, x1, x2, x3, x4, x5, x6⟩
  | _ => none
def Entry.row (e : Entry) : Row := [.v (.bool e.here), .v (.bool e.slot), .v (.int .i64 e.at_), .v (.int .i64 e.rights), .v (.bool e.used), .v (.bool e.dirty), .v (.bool e.copy)]
def rEnt : RCod Entry := RCod.plain 7 Entry.row entDec
  (fun e => rfl) (fun _ => rfl) (fun r e h => by
    unfold entDec at h
    split at h
    · simp at h; subst h; rfl
    · cases h)
def Entry.val (e : Entry) : Value := .agg #[.bool e.here, .bool e.slot, .int .i64 e.at_, .int .i64 e.rights, .bool e.used, .bool e.dirty, .bool e.copy]
theorem Entry.eta (e : Entry) : Entry.mk e.here e.slot e.at_ e.rights e.used e.dirty e.copy = e := rfl
attribute [local simp] Entry.eta
theorem Entry.cold (l : List Entry) : coldR (l.map Entry.row) = l.map Entry.row := by
  induction l with
  | nil => simp [coldR]
  | cons e l ih => simp [coldR, coldC, AI.cold, ih, Entry.row]
theorem Entry.mapM (l : List Entry) : (l.map Entry.row).mapM entDec = some l := mapM_dec rEnt l
theorem Entry.mapMc (l : List Entry) : l.mapM (entDec ∘ Entry.row) = some l := mapM_dec' rEnt l
theorem Entry.view (H : Heap) (n : Nat) (e : Entry) : List.map (AI.view H n) e.row = e.row := by cases n <;> simp [Entry.row, AI.view]
theorem Entry.viewc (H : Heap) (n : Nat) : List.map (AI.view H n) ∘ Entry.row = Entry.row := by funext e; exact Entry.view H n e
theorem Entry.hotR (l : List Entry) : AI.hotR (l.map Entry.row) = true := by
  induction l with
  | nil => simp [AI.hotR]
  | cons e l ih => simp [AI.hotR, hotC, hot, ih, Entry.row]
theorem Entry.ren (n : Nat) (th : List Nat) (e : Entry) : List.map (AI.ren n th) e.row = e.row := by simp [Entry.row, AI.ren]
theorem Entry.renc (n : Nat) (th : List Nat) : List.map (AI.ren n th) ∘ Entry.row = Entry.row := by funext e; exact Entry.ren n th e
theorem Entry.low (n : Nat) (e : Entry) : e.row.all (lowA n) = true := by simp [Entry.row, lowA]
theorem Entry.tau (fp : List Nat) (n : Nat) (e : Entry) : List.map (AI.tau fp n) e.row = e.row := by simp [Entry.row, AI.tau]
theorem Entry.tauc (fp : List Nat) (n : Nat) : List.map (AI.tau fp n) ∘ Entry.row = Entry.row := by funext e; exact Entry.tau fp n e
theorem Entry.bare (e : Entry) : e.row.all bareA = true := by simp [Entry.row, bareA]
theorem Entry.flat (l : List Entry) : flat0 (l.map Entry.row) = true := by simp [flat0, Entry.low]
theorem Entry.flat1 (e : Entry) : flat0 [e.row] = true := by simp [flat0, Entry.low]
theorem Entry.exact : Exact rEnt := by
  intro r e h
  simp only [rEnt, RCod.plain] at h ⊢
  unfold entDec at h
  split at h
  · simp at h; subst h; rfl
  · cases h
theorem Entry.mapMt (k : Nat) (l : List Entry) : (List.take k (l.map Entry.row)).mapM entDec = some (l.take k) := by rw [← List.map_take]; exact mapM_dec rEnt _
theorem Entry.mapMd (k : Nat) (l : List Entry) : (List.drop k (l.map Entry.row)).mapM entDec = some (l.drop k) := by rw [← List.map_drop]; exact mapM_dec rEnt _
theorem Entry.coldt (k : Nat) (l : List Entry) : coldR (List.take k (l.map Entry.row)) = List.take k (l.map Entry.row) := by rw [← List.map_take]; exact Entry.cold _
theorem Entry.coldd (k : Nat) (l : List Entry) : coldR (List.drop k (l.map Entry.row)) = List.drop k (l.map Entry.row) := by rw [← List.map_drop]; exact Entry.cold _
theorem Entry.hotRt (k : Nat) (l : List Entry) : AI.hotR (List.take k (l.map Entry.row)) = true := by rw [← List.map_take]; exact Entry.hotR _
theorem Entry.hotRd (k : Nat) (l : List Entry) : AI.hotR (List.drop k (l.map Entry.row)) = true := by rw [← List.map_drop]; exact Entry.hotR _
attribute [local simp] Entry.hotRt Entry.hotRd
attribute [local simp] Entry.tau Entry.tauc Entry.bare Entry.flat Entry.flat1 Entry.mapMt Entry.mapMd Entry.coldt Entry.coldd
attribute [local simp] Entry.cold Entry.mapM Entry.mapMc Entry.view Entry.viewc Entry.hotR Entry.ren Entry.renc Entry.low

def Entry.none (e : Entry) : Bool := !e.here && !e.slot
def noEnt : Entry := ⟨false, false, 0, 0, false, false, false⟩

theorem none_pure : PureOk Try.prog 26 (argM (cAgg rEnt) fun e => finM (some (.v (.bool e.none)))) := by
  refine pure1 Try.func26 rfl ?_
  rintro e r hr
  simp only [Option.some.injEq] at hr
  subst hr
  refine body_gen noOrc_ok fxMix (by kernel_rfl) (by simp [Try.ntmps26]) ?_
  intro C cP cI cN cD cF cA
  replace cI : C.inl = fun _ => false := cI
  replace cD : C.dyn = fun _ => [] := cD
  clear cP cN cF cA
  simp [Try.ntmps26, Try.results26, cSl, cI, cD, rEnt, Entry.row, Entry.none]

def Entry.chk (e : Entry) : Int :=
  if ((e.rights < 0 ∨ 7 < e.rights) ∨ e.at_ < 0) ∨ 64 ≤ e.at_ then 1
  else if (e.here && e.slot) || (e.dirty && !e.here) || (e.used && !e.here) || (e.none && !(e.at_ == 0 && e.rights == 0 && !e.copy)) then 3 else 0

theorem check_pure : PureOk Try.prog 22 (argM (cAgg rEnt) fun e => finM (some (.v (.int .i64 e.chk)))) := by
  refine pure1 Try.func22 rfl ?_
  rintro e r hr
  simp only [Option.some.injEq] at hr
  subst hr
  refine body_gen (noOrc_ok.withP none_pure) fxMix (by kernel_rfl) (by simp [Try.ntmps22]) ?_
  intro C cP cI cN cD cF cA
  have cp0 := orcP none_pure (C := C) (by rw [cP]; rfl)
  replace cI : C.inl = fun _ => false := cI
  replace cD : C.dyn = fun _ => [] := cD
  clear cP cN cF cA
  obtain ⟨h, s, a, r, u, d, c⟩ := e
  simp [Try.ntmps22, Try.results22, cSl, cp0, cI, cD, rEnt, Entry.row, entDec]
  simp only [Entry.chk, Entry.none]
  cases h <;> cases s <;> cases u <;> cases d <;> cases c <;> simp <;> (repeat' split) <;> (try omega) <;> (try intros) <;> (try omega)

/-- entry.May -/
def Entry.may (e : Entry) (want : Int) : Bool :=
  decide (1 ≤ want) && decide (want ≤ 7) && decide (e.chk = 0) && e.here && decide (iand .i64 e.rights want = want) && (decide (iand .i64 want 2 = 0) || !e.copy)

theorem may_pure : PureOk Try.prog 11 (argM (cAgg rEnt) fun e => argM (cInt .i64) fun want => finM (some (.v (.bool (e.may want))))) := by
  refine pure2 Try.func11 rfl ?_
  rintro e want r hr
  simp only [Option.some.injEq] at hr
  subst hr
  refine body_gen (noOrc_ok.withP check_pure) fxMix (by kernel_rfl) (by simp [Try.ntmps11]) ?_
  intro C cP cI cN cD cF cA
  have cp0 := orcP check_pure (C := C) (by rw [cP]; rfl)
  replace cI : C.inl = fun _ => false := cI
  replace cD : C.dyn = fun _ => [] := cD
  clear cP cN cF cA
  simp [Try.ntmps11, Try.results11, cSl, cp0, cI, cD, rEnt, Entry.row, entDec, Entry.may]
end Go.Proofs.Ytphaiohhlblamaa
