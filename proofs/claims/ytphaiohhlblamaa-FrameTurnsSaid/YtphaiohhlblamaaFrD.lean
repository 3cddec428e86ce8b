/- frame.Those. -/
import Derived.Test.YtphaiohhlblamaaFrC
namespace Go.Proofs.Ytphaiohhlblamaa
open Go.AI
set_option linter.unusedSimpArgs false
attribute [local simp] wpA wpX RunA runL step1 gsel_f gsel_t gsel_s res_same res_and1 res_and2 res_and3 res_and4 res_and5 res_and6 res_false res_true res_v res_ptr res_fptr res_osl res_fsl res_esl res_agg res_tup res_fn res_junk res_anyb aPick hk imp_left iteV dstOk guardOk astep astepE AI.ev AI.look AI.put envOf aBox cellsOf allOne allOneA oneA Value.oneCell' Value.cells newObj' aFieldAddr aLoad obj readAt thenA blockA condA retA resA tupA view hot hotC hotR depthV cAgg cInt cBool mkAgg allV aAlloc aBuild fillA writeAt aStore isAggA aField idx aIndexAddr aIndex bnd aSlice aExtract aLen aBuiltin aCall isStatic eqAgg eqTy eqC ev_add ev_sub ev_mul ev_quo ev_rem ev_and ev_or ev_xor ev_andNot ev_shl ev_shr ev_eql ev_neq ev_lss ev_leq ev_gtr ev_geq ev_agg w64 wu32 wu8 ev_not ev_neg Cod.plain RCod.plain Orc.withP Orc.withI noOrc argM finM cold coldC coldR goInt intDec boolDec aggDec Weaker heapW lowA lowC Again slDec undef aBuildSlice setRows aAppend rowsOf aMakeSlice aClear aCopy softer_self softer_nil valsOf ev_min2 ev_max2 hotR_set hotR_append take_map_set irow_cold irow_mapM irow_mapMc irow_view irow_viewc irow_hotR irow_ren irow_renc irow_low WeakT heapT thOf ren renC AgainT fxSz2 fxBy2 fxAg2 fxZe2 fxSl2 fxAr2 fxPl2 fxSz3 fxBy3 fxAg3 fxZe3 fxSl3 fxAr3 fxPl3 fxSz4 fxBy4 fxAg4 fxZe4 fxSl4 fxAr4 fxPl4 fxSz5 fxBy5 fxAg5 fxZe5 fxSl5 fxAr5 fxPl5 fxSz9 fxBy9 fxAg9 fxZe9 fxSl9 fxAr9 fxPl9 fxSz12 fxBy12 fxAg12 fxZe12 fxSl12 fxAr12 fxPl12 fxSz13 fxBy13 fxAg13 fxZe13 fxSl13 fxAr13 fxFi13x0 fxFi13x1 fxPl13 fxSz21 fxBy21 fxAg21 fxZe21 fxSl21 fxAr21 fxPl21 fxSz22 fxBy22 fxAg22 fxZe22 fxSl22 fxAr22 fxFi22x0 fxFi22x1 fxFi22x2 fxFi22x3 fxFi22x4 fxFi22x5 fxFi22x6 fxPl22 fxSz23 fxBy23 fxAg23 fxZe23 fxSl23 fxAr23 fxFi23x0 fxFi23x1 fxFi23x2 fxFi23x3 fxFi23x4 fxFi23x5 fxFi23x6 fxPl23 fxSz24 fxBy24 fxAg24 fxZe24 fxSl24 fxAr24 fxPl24 fxSz25 fxBy25 fxAg25 fxZe25 fxSl25 fxAr25 fxPl25 fxSz35 fxBy35 fxAg35 fxZe35 fxSl35 fxAr35 fxPl35 fxSz38 fxBy38 fxAg38 fxZe38 fxSl38 fxAr38 fxFi38x0 fxFi38x1 fxFi38x2 fxPl38 fxSz39 fxBy39 fxAg39 fxZe39 fxSl39 fxAr39 fxFi39x0 fxFi39x1 fxFi39x2 fxPl39 fxSz45 fxBy45 fxAg45 fxZe45 fxSl45 fxAr45 fxPl45 fxSz54 fxBy54 fxAg54 fxZe54 fxSl54 fxAr54 fxPl54 fxSz55 fxBy55 fxAg55 fxZe55 fxSl55 fxAr55 fxFi55x0 fxFi55x1 fxPl55 fxSz56 fxBy56 fxAg56 fxZe56 fxSl56 fxAr56 fxPl56 fxSz65 fxBy65 fxAg65 fxZe65 fxSl65 fxAr65 fxPl65 fxSz66 fxBy66 fxAg66 fxZe66 fxSl66 fxAr66 fxFi66x0 fxPl66 fxSz72 fxBy72 fxAg72 fxZe72 fxSl72 fxAr72 fxPl72 fxSz77 fxBy77 fxAg77 fxZe77 fxSl77 fxAr77 fxPl77 fxEq23 fxEq39 fxEq55 fxEq56 fxCv2x2 fxCv2x3 fxCv2x5 fxCv2x12 fxCv2x21 fxCv2x24 fxCv2x25 fxCv2x54 fxCv3x2 fxCv3x3 fxCv3x5 fxCv3x12 fxCv3x21 fxCv3x24 fxCv3x25 fxCv3x54 fxCv5x2 fxCv5x3 fxCv5x5 fxCv5x12 fxCv5x21 fxCv5x24 fxCv5x25 fxCv5x54 fxCv12x2 fxCv12x3 fxCv12x5 fxCv12x12 fxCv12x21 fxCv12x24 fxCv12x25 fxCv12x54 fxCv21x2 fxCv21x3 fxCv21x5 fxCv21x12 fxCv21x21 fxCv21x24 fxCv21x25 fxCv21x54 fxCv24x2 fxCv24x3 fxCv24x5 fxCv24x12 fxCv24x21 fxCv24x24 fxCv24x25 fxCv24x54 fxCv25x2 fxCv25x3 fxCv25x5 fxCv25x12 fxCv25x21 fxCv25x24 fxCv25x25 fxCv25x54 fxCv54x2 fxCv54x3 fxCv54x5 fxCv54x12 fxCv54x21 fxCv54x24 fxCv54x25 fxCv54x54 fxEb4 fxNb4 fxLt9 fxLn35 fxNe35 fxNn35 fxLn45 fxNe45 fxNn45 fxFn3 fxFb3 fxFn4 fxFb4 fxFn5 fxFb5 fxFn6 fxFb6 fxFn7 fxFb7 fxFn8 fxFb8 fxFn9 fxFb9 fxFn10 fxFb10 fxFn11 fxFb11 fxFn12 fxFb12 fxFn13 fxFb13 fxFn14 fxFb14 fxFn15 fxFb15 fxFn16 fxFb16 fxFn17 fxFb17 fxFn18 fxFb18 fxFn19 fxFb19 fxFn20 fxFb20 fxFn21 fxFb21 fxFn22 fxFb22 fxFn23 fxFb23 fxFn24 fxFb24 fxFn25 fxFb25 fxFn26 fxFb26 fxFn27 fxFb27
attribute [local simp] Frm.cold Frm.mapM Frm.mapMc Frm.view Frm.viewc Frm.hotR Frm.ren Frm.renc Frm.low

def thoseF (st : Int) : Nat → List Frm → List Int
  | _, [] => []
  | k, f :: r => if f.st = st then (k : Int) :: thoseF st (k + 1) r else thoseF st (k + 1) r
theorem thoseF_len (st : Int) (l : List Frm) : ∀ k, (thoseF st k l).length ≤ l.length := by
  induction l with
  | nil => intro k; simp [thoseF]
  | cons f r ih =>
    intro k
    simp only [thoseF]
    have := ih (k + 1)
    split <;> simp <;> omega

def frThose (l : List Frm) (st : Int) : Except Int (List Int) := if frCheck l = 0 then .ok (thoseF st 0 l) else .error (frCheck l)
/-- a list of integers that one has made -/
def ownI (out : List Int) : AVal := if out = [] then .v (.slice none 0 0) else .osl 0 1 0 out.length out.length
def ownH (out : List Int) : Heap := if out = [] then [] else [some (1, out.map (irow .i64))]
def thoseE : Except Int (List Int) → AVal
  | .ok [] => .v (.tuple #[.slice none 0 0, .int .i64 0])
  | .ok l => .tup [.fsl true 1 (l.map (irow .i64)), .v (.int .i64 0)]
  | .error e => .v (.tuple #[.slice none 0 0, .int .i64 e])

theorem frThose_pure : PureOk Try.prog 18 (argM (cSl rFrm) fun l => argM (cInt .i64) fun st => finM (some (thoseE (frThose l st)))) := by
  refine pure2 Try.func18 rfl ?_
  rintro l st r hr
  simp only [Option.some.injEq] at hr
  subst hr
  refine body_of (noOrc_ok.withP frCheck_pure) fxMix (by kernel_rfl) (by simp [Try.ntmps18]) ?_
  unfold frThose
  by_cases h0 : frCheck l = 0
  · have hl := frAll_len h0
    simp [Try.ntmps18, Try.results18, rFrm, cSl, h0]
    refine loop_ren (σ := {p : Nat × List Int // p.1 ≤ l.length ∧ p.2 ++ thoseF st p.1 (l.drop p.1) = thoseF st 0 l}) (fun p => ([(1, .v (.int .i64 st)), (15, .fsl false 3 (l.map Frm.row)), (16, .v (.int .i64 l.length)), (17, .v (.int .i64 p.val.1)), (7, ownI p.val.2)], ownH p.val.2)) (fun p => l.length - p.val.1) ⟨(0, []), by simp, by simp⟩ [] ?_ ?_
    · simp [ownI, ownH]
    · rintro ⟨⟨k, out⟩, hk, hall⟩
      simp only at hk hall
      have hol : out.length ≤ 64 := by
        have h1 := thoseF_len st l 0
        have h2 : (out ++ thoseF st k (l.drop k)).length ≤ l.length := by rw [hall]; exact h1
        rw [List.length_append] at h2
        omega
      rcases Nat.lt_or_ge k l.length with hk2 | hk2
      · rw [List.drop_eq_getElem_cons hk2, thoseF] at hall
        have hw : IntKind.i64.wrap (↑k + 1) = ((k + 1 : Nat) : Int) := by rw [w64 (by omega) (by omega)]; simp
        by_cases ho : out = []
        · subst ho
          have e1 : ownI [] = .v (.slice none 0 0) := rfl
          have e2 : ownH [] = [] := rfl
          simp [Try.ntmps18, Try.results18, hk2, Frm.row, e1, e2]
          split
          · rename_i q
            rw [if_pos q] at hall
            exact ⟨k + 1, by omega, [(k : Int)], ⟨by omega, by simpa using hall⟩, [2], by simp [ownH], by simp [ownI, ownH, hw, irow]⟩
          · rename_i q
            rw [if_neg q] at hall
            exact ⟨k + 1, by omega, [], ⟨by omega, by simpa using hall⟩, [], by simp [ownH], by simp [ownI, ownH, hw]⟩
        · have e1 : ownI out = .osl 0 1 0 out.length out.length := by simp [ownI, ho]
          have e2 : ownH out = [some (1, out.map (irow .i64))] := by simp [ownH, ho]
          have e3 : out.length ≤ 4294967295 := by omega
          have e4 : ¬ (out.length + 1 ≤ out.length) := by omega
          simp [Try.ntmps18, Try.results18, hk2, Frm.row, e1, e2, e3, e4]
          split
          · rename_i q
            rw [if_pos q] at hall
            exact ⟨k + 1, by omega, out ++ [(k : Int)], ⟨by omega, by simpa using hall⟩, [3], by simp [ownH], by simp [ownI, ownH, hw, irow]⟩
          · rename_i q
            rw [if_neg q] at hall
            exact ⟨k + 1, by omega, out, ⟨by omega, by simpa using hall⟩, [0], by simp [ownH, ho], by simp [ownI, ownH, hw, ho]⟩
      · have : k = l.length := by omega
        subst this
        simp [thoseF] at hall
        subst hall
        by_cases ho : thoseF st 0 l = []
        · simp [Try.ntmps18, Try.results18, ownI, ownH, ho, thoseE]
        · simp [Try.ntmps18, Try.results18, ownI, ownH, ho, thoseE]
          exact List.take_of_length_le (by simp)
  · simp [Try.ntmps18, Try.results18, rFrm, cSl, h0, thoseE]
end Go.Proofs.Ytphaiohhlblamaa
