/- Package frame: what its functions answer, at every argument. -/
import Derived.Test.YtphaiohhlblamaaFacts
namespace Go.Proofs.Ytphaiohhlblamaa
open Go.AI
set_option linter.unusedSimpArgs false
attribute [local simp] wpA wpX RunA runL step1 gsel_f gsel_t gsel_s res_same res_and1 res_and2 res_and3 res_and4 res_and5 res_and6 res_false res_true res_v res_ptr res_fptr res_osl res_fsl res_esl res_agg res_tup res_fn res_junk res_anyb aPick hk imp_left iteV dstOk guardOk astep astepE AI.ev AI.look AI.put envOf aBox cellsOf allOne allOneA oneA Value.oneCell' Value.cells newObj' aFieldAddr aLoad obj readAt thenA blockA condA retA resA tupA view hot hotC hotR depthV cAgg cInt cBool mkAgg allV aAlloc aBuild fillA writeAt aStore isAggA aField idx aIndexAddr aIndex bnd aSlice aExtract aLen aBuiltin aCall isStatic eqAgg eqTy eqC ev_add ev_sub ev_mul ev_quo ev_rem ev_and ev_or ev_xor ev_andNot ev_shl ev_shr ev_eql ev_neq ev_lss ev_leq ev_gtr ev_geq ev_agg w64 wu32 wu8 ev_not ev_neg Cod.plain RCod.plain Orc.withP Orc.withI noOrc argM finM cold coldC coldR goInt intDec boolDec aggDec Weaker heapW lowA lowC Again slDec undef aBuildSlice setRows aAppend rowsOf aMakeSlice aClear aCopy softer_self softer_nil valsOf ev_min2 ev_max2 hotR_set hotR_append take_map_set irow_cold irow_mapM irow_mapMc irow_view irow_viewc irow_hotR irow_ren irow_renc irow_low WeakT heapT thOf ren renC AgainT fxSz2 fxBy2 fxAg2 fxZe2 fxSl2 fxAr2 fxPl2 fxSz3 fxBy3 fxAg3 fxZe3 fxSl3 fxAr3 fxPl3 fxSz4 fxBy4 fxAg4 fxZe4 fxSl4 fxAr4 fxPl4 fxSz5 fxBy5 fxAg5 fxZe5 fxSl5 fxAr5 fxPl5 fxSz9 fxBy9 fxAg9 fxZe9 fxSl9 fxAr9 fxPl9 fxSz12 fxBy12 fxAg12 fxZe12 fxSl12 fxAr12 fxPl12 fxSz13 fxBy13 fxAg13 fxZe13 fxSl13 fxAr13 fxFi13x0 fxFi13x1 fxPl13 fxSz21 fxBy21 fxAg21 fxZe21 fxSl21 fxAr21 fxPl21 fxSz22 fxBy22 fxAg22 fxZe22 fxSl22 fxAr22 fxFi22x0 fxFi22x1 fxFi22x2 fxFi22x3 fxFi22x4 fxFi22x5 fxFi22x6 fxPl22 fxSz23 fxBy23 fxAg23 fxZe23 fxSl23 fxAr23 fxFi23x0 fxFi23x1 fxFi23x2 fxFi23x3 fxFi23x4 fxFi23x5 fxFi23x6 fxPl23 fxSz24 fxBy24 fxAg24 fxZe24 fxSl24 fxAr24 fxPl24 fxSz25 fxBy25 fxAg25 fxZe25 fxSl25 fxAr25 fxPl25 fxSz35 fxBy35 fxAg35 fxZe35 fxSl35 fxAr35 fxPl35 fxSz38 fxBy38 fxAg38 fxZe38 fxSl38 fxAr38 fxFi38x0 fxFi38x1 fxFi38x2 fxPl38 fxSz39 fxBy39 fxAg39 fxZe39 fxSl39 fxAr39 fxFi39x0 fxFi39x1 fxFi39x2 fxPl39 fxSz45 fxBy45 fxAg45 fxZe45 fxSl45 fxAr45 fxPl45 fxSz54 fxBy54 fxAg54 fxZe54 fxSl54 fxAr54 fxPl54 fxSz55 fxBy55 fxAg55 fxZe55 fxSl55 fxAr55 fxFi55x0 fxFi55x1 fxPl55 fxSz56 fxBy56 fxAg56 fxZe56 fxSl56 fxAr56 fxPl56 fxSz65 fxBy65 fxAg65 fxZe65 fxSl65 fxAr65 fxPl65 fxSz66 fxBy66 fxAg66 fxZe66 fxSl66 fxAr66 fxFi66x0 fxPl66 fxSz72 fxBy72 fxAg72 fxZe72 fxSl72 fxAr72 fxPl72 fxSz77 fxBy77 fxAg77 fxZe77 fxSl77 fxAr77 fxPl77 fxEq23 fxEq39 fxEq55 fxEq56 fxCv2x2 fxCv2x3 fxCv2x5 fxCv2x12 fxCv2x21 fxCv2x24 fxCv2x25 fxCv2x54 fxCv3x2 fxCv3x3 fxCv3x5 fxCv3x12 fxCv3x21 fxCv3x24 fxCv3x25 fxCv3x54 fxCv5x2 fxCv5x3 fxCv5x5 fxCv5x12 fxCv5x21 fxCv5x24 fxCv5x25 fxCv5x54 fxCv12x2 fxCv12x3 fxCv12x5 fxCv12x12 fxCv12x21 fxCv12x24 fxCv12x25 fxCv12x54 fxCv21x2 fxCv21x3 fxCv21x5 fxCv21x12 fxCv21x21 fxCv21x24 fxCv21x25 fxCv21x54 fxCv24x2 fxCv24x3 fxCv24x5 fxCv24x12 fxCv24x21 fxCv24x24 fxCv24x25 fxCv24x54 fxCv25x2 fxCv25x3 fxCv25x5 fxCv25x12 fxCv25x21 fxCv25x24 fxCv25x25 fxCv25x54 fxCv54x2 fxCv54x3 fxCv54x5 fxCv54x12 fxCv54x21 fxCv54x24 fxCv54x25 fxCv54x54 fxEb4 fxNb4 fxLt9 fxLn35 fxNe35 fxNn35 fxLn45 fxNe45 fxNn45 fxFn3 fxFb3 fxFn4 fxFb4 fxFn5 fxFb5 fxFn6 fxFb6 fxFn7 fxFb7 fxFn8 fxFb8 fxFn9 fxFb9 fxFn10 fxFb10 fxFn11 fxFb11 fxFn12 fxFb12 fxFn13 fxFb13 fxFn14 fxFb14 fxFn15 fxFb15 fxFn16 fxFb16 fxFn17 fxFb17 fxFn18 fxFb18 fxFn19 fxFb19 fxFn20 fxFb20 fxFn21 fxFb21 fxFn22 fxFb22 fxFn23 fxFb23 fxFn24 fxFb24 fxFn25 fxFb25 fxFn26 fxFb26 fxFn27 fxFb27

structure Frm where
  st : Int
  ow : Int
  ct : Int
  deriving DecidableEq

def frmDec : Row → Option Frm
  | [.v (.int .i64 a), .v (.int .i64 b), .v (.int .i64 c)] => some ⟨a, b, c⟩
  | _ => none
def Frm.row (e : Frm) : Row := [.v (.int .i64 e.st), .v (.int .i64 e.ow), .v (.int .i64 e.ct)]
def rFrm : RCod Frm := RCod.plain 3 Frm.row frmDec
  (fun e => rfl) (fun _ => rfl) (fun r e h => by
    unfold frmDec at h
    split at h
    · simp at h; subst h; rfl
    · cases h)
def Frm.val (e : Frm) : Value := .agg #[.int .i64 e.st, .int .i64 e.ow, .int .i64 e.ct]

theorem Frm.cold (l : List Frm) : coldR (l.map Frm.row) = l.map Frm.row := by
  induction l with
  | nil => simp [coldR]
  | cons e l ih => simp [coldR, coldC, AI.cold, ih, Frm.row]
theorem Frm.mapM (l : List Frm) : (l.map Frm.row).mapM frmDec = some l := mapM_dec rFrm l
theorem Frm.mapMc (l : List Frm) : l.mapM (frmDec ∘ Frm.row) = some l := mapM_dec' rFrm l
theorem Frm.view (H : Heap) (n : Nat) (e : Frm) : List.map (AI.view H n) e.row = e.row := by cases n <;> simp [Frm.row, AI.view]
theorem Frm.viewc (H : Heap) (n : Nat) : List.map (AI.view H n) ∘ Frm.row = Frm.row := by funext e; exact Frm.view H n e
theorem Frm.hotR (l : List Frm) : AI.hotR (l.map Frm.row) = true := by
  induction l with
  | nil => simp [AI.hotR]
  | cons e l ih => simp [AI.hotR, hotC, hot, ih, Frm.row]
theorem Frm.ren (n : Nat) (th : List Nat) (e : Frm) : List.map (AI.ren n th) e.row = e.row := by simp [Frm.row, AI.ren]
theorem Frm.renc (n : Nat) (th : List Nat) : List.map (AI.ren n th) ∘ Frm.row = Frm.row := by funext e; exact Frm.ren n th e
theorem Frm.low (n : Nat) (e : Frm) : e.row.all (lowA n) = true := by simp [Frm.row, lowA]
attribute [local simp] Frm.cold Frm.mapM Frm.mapMc Frm.view Frm.viewc Frm.hotR Frm.ren Frm.renc Frm.low

def Frm.bad (f : Frm) : Prop := f.st < 0 ∨ 3 < f.st ∨ f.ow < 0 ∨ 1048576 < f.ow ∨ f.ct < 0 ∨ 1048576 < f.ct
def Frm.odd (f : Frm) : Prop := (f.st = 0 ∧ (f.ow ≠ 0 ∨ f.ct ≠ 0)) ∨ (f.st ≠ 0 ∧ f.ct = 0) ∨ (f.st = 1 ∧ f.ct ≠ 1)
instance (f : Frm) : Decidable f.bad := by unfold Frm.bad; infer_instance
instance (f : Frm) : Decidable f.odd := by unfold Frm.odd; infer_instance
def Frm.chk (f : Frm) : Int := if f.bad then 1 else if f.odd then 3 else 0
def frAll : List Frm → Int
  | [] => 0
  | f :: r => if f.chk = 0 then frAll r else f.chk
def frCheck (l : List Frm) : Int := if 64 < l.length then 2 else frAll l

theorem frCheck_pure : PureOk Try.prog 15 (argM (cSl rFrm) fun l => finM (some (.v (.int .i64 (frCheck l))))) := by
  refine pure1 Try.func15 rfl ?_
  rintro l r hr
  simp only [Option.some.injEq] at hr
  subst hr
  refine body_of noOrc_ok fxMix (by kernel_rfl) (by simp [Try.ntmps15]) ?_
  simp [Try.ntmps15, Try.results15, rFrm, cSl]
  unfold frCheck
  split
  · rename_i h; simp [show 64 < l.length by omega]
  · rename_i h
    rw [if_neg (by omega)]
    refine loop_inv (σ := {k : Nat // k ≤ l.length ∧ frAll (l.drop k) = frAll l}) (fun k => ([(8, .fsl false 3 (l.map Frm.row)), (9, .v (.int .i64 l.length)), (10, .v (.int .i64 k.val))], [])) (fun k => l.length - k.val) ⟨0, by simp, by simp⟩ ?_ ?_
    · simp
    · rintro ⟨k, hk, hall⟩
      rcases Nat.lt_or_ge k l.length with hk2 | hk2
      · have hd : frAll (l.drop k) = if l[k].chk = 0 then frAll (l.drop (k + 1)) else l[k].chk := by
          rw [List.drop_eq_getElem_cons hk2]; rfl
        simp [Try.ntmps15, Try.results15, hk2, Frm.row]
        have hnext : l[k].chk = 0 → ∃ a, l.length - a < l.length - k ∧ (a ≤ l.length ∧ frAll (List.drop a l) = frAll l) ∧ IntKind.i64.wrap (↑k + 1) = ↑a := fun h0 =>
          ⟨k + 1, by omega, ⟨by omega, by rw [← hall, hd, if_pos h0]⟩, by rw [w64 (by omega) (by omega)]; simp⟩
        rw [← hall, hd]
        rw [← hall, hd] at hnext
        generalize hf : l[k] = f at hnext
        obtain ⟨a, b, c⟩ := f
        generalize frAll (List.drop (k + 1) l) = z at hnext ⊢
        simp only [Frm.chk, Frm.bad, Frm.odd] at hnext ⊢
        by_cases h1 : a < 0 ∨ 3 < a ∨ b < 0 ∨ 1048576 < b ∨ c < 0 ∨ 1048576 < c
        · rw [if_pos (by omega)]; simp [h1]
        · rw [if_neg (by omega)]
          simp only [h1, if_false] at hnext ⊢
          by_cases h2 : a = 0 ∧ (b ≠ 0 ∨ c ≠ 0) ∨ a ≠ 0 ∧ c = 0 ∨ a = 1 ∧ c ≠ 1
          · simp only [h2, if_true] at hnext ⊢
            clear hnext hall hd
            by_cases p1 : a = 0 ∧ (¬b = 0 ∨ ¬c = 0)
            · simp [p1]
            · rw [if_neg p1]
              by_cases p2 : ¬a = 0 ∧ c = 0
              · simp [p2]
              · rw [if_neg p2, if_pos (by omega)]; simp
          · simp only [h2, if_false, if_true] at hnext ⊢
            rw [if_neg (by omega), if_neg (by omega), if_neg (by omega)]
            exact hnext trivial
      · have : k = l.length := by omega
        subst this
        simp [Try.ntmps15, Try.results15]
        simpa [frAll] using hall
end Go.Proofs.Ytphaiohhlblamaa
