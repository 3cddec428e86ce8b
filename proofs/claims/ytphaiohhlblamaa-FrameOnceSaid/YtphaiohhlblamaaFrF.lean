/- Frames: the laws FrameOnce and FrameTurns return true. -/
import Derived.Test.YtphaiohhlblamaaFrE
namespace Go.Proofs.Ytphaiohhlblamaa
open Go.AI
set_option linter.unusedSimpArgs false
attribute [local simp] wpA wpX RunA runL step1 gsel_f gsel_t gsel_s res_same res_and1 res_and2 res_and3 res_and4 res_and5 res_and6 res_false res_true res_v res_ptr res_fptr res_osl res_fsl res_esl res_agg res_tup res_fn res_junk res_anyb aPick hk imp_left iteV dstOk guardOk astep astepE AI.ev AI.look AI.put envOf aBox cellsOf allOne allOneA oneA Value.oneCell' Value.cells newObj' aFieldAddr aLoad obj readAt thenA blockA condA retA resA tupA view hot hotC hotR depthV cAgg cInt cBool mkAgg allV aAlloc aBuild fillA writeAt aStore isAggA aField idx aIndexAddr aIndex bnd aSlice aExtract aLen aBuiltin aCall isStatic eqAgg eqTy eqC ev_add ev_sub ev_mul ev_quo ev_rem ev_and ev_or ev_xor ev_andNot ev_shl ev_shr ev_eql ev_neq ev_lss ev_leq ev_gtr ev_geq ev_agg w64 wu32 wu8 ev_not ev_neg Cod.plain RCod.plain Orc.withP Orc.withI noOrc argM finM cold coldC coldR goInt intDec boolDec aggDec Weaker heapW lowA lowC Again slDec undef aBuildSlice setRows aAppend rowsOf aMakeSlice aClear aCopy softer_self softer_nil valsOf ev_min2 ev_max2 hotR_set hotR_append take_map_set irow_cold irow_mapM irow_mapMc irow_view irow_viewc irow_hotR irow_ren irow_renc irow_low WeakT heapT thOf ren renC AgainT fxSz2 fxBy2 fxAg2 fxZe2 fxSl2 fxAr2 fxPl2 fxSz3 fxBy3 fxAg3 fxZe3 fxSl3 fxAr3 fxPl3 fxSz4 fxBy4 fxAg4 fxZe4 fxSl4 fxAr4 fxPl4 fxSz5 fxBy5 fxAg5 fxZe5 fxSl5 fxAr5 fxPl5 fxSz9 fxBy9 fxAg9 fxZe9 fxSl9 fxAr9 fxPl9 fxSz12 fxBy12 fxAg12 fxZe12 fxSl12 fxAr12 fxPl12 fxSz13 fxBy13 fxAg13 fxZe13 fxSl13 fxAr13 fxFi13x0 fxFi13x1 fxPl13 fxSz21 fxBy21 fxAg21 fxZe21 fxSl21 fxAr21 fxPl21 fxSz22 fxBy22 fxAg22 fxZe22 fxSl22 fxAr22 fxFi22x0 fxFi22x1 fxFi22x2 fxFi22x3 fxFi22x4 fxFi22x5 fxFi22x6 fxPl22 fxSz23 fxBy23 fxAg23 fxZe23 fxSl23 fxAr23 fxFi23x0 fxFi23x1 fxFi23x2 fxFi23x3 fxFi23x4 fxFi23x5 fxFi23x6 fxPl23 fxSz24 fxBy24 fxAg24 fxZe24 fxSl24 fxAr24 fxPl24 fxSz25 fxBy25 fxAg25 fxZe25 fxSl25 fxAr25 fxPl25 fxSz35 fxBy35 fxAg35 fxZe35 fxSl35 fxAr35 fxPl35 fxSz38 fxBy38 fxAg38 fxZe38 fxSl38 fxAr38 fxFi38x0 fxFi38x1 fxFi38x2 fxPl38 fxSz39 fxBy39 fxAg39 fxZe39 fxSl39 fxAr39 fxFi39x0 fxFi39x1 fxFi39x2 fxPl39 fxSz45 fxBy45 fxAg45 fxZe45 fxSl45 fxAr45 fxPl45 fxSz54 fxBy54 fxAg54 fxZe54 fxSl54 fxAr54 fxPl54 fxSz55 fxBy55 fxAg55 fxZe55 fxSl55 fxAr55 fxFi55x0 fxFi55x1 fxPl55 fxSz56 fxBy56 fxAg56 fxZe56 fxSl56 fxAr56 fxPl56 fxSz65 fxBy65 fxAg65 fxZe65 fxSl65 fxAr65 fxPl65 fxSz66 fxBy66 fxAg66 fxZe66 fxSl66 fxAr66 fxFi66x0 fxPl66 fxSz72 fxBy72 fxAg72 fxZe72 fxSl72 fxAr72 fxPl72 fxSz77 fxBy77 fxAg77 fxZe77 fxSl77 fxAr77 fxPl77 fxEq23 fxEq39 fxEq55 fxEq56 fxCv2x2 fxCv2x3 fxCv2x5 fxCv2x12 fxCv2x21 fxCv2x24 fxCv2x25 fxCv2x54 fxCv3x2 fxCv3x3 fxCv3x5 fxCv3x12 fxCv3x21 fxCv3x24 fxCv3x25 fxCv3x54 fxCv5x2 fxCv5x3 fxCv5x5 fxCv5x12 fxCv5x21 fxCv5x24 fxCv5x25 fxCv5x54 fxCv12x2 fxCv12x3 fxCv12x5 fxCv12x12 fxCv12x21 fxCv12x24 fxCv12x25 fxCv12x54 fxCv21x2 fxCv21x3 fxCv21x5 fxCv21x12 fxCv21x21 fxCv21x24 fxCv21x25 fxCv21x54 fxCv24x2 fxCv24x3 fxCv24x5 fxCv24x12 fxCv24x21 fxCv24x24 fxCv24x25 fxCv24x54 fxCv25x2 fxCv25x3 fxCv25x5 fxCv25x12 fxCv25x21 fxCv25x24 fxCv25x25 fxCv25x54 fxCv54x2 fxCv54x3 fxCv54x5 fxCv54x12 fxCv54x21 fxCv54x24 fxCv54x25 fxCv54x54 fxEb4 fxNb4 fxLt9 fxLn35 fxNe35 fxNn35 fxLn45 fxNe45 fxNn45 fxFn3 fxFb3 fxFn4 fxFb4 fxFn5 fxFb5 fxFn6 fxFb6 fxFn7 fxFb7 fxFn8 fxFb8 fxFn9 fxFb9 fxFn10 fxFb10 fxFn11 fxFb11 fxFn12 fxFb12 fxFn13 fxFb13 fxFn14 fxFb14 fxFn15 fxFb15 fxFn16 fxFb16 fxFn17 fxFb17 fxFn18 fxFb18 fxFn19 fxFb19 fxFn20 fxFb20 fxFn21 fxFb21 fxFn22 fxFb22 fxFn23 fxFb23 fxFn24 fxFb24 fxFn25 fxFb25 fxFn26 fxFb26 fxFn27 fxFb27
attribute [local simp] Frm.cold Frm.mapM Frm.mapMc Frm.view Frm.viewc Frm.hotR Frm.ren Frm.renc Frm.low

theorem once_pure : PureOk Try.prog 5 (argM (cSl rFrm) fun _ => argM (cInt .i64) fun _ => argM (cInt .i64) fun _ => argM (cInt .i64) fun _ => argM (cInt .i64) fun _ => argM (cInt .i64) fun _ => finM (some (.v (.bool true)))) := by
  refine pure6 Try.func5 rfl ?_
  rintro l n st ow k other r hr
  simp only [Option.some.injEq] at hr
  subst hr
  refine body_of ((((noOrc_ok.withP frTake_pure).withP frames_pure).withP frCheck_pure).withP frHeld_pure) fxMix (by kernel_rfl) (by simp [Try.ntmps5]) ?_
  cases hT : frTake l n st ow with
  | error e => 
    have he : e ≠ 0 := by
      intro h0
      subst h0
      unfold frTake at hT
      split at hT
      · split at hT
        · simp at hT
        · split at hT
          · simp at hT
          · cases hT
      · rename_i h; simp at hT; exact h hT
    simp [Try.ntmps5, Try.results5, rFrm, cSl, hT, slE, he]
  | ok a =>
    obtain ⟨h0, h1, h2, h3, h4, h5, ha⟩ := frTake_ok hT
    obtain ⟨q1, q2, q3⟩ := take_held hT
    have hl := frAll_len ((frAt_iff _ _).1 h0).1
    have hal : a.length = l.length := by rw [ha]; simp
    have hget : ∀ i (hi : i < l.length) (hi' : i < a.length), (i : Int) ≠ n → a[i] = l[i] := by
      intro i hi hi' hne
      subst ha
      rw [List.getElem_set_ne]
      have := (frAt_iff _ _).1 h0
      omega
    clear ha
    have hw : IntKind.i64.wrap (heldW 0 l + 1) = heldW 0 l + 1 := w64 (by omega) (by omega)
    have hb1 : l.length ≤ 4294967296 := by omega
    have hb2 : ¬ 4294967296 < l.length := by omega
    obtain ⟨c, hT2, hc⟩ : ∃ c, frTake a n k other = .error c ∧ (c = 5 ∨ c = 1) := by
      rcases frTake_twice (k := k) (other := other) hT with h | h
      · exact ⟨1, h, .inr rfl⟩
      · exact ⟨5, h, .inl rfl⟩
    simp [Try.ntmps5, Try.results5, rFrm, cSl, hT, hT2, slE]
    refine loop_inv (σ := {i : Nat // i ≤ l.length}) (fun i => ([(0, .fsl false 3 (l.map Frm.row)), (13, .fsl true 3 (a.map Frm.row)), (15, .v (.slice none 0 0)), (16, .v (.int .i64 c)), (1, .v (.int .i64 n)), (47, .v (.int .i64 l.length)), (48, .v (.int .i64 i.val))], [])) (fun i => l.length - i.val) ⟨0, by simp⟩ ?_ ?_
    · simp
    · rintro ⟨i, hi⟩
      rcases Nat.lt_or_ge i l.length with hi2 | hi2
      · have hi3 : i < a.length := by omega
        simp [Try.ntmps5, Try.results5, hi2, hi3, Frm.row]
        refine ⟨fun hne => ?_, i + 1, by omega, by omega, by rw [w64 (by omega) (by omega)]; simp⟩
        rw [hget i hi2 hi3 hne]
        simp
      · have : i = l.length := by omega
        subst this
        simp [Try.ntmps5, Try.results5, rFrm, slE, q1, q2, hal, hb1, hb2, hw, hc]

theorem turns_pure : PureOk Try.prog 7 (argM (cSl rFrm) fun _ => argM (cInt .i64) fun _ => argM (cInt .i64) fun _ => argM (cInt .i64) fun _ => finM (some (.v (.bool true)))) := by
  refine pure4 Try.func7 rfl ?_
  rintro l n st ow r hr
  simp only [Option.some.injEq] at hr
  subst hr
  refine body_of ((((((noOrc_ok.withP frTake_pure).withP frames_pure).withP frHold_pure).withP frLet_pure).withP frHeld_pure).withP equal_pure) fxMix (by kernel_rfl) (by simp [Try.ntmps7]) ?_
  have hTe : ∀ e, frTake l n st ow = .error e → e ≠ 0 := by
    intro e hT h0
    subst h0
    unfold frTake at hT
    split at hT
    · split at hT
      · simp at hT
      · split at hT
        · simp at hT
        · cases hT
    · rename_i h; simp at hT; exact h hT
  have hHe : ∀ e, frHold l n = .error e → e ≠ 0 := by
    intro e hT h0
    subst h0
    unfold frHold at hT
    split at hT
    · split at hT
      · simp at hT
      · split at hT
        · simp at hT
        · cases hT
    · rename_i h; simp at hT; exact h hT
  cases hT : frTake l n st ow with
  | error e =>
    have he := hTe e hT
    cases hH : frHold l n with
    | error e' =>
      have he' := hHe e' hH
      simp [Try.ntmps7, Try.results7, rFrm, cSl, hT, hH, slE, he, he']
    | ok a =>
      obtain ⟨q1, q2, q3, q4, q5, q6, q7, q8⟩ := hold_let hH
      have hw : IntKind.i64.wrap (heldW 0 l + 1) = heldW 0 l + 1 := w64 (by omega) (by omega)
      have hb1 : l.length ≤ 4294967296 := by omega
      have hb2 : ¬ 4294967296 < l.length := by omega
      have hb3 : a.length ≤ 4294967296 := by omega
      have hb4 : ¬ 4294967296 < a.length := by omega
      simp [Try.ntmps7, Try.results7, rFrm, cSl, hT, hH, slE, he, q1, q2, q4, hw, letE, hb1, hb2, hb3, hb4]
  | ok b =>
    obtain ⟨p1, p2, p3⟩ := take_let hT
    have hb1 : l.length ≤ 4294967296 := by omega
    have hb2 : ¬ 4294967296 < l.length := by omega
    cases hH : frHold l n with
    | error e' =>
      have he' := hHe e' hH
      simp [Try.ntmps7, Try.results7, rFrm, cSl, hT, hH, slE, he', p1, p2, letE, hb1, hb2]
    | ok a =>
      obtain ⟨q1, q2, q3, q4, q5, q6, q7, q8⟩ := hold_let hH
      have hw : IntKind.i64.wrap (heldW 0 l + 1) = heldW 0 l + 1 := w64 (by omega) (by omega)
      have hb3 : a.length ≤ 4294967296 := by omega
      have hb4 : ¬ 4294967296 < a.length := by omega
      simp [Try.ntmps7, Try.results7, rFrm, cSl, hT, hH, slE, q1, q2, q4, hw, letE, p1, p2, hb1, hb2, hb3, hb4]

theorem thoseF_mem (st : Int) (l : List Frm) : ∀ (k i : Nat) (f : Frm), l[i]? = some f → f.st = st → ((k + i : Nat) : Int) ∈ thoseF st k l := by
  induction l with
  | nil => intro k i f h; simp at h
  | cons g l ih =>
    intro k i f h hf
    simp only [thoseF]
    cases i with
    | zero => simp at h; subst h; simp [hf]
    | succ i =>
      have := ih (k + 1) i f (by simpa using h) hf
      rw [show k + 1 + i = k + (i + 1) by omega] at this
      split
      · exact List.mem_cons_of_mem _ this
      · exact this

theorem last_pure : PureOk Try.prog 6 (argM (cSl rFrm) fun _ => argM (cInt .i64) fun _ => finM (some (.v (.bool true)))) := by
  refine pure2 Try.func6 rfl ?_
  rintro l n r hr
  simp only [Option.some.injEq] at hr
  subst hr
  refine body_of (((((noOrc_ok.withP frCheck_pure).withP frames_pure).withP frLet_pure).withP frThose_pure).withP contains_pure) fxMix (by kernel_rfl) (by simp [Try.ntmps6]) ?_
  by_cases h0 : frAt l n = 0
  · obtain ⟨h1, h2, h3, h4⟩ := frAt_ok h0
    have h6 : n.toNat < l.length := by omega
    have h7 : ¬ n < 0 := by omega
    have h8 : ¬ (l.length : Int) ≤ n := by omega
    have hz := chk_ok (frGet_ok h0)
    have he : frGet l n = l[n.toNat] := by simp [frGet, h6]
    simp [Try.ntmps6, Try.results6, rFrm, cSl, h1, h2, h3, h7, h8, h6, Frm.row]
    intro h100
    refine loop_inv (σ := {p : Nat × List Frm × Bool // frAt p.2.1 n = 0 ∧ p.1 ≤ 100 ∧ (frGet p.2.1 n).ct = p.1 ∧ (p.1 = 0 ↔ (frGet p.2.1 n).st = 0)}) (fun p => ([(0, .fsl p.val.2.2 3 (p.val.2.1.map Frm.row)), (1, .v (.int .i64 n)), (5, .v (.int .i64 p.val.1))], [])) (fun p => p.val.1) ⟨(l[n.toNat].ct.toNat, l, false), h0, by simp only; omega, by simp only [he]; rw [he] at hz; omega, by simp only [he]; rw [he] at hz; omega⟩ ?_ ?_
    · rw [he] at hz
      have : ((l[n.toNat].ct.toNat : Nat) : Int) = l[n.toNat].ct := by omega
      simp [this]
    · rintro ⟨⟨k, x, o⟩, q0, q1, q2, q3⟩
      simp only at q0 q1 q2 q3
      obtain ⟨g1, g2, g3, g4⟩ := frAt_ok q0
      rcases Nat.eq_zero_or_pos k with hk | hk
      · subst hk
        have q4 := q3.1 rfl
        obtain ⟨hk, e⟩ := frGet_at q0
        have hm := thoseF_mem 0 x 0 n.toNat (frGet x n) (by rw [e]; simp [hk]) q4
        have hn : ((0 + n.toNat : Nat) : Int) = n := by omega
        rw [hn] at hm
        have hne : thoseF 0 0 x ≠ [] := by intro h; rw [h] at hm; simp at hm
        have hlen := thoseF_len 0 x 0
        have hb1 : (thoseF 0 0 x).length ≤ 4294967296 := by omega
        have hb2 : ¬ 4294967296 < (thoseF 0 0 x).length := by omega
        have hth : thoseE (frThose x 0) = .tup [.fsl true 1 ((thoseF 0 0 x).map (irow .i64)), .v (.int .i64 0)] := by
          simp only [frThose, g1, if_true]
          cases hq : thoseF 0 0 x with
          | nil => exact absurd hq hne
          | cons _ _ => rfl
        simp [Try.ntmps6, Try.results6, rFrm, hth, rI, hb1, hb2, hm]
      · have q4 : ¬ (frGet x n).st = 0 := fun h => by have := q3.2 h; omega
        have hL : frLet x n = .ok (x.set n.toNat (frLess (frGet x n))) := by simp [frLet, q0, q4]
        have hz2 := chk_ok (frGet_ok q0)
        have hlc : (frLess (frGet x n)).chk = 0 := by
          unfold frLess
          split
          · exact chk_of (by simp)
          · exact chk_of (by simp; omega)
        have hat := frAt_set (k := n.toNat) q0 hlc
        have hgt := frGet_set (f := frLess (frGet x n)) q0
        have hlct : (frLess (frGet x n)).ct = ((k - 1 : Nat) : Int) ∧ (k - 1 = 0 ↔ (frLess (frGet x n)).st = 0) := by
          unfold frLess
          split
          · simp; omega
          · simp; omega
        have hk0 : ¬ (k = 0) := by omega
        have hgone : (decide ((k : Int) - 1 = 0)) = decide ((k : Int) = 1) := by
          apply decide_eq_decide.2; omega
        have hgone2 : ((k : Int) - 1 == 0) = ((k : Int) == 1) := by
          rw [Bool.eq_iff_iff]; simp; omega
        generalize x.set n.toNat (frLess (frGet x n)) = y at hL hat hgt
        simp [Try.ntmps6, Try.results6, rFrm, hL, letE, q2, hk, hgone2]
        exact ⟨k - 1, by omega, y, rfl, ⟨hat, by omega, by rw [hgt]; exact hlct.1, by rw [hgt]; exact hlct.2⟩, by rw [w64 (by omega) (by omega)]; omega⟩
  · by_cases hc : frCheck l = 0
    · by_cases hn : n < 0
      · simp [Try.ntmps6, Try.results6, rFrm, cSl, hc, hn]
      · have hn2 : (l.length : Int) ≤ n := by
          rw [frAt_iff] at h0; omega
        simp [Try.ntmps6, Try.results6, rFrm, cSl, hc, hn, hn2]
    · simp [Try.ntmps6, Try.results6, rFrm, cSl, hc]
end Go.Proofs.Ytphaiohhlblamaa
