/- Package frame, more. -/
import Derived.Test.YtphaiohhlblamaaFrA
namespace Go.Proofs.Ytphaiohhlblamaa
open Go.AI
set_option linter.unusedSimpArgs false
attribute [local simp] wpA wpX RunA runL step1 gsel_f gsel_t gsel_s res_same res_and1 res_and2 res_and3 res_and4 res_and5 res_and6 res_false res_true res_v res_ptr res_fptr res_osl res_fsl res_esl res_agg res_tup res_fn res_junk res_anyb aPick hk imp_left iteV dstOk guardOk astep astepE AI.ev AI.look AI.put envOf aBox cellsOf allOne allOneA oneA Value.oneCell' Value.cells newObj' aFieldAddr aLoad obj readAt thenA blockA condA retA resA tupA view hot hotC hotR depthV cAgg cInt cBool mkAgg allV aAlloc aBuild fillA writeAt aStore isAggA aField idx aIndexAddr aIndex bnd aSlice aExtract aLen aBuiltin aCall isStatic eqAgg eqTy eqC ev_add ev_sub ev_mul ev_quo ev_rem ev_and ev_or ev_xor ev_andNot ev_shl ev_shr ev_eql ev_neq ev_lss ev_leq ev_gtr ev_geq ev_agg w64 wu32 wu8 ev_not ev_neg Cod.plain RCod.plain Orc.withP Orc.withI noOrc argM finM cold coldC coldR goInt intDec boolDec aggDec Weaker heapW lowA lowC Again slDec undef aBuildSlice setRows aAppend rowsOf aMakeSlice aClear aCopy softer_self softer_nil valsOf ev_min2 ev_max2 hotR_set hotR_append take_map_set irow_cold irow_mapM irow_mapMc irow_view irow_viewc irow_hotR irow_ren irow_renc irow_low WeakT heapT thOf ren renC AgainT fxSz2 fxBy2 fxAg2 fxZe2 fxSl2 fxAr2 fxPl2 fxSz3 fxBy3 fxAg3 fxZe3 fxSl3 fxAr3 fxPl3 fxSz4 fxBy4 fxAg4 fxZe4 fxSl4 fxAr4 fxPl4 fxSz5 fxBy5 fxAg5 fxZe5 fxSl5 fxAr5 fxPl5 fxSz9 fxBy9 fxAg9 fxZe9 fxSl9 fxAr9 fxPl9 fxSz12 fxBy12 fxAg12 fxZe12 fxSl12 fxAr12 fxPl12 fxSz13 fxBy13 fxAg13 fxZe13 fxSl13 fxAr13 fxFi13x0 fxFi13x1 fxPl13 fxSz21 fxBy21 fxAg21 fxZe21 fxSl21 fxAr21 fxPl21 fxSz22 fxBy22 fxAg22 fxZe22 fxSl22 fxAr22 fxFi22x0 fxFi22x1 fxFi22x2 fxFi22x3 fxFi22x4 fxFi22x5 fxFi22x6 fxPl22 fxSz23 fxBy23 fxAg23 fxZe23 fxSl23 fxAr23 fxFi23x0 fxFi23x1 fxFi23x2 fxFi23x3 fxFi23x4 fxFi23x5 fxFi23x6 fxPl23 fxSz24 fxBy24 fxAg24 fxZe24 fxSl24 fxAr24 fxPl24 fxSz25 fxBy25 fxAg25 fxZe25 fxSl25 fxAr25 fxPl25 fxSz35 fxBy35 fxAg35 fxZe35 fxSl35 fxAr35 fxPl35 fxSz38 fxBy38 fxAg38 fxZe38 fxSl38 fxAr38 fxFi38x0 fxFi38x1 fxFi38x2 fxPl38 fxSz39 fxBy39 fxAg39 fxZe39 fxSl39 fxAr39 fxFi39x0 fxFi39x1 fxFi39x2 fxPl39 fxSz45 fxBy45 fxAg45 fxZe45 fxSl45 fxAr45 fxPl45 fxSz54 fxBy54 fxAg54 fxZe54 fxSl54 fxAr54 fxPl54 fxSz55 fxBy55 fxAg55 fxZe55 fxSl55 fxAr55 fxFi55x0 fxFi55x1 fxPl55 fxSz56 fxBy56 fxAg56 fxZe56 fxSl56 fxAr56 fxPl56 fxSz65 fxBy65 fxAg65 fxZe65 fxSl65 fxAr65 fxPl65 fxSz66 fxBy66 fxAg66 fxZe66 fxSl66 fxAr66 fxFi66x0 fxPl66 fxSz72 fxBy72 fxAg72 fxZe72 fxSl72 fxAr72 fxPl72 fxSz77 fxBy77 fxAg77 fxZe77 fxSl77 fxAr77 fxPl77 fxEq23 fxEq39 fxEq55 fxEq56 fxCv2x2 fxCv2x3 fxCv2x5 fxCv2x12 fxCv2x21 fxCv2x24 fxCv2x25 fxCv2x54 fxCv3x2 fxCv3x3 fxCv3x5 fxCv3x12 fxCv3x21 fxCv3x24 fxCv3x25 fxCv3x54 fxCv5x2 fxCv5x3 fxCv5x5 fxCv5x12 fxCv5x21 fxCv5x24 fxCv5x25 fxCv5x54 fxCv12x2 fxCv12x3 fxCv12x5 fxCv12x12 fxCv12x21 fxCv12x24 fxCv12x25 fxCv12x54 fxCv21x2 fxCv21x3 fxCv21x5 fxCv21x12 fxCv21x21 fxCv21x24 fxCv21x25 fxCv21x54 fxCv24x2 fxCv24x3 fxCv24x5 fxCv24x12 fxCv24x21 fxCv24x24 fxCv24x25 fxCv24x54 fxCv25x2 fxCv25x3 fxCv25x5 fxCv25x12 fxCv25x21 fxCv25x24 fxCv25x25 fxCv25x54 fxCv54x2 fxCv54x3 fxCv54x5 fxCv54x12 fxCv54x21 fxCv54x24 fxCv54x25 fxCv54x54 fxEb4 fxNb4 fxLt9 fxLn35 fxNe35 fxNn35 fxLn45 fxNe45 fxNn45 fxFn3 fxFb3 fxFn4 fxFb4 fxFn5 fxFb5 fxFn6 fxFb6 fxFn7 fxFb7 fxFn8 fxFb8 fxFn9 fxFb9 fxFn10 fxFb10 fxFn11 fxFb11 fxFn12 fxFb12 fxFn13 fxFb13 fxFn14 fxFb14 fxFn15 fxFb15 fxFn16 fxFb16 fxFn17 fxFb17 fxFn18 fxFb18 fxFn19 fxFb19 fxFn20 fxFb20 fxFn21 fxFb21 fxFn22 fxFb22 fxFn23 fxFb23 fxFn24 fxFb24 fxFn25 fxFb25 fxFn26 fxFb26 fxFn27 fxFb27
attribute [local simp] Frm.cold Frm.mapM Frm.mapMc Frm.view Frm.viewc Frm.hotR Frm.ren Frm.renc Frm.low

/-- frame.at -/
def frAt (l : List Frm) (n : Int) : Int := if frCheck l = 0 then (if n < 0 ∨ (l.length : Int) ≤ n then 4 else 0) else frCheck l

theorem frAt_pure : PureOk Try.prog 23 (argM (cSl rFrm) fun l => argM (cInt .i64) fun n => finM (some (.v (.int .i64 (frAt l n))))) := by
  refine pure2 Try.func23 rfl ?_
  rintro l n r hr
  simp only [Option.some.injEq] at hr
  subst hr
  refine body_of (noOrc_ok.withP frCheck_pure) fxMix (by kernel_rfl) (by simp [Try.ntmps23]) ?_
  simp [Try.ntmps23, Try.results23, rFrm, cSl, frAt]
  by_cases h1 : frCheck l = 0
  · by_cases h2 : n < 0 ∨ ↑l.length ≤ n
    · simp [h1, h2]
    · simp [h1, h2]
  · simp [h1]

/-- slices.Clone -/
def cloneI (sz : Nat) : Row → Heap → Option (AVal × Heap)
  | [.fsl _ s rows], H => if s = sz ∧ rows.length ≤ 4294967296 then (if rows.isEmpty then some (.esl, H) else some (.osl H.length sz 0 rows.length rows.length, newObj' H sz rows)) else none
  | _, _ => none
theorem cloneI_some {sz : Nat} {args : Row} {H H' : Heap} {r : AVal} (h : cloneI sz args H = some (r, H')) : ∃ o rows, args = [.fsl o sz rows] ∧ rows.length ≤ 4294967296 ∧ ((rows = [] ∧ r = .esl ∧ H' = H) ∨ (rows ≠ [] ∧ r = .osl H.length sz 0 rows.length rows.length ∧ H' = newObj' H sz rows)) := by
  unfold cloneI at h
  split at h
  · rename_i o s rows
    split at h
    · rename_i hc
      obtain ⟨rfl, hl⟩ := hc
      refine ⟨o, rows, rfl, hl, ?_⟩
      split at h
      · rename_i he; simp at h; exact .inl ⟨by simpa using he, h.1.symm, h.2.symm⟩
      · rename_i he; simp at h; exact .inr ⟨by simpa using he, h.1.symm, h.2.symm⟩
    · cases h
  · cases h

theorem frClone_inl : InlOk Try.prog 27 (cloneI 3) := by
  refine inl_soft Try.func27 rfl ?_
  intro args H r H' hr
  obtain ⟨o, rows, rfl, hl, hc⟩ := cloneI_some hr
  refine ⟨by simp [Try.ntmps27], wpA_sound noOrc_ok fxMix _ _ _ _ (by kernel_rfl) ?_⟩
  rcases hc with ⟨rfl, rfl, rfl⟩ | ⟨h0, rfl, rfl⟩
  · simp [Try.ntmps27, Try.results27]
  · simp [Try.ntmps27, Try.results27, h0, hl]

/-- frame.with -/
theorem frWith_pure : PureOk Try.prog 24 (argM (cSl rFrm) fun l => argM (cInt .i64) fun n => argM (cAgg rFrm) fun f => finM (if l.length ≤ 4294967296 ∧ 0 ≤ n ∧ n < l.length then some (.fsl true 3 ((l.set n.toNat f).map Frm.row)) else none)) := by
  refine pure3 Try.func24 rfl ?_
  rintro l n f r hr
  split at hr
  · rename_i hc
    obtain ⟨h1, h2, h3⟩ := hc
    simp only [Option.some.injEq] at hr
    subst hr
    have h4 : l ≠ [] := by rintro rfl; simp at h3; omega
    refine body_of (noOrc_ok.withI frClone_inl) fxMix (by kernel_rfl) (by simp [Try.ntmps24]) ?_
    simp [Try.ntmps24, Try.results24, rFrm, cSl, cloneI, h1, h2, h3, h4, Frm.row]
  · cases hr

theorem frAll_len {l : List Frm} (h : frCheck l = 0) : l.length ≤ 64 := by
  unfold frCheck at h
  split at h
  · cases h
  · omega
theorem frAt_ok {l : List Frm} {n : Int} (h : frAt l n = 0) : frCheck l = 0 ∧ 0 ≤ n ∧ n < l.length ∧ l.length ≤ 64 := by
  unfold frAt at h
  split at h
  · rename_i h1
    split at h
    · cases h
    · exact ⟨h1, by omega, by omega, frAll_len h1⟩
  · rename_i h1; exact absurd h h1

/-- the frame at a place -/
def frGet (l : List Frm) (n : Int) : Frm := l[n.toNat]?.getD ⟨0, 0, 0⟩

/-- frame.Take -/
def frTake (l : List Frm) (n st ow : Int) : Except Int (List Frm) :=
  if frAt l n = 0 then
    if ((st < 1 ∨ 3 < st) ∨ ow < 0) ∨ 1048576 < ow then .error 1
    else if (frGet l n).st ≠ 0 then .error 5
    else .ok (l.set n.toNat ⟨st, ow, 1⟩)
  else .error (frAt l n)

theorem frTake_pure : PureOk Try.prog 13 (argM (cSl rFrm) fun l => argM (cInt .i64) fun n => argM (cInt .i64) fun st => argM (cInt .i64) fun ow => finM (some (slE 3 Frm.row (frTake l n st ow)))) := by
  refine pure4 Try.func13 rfl ?_
  rintro l n st ow r hr
  simp only [Option.some.injEq] at hr
  subst hr
  refine body_of ((noOrc_ok.withP frAt_pure).withP frWith_pure) fxMix (by kernel_rfl) (by simp [Try.ntmps13]) ?_
  unfold frTake
  by_cases h0 : frAt l n = 0
  · obtain ⟨h1, h2, h3, h4⟩ := frAt_ok h0
    have h5 : l.length ≤ 4294967296 := by omega
    have h6 : n.toNat < l.length := by omega
    simp [Try.ntmps13, Try.results13, rFrm, cSl, frGet, h0, h2, h3, h5, h6, Frm.row, frmDec]
    split
    · rename_i q; simp [q, slE]
    · rename_i q
      split
      · rename_i q2; simp [q, q2, slE, Frm.row]
      · rename_i q2; simp [q, q2, slE]
  · simp [Try.ntmps13, Try.results13, rFrm, cSl, h0, slE]

/-- frame.Hold -/
def frHold (l : List Frm) (n : Int) : Except Int (List Frm) :=
  if frAt l n = 0 then
    if (frGet l n).st < 2 then .error 8
    else if (frGet l n).ct = 1048576 then .error 6
    else .ok (l.set n.toNat ⟨(frGet l n).st, (frGet l n).ow, (frGet l n).ct + 1⟩)
  else .error (frAt l n)

theorem frAll_get {l : List Frm} {f : Frm} (h : frAll l = 0) (hf : f ∈ l) : f.chk = 0 := by
  induction l with
  | nil => simp at hf
  | cons g l ih =>
    simp only [frAll] at h
    split at h
    · rename_i hg
      rcases List.mem_cons.1 hf with rfl | hf
      · exact hg
      · exact ih h hf
    · rename_i hg; exact absurd h hg
theorem chk_ok {f : Frm} (h : f.chk = 0) : 0 ≤ f.st ∧ f.st ≤ 3 ∧ 0 ≤ f.ow ∧ f.ow ≤ 1048576 ∧ 0 ≤ f.ct ∧ f.ct ≤ 1048576 ∧ (f.st = 0 → f.ow = 0 ∧ f.ct = 0) ∧ (f.st ≠ 0 → f.ct ≠ 0) ∧ (f.st = 1 → f.ct = 1) := by
  unfold Frm.chk at h
  split at h
  · cases h
  · rename_i h1
    split at h
    · cases h
    · rename_i h2
      unfold Frm.bad at h1
      unfold Frm.odd at h2
      omega
theorem chk_of {f : Frm} (h : 0 ≤ f.st ∧ f.st ≤ 3 ∧ 0 ≤ f.ow ∧ f.ow ≤ 1048576 ∧ 0 ≤ f.ct ∧ f.ct ≤ 1048576 ∧ (f.st = 0 → f.ow = 0 ∧ f.ct = 0) ∧ (f.st ≠ 0 → f.ct ≠ 0) ∧ (f.st = 1 → f.ct = 1)) : f.chk = 0 := by
  unfold Frm.chk
  rw [if_neg (by unfold Frm.bad; omega), if_neg (by unfold Frm.odd; omega)]
theorem frGet_ok {l : List Frm} {n : Int} (h : frAt l n = 0) : (frGet l n).chk = 0 := by
  obtain ⟨h1, h2, h3, h4⟩ := frAt_ok h
  have h5 : n.toNat < l.length := by omega
  have : frGet l n = l[n.toNat] := by simp [frGet, h5]
  rw [this]
  unfold frCheck at h1
  rw [if_neg (by omega)] at h1
  exact frAll_get h1 (List.getElem_mem h5)

theorem frHold_pure : PureOk Try.prog 20 (argM (cSl rFrm) fun l => argM (cInt .i64) fun n => finM (some (slE 3 Frm.row (frHold l n)))) := by
  refine pure2 Try.func20 rfl ?_
  rintro l n r hr
  simp only [Option.some.injEq] at hr
  subst hr
  refine body_of ((noOrc_ok.withP frAt_pure).withP frWith_pure) fxMix (by kernel_rfl) (by simp [Try.ntmps20]) ?_
  unfold frHold
  by_cases h0 : frAt l n = 0
  · obtain ⟨h1, h2, h3, h4⟩ := frAt_ok h0
    have h5 : l.length ≤ 4294967296 := by omega
    have h6 : n.toNat < l.length := by omega
    have h7 := chk_ok (frGet_ok h0)
    simp [frGet, h6] at h7
    have h8 : IntKind.i64.wrap (l[n.toNat].ct + 1) = l[n.toNat].ct + 1 := w64 (by omega) (by omega)
    simp [Try.ntmps20, Try.results20, rFrm, cSl, frGet, h0, h2, h3, h5, h6, Frm.row, frmDec, h8]
    split
    · rename_i q; simp [q, slE]
    · rename_i q
      split
      · rename_i q2; simp [q, q2, slE]
      · rename_i q2; simp [q, q2, slE, Frm.row]
  · simp [Try.ntmps20, Try.results20, rFrm, cSl, h0, slE]

/-- frame.Let -/
def frLess (f : Frm) : Frm := if f.ct - 1 = 0 then ⟨0, 0, 0⟩ else ⟨f.st, f.ow, f.ct - 1⟩
def frLet (l : List Frm) (n : Int) : Except Int (List Frm) :=
  if frAt l n = 0 then
    if (frGet l n).st = 0 then .error 8
    else .ok (l.set n.toNat (frLess (frGet l n)))
  else .error (frAt l n)
def letE (b : Bool) : Except Int (List Frm) → AVal
  | .ok l => .tup [.fsl true 3 (l.map Frm.row), .v (.bool b), .v (.int .i64 0)]
  | .error e => .v (.tuple #[.slice none 0 0, .bool false, .int .i64 e])

theorem frLet_pure : PureOk Try.prog 17 (argM (cSl rFrm) fun l => argM (cInt .i64) fun n => finM (some (letE ((frGet l n).ct - 1 == 0) (frLet l n)))) := by
  refine pure2 Try.func17 rfl ?_
  rintro l n r hr
  simp only [Option.some.injEq] at hr
  subst hr
  refine body_of ((noOrc_ok.withP frAt_pure).withP frWith_pure) fxMix (by kernel_rfl) (by simp [Try.ntmps17]) ?_
  unfold frLet
  by_cases h0 : frAt l n = 0
  · obtain ⟨h1, h2, h3, h4⟩ := frAt_ok h0
    have h5 : l.length ≤ 4294967296 := by omega
    have h6 : n.toNat < l.length := by omega
    have h7 := chk_ok (frGet_ok h0)
    simp [frGet, h6] at h7
    have h8 : IntKind.i64.wrap (l[n.toNat].ct - 1) = l[n.toNat].ct - 1 := w64 (by omega) (by omega)
    simp [Try.ntmps17, Try.results17, rFrm, cSl, frGet, h0, h2, h3, h5, h6, Frm.row, frmDec, h8, frLess]
    split
    · rename_i q; simp [q, letE]
    · rename_i q
      split
      · rename_i q2; simp [q, q2, letE, Frm.row]
      · rename_i q2; simp [q, q2, letE, Frm.row]
  · simp [Try.ntmps17, Try.results17, rFrm, cSl, h0, letE]
end Go.Proofs.Ytphaiohhlblamaa
