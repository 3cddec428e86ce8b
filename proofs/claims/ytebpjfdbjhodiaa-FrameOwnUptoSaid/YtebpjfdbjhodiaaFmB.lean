/- slices' functions, of integers. Package slab: boxes, Check. Package slab: copied, all of it one's own. Slabs in plain words: what Take and Give answer. Slabs of one's own under plain names. Package slab: Take, its result one's own. Package slab: Give, its result one's own. -/
import Derived.Test.YtebpjfdbjhodiaaFaF
import Derived.Test.YtebpjfdbjhodiaaAiZd
import Derived.Test.YtebpjfdbjhodiaaFmA
import Derived.Test.YtebpjfdbjhodiaaAiZe
import Derived.Test.YtebpjfdbjhodiaaAiZi
namespace Go.Proofs.Ytebpjfdbjhodiaa
open Go.AI
set_option linter.unusedSimpArgs false
set_option linter.unusedVariables false
section
set_option maxHeartbeats 2000000
set_option maxRecDepth 100000
set_option linter.unusedSimpArgs false
set_option linter.unusedVariables false
attribute [local simp] wpA wpX RunA RunD runF foot footP footB idsA bare apart runL step1 gsel_f gsel_t gsel_s res_same res_and1 res_and2 res_and3 res_and4 res_and5 res_and6 res_false res_true res_v res_ptr res_fptr res_osl res_xsl soft aAppendZ aCap ovlI ovlJ res_fsl res_esl res_agg res_tup res_fn res_junk res_anyb aPick hk imp_left iteV dstOk guardOk astep astepE AI.ev AI.look AI.put envOf aBox cellsOf allOne allOneA oneA Value.oneCell' Value.cells newObj' aFieldAddr aLoad obj readAt thenA blockA condA retA resA tupA view hot hotC hotR depthV cAgg cInt cBool mkAgg allV aAlloc aBuild fillA writeAt aStore isAggA aField idx aIndexAddr aIndex bnd aSlice aExtract aLen aBuiltin aCall isStatic eqAgg eqTy eqC ev_add ev_sub ev_mul ev_quo ev_rem ev_and ev_or ev_xor ev_andNot ev_shl ev_shr ev_eql ev_neq ev_lss ev_leq ev_gtr ev_geq ev_agg w64 wu32 wu8 ev_not ev_neg Cod.plain RCod.plain argM finM cold coldC coldR goInt intDec boolDec aggDec Weaker heapW lowA lowC Again slDec undef aBuildSlice setRows aAppend rowsOf aMakeSlice aClear aCopy softer_self softer_nil valsOf ev_min2 ev_max2 hotR_set hotR_append take_map_set irow_cold irow_mapM irow_mapMc irow_view irow_viewc irow_hotR irow_ren irow_renc irow_low WeakT heapT thOf ren renC AgainT NextF NextT fnDec cFn rNil selfLt natLt0 natLt1 getLastMap frame0 frame1 own0 own1 argG finG tau tauI tauO tauC bareA bareC bareH irow_tau irow_tauc irow_bare irow_flat irow_bareR ownA_nil ownT_nil ownA_c ownT_c ownA_s ownT_s takeMapLen footC plainA noId noIdC cloneF frame0F frame1F insertF replaceI replaceF cellDec rCell fpDec cFp rTwo deleteF allV_oA oneA_oA res_oA RunR RunE runFT footAt hotR_cat tmodN aEqH aSliceA frameN newA newC newH fxSz3 fxBy3 fxAg3 fxZe3 fxSl3 fxSz96 fxAg96 fxZe96 fxSl96 fxAr96 fxSz97 fxAg97 fxZe97 fxSl97 fxAr97 fxSz99 fxAg99 fxZe99 fxFi99x0 fxFi99x1 fxPl99 fxSz100 fxAg100 fxSl100 fxAr100 fxSz102 fxAg102 fxZe102 fxFi102x0 fxFi102x1 fxPl102 fxSz104 fxAg104 fxZe104 fxFi104x0 fxFi104x1 fxPl104 fxSz107 fxBy107 fxAg107 fxZe107 fxFi107x0 fxFi107x1 fxFi107x2 fxPl107 fxSz110 fxBy110 fxAg110 fxZe110 fxFi110x0 fxFi110x1 fxPl110 fxSz111 fxAg111 fxZe111 fxSl111 fxAr111 fxSz112 fxBy112 fxAg112 fxZe112 fxSl112 fxAr112 fxSz114 fxBy114 fxAg114 fxZe114 fxFi114x0 fxFi114x1 fxPl114 fxZe131 fxAr131 fxPl131 fxZe132 fxAr132 fxPl132 fxZe133 fxAr133 fxPl133 fxEq107 fxEq110 fxNe96 fxOe96 fxXe96 fxLn97 fxNe97 fxOe97 fxXe97 fxNe100 fxOe100 fxXe100 fxNe112 fxOe112 fxXe112 fxFm41 fxFi41 fxFm42 fxFi42 fxFm43 fxFi43 fxFm44 fxFm45 fxFm46 fxFi46 fxFi47 fxFj47 fxFm48 fxFi48 fxFm49 fxFi49 fxFm50 fxFi50 fxFm51 fxFm52 fxFm53 fxFm54 fxFm55 fxFm56 fxFm113 fxFi113 fxFm114 fxFi114 fxFm115 fxFi115 fxFm116 fxFi116 fxFm117 fxFi117 fxFm118 fxFm119 fxFi119 fxFm120 fxFi120 fxFm121 fxFi121 fxFm122 fxFi122 fxFm123 fxFm124 fxFm125 fxFi125 fxFm126 fxFm127 fxFi127 fxFm128 fxFi128 fxFm129 fxFm130 fxFi130 fxFm131 fxFi131 fxFm132 fxFm133 fxFi133 fxFm134 fxFm135 fxFm172 fxFi172 fxFm173 fxFm176 fxFi176 fxFm177 fxFi177 fxFm178 fxFi178 fxFm179 fxFm180 fxFm182 fxFi182 fxFm183
section
/-- slices.Index, of integers -/
def idxOf (x : Int) : List Int → Option Nat
  | [] => none
  | y :: r => if x = y then some 0 else (idxOf x r).map (· + 1)
def idxI (x : Int) (l : List Int) : Int := match idxOf x l with | some k => k | none => -1

theorem index_pure : PureOk Try.prog 133 (argM (cSl (rI .i64)) fun l => argM (cInt .i64) fun x => finM (if l.length ≤ 4294967296 then some (.v (.int .i64 (idxI x l))) else none)) := by
  refine pure2 Try.func133 rfl ?_
  rintro l x r hr
  by_cases hc : l.length ≤ 4294967296
  case neg => rw [if_neg hc] at hr; cases hr
  rw [if_pos hc] at hr
  simp only [Option.some.injEq] at hr
  subst hr
  refine body_gen noOrc_ok fxMix (by kernel_rfl) (by simp [Try.ntmps133]) ?_
  intro C cP cI cN cD cF cA cR cL
  replace cI : C.inl = fun _ => false := cI
  replace cR : C.rd = fun _ => none := cR
  replace cD : C.dyn = fun _ => [] := cD
  clear cP cN cF cA
  simp [Try.ntmps133, Try.results133, cSl, cI, cD, cR, rI]
  refine loop_for l.length (fun k (_ : Unit) => ([(0, .fsl false 1 (l.map (irow .i64))), (1, .v (.int .i64 x)), (7, .v (.int .i64 l.length)), (8, .v (.int .i64 k))], [])) (fun k _ => idxOf x l = (idxOf x (l.drop k)).map (· + k)) () hc (by simp) (by simp) ?_ ?_
  · intro k _ hk hall hw
    rw [List.drop_eq_getElem_cons hk, idxOf] at hall
    simp [Try.ntmps133, Try.results133, cSl, cI, cD, cR, hk, irow, hw]
    split
    · rename_i q
      rw [if_pos q] at hall
      simp [idxI, hall]
    · rename_i q
      rw [if_neg q] at hall
      rw [hall, Option.map_map]
      congr 1
      funext z
      simp; omega
  · intro _ hall
    simp [idxOf] at hall
    simp [Try.ntmps133, Try.results133, cSl, cI, cD, cR, idxI, hall]

theorem idxOf_iff (x : Int) (l : List Int) : (idxOf x l).isSome = true ↔ x ∈ l := by
  induction l with
  | nil => simp [idxOf]
  | cons y r ih =>
    simp only [idxOf]
    split
    · rename_i h; simp [h]
    · rename_i h; simp [h, ih]
theorem idxI_iff (x : Int) (l : List Int) : 0 ≤ idxI x l ↔ x ∈ l := by
  rw [← idxOf_iff]
  unfold idxI
  cases idxOf x l <;> simp

theorem contains_pure : PureOk Try.prog 128 (argM (cSl (rI .i64)) fun l => argM (cInt .i64) fun x => finM (if l.length ≤ 4294967296 then some (.v (.bool (decide (x ∈ l)))) else none)) := by
  refine pure2 Try.func128 rfl ?_
  rintro l x r hr
  by_cases hc : l.length ≤ 4294967296
  case neg => rw [if_neg hc] at hr; cases hr
  rw [if_pos hc] at hr
  simp only [Option.some.injEq] at hr
  subst hr
  refine body_gen (noOrc_ok.withP index_pure) fxMix (by kernel_rfl) (by simp [Try.ntmps128]) ?_
  intro C cP cI cN cD cF cA cR cL
  have cp0 := orcP index_pure (C := C) (by rw [cP]; rfl)
  replace cI : C.inl = fun _ => false := cI
  replace cR : C.rd = fun _ => none := cR
  replace cD : C.dyn = fun _ => [] := cD
  clear cP cN cF cA
  simp [Try.ntmps128, Try.results128, cSl, cp0, cI, cD, cR, rI, hc, idxI_iff]
end
section
structure Place where
  frame : Int
  at_ : Int
  deriving DecidableEq
def placeDec : Row → Option Place
  | [.v (.int .i64 x0), .v (.int .i64 x1)] => some ⟨x0, x1⟩
  | _ => none
def Place.row (e : Place) : Row := [.v (.int .i64 e.frame), .v (.int .i64 e.at_)]
def rPlace : RCod Place := RCod.plain 2 Place.row placeDec
  (fun e => rfl) (fun _ => rfl) (fun r e h => by
    unfold placeDec at h
    split at h
    · simp at h; subst h; rfl
    · cases h)
def Place.val (e : Place) : Value := .agg #[.int .i64 e.frame, .int .i64 e.at_]
theorem Place.eta (e : Place) : Place.mk e.frame e.at_ = e := rfl
attribute [local simp] Place.eta
theorem Place.cold (l : List Place) : coldR (l.map Place.row) = l.map Place.row := by
  induction l with
  | nil => simp [coldR]
  | cons e l ih => simp [coldR, coldC, AI.cold, ih, Place.row]
theorem Place.mapM (l : List Place) : (l.map Place.row).mapM placeDec = some l := mapM_dec rPlace l
theorem Place.mapMc (l : List Place) : l.mapM (placeDec ∘ Place.row) = some l := mapM_dec' rPlace l
theorem Place.view (H : Heap) (n : Nat) (e : Place) : List.map (AI.view H n) e.row = e.row := by cases n <;> simp [Place.row, AI.view]
theorem Place.viewc (H : Heap) (n : Nat) : List.map (AI.view H n) ∘ Place.row = Place.row := by funext e; exact Place.view H n e
theorem Place.hotR (l : List Place) : AI.hotR (l.map Place.row) = true := by
  induction l with
  | nil => simp [AI.hotR]
  | cons e l ih => simp [AI.hotR, hotC, hot, ih, Place.row]
theorem Place.ren (n : Nat) (th : List Nat) (e : Place) : List.map (AI.ren n th) e.row = e.row := by simp [Place.row, AI.ren]
theorem Place.renc (n : Nat) (th : List Nat) : List.map (AI.ren n th) ∘ Place.row = Place.row := by funext e; exact Place.ren n th e
theorem Place.low (n : Nat) (e : Place) : e.row.all (lowA n) = true := by simp [Place.row, lowA]
theorem Place.tau (fp : List Nat) (n : Nat) (e : Place) : List.map (AI.tau fp n) e.row = e.row := by simp [Place.row, AI.tau]
theorem Place.tauc (fp : List Nat) (n : Nat) : List.map (AI.tau fp n) ∘ Place.row = Place.row := by funext e; exact Place.tau fp n e
theorem Place.bare (e : Place) : e.row.all bareA = true := by simp [Place.row, bareA]
theorem Place.flat (l : List Place) : flat0 (l.map Place.row) = true := by simp [flat0, Place.low]
theorem Place.flat1 (e : Place) : flat0 [e.row] = true := by simp [flat0, Place.low]
theorem Place.exact : Exact rPlace := by
  intro r e h
  simp only [rPlace, RCod.plain] at h ⊢
  unfold placeDec at h
  split at h
  · simp at h; subst h; rfl
  · cases h
theorem Place.mapMt (k : Nat) (l : List Place) : (List.take k (l.map Place.row)).mapM placeDec = some (l.take k) := by rw [← List.map_take]; exact mapM_dec rPlace _
theorem Place.mapMd (k : Nat) (l : List Place) : (List.drop k (l.map Place.row)).mapM placeDec = some (l.drop k) := by rw [← List.map_drop]; exact mapM_dec rPlace _
theorem Place.coldt (k : Nat) (l : List Place) : coldR (List.take k (l.map Place.row)) = List.take k (l.map Place.row) := by rw [← List.map_take]; exact Place.cold _
theorem Place.coldd (k : Nat) (l : List Place) : coldR (List.drop k (l.map Place.row)) = List.drop k (l.map Place.row) := by rw [← List.map_drop]; exact Place.cold _
theorem Place.hotRt (k : Nat) (l : List Place) : AI.hotR (List.take k (l.map Place.row)) = true := by rw [← List.map_take]; exact Place.hotR _
theorem Place.hotRd (k : Nat) (l : List Place) : AI.hotR (List.drop k (l.map Place.row)) = true := by rw [← List.map_drop]; exact Place.hotR _
attribute [local simp] Place.hotRt Place.hotRd
attribute [local simp] Place.tau Place.tauc Place.bare Place.flat Place.flat1 Place.mapMt Place.mapMd Place.coldt Place.coldd
attribute [local simp] Place.cold Place.mapM Place.mapMc Place.view Place.viewc Place.hotR Place.ren Place.renc Place.low
structure Box where
  frame : Int
  used : List Int
  deriving DecidableEq
def boxDec : Row → Option Box
  | [.v (.int .i64 x0), a1] => match slDec (rI .i64) a1 with | some x1 => some ⟨x0, x1⟩ | _ => none
  | _ => none
def Box.row (e : Box) : Row := [.v (.int .i64 e.frame), .fsl false 1 (e.used.map (irow .i64))]
def Box.hrow (e : Box) : Row := [.v (.int .i64 e.frame), .fsl true 1 (e.used.map (irow .i64))]
theorem Box.eta (e : Box) : Box.mk e.frame e.used = e := rfl
theorem Box.dec_row (e : Box) : boxDec e.row = some e := by
  have h1 := (cSl (rI .i64)).de e.used
  simp only [cSl] at h1
  simp only [boxDec, Box.row]
  erw [h1]
theorem Box.dec_hrow (e : Box) : boxDec e.hrow = some e := Box.dec_row e
def rBox : RCod Box where
  sz := 2
  enc := Box.row
  dec := boxDec
  de := Box.dec_row
  len _ := rfl
  ok := by
    intro r e h β ok w n x hok hr
    unfold boxDec at h
    split at h
    · split at h
      · rename_i h1
        simp at h
        subst h
        refine ⟨rfl, fun j c hj => ?_⟩
        match j, hj with
        | 0, hj => simp [Box.row] at hj; subst hj; exact hr 0 _ rfl
        | 1, hj => simp [Box.row] at hj; subst hj; exact (cSl (rI .i64)).ok h1 hok (hr 1 _ rfl)
        | j + 2, hj => simp [Box.row] at hj
      · cases h
    · cases h
theorem Box.cold (l : List Box) : coldR (l.map Box.row) = l.map Box.row := by
  induction l with
  | nil => simp [coldR]
  | cons e l ih => simp [coldR, coldC, AI.cold, ih, Box.row, irow_cold]
theorem Box.hcold (l : List Box) : coldR (l.map Box.hrow) = l.map Box.row := by
  induction l with
  | nil => simp [coldR]
  | cons e l ih => simp [coldR, coldC, AI.cold, ih, Box.row, Box.hrow, irow_cold]
theorem Box.mapM (l : List Box) : (l.map Box.row).mapM boxDec = some l := mapM_dec rBox l
theorem Box.mapMc (l : List Box) : l.mapM (boxDec ∘ Box.row) = some l := mapM_dec' rBox l
theorem Box.hmapM (l : List Box) : (l.map Box.hrow).mapM boxDec = some l := by
  rw [List.mapM_map]
  have : boxDec ∘ Box.hrow = boxDec ∘ Box.row := by funext e; simp [Function.comp, Box.dec_row, Box.dec_hrow]
  rw [this]; exact Box.mapMc l
theorem Box.hmapMc (l : List Box) : l.mapM (boxDec ∘ Box.hrow) = some l := by
  have := Box.hmapM l
  rwa [List.mapM_map] at this
theorem Box.view (H : Heap) (n : Nat) (e : Box) : List.map (AI.view H n) e.row = e.row := by cases n <;> simp [Box.row, AI.view]
theorem Box.viewc (H : Heap) (n : Nat) : List.map (AI.view H n) ∘ Box.row = Box.row := by funext e; exact Box.view H n e
theorem Box.hview (H : Heap) (n : Nat) (e : Box) : List.map (AI.view H n) e.hrow = e.hrow := by cases n <;> simp [Box.hrow, AI.view]
theorem Box.hviewc (H : Heap) (n : Nat) : List.map (AI.view H n) ∘ Box.hrow = Box.hrow := by funext e; exact Box.hview H n e
theorem Box.hotR (l : List Box) : AI.hotR (l.map Box.hrow) = true := by
  induction l with
  | nil => simp [AI.hotR]
  | cons e l ih => simp [AI.hotR, hotC, hot, ih, Box.hrow, irow_hotR]
theorem Box.ren (n : Nat) (th : List Nat) (e : Box) : List.map (AI.ren n th) e.row = e.row := by simp [Box.row, AI.ren]
theorem Box.renc (n : Nat) (th : List Nat) : List.map (AI.ren n th) ∘ Box.row = Box.row := by funext e; exact Box.ren n th e
theorem Box.low (n : Nat) (e : Box) : e.row.all (lowA n) = true := by simp [Box.row, lowA]
theorem Box.hlow (n : Nat) (e : Box) : e.hrow.all (lowA n) = true := by simp [Box.hrow, lowA]
attribute [local simp] Box.hlow Box.eta Box.dec_row Box.dec_hrow Box.cold Box.hcold Box.mapM Box.mapMc Box.hmapM Box.hmapMc Box.view Box.viewc Box.hview Box.hviewc Box.hotR Box.ren Box.renc Box.low

structure Slb where
  size : Int
  boxes : List Box
  deriving DecidableEq
def slbDec : Row → Option Slb
  | [.v (.int .i64 x0), a1] => match slDec rBox a1 with | some x1 => some ⟨x0, x1⟩ | _ => none
  | _ => none
def Slb.row (e : Slb) : Row := [.v (.int .i64 e.size), .fsl false 2 (e.boxes.map Box.row)]
def Slb.hrow (e : Slb) : Row := [.v (.int .i64 e.size), .fsl true 2 (e.boxes.map Box.hrow)]
theorem Slb.eta (e : Slb) : Slb.mk e.size e.boxes = e := rfl
theorem Slb.dec_row (e : Slb) : slbDec e.row = some e := by
  have h1 := (cSl rBox).de e.boxes
  simp only [cSl] at h1
  simp only [slbDec, Slb.row]
  erw [h1]
theorem Slb.dec_hrow (e : Slb) : slbDec e.hrow = some e := by
  have h1 : slDec rBox (.fsl true 2 (e.boxes.map Box.hrow)) = some e.boxes := Box.hmapM _
  simp only [slbDec, Slb.hrow]
  erw [h1]
def rSlb : RCod Slb where
  sz := 2
  enc := Slb.row
  dec := slbDec
  de := Slb.dec_row
  len _ := rfl
  ok := by
    intro r e h β ok w n x hok hr
    unfold slbDec at h
    split at h
    · split at h
      · rename_i h1
        simp at h
        subst h
        refine ⟨rfl, fun j c hj => ?_⟩
        match j, hj with
        | 0, hj => simp [Slb.row] at hj; subst hj; exact hr 0 _ rfl
        | 1, hj => simp [Slb.row] at hj; subst hj; exact (cSl rBox).ok h1 hok (hr 1 _ rfl)
        | j + 2, hj => simp [Slb.row] at hj
      · cases h
    · cases h
attribute [local simp] Slb.eta Slb.dec_row Slb.dec_hrow

def newS (z : Int) : Int := if z < 1 ∨ 16 < z then 1 else 0
theorem new_pure : PureOk Try.prog 178 (argM (cInt .i64) fun z => finM (some (.v (.tuple #[.agg #[.int .i64 (if newS z = 0 then z else 0), .slice none 0 0], .int .i64 (newS z)])))) := by
  refine pure1 Try.func178 rfl ?_
  rintro z r hr
  simp only [Option.some.injEq] at hr
  subst hr
  refine body_gen noOrc_ok fxMix (by kernel_rfl) (by simp [Try.ntmps178]) ?_
  intro C cP cI cN cD cF cA cR cL
  replace cI : C.inl = fun _ => false := cI
  replace cR : C.rd = fun _ => none := cR
  replace cD : C.dyn = fun _ => [] := cD
  clear cP cN cF cA
  unfold newS
  by_cases h1 : z < 1
  · simp [Try.ntmps178, Try.results178, cSl, cI, cD, cR, h1]
  by_cases h2 : 16 < z
  · simp [Try.ntmps178, Try.results178, cSl, cI, cD, cR, h1, h2]
  · simp [Try.ntmps178, Try.results178, cSl, cI, cD, cR, h1, h2]
theorem per_pure : PureOk Try.prog 127 (argM (cAgg rSlb) fun s => finM (if 1 ≤ s.size ∧ s.size ≤ 16 then some (.v (.int .i64 ((16 / s.size.toNat : Nat) : Int))) else none)) := by
  refine pure1 Try.func127 rfl ?_
  rintro s r hr
  by_cases hc : 1 ≤ s.size ∧ s.size ≤ 16
  case neg => rw [if_neg hc] at hr; cases hr
  rw [if_pos hc] at hr
  simp only [Option.some.injEq] at hr
  subst hr
  refine body_gen noOrc_ok fxMix (by kernel_rfl) (by simp [Try.ntmps127]) ?_
  intro C cP cI cN cD cF cA cR cL
  replace cI : C.inl = fun _ => false := cI
  replace cR : C.rd = fun _ => none := cR
  replace cD : C.dyn = fun _ => [] := cD
  clear cP cN cF cA
  obtain ⟨z, L⟩ := s
  simp only at hc
  obtain ⟨z, rfl⟩ := Int.eq_ofNat_of_zero_le (show 0 ≤ z by omega)
  have h0 : ¬ z = 0 := by omega
  have h2 : 16 / z ≤ 16 := Nat.div_le_self _ _
  obtain ⟨q, hq⟩ : ∃ q, q = 16 / z := ⟨_, rfl⟩
  have h1 : (16 : Int).tdiv (z : Int) = (q : Int) := by rw [hq]; rfl
  have h3 : (16 : Int) / (z : Int) = (q : Int) := by rw [hq]; rfl
  rw [← hq] at h2
  have w1 : IntKind.i64.wrap (q : Int) = (q : Int) := w64 (by omega) (by omega)
  simp [Try.ntmps127, Try.results127, cSl, cI, cD, cR, rSlb, Slb.row, h0, h1, w1, h3]
/-- what is right of a place in a box -/
def okAt (z : Nat) (u : List Int) (k : Nat) : Bool :=
  let a := u[k]?.getD 0
  decide (0 ≤ a) && decide (a.toNat % z = 0) && decide (a.toNat / z < 16 / z) && (k == 0 || decide (u[k - 1]?.getD 0 < a))
def okBox (z : Nat) (L : List Box) (k : Nat) : Bool :=
  let b := L[k]?.getD ⟨0, []⟩
  decide (0 ≤ b.frame) && decide (b.frame < 64) && (k == 0 || decide ((L[k - 1]?.getD ⟨0, []⟩).frame < b.frame)) && !b.used.isEmpty && (List.range b.used.length).all (okAt z b.used)
def slCheck (s : Slb) : Int :=
  if newS s.size = 0 then (if 64 < s.boxes.length then 2 else if (List.range s.boxes.length).all (okBox s.size.toNat s.boxes) = true then 0 else 3) else 1
theorem okAt_iff {z : Nat} {u : List Int} {k : Nat} (hk : k < u.length) : okAt z u k = true ↔ 0 ≤ u[k] ∧ u[k].toNat % z = 0 ∧ u[k].toNat / z < 16 / z ∧ (0 < k → u[k - 1]'(by omega) < u[k]) := by
  unfold okAt
  simp only [List.getElem?_eq_getElem hk, Option.getD_some, Bool.and_eq_true, decide_eq_true_eq, Bool.or_eq_true, beq_iff_eq]
  by_cases h : k = 0
  · subst h; simp [and_assoc]
  · have h1 : k - 1 < u.length := by omega
    simp [List.getElem?_eq_getElem h1, h, Nat.pos_of_ne_zero h, and_assoc]
theorem okBox_iff {z : Nat} {L : List Box} {k : Nat} (hk : k < L.length) : okBox z L k = true ↔ 0 ≤ L[k].frame ∧ L[k].frame < 64 ∧ (0 < k → (L[k - 1]'(by omega)).frame < L[k].frame) ∧ L[k].used ≠ [] ∧ ∀ i, i < L[k].used.length → okAt z L[k].used i = true := by
  unfold okBox
  simp only [List.getElem?_eq_getElem hk, Option.getD_some, Bool.and_eq_true, decide_eq_true_eq, Bool.or_eq_true, beq_iff_eq, List.all_eq_true, List.mem_range]
  by_cases h : k = 0
  · subst h; simp [and_assoc]
  · have h1 : k - 1 < L.length := by omega
    simp [List.getElem?_eq_getElem h1, h, Nat.pos_of_ne_zero h, and_assoc]
/-- places that rise are few -/
theorem few {z : Nat} {u : List Int} (hz : 1 ≤ z) (hz2 : z ≤ 16) {k : Nat} (hk : k ≤ u.length) (h : ∀ i, i < k → okAt z u i = true) : k ≤ 16 := by
  have key : ∀ i (hi : i < k), (i : Int) ≤ u[i]'(by omega) := by
    intro i
    induction i with
    | zero => intro hi; have := (okAt_iff (by omega)).1 (h 0 hi); simpa using this.1
    | succ i ih =>
      intro hi
      have h1 := ih (by omega)
      have h2 := ((okAt_iff (by omega)).1 (h (i + 1) hi)).2.2.2 (by omega)
      simp only [Nat.add_sub_cancel] at h2
      omega
  apply Classical.byContradiction
  intro hn
  have h1 := key 16 (by omega)
  have h2 := (okAt_iff (by omega)).1 (h 16 (by omega))
  have h3 : 16 / z ≤ (u[16]'(by omega)).toNat / z := Nat.div_le_div_right (by omega)
  omega
def okS (s : Slb) : Prop := ∀ b ∈ s.boxes, ∀ a ∈ b.used, a ≤ 9223372036854775807
instance (s : Slb) : Decidable (okS s) := by unfold okS; infer_instance
theorem slCheck_pure : PureOk Try.prog 125 (argM (cAgg rSlb) fun s => finM (if okS s then some (.v (.int .i64 (slCheck s))) else none)) := by
  refine pure1 Try.func125 rfl ?_
  rintro s r hr
  by_cases hc : okS s
  case neg => rw [if_neg hc] at hr; cases hr
  rw [if_pos hc] at hr
  simp only [Option.some.injEq] at hr
  subst hr
  refine body_gen ((noOrc_ok.withP new_pure).withP per_pure) fxMix (by kernel_rfl) (by simp [Try.ntmps125]) ?_
  intro C cP cI cN cD cF cA cR cL
  have cp0 := orcP new_pure (C := C) (by rw [cP]; rfl)
  have cp1 := orcP per_pure (C := C) (by rw [cP]; rfl)
  replace cI : C.inl = fun _ => false := cI
  replace cR : C.rd = fun _ => none := cR
  replace cD : C.dyn = fun _ => [] := cD
  clear cP cN cF cA
  obtain ⟨z, L⟩ := s
  unfold slCheck
  simp only
  by_cases h0 : newS z = 0
  case neg =>
    have h1 : newS z = 1 := by unfold newS at h0 ⊢; split <;> simp_all
    simp [Try.ntmps125, Try.results125, cSl, cp0, cp1, cI, cD, cR, rSlb, Slb.row, h1]
  have hz : 1 ≤ z ∧ z ≤ 16 := by unfold newS at h0; split at h0 <;> simp_all
  obtain ⟨z, rfl⟩ := Int.eq_ofNat_of_zero_le (show 0 ≤ z by omega)
  have hz : 1 ≤ z ∧ z ≤ 16 := by omega
  have hz0 : ¬ z = 0 := by omega
  have hz1 : 1 ≤ (z : Int) ∧ (z : Int) ≤ 16 := by omega
  by_cases h1 : 64 < L.length
  · have h1' : (64 : Int) < L.length := by omega
    simp [Try.ntmps125, Try.results125, cSl, cp0, cp1, cI, cD, cR, rSlb, Slb.row, h0, h1, h1']
  have h1' : ¬ (64 : Int) < L.length := by omega
  simp [Try.ntmps125, Try.results125, cSl, cp0, cp1, cI, cD, cR, rSlb, Slb.row, h0, h1, h1']
  refine loop_for L.length (fun k (_ : Unit) => ([(1, .ptr 0 2 0 0), (23, .fsl false 2 (L.map Box.row)), (24, .v (.int .i64 L.length)), (25, .v (.int .i64 k))], [some (2, [Slb.row ⟨z, L⟩])])) (fun k _ => ∀ i, i < k → okBox z L i = true) () (by omega) (by omega) (by simp [Slb.row]) ?_ ?_
  · rintro k _ hk hall hw
    have hiff := okBox_iff (z := z) hk
    have hno : ¬ okBox z L k = true → (∀ x, x < L.length → okBox z L x = true) = False := fun h => eq_false fun h2 => h (h2 k hk)
    have hprev : 0 < k → (L.map Box.row)[k - 1]? = some (Box.row (L[k - 1]'(by omega))) := fun h => by simp [show k - 1 < L.length by omega]
    have w1 : 0 < k → IntKind.i64.wrap ((k : Int) - 1) = ((k - 1 : Nat) : Int) := fun h => by rw [w64 (by omega) (by omega)]; omega
    by_cases hk0 : k = 0
    · subst hk0
      generalize hb : L[0] = b at *
      obtain ⟨f, u⟩ := b
      simp only at hiff
      by_cases b1 : f < 0
      · have hn := hno (by rw [hiff]; omega)
        simp [Try.ntmps125, Try.results125, cSl, cp0, cp1, cI, cD, cR, hk, hb, Box.row, b1, hn]
      by_cases b2 : 64 ≤ f
      · have hn := hno (by rw [hiff]; omega)
        simp [Try.ntmps125, Try.results125, cSl, cp0, cp1, cI, cD, cR, hk, hb, Box.row, b1, b2, hn]
      by_cases b3 : u = []
      · have hn := hno (by rw [hiff]; simp [b3])
        simp [Try.ntmps125, Try.results125, cSl, cp0, cp1, cI, cD, cR, hk, hb, Box.row, b1, b2, b3, hn]
      have b3' : ¬ u.length = 0 := fun h => b3 (List.length_eq_zero_iff.1 h)
      have hS : ∀ a ∈ u, a ≤ 9223372036854775807 := hc ⟨f, u⟩ (by rw [← hb]; exact List.getElem_mem hk)
      simp [Try.ntmps125, Try.results125, cSl, cp0, cp1, cI, cD, cR, hk, hb, Box.row, b1, b2, b3, b3']
      refine loop_forB u.length (fun i (_ : Unit) => ([(1, .ptr 0 2 0 0), (6, .ptr 1 2 0 0), (23, .fsl false 2 (L.map Box.row)), (24, .v (.int .i64 L.length)), (25, .v (.int .i64 0)), (61, .fsl false 1 (u.map (irow .i64))), (62, .v (.int .i64 u.length)), (63, .v (.int .i64 i))], [some (2, [Slb.row ⟨z, L⟩]), some (2, [Box.row ⟨f, u⟩])])) (fun i _ => ∀ j, j < i → okAt z u j = true) () (fun i _ hi h => by have := few hz.1 hz.2 (by omega) h; omega) (by omega) (by simp [Slb.row, Box.row]) ?_ ?_
      · rintro i _ hi hgood hw2
        have hii := okAt_iff (z := z) hi
        have hi16 := few hz.1 hz.2 (Nat.le_of_lt hi) hgood
        have hbad : ¬ okAt z u i = true → (∀ x, x < L.length → okBox z L x = true) = False := fun h => hno (fun h2 => h ((hiff.1 h2).2.2.2.2 i hi))
        have hax : u[i] ≤ 9223372036854775807 := hS _ (List.getElem_mem hi)
        by_cases a1 : u[i] < 0
        · have hn := hbad (by rw [hii]; omega)
          simp [Try.ntmps125, Try.results125, cSl, cp0, cp1, cI, cD, cR, hi, irow, a1, hn, Slb.row, Box.row, rSlb, slbDec, rBox, rI, hz0, hz1]
        obtain ⟨x, hx⟩ := Int.eq_ofNat_of_zero_le (show 0 ≤ u[i] by omega)
        rw [hx] at hii hax
        rw [Int.toNat_natCast] at hii
        obtain ⟨q, hq⟩ : ∃ q, q = 16 / z := ⟨_, rfl⟩
        obtain ⟨xq, hxq⟩ : ∃ q, q = x / z := ⟨_, rfl⟩
        obtain ⟨xr, hxr⟩ : ∃ q, q = x % z := ⟨_, rfl⟩
        rw [← hq, ← hxq, ← hxr] at hii
        have e1 : Int.tmod (x : Int) (z : Int) = (xr : Int) := by rw [hxr]; rfl
        have e2 : Int.tdiv (x : Int) (z : Int) = (xq : Int) := by rw [hxq]; rfl
        have e3 : (16 : Int) / (z : Int) = (q : Int) := by rw [hq]; rfl
        have hxq2 : xq ≤ x := by rw [hxq]; exact Nat.div_le_self _ _
        have w3 : IntKind.i64.wrap (xq : Int) = (xq : Int) := w64 (by omega) (by omega)
        by_cases a2 : xr = 0
        case neg =>
          have a2' : ¬ (xr : Int) = 0 := by omega
          have hn := hbad (by rw [hii]; omega)
          simp [Try.ntmps125, Try.results125, cSl, cp0, cp1, cI, cD, cR, hi, irow, hx, a2, a2', e1, e2, e3, w3, hn, Slb.row, Box.row, rSlb, slbDec, rBox, rI, hz0, hz1]
        by_cases a3 : xq < q
        case neg =>
          have a3' : (q : Int) ≤ xq := by omega
          have a3'' : q ≤ xq := by omega
          have hn := hbad (by rw [hii]; omega)
          simp [Try.ntmps125, Try.results125, cSl, cp0, cp1, cI, cD, cR, hi, irow, hx, a2, a3', a3'', e1, e2, e3, w3, hn, Slb.row, Box.row, rSlb, slbDec, rBox, rI, hz0, hz1]
        have a3' : ¬ (q : Int) ≤ xq := by omega
        have a3'' : ¬ q ≤ xq := by omega
        have hlow : (Slb.row ⟨z, L⟩).all (lowA 2) = true := by simp [Slb.row, lowA]
        by_cases i0 : i = 0
        · subst i0
          have hg : okAt z u 0 = true := by rw [hii]; omega
          simp [Try.ntmps125, Try.results125, cSl, cp0, cp1, cI, cD, cR, hi, irow, hx, a2, a3', a3'', e1, e2, e3, w3, hw2, Slb.row, Box.row, rSlb, slbDec, rBox, rI, hz0, hz1]
          exact hg
        · have hpi : i - 1 < u.length := by omega
          have w4 : IntKind.i64.wrap ((i : Int) - 1) = ((i - 1 : Nat) : Int) := by rw [w64 (by omega) (by omega)]; omega
          have i1 : 0 < i := by omega
          have i2 : (0 : Int) < i := by omega
          by_cases a4 : u[i - 1] < x
          · have a4' : ¬ (x : Int) ≤ u[i - 1] := by omega
            have hg : ∀ j, j < i + 1 → okAt z u j = true := fun j hj => by
              by_cases e : j = i
              · subst e; rw [hii]; exact ⟨by omega, a2, a3, fun _ => a4⟩
              · exact hgood j (by omega)
            simp [Try.ntmps125, Try.results125, cSl, cp0, cp1, cI, cD, cR, hi, irow, hx, a2, a3', a3'', a4', e1, e2, e3, w3, w4, i0, i1, i2, hpi, hw2, Slb.row, Box.row, rSlb, slbDec, rBox, rI, hz0, hz1]
            exact hg
          · have a4' : (x : Int) ≤ u[i - 1] := by omega
            have hn := hbad (by rw [hii]; exact fun h => a4 (h.2.2.2 i1))
            simp [Try.ntmps125, Try.results125, cSl, cp0, cp1, cI, cD, cR, hi, irow, hx, a2, a3', a3'', a4', e1, e2, e3, w3, w4, i0, i1, i2, hpi, hw2, hn, Slb.row, Box.row, rSlb, slbDec, rBox, rI, hz0, hz1]
            done
      · rintro _ hgood
        have hgk : okBox z L 0 = true := by rw [hiff]; exact ⟨by omega, by omega, fun h => absurd h (Nat.lt_irrefl 0), b3, hgood⟩
        simp [Try.ntmps125, Try.results125, cSl, cp0, cp1, cI, cD, cR, hw, Slb.row]
        exact hgk
    · have hkp : 0 < k := by omega
      have hkp' : (0 : Int) < k := by omega
      have hpv := hprev hkp
      have wk := w1 hkp
      have hk1 : k - 1 < L.length := by omega
      have hgall : okBox z L k = true → ∀ i, i < k + 1 → okBox z L i = true := fun h i hi => by
        by_cases e : i = k
        · subst e; exact h
        · exact hall i (by omega)
      generalize hb : L[k] = b at *
      obtain ⟨f, u⟩ := b
      simp only at hiff
      by_cases b1 : f < 0
      · have hn := hno (by rw [hiff]; omega)
        simp [Try.ntmps125, Try.results125, cSl, cp0, cp1, cI, cD, cR, hk, hk0, hkp, hkp', hk1, wk, hb, Box.row, b1, hn]
      by_cases b2 : 64 ≤ f
      · have hn := hno (by rw [hiff]; omega)
        simp [Try.ntmps125, Try.results125, cSl, cp0, cp1, cI, cD, cR, hk, hk0, hkp, hkp', hk1, wk, hb, Box.row, b1, b2, hn]
      by_cases b4 : L[k - 1].frame < f
      case neg =>
        have b4' : f ≤ L[k - 1].frame := by omega
        have hn := hno (by rw [hiff]; exact fun h => b4 (h.2.2.1 hkp))
        simp [Try.ntmps125, Try.results125, cSl, cp0, cp1, cI, cD, cR, hk, hk0, hkp, hkp', hk1, wk, hb, Box.row, Slb.row, b1, b2, b4', hn]
      have b4' : ¬ f ≤ L[k - 1].frame := by omega
      by_cases b3 : u = []
      · have hn := hno (by rw [hiff]; simp [b3])
        simp [Try.ntmps125, Try.results125, cSl, cp0, cp1, cI, cD, cR, hk, hk0, hkp, hkp', hk1, wk, hb, Box.row, Slb.row, b1, b2, b3, b4', hn]
      have b3' : ¬ u.length = 0 := fun h => b3 (List.length_eq_zero_iff.1 h)
      have hS : ∀ a ∈ u, a ≤ 9223372036854775807 := hc ⟨f, u⟩ (by rw [← hb]; exact List.getElem_mem hk)
      simp [Try.ntmps125, Try.results125, cSl, cp0, cp1, cI, cD, cR, hk, hk0, hkp, hkp', hk1, wk, hb, Box.row, Slb.row, b1, b2, b3, b3', b4']
      refine loop_forB u.length (fun i (_ : Unit) => ([(1, .ptr 0 2 0 0), (6, .ptr 1 2 0 0), (23, .fsl false 2 (L.map Box.row)), (24, .v (.int .i64 L.length)), (25, .v (.int .i64 k)), (61, .fsl false 1 (u.map (irow .i64))), (62, .v (.int .i64 u.length)), (63, .v (.int .i64 i))], [some (2, [Slb.row ⟨z, L⟩]), some (2, [Box.row ⟨f, u⟩])])) (fun i _ => ∀ j, j < i → okAt z u j = true) () (fun i _ hi h => by have := few hz.1 hz.2 (by omega) h; omega) (by omega) (by simp [Slb.row, Box.row]) ?_ ?_
      · rintro i _ hi hgood hw2
        have hii := okAt_iff (z := z) hi
        have hi16 := few hz.1 hz.2 (Nat.le_of_lt hi) hgood
        have hbad : ¬ okAt z u i = true → (∀ x, x < L.length → okBox z L x = true) = False := fun h => hno (fun h2 => h ((hiff.1 h2).2.2.2.2 i hi))
        have hax : u[i] ≤ 9223372036854775807 := hS _ (List.getElem_mem hi)
        by_cases a1 : u[i] < 0
        · have hn := hbad (by rw [hii]; omega)
          simp [Try.ntmps125, Try.results125, cSl, cp0, cp1, cI, cD, cR, hi, irow, a1, hn, Slb.row, Box.row, rSlb, slbDec, rBox, rI, hz0, hz1]
        obtain ⟨x, hx⟩ := Int.eq_ofNat_of_zero_le (show 0 ≤ u[i] by omega)
        rw [hx] at hii hax
        rw [Int.toNat_natCast] at hii
        obtain ⟨q, hq⟩ : ∃ q, q = 16 / z := ⟨_, rfl⟩
        obtain ⟨xq, hxq⟩ : ∃ q, q = x / z := ⟨_, rfl⟩
        obtain ⟨xr, hxr⟩ : ∃ q, q = x % z := ⟨_, rfl⟩
        rw [← hq, ← hxq, ← hxr] at hii
        have e1 : Int.tmod (x : Int) (z : Int) = (xr : Int) := by rw [hxr]; rfl
        have e2 : Int.tdiv (x : Int) (z : Int) = (xq : Int) := by rw [hxq]; rfl
        have e3 : (16 : Int) / (z : Int) = (q : Int) := by rw [hq]; rfl
        have hxq2 : xq ≤ x := by rw [hxq]; exact Nat.div_le_self _ _
        have w3 : IntKind.i64.wrap (xq : Int) = (xq : Int) := w64 (by omega) (by omega)
        by_cases a2 : xr = 0
        case neg =>
          have a2' : ¬ (xr : Int) = 0 := by omega
          have hn := hbad (by rw [hii]; omega)
          simp [Try.ntmps125, Try.results125, cSl, cp0, cp1, cI, cD, cR, hi, irow, hx, a2, a2', e1, e2, e3, w3, hn, Slb.row, Box.row, rSlb, slbDec, rBox, rI, hz0, hz1]
        by_cases a3 : xq < q
        case neg =>
          have a3' : (q : Int) ≤ xq := by omega
          have a3'' : q ≤ xq := by omega
          have hn := hbad (by rw [hii]; omega)
          simp [Try.ntmps125, Try.results125, cSl, cp0, cp1, cI, cD, cR, hi, irow, hx, a2, a3', a3'', e1, e2, e3, w3, hn, Slb.row, Box.row, rSlb, slbDec, rBox, rI, hz0, hz1]
        have a3' : ¬ (q : Int) ≤ xq := by omega
        have a3'' : ¬ q ≤ xq := by omega
        have hlow : (Slb.row ⟨z, L⟩).all (lowA 2) = true := by simp [Slb.row, lowA]
        by_cases i0 : i = 0
        · subst i0
          have hg : okAt z u 0 = true := by rw [hii]; omega
          simp [Try.ntmps125, Try.results125, cSl, cp0, cp1, cI, cD, cR, hi, irow, hx, a2, a3', a3'', e1, e2, e3, w3, hw2, Slb.row, Box.row, rSlb, slbDec, rBox, rI, hz0, hz1]
          exact hg
        · have hpi : i - 1 < u.length := by omega
          have w4 : IntKind.i64.wrap ((i : Int) - 1) = ((i - 1 : Nat) : Int) := by rw [w64 (by omega) (by omega)]; omega
          have i1 : 0 < i := by omega
          have i2 : (0 : Int) < i := by omega
          by_cases a4 : u[i - 1] < x
          · have a4' : ¬ (x : Int) ≤ u[i - 1] := by omega
            have hg : ∀ j, j < i + 1 → okAt z u j = true := fun j hj => by
              by_cases e : j = i
              · subst e; rw [hii]; exact ⟨by omega, a2, a3, fun _ => a4⟩
              · exact hgood j (by omega)
            simp [Try.ntmps125, Try.results125, cSl, cp0, cp1, cI, cD, cR, hi, irow, hx, a2, a3', a3'', a4', e1, e2, e3, w3, w4, i0, i1, i2, hpi, hw2, Slb.row, Box.row, rSlb, slbDec, rBox, rI, hz0, hz1]
            exact hg
          · have a4' : (x : Int) ≤ u[i - 1] := by omega
            have hn := hbad (by rw [hii]; exact fun h => a4 (h.2.2.2 i1))
            simp [Try.ntmps125, Try.results125, cSl, cp0, cp1, cI, cD, cR, hi, irow, hx, a2, a3', a3'', a4', e1, e2, e3, w3, w4, i0, i1, i2, hpi, hw2, hn, Slb.row, Box.row, rSlb, slbDec, rBox, rI, hz0, hz1]
            done
      · rintro _ hgood
        have hgk : okBox z L k = true := by rw [hiff]; exact ⟨by omega, by omega, fun _ => b4, b3, hgood⟩
        simp [Try.ntmps125, Try.results125, cSl, cp0, cp1, cI, cD, cR, hw, Slb.row]
        exact hgall hgk
  · rintro _ hall
    have hyes : (∀ x, x < L.length → okBox z L x = true) = True := eq_true fun x hx => hall x hx
    simp [Try.ntmps125, Try.results125, cSl, cp0, cp1, cI, cD, cR, hyes]
end
section
attribute [local simp] Place.eta Place.cold Place.mapM Place.mapMc Place.view Place.viewc Place.hotR Place.ren Place.renc Place.low Place.tau Place.tauc Place.bare Place.flat Place.flat1 Place.mapMt Place.mapMd Place.coldt Place.coldd Place.hotRt Place.hotRd
attribute [local simp] Box.eta Box.dec_row Box.dec_hrow Box.cold Box.hcold Box.mapM Box.mapMc Box.hmapM Box.hmapMc Box.view Box.viewc Box.hview Box.hviewc Box.hotR Box.ren Box.renc Box.low Box.hlow
attribute [local simp] Slb.eta Slb.dec_row Slb.dec_hrow
theorem clBox : InlOk Try.prog 179 (cloneI 2) := by
  refine inl_soft Try.func179 rfl ?_
  intro args H r H' hr
  rcases cloneI_some hr with ⟨o, rows, rfl, hl, hc⟩ | ⟨id, st, k, kc, rows, rfl, hob, hle, hl, hc⟩ | ⟨rfl, rfl, rfl⟩
  · refine ⟨by simp [Try.ntmps179], wpA_sound noOrc_ok fxMix _ _ _ _ (by kernel_rfl) ?_⟩
    rcases hc with ⟨rfl, rfl, rfl⟩ | ⟨h0, rfl, rfl⟩
    · simp [Try.ntmps179, Try.results179, noOrc]
    · simp [Try.ntmps179, Try.results179, h0, hl, noOrc]
  · refine ⟨by simp [Try.ntmps179], wpA_sound noOrc_ok fxMix _ _ _ _ (by kernel_rfl) ?_⟩
    have hob' := obj_get hob
    have e1 : min k (rows.length - st) = k := by omega
    have e2 : st + k ≤ rows.length := hle
    have e3 : st ≤ rows.length := by omega
    rcases hc with ⟨rfl, rfl, rfl⟩ | ⟨h0, rfl, rfl⟩
    · simp [Try.ntmps179, Try.results179, noOrc, hob', e2, e3]
    · simp [Try.ntmps179, Try.results179, hl, noOrc, hob', e1, e2, h0]
  · refine ⟨by simp [Try.ntmps179], wpA_sound noOrc_ok fxMix _ _ _ _ (by kernel_rfl) ?_⟩
    simp [Try.ntmps179, Try.results179, noOrc]
theorem clInt : InlOk Try.prog 46 (cloneI 1) := by
  refine inl_soft Try.func46 rfl ?_
  intro args H r H' hr
  rcases cloneI_some hr with ⟨o, rows, rfl, hl, hc⟩ | ⟨id, st, k, kc, rows, rfl, hob, hle, hl, hc⟩ | ⟨rfl, rfl, rfl⟩
  · refine ⟨by simp [Try.ntmps46], wpA_sound noOrc_ok fxMix _ _ _ _ (by kernel_rfl) ?_⟩
    rcases hc with ⟨rfl, rfl, rfl⟩ | ⟨h0, rfl, rfl⟩
    · simp [Try.ntmps46, Try.results46, noOrc]
    · simp [Try.ntmps46, Try.results46, h0, hl, noOrc]
  · refine ⟨by simp [Try.ntmps46], wpA_sound noOrc_ok fxMix _ _ _ _ (by kernel_rfl) ?_⟩
    have hob' := obj_get hob
    have e1 : min k (rows.length - st) = k := by omega
    have e2 : st + k ≤ rows.length := hle
    have e3 : st ≤ rows.length := by omega
    rcases hc with ⟨rfl, rfl, rfl⟩ | ⟨h0, rfl, rfl⟩
    · simp [Try.ntmps46, Try.results46, noOrc, hob', e2, e3]
    · simp [Try.ntmps46, Try.results46, hl, noOrc, hob', e1, e2, h0]
  · refine ⟨by simp [Try.ntmps46], wpA_sound noOrc_ok fxMix _ _ _ _ (by kernel_rfl) ?_⟩
    simp [Try.ntmps46, Try.results46, noOrc]
/-- boxes, copied up to one: each one's places are an object's -/
def ownB (c : Nat) (x : Box) : Row := [.v (.int .i64 x.frame), .osl c 1 0 x.used.length x.used.length]
def mixA (k c : Nat) (L : List Box) : List Row := L.mapIdx fun i x => if i < k then ownB (c + i) x else x.row
def rowsA (c : Nat) (L : List Box) : List Row := L.mapIdx fun i x => ownB (c + i) x
def tailA (L : List Box) : Heap := L.map fun x => some (1, x.used.map (irow .i64))
theorem mixA_len {k c : Nat} {L : List Box} : (mixA k c L).length = L.length := by simp [mixA]
theorem rowsA_len {c : Nat} {L : List Box} : (rowsA c L).length = L.length := by simp [rowsA]
theorem tailA_len {L : List Box} : (tailA L).length = L.length := by simp [tailA]
theorem mixA_get {k c i : Nat} {L : List Box} (hi : i < L.length) : (mixA k c L)[i]? = some (if i < k then ownB (c + i) L[i] else L[i].row) := by
  simp [mixA, List.getElem?_mapIdx, hi]
theorem rowsA_get {c i : Nat} {L : List Box} (hi : i < L.length) : (rowsA c L)[i]? = some (ownB (c + i) L[i]) := by
  simp [rowsA, List.getElem?_mapIdx, hi]
theorem mixA_zero {c : Nat} {L : List Box} : mixA 0 c L = L.map Box.row := by
  apply List.ext_getElem?
  intro i
  simp [mixA, List.getElem?_mapIdx]
theorem mixA_all {c : Nat} {L : List Box} : mixA L.length c L = rowsA c L := by
  apply List.ext_getElem?
  intro i
  by_cases hi : i < L.length
  · rw [mixA_get hi, rowsA_get hi, if_pos hi]
  · rw [List.getElem?_eq_none (by rw [mixA_len]; omega), List.getElem?_eq_none (by rw [rowsA_len]; omega)]
theorem mixA_set {k c : Nat} {L : List Box} (hk : k < L.length) : (mixA k c L).set k (ownB (c + k) L[k]) = mixA (k + 1) c L := by
  apply List.ext_getElem?
  intro i
  by_cases hi : i < L.length
  · rw [mixA_get hi]
    by_cases e : i = k
    · subst e
      rw [List.getElem?_set_self (by rw [mixA_len]; exact hi), if_pos (show i < i + 1 by omega)]
    · rw [List.getElem?_set_ne (fun h => e h.symm), mixA_get hi]
      by_cases h : i < k
      · rw [if_pos h, if_pos (show i < k + 1 by omega)]
      · rw [if_neg h, if_neg (show ¬ i < k + 1 by omega)]
  · rw [List.getElem?_eq_none (by rw [List.length_set, mixA_len]; omega), List.getElem?_eq_none (by rw [mixA_len]; omega)]
theorem mixA_low {k c n : Nat} {L : List Box} (h : c + k ≤ n) : ((mixA k c L).all fun row => row.all (lowA n)) = true := by
  rw [List.all_eq_true]
  intro r hr
  obtain ⟨i, hi⟩ := List.getElem?_of_mem hr
  have hil : i < L.length := by have := (List.getElem?_eq_some_iff.1 hi).1; rwa [mixA_len] at this
  rw [mixA_get hil] at hi
  simp only [Option.some.injEq] at hi
  subst hi
  split
  · simp [ownB, lowA]; omega
  · simp [Box.row, lowA]
theorem rowsA_low {c n : Nat} {L : List Box} (h : c + L.length ≤ n) : ((rowsA c L).all fun row => row.all (lowA n)) = true := by
  rw [← mixA_all]; exact mixA_low h
theorem tailA_succ {k : Nat} {L : List Box} (hk : k < L.length) : tailA (L.take (k + 1)) = tailA (L.take k) ++ [some (1, L[k].used.map (irow .i64))] := by
  unfold tailA
  rw [List.take_succ_eq_append_getElem hk, List.map_append]; rfl
theorem tailA_self {n : Nat} : ∀ {L : List Box}, heapW n (tailA L) (tailA L)
  | [] => trivial
  | b :: L => by
    have := tailA_self (n := n) (L := L)
    simp only [tailA, List.map_cons, heapW] at this ⊢
    simp [irow_low]
    exact this
def slVA (s : Slb) (b : Nat) : AVal := .agg [.v (.int .i64 s.size), oA b 2 s.boxes.length]
def slHA (s : Slb) (b : Nat) : Heap := if s.boxes = [] then [] else some (2, rowsA (b + 1) s.boxes) :: tailA s.boxes
theorem cpyA_own : InlOk Try.prog 126 (own0 (argG (cAgg rSlb) fun s => finG (if s.boxes.length ≤ 64 ∧ ∀ b ∈ s.boxes, b.used ≠ [] ∧ b.used.length ≤ 64 then some ((slVA s 2, none :: none :: slHA s 2)) else none))) := by
  refine ownE_1 Try.func126 rfl ?_
  rintro s r H' hr
  by_cases hc : s.boxes.length ≤ 64 ∧ ∀ b ∈ s.boxes, b.used ≠ [] ∧ b.used.length ≤ 64
  case neg => rw [if_neg hc] at hr; cases hr
  rw [if_pos hc] at hr
  simp only [Option.some.injEq, Prod.mk.injEq] at hr
  obtain ⟨rfl, rfl⟩ := hr
  refine bodyE_of (((noOrc_ok.withIF clBox clone_loc).withIF clInt clone_loc).withD (fun i => if i = 5 then [(1,9)] else [])) fxMix (by kernel_rfl) (by simp [Try.ntmps126]) ?_
  intro C cP cI cN cD cF cA cR cL
  have cn0 := orcI clBox (C := C) (by rw [cN]; rfl)
  have cn1 := orcI clInt (C := C) (by rw [cN]; rfl)
  replace cI := fun g => congrFun cI g
  simp only [Orc.withP, Orc.withI, Orc.withF, Orc.withD, Orc.withA, Orc.withR, Orc.withC, noOrc] at cI
  replace cR : C.rd = fun _ => none := cR
  replace cD : C.dyn = fun i => if i = 5 then [(1,9)] else [] := cD
  replace cF := fun g => congrFun cF g
  simp only [Orc.withP, Orc.withI, Orc.withF, Orc.withD, Orc.withA, Orc.withR, Orc.withC, noOrc] at cF
  replace cA : C.alt = fun _ => [] := cA
  clear cP cN
  obtain ⟨z, L⟩ := s
  simp only at hc
  obtain ⟨hL, hc⟩ := hc
  have hL2 : L.length ≤ 4294967296 := by omega
  by_cases h1 : L = []
  · subst h1
    simp [Try.ntmps126, Try.results126, cSl, cn0, cn1, cI, cD, cR, cF, cA, rSlb, Slb.row, cloneI]
    refine loop_rounds 1 ?_
    simp [Try.ntmps126, Try.results126, cSl, cn0, cn1, cI, cD, cR, cF, cA, UnrK, slVA, slHA, oA]
    exact .weak (by simp)
  have h1' : ¬ L.length = 0 := fun h => h1 (List.length_eq_zero_iff.1 h)
  simp [Try.ntmps126, Try.results126, cSl, cn0, cn1, cI, cD, cR, cF, cA, rSlb, Slb.row, cloneI, h1, hL2]
  refine loop_forE L.length (fun k (_ : Unit) => ([(1, .ptr 0 2 0 0), (2, .ptr 1 2 0 0), (10, .v (.int .i64 L.length)), (11, .v (.int .i64 k))], [some (2, [[.v (.int .i64 z), .osl 2 2 0 L.length L.length]]), some (2, [[.v (.int .i64 0), .v (.slice none 0 0)]]), some (2, mixA k 3 L)] ++ tailA (L.take k))) (fun k _ => True) () (by rintro k _ h _; omega) trivial ?_ ?_ ?_
  · refine Ent.weak ?_
    simp [mixA_zero, tailA]
  · rintro k _ hk _ hw
    have hgm := mixA_get (k := k) (c := 3) hk
    rw [if_neg (Nat.lt_irrefl k)] at hgm
    have hln : (mixA k 3 L).length = L.length := mixA_len
    have hg2 : (mixA k 3 L)[k]'(by rw [hln]; exact hk) = L[k].row := by
      rw [List.getElem?_eq_getElem (by rw [hln]; exact hk)] at hgm
      simpa using hgm
    have hs := mixA_set (c := 3) hk
    have hT := tailA_succ hk
    have hTl : (tailA (L.take k)).length = k := by rw [tailA_len]; simp; omega
    obtain ⟨hu0, hu64⟩ := hc _ (List.getElem_mem hk)
    generalize hb : L[k] = b at *
    obtain ⟨f, u⟩ := b
    simp only at hu0 hu64
    have hu2 : u.length ≤ 4294967296 := by omega
    simp [Try.ntmps126, Try.results126, cSl, cn0, cn1, cI, cD, cR, cF, cA, hk, hw, hg2, hln, Box.row, cloneI, hu0, hu2, hTl]
    simp only [ownB] at hs
    refine ⟨(), trivial, ?_⟩
    simp only at hT
    rw [show k + 1 + 1 + 1 = 3 + k by omega, hs, ← hT]
    exact Ent.env (by simp)
  · rintro _ _
    have hlow : ((rowsA 3 L).all fun row => row.all (lowA ((tailA L).length + 3))) = true := rowsA_low (by rw [tailA_len]; omega)
    simp [Try.ntmps126, Try.results126, cSl, cn0, cn1, cI, cD, cR, cF, cA, mixA_all, slVA, slHA, oA, h1]
    refine .weak ?_
    simp
    exact ⟨by simpa using hlow, tailA_self⟩
theorem slA_new (s : Slb) (b : Nat) : newA (slVA s b) = true := by
  simp only [slVA, newA, newC, oA]; split <;> rfl
theorem rowsA_new (c : Nat) (L : List Box) : ((rowsA c L).all fun row => row.all newA) = true := by
  rw [List.all_eq_true]
  intro r hr
  obtain ⟨i, hi⟩ := List.getElem?_of_mem hr
  have hil : i < L.length := by have := (List.getElem?_eq_some_iff.1 hi).1; rwa [rowsA_len] at this
  rw [rowsA_get hil] at hi
  simp only [Option.some.injEq] at hi
  subst hi
  simp [ownB, newA]
theorem tailA_new : ∀ L : List Box, newH (tailA L) = true
  | [] => rfl
  | b :: L => by
    have := tailA_new L
    simp only [tailA, List.map_cons, newH] at this ⊢
    simp [irow, newA]
    exact this
theorem slA_newH (s : Slb) (b : Nat) : newH (slHA s b) = true := by
  unfold slHA
  split
  · rfl
  · simp only [newH, rowsA_new, tailA_new, Bool.true_and]
theorem slA_tau (s : Slb) (b n : Nat) : tau [] n (slVA s b) = slVA s (n + b) := by
  simp only [slVA, tau, tauC, tau_oA]
theorem rowsA_tau (c n : Nat) (L : List Box) : (rowsA c L).map (List.map (tau [] n)) = rowsA (n + c) L := by
  apply List.ext_getElem?
  intro i
  rw [List.getElem?_map]
  by_cases hi : i < L.length
  · rw [rowsA_get hi, rowsA_get hi]
    simp [ownB, tau, tauI]; omega
  · rw [List.getElem?_eq_none (by rw [rowsA_len]; omega), List.getElem?_eq_none (by rw [rowsA_len]; omega)]; rfl
theorem tailA_tau (n : Nat) : ∀ L : List Box, (tailA L).map (tauO [] n) = tailA L
  | [] => rfl
  | b :: L => by
    have := tailA_tau n L
    simp only [tailA, List.map_cons, tauO] at this ⊢
    rw [this]
    simp [irow_tauc]
theorem slA_tauO (s : Slb) (b n : Nat) : (slHA s b).map (tauO [] n) = slHA s (n + b) := by
  unfold slHA
  split
  · rfl
  · simp only [List.map_cons, tauO, tailA_tau, rowsA_tau]
    rfl
theorem cpyA_inl : InlOk Try.prog 126 (frameN (own0 (argG (cAgg rSlb) fun s => finG (if s.boxes.length ≤ 64 ∧ ∀ b ∈ s.boxes, b.used ≠ [] ∧ b.used.length ≤ 64 then some ((slVA s 2, none :: none :: slHA s 2)) else none)))) := frameN_ok (cpyA_own )
end
end
section
/-- places of a box that is right: they rise, and are multiples -/
def OkU (z : Nat) (u : List Int) : Prop := u.Pairwise (· < ·) ∧ ∀ a ∈ u, 0 ≤ a ∧ a.toNat % z = 0 ∧ a.toNat / z < 16 / z
def OkL (z : Nat) (L : List Box) : Prop := (L.map Box.frame).Pairwise (· < ·) ∧ ∀ b ∈ L, 0 ≤ b.frame ∧ b.frame < 64 ∧ b.used ≠ [] ∧ OkU z b.used
theorem pw_step {l : List Int} (h : ∀ k, 0 < k → (hk : k < l.length) → l[k - 1] < l[k]) : l.Pairwise (· < ·) := by
  rw [List.pairwise_iff_getElem]
  intro i j hi hj hij
  induction j with
  | zero => omega
  | succ j ih =>
    have h1 := h (j + 1) (by omega) hj
    simp only [Nat.add_sub_cancel] at h1
    by_cases e : i = j
    · subst e; exact h1
    · have := ih (by omega) (by omega); omega
theorem okU_iff {z : Nat} {u : List Int} : (∀ i, i < u.length → okAt z u i = true) ↔ OkU z u := by
  constructor
  · intro h
    refine ⟨pw_step fun k h0 hk => ((okAt_iff hk).1 (h k hk)).2.2.2 h0, fun a ha => ?_⟩
    obtain ⟨i, hi, rfl⟩ := List.getElem_of_mem ha
    have := (okAt_iff hi).1 (h i hi)
    exact ⟨this.1, this.2.1, this.2.2.1⟩
  · rintro ⟨h1, h2⟩ i hi
    rw [okAt_iff hi]
    obtain ⟨a, b, c⟩ := h2 _ (List.getElem_mem hi)
    refine ⟨a, b, c, fun h0 => ?_⟩
    rw [List.pairwise_iff_getElem] at h1
    exact h1 (i - 1) i (by omega) hi (by omega)
theorem sl_ok {s : Slb} : slCheck s = 0 ↔ 1 ≤ s.size ∧ s.size ≤ 16 ∧ s.boxes.length ≤ 64 ∧ OkL s.size.toNat s.boxes := by
  unfold slCheck newS
  by_cases h0 : s.size < 1 ∨ 16 < s.size
  · rw [if_pos h0, if_neg (by omega)]; omega
  · rw [if_neg h0, if_pos rfl]
    by_cases h1 : 64 < s.boxes.length
    · rw [if_pos h1]; simp; omega
    · rw [if_neg h1]
      have key : (List.range s.boxes.length).all (okBox s.size.toNat s.boxes) = true ↔ OkL s.size.toNat s.boxes := by
        rw [List.all_eq_true]
        simp only [List.mem_range]
        constructor
        · intro h
          refine ⟨pw_step fun k h0 hk => ?_, fun b hb => ?_⟩
          · simp only [List.length_map] at hk
            have := ((okBox_iff hk).1 (h k hk)).2.2.1 h0
            simpa using this
          · obtain ⟨i, hi, rfl⟩ := List.getElem_of_mem hb
            obtain ⟨a, b, _, c, d⟩ := (okBox_iff hi).1 (h i hi)
            exact ⟨a, b, c, okU_iff.1 d⟩
        · rintro ⟨h1, h2⟩ i hi
          obtain ⟨a, b, c, d⟩ := h2 _ (List.getElem_mem hi)
          rw [okBox_iff hi]
          refine ⟨a, b, fun h0 => ?_, c, okU_iff.2 d⟩
          rw [List.pairwise_iff_getElem] at h1
          have := h1 (i - 1) i (by simp; omega) (by simpa using hi) (by omega)
          simpa using this
      split
      · rename_i h; exact ⟨fun _ => ⟨by omega, by omega, by omega, key.1 h⟩, fun _ => rfl⟩
      · rename_i h
        constructor
        · intro h2; simp at h2
        · rintro ⟨_, _, _, h3⟩; exact absurd (key.2 h3) h
theorem okU_16 {z : Nat} {u : List Int} (h1 : 1 ≤ z) (h2 : z ≤ 16) (h : OkU z u) : u.length ≤ 16 := few h1 h2 (Nat.le_refl _) (okU_iff.2 h)
theorem okU_lt {z : Nat} {u : List Int} (h : OkU z u) : ∀ a ∈ u, 0 ≤ a ∧ a < 16 := by
  intro a ha
  obtain ⟨b, c, d⟩ := h.2 a ha
  refine ⟨b, ?_⟩
  apply Classical.byContradiction
  intro hn
  have h3 : 16 / z ≤ a.toNat / z := Nat.div_le_div_right (by omega)
  omega
theorem okS_of {s : Slb} (h : slCheck s = 0) : okS s := by
  obtain ⟨h1, h2, h3, h4⟩ := sl_ok.1 h
  intro b hb a ha
  have := okU_lt (z := s.size.toNat) (h4.2 b hb).2.2.2 a ha
  omega
/-- the first place that is free -/
def hole (z : Nat) (u : List Int) : Option Nat := (List.range (16 / z)).find? fun k => !decide (((k * z : Nat) : Int) ∈ u)
theorem hole_some {z : Nat} {u : List Int} {k : Nat} (h : hole z u = some k) : k < 16 / z ∧ ((k * z : Nat) : Int) ∉ u ∧ ∀ j, j < k → ((j * z : Nat) : Int) ∈ u := by
  unfold hole at h
  rw [List.find?_range_eq_some] at h
  simp only [Bool.not_eq_true', decide_eq_false_iff_not, List.mem_range, Bool.not_not, decide_eq_true_eq] at h
  exact ⟨h.2.1, h.1, h.2.2⟩
theorem hole_none {z : Nat} {u : List Int} (h : hole z u = none) : ∀ j, j < 16 / z → ((j * z : Nat) : Int) ∈ u := by
  unfold hole at h
  rw [List.find?_eq_none] at h
  simpa using h
/-- in a box the i-th place is no less than the i-th multiple -/
theorem okU_ge {z : Nat} {u : List Int} (hz : 1 ≤ z) (h : OkU z u) : ∀ i (hi : i < u.length), ((i * z : Nat) : Int) ≤ u[i] := by
  intro i
  induction i with
  | zero => intro hi; have := (h.2 _ (List.getElem_mem hi)).1; simpa using this
  | succ i ih =>
    intro hi
    have h1 := ih (by omega)
    have h2 := List.pairwise_iff_getElem.1 h.1 i (i + 1) (by omega) hi (by omega)
    obtain ⟨a0, a1, _⟩ := h.2 _ (List.getElem_mem (show i < u.length by omega))
    obtain ⟨b0, b1, _⟩ := h.2 _ (List.getElem_mem hi)
    obtain ⟨p, hp⟩ := Nat.dvd_of_mod_eq_zero a1
    obtain ⟨q, hq⟩ := Nat.dvd_of_mod_eq_zero b1
    have e1 : u[i].toNat < u[i + 1].toNat := by omega
    rw [hp, hq] at e1
    have hpq : p < q := Nat.lt_of_mul_lt_mul_left e1
    have h3 : i * z ≤ z * p := by omega
    rw [Nat.mul_comm] at h3
    have hip : i ≤ p := Nat.le_of_mul_le_mul_left h3 (by omega)
    have h4 : z * (i + 1) ≤ z * q := Nat.mul_le_mul_left _ (by omega)
    rw [Nat.mul_comm z (i + 1)] at h4
    omega
theorem okU_eq {z : Nat} {u : List Int} (hz : 1 ≤ z) (h : OkU z u) {k : Nat} (hk : ∀ j, j < k → ((j * z : Nat) : Int) ∈ u) : k ≤ u.length ∧ ∀ i, i < k → u[i]? = some ((i * z : Nat) : Int) := by
  have hall : ∀ i, i < k → ∃ hi : i < u.length, u[i] = ((i * z : Nat) : Int) := by
    intro i
    induction i using Nat.strongRecOn with
    | ind i ih =>
      intro hi
      obtain ⟨m, hm, he⟩ := List.getElem_of_mem (hk i hi)
      have hge := okU_ge hz h m hm
      rw [he] at hge
      have hmi : m ≤ i := by
        have : m * z ≤ i * z := by omega
        exact Nat.le_of_mul_le_mul_right this (by omega)
      rcases Nat.lt_or_eq_of_le hmi with hlt | heq
      · obtain ⟨_, h2⟩ := ih m hlt (by omega)
        rw [h2] at he
        have : m * z = i * z := by omega
        have := Nat.eq_of_mul_eq_mul_right (by omega) this
        omega
      · subst heq; exact ⟨hm, he⟩
  refine ⟨?_, fun i hi => ?_⟩
  · cases k with
    | zero => omega
    | succ k => obtain ⟨h1, _⟩ := hall k (by omega); omega
  · obtain ⟨h1, h2⟩ := hall i hi
    rw [List.getElem?_eq_getElem h1, h2]
theorem okU_ins {z : Nat} {u : List Int} (hz : 1 ≤ z) (h : OkU z u) {k : Nat} (hk : hole z u = some k) : k ≤ u.length ∧ OkU z (u.take k ++ ((k * z : Nat) : Int) :: u.drop k) := by
  obtain ⟨h1, h2, h3⟩ := hole_some hk
  obtain ⟨h4, h5⟩ := okU_eq hz h h3
  refine ⟨h4, ?_, ?_⟩
  · rw [List.pairwise_append]
    refine ⟨h.1.sublist (List.take_sublist _ _), ?_, ?_⟩
    · rw [List.pairwise_cons]
      refine ⟨fun a ha => ?_, h.1.sublist (List.drop_sublist _ _)⟩
      obtain ⟨i, hi, rfl⟩ := List.getElem_of_mem ha
      simp only [List.length_drop] at hi
      rw [List.getElem_drop]
      have hge := okU_ge hz h (k + i) (by omega)
      have hne : u[k + i]'(by omega) ≠ ((k * z : Nat) : Int) := fun e => h2 (e ▸ List.getElem_mem _)
      have : k * z ≤ (k + i) * z := Nat.mul_le_mul_right _ (by omega)
      omega
    · intro a ha b hb
      obtain ⟨i, hi, rfl⟩ := List.getElem_of_mem ha
      simp only [List.length_take] at hi
      have hik : i < k := by omega
      have e := h5 i hik
      rw [List.getElem?_eq_getElem (by omega)] at e
      rw [List.getElem_take, Option.some.inj e]
      have hlt : i * z < k * z := Nat.mul_lt_mul_of_pos_right hik (by omega)
      rcases List.mem_cons.1 hb with rfl | hb
      · omega
      · obtain ⟨m, hm, rfl⟩ := List.getElem_of_mem hb
        simp only [List.length_drop] at hm
        rw [List.getElem_drop]
        have hge := okU_ge hz h (k + m) (by omega)
        have : k * z ≤ (k + m) * z := Nat.mul_le_mul_right _ (by omega)
        omega
  · intro a ha
    rcases List.mem_append.1 ha with ha | ha
    · exact h.2 a (List.mem_of_mem_take ha)
    · rcases List.mem_cons.1 ha with rfl | ha
      · rw [Int.toNat_natCast, Nat.mul_mod_left, Nat.mul_div_cancel _ (by omega)]
        exact ⟨by omega, rfl, h1⟩
      · exact h.2 a (List.mem_of_mem_drop ha)
/-- what Take answers -/
def holeB (z : Nat) (b : Box) : Bool := (hole z b.used).isSome
def insAt (L : List Box) (f : Int) : Nat := (L.findIdx? fun b => !decide (b.frame < f)).getD L.length
def slTake (s : Slb) (f : Int) : Except Int (Slb × Place × Bool) :=
  if slCheck s = 0 then
    match s.boxes.findIdx? (holeB s.size.toNat) with
    | some i =>
      let b := s.boxes[i]?.getD ⟨0, []⟩
      let k := (hole s.size.toNat b.used).getD 0
      .ok (⟨s.size, s.boxes.set i ⟨b.frame, b.used.take k ++ ((k * s.size.toNat : Nat) : Int) :: b.used.drop k⟩⟩, ⟨b.frame, ((k * s.size.toNat : Nat) : Int)⟩, false)
    | none => if f < 0 ∨ 64 ≤ f then .error 6 else if s.boxes.any (fun b => b.frame == f) = true then .error 5 else .ok (⟨s.size, s.boxes.take (insAt s.boxes f) ++ ⟨f, [0]⟩ :: s.boxes.drop (insAt s.boxes f)⟩, ⟨f, 0⟩, true)
  else .error (slCheck s)
end
section
def rowsG (g : Nat → Nat) (L : List Box) : List Row := L.mapIdx fun i x => ownB (g i) x
theorem rowsG_len {g : Nat → Nat} {L : List Box} : (rowsG g L).length = L.length := by simp [rowsG]
theorem rowsG_get {g : Nat → Nat} {i : Nat} {L : List Box} (hi : i < L.length) : (rowsG g L)[i]? = some (ownB (g i) L[i]) := by
  simp [rowsG, List.getElem?_mapIdx, hi]
theorem heapT_tail {th : List Nat} {N : Nat} {H : Heap} : ∀ (L : List Box) (i : Nat), (∀ (j : Nat) (h : j < L.length), H[thOf 0 th (i + j)]? = some (some (1, L[j].used.map (irow .i64)))) → heapT 0 th N H i (tailA L)
  | [], _, _ => trivial
  | b :: L, i, h => by
    have h0 := h 0 (by simp)
    have ih := heapT_tail (th := th) (N := N) (H := H) L (i + 1) (fun j hj => by
      have := h (j + 1) (by simp; omega)
      rw [show i + (j + 1) = i + 1 + j by omega] at this
      simpa using this)
    simp only [tailA, List.map_cons, heapT] at ih ⊢
    refine ⟨?_, ?_, ih⟩
    · simp only [Nat.add_zero, List.getElem_cons_zero] at h0
      rw [h0]
      congr 3
      rw [List.map_map]
      apply List.map_congr_left
      intro a _
      simp [irow, ren]
    · simp [irow, lowA]
theorem thOf_g {P : Nat} {g : Nat → Nat} {n i : Nat} (hi : i < n) : thOf 0 (P :: (List.range n).map g) (i + 1) = g i := by
  simp [thOf, hi]
theorem canon {H : Heap} {P : Nat} {g : Nat → Nat} {L : List Box} {z : Int} {vs : List Value} (hP : obj H P = some (2, rowsG g L)) (hg : ∀ (j : Nat) (h : j < L.length), obj H (g j) = some (1, L[j].used.map (irow .i64)))
    (hi : ∀ j k, j < L.length → k < L.length → g j = g k → j = k) (hx : ∀ j, j < L.length → g j ≠ P) :
    Ent 0 ([(0, .tup (.agg [.v (.int .i64 z), .osl 0 2 0 L.length L.length] :: vs.map .v))], some (2, rowsA 1 L) :: tailA L) ([(0, .tup (.agg [.v (.int .i64 z), .osl P 2 0 L.length L.length] :: vs.map .v))], H) := by
  have hvs : renC 0 (P :: (List.range L.length).map g) (vs.map .v) = vs.map .v := by
    rw [renC_map, List.map_map]
    apply List.map_congr_left
    intro a _; rfl
  have hvl : ∀ N, lowC N (vs.map .v) = true := fun N => by
    induction vs with
    | nil => rfl
    | cons a l ih => simp only [List.map_cons, lowC, lowA, Bool.true_and]; exact ih (by rw [renC_map, List.map_map]; exact List.map_congr_left fun a _ => rfl)
  refine Ent.weakT (th := P :: (List.range L.length).map g) ⟨⟨Nat.zero_le _, Nat.zero_le _⟩, ⟨?_, ?_, fun _ _ => Nat.zero_le _⟩, ?_, ?_⟩
  · rw [List.nodup_cons]
    refine ⟨fun h => ?_, ?_⟩
    · obtain ⟨j, hj, e⟩ := List.mem_map.1 h
      exact hx j (List.mem_range.1 hj) e
    · unfold List.Nodup
      rw [List.pairwise_map, List.pairwise_iff_getElem]
      intro a b ha hb hab e
      simp only [List.length_range] at ha hb
      simp only [List.getElem_range] at e
      have := hi _ _ ha hb e
      omega
  · simp [tailA_len]
  · intro p hp
    simp only [List.mem_singleton] at hp
    subst hp
    refine ⟨?_, ?_⟩
    · simp only [look, ren, renC, hvs, thOf]
      rfl
    · simp only [lowA, lowC, hvl, List.length_cons, Bool.and_true]
      simp
  · simp only [heapT]
    refine ⟨?_, ?_, heapT_tail L 1 fun j hj => ?_⟩
    · rw [show thOf 0 (P :: (List.range L.length).map g) 0 = P from rfl, obj_get hP]
      congr 3
      apply List.ext_getElem?
      intro i
      rw [List.getElem?_map]
      by_cases h : i < L.length
      · rw [rowsG_get h, rowsA_get h]
        simp only [Option.map_some, ownB, List.map_cons, List.map_nil, ren]
        rw [show 1 + i = i + 1 by omega, thOf_g h]
      · rw [List.getElem?_eq_none (by rw [rowsG_len]; omega), List.getElem?_eq_none (by rw [rowsA_len]; omega)]; rfl
    · exact rowsA_low (by simp [tailA_len]; omega)
    · rw [show 1 + j = j + 1 by omega, thOf_g hj]
      exact obj_get (hg j hj)
theorem ob_lt {H : Heap} {id : Nat} {o : Nat × List Row} (h : obj H id = some o) : id < H.length := (List.getElem?_eq_some_iff.1 (obj_get h)).1
theorem ob_ne {H : Heap} {i j : Nat} {x : Option (Nat × List Row)} (h : i ≠ j) : obj (H.set i x) j = obj H j := by
  unfold obj; rw [List.getElem?_set_ne h]
theorem ob_self {H : Heap} {i sz : Nat} {R : List Row} (h : i < H.length) (h0 : sz ≠ 0) : obj (H.set i (some (sz, R))) i = some (sz, R) := by
  unfold obj; rw [List.getElem?_set_self h]; simp [h0]
theorem ob_of {H : Heap} {i sz : Nat} {R : List Row} (h : H[i]? = some (some (sz, R))) (h0 : sz ≠ 0) : obj H i = some (sz, R) := by
  unfold obj; rw [h]; simp [h0]
theorem rowsG_set {L : List Box} {k c P : Nat} {b : Box} : (rowsA c L).set k (ownB P b) = rowsG (fun j => if j = k then P else c + j) (L.set k b) := by
  apply List.ext_getElem?
  intro i
  by_cases hi : i < L.length
  · rw [rowsG_get (by simpa using hi)]
    by_cases e : i = k
    · subst e
      rw [List.getElem?_set_self (by rw [rowsA_len]; exact hi)]
      simp
    · rw [List.getElem?_set_ne (fun h => e h.symm), rowsA_get hi, if_neg e, List.getElem_set_ne (fun h => e h.symm)]
  · rw [List.getElem?_eq_none (by rw [List.length_set, rowsA_len]; omega), List.getElem?_eq_none (by rw [rowsG_len, List.length_set]; omega)]
theorem rowsG_ins {L : List Box} {m c P : Nat} {b : Box} (hm : m ≤ L.length) : List.take m (rowsA c L) ++ ownB P b :: List.drop m (rowsA c L) = rowsG (fun j => if j < m then c + j else if j = m then P else c + (j - 1)) (List.take m L ++ b :: List.drop m L) := by
  apply List.ext_getElem?
  intro i
  have hl : (List.take m L).length = m := by simp; omega
  have hr : (List.take m (rowsA c L)).length = m := by rw [List.length_take, rowsA_len]; omega
  have hg : ∀ (g : Nat → Nat) (M : List Box), (rowsG g M)[i]? = M[i]?.map fun x => ownB (g i) x := fun g M => by simp [rowsG, List.getElem?_mapIdx]
  have ha : ∀ j, (rowsA c L)[j]? = L[j]?.map fun x => ownB (c + j) x := fun j => by simp [rowsA, List.getElem?_mapIdx]
  rw [hg]
  rcases Nat.lt_trichotomy i m with h | h | h
  · rw [List.getElem?_append_left (by omega), List.getElem?_append_left (by omega), List.getElem?_take_of_lt h, List.getElem?_take_of_lt h, ha, if_pos h]
  · subst h
    rw [List.getElem?_append_right (by omega), List.getElem?_append_right (by omega), hl, hr, Nat.sub_self]
    simp
  · rw [List.getElem?_append_right (by omega), List.getElem?_append_right (by omega), hl, hr, show i - m = (i - m - 1) + 1 by omega, List.getElem?_cons_succ, List.getElem?_cons_succ, List.getElem?_drop, List.getElem?_drop, ha, if_neg (by omega), if_neg (by omega), show m + (i - m - 1) = i - 1 by omega]
end
section
set_option maxHeartbeats 2000000
set_option maxRecDepth 100000
set_option linter.unusedSimpArgs false
set_option linter.unusedVariables false
attribute [local simp] wpA wpX RunA RunD runF foot footP footB idsA bare apart runL step1 gsel_f gsel_t gsel_s res_same res_and1 res_and2 res_and3 res_and4 res_and5 res_and6 res_false res_true res_v res_ptr res_fptr res_osl res_xsl soft aAppendZ aCap ovlI ovlJ res_fsl res_esl res_agg res_tup res_fn res_junk res_anyb aPick hk imp_left iteV dstOk guardOk astep astepE AI.ev AI.look AI.put envOf aBox cellsOf allOne allOneA oneA Value.oneCell' Value.cells newObj' aFieldAddr aLoad obj readAt thenA blockA condA retA resA tupA view hot hotC hotR depthV cAgg cInt cBool mkAgg allV aAlloc aBuild fillA writeAt aStore isAggA aField idx aIndexAddr aIndex bnd aSlice aExtract aLen aBuiltin aCall isStatic eqAgg eqTy eqC ev_add ev_sub ev_mul ev_quo ev_rem ev_and ev_or ev_xor ev_andNot ev_shl ev_shr ev_eql ev_neq ev_lss ev_leq ev_gtr ev_geq ev_agg w64 wu32 wu8 ev_not ev_neg Cod.plain RCod.plain argM finM cold coldC coldR goInt intDec boolDec aggDec Weaker heapW lowA lowC Again slDec undef aBuildSlice setRows aAppend rowsOf aMakeSlice aClear aCopy softer_self softer_nil valsOf ev_min2 ev_max2 hotR_set hotR_append take_map_set irow_cold irow_mapM irow_mapMc irow_view irow_viewc irow_hotR irow_ren irow_renc irow_low WeakT heapT thOf ren renC AgainT NextF NextT fnDec cFn rNil selfLt natLt0 natLt1 getLastMap frame0 frame1 own0 own1 argG finG tau tauI tauO tauC bareA bareC bareH irow_tau irow_tauc irow_bare irow_flat irow_bareR ownA_nil ownT_nil ownA_c ownT_c ownA_s ownT_s takeMapLen footC plainA noId noIdC cloneF frame0F frame1F insertF replaceI replaceF cellDec rCell fpDec cFp rTwo deleteF allV_oA oneA_oA res_oA RunR RunE runFT footAt hotR_cat tmodN aEqH aSliceA frameN newA newC newH fxSz3 fxBy3 fxAg3 fxZe3 fxSl3 fxSz96 fxAg96 fxZe96 fxSl96 fxAr96 fxSz97 fxAg97 fxZe97 fxSl97 fxAr97 fxSz99 fxAg99 fxZe99 fxFi99x0 fxFi99x1 fxPl99 fxSz100 fxAg100 fxSl100 fxAr100 fxSz102 fxAg102 fxZe102 fxFi102x0 fxFi102x1 fxPl102 fxSz104 fxAg104 fxZe104 fxFi104x0 fxFi104x1 fxPl104 fxSz107 fxBy107 fxAg107 fxZe107 fxFi107x0 fxFi107x1 fxFi107x2 fxPl107 fxSz110 fxBy110 fxAg110 fxZe110 fxFi110x0 fxFi110x1 fxPl110 fxSz111 fxAg111 fxZe111 fxSl111 fxAr111 fxSz112 fxBy112 fxAg112 fxZe112 fxSl112 fxAr112 fxSz114 fxBy114 fxAg114 fxZe114 fxFi114x0 fxFi114x1 fxPl114 fxZe131 fxAr131 fxPl131 fxZe132 fxAr132 fxPl132 fxZe133 fxAr133 fxPl133 fxEq107 fxEq110 fxNe96 fxOe96 fxXe96 fxLn97 fxNe97 fxOe97 fxXe97 fxNe100 fxOe100 fxXe100 fxNe112 fxOe112 fxXe112 fxFm41 fxFi41 fxFm42 fxFi42 fxFm43 fxFi43 fxFm44 fxFm45 fxFm46 fxFi46 fxFi47 fxFj47 fxFm48 fxFi48 fxFm49 fxFi49 fxFm50 fxFi50 fxFm51 fxFm52 fxFm53 fxFm54 fxFm55 fxFm56 fxFm113 fxFi113 fxFm114 fxFi114 fxFm115 fxFi115 fxFm116 fxFi116 fxFm117 fxFi117 fxFm118 fxFm119 fxFi119 fxFm120 fxFi120 fxFm121 fxFi121 fxFm122 fxFi122 fxFm123 fxFm124 fxFm125 fxFi125 fxFm126 fxFm127 fxFi127 fxFm128 fxFi128 fxFm129 fxFm130 fxFi130 fxFm131 fxFi131 fxFm132 fxFm133 fxFi133 fxFm134 fxFm135 fxFm172 fxFi172 fxFm173 fxFm176 fxFi176 fxFm177 fxFi177 fxFm178 fxFi178 fxFm179 fxFm180 fxFm182 fxFi182 fxFm183
section
attribute [local simp] Place.eta Place.cold Place.mapM Place.mapMc Place.view Place.viewc Place.hotR Place.ren Place.renc Place.low Place.tau Place.tauc Place.bare Place.flat Place.flat1 Place.mapMt Place.mapMd Place.coldt Place.coldd Place.hotRt Place.hotRd
attribute [local simp] Box.eta Box.dec_row Box.dec_hrow Box.cold Box.hcold Box.mapM Box.mapMc Box.hmapM Box.hmapMc Box.view Box.viewc Box.hview Box.hviewc Box.hotR Box.ren Box.renc Box.low Box.hlow
attribute [local simp] Slb.eta Slb.dec_row Slb.dec_hrow
attribute [local simp] slA_new slA_newH slA_tau slA_tauO okL_tau okL_bare okL_allV okL_one okL_res
def skX : Except Int (Slb × Place × Bool) → Bool × Slb × Place × Bool × Int
  | .ok (s, p, b) => (true, s, p, b, 0)
  | .error e => (false, ⟨0, []⟩, ⟨0, 0⟩, false, e)
def skU (q : Bool × Slb × Place × Bool × Int) : AVal × Heap :=
  (.tup [.agg [.v (.int .i64 q.2.1.size), okL q.1 0 2 q.2.1.boxes.length], .v (.agg #[.int .i64 q.2.2.1.frame, .int .i64 q.2.2.1.at_]), .v (.bool q.2.2.2.1), .v (.int .i64 q.2.2.2.2)],
    if q.1 = true then some (2, rowsA 1 q.2.1.boxes) :: tailA q.2.1.boxes else [none])
theorem as2_err : Lss (.v (.agg #[.int .i64 0, .slice none 0 0])) (.agg [.v (.int .i64 0), .esl]) :=
  (Lss.vals (vs := [.int .i64 0, .slice none 0 0]) rfl (fun j v r hv hr => by
    match j, hv, hr with
    | 0, hv, hr => simp at hv hr; subst hv hr; exact @Lss.refl _
    | 1, hv, hr => simp at hv hr; subst hv hr; exact @Lss.nil_esl'
    | j + 2, hv, hr => simp at hv)).2
theorem sk_err {e : Int} : Lss (.v (.tuple #[.agg #[.int .i64 0, .slice none 0 0], .agg #[.int .i64 0, .int .i64 0], .bool false, .int .i64 e])) (.tup [.agg [.v (.int .i64 0), .esl], .v (.agg #[.int .i64 0, .int .i64 0]), .v (.bool false), .v (.int .i64 e)]) :=
  (Lss.vals (vs := [.agg #[.int .i64 0, .slice none 0 0], .agg #[.int .i64 0, .int .i64 0], .bool false, .int .i64 e]) rfl (fun j v r hv hr => by
    match j, hv, hr with
    | 0, hv, hr => simp at hv hr; subst hv hr; exact @as2_err
    | 1, hv, hr => simp at hv hr; subst hv hr; exact @Lss.refl _
    | 2, hv, hr => simp at hv hr; subst hv hr; exact @Lss.refl _
    | 3, hv, hr => simp at hv hr; subst hv hr; exact @Lss.refl _
    | j + 4, hv, hr => simp at hv)).1
theorem ins_spec (L : List Box) (f : Int) : insAt L f ≤ L.length ∧ (∀ k, k < insAt L f → ∃ h : k < L.length, L[k].frame < f) ∧ ∀ h : insAt L f < L.length, ¬ L[insAt L f].frame < f := by
  unfold insAt
  cases h : L.findIdx? (fun b => !decide (b.frame < f)) with
  | none =>
    rw [List.findIdx?_eq_none_iff] at h
    simp only [Option.getD_none]
    refine ⟨Nat.le_refl _, fun k hk => ⟨hk, ?_⟩, fun hh => absurd hh (Nat.lt_irrefl _)⟩
    simpa using h _ (List.getElem_mem hk)
  | some i =>
    rw [List.findIdx?_eq_some_iff_getElem] at h
    obtain ⟨h1, h2, h3⟩ := h
    simp only [Option.getD_some]
    refine ⟨by omega, fun k hk => ⟨by omega, by simpa using h3 k hk⟩, fun _ => by simpa using h2⟩
def rCapI : RCod Int := rCell (cFp (rI .i64))
theorem inInsOv : InlOk Try.prog 180 ovlI := ovl_inl (t := 112) (r := 4) Try.func180 (by kernel_rfl) (by kernel_rfl) (by kernel_rfl) (by kernel_rfl) Try.underlying112 (sz := 1) (by kernel_rfl)
theorem inIns : InlOk Try.prog 129 (insertI 1) := by
  have hC := (noOrc_ok (P := Try.prog)).withI inInsOv
  refine insert_of Try.func129 rfl (by simp [Try.ntmps129]) ?_ ?_ ?_ ?_
  · intro H vid vr h1
    refine wpA_sound hC fxMix _ _ _ _ (by kernel_rfl) ?_
    have h1' := obj_get h1
    simp [Try.ntmps129, Try.results129, noOrc, Orc.withI, h1']
  · intro H id vid rows vr h1 h2 h3 h5
    refine wpA_sound hC fxMix _ _ _ _ (by kernel_rfl) ?_
    have h1' := obj_get h1
    have h2' := obj_get h2
    have h6 : ¬ (rows.length + 1 ≤ rows.length) := by omega
    have h7 : rows.length ≤ 4294967295 := by omega
    simp [Try.ntmps129, Try.results129, noOrc, Orc.withI, h1', h2', h6, h7]
  · intro H id vid i rows vr h1 h2 h3 h4 h5 h6 h7
    refine wpA_sound hC fxMix _ _ _ _ (by kernel_rfl) ?_
    have h1' := obj_get h1
    have h2' := obj_get h2
    have w1 : IntKind.i64.wrap ((rows.length : Int) + 1) = ((rows.length + 1 : Nat) : Int) := by rw [w64 (by omega) (by omega)]; simp
    obtain ⟨k, hk⟩ : ∃ k, k = rows.length + 1 - i := ⟨_, rfl⟩
    have w2 : IntKind.i64.wrap ((rows.length : Int) + 1 - i) = (k : Int) := by rw [w64 (by omega) (by omega)]; omega
    have w3 : IntKind.i64.wrap ((i : Int) + 1) = ((i + 1 : Nat) : Int) := by rw [w64 (by omega) (by omega)]; simp
    have h8 : ¬ i = rows.length := by omega
    have g1 := (List.getElem?_eq_some_iff.1 h1').2
    have g2 := (List.getElem?_eq_some_iff.1 h2').2
    have b1 : ¬ (i : Int) = rows.length := by omega
    have b2 : ¬ (rows.length : Int) = i := by omega
    have e1 : ∀ l, (H ++ l)[vid]? = some (some (1, [vr])) := by intro l; rw [List.getElem?_append_left h5, h2']
    have e2 : ∀ l, (H ++ l)[id]? = some (some (1, rows)) := by intro l; rw [List.getElem?_append_left h4, h1']
    have d0 : ¬ vid = id := fun h => h3 h.symm
    have d1 : 0 < rows.length - i := by omega
    have d2 : min 1 (rows.length + 1 - i) = 1 := by omega
    have d3 : List.take (rows.length + 1 - i) [vr] = [vr] := List.take_of_length_le (by simp; omega)
    have d4 : rows.length - i ≤ rows.length + 1 - (i + 1) := by omega
    have d5 : min (rows.length - i) (rows.length + 1 - (i + 1)) = rows.length - i := by omega
    have d6 : i + 1 + (rows.length - i) ≤ i + (rows.length - i + 1) := by omega
    have d7 : i + 1 + (rows.length - i) ≤ rows.length + 1 := by omega
    have d8 : min (i + 1) rows.length = i + 1 := by omega
    have d9 : rows.length + 1 ≤ i + 1 + (rows.length - i) := by omega
    have f1 : ∀ X, List.take (i + 1) (List.take i rows ++ vr :: X) = List.take i rows ++ [vr] := by
      intro X
      have hl : (List.take i rows).length = i := by simp; omega
      rw [List.take_append, hl, List.take_of_length_le (by omega)]; simp
    have f2 : List.take (rows.length - i) (List.drop i rows) = List.drop i rows := List.take_of_length_le (by simp)
    have f7 : ∀ X, List.take i (List.take (i + 1) rows ++ X) = List.take i rows := by intro X; rw [List.take_append_of_le_length (by simp; omega), List.take_take]; congr 1; omega
    have f8 : ∀ X, List.drop (i + 1) (List.take (i + 1) rows ++ X) = X := by intro X; rw [List.drop_append_of_le_length (by simp; omega), List.drop_eq_nil_of_le (by simp; omega)]; rfl
    have c1 : (i : Int) ≤ rows.length + 1 := by omega
    have c2 : 0 ≤ (rows.length : Int) + 1 := by omega
    have c3 : (i : Int) + 1 ≤ rows.length + 1 := by omega
    have c4 : 0 ≤ (i : Int) + 1 := by omega
    have c5 : i + 1 ≤ rows.length + 1 := by omega
    have c6 : i + (rows.length + 1 - i) = rows.length + 1 := by omega
    have c7 : i + 1 + (rows.length + 1 - (i + 1)) = rows.length + 1 := by omega
    have a1 : i ≤ rows.length := by omega
    have a2 : i + k = rows.length + 1 := by omega
    have a3 : rows.length < rows.length + 1 := by omega
    have a4 : rows.length + 1 ≤ 4294967296 := by omega
    have a5 : i ≤ rows.length + 1 := by omega
    have a6 : min i rows.length = i := by omega
    have f3 : ∀ (z : Row), List.drop (i + 1 + (rows.length - i)) (List.take i rows ++ vr :: List.drop (i + 1) (List.take i rows ++ List.replicate k z)) = [] := by intro z; apply List.drop_eq_nil_of_le; simp; omega
    simp [Try.ntmps129, Try.results129, noOrc, Orc.withI, h1', h2', w1, w2, w3, h8, h4, h5, g1, g2, e1, e2, d0, d1, d2, d3, d4, d5, d6, d7, d8, d9, f1, f2, f3,  b1, b2, c1, c2, c3, c4, c5, c6, c7, a1, a2, a3, a4, a5, a6]
  · intro H id vid i cap rows vr jr h1 h2 h3 h4 h5 h6 h7 h8
    refine wpA_sound hC fxMix _ _ _ _ (by kernel_rfl) ?_
    have h1' := obj_get h1
    have h2' := obj_get h2
    have w1 : IntKind.i64.wrap ((rows.length : Int) + 1) = ((rows.length + 1 : Nat) : Int) := by rw [w64 (by omega) (by omega)]; simp
    have w3 : IntKind.i64.wrap ((i : Int) + 1) = ((i + 1 : Nat) : Int) := by rw [w64 (by omega) (by omega)]; simp
    have h9 : ¬ i = rows.length := by omega
    have g1 := (List.getElem?_eq_some_iff.1 h1').2
    have g2 := (List.getElem?_eq_some_iff.1 h2').2
    have b1 : ¬ (i : Int) = rows.length := by omega
    have b2 : ¬ (rows.length : Int) = i := by omega
    have e1 : ∀ l, (H ++ l)[vid]? = some (some (1, [vr])) := by intro l; rw [List.getElem?_append_left h5, h2']
    have e2 : ∀ l, (H ++ l)[id]? = some (some (1, rows ++ [jr])) := by intro l; rw [List.getElem?_append_left h4, h1']
    have d0 : ¬ vid = id := fun h => h3 h.symm
    have d1 : 0 < rows.length - i := by omega
    have d2 : min 1 (rows.length + 1 - i) = 1 := by omega
    have d3 : List.take (rows.length + 1 - i) [vr] = [vr] := List.take_of_length_le (by simp; omega)
    have d4 : rows.length - i ≤ rows.length + 1 - (i + 1) := by omega
    have d5 : min (rows.length - i) (rows.length + 1 - (i + 1)) = rows.length - i := by omega
    have d6 : i + 1 + (rows.length - i) ≤ i + (rows.length - i + 1) := by omega
    have d7 : i + 1 + (rows.length - i) ≤ rows.length + 1 := by omega
    have d8 : min (i + 1) rows.length = i + 1 := by omega
    have d9 : rows.length + 1 ≤ i + 1 + (rows.length - i) := by omega
    have f1 : ∀ X, List.take (i + 1) (List.take i rows ++ vr :: X) = List.take i rows ++ [vr] := by
      intro X
      have hl : (List.take i rows).length = i := by simp; omega
      rw [List.take_append, hl, List.take_of_length_le (by omega)]; simp
    have f2 : List.take (rows.length - i) (List.drop i rows) = List.drop i rows := List.take_of_length_le (by simp)
    have f7 : ∀ X, List.take i (List.take (i + 1) rows ++ X) = List.take i rows := by intro X; rw [List.take_append_of_le_length (by simp; omega), List.take_take]; congr 1; omega
    have f8 : ∀ X, List.drop (i + 1) (List.take (i + 1) rows ++ X) = X := by intro X; rw [List.drop_append_of_le_length (by simp; omega), List.drop_eq_nil_of_le (by simp; omega)]; rfl
    have c1 : (i : Int) ≤ rows.length + 1 := by omega
    have c2 : 0 ≤ (rows.length : Int) + 1 := by omega
    have c3 : (i : Int) + 1 ≤ rows.length + 1 := by omega
    have c4 : 0 ≤ (i : Int) + 1 := by omega
    have c5 : i + 1 ≤ rows.length + 1 := by omega
    have c6 : i + (rows.length + 1 - i) = rows.length + 1 := by omega
    have c7 : i + 1 + (rows.length + 1 - (i + 1)) = rows.length + 1 := by omega
    have a1 : i ≤ rows.length := by omega
    have a3 : ¬ cap < rows.length + 1 := by omega
    have a5 : i ≤ rows.length + 1 := by omega
    have a6 : min i rows.length = i := by omega
    have a7 : (rows.length : Int) + 1 ≤ cap := by omega
    have b3 : ¬ (cap : Int) < rows.length + 1 := by omega
    have a8 : i ≤ cap := by omega
    have f4 : List.take (rows.length - i) (List.take (rows.length + 1 - i) (List.drop i (rows ++ [jr]))) = List.drop i rows := by
      rw [List.take_take, List.drop_append_of_le_length a1, List.take_append_of_le_length (by simp; omega), List.take_of_length_le (by simp; omega)]
    have f5 : List.drop (i + 1 + (rows.length - i)) (rows ++ [jr]) = [] := List.drop_eq_nil_of_le (by simp; omega)
    have f6 : List.take (i + 1) (rows ++ [jr]) = List.take (i + 1) rows := List.take_append_of_le_length (by omega)
    simp [Try.ntmps129, Try.results129, noOrc, Orc.withI, h1', h2', w1, w3, h9, h4, h5, g1, g2, e1, e2, d0, d1, d2, d3, d4, d5, d6, d7, d8, d9, f2, f4, f5, f6, f7, f8, h3, List.getElem_set_ne,  b1, b2, c1, c2, c3, c4, c5, c6, c7, a1, a3, a5, a6, a7, a8, b3]

theorem bxInsOv : InlOk Try.prog 183 ovlI := ovl_inl (t := 100) (r := 4) Try.func183 (by kernel_rfl) (by kernel_rfl) (by kernel_rfl) (by kernel_rfl) Try.underlying100 (sz := 2) (by kernel_rfl)
theorem bxIns : InlOk Try.prog 132 (insertI 2) := by
  have hC := (noOrc_ok (P := Try.prog)).withI bxInsOv
  refine insert_of Try.func132 rfl (by simp [Try.ntmps132]) ?_ ?_ ?_ ?_
  · intro H vid vr h1
    refine wpA_sound hC fxMix _ _ _ _ (by kernel_rfl) ?_
    have h1' := obj_get h1
    simp [Try.ntmps132, Try.results132, noOrc, Orc.withI, h1']
  · intro H id vid rows vr h1 h2 h3 h5
    refine wpA_sound hC fxMix _ _ _ _ (by kernel_rfl) ?_
    have h1' := obj_get h1
    have h2' := obj_get h2
    have h6 : ¬ (rows.length + 1 ≤ rows.length) := by omega
    have h7 : rows.length ≤ 4294967295 := by omega
    simp [Try.ntmps132, Try.results132, noOrc, Orc.withI, h1', h2', h6, h7]
  · intro H id vid i rows vr h1 h2 h3 h4 h5 h6 h7
    refine wpA_sound hC fxMix _ _ _ _ (by kernel_rfl) ?_
    have h1' := obj_get h1
    have h2' := obj_get h2
    have w1 : IntKind.i64.wrap ((rows.length : Int) + 1) = ((rows.length + 1 : Nat) : Int) := by rw [w64 (by omega) (by omega)]; simp
    obtain ⟨k, hk⟩ : ∃ k, k = rows.length + 1 - i := ⟨_, rfl⟩
    have w2 : IntKind.i64.wrap ((rows.length : Int) + 1 - i) = (k : Int) := by rw [w64 (by omega) (by omega)]; omega
    have w3 : IntKind.i64.wrap ((i : Int) + 1) = ((i + 1 : Nat) : Int) := by rw [w64 (by omega) (by omega)]; simp
    have h8 : ¬ i = rows.length := by omega
    have g1 := (List.getElem?_eq_some_iff.1 h1').2
    have g2 := (List.getElem?_eq_some_iff.1 h2').2
    have b1 : ¬ (i : Int) = rows.length := by omega
    have b2 : ¬ (rows.length : Int) = i := by omega
    have e1 : ∀ l, (H ++ l)[vid]? = some (some (2, [vr])) := by intro l; rw [List.getElem?_append_left h5, h2']
    have e2 : ∀ l, (H ++ l)[id]? = some (some (2, rows)) := by intro l; rw [List.getElem?_append_left h4, h1']
    have d0 : ¬ vid = id := fun h => h3 h.symm
    have d1 : 0 < rows.length - i := by omega
    have d2 : min 1 (rows.length + 1 - i) = 1 := by omega
    have d3 : List.take (rows.length + 1 - i) [vr] = [vr] := List.take_of_length_le (by simp; omega)
    have d4 : rows.length - i ≤ rows.length + 1 - (i + 1) := by omega
    have d5 : min (rows.length - i) (rows.length + 1 - (i + 1)) = rows.length - i := by omega
    have d6 : i + 1 + (rows.length - i) ≤ i + (rows.length - i + 1) := by omega
    have d7 : i + 1 + (rows.length - i) ≤ rows.length + 1 := by omega
    have d8 : min (i + 1) rows.length = i + 1 := by omega
    have d9 : rows.length + 1 ≤ i + 1 + (rows.length - i) := by omega
    have f1 : ∀ X, List.take (i + 1) (List.take i rows ++ vr :: X) = List.take i rows ++ [vr] := by
      intro X
      have hl : (List.take i rows).length = i := by simp; omega
      rw [List.take_append, hl, List.take_of_length_le (by omega)]; simp
    have f2 : List.take (rows.length - i) (List.drop i rows) = List.drop i rows := List.take_of_length_le (by simp)
    have f7 : ∀ X, List.take i (List.take (i + 1) rows ++ X) = List.take i rows := by intro X; rw [List.take_append_of_le_length (by simp; omega), List.take_take]; congr 1; omega
    have f8 : ∀ X, List.drop (i + 1) (List.take (i + 1) rows ++ X) = X := by intro X; rw [List.drop_append_of_le_length (by simp; omega), List.drop_eq_nil_of_le (by simp; omega)]; rfl
    have c1 : (i : Int) ≤ rows.length + 1 := by omega
    have c2 : 0 ≤ (rows.length : Int) + 1 := by omega
    have c3 : (i : Int) + 1 ≤ rows.length + 1 := by omega
    have c4 : 0 ≤ (i : Int) + 1 := by omega
    have c5 : i + 1 ≤ rows.length + 1 := by omega
    have c6 : i + (rows.length + 1 - i) = rows.length + 1 := by omega
    have c7 : i + 1 + (rows.length + 1 - (i + 1)) = rows.length + 1 := by omega
    have a1 : i ≤ rows.length := by omega
    have a2 : i + k = rows.length + 1 := by omega
    have a3 : rows.length < rows.length + 1 := by omega
    have a4 : rows.length + 1 ≤ 4294967296 := by omega
    have a5 : i ≤ rows.length + 1 := by omega
    have a6 : min i rows.length = i := by omega
    have f3 : ∀ (z : Row), List.drop (i + 1 + (rows.length - i)) (List.take i rows ++ vr :: List.drop (i + 1) (List.take i rows ++ List.replicate k z)) = [] := by intro z; apply List.drop_eq_nil_of_le; simp; omega
    simp [Try.ntmps132, Try.results132, noOrc, Orc.withI, h1', h2', w1, w2, w3, h8, h4, h5, g1, g2, e1, e2, d0, d1, d2, d3, d4, d5, d6, d7, d8, d9, f1, f2, f3,  b1, b2, c1, c2, c3, c4, c5, c6, c7, a1, a2, a3, a4, a5, a6]
  · intro H id vid i cap rows vr jr h1 h2 h3 h4 h5 h6 h7 h8
    refine wpA_sound hC fxMix _ _ _ _ (by kernel_rfl) ?_
    have h1' := obj_get h1
    have h2' := obj_get h2
    have w1 : IntKind.i64.wrap ((rows.length : Int) + 1) = ((rows.length + 1 : Nat) : Int) := by rw [w64 (by omega) (by omega)]; simp
    have w3 : IntKind.i64.wrap ((i : Int) + 1) = ((i + 1 : Nat) : Int) := by rw [w64 (by omega) (by omega)]; simp
    have h9 : ¬ i = rows.length := by omega
    have g1 := (List.getElem?_eq_some_iff.1 h1').2
    have g2 := (List.getElem?_eq_some_iff.1 h2').2
    have b1 : ¬ (i : Int) = rows.length := by omega
    have b2 : ¬ (rows.length : Int) = i := by omega
    have e1 : ∀ l, (H ++ l)[vid]? = some (some (2, [vr])) := by intro l; rw [List.getElem?_append_left h5, h2']
    have e2 : ∀ l, (H ++ l)[id]? = some (some (2, rows ++ [jr])) := by intro l; rw [List.getElem?_append_left h4, h1']
    have d0 : ¬ vid = id := fun h => h3 h.symm
    have d1 : 0 < rows.length - i := by omega
    have d2 : min 1 (rows.length + 1 - i) = 1 := by omega
    have d3 : List.take (rows.length + 1 - i) [vr] = [vr] := List.take_of_length_le (by simp; omega)
    have d4 : rows.length - i ≤ rows.length + 1 - (i + 1) := by omega
    have d5 : min (rows.length - i) (rows.length + 1 - (i + 1)) = rows.length - i := by omega
    have d6 : i + 1 + (rows.length - i) ≤ i + (rows.length - i + 1) := by omega
    have d7 : i + 1 + (rows.length - i) ≤ rows.length + 1 := by omega
    have d8 : min (i + 1) rows.length = i + 1 := by omega
    have d9 : rows.length + 1 ≤ i + 1 + (rows.length - i) := by omega
    have f1 : ∀ X, List.take (i + 1) (List.take i rows ++ vr :: X) = List.take i rows ++ [vr] := by
      intro X
      have hl : (List.take i rows).length = i := by simp; omega
      rw [List.take_append, hl, List.take_of_length_le (by omega)]; simp
    have f2 : List.take (rows.length - i) (List.drop i rows) = List.drop i rows := List.take_of_length_le (by simp)
    have f7 : ∀ X, List.take i (List.take (i + 1) rows ++ X) = List.take i rows := by intro X; rw [List.take_append_of_le_length (by simp; omega), List.take_take]; congr 1; omega
    have f8 : ∀ X, List.drop (i + 1) (List.take (i + 1) rows ++ X) = X := by intro X; rw [List.drop_append_of_le_length (by simp; omega), List.drop_eq_nil_of_le (by simp; omega)]; rfl
    have c1 : (i : Int) ≤ rows.length + 1 := by omega
    have c2 : 0 ≤ (rows.length : Int) + 1 := by omega
    have c3 : (i : Int) + 1 ≤ rows.length + 1 := by omega
    have c4 : 0 ≤ (i : Int) + 1 := by omega
    have c5 : i + 1 ≤ rows.length + 1 := by omega
    have c6 : i + (rows.length + 1 - i) = rows.length + 1 := by omega
    have c7 : i + 1 + (rows.length + 1 - (i + 1)) = rows.length + 1 := by omega
    have a1 : i ≤ rows.length := by omega
    have a3 : ¬ cap < rows.length + 1 := by omega
    have a5 : i ≤ rows.length + 1 := by omega
    have a6 : min i rows.length = i := by omega
    have a7 : (rows.length : Int) + 1 ≤ cap := by omega
    have b3 : ¬ (cap : Int) < rows.length + 1 := by omega
    have a8 : i ≤ cap := by omega
    have f4 : List.take (rows.length - i) (List.take (rows.length + 1 - i) (List.drop i (rows ++ [jr]))) = List.drop i rows := by
      rw [List.take_take, List.drop_append_of_le_length a1, List.take_append_of_le_length (by simp; omega), List.take_of_length_le (by simp; omega)]
    have f5 : List.drop (i + 1 + (rows.length - i)) (rows ++ [jr]) = [] := List.drop_eq_nil_of_le (by simp; omega)
    have f6 : List.take (i + 1) (rows ++ [jr]) = List.take (i + 1) rows := List.take_append_of_le_length (by omega)
    simp [Try.ntmps132, Try.results132, noOrc, Orc.withI, h1', h2', w1, w3, h9, h4, h5, g1, g2, e1, e2, d0, d1, d2, d3, d4, d5, d6, d7, d8, d9, f2, f4, f5, f6, f7, f8, h3, List.getElem_set_ne,  b1, b2, c1, c2, c3, c4, c5, c6, c7, a1, a3, a5, a6, a7, a8, b3]

theorem take1_pure : PureOk Try.prog 131 (argM (cAgg rBox) fun b => argM (cFp (rI .i64)) fun f => finM (some (.v (.bool (b.frame == f))))) := by
  refine pure2 Try.func131 rfl ?_
  rintro b f r hr
  simp only [Option.some.injEq] at hr
  subst hr
  refine body_gen noOrc_ok fxMix (by kernel_rfl) (by simp [Try.ntmps131]) ?_
  intro C cP cI cN cD cF cA cR cL
  replace cI : C.inl = fun _ => false := cI
  replace cR : C.rd = fun _ => none := cR
  replace cD : C.dyn = fun _ => [] := cD
  clear cP cN cF cA
  simp [Try.ntmps131, Try.results131, cSl, cI, cD, cR, rBox, Box.row, boxDec, rI, irow]
theorem takeI_pure : PureOk Try.prog 182 (argM (cSl rBox) fun l => argM (cFn 131 rCapI) fun cp => finM (if l.length ≤ 4294967296 then some (.v (.int .i64 (idxP ((fun b => b.frame == cp)) l))) else none)) := by
  refine pure2 Try.func182 rfl ?_
  rintro l cp r hr
  by_cases hc : l.length ≤ 4294967296
  case neg => rw [if_neg hc] at hr; cases hr
  rw [if_pos hc] at hr
  simp only [Option.some.injEq] at hr
  subst hr
  refine body_gen (noOrc_ok.withP take1_pure) fxMix (by kernel_rfl) (by simp [Try.ntmps182]) ?_
  intro C cP cI cN cD cF cA cR cL
  have cp0 := orcP take1_pure (C := C) (by rw [cP]; rfl)
  replace cI : C.inl = fun _ => false := cI
  replace cR : C.rd = fun _ => none := cR
  replace cD : C.dyn = fun _ => [] := cD
  clear cP cN cF cA
  simp [Try.ntmps182, Try.results182, cSl, cp0, cI, cD, cR, rBox, Box.row, boxDec, rCapI, rI, irow, irowDec]
  refine loop_for l.length (fun k (_ : Unit) => ([(0, .fsl false 2 (l.map Box.row)), (1, .fn 131 [.fptr (irow .i64 cp) 0]), (7, .v (.int .i64 l.length)), (8, .v (.int .i64 k))], [])) (fun k _ => ((l.drop k).findIdx? ((fun b => b.frame == cp))).map (· + k) = l.findIdx? ((fun b => b.frame == cp))) () hc (by simp) (by simp [rBox, Box.row, boxDec, rCapI, rI, irow, irowDec]) ?_ ?_
  · intro k _ hk hall hw
    by_cases q : ((fun b => b.frame == cp)) l[k] = true
    · rw [find_drop hk, if_pos q] at hall
      try simp at q
      simp [Try.ntmps182, Try.results182, cSl, cp0, cI, cD, cR, hk, hw, rBox, Box.row, boxDec, rCapI, rI, irow, irowDec, q, idxP, ← hall]
    · rw [find_drop hk, if_neg q] at hall
      try simp at q
      simp [Try.ntmps182, Try.results182, cSl, cp0, cI, cD, cR, hk, hw, rBox, Box.row, boxDec, rCapI, rI, irow, irowDec, q]
      simpa using hall
  · intro _ hall
    simp at hall
    simp [Try.ntmps182, Try.results182, cSl, cp0, cI, cD, cR, idxP, ← hall]
theorem takeC_pure : PureOk Try.prog 130 (argM (cSl rBox) fun l => argM (cFn 131 rCapI) fun cp => finM (if l.length ≤ 4294967296 then some (.v (.bool (l.any ((fun b => b.frame == cp))))) else none)) := by
  refine pure2 Try.func130 rfl ?_
  rintro l cp r hr
  by_cases hc : l.length ≤ 4294967296
  case neg => rw [if_neg hc] at hr; cases hr
  rw [if_pos hc] at hr
  simp only [Option.some.injEq] at hr
  subst hr
  refine body_gen (noOrc_ok.withP takeI_pure) fxMix (by kernel_rfl) (by simp [Try.ntmps130]) ?_
  intro C cP cI cN cD cF cA cR cL
  have cp0 := orcP takeI_pure (C := C) (by rw [cP]; rfl)
  replace cI : C.inl = fun _ => false := cI
  replace cR : C.rd = fun _ => none := cR
  replace cD : C.dyn = fun _ => [] := cD
  clear cP cN cF cA
  simp [Try.ntmps130, Try.results130, cSl, cp0, cI, cD, cR, hc, idxP_iff, rBox, rCapI, rI, irow, irowDec] <;> (rw [Bool.eq_iff_iff]; simp)
theorem slTake_own : InlOk Try.prog 55 (own0 (argG (cAgg rSlb) fun s => argG (cInt .i64) fun f => finG (if okS s then some (skU (skX (slTake s f))) else none))) := by
  refine ownE_2 Try.func55 rfl ?_
  rintro s f r H' hr
  by_cases hc : okS s
  case neg => rw [if_neg hc] at hr; cases hr
  rw [if_pos hc] at hr
  simp only [Option.some.injEq, Prod.mk.injEq] at hr
  obtain ⟨rfl, rfl⟩ := hr
  refine bodyE_of ((((((((noOrc_ok.withP slCheck_pure).withP per_pure).withP contains_pure).withP takeC_pure).withIF cpyA_inl frameN_loc).withIF inIns insert_loc).withIF bxIns insert_loc).withD (fun i => if i = 13 then [(1,7),(4,7),(1,8)] else if i = 14 then [(2,5)] else if i = 25 then [(1,3)] else [])) fxMix (by kernel_rfl) (by simp [Try.ntmps55]) ?_
  intro C cP cI cN cD cF cA cR cL
  have cp0 := orcP slCheck_pure (C := C) (by rw [cP]; rfl)
  have cp1 := orcP per_pure (C := C) (by rw [cP]; rfl)
  have cp2 := orcP contains_pure (C := C) (by rw [cP]; rfl)
  have cp3 := orcP takeC_pure (C := C) (by rw [cP]; rfl)
  have cn0 := orcI cpyA_inl (C := C) (by rw [cN]; rfl)
  have cn1 := orcI inIns (C := C) (by rw [cN]; rfl)
  have cn2 := orcI bxIns (C := C) (by rw [cN]; rfl)
  replace cI := fun g => congrFun cI g
  simp only [Orc.withP, Orc.withI, Orc.withF, Orc.withD, Orc.withA, Orc.withR, Orc.withC, noOrc] at cI
  replace cR : C.rd = fun _ => none := cR
  replace cD : C.dyn = fun i => if i = 13 then [(1,7),(4,7),(1,8)] else if i = 14 then [(2,5)] else if i = 25 then [(1,3)] else [] := cD
  replace cF := fun g => congrFun cF g
  simp only [Orc.withP, Orc.withI, Orc.withF, Orc.withD, Orc.withA, Orc.withR, Orc.withC, noOrc] at cF
  replace cA : C.alt = fun _ => [] := cA
  clear cP cN
  obtain ⟨z, L⟩ := s
  unfold slTake
  by_cases h0 : slCheck ⟨z, L⟩ = 0
  case neg =>
    simp [Try.ntmps55, Try.results55, cSl, cp0, cp1, cp2, cp3, cn0, cn1, cn2, cI, cD, cR, cF, cA, rSlb, slbDec, rBox, Slb.row, h0, hc, skX, skU, okL, okO]
    first
    | exact ent_err (@sk_err _) (by simp [lowA, lowC])
    | (refine Ent.weakT (th := [0]) ?_; simp []; done)
    | (refine Ent.weakT (th := [1]) ?_; simp []; done)
    | (refine Ent.weakT (th := [2]) ?_; simp []; done)
    | (refine Ent.weakT (th := [3]) ?_; simp []; done)
    | (refine Ent.weakT (th := [4]) ?_; simp []; done)
    | (refine Ent.weakT (th := [5]) ?_; simp []; done)
    | (refine Ent.weakT (th := [6]) ?_; simp []; done)
    | (refine Ent.weakT (th := [7]) ?_; simp []; done)
    | (refine Ent.weakT (th := [8]) ?_; simp []; done)
    | (refine Ent.weakT (th := [9]) ?_; simp []; done)
    | (refine Ent.weakT (th := [10]) ?_; simp []; done)
    | (refine Ent.weakT (th := [11]) ?_; simp []; done)
  obtain ⟨z1, z2, hL, hK1, hK⟩ := sl_ok.1 h0
  simp only at z1 z2 hL hK1 hK
  obtain ⟨z, rfl⟩ := Int.eq_ofNat_of_zero_le (show 0 ≤ z by omega)
  rw [Int.toNat_natCast] at hK
  have hcp : ∀ b, b ∈ L → b.used ≠ [] ∧ b.used.length ≤ 64 := fun b hb => by
    obtain ⟨_, _, h3, h4⟩ := hK b hb
    have := okU_16 (z := z) (by omega) (by omega) h4
    exact ⟨h3, by omega⟩
  have hcp1 : (∀ b, b ∈ L → ¬ b.used = [] ∧ b.used.length ≤ 64) = True := eq_true hcp
  simp [Try.ntmps55, Try.results55, cSl, cp0, cp1, cp2, cp3, cn0, cn1, cn2, cI, cD, cR, cF, cA, rSlb, slbDec, rBox, Slb.row, h0, hc, hL, hcp1]
  by_cases h1 : L = []
  · subst h1
    simp [Try.ntmps55, Try.results55, cSl, cp0, cp1, cp2, cp3, cn0, cn1, cn2, cI, cD, cR, cF, cA, slVA, slHA, oA, rCapI, rI, irowDec]
    refine loop_rounds 1 ?_
    by_cases hf : f < 0 ∨ 64 ≤ f
    · simp [Try.ntmps55, Try.results55, cSl, cp0, cp1, cp2, cp3, cn0, cn1, cn2, cI, cD, cR, cF, cA, UnrK, hf, skX, skU, okL, okO]
      first
      | exact ent_err (@sk_err _) (by simp [lowA, lowC])
      | (refine Ent.weakT (th := [0]) ?_; simp []; done)
      | (refine Ent.weakT (th := [1]) ?_; simp []; done)
      | (refine Ent.weakT (th := [2]) ?_; simp []; done)
      | (refine Ent.weakT (th := [3]) ?_; simp []; done)
      | (refine Ent.weakT (th := [4]) ?_; simp []; done)
      | (refine Ent.weakT (th := [5]) ?_; simp []; done)
      | (refine Ent.weakT (th := [6]) ?_; simp []; done)
      | (refine Ent.weakT (th := [7]) ?_; simp []; done)
      | (refine Ent.weakT (th := [8]) ?_; simp []; done)
      | (refine Ent.weakT (th := [9]) ?_; simp []; done)
      | (refine Ent.weakT (th := [10]) ?_; simp []; done)
      | (refine Ent.weakT (th := [11]) ?_; simp []; done)
    have hf1 : ¬ f < 0 := by omega
    have hf2 : ¬ 64 ≤ f := by omega
    simp [Try.ntmps55, Try.results55, cSl, cp0, cp1, cp2, cp3, cn0, cn1, cn2, cI, cD, cR, cF, cA, UnrK, rCapI, rI, irowDec, hf1, hf2]
    refine loop_rounds 1 ?_
    simp [Try.ntmps55, Try.results55, cSl, cp0, cp1, cp2, cp3, cn0, cn1, cn2, cI, cD, cR, cF, cA, UnrK, insertI, skX, skU, okL, Slb.hrow, Box.hrow, irow, insAt]
    refine canon (L := [⟨f, [0]⟩]) (P := 8) (g := fun _ => 6) (vs := [.agg #[.int .i64 f, .int .i64 0], .bool true, .int .i64 0]) ?_ ?_ ?_ ?_
    · rfl
    · intro j hj
      obtain rfl : j = 0 := by simpa using hj
      rfl
    · intro j k hj hk _
      simp at hj hk; omega
    · intro j _; decide
  have h1' : ¬ L.length = 0 := fun h => h1 (List.length_eq_zero_iff.1 h)
  simp [Try.ntmps55, Try.results55, cSl, cp0, cp1, cp2, cp3, cn0, cn1, cn2, cI, cD, cR, cF, cA, slVA, slHA, oA, h1]
  obtain ⟨q, hq⟩ : ∃ q, q = 16 / z := ⟨_, rfl⟩
  have e3 : (16 : Int) / (z : Int) = (q : Int) := by rw [hq]; rfl
  have hqz : q * z ≤ 16 := by rw [hq]; exact Nat.div_mul_le_self 16 z
  have hq16 : q ≤ 16 := by rw [hq]; exact Nat.div_le_self _ _
  have hz1 : 1 ≤ z ∧ z ≤ 16 := by omega
  have hz2 : 1 ≤ (z : Int) ∧ (z : Int) ≤ 16 := by omega
  have wkz : ∀ kk, kk < q → IntKind.i64.wrap ((kk : Int) * (z : Int)) = (kk : Int) * (z : Int) := fun kk hk => by
    have : kk * z ≤ q * z := Nat.mul_le_mul_right _ (by omega)
    have e : (kk : Int) * (z : Int) = ((kk * z : Nat) : Int) := by simp
    rw [e, w64 (by omega) (by omega)]
  obtain ⟨G, hG⟩ : ∃ G : Heap, [some (2, [[.v (.int .i64 z), .osl 6 2 0 L.length L.length]]), some (1, [[.v (.int .i64 f)]]), some (2, [[.v (.int .i64 0), .v (.slice none 0 0)]]), some (2, [[.v (.int .i64 0), .v (.int .i64 0)]]), none, none, some (2, rowsA 7 L)] ++ tailA L = G := ⟨_, rfl⟩
  have gl : G.length = 7 + L.length := by rw [← hG]; simp [tailA_len]; omega
  have e0 : ∀ K : Heap, (G ++ K)[0]? = some (some (2, [[.v (.int .i64 z), .osl 6 2 0 L.length L.length]])) := fun K => by rw [← hG]; rfl
  have e1 : ∀ K : Heap, (G ++ K)[1]? = some (some (1, [[.v (.int .i64 f)]])) := fun K => by rw [← hG]; rfl
  have e2 : ∀ K : Heap, (G ++ K)[2]? = some (some (2, [[.v (.int .i64 0), .v (.slice none 0 0)]])) := fun K => by rw [← hG]; rfl
  have e4 : ∀ K : Heap, (G ++ K)[3]? = some (some (2, [[.v (.int .i64 0), .v (.int .i64 0)]])) := fun K => by rw [← hG]; rfl
  have e6 : ∀ K : Heap, (G ++ K)[6]? = some (some (2, rowsA 7 L)) := fun K => by rw [← hG]; rfl
  have e7 : ∀ (k : Nat) (hk : k < L.length) (K : Heap), (G ++ K)[7 + k]? = some (some (1, L[k].used.map (irow .i64))) := fun k hk K => by
    rw [← hG, List.append_assoc, List.getElem?_append_right (by simp), List.getElem?_append_left (by simp [tailA_len]; omega)]
    simp [tailA, hk]
  have en : ∀ (K : Heap) (x : Option (Nat × List Row)), (G ++ (K ++ [x]))[G.length + K.length]? = some x := fun K x => by
    rw [List.getElem?_append_right (by omega), List.getElem?_append_right (by omega)]; simp
  have es : ∀ (K : Heap) (x y : Option (Nat × List Row)), (G ++ (K ++ [x])).set (G.length + K.length) y = G ++ (K ++ [y]) := fun K x y => by
    rw [List.set_append_right _ _ (by omega), List.set_append_right _ _ (by omega)]; simp
  have hvw : ∀ (K : Heap) (d : Nat), List.map (List.map (view (G ++ K) (d + 1))) (rowsA 7 L) = L.map Box.hrow := fun K d => by
    apply List.ext_getElem?
    intro k
    rw [List.getElem?_map]
    by_cases hk : k < L.length
    · have ho : obj (G ++ K) (7 + k) = some (1, L[k].used.map (irow .i64)) := by unfold obj; rw [e7 k hk K]; rfl
      rw [rowsA_get hk]
      simp [-obj, hk, ownB, Box.hrow, view, ho]
    · rw [List.getElem?_eq_none (by rw [rowsA_len]; omega), List.getElem?_eq_none (by simp; omega)]; rfl
  have hrl : (rowsA 7 L).length = L.length := rowsA_len
  cases hfi : L.findIdx? (holeB z) with
  | some i =>
    rw [List.findIdx?_eq_some_iff_getElem] at hfi
    obtain ⟨hiL, hih, hin⟩ := hfi
    refine loop_forE L.length (fun k (K : Heap) => ([(2, .ptr 0 2 0 0), (3, .ptr 1 1 0 0), (4, .ptr 2 2 0 0), (5, .ptr 3 2 0 0), (24, .osl 6 2 0 L.length L.length), (25, .v (.int .i64 L.length)), (26, .v (.int .i64 k))], G ++ K)) (fun k _ => k ≤ i) [] (fun k _ hk _ => by omega) (Nat.zero_le _) ?_ ?_ ?_
    · rw [List.append_nil, ← hG]; exact Ent.env (by simp)
    · rintro k K hk hki hw
      have hgr := rowsA_get (c := 7) hk
      have hg2 : (rowsA 7 L)[k]'(by rw [hrl]; exact hk) = ownB (7 + k) L[k] := by
        rw [List.getElem?_eq_getElem (by rw [hrl]; exact hk)] at hgr
        simpa using hgr
      simp [Try.ntmps55, Try.results55, cSl, cp0, cp1, cp2, cp3, cn0, cn1, cn2, cI, cD, cR, cF, cA, hk, hw, hrl, hg2, ownB, e3, rSlb, slbDec, rBox, hz2, e0, e1, e2, e4, e6, e7 k hk, en, es, hvw]
      have hu64 : L[k].used.length ≤ 4294967296 := by have := (hcp _ (List.getElem_mem hk)).2; omega
      rcases Nat.lt_or_eq_of_le hki with hlt | heq
      · have hfull : ∀ kk, kk < q → ((kk : Int) * (z : Int)) ∈ L[k].used := fun kk hkk => by
          have hn : hole z L[k].used = none := by
            have := hin k hlt
            simpa [holeB] using this
          have := hole_none hn kk (by rw [← hq]; exact hkk)
          simpa using this
        refine loop_forE q (fun kk (_ : Unit) => ([(2, .ptr 0 2 0 0), (3, .ptr 1 1 0 0), (4, .ptr 2 2 0 0), (5, .ptr 3 2 0 0), (9, .v (.int .i64 k)), (10, .ptr (G.length + K.length) 2 0 0), (24, .osl 6 2 0 L.length L.length), (25, .v (.int .i64 L.length)), (26, .v (.int .i64 k)), (32, .v (.int .i64 q)), (33, .v (.int .i64 kk))], G ++ (K ++ [some (2, [[.v (.int .i64 L[k].frame), .osl (7 + k) 1 0 L[k].used.length L[k].used.length]])]))) (fun kk _ => True) () (fun k _ hk _ => by omega) trivial ?_ ?_ ?_
        · exact Ent.env (by simp)
        · rintro kk _ hkk _ hw2
          have hm := hfull kk hkk
          simp [Try.ntmps55, Try.results55, cSl, cp0, cp1, cp2, cp3, cn0, cn1, cn2, cI, cD, cR, cF, cA, hkk, hw2, wkz kk hkk, hm, hu64, rI, irowDec, e0, e1, e2, e4, e6, e7 k hk, en, es, hvw]
          exact ⟨(), trivial, Ent.env (by simp)⟩
        · rintro _ _
          simp [Try.ntmps55, Try.results55, cSl, cp0, cp1, cp2, cp3, cn0, cn1, cn2, cI, cD, cR, cF, cA, hw]
          exact ⟨_, by omega, Ent.env (by simp)⟩
      · subst heq
        obtain ⟨hh, hho⟩ : ∃ hh, hole z L[k].used = some hh := by
          unfold holeB at hih
          exact Option.isSome_iff_exists.1 hih
        obtain ⟨h21, h22, h23⟩ := hole_some hho
        obtain ⟨h24, _⟩ := okU_ins (by omega) (hK _ (List.getElem_mem hk)).2.2.2 hho
        rw [← hq] at h21
        have hu16 := okU_16 hz1.1 hz1.2 (hK _ (List.getElem_mem hk)).2.2.2
        have hu0 := (hK _ (List.getElem_mem hk)).2.2.1
        have e7k := e7 k hk
        generalize hb : L[k] = b at *
        obtain ⟨bf, u⟩ := b
        simp only at h24 hu16 hu0 h22 h23 hu64 e7k
        refine loop_forE q (fun kk (_ : Unit) => ([(2, .ptr 0 2 0 0), (3, .ptr 1 1 0 0), (4, .ptr 2 2 0 0), (5, .ptr 3 2 0 0), (9, .v (.int .i64 k)), (10, .ptr (G.length + K.length) 2 0 0), (24, .osl 6 2 0 L.length L.length), (25, .v (.int .i64 L.length)), (26, .v (.int .i64 k)), (32, .v (.int .i64 q)), (33, .v (.int .i64 kk))], G ++ (K ++ [some (2, [[.v (.int .i64 bf), .osl (7 + k) 1 0 u.length u.length]])]))) (fun kk _ => kk ≤ hh) () (fun k _ hk _ => by omega) (Nat.zero_le _) ?_ ?_ (fun _ h => by omega)
        · exact Ent.env (by simp)
        · rintro kk _ hkk hle hw2
          rcases Nat.lt_or_eq_of_le hle with hlt | heq
          · have hm : ((kk : Int) * (z : Int)) ∈ u := by simpa using h23 kk hlt
            simp [Try.ntmps55, Try.results55, cSl, cp0, cp1, cp2, cp3, cn0, cn1, cn2, cI, cD, cR, cF, cA, hkk, hw2, wkz kk hkk, hm, hu64, rI, irowDec, e0, e1, e2, e4, e6, e7k, en, es, hvw]
            exact ⟨(), by omega, Ent.env (by simp)⟩
          · subst heq
            have hm : ¬ ((kk : Int) * (z : Int)) ∈ u := by simpa using h22
            have hu1 : u.length ≤ 1048576 := by omega
            have c1 : u.length + 1 ≤ kk + (u.length - kk + 1) := by omega
            have c2 : ∀ r : Row, List.take (u.length + 1) (List.take kk (u.map (irow .i64)) ++ r :: List.drop kk (u.map (irow .i64))) = List.take kk (u.map (irow .i64)) ++ r :: List.drop kk (u.map (irow .i64)) := fun r => List.take_of_length_le (by simp; omega)
            have hne : ¬ (7 + k = G.length + (K.length + 1)) := by omega
            obtain ⟨G', hG'⟩ : ∃ G', G.set (7 + k) none = G' := ⟨_, rfl⟩
            have gl' : G'.length = G.length := by rw [← hG']; simp
            have sk : ∀ X : Heap, (G ++ X).set (7 + k) none = G' ++ X := fun X => by rw [← hG', List.set_append_left _ _ (by omega)]
            have lo : ∀ (j : Nat) (X : Heap) (o : Option (Nat × List Row)), j < 7 → (G ++ X)[j]? = some o → (G' ++ X)[j]? = some o := fun j X o hj h => by
              rw [← sk, List.getElem?_set_ne (by omega)]; exact h
            have f0 := fun X => lo 0 X _ (by omega) (e0 X)
            have f2 := fun X => lo 2 X _ (by omega) (e2 X)
            have f4 := fun X => lo 3 X _ (by omega) (e4 X)
            have f6 := fun X => lo 6 X _ (by omega) (e6 X)
            have fn : ∀ (b : Option (Nat × List Row)) (X : Heap), (G' ++ (K ++ b :: X))[G.length + K.length]? = some b := fun b X => by
              rw [List.getElem?_append_right (by omega), List.getElem?_append_right (by omega)]; simp [gl']
            have g0 := fun X => (List.getElem?_eq_some_iff.1 (f0 X)).2
            have g2' := fun X => (List.getElem?_eq_some_iff.1 (f2 X)).2
            have g4 := fun X => (List.getElem?_eq_some_iff.1 (f4 X)).2
            have g6 := fun X => (List.getElem?_eq_some_iff.1 (f6 X)).2
            have gn := fun b X => (List.getElem?_eq_some_iff.1 (fn b X)).2
            have n6 : ¬ (6 = G.length + K.length) := by omega
            have l6 : ∀ n, 6 < G'.length + n := fun n => by omega
            have l2 : ∀ n, 2 < G'.length + n := fun n => by omega
            have l3 : ∀ n, 3 < G'.length + n := fun n => by omega
            simp [Try.ntmps55, Try.results55, cSl, cp0, cp1, cp2, cp3, cn0, cn1, cn2, cI, cD, cR, cF, cA, hkk, hw2, wkz kk hkk, hm, hu64, hu1, h24, hk, hrl, hg2, ownB, rI, irowDec, insertI, e0, e1, e2, e4, e6, e7k, en, es, hvw, c1, c2, hne, sk, f0, f2, f4, f6, fn, g0, g2', g4, g6, gn, n6, l6, l2, l3, List.getElem?_set, hho, hb, skX, skU, okL]
            refine ⟨⟨by omega, by omega, by omega⟩, by omega, ?_⟩
            have hul : (List.take kk u ++ (kk : Int) * (z : Int) :: List.drop kk u).length = u.length + 1 := by simp; omega
            have hum : List.take kk (List.map (irow .i64) u) ++ [.v (.int .i64 ((kk : Int) * (z : Int)))] :: List.drop kk (List.map (irow .i64) u) = (List.take kk u ++ (kk : Int) * (z : Int) :: List.drop kk u).map (irow .i64) := by simp [irow]
            rw [hum, show ([.v (.int .i64 bf), .osl (G.length + (K.length + 2)) 1 0 (u.length + 1) (u.length + 1)] : Row) = ownB (G.length + (K.length + 2)) ⟨bf, List.take kk u ++ (kk : Int) * (z : Int) :: List.drop kk u⟩ by simp only [ownB, hul], rowsG_set]
            generalize List.take kk u ++ (kk : Int) * (z : Int) :: List.drop kk u = U at *
            have hcan := canon (H := (((G' ++ (K ++ ([some (2, [[.v (.int .i64 bf), .osl (7 + k) 1 0 u.length u.length]]), some (1, [[.v (.int .i64 ((kk : Int) * (z : Int)))]]), some (1, U.map (irow .i64))] : Heap))).set 6 (some (2, rowsG (fun j => if j = k then G.length + (K.length + 2) else 7 + j) (L.set k ⟨bf, U⟩)))).set 2 (some (2, [[.v (.int .i64 z), .osl 6 2 0 L.length L.length]]))).set 3 (some (2, [[.v (.int .i64 bf), .v (.int .i64 ((kk : Int) * (z : Int)))]]))) (P := 6) (g := fun j => if j = k then G.length + (K.length + 2) else 7 + j) (L := L.set k ⟨bf, U⟩) (z := (z : Int)) (vs := [.agg #[.int .i64 bf, .int .i64 ((kk : Int) * (z : Int))], .bool false, .int .i64 0])
              (by rw [ob_ne (by decide), ob_ne (by decide)]; exact ob_self (by simp; omega) (by decide))
              (fun j hj => by
                rw [List.length_set] at hj
                by_cases e : j = k
                · subst e
                  simp only [if_true]
                  rw [ob_ne (by omega), ob_ne (by omega), ob_ne (by omega)]
                  refine ob_of ?_ (by decide)
                  rw [List.getElem?_append_right (by omega), List.getElem?_append_right (by omega)]
                  simp [gl']
                  try (rw [show G.length + (K.length + 2) - G.length - K.length = 2 by omega]; rfl)
                · simp only [if_neg e]
                  rw [ob_ne (by omega), ob_ne (by omega), ob_ne (by omega)]
                  refine ob_of ?_ (by decide)
                  rw [List.getElem_set_ne (fun h => e h.symm), ← hG', ← List.set_append_left _ _ (by omega), List.getElem?_set_ne (by omega)]
                  exact e7 j hj _)
              (fun a b ha hb hab => by
                rw [List.length_set] at ha hb
                try simp only at hab
                split at hab <;> split at hab <;> omega)
              (fun j hj => by try simp only
                              split <;> omega)
            simpa only [List.length_set, List.map_cons, List.map_nil] using hcan
    · rintro _ h; omega
  | none =>
    rw [List.findIdx?_eq_none_iff] at hfi
    refine loop_forE L.length (fun k (K : Heap) => ([(2, .ptr 0 2 0 0), (3, .ptr 1 1 0 0), (4, .ptr 2 2 0 0), (5, .ptr 3 2 0 0), (24, .osl 6 2 0 L.length L.length), (25, .v (.int .i64 L.length)), (26, .v (.int .i64 k))], G ++ K)) (fun k _ => True) [] (fun k _ hk _ => by omega) trivial ?_ ?_ ?_
    · rw [List.append_nil, ← hG]; exact Ent.env (by simp)
    · rintro k K hk _ hw
      have hgr := rowsA_get (c := 7) hk
      have hg2 : (rowsA 7 L)[k]'(by rw [hrl]; exact hk) = ownB (7 + k) L[k] := by
        rw [List.getElem?_eq_getElem (by rw [hrl]; exact hk)] at hgr
        simpa using hgr
      have hfull : ∀ kk, kk < q → ((kk : Int) * (z : Int)) ∈ L[k].used := fun kk hkk => by
        have hn : hole z L[k].used = none := by
          have := hfi _ (List.getElem_mem hk)
          simpa [holeB] using this
        have := hole_none hn kk (by rw [← hq]; exact hkk)
        simpa using this
      have hu64 : L[k].used.length ≤ 4294967296 := by have := (hcp _ (List.getElem_mem hk)).2; omega
      simp [Try.ntmps55, Try.results55, cSl, cp0, cp1, cp2, cp3, cn0, cn1, cn2, cI, cD, cR, cF, cA, hk, hw, hrl, hg2, ownB, e3, rSlb, slbDec, rBox, hz2, e0, e1, e2, e4, e6, e7 k hk, en, es, hvw]
      refine loop_forE q (fun kk (_ : Unit) => ([(2, .ptr 0 2 0 0), (3, .ptr 1 1 0 0), (4, .ptr 2 2 0 0), (5, .ptr 3 2 0 0), (9, .v (.int .i64 k)), (10, .ptr (G.length + K.length) 2 0 0), (24, .osl 6 2 0 L.length L.length), (25, .v (.int .i64 L.length)), (26, .v (.int .i64 k)), (32, .v (.int .i64 q)), (33, .v (.int .i64 kk))], G ++ (K ++ [some (2, [[.v (.int .i64 L[k].frame), .osl (7 + k) 1 0 L[k].used.length L[k].used.length]])]))) (fun kk _ => True) () (fun k _ hk _ => by omega) trivial ?_ ?_ ?_
      · exact Ent.env (by simp)
      · rintro kk _ hkk _ hw2
        have hm := hfull kk hkk
        simp [Try.ntmps55, Try.results55, cSl, cp0, cp1, cp2, cp3, cn0, cn1, cn2, cI, cD, cR, cF, cA, hkk, hw2, wkz kk hkk, hm, hu64, rI, irowDec, e0, e1, e2, e4, e6, e7 k hk, en, es, hvw]
        exact ⟨(), trivial, Ent.env (by simp)⟩
      · rintro _ _
        simp [Try.ntmps55, Try.results55, cSl, cp0, cp1, cp2, cp3, cn0, cn1, cn2, cI, cD, cR, cF, cA, hw]
        exact ⟨_, trivial, Ent.env (by simp)⟩
    · rintro K _
      have l2 : ∀ n, 2 < G.length + n := fun n => by omega
      have l3 : ∀ n, 3 < G.length + n := fun n => by omega
      have k0 := fun X => (List.getElem?_eq_some_iff.1 (e0 X)).2
      have k2 := fun X => (List.getElem?_eq_some_iff.1 (e2 X)).2
      have k4 := fun X => (List.getElem?_eq_some_iff.1 (e4 X)).2
      by_cases hf : f < 0 ∨ 64 ≤ f
      · simp [Try.ntmps55, Try.results55, cSl, cp0, cp1, cp2, cp3, cn0, cn1, cn2, cI, cD, cR, cF, cA, hf, skX, skU, okL, e0, e1, e2, e4, l2, l3, k0, k2, k4, List.getElem?_set]
        first
        | exact ent_err (@sk_err _) (by simp [lowA, lowC])
        | (refine Ent.weakT (th := [0]) ?_; simp []; done)
        | (refine Ent.weakT (th := [1]) ?_; simp []; done)
        | (refine Ent.weakT (th := [2]) ?_; simp []; done)
        | (refine Ent.weakT (th := [3]) ?_; simp []; done)
        | (refine Ent.weakT (th := [4]) ?_; simp []; done)
        | (refine Ent.weakT (th := [5]) ?_; simp []; done)
        | (refine Ent.weakT (th := [6]) ?_; simp []; done)
        | (refine Ent.weakT (th := [7]) ?_; simp []; done)
        | (refine Ent.weakT (th := [8]) ?_; simp []; done)
        | (refine Ent.weakT (th := [9]) ?_; simp []; done)
        | (refine Ent.weakT (th := [10]) ?_; simp []; done)
        | (refine Ent.weakT (th := [11]) ?_; simp []; done)
      have hf1 : ¬ f < 0 := by omega
      have hf2 : ¬ 64 ≤ f := by omega
      have hL2 : L.length ≤ 4294967296 := by omega
      by_cases ha : ∃ x, x ∈ L ∧ x.frame = f
      · have ha1 : (∃ x, x ∈ L ∧ x.frame = f) = True := eq_true ha
        simp [Try.ntmps55, Try.results55, cSl, cp0, cp1, cp2, cp3, cn0, cn1, cn2, cI, cD, cR, cF, cA, hf1, hf2, ha1, hL2, skX, skU, okL, rCapI, rI, irowDec, hvw, hrl, e0, e1, e2, e4, e6, l2, l3, k0, k2, k4, List.getElem?_set]
        first
        | exact ent_err (@sk_err _) (by simp [lowA, lowC])
        | (refine Ent.weakT (th := [0]) ?_; simp []; done)
        | (refine Ent.weakT (th := [1]) ?_; simp []; done)
        | (refine Ent.weakT (th := [2]) ?_; simp []; done)
        | (refine Ent.weakT (th := [3]) ?_; simp []; done)
        | (refine Ent.weakT (th := [4]) ?_; simp []; done)
        | (refine Ent.weakT (th := [5]) ?_; simp []; done)
        | (refine Ent.weakT (th := [6]) ?_; simp []; done)
        | (refine Ent.weakT (th := [7]) ?_; simp []; done)
        | (refine Ent.weakT (th := [8]) ?_; simp []; done)
        | (refine Ent.weakT (th := [9]) ?_; simp []; done)
        | (refine Ent.weakT (th := [10]) ?_; simp []; done)
        | (refine Ent.weakT (th := [11]) ?_; simp []; done)
      · have ha1 : (∃ x, x ∈ L ∧ x.frame = f) = False := eq_false ha
        simp [Try.ntmps55, Try.results55, cSl, cp0, cp1, cp2, cp3, cn0, cn1, cn2, cI, cD, cR, cF, cA, hf1, hf2, ha1, hL2, rCapI, rI, irowDec, hvw, hrl, e0, e1, e2, e4, e6]
        obtain ⟨i1, i2, i3⟩ := ins_spec L f
        generalize insAt L f = m at i1 i2 i3 ⊢
        refine loop_forE m (fun k (_ : Unit) => ([(2, .ptr 0 2 0 0), (3, .ptr 1 1 0 0), (4, .ptr 2 2 0 0), (5, .ptr 3 2 0 0), (13, .v (.int .i64 k))], G ++ K)) (fun _ _ => True) () (fun k _ hk _ => by omega) trivial ?_ ?_ ?_
        · exact Ent.env (by simp)
        · rintro k _ hk _ hw
          obtain ⟨g1, g2⟩ := i2 k hk
          have g1' : (k : Int) < L.length := by omega
          have hgr := rowsA_get (c := 7) g1
          have hg2 : (rowsA 7 L)[k]'(by rw [hrl]; exact g1) = ownB (7 + k) L[k] := by
            rw [List.getElem?_eq_getElem (by rw [hrl]; exact g1)] at hgr
            simpa using hgr
          simp [Try.ntmps55, Try.results55, cSl, cp0, cp1, cp2, cp3, cn0, cn1, cn2, cI, cD, cR, cF, cA, g1, g1', g2, hw, hrl, hg2, ownB, e0, e1, e2, e4, e6]
          exact ⟨(), trivial, Ent.env (by simp)⟩
        · rintro _ _
          have hL3 : L.length ≤ 1048576 := by omega
          have hpos : 0 < L.length := by omega
          rcases Nat.lt_or_eq_of_le i1 with hlt | heq
          · have g2 := i3 hlt
            have g1' : (m : Int) < L.length := by omega
            have hgr := rowsA_get (c := 7) hlt
            have hg2 : (rowsA 7 L)[m]'(by rw [hrl]; exact hlt) = ownB (7 + m) L[m] := by
              rw [List.getElem?_eq_getElem (by rw [hrl]; exact hlt)] at hgr
              simpa using hgr
            have hne : ¬ (6 = G.length + (K.length + 1)) := by omega
            obtain ⟨G', hG'⟩ : ∃ G', G.set 6 none = G' := ⟨_, rfl⟩
            have gl' : G'.length = G.length := by rw [← hG']; simp
            have sk : ∀ X : Heap, (G ++ X).set 6 none = G' ++ X := fun X => by rw [← hG', List.set_append_left _ _ (by omega)]
            have lo : ∀ (j : Nat) (X : Heap) (o : Option (Nat × List Row)), j < 6 → (G ++ X)[j]? = some o → (G' ++ X)[j]? = some o := fun j X o hj h => by
              rw [← sk, List.getElem?_set_ne (by omega)]; exact h
            have f0 := fun X => lo 0 X _ (by omega) (e0 X)
            have f1 := fun X => lo 1 X _ (by omega) (e1 X)
            have f2 := fun X => lo 2 X _ (by omega) (e2 X)
            have f4 := fun X => lo 3 X _ (by omega) (e4 X)
            have u0 := fun X => (List.getElem?_eq_some_iff.1 (f0 X)).2
            have u1 := fun X => (List.getElem?_eq_some_iff.1 (f1 X)).2
            have u2 := fun X => (List.getElem?_eq_some_iff.1 (f2 X)).2
            have u4 := fun X => (List.getElem?_eq_some_iff.1 (f4 X)).2
            have w0 : ∀ n, 0 < G'.length + n := fun n => by omega
            have w2 : ∀ n, 2 < G'.length + n := fun n => by omega
            have w3 : ∀ n, 3 < G'.length + n := fun n => by omega
            have hh2 : L.length + 1 ≤ m + (L.length - m + 1) := by omega
            have hh1 : ∀ x : Row, List.take (L.length + 1) (List.take m (rowsA 7 L) ++ x :: List.drop m (rowsA 7 L)) = List.take m (rowsA 7 L) ++ x :: List.drop m (rowsA 7 L) := fun x => List.take_of_length_le (by simp [rowsA_len]; omega)
            simp [Try.ntmps55, Try.results55, cSl, cp0, cp1, cp2, cp3, cn0, cn1, cn2, cI, cD, cR, cF, cA, hlt, g1', g2, i1, hL3, hpos, insertI, hrl, hg2, ownB, e0, e1, e2, e4, e6, hne, sk, f0, f1, f2, f4, u0, u1, u2, u4, w0, w2, w3, hh1, hh2, List.getElem?_set, skX, skU, okL, irow]
            have hri := rowsG_ins (c := 7) (P := G.length + K.length) (b := ⟨f, [0]⟩) i1
            simp only [ownB, List.length_cons, List.length_nil, Nat.zero_add] at hri
            have hl1 : (List.take m L).length = m := by simp; omega
            have hL1 : (List.take m L ++ (⟨f, [0]⟩ : Box) :: List.drop m L).length = L.length + 1 := by simp; omega
            have hcan := canon (H := (((G' ++ (K ++ ([some (1, [[.v (.int .i64 0)]]), some (2, [[.v (.int .i64 f), .osl (G.length + K.length) 1 0 1 1]]), some (2, rowsG (fun j => if j < m then 7 + j else if j = m then G.length + K.length else 7 + (j - 1)) (List.take m L ++ ⟨f, [0]⟩ :: List.drop m L))] : Heap))).set 0 (some (2, [[.v (.int .i64 z), .osl (G.length + (K.length + 2)) 2 0 (L.length + 1) (L.length + 1)]]))).set 2 (some (2, [[.v (.int .i64 z), .osl (G.length + (K.length + 2)) 2 0 (L.length + 1) (L.length + 1)]]))).set 3 (some (2, [[.v (.int .i64 f), .v (.int .i64 0)]]))) (P := G.length + (K.length + 2)) (g := fun j => if j < m then 7 + j else if j = m then G.length + K.length else 7 + (j - 1)) (L := List.take m L ++ ⟨f, [0]⟩ :: List.drop m L) (z := (z : Int)) (vs := [.agg #[.int .i64 f, .int .i64 0], .bool true, .int .i64 0])
              (by
                rw [ob_ne (by omega), ob_ne (by omega), ob_ne (by omega)]
                refine ob_of ?_ (by decide)
                rw [List.getElem?_append_right (by omega), List.getElem?_append_right (by omega), gl', show G.length + (K.length + 2) - G.length - K.length = 2 by omega]; rfl)
              (fun j hj => by
                rw [hL1] at hj
                try simp only
                rcases Nat.lt_trichotomy j m with h | h | h
                · have hx : (List.take m L ++ (⟨f, [0]⟩ : Box) :: List.drop m L)[j]? = L[j]? := by rw [List.getElem?_append_left (by omega), List.getElem?_take_of_lt h]
                  rw [List.getElem?_eq_getElem (by omega), List.getElem?_eq_getElem (show j < L.length by omega), Option.some.injEq] at hx
                  rw [hx, if_pos h, ob_ne (by omega), ob_ne (by omega), ob_ne (by omega)]
                  refine ob_of ?_ (by decide)
                  rw [← sk, List.getElem?_set_ne (by omega)]
                  exact e7 j (by omega) _
                · subst h
                  have hx : (List.take j L ++ (⟨f, [0]⟩ : Box) :: List.drop j L)[j]? = some ⟨f, [0]⟩ := by rw [List.getElem?_append_right (by omega), hl1, Nat.sub_self]; rfl
                  rw [List.getElem?_eq_getElem (by omega), Option.some.injEq] at hx
                  rw [hx, if_neg (by omega), if_pos rfl, ob_ne (by omega), ob_ne (by omega), ob_ne (by omega)]
                  refine ob_of ?_ (by decide)
                  rw [List.getElem?_append_right (by omega), List.getElem?_append_right (by omega), gl', show G.length + K.length - G.length - K.length = 0 by omega]; rfl
                · have hx : (List.take m L ++ (⟨f, [0]⟩ : Box) :: List.drop m L)[j]? = L[j - 1]? := by rw [List.getElem?_append_right (by omega), hl1, show j - m = (j - m - 1) + 1 by omega, List.getElem?_cons_succ, List.getElem?_drop, show m + (j - m - 1) = j - 1 by omega]
                  rw [List.getElem?_eq_getElem (by omega), List.getElem?_eq_getElem (show j - 1 < L.length by omega), Option.some.injEq] at hx
                  rw [hx, if_neg (by omega), if_neg (by omega), ob_ne (by omega), ob_ne (by omega), ob_ne (by omega)]
                  refine ob_of ?_ (by decide)
                  rw [← sk, List.getElem?_set_ne (by omega)]
                  exact e7 (j - 1) (by omega) _)
              (fun a b ha hb hab => by
                rw [hL1] at ha hb
                try simp only at hab
                split at hab <;> split at hab <;> (try split at hab) <;> (try split at hab) <;> omega)
              (fun j hj => by
                rw [hL1] at hj
                try simp only
                split <;> (try split) <;> omega)
            rw [hri, show m + (L.length - m + 1) = L.length + 1 by omega]
            rw [hL1] at hcan
            simpa only [List.map_cons, List.map_nil] using hcan
          · have g1n : ¬ (m : Int) < L.length := by omega
            have hne : ¬ (6 = G.length + (K.length + 1)) := by omega
            obtain ⟨G', hG'⟩ : ∃ G', G.set 6 none = G' := ⟨_, rfl⟩
            have gl' : G'.length = G.length := by rw [← hG']; simp
            have sk : ∀ X : Heap, (G ++ X).set 6 none = G' ++ X := fun X => by rw [← hG', List.set_append_left _ _ (by omega)]
            have lo : ∀ (j : Nat) (X : Heap) (o : Option (Nat × List Row)), j < 6 → (G ++ X)[j]? = some o → (G' ++ X)[j]? = some o := fun j X o hj h => by
              rw [← sk, List.getElem?_set_ne (by omega)]; exact h
            have f0 := fun X => lo 0 X _ (by omega) (e0 X)
            have f1 := fun X => lo 1 X _ (by omega) (e1 X)
            have f2 := fun X => lo 2 X _ (by omega) (e2 X)
            have f4 := fun X => lo 3 X _ (by omega) (e4 X)
            have u0 := fun X => (List.getElem?_eq_some_iff.1 (f0 X)).2
            have u1 := fun X => (List.getElem?_eq_some_iff.1 (f1 X)).2
            have u2 := fun X => (List.getElem?_eq_some_iff.1 (f2 X)).2
            have u4 := fun X => (List.getElem?_eq_some_iff.1 (f4 X)).2
            have w0 : ∀ n, 0 < G'.length + n := fun n => by omega
            have w2 : ∀ n, 2 < G'.length + n := fun n => by omega
            have w3 : ∀ n, 3 < G'.length + n := fun n => by omega
            have hh2 : L.length + 1 ≤ m + (L.length - m + 1) := by omega
            have hh1 : ∀ x : Row, List.take (L.length + 1) (List.take m (rowsA 7 L) ++ x :: List.drop m (rowsA 7 L)) = List.take m (rowsA 7 L) ++ x :: List.drop m (rowsA 7 L) := fun x => List.take_of_length_le (by simp [rowsA_len]; omega)
            simp [Try.ntmps55, Try.results55, cSl, cp0, cp1, cp2, cp3, cn0, cn1, cn2, cI, cD, cR, cF, cA, g1n, i1, hL3, hpos, insertI, hrl, ownB, e0, e1, e2, e4, e6, hne, sk, f0, f1, f2, f4, u0, u1, u2, u4, w0, w2, w3, hh1, hh2, List.getElem?_set, skX, skU, okL, irow]
            have hri := rowsG_ins (c := 7) (P := G.length + K.length) (b := ⟨f, [0]⟩) i1
            simp only [ownB, List.length_cons, List.length_nil, Nat.zero_add] at hri
            have hl1 : (List.take m L).length = m := by simp; omega
            have hL1 : (List.take m L ++ (⟨f, [0]⟩ : Box) :: List.drop m L).length = L.length + 1 := by simp; omega
            have hcan := canon (H := (((G' ++ (K ++ ([some (1, [[.v (.int .i64 0)]]), some (2, [[.v (.int .i64 f), .osl (G.length + K.length) 1 0 1 1]]), some (2, rowsG (fun j => if j < m then 7 + j else if j = m then G.length + K.length else 7 + (j - 1)) (List.take m L ++ ⟨f, [0]⟩ :: List.drop m L))] : Heap))).set 0 (some (2, [[.v (.int .i64 z), .osl (G.length + (K.length + 2)) 2 0 (L.length + 1) (L.length + 1)]]))).set 2 (some (2, [[.v (.int .i64 z), .osl (G.length + (K.length + 2)) 2 0 (L.length + 1) (L.length + 1)]]))).set 3 (some (2, [[.v (.int .i64 f), .v (.int .i64 0)]]))) (P := G.length + (K.length + 2)) (g := fun j => if j < m then 7 + j else if j = m then G.length + K.length else 7 + (j - 1)) (L := List.take m L ++ ⟨f, [0]⟩ :: List.drop m L) (z := (z : Int)) (vs := [.agg #[.int .i64 f, .int .i64 0], .bool true, .int .i64 0])
              (by
                rw [ob_ne (by omega), ob_ne (by omega), ob_ne (by omega)]
                refine ob_of ?_ (by decide)
                rw [List.getElem?_append_right (by omega), List.getElem?_append_right (by omega), gl', show G.length + (K.length + 2) - G.length - K.length = 2 by omega]; rfl)
              (fun j hj => by
                rw [hL1] at hj
                try simp only
                rcases Nat.lt_trichotomy j m with h | h | h
                · have hx : (List.take m L ++ (⟨f, [0]⟩ : Box) :: List.drop m L)[j]? = L[j]? := by rw [List.getElem?_append_left (by omega), List.getElem?_take_of_lt h]
                  rw [List.getElem?_eq_getElem (by omega), List.getElem?_eq_getElem (show j < L.length by omega), Option.some.injEq] at hx
                  rw [hx, if_pos h, ob_ne (by omega), ob_ne (by omega), ob_ne (by omega)]
                  refine ob_of ?_ (by decide)
                  rw [← sk, List.getElem?_set_ne (by omega)]
                  exact e7 j (by omega) _
                · subst h
                  have hx : (List.take j L ++ (⟨f, [0]⟩ : Box) :: List.drop j L)[j]? = some ⟨f, [0]⟩ := by rw [List.getElem?_append_right (by omega), hl1, Nat.sub_self]; rfl
                  rw [List.getElem?_eq_getElem (by omega), Option.some.injEq] at hx
                  rw [hx, if_neg (by omega), if_pos rfl, ob_ne (by omega), ob_ne (by omega), ob_ne (by omega)]
                  refine ob_of ?_ (by decide)
                  rw [List.getElem?_append_right (by omega), List.getElem?_append_right (by omega), gl', show G.length + K.length - G.length - K.length = 0 by omega]; rfl
                · have hx : (List.take m L ++ (⟨f, [0]⟩ : Box) :: List.drop m L)[j]? = L[j - 1]? := by rw [List.getElem?_append_right (by omega), hl1, show j - m = (j - m - 1) + 1 by omega, List.getElem?_cons_succ, List.getElem?_drop, show m + (j - m - 1) = j - 1 by omega]
                  rw [List.getElem?_eq_getElem (by omega), List.getElem?_eq_getElem (show j - 1 < L.length by omega), Option.some.injEq] at hx
                  rw [hx, if_neg (by omega), if_neg (by omega), ob_ne (by omega), ob_ne (by omega), ob_ne (by omega)]
                  refine ob_of ?_ (by decide)
                  rw [← sk, List.getElem?_set_ne (by omega)]
                  exact e7 (j - 1) (by omega) _)
              (fun a b ha hb hab => by
                rw [hL1] at ha hb
                try simp only at hab
                split at hab <;> split at hab <;> (try split at hab) <;> (try split at hab) <;> omega)
              (fun j hj => by
                rw [hL1] at hj
                try simp only
                split <;> (try split) <;> omega)
            rw [hri, show m + (L.length - m + 1) = L.length + 1 by omega]
            rw [hL1] at hcan
            simpa only [List.map_cons, List.map_nil] using hcan
theorem slTake_inl : InlOk Try.prog 55 (frame0 (own0 (argG (cAgg rSlb) fun s => argG (cInt .i64) fun f => finG (if okS s then some (skU (skX (slTake s f))) else none)))) := frame0_ok slTake_own
end
section
attribute [local simp] Place.eta Place.cold Place.mapM Place.mapMc Place.view Place.viewc Place.hotR Place.ren Place.renc Place.low Place.tau Place.tauc Place.bare Place.flat Place.flat1 Place.mapMt Place.mapMd Place.coldt Place.coldd Place.hotRt Place.hotRd
attribute [local simp] Box.eta Box.dec_row Box.dec_hrow Box.cold Box.hcold Box.mapM Box.mapMc Box.hmapM Box.hmapMc Box.view Box.viewc Box.hview Box.hviewc Box.hotR Box.ren Box.renc Box.low Box.hlow
attribute [local simp] Slb.eta Slb.dec_row Slb.dec_hrow
attribute [local simp] slA_new slA_newH slA_tau slA_tauO okL_tau okL_bare okL_allV okL_one okL_res
def hasB (p : Place) (b : Box) : Bool := b.frame == p.frame && decide (p.at_ ∈ b.used)
def slGive (s : Slb) (p : Place) : Except Int (Slb × Bool) :=
  if slCheck s = 0 then
    match s.boxes.findIdx? (hasB p) with
    | some i =>
      let b := s.boxes[i]?.getD ⟨0, []⟩
      if 1 < b.used.length then .ok (⟨s.size, s.boxes.set i ⟨b.frame, b.used.eraseIdx ((idxOf p.at_ b.used).getD 0)⟩⟩, false)
      else .ok (⟨s.size, s.boxes.eraseIdx i⟩, true)
    | none => .error 4
  else .error (slCheck s)
def giX : Except Int (Slb × Bool) → Bool × Slb × Bool × Int
  | .ok (s, b) => (true, s, b, 0)
  | .error e => (false, ⟨0, []⟩, false, e)
def giU (q : Bool × Slb × Bool × Int) : AVal × Heap :=
  (.tup [.agg [.v (.int .i64 q.2.1.size), okL q.1 0 2 q.2.1.boxes.length], .v (.bool q.2.2.1), .v (.int .i64 q.2.2.2)],
    if q.1 = true then some (2, rowsA 1 q.2.1.boxes) :: tailA q.2.1.boxes else [none])
theorem gi_err {e : Int} : Lss (.v (.tuple #[.agg #[.int .i64 0, .slice none 0 0], .bool false, .int .i64 e])) (.tup [.agg [.v (.int .i64 0), .esl], .v (.bool false), .v (.int .i64 e)]) :=
  (Lss.vals (vs := [.agg #[.int .i64 0, .slice none 0 0], .bool false, .int .i64 e]) rfl (fun j v r hv hr => by
    match j, hv, hr with
    | 0, hv, hr => simp at hv hr; subst hv hr; exact @as2_err
    | 1, hv, hr => simp at hv hr; subst hv hr; exact @Lss.refl _
    | 2, hv, hr => simp at hv hr; subst hv hr; exact @Lss.refl _
    | j + 3, hv, hr => simp at hv)).1
theorem idxOf_get {x : Int} : ∀ {l : List Int} {k : Nat}, idxOf x l = some k → ∃ h : k < l.length, l[k] = x
  | [], k, h => by simp [idxOf] at h
  | y :: l, k, h => by
    simp only [idxOf] at h
    split at h
    · rename_i e; simp at h; subst h; exact ⟨by simp, e.symm⟩
    · simp only [Option.map_eq_some_iff] at h
      obtain ⟨j, hj, rfl⟩ := h
      obtain ⟨h1, h2⟩ := idxOf_get hj
      exact ⟨by simpa using h1, by simpa using h2⟩
theorem idxI_some {x : Int} {l : List Int} (h : x ∈ l) : ∃ k : Nat, idxI x l = k ∧ idxOf x l = some k := by
  have := (idxOf_iff x l).2 h
  obtain ⟨k, hk⟩ := Option.isSome_iff_exists.1 this
  exact ⟨k, by simp [idxI, hk], hk⟩
theorem idxI_no {x : Int} {l : List Int} (h : ¬ x ∈ l) : idxI x l < 0 := by
  apply Classical.byContradiction
  intro hn
  exact h ((idxI_iff x l).1 (by omega))
theorem er_map {α β : Type} {f : α → β} : ∀ {l : List α} {q : Nat}, (l.map f).eraseIdx q = (l.eraseIdx q).map f
  | [], _ => rfl
  | _ :: _, 0 => rfl
  | a :: l, q + 1 => by simp [er_map (l := l) (q := q)]
theorem set_er {α : Type} {l : List α} {i : Nat} {r : α} : (l.set i r).eraseIdx i = l.eraseIdx i := by
  apply List.ext_getElem?
  intro k
  simp only [List.getElem?_eraseIdx]
  split
  · rw [List.getElem?_set_ne (by omega)]
  · rw [List.getElem?_set_ne (by omega)]
theorem rowsA_er {L : List Box} {k c : Nat} : (rowsA c L).eraseIdx k = rowsG (fun j => if j < k then c + j else c + (j + 1)) (L.eraseIdx k) := by
  apply List.ext_getElem?
  intro i
  have hg : ∀ (g : Nat → Nat) (M : List Box), (rowsG g M)[i]? = M[i]?.map fun x => ownB (g i) x := fun g M => by simp [rowsG, List.getElem?_mapIdx]
  have ha : ∀ j, (rowsA c L)[j]? = L[j]?.map fun x => ownB (c + j) x := fun j => by simp [rowsA, List.getElem?_mapIdx]
  rw [hg, List.getElem?_eraseIdx, List.getElem?_eraseIdx]
  split
  · rw [ha]
  · rw [ha]
theorem inDel : InlOk Try.prog 134 (deleteI 1) := by
  refine delete_of (z := [.v (.int .i64 0)]) Try.func134 rfl (by simp [Try.ntmps134]) ?_
  intro H id i rows h1 h2 h3 h4
  refine wpA_sound noOrc_ok fxMix _ _ _ _ (by kernel_rfl) ?_
  have h1' := obj_get h1
  have g1 := (List.getElem?_eq_some_iff.1 h1').2
  have c1 : (i : Int) + 1 ≤ rows.length := by omega
  have c2 : 0 ≤ (i : Int) + 1 := by omega
  have c3 : (i : Int) ≤ i + 1 := by omega
  have c4 : i ≤ rows.length := by omega
  have c5 : i + 1 ≤ rows.length := by omega
  have c6 : i + 1 + (rows.length - (i + 1)) ≤ rows.length := by omega
  have c7 : i + (rows.length - (i + 1)) ≤ rows.length := by omega
  have c8 : i + (rows.length - (i + 1)) = rows.length - 1 := by omega
  have c9 : rows.length - 1 ≤ rows.length := by omega
  have d1 : ¬ ((i : Int) = i + 1) := by omega
  have d2 : List.take (rows.length - (i + 1)) (List.drop (i + 1) rows) = List.drop (i + 1) rows := List.take_of_length_le (by simp)
  have d3 : rows.length - (rows.length - 1) = 1 := by omega
  have d4 : (rows.length - 1) + 1 = rows.length := by omega
  have d5 : ¬ rows.length = i := by omega
  have d6 : ¬ rows.length = 0 := by omega
  have d7 : rows.length ≤ 4294967296 := by omega
  have d8 : i + (rows.length - (i + 1)) ≤ 4294967296 := by omega
  have f1 : rows.length ≤ 4294967297 := by omega
  have f2 : rows.length ≤ i + (rows.length - (i + 1) + 1) := by omega
  have d9 : ∀ X : List Row, List.take (rows.length - 1) (List.take i rows ++ (List.drop (i + 1) rows ++ X)) = List.take i rows ++ List.drop (i + 1) rows := by
    intro X
    rw [← List.append_assoc, List.take_append_of_le_length (by simp; omega), List.take_of_length_le (by simp; omega)]
  have e1 : List.drop rows.length (List.take i rows ++ (List.drop (i + 1) rows ++ List.drop (rows.length - 1) rows)) = [] := List.drop_eq_nil_of_le (by simp; omega)
  have e2 : rows.length - 1 ≤ i + (rows.length - (i + 1) + 1) := by omega
  have e3 : min i rows.length = i := by omega
  have e4 : ((rows.length - 1 : Nat) : Int) ≤ rows.length := by omega
  simp [Try.ntmps134, Try.results134, noOrc, h1', h2, h3, g1, c1, c2, c3, c4, c5, c6, c7, c8, c9, d1, d2, d3, d4, d5, d6, d7, d8, d9, e1, e2, e3, e4, f1, f2]
theorem bxDel : InlOk Try.prog 135 (deleteI 2) := by
  refine delete_of (z := [.v (.int .i64 0), .v (.slice none 0 0)]) Try.func135 rfl (by simp [Try.ntmps135]) ?_
  intro H id i rows h1 h2 h3 h4
  refine wpA_sound noOrc_ok fxMix _ _ _ _ (by kernel_rfl) ?_
  have h1' := obj_get h1
  have g1 := (List.getElem?_eq_some_iff.1 h1').2
  have c1 : (i : Int) + 1 ≤ rows.length := by omega
  have c2 : 0 ≤ (i : Int) + 1 := by omega
  have c3 : (i : Int) ≤ i + 1 := by omega
  have c4 : i ≤ rows.length := by omega
  have c5 : i + 1 ≤ rows.length := by omega
  have c6 : i + 1 + (rows.length - (i + 1)) ≤ rows.length := by omega
  have c7 : i + (rows.length - (i + 1)) ≤ rows.length := by omega
  have c8 : i + (rows.length - (i + 1)) = rows.length - 1 := by omega
  have c9 : rows.length - 1 ≤ rows.length := by omega
  have d1 : ¬ ((i : Int) = i + 1) := by omega
  have d2 : List.take (rows.length - (i + 1)) (List.drop (i + 1) rows) = List.drop (i + 1) rows := List.take_of_length_le (by simp)
  have d3 : rows.length - (rows.length - 1) = 1 := by omega
  have d4 : (rows.length - 1) + 1 = rows.length := by omega
  have d5 : ¬ rows.length = i := by omega
  have d6 : ¬ rows.length = 0 := by omega
  have d7 : rows.length ≤ 4294967296 := by omega
  have d8 : i + (rows.length - (i + 1)) ≤ 4294967296 := by omega
  have f1 : rows.length ≤ 4294967297 := by omega
  have f2 : rows.length ≤ i + (rows.length - (i + 1) + 1) := by omega
  have d9 : ∀ X : List Row, List.take (rows.length - 1) (List.take i rows ++ (List.drop (i + 1) rows ++ X)) = List.take i rows ++ List.drop (i + 1) rows := by
    intro X
    rw [← List.append_assoc, List.take_append_of_le_length (by simp; omega), List.take_of_length_le (by simp; omega)]
  have e1 : List.drop rows.length (List.take i rows ++ (List.drop (i + 1) rows ++ List.drop (rows.length - 1) rows)) = [] := List.drop_eq_nil_of_le (by simp; omega)
  have e2 : rows.length - 1 ≤ i + (rows.length - (i + 1) + 1) := by omega
  have e3 : min i rows.length = i := by omega
  have e4 : ((rows.length - 1 : Nat) : Int) ≤ rows.length := by omega
  simp [Try.ntmps135, Try.results135, noOrc, h1', h2, h3, g1, c1, c2, c3, c4, c5, c6, c7, c8, c9, d1, d2, d3, d4, d5, d6, d7, d8, d9, e1, e2, e3, e4, f1, f2]
theorem slGive_own : InlOk Try.prog 56 (own0 (argG (cAgg rSlb) fun s => argG (cAgg rPlace) fun p => finG (if okS s then some (giU (giX (slGive s p))) else none))) := by
  refine ownE_2 Try.func56 rfl ?_
  rintro s p r H' hr
  by_cases hc : okS s
  case neg => rw [if_neg hc] at hr; cases hr
  rw [if_pos hc] at hr
  simp only [Option.some.injEq, Prod.mk.injEq] at hr
  obtain ⟨rfl, rfl⟩ := hr
  refine bodyE_of ((((((noOrc_ok.withP slCheck_pure).withP index_pure).withIF cpyA_inl frameN_loc).withIF inDel delete_loc).withIF bxDel delete_loc).withD (fun i => if i = 10 then [(1,8)] else [])) fxMix (by kernel_rfl) (by simp [Try.ntmps56]) ?_
  intro C cP cI cN cD cF cA cR cL
  have cp0 := orcP slCheck_pure (C := C) (by rw [cP]; rfl)
  have cp1 := orcP index_pure (C := C) (by rw [cP]; rfl)
  have cn0 := orcI cpyA_inl (C := C) (by rw [cN]; rfl)
  have cn1 := orcI inDel (C := C) (by rw [cN]; rfl)
  have cn2 := orcI bxDel (C := C) (by rw [cN]; rfl)
  replace cI := fun g => congrFun cI g
  simp only [Orc.withP, Orc.withI, Orc.withF, Orc.withD, Orc.withA, Orc.withR, Orc.withC, noOrc] at cI
  replace cR : C.rd = fun _ => none := cR
  replace cD : C.dyn = fun i => if i = 10 then [(1,8)] else [] := cD
  replace cF := fun g => congrFun cF g
  simp only [Orc.withP, Orc.withI, Orc.withF, Orc.withD, Orc.withA, Orc.withR, Orc.withC, noOrc] at cF
  replace cA : C.alt = fun _ => [] := cA
  clear cP cN
  obtain ⟨z, L⟩ := s
  obtain ⟨pf, pa⟩ := p
  unfold slGive
  by_cases h0 : slCheck ⟨z, L⟩ = 0
  case neg =>
    simp [Try.ntmps56, Try.results56, cSl, cp0, cp1, cn0, cn1, cn2, cI, cD, cR, cF, cA, rSlb, slbDec, rBox, Slb.row, rPlace, placeDec, Place.row, h0, hc, giX, giU, okL, okO]
    first
    | exact ent_err (@gi_err _) (by simp [lowA, lowC])
    | (refine Ent.weakT (th := [0]) ?_; simp []; done)
    | (refine Ent.weakT (th := [1]) ?_; simp []; done)
    | (refine Ent.weakT (th := [2]) ?_; simp []; done)
    | (refine Ent.weakT (th := [3]) ?_; simp []; done)
    | (refine Ent.weakT (th := [4]) ?_; simp []; done)
    | (refine Ent.weakT (th := [5]) ?_; simp []; done)
    | (refine Ent.weakT (th := [6]) ?_; simp []; done)
    | (refine Ent.weakT (th := [7]) ?_; simp []; done)
    | (refine Ent.weakT (th := [8]) ?_; simp []; done)
    | (refine Ent.weakT (th := [9]) ?_; simp []; done)
    | (refine Ent.weakT (th := [10]) ?_; simp []; done)
    | (refine Ent.weakT (th := [11]) ?_; simp []; done)
  obtain ⟨z1, z2, hL, hK1, hK⟩ := sl_ok.1 h0
  simp only at z1 z2 hL hK1 hK
  obtain ⟨z, rfl⟩ := Int.eq_ofNat_of_zero_le (show 0 ≤ z by omega)
  rw [Int.toNat_natCast] at hK
  have hcp : ∀ b, b ∈ L → b.used ≠ [] ∧ b.used.length ≤ 64 := fun b hb => by
    obtain ⟨_, _, h3, h4⟩ := hK b hb
    have := okU_16 (z := z) (by omega) (by omega) h4
    exact ⟨h3, by omega⟩
  have hcp1 : (∀ b, b ∈ L → ¬ b.used = [] ∧ b.used.length ≤ 64) = True := eq_true hcp
  simp [Try.ntmps56, Try.results56, cSl, cp0, cp1, cn0, cn1, cn2, cI, cD, cR, cF, cA, rSlb, slbDec, rBox, Slb.row, rPlace, placeDec, Place.row, h0, hc, hL, hcp1]
  by_cases h1 : L = []
  · subst h1
    simp [Try.ntmps56, Try.results56, cSl, cp0, cp1, cn0, cn1, cn2, cI, cD, cR, cF, cA, slVA, slHA, oA]
    refine loop_rounds 1 ?_
    simp [Try.ntmps56, Try.results56, cSl, cp0, cp1, cn0, cn1, cn2, cI, cD, cR, cF, cA, UnrK, giX, giU, okL, okO]
    first
    | exact ent_err (@gi_err _) (by simp [lowA, lowC])
    | (refine Ent.weakT (th := [0]) ?_; simp []; done)
    | (refine Ent.weakT (th := [1]) ?_; simp []; done)
    | (refine Ent.weakT (th := [2]) ?_; simp []; done)
    | (refine Ent.weakT (th := [3]) ?_; simp []; done)
    | (refine Ent.weakT (th := [4]) ?_; simp []; done)
    | (refine Ent.weakT (th := [5]) ?_; simp []; done)
    | (refine Ent.weakT (th := [6]) ?_; simp []; done)
    | (refine Ent.weakT (th := [7]) ?_; simp []; done)
    | (refine Ent.weakT (th := [8]) ?_; simp []; done)
    | (refine Ent.weakT (th := [9]) ?_; simp []; done)
    | (refine Ent.weakT (th := [10]) ?_; simp []; done)
    | (refine Ent.weakT (th := [11]) ?_; simp []; done)
  have h1' : ¬ L.length = 0 := fun h => h1 (List.length_eq_zero_iff.1 h)
  simp [Try.ntmps56, Try.results56, cSl, cp0, cp1, cn0, cn1, cn2, cI, cD, cR, cF, cA, slVA, slHA, oA, h1]
  obtain ⟨G, hG⟩ : ∃ G : Heap, [some (2, [[.v (.int .i64 z), .osl 5 2 0 L.length L.length]]), some (2, [[.v (.int .i64 pf), .v (.int .i64 pa)]]), some (2, [[.v (.int .i64 0), .v (.slice none 0 0)]]), none, none, some (2, rowsA 6 L)] ++ tailA L = G := ⟨_, rfl⟩
  have gl : G.length = 6 + L.length := by rw [← hG]; simp [tailA_len]; omega
  have e0 : ∀ K : Heap, (G ++ K)[0]? = some (some (2, [[.v (.int .i64 z), .osl 5 2 0 L.length L.length]])) := fun K => by rw [← hG]; rfl
  have e1 : ∀ K : Heap, (G ++ K)[1]? = some (some (2, [[.v (.int .i64 pf), .v (.int .i64 pa)]])) := fun K => by rw [← hG]; rfl
  have e2 : ∀ K : Heap, (G ++ K)[2]? = some (some (2, [[.v (.int .i64 0), .v (.slice none 0 0)]])) := fun K => by rw [← hG]; rfl
  have e5 : ∀ K : Heap, (G ++ K)[5]? = some (some (2, rowsA 6 L)) := fun K => by rw [← hG]; rfl
  have e6 : ∀ (k : Nat) (hk : k < L.length) (K : Heap), (G ++ K)[6 + k]? = some (some (1, L[k].used.map (irow .i64))) := fun k hk K => by
    rw [← hG, List.append_assoc, List.getElem?_append_right (by simp), List.getElem?_append_left (by simp [tailA_len]; omega)]
    simp [tailA, hk]
  have en : ∀ (K : Heap) (x : Option (Nat × List Row)), (G ++ (K ++ [x]))[G.length + K.length]? = some x := fun K x => by
    rw [List.getElem?_append_right (by omega), List.getElem?_append_right (by omega)]; simp
  have es : ∀ (K : Heap) (x y : Option (Nat × List Row)), (G ++ (K ++ [x])).set (G.length + K.length) y = G ++ (K ++ [y]) := fun K x y => by
    rw [List.set_append_right _ _ (by omega), List.set_append_right _ _ (by omega)]; simp
  have hvw : ∀ (K : Heap) (d : Nat), List.map (List.map (view (G ++ K) (d + 1))) (rowsA 6 L) = L.map Box.hrow := fun K d => by
    apply List.ext_getElem?
    intro k
    rw [List.getElem?_map]
    by_cases hk : k < L.length
    · have ho : obj (G ++ K) (6 + k) = some (1, L[k].used.map (irow .i64)) := by unfold obj; rw [e6 k hk K]; rfl
      rw [rowsA_get hk]
      simp [-obj, hk, ownB, Box.hrow, view, ho]
    · rw [List.getElem?_eq_none (by rw [rowsA_len]; omega), List.getElem?_eq_none (by simp; omega)]; rfl
  have hrl : (rowsA 6 L).length = L.length := rowsA_len
  cases hfi : L.findIdx? (hasB ⟨pf, pa⟩) with
  | some i =>
    rw [List.findIdx?_eq_some_iff_getElem] at hfi
    obtain ⟨hiL, hih, hin⟩ := hfi
    refine loop_forE L.length (fun k (K : Heap) => ([(2, .ptr 0 2 0 0), (3, .ptr 1 2 0 0), (4, .ptr 2 2 0 0), (20, .osl 5 2 0 L.length L.length), (21, .v (.int .i64 L.length)), (22, .v (.int .i64 k))], G ++ K)) (fun k _ => k ≤ i) [] (fun k _ hk _ => by omega) (Nat.zero_le _) ?_ ?_ ?_
    · rw [List.append_nil, ← hG]; exact Ent.env (by simp)
    · rintro k K hk hki hw
      have hgr := rowsA_get (c := 6) hk
      have hg2 : (rowsA 6 L)[k]'(by rw [hrl]; exact hk) = ownB (6 + k) L[k] := by
        rw [List.getElem?_eq_getElem (by rw [hrl]; exact hk)] at hgr
        simpa using hgr
      have hu64 : L[k].used.length ≤ 4294967296 := by have := (hcp _ (List.getElem_mem hk)).2; omega
      rcases Nat.lt_or_eq_of_le hki with hlt | heq
      · have hno := hin k hlt
        by_cases q1 : L[k].frame = pf
        · have q2 : ¬ pa ∈ L[k].used := by intro h; simp [hasB, q1, h] at hno
          have q3 := idxI_no q2
          simp [Try.ntmps56, Try.results56, cSl, cp0, cp1, cn0, cn1, cn2, cI, cD, cR, cF, cA, hk, hw, hrl, hg2, ownB, hu64, rI, irowDec, q1, q3, e0, e1, e2, e5, e6 k hk, en, es, hvw]
          exact ⟨_, by first | trivial | omega, Ent.env (by simp)⟩
        · simp [Try.ntmps56, Try.results56, cSl, cp0, cp1, cn0, cn1, cn2, cI, cD, cR, cF, cA, hk, hw, hrl, hg2, ownB, hu64, rI, irowDec, q1, e0, e1, e2, e5, e6 k hk, en, es, hvw]
          exact ⟨_, by first | trivial | omega, Ent.env (by simp)⟩
      · subst heq
        have hu1 : L[k].used.length ≤ 1048576 := by have := (hcp _ (List.getElem_mem hk)).2; omega
        have hL1 : L.length ≤ 1048576 := by omega
        have hu0 := (hcp _ (List.getElem_mem hk)).1
        have e6k := e6 k hk
        generalize hb : L[k] = b at *
        obtain ⟨bf, u⟩ := b
        simp only [hasB, Bool.and_eq_true, beq_iff_eq, decide_eq_true_eq] at hih hu0 hu64 hu1 e6k
        obtain ⟨rfl, hpa⟩ := hih
        obtain ⟨m, hm1, hm2⟩ := idxI_some hpa
        obtain ⟨hm3, hm4⟩ := idxOf_get hm2
        have wm : IntKind.i64.wrap ((m : Int) + 1) = (m : Int) + 1 := w64 (by omega) (by omega)
        have hm0 : ¬ (m : Int) < 0 := by omega
        have hm5 : m ≤ 9223372036854775807 := by omega
        have d1 : (u.eraseIdx m).length = u.length - 1 := by rw [List.length_eraseIdx, if_pos hm3]
        have d2 : (L.eraseIdx k).length = L.length - 1 := by rw [List.length_eraseIdx, if_pos hk]
        obtain ⟨G', hG'⟩ : ∃ G', G.set (6 + k) (some (1, (u.eraseIdx m).map (irow .i64))) = G' := ⟨_, rfl⟩
        have gl' : G'.length = G.length := by rw [← hG']; simp
        have sk : ∀ X : Heap, (G ++ X).set (6 + k) (some (1, (u.eraseIdx m).map (irow .i64))) = G' ++ X := fun X => by rw [← hG', List.set_append_left _ _ (by omega)]
        have lo : ∀ (j : Nat) (X : Heap) (o : Option (Nat × List Row)), j < 6 → (G ++ X)[j]? = some o → (G' ++ X)[j]? = some o := fun j X o hj h => by
          rw [← sk, List.getElem?_set_ne (by omega)]; exact h
        have f0 := fun X => lo 0 X _ (by omega) (e0 X)
        have f1 := fun X => lo 1 X _ (by omega) (e1 X)
        have f2 := fun X => lo 2 X _ (by omega) (e2 X)
        have f5 := fun X => lo 5 X _ (by omega) (e5 X)
        have fn : ∀ (b : Option (Nat × List Row)) (X : Heap), (G' ++ (K ++ b :: X))[G.length + K.length]? = some b := fun b X => by
          rw [List.getElem?_append_right (by omega), List.getElem?_append_right (by omega)]; simp [gl']
        have g0 := fun X => (List.getElem?_eq_some_iff.1 (f0 X)).2
        have g1 := fun X => (List.getElem?_eq_some_iff.1 (f1 X)).2
        have g2' := fun X => (List.getElem?_eq_some_iff.1 (f2 X)).2
        have g5 := fun X => (List.getElem?_eq_some_iff.1 (f5 X)).2
        have gn := fun b X => (List.getElem?_eq_some_iff.1 (fn b X)).2
        have l5 : ∀ n, 5 < G'.length + n := fun n => by omega
        have l2 : ∀ n, 2 < G'.length + n := fun n => by omega
        have l0 : ∀ n, 0 < G'.length + n := fun n => by omega
        have q0 : ∀ n, 0 < G.length + n := fun n => by omega
        have q1 : ∀ n, 1 < G.length + n := fun n => by omega
        have q2 : ∀ n, 2 < G.length + n := fun n => by omega
        have q5 : ∀ n, 5 < G.length + n := fun n => by omega
        have k0 := fun X => (List.getElem?_eq_some_iff.1 (e0 X)).2
        have k1 := fun X => (List.getElem?_eq_some_iff.1 (e1 X)).2
        have k2 := fun X => (List.getElem?_eq_some_iff.1 (e2 X)).2
        have k5 := fun X => (List.getElem?_eq_some_iff.1 (e5 X)).2
        have n0 : ¬ 0 = G.length + K.length := by omega
        have n2 : ¬ 2 = G.length + K.length := by omega
        have n5 : ¬ 5 = G.length + K.length := by omega
        have z0 : ¬ 0 = 6 + k := by omega
        have z1 : ¬ 1 = 6 + k := by omega
        have z2 : ¬ 2 = 6 + k := by omega
        have z5 : ¬ 5 = 6 + k := by omega
        by_cases hone : 1 < u.length
        · have hone' : (1 : Int) < u.length := by omega
          simp [Try.ntmps56, Try.results56, cSl, cp0, cp1, cn0, cn1, cn2, cI, cD, cR, cF, cA, hk, hw, hrl, hg2, ownB, hu64, hu1, rI, irowDec, hm1, hm3, hm0, wm, deleteI, hone, hone', e0, e1, e2, e5, e6k, en, es, hvw, sk, er_map, f0, f1, f2, f5, fn, g0, g1, g2', g5, gn, l0, l2, l5, q0, q1, q2, q5, k0, k1, k2, k5, n0, n2, n5, z0, z1, z2, z5, List.getElem?_set, hm2, hb, giX, giU, okL]
          have hset := rowsG_set (L := L) (k := k) (c := 6) (P := 6 + k) (b := ⟨bf, u.eraseIdx m⟩)
          simp only [ownB, d1] at hset
          rw [hset]
          have hcan := canon (H := (((G' ++ (K ++ ([some (2, [[.v (.int .i64 bf), .osl (6 + k) 1 0 u.length u.length]])] : Heap))).set 5 (some (2, rowsG (fun j => if j = k then 6 + k else 6 + j) (L.set k ⟨bf, u.eraseIdx m⟩)))).set 2 (some (2, [[.v (.int .i64 (z : Int)), .osl 5 2 0 L.length L.length]])))) (P := 5) (g := fun j => if j = k then 6 + k else 6 + j) (L := L.set k ⟨bf, u.eraseIdx m⟩) (z := (z : Int)) (vs := [.bool false, .int .i64 0])
            (by rw [ob_ne (by decide)]; exact ob_self (by simp; omega) (by decide))
            (fun j hj => by
              rw [List.length_set] at hj
              have hgj : (if j = k then 6 + k else 6 + j) = 6 + j := by split <;> omega
              simp only [hgj]
              rw [ob_ne (by omega), ob_ne (by omega)]
              refine ob_of ?_ (by decide)
              by_cases e : j = k
              · subst e
                rw [List.getElem?_append_left (by omega), ← hG', List.getElem?_set_self (by omega)]
                simp
              · rw [List.getElem_set_ne (fun h => e h.symm), ← hG', ← List.set_append_left _ _ (by omega), List.getElem?_set_ne (by omega)]
                exact e6 j hj _)
            (fun a b ha hb hab => by
              try simp only at hab
              split at hab <;> split at hab <;> omega)
            (fun j hj => by try simp only
                            split <;> omega)
          simpa only [List.length_set, List.map_cons, List.map_nil] using hcan
        · have hone' : ¬ (1 : Int) < u.length := by omega
          simp [Try.ntmps56, Try.results56, cSl, cp0, cp1, cn0, cn1, cn2, cI, cD, cR, cF, cA, hk, hw, hrl, hg2, ownB, hu64, hu1, hL1, rI, irowDec, hm1, hm3, hm0, wm, deleteI, hone, hone', e0, e1, e2, e5, e6k, en, es, hvw, sk, er_map, f0, f1, f2, f5, fn, g0, g1, g2', g5, gn, l0, l2, l5, q0, q1, q2, q5, k0, k1, k2, k5, n0, n2, n5, z0, z1, z2, z5, List.getElem?_set, hm2, hb, giX, giU, okL]
          rw [set_er, rowsA_er]
          have hcan := canon (H := ((((G' ++ (K ++ ([some (2, [[.v (.int .i64 bf), .osl (6 + k) 1 0 u.length u.length]])] : Heap))).set 5 (some (2, rowsG (fun j => if j < k then 6 + j else 6 + (j + 1)) (L.eraseIdx k)))).set 0 (some (2, [[.v (.int .i64 (z : Int)), .osl 5 2 0 (L.length - 1) (L.length - 1)]]))).set 2 (some (2, [[.v (.int .i64 (z : Int)), .osl 5 2 0 (L.length - 1) (L.length - 1)]])))) (P := 5) (g := fun j => if j < k then 6 + j else 6 + (j + 1)) (L := L.eraseIdx k) (z := (z : Int)) (vs := [.bool true, .int .i64 0])
            (by rw [ob_ne (by decide), ob_ne (by decide)]; exact ob_self (by simp; omega) (by decide))
            (fun j hj => by
              rw [d2] at hj
              simp only [List.getElem_eraseIdx]
              by_cases e : j < k
              · simp only [if_pos e, dif_pos e]
                rw [ob_ne (by omega), ob_ne (by omega), ob_ne (by omega)]
                refine ob_of ?_ (by decide)
                rw [← hG', ← List.set_append_left _ _ (by omega), List.getElem?_set_ne (by omega)]
                exact e6 j (by omega) _
              · simp only [if_neg e, dif_neg e]
                rw [ob_ne (by omega), ob_ne (by omega), ob_ne (by omega)]
                refine ob_of ?_ (by decide)
                rw [← hG', ← List.set_append_left _ _ (by omega), List.getElem?_set_ne (by omega)]
                exact e6 (j + 1) (by omega) _)
            (fun a b ha hb hab => by
              try simp only at hab
              split at hab <;> split at hab <;> omega)
            (fun j hj => by try simp only
                            split <;> omega)
          simpa only [d2, List.map_cons, List.map_nil] using hcan
    · rintro _ h; omega
  | none =>
    rw [List.findIdx?_eq_none_iff] at hfi
    refine loop_forE L.length (fun k (K : Heap) => ([(2, .ptr 0 2 0 0), (3, .ptr 1 2 0 0), (4, .ptr 2 2 0 0), (20, .osl 5 2 0 L.length L.length), (21, .v (.int .i64 L.length)), (22, .v (.int .i64 k))], G ++ K)) (fun k _ => True) [] (fun k _ hk _ => by omega) trivial ?_ ?_ ?_
    · rw [List.append_nil, ← hG]; exact Ent.env (by simp)
    · rintro k K hk _ hw
      have hgr := rowsA_get (c := 6) hk
      have hg2 : (rowsA 6 L)[k]'(by rw [hrl]; exact hk) = ownB (6 + k) L[k] := by
        rw [List.getElem?_eq_getElem (by rw [hrl]; exact hk)] at hgr
        simpa using hgr
      have hu64 : L[k].used.length ≤ 4294967296 := by have := (hcp _ (List.getElem_mem hk)).2; omega
      have hno := hfi _ (List.getElem_mem hk)
      by_cases q1 : L[k].frame = pf
      · have q2 : ¬ pa ∈ L[k].used := by intro h; simp [hasB, q1, h] at hno
        have q3 := idxI_no q2
        simp [Try.ntmps56, Try.results56, cSl, cp0, cp1, cn0, cn1, cn2, cI, cD, cR, cF, cA, hk, hw, hrl, hg2, ownB, hu64, rI, irowDec, q1, q3, e0, e1, e2, e5, e6 k hk, en, es, hvw]
        exact ⟨_, by first | trivial | omega, Ent.env (by simp)⟩
      · simp [Try.ntmps56, Try.results56, cSl, cp0, cp1, cn0, cn1, cn2, cI, cD, cR, cF, cA, hk, hw, hrl, hg2, ownB, hu64, rI, irowDec, q1, e0, e1, e2, e5, e6 k hk, en, es, hvw]
        exact ⟨_, by first | trivial | omega, Ent.env (by simp)⟩
    · rintro K _
      have k2 := fun X => (List.getElem?_eq_some_iff.1 (e2 X)).2
      have l2 : ∀ n, 2 < G.length + n := fun n => by omega
      simp [Try.ntmps56, Try.results56, cSl, cp0, cp1, cn0, cn1, cn2, cI, cD, cR, cF, cA, giX, giU, okL, okO, e0, e1, e2, k2, l2, List.getElem?_set]
      first
      | exact ent_err (@gi_err _) (by simp [lowA, lowC])
      | (refine Ent.weakT (th := [0]) ?_; simp []; done)
      | (refine Ent.weakT (th := [1]) ?_; simp []; done)
      | (refine Ent.weakT (th := [2]) ?_; simp []; done)
      | (refine Ent.weakT (th := [3]) ?_; simp []; done)
      | (refine Ent.weakT (th := [4]) ?_; simp []; done)
      | (refine Ent.weakT (th := [5]) ?_; simp []; done)
      | (refine Ent.weakT (th := [6]) ?_; simp []; done)
      | (refine Ent.weakT (th := [7]) ?_; simp []; done)
      | (refine Ent.weakT (th := [8]) ?_; simp []; done)
      | (refine Ent.weakT (th := [9]) ?_; simp []; done)
      | (refine Ent.weakT (th := [10]) ?_; simp []; done)
      | (refine Ent.weakT (th := [11]) ?_; simp []; done)
theorem slGive_inl : InlOk Try.prog 56 (frame0 (own0 (argG (cAgg rSlb) fun s => argG (cAgg rPlace) fun p => finG (if okS s then some (giU (giX (slGive s p))) else none)))) := frame0_ok slGive_own
end
end
end Go.Proofs.Ytebpjfdbjhodiaa
