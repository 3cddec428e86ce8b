/- Package cow: rooms, Check. Package cow: copied, many. Package cow: many, Fork, More, Write. Package cow: More, Write. Package cow: Write. Package cow: Drop. Own results in one form, whatever came out. Rooms of one's own, under plain names. Package cow: Fork, Write, their results one's own. Package cow: Drop, its result one's own. -/
import Derived.Test.YtebpjfdbjhodiaaFaC
import Derived.Test.YtebpjfdbjhodiaaAiZc
import Derived.Test.YtebpjfdbjhodiaaAiZf
import Derived.Test.YtebpjfdbjhodiaaAiZe
import Derived.Test.YtebpjfdbjhodiaaAiZi
namespace Go.Proofs.Ytebpjfdbjhodiaa
open Go.AI
set_option linter.unusedSimpArgs false
set_option linter.unusedVariables false
section
set_option maxHeartbeats 2000000
set_option maxRecDepth 100000
set_option linter.unusedSimpArgs false
set_option linter.unusedVariables false
attribute [local simp] wpA wpX RunA RunD runF foot footP footB idsA bare apart runL step1 gsel_f gsel_t gsel_s res_same res_and1 res_and2 res_and3 res_and4 res_and5 res_and6 res_false res_true res_v res_ptr res_fptr res_osl res_xsl soft aAppendZ aCap ovlI ovlJ res_fsl res_esl res_agg res_tup res_fn res_junk res_anyb aPick hk imp_left iteV dstOk guardOk astep astepE AI.ev AI.look AI.put envOf aBox cellsOf allOne allOneA oneA Value.oneCell' Value.cells newObj' aFieldAddr aLoad obj readAt thenA blockA condA retA resA tupA view hot hotC hotR depthV cAgg cInt cBool mkAgg allV aAlloc aBuild fillA writeAt aStore isAggA aField idx aIndexAddr aIndex bnd aSlice aExtract aLen aBuiltin aCall isStatic eqAgg eqTy eqC ev_add ev_sub ev_mul ev_quo ev_rem ev_and ev_or ev_xor ev_andNot ev_shl ev_shr ev_eql ev_neq ev_lss ev_leq ev_gtr ev_geq ev_agg w64 wu32 wu8 ev_not ev_neg Cod.plain RCod.plain argM finM cold coldC coldR goInt intDec boolDec aggDec Weaker heapW lowA lowC Again slDec undef aBuildSlice setRows aAppend rowsOf aMakeSlice aClear aCopy softer_self softer_nil valsOf ev_min2 ev_max2 hotR_set hotR_append take_map_set irow_cold irow_mapM irow_mapMc irow_view irow_viewc irow_hotR irow_ren irow_renc irow_low WeakT heapT thOf ren renC AgainT NextF NextT fnDec cFn rNil selfLt natLt0 natLt1 getLastMap frame0 frame1 own0 own1 argG finG tau tauI tauO tauC bareA bareC bareH irow_tau irow_tauc irow_bare irow_flat irow_bareR ownA_nil ownT_nil ownA_c ownT_c ownA_s ownT_s takeMapLen footC plainA noId noIdC cloneF frame0F frame1F insertF replaceI replaceF cellDec rCell fpDec cFp rTwo deleteF allV_oA oneA_oA res_oA RunR RunE runFT footAt hotR_cat tmodN aEqH aSliceA frameN newA newC newH fxSz3 fxBy3 fxAg3 fxZe3 fxSl3 fxSz4 fxBy4 fxAg4 fxZe4 fxSz5 fxBy5 fxAg5 fxZe5 fxSz33 fxAg33 fxZe33 fxAr33 fxPl33 fxSz111 fxAg111 fxZe111 fxSl111 fxAr111 fxSz112 fxBy112 fxAg112 fxZe112 fxSl112 fxAr112 fxSz135 fxAg135 fxZe135 fxSl135 fxAr135 fxSz137 fxBy137 fxAg137 fxZe137 fxFi137x0 fxFi137x1 fxFi137x2 fxPl137 fxSz138 fxAg138 fxZe138 fxSl138 fxAr138 fxSz140 fxAg140 fxZe140 fxFi140x0 fxFi140x1 fxPl140 fxSz141 fxAg141 fxZe141 fxSl141 fxAr141 fxSz146 fxBy146 fxAg146 fxZe146 fxFi146x0 fxPl146 fxZe165 fxAr165 fxPl165 fxZe166 fxAr166 fxPl166 fxZe167 fxAr167 fxPl167 fxSz296 fxAg296 fxZe296 fxAr296 fxPl296 fxSl308 fxAr308 fxEq137 fxEq146 fxEq296 fxCv3x283 fxCv283x3 fxEb4 fxNe111 fxOe111 fxXe111 fxNe112 fxOe112 fxXe112 fxNe135 fxOe135 fxXe135 fxLn138 fxNe138 fxOe138 fxXe138 fxNe141 fxOe141 fxXe141 fxFm46 fxFi46 fxFm48 fxFi48 fxFm57 fxFi57 fxFm58 fxFi58 fxFm59 fxFi59 fxFm60 fxFm61 fxFm62 fxFi63 fxFj63 fxFm64 fxFi64 fxFm65 fxFi65 fxFm66 fxFi66 fxFm67 fxFi67 fxFm68 fxFi68 fxFm69 fxFi69 fxFm70 fxFm71 fxFm72 fxFm73 fxFm74 fxFm75 fxFi75 fxFm76 fxFm77 fxFi77 fxFm133 fxFi133 fxFm136 fxFi136 fxFm137 fxFi137 fxFm138 fxFi138 fxFm139 fxFi139 fxFj139 fxFm140 fxFm141 fxFm142 fxFm143 fxFi143 fxFm144 fxFm145 fxFi145 fxFm146 fxFm147 fxFi147 fxFm148 fxFi148 fxFm149 fxFi149 fxFm150 fxFi150 fxFm185 fxFi185 fxFm186 fxFi186 fxFm187 fxFi187 fxFm188 fxFi188 fxFm189 fxFi189 fxFm190 fxFi190 fxFm191 fxFm195 fxFi195 fxFm196 fxFm206 fxFi206 fxFm218 fxFi218 fxFm232 fxFi232
section
structure Room where
  cells : List Int
  spaces : List (List Int)
def spR (o : Bool) : List Int → Row := slR 1 (irow .i64) o
def rSp : RCod (List Int) := rS (rI .i64)
def roomDec : Row → Option Room
  | [a, b] => match slDec (rI .u8) a, slDec rSp b with | some x, some y => some ⟨x, y⟩ | _, _ => none
  | _ => none
def Room.row (e : Room) : Row := [.fsl false 1 (e.cells.map (irow .u8)), .fsl false 1 (e.spaces.map (spR false))]
def Room.hrow (e : Room) : Row := [.fsl true 1 (e.cells.map (irow .u8)), .fsl true 1 (e.spaces.map (spR true))]
theorem spR_cold {o : Bool} (L : List (List Int)) : coldR (L.map (spR o)) = L.map (spR false) := slR_cold irow_cold L
theorem spR_dec {o : Bool} (l : List Int) : rSp.dec (spR o l) = some l := slR_dec (cr := rI .i64) l
theorem spR_mapM {o : Bool} (L : List (List Int)) : (L.map (spR o)).mapM rSp.dec = some L := slR_mapM (cr := rI .i64) L
theorem spR_mapMc {o : Bool} (L : List (List Int)) : L.mapM (rSp.dec ∘ spR o) = some L := by
  have := spR_mapM (o := o) L
  rwa [List.mapM_map] at this
theorem spR_view {o : Bool} (H : Heap) (d : Nat) (l : List Int) : List.map (view H d) (spR o l) = spR o l := slR_view l
theorem spR_viewc {o : Bool} (H : Heap) (d : Nat) : List.map (view H d) ∘ spR o = spR o := funext (spR_view H d)
theorem spR_hotR (L : List (List Int)) : hotR (L.map (spR true)) = true := slR_hotR irow_hotR L
theorem spR_ren {o : Bool} (n : Nat) (th : List Nat) (l : List Int) : List.map (ren n th) (spR o l) = spR o l := slR_ren l
theorem spR_renc {o : Bool} (n : Nat) (th : List Nat) : List.map (ren n th) ∘ spR o = spR o := funext (spR_ren n th)
theorem spR_low {o : Bool} (n : Nat) (l : List Int) : (spR o l).all (lowA n) = true := slR_low l
theorem spR_get {o : Bool} (l : List Int) : (spR o l)[0]? = some (.fsl o 1 (l.map (irow .i64))) := rfl
theorem spR_len {o : Bool} (l : List Int) : (spR o l).length = 1 := rfl
theorem Room.eta (e : Room) : Room.mk e.cells e.spaces = e := rfl
theorem Room.dec_row (e : Room) : roomDec e.row = some e := by
  have h0 := mapM_dec (rI .u8) e.cells
  have h1 := spR_mapM (o := false) e.spaces
  simp only [roomDec, Room.row]
  erw [show slDec (rI .u8) (.fsl false 1 (e.cells.map (irow .u8))) = some e.cells from h0, show slDec rSp (.fsl false 1 (e.spaces.map (spR false))) = some e.spaces from h1]
theorem Room.dec_hrow (e : Room) : roomDec e.hrow = some e := by
  have h0 := mapM_dec (rI .u8) e.cells
  have h1 := spR_mapM (o := true) e.spaces
  simp only [roomDec, Room.hrow]
  erw [show slDec (rI .u8) (.fsl true 1 (e.cells.map (irow .u8))) = some e.cells from h0, show slDec rSp (.fsl true 1 (e.spaces.map (spR true))) = some e.spaces from h1]
def rRoom : RCod Room where
  sz := 2
  enc := Room.row
  dec := roomDec
  de := Room.dec_row
  len _ := rfl
  ok := by
    intro r e h β ok w n x hok hr
    unfold roomDec at h
    split at h
    · split at h
      · rename_i h0 h1
        simp at h
        subst h
        refine ⟨rfl, fun j c hj => ?_⟩
        match j, hj with
        | 0, hj => simp [Room.row] at hj; subst hj; exact (cSl (rI .u8)).ok h0 hok (hr 0 _ rfl)
        | 1, hj => simp [Room.row] at hj; subst hj; exact (cSl rSp).ok h1 hok (hr 1 _ rfl)
        | j + 2, hj => simp [Room.row] at hj
      · cases h
    · cases h
theorem rSp_sz : rSp.sz = 1 := rfl
attribute [local simp] rSp_sz spR_cold spR_dec spR_mapM spR_mapMc spR_view spR_viewc spR_hotR spR_ren spR_renc spR_low spR_get spR_len Room.eta Room.dec_row Room.dec_hrow
def brow (b : Bool) : Row := [.v (.bool b)]
def boolR (n : Nat) (f : Nat → Bool) : List Row := ((List.range n).map f).map brow
theorem boolR_len (n : Nat) (f : Nat → Bool) : (boolR n f).length = n := by simp [boolR]
theorem boolR_get {n k : Nat} (f : Nat → Bool) (hk : k < n) : (boolR n f)[k]? = some (brow (f k)) := by simp [boolR, hk]
theorem boolR_get' {n : Nat} (f : Nat → Bool) (k : Nat) (h : k < (boolR n f).length) : (boolR n f)[k] = [.v (.bool (f k))] := by
  have h2 : k < n := by rw [boolR_len] at h; exact h
  have := boolR_get f h2
  rw [List.getElem?_eq_getElem h] at this
  simpa [brow] using this
theorem boolR_set {n k : Nat} (f : Nat → Bool) (hk : k < n) : (boolR n f).set k (brow true) = boolR n (fun q => f q || q == k) := by
  apply List.ext_getElem?
  intro i
  by_cases hi : i < n
  · by_cases hik : i = k
    · subst hik
      rw [List.getElem?_set_self (by rw [boolR_len]; exact hi), boolR_get _ hi]; simp
    · rw [List.getElem?_set_ne (fun e => hik e.symm), boolR_get _ hi, boolR_get _ hi]
      have : (i == k) = false := by simp [hik]
      rw [this, Bool.or_false]
  · rw [List.getElem?_eq_none (by rw [List.length_set, boolR_len]; omega), List.getElem?_eq_none (by rw [boolR_len]; omega)]
theorem boolR_ext {n : Nat} {f g : Nat → Bool} (h : ∀ q, q < n → f q = g q) : boolR n f = boolR n g := by
  unfold boolR
  congr 1
  exact List.map_congr_left fun q hq => h q (by simpa using hq)
theorem boolR_rep (n : Nat) : List.replicate n [AVal.v (.bool false)] = boolR n (fun _ => false) := by
  apply List.ext_getElem?
  intro i
  by_cases hi : i < n
  · rw [boolR_get _ hi]; simp [hi, brow]
  · rw [List.getElem?_eq_none (by simp; omega), List.getElem?_eq_none (by rw [boolR_len]; omega)]
theorem boolR_low (n m : Nat) (f : Nat → Bool) : ((boolR n f).all fun row => row.all (lowA m)) = true := by simp [boolR, brow, lowA]
/-- slices.Index, of booleans -/
def bidx (x : Bool) : List Bool → Option Nat
  | [] => none
  | y :: r => if x = y then some 0 else (bidx x r).map (· + 1)
def bidxI (x : Bool) (l : List Bool) : Int := match bidx x l with | some k => k | none => -1
theorem bidx_iff (x : Bool) (l : List Bool) : (bidx x l).isSome = true ↔ x ∈ l := by
  induction l with
  | nil => simp [bidx]
  | cons y r ih =>
    simp only [bidx]
    split
    · rename_i h; simp [h]
    · rename_i h; simp [h, ih]
theorem bidxI_iff (x : Bool) (l : List Bool) : 0 ≤ bidxI x l ↔ x ∈ l := by
  rw [← bidx_iff]
  unfold bidxI
  cases bidx x l <;> simp
theorem brow_cold (l : List Bool) : coldR (l.map brow) = l.map brow := by
  induction l with
  | nil => simp [coldR]
  | cons e l ih => simp [coldR, coldC, cold, ih, brow]
theorem brow_mapM (l : List Bool) : (l.map brow).mapM rB.dec = some l := mapM_dec rB l
theorem brow_mapMc (l : List Bool) : l.mapM (rB.dec ∘ brow) = some l := mapM_dec' rB l
theorem brow_view (H : Heap) (n : Nat) (e : Bool) : List.map (view H n) (brow e) = brow e := by cases n <;> simp [brow, view]
theorem brow_viewc (H : Heap) (n : Nat) : List.map (view H n) ∘ brow = brow := funext (brow_view H n)
theorem rB_sz : rB.sz = 1 := rfl
attribute [local simp] rB_sz brow_cold brow_mapM brow_mapMc brow_view brow_viewc boolR_len boolR_get'
theorem bindex_pure : PureOk Try.prog 232 (argM (cSl rB) fun l => argM (cBool) fun x => finM (if l.length ≤ 4294967296 then some (.v (.int .i64 (bidxI x l))) else none)) := by
  refine pure2 Try.func232 rfl ?_
  rintro l x r hr
  by_cases hc : l.length ≤ 4294967296
  case neg => rw [if_neg hc] at hr; cases hr
  rw [if_pos hc] at hr
  simp only [Option.some.injEq] at hr
  subst hr
  refine body_gen noOrc_ok fxMix (by kernel_rfl) (by simp [Try.ntmps232]) ?_
  intro C cP cI cN cD cF cA cR cL
  replace cI : C.inl = fun _ => false := cI
  replace cR : C.rd = fun _ => none := cR
  replace cD : C.dyn = fun _ => [] := cD
  clear cP cN cF cA
  have he : ∀ l : List Bool, (cSl rB).enc l = .fsl false 1 (l.map brow) := fun _ => rfl
  simp only [he]
  simp [Try.ntmps232, Try.results232, cSl, cI, cD, cR, ]
  refine loop_for l.length (fun k (_ : Unit) => ([(0, .fsl false 1 (l.map brow)), (1, .v (.bool x)), (7, .v (.int .i64 l.length)), (8, .v (.int .i64 k))], [])) (fun k _ => bidx x l = (bidx x (l.drop k)).map (· + k)) () hc (by simp) (by simp) ?_ ?_
  · intro k _ hk hall hw
    rw [List.drop_eq_getElem_cons hk, bidx] at hall
    by_cases q : x = l[k]
    · rw [if_pos q] at hall
      have hall' : bidx l[k] l = some k := by rw [← q]; simpa using hall
      simp [Try.ntmps232, Try.results232, cSl, cI, cD, cR, hk, brow, hw, q, bidxI, hall']
    · rw [if_neg q] at hall
      have q' : (x == l[k]) = false := by simp [q]
      simp [Try.ntmps232, Try.results232, cSl, cI, cD, cR, hk, brow, hw, q']
      rw [hall, Option.map_map]
      congr 1
      funext z
      simp; omega
  · intro _ hall
    simp [bidx] at hall
    simp [Try.ntmps232, Try.results232, cSl, cI, cD, cR, bidxI, hall]
theorem bcontains_pure : PureOk Try.prog 218 (argM (cSl rB) fun l => argM (cBool) fun x => finM (if l.length ≤ 4294967296 then some (.v (.bool (decide (x ∈ l)))) else none)) := by
  refine pure2 Try.func218 rfl ?_
  rintro l x r hr
  by_cases hc : l.length ≤ 4294967296
  case neg => rw [if_neg hc] at hr; cases hr
  rw [if_pos hc] at hr
  simp only [Option.some.injEq] at hr
  subst hr
  refine body_gen (noOrc_ok.withP bindex_pure) fxMix (by kernel_rfl) (by simp [Try.ntmps218]) ?_
  intro C cP cI cN cD cF cA cR cL
  have cp0 := orcP bindex_pure (C := C) (by rw [cP]; rfl)
  replace cI : C.inl = fun _ => false := cI
  replace cR : C.rd = fun _ => none := cR
  replace cD : C.dyn = fun _ => [] := cD
  clear cP cN cF cA
  have he : ∀ l : List Bool, (cSl rB).enc l = .fsl false 1 (l.map brow) := fun _ => rfl
  have hd : ∀ l : List Bool, slDec rB (.fsl false 1 (l.map brow)) = some l := fun l => mapM_dec rB l
  simp only [he]
  simp [Try.ntmps218, Try.results218, cSl, cp0, cI, cD, cR, hc, bidxI_iff]
/-- Check, space by space -/
def okC (n : Nat) (l : List Int) : Bool := l.all fun x => decide (0 ≤ x) && decide (x < n)
def spGo (n : Nat) : List (List Int) → Int
  | [] => 0
  | l :: r => if 8 < l.length then 2 else if okC n l = true then spGo n r else 1
def inB (L : List Int) (c : Nat) : Bool := decide ((c : Int) ∈ L)
def cowCheck (r : Room) : Int :=
  if 64 < r.cells.length ∨ 8 < r.spaces.length then 2
  else if spGo r.cells.length r.spaces = 0 then (if (List.range r.cells.length).all (inB r.spaces.flatten) = true then 0 else 3)
  else spGo r.cells.length r.spaces
theorem spGo_ok (n : Nat) (L : List (List Int)) : spGo n L = 0 ↔ ∀ l ∈ L, l.length ≤ 8 ∧ ∀ x ∈ l, 0 ≤ x ∧ x < n := by
  induction L with
  | nil => simp [spGo]
  | cons l L ih =>
    simp only [spGo]
    split
    · rename_i h; simp; omega
    · rename_i h
      split
      · rename_i h2
        rw [ih]
        simp only [okC, List.all_eq_true, Bool.and_eq_true, decide_eq_true_eq] at h2
        simp only [List.mem_cons, forall_eq_or_imp]
        exact ⟨fun h3 => ⟨⟨by omega, h2⟩, h3⟩, fun h3 => h3.2⟩
      · rename_i h2
        simp only [List.mem_cons, forall_eq_or_imp]
        constructor
        · intro h3; simp at h3
        · rintro ⟨⟨_, h3⟩, _⟩
          exact absurd (by simp only [okC, List.all_eq_true, Bool.and_eq_true, decide_eq_true_eq]; exact h3) h2
theorem cowCheck_pure : PureOk Try.prog 195 (argM (cAgg rRoom) fun r => finM (some (.v (.int .i64 (cowCheck r))))) := by
  refine pure1 Try.func195 rfl ?_
  rintro r r hr
  simp only [Option.some.injEq] at hr
  subst hr
  refine body_gen (noOrc_ok.withP bcontains_pure) fxMix (by kernel_rfl) (by simp [Try.ntmps195]) ?_
  intro C cP cI cN cD cF cA cR cL
  have cp0 := orcP bcontains_pure (C := C) (by rw [cP]; rfl)
  replace cI : C.inl = fun _ => false := cI
  replace cR : C.rd = fun _ => none := cR
  replace cD : C.dyn = fun _ => [] := cD
  clear cP cN cF cA
  obtain ⟨cs, sp⟩ := r
  unfold cowCheck
  simp only
  by_cases h1 : 64 < cs.length
  · have h1' : (64 : Int) < cs.length := by omega
    simp [Try.ntmps195, Try.results195, cSl, cp0, cI, cD, cR, rRoom, Room.row, h1, h1']
  have h1' : ¬ (64 : Int) < cs.length := by omega
  by_cases h2 : 8 < sp.length
  · have h2' : (8 : Int) < sp.length := by omega
    simp [Try.ntmps195, Try.results195, cSl, cp0, cI, cD, cR, rRoom, Room.row, h1, h1', h2, h2']
  have h2' : ¬ (8 : Int) < sp.length := by omega
  have h3 : cs.length ≤ 4294967296 := by omega
  have h3' : (cs.length : Int) ≤ 4294967296 := by omega
  simp [Try.ntmps195, Try.results195, cSl, cp0, cI, cD, cR, rRoom, Room.row, h1, h1', h2, h2', h3, h3']
  generalize hn : cs.length = n at *
  refine loop_for sp.length (fun k (_ : Unit) => ([(1, .ptr 0 2 0 0), (3, .osl 1 1 0 n n), (23, .fsl false 1 (sp.map (spR false))), (24, .v (.int .i64 sp.length)), (25, .v (.int .i64 k))], [some (2, [Room.row ⟨cs, sp⟩]), some (1, boolR n (inB (sp.take k).flatten))])) (fun k _ => spGo n (sp.drop k) = spGo n sp) () (by omega) rfl ?_ ?_ ?_
  · have : inB ([] : List Int) = fun _ => false := by funext c; simp [inB]
    simp [Room.row, boolR_low, this, boolR_rep]
  · rintro k _ hk hall hw
    rw [List.drop_eq_getElem_cons hk, spGo] at hall
    have htk : (sp.take (k + 1)).flatten = (sp.take k).flatten ++ sp[k] := by
      rw [List.take_succ_eq_append_getElem hk, List.flatten_append]; simp
    generalize hl : sp[k] = l at *
    by_cases c1 : 8 < l.length
    · have c1' : (8 : Int) < l.length := by omega
      rw [if_pos c1] at hall
      simp [Try.ntmps195, Try.results195, cSl, cp0, cI, cD, cR, hk, hw, hl, Room.row, c1', ← hall]
    have c1' : ¬ (8 : Int) < l.length := by omega
    rw [if_neg c1] at hall
    simp [Try.ntmps195, Try.results195, cSl, cp0, cI, cD, cR, hk, hw, hl, Room.row, c1']
    refine loop_for l.length (fun j (_ : Unit) => ([(1, .ptr 0 2 0 0), (3, .osl 1 1 0 n n), (23, .fsl false 1 (sp.map (spR false))), (24, .v (.int .i64 sp.length)), (25, .v (.int .i64 k)), (32, .fsl false 1 (l.map (irow .i64))), (33, .v (.int .i64 l.length)), (34, .v (.int .i64 j))], [some (2, [Room.row ⟨cs, sp⟩]), some (1, boolR n (inB ((sp.take k).flatten ++ l.take j)))])) (fun j _ => ∀ x ∈ l.take j, 0 ≤ x ∧ x < n) () (by omega) (by simp) ?_ ?_ ?_
    · simp [Room.row, boolR_low]
    · rintro j _ hj hgood hw2
      have hx : l[j] ∈ l := List.getElem_mem hj
      by_cases d1 : l[j] < 0
      · have hno : ¬ okC n l = true := by
          intro h
          simp only [okC, List.all_eq_true, Bool.and_eq_true, decide_eq_true_eq] at h
          have := (h _ hx).1; omega
        rw [if_neg hno] at hall
        simp [Try.ntmps195, Try.results195, cSl, cp0, cI, cD, cR, hj, irow, d1, ← hall]
      by_cases d2 : (n : Int) ≤ l[j]
      · have hno : ¬ okC n l = true := by
          intro h
          simp only [okC, List.all_eq_true, Bool.and_eq_true, decide_eq_true_eq] at h
          have := (h _ hx).2; omega
        rw [if_neg hno] at hall
        simp [Try.ntmps195, Try.results195, cSl, cp0, cI, cD, cR, hj, irow, d1, d2, ← hall, Room.row, hn]
      obtain ⟨x, hxx⟩ := Int.eq_ofNat_of_zero_le (show 0 ≤ l[j] by omega)
      have hxn : x < n := by omega
      have hb := boolR_get (inB ((sp.take k).flatten ++ l.take j)) hxn
      have hs := boolR_set (inB ((sp.take k).flatten ++ l.take j)) hxn
      have he : boolR n (fun q => inB ((sp.take k).flatten ++ l.take j) q || q == x) = boolR n (inB ((sp.take k).flatten ++ l.take (j + 1))) := by
        refine boolR_ext fun q _ => ?_
        rw [List.take_succ_eq_append_getElem hj, hxx, ← List.append_assoc]
        rw [Bool.eq_iff_iff]
        have hqx : ((q : Int) = (x : Int)) ↔ q = x := by omega
        simp only [inB, Bool.or_eq_true, decide_eq_true_eq, beq_iff_eq, List.mem_append, List.mem_singleton, or_assoc, hqx]
      rw [he] at hs
      have hgood2 : ∀ y ∈ l.take (j + 1), 0 ≤ y ∧ y < n := by
        intro y hy
        rw [List.take_succ_eq_append_getElem hj] at hy
        rcases List.mem_append.1 hy with hy | hy
        · exact hgood y hy
        · simp at hy; subst hy; omega
      simp only [brow] at hb hs
      have d3 : ¬ (n : Int) ≤ x := by omega
      have d4 : ¬ (x : Int) < 0 := by omega
      simp [Try.ntmps195, Try.results195, cSl, cp0, cI, cD, cR, hj, irow, hxx, d3, d4, Room.row, hn, hxn, hb, hs, hw2, boolR_low]
      exact hgood2
    · rintro _ hgood
      rw [List.take_length] at hgood
      have hyes : okC n l = true := by
        simp only [okC, List.all_eq_true, Bool.and_eq_true, decide_eq_true_eq]; exact hgood
      rw [if_pos hyes] at hall
      simp [Try.ntmps195, Try.results195, cSl, cp0, cI, cD, cR, hw, Room.row, boolR_low, htk]
      exact hall
  · rintro _ hall
    simp only [List.drop_length, spGo] at hall
    have hdec : ∀ f, (boolR n f).mapM rB.dec = some ((List.range n).map f) := fun f => mapM_dec rB _
    have hcold : ∀ f, coldR (boolR n f) = boolR n f := fun f => brow_cold _
    have hv : ∀ (f : Nat → Bool) (H : Heap) (d : Nat), (boolR n f).map (List.map (view H d)) = boolR n f := by
      intro f H d
      unfold boolR
      rw [List.map_map, brow_viewc]
    have ht : ∀ f : Nat → Bool, List.take n (boolR n f) = boolR n f := fun f => List.take_of_length_le (by simp)
    by_cases hin : (List.range n).all (inB sp.flatten) = true
    · have hc : ¬ false ∈ (List.range n).map (inB sp.flatten) := by
        rw [List.mem_map]
        rintro ⟨c, hc1, hc2⟩
        rw [List.all_eq_true] at hin
        rw [hin c hc1] at hc2
        cases hc2
      have hin2 : (∀ x, x < n → inB sp.flatten x = true) = True := eq_true fun x hx => by rw [List.all_eq_true] at hin; exact hin x (by simpa using hx)
      simp [Try.ntmps195, Try.results195, cSl, cp0, cI, cD, cR, ← hall, hin2, hdec, hcold, hv, ht, hc, h3]
    · have hc : false ∈ (List.range n).map (inB sp.flatten) := by
        rw [List.mem_map]
        simp only [List.all_eq_true] at hin
        apply Classical.byContradiction
        intro hno
        exact hin fun c hc1 => by
          cases h : inB sp.flatten c
          · exact absurd ⟨c, hc1, h⟩ hno
          · rfl
      have hin2 : (∀ x, x < n → inB sp.flatten x = true) = False := eq_false fun h => hin (by rw [List.all_eq_true]; exact fun x hx => h x (by simpa using hx))
      simp [Try.ntmps195, Try.results195, cSl, cp0, cI, cD, cR, ← hall, hin2, hdec, hcold, hv, ht, hc, h3]
end
section
attribute [local simp] rSp_sz spR_cold spR_dec spR_mapM spR_mapMc spR_view spR_viewc spR_hotR spR_ren spR_renc spR_low spR_get spR_len Room.eta Room.dec_row Room.dec_hrow
theorem clByte : InlOk Try.prog 61 (cloneI 1) := by
  refine inl_soft Try.func61 rfl ?_
  intro args H r H' hr
  rcases cloneI_some hr with ⟨o, rows, rfl, hl, hc⟩ | ⟨id, st, k, kc, rows, rfl, hob, hle, hl, hc⟩ | ⟨rfl, rfl, rfl⟩
  · refine ⟨by simp [Try.ntmps61], wpA_sound noOrc_ok fxMix _ _ _ _ (by kernel_rfl) ?_⟩
    rcases hc with ⟨rfl, rfl, rfl⟩ | ⟨h0, rfl, rfl⟩
    · simp [Try.ntmps61, Try.results61, noOrc]
    · simp [Try.ntmps61, Try.results61, h0, hl, noOrc]
  · refine ⟨by simp [Try.ntmps61], wpA_sound noOrc_ok fxMix _ _ _ _ (by kernel_rfl) ?_⟩
    have hob' := obj_get hob
    have e1 : min k (rows.length - st) = k := by omega
    have e2 : st + k ≤ rows.length := hle
    have e3 : st ≤ rows.length := by omega
    rcases hc with ⟨rfl, rfl, rfl⟩ | ⟨h0, rfl, rfl⟩
    · simp [Try.ntmps61, Try.results61, noOrc, hob', e2, e3]
    · simp [Try.ntmps61, Try.results61, hl, noOrc, hob', e1, e2, h0]
  · refine ⟨by simp [Try.ntmps61], wpA_sound noOrc_ok fxMix _ _ _ _ (by kernel_rfl) ?_⟩
    simp [Try.ntmps61, Try.results61, noOrc]
theorem clSp : InlOk Try.prog 196 (cloneI 1) := by
  refine inl_soft Try.func196 rfl ?_
  intro args H r H' hr
  rcases cloneI_some hr with ⟨o, rows, rfl, hl, hc⟩ | ⟨id, st, k, kc, rows, rfl, hob, hle, hl, hc⟩ | ⟨rfl, rfl, rfl⟩
  · refine ⟨by simp [Try.ntmps196], wpA_sound noOrc_ok fxMix _ _ _ _ (by kernel_rfl) ?_⟩
    rcases hc with ⟨rfl, rfl, rfl⟩ | ⟨h0, rfl, rfl⟩
    · simp [Try.ntmps196, Try.results196, noOrc]
    · simp [Try.ntmps196, Try.results196, h0, hl, noOrc]
  · refine ⟨by simp [Try.ntmps196], wpA_sound noOrc_ok fxMix _ _ _ _ (by kernel_rfl) ?_⟩
    have hob' := obj_get hob
    have e1 : min k (rows.length - st) = k := by omega
    have e2 : st + k ≤ rows.length := hle
    have e3 : st ≤ rows.length := by omega
    rcases hc with ⟨rfl, rfl, rfl⟩ | ⟨h0, rfl, rfl⟩
    · simp [Try.ntmps196, Try.results196, noOrc, hob', e2, e3]
    · simp [Try.ntmps196, Try.results196, hl, noOrc, hob', e1, e2, h0]
  · refine ⟨by simp [Try.ntmps196], wpA_sound noOrc_ok fxMix _ _ _ _ (by kernel_rfl) ?_⟩
    simp [Try.ntmps196, Try.results196, noOrc]
theorem clInt : InlOk Try.prog 46 (cloneI 1) := by
  refine inl_soft Try.func46 rfl ?_
  intro args H r H' hr
  rcases cloneI_some hr with ⟨o, rows, rfl, hl, hc⟩ | ⟨id, st, k, kc, rows, rfl, hob, hle, hl, hc⟩ | ⟨rfl, rfl, rfl⟩
  · refine ⟨by simp [Try.ntmps46], wpA_sound noOrc_ok fxMix _ _ _ _ (by kernel_rfl) ?_⟩
    rcases hc with ⟨rfl, rfl, rfl⟩ | ⟨h0, rfl, rfl⟩
    · simp [Try.ntmps46, Try.results46, noOrc]
    · simp [Try.ntmps46, Try.results46, h0, hl, noOrc]
  · refine ⟨by simp [Try.ntmps46], wpA_sound noOrc_ok fxMix _ _ _ _ (by kernel_rfl) ?_⟩
    have hob' := obj_get hob
    have e1 : min k (rows.length - st) = k := by omega
    have e2 : st + k ≤ rows.length := hle
    have e3 : st ≤ rows.length := by omega
    rcases hc with ⟨rfl, rfl, rfl⟩ | ⟨h0, rfl, rfl⟩
    · simp [Try.ntmps46, Try.results46, noOrc, hob', e2, e3]
    · simp [Try.ntmps46, Try.results46, hl, noOrc, hob', e1, e2, h0]
  · refine ⟨by simp [Try.ntmps46], wpA_sound noOrc_ok fxMix _ _ _ _ (by kernel_rfl) ?_⟩
    simp [Try.ntmps46, Try.results46, noOrc]
def cowSp (r : Room) (s : Int) : Int := if cowCheck r = 0 then (if s < 0 ∨ (r.spaces.length : Int) ≤ s then 4 else 0) else cowCheck r
theorem cowSp_pure : PureOk Try.prog 143 (argM (cAgg rRoom) fun r => argM (cInt .i64) fun s => finM (some (.v (.int .i64 (cowSp r s))))) := by
  refine pure2 Try.func143 rfl ?_
  rintro r s r hr
  simp only [Option.some.injEq] at hr
  subst hr
  refine body_gen (noOrc_ok.withP cowCheck_pure) fxMix (by kernel_rfl) (by simp [Try.ntmps143]) ?_
  intro C cP cI cN cD cF cA cR cL
  have cp0 := orcP cowCheck_pure (C := C) (by rw [cP]; rfl)
  replace cI : C.inl = fun _ => false := cI
  replace cR : C.rd = fun _ => none := cR
  replace cD : C.dyn = fun _ => [] := cD
  clear cP cN cF cA
  obtain ⟨cs, sp⟩ := r
  unfold cowSp
  by_cases h0 : cowCheck ⟨cs, sp⟩ = 0
  · by_cases h1 : s < 0
    · simp [Try.ntmps143, Try.results143, cSl, cp0, cI, cD, cR, rI, rRoom, roomDec, Room.row, h0, h1]
    · by_cases h2 : (sp.length : Int) ≤ s
      · simp [Try.ntmps143, Try.results143, cSl, cp0, cI, cD, cR, rI, rRoom, roomDec, Room.row, h0, h1, h2]
      · simp [Try.ntmps143, Try.results143, cSl, cp0, cI, cD, cR, rI, rRoom, roomDec, Room.row, h0, h1, h2]
  · simp [Try.ntmps143, Try.results143, cSl, cp0, cI, cD, cR, rI, rRoom, roomDec, Room.row, h0]
abbrev irw : Int → Row := irow .i64
def cpVal (r : Room) (b : Nat) : AVal := .agg [oA b 1 r.cells.length, oA (b + 1) 1 r.spaces.length]
def cpHeap (r : Room) (b : Nat) : Heap := oT 1 (r.cells.map (irow .u8)) :: oT 1 (ownR 1 (b + 2) r.spaces) :: ownH 1 (irow .i64) r.spaces
theorem cpy_own : InlOk Try.prog 144 (own0 (argG (cAgg rRoom) fun q => finG (if (q.cells.length ≤ 64 ∧ q.spaces.length ≤ 8) ∧ ∀ l ∈ q.spaces, l.length ≤ 8 then some ((cpVal q 2, none :: none :: cpHeap q 2)) else none))) := by
  refine own0_1 Try.func144 rfl ?_
  rintro q r H' hr
  by_cases hc : (q.cells.length ≤ 64 ∧ q.spaces.length ≤ 8) ∧ ∀ l ∈ q.spaces, l.length ≤ 8
  case neg => rw [if_neg hc] at hr; cases hr
  rw [if_pos hc] at hr
  simp only [Option.some.injEq, Prod.mk.injEq] at hr
  obtain ⟨rfl, rfl⟩ := hr
  refine bodyI_w ((((noOrc_ok.withIF clByte clone_loc).withIF clSp clone_loc).withIF clInt clone_loc).withD (fun i => if i = 1 then [(2,4)] else if i = 5 then [(1,4)] else [])) fxMix (by kernel_rfl) (by simp [Try.ntmps144]) ?_
  intro C cP cI cN cD cF cA cR cL
  have cn0 := orcI clByte (C := C) (by rw [cN]; rfl)
  have cn1 := orcI clSp (C := C) (by rw [cN]; rfl)
  have cn2 := orcI clInt (C := C) (by rw [cN]; rfl)
  replace cI := fun g => congrFun cI g
  simp only [Orc.withP, Orc.withI, Orc.withF, Orc.withD, Orc.withA, Orc.withR, Orc.withC, noOrc] at cI
  replace cR : C.rd = fun _ => none := cR
  replace cD : C.dyn = fun i => if i = 1 then [(2,4)] else if i = 5 then [(1,4)] else [] := cD
  replace cF := fun g => congrFun cF g
  simp only [Orc.withP, Orc.withI, Orc.withF, Orc.withD, Orc.withA, Orc.withR, Orc.withC, noOrc] at cF
  replace cA : C.alt = fun _ => [] := cA
  clear cP cN
  obtain ⟨cs, sp⟩ := q
  simp only at hc
  have hc1 : cs.length ≤ 4294967296 := by omega
  have hc2 : sp.length ≤ 4294967296 := by omega
  by_cases h1 : cs = []
  · subst h1
    by_cases h2 : sp = []
    · subst h2
      simp [Try.ntmps144, Try.results144, cSl, cn0, cn1, cn2, cI, cD, cR, cF, cA, rRoom, Room.row, cloneI]
      refine loop_rounds 1 ?_
      simp [Try.ntmps144, Try.results144, cSl, cn0, cn1, cn2, cI, cD, cR, cF, cA, UnrK, cpVal, cpHeap, oA, oT, ownH, ownR]
    · simp [Try.ntmps144, Try.results144, cSl, cn0, cn1, cn2, cI, cD, cR, cF, cA, rRoom, Room.row, cloneI, h2, hc2]
      refine loop_forW sp.length (fun k (_ : Unit) => ([(1, .ptr 0 2 0 0), (2, .ptr 1 2 0 0), (14, .osl 3 1 0 sp.length sp.length), (15, .v (.int .i64 sp.length)), (16, .v (.int .i64 k))], [some (2, [[.esl, .osl 3 1 0 sp.length sp.length]]), some (2, [[.v (.slice none 0 0), .v (.slice none 0 0)]]), none, some (1, mixR 1 4 k (irow .i64) sp)] ++ ownH 1 (irow .i64) (sp.take k))) (fun k _ => True) () [0, 1, 9, 2] (by rintro k _ h _; omega) trivial ?_ ?_ ?_
      · have hm : (List.map (List.map (ren 0 [0, 1, 9, 2])) (mixR 1 4 0 (irow .i64) sp)) = sp.map (spR false) := by
          rw [mixR_zero, List.map_map]
          exact List.map_congr_left fun l _ => slR_ren l
        simp [ownH, mixR_low (sz := 1) (c := 4) (n := 4) (k := 0) (g := irow .i64) (L := sp) (.inr (by omega)), hm]
      · rintro k _ hk _ hw
        have hg := mixR_get (sz := 1) (c := 4) (k := k) (g := irow .i64) hk
        rw [if_neg (Nat.lt_irrefl k)] at hg
        have hg2 : (mixR 1 4 k (irow .i64) sp)[k]'(by rw [mixR_len]; exact hk) = [.fsl false 1 (sp[k].map (irow .i64))] := by
          rw [List.getElem?_eq_getElem (by rw [mixR_len]; exact hk)] at hg
          simpa [slR] using hg
        have hs := mixR_set (sz := 1) (c := 4) (g := irow .i64) hk
        have hln : (mixR 1 4 k (irow .i64) sp).length = sp.length := mixR_len
        have hHl : (ownH 1 (irow .i64) (sp.take k)).length = k := by rw [ownH_len]; simp; omega
        have hHl2 : (ownH 1 (irow .i64) (sp.take (k + 1))).length = k + 1 := by rw [ownH_len]; simp; omega
        have hlow : ∀ n, k + 1 + 4 ≤ n → ((mixR 1 4 (k + 1) (irow .i64) sp).all fun row => row.all (lowA n)) = true := fun n h => mixR_low (.inr (by omega))
        have hl8 : sp[k].length ≤ 4294967296 := by have := hc.2 _ (List.getElem_mem hk); omega
        have hW := heapW_own (sz := 1) (n := k + 1 + 4) (g := irow .i64) hk (irow_low _)
        simp only [oA, List.length_eq_zero_iff] at hs
        by_cases hne : sp[k] = []
        · rw [if_pos hne] at hs
          simp only [hne, if_true, List.append_nil] at hW
          simp [Try.ntmps144, Try.results144, cSl, cn0, cn1, cn2, cI, cD, cR, cF, cA, hk, hw, hg2, hs, hln, hHl, slR, cloneI, hne]
          refine ⟨?_, ?_⟩
          · have := hlow ((ownH 1 (irow .i64) (sp.take (k + 1))).length + 1 + 1 + 1 + 1) (by rw [hHl2]; omega)
            simpa using this
          · rw [hHl2]; exact hW
        · rw [if_neg hne] at hs
          simp only [hne, if_false] at hW
          simp [Try.ntmps144, Try.results144, cSl, cn0, cn1, cn2, cI, cD, cR, cF, cA, hk, hw, hg2, hs, hln, hHl, slR, cloneI, hne, hl8]
          refine ⟨?_, ?_⟩
          · have := hlow ((ownH 1 (irow .i64) (sp.take (k + 1))).length + 1 + 1 + 1 + 1) (by rw [hHl2]; omega)
            simpa using this
          · rw [hHl2]; exact hW
      · rintro _ _
        have hO : oT 1 (ownR 1 4 sp) = some (1, ownR 1 4 sp) := by
          unfold oT
          rw [if_neg (fun h => h2 (List.length_eq_zero_iff.1 (by rw [← ownR_len (sz := 1) (c := 4), h]; rfl)))]
        have hlow : ∀ n, sp.length + 4 ≤ n → ((ownR 1 4 sp).all fun row => row.all (lowA n)) = true := fun n h => ownR_low h
        have hself : ∀ n, heapW n (ownH 1 (irow .i64) sp) (ownH 1 (irow .i64) sp) := fun n => by
          have := heapW_app (n := n) (Y := []) (Z := []) (ownH_low (sz := 1) (g := irow .i64) (L := sp) (irow_low n)) trivial
          simpa using this
        have hl4 : sp.length + 4 = sp.length + 1 + 1 + 1 + 1 := rfl
        simp [Try.ntmps144, Try.results144, cSl, cn0, cn1, cn2, cI, cD, cR, cF, cA, mixR_all, cpVal, cpHeap, oA, hO, hself, h2, hself, ownH_len]
        try simp [oT, hself, heapW, hlow, hself, irow_low]
  · by_cases h2 : sp = []
    · subst h2
      simp [Try.ntmps144, Try.results144, cSl, cn0, cn1, cn2, cI, cD, cR, cF, cA, rRoom, Room.row, cloneI, h1, hc1]
      refine loop_rounds 1 ?_
      simp [Try.ntmps144, Try.results144, cSl, cn0, cn1, cn2, cI, cD, cR, cF, cA, UnrK, cpVal, cpHeap, oA, oT, ownH, ownR, h1]
    · simp [Try.ntmps144, Try.results144, cSl, cn0, cn1, cn2, cI, cD, cR, cF, cA, rRoom, Room.row, cloneI, h1, h2, hc1, hc2]
      refine loop_forW sp.length (fun k (_ : Unit) => ([(1, .ptr 0 2 0 0), (2, .ptr 1 2 0 0), (14, .osl 3 1 0 sp.length sp.length), (15, .v (.int .i64 sp.length)), (16, .v (.int .i64 k))], [some (2, [[.osl 2 1 0 cs.length cs.length, .osl 3 1 0 sp.length sp.length]]), some (2, [[.v (.slice none 0 0), .v (.slice none 0 0)]]), some (1, cs.map (irow .u8)), some (1, mixR 1 4 k (irow .i64) sp)] ++ ownH 1 (irow .i64) (sp.take k))) (fun k _ => True) () [0, 1, 2, 3] (by rintro k _ h _; omega) trivial ?_ ?_ ?_
      · have hm : (List.map (List.map (ren 0 [0, 1, 2, 3])) (mixR 1 4 0 (irow .i64) sp)) = sp.map (spR false) := by
          rw [mixR_zero, List.map_map]
          exact List.map_congr_left fun l _ => slR_ren l
        simp [ownH, mixR_low (sz := 1) (c := 4) (n := 4) (k := 0) (g := irow .i64) (L := sp) (.inr (by omega)), hm]
      · rintro k _ hk _ hw
        have hg := mixR_get (sz := 1) (c := 4) (k := k) (g := irow .i64) hk
        rw [if_neg (Nat.lt_irrefl k)] at hg
        have hg2 : (mixR 1 4 k (irow .i64) sp)[k]'(by rw [mixR_len]; exact hk) = [.fsl false 1 (sp[k].map (irow .i64))] := by
          rw [List.getElem?_eq_getElem (by rw [mixR_len]; exact hk)] at hg
          simpa [slR] using hg
        have hs := mixR_set (sz := 1) (c := 4) (g := irow .i64) hk
        have hln : (mixR 1 4 k (irow .i64) sp).length = sp.length := mixR_len
        have hHl : (ownH 1 (irow .i64) (sp.take k)).length = k := by rw [ownH_len]; simp; omega
        have hHl2 : (ownH 1 (irow .i64) (sp.take (k + 1))).length = k + 1 := by rw [ownH_len]; simp; omega
        have hlow : ∀ n, k + 1 + 4 ≤ n → ((mixR 1 4 (k + 1) (irow .i64) sp).all fun row => row.all (lowA n)) = true := fun n h => mixR_low (.inr (by omega))
        have hl8 : sp[k].length ≤ 4294967296 := by have := hc.2 _ (List.getElem_mem hk); omega
        have hW := heapW_own (sz := 1) (n := k + 1 + 4) (g := irow .i64) hk (irow_low _)
        simp only [oA, List.length_eq_zero_iff] at hs
        by_cases hne : sp[k] = []
        · rw [if_pos hne] at hs
          simp only [hne, if_true, List.append_nil] at hW
          simp [Try.ntmps144, Try.results144, cSl, cn0, cn1, cn2, cI, cD, cR, cF, cA, hk, hw, hg2, hs, hln, hHl, slR, cloneI, hne]
          refine ⟨?_, ?_⟩
          · have := hlow ((ownH 1 (irow .i64) (sp.take (k + 1))).length + 1 + 1 + 1 + 1) (by rw [hHl2]; omega)
            simpa using this
          · rw [hHl2]; exact hW
        · rw [if_neg hne] at hs
          simp only [hne, if_false] at hW
          simp [Try.ntmps144, Try.results144, cSl, cn0, cn1, cn2, cI, cD, cR, cF, cA, hk, hw, hg2, hs, hln, hHl, slR, cloneI, hne, hl8]
          refine ⟨?_, ?_⟩
          · have := hlow ((ownH 1 (irow .i64) (sp.take (k + 1))).length + 1 + 1 + 1 + 1) (by rw [hHl2]; omega)
            simpa using this
          · rw [hHl2]; exact hW
      · rintro _ _
        have hO : oT 1 (ownR 1 4 sp) = some (1, ownR 1 4 sp) := by
          unfold oT
          rw [if_neg (fun h => h2 (List.length_eq_zero_iff.1 (by rw [← ownR_len (sz := 1) (c := 4), h]; rfl)))]
        have hlow : ∀ n, sp.length + 4 ≤ n → ((ownR 1 4 sp).all fun row => row.all (lowA n)) = true := fun n h => ownR_low h
        have hself : ∀ n, heapW n (ownH 1 (irow .i64) sp) (ownH 1 (irow .i64) sp) := fun n => by
          have := heapW_app (n := n) (Y := []) (Z := []) (ownH_low (sz := 1) (g := irow .i64) (L := sp) (irow_low n)) trivial
          simpa using this
        have hl4 : sp.length + 4 = sp.length + 1 + 1 + 1 + 1 := rfl
        simp [Try.ntmps144, Try.results144, cSl, cn0, cn1, cn2, cI, cD, cR, cF, cA, mixR_all, cpVal, cpHeap, oA, hO, h1, h2, hself, ownH_len]
        try simp [oT, h1, heapW, hlow, hself, irow_low]
end
section
attribute [local simp] rSp_sz spR_cold spR_dec spR_mapM spR_mapMc spR_view spR_viewc spR_hotR spR_ren spR_renc spR_low spR_get spR_len Room.eta Room.dec_row Room.dec_hrow
def cntI (c : Int) (l : List Int) : Int := ((l.count c : Nat) : Int)
def manyI (L : List (List Int)) (c : Int) : Int := ((L.flatten.count c : Nat) : Int)
theorem count_le (c : Int) (l : List Int) : cntI c l ≤ l.length := by unfold cntI; have := List.count_le_length (a := c) (l := l); omega
theorem flat_len {L : List (List Int)} (h : ∀ l ∈ L, l.length ≤ 8) : L.flatten.length ≤ 8 * L.length := by
  induction L with
  | nil => simp
  | cons l L ih =>
    have h1 := h l (by simp)
    have h2 := ih fun x hx => h x (by simp [hx])
    simp only [List.flatten_cons, List.length_append, List.length_cons]
    omega
theorem count_take {l : List Int} {c : Int} {j : Nat} (hj : j < l.length) : cntI c (l.take (j + 1)) = cntI c (l.take j) + (if l[j] = c then 1 else 0) := by
  unfold cntI
  rw [List.take_succ_eq_append_getElem hj, List.count_append, List.count_singleton]
  by_cases h : l[j] = c
  · simp [h]
  · have : (l[j] == c) = false := by simp [h]
    simp [h, this]
theorem many_pure : PureOk Try.prog 145 (argM (cAgg rRoom) fun q => argM (cInt .i64) fun c => finM (if q.spaces.length ≤ 8 ∧ ∀ l ∈ q.spaces, l.length ≤ 8 then some (.v (.int .i64 (manyI q.spaces c))) else none)) := by
  refine pure2 Try.func145 rfl ?_
  rintro q c r hr
  by_cases hc : q.spaces.length ≤ 8 ∧ ∀ l ∈ q.spaces, l.length ≤ 8
  case neg => rw [if_neg hc] at hr; cases hr
  rw [if_pos hc] at hr
  simp only [Option.some.injEq] at hr
  subst hr
  refine body_gen noOrc_ok fxMix (by kernel_rfl) (by simp [Try.ntmps145]) ?_
  intro C cP cI cN cD cF cA cR cL
  replace cI : C.inl = fun _ => false := cI
  replace cR : C.rd = fun _ => none := cR
  replace cD : C.dyn = fun _ => [] := cD
  clear cP cN cF cA
  obtain ⟨cs, sp⟩ := q
  simp only at hc
  have hfl := flat_len hc.2
  simp [Try.ntmps145, Try.results145, cSl, cI, cD, cR, rRoom, Room.row]
  refine loop_for sp.length (fun k (_ : Unit) => ([(1, .v (.int .i64 c)), (5, .v (.int .i64 (manyI (sp.take k) c))), (11, .fsl false 1 (sp.map (spR false))), (12, .v (.int .i64 sp.length)), (13, .v (.int .i64 k))], [])) (fun k _ => True) () (by omega) trivial (by simp [manyI]) ?_ ?_
  · rintro k _ hk _ hw
    have hl8 := hc.2 _ (List.getElem_mem hk)
    have hfl2 := flat_len (L := sp.take k) (fun l hl => hc.2 l (List.mem_of_mem_take hl))
    have hc2 := count_le c (sp.take k).flatten
    have htk : (sp.take (k + 1)).flatten = (sp.take k).flatten ++ sp[k] := by
      rw [List.take_succ_eq_append_getElem hk, List.flatten_append]; simp
    have hmk : manyI (sp.take (k + 1)) c = manyI (sp.take k) c + cntI c sp[k] := by
      unfold manyI cntI; rw [htk, List.count_append]; simp
    have hm0 : manyI (sp.take k) c = cntI c (sp.take k).flatten := rfl
    simp only [List.length_take] at hfl2
    generalize hl : sp[k] = l at *
    simp [Try.ntmps145, Try.results145, cSl, cI, cD, cR, hk, hl]
    refine loop_for l.length (fun j (_ : Unit) => ([(1, .v (.int .i64 c)), (5, .v (.int .i64 (manyI (sp.take k) c + cntI c (l.take j)))), (11, .fsl false 1 (sp.map (spR false))), (12, .v (.int .i64 sp.length)), (13, .v (.int .i64 k)), (17, .fsl false 1 (l.map (irow .i64))), (18, .v (.int .i64 l.length)), (19, .v (.int .i64 j))], [])) (fun j _ => True) () (by omega) trivial (by simp [cntI]) ?_ ?_
    · rintro j _ hj _ hw2
      have h1 := count_take (c := c) hj
      have h2 := count_le c (l.take j)
      have h3 : 0 ≤ cntI c (l.take j) := by unfold cntI; omega
      have h4 : 0 ≤ cntI c (sp.take k).flatten := by unfold cntI; omega
      simp only [List.length_take] at h2
      have w1 : IntKind.i64.wrap (manyI (sp.take k) c + cntI c (l.take j) + 1) = manyI (sp.take k) c + (cntI c (l.take j) + 1) := by rw [w64 (by omega) (by omega)]; omega
      by_cases q : l[j] = c
      · rw [if_pos q] at h1
        simp [Try.ntmps145, Try.results145, cSl, cI, cD, cR, hj, irow, hw2, q, w1, h1]
      · rw [if_neg q] at h1
        simp [Try.ntmps145, Try.results145, cSl, cI, cD, cR, hj, irow, hw2, q, h1]
    · rintro _ _
      simp [Try.ntmps145, Try.results145, cSl, cI, cD, cR, hw, hmk]
  · rintro _ _
    simp [Try.ntmps145, Try.results145, cSl, cI, cD, cR]
/-- what a room's parts are like behind a check -/
theorem cow_ok {r : Room} (h : cowCheck r = 0) : (r.cells.length ≤ 64 ∧ r.spaces.length ≤ 8) ∧ (∀ l ∈ r.spaces, l.length ≤ 8 ∧ ∀ x ∈ l, 0 ≤ x ∧ x < r.cells.length) ∧ ∀ c, c < r.cells.length → ∃ l ∈ r.spaces, (c : Int) ∈ l := by
  unfold cowCheck at h
  split at h
  · simp at h
  · rename_i h1
    split at h
    · rename_i h2
      split at h
      · rename_i h3
        refine ⟨by omega, (spGo_ok _ _).1 h2, fun c hc => ?_⟩
        rw [List.all_eq_true] at h3
        have := h3 c (by simpa using hc)
        simp only [inB, decide_eq_true_eq, List.mem_flatten] at this
        obtain ⟨l, h5, h6⟩ := this
        exact ⟨l, h5, h6⟩
      · simp at h
    · rename_i h2; exact absurd h h2
theorem cow_of {r : Room} (h1 : r.cells.length ≤ 64) (h2 : r.spaces.length ≤ 8) (h3 : ∀ l ∈ r.spaces, l.length ≤ 8 ∧ ∀ x ∈ l, 0 ≤ x ∧ x < r.cells.length) (h4 : ∀ c, c < r.cells.length → ∃ l ∈ r.spaces, (c : Int) ∈ l) : cowCheck r = 0 := by
  unfold cowCheck
  rw [if_neg (by omega), if_pos ((spGo_ok _ _).2 h3), if_pos]
  rw [List.all_eq_true]
  intro c hc
  obtain ⟨l, h5, h6⟩ := h4 c (by simpa using hc)
  simp only [inB, decide_eq_true_eq, List.mem_flatten]
  exact ⟨l, h5, h6⟩
theorem sp_ok {r : Room} {s : Int} (h : cowSp r s = 0) : cowCheck r = 0 ∧ ∃ k : Nat, s = k ∧ k < r.spaces.length := by
  unfold cowSp at h
  split at h
  · rename_i h0
    split at h
    · simp at h
    · obtain ⟨k, hk⟩ := Int.eq_ofNat_of_zero_le (show 0 ≤ s by omega)
      exact ⟨h0, k, hk, by omega⟩
  · rename_i h0; exact absurd h h0
theorem cp_bare (q : Room) (b : Nat) : bareA (cpVal q b) = true := by simp [cpVal, bareA, bareC, bare_oA]
theorem cp_bareH (q : Room) (b : Nat) : bareH (cpHeap q b) = true := by
  simp only [cpHeap]
  rw [bareH_oT irow_bare]
  unfold oT
  split
  · simp only [bareH]; exact bareH_ownH irow_bare
  · simp only [bareH, Bool.and_eq_true]; exact ⟨bare_ownR, bareH_ownH irow_bare⟩
theorem cp_tau (q : Room) (b n : Nat) : tau [] n (cpVal q b) = cpVal q (n + b) := by
  simp only [cpVal, tau, tauC, tau_oA]
  rfl
theorem cp_tauO (q : Room) (b n : Nat) : (cpHeap q b).map (tauO [] n) = cpHeap q (n + b) := by
  simp only [List.map_cons, cpHeap, tauO_ownH (irow_tau [] n), tauO_oT (irow_tau [] n)]
  have : tauO [] n (oT 1 (ownR 1 (b + 2) q.spaces)) = oT 1 (ownR 1 (n + b + 2) q.spaces) := by
    unfold oT
    by_cases h : q.spaces = []
    · simp [h, ownR, tauO]
    · rw [if_neg (ownR_ne h), if_neg (ownR_ne h)]
      simp only [tauO, tau_ownR]
      rfl
  rw [this]
theorem cpy_inl : InlOk Try.prog 144 (frame0 (own0 (argG (cAgg rRoom) fun q => finG (if (q.cells.length ≤ 64 ∧ q.spaces.length ≤ 8) ∧ ∀ l ∈ q.spaces, l.length ≤ 8 then some ((cpVal q 2, none :: none :: cpHeap q 2)) else none)))) := frame0_ok cpy_own
def roomE : Except Int Room → AVal
  | .ok r => .tup [.agg r.hrow, .v (.int .i64 0)]
  | .error e => .v (.tuple #[.agg #[.slice none 0 0, .slice none 0 0], .int .i64 e])
def cowFork (r : Room) (s : Int) : Except Int Room :=
  if cowSp r s = 0 then (if r.spaces.length = 8 then .error 6 else .ok ⟨r.cells, r.spaces ++ [r.spaces[s.toNat]?.getD []]⟩) else .error (cowSp r s)
attribute [local simp] cp_bare cp_bareH cp_tau cp_tauO
theorem shows_esl {H : Heap} {d sz : Nat} : ShowsA H (d + 1) (.fsl true sz []) .esl := ⟨by simp only [view]; exact .esl, by simp [view, hot]⟩
theorem irw_view (H : Heap) (d : Nat) (e : Int) {k : IntKind} : List.map (view H d) (irow k e) = irow k e := irow_view H d e
theorem irw_hot {k : IntKind} (e : Int) : hotC (irow k e) = true := by simp [irow, hotC, hot]
/-- a room told: its cells, its spaces at M -/
theorem room_fin {H : Heap} {cs : List Int} {L : List (List Int)} {M m : Nat} {cA : AVal} {rows : List Row} (h4 : ShowsA H 2 (.fsl true 1 (cs.map (irow .u8))) cA) (hm : m = L.length) (hob : obj H M = some (1, rows)) (hl : rows.length = L.length)
    (hr : ∀ (i : Nat) (hi : i < L.length), ∃ x, rows[i]? = some [x] ∧ ShowsA H 1 (.fsl true 1 (L[i].map (irow .i64))) x) : ShowsA H 3 (.agg (Room.hrow ⟨cs, L⟩)) (.agg [cA, .osl M 1 0 m m]) :=
  showsG2 h4 (shows_rows hm hob hl hr)
theorem own_row {H : Heap} {sp : List (List Int)} {c : Nat} (hin : ∀ (i : Nat) (hi : i < sp.length), sp[i] ≠ [] → obj H (i + c) = some (1, sp[i].map (irow .i64))) {i : Nat} (hi : i < sp.length) : ∃ x, (ownR 1 c sp)[i]? = some [x] ∧ ShowsA H 1 (.fsl true 1 (sp[i].map (irow .i64))) x :=
  ⟨_, ownR_get hi, shows_oA (d := 0) (hin i hi) (fun e => irow_view H 0 e) irw_hot⟩
theorem fork_rows {H : Heap} {sp : List (List Int)} {l : List Int} {x : AVal} (hin : ∀ (i : Nat) (hi : i < sp.length), sp[i] ≠ [] → obj H (i + 6) = some (1, sp[i].map (irow .i64))) (hx : ShowsA H 1 (.fsl true 1 (l.map (irow .i64))) x) :
    ∀ (i : Nat) (hi : i < (sp ++ [l]).length), ∃ y, (ownR 1 6 sp ++ [[x]])[i]? = some [y] ∧ ShowsA H 1 (.fsl true 1 ((sp ++ [l])[i].map (irow .i64))) y := by
  intro i hi
  by_cases h : i < sp.length
  · obtain ⟨y, h1, h2⟩ := own_row hin h
    refine ⟨y, by rw [List.getElem?_append_left (by rw [ownR_len]; exact h)]; exact h1, ?_⟩
    rw [List.getElem_append_left h]; exact h2
  · have : i = sp.length := by simp at hi; omega
    subst this
    refine ⟨x, by rw [List.getElem?_append_right (by rw [ownR_len]; exact Nat.le_refl _), ownR_len]; simp, ?_⟩
    simpa using hx
theorem cowFork_pure : PureOk Try.prog 72 (argM (cAgg rRoom) fun q => argM (cInt .i64) fun s => finM (some (roomE (cowFork q s)))) := by
  refine pureS2 Try.func72 rfl ?_
  rintro q s r' hr
  simp only [Option.some.injEq] at hr
  subst hr
  refine bodyS_of ((((noOrc_ok.withP cowSp_pure).withIF cpy_inl frame0_loc).withIF clInt clone_loc).withD (fun i => if i = 7 then [(1,7),(1,8)] else [])) fxMix (by kernel_rfl) (by simp [Try.ntmps72]) ?_
  intro C cP cI cN cD cF cA cR cL
  have cp0 := orcP cowSp_pure (C := C) (by rw [cP]; rfl)
  have cn0 := orcI cpy_inl (C := C) (by rw [cN]; rfl)
  have cn1 := orcI clInt (C := C) (by rw [cN]; rfl)
  replace cI := fun g => congrFun cI g
  simp only [Orc.withP, Orc.withI, Orc.withF, Orc.withD, Orc.withA, Orc.withR, Orc.withC, noOrc] at cI
  replace cR : C.rd = fun _ => none := cR
  replace cD : C.dyn = fun i => if i = 7 then [(1,7),(1,8)] else [] := cD
  replace cF := fun g => congrFun cF g
  simp only [Orc.withP, Orc.withI, Orc.withF, Orc.withD, Orc.withA, Orc.withR, Orc.withC, noOrc] at cF
  replace cA : C.alt = fun _ => [] := cA
  clear cP cN
  obtain ⟨cs, sp⟩ := q
  unfold cowFork
  simp only
  by_cases h0 : cowSp ⟨cs, sp⟩ s = 0
  case neg =>
    simp [Try.ntmps72, Try.results72, cSl, cp0, cn0, cn1, cI, cD, cR, cF, cA, rI, rRoom, roomDec, Room.row, h0, roomE]
    exact showsV _
  obtain ⟨hck, k, rfl, hk⟩ := sp_ok h0
  obtain ⟨⟨g1, g2⟩, g3, g4⟩ := cow_ok hck
  simp only at hk g1 g2 g3 g4
  by_cases h8 : sp.length = 8
  · have h8' : (sp.length : Int) = 8 := by omega
    simp [Try.ntmps72, Try.results72, cSl, cp0, cn0, cn1, cI, cD, cR, cF, cA, rI, rRoom, roomDec, Room.row, h0, h8, h8', roomE]
    exact showsV _
  have h8' : ¬ (sp.length : Int) = 8 := by omega
  have hcond : (∀ l, l ∈ sp → l.length ≤ 8) = True := eq_true fun l hl => (g3 l hl).1
  rw [if_pos h0, if_neg h8]
  simp [Try.ntmps72, Try.results72, cSl, cp0, cn0, cn1, cI, cD, cR, cF, cA, rI, rRoom, roomDec, Room.row, h0, h8, h8', g1, g2, hcond]
  have hne0 : ¬ sp.length = 0 := by omega
  have hne : ¬ sp = [] := fun e => hne0 (by rw [e]; rfl)
  have hA5 : oA 5 1 sp.length = .osl 5 1 0 sp.length sp.length := oA_pos hne0
  have hO5 : oT 1 (ownR 1 6 sp) = some (1, ownR 1 6 sp) := oT_pos (ownR_ne hne)
  have hg2 : (ownR 1 6 sp)[k]'(by rw [ownR_len]; exact hk) = [oA (k + 6) 1 sp[k].length] := by
    have := ownR_get (sz := 1) (c := 6) hk
    rw [List.getElem?_eq_getElem (by rw [ownR_len]; exact hk)] at this
    simpa using this
  have hgH := ownH_get (sz := 1) (g := irow .i64) hk
  have n1 : ¬ sp.length + 1 ≤ sp.length := by omega
  have n2 : sp.length + 1 ≤ 4294967296 := by omega
  have n3 : ¬ sp.length + 1 < sp.length := by omega
  have hl8 : sp[k].length ≤ 4294967296 := by have := (g3 _ (List.getElem_mem hk)).1; omega
  by_cases hcs : cs = []
  · have hA4 : oA 4 1 cs.length = .esl := by simp [oA, hcs]
    have hT4 : oT 1 (cs.map (irow .u8)) = none := by simp [oT, hcs]
    by_cases hz : sp[k] = []
    · have hA6 : oA (k + 6) 1 sp[k].length = .esl := by simp [oA, hz]
      simp [Try.ntmps72, Try.results72, cSl, cp0, cn0, cn1, cI, cD, cR, cF, cA, cpVal, cpHeap, hA4, hT4, hA5, hO5, hg2, hA6, ownR_len, ownH_len, hk, cloneI, hne0, n1, n2]
      simp only [roomE]
      refine showsT2 (room_fin ?_ (by simp) ?_ (by simp [ownR_len]) (fork_rows ?_ (by rw [hz]; exact shows_esl))) (showsV _)
      · rw [hcs]; exact shows_esl
      · simp [obj, ownH_len, List.getElem?_append_right]
      ·
        intro i hi hnz
        have h1 := ownH_get (sz := 1) (g := irow .i64) hi
        have h2 : ∀ LL : Heap, (ownH 1 (irow .i64) sp ++ LL)[i]? = some (oT 1 (sp[i].map (irow .i64))) := fun LL => by
          rw [List.getElem?_append_left (by rw [ownH_len]; exact hi)]; exact h1
        simp [obj, h1, h2, oT, hnz]
    · have hA6 : oA (k + 6) 1 sp[k].length = .osl (k + 6) 1 0 sp[k].length sp[k].length := oA_pos (fun e => hz (List.length_eq_zero_iff.1 e))
      have hT6 : oT 1 (sp[k].map (irow .i64)) = some (1, sp[k].map (irow .i64)) := oT_pos (by simpa using hz)
      have hgH2 : (ownH 1 (irow .i64) sp)[k]'(by rw [ownH_len]; exact hk) = some (1, sp[k].map (irow .i64)) := by
        rw [List.getElem?_eq_getElem (by rw [ownH_len]; exact hk), hT6] at hgH
        simpa using hgH
      have hz0 : ¬ sp[k].length = 0 := fun e => hz (List.length_eq_zero_iff.1 e)
      simp [Try.ntmps72, Try.results72, cSl, cp0, cn0, cn1, cI, cD, cR, cF, cA, cpVal, cpHeap, hA4, hT4, hA5, hO5, hg2, hA6, hgH2, ownR_len, ownH_len, hk, cloneI, hne0, n1, n2, n3, hl8, hz, hz0]
      simp only [roomE]
      refine showsT2 (room_fin ?_ (by simp) ?_ (by simp [ownR_len]) (fork_rows (x := .osl (sp.length + 1 + 1 + 1 + 1 + 1 + 1) 1 0 sp[k].length sp[k].length) ?_ (shows_osl (d := 0) rfl ?_ (fun e => irow_view _ 0 e) irw_hot))) (showsV _)
      · rw [hcs]; exact shows_esl
      · simp [obj, ownH_len, List.getElem?_append_right]
      ·
        intro i hi hnz
        have h1 := ownH_get (sz := 1) (g := irow .i64) hi
        have h2 : ∀ LL : Heap, (ownH 1 (irow .i64) sp ++ LL)[i]? = some (oT 1 (sp[i].map (irow .i64))) := fun LL => by
          rw [List.getElem?_append_left (by rw [ownH_len]; exact hi)]; exact h1
        simp [obj, h1, h2, oT, hnz]
      · simp [obj, ownH_len, List.getElem?_append_right]
  · have hA4 : oA 4 1 cs.length = .osl 4 1 0 cs.length cs.length := oA_pos (fun e => hcs (List.length_eq_zero_iff.1 e))
    have hT4 : oT 1 (cs.map (irow .u8)) = some (1, cs.map (irow .u8)) := oT_pos (by simpa using hcs)
    by_cases hz : sp[k] = []
    · have hA6 : oA (k + 6) 1 sp[k].length = .esl := by simp [oA, hz]
      simp [Try.ntmps72, Try.results72, cSl, cp0, cn0, cn1, cI, cD, cR, cF, cA, cpVal, cpHeap, hA4, hT4, hA5, hO5, hg2, hA6, ownR_len, ownH_len, hk, cloneI, hne0, n1, n2]
      simp only [roomE]
      refine showsT2 (room_fin ?_ (by simp) ?_ (by simp [ownR_len]) (fork_rows ?_ (by rw [hz]; exact shows_esl))) (showsV _)
      · exact shows_osl (d := 1) rfl (by simp [obj]) (fun e => irow_view _ 1 e) irw_hot
      · simp [obj, ownH_len, List.getElem?_append_right]
      ·
        intro i hi hnz
        have h1 := ownH_get (sz := 1) (g := irow .i64) hi
        have h2 : ∀ LL : Heap, (ownH 1 (irow .i64) sp ++ LL)[i]? = some (oT 1 (sp[i].map (irow .i64))) := fun LL => by
          rw [List.getElem?_append_left (by rw [ownH_len]; exact hi)]; exact h1
        simp [obj, h1, h2, oT, hnz]
    · have hA6 : oA (k + 6) 1 sp[k].length = .osl (k + 6) 1 0 sp[k].length sp[k].length := oA_pos (fun e => hz (List.length_eq_zero_iff.1 e))
      have hT6 : oT 1 (sp[k].map (irow .i64)) = some (1, sp[k].map (irow .i64)) := oT_pos (by simpa using hz)
      have hgH2 : (ownH 1 (irow .i64) sp)[k]'(by rw [ownH_len]; exact hk) = some (1, sp[k].map (irow .i64)) := by
        rw [List.getElem?_eq_getElem (by rw [ownH_len]; exact hk), hT6] at hgH
        simpa using hgH
      have hz0 : ¬ sp[k].length = 0 := fun e => hz (List.length_eq_zero_iff.1 e)
      simp [Try.ntmps72, Try.results72, cSl, cp0, cn0, cn1, cI, cD, cR, cF, cA, cpVal, cpHeap, hA4, hT4, hA5, hO5, hg2, hA6, hgH2, ownR_len, ownH_len, hk, cloneI, hne0, n1, n2, n3, hl8, hz, hz0]
      simp only [roomE]
      refine showsT2 (room_fin ?_ (by simp) ?_ (by simp [ownR_len]) (fork_rows (x := .osl (sp.length + 1 + 1 + 1 + 1 + 1 + 1) 1 0 sp[k].length sp[k].length) ?_ (shows_osl (d := 0) rfl ?_ (fun e => irow_view _ 0 e) irw_hot))) (showsV _)
      · exact shows_osl (d := 1) rfl (by simp [obj]) (fun e => irow_view _ 1 e) irw_hot
      · simp [obj, ownH_len, List.getElem?_append_right]
      ·
        intro i hi hnz
        have h1 := ownH_get (sz := 1) (g := irow .i64) hi
        have h2 : ∀ LL : Heap, (ownH 1 (irow .i64) sp ++ LL)[i]? = some (oT 1 (sp[i].map (irow .i64))) := fun LL => by
          rw [List.getElem?_append_left (by rw [ownH_len]; exact hi)]; exact h1
        simp [obj, h1, h2, oT, hnz]
      · simp [obj, ownH_len, List.getElem?_append_right]
end
section
attribute [local simp] rSp_sz spR_cold spR_dec spR_mapM spR_mapMc spR_view spR_viewc spR_hotR spR_ren spR_renc spR_low spR_get spR_len Room.eta Room.dec_row Room.dec_hrow
attribute [local simp] cp_bare cp_bareH cp_tau cp_tauO
theorem set_rows {H : Heap} {sp : List (List Int)} {l : List Int} {x : AVal} {k : Nat} (hin : ∀ (i : Nat) (hi : i < sp.length), i ≠ k → sp[i] ≠ [] → obj H (i + 6) = some (1, sp[i].map (irow .i64))) (hx : ShowsA H 1 (.fsl true 1 (l.map (irow .i64))) x) :
    ∀ (i : Nat) (hi : i < (sp.set k l).length), ∃ y, ((ownR 1 6 sp).set k [x])[i]? = some [y] ∧ ShowsA H 1 (.fsl true 1 ((sp.set k l)[i].map (irow .i64))) y := by
  intro i hi
  have hi' : i < sp.length := by simpa using hi
  by_cases h : i = k
  · subst h
    refine ⟨x, by rw [List.getElem?_set_self (by rw [ownR_len]; exact hi')], ?_⟩
    simpa using hx
  · refine ⟨_, by rw [List.getElem?_set_ne (fun e => h e.symm)]; exact ownR_get hi', ?_⟩
    rw [List.getElem_set_ne (fun e => h e.symm)]
    exact shows_oA (d := 0) (hin i hi' h) (fun e => irow_view H 0 e) irw_hot
def cowMore (r : Room) (s b : Int) : Except Int Room :=
  if cowSp r s = 0 then (if (r.spaces[s.toNat]?.getD []).length = 8 then .error 6 else .ok ⟨r.cells ++ [b], r.spaces.set s.toNat (r.spaces[s.toNat]?.getD [] ++ [(r.cells.length : Int)])⟩) else .error (cowSp r s)
theorem cowMore_pure : PureOk Try.prog 77 (argM (cAgg rRoom) fun q => argM (cInt .i64) fun s => argM (cInt .u8) fun b => finM (some (roomE (cowMore q s b)))) := by
  refine pureS3 Try.func77 rfl ?_
  rintro q s b r' hr
  simp only [Option.some.injEq] at hr
  subst hr
  refine bodyS_of (((noOrc_ok.withP cowSp_pure).withIF cpy_inl frame0_loc).withD (fun i => if i = 7 then [(1,11),(4,11),(7,11),(1,12)] else [])) fxMix (by kernel_rfl) (by simp [Try.ntmps77]) ?_
  intro C cP cI cN cD cF cA cR cL
  have cp0 := orcP cowSp_pure (C := C) (by rw [cP]; rfl)
  have cn0 := orcI cpy_inl (C := C) (by rw [cN]; rfl)
  replace cI := fun g => congrFun cI g
  simp only [Orc.withP, Orc.withI, Orc.withF, Orc.withD, Orc.withA, Orc.withR, Orc.withC, noOrc] at cI
  replace cR : C.rd = fun _ => none := cR
  replace cD : C.dyn = fun i => if i = 7 then [(1,11),(4,11),(7,11),(1,12)] else [] := cD
  replace cF := fun g => congrFun cF g
  simp only [Orc.withP, Orc.withI, Orc.withF, Orc.withD, Orc.withA, Orc.withR, Orc.withC, noOrc] at cF
  replace cA : C.alt = fun _ => [] := cA
  clear cP cN
  obtain ⟨cs, sp⟩ := q
  unfold cowMore
  simp only
  by_cases h0 : cowSp ⟨cs, sp⟩ s = 0
  case neg =>
    simp [Try.ntmps77, Try.results77, cSl, cp0, cn0, cI, cD, cR, cF, cA, rI, rRoom, roomDec, Room.row, h0, roomE]
    exact showsV _
  obtain ⟨hck, k, rfl, hk⟩ := sp_ok h0
  obtain ⟨⟨g1, g2⟩, g3, g4⟩ := cow_ok hck
  simp only at hk g1 g2 g3 g4
  rw [if_pos h0]
  have hgk : (sp[((k : Nat) : Int).toNat]?.getD []) = sp[k] := by simp [hk]
  rw [hgk, Int.toNat_natCast]
  have hg0 : (sp.map (spR false))[k]? = some (spR false sp[k]) := by simp [hk]
  by_cases h8 : sp[k].length = 8
  · have h8' : (sp[k].length : Int) = 8 := by omega
    rw [if_pos h8]
    simp [Try.ntmps77, Try.results77, cSl, cp0, cn0, cI, cD, cR, cF, cA, rI, rRoom, roomDec, Room.row, h0, hk, h8, h8', roomE]
    exact showsV _
  have h8' : ¬ (sp[k].length : Int) = 8 := by omega
  have hcond : (∀ l, l ∈ sp → l.length ≤ 8) = True := eq_true fun l hl => (g3 l hl).1
  rw [if_neg h8]
  simp [Try.ntmps77, Try.results77, cSl, cp0, cn0, cI, cD, cR, cF, cA, rI, rRoom, roomDec, Room.row, h0, hk, h8, h8', g1, g2, hcond]
  have hne0 : ¬ sp.length = 0 := by omega
  have hne : ¬ sp = [] := fun e => hne0 (by rw [e]; rfl)
  have hA5 : oA 5 1 sp.length = .osl 5 1 0 sp.length sp.length := oA_pos hne0
  have hO5 : oT 1 (ownR 1 6 sp) = some (1, ownR 1 6 sp) := oT_pos (ownR_ne hne)
  have hg2 : (ownR 1 6 sp)[k]'(by rw [ownR_len]; exact hk) = [oA (k + 6) 1 sp[k].length] := by
    have := ownR_get (sz := 1) (c := 6) hk
    rw [List.getElem?_eq_getElem (by rw [ownR_len]; exact hk)] at this
    simpa using this
  have hgH := ownH_get (sz := 1) (g := irow .i64) hk
  have n3 : ¬ sp.length + 1 < sp.length := by omega
  have hl8 : sp[k].length ≤ 4294967295 := by have := (g3 _ (List.getElem_mem hk)).1; omega
  have hc1 : ¬ cs.length + 1 ≤ cs.length := by omega
  have hc2 : cs.length + 1 ≤ 4294967296 := by omega
  by_cases hcs : cs = []
  · have hA4 : oA 4 1 cs.length = .esl := by simp [oA, hcs]
    have hT4 : oT 1 (cs.map (irow .u8)) = none := by simp [oT, hcs]
    by_cases hz : sp[k] = []
    · have hA6 : oA (k + 6) 1 sp[k].length = .esl := by simp [oA, hz]
      simp [Try.ntmps77, Try.results77, cSl, cp0, cn0, cI, cD, cR, cF, cA, cpVal, cpHeap, hA4, hT4, hA5, hO5, hg2, hA6, ownR_len, ownH_len, hk, hne0, hc1, hc2, hl8, n3]
      simp only [roomE, hz, List.nil_append]
      refine showsT2 (room_fin (shows_osl (d := 1) (by simp [hcs]) ?_ (fun e => irow_view _ 1 e) irw_hot) (by simp) ?_ (by simp [ownR_len]) (set_rows (l := [(cs.length : Int)]) (x := .osl (sp.length + 1 + 1 + 1 + 1 + 1 + 1 + 1) 1 0 1 1) ?_ (shows_osl (d := 0) (by simp) ?_ (fun e => irow_view _ 0 e) irw_hot))) (showsV _)
      · simp [obj, ownH_len, List.getElem?_append_right, irow, hcs]
      · simp [obj, ownH_len, List.getElem?_append_right]
      ·
        intro i hi hik hnz
        have h1 := ownH_get (sz := 1) (g := irow .i64) hi
        have h3 : ∀ o, ((ownH 1 (irow .i64) sp).set k o)[i]? = some (oT 1 (sp[i].map (irow .i64))) := fun o => by
          rw [List.getElem?_set_ne (fun e => hik e.symm)]; exact h1
        have h2 : ∀ LL : Heap, (ownH 1 (irow .i64) sp ++ LL)[i]? = some (oT 1 (sp[i].map (irow .i64))) := fun LL => by
          rw [List.getElem?_append_left (by rw [ownH_len]; exact hi)]; exact h1
        have h4 : ∀ (o : Option (Nat × List Row)) (LL : Heap), ((ownH 1 (irow .i64) sp).set k o ++ LL)[i]? = some (oT 1 (sp[i].map (irow .i64))) := fun o LL => by
          rw [List.getElem?_append_left (by rw [List.length_set, ownH_len]; exact hi)]; exact h3 o
        simp [obj, h1, h2, h3, h4, oT, hnz]
      · simp [obj, ownH_len, List.getElem?_append_right, irow, hcs]
    ·
      have hA6 : oA (k + 6) 1 sp[k].length = .osl (k + 6) 1 0 sp[k].length sp[k].length := oA_pos (fun e => hz (List.length_eq_zero_iff.1 e))
      have hT6 : oT 1 (sp[k].map (irow .i64)) = some (1, sp[k].map (irow .i64)) := oT_pos (by simpa using hz)
      have hgH2 : (ownH 1 (irow .i64) sp)[k]'(by rw [ownH_len]; exact hk) = some (1, sp[k].map (irow .i64)) := by
        rw [List.getElem?_eq_getElem (by rw [ownH_len]; exact hk), hT6] at hgH
        simpa using hgH
      have hz0 : ¬ sp[k].length = 0 := fun e => hz (List.length_eq_zero_iff.1 e)
      have n1 : ¬ sp[k].length + 1 ≤ sp[k].length := by omega
      have hgL : ∀ LL : Heap, (ownH 1 (irow .i64) sp ++ LL)[k]? = some (some (1, sp[k].map (irow .i64))) := fun LL => by
        rw [List.getElem?_append_left (by rw [ownH_len]; exact hk), hgH, hT6]
      have hsL : ∀ (o : Option (Nat × List Row)) (LL : Heap), (ownH 1 (irow .i64) sp ++ LL).set k o = (ownH 1 (irow .i64) sp).set k o ++ LL := fun o LL => by
        rw [List.set_append_left _ _ (by rw [ownH_len]; exact hk)]
      have n2 : sp[k].length + 1 ≤ 4294967296 := by omega
      simp [Try.ntmps77, Try.results77, cSl, cp0, cn0, cI, cD, cR, cF, cA, cpVal, cpHeap, hA4, hT4, hA5, hO5, hg2, hA6, hgH2, hgL, hsL, ownR_len, ownH_len, hk, hne0, n1, n2, hl8, hz, hz0, hc1, hc2, n3]
      simp only [roomE]
      refine showsT2 (room_fin (shows_osl (d := 1) (by simp [hcs]) ?_ (fun e => irow_view _ 1 e) irw_hot) (by simp) ?_ (by simp [ownR_len]) (set_rows (l := sp[k] ++ [(cs.length : Int)]) (x := .osl (sp.length + 1 + 1 + 1 + 1 + 1 + 1 + 1) 1 0 (sp[k].length + 1) (sp[k].length + 1)) ?_ (shows_osl (d := 0) (by simp) ?_ (fun e => irow_view _ 0 e) irw_hot))) (showsV _)
      · simp [obj, ownH_len, List.getElem?_append_right, irow, hcs]
      · simp [obj, ownH_len, List.getElem?_append_right]
      ·
        intro i hi hik hnz
        have h1 := ownH_get (sz := 1) (g := irow .i64) hi
        have h3 : ∀ o, ((ownH 1 (irow .i64) sp).set k o)[i]? = some (oT 1 (sp[i].map (irow .i64))) := fun o => by
          rw [List.getElem?_set_ne (fun e => hik e.symm)]; exact h1
        have h2 : ∀ LL : Heap, (ownH 1 (irow .i64) sp ++ LL)[i]? = some (oT 1 (sp[i].map (irow .i64))) := fun LL => by
          rw [List.getElem?_append_left (by rw [ownH_len]; exact hi)]; exact h1
        have h4 : ∀ (o : Option (Nat × List Row)) (LL : Heap), ((ownH 1 (irow .i64) sp).set k o ++ LL)[i]? = some (oT 1 (sp[i].map (irow .i64))) := fun o LL => by
          rw [List.getElem?_append_left (by rw [List.length_set, ownH_len]; exact hi)]; exact h3 o
        simp [obj, h1, h2, h3, h4, oT, hnz]
      · simp [obj, ownH_len, List.getElem?_append_right, irow, hcs]
  · have hA4 : oA 4 1 cs.length = .osl 4 1 0 cs.length cs.length := oA_pos (fun e => hcs (List.length_eq_zero_iff.1 e))
    have hT4 : oT 1 (cs.map (irow .u8)) = some (1, cs.map (irow .u8)) := oT_pos (by simpa using hcs)
    by_cases hz : sp[k] = []
    · have hA6 : oA (k + 6) 1 sp[k].length = .esl := by simp [oA, hz]
      simp [Try.ntmps77, Try.results77, cSl, cp0, cn0, cI, cD, cR, cF, cA, cpVal, cpHeap, hA4, hT4, hA5, hO5, hg2, hA6, ownR_len, ownH_len, hk, hne0, hc1, hc2, hl8, n3]
      simp only [roomE, hz, List.nil_append]
      refine showsT2 (room_fin (shows_osl (d := 1) (by simp [hcs]) ?_ (fun e => irow_view _ 1 e) irw_hot) (by simp) ?_ (by simp [ownR_len]) (set_rows (l := [(cs.length : Int)]) (x := .osl (sp.length + 1 + 1 + 1 + 1 + 1 + 1 + 1) 1 0 1 1) ?_ (shows_osl (d := 0) (by simp) ?_ (fun e => irow_view _ 0 e) irw_hot))) (showsV _)
      · simp [obj, ownH_len, List.getElem?_append_right, irow, hcs]
      · simp [obj, ownH_len, List.getElem?_append_right]
      ·
        intro i hi hik hnz
        have h1 := ownH_get (sz := 1) (g := irow .i64) hi
        have h3 : ∀ o, ((ownH 1 (irow .i64) sp).set k o)[i]? = some (oT 1 (sp[i].map (irow .i64))) := fun o => by
          rw [List.getElem?_set_ne (fun e => hik e.symm)]; exact h1
        have h2 : ∀ LL : Heap, (ownH 1 (irow .i64) sp ++ LL)[i]? = some (oT 1 (sp[i].map (irow .i64))) := fun LL => by
          rw [List.getElem?_append_left (by rw [ownH_len]; exact hi)]; exact h1
        have h4 : ∀ (o : Option (Nat × List Row)) (LL : Heap), ((ownH 1 (irow .i64) sp).set k o ++ LL)[i]? = some (oT 1 (sp[i].map (irow .i64))) := fun o LL => by
          rw [List.getElem?_append_left (by rw [List.length_set, ownH_len]; exact hi)]; exact h3 o
        simp [obj, h1, h2, h3, h4, oT, hnz]
      · simp [obj, ownH_len, List.getElem?_append_right, irow, hcs]
    ·
      have hA6 : oA (k + 6) 1 sp[k].length = .osl (k + 6) 1 0 sp[k].length sp[k].length := oA_pos (fun e => hz (List.length_eq_zero_iff.1 e))
      have hT6 : oT 1 (sp[k].map (irow .i64)) = some (1, sp[k].map (irow .i64)) := oT_pos (by simpa using hz)
      have hgH2 : (ownH 1 (irow .i64) sp)[k]'(by rw [ownH_len]; exact hk) = some (1, sp[k].map (irow .i64)) := by
        rw [List.getElem?_eq_getElem (by rw [ownH_len]; exact hk), hT6] at hgH
        simpa using hgH
      have hz0 : ¬ sp[k].length = 0 := fun e => hz (List.length_eq_zero_iff.1 e)
      have n1 : ¬ sp[k].length + 1 ≤ sp[k].length := by omega
      have hgL : ∀ LL : Heap, (ownH 1 (irow .i64) sp ++ LL)[k]? = some (some (1, sp[k].map (irow .i64))) := fun LL => by
        rw [List.getElem?_append_left (by rw [ownH_len]; exact hk), hgH, hT6]
      have hsL : ∀ (o : Option (Nat × List Row)) (LL : Heap), (ownH 1 (irow .i64) sp ++ LL).set k o = (ownH 1 (irow .i64) sp).set k o ++ LL := fun o LL => by
        rw [List.set_append_left _ _ (by rw [ownH_len]; exact hk)]
      have n2 : sp[k].length + 1 ≤ 4294967296 := by omega
      simp [Try.ntmps77, Try.results77, cSl, cp0, cn0, cI, cD, cR, cF, cA, cpVal, cpHeap, hA4, hT4, hA5, hO5, hg2, hA6, hgH2, hgL, hsL, ownR_len, ownH_len, hk, hne0, n1, n2, hl8, hz, hz0, hc1, hc2, n3]
      simp only [roomE]
      refine showsT2 (room_fin (shows_osl (d := 1) (by simp [hcs]) ?_ (fun e => irow_view _ 1 e) irw_hot) (by simp) ?_ (by simp [ownR_len]) (set_rows (l := sp[k] ++ [(cs.length : Int)]) (x := .osl (sp.length + 1 + 1 + 1 + 1 + 1 + 1 + 1) 1 0 (sp[k].length + 1) (sp[k].length + 1)) ?_ (shows_osl (d := 0) (by simp) ?_ (fun e => irow_view _ 0 e) irw_hot))) (showsV _)
      · simp [obj, ownH_len, List.getElem?_append_right, irow, hcs]
      · simp [obj, ownH_len, List.getElem?_append_right]
      ·
        intro i hi hik hnz
        have h1 := ownH_get (sz := 1) (g := irow .i64) hi
        have h3 : ∀ o, ((ownH 1 (irow .i64) sp).set k o)[i]? = some (oT 1 (sp[i].map (irow .i64))) := fun o => by
          rw [List.getElem?_set_ne (fun e => hik e.symm)]; exact h1
        have h2 : ∀ LL : Heap, (ownH 1 (irow .i64) sp ++ LL)[i]? = some (oT 1 (sp[i].map (irow .i64))) := fun LL => by
          rw [List.getElem?_append_left (by rw [ownH_len]; exact hi)]; exact h1
        have h4 : ∀ (o : Option (Nat × List Row)) (LL : Heap), ((ownH 1 (irow .i64) sp).set k o ++ LL)[i]? = some (oT 1 (sp[i].map (irow .i64))) := fun o LL => by
          rw [List.getElem?_append_left (by rw [List.length_set, ownH_len]; exact hi)]; exact h3 o
        simp [obj, h1, h2, h3, h4, oT, hnz]
      · simp [obj, ownH_len, List.getElem?_append_right, irow, hcs]
end
section
attribute [local simp] rSp_sz spR_cold spR_dec spR_mapM spR_mapMc spR_view spR_viewc spR_hotR spR_ren spR_renc spR_low spR_get spR_len Room.eta Room.dec_row Room.dec_hrow
attribute [local simp] cp_bare cp_bareH cp_tau cp_tauO
theorem aggDec_some {α : Type} {c : RCod α} {row : Row} {e : α} (h : c.dec (row.map cold) = some e) : (cAgg c).dec (cold (.agg row)) = some e := by
  simp only [cold, coldC_map, cAgg, aggDec]
  exact h
/-- what a call is told of an own room -/
theorem seen_room {H : Heap} {cs : List Int} {sp : List (List Int)} {a M : Nat} {rows : List Row} (h4 : cs ≠ [] → obj H a = some (1, cs.map (irow .u8))) (ho : obj H M = some (1, rows)) (hl : rows.length = sp.length)
    (hr : ∀ (i : Nat) (hi : i < sp.length), ∃ x, rows[i]? = some [x] ∧ slDec (rI .i64) (cold (view H 2 x)) = some sp[i]) :
    (cAgg rRoom).dec (cold (view H 4 (.agg [oA a 1 cs.length, .osl M 1 0 sp.length sp.length]))) = some ⟨cs, sp⟩ := by
  have h1 := dec_oA (H := H) (d := 2) (id := a) (cr := rI .u8) (l := cs) h4 (fun e => irow_view H 2 e) irow_cold
  have h2 := dec_rows (H := H) (d := 1) (cr := rI .i64) (kc := sp.length) rfl ho hl hr
  have e : view H 4 (.agg [oA a 1 cs.length, .osl M 1 0 sp.length sp.length]) = .agg [view H 3 (oA a 1 cs.length), view H 3 (.osl M 1 0 sp.length sp.length)] := by simp [view]
  rw [e]
  refine aggDec_some ?_
  simp only [rRoom, roomDec, List.map_cons, List.map_nil]
  erw [h1, h2]
theorem own_dec {H : Heap} {sp : List (List Int)} {c : Nat} (hin : ∀ (i : Nat) (hi : i < sp.length), sp[i] ≠ [] → obj H (i + c) = some (1, sp[i].map (irow .i64))) (i : Nat) (hi : i < sp.length) : ∃ x, (ownR 1 c sp)[i]? = some [x] ∧ slDec (rI .i64) (cold (view H 2 x)) = some sp[i] :=
  ⟨_, ownR_get hi, dec_oA (cr := rI .i64) (d := 1) (hin i hi) (fun e => irow_view H 1 e) irow_cold⟩
theorem upd_rows {H : Heap} {sp : List (List Int)} {l : List Int} {k : Nat} (hk : k < sp.length) (hin : ∀ (i : Nat) (hi : i < sp.length), i ≠ k → sp[i] ≠ [] → obj H (i + 6) = some (1, sp[i].map (irow .i64))) (hx : obj H (k + 6) = some (1, l.map (irow .i64))) (hl : l.length = sp[k].length) :
    ∀ (i : Nat) (hi : i < (sp.set k l).length), ∃ y, (ownR 1 6 sp)[i]? = some [y] ∧ ShowsA H 1 (.fsl true 1 ((sp.set k l)[i].map (irow .i64))) y := by
  intro i hi
  have hi' : i < sp.length := by simpa using hi
  refine ⟨_, ownR_get hi', ?_⟩
  by_cases h : i = k
  · subst h
    have e : (sp.set i l)[i] = l := by simp
    rw [e, ← hl]
    exact shows_oA (d := 0) (fun _ => hx) (fun e => irow_view H 0 e) irw_hot
  · rw [List.getElem_set_ne (fun e => h e.symm)]
    exact shows_oA (d := 0) (hin i hi' h) (fun e => irow_view H 0 e) irw_hot
def writeE : Except Int (Room × Bool) → AVal
  | .ok r => .tup [.agg r.1.hrow, .v (.bool r.2), .v (.int .i64 0)]
  | .error e => .v (.tuple #[.agg #[.slice none 0 0, .slice none 0 0], .bool false, .int .i64 e])
def cowWrite (r : Room) (s k b : Int) : Except Int (Room × Bool) :=
  if cowSp r s = 0 then (if k < 0 ∨ ((r.spaces[s.toNat]?.getD []).length : Int) ≤ k then .error 11 else
    if manyI r.spaces ((r.spaces[s.toNat]?.getD [])[k.toNat]?.getD 0) = 1 then .ok (⟨r.cells.set ((r.spaces[s.toNat]?.getD [])[k.toNat]?.getD 0).toNat b, r.spaces⟩, false)
    else .ok (⟨r.cells ++ [b], r.spaces.set s.toNat ((r.spaces[s.toNat]?.getD []).set k.toNat (r.cells.length : Int))⟩, true))
  else .error (cowSp r s)
theorem cowWrite_pure : PureOk Try.prog 73 (argM (cAgg rRoom) fun q => argM (cInt .i64) fun s => argM (cInt .i64) fun p => argM (cInt .u8) fun b => finM (some (writeE (cowWrite q s p b)))) := by
  refine pureS4 Try.func73 rfl ?_
  rintro q s p b r' hr
  simp only [Option.some.injEq] at hr
  subst hr
  refine bodyS_of (((noOrc_ok.withP cowSp_pure).withP many_pure).withIF cpy_inl frame0_loc) fxMix (by kernel_rfl) (by simp [Try.ntmps73]) ?_
  intro C cP cI cN cD cF cA cR cL
  have cp0 := orcP cowSp_pure (C := C) (by rw [cP]; rfl)
  have ch0 := orcP many_pure (C := C) (by rw [cP]; rfl)
  have cn0 := orcI cpy_inl (C := C) (by rw [cN]; rfl)
  replace cI := fun g => congrFun cI g
  simp only [Orc.withP, Orc.withI, Orc.withF, Orc.withD, Orc.withA, Orc.withR, Orc.withC, noOrc] at cI
  replace cR : C.rd = fun _ => none := cR
  replace cD : C.dyn = fun _ => [] := cD
  clear cP cN cF cA
  obtain ⟨cs, sp⟩ := q
  unfold cowWrite
  simp only
  by_cases h0 : cowSp ⟨cs, sp⟩ s = 0
  case neg =>
    simp [Try.ntmps73, Try.results73, cSl, cp0, cn0, cI, cD, cR, rI, rRoom, roomDec, Room.row, h0, writeE]
    exact showsV _
  obtain ⟨hck, k, rfl, hk⟩ := sp_ok h0
  obtain ⟨⟨g1, g2⟩, g3, g4⟩ := cow_ok hck
  simp only at hk g1 g2 g3 g4
  rw [if_pos h0]
  have hgk : (sp[((k : Nat) : Int).toNat]?.getD []) = sp[k] := by simp [hk]
  rw [hgk, Int.toNat_natCast]
  have hg0 : (sp.map (spR false))[k]? = some (spR false sp[k]) := by simp [hk]
  by_cases h8 : p < 0
  · rw [if_pos (.inl h8)]
    simp [Try.ntmps73, Try.results73, cSl, cp0, cn0, cI, cD, cR, rI, rRoom, roomDec, Room.row, h0, hk, h8, writeE]
    exact showsV _
  by_cases h9 : (sp[k].length : Int) ≤ p
  · rw [if_pos (.inr h9)]
    simp [Try.ntmps73, Try.results73, cSl, cp0, cn0, cI, cD, cR, rI, rRoom, roomDec, Room.row, h0, hk, h8, h9, writeE]
    exact showsV _
  rw [if_neg (by omega)]
  have hcond : (∀ l, l ∈ sp → l.length ≤ 8) = True := eq_true fun l hl => (g3 l hl).1
  simp [Try.ntmps73, Try.results73, cSl, cp0, cn0, cI, cD, cR, rI, rRoom, roomDec, Room.row, h0, hk, h8, h9, g1, g2, hcond]
  obtain ⟨j, rfl⟩ := Int.eq_ofNat_of_zero_le (show 0 ≤ p by omega)
  have hj : j < sp[k].length := by omega
  have hz : ¬ sp[k] = [] := fun e => by rw [e] at hj; simp at hj
  have hx := (g3 _ (List.getElem_mem hk)).2 _ (List.getElem_mem hj)
  have hcs : ¬ cs = [] := fun e => by rw [e] at hx; simp at hx; omega
  have hA4 : oA 4 1 cs.length = .osl 4 1 0 cs.length cs.length := oA_pos (fun e => hcs (List.length_eq_zero_iff.1 e))
  have hT4 : oT 1 (cs.map (irow .u8)) = some (1, cs.map (irow .u8)) := oT_pos (by simpa using hcs)
  have hne0 : ¬ sp.length = 0 := by omega
  have hne : ¬ sp = [] := fun e => hne0 (by rw [e]; rfl)
  have hA5 : oA 5 1 sp.length = .osl 5 1 0 sp.length sp.length := oA_pos hne0
  have hO5 : oT 1 (ownR 1 6 sp) = some (1, ownR 1 6 sp) := oT_pos (ownR_ne hne)
  have hg2 : (ownR 1 6 sp)[k]'(by rw [ownR_len]; exact hk) = [oA (k + 6) 1 sp[k].length] := by
    have := ownR_get (sz := 1) (c := 6) hk
    rw [List.getElem?_eq_getElem (by rw [ownR_len]; exact hk)] at this
    simpa using this
  have hgH := ownH_get (sz := 1) (g := irow .i64) hk
  have n3 : ¬ sp.length + 1 < sp.length := by omega
  have hl8 : sp[k].length ≤ 4294967295 := by have := (g3 _ (List.getElem_mem hk)).1; omega
  have hA6 : oA (k + 6) 1 sp[k].length = .osl (k + 6) 1 0 sp[k].length sp[k].length := oA_pos (fun e => hz (List.length_eq_zero_iff.1 e))
  have hT6 : oT 1 (sp[k].map (irow .i64)) = some (1, sp[k].map (irow .i64)) := oT_pos (by simpa using hz)
  have hgH2 : (ownH 1 (irow .i64) sp)[k]'(by rw [ownH_len]; exact hk) = some (1, sp[k].map (irow .i64)) := by
    rw [List.getElem?_eq_getElem (by rw [ownH_len]; exact hk), hT6] at hgH
    simpa using hgH
  have hz0 : ¬ sp[k].length = 0 := fun e => hz (List.length_eq_zero_iff.1 e)
  simp [Try.ntmps73, Try.results73, cSl, cp0, cn0, cI, cD, cR, -view, -cold, cpVal, cpHeap, hA4, hT4, hA5, hO5, hg2, hA6, hgH2, ownR_len, ownH_len, hk, hne0, hl8, hz, hz0, hj, irow]
  have hm : C.pure 145 [cold (view (some (2, [[AVal.osl 4 1 0 cs.length cs.length, AVal.osl 5 1 0 sp.length sp.length]]) :: some (2, [[AVal.v (Value.slice none 0 0), AVal.v (Value.slice none 0 0)]]) :: none :: none :: some (1, List.map (irow IntKind.u8) cs) :: some (1, ownR 1 6 sp) :: ownH 1 (irow IntKind.i64) sp) 4 (AVal.agg [AVal.osl 4 1 0 cs.length cs.length, AVal.osl 5 1 0 sp.length sp.length])), cold (view (some (2, [[AVal.osl 4 1 0 cs.length cs.length, AVal.osl 5 1 0 sp.length sp.length]]) :: some (2, [[AVal.v (Value.slice none 0 0), AVal.v (Value.slice none 0 0)]]) :: none :: none :: some (1, List.map (irow IntKind.u8) cs) :: some (1, ownR 1 6 sp) :: ownH 1 (irow IntKind.i64) sp) 4 (AVal.v (Value.int IntKind.i64 sp[k][j])))] = some (.v (.int .i64 (manyI sp sp[k][j]))) := by
    have h1 := seen_room (H := some (2, [[AVal.osl 4 1 0 cs.length cs.length, AVal.osl 5 1 0 sp.length sp.length]]) :: some (2, [[AVal.v (Value.slice none 0 0), AVal.v (Value.slice none 0 0)]]) :: none :: none :: some (1, List.map (irow IntKind.u8) cs) :: some (1, ownR 1 6 sp) :: ownH 1 (irow IntKind.i64) sp) (a := 4) (M := 5) (rows := ownR 1 6 sp) (cs := cs) (sp := sp) (fun _ => rfl) rfl ownR_len (own_dec (fun i hi hnz => by
      have h1 := ownH_get (sz := 1) (g := irow .i64) hi
      simp [obj, h1, oT, hnz]))
    rw [hA4] at h1
    rw [ch0]
    simp only [argM, h1]
    simp [view, cold, cInt, intDec, finM, g2, hcond]
  simp only [hm]
  have hcx : ((sp[k][j]).toNat : Int) = sp[k][j] := by omega
  have hc3 : (sp[k][j]).toNat < cs.length := by omega
  have hc1 : ¬ cs.length + 1 ≤ cs.length := by omega
  have hc2 : cs.length + 1 ≤ 4294967296 := by omega
  by_cases h1 : manyI sp sp[k][j] = 1
  · simp [Try.ntmps73, Try.results73, cSl, cp0, cn0, cI, cD, cR, cpVal, cpHeap, hA4, hT4, hA5, hO5, hg2, hA6, hgH2, ownR_len, ownH_len, hk, hne0, hl8, hz, hz0, hj, irow, hm, h1, hx.1, hx.2, hc1, hc2, hc3]
    simp only [writeE]
    refine showsT3 (room_fin (shows_osl (d := 1) (l := cs.set (sp[k][j]).toNat b) (by simp) ?_ (fun e => irow_view _ 1 e) irw_hot) rfl rfl ownR_len (fun i hi => own_row ?_ hi)) (showsV _) (showsV _)
    · simp [obj, List.map_set, irow]
    ·
      intro i hi hnz
      have h1 := ownH_get (sz := 1) (g := irow .i64) hi
      have h2 : ∀ LL : Heap, (ownH 1 (irow .i64) sp ++ LL)[i]? = some (oT 1 (sp[i].map (irow .i64))) := fun LL => by
        rw [List.getElem?_append_left (by rw [ownH_len]; exact hi)]; exact h1
      simp [obj, h1, h2, oT, hnz]
  · simp [Try.ntmps73, Try.results73, cSl, cp0, cn0, cI, cD, cR, cpVal, cpHeap, hA4, hT4, hA5, hO5, hg2, hA6, hgH2, ownR_len, ownH_len, hk, hne0, hl8, hz, hz0, hj, irow, hm, h1, hx.1, hx.2, hc1, hc2, hc3, n3]
    simp only [writeE]
    refine showsT3 (room_fin (rows := ownR 1 6 sp) (shows_osl (d := 1) (by simp) ?_ (fun e => irow_view _ 1 e) irw_hot) (by simp) ?_ (by simp [ownR_len]) (upd_rows hk ?_ ?_ (by simp))) (showsV _) (showsV _)
    · simp [obj, ownH_len, List.getElem?_append_right, irow]
    · simp [obj]
    ·
      intro i hi hik hnz
      have h1 := ownH_get (sz := 1) (g := irow .i64) hi
      have h3 : ∀ o, ((ownH 1 (irow .i64) sp).set k o)[i]? = some (oT 1 (sp[i].map (irow .i64))) := fun o => by
        rw [List.getElem?_set_ne (fun e => hik e.symm)]; exact h1
      have h2 : ∀ LL : Heap, (ownH 1 (irow .i64) sp ++ LL)[i]? = some (oT 1 (sp[i].map (irow .i64))) := fun LL => by
        rw [List.getElem?_append_left (by rw [ownH_len]; exact hi)]; exact h1
      have h4 : ∀ (o : Option (Nat × List Row)) (LL : Heap), ((ownH 1 (irow .i64) sp).set k o ++ LL)[i]? = some (oT 1 (sp[i].map (irow .i64))) := fun o LL => by
        rw [List.getElem?_append_left (by rw [List.length_set, ownH_len]; exact hi)]; exact h3 o
      simp [obj, h1, h2, h3, h4, oT, hnz]
    · simp [obj, ownH_len, List.getElem?_append_left, hk, irow, List.map_set]
end
section
attribute [local simp] rSp_sz spR_cold spR_dec spR_mapM spR_mapMc spR_view spR_viewc spR_hotR spR_ren spR_renc spR_low spR_get spR_len Room.eta Room.dec_row Room.dec_hrow
attribute [local simp] cp_bare cp_bareH cp_tau cp_tauO
theorem spDel : InlOk Try.prog 146 (deleteI 1) := by
  refine delete_of (z := [.v (.slice none 0 0)]) Try.func146 rfl (by simp [Try.ntmps146]) ?_
  intro H id i rows h1 h2 h3 h4
  refine wpA_sound noOrc_ok fxMix _ _ _ _ (by kernel_rfl) ?_
  have h1' := obj_get h1
  have g1 := (List.getElem?_eq_some_iff.1 h1').2
  have c1 : (i : Int) + 1 ≤ rows.length := by omega
  have c2 : 0 ≤ (i : Int) + 1 := by omega
  have c3 : (i : Int) ≤ i + 1 := by omega
  have c4 : i ≤ rows.length := by omega
  have c5 : i + 1 ≤ rows.length := by omega
  have c6 : i + 1 + (rows.length - (i + 1)) ≤ rows.length := by omega
  have c7 : i + (rows.length - (i + 1)) ≤ rows.length := by omega
  have c8 : i + (rows.length - (i + 1)) = rows.length - 1 := by omega
  have c9 : rows.length - 1 ≤ rows.length := by omega
  have d1 : ¬ ((i : Int) = i + 1) := by omega
  have d2 : List.take (rows.length - (i + 1)) (List.drop (i + 1) rows) = List.drop (i + 1) rows := List.take_of_length_le (by simp)
  have d3 : rows.length - (rows.length - 1) = 1 := by omega
  have d4 : (rows.length - 1) + 1 = rows.length := by omega
  have d5 : ¬ rows.length = i := by omega
  have d6 : ¬ rows.length = 0 := by omega
  have d7 : rows.length ≤ 4294967296 := by omega
  have d8 : i + (rows.length - (i + 1)) ≤ 4294967296 := by omega
  have f1 : rows.length ≤ 4294967297 := by omega
  have f2 : rows.length ≤ i + (rows.length - (i + 1) + 1) := by omega
  have d9 : ∀ X : List Row, List.take (rows.length - 1) (List.take i rows ++ (List.drop (i + 1) rows ++ X)) = List.take i rows ++ List.drop (i + 1) rows := by
    intro X
    rw [← List.append_assoc, List.take_append_of_le_length (by simp; omega), List.take_of_length_le (by simp; omega)]
  have e1 : List.drop rows.length (List.take i rows ++ (List.drop (i + 1) rows ++ List.drop (rows.length - 1) rows)) = [] := List.drop_eq_nil_of_le (by simp; omega)
  have e2 : rows.length - 1 ≤ i + (rows.length - (i + 1) + 1) := by omega
  have e3 : min i rows.length = i := by omega
  have e4 : ((rows.length - 1 : Nat) : Int) ≤ rows.length := by omega
  simp [Try.ntmps146, Try.results146, noOrc, h1', h2, h3, g1, c1, c2, c3, c4, c5, c6, c7, c8, c9, d1, d2, d3, d4, d5, d6, d7, d8, d9, e1, e2, e3, e4, f1, f2]
/-- the cells that somebody has, below n -/
def kp (L : List (List Int)) (n : Nat) : List Nat := (List.range n).filter fun c => decide (0 < manyI L (c : Int))
def kpTo (L : List (List Int)) (c : Nat) : Int := ((kp L c).length : Int)
def kpCells (L : List (List Int)) (cs : List Int) (n : Nat) : List Int := (kp L n).map fun c => cs[c]?.getD 0
def dropE : Except Int (Room × Int) → AVal
  | .ok r => .tup [.agg r.1.hrow, .v (.int .i64 r.2), .v (.int .i64 0)]
  | .error e => .v (.tuple #[.agg #[.slice none 0 0, .slice none 0 0], .int .i64 0, .int .i64 e])
def dropRoom (r : Room) (s : Nat) : Room :=
  ⟨kpCells (r.spaces.eraseIdx s) r.cells r.cells.length, (r.spaces.eraseIdx s).map (List.map fun x => kpTo (r.spaces.eraseIdx s) x.toNat)⟩
def cowDrop (r : Room) (s : Int) : Except Int (Room × Int) :=
  if cowSp r s = 0 then .ok (dropRoom r s.toNat, (r.cells.length : Int) - (kpCells (r.spaces.eraseIdx s.toNat) r.cells r.cells.length).length) else .error (cowSp r s)
def intR (n : Nat) (f : Nat → Int) : List Row := ((List.range n).map f).map (irow .i64)
theorem intR_len (n : Nat) (f : Nat → Int) : (intR n f).length = n := by simp [intR]
theorem intR_get {n k : Nat} (f : Nat → Int) (hk : k < n) : (intR n f)[k]? = some (irow .i64 (f k)) := by simp [intR, hk]
theorem intR_get' {n : Nat} (f : Nat → Int) (k : Nat) (h : k < (intR n f).length) : (intR n f)[k] = [.v (.int .i64 (f k))] := by
  have h2 : k < n := by rw [intR_len] at h; exact h
  have := intR_get f h2
  rw [List.getElem?_eq_getElem h] at this
  simpa [irow] using this
theorem intR_set {n k : Nat} (f : Nat → Int) (x : Int) (hk : k < n) : (intR n f).set k [.v (.int .i64 x)] = intR n (fun q => if q = k then x else f q) := by
  apply List.ext_getElem?
  intro i
  by_cases hi : i < n
  · by_cases hik : i = k
    · subst hik
      rw [List.getElem?_set_self (by rw [intR_len]; exact hi), intR_get _ hi]; simp [irow]
    · rw [List.getElem?_set_ne (fun e => hik e.symm), intR_get _ hi, intR_get _ hi, if_neg hik]
  · rw [List.getElem?_eq_none (by rw [List.length_set, intR_len]; omega), List.getElem?_eq_none (by rw [intR_len]; omega)]
theorem intR_ext {n : Nat} {f g : Nat → Int} (h : ∀ q, q < n → f q = g q) : intR n f = intR n g := by
  unfold intR
  congr 1
  exact List.map_congr_left fun q hq => h q (by simpa using hq)
theorem intR_rep (n : Nat) : List.replicate n [AVal.v (.int .i64 0)] = intR n (fun _ => 0) := by
  apply List.ext_getElem?
  intro i
  by_cases hi : i < n
  · rw [intR_get _ hi]; simp [hi, irow]
  · rw [List.getElem?_eq_none (by simp; omega), List.getElem?_eq_none (by rw [intR_len]; omega)]
theorem intR_low (n m : Nat) (f : Nat → Int) : ((intR n f).all fun row => row.all (lowA m)) = true := by simp [intR, irow, lowA]
attribute [local simp] intR_len intR_get' intR_low
theorem heapW_ownH {n : Nat} {L : List (List Int)} {Y Z : Heap} : heapW n (ownH 1 (irow .i64) L ++ Y) (ownH 1 (irow .i64) L ++ Z) ↔ heapW n Y Z := by
  have hx := ownH_low (n := n) (sz := 1) (g := irow .i64) (L := L) (irow_low n)
  generalize ownH 1 (irow .i64) L = X at hx
  induction X with
  | nil => rfl
  | cons a X ih =>
    have ih := ih fun o ho => hx o (by simp [ho])
    cases a with
    | none => simp only [List.cons_append, heapW]; exact ih
    | some o => simp only [List.cons_append, heapW]; exact ⟨fun h => ih.1 h.2.2, fun h => ⟨trivial, hx o (by simp), ih.2 h⟩⟩
theorem heapW_rep {n g : Nat} {Y Z : Heap} : heapW n (List.replicate g none ++ Y) (List.replicate g none ++ Z) ↔ heapW n Y Z := by
  induction g with
  | zero => simp
  | succ g ih => simp only [List.replicate_succ, List.cons_append, heapW]; exact ih
theorem heapW_rep2 {n g : Nat} {Y : Heap} {a b : Option (Nat × List Row)} : heapW n (List.replicate (g + 2) none ++ Y) (List.replicate g none ++ a :: b :: Y) ↔ heapW n Y Y := by
  have e : List.replicate (g + 2) (none : Option (Nat × List Row)) = List.replicate g none ++ [none, none] := by
    rw [List.replicate_append_replicate.symm]; rfl
  rw [e, List.append_assoc]
  rw [heapW_rep]
  simp only [List.cons_append, List.nil_append, heapW]
theorem gT {L : List (List Int)} {o : Option (Nat × List Row)} {Y : Heap} : (ownH 1 (irow .i64) L ++ o :: Y)[L.length]? = some o := by
  rw [List.getElem?_append_right (by rw [ownH_len]; exact Nat.le_refl _), ownH_len]; simp
theorem sT {L : List (List Int)} {o o' : Option (Nat × List Row)} {Y : Heap} : (ownH 1 (irow .i64) L ++ o :: Y).set L.length o' = ownH 1 (irow .i64) L ++ o' :: Y := by
  rw [List.set_append_right _ _ (by rw [ownH_len]; exact Nat.le_refl _), ownH_len]; simp
theorem gC {L : List (List Int)} {o z : Option (Nat × List Row)} {g : Nat} {Y : Heap} : (ownH 1 (irow .i64) L ++ o :: (List.replicate g none ++ z :: Y))[L.length + g + 1]? = some z := by
  rw [List.getElem?_append_right (by rw [ownH_len]; omega), ownH_len, show L.length + g + 1 - L.length = g + 1 by omega, List.getElem?_cons_succ, List.getElem?_append_right (by simp)]; simp
theorem sC {L : List (List Int)} {o z z' : Option (Nat × List Row)} {g : Nat} {Y : Heap} : (ownH 1 (irow .i64) L ++ o :: (List.replicate g none ++ z :: Y)).set (L.length + g + 1) z' = ownH 1 (irow .i64) L ++ o :: (List.replicate g none ++ z' :: Y) := by
  rw [List.set_append_right _ _ (by rw [ownH_len]; omega), ownH_len, show L.length + g + 1 - L.length = g + 1 by omega, List.set_cons_succ, List.set_append_right _ _ (by simp)]; simp
attribute [local simp] heapW_ownH heapW_rep heapW_rep2 gT sT gC sC
def cellV (n g : Nat) (l : List Int) : AVal := if l = [] then .v (.slice none 0 0) else .osl (n + g + 7) 1 0 l.length l.length
def cellH (g : Nat) (l : List Int) : Heap := if l = [] then [] else List.replicate g none ++ [some (1, l.map (irow .u8))]
theorem kp_succ (L : List (List Int)) (k : Nat) : kp L (k + 1) = kp L k ++ (if 0 < manyI L (k : Int) then [k] else []) := by
  unfold kp
  rw [List.range_succ, List.filter_append]
  by_cases h : 0 < manyI L (k : Int) <;> simp [h]
theorem kpCells_succ (L : List (List Int)) {cs : List Int} {k : Nat} (hk : k < cs.length) : kpCells L cs (k + 1) = kpCells L cs k ++ (if 0 < manyI L (k : Int) then [cs[k]] else []) := by
  unfold kpCells
  rw [kp_succ, List.map_append]
  by_cases h : 0 < manyI L (k : Int) <;> simp [h, hk]
theorem kpCells_len (L : List (List Int)) (cs : List Int) (k : Nat) : (kpCells L cs k).length = (kp L k).length := by simp [kpCells]
theorem kp_le (L : List (List Int)) (k : Nat) : (kp L k).length ≤ k := by
  have := List.length_filter_le (fun c => decide (0 < manyI L ((c : Nat) : Int))) (List.range k)
  simpa [kp] using this
/-- the spaces on the way: those before q of what is left are told anew -/
def prog (t : Nat → Int) (sp : List (List Int)) (k q : Nat) : List (List Int) :=
  (List.range sp.length).map fun i => if (i < k ∧ i < q) ∨ (k < i ∧ i ≤ q) then (sp[i]?.getD []).map (fun x => t x.toNat) else sp[i]?.getD []
theorem prog_len {t : Nat → Int} {sp : List (List Int)} {k q : Nat} : (prog t sp k q).length = sp.length := by simp [prog]
theorem prog_get {t : Nat → Int} {sp : List (List Int)} {k q i : Nat} (hi : i < sp.length) : (prog t sp k q)[i]? = some (if (i < k ∧ i < q) ∨ (k < i ∧ i ≤ q) then (sp[i]).map (fun x => t x.toNat) else sp[i]) := by
  simp [prog, hi]
theorem prog_zero {t : Nat → Int} {sp : List (List Int)} {k : Nat} : prog t sp k 0 = sp := by
  apply List.ext_getElem?
  intro i
  by_cases hi : i < sp.length
  · rw [prog_get hi, if_neg (by omega)]; simp [hi]
  · rw [List.getElem?_eq_none (by rw [prog_len]; omega), List.getElem?_eq_none (by omega)]
theorem prog_succ {t : Nat → Int} {sp : List (List Int)} {k q m : Nat} (hm : m < sp.length) (hq : m = if q < k then q else q + 1) : prog t sp k (q + 1) = (prog t sp k q).set m (sp[m].map fun x => t x.toNat) := by
  apply List.ext_getElem?
  intro i
  by_cases hi : i < sp.length
  · rw [prog_get hi]
    by_cases e : i = m
    · subst e
      rw [List.getElem?_set_self (by rw [prog_len]; exact hi), if_pos]
      split at hq <;> omega
    · rw [List.getElem?_set_ne (fun h => e h.symm), prog_get hi]
      congr 2
      apply propext
      split at hq <;> omega
  · rw [List.getElem?_eq_none (by rw [prog_len]; omega), List.getElem?_eq_none (by rw [List.length_set, prog_len]; omega)]
theorem prog_set {t : Nat → Int} {sp : List (List Int)} {k q m : Nat} (hm : m < sp.length) (hq : m = if q < k then q else q + 1) : prog t sp k q = (prog t sp k q).set m sp[m] := by
  apply List.ext_getElem?
  intro i
  by_cases e : i = m
  · subst e
    rw [List.getElem?_set_self (by rw [prog_len]; exact hm), prog_get hm, if_neg]
    split at hq <;> omega
  · rw [List.getElem?_set_ne (fun h => e h.symm)]
theorem prog_lenE {t : Nat → Int} {sp : List (List Int)} {k q i : Nat} (hi : i < sp.length) : ∃ l, (prog t sp k q)[i]? = some l ∧ l.length = sp[i].length := by
  rw [prog_get hi]
  split <;> simp
theorem ownH_set {P : List (List Int)} {m : Nat} {l : List Int} : ownH 1 (irow .i64) (P.set m l) = (ownH 1 (irow .i64) P).set m (oT 1 (l.map (irow .i64))) := by
  simp [ownH, List.map_set]
/-- a list on the way -/
def mid (t : Nat → Int) (l : List Int) (j : Nat) : List Int := (l.take j).map (fun x => t x.toNat) ++ l.drop j
theorem mid_len {t : Nat → Int} {l : List Int} {j : Nat} : (mid t l j).length = l.length := by simp [mid]; omega
theorem mid_zero {t : Nat → Int} {l : List Int} : mid t l 0 = l := by simp [mid]
theorem mid_all {t : Nat → Int} {l : List Int} : mid t l l.length = l.map fun x => t x.toNat := by simp [mid]
theorem mid_get {t : Nat → Int} {l : List Int} {j : Nat} (hj : j < l.length) : (mid t l j)[j]? = some l[j] := by
  unfold mid
  rw [List.getElem?_append_right (by simp; omega)]
  simp [hj, Nat.min_eq_left (Nat.le_of_lt hj)]
theorem mid_set {t : Nat → Int} {l : List Int} {j : Nat} (hj : j < l.length) : (mid t l j).set j (t (l[j]).toNat) = mid t l (j + 1) := by
  unfold mid
  rw [List.set_append_right _ _ (by simp; omega)]
  simp only [List.length_map, List.length_take, Nat.min_eq_left (Nat.le_of_lt hj), Nat.sub_self]
  rw [List.drop_eq_getElem_cons hj, List.take_succ_eq_append_getElem hj]
  simp only [List.set_cons_zero, List.map_append, List.map_cons, List.map_nil, List.append_assoc, List.singleton_append]
theorem drop_rows {H : Heap} {sp : List (List Int)} {k : Nat} {f : Int → Int} (hk : k < sp.length) (hin : ∀ (i : Nat) (hi : i < sp.length), i ≠ k → sp[i] ≠ [] → obj H (i + 6) = some (1, (sp[i].map f).map (irow .i64))) :
    ∀ (i : Nat) (hi : i < ((sp.eraseIdx k).map (List.map f)).length), ∃ y, ((ownR 1 6 sp).eraseIdx k)[i]? = some [y] ∧ ShowsA H 1 (.fsl true 1 ((((sp.eraseIdx k).map (List.map f))[i]).map (irow .i64))) y := by
  intro i hi
  rw [List.length_map, List.length_eraseIdx, if_pos hk] at hi
  have key : ∀ m (hm : m < sp.length), m ≠ k → ShowsA H 1 (.fsl true 1 ((sp[m].map f).map (irow .i64))) (oA (m + 6) 1 sp[m].length) := fun m hm hmk => by
    have := shows_oA (H := H) (sz := 1) (id := m + 6) (l := sp[m].map f) (g := irow .i64) (d := 0) (fun hne => hin m hm hmk (fun e => hne (by rw [e]; rfl))) (fun e => irow_view H 0 e) irw_hot
    rwa [List.length_map] at this
  by_cases h : i < k
  · refine ⟨_, by rw [List.getElem?_eraseIdx, if_pos h]; exact ownR_get (by omega), ?_⟩
    have := key i (by omega) (by omega)
    simpa [List.getElem_eraseIdx, h] using this
  · refine ⟨_, by rw [List.getElem?_eraseIdx, if_neg h]; exact ownR_get (by omega), ?_⟩
    have := key (i + 1) (by omega) (by omega)
    simpa [List.getElem_eraseIdx, h] using this
theorem shows_nil {H : Heap} {d sz : Nat} : ShowsA H (d + 1) (.fsl true sz []) (.v (.slice none 0 0)) := ⟨by simp only [view]; exact .nil, by simp [view, hot]⟩
theorem er_get {sp : List (List Int)} {k q m : Nat} (hk : k < sp.length) (hq : q < sp.length - 1) (hm : m = if q < k then q else q + 1) (hml : m < sp.length) : ((ownR 1 6 sp).eraseIdx k)[q]? = some [oA (m + 6) 1 sp[m].length] := by
  rw [List.getElem?_eraseIdx]
  subst hm
  by_cases h : q < k
  · simp only [if_pos h]; exact ownR_get (by omega)
  · simp only [if_neg h]; exact ownR_get (by omega)
theorem cowDrop_pure : PureOk Try.prog 74 (argM (cAgg rRoom) fun q => argM (cInt .i64) fun s => finM (some (dropE (cowDrop q s)))) := by
  refine pureS2 Try.func74 rfl ?_
  rintro q s r' hr
  simp only [Option.some.injEq] at hr
  subst hr
  refine bodyS_of ((((noOrc_ok.withP cowSp_pure).withP many_pure).withIF cpy_inl frame0_loc).withIF spDel delete_loc) fxMix (by kernel_rfl) (by simp [Try.ntmps74]) ?_
  intro C cP cI cN cD cF cA cR cL
  have cp0 := orcP cowSp_pure (C := C) (by rw [cP]; rfl)
  have ch0 := orcP many_pure (C := C) (by rw [cP]; rfl)
  have cn0 := orcI cpy_inl (C := C) (by rw [cN]; rfl)
  have cn1 := orcI spDel (C := C) (by rw [cN]; rfl)
  replace cI := fun g => congrFun cI g
  simp only [Orc.withP, Orc.withI, Orc.withF, Orc.withD, Orc.withA, Orc.withR, Orc.withC, noOrc] at cI
  replace cR : C.rd = fun _ => none := cR
  replace cD : C.dyn = fun _ => [] := cD
  clear cP cN cF cA
  obtain ⟨cs, sp⟩ := q
  unfold cowDrop
  simp only
  by_cases h0 : cowSp ⟨cs, sp⟩ s = 0
  case neg =>
    simp [Try.ntmps74, Try.results74, cSl, cp0, cn0, cn1, cI, cD, cR, rI, rRoom, roomDec, Room.row, h0, dropE]
    exact showsV _
  obtain ⟨hck, k, rfl, hk⟩ := sp_ok h0
  obtain ⟨⟨g1, g2⟩, g3, g4⟩ := cow_ok hck
  simp only at hk g1 g2 g3 g4
  rw [if_pos h0]
  rw [Int.toNat_natCast]
  have hcond : (∀ l, l ∈ sp → l.length ≤ 8) = True := eq_true fun l hl => (g3 l hl).1
  simp [Try.ntmps74, Try.results74, cSl, cp0, cn0, cn1, cI, cD, cR, rI, rRoom, roomDec, Room.row, h0, hk, g1, g2, hcond]
  have hne0 : ¬ sp.length = 0 := by omega
  have hne : ¬ sp = [] := fun e => hne0 (by rw [e]; rfl)
  have hA5 : oA 5 1 sp.length = .osl 5 1 0 sp.length sp.length := oA_pos hne0
  have hO5 : oT 1 (ownR 1 6 sp) = some (1, ownR 1 6 sp) := oT_pos (ownR_ne hne)
  have wk : IntKind.i64.wrap ((k : Int) + 1) = (k : Int) + 1 := w64 (by omega) (by omega)
  have n5 : sp.length ≤ 1048576 := by omega
  by_cases hcs : cs = []
  · have hA4 : oA 4 1 cs.length = .esl := by simp [oA, hcs]
    have hT4 : oT 1 (cs.map (irow .u8)) = none := by simp [oT, hcs]
    simp [Try.ntmps74, Try.results74, cSl, cp0, cn0, cn1, cI, cD, cR, cpVal, cpHeap, hA4, hT4, hA5, hO5, ownR_len, ownH_len, hk, deleteI, wk, n5]
    have hE : ∀ (i : Nat) (hi : i < sp.length), sp[i] = [] := fun i hi => by
      cases e : sp[i] with
      | nil => rfl
      | cons x r =>
        have := (g3 _ (List.getElem_mem hi)).2 x (by rw [e]; simp)
        rw [hcs] at this; simp at this; omega
    have hlow : ∀ n, sp.length + 6 ≤ n → (((ownR 1 6 sp).eraseIdx k).all fun row => row.all (lowA n)) = true := fun n h => by
      have := ownR_low (sz := 1) (c := 6) h
      rw [List.all_eq_true] at this ⊢
      exact fun r hr => this r (List.mem_of_mem_eraseIdx hr)
    refine loop_rounds 1 ?_
    simp [Try.ntmps74, Try.results74, cSl, cp0, cn0, cn1, cI, cD, cR, UnrK, ownH_len]
    refine loop_forB (sp.length - 1) (fun q (_ : Unit) => ([(2, .ptr 0 2 0 0), (4, .ptr 1 2 0 0), (8, .v (.slice none 0 0)), (9, .osl (sp.length + 6) 1 0 0 0), (60, .osl 5 1 0 (sp.length - 1) (sp.length - 1)), (61, .v (.int .i64 ((sp.length - 1 : Nat) : Int))), (62, .v (.int .i64 q))],
      some (2, [[.esl, .osl 5 1 0 (sp.length - 1) (sp.length - 1)]]) :: some (2, [[.v (.slice none 0 0), .v (.slice none 0 0)]]) :: none :: none :: none :: some (1, (ownR 1 6 sp).eraseIdx k) :: (ownH 1 (irow .i64) sp ++ [some (1, [])]))) (fun k _ => True) () (by omega) trivial ?_ ?_ ?_
    · simp [ownH_len, heapW]
      simpa using hlow _ (by omega)
    · rintro q _ hq _ hw
      obtain ⟨m, hm, hml⟩ : ∃ m, m = (if q < k then q else q + 1) ∧ m < sp.length := ⟨_, rfl, by split <;> omega⟩
      have hg := er_get hk hq hm hml
      rw [hE m hml] at hg
      have hg' : ∀ h, ((ownR 1 6 sp).eraseIdx k)[q]'h = [.esl] := fun h => by rw [List.getElem?_eq_getElem h] at hg; simpa [oA] using hg
      simp [Try.ntmps74, Try.results74, cSl, cp0, cn0, cn1, cI, cD, cR, hq, hw, hg, hg', oA, List.length_eraseIdx, ownR_len]
      refine loop_rounds 1 ?_
      simp [Try.ntmps74, Try.results74, cSl, cp0, cn0, cn1, cI, cD, cR, UnrK, hw, ownH_len]
      simpa using hlow _ (by omega)
    · rintro _ _
      simp [Try.ntmps74, Try.results74, cSl, cp0, cn0, cn1, cI, cD, cR, ownH_len]
      have e1 : kpCells (sp.eraseIdx k) cs cs.length = [] := by rw [hcs]; rfl
      simp only [dropE, dropRoom, e1]
      rw [show ((cs.length : Int) - (([] : List Int).length : Int)) = 0 by rw [hcs]; rfl]
      refine showsT3 (room_fin shows_nil (by rw [List.length_map, List.length_eraseIdx, if_pos hk]) rfl (by rw [List.length_map, List.length_eraseIdx, List.length_eraseIdx, ownR_len]) (drop_rows hk fun i hi _ hnz => absurd (hE i hi) hnz)) (showsV _) (showsV _)
  · have hA4 : oA 4 1 cs.length = .osl 4 1 0 cs.length cs.length := oA_pos (fun e => hcs (List.length_eq_zero_iff.1 e))
    have hT4 : oT 1 (cs.map (irow .u8)) = some (1, cs.map (irow .u8)) := oT_pos (by simpa using hcs)
    simp [Try.ntmps74, Try.results74, cSl, cp0, cn0, cn1, cI, cD, cR, cpVal, cpHeap, hA4, hT4, hA5, hO5, ownR_len, ownH_len, hk, deleteI, wk, n5]
    have hsm : ∀ (H : Heap), obj H 4 = some (1, cs.map (irow .u8)) → obj H 5 = some (1, (ownR 1 6 sp).eraseIdx k) → (∀ (i : Nat) (hi : i < sp.length), sp[i] ≠ [] → obj H (i + 6) = some (1, sp[i].map (irow .i64))) → ∀ c : Int,
        C.pure 145 [cold (view H 4 (.agg [.osl 4 1 0 cs.length cs.length, .osl 5 1 0 (sp.length - 1) (sp.length - 1)])), cold (view H 4 (.v (.int .i64 c)))] = some (.v (.int .i64 (manyI (sp.eraseIdx k) c))) := by
      intro H o4 o5 o6 c
      have h1 := seen_room (H := H) (a := 4) (M := 5) (rows := (ownR 1 6 sp).eraseIdx k) (cs := cs) (sp := sp.eraseIdx k) (fun _ => o4) o5 (by rw [List.length_eraseIdx, List.length_eraseIdx, ownR_len]) (fun i hi => by
        obtain ⟨y, h1, h2⟩ := own_dec (c := 6) o6 (if i < k then i else i + 1) (by rw [List.length_eraseIdx, if_pos hk] at hi; split <;> omega)
        refine ⟨y, ?_, ?_⟩
        · rw [List.getElem?_eraseIdx]; split <;> simp_all
        · rw [h2, List.getElem_eraseIdx]; split <;> simp_all)
      rw [hA4, List.length_eraseIdx, if_pos hk] at h1
      have hc8 : (sp.eraseIdx k).length ≤ 8 ∧ ∀ l ∈ sp.eraseIdx k, l.length ≤ 8 := ⟨by rw [List.length_eraseIdx, if_pos hk]; omega, fun l hl => (g3 l (List.mem_of_mem_eraseIdx hl)).1⟩
      rw [ch0]
      simp only [argM, h1, hc8, and_self]
      simp [view, cold, cInt, intDec, finM, hc8.1]
      exact hc8.2
    generalize hL : sp.eraseIdx k = L at hsm ⊢
    have hlow : ∀ n, sp.length + 6 ≤ n → (((ownR 1 6 sp).eraseIdx k).all fun row => row.all (lowA n)) = true := fun n h => by
      have := ownR_low (sz := 1) (c := 6) h
      rw [List.all_eq_true] at this ⊢
      exact fun r hr => this r (List.mem_of_mem_eraseIdx hr)
    have cl64 : (cs.length : Int) ≤ 4294967296 := by omega
    rw [if_pos cl64]
    simp [Try.ntmps74, Try.results74, cSl, cp0, cn0, cn1, cI, cD, cR]
    refine loop_forB cs.length (fun k' (g : Nat) => ([(2, .ptr 0 2 0 0), (4, .ptr 1 2 0 0), (8, cellV sp.length g (kpCells L cs k')), (9, .osl (sp.length + 6) 1 0 cs.length cs.length), (38, .osl 4 1 0 cs.length cs.length), (39, .v (.int .i64 cs.length)), (40, .v (.int .i64 k'))],
      some (2, [[.osl 4 1 0 cs.length cs.length, .osl 5 1 0 (sp.length - 1) (sp.length - 1)]]) :: some (2, [[.v (.slice none 0 0), .v (.slice none 0 0)]]) :: none :: none :: some (1, cs.map (irow .u8)) :: some (1, (ownR 1 6 sp).eraseIdx k) :: (ownH 1 (irow .i64) sp ++ some (1, intR cs.length (fun q => if q < k' then kpTo L q else 0)) :: cellH g (kpCells L cs k')))) (fun k _ => True) 0 (by omega) trivial ?_ ?_ ?_
    · have e0 : kpCells L cs 0 = [] := rfl
      simp [cellV, cellH, e0, intR_rep, ownH_len]
      simpa using hlow _ (by omega)
    · rintro k' g hk' _ hw
      have hsu := kpCells_succ L hk'
      have hkl : (kpCells L cs k').length ≤ k' := by rw [kpCells_len]; exact kp_le L k'
      have cN1 : ¬ (kpCells L cs k').length + 1 ≤ (kpCells L cs k').length := by omega
      have cN2 : (kpCells L cs k').length + 1 ≤ 4294967296 := by omega
      by_cases hl : kpCells L cs k' = []
      · have hI : intR cs.length (fun q => if q = k' then (0 : Int) else if q < k' then kpTo L q else 0) = intR cs.length (fun q => if q < k' + 1 then kpTo L q else 0) := by
          refine intR_ext fun q _ => ?_
          by_cases e : q = k'
          · subst e; simp [kpTo, ← kpCells_len L cs, hl]
          · by_cases e2 : q < k'
            · rw [if_neg e, if_pos e2, if_pos (by omega)]
            · rw [if_neg e, if_neg e2, if_neg (by omega)]
        simp [Try.ntmps74, Try.results74, cSl, cp0, cn0, cn1, cI, cD, cR, -view, -cold, cellV, cellH, hl, hw, hk', irow, intR_set, ownH_len, hI]
        rw [hsm]
        rotate_left
        · rfl
        · rfl
        ·
          intro i hi hnz
          have h1 := ownH_get (sz := 1) (g := irow .i64) hi
          have h2 : ∀ LL : Heap, (ownH 1 (irow .i64) sp ++ LL)[i]? = some (oT 1 (sp[i].map (irow .i64))) := fun LL => by
            rw [List.getElem?_append_left (by rw [ownH_len]; exact hi)]; exact h1
          simp [obj, h1, h2, oT, hnz]
        by_cases hm : 0 < manyI L (k' : Int)
        · rw [if_pos hm] at hsu
          simp [Try.ntmps74, Try.results74, cSl, cp0, cn0, cn1, cI, cD, cR, cellV, cellH, hl, hw, hk', irow, intR_set, ownH_len, hI, hm, hsu]
          exact ⟨1, ⟨rfl, by omega⟩, by simpa using hlow _ (by omega), by simp [heapW, lowA]⟩
        · rw [if_neg hm, List.append_nil] at hsu
          simp [Try.ntmps74, Try.results74, cSl, cp0, cn0, cn1, cI, cD, cR, cellV, cellH, hl, hw, hk', irow, intR_set, ownH_len, hI, hm, hsu]
          simpa using hlow _ (by omega)
      · have hI : intR cs.length (fun q => if q = k' then ((kpCells L cs k').length : Int) else if q < k' then kpTo L q else 0) = intR cs.length (fun q => if q < k' + 1 then kpTo L q else 0) := by
          refine intR_ext fun q _ => ?_
          by_cases e : q = k'
          · subst e; simp [kpTo, ← kpCells_len L cs, hl]
          · by_cases e2 : q < k'
            · rw [if_neg e, if_pos e2, if_pos (by omega)]
            · rw [if_neg e, if_neg e2, if_neg (by omega)]
        simp [Try.ntmps74, Try.results74, cSl, cp0, cn0, cn1, cI, cD, cR, -view, -cold, cellV, cellH, hl, hw, hk', irow, intR_set, ownH_len, hI]
        rw [hsm]
        rotate_left
        · rfl
        · rfl
        ·
          intro i hi hnz
          have h1 := ownH_get (sz := 1) (g := irow .i64) hi
          have h2 : ∀ LL : Heap, (ownH 1 (irow .i64) sp ++ LL)[i]? = some (oT 1 (sp[i].map (irow .i64))) := fun LL => by
            rw [List.getElem?_append_left (by rw [ownH_len]; exact hi)]; exact h1
          simp [obj, h1, h2, oT, hnz]
        by_cases hm : 0 < manyI L (k' : Int)
        · rw [if_pos hm] at hsu
          simp [Try.ntmps74, Try.results74, cSl, cp0, cn0, cn1, cI, cD, cR, cellV, cellH, hl, hw, hk', irow, intR_set, ownH_len, hI, hm, hsu, cN1, cN2]
          refine ⟨g + 2, ⟨by omega, by omega⟩, by simpa using hlow _ (by omega), ?_⟩
          rw [heapW_rep2]
          simp [heapW, lowA, irow]
        · rw [if_neg hm, List.append_nil] at hsu
          simp [Try.ntmps74, Try.results74, cSl, cp0, cn0, cn1, cI, cD, cR, cellV, cellH, hl, hw, hk', irow, intR_set, ownH_len, hI, hm, hsu, cN1, cN2]
          exact ⟨g, ⟨rfl, by omega⟩, by simpa using hlow _ (by omega), by simp [heapW, lowA, irow]⟩
    · rintro g _
      have hkn : (kpCells L cs cs.length).length ≤ cs.length := by rw [kpCells_len]; exact kp_le L cs.length
      have hto : intR cs.length (fun q => if q < cs.length then kpTo L q else 0) = intR cs.length (kpTo L) := intR_ext fun q hq => by rw [if_pos hq]
      have hpl : ∀ q, (prog (kpTo L) sp k q).length = sp.length := fun q => prog_len
      by_cases hl : kpCells L cs cs.length = []
      · simp [Try.ntmps74, Try.results74, cSl, cp0, cn0, cn1, cI, cD, cR, cellV, cellH, hl, ownH_len, hto]
        have hpz := prog_zero (t := kpTo L) (sp := sp) (k := k)
        refine loop_forB (sp.length - 1) (fun q (_ : Unit) => ([(2, .ptr 0 2 0 0), (4, .ptr 1 2 0 0), (8, .v (.slice none 0 0)), (9, .osl (sp.length + 6) 1 0 cs.length cs.length), (60, .osl 5 1 0 (sp.length - 1) (sp.length - 1)), (61, .v (.int .i64 ((sp.length - 1 : Nat) : Int))), (62, .v (.int .i64 q))],
          some (2, [[.osl 4 1 0 cs.length cs.length, .osl 5 1 0 (sp.length - 1) (sp.length - 1)]]) :: some (2, [[.v (.slice none 0 0), .v (.slice none 0 0)]]) :: none :: none :: some (1, cs.map (irow .u8)) :: some (1, (ownR 1 6 sp).eraseIdx k) :: (ownH 1 (irow .i64) (prog (kpTo L) sp k q) ++ some (1, intR cs.length (kpTo L)) :: []))) (fun k _ => True) () (by omega) trivial ?_ ?_ ?_
        · simp [hpz, ownH_len, heapW, hpl, lowA]
          simpa using hlow _ (by omega)
        · rintro q _ hq _ hw
          obtain ⟨m, hm, hml⟩ : ∃ m, m = (if q < k then q else q + 1) ∧ m < sp.length := ⟨_, rfl, by split <;> omega⟩
          have hmk : m ≠ k := by rw [hm]; split <;> omega
          have hg := er_get hk hq hm hml
          have hps := prog_succ (t := kpTo L) hml hm
          have hp0 := prog_set (t := kpTo L) hml hm
          have hPl : ∀ l, ((prog (kpTo L) sp k q).set m l).length = sp.length := fun l => by rw [List.length_set]; exact hpl q
          have hgT : ∀ (l : List Int) (o : Option (Nat × List Row)) (Y : Heap), (ownH 1 (irow .i64) ((prog (kpTo L) sp k q).set m l) ++ o :: Y)[sp.length]? = some o := fun l o Y => by
            have := gT (L := (prog (kpTo L) sp k q).set m l) (o := o) (Y := Y)
            rwa [hPl] at this
          have hmP : m < (prog (kpTo L) sp k q).length := by rw [hpl]; exact hml
          have hgm : ∀ (l : List Int) (Y : Heap), l ≠ [] → (ownH 1 (irow .i64) ((prog (kpTo L) sp k q).set m l) ++ Y)[m]? = some (some (1, l.map (irow .i64))) := fun l Y hl => by
            rw [List.getElem?_append_left (by rw [ownH_len, hPl]; exact hml), ownH_set, List.getElem?_set_self (by rw [ownH_len]; exact hmP), oT_pos (by simpa using hl)]
          have hsm2 : ∀ (l l' : List Int) (Y : Heap), l' ≠ [] → (ownH 1 (irow .i64) ((prog (kpTo L) sp k q).set m l) ++ Y).set m (some (1, l'.map (irow .i64))) = ownH 1 (irow .i64) ((prog (kpTo L) sp k q).set m l') ++ Y := fun l l' Y hl => by
            rw [List.set_append_left _ _ (by rw [ownH_len, hPl]; exact hml), ownH_set, ownH_set, List.set_set, oT_pos (by simpa using hl)]
          by_cases hz : sp[m] = []
          · have hg' : ∀ h, ((ownR 1 6 sp).eraseIdx k)[q]'h = [.esl] := fun h => by rw [List.getElem?_eq_getElem h] at hg; simpa [oA, hz] using hg
            rw [hz, List.map_nil] at hps
            rw [hz] at hp0
            rw [← hp0] at hps
            simp [Try.ntmps74, Try.results74, cSl, cp0, cn0, cn1, cI, cD, cR, hq, hw, hg, hg', oA, hz, List.length_eraseIdx, ownR_len]
            refine loop_rounds 1 ?_
            simp [Try.ntmps74, Try.results74, cSl, cp0, cn0, cn1, cI, cD, cR, UnrK, hw, hps, hpl, ownH_len, heapW]
            simpa using hlow _ (by omega)
          · have hA6 : oA (m + 6) 1 sp[m].length = .osl (m + 6) 1 0 sp[m].length sp[m].length := oA_pos (fun e => hz (List.length_eq_zero_iff.1 e))
            have hg' : ∀ h, ((ownR 1 6 sp).eraseIdx k)[q]'h = [.osl (m + 6) 1 0 sp[m].length sp[m].length] := fun h => by rw [List.getElem?_eq_getElem h] at hg; simpa [hA6] using hg
            have hl8 := (g3 _ (List.getElem_mem hml)).1
            have hlx := (g3 _ (List.getElem_mem hml)).2
            rw [hp0]
            generalize hlm : sp[m] = l at *
            have hmz : ∀ j, mid (kpTo L) l j ≠ [] := fun j e => hz (List.length_eq_zero_iff.1 (by rw [← mid_len (t := kpTo L) (j := j), e]; rfl))
            have hl0 := mid_zero (t := kpTo L) (l := l)
            simp [Try.ntmps74, Try.results74, cSl, cp0, cn0, cn1, cI, cD, cR, hq, hw, hg, hg', hA6, List.length_eraseIdx, ownR_len]
            refine loop_forB l.length (fun j (_ : Unit) => ([(2, .ptr 0 2 0 0), (4, .ptr 1 2 0 0), (8, .v (.slice none 0 0)), (9, .osl (sp.length + 6) 1 0 cs.length cs.length), (13, .osl (m + 6) 1 0 l.length l.length), (60, .osl 5 1 0 (sp.length - 1) (sp.length - 1)), (61, .v (.int .i64 ((sp.length - 1 : Nat) : Int))), (62, .v (.int .i64 q)), (66, .osl (m + 6) 1 0 l.length l.length), (67, .v (.int .i64 l.length)), (68, .v (.int .i64 j))],
              some (2, [[.osl 4 1 0 cs.length cs.length, .osl 5 1 0 (sp.length - 1) (sp.length - 1)]]) :: some (2, [[.v (.slice none 0 0), .v (.slice none 0 0)]]) :: none :: none :: some (1, cs.map (irow .u8)) :: some (1, (ownR 1 6 sp).eraseIdx k) :: (ownH 1 (irow .i64) ((prog (kpTo L) sp k q).set m (mid (kpTo L) l j)) ++ some (1, intR cs.length (kpTo L)) :: []))) (fun k _ => True) () (by omega) trivial ?_ ?_ ?_
            · simp [hl0, ownH_len, heapW, hPl, hpl, lowA]
              exact ⟨by omega, by simpa using hlow _ (by omega)⟩
            · rintro j _ hj _ hw2
              have hx := hlx _ (List.getElem_mem hj)
              have hcx : ((l[j]).toNat : Int) = l[j] := by omega
              have hc3 : (l[j]).toNat < cs.length := by omega
              have hmg := mid_get (t := kpTo L) hj
              have hms := mid_set (t := kpTo L) hj
              have hgR : ((mid (kpTo L) l j).map (irow .i64))[j]? = some [.v (.int .i64 l[j])] := by simp [hmg, irow]
              have hsR : ((mid (kpTo L) l j).map (irow .i64)).set j [.v (.int .i64 (kpTo L (l[j]).toNat))] = (mid (kpTo L) l (j + 1)).map (irow .i64) := by rw [← hms, List.map_set]; rfl
              simp [Try.ntmps74, Try.results74, cSl, cp0, cn0, cn1, cI, cD, cR, hj, hw2, hgm, hgT, hmz, hgR, hsR, hsm2, hx.1, hx.2, hc3, intR_get, irow, hPl, ownH_len]
              exact ⟨by omega, by simpa using hlow _ (by omega)⟩
            · rintro _ _
              have hma := mid_all (t := kpTo L) (l := l)
              rw [hma, ← hps]
              simp [Try.ntmps74, Try.results74, cSl, cp0, cn0, cn1, cI, cD, cR, hw, hpl, ownH_len]
              simpa using hlow _ (by omega)
        · rintro _ _
          have hend : ∀ (Y : Heap) (i : Nat) (hi : i < sp.length), i ≠ k → sp[i] ≠ [] → (ownH 1 (irow .i64) (prog (kpTo L) sp k (sp.length - 1)) ++ Y)[i]? = some (some (1, ((sp[i]).map (fun x => kpTo L x.toNat)).map (irow .i64))) := fun Y i hi hik hz => by
            have h1 := prog_get (t := kpTo L) (k := k) (q := sp.length - 1) hi
            rw [if_pos (by omega)] at h1
            have h2 : i < (prog (kpTo L) sp k (sp.length - 1)).length := by rw [hpl]; exact hi
            have h3 := ownH_get (sz := 1) (g := irow .i64) h2
            rw [List.getElem?_eq_getElem h2] at h1
            rw [List.getElem?_append_left (by rw [ownH_len]; exact h2), h3, Option.some.inj h1, oT_pos (by simpa using hz)]
          have wN : IntKind.i64.wrap ((cs.length : Int) - ((kpCells L cs cs.length).length : Int)) = (cs.length : Int) - ((kpCells L cs cs.length).length : Int) := w64 (by omega) (by omega)
          have wN0 : IntKind.i64.wrap (cs.length : Int) = cs.length := w64 (by omega) (by omega)
          simp [Try.ntmps74, Try.results74, cSl, cp0, cn0, cn1, cI, cD, cR, ownH_len, hpl, wN, wN0]
          have hgc : ∀ (o z : Option (Nat × List Row)) (Y : Heap), (ownH 1 (irow .i64) (prog (kpTo L) sp k (sp.length - 1)) ++ o :: (List.replicate g none ++ z :: Y))[sp.length + g + 1]? = some z := fun o z Y => by
            have := gC (L := prog (kpTo L) sp k (sp.length - 1)) (o := o) (z := z) (g := g) (Y := Y)
            rwa [hpl] at this
          simp only [dropE, dropRoom, hL, hl]
          refine showsT3 (room_fin shows_nil (by rw [List.length_map, ← hL, List.length_eraseIdx, if_pos hk]) rfl (by rw [List.length_map, ← hL, List.length_eraseIdx, List.length_eraseIdx, ownR_len]) (by rw [← hL]; exact drop_rows hk fun i hi hik hnz => by rw [hL]; simp [obj, hend _ i hi hik hnz])) (showsV _) (showsV _)
      · simp [Try.ntmps74, Try.results74, cSl, cp0, cn0, cn1, cI, cD, cR, cellV, cellH, hl, ownH_len, hto]
        have hpz := prog_zero (t := kpTo L) (sp := sp) (k := k)
        refine loop_forB (sp.length - 1) (fun q (_ : Unit) => ([(2, .ptr 0 2 0 0), (4, .ptr 1 2 0 0), (8, .osl (sp.length + g + 7) 1 0 (kpCells L cs cs.length).length (kpCells L cs cs.length).length), (9, .osl (sp.length + 6) 1 0 cs.length cs.length), (60, .osl 5 1 0 (sp.length - 1) (sp.length - 1)), (61, .v (.int .i64 ((sp.length - 1 : Nat) : Int))), (62, .v (.int .i64 q))],
          some (2, [[.osl 4 1 0 cs.length cs.length, .osl 5 1 0 (sp.length - 1) (sp.length - 1)]]) :: some (2, [[.v (.slice none 0 0), .v (.slice none 0 0)]]) :: none :: none :: some (1, cs.map (irow .u8)) :: some (1, (ownR 1 6 sp).eraseIdx k) :: (ownH 1 (irow .i64) (prog (kpTo L) sp k q) ++ some (1, intR cs.length (kpTo L)) :: (List.replicate g none ++ [some (1, (kpCells L cs cs.length).map (irow .u8))])))) (fun k _ => True) () (by omega) trivial ?_ ?_ ?_
        · simp [hpz, ownH_len, heapW, hpl, lowA]
          exact ⟨by omega, by simpa using hlow _ (by omega)⟩
        · rintro q _ hq _ hw
          obtain ⟨m, hm, hml⟩ : ∃ m, m = (if q < k then q else q + 1) ∧ m < sp.length := ⟨_, rfl, by split <;> omega⟩
          have hmk : m ≠ k := by rw [hm]; split <;> omega
          have hg := er_get hk hq hm hml
          have hps := prog_succ (t := kpTo L) hml hm
          have hp0 := prog_set (t := kpTo L) hml hm
          have hPl : ∀ l, ((prog (kpTo L) sp k q).set m l).length = sp.length := fun l => by rw [List.length_set]; exact hpl q
          have hgT : ∀ (l : List Int) (o : Option (Nat × List Row)) (Y : Heap), (ownH 1 (irow .i64) ((prog (kpTo L) sp k q).set m l) ++ o :: Y)[sp.length]? = some o := fun l o Y => by
            have := gT (L := (prog (kpTo L) sp k q).set m l) (o := o) (Y := Y)
            rwa [hPl] at this
          have hmP : m < (prog (kpTo L) sp k q).length := by rw [hpl]; exact hml
          have hgm : ∀ (l : List Int) (Y : Heap), l ≠ [] → (ownH 1 (irow .i64) ((prog (kpTo L) sp k q).set m l) ++ Y)[m]? = some (some (1, l.map (irow .i64))) := fun l Y hl => by
            rw [List.getElem?_append_left (by rw [ownH_len, hPl]; exact hml), ownH_set, List.getElem?_set_self (by rw [ownH_len]; exact hmP), oT_pos (by simpa using hl)]
          have hsm2 : ∀ (l l' : List Int) (Y : Heap), l' ≠ [] → (ownH 1 (irow .i64) ((prog (kpTo L) sp k q).set m l) ++ Y).set m (some (1, l'.map (irow .i64))) = ownH 1 (irow .i64) ((prog (kpTo L) sp k q).set m l') ++ Y := fun l l' Y hl => by
            rw [List.set_append_left _ _ (by rw [ownH_len, hPl]; exact hml), ownH_set, ownH_set, List.set_set, oT_pos (by simpa using hl)]
          by_cases hz : sp[m] = []
          · have hg' : ∀ h, ((ownR 1 6 sp).eraseIdx k)[q]'h = [.esl] := fun h => by rw [List.getElem?_eq_getElem h] at hg; simpa [oA, hz] using hg
            rw [hz, List.map_nil] at hps
            rw [hz] at hp0
            rw [← hp0] at hps
            simp [Try.ntmps74, Try.results74, cSl, cp0, cn0, cn1, cI, cD, cR, hq, hw, hg, hg', oA, hz, List.length_eraseIdx, ownR_len]
            refine loop_rounds 1 ?_
            simp [Try.ntmps74, Try.results74, cSl, cp0, cn0, cn1, cI, cD, cR, UnrK, hw, hps, hpl, ownH_len, heapW]
            exact ⟨by omega, by simpa using hlow _ (by omega)⟩
          · have hA6 : oA (m + 6) 1 sp[m].length = .osl (m + 6) 1 0 sp[m].length sp[m].length := oA_pos (fun e => hz (List.length_eq_zero_iff.1 e))
            have hg' : ∀ h, ((ownR 1 6 sp).eraseIdx k)[q]'h = [.osl (m + 6) 1 0 sp[m].length sp[m].length] := fun h => by rw [List.getElem?_eq_getElem h] at hg; simpa [hA6] using hg
            have hl8 := (g3 _ (List.getElem_mem hml)).1
            have hlx := (g3 _ (List.getElem_mem hml)).2
            rw [hp0]
            generalize hlm : sp[m] = l at *
            have hmz : ∀ j, mid (kpTo L) l j ≠ [] := fun j e => hz (List.length_eq_zero_iff.1 (by rw [← mid_len (t := kpTo L) (j := j), e]; rfl))
            have hl0 := mid_zero (t := kpTo L) (l := l)
            simp [Try.ntmps74, Try.results74, cSl, cp0, cn0, cn1, cI, cD, cR, hq, hw, hg, hg', hA6, List.length_eraseIdx, ownR_len]
            refine loop_forB l.length (fun j (_ : Unit) => ([(2, .ptr 0 2 0 0), (4, .ptr 1 2 0 0), (8, .osl (sp.length + g + 7) 1 0 (kpCells L cs cs.length).length (kpCells L cs cs.length).length), (9, .osl (sp.length + 6) 1 0 cs.length cs.length), (13, .osl (m + 6) 1 0 l.length l.length), (60, .osl 5 1 0 (sp.length - 1) (sp.length - 1)), (61, .v (.int .i64 ((sp.length - 1 : Nat) : Int))), (62, .v (.int .i64 q)), (66, .osl (m + 6) 1 0 l.length l.length), (67, .v (.int .i64 l.length)), (68, .v (.int .i64 j))],
              some (2, [[.osl 4 1 0 cs.length cs.length, .osl 5 1 0 (sp.length - 1) (sp.length - 1)]]) :: some (2, [[.v (.slice none 0 0), .v (.slice none 0 0)]]) :: none :: none :: some (1, cs.map (irow .u8)) :: some (1, (ownR 1 6 sp).eraseIdx k) :: (ownH 1 (irow .i64) ((prog (kpTo L) sp k q).set m (mid (kpTo L) l j)) ++ some (1, intR cs.length (kpTo L)) :: (List.replicate g none ++ [some (1, (kpCells L cs cs.length).map (irow .u8))])))) (fun k _ => True) () (by omega) trivial ?_ ?_ ?_
            · simp [hl0, ownH_len, heapW, hPl, hpl, lowA]
              exact ⟨⟨by omega, by omega⟩, by simpa using hlow _ (by omega)⟩
            · rintro j _ hj _ hw2
              have hx := hlx _ (List.getElem_mem hj)
              have hcx : ((l[j]).toNat : Int) = l[j] := by omega
              have hc3 : (l[j]).toNat < cs.length := by omega
              have hmg := mid_get (t := kpTo L) hj
              have hms := mid_set (t := kpTo L) hj
              have hgR : ((mid (kpTo L) l j).map (irow .i64))[j]? = some [.v (.int .i64 l[j])] := by simp [hmg, irow]
              have hsR : ((mid (kpTo L) l j).map (irow .i64)).set j [.v (.int .i64 (kpTo L (l[j]).toNat))] = (mid (kpTo L) l (j + 1)).map (irow .i64) := by rw [← hms, List.map_set]; rfl
              simp [Try.ntmps74, Try.results74, cSl, cp0, cn0, cn1, cI, cD, cR, hj, hw2, hgm, hgT, hmz, hgR, hsR, hsm2, hx.1, hx.2, hc3, intR_get, irow, hPl, ownH_len]
              exact ⟨⟨by omega, by omega⟩, by simpa using hlow _ (by omega)⟩
            · rintro _ _
              have hma := mid_all (t := kpTo L) (l := l)
              rw [hma, ← hps]
              simp [Try.ntmps74, Try.results74, cSl, cp0, cn0, cn1, cI, cD, cR, hw, hpl, ownH_len]
              exact ⟨by omega, by simpa using hlow _ (by omega)⟩
        · rintro _ _
          have hend : ∀ (Y : Heap) (i : Nat) (hi : i < sp.length), i ≠ k → sp[i] ≠ [] → (ownH 1 (irow .i64) (prog (kpTo L) sp k (sp.length - 1)) ++ Y)[i]? = some (some (1, ((sp[i]).map (fun x => kpTo L x.toNat)).map (irow .i64))) := fun Y i hi hik hz => by
            have h1 := prog_get (t := kpTo L) (k := k) (q := sp.length - 1) hi
            rw [if_pos (by omega)] at h1
            have h2 : i < (prog (kpTo L) sp k (sp.length - 1)).length := by rw [hpl]; exact hi
            have h3 := ownH_get (sz := 1) (g := irow .i64) h2
            rw [List.getElem?_eq_getElem h2] at h1
            rw [List.getElem?_append_left (by rw [ownH_len]; exact h2), h3, Option.some.inj h1, oT_pos (by simpa using hz)]
          have wN : IntKind.i64.wrap ((cs.length : Int) - ((kpCells L cs cs.length).length : Int)) = (cs.length : Int) - ((kpCells L cs cs.length).length : Int) := w64 (by omega) (by omega)
          have wN0 : IntKind.i64.wrap (cs.length : Int) = cs.length := w64 (by omega) (by omega)
          simp [Try.ntmps74, Try.results74, cSl, cp0, cn0, cn1, cI, cD, cR, ownH_len, hpl, wN, wN0]
          have hgc : ∀ (o z : Option (Nat × List Row)) (Y : Heap), (ownH 1 (irow .i64) (prog (kpTo L) sp k (sp.length - 1)) ++ o :: (List.replicate g none ++ z :: Y))[sp.length + g + 1]? = some z := fun o z Y => by
            have := gC (L := prog (kpTo L) sp k (sp.length - 1)) (o := o) (z := z) (g := g) (Y := Y)
            rwa [hpl] at this
          simp only [dropE, dropRoom, hL, hl]
          refine showsT3 (room_fin (shows_osl (d := 1) rfl (by simp [obj, hgc]) (fun e => irow_view _ 1 e) irw_hot) (by rw [List.length_map, ← hL, List.length_eraseIdx, if_pos hk]) rfl (by rw [List.length_map, ← hL, List.length_eraseIdx, List.length_eraseIdx, ownR_len]) (by rw [← hL]; exact drop_rows hk fun i hi hik hnz => by rw [hL]; simp [obj, hend _ i hi hik hnz])) (showsV _) (showsV _)
end
section
section
variable {base : Nat} {w0 : World} {β : Nat → Nat} {fz : Nat → Prop} {H : Heap} {w : World} {P : Program}
theorem HSim.none_app (hs : HSim base w0 β fz H w) : HSim base w0 β fz (H ++ [none]) w := by
  have hlt : ∀ {id : Nat} {o : Nat × List Row}, (H ++ [none])[id]? = some (some o) → H[id]? = some (some o) := by
    intro id o h
    by_cases e : id < H.length
    · rwa [List.getElem?_append_left e] at h
    · rw [List.getElem?_append_right (by omega)] at h
      cases hk : id - H.length with
      | zero => rw [hk] at h; cases h
      | succ k => rw [hk] at h; simp at h
  have hl : ∀ {id : Nat}, Live (H ++ [none]) id → Live H id := fun ⟨o, h⟩ => ⟨o, hlt h⟩
  refine ⟨fun id sz rows h => ?_, fun id id' h1 h2 => hs.inj id id' (hl h1) (hl h2), fun id h => hs.own id (hl h), hs.fzlt, hs.below, hs.base⟩
  exact (hs.objs' id sz rows (hlt h)).ext ⟨by simp, fun _ _ => rfl, fun _ h => h, fun _ _ => rfl, Shapes.refl _⟩ rfl
/-- a copy: an object comes, or an empty place -/
def cloneU (sz : Nat) (args : Row) (H : Heap) : Option (AVal × Heap) :=
  match cloneI sz args H with
  | some (.esl, H') => some (.esl, H' ++ [none])
  | x => x
theorem cloneU_ok {f : Nat} {sz : Nat} (h : InlOk P f (cloneI sz)) : InlOk P f (cloneU sz) := by
  intro args H r H' hr base w0 β fz w vals hs ha
  unfold cloneU at hr
  split at hr
  · rename_i H2 hc
    cases hr
    intro fn hf
    obtain ⟨g1, g2⟩ := h args H _ _ hc base w0 β fz w vals hs ha fn hf
    have key : ∀ e w', (∃ v β' fz', e = Ending.returned v ∧ HSim base w0 β' fz' H2 w' ∧ Ext H.length β fz w H2.length β' fz' w' ∧ R β' (okOf base fz') w' H2.length .esl v) →
        ∃ v β' fz', e = Ending.returned v ∧ HSim base w0 β' fz' (H2 ++ [none]) w' ∧ Ext H.length β fz w (H2 ++ [none]).length β' fz' w' ∧ R β' (okOf base fz') w' (H2 ++ [none]).length .esl v := by
      rintro e w' ⟨v, β', fz', e1, e2, e3, e4⟩
      have e5 : Ext H2.length β' fz' w' (H2 ++ [none]).length β' fz' w' := ⟨by simp, fun _ _ => rfl, fun _ h => h, fun _ _ => rfl, Shapes.refl _⟩
      exact ⟨v, β', fz', e1, HSim.none_app e2, e3.trans e5, e4.ext e5⟩
    exact ⟨fun hb => (g1 hb).mono key, fun hb => by obtain ⟨v, w', k1, k2⟩ := g2 hb; exact ⟨v, w', k1, key _ _ k2⟩⟩
  · exact h args H r H' hr base w0 β fz w vals hs ha
end
theorem cloneU_fsl {o : Bool} {sz : Nat} {rows : List Row} {H : Heap} (h0 : 0 < sz) (hl : rows.length ≤ 4294967296) : cloneU sz [.fsl o sz rows] H = some (oA H.length sz rows.length, H ++ [oT sz rows]) := by
  unfold cloneU
  by_cases h : rows = []
  · subst h; simp [cloneI, oA, oT]
  · have h2 : ¬ sz = 0 := by omega
    simp [cloneI, oA, oT, h, hl, newObj', h2]
theorem cloneU_loc {sz : Nat} : ∀ args ids, cloneF args = some ids → AI.Loc (cloneU sz args) ids true := by
  intro args ids h
  obtain ⟨Φ, hw, hF⟩ := clone_loc (sz := sz) args ids h
  refine ⟨fun f n => (Φ f n).map fun r => match r with | (.esl, u, l) => (.esl, u, l ++ [none]) | x => x, ⟨fun f g n h => by simp only [hw.same f g n h], fun f n r hr => ?_, fun h => by cases h⟩, fun H => ?_⟩
  · simp only [Option.map_eq_some_iff] at hr
    obtain ⟨⟨a, u, l⟩, h1, rfl⟩ := hr
    have := hw.keys f n _ h1
    refine ⟨?_, fun h => by cases h⟩
    split
    · rename_i e; cases e; exact this.1
    · exact this.1
  · unfold cloneU
    rw [hF H]
    cases hq : Φ (obj H) H.length with
    | none => simp only [hq, Option.map_none]
    | some r =>
      obtain ⟨a, u, l⟩ := r
      cases a <;> simp [hq]
section
variable {P : Program} {f : FuncId} {fn : Func} {code : Code}
theorem ownE_2 {α1 α2 : Type} {c1 : Cod α1} {c2 : Cod α2} (hf : P.funcs[f]? = some fn) (hb : fn.body = some code) {g : α1 → α2 → Option (AVal × Heap)} (h : ∀ e1 e2 r H', g e1 e2 = some (r, H') → BodyE P fn code [c1.enc e1, c2.enc e2] [] r H') : InlOk P f (own0 (argG c1 fun e1 => argG c2 fun e2 => finG (g e1 e2))) := by
  refine inl_canonE hf hb fun args H r H' hr => ?_
  cases H with
  | cons o H => simp [own0] at hr
  | nil =>
    simp only [own0] at hr
    obtain ⟨x1, e1, rest1, rfl, hd1, hr⟩ := argG_some hr
    obtain ⟨x2, e2, rest2, rfl, hd2, hr⟩ := argG_some hr
    obtain ⟨rfl, hr⟩ := finG_some hr
    exact ⟨_, (.cons c1 hd1 (.cons c2 hd2 .nil)), h e1 e2 r H' hr⟩
theorem ownE_3 {α1 α2 α3 : Type} {c1 : Cod α1} {c2 : Cod α2} {c3 : Cod α3} (hf : P.funcs[f]? = some fn) (hb : fn.body = some code) {g : α1 → α2 → α3 → Option (AVal × Heap)} (h : ∀ e1 e2 e3 r H', g e1 e2 e3 = some (r, H') → BodyE P fn code [c1.enc e1, c2.enc e2, c3.enc e3] [] r H') : InlOk P f (own0 (argG c1 fun e1 => argG c2 fun e2 => argG c3 fun e3 => finG (g e1 e2 e3))) := by
  refine inl_canonE hf hb fun args H r H' hr => ?_
  cases H with
  | cons o H => simp [own0] at hr
  | nil =>
    simp only [own0] at hr
    obtain ⟨x1, e1, rest1, rfl, hd1, hr⟩ := argG_some hr
    obtain ⟨x2, e2, rest2, rfl, hd2, hr⟩ := argG_some hr
    obtain ⟨x3, e3, rest3, rfl, hd3, hr⟩ := argG_some hr
    obtain ⟨rfl, hr⟩ := finG_some hr
    exact ⟨_, (.cons c1 hd1 (.cons c2 hd2 (.cons c3 hd3 .nil))), h e1 e2 e3 r H' hr⟩
theorem ownE_4 {α1 α2 α3 α4 : Type} {c1 : Cod α1} {c2 : Cod α2} {c3 : Cod α3} {c4 : Cod α4} (hf : P.funcs[f]? = some fn) (hb : fn.body = some code) {g : α1 → α2 → α3 → α4 → Option (AVal × Heap)} (h : ∀ e1 e2 e3 e4 r H', g e1 e2 e3 e4 = some (r, H') → BodyE P fn code [c1.enc e1, c2.enc e2, c3.enc e3, c4.enc e4] [] r H') : InlOk P f (own0 (argG c1 fun e1 => argG c2 fun e2 => argG c3 fun e3 => argG c4 fun e4 => finG (g e1 e2 e3 e4))) := by
  refine inl_canonE hf hb fun args H r H' hr => ?_
  cases H with
  | cons o H => simp [own0] at hr
  | nil =>
    simp only [own0] at hr
    obtain ⟨x1, e1, rest1, rfl, hd1, hr⟩ := argG_some hr
    obtain ⟨x2, e2, rest2, rfl, hd2, hr⟩ := argG_some hr
    obtain ⟨x3, e3, rest3, rfl, hd3, hr⟩ := argG_some hr
    obtain ⟨x4, e4, rest4, rfl, hd4, hr⟩ := argG_some hr
    obtain ⟨rfl, hr⟩ := finG_some hr
    exact ⟨_, (.cons c1 hd1 (.cons c2 hd2 (.cons c3 hd3 (.cons c4 hd4 .nil)))), h e1 e2 e3 e4 r H' hr⟩
theorem ownE_5 {α1 α2 α3 α4 α5 : Type} {c1 : Cod α1} {c2 : Cod α2} {c3 : Cod α3} {c4 : Cod α4} {c5 : Cod α5} (hf : P.funcs[f]? = some fn) (hb : fn.body = some code) {g : α1 → α2 → α3 → α4 → α5 → Option (AVal × Heap)} (h : ∀ e1 e2 e3 e4 e5 r H', g e1 e2 e3 e4 e5 = some (r, H') → BodyE P fn code [c1.enc e1, c2.enc e2, c3.enc e3, c4.enc e4, c5.enc e5] [] r H') : InlOk P f (own0 (argG c1 fun e1 => argG c2 fun e2 => argG c3 fun e3 => argG c4 fun e4 => argG c5 fun e5 => finG (g e1 e2 e3 e4 e5))) := by
  refine inl_canonE hf hb fun args H r H' hr => ?_
  cases H with
  | cons o H => simp [own0] at hr
  | nil =>
    simp only [own0] at hr
    obtain ⟨x1, e1, rest1, rfl, hd1, hr⟩ := argG_some hr
    obtain ⟨x2, e2, rest2, rfl, hd2, hr⟩ := argG_some hr
    obtain ⟨x3, e3, rest3, rfl, hd3, hr⟩ := argG_some hr
    obtain ⟨x4, e4, rest4, rfl, hd4, hr⟩ := argG_some hr
    obtain ⟨x5, e5, rest5, rfl, hd5, hr⟩ := argG_some hr
    obtain ⟨rfl, hr⟩ := finG_some hr
    exact ⟨_, (.cons c1 hd1 (.cons c2 hd2 (.cons c3 hd3 (.cons c4 hd4 (.cons c5 hd5 .nil))))), h e1 e2 e3 e4 e5 r H' hr⟩
end
/-- a list of one's own, if all went well -/
def okL (ok : Bool) (id sz n : Nat) : AVal := if ok = true then .osl id sz 0 n n else .esl
def okO (ok : Bool) (sz : Nat) (rows : List Row) : Option (Nat × List Row) := if ok = true then some (sz, rows) else none
theorem okL_tau {ok : Bool} {m id sz n : Nat} : tau [] m (okL ok id sz n) = okL ok (m + id) sz n := by unfold okL; split <;> simp [tau, tauI]
theorem okL_bare {ok : Bool} {id sz n : Nat} : bareA (okL ok id sz n) = true := by unfold okL; split <;> rfl
theorem okL_allV {ok : Bool} {id sz n : Nat} {r : Row} : allV (okL ok id sz n :: r) = none := by unfold okL; split <;> rfl
theorem okL_one {ok : Bool} {id sz n : Nat} : oneA (okL ok id sz n) = true := by unfold okL; split <;> rfl
theorem okL_res {ok b : Bool} {id sz n : Nat} : res b (okL ok id sz n) = okL ok id sz n := by unfold okL; split <;> rfl
theorem okL_low {ok : Bool} {id sz n m : Nat} (h : id < m) : lowA m (okL ok id sz n) = true := by unfold okL; split <;> simp [lowA, h]
theorem okO_tau {ok : Bool} {m sz : Nat} {α : Type} {l : List α} {g : α → Row} (hg : ∀ e, List.map (tau [] m) (g e) = g e) : tauO [] m (okO ok sz (l.map g)) = okO ok sz (l.map g) := by
  unfold okO
  split
  · simp only [tauO, List.map_map]
    congr 2
    apply List.map_congr_left
    intro e _; exact hg e
  · rfl
theorem okO_bare {ok : Bool} {sz : Nat} {α : Type} {l : List α} {g : α → Row} {r : Heap} (hg : ∀ e, (g e).all bareA = true) : bareH (okO ok sz (l.map g) :: r) = bareH r := by
  unfold okO
  split
  · simp only [bareH]
    have : ((l.map g).all fun row => row.all bareA) = true := by
      rw [List.all_eq_true]; intro x hx
      obtain ⟨e, _, rfl⟩ := List.mem_map.1 hx
      exact hg e
    rw [this]; simp
  · rfl
theorem Lss.vals {vs : List Value} {rs : List AVal} (hl : rs.length = vs.length) (h : ∀ (j : Nat) (v : Value) (r : AVal), vs[j]? = some v → rs[j]? = some r → Lss (.v v) r) : Lss (.v (.tuple vs.toArray)) (.tup rs) ∧ Lss (.v (.agg vs.toArray)) (.agg rs) := by
  have key : ∀ {β : Nat → Nat} {ok : Bool → Nat → Prop} {w : World} {n : Nat}, (∀ o b, ok o b → ok false b) → ∀ (j : Nat) (a : AVal), rs[j]? = some a → R β ok w n a ((vs.toArray)[j]?.getD undef) := by
    intro β ok w n hok j a ha
    have hj : j < vs.length := by rw [← hl]; exact (List.getElem?_eq_some_iff.1 ha).1
    have hv : vs[j]? = some vs[j] := List.getElem?_eq_getElem hj
    have h' : Lss (.v vs[j]) a := h j vs[j] a hv ha
    have this : R β ok w n a vs[j] := h' hok .v
    simpa [hv] using this
  exact ⟨fun hok hr => by rw [hr.v_inv]; exact .tup (by simpa using hl) (key hok), fun hok hr => by rw [hr.v_inv]; exact .agg (by simpa using hl) (key hok)⟩
theorem Lss.nil_esl' : Lss (.v (.slice none 0 0)) .esl := fun _ h => by rw [h.v_inv]; exact .esl
theorem ent_err {r x : AVal} {H : Heap} (h : Lss x r) (hl : lowA 1 r = true) : Ent 0 ([(0, r)], [none]) ([(0, x)], H) := by
  refine Ent.trans (Ent.weak (s' := ([(0, r)], [none])) (s := ([(0, r), (0, x)], H)) ?_) (Ent.slotL (t := 0) (r := r) (by simp only [AI.look, if_true]; exact @h))
  refine ⟨Nat.zero_le _, fun p hp => ?_, ?_⟩
  · simp only [List.mem_singleton] at hp
    subst hp
    exact ⟨rfl, hl⟩
  · cases H with
    | nil => simp [heapW]
    | cons a H => simp [heapW]
end
end
section
set_option linter.unusedSimpArgs false
set_option linter.unusedVariables false
theorem ob_lt {H : Heap} {id : Nat} {o : Nat × List Row} (h : obj H id = some o) : id < H.length := (List.getElem?_eq_some_iff.1 (obj_get h)).1
theorem ob_ne {H : Heap} {i j : Nat} {x : Option (Nat × List Row)} (h : i ≠ j) : obj (H.set i x) j = obj H j := by
  unfold obj; rw [List.getElem?_set_ne h]
theorem ob_self {H : Heap} {i sz : Nat} {R : List Row} (h : i < H.length) (h0 : sz ≠ 0) : obj (H.set i (some (sz, R))) i = some (sz, R) := by
  unfold obj; rw [List.getElem?_set_self h]; simp [h0]
theorem ob_of {H : Heap} {i sz : Nat} {R : List Row} (h : H[i]? = some (some (sz, R))) (h0 : sz ≠ 0) : obj H i = some (sz, R) := by
  unfold obj; rw [h]; simp [h0]
theorem ob_app {H K : Heap} {i : Nat} {o : Nat × List Row} (h : obj H i = some o) : obj (H ++ K) i = some o := by rw [obj_app (ob_lt h)]; exact h
theorem lss_agg {xs rs : List AVal} (hl : rs.length = xs.length) (h : ∀ (j : Nat) (x r : AVal), xs[j]? = some x → rs[j]? = some r → Lss x r) : Lss (.agg xs) (.agg rs) := fun hok hR => by
  cases hR with
  | agg hl' hr =>
    refine .agg (hl.trans hl') fun j r hj => ?_
    have hj' : j < xs.length := by rw [← hl]; exact (List.getElem?_eq_some_iff.1 hj).1
    exact h j _ r (List.getElem?_eq_getElem hj') hj hok (hr j _ (List.getElem?_eq_getElem hj'))
theorem lss_tup {xs rs : List AVal} (hl : rs.length = xs.length) (h : ∀ (j : Nat) (x r : AVal), xs[j]? = some x → rs[j]? = some r → Lss x r) : Lss (.tup xs) (.tup rs) := fun hok hR => by
  cases hR with
  | tup hl' hr =>
    refine .tup (hl.trans hl') fun j r hj => ?_
    have hj' : j < xs.length := by rw [← hl]; exact (List.getElem?_eq_some_iff.1 hj).1
    exact h j _ r (List.getElem?_eq_getElem hj') hj hok (hr j _ (List.getElem?_eq_getElem hj'))
theorem lss_low {id sz s n kc : Nat} (h : n ≤ kc) : Lss (.osl id sz s n kc) (.osl id sz s n n) := fun _ hR => by
  cases hR with
  | osl h1 h2 h3 h4 => exact .osl h1 (Nat.le_refl _) (Nat.le_trans h2 h3) h4
/-- lists of lists, each under its own name -/
def rowsI (g : Nat → Nat) (L : List (List Int)) : List Row := L.mapIdx fun i l => [oA (g i) 1 l.length]
theorem rowsI_len {g : Nat → Nat} {L : List (List Int)} : (rowsI g L).length = L.length := by simp [rowsI]
theorem rowsI_get {g : Nat → Nat} {L : List (List Int)} {i : Nat} (hi : i < L.length) : (rowsI g L)[i]? = some [oA (g i) 1 L[i].length] := by simp [rowsI, List.getElem?_mapIdx, hi]
theorem ownR_rowsI {c : Nat} {L : List (List Int)} : ownR 1 c L = rowsI (fun i => i + c) L := rfl
theorem oA_ren {th : List Nat} {id sz n m : Nat} (h : n ≠ 0 → thOf 0 th id = m) : ren 0 th (oA id sz n) = oA m sz n := by
  unfold oA
  by_cases e : n = 0
  · simp [e, ren]
  · simp [e, ren, h e]
theorem oA_low' {id sz n m : Nat} (h : n ≠ 0 → id < m) : lowA m (oA id sz n) = true := by
  unfold oA
  split
  · rfl
  · rename_i e; simp [lowA, h e]
abbrev inL (L : List (List Int)) : Heap := ownH 1 (irow .i64) L
def rmV (r : Room) : AVal := .agg [oA 0 1 r.cells.length, .osl 1 1 0 r.spaces.length r.spaces.length]
def rmH (r : Room) : Heap := oT 1 (r.cells.map (irow .u8)) :: some (1, ownR 1 2 r.spaces) :: inL r.spaces
theorem heapT_inL {th : List Nat} {N : Nat} {H : Heap} : ∀ (L : List (List Int)) (i : Nat), (∀ (j : Nat) (h : j < L.length), L[j] ≠ [] → H[thOf 0 th (i + j)]? = some (some (1, L[j].map (irow .i64)))) → heapT 0 th N H i (inL L)
  | [], _, _ => trivial
  | l :: L, i, h => by
    have h0 := h 0 (by simp)
    have ih := heapT_inL (th := th) (N := N) (H := H) L (i + 1) (fun j hj => by
      have := h (j + 1) (by simp; omega)
      rw [show i + (j + 1) = i + 1 + j by omega] at this
      simpa using this)
    simp only [inL, ownH, List.map_cons] at ih ⊢
    by_cases e : l = []
    · have hT : oT 1 (l.map (irow .i64)) = none := by simp [oT, e]
      rw [hT]; simp only [heapT]; exact ih
    · have hT : oT 1 (l.map (irow .i64)) = some (1, l.map (irow .i64)) := by simp [oT, e]
      rw [hT]; simp only [heapT]
      refine ⟨?_, ?_, ih⟩
      · simp only [Nat.add_zero, List.getElem_cons_zero] at h0
        rw [h0 e]
        congr 3
        rw [List.map_map]
        apply List.map_congr_left
        intro a _
        simp [irow, ren]
      · simp [irow, lowA]
def thI (a M : Nat) (g : Nat → Nat) (cs : List Int) (L : List (List Int)) (N : Nat) : List Nat := (if cs = [] then N else a) :: M :: (List.range L.length).map fun i => if L[i]?.getD [] = [] then N + 1 + i else g i
theorem room_canon {H : Heap} {cs : List Int} {L : List (List Int)} {M a : Nat} {g : Nat → Nat} {vs : List Value} {cA : AVal} {m : Nat} (hm : m = L.length) (hcA : Lss cA (oA a 1 cs.length)) (hM : obj H M = some (1, rowsI g L))
    (ha : cs ≠ [] → obj H a = some (1, cs.map (irow .u8)) ∧ a ≠ M ∧ ∀ (j : Nat) (h : j < L.length), L[j] ≠ [] → g j ≠ a)
    (hg : ∀ (j : Nat) (h : j < L.length), L[j] ≠ [] → obj H (g j) = some (1, L[j].map (irow .i64)) ∧ g j ≠ M)
    (hi : ∀ (j k : Nat) (h1 : j < L.length) (h2 : k < L.length), L[j] ≠ [] → L[k] ≠ [] → g j = g k → j = k) :
    Ent 0 ([(0, .tup (rmV ⟨cs, L⟩ :: vs.map .v))], rmH ⟨cs, L⟩) ([(0, .tup (.agg [cA, .osl M 1 0 m m] :: vs.map .v))], H) := by
  subst hm
  have hvs : ∀ th, renC 0 th (vs.map .v) = vs.map .v := fun th => by
    rw [renC_map, List.map_map]
    apply List.map_congr_left
    intro a _; rfl
  have hvl : ∀ N, lowC N (vs.map .v) = true := fun N => by
    rw [lowC_all, List.all_eq_true]
    intro x hx
    obtain ⟨v, _, rfl⟩ := List.mem_map.1 hx
    rfl
  have hMl := ob_lt hM
  have hal : cs ≠ [] → a < H.length := fun e => ob_lt (ha e).1
  have hgl : ∀ (j : Nat) (h : j < L.length), L[j] ≠ [] → g j < H.length := fun j h e => ob_lt (hg j h e).1
  have t0 : cs ≠ [] → thOf 0 (thI a M g cs L H.length) 0 = a := fun e => by simp [thOf, thI, e]
  have t1 : thOf 0 (thI a M g cs L H.length) 1 = M := by simp [thOf, thI]
  have t2 : ∀ (j : Nat) (h : j < L.length), L[j] ≠ [] → thOf 0 (thI a M g cs L H.length) (j + 2) = g j := fun j h e => by simp [thOf, thI, h, e]
  have h1 : Lss (.tup (.agg [cA, .osl M 1 0 L.length L.length] :: vs.map .v)) (.tup (.agg [oA a 1 cs.length, .osl M 1 0 L.length L.length] :: vs.map .v)) := by
    refine @lss_tup _ _ rfl fun j x r hx hr => ?_
    match j, hx, hr with
    | 0, hx, hr =>
      simp at hx hr; subst hx hr
      refine @lss_agg _ _ rfl fun j x r hx hr => ?_
      match j, hx, hr with
      | 0, hx, hr => simp at hx hr; subst hx hr; exact @hcA
      | 1, hx, hr => simp at hx hr; subst hx hr; exact @Lss.refl _
      | j + 2, hx, hr => simp at hx
    | j + 1, hx, hr =>
      simp only [List.getElem?_cons_succ] at hx hr
      rw [hx] at hr; cases hr
      exact @Lss.refl _
  refine Ent.trans (Ent.weakT (th := thI a M g cs L H.length) (s := ([(0, .tup (.agg [oA a 1 cs.length, .osl M 1 0 L.length L.length] :: vs.map .v))], H)) ⟨⟨Nat.zero_le _, Nat.zero_le _⟩, ⟨?_, by simp [thI, rmH, inL, ownH_len] <;> omega, fun _ _ => Nat.zero_le _⟩, ?_, ?_⟩)
    (.trans (Ent.env (ρ := [(0, .tup (.agg [oA a 1 cs.length, .osl M 1 0 L.length L.length] :: vs.map .v)), (0, .tup (.agg [cA, .osl M 1 0 L.length L.length] :: vs.map .v))]) (by simp [AI.look])) (Ent.slotL (t := 0) (by simp only [AI.look, if_true]; exact @h1)))
  · unfold thI
    rw [List.nodup_cons, List.nodup_cons]
    refine ⟨fun h => ?_, fun h => ?_, ?_⟩
    · rcases List.mem_cons.1 h with h | h
      · split at h
        · omega
        · rename_i e; exact (ha e).2.1 h
      · obtain ⟨j, hj, e⟩ := List.mem_map.1 h
        have hjl : j < L.length := List.mem_range.1 hj
        simp only [List.getElem?_eq_getElem hjl, Option.getD_some] at e
        split at e <;> split at e
        · omega
        · rename_i e1 e2; have := hal e2; omega
        · rename_i e1 e2; have := hgl j hjl e1; omega
        · rename_i e1 e2; exact (ha e2).2.2 j hjl e1 e
    · obtain ⟨j, hj, e⟩ := List.mem_map.1 h
      have hjl : j < L.length := List.mem_range.1 hj
      simp only [List.getElem?_eq_getElem hjl, Option.getD_some] at e
      split at e
      · omega
      · rename_i e1; exact (hg j hjl e1).2 e
    · unfold List.Nodup
      rw [List.pairwise_map, List.pairwise_iff_getElem]
      intro p q hp hq hpq e
      simp only [List.length_range] at hp hq
      simp only [List.getElem_range, List.getElem?_eq_getElem hp, List.getElem?_eq_getElem hq, Option.getD_some] at e
      by_cases ea : L[p] = [] <;> by_cases eb : L[q] = [] <;> simp only [ea, eb, if_true, if_false] at e
      · omega
      · have := hgl q hq eb; omega
      · have := hgl p hp ea; omega
      · have := hi p q hp hq ea eb e; omega
  · intro p hp
    simp only [List.mem_singleton] at hp
    subst hp
    refine ⟨?_, ?_⟩
    · simp only [rmV, ren, renC, hvs, t1]
      rw [oA_ren (m := a) (fun e => t0 fun q => e (by rw [q]; rfl))]
      rfl
    · simp only [rmV, lowA, lowC, hvl, Bool.and_true, Bool.and_eq_true, decide_eq_true_eq]
      exact ⟨oA_low' fun _ => by simp [rmH], by simp [rmH]⟩
  · simp only [rmH]
    have hrest : heapT 0 (thI a M g cs L H.length) (rmH ⟨cs, L⟩).length H 1 (some (1, ownR 1 2 L) :: inL L) := by
      simp only [heapT]
      refine ⟨?_, ?_, heapT_inL L 2 fun j h e => ?_⟩
      · rw [t1, obj_get hM]
        congr 3
        apply List.ext_getElem?
        intro i
        rw [List.getElem?_map]
        by_cases h : i < L.length
        · rw [rowsI_get h, ownR_get h]
          simp only [Option.map_some, List.map_cons, List.map_nil]
          rw [oA_ren (m := g i) (fun e => t2 i h fun q => e (by rw [q]; rfl))]
        · rw [List.getElem?_eq_none (by rw [rowsI_len]; omega), List.getElem?_eq_none (by rw [ownR_len]; omega)]; rfl
      · exact ownR_low (by simp [rmH, inL, ownH_len])
      · rw [Nat.add_comm 2 j, t2 j h e]; exact obj_get (hg j h e).1
    by_cases e : cs = []
    · have hT : oT 1 (cs.map (irow .u8)) = none := by simp [oT, e]
      simp only [rmH, hT, heapT, Nat.zero_add, Nat.reduceAdd] at hrest ⊢
      exact hrest
    · have hT : oT 1 (cs.map (irow .u8)) = some (1, cs.map (irow .u8)) := by simp [oT, e]
      simp only [rmH, hT, heapT, Nat.zero_add, Nat.reduceAdd] at hrest ⊢
      refine ⟨?_, ?_, hrest⟩
      · rw [t0 e, obj_get (ha e).1]
        congr 3
        rw [List.map_map]
        apply List.map_congr_left
        intro x _
        simp [irow, ren]
      · simp [irow, lowA]
theorem room_canon' {H : Heap} {cs : List Int} {L : List (List Int)} {M a : Nat} (g : Nat → Nat) (vs : List Value) {cA : AVal} {m m2 n : Nat} (hm : m = L.length) (hm2 : m2 = L.length) (hn : n = cs.length) (hcA : Lss cA (oA a 1 cs.length)) (hM : obj H M = some (1, rowsI g L))
    (ha : cs ≠ [] → obj H a = some (1, cs.map (irow .u8)) ∧ a ≠ M ∧ ∀ (j : Nat) (h : j < L.length), L[j] ≠ [] → g j ≠ a)
    (hg : ∀ (j : Nat) (h : j < L.length), L[j] ≠ [] → obj H (g j) = some (1, L[j].map (irow .i64)) ∧ g j ≠ M)
    (hi : ∀ (j k : Nat) (h1 : j < L.length) (h2 : k < L.length), L[j] ≠ [] → L[k] ≠ [] → g j = g k → j = k) :
    Ent 0 ([(0, .tup (.agg [oA 0 1 n, .osl 1 1 0 m2 m2] :: vs.map .v))], rmH ⟨cs, L⟩) ([(0, .tup (.agg [cA, .osl M 1 0 m m] :: vs.map .v))], H) := by
  have := room_canon (vs := vs) hm hcA hM ha hg hi
  subst hm hn hm2
  exact this
theorem rowsI_same {g : Nat → Nat} {L : List (List Int)} {k : Nat} {l : List Int} (h : ∀ hk : k < L.length, l.length = L[k].length) : rowsI g (L.set k l) = rowsI g L := by
  apply List.ext_getElem?
  intro i
  by_cases hi : i < L.length
  · rw [rowsI_get (by simpa using hi), rowsI_get hi]
    by_cases e : i = k
    · subst e; simp [h hi]
    · rw [List.getElem_set_ne (fun h => e h.symm)]
  · rw [List.getElem?_eq_none (by rw [rowsI_len, List.length_set]; omega), List.getElem?_eq_none (by rw [rowsI_len]; omega)]
end
section
set_option maxHeartbeats 2000000
set_option maxRecDepth 100000
set_option linter.unusedSimpArgs false
set_option linter.unusedVariables false
attribute [local simp] wpA wpX RunA RunD runF foot footP footB idsA bare apart runL step1 gsel_f gsel_t gsel_s res_same res_and1 res_and2 res_and3 res_and4 res_and5 res_and6 res_false res_true res_v res_ptr res_fptr res_osl res_xsl soft aAppendZ aCap ovlI ovlJ res_fsl res_esl res_agg res_tup res_fn res_junk res_anyb aPick hk imp_left iteV dstOk guardOk astep astepE AI.ev AI.look AI.put envOf aBox cellsOf allOne allOneA oneA Value.oneCell' Value.cells newObj' aFieldAddr aLoad obj readAt thenA blockA condA retA resA tupA view hot hotC hotR depthV cAgg cInt cBool mkAgg allV aAlloc aBuild fillA writeAt aStore isAggA aField idx aIndexAddr aIndex bnd aSlice aExtract aLen aBuiltin aCall isStatic eqAgg eqTy eqC ev_add ev_sub ev_mul ev_quo ev_rem ev_and ev_or ev_xor ev_andNot ev_shl ev_shr ev_eql ev_neq ev_lss ev_leq ev_gtr ev_geq ev_agg w64 wu32 wu8 ev_not ev_neg Cod.plain RCod.plain argM finM cold coldC coldR goInt intDec boolDec aggDec Weaker heapW lowA lowC Again slDec undef aBuildSlice setRows aAppend rowsOf aMakeSlice aClear aCopy softer_self softer_nil valsOf ev_min2 ev_max2 hotR_set hotR_append take_map_set irow_cold irow_mapM irow_mapMc irow_view irow_viewc irow_hotR irow_ren irow_renc irow_low WeakT heapT thOf ren renC AgainT NextF NextT fnDec cFn rNil selfLt natLt0 natLt1 getLastMap frame0 frame1 own0 own1 argG finG tau tauI tauO tauC bareA bareC bareH irow_tau irow_tauc irow_bare irow_flat irow_bareR ownA_nil ownT_nil ownA_c ownT_c ownA_s ownT_s takeMapLen footC plainA noId noIdC cloneF frame0F frame1F insertF replaceI replaceF cellDec rCell fpDec cFp rTwo deleteF allV_oA oneA_oA res_oA RunR RunE runFT footAt hotR_cat tmodN aEqH aSliceA frameN newA newC newH fxSz3 fxBy3 fxAg3 fxZe3 fxSl3 fxSz4 fxBy4 fxAg4 fxZe4 fxSz5 fxBy5 fxAg5 fxZe5 fxSz33 fxAg33 fxZe33 fxAr33 fxPl33 fxSz111 fxAg111 fxZe111 fxSl111 fxAr111 fxSz112 fxBy112 fxAg112 fxZe112 fxSl112 fxAr112 fxSz135 fxAg135 fxZe135 fxSl135 fxAr135 fxSz137 fxBy137 fxAg137 fxZe137 fxFi137x0 fxFi137x1 fxFi137x2 fxPl137 fxSz138 fxAg138 fxZe138 fxSl138 fxAr138 fxSz140 fxAg140 fxZe140 fxFi140x0 fxFi140x1 fxPl140 fxSz141 fxAg141 fxZe141 fxSl141 fxAr141 fxSz146 fxBy146 fxAg146 fxZe146 fxFi146x0 fxPl146 fxZe165 fxAr165 fxPl165 fxZe166 fxAr166 fxPl166 fxZe167 fxAr167 fxPl167 fxSz296 fxAg296 fxZe296 fxAr296 fxPl296 fxSl308 fxAr308 fxEq137 fxEq146 fxEq296 fxCv3x283 fxCv283x3 fxEb4 fxNe111 fxOe111 fxXe111 fxNe112 fxOe112 fxXe112 fxNe135 fxOe135 fxXe135 fxLn138 fxNe138 fxOe138 fxXe138 fxNe141 fxOe141 fxXe141 fxFm46 fxFi46 fxFm48 fxFi48 fxFm57 fxFi57 fxFm58 fxFi58 fxFm59 fxFi59 fxFm60 fxFm61 fxFm62 fxFi63 fxFj63 fxFm64 fxFi64 fxFm65 fxFi65 fxFm66 fxFi66 fxFm67 fxFi67 fxFm68 fxFi68 fxFm69 fxFi69 fxFm70 fxFm71 fxFm72 fxFm73 fxFm74 fxFm75 fxFi75 fxFm76 fxFm77 fxFi77 fxFm133 fxFi133 fxFm136 fxFi136 fxFm137 fxFi137 fxFm138 fxFi138 fxFm139 fxFi139 fxFj139 fxFm140 fxFm141 fxFm142 fxFm143 fxFi143 fxFm144 fxFm145 fxFi145 fxFm146 fxFm147 fxFi147 fxFm148 fxFi148 fxFm149 fxFi149 fxFm150 fxFi150 fxFm185 fxFi185 fxFm186 fxFi186 fxFm187 fxFi187 fxFm188 fxFi188 fxFm189 fxFi189 fxFm190 fxFi190 fxFm191 fxFm195 fxFi195 fxFm196 fxFm206 fxFi206 fxFm218 fxFi218 fxFm232 fxFi232
section
attribute [local simp] rSp_sz spR_cold spR_dec spR_mapM spR_mapMc spR_view spR_viewc spR_hotR spR_ren spR_renc spR_low spR_get spR_len Room.eta Room.dec_row Room.dec_hrow
attribute [local simp] cp_bare cp_bareH cp_tau cp_tauO
def rvU (q : Bool × Room × List Value) : AVal × Heap :=
  (.tup (.agg [oA 0 1 q.2.1.cells.length, okL q.1 1 1 q.2.1.spaces.length] :: q.2.2.map .v), if q.1 = true then rmH q.2.1 else [none])
def fkX : Except Int Room → Bool × Room × List Value
  | .ok r => (true, r, [.int .i64 0])
  | .error e => (false, ⟨[], []⟩, [.int .i64 e])
def wrX : Except Int (Room × Bool) → Bool × Room × List Value
  | .ok r => (true, r.1, [.bool r.2, .int .i64 0])
  | .error e => (false, ⟨[], []⟩, [.bool false, .int .i64 e])
theorem rm0 : Lss (.v (.agg #[.slice none 0 0, .slice none 0 0])) (.agg [.esl, .esl]) :=
  (Lss.vals (vs := [.slice none 0 0, .slice none 0 0]) rfl (fun j v r hv hr => by
    match j, hv, hr with
    | 0, hv, hr => simp at hv hr; subst hv hr; exact @Lss.nil_esl'
    | 1, hv, hr => simp at hv hr; subst hv hr; exact @Lss.nil_esl'
    | j + 2, hv, hr => simp at hv)).2
theorem rm_err {a : Value} {H : Heap} : Ent 0 ([(0, (rvU (false, ⟨[], []⟩, [a])).1)], (rvU (false, ⟨[], []⟩, [a])).2) ([(0, .v (.tuple #[.agg #[.slice none 0 0, .slice none 0 0], a]))], H) := by
  refine ent_err ?_ rfl
  exact (Lss.vals (vs := [.agg #[.slice none 0 0, .slice none 0 0], a]) rfl (fun j v r hv hr => by
    match j, hv, hr with
    | 0, hv, hr => simp at hv hr; subst hv hr; exact @rm0
    | 1, hv, hr => simp at hv hr; subst hv hr; exact @Lss.refl _
    | j + 2, hv, hr => simp at hv)).1
theorem rm_err3 {a b : Value} {H : Heap} : Ent 0 ([(0, (rvU (false, ⟨[], []⟩, [a, b])).1)], (rvU (false, ⟨[], []⟩, [a, b])).2) ([(0, .v (.tuple #[.agg #[.slice none 0 0, .slice none 0 0], a, b]))], H) := by
  refine ent_err ?_ rfl
  exact (Lss.vals (vs := [.agg #[.slice none 0 0, .slice none 0 0], a, b]) rfl (fun j v r hv hr => by
    match j, hv, hr with
    | 0, hv, hr => simp at hv hr; subst hv hr; exact @rm0
    | 1, hv, hr => simp at hv hr; subst hv hr; exact @Lss.refl _
    | 2, hv, hr => simp at hv hr; subst hv hr; exact @Lss.refl _
    | j + 3, hv, hr => simp at hv)).1
/-- the spaces as they were, one behind them -/
theorem rowsI_snoc {c P : Nat} {sp : List (List Int)} {l : List Int} : ownR 1 c sp ++ [[oA P 1 l.length]] = rowsI (fun i => if i < sp.length then i + c else P) (sp ++ [l]) := by
  apply List.ext_getElem?
  intro i
  rcases Nat.lt_trichotomy i sp.length with h | h | h
  · rw [List.getElem?_append_left (by rw [ownR_len]; exact h), ownR_get h, rowsI_get (by simp; omega), if_pos h, List.getElem_append_left h]
  · subst h
    rw [List.getElem?_append_right (by rw [ownR_len]; exact Nat.le_refl _), ownR_len, rowsI_get (by simp), if_neg (Nat.lt_irrefl _)]
    simp
  · rw [List.getElem?_append_right (by rw [ownR_len]; omega), ownR_len, List.getElem?_eq_none (by simp; omega), List.getElem?_eq_none (by rw [rowsI_len]; simp; omega)]
theorem fork_own : InlOk Try.prog 72 (own0 (argG (cAgg rRoom) fun q => argG (cInt .i64) fun s => finG (some (rvU (fkX (cowFork q s)))))) := by
  refine ownE_2 Try.func72 rfl ?_
  rintro q s r H' hr
  simp only [Option.some.injEq, Prod.mk.injEq] at hr
  obtain ⟨rfl, rfl⟩ := hr
  refine bodyE_of ((((noOrc_ok.withP cowSp_pure).withIF cpy_inl frame0_loc).withIF clInt clone_loc).withD (fun i => if i = 7 then [(1,7),(1,8)] else [])) fxMix (by kernel_rfl) (by simp [Try.ntmps72]) ?_
  intro C cP cI cN cD cF cA cR cL
  have cp0 := orcP cowSp_pure (C := C) (by rw [cP]; rfl)
  have cn0 := orcI cpy_inl (C := C) (by rw [cN]; rfl)
  have cn1 := orcI clInt (C := C) (by rw [cN]; rfl)
  replace cI := fun g => congrFun cI g
  simp only [Orc.withP, Orc.withI, Orc.withF, Orc.withD, Orc.withA, Orc.withR, Orc.withC, noOrc] at cI
  replace cR : C.rd = fun _ => none := cR
  replace cD : C.dyn = fun i => if i = 7 then [(1,7),(1,8)] else [] := cD
  replace cF := fun g => congrFun cF g
  simp only [Orc.withP, Orc.withI, Orc.withF, Orc.withD, Orc.withA, Orc.withR, Orc.withC, noOrc] at cF
  replace cA : C.alt = fun _ => [] := cA
  clear cP cN
  obtain ⟨cs, sp⟩ := q
  unfold cowFork
  simp only
  by_cases h0 : cowSp ⟨cs, sp⟩ s = 0
  case neg =>
    simp [Try.ntmps72, Try.results72, cSl, cp0, cn0, cn1, cI, cD, cR, cF, cA, rI, rRoom, roomDec, Room.row, h0, fkX]
    exact rm_err
  obtain ⟨hck, k, rfl, hk⟩ := sp_ok h0
  obtain ⟨⟨g1, g2⟩, g3, g4⟩ := cow_ok hck
  simp only at hk g1 g2 g3 g4
  by_cases h8 : sp.length = 8
  · have h8' : (sp.length : Int) = 8 := by omega
    simp [Try.ntmps72, Try.results72, cSl, cp0, cn0, cn1, cI, cD, cR, cF, cA, rI, rRoom, roomDec, Room.row, h0, h8, h8', fkX]
    exact rm_err
  have h8' : ¬ (sp.length : Int) = 8 := by omega
  have hcond : (∀ l, l ∈ sp → l.length ≤ 8) = True := eq_true fun l hl => (g3 l hl).1
  rw [if_pos h0, if_neg h8]
  have hgk : (sp[((k : Nat) : Int).toNat]?.getD []) = sp[k] := by simp [hk]
  rw [hgk]
  simp [Try.ntmps72, Try.results72, cSl, cp0, cn0, cn1, cI, cD, cR, cF, cA, rI, rRoom, roomDec, Room.row, h0, h8, h8', g1, g2, hcond]
  have hne0 : ¬ sp.length = 0 := by omega
  have hne : ¬ sp = [] := fun e => hne0 (by rw [e]; rfl)
  have hA5 : oA 5 1 sp.length = .osl 5 1 0 sp.length sp.length := oA_pos hne0
  have hO5 : oT 1 (ownR 1 6 sp) = some (1, ownR 1 6 sp) := oT_pos (ownR_ne hne)
  have hg2 : (ownR 1 6 sp)[k]'(by rw [ownR_len]; exact hk) = [oA (k + 6) 1 sp[k].length] := by
    have := ownR_get (sz := 1) (c := 6) hk
    rw [List.getElem?_eq_getElem (by rw [ownR_len]; exact hk)] at this
    simpa using this
  have hgH := ownH_get (sz := 1) (g := irow .i64) hk
  have n1 : ¬ sp.length + 1 ≤ sp.length := by omega
  have n2 : sp.length + 1 ≤ 4294967296 := by omega
  have n3 : ¬ sp.length + 1 < sp.length := by omega
  have hl8 : sp[k].length ≤ 4294967296 := by have := (g3 _ (List.getElem_mem hk)).1; omega
  by_cases hcs : cs = []
  · have hA4 : oA 4 1 cs.length = .esl := by simp [oA, hcs]
    have hT4 : oT 1 (cs.map (irow .u8)) = none := by simp [oT, hcs]
    have hin : ∀ (a b c d e f : Option (Nat × List Row)) (LL : Heap) (i : Nat) (hi : i < sp.length), sp[i] ≠ [] → obj (a :: b :: c :: d :: e :: f :: (ownH 1 (irow .i64) sp ++ LL)) (i + 6) = some (1, sp[i].map (irow .i64)) := fun a b c d e f LL i hi hnz => by
      have h1 := ownH_get (sz := 1) (g := irow .i64) hi
      have h2 : ∀ LL : Heap, (ownH 1 (irow .i64) sp ++ LL)[i]? = some (oT 1 (sp[i].map (irow .i64))) := fun LL => by
        rw [List.getElem?_append_left (by rw [ownH_len]; exact hi)]; exact h1
      simp [obj, h1, h2, oT, hnz]
    by_cases hz : sp[k] = []
    · have hA6 : oA (k + 6) 1 sp[k].length = .esl := by simp [oA, hz]
      have hP : oA 0 1 sp[k].length = .esl := by simp [oA, hz]
      simp [Try.ntmps72, Try.results72, cSl, cp0, cn0, cn1, cI, cD, cR, cF, cA, cpVal, cpHeap, hA4, hT4, hA5, hO5, hg2, hA6, ownR_len, ownH_len, hk, cloneI, hne0, n1, n2, fkX, rvU, okL]
      refine room_canon' (a := 4) (fun i => if i < sp.length then i + 6 else 0) [.int .i64 0] (by simp) (by simp) rfl (by rw [hcs]; exact @Lss.refl _) ?_ (fun e => absurd hcs e) (fun j h e => ?_) (fun j q h1 h2 ea eb hab => ?_)
      · rw [← rowsI_snoc, hP]
        simp [obj, ownH_len, List.getElem?_append_right]
      · by_cases hj : j < sp.length
        · rw [List.getElem_append_left hj] at e ⊢
          simp only [if_pos hj]
          exact ⟨hin _ _ _ _ _ _ _ j hj e, by omega⟩
        · have hjl : j = sp.length := by simp at h; omega
          subst hjl
          rw [List.getElem_append_right (Nat.le_refl _)] at e
          simp at e
          exact absurd hz e
      · have hne2 : ∀ (i : Nat) (h : i < (sp ++ [sp[k]]).length), (sp ++ [sp[k]])[i] ≠ [] → i < sp.length := fun i h e => by
          apply Classical.byContradiction
          intro hn
          have hil : i = sp.length := by simp at h; omega
          subst hil
          rw [List.getElem_append_right (Nat.le_refl _)] at e
          simp at e
          exact e hz
        have w1 := hne2 j h1 ea
        have w2 := hne2 q h2 eb
        try simp only at hab
        rw [if_pos w1, if_pos w2] at hab
        omega
    · have hA6 : oA (k + 6) 1 sp[k].length = .osl (k + 6) 1 0 sp[k].length sp[k].length := oA_pos (fun e => hz (List.length_eq_zero_iff.1 e))
      have hT6 : oT 1 (sp[k].map (irow .i64)) = some (1, sp[k].map (irow .i64)) := oT_pos (by simpa using hz)
      have hgH2 : (ownH 1 (irow .i64) sp)[k]'(by rw [ownH_len]; exact hk) = some (1, sp[k].map (irow .i64)) := by
        rw [List.getElem?_eq_getElem (by rw [ownH_len]; exact hk), hT6] at hgH
        simpa using hgH
      have hz0 : ¬ sp[k].length = 0 := fun e => hz (List.length_eq_zero_iff.1 e)
      have hP : oA (sp.length + 1 + 1 + 1 + 1 + 1 + 1) 1 sp[k].length = .osl (sp.length + 1 + 1 + 1 + 1 + 1 + 1) 1 0 sp[k].length sp[k].length := oA_pos hz0
      simp [Try.ntmps72, Try.results72, cSl, cp0, cn0, cn1, cI, cD, cR, cF, cA, cpVal, cpHeap, hA4, hT4, hA5, hO5, hg2, hA6, hgH2, ownR_len, ownH_len, hk, cloneI, hne0, n1, n2, n3, hl8, hz, hz0, fkX, rvU, okL]
      refine room_canon' (a := 4) (fun i => if i < sp.length then i + 6 else sp.length + 1 + 1 + 1 + 1 + 1 + 1) [.int .i64 0] (by simp) (by simp) rfl (by rw [hcs]; exact @Lss.refl _) ?_ (fun e => absurd hcs e) (fun j h e => ?_) (fun j q h1 h2 ea eb hab => ?_)
      · rw [← rowsI_snoc, hP]
        simp [obj, ownH_len, List.getElem?_append_right]
      · by_cases hj : j < sp.length
        · rw [List.getElem_append_left hj] at e ⊢
          simp only [if_pos hj]
          exact ⟨hin _ _ _ _ _ _ _ j hj e, by omega⟩
        · have hjl : j = sp.length := by simp at h; omega
          subst hjl
          rw [List.getElem_append_right (Nat.le_refl _)]
          simp only [Nat.lt_irrefl, if_false]
          refine ⟨?_, by omega⟩
          simp [obj, ownH_len, List.getElem?_append_right]
      · have hjl : j < sp.length + 1 := by simpa using h1
        have hkl : q < sp.length + 1 := by simpa using h2
        try simp only at hab
        split at hab <;> split at hab <;> omega
  · have hA4 : oA 4 1 cs.length = .osl 4 1 0 cs.length cs.length := oA_pos (fun e => hcs (List.length_eq_zero_iff.1 e))
    have hT4 : oT 1 (cs.map (irow .u8)) = some (1, cs.map (irow .u8)) := oT_pos (by simpa using hcs)
    have hin : ∀ (a b c d e f : Option (Nat × List Row)) (LL : Heap) (i : Nat) (hi : i < sp.length), sp[i] ≠ [] → obj (a :: b :: c :: d :: e :: f :: (ownH 1 (irow .i64) sp ++ LL)) (i + 6) = some (1, sp[i].map (irow .i64)) := fun a b c d e f LL i hi hnz => by
      have h1 := ownH_get (sz := 1) (g := irow .i64) hi
      have h2 : ∀ LL : Heap, (ownH 1 (irow .i64) sp ++ LL)[i]? = some (oT 1 (sp[i].map (irow .i64))) := fun LL => by
        rw [List.getElem?_append_left (by rw [ownH_len]; exact hi)]; exact h1
      simp [obj, h1, h2, oT, hnz]
    by_cases hz : sp[k] = []
    · have hA6 : oA (k + 6) 1 sp[k].length = .esl := by simp [oA, hz]
      have hP : oA 0 1 sp[k].length = .esl := by simp [oA, hz]
      simp [Try.ntmps72, Try.results72, cSl, cp0, cn0, cn1, cI, cD, cR, cF, cA, cpVal, cpHeap, hA4, hT4, hA5, hO5, hg2, hA6, ownR_len, ownH_len, hk, cloneI, hne0, n1, n2, fkX, rvU, okL]
      refine room_canon' (a := 4) (fun i => if i < sp.length then i + 6 else 0) [.int .i64 0] (by simp) (by simp) rfl (by rw [hA4]; exact @Lss.refl _) ?_ (fun _ => ⟨by simp [obj], by omega, fun j h e => by (try simp only) <;> split <;> omega⟩) (fun j h e => ?_) (fun j q h1 h2 ea eb hab => ?_)
      · rw [← rowsI_snoc, hP]
        simp [obj, ownH_len, List.getElem?_append_right]
      · by_cases hj : j < sp.length
        · rw [List.getElem_append_left hj] at e ⊢
          simp only [if_pos hj]
          exact ⟨hin _ _ _ _ _ _ _ j hj e, by omega⟩
        · have hjl : j = sp.length := by simp at h; omega
          subst hjl
          rw [List.getElem_append_right (Nat.le_refl _)] at e
          simp at e
          exact absurd hz e
      · have hne2 : ∀ (i : Nat) (h : i < (sp ++ [sp[k]]).length), (sp ++ [sp[k]])[i] ≠ [] → i < sp.length := fun i h e => by
          apply Classical.byContradiction
          intro hn
          have hil : i = sp.length := by simp at h; omega
          subst hil
          rw [List.getElem_append_right (Nat.le_refl _)] at e
          simp at e
          exact e hz
        have w1 := hne2 j h1 ea
        have w2 := hne2 q h2 eb
        try simp only at hab
        rw [if_pos w1, if_pos w2] at hab
        omega
    · have hA6 : oA (k + 6) 1 sp[k].length = .osl (k + 6) 1 0 sp[k].length sp[k].length := oA_pos (fun e => hz (List.length_eq_zero_iff.1 e))
      have hT6 : oT 1 (sp[k].map (irow .i64)) = some (1, sp[k].map (irow .i64)) := oT_pos (by simpa using hz)
      have hgH2 : (ownH 1 (irow .i64) sp)[k]'(by rw [ownH_len]; exact hk) = some (1, sp[k].map (irow .i64)) := by
        rw [List.getElem?_eq_getElem (by rw [ownH_len]; exact hk), hT6] at hgH
        simpa using hgH
      have hz0 : ¬ sp[k].length = 0 := fun e => hz (List.length_eq_zero_iff.1 e)
      have hP : oA (sp.length + 1 + 1 + 1 + 1 + 1 + 1) 1 sp[k].length = .osl (sp.length + 1 + 1 + 1 + 1 + 1 + 1) 1 0 sp[k].length sp[k].length := oA_pos hz0
      simp [Try.ntmps72, Try.results72, cSl, cp0, cn0, cn1, cI, cD, cR, cF, cA, cpVal, cpHeap, hA4, hT4, hA5, hO5, hg2, hA6, hgH2, ownR_len, ownH_len, hk, cloneI, hne0, n1, n2, n3, hl8, hz, hz0, fkX, rvU, okL]
      refine room_canon' (a := 4) (fun i => if i < sp.length then i + 6 else sp.length + 1 + 1 + 1 + 1 + 1 + 1) [.int .i64 0] (by simp) (by simp) rfl (by rw [hA4]; exact @Lss.refl _) ?_ (fun _ => ⟨by simp [obj], by omega, fun j h e => by (try simp only) <;> split <;> omega⟩) (fun j h e => ?_) (fun j q h1 h2 ea eb hab => ?_)
      · rw [← rowsI_snoc, hP]
        simp [obj, ownH_len, List.getElem?_append_right]
      · by_cases hj : j < sp.length
        · rw [List.getElem_append_left hj] at e ⊢
          simp only [if_pos hj]
          exact ⟨hin _ _ _ _ _ _ _ j hj e, by omega⟩
        · have hjl : j = sp.length := by simp at h; omega
          subst hjl
          rw [List.getElem_append_right (Nat.le_refl _)]
          simp only [Nat.lt_irrefl, if_false]
          refine ⟨?_, by omega⟩
          simp [obj, ownH_len, List.getElem?_append_right]
      · have hjl : j < sp.length + 1 := by simpa using h1
        have hkl : q < sp.length + 1 := by simpa using h2
        try simp only at hab
        split at hab <;> split at hab <;> omega
theorem fork_inl : InlOk Try.prog 72 (frame0 (own0 (argG (cAgg rRoom) fun q => argG (cInt .i64) fun s => finG (some (rvU (fkX (cowFork q s))))))) := frame0_ok fork_own
theorem write_own : InlOk Try.prog 73 (own0 (argG (cAgg rRoom) fun q => argG (cInt .i64) fun s => argG (cInt .i64) fun p => argG (cInt .u8) fun b => finG (some (rvU (wrX (cowWrite q s p b)))))) := by
  refine ownE_4 Try.func73 rfl ?_
  rintro q s p b r H' hr
  simp only [Option.some.injEq, Prod.mk.injEq] at hr
  obtain ⟨rfl, rfl⟩ := hr
  refine bodyE_of (((noOrc_ok.withP cowSp_pure).withP many_pure).withIF cpy_inl frame0_loc) fxMix (by kernel_rfl) (by simp [Try.ntmps73]) ?_
  intro C cP cI cN cD cF cA cR cL
  have cp0 := orcP cowSp_pure (C := C) (by rw [cP]; rfl)
  have ch0 := orcP many_pure (C := C) (by rw [cP]; rfl)
  have cn0 := orcI cpy_inl (C := C) (by rw [cN]; rfl)
  replace cI := fun g => congrFun cI g
  simp only [Orc.withP, Orc.withI, Orc.withF, Orc.withD, Orc.withA, Orc.withR, Orc.withC, noOrc] at cI
  replace cR : C.rd = fun _ => none := cR
  replace cD : C.dyn = fun _ => [] := cD
  clear cP cN cF cA
  obtain ⟨cs, sp⟩ := q
  unfold cowWrite
  simp only
  by_cases h0 : cowSp ⟨cs, sp⟩ s = 0
  case neg =>
    simp [Try.ntmps73, Try.results73, cSl, cp0, cn0, cI, cD, cR, rI, rRoom, roomDec, Room.row, h0, wrX]
    exact rm_err3
  obtain ⟨hck, k, rfl, hk⟩ := sp_ok h0
  obtain ⟨⟨g1, g2⟩, g3, g4⟩ := cow_ok hck
  simp only at hk g1 g2 g3 g4
  rw [if_pos h0]
  have hgk : (sp[((k : Nat) : Int).toNat]?.getD []) = sp[k] := by simp [hk]
  rw [hgk, Int.toNat_natCast]
  have hg0 : (sp.map (spR false))[k]? = some (spR false sp[k]) := by simp [hk]
  by_cases h8 : p < 0
  · rw [if_pos (.inl h8)]
    simp [Try.ntmps73, Try.results73, cSl, cp0, cn0, cI, cD, cR, rI, rRoom, roomDec, Room.row, h0, hk, h8, wrX]
    exact rm_err3
  by_cases h9 : (sp[k].length : Int) ≤ p
  · rw [if_pos (.inr h9)]
    simp [Try.ntmps73, Try.results73, cSl, cp0, cn0, cI, cD, cR, rI, rRoom, roomDec, Room.row, h0, hk, h8, h9, wrX]
    exact rm_err3
  rw [if_neg (by omega)]
  have hcond : (∀ l, l ∈ sp → l.length ≤ 8) = True := eq_true fun l hl => (g3 l hl).1
  simp [Try.ntmps73, Try.results73, cSl, cp0, cn0, cI, cD, cR, rI, rRoom, roomDec, Room.row, h0, hk, h8, h9, g1, g2, hcond]
  obtain ⟨j, rfl⟩ := Int.eq_ofNat_of_zero_le (show 0 ≤ p by omega)
  have hj : j < sp[k].length := by omega
  have hz : ¬ sp[k] = [] := fun e => by rw [e] at hj; simp at hj
  have hx := (g3 _ (List.getElem_mem hk)).2 _ (List.getElem_mem hj)
  have hcs : ¬ cs = [] := fun e => by rw [e] at hx; simp at hx; omega
  have hA4 : oA 4 1 cs.length = .osl 4 1 0 cs.length cs.length := oA_pos (fun e => hcs (List.length_eq_zero_iff.1 e))
  have hT4 : oT 1 (cs.map (irow .u8)) = some (1, cs.map (irow .u8)) := oT_pos (by simpa using hcs)
  have hne0 : ¬ sp.length = 0 := by omega
  have hne : ¬ sp = [] := fun e => hne0 (by rw [e]; rfl)
  have hA5 : oA 5 1 sp.length = .osl 5 1 0 sp.length sp.length := oA_pos hne0
  have hO5 : oT 1 (ownR 1 6 sp) = some (1, ownR 1 6 sp) := oT_pos (ownR_ne hne)
  have hg2 : (ownR 1 6 sp)[k]'(by rw [ownR_len]; exact hk) = [oA (k + 6) 1 sp[k].length] := by
    have := ownR_get (sz := 1) (c := 6) hk
    rw [List.getElem?_eq_getElem (by rw [ownR_len]; exact hk)] at this
    simpa using this
  have hgH := ownH_get (sz := 1) (g := irow .i64) hk
  have n3 : ¬ sp.length + 1 < sp.length := by omega
  have hl8 : sp[k].length ≤ 4294967295 := by have := (g3 _ (List.getElem_mem hk)).1; omega
  have hA6 : oA (k + 6) 1 sp[k].length = .osl (k + 6) 1 0 sp[k].length sp[k].length := oA_pos (fun e => hz (List.length_eq_zero_iff.1 e))
  have hT6 : oT 1 (sp[k].map (irow .i64)) = some (1, sp[k].map (irow .i64)) := oT_pos (by simpa using hz)
  have hgH2 : (ownH 1 (irow .i64) sp)[k]'(by rw [ownH_len]; exact hk) = some (1, sp[k].map (irow .i64)) := by
    rw [List.getElem?_eq_getElem (by rw [ownH_len]; exact hk), hT6] at hgH
    simpa using hgH
  have hz0 : ¬ sp[k].length = 0 := fun e => hz (List.length_eq_zero_iff.1 e)
  simp [Try.ntmps73, Try.results73, cSl, cp0, cn0, cI, cD, cR, -view, -cold, cpVal, cpHeap, hA4, hT4, hA5, hO5, hg2, hA6, hgH2, ownR_len, ownH_len, hk, hne0, hl8, hz, hz0, hj, irow]
  have hm : C.pure 145 [cold (view (some (2, [[AVal.osl 4 1 0 cs.length cs.length, AVal.osl 5 1 0 sp.length sp.length]]) :: some (2, [[AVal.v (Value.slice none 0 0), AVal.v (Value.slice none 0 0)]]) :: none :: none :: some (1, List.map (irow IntKind.u8) cs) :: some (1, ownR 1 6 sp) :: ownH 1 (irow IntKind.i64) sp) 4 (AVal.agg [AVal.osl 4 1 0 cs.length cs.length, AVal.osl 5 1 0 sp.length sp.length])), cold (view (some (2, [[AVal.osl 4 1 0 cs.length cs.length, AVal.osl 5 1 0 sp.length sp.length]]) :: some (2, [[AVal.v (Value.slice none 0 0), AVal.v (Value.slice none 0 0)]]) :: none :: none :: some (1, List.map (irow IntKind.u8) cs) :: some (1, ownR 1 6 sp) :: ownH 1 (irow IntKind.i64) sp) 4 (AVal.v (Value.int IntKind.i64 sp[k][j])))] = some (.v (.int .i64 (manyI sp sp[k][j]))) := by
    have h1 := seen_room (H := some (2, [[AVal.osl 4 1 0 cs.length cs.length, AVal.osl 5 1 0 sp.length sp.length]]) :: some (2, [[AVal.v (Value.slice none 0 0), AVal.v (Value.slice none 0 0)]]) :: none :: none :: some (1, List.map (irow IntKind.u8) cs) :: some (1, ownR 1 6 sp) :: ownH 1 (irow IntKind.i64) sp) (a := 4) (M := 5) (rows := ownR 1 6 sp) (cs := cs) (sp := sp) (fun _ => rfl) rfl ownR_len (own_dec (fun i hi hnz => by
      have h1 := ownH_get (sz := 1) (g := irow .i64) hi
      simp [obj, h1, oT, hnz]))
    rw [hA4] at h1
    rw [ch0]
    simp only [argM, h1]
    simp [view, cold, cInt, intDec, finM, g2, hcond]
  simp only [hm]
  have hcx : ((sp[k][j]).toNat : Int) = sp[k][j] := by omega
  have hc3 : (sp[k][j]).toNat < cs.length := by omega
  have hc1 : ¬ cs.length + 1 ≤ cs.length := by omega
  have hc2 : cs.length + 1 ≤ 4294967296 := by omega
  have hin : ∀ (a b c d e f : Option (Nat × List Row)) (i : Nat) (hi : i < sp.length), sp[i] ≠ [] → obj (a :: b :: c :: d :: e :: f :: ownH 1 (irow .i64) sp) (i + 6) = some (1, sp[i].map (irow .i64)) := fun a b c d e f i hi hnz => by
    have h1 := ownH_get (sz := 1) (g := irow .i64) hi
    simp [obj, h1, oT, hnz]
  have hin2 : ∀ (a b c d e f o : Option (Nat × List Row)) (LL : Heap) (i : Nat) (hi : i < sp.length), i ≠ k → sp[i] ≠ [] → obj (a :: b :: c :: d :: e :: f :: ((ownH 1 (irow .i64) sp).set k o ++ LL)) (i + 6) = some (1, sp[i].map (irow .i64)) := fun a b c d e f o LL i hi hik hnz => by
    have h1 := ownH_get (sz := 1) (g := irow .i64) hi
    have h3 : ((ownH 1 (irow .i64) sp).set k o)[i]? = some (oT 1 (sp[i].map (irow .i64))) := by
      rw [List.getElem?_set_ne (fun e => hik e.symm)]; exact h1
    have h4 : ((ownH 1 (irow .i64) sp).set k o ++ LL)[i]? = some (oT 1 (sp[i].map (irow .i64))) := by
      rw [List.getElem?_append_left (by rw [List.length_set, ownH_len]; exact hi)]; exact h3
    simp [obj, h4, oT, hnz]
  by_cases h1 : manyI sp sp[k][j] = 1
  · simp [Try.ntmps73, Try.results73, cSl, cp0, cn0, cI, cD, cR, cpVal, cpHeap, hA4, hT4, hA5, hO5, hg2, hA6, hgH2, ownR_len, ownH_len, hk, hne0, hl8, hz, hz0, hj, irow, hm, h1, hx.1, hx.2, hc1, hc2, hc3, wrX, rvU, okL]
    refine room_canon' (a := 4) (M := 5) (cs := cs.set (sp[k][j]).toNat b) (L := sp) (fun i => i + 6) [.bool false, .int .i64 0] rfl rfl (by simp) ?_ rfl (fun _ => ⟨?_, by decide, fun j h e => by omega⟩) (fun j h e => ⟨?_, by omega⟩) (fun j k _ _ _ _ hab => by simpa using hab)
    · rw [List.length_set, hA4]; exact @Lss.refl _
    · simp [obj, List.map_set, irow]
    · exact hin _ _ _ _ _ _ j h e
  · simp [Try.ntmps73, Try.results73, cSl, cp0, cn0, cI, cD, cR, cpVal, cpHeap, hA4, hT4, hA5, hO5, hg2, hA6, hgH2, ownR_len, ownH_len, hk, hne0, hl8, hz, hz0, hj, irow, hm, h1, hx.1, hx.2, hc1, hc2, hc3, n3, wrX, rvU, okL]
    have hcl1 : (cs ++ [b]).length = cs.length + 1 := by simp
    refine room_canon' (a := sp.length + 1 + 1 + 1 + 1 + 1 + 1 + 1) (M := 5) (cs := cs ++ [b]) (L := sp.set k (sp[k].set j (cs.length : Int))) (fun i => i + 6) [.bool true, .int .i64 0] (by simp) (by simp) (by simp) ?_ ?_ (fun _ => ⟨?_, by omega, fun i h e => by simp at h; omega⟩) (fun i h e => ⟨?_, by omega⟩) (fun i q _ _ _ _ hab => by simpa using hab)
    · rw [hcl1, oA_pos (by omega)]; exact @Lss.refl _
    · rw [rowsI_same (fun _ => by simp)]
      rfl
    · simp [obj, ownH_len, List.getElem?_append_right, irow]
    · have hil : i < sp.length := by simpa using h
      by_cases hik : i = k
      · subst hik
        simp [obj, ownH_len, List.getElem?_append_left, hk, irow, List.map_set]
      · rw [List.getElem_set_ne (fun q => hik q.symm)] at e ⊢
        exact hin2 _ _ _ _ _ _ _ _ i hil hik e
theorem write_inl : InlOk Try.prog 73 (frame0 (own0 (argG (cAgg rRoom) fun q => argG (cInt .i64) fun s => argG (cInt .i64) fun p => argG (cInt .u8) fun b => finG (some (rvU (wrX (cowWrite q s p b))))))) := frame0_ok write_own
end
section
attribute [local simp] rSp_sz spR_cold spR_dec spR_mapM spR_mapMc spR_view spR_viewc spR_hotR spR_ren spR_renc spR_low spR_get spR_len Room.eta Room.dec_row Room.dec_hrow
attribute [local simp] cp_bare cp_bareH cp_tau cp_tauO
attribute [local simp] intR_len intR_get' intR_low
attribute [local simp] heapW_ownH heapW_rep heapW_rep2 gT sT gC sC
def dpX : Except Int (Room × Int) → Bool × Room × List Value
  | .ok r => (true, r.1, [.int .i64 r.2, .int .i64 0])
  | .error e => (false, ⟨[], []⟩, [.int .i64 0, .int .i64 e])
theorem rowsI_erD {sp L : List (List Int)} {k : Nat} {f : Int → Int} (hL : sp.eraseIdx k = L) : (ownR 1 6 sp).eraseIdx k = rowsI (fun j => (if j < k then j else j + 1) + 6) (L.map (List.map f)) := by
  subst hL
  apply List.ext_getElem?
  intro i
  have hr : ∀ (g : Nat → Nat) (M : List (List Int)), (rowsI g M)[i]? = M[i]?.map fun l => [oA (g i) 1 l.length] := fun g M => by simp [rowsI, List.getElem?_mapIdx]
  have ho : ∀ j, (ownR 1 6 sp)[j]? = sp[j]?.map fun l => [oA (j + 6) 1 l.length] := fun j => by simp [ownR, List.getElem?_mapIdx]
  rw [hr, List.getElem?_map, List.getElem?_eraseIdx, List.getElem?_eraseIdx, Option.map_map]
  by_cases h : i < k
  · simp only [if_pos h, ho]
    cases sp[i]? <;> simp
  · simp only [if_neg h, ho]
    cases sp[i + 1]? <;> simp
theorem drop_own : InlOk Try.prog 74 (own0 (argG (cAgg rRoom) fun q => argG (cInt .i64) fun s => finG (some (rvU (dpX (cowDrop q s)))))) := by
  refine ownE_2 Try.func74 rfl ?_
  rintro q s r H' hr
  simp only [Option.some.injEq, Prod.mk.injEq] at hr
  obtain ⟨rfl, rfl⟩ := hr
  refine bodyE_of ((((noOrc_ok.withP cowSp_pure).withP many_pure).withIF cpy_inl frame0_loc).withIF spDel delete_loc) fxMix (by kernel_rfl) (by simp [Try.ntmps74]) ?_
  intro C cP cI cN cD cF cA cR cL
  have cp0 := orcP cowSp_pure (C := C) (by rw [cP]; rfl)
  have ch0 := orcP many_pure (C := C) (by rw [cP]; rfl)
  have cn0 := orcI cpy_inl (C := C) (by rw [cN]; rfl)
  have cn1 := orcI spDel (C := C) (by rw [cN]; rfl)
  replace cI := fun g => congrFun cI g
  simp only [Orc.withP, Orc.withI, Orc.withF, Orc.withD, Orc.withA, Orc.withR, Orc.withC, noOrc] at cI
  replace cR : C.rd = fun _ => none := cR
  replace cD : C.dyn = fun _ => [] := cD
  clear cP cN cF cA
  obtain ⟨cs, sp⟩ := q
  unfold cowDrop
  simp only
  by_cases h0 : cowSp ⟨cs, sp⟩ s = 0
  case neg =>
    simp [Try.ntmps74, Try.results74, cSl, cp0, cn0, cn1, cI, cD, cR, rI, rRoom, roomDec, Room.row, h0, dpX]
    exact rm_err3
  obtain ⟨hck, k, rfl, hk⟩ := sp_ok h0
  obtain ⟨⟨g1, g2⟩, g3, g4⟩ := cow_ok hck
  simp only at hk g1 g2 g3 g4
  rw [if_pos h0]
  rw [Int.toNat_natCast]
  have hE0 : dropRoom ⟨cs, sp⟩ k = ⟨kpCells (sp.eraseIdx k) cs cs.length, (sp.eraseIdx k).map (List.map fun x => kpTo (sp.eraseIdx k) x.toNat)⟩ := rfl
  rw [hE0]
  have hcond : (∀ l, l ∈ sp → l.length ≤ 8) = True := eq_true fun l hl => (g3 l hl).1
  simp [Try.ntmps74, Try.results74, cSl, cp0, cn0, cn1, cI, cD, cR, rI, rRoom, roomDec, Room.row, h0, hk, g1, g2, hcond]
  have hne0 : ¬ sp.length = 0 := by omega
  have hne : ¬ sp = [] := fun e => hne0 (by rw [e]; rfl)
  have hA5 : oA 5 1 sp.length = .osl 5 1 0 sp.length sp.length := oA_pos hne0
  have hO5 : oT 1 (ownR 1 6 sp) = some (1, ownR 1 6 sp) := oT_pos (ownR_ne hne)
  have wk : IntKind.i64.wrap ((k : Int) + 1) = (k : Int) + 1 := w64 (by omega) (by omega)
  have n5 : sp.length ≤ 1048576 := by omega
  by_cases hcs : cs = []
  · have hA4 : oA 4 1 cs.length = .esl := by simp [oA, hcs]
    have hT4 : oT 1 (cs.map (irow .u8)) = none := by simp [oT, hcs]
    simp [Try.ntmps74, Try.results74, cSl, cp0, cn0, cn1, cI, cD, cR, cpVal, cpHeap, hA4, hT4, hA5, hO5, ownR_len, ownH_len, hk, deleteI, wk, n5]
    have hE : ∀ (i : Nat) (hi : i < sp.length), sp[i] = [] := fun i hi => by
      cases e : sp[i] with
      | nil => rfl
      | cons x r =>
        have := (g3 _ (List.getElem_mem hi)).2 x (by rw [e]; simp)
        rw [hcs] at this; simp at this; omega
    have hlow : ∀ n, sp.length + 6 ≤ n → (((ownR 1 6 sp).eraseIdx k).all fun row => row.all (lowA n)) = true := fun n h => by
      have := ownR_low (sz := 1) (c := 6) h
      rw [List.all_eq_true] at this ⊢
      exact fun r hr => this r (List.mem_of_mem_eraseIdx hr)
    refine loop_rounds 1 ?_
    simp [Try.ntmps74, Try.results74, cSl, cp0, cn0, cn1, cI, cD, cR, UnrK, ownH_len]
    refine loop_forB (sp.length - 1) (fun q (_ : Unit) => ([(2, .ptr 0 2 0 0), (4, .ptr 1 2 0 0), (8, .v (.slice none 0 0)), (9, .osl (sp.length + 6) 1 0 0 0), (60, .osl 5 1 0 (sp.length - 1) (sp.length - 1)), (61, .v (.int .i64 ((sp.length - 1 : Nat) : Int))), (62, .v (.int .i64 q))],
      some (2, [[.esl, .osl 5 1 0 (sp.length - 1) (sp.length - 1)]]) :: some (2, [[.v (.slice none 0 0), .v (.slice none 0 0)]]) :: none :: none :: none :: some (1, (ownR 1 6 sp).eraseIdx k) :: (ownH 1 (irow .i64) sp ++ [some (1, [])]))) (fun k _ => True) () (by omega) trivial ?_ ?_ ?_
    · simp [ownH_len, heapW]
      simpa using hlow _ (by omega)
    · rintro q _ hq _ hw
      obtain ⟨m, hm, hml⟩ : ∃ m, m = (if q < k then q else q + 1) ∧ m < sp.length := ⟨_, rfl, by split <;> omega⟩
      have hg := er_get hk hq hm hml
      rw [hE m hml] at hg
      have hg' : ∀ h, ((ownR 1 6 sp).eraseIdx k)[q]'h = [.esl] := fun h => by rw [List.getElem?_eq_getElem h] at hg; simpa [oA] using hg
      simp [Try.ntmps74, Try.results74, cSl, cp0, cn0, cn1, cI, cD, cR, hq, hw, hg, hg', oA, List.length_eraseIdx, ownR_len]
      refine loop_rounds 1 ?_
      simp [Try.ntmps74, Try.results74, cSl, cp0, cn0, cn1, cI, cD, cR, UnrK, hw, ownH_len]
      simpa using hlow _ (by omega)
    · rintro _ _
      have e1 : kpCells (sp.eraseIdx k) cs cs.length = [] := by rw [hcs]; rfl
      have hcl0 : (cs.length : Int) = 0 := by rw [hcs]; rfl
      simp [Try.ntmps74, Try.results74, cSl, cp0, cn0, cn1, cI, cD, cR, ownH_len, e1, dpX, rvU, okL, hcl0]
      refine room_canon' (a := 4) (M := 5) (cs := []) (L := (sp.eraseIdx k).map (List.map fun x => kpTo (sp.eraseIdx k) x.toNat)) (fun j => (if j < k then j else j + 1) + 6) [.int .i64 0, .int .i64 0] (by rw [List.length_map, List.length_eraseIdx, if_pos hk]) (by simp) rfl (@Lss.nil_esl') ?_ (fun e => absurd rfl e) (fun j h e => ?_) (fun j q _ _ _ _ hab => by (try simp only at hab) <;> split at hab <;> split at hab <;> omega)
      · rw [← rowsI_erD (f := fun x => kpTo (sp.eraseIdx k) x.toNat) rfl]
        rfl
      · exfalso
        simp [List.getElem_eraseIdx] at e
        split at e
        · exact e (hE _ _)
        · exact e (hE _ _)
  · have hA4 : oA 4 1 cs.length = .osl 4 1 0 cs.length cs.length := oA_pos (fun e => hcs (List.length_eq_zero_iff.1 e))
    have hT4 : oT 1 (cs.map (irow .u8)) = some (1, cs.map (irow .u8)) := oT_pos (by simpa using hcs)
    simp [Try.ntmps74, Try.results74, cSl, cp0, cn0, cn1, cI, cD, cR, cpVal, cpHeap, hA4, hT4, hA5, hO5, ownR_len, ownH_len, hk, deleteI, wk, n5]
    have hsm : ∀ (H : Heap), obj H 4 = some (1, cs.map (irow .u8)) → obj H 5 = some (1, (ownR 1 6 sp).eraseIdx k) → (∀ (i : Nat) (hi : i < sp.length), sp[i] ≠ [] → obj H (i + 6) = some (1, sp[i].map (irow .i64))) → ∀ c : Int,
        C.pure 145 [cold (view H 4 (.agg [.osl 4 1 0 cs.length cs.length, .osl 5 1 0 (sp.length - 1) (sp.length - 1)])), cold (view H 4 (.v (.int .i64 c)))] = some (.v (.int .i64 (manyI (sp.eraseIdx k) c))) := by
      intro H o4 o5 o6 c
      have h1 := seen_room (H := H) (a := 4) (M := 5) (rows := (ownR 1 6 sp).eraseIdx k) (cs := cs) (sp := sp.eraseIdx k) (fun _ => o4) o5 (by rw [List.length_eraseIdx, List.length_eraseIdx, ownR_len]) (fun i hi => by
        obtain ⟨y, h1, h2⟩ := own_dec (c := 6) o6 (if i < k then i else i + 1) (by rw [List.length_eraseIdx, if_pos hk] at hi; split <;> omega)
        refine ⟨y, ?_, ?_⟩
        · rw [List.getElem?_eraseIdx]; split <;> simp_all
        · rw [h2, List.getElem_eraseIdx]; split <;> simp_all)
      rw [hA4, List.length_eraseIdx, if_pos hk] at h1
      have hc8 : (sp.eraseIdx k).length ≤ 8 ∧ ∀ l ∈ sp.eraseIdx k, l.length ≤ 8 := ⟨by rw [List.length_eraseIdx, if_pos hk]; omega, fun l hl => (g3 l (List.mem_of_mem_eraseIdx hl)).1⟩
      rw [ch0]
      simp only [argM, h1, hc8, and_self]
      simp [view, cold, cInt, intDec, finM, hc8.1]
      exact hc8.2
    generalize hL : sp.eraseIdx k = L at hsm ⊢
    have hE : (0 : Nat) = 0 := rfl
    have hlow : ∀ n, sp.length + 6 ≤ n → (((ownR 1 6 sp).eraseIdx k).all fun row => row.all (lowA n)) = true := fun n h => by
      have := ownR_low (sz := 1) (c := 6) h
      rw [List.all_eq_true] at this ⊢
      exact fun r hr => this r (List.mem_of_mem_eraseIdx hr)
    have cl64 : (cs.length : Int) ≤ 4294967296 := by omega
    rw [if_pos cl64]
    simp [Try.ntmps74, Try.results74, cSl, cp0, cn0, cn1, cI, cD, cR]
    refine loop_forB cs.length (fun k' (g : Nat) => ([(2, .ptr 0 2 0 0), (4, .ptr 1 2 0 0), (8, cellV sp.length g (kpCells L cs k')), (9, .osl (sp.length + 6) 1 0 cs.length cs.length), (38, .osl 4 1 0 cs.length cs.length), (39, .v (.int .i64 cs.length)), (40, .v (.int .i64 k'))],
      some (2, [[.osl 4 1 0 cs.length cs.length, .osl 5 1 0 (sp.length - 1) (sp.length - 1)]]) :: some (2, [[.v (.slice none 0 0), .v (.slice none 0 0)]]) :: none :: none :: some (1, cs.map (irow .u8)) :: some (1, (ownR 1 6 sp).eraseIdx k) :: (ownH 1 (irow .i64) sp ++ some (1, intR cs.length (fun q => if q < k' then kpTo L q else 0)) :: cellH g (kpCells L cs k')))) (fun k _ => True) 0 (by omega) trivial ?_ ?_ ?_
    · have e0 : kpCells L cs 0 = [] := rfl
      simp [cellV, cellH, e0, intR_rep, ownH_len]
      simpa using hlow _ (by omega)
    · rintro k' g hk' _ hw
      have hsu := kpCells_succ L hk'
      have hkl : (kpCells L cs k').length ≤ k' := by rw [kpCells_len]; exact kp_le L k'
      have cN1 : ¬ (kpCells L cs k').length + 1 ≤ (kpCells L cs k').length := by omega
      have cN2 : (kpCells L cs k').length + 1 ≤ 4294967296 := by omega
      by_cases hl : kpCells L cs k' = []
      · have hI : intR cs.length (fun q => if q = k' then (0 : Int) else if q < k' then kpTo L q else 0) = intR cs.length (fun q => if q < k' + 1 then kpTo L q else 0) := by
          refine intR_ext fun q _ => ?_
          by_cases e : q = k'
          · subst e; simp [kpTo, ← kpCells_len L cs, hl]
          · by_cases e2 : q < k'
            · rw [if_neg e, if_pos e2, if_pos (by omega)]
            · rw [if_neg e, if_neg e2, if_neg (by omega)]
        simp [Try.ntmps74, Try.results74, cSl, cp0, cn0, cn1, cI, cD, cR, -view, -cold, cellV, cellH, hl, hw, hk', irow, intR_set, ownH_len, hI]
        rw [hsm]
        rotate_left
        · rfl
        · rfl
        ·
          intro i hi hnz
          have h1 := ownH_get (sz := 1) (g := irow .i64) hi
          have h2 : ∀ LL : Heap, (ownH 1 (irow .i64) sp ++ LL)[i]? = some (oT 1 (sp[i].map (irow .i64))) := fun LL => by
            rw [List.getElem?_append_left (by rw [ownH_len]; exact hi)]; exact h1
          simp [obj, h1, h2, oT, hnz]
        by_cases hm : 0 < manyI L (k' : Int)
        · rw [if_pos hm] at hsu
          simp [Try.ntmps74, Try.results74, cSl, cp0, cn0, cn1, cI, cD, cR, cellV, cellH, hl, hw, hk', irow, intR_set, ownH_len, hI, hm, hsu]
          exact ⟨1, ⟨rfl, by omega⟩, by simpa using hlow _ (by omega), by simp [heapW, lowA]⟩
        · rw [if_neg hm, List.append_nil] at hsu
          simp [Try.ntmps74, Try.results74, cSl, cp0, cn0, cn1, cI, cD, cR, cellV, cellH, hl, hw, hk', irow, intR_set, ownH_len, hI, hm, hsu]
          simpa using hlow _ (by omega)
      · have hI : intR cs.length (fun q => if q = k' then ((kpCells L cs k').length : Int) else if q < k' then kpTo L q else 0) = intR cs.length (fun q => if q < k' + 1 then kpTo L q else 0) := by
          refine intR_ext fun q _ => ?_
          by_cases e : q = k'
          · subst e; simp [kpTo, ← kpCells_len L cs, hl]
          · by_cases e2 : q < k'
            · rw [if_neg e, if_pos e2, if_pos (by omega)]
            · rw [if_neg e, if_neg e2, if_neg (by omega)]
        simp [Try.ntmps74, Try.results74, cSl, cp0, cn0, cn1, cI, cD, cR, -view, -cold, cellV, cellH, hl, hw, hk', irow, intR_set, ownH_len, hI]
        rw [hsm]
        rotate_left
        · rfl
        · rfl
        ·
          intro i hi hnz
          have h1 := ownH_get (sz := 1) (g := irow .i64) hi
          have h2 : ∀ LL : Heap, (ownH 1 (irow .i64) sp ++ LL)[i]? = some (oT 1 (sp[i].map (irow .i64))) := fun LL => by
            rw [List.getElem?_append_left (by rw [ownH_len]; exact hi)]; exact h1
          simp [obj, h1, h2, oT, hnz]
        by_cases hm : 0 < manyI L (k' : Int)
        · rw [if_pos hm] at hsu
          simp [Try.ntmps74, Try.results74, cSl, cp0, cn0, cn1, cI, cD, cR, cellV, cellH, hl, hw, hk', irow, intR_set, ownH_len, hI, hm, hsu, cN1, cN2]
          refine ⟨g + 2, ⟨by omega, by omega⟩, by simpa using hlow _ (by omega), ?_⟩
          rw [heapW_rep2]
          simp [heapW, lowA, irow]
        · rw [if_neg hm, List.append_nil] at hsu
          simp [Try.ntmps74, Try.results74, cSl, cp0, cn0, cn1, cI, cD, cR, cellV, cellH, hl, hw, hk', irow, intR_set, ownH_len, hI, hm, hsu, cN1, cN2]
          exact ⟨g, ⟨rfl, by omega⟩, by simpa using hlow _ (by omega), by simp [heapW, lowA, irow]⟩
    · rintro g _
      have hkn : (kpCells L cs cs.length).length ≤ cs.length := by rw [kpCells_len]; exact kp_le L cs.length
      have hto : intR cs.length (fun q => if q < cs.length then kpTo L q else 0) = intR cs.length (kpTo L) := intR_ext fun q hq => by rw [if_pos hq]
      have hpl : ∀ q, (prog (kpTo L) sp k q).length = sp.length := fun q => prog_len
      by_cases hl : kpCells L cs cs.length = []
      · simp [Try.ntmps74, Try.results74, cSl, cp0, cn0, cn1, cI, cD, cR, cellV, cellH, hl, ownH_len, hto]
        have hpz := prog_zero (t := kpTo L) (sp := sp) (k := k)
        refine loop_forB (sp.length - 1) (fun q (_ : Unit) => ([(2, .ptr 0 2 0 0), (4, .ptr 1 2 0 0), (8, .v (.slice none 0 0)), (9, .osl (sp.length + 6) 1 0 cs.length cs.length), (60, .osl 5 1 0 (sp.length - 1) (sp.length - 1)), (61, .v (.int .i64 ((sp.length - 1 : Nat) : Int))), (62, .v (.int .i64 q))],
          some (2, [[.osl 4 1 0 cs.length cs.length, .osl 5 1 0 (sp.length - 1) (sp.length - 1)]]) :: some (2, [[.v (.slice none 0 0), .v (.slice none 0 0)]]) :: none :: none :: some (1, cs.map (irow .u8)) :: some (1, (ownR 1 6 sp).eraseIdx k) :: (ownH 1 (irow .i64) (prog (kpTo L) sp k q) ++ some (1, intR cs.length (kpTo L)) :: []))) (fun k _ => True) () (by omega) trivial ?_ ?_ ?_
        · simp [hpz, ownH_len, heapW, hpl, lowA]
          simpa using hlow _ (by omega)
        · rintro q _ hq _ hw
          obtain ⟨m, hm, hml⟩ : ∃ m, m = (if q < k then q else q + 1) ∧ m < sp.length := ⟨_, rfl, by split <;> omega⟩
          have hmk : m ≠ k := by rw [hm]; split <;> omega
          have hg := er_get hk hq hm hml
          have hps := prog_succ (t := kpTo L) hml hm
          have hp0 := prog_set (t := kpTo L) hml hm
          have hPl : ∀ l, ((prog (kpTo L) sp k q).set m l).length = sp.length := fun l => by rw [List.length_set]; exact hpl q
          have hgT : ∀ (l : List Int) (o : Option (Nat × List Row)) (Y : Heap), (ownH 1 (irow .i64) ((prog (kpTo L) sp k q).set m l) ++ o :: Y)[sp.length]? = some o := fun l o Y => by
            have := gT (L := (prog (kpTo L) sp k q).set m l) (o := o) (Y := Y)
            rwa [hPl] at this
          have hmP : m < (prog (kpTo L) sp k q).length := by rw [hpl]; exact hml
          have hgm : ∀ (l : List Int) (Y : Heap), l ≠ [] → (ownH 1 (irow .i64) ((prog (kpTo L) sp k q).set m l) ++ Y)[m]? = some (some (1, l.map (irow .i64))) := fun l Y hl => by
            rw [List.getElem?_append_left (by rw [ownH_len, hPl]; exact hml), ownH_set, List.getElem?_set_self (by rw [ownH_len]; exact hmP), oT_pos (by simpa using hl)]
          have hsm2 : ∀ (l l' : List Int) (Y : Heap), l' ≠ [] → (ownH 1 (irow .i64) ((prog (kpTo L) sp k q).set m l) ++ Y).set m (some (1, l'.map (irow .i64))) = ownH 1 (irow .i64) ((prog (kpTo L) sp k q).set m l') ++ Y := fun l l' Y hl => by
            rw [List.set_append_left _ _ (by rw [ownH_len, hPl]; exact hml), ownH_set, ownH_set, List.set_set, oT_pos (by simpa using hl)]
          by_cases hz : sp[m] = []
          · have hg' : ∀ h, ((ownR 1 6 sp).eraseIdx k)[q]'h = [.esl] := fun h => by rw [List.getElem?_eq_getElem h] at hg; simpa [oA, hz] using hg
            rw [hz, List.map_nil] at hps
            rw [hz] at hp0
            rw [← hp0] at hps
            simp [Try.ntmps74, Try.results74, cSl, cp0, cn0, cn1, cI, cD, cR, hq, hw, hg, hg', oA, hz, List.length_eraseIdx, ownR_len]
            refine loop_rounds 1 ?_
            simp [Try.ntmps74, Try.results74, cSl, cp0, cn0, cn1, cI, cD, cR, UnrK, hw, hps, hpl, ownH_len, heapW]
            simpa using hlow _ (by omega)
          · have hA6 : oA (m + 6) 1 sp[m].length = .osl (m + 6) 1 0 sp[m].length sp[m].length := oA_pos (fun e => hz (List.length_eq_zero_iff.1 e))
            have hg' : ∀ h, ((ownR 1 6 sp).eraseIdx k)[q]'h = [.osl (m + 6) 1 0 sp[m].length sp[m].length] := fun h => by rw [List.getElem?_eq_getElem h] at hg; simpa [hA6] using hg
            have hl8 := (g3 _ (List.getElem_mem hml)).1
            have hlx := (g3 _ (List.getElem_mem hml)).2
            rw [hp0]
            generalize hlm : sp[m] = l at *
            have hmz : ∀ j, mid (kpTo L) l j ≠ [] := fun j e => hz (List.length_eq_zero_iff.1 (by rw [← mid_len (t := kpTo L) (j := j), e]; rfl))
            have hl0 := mid_zero (t := kpTo L) (l := l)
            simp [Try.ntmps74, Try.results74, cSl, cp0, cn0, cn1, cI, cD, cR, hq, hw, hg, hg', hA6, List.length_eraseIdx, ownR_len]
            refine loop_forB l.length (fun j (_ : Unit) => ([(2, .ptr 0 2 0 0), (4, .ptr 1 2 0 0), (8, .v (.slice none 0 0)), (9, .osl (sp.length + 6) 1 0 cs.length cs.length), (13, .osl (m + 6) 1 0 l.length l.length), (60, .osl 5 1 0 (sp.length - 1) (sp.length - 1)), (61, .v (.int .i64 ((sp.length - 1 : Nat) : Int))), (62, .v (.int .i64 q)), (66, .osl (m + 6) 1 0 l.length l.length), (67, .v (.int .i64 l.length)), (68, .v (.int .i64 j))],
              some (2, [[.osl 4 1 0 cs.length cs.length, .osl 5 1 0 (sp.length - 1) (sp.length - 1)]]) :: some (2, [[.v (.slice none 0 0), .v (.slice none 0 0)]]) :: none :: none :: some (1, cs.map (irow .u8)) :: some (1, (ownR 1 6 sp).eraseIdx k) :: (ownH 1 (irow .i64) ((prog (kpTo L) sp k q).set m (mid (kpTo L) l j)) ++ some (1, intR cs.length (kpTo L)) :: []))) (fun k _ => True) () (by omega) trivial ?_ ?_ ?_
            · simp [hl0, ownH_len, heapW, hPl, hpl, lowA]
              exact ⟨by omega, by simpa using hlow _ (by omega)⟩
            · rintro j _ hj _ hw2
              have hx := hlx _ (List.getElem_mem hj)
              have hcx : ((l[j]).toNat : Int) = l[j] := by omega
              have hc3 : (l[j]).toNat < cs.length := by omega
              have hmg := mid_get (t := kpTo L) hj
              have hms := mid_set (t := kpTo L) hj
              have hgR : ((mid (kpTo L) l j).map (irow .i64))[j]? = some [.v (.int .i64 l[j])] := by simp [hmg, irow]
              have hsR : ((mid (kpTo L) l j).map (irow .i64)).set j [.v (.int .i64 (kpTo L (l[j]).toNat))] = (mid (kpTo L) l (j + 1)).map (irow .i64) := by rw [← hms, List.map_set]; rfl
              simp [Try.ntmps74, Try.results74, cSl, cp0, cn0, cn1, cI, cD, cR, hj, hw2, hgm, hgT, hmz, hgR, hsR, hsm2, hx.1, hx.2, hc3, intR_get, irow, hPl, ownH_len]
              exact ⟨by omega, by simpa using hlow _ (by omega)⟩
            · rintro _ _
              have hma := mid_all (t := kpTo L) (l := l)
              rw [hma, ← hps]
              simp [Try.ntmps74, Try.results74, cSl, cp0, cn0, cn1, cI, cD, cR, hw, hpl, ownH_len]
              simpa using hlow _ (by omega)
        · rintro _ _
          have hend : ∀ (Y : Heap) (i : Nat) (hi : i < sp.length), i ≠ k → sp[i] ≠ [] → (ownH 1 (irow .i64) (prog (kpTo L) sp k (sp.length - 1)) ++ Y)[i]? = some (some (1, ((sp[i]).map (fun x => kpTo L x.toNat)).map (irow .i64))) := fun Y i hi hik hz => by
            have h1 := prog_get (t := kpTo L) (k := k) (q := sp.length - 1) hi
            rw [if_pos (by omega)] at h1
            have h2 : i < (prog (kpTo L) sp k (sp.length - 1)).length := by rw [hpl]; exact hi
            have h3 := ownH_get (sz := 1) (g := irow .i64) h2
            rw [List.getElem?_eq_getElem h2] at h1
            rw [List.getElem?_append_left (by rw [ownH_len]; exact h2), h3, Option.some.inj h1, oT_pos (by simpa using hz)]
          have wN : IntKind.i64.wrap ((cs.length : Int) - ((kpCells L cs cs.length).length : Int)) = (cs.length : Int) - ((kpCells L cs cs.length).length : Int) := w64 (by omega) (by omega)
          have wN0 : IntKind.i64.wrap (cs.length : Int) = cs.length := w64 (by omega) (by omega)
          simp [Try.ntmps74, Try.results74, cSl, cp0, cn0, cn1, cI, cD, cR, ownH_len, hpl, wN, wN0, dpX, rvU, okL, hE]
          have hgc : ∀ (o z : Option (Nat × List Row)) (Y : Heap), (ownH 1 (irow .i64) (prog (kpTo L) sp k (sp.length - 1)) ++ o :: (List.replicate g none ++ z :: Y))[sp.length + g + 1]? = some z := fun o z Y => by
            have := gC (L := prog (kpTo L) sp k (sp.length - 1)) (o := o) (z := z) (g := g) (Y := Y)
            rwa [hpl] at this
          have hLl : L.length = sp.length - 1 := by rw [← hL, List.length_eraseIdx, if_pos hk]
          refine room_canon' (a := 4) (M := 5) (cs := ([] : List Int)) (L := L.map (List.map fun x => kpTo L x.toNat)) (fun j => (if j < k then j else j + 1) + 6) [.int .i64 ((cs.length : Int)), .int .i64 0] (by rw [List.length_map, hLl]) (by simp) rfl (@Lss.nil_esl') ?_ (fun e => absurd rfl e) (fun j h e => ⟨?_, by omega⟩) (fun j q _ _ _ _ hab => by (try simp only at hab) <;> split at hab <;> split at hab <;> omega)
          · rw [← rowsI_erD (f := fun x => kpTo L x.toNat) hL]
            rfl
          · have hjL : j < sp.length - 1 := by simp [hLl] at h; exact h
            obtain ⟨i, hi, hil⟩ : ∃ i, i = (if j < k then j else j + 1) ∧ i < sp.length := ⟨_, rfl, by split <;> omega⟩
            have hik : i ≠ k := by rw [hi]; split <;> omega
            have hLi : L[j]'(by omega) = sp[i] := by subst hL; subst hi; rw [List.getElem_eraseIdx]; split <;> simp_all
            have hnz : sp[i] ≠ [] := fun q => e (by simp [hLi, q])
            simp only [← hi, List.getElem_map, hLi]
            simp [obj, hend _ i hil hik hnz]
      · simp [Try.ntmps74, Try.results74, cSl, cp0, cn0, cn1, cI, cD, cR, cellV, cellH, hl, ownH_len, hto]
        have hpz := prog_zero (t := kpTo L) (sp := sp) (k := k)
        refine loop_forB (sp.length - 1) (fun q (_ : Unit) => ([(2, .ptr 0 2 0 0), (4, .ptr 1 2 0 0), (8, .osl (sp.length + g + 7) 1 0 (kpCells L cs cs.length).length (kpCells L cs cs.length).length), (9, .osl (sp.length + 6) 1 0 cs.length cs.length), (60, .osl 5 1 0 (sp.length - 1) (sp.length - 1)), (61, .v (.int .i64 ((sp.length - 1 : Nat) : Int))), (62, .v (.int .i64 q))],
          some (2, [[.osl 4 1 0 cs.length cs.length, .osl 5 1 0 (sp.length - 1) (sp.length - 1)]]) :: some (2, [[.v (.slice none 0 0), .v (.slice none 0 0)]]) :: none :: none :: some (1, cs.map (irow .u8)) :: some (1, (ownR 1 6 sp).eraseIdx k) :: (ownH 1 (irow .i64) (prog (kpTo L) sp k q) ++ some (1, intR cs.length (kpTo L)) :: (List.replicate g none ++ [some (1, (kpCells L cs cs.length).map (irow .u8))])))) (fun k _ => True) () (by omega) trivial ?_ ?_ ?_
        · simp [hpz, ownH_len, heapW, hpl, lowA]
          exact ⟨by omega, by simpa using hlow _ (by omega)⟩
        · rintro q _ hq _ hw
          obtain ⟨m, hm, hml⟩ : ∃ m, m = (if q < k then q else q + 1) ∧ m < sp.length := ⟨_, rfl, by split <;> omega⟩
          have hmk : m ≠ k := by rw [hm]; split <;> omega
          have hg := er_get hk hq hm hml
          have hps := prog_succ (t := kpTo L) hml hm
          have hp0 := prog_set (t := kpTo L) hml hm
          have hPl : ∀ l, ((prog (kpTo L) sp k q).set m l).length = sp.length := fun l => by rw [List.length_set]; exact hpl q
          have hgT : ∀ (l : List Int) (o : Option (Nat × List Row)) (Y : Heap), (ownH 1 (irow .i64) ((prog (kpTo L) sp k q).set m l) ++ o :: Y)[sp.length]? = some o := fun l o Y => by
            have := gT (L := (prog (kpTo L) sp k q).set m l) (o := o) (Y := Y)
            rwa [hPl] at this
          have hmP : m < (prog (kpTo L) sp k q).length := by rw [hpl]; exact hml
          have hgm : ∀ (l : List Int) (Y : Heap), l ≠ [] → (ownH 1 (irow .i64) ((prog (kpTo L) sp k q).set m l) ++ Y)[m]? = some (some (1, l.map (irow .i64))) := fun l Y hl => by
            rw [List.getElem?_append_left (by rw [ownH_len, hPl]; exact hml), ownH_set, List.getElem?_set_self (by rw [ownH_len]; exact hmP), oT_pos (by simpa using hl)]
          have hsm2 : ∀ (l l' : List Int) (Y : Heap), l' ≠ [] → (ownH 1 (irow .i64) ((prog (kpTo L) sp k q).set m l) ++ Y).set m (some (1, l'.map (irow .i64))) = ownH 1 (irow .i64) ((prog (kpTo L) sp k q).set m l') ++ Y := fun l l' Y hl => by
            rw [List.set_append_left _ _ (by rw [ownH_len, hPl]; exact hml), ownH_set, ownH_set, List.set_set, oT_pos (by simpa using hl)]
          by_cases hz : sp[m] = []
          · have hg' : ∀ h, ((ownR 1 6 sp).eraseIdx k)[q]'h = [.esl] := fun h => by rw [List.getElem?_eq_getElem h] at hg; simpa [oA, hz] using hg
            rw [hz, List.map_nil] at hps
            rw [hz] at hp0
            rw [← hp0] at hps
            simp [Try.ntmps74, Try.results74, cSl, cp0, cn0, cn1, cI, cD, cR, hq, hw, hg, hg', oA, hz, List.length_eraseIdx, ownR_len]
            refine loop_rounds 1 ?_
            simp [Try.ntmps74, Try.results74, cSl, cp0, cn0, cn1, cI, cD, cR, UnrK, hw, hps, hpl, ownH_len, heapW]
            exact ⟨by omega, by simpa using hlow _ (by omega)⟩
          · have hA6 : oA (m + 6) 1 sp[m].length = .osl (m + 6) 1 0 sp[m].length sp[m].length := oA_pos (fun e => hz (List.length_eq_zero_iff.1 e))
            have hg' : ∀ h, ((ownR 1 6 sp).eraseIdx k)[q]'h = [.osl (m + 6) 1 0 sp[m].length sp[m].length] := fun h => by rw [List.getElem?_eq_getElem h] at hg; simpa [hA6] using hg
            have hl8 := (g3 _ (List.getElem_mem hml)).1
            have hlx := (g3 _ (List.getElem_mem hml)).2
            rw [hp0]
            generalize hlm : sp[m] = l at *
            have hmz : ∀ j, mid (kpTo L) l j ≠ [] := fun j e => hz (List.length_eq_zero_iff.1 (by rw [← mid_len (t := kpTo L) (j := j), e]; rfl))
            have hl0 := mid_zero (t := kpTo L) (l := l)
            simp [Try.ntmps74, Try.results74, cSl, cp0, cn0, cn1, cI, cD, cR, hq, hw, hg, hg', hA6, List.length_eraseIdx, ownR_len]
            refine loop_forB l.length (fun j (_ : Unit) => ([(2, .ptr 0 2 0 0), (4, .ptr 1 2 0 0), (8, .osl (sp.length + g + 7) 1 0 (kpCells L cs cs.length).length (kpCells L cs cs.length).length), (9, .osl (sp.length + 6) 1 0 cs.length cs.length), (13, .osl (m + 6) 1 0 l.length l.length), (60, .osl 5 1 0 (sp.length - 1) (sp.length - 1)), (61, .v (.int .i64 ((sp.length - 1 : Nat) : Int))), (62, .v (.int .i64 q)), (66, .osl (m + 6) 1 0 l.length l.length), (67, .v (.int .i64 l.length)), (68, .v (.int .i64 j))],
              some (2, [[.osl 4 1 0 cs.length cs.length, .osl 5 1 0 (sp.length - 1) (sp.length - 1)]]) :: some (2, [[.v (.slice none 0 0), .v (.slice none 0 0)]]) :: none :: none :: some (1, cs.map (irow .u8)) :: some (1, (ownR 1 6 sp).eraseIdx k) :: (ownH 1 (irow .i64) ((prog (kpTo L) sp k q).set m (mid (kpTo L) l j)) ++ some (1, intR cs.length (kpTo L)) :: (List.replicate g none ++ [some (1, (kpCells L cs cs.length).map (irow .u8))])))) (fun k _ => True) () (by omega) trivial ?_ ?_ ?_
            · simp [hl0, ownH_len, heapW, hPl, hpl, lowA]
              exact ⟨⟨by omega, by omega⟩, by simpa using hlow _ (by omega)⟩
            · rintro j _ hj _ hw2
              have hx := hlx _ (List.getElem_mem hj)
              have hcx : ((l[j]).toNat : Int) = l[j] := by omega
              have hc3 : (l[j]).toNat < cs.length := by omega
              have hmg := mid_get (t := kpTo L) hj
              have hms := mid_set (t := kpTo L) hj
              have hgR : ((mid (kpTo L) l j).map (irow .i64))[j]? = some [.v (.int .i64 l[j])] := by simp [hmg, irow]
              have hsR : ((mid (kpTo L) l j).map (irow .i64)).set j [.v (.int .i64 (kpTo L (l[j]).toNat))] = (mid (kpTo L) l (j + 1)).map (irow .i64) := by rw [← hms, List.map_set]; rfl
              simp [Try.ntmps74, Try.results74, cSl, cp0, cn0, cn1, cI, cD, cR, hj, hw2, hgm, hgT, hmz, hgR, hsR, hsm2, hx.1, hx.2, hc3, intR_get, irow, hPl, ownH_len]
              exact ⟨⟨by omega, by omega⟩, by simpa using hlow _ (by omega)⟩
            · rintro _ _
              have hma := mid_all (t := kpTo L) (l := l)
              rw [hma, ← hps]
              simp [Try.ntmps74, Try.results74, cSl, cp0, cn0, cn1, cI, cD, cR, hw, hpl, ownH_len]
              exact ⟨by omega, by simpa using hlow _ (by omega)⟩
        · rintro _ _
          have hend : ∀ (Y : Heap) (i : Nat) (hi : i < sp.length), i ≠ k → sp[i] ≠ [] → (ownH 1 (irow .i64) (prog (kpTo L) sp k (sp.length - 1)) ++ Y)[i]? = some (some (1, ((sp[i]).map (fun x => kpTo L x.toNat)).map (irow .i64))) := fun Y i hi hik hz => by
            have h1 := prog_get (t := kpTo L) (k := k) (q := sp.length - 1) hi
            rw [if_pos (by omega)] at h1
            have h2 : i < (prog (kpTo L) sp k (sp.length - 1)).length := by rw [hpl]; exact hi
            have h3 := ownH_get (sz := 1) (g := irow .i64) h2
            rw [List.getElem?_eq_getElem h2] at h1
            rw [List.getElem?_append_left (by rw [ownH_len]; exact h2), h3, Option.some.inj h1, oT_pos (by simpa using hz)]
          have wN : IntKind.i64.wrap ((cs.length : Int) - ((kpCells L cs cs.length).length : Int)) = (cs.length : Int) - ((kpCells L cs cs.length).length : Int) := w64 (by omega) (by omega)
          have wN0 : IntKind.i64.wrap (cs.length : Int) = cs.length := w64 (by omega) (by omega)
          simp [Try.ntmps74, Try.results74, cSl, cp0, cn0, cn1, cI, cD, cR, ownH_len, hpl, wN, wN0, dpX, rvU, okL, hE]
          have hgc : ∀ (o z : Option (Nat × List Row)) (Y : Heap), (ownH 1 (irow .i64) (prog (kpTo L) sp k (sp.length - 1)) ++ o :: (List.replicate g none ++ z :: Y))[sp.length + g + 1]? = some z := fun o z Y => by
            have := gC (L := prog (kpTo L) sp k (sp.length - 1)) (o := o) (z := z) (g := g) (Y := Y)
            rwa [hpl] at this
          have hLl : L.length = sp.length - 1 := by rw [← hL, List.length_eraseIdx, if_pos hk]
          refine room_canon' (a := (sp.length + g + 7)) (M := 5) (cs := (kpCells L cs cs.length)) (L := L.map (List.map fun x => kpTo L x.toNat)) (fun j => (if j < k then j else j + 1) + 6) [.int .i64 (((cs.length : Int) - (kpCells L cs cs.length).length)), .int .i64 0] (by rw [List.length_map, hLl]) (by simp) rfl (by rw [oA_pos (fun e => hl (List.length_eq_zero_iff.1 e))]; exact @Lss.refl _) ?_ (fun _ => ⟨by simp [obj, hgc], by omega, fun j h e => by have hj2 : j < sp.length - 1 := by { simp [hLl] at h; exact h }; (try simp only) <;> split <;> omega⟩) (fun j h e => ⟨?_, by omega⟩) (fun j q _ _ _ _ hab => by (try simp only at hab) <;> split at hab <;> split at hab <;> omega)
          · rw [← rowsI_erD (f := fun x => kpTo L x.toNat) hL]
            rfl
          · have hjL : j < sp.length - 1 := by simp [hLl] at h; exact h
            obtain ⟨i, hi, hil⟩ : ∃ i, i = (if j < k then j else j + 1) ∧ i < sp.length := ⟨_, rfl, by split <;> omega⟩
            have hik : i ≠ k := by rw [hi]; split <;> omega
            have hLi : L[j]'(by omega) = sp[i] := by subst hL; subst hi; rw [List.getElem_eraseIdx]; split <;> simp_all
            have hnz : sp[i] ≠ [] := fun q => e (by simp [hLi, q])
            simp only [← hi, List.getElem_map, hLi]
            simp [obj, hend _ i hil hik hnz]
theorem drop_inl : InlOk Try.prog 74 (frame0 (own0 (argG (cAgg rRoom) fun q => argG (cInt .i64) fun s => finG (some (rvU (dpX (cowDrop q s))))))) := frame0_ok drop_own
end
end
end Go.Proofs.Ytebpjfdbjhodiaa
