/- Package entry: what its functions answer, at every argument. Package table: nodes, at, huge, Check. Package table: at, huge, Check, page, Walk. Package table: page, Walk, own, split, clean. Package table: split, clean, Set, Join, Split, Size. Own results in one form, whatever came out. Tables whose entries are one's own. Package table: Set, Join, Split, their results one's own. -/
import Derived.Test.YtebpjfdbjhodiaaFaT
import Derived.Test.YtebpjfdbjhodiaaAiZg
import Derived.Test.YtebpjfdbjhodiaaAiZe
import Derived.Test.YtebpjfdbjhodiaaAiZf
import Derived.Test.YtebpjfdbjhodiaaAiZi
namespace Go.Proofs.Ytebpjfdbjhodiaa
open Go.AI
set_option linter.unusedSimpArgs false
set_option linter.unusedVariables false
section
set_option maxHeartbeats 2000000
set_option maxRecDepth 100000
set_option linter.unusedSimpArgs false
set_option linter.unusedVariables false
attribute [local simp] wpA wpX RunA RunD runF foot footP footB idsA bare apart runL step1 gsel_f gsel_t gsel_s res_same res_and1 res_and2 res_and3 res_and4 res_and5 res_and6 res_false res_true res_v res_ptr res_fptr res_osl res_xsl soft aAppendZ aCap ovlI ovlJ res_fsl res_esl res_agg res_tup res_fn res_junk res_anyb aPick hk imp_left iteV dstOk guardOk astep astepE AI.ev AI.look AI.put envOf aBox cellsOf allOne allOneA oneA Value.oneCell' Value.cells newObj' aFieldAddr aLoad obj readAt thenA blockA condA retA resA tupA view hot hotC hotR depthV cAgg cInt cBool mkAgg allV aAlloc aBuild fillA writeAt aStore isAggA aField idx aIndexAddr aIndex bnd aSlice aExtract aLen aBuiltin aCall isStatic eqAgg eqTy eqC ev_add ev_sub ev_mul ev_quo ev_rem ev_and ev_or ev_xor ev_andNot ev_shl ev_shr ev_eql ev_neq ev_lss ev_leq ev_gtr ev_geq ev_agg w64 wu32 wu8 ev_not ev_neg Cod.plain RCod.plain argM finM cold coldC coldR goInt intDec boolDec aggDec Weaker heapW lowA lowC Again slDec undef aBuildSlice setRows aAppend rowsOf aMakeSlice aClear aCopy softer_self softer_nil valsOf ev_min2 ev_max2 hotR_set hotR_append take_map_set irow_cold irow_mapM irow_mapMc irow_view irow_viewc irow_hotR irow_ren irow_renc irow_low WeakT heapT thOf ren renC AgainT NextF NextT fnDec cFn rNil selfLt natLt0 natLt1 getLastMap frame0 frame1 own0 own1 argG finG tau tauI tauO tauC bareA bareC bareH irow_tau irow_tauc irow_bare irow_flat irow_bareR ownA_nil ownT_nil ownA_c ownT_c ownA_s ownT_s takeMapLen footC plainA noId noIdC cloneF frame0F frame1F insertF replaceI replaceF cellDec rCell fpDec cFp rTwo deleteF allV_oA oneA_oA res_oA RunR RunE runFT footAt hotR_cat tmodN aEqH aSliceA frameN newA newC newH fxSz3 fxAg3 fxSl3 fxAg4 fxSz53 fxBy53 fxAg53 fxZe53 fxSl53 fxAr53 fxSz55 fxAg55 fxZe55 fxFi55x0 fxFi55x1 fxPl55 fxSz57 fxAg57 fxZe57 fxAr57 fxPl57 fxSz59 fxBy59 fxAg59 fxZe59 fxFi59x0 fxFi59x1 fxFi59x2 fxFi59x3 fxFi59x4 fxFi59x5 fxPl59 fxSz60 fxAg60 fxSl60 fxAr60 fxSz62 fxBy62 fxAg62 fxZe62 fxFi62x0 fxFi62x1 fxSz63 fxAg63 fxZe63 fxSl63 fxAr63 fxSz65 fxBy65 fxAg65 fxZe65 fxFi65x0 fxFi65x1 fxFi65x2 fxPl65 fxSz66 fxAg66 fxZe66 fxSl66 fxAr66 fxSz68 fxAg68 fxZe68 fxSl68 fxAr68 fxSz69 fxBy69 fxAg69 fxZe69 fxSl69 fxAr69 fxSz70 fxAg70 fxSl70 fxAr70 fxSz72 fxBy72 fxAg72 fxZe72 fxFi72x0 fxFi72x1 fxSz74 fxAg74 fxSz76 fxBy76 fxAg76 fxZe76 fxFi76x0 fxFi76x1 fxFi76x2 fxPl76 fxZe92 fxAr92 fxPl92 fxZe93 fxAr93 fxPl93 fxZe94 fxAr94 fxPl94 fxEq59 fxEq65 fxEq76 fxNe53 fxOe53 fxXe53 fxNe60 fxOe60 fxXe60 fxLn63 fxNe63 fxOe63 fxXe63 fxNe69 fxOe69 fxXe69 fxNe70 fxOe70 fxXe70 fxFm22 fxFi22 fxFm23 fxFi23 fxFm24 fxFi24 fxFm25 fxFi25 fxFm26 fxFi26 fxFm27 fxFm28 fxFi28 fxFj28 fxFm29 fxFi29 fxFm30 fxFi30 fxFm31 fxFi31 fxFm32 fxFm33 fxFm34 fxFm36 fxFi36 fxFm38 fxFi38 fxFm39 fxFm40 fxFm93 fxFi93 fxFm94 fxFi94 fxFm95 fxFi95 fxFm96 fxFm97 fxFm98 fxFm99 fxFi99 fxFm100 fxFi100 fxFm101 fxFi101 fxFm102 fxFi102 fxFm103 fxFi103 fxFm104 fxFm105 fxFm106 fxFm107 fxFi107 fxFm108 fxFm109 fxFi109 fxFm110 fxFi110 fxFm111 fxFm112 fxFm163 fxFi163 fxFm164 fxFi164 fxFm165 fxFm166 fxFm167 fxFi167 fxFm168 fxFi168 fxFm169 fxFi169 fxFm170 fxFi170 fxFm171 fxFm199 fxFi199 fxFm200 fxFi200 fxFm201 fxFm221 fxFi221
section
structure Entry where
  here : Bool
  slot : Bool
  at_ : Int
  rights : Int
  used : Bool
  dirty : Bool
  copy : Bool
  deriving DecidableEq
def entDec : Row → Option Entry
  | [.v (.bool x0), .v (.bool x1), .v (.int .i64 x2), .v (.int .i64 x3), .v (.bool x4), .v (.bool x5), .v (.bool x6)] => some ⟨x0, x1, x2, x3, x4, x5, x6⟩
  | _ => none
def Entry.row (e : Entry) : Row := [.v (.bool e.here), .v (.bool e.slot), .v (.int .i64 e.at_), .v (.int .i64 e.rights), .v (.bool e.used), .v (.bool e.dirty), .v (.bool e.copy)]
def rEnt : RCod Entry := RCod.plain 7 Entry.row entDec
  (fun e => rfl) (fun _ => rfl) (fun r e h => by
    unfold entDec at h
    split at h
    · simp at h; subst h; rfl
    · cases h)
def Entry.val (e : Entry) : Value := .agg #[.bool e.here, .bool e.slot, .int .i64 e.at_, .int .i64 e.rights, .bool e.used, .bool e.dirty, .bool e.copy]
theorem Entry.eta (e : Entry) : Entry.mk e.here e.slot e.at_ e.rights e.used e.dirty e.copy = e := rfl
attribute [local simp] Entry.eta
theorem Entry.cold (l : List Entry) : coldR (l.map Entry.row) = l.map Entry.row := by
  induction l with
  | nil => simp [coldR]
  | cons e l ih => simp [coldR, coldC, AI.cold, ih, Entry.row]
theorem Entry.mapM (l : List Entry) : (l.map Entry.row).mapM entDec = some l := mapM_dec rEnt l
theorem Entry.mapMc (l : List Entry) : l.mapM (entDec ∘ Entry.row) = some l := mapM_dec' rEnt l
theorem Entry.view (H : Heap) (n : Nat) (e : Entry) : List.map (AI.view H n) e.row = e.row := by cases n <;> simp [Entry.row, AI.view]
theorem Entry.viewc (H : Heap) (n : Nat) : List.map (AI.view H n) ∘ Entry.row = Entry.row := by funext e; exact Entry.view H n e
theorem Entry.hotR (l : List Entry) : AI.hotR (l.map Entry.row) = true := by
  induction l with
  | nil => simp [AI.hotR]
  | cons e l ih => simp [AI.hotR, hotC, hot, ih, Entry.row]
theorem Entry.ren (n : Nat) (th : List Nat) (e : Entry) : List.map (AI.ren n th) e.row = e.row := by simp [Entry.row, AI.ren]
theorem Entry.renc (n : Nat) (th : List Nat) : List.map (AI.ren n th) ∘ Entry.row = Entry.row := by funext e; exact Entry.ren n th e
theorem Entry.low (n : Nat) (e : Entry) : e.row.all (lowA n) = true := by simp [Entry.row, lowA]
theorem Entry.tau (fp : List Nat) (n : Nat) (e : Entry) : List.map (AI.tau fp n) e.row = e.row := by simp [Entry.row, AI.tau]
theorem Entry.tauc (fp : List Nat) (n : Nat) : List.map (AI.tau fp n) ∘ Entry.row = Entry.row := by funext e; exact Entry.tau fp n e
theorem Entry.bare (e : Entry) : e.row.all bareA = true := by simp [Entry.row, bareA]
theorem Entry.flat (l : List Entry) : flat0 (l.map Entry.row) = true := by simp [flat0, Entry.low]
theorem Entry.flat1 (e : Entry) : flat0 [e.row] = true := by simp [flat0, Entry.low]
theorem Entry.exact : Exact rEnt := by
  intro r e h
  simp only [rEnt, RCod.plain] at h ⊢
  unfold entDec at h
  split at h
  · simp at h; subst h; rfl
  · cases h
theorem Entry.mapMt (k : Nat) (l : List Entry) : (List.take k (l.map Entry.row)).mapM entDec = some (l.take k) := by rw [← List.map_take]; exact mapM_dec rEnt _
theorem Entry.mapMd (k : Nat) (l : List Entry) : (List.drop k (l.map Entry.row)).mapM entDec = some (l.drop k) := by rw [← List.map_drop]; exact mapM_dec rEnt _
theorem Entry.coldt (k : Nat) (l : List Entry) : coldR (List.take k (l.map Entry.row)) = List.take k (l.map Entry.row) := by rw [← List.map_take]; exact Entry.cold _
theorem Entry.coldd (k : Nat) (l : List Entry) : coldR (List.drop k (l.map Entry.row)) = List.drop k (l.map Entry.row) := by rw [← List.map_drop]; exact Entry.cold _
theorem Entry.hotRt (k : Nat) (l : List Entry) : AI.hotR (List.take k (l.map Entry.row)) = true := by rw [← List.map_take]; exact Entry.hotR _
theorem Entry.hotRd (k : Nat) (l : List Entry) : AI.hotR (List.drop k (l.map Entry.row)) = true := by rw [← List.map_drop]; exact Entry.hotR _
attribute [local simp] Entry.hotRt Entry.hotRd
attribute [local simp] Entry.tau Entry.tauc Entry.bare Entry.flat Entry.flat1 Entry.mapMt Entry.mapMd Entry.coldt Entry.coldd
attribute [local simp] Entry.cold Entry.mapM Entry.mapMc Entry.view Entry.viewc Entry.hotR Entry.ren Entry.renc Entry.low

def Entry.none (e : Entry) : Bool := !e.here && !e.slot
def noEnt : Entry := ⟨false, false, 0, 0, false, false, false⟩

theorem none_pure : PureOk Try.prog 163 (argM (cAgg rEnt) fun e => finM (some (.v (.bool e.none)))) := by
  refine pure1 Try.func163 rfl ?_
  rintro e r hr
  simp only [Option.some.injEq] at hr
  subst hr
  refine body_gen noOrc_ok fxMix (by kernel_rfl) (by simp [Try.ntmps163]) ?_
  intro C cP cI cN cD cF cA cR cL
  replace cI : C.inl = fun _ => false := cI
  replace cR : C.rd = fun _ => none := cR
  replace cD : C.dyn = fun _ => [] := cD
  clear cP cN cF cA
  simp [Try.ntmps163, Try.results163, cSl, cI, cD, cR, rEnt, Entry.row, Entry.none]

def Entry.chk (e : Entry) : Int :=
  if ((e.rights < 0 ∨ 7 < e.rights) ∨ e.at_ < 0) ∨ 64 ≤ e.at_ then 1
  else if (e.here && e.slot) || (e.dirty && !e.here) || (e.used && !e.here) || (e.none && !(e.at_ == 0 && e.rights == 0 && !e.copy)) then 3 else 0

theorem check_pure : PureOk Try.prog 95 (argM (cAgg rEnt) fun e => finM (some (.v (.int .i64 e.chk)))) := by
  refine pure1 Try.func95 rfl ?_
  rintro e r hr
  simp only [Option.some.injEq] at hr
  subst hr
  refine body_gen (noOrc_ok.withP none_pure) fxMix (by kernel_rfl) (by simp [Try.ntmps95]) ?_
  intro C cP cI cN cD cF cA cR cL
  have cp0 := orcP none_pure (C := C) (by rw [cP]; rfl)
  replace cI : C.inl = fun _ => false := cI
  replace cR : C.rd = fun _ => none := cR
  replace cD : C.dyn = fun _ => [] := cD
  clear cP cN cF cA
  obtain ⟨h, s, a, r, u, d, c⟩ := e
  simp [Try.ntmps95, Try.results95, cSl, cp0, cI, cD, cR, rEnt, Entry.row, entDec]
  simp only [Entry.chk, Entry.none]
  cases h <;> cases s <;> cases u <;> cases d <;> cases c <;> simp <;> (repeat' split) <;> (try omega) <;> (try intros) <;> (try omega)

end
section
attribute [local simp] Entry.eta Entry.cold Entry.mapM Entry.mapMc Entry.view Entry.viewc Entry.hotR Entry.ren Entry.renc Entry.low Entry.tau Entry.tauc Entry.bare Entry.flat Entry.flat1 Entry.mapMt Entry.mapMd Entry.coldt Entry.coldd Entry.hotRt Entry.hotRd
structure Nd where
  huge : Bool
  ents : List Entry
  deriving DecidableEq
def ndDec : Row → Option Nd
  | [.v (.bool x0), a1] => match slDec rEnt a1 with | some x1 => some ⟨x0, x1⟩ | _ => none
  | _ => none
def Nd.row (e : Nd) : Row := [.v (.bool e.huge), .fsl false 7 (e.ents.map Entry.row)]
def Nd.hrow (e : Nd) : Row := [.v (.bool e.huge), .fsl true 7 (e.ents.map Entry.row)]
theorem Nd.eta (e : Nd) : Nd.mk e.huge e.ents = e := rfl
theorem Nd.dec_row (e : Nd) : ndDec e.row = some e := by
  have h1 := (cSl rEnt).de e.ents
  simp only [cSl] at h1
  simp only [ndDec, Nd.row]
  erw [h1]
theorem Nd.dec_hrow (e : Nd) : ndDec e.hrow = some e := Nd.dec_row e
def rNd : RCod Nd where
  sz := 2
  enc := Nd.row
  dec := ndDec
  de := Nd.dec_row
  len _ := rfl
  ok := by
    intro r e h β ok w n x hok hr
    unfold ndDec at h
    split at h
    · split at h
      · rename_i h1
        simp at h
        subst h
        refine ⟨rfl, fun j c hj => ?_⟩
        match j, hj with
        | 0, hj => simp [Nd.row] at hj; subst hj; exact hr 0 _ rfl
        | 1, hj => simp [Nd.row] at hj; subst hj; exact (cSl rEnt).ok h1 hok (hr 1 _ rfl)
        | j + 2, hj => simp [Nd.row] at hj
      · cases h
    · cases h
theorem Nd.cold (l : List Nd) : coldR (l.map Nd.row) = l.map Nd.row := by
  induction l with
  | nil => simp [coldR]
  | cons e l ih => simp [coldR, coldC, AI.cold, ih, Nd.row, Entry.cold, irow_cold]
theorem Nd.hcold (l : List Nd) : coldR (l.map Nd.hrow) = l.map Nd.row := by
  induction l with
  | nil => simp [coldR]
  | cons e l ih => simp [coldR, coldC, AI.cold, ih, Nd.row, Nd.hrow, Entry.cold, irow_cold]
theorem Nd.mapM (l : List Nd) : (l.map Nd.row).mapM ndDec = some l := mapM_dec rNd l
theorem Nd.mapMc (l : List Nd) : l.mapM (ndDec ∘ Nd.row) = some l := mapM_dec' rNd l
theorem Nd.hmapM (l : List Nd) : (l.map Nd.hrow).mapM ndDec = some l := by
  rw [List.mapM_map]
  have : ndDec ∘ Nd.hrow = ndDec ∘ Nd.row := by funext e; simp [Function.comp, Nd.dec_row, Nd.dec_hrow]
  rw [this]; exact Nd.mapMc l
theorem Nd.hmapMc (l : List Nd) : l.mapM (ndDec ∘ Nd.hrow) = some l := by
  have := Nd.hmapM l
  rwa [List.mapM_map] at this
theorem Nd.view (H : Heap) (n : Nat) (e : Nd) : List.map (AI.view H n) e.row = e.row := by cases n <;> simp [Nd.row, AI.view]
theorem Nd.viewc (H : Heap) (n : Nat) : List.map (AI.view H n) ∘ Nd.row = Nd.row := by funext e; exact Nd.view H n e
theorem Nd.hview (H : Heap) (n : Nat) (e : Nd) : List.map (AI.view H n) e.hrow = e.hrow := by cases n <;> simp [Nd.hrow, AI.view]
theorem Nd.hviewc (H : Heap) (n : Nat) : List.map (AI.view H n) ∘ Nd.hrow = Nd.hrow := by funext e; exact Nd.hview H n e
theorem Nd.hotR (l : List Nd) : AI.hotR (l.map Nd.hrow) = true := by
  induction l with
  | nil => simp [AI.hotR]
  | cons e l ih => simp [AI.hotR, hotC, hot, ih, Nd.hrow, Entry.hotR, irow_hotR]
theorem Nd.ren (n : Nat) (th : List Nat) (e : Nd) : List.map (AI.ren n th) e.row = e.row := by simp [Nd.row, AI.ren]
theorem Nd.renc (n : Nat) (th : List Nat) : List.map (AI.ren n th) ∘ Nd.row = Nd.row := by funext e; exact Nd.ren n th e
theorem Nd.low (n : Nat) (e : Nd) : e.row.all (lowA n) = true := by simp [Nd.row, lowA]
theorem Nd.hlow (n : Nat) (e : Nd) : e.hrow.all (lowA n) = true := by simp [Nd.hrow, lowA]
attribute [local simp] Nd.hlow Nd.eta Nd.dec_row Nd.dec_hrow Nd.cold Nd.hcold Nd.mapM Nd.mapMc Nd.hmapM Nd.hmapMc Nd.view Nd.viewc Nd.hview Nd.hviewc Nd.hotR Nd.ren Nd.renc Nd.low

structure Tb where
  l : List Nd
  h : l.length = 8
/-- rows of two cells, one behind the other -/
def fl : List Row → Row
  | [] => []
  | r :: rs => r ++ fl rs
theorem fl_len {rs : List Row} (h : ∀ r ∈ rs, r.length = 2) : (fl rs).length = rs.length * 2 := by
  induction rs with
  | nil => rfl
  | cons r rs ih =>
    have := h r List.mem_cons_self
    have := ih fun x hx => h x (List.mem_cons_of_mem _ hx)
    simp only [fl, List.length_append, List.length_cons]; omega
theorem fl_get {rs : List Row} (h : ∀ r ∈ rs, r.length = 2) : ∀ {k j : Nat} (hk : k < rs.length), j < 2 → (fl rs)[k * 2 + j]? = rs[k][j]? := by
  induction rs with
  | nil => intro k j hk; simp at hk
  | cons r rs ih =>
    intro k j hk hj
    have h1 := h r List.mem_cons_self
    cases k with
    | zero => simp only [fl, Nat.zero_mul, Nat.zero_add]; rw [List.getElem?_append_left (by omega)]; rfl
    | succ k =>
      simp only [fl]
      rw [List.getElem?_append_right (by omega)]
      have e : (k + 1) * 2 + j - r.length = k * 2 + j := by omega
      rw [e, ih (fun x hx => h x (List.mem_cons_of_mem _ hx)) (by simpa using hk) hj]
      simp
theorem fl_take {rs : List Row} (h : ∀ r ∈ rs, r.length = 2) {k : Nat} (hk : k < rs.length) : ((fl rs).drop (k * 2)).take 2 = rs[k] := by
  have hl := h _ (List.getElem_mem hk)
  have hf := fl_len h
  apply List.ext_getElem?
  intro j
  by_cases hj : j < 2
  · rw [List.getElem?_take_of_lt hj, List.getElem?_drop, fl_get h hk hj]
  · rw [List.getElem?_eq_none (by simp; omega), List.getElem?_eq_none (by omega)]
theorem fl_write {rs : List Row} (h : ∀ r ∈ rs, r.length = 2) : ∀ {k : Nat} {r : Row}, k < rs.length → r.length = 2 → writeAt (fl rs) (k * 2) r = fl (rs.set k r) := by
  intro k r hk hr
  have hf := fl_len h
  have h2 : ∀ x ∈ rs.set k r, x.length = 2 := fun x hx => by
    rcases List.mem_or_eq_of_mem_set hx with hx | rfl
    · exact h x hx
    · exact hr
  apply List.ext_getElem?
  intro i
  rw [writeAt_get _ _ _ (by omega)]
  by_cases hi : i < rs.length * 2
  · obtain ⟨q, j, rfl, hj⟩ : ∃ q j, i = q * 2 + j ∧ j < 2 := ⟨i / 2, i % 2, by omega, by omega⟩
    have hq : q < rs.length := by omega
    rw [fl_get h hq hj, fl_get h2 (by simpa using hq) hj]
    by_cases e : q = k
    · subst e
      rw [if_pos (by omega)]
      have : q * 2 + j - q * 2 = j := by omega
      rw [this]; simp
    · rw [if_neg (by omega), List.getElem_set_ne (fun x => e x.symm)]
  · rw [if_neg (by omega), List.getElem?_eq_none (by omega), List.getElem?_eq_none (by rw [fl_len h2]; simp; omega)]
theorem fl_write1 {rs : List Row} (h : ∀ r ∈ rs, r.length = 2) {k : Nat} {x : AVal} (hk : k < rs.length) : writeAt (fl rs) (k * 2 + 1) [x] = fl (rs.set k (rs[k].set 1 x)) := by
  have hf := fl_len h
  have hl := h _ (List.getElem_mem hk)
  have h2 : ∀ y ∈ rs.set k (rs[k].set 1 x), y.length = 2 := fun y hy => by
    rcases List.mem_or_eq_of_mem_set hy with hy | rfl
    · exact h y hy
    · simpa using hl
  apply List.ext_getElem?
  intro i
  rw [writeAt_get _ _ _ (by simp; omega)]
  by_cases hi : i < rs.length * 2
  · obtain ⟨q, j, rfl, hj⟩ : ∃ q j, i = q * 2 + j ∧ j < 2 := ⟨i / 2, i % 2, by omega, by omega⟩
    have hq : q < rs.length := by omega
    rw [fl_get h hq hj, fl_get h2 (by simpa using hq) hj]
    by_cases e : q = k
    · subst e
      rw [List.getElem_set_self]
      by_cases hj1 : j = 1
      · subst hj1
        rw [if_pos (by simp), List.getElem?_set_self (by omega)]
        simp
      · have : j = 0 := by omega
        subst this
        rw [if_neg (by simp; omega), List.getElem?_set_ne (by omega)]
    · rw [if_neg (by simp; omega), List.getElem_set_ne (fun y => e y.symm)]
  · rw [if_neg (by simp; omega), List.getElem?_eq_none (by omega), List.getElem?_eq_none (by rw [fl_len h2]; simp; omega)]
theorem nd_rows (l : List Nd) : ∀ r ∈ l.map Nd.row, r.length = 2 := by
  intro r hr
  obtain ⟨n, _, rfl⟩ := List.mem_map.1 hr
  rfl
theorem nd_hrows (l : List Nd) : ∀ r ∈ l.map Nd.hrow, r.length = 2 := by
  intro r hr
  obtain ⟨n, _, rfl⟩ := List.mem_map.1 hr
  rfl
def Tb.row (t : Tb) : Row := fl (t.l.map Nd.row)
def Tb.hrow (t : Tb) : Row := fl (t.l.map Nd.hrow)
def unfl : List AVal → Option (List Nd)
  | [] => some []
  | a :: b :: r => match ndDec [a, b], unfl r with | some n, some l => some (n :: l) | _, _ => none
  | _ => none
def tbDec (r : Row) : Option Tb := match unfl r with | some l => if h : l.length = 8 then some ⟨l, h⟩ else none | none => none
theorem unfl_row (l : List Nd) : unfl (fl (l.map Nd.row)) = some l := by
  induction l with
  | nil => rfl
  | cons n l ih =>
    have h : ndDec n.row = some n := Nd.dec_row n
    simp only [Nd.row] at h
    simp only [List.map_cons, fl, Nd.row, List.cons_append, List.nil_append, unfl, h]
    rw [ih]
theorem unfl_hrow (l : List Nd) : unfl (fl (l.map Nd.hrow)) = some l := by
  induction l with
  | nil => rfl
  | cons n l ih =>
    have h : ndDec n.hrow = some n := Nd.dec_hrow n
    simp only [Nd.hrow] at h
    simp only [List.map_cons, fl, Nd.hrow, List.cons_append, List.nil_append, unfl, h]
    rw [ih]
theorem Tb.dec_row (t : Tb) : tbDec t.row = some t := by
  obtain ⟨l, h⟩ := t
  simp [tbDec, Tb.row, unfl_row, h]
theorem Tb.dec_hrow (t : Tb) : tbDec t.hrow = some t := by
  obtain ⟨l, h⟩ := t
  simp [tbDec, Tb.hrow, unfl_hrow, h]
theorem unfl_ok : ∀ (r : Row) (l : List Nd), unfl r = some l → ∀ (β : Nat → Nat) (ok : Bool → Nat → Prop) (w : World) (n : Nat) (x : Nat → Value), (∀ o b, ok o b → ok false b) →
    (∀ (j : Nat) (c : AVal), r[j]? = some c → R β ok w n c (x j)) → r.length = l.length * 2 ∧ ∀ (j : Nat) (c : AVal), (fl (l.map Nd.row))[j]? = some c → R β ok w n c (x j)
  | [], l, h, β, ok, w, n, x, hok, hr => by
    simp [unfl] at h
    subst h
    exact ⟨rfl, fun j c hj => by simp [fl] at hj⟩
  | [_], l, h, _, _, _, _, _, _, _ => by simp [unfl] at h
  | a :: b :: r, l, h, β, ok, w, n, x, hok, hr => by
    simp only [unfl] at h
    split at h
    · rename_i nd l' hn hl
      simp at h
      subst h
      obtain ⟨_, h1⟩ := rNd.ok hn (β := β) (ok := ok) (w := w) (n := n) (x := x) hok (fun j c hj => by
        match j, hj with
        | 0, hj => exact hr 0 c (by simpa using hj)
        | 1, hj => exact hr 1 c (by simpa using hj)
        | j + 2, hj => simp at hj)
      obtain ⟨h2, h3⟩ := unfl_ok r l' hl β ok w n (fun j => x (j + 2)) hok (fun j c hj => hr (j + 2) c (by simpa using hj))
      refine ⟨by simp [h2]; omega, fun j c hj => ?_⟩
      match j, hj with
      | 0, hj => exact h1 0 c (by simpa [fl, Nd.row, rNd] using hj)
      | 1, hj => exact h1 1 c (by simpa [fl, Nd.row, rNd] using hj)
      | j + 2, hj => exact h3 j c (by simpa [fl, Nd.row] using hj)
    · cases h
def rTb : RCod Tb where
  sz := 16
  enc := Tb.row
  dec := tbDec
  de := Tb.dec_row
  len t := by rw [Tb.row, fl_len (nd_rows _), List.length_map, t.h]
  ok := by
    intro r e h β ok w n x hok hr
    unfold tbDec at h
    split at h
    · rename_i l hl
      split at h
      · rename_i h8
        simp at h
        subst h
        obtain ⟨h1, h2⟩ := unfl_ok r l hl β ok w n x hok hr
        exact ⟨by omega, h2⟩
      · cases h
    · cases h
theorem fl_view {H : Heap} {d : Nat} (l : List Nd) : (fl (l.map Nd.row)).map (view H d) = fl (l.map Nd.row) := by
  induction l with
  | nil => rfl
  | cons n l ih =>
    have := Nd.view H d n
    simp only [List.map_cons, fl, List.map_append, this, ih]
theorem fl_hview {H : Heap} {d : Nat} (l : List Nd) : (fl (l.map Nd.hrow)).map (view H d) = fl (l.map Nd.hrow) := by
  induction l with
  | nil => rfl
  | cons n l ih =>
    have := Nd.hview H d n
    simp only [List.map_cons, fl, List.map_append, this, ih]
theorem fl_cold (l : List Nd) : coldC (fl (l.map Nd.row)) = fl (l.map Nd.row) := by
  induction l with
  | nil => rfl
  | cons n l ih => simp [fl, Nd.row, coldC, AI.cold, Entry.cold] ; simpa [Nd.row] using ih
theorem fl_hcold (l : List Nd) : coldC (fl (l.map Nd.hrow)) = fl (l.map Nd.row) := by
  induction l with
  | nil => rfl
  | cons n l ih => simp [fl, Nd.row, Nd.hrow, coldC, AI.cold, Entry.cold] ; simpa [Nd.row, Nd.hrow] using ih
theorem fl_hot (l : List Nd) : hotC (fl (l.map Nd.hrow)) = true := by
  induction l with
  | nil => rfl
  | cons n l ih => simp [fl, Nd.hrow, hotC, hot, Entry.hotR] ; simpa [Nd.hrow] using ih
theorem fl_allV (n : Nd) (l : List Nd) : allV (fl ((n :: l).map Nd.row)) = none := by simp [fl, Nd.row, allV]
theorem fl_hallV (n : Nd) (l : List Nd) : allV (fl ((n :: l).map Nd.hrow)) = none := by simp [fl, Nd.hrow, allV]
end
section
attribute [local simp] Entry.eta Entry.cold Entry.mapM Entry.mapMc Entry.view Entry.viewc Entry.hotR Entry.ren Entry.renc Entry.low Entry.tau Entry.tauc Entry.bare Entry.flat Entry.flat1 Entry.mapMt Entry.mapMd Entry.coldt Entry.coldd Entry.hotRt Entry.hotRd
attribute [local simp] Nd.eta Nd.dec_row Nd.dec_hrow Nd.cold Nd.hcold Nd.mapM Nd.mapMc Nd.hmapM Nd.hmapMc Nd.view Nd.viewc Nd.hview Nd.hviewc Nd.hotR Nd.ren Nd.renc Nd.low Nd.hlow
def hugeE (e : Entry) : Bool := e.here && (Int.tmod e.at_ 8 == 0)
theorem huge_pure : PureOk Try.prog 101 (argM (cAgg rEnt) fun e => finM (some (.v (.bool (hugeE e))))) := by
  refine pure1 Try.func101 rfl ?_
  rintro e r hr
  simp only [Option.some.injEq] at hr
  subst hr
  refine body_gen noOrc_ok fxMix (by kernel_rfl) (by simp [Try.ntmps101]) ?_
  intro C cP cI cN cD cF cA cR cL
  replace cI : C.inl = fun _ => false := cI
  replace cR : C.rd = fun _ => none := cR
  replace cD : C.dyn = fun _ => [] := cD
  clear cP cN cF cA
  simp [Try.ntmps101, Try.results101, cSl, cI, cD, cR, rEnt, Entry.row, entDec, hugeE]
def shape (n : Nd) : Bool := if n.huge = true then decide (n.ents.length = 1) else decide (n.ents.length = 0) || decide (n.ents.length = 8)
def addE (e : Entry) (k : Int) : Entry := { e with at_ := IntKind.i64.wrap (e.at_ + k) }
def atN (n : Nd) (k : Nat) : Entry := if n.huge = true then addE (n.ents[0]?.getD noEnt) k else if n.ents.length = 0 then noEnt else n.ents[k]?.getD noEnt
theorem at_pure : PureOk Try.prog 100 (argM (cAgg rNd) fun n => argM (cInt .i64) fun k => finM (if shape n = true ∧ 0 ≤ k ∧ k < 8 then some (.v (atN n k.toNat).val) else none)) := by
  refine pure2 Try.func100 rfl ?_
  rintro n k r hr
  by_cases hc : shape n = true ∧ 0 ≤ k ∧ k < 8
  case neg => rw [if_neg hc] at hr; cases hr
  rw [if_pos hc] at hr
  simp only [Option.some.injEq] at hr
  subst hr
  refine body_gen noOrc_ok fxMix (by kernel_rfl) (by simp [Try.ntmps100]) ?_
  intro C cP cI cN cD cF cA cR cL
  replace cI : C.inl = fun _ => false := cI
  replace cR : C.rd = fun _ => none := cR
  replace cD : C.dyn = fun _ => [] := cD
  clear cP cN cF cA
  obtain ⟨h, L⟩ := n
  obtain ⟨hs, hk0, hk8⟩ := hc
  obtain ⟨k, rfl⟩ := Int.eq_ofNat_of_zero_le hk0
  cases h
  · simp [shape] at hs
    rcases hs with hs | hs
    · subst hs
      simp [Try.ntmps100, Try.results100, cSl, cI, cD, cR, rNd, ndDec, rEnt, Nd.row, atN, noEnt, Entry.val]
    · have h0 : ¬ L.length = 0 := by omega
      have hk : k < L.length := by omega
      have hk' : (k : Int) < 8 := by omega
      have hg : L[k]? = some L[k] := List.getElem?_eq_getElem hk
      simp [Try.ntmps100, Try.results100, cSl, cI, cD, cR, hg, rNd, ndDec, rEnt, Nd.row, atN, h0, hk, hk', hs, Entry.row, Entry.val]
      done
  · simp [shape] at hs
    obtain ⟨e, rfl⟩ := List.length_eq_one_iff.1 hs
    simp [Try.ntmps100, Try.results100, cSl, cI, cD, cR, rNd, ndDec, rEnt, Nd.row, atN, addE, Entry.row, Entry.val]
/-- Check, node by node -/
def firstBad : List Entry → Int
  | [] => 0
  | e :: r => if e.chk = 0 then firstBad r else e.chk
def nodeChk (n : Nd) : Int :=
  if (n.huge = true ∧ (n.ents.length ≠ 1 ∨ hugeE (n.ents[0]?.getD noEnt) = false)) ∨ (n.huge = false ∧ n.ents.length ≠ 0 ∧ n.ents.length ≠ 8) then 3
  else if firstBad n.ents = 0 then (if n.ents.all Entry.none = true ∧ 0 < n.ents.length then 3 else 0) else firstBad n.ents
def nodesChk : List Nd → Int
  | [] => 0
  | n :: r => if nodeChk n = 0 then nodesChk r else nodeChk n
def tbCheck (t : Tb) : Int := nodesChk t.l
theorem tb_ne (t : Tb) : ∃ n r, t.l = n :: r := by
  obtain ⟨l, h⟩ := t
  cases l with
  | nil => simp at h
  | cons n r => exact ⟨n, r, rfl⟩
theorem tb_allV (t : Tb) : allV t.row = none := by
  obtain ⟨n, r, h⟩ := tb_ne t
  rw [Tb.row, h]; exact fl_allV n r
theorem tb_hallV (t : Tb) : allV t.hrow = none := by
  obtain ⟨n, r, h⟩ := tb_ne t
  rw [Tb.hrow, h]; exact fl_hallV n r
theorem tb_len (t : Tb) : t.row.length = 16 := rTb.len t
theorem tb_hlen (t : Tb) : t.hrow.length = 16 := by rw [Tb.hrow, fl_len (nd_hrows _), List.length_map, t.h]
theorem tb_all (t : Tb) : List.take 16 t.row = t.row := List.take_of_length_le (by rw [tb_len]; omega)
theorem tb_hall (t : Tb) : List.take 16 t.hrow = t.hrow := List.take_of_length_le (by rw [tb_hlen]; omega)
theorem tb_one (t : Tb) : allOneA t.row = true := by
  have key : ∀ l : List Nd, allOneA (fl (l.map Nd.row)) = true := fun l => by
    induction l with
    | nil => rfl
    | cons n l ih => simp [fl, Nd.row, allOneA, oneA, Value.oneCell'] ; simpa [Nd.row] using ih
  exact key t.l
theorem tb_hone (t : Tb) : allOneA t.hrow = true := by
  have key : ∀ l : List Nd, allOneA (fl (l.map Nd.hrow)) = true := fun l => by
    induction l with
    | nil => rfl
    | cons n l ih => simp [fl, Nd.hrow, allOneA, oneA, Value.oneCell'] ; simpa [Nd.hrow] using ih
  exact key t.l
theorem tb_low (n : Nat) (t : Tb) : t.row.all (lowA n) = true := by
  have key : ∀ l : List Nd, (fl (l.map Nd.row)).all (lowA n) = true := fun l => by
    induction l with
    | nil => rfl
    | cons n l ih => simp [fl, Nd.row, lowA] ; simpa [Nd.row] using ih
  exact key t.l
theorem tb_hlow (n : Nat) (t : Tb) : t.hrow.all (lowA n) = true := by
  have key : ∀ l : List Nd, (fl (l.map Nd.hrow)).all (lowA n) = true := fun l => by
    induction l with
    | nil => rfl
    | cons n l ih => simp [fl, Nd.hrow, lowA] ; simpa [Nd.hrow] using ih
  exact key t.l
theorem tb_lowC (n : Nat) (t : Tb) : lowC n t.row = true := by rw [lowC_all]; exact tb_low n t
theorem tb_hlowC (n : Nat) (t : Tb) : lowC n t.hrow = true := by rw [lowC_all]; exact tb_hlow n t
theorem tb_view {H : Heap} {d : Nat} (t : Tb) : t.row.map (view H d) = t.row := fl_view t.l
theorem tb_hview {H : Heap} {d : Nat} (t : Tb) : t.hrow.map (view H d) = t.hrow := fl_hview t.l
theorem tb_cold (t : Tb) : coldC t.row = t.row := fl_cold t.l
theorem tb_hcold (t : Tb) : coldC t.hrow = t.row := fl_hcold t.l
theorem tb_hot (t : Tb) : hotC t.hrow = true := fl_hot t.l
theorem writeAt_all {row cs : Row} (h : cs.length = row.length) : writeAt row 0 cs = cs := by
  apply List.ext_getElem?
  intro i
  rw [writeAt_get _ _ _ (by omega)]
  by_cases hi : i < cs.length
  · rw [if_pos (by omega)]; rfl
  · rw [if_neg (by omega), List.getElem?_eq_none (by omega), List.getElem?_eq_none (by omega)]
theorem tb_write (t : Tb) (row : Row) (h : row.length = 16) : writeAt row 0 t.row = t.row := writeAt_all (by rw [tb_len, h])
theorem tb_hwrite (t : Tb) (row : Row) (h : row.length = 16) : writeAt row 0 t.hrow = t.hrow := writeAt_all (by rw [tb_hlen, h])
theorem tb_take (t : Tb) {k : Nat} (hk : k < 8) : (t.row.drop (k * 2)).take 2 = (t.l[k]'(by rw [t.h]; exact hk)).row := by
  have := fl_take (nd_rows t.l) (k := k) (by rw [List.length_map, t.h]; exact hk)
  simpa [Tb.row] using this
theorem tb_get1 (t : Tb) {k : Nat} (hk : k < 8) : t.row[k * 2 + 1]? = some (.fsl false 7 ((t.l[k]'(by rw [t.h]; exact hk)).ents.map Entry.row)) := by
  have := fl_get (nd_rows t.l) (k := k) (j := 1) (by rw [List.length_map, t.h]; exact hk) (by omega)
  simpa [Tb.row, Nd.row] using this
theorem tb_get0 (t : Tb) {k : Nat} (hk : k < 8) : t.row[k * 2]? = some (.v (.bool (t.l[k]'(by rw [t.h]; exact hk)).huge)) := by
  have := fl_get (nd_rows t.l) (k := k) (j := 0) (by rw [List.length_map, t.h]; exact hk) (by omega)
  simpa [Tb.row, Nd.row] using this
attribute [local simp] tb_write tb_hwrite tb_allV tb_hallV tb_len tb_hlen tb_all tb_hall tb_one tb_hone tb_low tb_hlow tb_lowC tb_hlowC tb_view tb_hview tb_cold tb_hcold tb_hot Tb.dec_row Tb.dec_hrow
theorem hugeNo {n : Nd} (h : nodeChk n = 0) : shape n = true := by
  unfold nodeChk at h
  split at h
  · simp at h
  · rename_i h1
    unfold shape
    cases hn : n.huge
    · by_cases q : n.ents.length = 0 <;> by_cases q8 : n.ents.length = 8 <;> simp_all
    · simp [hn] at h1 ⊢; exact h1.1
theorem all_take {L : List Entry} {j : Nat} (hj : j < L.length) : (L.take (j + 1)).all Entry.none = ((L.take j).all Entry.none && L[j].none) := by
  rw [List.take_succ_eq_append_getElem hj, List.all_append]; simp
theorem tbCheck_pure : PureOk Try.prog 99 (argM (cAgg rTb) fun t => finM (some (.v (.int .i64 (tbCheck t))))) := by
  refine pure1 Try.func99 rfl ?_
  rintro t r hr
  simp only [Option.some.injEq] at hr
  subst hr
  refine body_gen (((noOrc_ok.withP huge_pure).withP check_pure).withP none_pure) fxMix (by kernel_rfl) (by simp [Try.ntmps99]) ?_
  intro C cP cI cN cD cF cA cR cL
  have cp0 := orcP huge_pure (C := C) (by rw [cP]; rfl)
  have cp1 := orcP check_pure (C := C) (by rw [cP]; rfl)
  have cp2 := orcP none_pure (C := C) (by rw [cP]; rfl)
  replace cI : C.inl = fun _ => false := cI
  replace cR : C.rd = fun _ => none := cR
  replace cD : C.dyn = fun _ => [] := cD
  clear cP cN cF cA
  unfold tbCheck
  have hl8 := t.h
  simp [Try.ntmps99, Try.results99, cSl, cp0, cp1, cp2, cI, cD, cR, rTb]
  refine loop_for 8 (fun k (_ : Unit) => ([(9, .agg t.row), (10, .v (.int .i64 k))], [])) (fun k _ => nodesChk (t.l.drop k) = nodesChk t.l) () (by omega) rfl (by simp) ?_ ?_
  · rintro k _ hk hall hw
    have hk' : k < t.l.length := by omega
    have hki : (k : Int) < 8 := by omega
    rw [List.drop_eq_getElem_cons hk', nodesChk] at hall
    have htk := tb_take t hk
    have hle : k * 2 + 2 ≤ 16 := by omega
    generalize hn : t.l[k]'(by omega) = n at *
    obtain ⟨h, L⟩ := n
    cases h
    · by_cases h8 : L.length = 8
      · have h0 : ¬ L = [] := by intro e; rw [e] at h8; simp at h8
        have hbadE : ¬ firstBad L = 0 → nodeChk ⟨false, L⟩ = firstBad L := fun h => by simp [nodeChk, h8, h]
        have hgoodE : firstBad L = 0 → nodeChk ⟨false, L⟩ = if L.all Entry.none = true ∧ 0 < L.length then 3 else 0 := fun h => by simp [nodeChk, h8, h]
        have h8' : (L.length : Int) = 8 := by omega
        simp [Try.ntmps99, Try.results99, cSl, cp0, cp1, cp2, cI, cD, cR, hk, hki, htk, hle, Nd.row, h8', h0]
        refine loop_for L.length (fun j (_ : Unit) => ([(4, .ptr 0 2 0 0), (5, .v (.bool ((L.take j).all Entry.none))), (9, .agg t.row), (10, .v (.int .i64 k)), (46, .fsl false 7 (L.map Entry.row)), (47, .v (.int .i64 L.length)), (48, .v (.int .i64 j))], [some (2, [Nd.row ⟨false, L⟩])])) (fun j _ => firstBad (L.drop j) = firstBad L) () (by omega) rfl (by simp [Nd.row]; try omega) ?_ ?_
        · rintro j _ hj hbad hw2
          have hat := all_take hj
          rw [List.drop_eq_getElem_cons hj, firstBad] at hbad
          generalize hej : L[j] = e2 at *
          generalize hall2 : (L.take j).all Entry.none = al at *
          by_cases hc : e2.chk = 0
          · rw [if_pos hc] at hbad
            cases al <;> simp [Try.ntmps99, Try.results99, cSl, cp0, cp1, cp2, cI, cD, cR, hj, hw2, hej, hc, hat, Nd.row, rEnt, Entry.row, entDec, hbad]
          · rw [if_neg hc] at hbad
            have hnc := hbadE (by rw [← hbad]; exact hc)
            rw [hnc, if_neg (by rw [← hbad]; exact hc), ← hbad] at hall
            simp [Try.ntmps99, Try.results99, cSl, cp0, cp1, cp2, cI, cD, cR, hj, hw2, hej, hc, Nd.row, rEnt, Entry.row, entDec, ← hall]
        · rintro _ hbad
          simp only [List.drop_length, firstBad] at hbad
          have hfin := hgoodE hbad.symm
          have hpos : 0 < L.length := by omega
          have hpos' : (0 : Int) < L.length := by omega
          have hne : ¬ L = [] := by intro e; rw [e] at hpos; simp at hpos
          simp only [List.take_length]
          cases ha : L.all Entry.none
          · rw [ha, if_neg (by simp)] at hfin
            rw [hfin, if_pos rfl] at hall
            simp [Try.ntmps99, Try.results99, cSl, cp0, cp1, cp2, cI, cD, cR, hw, hall, Nd.row]
          · rw [ha, if_pos ⟨rfl, hpos⟩] at hfin
            rw [hfin, if_neg (by omega)] at hall
            simp [Try.ntmps99, Try.results99, cSl, cp0, cp1, cp2, cI, cD, cR, hpos, hpos', hne, ← hall, Nd.row]
      · by_cases h0 : L = []
        · subst h0
          have : nodeChk ⟨false, []⟩ = 0 := rfl
          rw [this, if_pos rfl] at hall
          simp [Try.ntmps99, Try.results99, cSl, cp0, cp1, cp2, cI, cD, cR, hk, hki, htk, hle, Nd.row]
          refine loop_rounds 1 ?_
          simp [Try.ntmps99, Try.results99, cSl, cp0, cp1, cp2, cI, cD, cR, UnrK, hw, hall]
          done
        · have h8' : ¬ (L.length : Int) = 8 := by omega
          have h0' : ¬ L.length = 0 := fun e => h0 (List.length_eq_zero_iff.1 e)
          have : nodeChk ⟨false, L⟩ = 3 := by simp [nodeChk, h8, h0]
          rw [this, if_neg (by omega)] at hall
          simp [Try.ntmps99, Try.results99, cSl, cp0, cp1, cp2, cI, cD, cR, hk, hki, htk, hle, Nd.row, h0, h8, h8', ← hall]
    · by_cases h1 : L.length = 1
      · have hg0 : L[0]? = some (L[0]'(by omega)) := List.getElem?_eq_getElem (by omega)
        generalize he : L[0]'(by omega) = e at hg0
        have h1' : (L.length : Int) = 1 := by omega
        by_cases hh : hugeE e = true
        · have hbadE : ¬ firstBad L = 0 → nodeChk ⟨true, L⟩ = firstBad L := fun h => by simp [nodeChk, hg0, he, h1, hh, h]
          have hgoodE : firstBad L = 0 → nodeChk ⟨true, L⟩ = if L.all Entry.none = true ∧ 0 < L.length then 3 else 0 := fun h => by simp [nodeChk, hg0, he, h1, hh, h]
          simp [Try.ntmps99, Try.results99, cSl, cp0, cp1, cp2, cI, cD, cR, hk, hki, htk, hle, Nd.row, hh, rEnt, Entry.row, entDec, h1', h1, hg0, he]
          refine loop_for L.length (fun j (_ : Unit) => ([(4, .ptr 0 2 0 0), (5, .v (.bool ((L.take j).all Entry.none))), (9, .agg t.row), (10, .v (.int .i64 k)), (46, .fsl false 7 (L.map Entry.row)), (47, .v (.int .i64 L.length)), (48, .v (.int .i64 j))], [some (2, [Nd.row ⟨true, L⟩])])) (fun j _ => firstBad (L.drop j) = firstBad L) () (by omega) rfl (by simp [Nd.row]; try omega) ?_ ?_
          · rintro j _ hj hbad hw2
            have hat := all_take hj
            rw [List.drop_eq_getElem_cons hj, firstBad] at hbad
            generalize hej : L[j] = e2 at *
            generalize hall2 : (L.take j).all Entry.none = al at *
            by_cases hc : e2.chk = 0
            · rw [if_pos hc] at hbad
              cases al <;> simp [Try.ntmps99, Try.results99, cSl, cp0, cp1, cp2, cI, cD, cR, hj, hw2, hej, hc, hat, Nd.row, rEnt, Entry.row, entDec, hbad]
            · rw [if_neg hc] at hbad
              have hnc := hbadE (by rw [← hbad]; exact hc)
              rw [hnc, if_neg (by rw [← hbad]; exact hc), ← hbad] at hall
              simp [Try.ntmps99, Try.results99, cSl, cp0, cp1, cp2, cI, cD, cR, hj, hw2, hej, hc, Nd.row, rEnt, Entry.row, entDec, ← hall]
          · rintro _ hbad
            simp only [List.drop_length, firstBad] at hbad
            have hfin := hgoodE hbad.symm
            have hpos : 0 < L.length := by omega
            have hpos' : (0 : Int) < L.length := by omega
            have hne : ¬ L = [] := by intro e; rw [e] at hpos; simp at hpos
            simp only [List.take_length]
            cases ha : L.all Entry.none
            · rw [ha, if_neg (by simp)] at hfin
              rw [hfin, if_pos rfl] at hall
              simp [Try.ntmps99, Try.results99, cSl, cp0, cp1, cp2, cI, cD, cR, hw, hall, Nd.row]
            · rw [ha, if_pos ⟨rfl, hpos⟩] at hfin
              rw [hfin, if_neg (by omega)] at hall
              simp [Try.ntmps99, Try.results99, cSl, cp0, cp1, cp2, cI, cD, cR, hpos, hpos', hne, ← hall, Nd.row]
        · have hh' : hugeE e = false := by simpa using hh
          have : nodeChk ⟨true, L⟩ = 3 := by simp [nodeChk, hg0, he, h1, hh']
          rw [this, if_neg (by omega)] at hall
          simp [Try.ntmps99, Try.results99, cSl, cp0, cp1, cp2, cI, cD, cR, hk, hki, htk, hle, Nd.row, hh', ← hall, rEnt, Entry.row, entDec, h1', h1, hg0, he]
      · have h1' : ¬ (L.length : Int) = 1 := by omega
        have : nodeChk ⟨true, L⟩ = 3 := by simp [nodeChk, h1]
        rw [this, if_neg (by omega)] at hall
        simp [Try.ntmps99, Try.results99, cSl, cp0, cp1, cp2, cI, cD, cR, hk, hki, htk, hle, Nd.row, h1, h1', ← hall]
        done
  · rintro _ hall
    rw [List.drop_eq_nil_of_le (by omega)] at hall
    simp only [nodesChk] at hall
    simp [Try.ntmps99, Try.results99, cSl, cp0, cp1, cp2, cI, cD, cR, ← hall]
end
section
attribute [local simp] Entry.eta Entry.cold Entry.mapM Entry.mapMc Entry.view Entry.viewc Entry.hotR Entry.ren Entry.renc Entry.low Entry.tau Entry.tauc Entry.bare Entry.flat Entry.flat1 Entry.mapMt Entry.mapMd Entry.coldt Entry.coldd Entry.hotRt Entry.hotRd
attribute [local simp] Nd.eta Nd.dec_row Nd.dec_hrow Nd.cold Nd.hcold Nd.mapM Nd.mapMc Nd.hmapM Nd.hmapMc Nd.view Nd.viewc Nd.hview Nd.hviewc Nd.hotR Nd.ren Nd.renc Nd.low Nd.hlow
attribute [local simp] tb_write tb_hwrite tb_allV tb_hallV tb_len tb_hlen tb_all tb_hall tb_one tb_hone tb_low tb_hlow tb_lowC tb_hlowC tb_view tb_hview tb_cold tb_hcold tb_hot Tb.dec_row Tb.dec_hrow
def pageE (t : Tb) (p : Int) : Int := if tbCheck t = 0 then (if p < 0 ∨ 64 ≤ p then 1 else 0) else tbCheck t
theorem page_pure : PureOk Try.prog 94 (argM (cAgg rTb) fun t => argM (cInt .i64) fun p => finM (some (.v (.int .i64 (pageE t p))))) := by
  refine pure2 Try.func94 rfl ?_
  rintro t p r hr
  simp only [Option.some.injEq] at hr
  subst hr
  refine body_gen (noOrc_ok.withP tbCheck_pure) fxMix (by kernel_rfl) (by simp [Try.ntmps94]) ?_
  intro C cP cI cN cD cF cA cR cL
  have cp0 := orcP tbCheck_pure (C := C) (by rw [cP]; rfl)
  replace cI : C.inl = fun _ => false := cI
  replace cR : C.rd = fun _ => none := cR
  replace cD : C.dyn = fun _ => [] := cD
  clear cP cN cF cA
  unfold pageE
  by_cases h0 : tbCheck t = 0
  · by_cases h1 : p < 0
    · simp [Try.ntmps94, Try.results94, cSl, cp0, cI, cD, cR, rTb, h0, h1]
    · by_cases h2 : 64 ≤ p
      · simp [Try.ntmps94, Try.results94, cSl, cp0, cI, cD, cR, rTb, h0, h1, h2]
      · simp [Try.ntmps94, Try.results94, cSl, cp0, cI, cD, cR, rTb, h0, h1, h2]
  · simp [Try.ntmps94, Try.results94, cSl, cp0, cI, cD, cR, rTb, h0]
def noNd : Nd := ⟨false, []⟩
def walkE (t : Tb) (p : Int) : Entry := if pageE t p = 0 then atN (t.l[p.toNat / 8]?.getD noNd) (p.toNat % 8) else noEnt
theorem page_ok {t : Tb} {p : Int} (h : pageE t p = 0) : tbCheck t = 0 ∧ ∃ q : Nat, p = q ∧ q < 64 := by
  unfold pageE at h
  split at h
  · rename_i h0
    split at h
    · simp at h
    · exact ⟨h0, p.toNat, by omega, by omega⟩
  · rename_i h0; exact absurd h h0
theorem nodes_ok : ∀ {l : List Nd}, nodesChk l = 0 ↔ ∀ n ∈ l, nodeChk n = 0
  | [] => by simp [nodesChk]
  | n :: l => by
    simp only [nodesChk]
    split
    · rename_i h; rw [nodes_ok]; simp [h]
    · rename_i h; simp [h]
theorem walk_pure : PureOk Try.prog 93 (argM (cAgg rTb) fun t => argM (cInt .i64) fun p => finM (some (.v (.tuple #[(walkE t p).val, .int .i64 (pageE t p)])))) := by
  refine pure2 Try.func93 rfl ?_
  rintro t p r hr
  simp only [Option.some.injEq] at hr
  subst hr
  refine body_gen ((noOrc_ok.withP page_pure).withP at_pure) fxMix (by kernel_rfl) (by simp [Try.ntmps93]) ?_
  intro C cP cI cN cD cF cA cR cL
  have cp0 := orcP page_pure (C := C) (by rw [cP]; rfl)
  have cp1 := orcP at_pure (C := C) (by rw [cP]; rfl)
  replace cI : C.inl = fun _ => false := cI
  replace cR : C.rd = fun _ => none := cR
  replace cD : C.dyn = fun _ => [] := cD
  clear cP cN cF cA
  unfold walkE
  by_cases h0 : pageE t p = 0
  case neg => simp [Try.ntmps93, Try.results93, cSl, cp0, cp1, cI, cD, cR, rTb, h0, noEnt, Entry.val]
  obtain ⟨hck, q, rfl, hq⟩ := page_ok h0
  obtain ⟨k, hk⟩ : ∃ k, k = q / 8 := ⟨_, rfl⟩
  obtain ⟨r, hr⟩ : ∃ r, r = q % 8 := ⟨_, rfl⟩
  have hk8 : k < 8 := by omega
  have hr8 : r < 8 := by omega
  have hkl : k < t.l.length := by rw [t.h]; exact hk8
  have e1 : Int.tdiv (q : Int) 8 = (k : Int) := by rw [hk]; rfl
  have e1' : (q : Int) / 8 = (k : Int) := by omega
  have e2 : Int.tmod (q : Int) 8 = (r : Int) := by rw [hr]; rfl
  have e2' : (q : Int) % 8 = (r : Int) := by omega
  have w1 : IntKind.i64.wrap (k : Int) = k := w64 (by omega) (by omega)
  have hsh := hugeNo (nodes_ok.1 hck _ (List.getElem_mem hkl))
  have htk := tb_take t hk8
  have hle : k * 2 + 2 ≤ 16 := by omega
  have hk8' : (k : Int) < 8 := by omega
  have hr8' : (r : Int) < 8 := by omega
  rw [Int.toNat_natCast, ← hk, ← hr, List.getElem?_eq_getElem hkl, Option.getD_some]
  generalize t.l[k] = n at *
  obtain ⟨h, L⟩ := n
  simp [Try.ntmps93, Try.results93, cSl, cp0, cp1, cI, cD, cR, rTb, h0, e1, e1', e2, e2', w1, htk, hle, hk8', hr8', hsh, Nd.row, rNd, ndDec, rEnt, Entry.val, noEnt]
  done
/-- nodes, copied up to one -/
def tbMix (k : Nat) (l : List Nd) : List Row := l.mapIdx fun i n => if i < k then n.hrow else n.row
theorem tbMix_len {k : Nat} {l : List Nd} : (tbMix k l).length = l.length := by simp [tbMix]
theorem tbMix_get {k i : Nat} {l : List Nd} (hi : i < l.length) : (tbMix k l)[i]? = some (if i < k then l[i].hrow else l[i].row) := by simp [tbMix, List.getElem?_mapIdx, hi]
theorem tbMix_zero {l : List Nd} : tbMix 0 l = l.map Nd.row := by
  apply List.ext_getElem?
  intro i
  simp [tbMix, List.getElem?_mapIdx]
theorem tbMix_all {l : List Nd} : tbMix l.length l = l.map Nd.hrow := by
  apply List.ext_getElem?
  intro i
  by_cases hi : i < l.length
  · rw [tbMix_get hi, if_pos hi]; simp [hi]
  · rw [List.getElem?_eq_none (by rw [tbMix_len]; omega), List.getElem?_eq_none (by simp; omega)]
theorem tbMix_set {k : Nat} {l : List Nd} (hk : k < l.length) : (tbMix k l).set k l[k].hrow = tbMix (k + 1) l := by
  apply List.ext_getElem?
  intro i
  by_cases hi : i < l.length
  · rw [tbMix_get hi]
    by_cases e : i = k
    · subst e; rw [List.getElem?_set_self (by rw [tbMix_len]; exact hi), if_pos (by omega)]
    · rw [List.getElem?_set_ne (fun h => e h.symm), tbMix_get hi]
      by_cases h : i < k
      · rw [if_pos h, if_pos (by omega)]
      · rw [if_neg h, if_neg (by omega)]
  · rw [List.getElem?_eq_none (by rw [List.length_set, tbMix_len]; omega), List.getElem?_eq_none (by rw [tbMix_len]; omega)]
theorem tbMix_two {k : Nat} {l : List Nd} : ∀ r ∈ tbMix k l, r.length = 2 := by
  intro r hr
  obtain ⟨i, hi⟩ := List.getElem?_of_mem hr
  have hil : i < l.length := by have := (List.getElem?_eq_some_iff.1 hi).1; rwa [tbMix_len] at this
  rw [tbMix_get hil] at hi
  simp only [Option.some.injEq] at hi
  subst hi
  split <;> rfl
theorem fl_low {n : Nat} : ∀ {rs : List Row}, (∀ r ∈ rs, r.all (lowA n) = true) → (fl rs).all (lowA n) = true
  | [], _ => rfl
  | r :: rs, h => by
    simp only [fl, List.all_append, Bool.and_eq_true]
    exact ⟨h r List.mem_cons_self, fl_low fun x hx => h x (List.mem_cons_of_mem _ hx)⟩
theorem tbMix_low {k n : Nat} {l : List Nd} : (fl (tbMix k l)).all (lowA n) = true := fl_low fun r hr => by
  obtain ⟨i, hi⟩ := List.getElem?_of_mem hr
  have hil : i < l.length := by have := (List.getElem?_eq_some_iff.1 hi).1; rwa [tbMix_len] at this
  rw [tbMix_get hil] at hi
  simp only [Option.some.injEq] at hi
  subst hi
  split
  · exact Nd.hlow n _
  · exact Nd.low n _
theorem writeAt_one {row : Row} {o : Nat} {x : AVal} (h : o < row.length) : writeAt row o [x] = row.set o x := by
  apply List.ext_getElem?
  intro i
  rw [writeAt_get _ _ _ (by simp; omega)]
  by_cases e : i = o
  · subst e; rw [if_pos (by simp), List.getElem?_set_self h]; simp
  · rw [if_neg (by simp; omega), List.getElem?_set_ne (fun q => e q.symm)]
theorem fl_set {rs : List Row} (h : ∀ r ∈ rs, r.length = 2) {k : Nat} {x : AVal} (hk : k < rs.length) : (fl rs).set (k * 2 + 1) x = fl (rs.set k (rs[k].set 1 x)) := by
  rw [← fl_write1 h hk, writeAt_one (by rw [fl_len h]; omega)]
theorem own_pure : PureOk Try.prog 96 (argM (cAgg rTb) fun t => finM (if ∀ n ∈ t.l, n.ents.length ≤ 8 then some (.agg t.hrow) else none)) := by
  refine pure1 Try.func96 rfl ?_
  rintro t r hr
  by_cases hc : ∀ n ∈ t.l, n.ents.length ≤ 8
  case neg => rw [if_neg hc] at hr; cases hr
  rw [if_pos hc] at hr
  simp only [Option.some.injEq] at hr
  subst hr
  refine body_gen noOrc_ok fxMix (by kernel_rfl) (by simp [Try.ntmps96]) ?_
  intro C cP cI cN cD cF cA cR cL
  replace cI : C.inl = fun _ => false := cI
  replace cR : C.rd = fun _ => none := cR
  replace cD : C.dyn = fun _ => [] := cD
  clear cP cN cF cA
  have hl8 := t.h
  simp [Try.ntmps96, Try.results96, cSl, cI, cD, cR, rTb]
  refine loop_forE 8 (fun k (_ : Unit) => ([(1, .ptr 0 16 0 0), (2, .ptr 1 16 0 0), (5, .agg t.row), (6, .v (.int .i64 k))], [some (16, [fl (tbMix k t.l)]), some (16, [[.v (.bool false), .v (.slice none 0 0), .v (.bool false), .v (.slice none 0 0), .v (.bool false), .v (.slice none 0 0), .v (.bool false), .v (.slice none 0 0), .v (.bool false), .v (.slice none 0 0), .v (.bool false), .v (.slice none 0 0), .v (.bool false), .v (.slice none 0 0), .v (.bool false), .v (.slice none 0 0)]])])) (fun k _ => True) () (by rintro k _ h _; omega) trivial ?_ ?_ ?_
  · refine .weak ?_
    have e : fl (t.l.map Nd.row) = t.row := rfl
    simp [tbMix_zero, e]
  · rintro k _ hk _ hw
    have hk' : k < t.l.length := by omega
    have hki : (k : Int) < 8 := by omega
    have htk := tb_take t hk
    have hle : k * 2 + 2 ≤ 16 := by omega
    have hle2 : k * 2 + 1 + 1 ≤ 16 := by omega
    have hml : (tbMix k t.l).length = 8 := by rw [tbMix_len]; exact hl8
    have hfl : (fl (tbMix k t.l)).length = 16 := by rw [fl_len tbMix_two, hml]
    have hmk := tbMix_get (k := k) hk'
    rw [if_neg (Nat.lt_irrefl k)] at hmk
    have hmk2 : (tbMix k t.l)[k]'(by rw [hml]; exact hk) = (t.l[k]).row := by
      rw [List.getElem?_eq_getElem (by rw [hml]; exact hk)] at hmk
      simpa using hmk
    have hms := tbMix_set hk'
    have h8 := hc _ (List.getElem_mem hk')
    generalize hn : t.l[k]'(by omega) = n at *
    obtain ⟨h, L⟩ := n
    simp only at h8
    have hL2 : L.length ≤ 4294967296 := by omega
    have hwr : ∀ x, writeAt (fl (tbMix k t.l)) (k * 2 + 1) [x] = fl ((tbMix k t.l).set k [.v (.bool h), x]) := fun x => by
      rw [fl_write1 tbMix_two (by rw [hml]; exact hk), hmk2]; rfl
    have hgs : ∀ x, (fl ((tbMix k t.l).set k [.v (.bool h), x]))[k * 2 + 1]? = some x := fun x => by
      have h2 : ∀ r ∈ (tbMix k t.l).set k [.v (.bool h), x], r.length = 2 := fun r hr => by
        rcases List.mem_or_eq_of_mem_set hr with hr | rfl
        · exact tbMix_two r hr
        · rfl
      rw [fl_get h2 (k := k) (j := 1) (by rw [List.length_set, hml]; exact hk) (by omega)]
      simp
    have hst : ∀ x y, (fl ((tbMix k t.l).set k [.v (.bool h), x])).set (k * 2 + 1) y = fl ((tbMix k t.l).set k [.v (.bool h), y]) := fun x y => by
      have h2 : ∀ r ∈ (tbMix k t.l).set k [.v (.bool h), x], r.length = 2 := fun r hr => by
        rcases List.mem_or_eq_of_mem_set hr with hr | rfl
        · exact tbMix_two r hr
        · rfl
      rw [fl_set h2 (by rw [List.length_set, hml]; exact hk)]
      simp
    simp only [Nd.hrow] at hms
    by_cases h0 : L = []
    · subst h0
      simp [Try.ntmps96, Try.results96, cSl, cI, cD, cR, hk, hki, htk, hle, hle2, hw, hml, hfl, hwr, Nd.row]
      have hlow := tbMix_low (k := k + 1) (n := 2) (l := t.l)
      refine ⟨(), trivial, .trans (.weak ?_) (.cell (M := 0) (i := 0) (j := k * 2 + 1) rfl rfl (hgs _) (r := .fsl true 7 []) .nil)⟩
      simp only [List.map_nil] at hms
      simp [hst, hms]
      simpa using hlow
    · simp [Try.ntmps96, Try.results96, cSl, cI, cD, cR, hk, hki, htk, hle, hle2, hw, hml, hfl, hwr, h0, hL2, Nd.row]
      have hlow := tbMix_low (k := k + 1) (n := 2) (l := t.l)
      have hflat : ∀ r ∈ L.map Entry.row, r.all (lowA 0) = true := fun r hr => by
        obtain ⟨a, _, rfl⟩ := List.mem_map.1 hr
        exact Entry.low 0 a
      refine ⟨(), trivial, .trans (.weak ?_) (.frz (n := 3) (M := 0) (i := 0) (j := k * 2 + 1) (len := L.length) (rows := L.map Entry.row) rfl (by simp) hflat rfl (by omega) rfl (hgs _))⟩
      simp [hst, hms]
      simpa using hlow
  · rintro _ _
    have e : fl (tbMix 8 t.l) = t.hrow := by
      have := tbMix_all (l := t.l)
      rw [hl8] at this
      rw [this]; rfl
    simp [Try.ntmps96, Try.results96, cSl, cI, cD, cR, e]
end
section
attribute [local simp] Entry.eta Entry.cold Entry.mapM Entry.mapMc Entry.view Entry.viewc Entry.hotR Entry.ren Entry.renc Entry.low Entry.tau Entry.tauc Entry.bare Entry.flat Entry.flat1 Entry.mapMt Entry.mapMd Entry.coldt Entry.coldd Entry.hotRt Entry.hotRd
attribute [local simp] Nd.eta Nd.dec_row Nd.dec_hrow Nd.cold Nd.hcold Nd.mapM Nd.mapMc Nd.hmapM Nd.hmapMc Nd.view Nd.viewc Nd.hview Nd.hviewc Nd.hotR Nd.ren Nd.renc Nd.low Nd.hlow
attribute [local simp] tb_write tb_hwrite tb_allV tb_hallV tb_len tb_hlen tb_all tb_hall tb_one tb_hone tb_low tb_hlow tb_lowC tb_hlowC tb_view tb_hview tb_cold tb_hcold tb_hot Tb.dec_row Tb.dec_hrow
def spE (n : Nd) (k : Nat) : List Entry := (List.range 8).map fun j => if j < k then atN n j else noEnt
theorem spE_len (n : Nd) (k : Nat) : (spE n k).length = 8 := by simp [spE]
theorem spE_get {n : Nd} {k j : Nat} (hj : j < 8) : (spE n k)[j]? = some (if j < k then atN n j else noEnt) := by simp [spE, hj]
theorem spE_set {n : Nd} {k : Nat} (hk : k < 8) : (spE n k).set k (atN n k) = spE n (k + 1) := by
  apply List.ext_getElem?
  intro i
  by_cases hi : i < 8
  · rw [spE_get hi]
    by_cases e : i = k
    · subst e; rw [List.getElem?_set_self (by rw [spE_len]; exact hi), if_pos (by omega)]
    · rw [List.getElem?_set_ne (fun h => e h.symm), spE_get hi]
      by_cases h : i < k
      · rw [if_pos h, if_pos (by omega)]
      · rw [if_neg h, if_neg (by omega)]
  · rw [List.getElem?_eq_none (by rw [List.length_set, spE_len]; omega), List.getElem?_eq_none (by rw [spE_len]; omega)]
theorem spE_zero (n : Nd) : spE n 0 = List.replicate 8 noEnt := by
  apply List.ext_getElem?
  intro i
  by_cases hi : i < 8
  · rw [spE_get hi, List.getElem?_replicate, if_pos hi]; rfl
  · rw [List.getElem?_eq_none (by rw [spE_len]; omega), List.getElem?_eq_none (by simp; omega)]
abbrev sp8 (n : Nd) : List Entry := spE n 8
theorem split_own : InlOk Try.prog 97 (own0 (argG (cAgg rNd) fun n => finG (if shape n = true then some ((.agg [.v (.bool false), .osl 2 7 0 8 8], [none, none, some (7, (sp8 n).map Entry.row)])) else none))) := by
  refine own0_1 Try.func97 rfl ?_
  rintro n r H' hr
  by_cases hc : shape n = true
  case neg => rw [if_neg hc] at hr; cases hr
  rw [if_pos hc] at hr
  simp only [Option.some.injEq, Prod.mk.injEq] at hr
  obtain ⟨rfl, rfl⟩ := hr
  refine bodyI_w (noOrc_ok.withP at_pure) fxMix (by kernel_rfl) (by simp [Try.ntmps97]) ?_
  intro C cP cI cN cD cF cA cR cL
  have cp0 := orcP at_pure (C := C) (by rw [cP]; rfl)
  replace cI : C.inl = fun _ => false := cI
  replace cR : C.rd = fun _ => none := cR
  replace cD : C.dyn = fun _ => [] := cD
  clear cP cN cF cA
  obtain ⟨h, L⟩ := n
  simp [Try.ntmps97, Try.results97, cSl, cp0, cI, cD, cR, rNd]
  refine loop_for 8 (fun k (_ : Unit) => ([(1, .ptr 0 2 0 0), (2, .ptr 1 2 0 0), (3, .osl 2 7 0 8 8), (7, .v (.int .i64 8)), (8, .v (.int .i64 k))], [some (2, [Nd.row ⟨h, L⟩]), some (2, [[.v (.bool false), .v (.slice none 0 0)]]), some (7, (spE ⟨h, L⟩ k).map Entry.row)])) (fun _ _ => True) () (by omega) trivial ?_ ?_ ?_
  · rw [spE_zero]
    simp [noEnt, Entry.row, Nd.row]
  · rintro k _ hk _ hw
    have hki : (k : Int) < 8 := by omega
    have hsl := spE_len ⟨h, L⟩ k
    have hst := spE_set (n := ⟨h, L⟩) hk
    have hms : ((spE ⟨h, L⟩ k).map Entry.row).set k (atN ⟨h, L⟩ k).row = (spE ⟨h, L⟩ (k + 1)).map Entry.row := by rw [← hst, List.map_set]
    have hgk : ((spE ⟨h, L⟩ k).map Entry.row)[k]? = some (Entry.row ((spE ⟨h, L⟩ k)[k]'(by omega))) := by simp [hsl, hk]
    simp only [Entry.row] at hms
    simp [Try.ntmps97, Try.results97, cSl, cp0, cI, cD, cR, hk, hki, hw, hsl, hc, rNd, ndDec, rEnt, Nd.row, Entry.row, Entry.val, hms]
    done
  · rintro _ _
    simp [Try.ntmps97, Try.results97, cSl, cp0, cI, cD, cR, Nd.row]
    done
theorem split_inl : InlOk Try.prog 97 (frame0 (own0 (argG (cAgg rNd) fun n => finG (if shape n = true then some ((.agg [.v (.bool false), .osl 2 7 0 8 8], [none, none, some (7, (sp8 n).map Entry.row)])) else none)))) := frame0_ok split_own
def clA : Row → Heap → Option (AVal × Heap)
  | [.agg [.v (.bool false), .osl 0 7 0 n kc]], [some (7, rows)] => match rows.mapM entDec with
    | some l => if n = rows.length ∧ kc = n ∧ n ≤ 8 ∧ 0 < n then (if l.all Entry.none = true then some (.v (.agg #[.bool false, .slice none 0 0]), [some (7, rows)]) else some (.agg [.v (.bool false), .osl 0 7 0 n kc], [some (7, rows)])) else none
    | none => none
  | _, _ => none
theorem clean_own : InlOk Try.prog 98 clA := by
  refine inl_canonE Try.func98 rfl ?_
  intro args H r H' hr
  unfold clA at hr
  split at hr
  · rename_i n kc rows
    split at hr
    · rename_i L hl
      have hrows := Entry.exact.rows hl
      subst hrows
      split at hr
      · rename_i hcond
        rw [List.length_map] at hcond
        obtain ⟨rfl, rfl, hn8, hn0⟩ := hcond
        have hEn : rEnt.enc = Entry.row := rfl
        rw [hEn] at hr ⊢
        refine ⟨_, ⟨rfl, fun hok j x v h k => k x h⟩, ?_⟩
        refine bodyE_of (noOrc_ok.withP none_pure) fxMix (by kernel_rfl) (by simp [Try.ntmps98]) ?_
        intro C cP cI cN cD cF cA cR cL
        have cp0 := orcP none_pure (C := C) (by rw [cP]; rfl)
        replace cI : C.inl = fun _ => false := cI
        replace cR : C.rd = fun _ => none := cR
        replace cD : C.dyn = fun _ => [] := cD
        clear cP cN cF cA
        have hl1 : L.length ≤ 4294967296 := by omega
        simp [Try.ntmps98, Try.results98, cSl, cp0, cI, cD, cR]
        refine loop_for L.length (fun j (_ : Unit) => ([(1, .ptr 1 2 0 0), (2, .ptr 2 2 0 0), (6, .osl 0 7 0 L.length L.length), (7, .v (.int .i64 L.length)), (8, .v (.int .i64 j))], [some (7, L.map Entry.row), some (2, [[.v (.bool false), .osl 0 7 0 L.length L.length]]), some (2, [[.v (.bool false), .v (.slice none 0 0)]])])) (fun j _ => ∀ i (h : i < L.length), i < j → L[i].none = true) () hl1 (by intros; omega) (by simp) ?_ ?_
        · rintro j _ hj hall hw
          by_cases hn : L[j].none = true
          · simp [Try.ntmps98, Try.results98, cSl, cp0, cI, cD, cR, hj, hw, hn, rEnt, Entry.row, entDec]
            intro i hi hlt
            rcases Nat.lt_or_eq_of_le (Nat.le_of_lt_succ hlt) with h | h
            · exact hall i hi h
            · subst h; exact hn
          · have hno : ¬ L.all Entry.none = true := fun h => hn (List.all_eq_true.1 h _ (List.getElem_mem hj))
            rw [if_neg hno] at hr
            simp only [Option.some.injEq, Prod.mk.injEq] at hr
            obtain ⟨rfl, rfl⟩ := hr
            have hn' : L[j].none = false := by simpa using hn
            simp [Try.ntmps98, Try.results98, cSl, cp0, cI, cD, cR, hj, hn', rEnt, Entry.row, entDec]
            exact .weak (by simp)
        · rintro _ hall
          have hyes : L.all Entry.none = true := List.all_eq_true.2 fun e he => by
            obtain ⟨i, hi, rfl⟩ := List.getElem_of_mem he
            exact hall i hi hi
          rw [if_pos hyes] at hr
          simp only [Option.some.injEq, Prod.mk.injEq] at hr
          obtain ⟨rfl, rfl⟩ := hr
          simp [Try.ntmps98, Try.results98, cSl, cp0, cI, cD, cR]
          exact .weak (by simp)
      · cases hr
    · cases hr
  · cases hr
theorem clean_inl : InlOk Try.prog 98 (frameA clA) := frameA_ok clean_own
theorem fl_map (f : AVal → AVal) (rs : List Row) : (fl rs).map f = fl (rs.map (List.map f)) := by
  induction rs with
  | nil => rfl
  | cons r rs ih => simp [fl, ih]
/-- known a little less, cell by cell -/
theorem shows_fl {H : Heap} {d : Nat} {rs xs : List Row} (h1 : ∀ r ∈ rs, r.length = 2) (h2 : ∀ r ∈ xs, r.length = 2) (hl : rs.length = xs.length)
    (h : ∀ (i : Nat) (r x : Row), rs[i]? = some r → xs[i]? = some x → ∀ (j : Nat) (a b : AVal), r[j]? = some a → x[j]? = some b → ShowsA H d a b) : ShowsA H (d + 1) (.agg (fl rs)) (.agg (fl xs)) := by
  have key : ∀ (i : Nat) (a b : AVal), (fl rs)[i]? = some a → (fl xs)[i]? = some b → ShowsA H d a b := by
    intro i a b ha hb
    have hi : i < rs.length * 2 := by have := (List.getElem?_eq_some_iff.1 ha).1; rwa [fl_len h1] at this
    obtain ⟨q, j, rfl, hj⟩ : ∃ q j, i = q * 2 + j ∧ j < 2 := ⟨i / 2, i % 2, by omega, by omega⟩
    have hq : q < rs.length := by omega
    rw [fl_get h1 hq hj] at ha
    rw [fl_get h2 (by omega) hj] at hb
    exact h q _ _ (List.getElem?_eq_getElem hq) (List.getElem?_eq_getElem (by omega)) j a b ha hb
  refine ⟨?_, ?_⟩
  · simp only [view]
    refine .agg (by rw [List.length_map, fl_len h1, fl_len h2, hl]) fun j a b ha hb => ?_
    rw [List.getElem?_map, Option.map_eq_some_iff] at hb
    obtain ⟨c, hc, rfl⟩ := hb
    exact (key j a c ha hc).1
  · simp only [view, hot, hotC_all]
    rw [List.all_eq_true]
    intro y hy
    obtain ⟨b, hb, rfl⟩ := List.mem_map.1 hy
    obtain ⟨i, hi⟩ := List.getElem?_of_mem hb
    have hil : i < (fl rs).length := by have := (List.getElem?_eq_some_iff.1 hi).1; rw [fl_len h1, hl, ← fl_len h2]; exact this
    exact (key i _ b (List.getElem?_eq_getElem hil) hi).2
theorem showsHot {H : Heap} {d : Nat} {a : AVal} (h1 : hot a = true) (h2 : view H d a = a) : ShowsA H d a a := by
  refine ⟨?_, ?_⟩
  · rw [h2]; exact .refl a
  · rw [h2]; exact h1
/-- one node changed -/
theorem shows_tb {H : Heap} {d : Nat} {l : List Nd} {k : Nat} {n : Nd} {c1 c2 : AVal} (hk : k < l.length) (h1 : ShowsA H d (.v (.bool n.huge)) c1) (h2 : ShowsA H d (.fsl true 7 (n.ents.map Entry.row)) c2) :
    ShowsA H (d + 1) (.agg (fl ((l.set k n).map Nd.hrow))) (.agg (fl ((l.map Nd.hrow).set k [c1, c2]))) := by
  refine shows_fl (nd_hrows _) (fun r hr => ?_) (by simp) ?_
  · rcases List.mem_or_eq_of_mem_set hr with hr | rfl
    · exact nd_hrows l r hr
    · rfl
  · intro i r x hr hx j a b ha hb
    by_cases e : i = k
    · subst e
      rw [List.map_set, List.getElem?_set_self (by simpa using hk)] at hr
      rw [List.getElem?_set_self (by simpa using hk)] at hx
      cases hr; cases hx
      match j, ha, hb with
      | 0, ha, hb => simp [Nd.hrow] at ha hb; subst ha; subst hb; exact h1
      | 1, ha, hb => simp [Nd.hrow] at ha hb; subst ha; subst hb; exact h2
      | j + 2, ha, hb => simp at hb
    · rw [List.map_set, List.getElem?_set_ne (fun q => e q.symm)] at hr
      rw [List.getElem?_set_ne (fun q => e q.symm), hr] at hx
      cases hx
      rw [ha] at hb
      cases hb
      simp only [List.getElem?_map, Option.map_eq_some_iff] at hr
      obtain ⟨m, _, rfl⟩ := hr
      match j, ha with
      | 0, ha => simp [Nd.hrow] at ha; subst ha; exact showsV _
      | 1, ha =>
        simp [Nd.hrow] at ha; subst ha
        refine showsHot (by simp [hot, Entry.hotR]) ?_
        have := Nd.hview H d m
        simp only [Nd.hrow, List.map_cons, List.cons.injEq] at this
        exact this.2.1
      | j + 2, ha => simp [Nd.hrow] at ha
end
section
section
variable {base : Nat} {w0 : World} {β : Nat → Nat} {fz : Nat → Prop} {H : Heap} {w : World} {P : Program}
theorem HSim.none_app (hs : HSim base w0 β fz H w) : HSim base w0 β fz (H ++ [none]) w := by
  have hlt : ∀ {id : Nat} {o : Nat × List Row}, (H ++ [none])[id]? = some (some o) → H[id]? = some (some o) := by
    intro id o h
    by_cases e : id < H.length
    · rwa [List.getElem?_append_left e] at h
    · rw [List.getElem?_append_right (by omega)] at h
      cases hk : id - H.length with
      | zero => rw [hk] at h; cases h
      | succ k => rw [hk] at h; simp at h
  have hl : ∀ {id : Nat}, Live (H ++ [none]) id → Live H id := fun ⟨o, h⟩ => ⟨o, hlt h⟩
  refine ⟨fun id sz rows h => ?_, fun id id' h1 h2 => hs.inj id id' (hl h1) (hl h2), fun id h => hs.own id (hl h), hs.fzlt, hs.below, hs.base⟩
  exact (hs.objs' id sz rows (hlt h)).ext ⟨by simp, fun _ _ => rfl, fun _ h => h, fun _ _ => rfl, Shapes.refl _⟩ rfl
/-- a copy: an object comes, or an empty place -/
def cloneU (sz : Nat) (args : Row) (H : Heap) : Option (AVal × Heap) :=
  match cloneI sz args H with
  | some (.esl, H') => some (.esl, H' ++ [none])
  | x => x
theorem cloneU_ok {f : Nat} {sz : Nat} (h : InlOk P f (cloneI sz)) : InlOk P f (cloneU sz) := by
  intro args H r H' hr base w0 β fz w vals hs ha
  unfold cloneU at hr
  split at hr
  · rename_i H2 hc
    cases hr
    intro fn hf
    obtain ⟨g1, g2⟩ := h args H _ _ hc base w0 β fz w vals hs ha fn hf
    have key : ∀ e w', (∃ v β' fz', e = Ending.returned v ∧ HSim base w0 β' fz' H2 w' ∧ Ext H.length β fz w H2.length β' fz' w' ∧ R β' (okOf base fz') w' H2.length .esl v) →
        ∃ v β' fz', e = Ending.returned v ∧ HSim base w0 β' fz' (H2 ++ [none]) w' ∧ Ext H.length β fz w (H2 ++ [none]).length β' fz' w' ∧ R β' (okOf base fz') w' (H2 ++ [none]).length .esl v := by
      rintro e w' ⟨v, β', fz', e1, e2, e3, e4⟩
      have e5 : Ext H2.length β' fz' w' (H2 ++ [none]).length β' fz' w' := ⟨by simp, fun _ _ => rfl, fun _ h => h, fun _ _ => rfl, Shapes.refl _⟩
      exact ⟨v, β', fz', e1, HSim.none_app e2, e3.trans e5, e4.ext e5⟩
    exact ⟨fun hb => (g1 hb).mono key, fun hb => by obtain ⟨v, w', k1, k2⟩ := g2 hb; exact ⟨v, w', k1, key _ _ k2⟩⟩
  · exact h args H r H' hr base w0 β fz w vals hs ha
end
theorem cloneU_fsl {o : Bool} {sz : Nat} {rows : List Row} {H : Heap} (h0 : 0 < sz) (hl : rows.length ≤ 4294967296) : cloneU sz [.fsl o sz rows] H = some (oA H.length sz rows.length, H ++ [oT sz rows]) := by
  unfold cloneU
  by_cases h : rows = []
  · subst h; simp [cloneI, oA, oT]
  · have h2 : ¬ sz = 0 := by omega
    simp [cloneI, oA, oT, h, hl, newObj', h2]
theorem cloneU_loc {sz : Nat} : ∀ args ids, cloneF args = some ids → AI.Loc (cloneU sz args) ids true := by
  intro args ids h
  obtain ⟨Φ, hw, hF⟩ := clone_loc (sz := sz) args ids h
  refine ⟨fun f n => (Φ f n).map fun r => match r with | (.esl, u, l) => (.esl, u, l ++ [none]) | x => x, ⟨fun f g n h => by simp only [hw.same f g n h], fun f n r hr => ?_, fun h => by cases h⟩, fun H => ?_⟩
  · simp only [Option.map_eq_some_iff] at hr
    obtain ⟨⟨a, u, l⟩, h1, rfl⟩ := hr
    have := hw.keys f n _ h1
    refine ⟨?_, fun h => by cases h⟩
    split
    · rename_i e; cases e; exact this.1
    · exact this.1
  · unfold cloneU
    rw [hF H]
    cases hq : Φ (obj H) H.length with
    | none => simp only [hq, Option.map_none]
    | some r =>
      obtain ⟨a, u, l⟩ := r
      cases a <;> simp [hq]
section
variable {P : Program} {f : FuncId} {fn : Func} {code : Code}
theorem ownE_2 {α1 α2 : Type} {c1 : Cod α1} {c2 : Cod α2} (hf : P.funcs[f]? = some fn) (hb : fn.body = some code) {g : α1 → α2 → Option (AVal × Heap)} (h : ∀ e1 e2 r H', g e1 e2 = some (r, H') → BodyE P fn code [c1.enc e1, c2.enc e2] [] r H') : InlOk P f (own0 (argG c1 fun e1 => argG c2 fun e2 => finG (g e1 e2))) := by
  refine inl_canonE hf hb fun args H r H' hr => ?_
  cases H with
  | cons o H => simp [own0] at hr
  | nil =>
    simp only [own0] at hr
    obtain ⟨x1, e1, rest1, rfl, hd1, hr⟩ := argG_some hr
    obtain ⟨x2, e2, rest2, rfl, hd2, hr⟩ := argG_some hr
    obtain ⟨rfl, hr⟩ := finG_some hr
    exact ⟨_, (.cons c1 hd1 (.cons c2 hd2 .nil)), h e1 e2 r H' hr⟩
theorem ownE_3 {α1 α2 α3 : Type} {c1 : Cod α1} {c2 : Cod α2} {c3 : Cod α3} (hf : P.funcs[f]? = some fn) (hb : fn.body = some code) {g : α1 → α2 → α3 → Option (AVal × Heap)} (h : ∀ e1 e2 e3 r H', g e1 e2 e3 = some (r, H') → BodyE P fn code [c1.enc e1, c2.enc e2, c3.enc e3] [] r H') : InlOk P f (own0 (argG c1 fun e1 => argG c2 fun e2 => argG c3 fun e3 => finG (g e1 e2 e3))) := by
  refine inl_canonE hf hb fun args H r H' hr => ?_
  cases H with
  | cons o H => simp [own0] at hr
  | nil =>
    simp only [own0] at hr
    obtain ⟨x1, e1, rest1, rfl, hd1, hr⟩ := argG_some hr
    obtain ⟨x2, e2, rest2, rfl, hd2, hr⟩ := argG_some hr
    obtain ⟨x3, e3, rest3, rfl, hd3, hr⟩ := argG_some hr
    obtain ⟨rfl, hr⟩ := finG_some hr
    exact ⟨_, (.cons c1 hd1 (.cons c2 hd2 (.cons c3 hd3 .nil))), h e1 e2 e3 r H' hr⟩
theorem ownE_4 {α1 α2 α3 α4 : Type} {c1 : Cod α1} {c2 : Cod α2} {c3 : Cod α3} {c4 : Cod α4} (hf : P.funcs[f]? = some fn) (hb : fn.body = some code) {g : α1 → α2 → α3 → α4 → Option (AVal × Heap)} (h : ∀ e1 e2 e3 e4 r H', g e1 e2 e3 e4 = some (r, H') → BodyE P fn code [c1.enc e1, c2.enc e2, c3.enc e3, c4.enc e4] [] r H') : InlOk P f (own0 (argG c1 fun e1 => argG c2 fun e2 => argG c3 fun e3 => argG c4 fun e4 => finG (g e1 e2 e3 e4))) := by
  refine inl_canonE hf hb fun args H r H' hr => ?_
  cases H with
  | cons o H => simp [own0] at hr
  | nil =>
    simp only [own0] at hr
    obtain ⟨x1, e1, rest1, rfl, hd1, hr⟩ := argG_some hr
    obtain ⟨x2, e2, rest2, rfl, hd2, hr⟩ := argG_some hr
    obtain ⟨x3, e3, rest3, rfl, hd3, hr⟩ := argG_some hr
    obtain ⟨x4, e4, rest4, rfl, hd4, hr⟩ := argG_some hr
    obtain ⟨rfl, hr⟩ := finG_some hr
    exact ⟨_, (.cons c1 hd1 (.cons c2 hd2 (.cons c3 hd3 (.cons c4 hd4 .nil)))), h e1 e2 e3 e4 r H' hr⟩
theorem ownE_5 {α1 α2 α3 α4 α5 : Type} {c1 : Cod α1} {c2 : Cod α2} {c3 : Cod α3} {c4 : Cod α4} {c5 : Cod α5} (hf : P.funcs[f]? = some fn) (hb : fn.body = some code) {g : α1 → α2 → α3 → α4 → α5 → Option (AVal × Heap)} (h : ∀ e1 e2 e3 e4 e5 r H', g e1 e2 e3 e4 e5 = some (r, H') → BodyE P fn code [c1.enc e1, c2.enc e2, c3.enc e3, c4.enc e4, c5.enc e5] [] r H') : InlOk P f (own0 (argG c1 fun e1 => argG c2 fun e2 => argG c3 fun e3 => argG c4 fun e4 => argG c5 fun e5 => finG (g e1 e2 e3 e4 e5))) := by
  refine inl_canonE hf hb fun args H r H' hr => ?_
  cases H with
  | cons o H => simp [own0] at hr
  | nil =>
    simp only [own0] at hr
    obtain ⟨x1, e1, rest1, rfl, hd1, hr⟩ := argG_some hr
    obtain ⟨x2, e2, rest2, rfl, hd2, hr⟩ := argG_some hr
    obtain ⟨x3, e3, rest3, rfl, hd3, hr⟩ := argG_some hr
    obtain ⟨x4, e4, rest4, rfl, hd4, hr⟩ := argG_some hr
    obtain ⟨x5, e5, rest5, rfl, hd5, hr⟩ := argG_some hr
    obtain ⟨rfl, hr⟩ := finG_some hr
    exact ⟨_, (.cons c1 hd1 (.cons c2 hd2 (.cons c3 hd3 (.cons c4 hd4 (.cons c5 hd5 .nil))))), h e1 e2 e3 e4 e5 r H' hr⟩
end
/-- a list of one's own, if all went well -/
def okL (ok : Bool) (id sz n : Nat) : AVal := if ok = true then .osl id sz 0 n n else .esl
def okO (ok : Bool) (sz : Nat) (rows : List Row) : Option (Nat × List Row) := if ok = true then some (sz, rows) else none
theorem okL_tau {ok : Bool} {m id sz n : Nat} : tau [] m (okL ok id sz n) = okL ok (m + id) sz n := by unfold okL; split <;> simp [tau, tauI]
theorem okL_bare {ok : Bool} {id sz n : Nat} : bareA (okL ok id sz n) = true := by unfold okL; split <;> rfl
theorem okL_allV {ok : Bool} {id sz n : Nat} {r : Row} : allV (okL ok id sz n :: r) = none := by unfold okL; split <;> rfl
theorem okL_one {ok : Bool} {id sz n : Nat} : oneA (okL ok id sz n) = true := by unfold okL; split <;> rfl
theorem okL_res {ok b : Bool} {id sz n : Nat} : res b (okL ok id sz n) = okL ok id sz n := by unfold okL; split <;> rfl
theorem okL_low {ok : Bool} {id sz n m : Nat} (h : id < m) : lowA m (okL ok id sz n) = true := by unfold okL; split <;> simp [lowA, h]
theorem okO_tau {ok : Bool} {m sz : Nat} {α : Type} {l : List α} {g : α → Row} (hg : ∀ e, List.map (tau [] m) (g e) = g e) : tauO [] m (okO ok sz (l.map g)) = okO ok sz (l.map g) := by
  unfold okO
  split
  · simp only [tauO, List.map_map]
    congr 2
    apply List.map_congr_left
    intro e _; exact hg e
  · rfl
theorem okO_bare {ok : Bool} {sz : Nat} {α : Type} {l : List α} {g : α → Row} {r : Heap} (hg : ∀ e, (g e).all bareA = true) : bareH (okO ok sz (l.map g) :: r) = bareH r := by
  unfold okO
  split
  · simp only [bareH]
    have : ((l.map g).all fun row => row.all bareA) = true := by
      rw [List.all_eq_true]; intro x hx
      obtain ⟨e, _, rfl⟩ := List.mem_map.1 hx
      exact hg e
    rw [this]; simp
  · rfl
theorem Lss.vals {vs : List Value} {rs : List AVal} (hl : rs.length = vs.length) (h : ∀ (j : Nat) (v : Value) (r : AVal), vs[j]? = some v → rs[j]? = some r → Lss (.v v) r) : Lss (.v (.tuple vs.toArray)) (.tup rs) ∧ Lss (.v (.agg vs.toArray)) (.agg rs) := by
  have key : ∀ {β : Nat → Nat} {ok : Bool → Nat → Prop} {w : World} {n : Nat}, (∀ o b, ok o b → ok false b) → ∀ (j : Nat) (a : AVal), rs[j]? = some a → R β ok w n a ((vs.toArray)[j]?.getD undef) := by
    intro β ok w n hok j a ha
    have hj : j < vs.length := by rw [← hl]; exact (List.getElem?_eq_some_iff.1 ha).1
    have hv : vs[j]? = some vs[j] := List.getElem?_eq_getElem hj
    have h' : Lss (.v vs[j]) a := h j vs[j] a hv ha
    have this : R β ok w n a vs[j] := h' hok .v
    simpa [hv] using this
  exact ⟨fun hok hr => by rw [hr.v_inv]; exact .tup (by simpa using hl) (key hok), fun hok hr => by rw [hr.v_inv]; exact .agg (by simpa using hl) (key hok)⟩
theorem Lss.nil_esl' : Lss (.v (.slice none 0 0)) .esl := fun _ h => by rw [h.v_inv]; exact .esl
theorem ent_err {r x : AVal} {H : Heap} (h : Lss x r) (hl : lowA 1 r = true) : Ent 0 ([(0, r)], [none]) ([(0, x)], H) := by
  refine Ent.trans (Ent.weak (s' := ([(0, r)], [none])) (s := ([(0, r), (0, x)], H)) ?_) (Ent.slotL (t := 0) (r := r) (by simp only [AI.look, if_true]; exact @h))
  refine ⟨Nat.zero_le _, fun p hp => ?_, ?_⟩
  · simp only [List.mem_singleton] at hp
    subst hp
    exact ⟨rfl, hl⟩
  · cases H with
    | nil => simp [heapW]
    | cons a H => simp [heapW]
end
section
attribute [local simp] Entry.eta Entry.cold Entry.mapM Entry.mapMc Entry.view Entry.viewc Entry.hotR Entry.ren Entry.renc Entry.low Entry.tau Entry.tauc Entry.bare Entry.flat Entry.flat1 Entry.mapMt Entry.mapMd Entry.coldt Entry.coldd Entry.hotRt Entry.hotRd
attribute [local simp] Nd.eta Nd.dec_row Nd.dec_hrow Nd.cold Nd.hcold Nd.mapM Nd.mapMc Nd.hmapM Nd.hmapMc Nd.view Nd.viewc Nd.hview Nd.hviewc Nd.hotR Nd.ren Nd.renc Nd.low Nd.hlow
attribute [local simp] tb_write tb_hwrite tb_allV tb_hallV tb_len tb_hlen tb_all tb_hall tb_one tb_hone tb_low tb_hlow tb_lowC tb_hlowC tb_view tb_hview tb_cold tb_hcold tb_hot Tb.dec_row Tb.dec_hrow
def nodeU (c : Nat) (n : Nd) : Row := [.v (.bool n.huge), oA c 7 n.ents.length]
def mixU (k : Nat) (g : Nat → Nat) (l : List Nd) : List Row := l.mapIdx fun i n => if i < k then nodeU (g i) n else n.row
def rowsU (g : Nat → Nat) (l : List Nd) : List Row := l.mapIdx fun i n => nodeU (g i) n
def tailU (l : List Nd) : Heap := l.map fun n => oT 7 (n.ents.map Entry.row)
theorem mixU_len {k : Nat} {g : Nat → Nat} {l : List Nd} : (mixU k g l).length = l.length := by simp [mixU]
theorem rowsU_len {g : Nat → Nat} {l : List Nd} : (rowsU g l).length = l.length := by simp [rowsU]
theorem tailU_len {l : List Nd} : (tailU l).length = l.length := by simp [tailU]
theorem mixU_get {k i : Nat} {g : Nat → Nat} {l : List Nd} (hi : i < l.length) : (mixU k g l)[i]? = some (if i < k then nodeU (g i) l[i] else l[i].row) := by simp [mixU, List.getElem?_mapIdx, hi]
theorem rowsU_get {i : Nat} {g : Nat → Nat} {l : List Nd} (hi : i < l.length) : (rowsU g l)[i]? = some (nodeU (g i) l[i]) := by simp [rowsU, List.getElem?_mapIdx, hi]
theorem mixU_zero {g : Nat → Nat} {l : List Nd} : mixU 0 g l = l.map Nd.row := by
  apply List.ext_getElem?
  intro i
  simp [mixU, List.getElem?_mapIdx]
theorem mixU_all {g : Nat → Nat} {l : List Nd} : mixU l.length g l = rowsU g l := by
  apply List.ext_getElem?
  intro i
  by_cases hi : i < l.length
  · rw [mixU_get hi, rowsU_get hi, if_pos hi]
  · rw [List.getElem?_eq_none (by rw [mixU_len]; omega), List.getElem?_eq_none (by rw [rowsU_len]; omega)]
theorem mixU_set {k P : Nat} {g : Nat → Nat} {l : List Nd} (hk : k < l.length) : (mixU k g l).set k (nodeU P l[k]) = mixU (k + 1) (fun i => if i = k then P else g i) l := by
  apply List.ext_getElem?
  intro i
  by_cases hi : i < l.length
  · rw [mixU_get hi]
    by_cases e : i = k
    · subst e; rw [List.getElem?_set_self (by rw [mixU_len]; exact hi), if_pos (by omega), if_pos rfl]
    · rw [List.getElem?_set_ne (fun h => e h.symm), mixU_get hi, if_neg e]
      by_cases h : i < k
      · rw [if_pos h, if_pos (by omega)]
      · rw [if_neg h, if_neg (by omega)]
  · rw [List.getElem?_eq_none (by rw [List.length_set, mixU_len]; omega), List.getElem?_eq_none (by rw [mixU_len]; omega)]
theorem rowsU_set {k P : Nat} {g : Nat → Nat} {l : List Nd} {n : Nd} : (rowsU g l).set k (nodeU P n) = rowsU (fun i => if i = k then P else g i) (l.set k n) := by
  apply List.ext_getElem?
  intro i
  by_cases hi : i < l.length
  · rw [rowsU_get (by simpa using hi)]
    by_cases e : i = k
    · subst e; rw [List.getElem?_set_self (by rw [rowsU_len]; exact hi)]; simp
    · rw [List.getElem?_set_ne (fun h => e h.symm), rowsU_get hi, if_neg e, List.getElem_set_ne (fun h => e h.symm)]
  · rw [List.getElem?_eq_none (by rw [List.length_set, rowsU_len]; omega), List.getElem?_eq_none (by rw [rowsU_len, List.length_set]; omega)]
theorem two_mem {rs : List Row} (h : ∀ i, i < rs.length → ∃ r, rs[i]? = some r ∧ r.length = 2) : ∀ r ∈ rs, r.length = 2 := by
  intro r hr
  obtain ⟨i, hi⟩ := List.getElem?_of_mem hr
  obtain ⟨q, hq, hl⟩ := h i (List.getElem?_eq_some_iff.1 hi).1
  rw [hi] at hq; cases hq; exact hl
theorem mixU_two {k : Nat} {g : Nat → Nat} {l : List Nd} : ∀ r ∈ mixU k g l, r.length = 2 := two_mem fun i hi => by
  rw [mixU_len] at hi
  refine ⟨_, mixU_get hi, ?_⟩
  split <;> rfl
theorem rowsU_two {g : Nat → Nat} {l : List Nd} : ∀ r ∈ rowsU g l, r.length = 2 := two_mem fun i hi => by
  rw [rowsU_len] at hi
  exact ⟨_, rowsU_get hi, rfl⟩
theorem fl_all {p : AVal → Bool} : ∀ {rs : List Row}, (∀ r ∈ rs, r.all p = true) → (fl rs).all p = true
  | [], _ => rfl
  | r :: rs, h => by
    simp only [fl, List.all_append, Bool.and_eq_true]
    exact ⟨h r List.mem_cons_self, fl_all fun x hx => h x (List.mem_cons_of_mem _ hx)⟩
theorem rowsU_all {p : AVal → Bool} {g : Nat → Nat} {l : List Nd} (h : ∀ i (hi : i < l.length), (nodeU (g i) l[i]).all p = true) : ∀ r ∈ rowsU g l, r.all p = true := by
  intro r hr
  obtain ⟨i, hi⟩ := List.getElem?_of_mem hr
  have hil : i < l.length := by have := (List.getElem?_eq_some_iff.1 hi).1; rwa [rowsU_len] at this
  rw [rowsU_get hil] at hi
  simp only [Option.some.injEq] at hi
  subst hi
  exact h i hil
theorem oA_low {id sz n m : Nat} (h : n ≠ 0 → id < m) : lowA m (oA id sz n) = true := by
  unfold oA
  split
  · rfl
  · rename_i e; simp [lowA, h e]
theorem oT_all {p : AVal → Bool} {n : Nd} (h : ∀ e : Entry, e.row.all p = true) : ((n.ents.map Entry.row).all fun row => row.all p) = true := by
  rw [List.all_eq_true]
  intro r hr
  obtain ⟨e, _, rfl⟩ := List.mem_map.1 hr
  exact h e
theorem heapT_tailU {th : List Nat} {N : Nat} {H : Heap} : ∀ (l : List Nd) (i : Nat), (∀ (j : Nat) (h : j < l.length), l[j].ents ≠ [] → H[thOf 0 th (i + j)]? = some (some (7, l[j].ents.map Entry.row))) → heapT 0 th N H i (tailU l)
  | [], _, _ => trivial
  | n :: l, i, h => by
    have h0 := h 0 (by simp)
    have ih := heapT_tailU (th := th) (N := N) (H := H) l (i + 1) (fun j hj => by
      have := h (j + 1) (by simp; omega)
      rw [show i + (j + 1) = i + 1 + j by omega] at this
      simpa using this)
    simp only [tailU, List.map_cons] at ih ⊢
    by_cases e : n.ents = []
    · have hT : oT 7 (n.ents.map Entry.row) = none := by simp [oT, e]
      rw [hT]; simp only [heapT]; exact ih
    · have hT : oT 7 (n.ents.map Entry.row) = some (7, n.ents.map Entry.row) := by simp [oT, e]
      rw [hT]; simp only [heapT]
      refine ⟨?_, ?_, ih⟩
      · simp only [Nat.add_zero, List.getElem_cons_zero] at h0
        rw [h0 e]
        congr 3
        rw [List.map_map]
        apply List.map_congr_left
        intro a _
        simp [Entry.row, ren]
      · simp [Entry.row, lowA]
def thU (g : Nat → Nat) (l : List Nd) (N : Nat) : List Nat := (List.range l.length).map fun i => if (l[i]?.getD noNd).ents = [] then N + i else g i
theorem fl_renU {th : List Nat} {g : Nat → Nat} {l : List Nd} (h : ∀ i (hi : i < l.length), l[i].ents ≠ [] → thOf 0 th i = g i) : (fl (rowsU (fun i => i) l)).map (ren 0 th) = fl (rowsU g l) := by
  rw [fl_map]
  congr 1
  apply List.ext_getElem?
  intro i
  rw [List.getElem?_map]
  by_cases hi : i < l.length
  · rw [rowsU_get hi, rowsU_get hi]
    simp only [Option.map_some, nodeU, List.map_cons, List.map_nil, ren]
    congr 3
    unfold oA
    by_cases e : l[i].ents = []
    · simp [e, ren]
    · have hne : ¬ l[i].ents.length = 0 := fun q => e (List.length_eq_zero_iff.1 q)
      simp only [hne, if_false, ren, h i hi e]
  · rw [List.getElem?_eq_none (by rw [rowsU_len]; omega), List.getElem?_eq_none (by rw [rowsU_len]; omega)]; rfl
theorem canonT {H : Heap} {g : Nat → Nat} {l : List Nd} {w : AVal → AVal} (hw1 : ∀ th a, ren 0 th (w a) = w (ren 0 th a)) (hw2 : ∀ n a, lowA n a = true → lowA n (w a) = true) (hg : ∀ (j : Nat) (h : j < l.length), l[j].ents ≠ [] → obj H (g j) = some (7, l[j].ents.map Entry.row))
    (hi : ∀ (j k : Nat) (h1 : j < l.length) (h2 : k < l.length), l[j].ents ≠ [] → l[k].ents ≠ [] → g j = g k → j = k) :
    Ent 0 ([(0, w (.agg (fl (rowsU (fun i => i) l))))], tailU l) ([(0, w (.agg (fl (rowsU g l))))], H) := by
  have hth : ∀ i (h : i < l.length), l[i].ents ≠ [] → thOf 0 (thU g l H.length) i = g i := fun i h e => by simp [thOf, thU, h, e]
  have hlt : ∀ j (h : j < l.length), l[j].ents ≠ [] → g j < H.length := fun j h e => (List.getElem?_eq_some_iff.1 (obj_get (hg j h e))).1
  refine Ent.weakT (th := thU g l H.length) ⟨⟨Nat.zero_le _, Nat.zero_le _⟩, ⟨?_, by simp [thU, tailU_len], fun _ _ => Nat.zero_le _⟩, ?_, ?_⟩
  · unfold thU List.Nodup
    rw [List.pairwise_map, List.pairwise_iff_getElem]
    intro a b ha hb hab e
    simp only [List.length_range] at ha hb
    simp only [List.getElem_range, List.getElem?_eq_getElem ha, List.getElem?_eq_getElem hb, Option.getD_some] at e
    by_cases ea : l[a].ents = [] <;> by_cases eb : l[b].ents = [] <;> simp only [ea, eb, if_true, if_false] at e
    · omega
    · have := hlt b hb eb; omega
    · have := hlt a ha ea; omega
    · have := hi a b ha hb ea eb e; omega
  · intro p hp
    simp only [List.mem_singleton] at hp
    subst hp
    refine ⟨?_, ?_⟩
    · simp only [hw1, ren, renC_map, fl_renU hth]; rfl
    · refine hw2 _ _ ?_
      simp only [lowA, lowC_all]
      refine fl_all (rowsU_all fun i h => ?_)
      simp only [nodeU, List.all_cons, List.all_nil, lowA, Bool.true_and, Bool.and_true]
      exact oA_low fun _ => by rw [tailU_len]; exact h
  · exact heapT_tailU l 0 fun j hj e => by rw [Nat.zero_add, hth j hj e]; exact obj_get (hg j hj e)
theorem Ent.cellL {n0 : Nat} {H : Heap} {ρ : Env} {M i j szM : Nat} {R : List Row} {row : Row} {a r : AVal} (hM : obj H M = some (szM, R)) (hr : R[i]? = some row) (hc : row[j]? = some a) (hs : Lss a r) :
    Ent n0 (ρ, H.set M (some (szM, R.set i (row.set j r)))) (ρ, H) := by
  refine Ent.rowL hM hr (by simp) fun q b c hb hc' => ?_
  by_cases e : q = j
  · subst e
    have hj : q < row.length := (List.getElem?_eq_some_iff.1 hc).1
    rw [List.getElem?_set_self hj] at hc'
    rw [hb] at hc
    cases hc; cases hc'
    exact hs
  · rw [List.getElem?_set_ne (fun h => e h.symm), hb] at hc'
    cases hc'
    exact fun _ h => h
theorem ob_lt {H : Heap} {id : Nat} {o : Nat × List Row} (h : obj H id = some o) : id < H.length := (List.getElem?_eq_some_iff.1 (obj_get h)).1
theorem ob_ne {H : Heap} {i j : Nat} {x : Option (Nat × List Row)} (h : i ≠ j) : obj (H.set i x) j = obj H j := by
  unfold obj; rw [List.getElem?_set_ne h]
theorem ob_self {H : Heap} {i sz : Nat} {R : List Row} (h : i < H.length) (h0 : sz ≠ 0) : obj (H.set i (some (sz, R))) i = some (sz, R) := by
  unfold obj; rw [List.getElem?_set_self h]; simp [h0]
theorem ob_of {H : Heap} {i sz : Nat} {R : List Row} (h : H[i]? = some (some (sz, R))) (h0 : sz ≠ 0) : obj H i = some (sz, R) := by
  unfold obj; rw [h]; simp [h0]
theorem ob_app {H K : Heap} {i : Nat} {o : Nat × List Row} (h : obj H i = some o) : obj (H ++ K) i = some o := by rw [obj_app (ob_lt h)]; exact h
def zTb : Row := [.v (.bool false), .v (.slice none 0 0), .v (.bool false), .v (.slice none 0 0), .v (.bool false), .v (.slice none 0 0), .v (.bool false), .v (.slice none 0 0), .v (.bool false), .v (.slice none 0 0), .v (.bool false), .v (.slice none 0 0), .v (.bool false), .v (.slice none 0 0), .v (.bool false), .v (.slice none 0 0)]
structure OI (l : List Nd) (k : Nat) (g : Nat → Nat) (G : Heap) : Prop where
  o0 : obj G 0 = some (16, [fl (mixU k g l)])
  o1 : obj G 1 = some (16, [zTb])
  hg : ∀ (j : Nat) (h : j < l.length), j < k → l[j].ents ≠ [] → 2 ≤ g j ∧ obj G (g j) = some (7, l[j].ents.map Entry.row)
  hi : ∀ (a b : Nat) (h1 : a < l.length) (h2 : b < l.length), a < k → b < k → l[a].ents ≠ [] → l[b].ents ≠ [] → g a = g b → a = b
theorem OI.next {l : List Nd} {k P : Nat} {g : Nat → Nat} {G G' : Heap} (h : OI l k g G) (hk : k < l.length) (h0 : obj G' 0 = some (16, [fl ((mixU k g l).set k (nodeU P l[k]))])) (hG : ∀ i o, 1 ≤ i → obj G i = some o → obj G' i = some o)
    (hP : l[k].ents ≠ [] → G.length ≤ P ∧ obj G' P = some (7, l[k].ents.map Entry.row)) : OI l (k + 1) (fun i => if i = k then P else g i) G' := by
  have hlt : ∀ (j : Nat) (h1 : j < l.length), j < k → l[j].ents ≠ [] → g j < G.length := fun j h1 h2 e => ob_lt (h.hg j h1 h2 e).2
  have l1 := ob_lt h.o1
  refine ⟨by rw [h0, mixU_set hk], hG 1 _ (by omega) h.o1, fun j hj hjk e => ?_, fun a b h1 h2 ha hb ea eb => ?_⟩
  · by_cases q : j = k
    · subst q
      simp only [if_true]
      obtain ⟨p1, p2⟩ := hP e
      exact ⟨by omega, p2⟩
    · simp only [if_neg q]
      obtain ⟨p1, p2⟩ := h.hg j hj (by omega) e
      exact ⟨p1, hG _ _ (by omega) p2⟩
  · by_cases qa : a = k <;> by_cases qb : b = k
    · omega
    · subst qa
      simp only [if_true, if_neg qb]
      intro e
      have := hlt b h2 (by omega) eb
      have := (hP ea).1
      omega
    · subst qb
      simp only [if_true, if_neg qa]
      intro e
      have := hlt a h1 (by omega) ea
      have := (hP eb).1
      omega
    · simp only [if_neg qa, if_neg qb]
      exact h.hi a b h1 h2 (by omega) (by omega) ea eb
theorem rowsU_allV {g : Nat → Nat} {l : List Nd} (h : 0 < l.length) : allV (fl (rowsU g l)) = none := by
  cases l with
  | nil => simp at h
  | cons n l =>
    simp only [rowsU, List.mapIdx_cons, fl, nodeU, List.cons_append, List.nil_append, allV]
    unfold oA
    split <;> rfl
theorem rowsU_one {g : Nat → Nat} {l : List Nd} : allOneA (fl (rowsU g l)) = true := by
  have h : ∀ rs : List Row, (∀ r ∈ rs, r.all oneA = true) → allOneA (fl rs) = true := by
    intro rs
    induction rs with
    | nil => intro _; rfl
    | cons r rs ih =>
      intro h
      have h1 := ih fun x hx => h x (List.mem_cons_of_mem _ hx)
      have h2 := h r List.mem_cons_self
      simp only [fl]
      clear h
      induction r with
      | nil => simpa using h1
      | cons a r ih2 =>
        simp only [List.all_cons, Bool.and_eq_true] at h2
        simp only [List.cons_append, allOneA, Bool.and_eq_true]
        exact ⟨h2.1, ih2 h2.2⟩
  refine h _ (rowsU_all fun i hi => ?_)
  simp only [nodeU, List.all_cons, List.all_nil, Bool.and_true, Bool.and_eq_true]
  exact ⟨rfl, oneA_oA⟩
theorem rowsU_len16 {g : Nat → Nat} {l : List Nd} (h : l.length = 8) : (fl (rowsU g l)).length = 16 := by rw [fl_len rowsU_two, rowsU_len, h]
theorem rowsU_take {g : Nat → Nat} {l : List Nd} (h : l.length = 8) : List.take 16 (fl (rowsU g l)) = fl (rowsU g l) := List.take_of_length_le (by rw [rowsU_len16 h]; omega)
theorem rowsU_write {g : Nat → Nat} {l : List Nd} (h : l.length = 8) {row : Row} (hr : row.length = 16) : writeAt row 0 (fl (rowsU g l)) = fl (rowsU g l) := writeAt_all (by rw [rowsU_len16 h, hr])
theorem zTb_len : zTb.length = 16 := rfl
theorem ownU_own : InlOk Try.prog 96 (own0 (argG (cAgg rTb) fun t => finG (if ∀ n ∈ t.l, n.ents.length ≤ 8 then some ((.agg (fl (rowsU (fun i => i) t.l)), tailU t.l)) else none))) := by
  refine ownE_1 Try.func96 rfl ?_
  rintro t r H' hr
  by_cases hc : ∀ n ∈ t.l, n.ents.length ≤ 8
  case neg => rw [if_neg hc] at hr; cases hr
  rw [if_pos hc] at hr
  simp only [Option.some.injEq, Prod.mk.injEq] at hr
  obtain ⟨rfl, rfl⟩ := hr
  refine bodyE_of noOrc_ok fxMix (by kernel_rfl) (by simp [Try.ntmps96]) ?_
  intro C cP cI cN cD cF cA cR cL
  replace cI : C.inl = fun _ => false := cI
  replace cR : C.rd = fun _ => none := cR
  replace cD : C.dyn = fun _ => [] := cD
  clear cP cN cF cA
  have hl8 := t.h
  simp [Try.ntmps96, Try.results96, cSl, cI, cD, cR, rTb]
  refine loop_forE 8 (fun k (a : (Nat → Nat) × Heap) => ([(1, .ptr 0 16 0 0), (2, .ptr 1 16 0 0), (5, .agg t.row), (6, .v (.int .i64 k))], a.2)) (fun k a => OI t.l k a.1 a.2) (fun i => i, _) (by rintro k _ h _; omega) ?_ (Ent.env (by simp)) ?_ ?_
  · exact ⟨by rw [mixU_zero]; rfl, rfl, fun j _ h => by omega, fun a b _ _ h => by omega⟩
  · rintro k ⟨g, G⟩ hk hp hw
    obtain ⟨p0, p1, pg, pi⟩ := hp
    simp only at p0 p1 pg pi ⊢
    have hk' : k < t.l.length := by omega
    have hki : (k : Int) < 8 := by omega
    have htk := tb_take t hk
    have hle : k * 2 + 2 ≤ 16 := by omega
    have hle2 : k * 2 + 1 + 1 ≤ 16 := by omega
    have hml : (mixU k g t.l).length = 8 := by rw [mixU_len]; exact hl8
    have hfl : (fl (mixU k g t.l)).length = 16 := by rw [fl_len mixU_two, hml]
    have hmk := mixU_get (k := k) (g := g) hk'
    rw [if_neg (Nat.lt_irrefl k)] at hmk
    have hmk2 : (mixU k g t.l)[k]'(by rw [hml]; exact hk) = (t.l[k]).row := by
      rw [List.getElem?_eq_getElem (by rw [hml]; exact hk)] at hmk
      simpa using hmk
    have hms := fun P => mixU_set (g := g) (P := P) hk'
    have h8 := hc _ (List.getElem_mem hk')
    have hnk : ∀ h : k < t.l.length, t.l[k] = t.l[k] := fun _ => rfl
    generalize hn : t.l[k]'(by omega) = n at *
    obtain ⟨h, L⟩ := n
    simp only at h8
    have hL2 : L.length ≤ 4294967296 := by omega
    have hwr : ∀ x, writeAt (fl (mixU k g t.l)) (k * 2 + 1) [x] = fl ((mixU k g t.l).set k [.v (.bool h), x]) := fun x => by
      rw [fl_write1 mixU_two (by rw [hml]; exact hk), hmk2]; rfl
    have h2x : ∀ x, ∀ r ∈ (mixU k g t.l).set k [.v (.bool h), x], r.length = 2 := fun x r hr => by
      rcases List.mem_or_eq_of_mem_set hr with hr | rfl
      · exact mixU_two r hr
      · rfl
    have hgs : ∀ x, (fl ((mixU k g t.l).set k [.v (.bool h), x]))[k * 2 + 1]? = some x := fun x => by
      rw [fl_get (h2x x) (k := k) (j := 1) (by rw [List.length_set, hml]; exact hk) (by omega)]
      simp
    have hst : ∀ x y, (fl ((mixU k g t.l).set k [.v (.bool h), x])).set (k * 2 + 1) y = fl ((mixU k g t.l).set k [.v (.bool h), y]) := fun x y => by
      rw [fl_set (h2x x) (by rw [List.length_set, hml]; exact hk)]
      simp
    have q0 := obj_get p0
    have l0 := ob_lt p0
    have l1 := ob_lt p1
    have q0' := (List.getElem?_eq_some_iff.1 q0).2
    have eA : ∀ o : Option (Nat × List Row), (G ++ [o])[G.length]? = some o := fun o => by simp
    have e0 : ∀ X : Heap, (G ++ X)[0]? = some (some (16, [fl (mixU k g t.l)])) := fun X => by rw [List.getElem?_append_left l0]; exact q0
    by_cases h0 : L = []
    · subst h0
      simp [Try.ntmps96, Try.results96, cSl, cI, cD, cR, hk, hki, htk, hle, hle2, hw, hml, hfl, hwr, Nd.row, q0, q0', l0, e0, eA]
      have hcell := Ent.cellL (n0 := 0) (H := List.set G 0 (some (16, [fl ((mixU k g t.l).set k [.v (.bool h), .v (.slice none 0 0)])])) ++ [some (2, [[.v (.bool h), .fsl false 7 []]])]) (ρ := [(1, .ptr 0 16 0 0), (2, .ptr 1 16 0 0), (5, .agg t.row), (6, .v (.int .i64 ((k + 1 : Nat) : Int)))]) (M := 0) (i := 0) (j := k * 2 + 1) (szM := 16) (R := [fl ((mixU k g t.l).set k [.v (.bool h), .v (.slice none 0 0)])]) (row := fl ((mixU k g t.l).set k [.v (.bool h), .v (.slice none 0 0)])) (by rw [ob_app (o := (16, [fl ((mixU k g t.l).set k [.v (.bool h), .v (.slice none 0 0)])])) (ob_self l0 (by decide))]) rfl (hgs _) (@Lss.nil_esl')
      simp only [hst, List.set_cons_zero] at hcell
      refine ⟨(fun i => if i = k then 0 else g i, _), ?_, .trans hcell (Ent.env (by simp))⟩
      refine OI.next (G := G) ⟨p0, p1, pg, pi⟩ hk' ?_ (fun i o h1 ho => ?_) (fun e => absurd (by rw [hn]) e)
      · rw [hn]
        exact ob_self (by simp) (by decide)
      · simp only
        rw [ob_ne (by omega)]
        refine ob_app ?_
        rw [ob_ne (by omega)]
        exact ho
    · simp [Try.ntmps96, Try.results96, cSl, cI, cD, cR, hk, hki, htk, hle, hle2, hw, hml, hfl, hwr, h0, hL2, Nd.row, q0, q0', l0, e0, eA]
      refine ⟨(fun i => if i = k then G.length + 1 else g i, _), ?_, Ent.env (by simp)⟩
      refine OI.next (G := G) ⟨p0, p1, pg, pi⟩ hk' ?_ (fun i o h1 ho => ?_) (fun e => ⟨by omega, ?_⟩)
      · rw [hn]
        refine ob_app ?_
        have hno : nodeU (G.length + 1) ⟨h, L⟩ = [.v (.bool h), .osl (G.length + 1) 7 0 L.length L.length] := by
          have : ¬ L.length = 0 := fun q => h0 (List.length_eq_zero_iff.1 q)
          simp [nodeU, oA, h0]
        rw [hno]
        exact ob_self l0 (by decide)
      · refine ob_app ?_
        rw [ob_ne (by omega)]
        exact ho
      · rw [hn]
        refine ob_of ?_ (by decide)
        rw [List.getElem?_append_right (by simp), List.length_set, show G.length + 1 - G.length = 1 by omega]; rfl
  · rintro ⟨g, G⟩ ⟨p0, p1, pg, pi⟩
    simp only at p0 p1 pg pi ⊢
    have e : mixU 8 g t.l = rowsU g t.l := by rw [← hl8, mixU_all]
    rw [e] at p0
    have q0 := obj_get p0
    have q1 := obj_get p1
    have l0 := ob_lt p0
    have l1 := ob_lt p1
    have q0' := (List.getElem?_eq_some_iff.1 q0).2
    have q1' := (List.getElem?_eq_some_iff.1 q1).2
    simp [Try.ntmps96, Try.results96, cSl, cI, cD, cR, q0, q0', q1, q1', l0, l1, rowsU_allV (show 0 < t.l.length by omega), rowsU_one, rowsU_len16 hl8, rowsU_take hl8, rowsU_write hl8, zTb_len, show writeAt zTb 0 (fl (rowsU g t.l)) = fl (rowsU g t.l) from rowsU_write hl8 rfl]
    exact canonT (w := fun a => a) (fun _ _ => rfl) (fun _ _ h => h) (fun j h e => by rw [ob_ne (by have := (pg j h (by omega) e).1; omega)]; exact (pg j h (by omega) e).2) (fun j k h1 h2 e1 e2 => pi j k h1 h2 (by omega) (by omega) e1 e2)
theorem oA_tau7 {n id k : Nat} : tau [] n (oA id 7 k) = oA (n + id) 7 k := by
  unfold oA; split <;> simp [tau, tauI]
theorem rowsU_tau {n : Nat} {g : Nat → Nat} {l : List Nd} : (fl (rowsU g l)).map (tau [] n) = fl (rowsU (fun i => n + g i) l) := by
  rw [fl_map]
  congr 1
  apply List.ext_getElem?
  intro i
  rw [List.getElem?_map]
  by_cases hi : i < l.length
  · rw [rowsU_get hi, rowsU_get hi]
    simp only [Option.map_some, nodeU, List.map_cons, List.map_nil, oA_tau7, tau]
  · rw [List.getElem?_eq_none (by rw [rowsU_len]; omega), List.getElem?_eq_none (by rw [rowsU_len]; omega)]; rfl
theorem rowsU_tauA {n : Nat} {g : Nat → Nat} {l : List Nd} : tau [] n (.agg (fl (rowsU g l))) = .agg (fl (rowsU (fun i => n + g i) l)) := by
  simp only [tau, tauC_map, rowsU_tau]
theorem tailU_tau {n : Nat} : ∀ l : List Nd, (tailU l).map (tauO [] n) = tailU l
  | [] => rfl
  | b :: l => by
    have := tailU_tau (n := n) l
    simp only [tailU, List.map_cons] at this ⊢
    rw [this]
    congr 1
    unfold oT
    split
    · rfl
    · simp [tauO, Entry.row, tau]
theorem rowsU_bare {g : Nat → Nat} {l : List Nd} : bareA (.agg (fl (rowsU g l))) = true := by
  simp only [bareA, bareC_all]
  refine fl_all (rowsU_all fun i hi => ?_)
  simp only [nodeU, List.all_cons, List.all_nil, Bool.and_true, Bool.and_eq_true]
  refine ⟨rfl, ?_⟩
  unfold oA; split <;> rfl
theorem tailU_bare : ∀ l : List Nd, bareH (tailU l) = true
  | [] => rfl
  | b :: l => by
    have := tailU_bare l
    simp only [tailU, List.map_cons] at this ⊢
    by_cases e : b.ents = []
    · have hT : oT 7 (b.ents.map Entry.row) = none := by simp [oT, e]
      rw [hT]; simp only [bareH]; exact this
    · have hT : oT 7 (b.ents.map Entry.row) = some (7, b.ents.map Entry.row) := by simp [oT, e]
      rw [hT]; simp [bareH, Entry.row, bareA]; exact this
theorem ownU_inl : InlOk Try.prog 96 (frame0 (own0 (argG (cAgg rTb) fun t => finG (if ∀ n ∈ t.l, n.ents.length ≤ 8 then some ((.agg (fl (rowsU (fun i => i) t.l)), tailU t.l)) else none)))) := frame0_ok ownU_own
end
section
attribute [local simp] Entry.eta Entry.cold Entry.mapM Entry.mapMc Entry.view Entry.viewc Entry.hotR Entry.ren Entry.renc Entry.low Entry.tau Entry.tauc Entry.bare Entry.flat Entry.flat1 Entry.mapMt Entry.mapMd Entry.coldt Entry.coldd Entry.hotRt Entry.hotRd
attribute [local simp] Nd.eta Nd.dec_row Nd.dec_hrow Nd.cold Nd.hcold Nd.mapM Nd.mapMc Nd.hmapM Nd.hmapMc Nd.view Nd.viewc Nd.hview Nd.hviewc Nd.hotR Nd.ren Nd.renc Nd.low Nd.hlow
attribute [local simp] tb_write tb_hwrite tb_allV tb_hallV tb_len tb_hlen tb_all tb_hall tb_one tb_hone tb_low tb_hlow tb_lowC tb_hlowC tb_view tb_hview tb_cold tb_hcold tb_hot Tb.dec_row Tb.dec_hrow
theorem rowsU_tauC {n : Nat} {g : Nat → Nat} {l : List Nd} : tauC [] n (fl (rowsU g l)) = fl (rowsU (fun i => n + g i) l) := by rw [tauC_map, rowsU_tau]
theorem rowsU_bareC {g : Nat → Nat} {l : List Nd} : bareC (fl (rowsU g l)) = true := by
  have := rowsU_bare (g := g) (l := l)
  simpa only [bareA] using this
attribute [local simp] rowsU_tauA tailU_tau tailU_bare rowsU_bare tailU_len rowsU_tauC rowsU_bareC
theorem vwV {H : Heap} {v : Value} : cold (view H 4 (.v v)) = .v v := by simp [view, cold]
theorem vwTb {H : Heap} {t : Tb} : cold (view H 4 (.agg t.row)) = .agg t.row := by simp [view, cold]
def Tb.set (t : Tb) (k : Nat) (n : Nd) : Tb := ⟨t.l.set k n, by rw [List.length_set]; exact t.h⟩
def noTb : Tb := ⟨List.replicate 8 noNd, rfl⟩
def tbX : Except Int Tb → Tb × Int
  | .ok t => (t, 0)
  | .error e => (noTb, e)
def tbU (q : Tb × Int) : AVal × Heap := (.tup [.agg (fl (rowsU (fun i => i) q.1.l)), .v (.int .i64 q.2)], tailU q.1.l)
theorem heapW_none {n : Nat} : ∀ (m : Nat) (H : Heap), heapW n (List.replicate m none) H
  | 0, _ => trivial
  | m + 1, [] => by simp only [List.replicate_succ, heapW]; exact heapW_none m []
  | m + 1, _ :: r => by simp only [List.replicate_succ, heapW]; exact heapW_none m r
theorem ent_errN {m : Nat} {r x : AVal} {H : Heap} (h : Lss x r) (hl : lowA m r = true) : Ent 0 ([(0, r)], List.replicate m none) ([(0, x)], H) := by
  refine Ent.trans (Ent.weak (s' := ([(0, r)], List.replicate m none)) (s := ([(0, r), (0, x)], H)) ?_) (Ent.slotL (t := 0) (r := r) (by simp only [AI.look, if_true]; exact @h))
  refine ⟨Nat.zero_le _, fun p hp => ?_, heapW_none _ _⟩
  simp only [List.mem_singleton] at hp
  subst hp
  exact ⟨rfl, by simpa using hl⟩
theorem zv : Lss (.v (.agg #[.bool false, .slice none 0 0, .bool false, .slice none 0 0, .bool false, .slice none 0 0, .bool false, .slice none 0 0, .bool false, .slice none 0 0, .bool false, .slice none 0 0, .bool false, .slice none 0 0, .bool false, .slice none 0 0])) (.agg (fl (rowsU (fun i => i) noTb.l))) :=
  (Lss.vals (vs := [.bool false, .slice none 0 0, .bool false, .slice none 0 0, .bool false, .slice none 0 0, .bool false, .slice none 0 0, .bool false, .slice none 0 0, .bool false, .slice none 0 0, .bool false, .slice none 0 0, .bool false, .slice none 0 0]) rfl (fun j v r hv hr => by
    have hj : j < 16 := (List.getElem?_eq_some_iff.1 hv).1
    have hrr : (fl (rowsU (fun i => i) noTb.l)) = [.v (.bool false), .esl, .v (.bool false), .esl, .v (.bool false), .esl, .v (.bool false), .esl, .v (.bool false), .esl, .v (.bool false), .esl, .v (.bool false), .esl, .v (.bool false), .esl] := rfl
    rw [hrr] at hr
    rcases (by omega : j = 0 ∨ j = 1 ∨ j = 2 ∨ j = 3 ∨ j = 4 ∨ j = 5 ∨ j = 6 ∨ j = 7 ∨ j = 8 ∨ j = 9 ∨ j = 10 ∨ j = 11 ∨ j = 12 ∨ j = 13 ∨ j = 14 ∨ j = 15) with rfl | rfl | rfl | rfl | rfl | rfl | rfl | rfl | rfl | rfl | rfl | rfl | rfl | rfl | rfl | rfl <;> (simp at hv hr; subst hv hr; first | exact @Lss.refl _ | exact @Lss.nil_esl'))).2
theorem tb_err {e : Int} {H : Heap} : Ent 0 ([(0, (tbU (noTb, e)).1)], (tbU (noTb, e)).2) ([(0, .v (.tuple #[.agg #[.bool false, .slice none 0 0, .bool false, .slice none 0 0, .bool false, .slice none 0 0, .bool false, .slice none 0 0, .bool false, .slice none 0 0, .bool false, .slice none 0 0, .bool false, .slice none 0 0, .bool false, .slice none 0 0], .int .i64 e]))], H) := by
  refine ent_errN (m := 8) ?_ rfl
  exact (Lss.vals (vs := [.agg #[.bool false, .slice none 0 0, .bool false, .slice none 0 0, .bool false, .slice none 0 0, .bool false, .slice none 0 0, .bool false, .slice none 0 0, .bool false, .slice none 0 0, .bool false, .slice none 0 0, .bool false, .slice none 0 0], .int .i64 e]) rfl (fun j v r hv hr => by
    match j, hv, hr with
    | 0, hv, hr => simp at hv hr; subst hv hr; exact @zv
    | 1, hv, hr => simp at hv hr; subst hv hr; exact @Lss.refl _
    | j + 2, hv, hr => simp at hv)).1
def setE (n : Nd) (r : Nat) (x : Entry) : List Entry := (sp8 n).set r x
def setN (n : Nd) (r : Nat) (x : Entry) : Nd := if (setE n r x).all Entry.none = true then ⟨false, []⟩ else ⟨false, setE n r x⟩
def tbSet (t : Tb) (p : Int) (x : Entry) : Except Int Tb :=
  if pageE t p = 0 then (if x.chk = 0 then .ok (t.set (p.toNat / 8) (setN (t.l[p.toNat / 8]?.getD noNd) (p.toNat % 8) x)) else .error x.chk) else .error (pageE t p)
theorem shape8 {n : Nd} (h : nodeChk n = 0) : n.ents.length ≤ 8 := by
  have := hugeNo h
  unfold shape at this
  split at this
  · simp at this; omega
  · simp only [Bool.or_eq_true, decide_eq_true_eq] at this; omega
theorem nodeU_allV {c : Nat} {n : Nd} : allV (nodeU c n) = none := by
  simp only [nodeU, allV]; unfold oA; split <;> rfl
theorem rowsU_at {g : Nat → Nat} {l : List Nd} {k : Nat} (hk : k < l.length) : ((fl (rowsU g l)).drop (k * 2)).take 2 = nodeU (g k) l[k] := by
  have h := fl_take (rowsU_two (g := g) (l := l)) (k := k) (by rw [rowsU_len]; exact hk)
  rw [h]
  have := rowsU_get (g := g) hk
  rw [List.getElem?_eq_getElem (by rw [rowsU_len]; exact hk)] at this
  simpa using this
theorem vwN {X : Heap} {c : Nat} {n : Nd} (h : n.ents ≠ [] → obj X c = some (7, n.ents.map Entry.row)) : cold (view X 4 (.agg (nodeU c n))) = .agg [.v (.bool n.huge), if n.ents = [] then .esl else .fsl false 7 (n.ents.map Entry.row)] := by
  by_cases e : n.ents = []
  · simp [nodeU, oA, e, view, cold, coldC]
  · have hn : ¬ n.ents.length = 0 := fun q => e (List.length_eq_zero_iff.1 q)
    have ht : List.take n.ents.length (n.ents.map Entry.row) = n.ents.map Entry.row := List.take_of_length_le (by simp)
    have hvv : List.map (fun r => List.map (view X 2) r) (n.ents.map Entry.row) = n.ents.map Entry.row := by
      simp [Entry.row, view]
    have hcc : coldR (n.ents.map Entry.row) = n.ents.map Entry.row := Entry.cold _
    simp only [nodeU, oA, hn, if_false, view, h e, List.drop_zero, Nat.zero_add, List.length_map, Nat.le_refl, and_self, if_true, ht, List.map_cons, List.map_nil, cold, coldC, hvv, hcc, e]
theorem ndDecU {n : Nd} : ndDec [.v (.bool n.huge), if n.ents = [] then .esl else .fsl false 7 (n.ents.map Entry.row)] = some n := by
  by_cases e : n.ents = []
  · obtain ⟨h, l⟩ := n
    simp only at e
    subst e
    rfl
  · simp only [e, if_false]
    exact Nd.dec_row n
theorem lss_agg {xs rs : List AVal} (hl : rs.length = xs.length) (h : ∀ (j : Nat) (x r : AVal), xs[j]? = some x → rs[j]? = some r → Lss x r) : Lss (.agg xs) (.agg rs) := fun hok hR => by
  cases hR with
  | agg hl' hr =>
    refine .agg (hl.trans hl') fun j r hj => ?_
    have hj' : j < xs.length := by rw [← hl]; exact (List.getElem?_eq_some_iff.1 hj).1
    exact h j _ r (List.getElem?_eq_getElem hj') hj hok (hr j _ (List.getElem?_eq_getElem hj'))
theorem lss_tup {xs rs : List AVal} (hl : rs.length = xs.length) (h : ∀ (j : Nat) (x r : AVal), xs[j]? = some x → rs[j]? = some r → Lss x r) : Lss (.tup xs) (.tup rs) := fun hok hR => by
  cases hR with
  | tup hl' hr =>
    refine .tup (hl.trans hl') fun j r hj => ?_
    have hj' : j < xs.length := by rw [← hl]; exact (List.getElem?_eq_some_iff.1 hj).1
    exact h j _ r (List.getElem?_eq_getElem hj') hj hok (hr j _ (List.getElem?_eq_getElem hj'))
theorem setU_two {g : Nat → Nat} {l : List Nd} {k : Nat} {a b : AVal} : ∀ r ∈ (rowsU g l).set k [a, b], r.length = 2 := fun r hr => by
  rcases List.mem_or_eq_of_mem_set hr with hr | rfl
  · exact rowsU_two r hr
  · rfl
theorem setU_len {g : Nat → Nat} {t : Tb} {k : Nat} {a b : AVal} : (fl ((rowsU g t.l).set k [a, b])).length = 16 := by rw [fl_len setU_two, List.length_set, rowsU_len, t.h]
theorem setU_write {g : Nat → Nat} {t : Tb} {k : Nat} (hk : k < 8) (a b : AVal) : writeAt (fl (rowsU g t.l)) (k * 2) [a, b] = fl ((rowsU g t.l).set k [a, b]) := fl_write rowsU_two (by rw [rowsU_len, t.h]; exact hk) rfl
theorem setU_take {g : Nat → Nat} {t : Tb} {k : Nat} {a b : AVal} : List.take 16 (fl ((rowsU g t.l).set k [a, b])) = fl ((rowsU g t.l).set k [a, b]) := List.take_of_length_le (by rw [setU_len]; omega)
theorem setU_all {g : Nat → Nat} {t : Tb} {k : Nat} {a b : AVal} {row : Row} (h : row.length = 16) : writeAt row 0 (fl ((rowsU g t.l).set k [a, b])) = fl ((rowsU g t.l).set k [a, b]) := writeAt_all (by rw [setU_len, h])
theorem allV_mem' : ∀ {l : List AVal} {a : AVal}, a ∈ l → (∀ x, a ≠ .v x) → allV l = none
  | [], a, h, _ => by simp at h
  | b :: l, a, h, hn => by
    rcases List.mem_cons.1 h with rfl | h
    · cases a <;> first | rfl | exact absurd rfl (hn _)
    · have := allV_mem' h hn
      cases b <;> simp [allV, this]
theorem setU_allV {g : Nat → Nat} {t : Tb} {k : Nat} {a b : AVal} : allV (fl ((rowsU g t.l).set k [a, b])) = none := by
  obtain ⟨m, hm, hmk⟩ : ∃ m, m < 8 ∧ m ≠ k := by
    by_cases h : k = 0
    · exact ⟨1, by omega, by omega⟩
    · exact ⟨0, by omega, by omega⟩
  have hml : m < t.l.length := by rw [t.h]; exact hm
  have hg := fl_get (setU_two (g := g) (l := t.l) (k := k) (a := a) (b := b)) (k := m) (j := 1) (by rw [List.length_set, rowsU_len]; exact hml) (by omega)
  have he : ((rowsU g t.l).set k [a, b])[m]'(by rw [List.length_set, rowsU_len]; exact hml) = nodeU (g m) t.l[m] := by
    rw [List.getElem_set_ne (fun h => hmk h.symm)]
    have := rowsU_get (g := g) hml
    rw [List.getElem?_eq_getElem (by rw [rowsU_len]; exact hml)] at this
    simpa using this
  rw [he] at hg
  refine allV_mem' (List.mem_of_getElem? hg) (fun x h => ?_)
  unfold oA at h
  split at h <;> cases h
theorem setU_one {g : Nat → Nat} {t : Tb} {k : Nat} {a b : AVal} (ha : oneA a = true) (hb : oneA b = true) : allOneA (fl ((rowsU g t.l).set k [a, b])) = true := by
  have h : ∀ rs : List Row, (∀ r ∈ rs, r.all oneA = true) → allOneA (fl rs) = true := by
    intro rs
    induction rs with
    | nil => intro _; rfl
    | cons r rs ih =>
      intro h
      have h1 := ih fun x hx => h x (List.mem_cons_of_mem _ hx)
      have h2 := h r List.mem_cons_self
      simp only [fl]
      clear h
      induction r with
      | nil => simpa using h1
      | cons a r ih2 =>
        simp only [List.all_cons, Bool.and_eq_true] at h2
        simp only [List.cons_append, allOneA, Bool.and_eq_true]
        exact ⟨h2.1, ih2 h2.2⟩
  refine h _ fun r hr => ?_
  rcases List.mem_or_eq_of_mem_set hr with hr | rfl
  · exact rowsU_all (fun i hi => by simp only [nodeU, List.all_cons, List.all_nil, Bool.and_true, Bool.and_eq_true]; exact ⟨rfl, oneA_oA⟩) r hr
  · simp only [List.all_cons, List.all_nil, Bool.and_true, ha, hb]
theorem tb_fin {H : Heap} {t : Tb} {k P : Nat} {n : Nd} {c : AVal} {e : Int} {g : Nat → Nat} (hk : k < 8) (hc : Lss c (oA P 7 n.ents.length)) (hg : ∀ (j : Nat) (h : j < t.l.length), t.l[j].ents ≠ [] → obj H (g j) = some (7, t.l[j].ents.map Entry.row))
    (hi : ∀ a b, a < 8 → b < 8 → g a = g b → a = b) (hP : n.ents ≠ [] → obj H P = some (7, n.ents.map Entry.row) ∧ ∀ j, j < 8 → g j ≠ P) :
    Ent 0 ([(0, (tbU (t.set k n, e)).1)], (tbU (t.set k n, e)).2) ([(0, .tup [.agg (fl ((rowsU g t.l).set k [.v (.bool n.huge), c])), .v (.int .i64 e)])], H) := by
  have hkl : k < t.l.length := by rw [t.h]; exact hk
  have h1 : Lss (.tup [.agg (fl ((rowsU g t.l).set k [.v (.bool n.huge), c])), .v (.int .i64 e)]) (.tup [.agg (fl (rowsU (fun i => if i = k then P else g i) (t.l.set k n))), .v (.int .i64 e)]) := by
    refine @lss_tup _ _ rfl fun j x r hx hr => ?_
    match j, hx, hr with
    | 0, hx, hr =>
      simp at hx hr; subst hx hr
      rw [← rowsU_set]
      refine @lss_agg _ _ (by rw [fl_len setU_two]; unfold nodeU; rw [fl_len setU_two]; simp) fun j x r hx hr => ?_
      have hj : j < 16 := by have := (List.getElem?_eq_some_iff.1 hx).1; rwa [setU_len] at this
      obtain ⟨q, i, rfl, hi2⟩ : ∃ q i, j = q * 2 + i ∧ i < 2 := ⟨j / 2, j % 2, by omega, by omega⟩
      have hq : q < ((rowsU g t.l).set k [.v (.bool n.huge), c]).length := by rw [List.length_set, rowsU_len, t.h]; omega
      rw [fl_get setU_two hq hi2] at hx
      unfold nodeU at hr
      rw [fl_get setU_two (by rw [List.length_set, rowsU_len, t.h]; omega) hi2] at hr
      rcases Classical.em (q = k) with eq | eq
      · subst eq
        rw [List.getElem_set_self] at hx hr
        match i, hx, hr with
        | 0, hx, hr => simp at hx hr; subst hx hr; exact @Lss.refl _
        | 1, hx, hr => simp at hx hr; subst hx hr; exact @hc
      · rw [List.getElem_set_ne (fun h => eq h.symm)] at hx hr
        rw [hx] at hr
        cases hr
        exact @Lss.refl _
    | 1, hx, hr => simp at hx hr; subst hx hr; exact @Lss.refl _
    | j + 2, hx, hr => simp at hx
  refine Ent.trans (canonT (g := fun i => if i = k then P else g i) (l := t.l.set k n) (H := H) (w := fun a => .tup [a, .v (.int .i64 e)]) (fun th a => by simp [ren, renC]) (fun m a h => by simp [lowA, lowC, h]) (fun j h ej => ?_) (fun a b ha hb ea eb hab => ?_)) (.trans (Ent.env (ρ := [(0, .tup [.agg (fl (rowsU (fun i => if i = k then P else g i) (t.l.set k n))), .v (.int .i64 e)]), (0, .tup [.agg (fl ((rowsU g t.l).set k [.v (.bool n.huge), c])), .v (.int .i64 e)])]) (by simp [AI.look])) (Ent.slotL (t := 0) (by simp only [AI.look, if_true]; exact @h1)))
  · rw [List.length_set] at h
    by_cases q : j = k
    · subst q
      simp only [if_true]
      rw [List.getElem_set_self] at ej ⊢
      exact (hP ej).1
    · simp only [if_neg q]
      rw [List.getElem_set_ne (fun x => q x.symm)] at ej ⊢
      exact hg j h ej
  · have ha8 : a < 8 := by rw [List.length_set, t.h] at ha; exact ha
    have hb8 : b < 8 := by rw [List.length_set, t.h] at hb; exact hb
    by_cases qa : a = k <;> by_cases qb : b = k
    · omega
    · subst qa
      simp only [if_true, if_neg qb] at hab
      rw [List.getElem_set_self] at ea
      exact absurd hab.symm ((hP ea).2 b hb8)
    · subst qb
      simp only [if_true, if_neg qa] at hab
      rw [List.getElem_set_self] at eb
      exact absurd hab ((hP eb).2 a ha8)
    · simp only [if_neg qa, if_neg qb] at hab
      exact hi a b ha8 hb8 hab
theorem tail_obj {a b c : Option (Nat × List Row)} {l : List Nd} {K : Heap} {j : Nat} (h : j < l.length) (e : l[j].ents ≠ []) : obj (a :: b :: c :: (tailU l ++ K)) (3 + j) = some (7, l[j].ents.map Entry.row) := by
  refine ob_of ?_ (by decide)
  rw [show 3 + j = j + 1 + 1 + 1 by omega, List.getElem?_cons_succ, List.getElem?_cons_succ, List.getElem?_cons_succ, List.getElem?_append_left (by rw [tailU_len]; exact h)]
  simp [tailU, h, oT, e]
theorem set_own : InlOk Try.prog 32 (own0 (argG (cAgg rTb) fun t => argG (cInt .i64) fun p => argG (cAgg rEnt) fun x => finG (some (tbU (tbX (tbSet t p x)))))) := by
  refine ownE_3 Try.func32 rfl ?_
  rintro t p x r H' hr
  simp only [Option.some.injEq, Prod.mk.injEq] at hr
  obtain ⟨rfl, rfl⟩ := hr
  refine bodyE_of (((((noOrc_ok.withP page_pure).withP check_pure).withI ownU_inl).withIF split_inl frame0_loc).withIF clean_inl frameA_loc) fxMix (by kernel_rfl) (by simp [Try.ntmps32]) ?_
  intro C cP cI cN cD cF cA cR cL
  have cp0 := orcP page_pure (C := C) (by rw [cP]; rfl)
  have cp1 := orcP check_pure (C := C) (by rw [cP]; rfl)
  have cn0 := orcI ownU_inl (C := C) (by rw [cN]; rfl)
  have cn1 := orcI split_inl (C := C) (by rw [cN]; rfl)
  have cn2 := orcI clean_inl (C := C) (by rw [cN]; rfl)
  replace cI := fun g => congrFun cI g
  simp only [Orc.withP, Orc.withI, Orc.withF, Orc.withD, Orc.withA, Orc.withR, Orc.withC, noOrc] at cI
  replace cR : C.rd = fun _ => none := cR
  replace cD : C.dyn = fun _ => [] := cD
  clear cP cN cF cA
  unfold tbSet
  have hl8 := t.h
  by_cases h0 : pageE t p = 0
  case neg =>
    simp [Try.ntmps32, Try.results32, cSl, cp0, cp1, cn0, cn1, cn2, cI, cD, cR, rTb, rEnt, Entry.row, entDec, h0, tbX]
    exact tb_err
  by_cases h1 : x.chk = 0
  case neg =>
    simp [Try.ntmps32, Try.results32, cSl, cp0, cp1, cn0, cn1, cn2, cI, cD, cR, rTb, rEnt, Entry.row, entDec, h0, h1, tbX]
    exact tb_err
  obtain ⟨hck, q, rfl, hq⟩ := page_ok h0
  obtain ⟨k, hk⟩ : ∃ k, k = q / 8 := ⟨_, rfl⟩
  obtain ⟨r, hr⟩ : ∃ r, r = q % 8 := ⟨_, rfl⟩
  have hk8 : k < 8 := by omega
  have hr8 : r < 8 := by omega
  have hkl : k < t.l.length := by rw [t.h]; exact hk8
  have e1 : Int.tdiv (q : Int) 8 = (k : Int) := by rw [hk]; rfl
  have e1' : (q : Int) / 8 = (k : Int) := by omega
  have e2 : Int.tmod (q : Int) 8 = (r : Int) := by rw [hr]; rfl
  have e2' : (q : Int) % 8 = (r : Int) := by omega
  have w1 : IntKind.i64.wrap (k : Int) = k := w64 (by omega) (by omega)
  have hall8 : (∀ n, n ∈ t.l → n.ents.length ≤ 8) = True := eq_true fun n hn => shape8 (nodes_ok.1 hck n hn)
  have hsh := hugeNo (nodes_ok.1 hck _ (List.getElem_mem hkl))
  have hle : k * 2 + 2 ≤ 16 := by omega
  have hk8' : (k : Int) < 8 := by omega
  have hr8' : (r : Int) < 8 := by omega
  rw [Int.toNat_natCast, ← hk, ← hr, List.getElem?_eq_getElem hkl, Option.getD_some]
  have htk := rowsU_at (g := fun i => 3 + i) hkl
  have hv : ∀ a b c, cold (view (a :: b :: c :: tailU t.l) 4 (.agg (nodeU (3 + k) t.l[k]))) = .agg [.v (.bool (t.l[k]).huge), if (t.l[k]).ents = [] then .esl else .fsl false 7 ((t.l[k]).ents.map Entry.row)] := fun a b c => vwN fun e => by
    refine ob_of ?_ (by decide)
    rw [show 3 + k = k + 1 + 1 + 1 by omega, List.getElem?_cons_succ, List.getElem?_cons_succ, List.getElem?_cons_succ]
    simp [tailU, hkl, oT, e]
  have hsp := spE_len t.l[k] 8
  have hgr : (sp8 t.l[k])[r]? = some ((sp8 t.l[k])[r]'(by rw [hsp]; exact hr8)) := List.getElem?_eq_getElem (by rw [hsp]; exact hr8)
  have hse : ((sp8 t.l[k]).map Entry.row).set r x.row = (setE t.l[k] r x).map Entry.row := by rw [setE, List.map_set]
  have hsel : (setE t.l[k] r x).length = 8 := by rw [setE, List.length_set, hsp]
  have hwz : ∀ g, writeAt zTb 0 (fl (rowsU g t.l)) = fl (rowsU g t.l) := fun g => rowsU_write hl8 rfl
  have hwr : ∀ g, writeAt t.row 0 (fl (rowsU g t.l)) = fl (rowsU g t.l) := fun g => rowsU_write hl8 (tb_len t)
  have hsz : ∀ a b, writeAt zTb 0 (fl ((rowsU (fun i => 3 + i) t.l).set k [a, b])) = fl ((rowsU (fun i => 3 + i) t.l).set k [a, b]) := fun a b => setU_all rfl
  simp only [zTb] at hsz
  simp only [Entry.row] at hse
  by_cases hna : (setE t.l[k] r x).all Entry.none = true
  · simp [Try.ntmps32, Try.results32, cSl, cp0, cp1, cn0, cn1, cn2, cI, cD, cR, -view, -cold, vwV, vwTb, rTb, rEnt, Entry.row, entDec, h0, h1, hall8, e1, e1', e2, e2', w1, htk, hle, hk8', hr8', hsh, rNd, ndDecU, hv, hwr, hsp, hgr, hse, hsel, frameA, clA, hna, rowsU_allV (show 0 < t.l.length by omega), rowsU_one, rowsU_len16 hl8, rowsU_take hl8, hl8, nodeU_allV, setU_write hk8, setU_len, setU_take, setU_allV, setU_one (show oneA (.v (.bool false)) = true from rfl) (show oneA (.v (.slice none 0 0)) = true from rfl), hsz]
    rw [show setN t.l[k] r x = ⟨false, []⟩ from if_pos hna]
    exact tb_fin (n := ⟨false, []⟩) (P := 0) hk8 (@Lss.nil_esl') (fun j h e => tail_obj h e) (fun a b _ _ h => by omega) (fun e => absurd rfl e)
  · simp [Try.ntmps32, Try.results32, cSl, cp0, cp1, cn0, cn1, cn2, cI, cD, cR, -view, -cold, vwV, vwTb, rTb, rEnt, Entry.row, entDec, h0, h1, hall8, e1, e1', e2, e2', w1, htk, hle, hk8', hr8', hsh, rNd, ndDecU, hv, hwr, hsp, hgr, hse, hsel, frameA, clA, hna, rowsU_allV (show 0 < t.l.length by omega), rowsU_one, rowsU_len16 hl8, rowsU_take hl8, hl8, nodeU_allV, setU_write hk8, setU_len, setU_take, setU_allV, setU_one (show oneA (.v (.bool false)) = true from rfl) (show oneA (.osl 13 7 0 8 8) = true from rfl), hsz]
    rw [show setN t.l[k] r x = ⟨false, setE t.l[k] r x⟩ from if_neg hna]
    refine tb_fin (n := ⟨false, setE t.l[k] r x⟩) (P := 13) hk8 (by simp only [oA, hsel]; exact @Lss.refl _) (fun j h e => tail_obj h e) (fun a b _ _ h => by omega) (fun e => ⟨?_, fun j hj => by omega⟩)
    refine ob_of ?_ (by decide)
    rw [show (13 : Nat) = 10 + 1 + 1 + 1 by rfl, List.getElem?_cons_succ, List.getElem?_cons_succ, List.getElem?_cons_succ, List.getElem?_append_right (by rw [tailU_len]; omega), tailU_len, hl8]
    rfl
theorem set_inl : InlOk Try.prog 32 (frame0 (own0 (argG (cAgg rTb) fun t => argG (cInt .i64) fun p => argG (cAgg rEnt) fun x => finG (some (tbU (tbX (tbSet t p x))))))) := frame0_ok set_own
def tbSplit (t : Tb) (k : Int) : Except Int Tb :=
  if tbCheck t = 0 then (if k < 0 ∨ 8 ≤ k then .error 1 else if (t.l[k.toNat]?.getD noNd).huge = true then .ok (t.set k.toNat ⟨false, sp8 (t.l[k.toNat]?.getD noNd)⟩) else .error 8) else .error (tbCheck t)
theorem tail_obj2 {a b : Option (Nat × List Row)} {l : List Nd} {K : Heap} {j : Nat} (h : j < l.length) (e : l[j].ents ≠ []) : obj (a :: b :: (tailU l ++ K)) (2 + j) = some (7, l[j].ents.map Entry.row) := by
  refine ob_of ?_ (by decide)
  rw [show 2 + j = j + 1 + 1 by omega, List.getElem?_cons_succ, List.getElem?_cons_succ, List.getElem?_append_left (by rw [tailU_len]; exact h)]
  simp [tailU, h, oT, e]
theorem tb_get0' (t : Tb) {k : Nat} (hk : k < 8) : t.row[k * 2]? = some (.v (.bool (t.l[k]'(by rw [t.h]; exact hk)).huge)) := by
  have := fl_get (nd_rows t.l) (k := k) (j := 0) (by rw [List.length_map, t.h]; exact hk) (by omega)
  simpa [Tb.row, Nd.row] using this
theorem tsplit_own : InlOk Try.prog 34 (own0 (argG (cAgg rTb) fun t => argG (cInt .i64) fun k => finG (some (tbU (tbX (tbSplit t k)))))) := by
  refine ownE_2 Try.func34 rfl ?_
  rintro t k r H' hr
  simp only [Option.some.injEq, Prod.mk.injEq] at hr
  obtain ⟨rfl, rfl⟩ := hr
  refine bodyE_of (((noOrc_ok.withP tbCheck_pure).withI ownU_inl).withIF split_inl frame0_loc) fxMix (by kernel_rfl) (by simp [Try.ntmps34]) ?_
  intro C cP cI cN cD cF cA cR cL
  have cp0 := orcP tbCheck_pure (C := C) (by rw [cP]; rfl)
  have cn0 := orcI ownU_inl (C := C) (by rw [cN]; rfl)
  have cn1 := orcI split_inl (C := C) (by rw [cN]; rfl)
  replace cI := fun g => congrFun cI g
  simp only [Orc.withP, Orc.withI, Orc.withF, Orc.withD, Orc.withA, Orc.withR, Orc.withC, noOrc] at cI
  replace cR : C.rd = fun _ => none := cR
  replace cD : C.dyn = fun _ => [] := cD
  clear cP cN cF cA
  unfold tbSplit
  have hl8 := t.h
  by_cases hck : tbCheck t = 0
  case neg =>
    simp [Try.ntmps34, Try.results34, cSl, cp0, cn0, cn1, cI, cD, cR, rTb, hck, tbX]
    exact tb_err
  by_cases h1 : k < 0
  · simp [Try.ntmps34, Try.results34, cSl, cp0, cn0, cn1, cI, cD, cR, rTb, hck, h1, tbX]
    exact tb_err
  by_cases h2 : 8 ≤ k
  · simp [Try.ntmps34, Try.results34, cSl, cp0, cn0, cn1, cI, cD, cR, rTb, hck, h1, h2, tbX]
    exact tb_err
  obtain ⟨k, rfl⟩ := Int.eq_ofNat_of_zero_le (show 0 ≤ k by omega)
  have hk8 : k < 8 := by omega
  have hk8' : (k : Int) < 8 := by omega
  have hkl : k < t.l.length := by rw [t.h]; exact hk8
  have hle : k * 2 + 2 ≤ 16 := by omega
  have hle1 : k * 2 + 1 ≤ 16 := by omega
  have hg0 := tb_get0' t hk8
  have hall8 : (∀ n, n ∈ t.l → n.ents.length ≤ 8) = True := eq_true fun n hn => shape8 (nodes_ok.1 hck n hn)
  have hsh := hugeNo (nodes_ok.1 hck _ (List.getElem_mem hkl))
  rw [Int.toNat_natCast, List.getElem?_eq_getElem hkl, Option.getD_some]
  by_cases hh : (t.l[k]).huge = true
  case neg =>
    simp [Try.ntmps34, Try.results34, cSl, cp0, cn0, cn1, cI, cD, cR, rTb, hck, h2, hk8', hg0, hle1, hh, tbX]
    exact tb_err
  have htk := rowsU_at (g := fun i => 2 + i) hkl
  have hv : ∀ a b, cold (view (a :: b :: tailU t.l) 4 (.agg (nodeU (2 + k) t.l[k]))) = .agg [.v (.bool (t.l[k]).huge), if (t.l[k]).ents = [] then .esl else .fsl false 7 ((t.l[k]).ents.map Entry.row)] := fun a b => vwN fun e => by
    have := tail_obj2 (a := a) (b := b) (K := []) hkl e
    rwa [List.append_nil] at this
  have hsp := spE_len t.l[k] 8
  have hwr : ∀ g, writeAt t.row 0 (fl (rowsU g t.l)) = fl (rowsU g t.l) := fun g => rowsU_write hl8 (tb_len t)
  have hsz : ∀ a b, writeAt zTb 0 (fl ((rowsU (fun i => 2 + i) t.l).set k [a, b])) = fl ((rowsU (fun i => 2 + i) t.l).set k [a, b]) := fun a b => setU_all rfl
  simp only [zTb] at hsz
  have hnd := ndDecU (n := t.l[k])
  simp only [hh] at hnd hv
  have hk0 : ¬ (k : Int) < 0 := by omega
  simp [Try.ntmps34, Try.results34, cSl, cp0, cn0, cn1, cI, cD, cR, hk0, -view, -cold, vwV, vwTb, rTb, rEnt, Entry.row, entDec, hck, h2, hg0, hle1, hh, hall8, htk, hle, hk8', hsh, rNd, hnd, hv, hwr, hsp, rowsU_allV (show 0 < t.l.length by omega), rowsU_one, rowsU_len16 hl8, rowsU_take hl8, hl8, nodeU_allV, setU_write hk8, setU_len, setU_take, setU_allV, setU_one (show oneA (.v (.bool false)) = true from rfl) (show oneA (.osl 12 7 0 8 8) = true from rfl), hsz]
  refine tb_fin (n := ⟨false, sp8 t.l[k]⟩) (P := 12) hk8 (by simp only [oA, hsp]; exact @Lss.refl _) (fun j h e => tail_obj2 h e) (fun a b _ _ h => by omega) (fun e => ⟨?_, fun j hj => by omega⟩)
  refine ob_of ?_ (by decide)
  rw [show (12 : Nat) = 10 + 1 + 1 by rfl, List.getElem?_cons_succ, List.getElem?_cons_succ, List.getElem?_append_right (by rw [tailU_len]; omega), tailU_len, hl8]
  rfl
theorem tsplit_inl : InlOk Try.prog 34 (frame0 (own0 (argG (cAgg rTb) fun t => argG (cInt .i64) fun k => finG (some (tbU (tbX (tbSplit t k))))))) := frame0_ok tsplit_own
/-- Join -/
def subE (e : Entry) (k : Int) : Entry := { e with at_ := IntKind.i64.wrap (e.at_ - k) }
def joins (n : Nd) (k : Nat) : Bool := decide (subE (atN n k) k = atN n 0) && hugeE (atN n 0)
def tbJoin (t : Tb) (k : Int) : Except Int Tb :=
  if tbCheck t = 0 then (if k < 0 ∨ 8 ≤ k then .error 1 else if (List.range 8).all (joins (t.l[k.toNat]?.getD noNd)) = true then .ok (t.set k.toNat ⟨true, [atN (t.l[k.toNat]?.getD noNd) 0]⟩) else .error 8) else .error (tbCheck t)
theorem ent_eq (a b : Entry) : a = b ↔ (a.here = b.here ∧ a.slot = b.slot ∧ a.at_ = b.at_ ∧ a.rights = b.rights ∧ a.used = b.used ∧ a.dirty = b.dirty ∧ a.copy = b.copy) := by cases a; cases b; simp
theorem tjoin_own : InlOk Try.prog 33 (own0 (argG (cAgg rTb) fun t => argG (cInt .i64) fun k => finG (some (tbU (tbX (tbJoin t k)))))) := by
  refine ownE_2 Try.func33 rfl ?_
  rintro t k r H' hr
  simp only [Option.some.injEq, Prod.mk.injEq] at hr
  obtain ⟨rfl, rfl⟩ := hr
  refine bodyE_of ((((noOrc_ok.withP tbCheck_pure).withI ownU_inl).withP at_pure).withP huge_pure) fxMix (by kernel_rfl) (by simp [Try.ntmps33]) ?_
  intro C cP cI cN cD cF cA cR cL
  have cp0 := orcP tbCheck_pure (C := C) (by rw [cP]; rfl)
  have cp1 := orcP at_pure (C := C) (by rw [cP]; rfl)
  have cp2 := orcP huge_pure (C := C) (by rw [cP]; rfl)
  have cn0 := orcI ownU_inl (C := C) (by rw [cN]; rfl)
  replace cI := fun g => congrFun cI g
  simp only [Orc.withP, Orc.withI, Orc.withF, Orc.withD, Orc.withA, Orc.withR, Orc.withC, noOrc] at cI
  replace cR : C.rd = fun _ => none := cR
  replace cD : C.dyn = fun _ => [] := cD
  clear cP cN cF cA
  unfold tbJoin
  have hl8 := t.h
  by_cases hck : tbCheck t = 0
  case neg =>
    simp [Try.ntmps33, Try.results33, cSl, cp0, cp1, cp2, cn0, cI, cD, cR, rTb, hck, tbX]
    exact tb_err
  by_cases h1 : k < 0
  · simp [Try.ntmps33, Try.results33, cSl, cp0, cp1, cp2, cn0, cI, cD, cR, rTb, hck, h1, tbX]
    exact tb_err
  by_cases h2 : 8 ≤ k
  · simp [Try.ntmps33, Try.results33, cSl, cp0, cp1, cp2, cn0, cI, cD, cR, rTb, hck, h1, h2, tbX]
    exact tb_err
  obtain ⟨k, rfl⟩ := Int.eq_ofNat_of_zero_le (show 0 ≤ k by omega)
  have hk8 : k < 8 := by omega
  have hk8' : (k : Int) < 8 := by omega
  have hkl : k < t.l.length := by rw [t.h]; exact hk8
  have hle : k * 2 + 2 ≤ 16 := by omega
  have hall8 : (∀ n, n ∈ t.l → n.ents.length ≤ 8) = True := eq_true fun n hn => shape8 (nodes_ok.1 hck n hn)
  have hsh := hugeNo (nodes_ok.1 hck _ (List.getElem_mem hkl))
  have htk := tb_take t hk8
  rw [Int.toNat_natCast, List.getElem?_eq_getElem hkl, Option.getD_some]
  generalize hn : t.l[k] = n at *
  obtain ⟨h, L⟩ := n
  have hk0 : ¬ (k : Int) < 0 := by omega
  simp [Try.ntmps33, Try.results33, cSl, cp0, cp1, cp2, cn0, cI, cD, cR, rTb, rEnt, hck, hk0, h2, hk8', hall8, htk, hle, hsh, Nd.row, rNd, ndDec, Entry.val]
  refine loop_forE 8 (fun i (a : Heap) => ([(1, .v (.int .i64 k)), (2, .ptr 0 16 0 0), (4, .ptr 1 16 0 0), (7, .ptr 2 7 0 0), (29, .v (.int .i64 i))], [some (16, [t.row]), some (16, [[.v (.bool false), .v (.slice none 0 0), .v (.bool false), .v (.slice none 0 0), .v (.bool false), .v (.slice none 0 0), .v (.bool false), .v (.slice none 0 0), .v (.bool false), .v (.slice none 0 0), .v (.bool false), .v (.slice none 0 0), .v (.bool false), .v (.slice none 0 0), .v (.bool false), .v (.slice none 0 0)]]), some (7, [(atN ⟨h, L⟩ 0).row])])) (fun i _ => ∀ j, j < i → joins ⟨h, L⟩ j = true) [] (by intros; omega) (by intros; omega) (Ent.env (by simp [Entry.row])) ?_ ?_
  · rintro i _ hi hall hw
    have hi' : (i : Int) < 8 := by omega
    have heq := ent_eq (subE (atN ⟨h, L⟩ i) i) (atN ⟨h, L⟩ 0)
    by_cases hj : joins ⟨h, L⟩ i = true
    · have hj2 := hj
      simp only [joins, Bool.and_eq_true, decide_eq_true_eq] at hj2
      have h3 := heq.1 hj2.1
      simp only [subE] at h3
      simp [Try.ntmps33, Try.results33, cSl, cp0, cp1, cp2, cn0, cI, cD, cR, hi, hi', hw, rTb, rEnt, hk0, hk8', htk, hle, hsh, Nd.row, rNd, ndDec, Entry.val, Entry.row, entDec, h3, hj2.2]
      refine ⟨[], fun j hlt => ?_, Ent.weak (by simp)⟩
      rcases Nat.lt_or_eq_of_le (Nat.le_of_lt_succ hlt) with h | h
      · exact hall j h
      · subst h; exact hj
    · have hno : ¬ ∀ x, x < 8 → joins ⟨h, L⟩ x = true := fun h => hj (h i hi)
      by_cases hs : subE (atN ⟨h, L⟩ i) i = atN ⟨h, L⟩ 0
      · have hh : hugeE (atN ⟨h, L⟩ 0) = false := by
          simp only [joins, hs, decide_true, Bool.true_and] at hj
          simpa using hj
        have h3 := heq.1 hs
        simp only [subE] at h3
        simp [Try.ntmps33, Try.results33, cSl, cp0, cp1, cp2, cn0, cI, cD, cR, hi, hi', hw, rTb, rEnt, hk0, hk8', htk, hle, hsh, Nd.row, rNd, ndDec, Entry.val, Entry.row, entDec, h3, hh, hno, tbX]
        exact tb_err
      · have h3 : ¬ _ := fun h => hs (heq.2 h)
        simp only [subE] at h3
        simp [Try.ntmps33, Try.results33, cSl, cp0, cp1, cp2, cn0, cI, cD, cR, hi, hi', hw, rTb, rEnt, hk0, hk8', htk, hle, hsh, Nd.row, rNd, ndDec, Entry.val, Entry.row, entDec, hno, tbX]
        split
        · exact tb_err
        · rename_i hneg
          exfalso
          refine hs (heq.2 ?_)
          simp only [not_or, Classical.not_not] at hneg
          exact hneg.1
  · rintro _ hall
    have hyes : (∀ x, x < 8 → joins ⟨h, L⟩ x = true) = True := eq_true hall
    have hwr : ∀ g, writeAt t.row 0 (fl (rowsU g t.l)) = fl (rowsU g t.l) := fun g => rowsU_write hl8 (tb_len t)
    have hsz : ∀ a b, writeAt zTb 0 (fl ((rowsU (fun i => 3 + i) t.l).set k [a, b])) = fl ((rowsU (fun i => 3 + i) t.l).set k [a, b]) := fun a b => setU_all rfl
    simp only [zTb] at hsz
    simp [Try.ntmps33, Try.results33, cSl, cp0, cp1, cp2, cn0, cI, cD, cR, -view, -cold, vwV, vwTb, rTb, rEnt, hk0, hk8', hall8, hle, hyes, Entry.row, hwr, rowsU_allV (show 0 < t.l.length by omega), rowsU_one, rowsU_len16 hl8, rowsU_take hl8, hl8, nodeU_allV, setU_write hk8, setU_len, setU_take, setU_allV, setU_one (show oneA (.v (.bool true)) = true from rfl) (show oneA (.osl 11 7 0 1 1) = true from rfl), hsz, tbX]
    refine tb_fin (n := ⟨true, [atN ⟨h, L⟩ 0]⟩) (P := 11) hk8 (by simp only [oA]; exact @Lss.refl _) (fun j h e => tail_obj h e) (fun a b _ _ h => by omega) (fun e => ⟨?_, fun j hj => by omega⟩)
    refine ob_of ?_ (by decide)
    rw [show (11 : Nat) = 8 + 1 + 1 + 1 by rfl, List.getElem?_cons_succ, List.getElem?_cons_succ, List.getElem?_cons_succ, List.getElem?_append_right (by rw [tailU_len]; omega), tailU_len, hl8]
    rfl
theorem tjoin_inl : InlOk Try.prog 33 (frame0 (own0 (argG (cAgg rTb) fun t => argG (cInt .i64) fun k => finG (some (tbU (tbX (tbJoin t k))))))) := frame0_ok tjoin_own
end
end
end Go.Proofs.Ytebpjfdbjhodiaa
