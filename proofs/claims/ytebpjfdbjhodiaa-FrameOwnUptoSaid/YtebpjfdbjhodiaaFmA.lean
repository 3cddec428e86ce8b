/- Own results in one form, whatever came out. Package frame: Check, at, with, Take, Hold, Let; ringkeep2.frames; results one's own. Rooms that are halved, as lists. No program in sight. Package twin: Check, New, Most; which frames are free. Package twin: buddies, Check, New, Most, apart. Package twin: New, Most, apart. Package twin: slices.Replace. Package twin: Take, its result one's own. Package twin: Give, its result one's own. -/
import Derived.Test.YtebpjfdbjhodiaaFaF
import Derived.Test.YtebpjfdbjhodiaaAiZf
import Derived.Test.YtebpjfdbjhodiaaAiZe
import Derived.Test.YtebpjfdbjhodiaaAiZb
namespace Go.Proofs.Ytebpjfdbjhodiaa
open Go.AI
set_option linter.unusedSimpArgs false
set_option linter.unusedVariables false
section
set_option maxHeartbeats 2000000
set_option maxRecDepth 100000
set_option linter.unusedSimpArgs false
set_option linter.unusedVariables false
attribute [local simp] wpA wpX RunA RunD runF foot footP footB idsA bare apart runL step1 gsel_f gsel_t gsel_s res_same res_and1 res_and2 res_and3 res_and4 res_and5 res_and6 res_false res_true res_v res_ptr res_fptr res_osl res_xsl soft aAppendZ aCap ovlI ovlJ res_fsl res_esl res_agg res_tup res_fn res_junk res_anyb aPick hk imp_left iteV dstOk guardOk astep astepE AI.ev AI.look AI.put envOf aBox cellsOf allOne allOneA oneA Value.oneCell' Value.cells newObj' aFieldAddr aLoad obj readAt thenA blockA condA retA resA tupA view hot hotC hotR depthV cAgg cInt cBool mkAgg allV aAlloc aBuild fillA writeAt aStore isAggA aField idx aIndexAddr aIndex bnd aSlice aExtract aLen aBuiltin aCall isStatic eqAgg eqTy eqC ev_add ev_sub ev_mul ev_quo ev_rem ev_and ev_or ev_xor ev_andNot ev_shl ev_shr ev_eql ev_neq ev_lss ev_leq ev_gtr ev_geq ev_agg w64 wu32 wu8 ev_not ev_neg Cod.plain RCod.plain argM finM cold coldC coldR goInt intDec boolDec aggDec Weaker heapW lowA lowC Again slDec undef aBuildSlice setRows aAppend rowsOf aMakeSlice aClear aCopy softer_self softer_nil valsOf ev_min2 ev_max2 hotR_set hotR_append take_map_set irow_cold irow_mapM irow_mapMc irow_view irow_viewc irow_hotR irow_ren irow_renc irow_low WeakT heapT thOf ren renC AgainT NextF NextT fnDec cFn rNil selfLt natLt0 natLt1 getLastMap frame0 frame1 own0 own1 argG finG tau tauI tauO tauC bareA bareC bareH irow_tau irow_tauc irow_bare irow_flat irow_bareR ownA_nil ownT_nil ownA_c ownT_c ownA_s ownT_s takeMapLen footC plainA noId noIdC cloneF frame0F frame1F insertF replaceI replaceF cellDec rCell fpDec cFp rTwo deleteF allV_oA oneA_oA res_oA RunR RunE runFT footAt hotR_cat tmodN aEqH aSliceA frameN newA newC newH fxSz3 fxBy3 fxAg3 fxZe3 fxSl3 fxSz96 fxAg96 fxZe96 fxSl96 fxAr96 fxSz97 fxAg97 fxZe97 fxSl97 fxAr97 fxSz99 fxAg99 fxZe99 fxFi99x0 fxFi99x1 fxPl99 fxSz100 fxAg100 fxSl100 fxAr100 fxSz102 fxAg102 fxZe102 fxFi102x0 fxFi102x1 fxPl102 fxSz104 fxAg104 fxZe104 fxFi104x0 fxFi104x1 fxPl104 fxSz107 fxBy107 fxAg107 fxZe107 fxFi107x0 fxFi107x1 fxFi107x2 fxPl107 fxSz110 fxBy110 fxAg110 fxZe110 fxFi110x0 fxFi110x1 fxPl110 fxSz111 fxAg111 fxZe111 fxSl111 fxAr111 fxSz112 fxBy112 fxAg112 fxZe112 fxSl112 fxAr112 fxSz114 fxBy114 fxAg114 fxZe114 fxFi114x0 fxFi114x1 fxPl114 fxZe131 fxAr131 fxPl131 fxZe132 fxAr132 fxPl132 fxZe133 fxAr133 fxPl133 fxEq107 fxEq110 fxNe96 fxOe96 fxXe96 fxLn97 fxNe97 fxOe97 fxXe97 fxNe100 fxOe100 fxXe100 fxNe112 fxOe112 fxXe112 fxFm41 fxFi41 fxFm42 fxFi42 fxFm43 fxFi43 fxFm44 fxFm45 fxFm46 fxFi46 fxFi47 fxFj47 fxFm48 fxFi48 fxFm49 fxFi49 fxFm50 fxFi50 fxFm51 fxFm52 fxFm53 fxFm54 fxFm55 fxFm56 fxFm113 fxFi113 fxFm114 fxFi114 fxFm115 fxFi115 fxFm116 fxFi116 fxFm117 fxFi117 fxFm118 fxFm119 fxFi119 fxFm120 fxFi120 fxFm121 fxFi121 fxFm122 fxFi122 fxFm123 fxFm124 fxFm125 fxFi125 fxFm126 fxFm127 fxFi127 fxFm128 fxFi128 fxFm129 fxFm130 fxFi130 fxFm131 fxFi131 fxFm132 fxFm133 fxFi133 fxFm134 fxFm135 fxFm172 fxFi172 fxFm173 fxFm176 fxFi176 fxFm177 fxFi177 fxFm178 fxFi178 fxFm179 fxFm180 fxFm182 fxFi182 fxFm183
section
section
variable {base : Nat} {w0 : World} {β : Nat → Nat} {fz : Nat → Prop} {H : Heap} {w : World} {P : Program}
theorem HSim.none_app (hs : HSim base w0 β fz H w) : HSim base w0 β fz (H ++ [none]) w := by
  have hlt : ∀ {id : Nat} {o : Nat × List Row}, (H ++ [none])[id]? = some (some o) → H[id]? = some (some o) := by
    intro id o h
    by_cases e : id < H.length
    · rwa [List.getElem?_append_left e] at h
    · rw [List.getElem?_append_right (by omega)] at h
      cases hk : id - H.length with
      | zero => rw [hk] at h; cases h
      | succ k => rw [hk] at h; simp at h
  have hl : ∀ {id : Nat}, Live (H ++ [none]) id → Live H id := fun ⟨o, h⟩ => ⟨o, hlt h⟩
  refine ⟨fun id sz rows h => ?_, fun id id' h1 h2 => hs.inj id id' (hl h1) (hl h2), fun id h => hs.own id (hl h), hs.fzlt, hs.below, hs.base⟩
  exact (hs.objs' id sz rows (hlt h)).ext ⟨by simp, fun _ _ => rfl, fun _ h => h, fun _ _ => rfl, Shapes.refl _⟩ rfl
/-- a copy: an object comes, or an empty place -/
def cloneU (sz : Nat) (args : Row) (H : Heap) : Option (AVal × Heap) :=
  match cloneI sz args H with
  | some (.esl, H') => some (.esl, H' ++ [none])
  | x => x
theorem cloneU_ok {f : Nat} {sz : Nat} (h : InlOk P f (cloneI sz)) : InlOk P f (cloneU sz) := by
  intro args H r H' hr base w0 β fz w vals hs ha
  unfold cloneU at hr
  split at hr
  · rename_i H2 hc
    cases hr
    intro fn hf
    obtain ⟨g1, g2⟩ := h args H _ _ hc base w0 β fz w vals hs ha fn hf
    have key : ∀ e w', (∃ v β' fz', e = Ending.returned v ∧ HSim base w0 β' fz' H2 w' ∧ Ext H.length β fz w H2.length β' fz' w' ∧ R β' (okOf base fz') w' H2.length .esl v) →
        ∃ v β' fz', e = Ending.returned v ∧ HSim base w0 β' fz' (H2 ++ [none]) w' ∧ Ext H.length β fz w (H2 ++ [none]).length β' fz' w' ∧ R β' (okOf base fz') w' (H2 ++ [none]).length .esl v := by
      rintro e w' ⟨v, β', fz', e1, e2, e3, e4⟩
      have e5 : Ext H2.length β' fz' w' (H2 ++ [none]).length β' fz' w' := ⟨by simp, fun _ _ => rfl, fun _ h => h, fun _ _ => rfl, Shapes.refl _⟩
      exact ⟨v, β', fz', e1, HSim.none_app e2, e3.trans e5, e4.ext e5⟩
    exact ⟨fun hb => (g1 hb).mono key, fun hb => by obtain ⟨v, w', k1, k2⟩ := g2 hb; exact ⟨v, w', k1, key _ _ k2⟩⟩
  · exact h args H r H' hr base w0 β fz w vals hs ha
end
theorem cloneU_fsl {o : Bool} {sz : Nat} {rows : List Row} {H : Heap} (h0 : 0 < sz) (hl : rows.length ≤ 4294967296) : cloneU sz [.fsl o sz rows] H = some (oA H.length sz rows.length, H ++ [oT sz rows]) := by
  unfold cloneU
  by_cases h : rows = []
  · subst h; simp [cloneI, oA, oT]
  · have h2 : ¬ sz = 0 := by omega
    simp [cloneI, oA, oT, h, hl, newObj', h2]
theorem cloneU_loc {sz : Nat} : ∀ args ids, cloneF args = some ids → AI.Loc (cloneU sz args) ids true := by
  intro args ids h
  obtain ⟨Φ, hw, hF⟩ := clone_loc (sz := sz) args ids h
  refine ⟨fun f n => (Φ f n).map fun r => match r with | (.esl, u, l) => (.esl, u, l ++ [none]) | x => x, ⟨fun f g n h => by simp only [hw.same f g n h], fun f n r hr => ?_, fun h => by cases h⟩, fun H => ?_⟩
  · simp only [Option.map_eq_some_iff] at hr
    obtain ⟨⟨a, u, l⟩, h1, rfl⟩ := hr
    have := hw.keys f n _ h1
    refine ⟨?_, fun h => by cases h⟩
    split
    · rename_i e; cases e; exact this.1
    · exact this.1
  · unfold cloneU
    rw [hF H]
    cases hq : Φ (obj H) H.length with
    | none => simp only [hq, Option.map_none]
    | some r =>
      obtain ⟨a, u, l⟩ := r
      cases a <;> simp [hq]
section
variable {P : Program} {f : FuncId} {fn : Func} {code : Code}
theorem ownE_2 {α1 α2 : Type} {c1 : Cod α1} {c2 : Cod α2} (hf : P.funcs[f]? = some fn) (hb : fn.body = some code) {g : α1 → α2 → Option (AVal × Heap)} (h : ∀ e1 e2 r H', g e1 e2 = some (r, H') → BodyE P fn code [c1.enc e1, c2.enc e2] [] r H') : InlOk P f (own0 (argG c1 fun e1 => argG c2 fun e2 => finG (g e1 e2))) := by
  refine inl_canonE hf hb fun args H r H' hr => ?_
  cases H with
  | cons o H => simp [own0] at hr
  | nil =>
    simp only [own0] at hr
    obtain ⟨x1, e1, rest1, rfl, hd1, hr⟩ := argG_some hr
    obtain ⟨x2, e2, rest2, rfl, hd2, hr⟩ := argG_some hr
    obtain ⟨rfl, hr⟩ := finG_some hr
    exact ⟨_, (.cons c1 hd1 (.cons c2 hd2 .nil)), h e1 e2 r H' hr⟩
theorem ownE_3 {α1 α2 α3 : Type} {c1 : Cod α1} {c2 : Cod α2} {c3 : Cod α3} (hf : P.funcs[f]? = some fn) (hb : fn.body = some code) {g : α1 → α2 → α3 → Option (AVal × Heap)} (h : ∀ e1 e2 e3 r H', g e1 e2 e3 = some (r, H') → BodyE P fn code [c1.enc e1, c2.enc e2, c3.enc e3] [] r H') : InlOk P f (own0 (argG c1 fun e1 => argG c2 fun e2 => argG c3 fun e3 => finG (g e1 e2 e3))) := by
  refine inl_canonE hf hb fun args H r H' hr => ?_
  cases H with
  | cons o H => simp [own0] at hr
  | nil =>
    simp only [own0] at hr
    obtain ⟨x1, e1, rest1, rfl, hd1, hr⟩ := argG_some hr
    obtain ⟨x2, e2, rest2, rfl, hd2, hr⟩ := argG_some hr
    obtain ⟨x3, e3, rest3, rfl, hd3, hr⟩ := argG_some hr
    obtain ⟨rfl, hr⟩ := finG_some hr
    exact ⟨_, (.cons c1 hd1 (.cons c2 hd2 (.cons c3 hd3 .nil))), h e1 e2 e3 r H' hr⟩
theorem ownE_4 {α1 α2 α3 α4 : Type} {c1 : Cod α1} {c2 : Cod α2} {c3 : Cod α3} {c4 : Cod α4} (hf : P.funcs[f]? = some fn) (hb : fn.body = some code) {g : α1 → α2 → α3 → α4 → Option (AVal × Heap)} (h : ∀ e1 e2 e3 e4 r H', g e1 e2 e3 e4 = some (r, H') → BodyE P fn code [c1.enc e1, c2.enc e2, c3.enc e3, c4.enc e4] [] r H') : InlOk P f (own0 (argG c1 fun e1 => argG c2 fun e2 => argG c3 fun e3 => argG c4 fun e4 => finG (g e1 e2 e3 e4))) := by
  refine inl_canonE hf hb fun args H r H' hr => ?_
  cases H with
  | cons o H => simp [own0] at hr
  | nil =>
    simp only [own0] at hr
    obtain ⟨x1, e1, rest1, rfl, hd1, hr⟩ := argG_some hr
    obtain ⟨x2, e2, rest2, rfl, hd2, hr⟩ := argG_some hr
    obtain ⟨x3, e3, rest3, rfl, hd3, hr⟩ := argG_some hr
    obtain ⟨x4, e4, rest4, rfl, hd4, hr⟩ := argG_some hr
    obtain ⟨rfl, hr⟩ := finG_some hr
    exact ⟨_, (.cons c1 hd1 (.cons c2 hd2 (.cons c3 hd3 (.cons c4 hd4 .nil)))), h e1 e2 e3 e4 r H' hr⟩
theorem ownE_5 {α1 α2 α3 α4 α5 : Type} {c1 : Cod α1} {c2 : Cod α2} {c3 : Cod α3} {c4 : Cod α4} {c5 : Cod α5} (hf : P.funcs[f]? = some fn) (hb : fn.body = some code) {g : α1 → α2 → α3 → α4 → α5 → Option (AVal × Heap)} (h : ∀ e1 e2 e3 e4 e5 r H', g e1 e2 e3 e4 e5 = some (r, H') → BodyE P fn code [c1.enc e1, c2.enc e2, c3.enc e3, c4.enc e4, c5.enc e5] [] r H') : InlOk P f (own0 (argG c1 fun e1 => argG c2 fun e2 => argG c3 fun e3 => argG c4 fun e4 => argG c5 fun e5 => finG (g e1 e2 e3 e4 e5))) := by
  refine inl_canonE hf hb fun args H r H' hr => ?_
  cases H with
  | cons o H => simp [own0] at hr
  | nil =>
    simp only [own0] at hr
    obtain ⟨x1, e1, rest1, rfl, hd1, hr⟩ := argG_some hr
    obtain ⟨x2, e2, rest2, rfl, hd2, hr⟩ := argG_some hr
    obtain ⟨x3, e3, rest3, rfl, hd3, hr⟩ := argG_some hr
    obtain ⟨x4, e4, rest4, rfl, hd4, hr⟩ := argG_some hr
    obtain ⟨x5, e5, rest5, rfl, hd5, hr⟩ := argG_some hr
    obtain ⟨rfl, hr⟩ := finG_some hr
    exact ⟨_, (.cons c1 hd1 (.cons c2 hd2 (.cons c3 hd3 (.cons c4 hd4 (.cons c5 hd5 .nil))))), h e1 e2 e3 e4 e5 r H' hr⟩
end
/-- a list of one's own, if all went well -/
def okL (ok : Bool) (id sz n : Nat) : AVal := if ok = true then .osl id sz 0 n n else .esl
def okO (ok : Bool) (sz : Nat) (rows : List Row) : Option (Nat × List Row) := if ok = true then some (sz, rows) else none
theorem okL_tau {ok : Bool} {m id sz n : Nat} : tau [] m (okL ok id sz n) = okL ok (m + id) sz n := by unfold okL; split <;> simp [tau, tauI]
theorem okL_bare {ok : Bool} {id sz n : Nat} : bareA (okL ok id sz n) = true := by unfold okL; split <;> rfl
theorem okL_allV {ok : Bool} {id sz n : Nat} {r : Row} : allV (okL ok id sz n :: r) = none := by unfold okL; split <;> rfl
theorem okL_one {ok : Bool} {id sz n : Nat} : oneA (okL ok id sz n) = true := by unfold okL; split <;> rfl
theorem okL_res {ok b : Bool} {id sz n : Nat} : res b (okL ok id sz n) = okL ok id sz n := by unfold okL; split <;> rfl
theorem okL_low {ok : Bool} {id sz n m : Nat} (h : id < m) : lowA m (okL ok id sz n) = true := by unfold okL; split <;> simp [lowA, h]
theorem okO_tau {ok : Bool} {m sz : Nat} {α : Type} {l : List α} {g : α → Row} (hg : ∀ e, List.map (tau [] m) (g e) = g e) : tauO [] m (okO ok sz (l.map g)) = okO ok sz (l.map g) := by
  unfold okO
  split
  · simp only [tauO, List.map_map]
    congr 2
    apply List.map_congr_left
    intro e _; exact hg e
  · rfl
theorem okO_bare {ok : Bool} {sz : Nat} {α : Type} {l : List α} {g : α → Row} {r : Heap} (hg : ∀ e, (g e).all bareA = true) : bareH (okO ok sz (l.map g) :: r) = bareH r := by
  unfold okO
  split
  · simp only [bareH]
    have : ((l.map g).all fun row => row.all bareA) = true := by
      rw [List.all_eq_true]; intro x hx
      obtain ⟨e, _, rfl⟩ := List.mem_map.1 hx
      exact hg e
    rw [this]; simp
  · rfl
theorem Lss.vals {vs : List Value} {rs : List AVal} (hl : rs.length = vs.length) (h : ∀ (j : Nat) (v : Value) (r : AVal), vs[j]? = some v → rs[j]? = some r → Lss (.v v) r) : Lss (.v (.tuple vs.toArray)) (.tup rs) ∧ Lss (.v (.agg vs.toArray)) (.agg rs) := by
  have key : ∀ {β : Nat → Nat} {ok : Bool → Nat → Prop} {w : World} {n : Nat}, (∀ o b, ok o b → ok false b) → ∀ (j : Nat) (a : AVal), rs[j]? = some a → R β ok w n a ((vs.toArray)[j]?.getD undef) := by
    intro β ok w n hok j a ha
    have hj : j < vs.length := by rw [← hl]; exact (List.getElem?_eq_some_iff.1 ha).1
    have hv : vs[j]? = some vs[j] := List.getElem?_eq_getElem hj
    have h' : Lss (.v vs[j]) a := h j vs[j] a hv ha
    have this : R β ok w n a vs[j] := h' hok .v
    simpa [hv] using this
  exact ⟨fun hok hr => by rw [hr.v_inv]; exact .tup (by simpa using hl) (key hok), fun hok hr => by rw [hr.v_inv]; exact .agg (by simpa using hl) (key hok)⟩
theorem Lss.nil_esl' : Lss (.v (.slice none 0 0)) .esl := fun _ h => by rw [h.v_inv]; exact .esl
theorem ent_err {r x : AVal} {H : Heap} (h : Lss x r) (hl : lowA 1 r = true) : Ent 0 ([(0, r)], [none]) ([(0, x)], H) := by
  refine Ent.trans (Ent.weak (s' := ([(0, r)], [none])) (s := ([(0, r), (0, x)], H)) ?_) (Ent.slotL (t := 0) (r := r) (by simp only [AI.look, if_true]; exact @h))
  refine ⟨Nat.zero_le _, fun p hp => ?_, ?_⟩
  · simp only [List.mem_singleton] at hp
    subst hp
    exact ⟨rfl, hl⟩
  · cases H with
    | nil => simp [heapW]
    | cons a H => simp [heapW]
end
section
structure Frm where
  st : Int
  ow : Int
  ct : Int
  deriving DecidableEq
def frmDec : Row → Option Frm
  | [.v (.int .i64 x0), .v (.int .i64 x1), .v (.int .i64 x2)] => some ⟨x0, x1, x2⟩
  | _ => none
def Frm.row (e : Frm) : Row := [.v (.int .i64 e.st), .v (.int .i64 e.ow), .v (.int .i64 e.ct)]
def rFrm : RCod Frm := RCod.plain 3 Frm.row frmDec
  (fun e => rfl) (fun _ => rfl) (fun r e h => by
    unfold frmDec at h
    split at h
    · simp at h; subst h; rfl
    · cases h)
def Frm.val (e : Frm) : Value := .agg #[.int .i64 e.st, .int .i64 e.ow, .int .i64 e.ct]
theorem Frm.eta (e : Frm) : Frm.mk e.st e.ow e.ct = e := rfl
attribute [local simp] Frm.eta
theorem Frm.cold (l : List Frm) : coldR (l.map Frm.row) = l.map Frm.row := by
  induction l with
  | nil => simp [coldR]
  | cons e l ih => simp [coldR, coldC, AI.cold, ih, Frm.row]
theorem Frm.mapM (l : List Frm) : (l.map Frm.row).mapM frmDec = some l := mapM_dec rFrm l
theorem Frm.mapMc (l : List Frm) : l.mapM (frmDec ∘ Frm.row) = some l := mapM_dec' rFrm l
theorem Frm.view (H : Heap) (n : Nat) (e : Frm) : List.map (AI.view H n) e.row = e.row := by cases n <;> simp [Frm.row, AI.view]
theorem Frm.viewc (H : Heap) (n : Nat) : List.map (AI.view H n) ∘ Frm.row = Frm.row := by funext e; exact Frm.view H n e
theorem Frm.hotR (l : List Frm) : AI.hotR (l.map Frm.row) = true := by
  induction l with
  | nil => simp [AI.hotR]
  | cons e l ih => simp [AI.hotR, hotC, hot, ih, Frm.row]
theorem Frm.ren (n : Nat) (th : List Nat) (e : Frm) : List.map (AI.ren n th) e.row = e.row := by simp [Frm.row, AI.ren]
theorem Frm.renc (n : Nat) (th : List Nat) : List.map (AI.ren n th) ∘ Frm.row = Frm.row := by funext e; exact Frm.ren n th e
theorem Frm.low (n : Nat) (e : Frm) : e.row.all (lowA n) = true := by simp [Frm.row, lowA]
theorem Frm.tau (fp : List Nat) (n : Nat) (e : Frm) : List.map (AI.tau fp n) e.row = e.row := by simp [Frm.row, AI.tau]
theorem Frm.tauc (fp : List Nat) (n : Nat) : List.map (AI.tau fp n) ∘ Frm.row = Frm.row := by funext e; exact Frm.tau fp n e
theorem Frm.bare (e : Frm) : e.row.all bareA = true := by simp [Frm.row, bareA]
theorem Frm.flat (l : List Frm) : flat0 (l.map Frm.row) = true := by simp [flat0, Frm.low]
theorem Frm.flat1 (e : Frm) : flat0 [e.row] = true := by simp [flat0, Frm.low]
theorem Frm.exact : Exact rFrm := by
  intro r e h
  simp only [rFrm, RCod.plain] at h ⊢
  unfold frmDec at h
  split at h
  · simp at h; subst h; rfl
  · cases h
theorem Frm.mapMt (k : Nat) (l : List Frm) : (List.take k (l.map Frm.row)).mapM frmDec = some (l.take k) := by rw [← List.map_take]; exact mapM_dec rFrm _
theorem Frm.mapMd (k : Nat) (l : List Frm) : (List.drop k (l.map Frm.row)).mapM frmDec = some (l.drop k) := by rw [← List.map_drop]; exact mapM_dec rFrm _
theorem Frm.coldt (k : Nat) (l : List Frm) : coldR (List.take k (l.map Frm.row)) = List.take k (l.map Frm.row) := by rw [← List.map_take]; exact Frm.cold _
theorem Frm.coldd (k : Nat) (l : List Frm) : coldR (List.drop k (l.map Frm.row)) = List.drop k (l.map Frm.row) := by rw [← List.map_drop]; exact Frm.cold _
theorem Frm.hotRt (k : Nat) (l : List Frm) : AI.hotR (List.take k (l.map Frm.row)) = true := by rw [← List.map_take]; exact Frm.hotR _
theorem Frm.hotRd (k : Nat) (l : List Frm) : AI.hotR (List.drop k (l.map Frm.row)) = true := by rw [← List.map_drop]; exact Frm.hotR _
attribute [local simp] Frm.hotRt Frm.hotRd
attribute [local simp] Frm.tau Frm.tauc Frm.bare Frm.flat Frm.flat1 Frm.mapMt Frm.mapMd Frm.coldt Frm.coldd
attribute [local simp] Frm.cold Frm.mapM Frm.mapMc Frm.view Frm.viewc Frm.hotR Frm.ren Frm.renc Frm.low
def Frm.bad (f : Frm) : Bool := decide (f.st < 0) || decide (3 < f.st) || decide (f.ow < 0) || decide (1048576 < f.ow) || decide (f.ct < 0) || decide (1048576 < f.ct)
def Frm.odd (f : Frm) : Bool := (decide (f.st = 0) && (!decide (f.ow = 0) || !decide (f.ct = 0))) || (!decide (f.st = 0) && decide (f.ct = 0)) || (decide (f.st = 1) && !decide (f.ct = 1))
def Frm.chk (f : Frm) : Int := if f.bad = true then 1 else if f.odd = true then 3 else 0
def frAll : List Frm → Int
  | [] => 0
  | f :: r => if f.chk = 0 then frAll r else f.chk
def frCheck (l : List Frm) : Int := if 64 < l.length then 2 else frAll l
theorem frCheck_pure : PureOk Try.prog 172 (argM (cSl rFrm) fun l => finM (some (.v (.int .i64 (frCheck l))))) := by
  refine pure1 Try.func172 rfl ?_
  rintro l r hr
  simp only [Option.some.injEq] at hr
  subst hr
  refine body_gen noOrc_ok fxMix (by kernel_rfl) (by simp [Try.ntmps172]) ?_
  intro C cP cI cN cD cF cA cR cL
  replace cI : C.inl = fun _ => false := cI
  replace cR : C.rd = fun _ => none := cR
  replace cD : C.dyn = fun _ => [] := cD
  clear cP cN cF cA
  unfold frCheck
  by_cases h1 : 64 < l.length
  · have h1' := eq_true (show (64 : Int) < l.length by omega)
    simp [Try.ntmps172, Try.results172, cSl, cI, cD, cR, rFrm, h1, h1']
    done
  have h1' : ¬ (64 : Int) < l.length := by omega
  simp [Try.ntmps172, Try.results172, cSl, cI, cD, cR, rFrm, h1, h1']
  refine loop_for l.length (fun k (_ : Unit) => ([(8, .fsl false 3 (l.map Frm.row)), (9, .v (.int .i64 l.length)), (10, .v (.int .i64 k))], [])) (fun k _ => frAll (l.drop k) = frAll l) () (by omega) (by simp) (by simp) ?_ ?_
  · intro k _ hk hall hw
    rw [List.drop_eq_getElem_cons hk] at hall
    simp only [frAll] at hall
    cases hb : (l[k]).bad with
    | true =>
      have hc : (l[k]).chk = 1 := by unfold Frm.chk; rw [if_pos hb]
      rw [hc] at hall
      simp only [show ¬ (1 : Int) = 0 by decide, if_false] at hall
      by_cases s0 : (l[k]).st < 0
      · simp [Try.ntmps172, Try.results172, cSl, cI, cD, cR, Frm.row, frmDec, rFrm, hk, hw, s0, ← hall]
        done
      by_cases s1 : 3 < (l[k]).st
      · simp [Try.ntmps172, Try.results172, cSl, cI, cD, cR, Frm.row, frmDec, rFrm, hk, hw, s0, s1, ← hall]
        done
      by_cases o0 : (l[k]).ow < 0
      · simp [Try.ntmps172, Try.results172, cSl, cI, cD, cR, Frm.row, frmDec, rFrm, hk, hw, s0, s1, o0, ← hall]
        done
      by_cases o1 : 1048576 < (l[k]).ow
      · simp [Try.ntmps172, Try.results172, cSl, cI, cD, cR, Frm.row, frmDec, rFrm, hk, hw, s0, s1, o0, o1, ← hall]
        done
      by_cases c0 : (l[k]).ct < 0
      · simp [Try.ntmps172, Try.results172, cSl, cI, cD, cR, Frm.row, frmDec, rFrm, hk, hw, s0, s1, o0, o1, c0, ← hall]
        done
      by_cases c1 : 1048576 < (l[k]).ct
      · simp [Try.ntmps172, Try.results172, cSl, cI, cD, cR, Frm.row, frmDec, rFrm, hk, hw, s0, s1, o0, o1, c0, c1, ← hall]
        done
      · simp [Frm.bad, s0, s1, o0, o1, c0, c1] at hb
    | false =>
      simp only [Frm.bad, Bool.or_eq_false_iff, decide_eq_false_iff_not] at hb
      obtain ⟨⟨⟨⟨⟨s0, s1⟩, o0⟩, o1⟩, c0⟩, c1⟩ := hb
      cases ho : (l[k]).odd with
      | true =>
        have hc : (l[k]).chk = 3 := by unfold Frm.chk; rw [if_neg (by simp [Frm.bad, s0, s1, o0, o1, c0, c1]), if_pos ho]
        rw [hc] at hall
        simp only [show ¬ (3 : Int) = 0 by decide, if_false] at hall
        by_cases z : (l[k]).st = 0
        · by_cases y : (l[k]).ow = 0
          · by_cases x : (l[k]).ct = 0
            · simp [Frm.odd, z, y, x] at ho
            · simp [Try.ntmps172, Try.results172, cSl, cI, cD, cR, Frm.row, frmDec, rFrm, hk, hw, s0, s1, o0, o1, c0, c1, z, y, x, ← hall]
              done
          · simp [Try.ntmps172, Try.results172, cSl, cI, cD, cR, Frm.row, frmDec, rFrm, hk, hw, s0, s1, o0, o1, c0, c1, z, y, ← hall]
            done
        · by_cases x : (l[k]).ct = 0
          · simp [Try.ntmps172, Try.results172, cSl, cI, cD, cR, Frm.row, frmDec, rFrm, hk, hw, s0, s1, o0, o1, c0, c1, z, x, ← hall]
            done
          · by_cases v : (l[k]).st = 1
            · by_cases w : (l[k]).ct = 1
              · simp [Frm.odd, z, x, v, w] at ho
              · simp [Try.ntmps172, Try.results172, cSl, cI, cD, cR, Frm.row, frmDec, rFrm, hk, hw, s0, s1, o0, o1, c0, c1, z, x, v, w, ← hall]
                done
            · simp [Frm.odd, z, x, v] at ho
      | false =>
        have hc : (l[k]).chk = 0 := by unfold Frm.chk; rw [if_neg (by simp [Frm.bad, s0, s1, o0, o1, c0, c1]), if_neg (by simp [ho])]
        rw [hc] at hall
        simp only [if_true] at hall
        by_cases z : (l[k]).st = 0
        · have y : (l[k]).ow = 0 := by simp [Frm.odd, z] at ho; exact ho.1
          have x : (l[k]).ct = 0 := by simp [Frm.odd, z] at ho; exact ho.2
          simp [Try.ntmps172, Try.results172, cSl, cI, cD, cR, Frm.row, frmDec, rFrm, hk, hw, s0, s1, o0, o1, c0, c1, z, y, x, ← hall]
          done
        · have x : ¬ (l[k]).ct = 0 := by intro x; simp [Frm.odd, z, x] at ho
          by_cases v : (l[k]).st = 1
          · have w : (l[k]).ct = 1 := by simp [Frm.odd, z, x, v] at ho; exact ho
            simp [Try.ntmps172, Try.results172, cSl, cI, cD, cR, Frm.row, frmDec, rFrm, hk, hw, s0, s1, o0, o1, c0, c1, z, x, v, w, ← hall]
            done
          · simp [Try.ntmps172, Try.results172, cSl, cI, cD, cR, Frm.row, frmDec, rFrm, hk, hw, s0, s1, o0, o1, c0, c1, z, x, v, ← hall]
            done
  · intro _ hall
    simp [frAll] at hall
    simp [Try.ntmps172, Try.results172, cSl, cI, cD, cR, ← hall]
    done
/-- frame.at -/
def frAt (l : List Frm) (n : Int) : Int := if frCheck l = 0 then (if n < 0 ∨ (l.length : Int) ≤ n then 4 else 0) else frCheck l
theorem frAt_pure : PureOk Try.prog 115 (argM (cSl rFrm) fun l => argM (cInt .i64) fun n => finM (some (.v (.int .i64 (frAt l n))))) := by
  refine pure2 Try.func115 rfl ?_
  rintro l n r hr
  simp only [Option.some.injEq] at hr
  subst hr
  refine body_gen (noOrc_ok.withP frCheck_pure) fxMix (by kernel_rfl) (by simp [Try.ntmps115]) ?_
  intro C cP cI cN cD cF cA cR cL
  have cp0 := orcP frCheck_pure (C := C) (by rw [cP]; rfl)
  replace cI : C.inl = fun _ => false := cI
  replace cR : C.rd = fun _ => none := cR
  replace cD : C.dyn = fun _ => [] := cD
  clear cP cN cF cA
  unfold frAt
  by_cases h1 : frCheck l = 0
  · by_cases h2 : n < 0
    · simp [Try.ntmps115, Try.results115, cSl, cp0, cI, cD, cR, rFrm, h1, h2]
    · by_cases h3 : (l.length : Int) ≤ n
      · simp [Try.ntmps115, Try.results115, cSl, cp0, cI, cD, cR, rFrm, h1, h2, h3]
      · simp [Try.ntmps115, Try.results115, cSl, cp0, cI, cD, cR, rFrm, h1, h2, h3]
  · simp [Try.ntmps115, Try.results115, cSl, cp0, cI, cD, cR, rFrm, h1]
theorem clFr : InlOk Try.prog 44 (cloneI 3) := by
  refine inl_soft Try.func44 rfl ?_
  intro args H r H' hr
  rcases cloneI_some hr with ⟨o, rows, rfl, hl, hc⟩ | ⟨id, st, k, kc, rows, rfl, hob, hle, hl, hc⟩ | ⟨rfl, rfl, rfl⟩
  · refine ⟨by simp [Try.ntmps44], wpA_sound noOrc_ok fxMix _ _ _ _ (by kernel_rfl) ?_⟩
    rcases hc with ⟨rfl, rfl, rfl⟩ | ⟨h0, rfl, rfl⟩
    · simp [Try.ntmps44, Try.results44, noOrc]
    · simp [Try.ntmps44, Try.results44, h0, hl, noOrc]
  · refine ⟨by simp [Try.ntmps44], wpA_sound noOrc_ok fxMix _ _ _ _ (by kernel_rfl) ?_⟩
    have hob' := obj_get hob
    have e1 : min k (rows.length - st) = k := by omega
    have e2 : st + k ≤ rows.length := hle
    have e3 : st ≤ rows.length := by omega
    rcases hc with ⟨rfl, rfl, rfl⟩ | ⟨h0, rfl, rfl⟩
    · simp [Try.ntmps44, Try.results44, noOrc, hob', e2, e3]
    · simp [Try.ntmps44, Try.results44, hl, noOrc, hob', e1, e2, h0]
  · refine ⟨by simp [Try.ntmps44], wpA_sound noOrc_ok fxMix _ _ _ _ (by kernel_rfl) ?_⟩
    simp [Try.ntmps44, Try.results44, noOrc]
theorem frWith_pure : PureOk Try.prog 116 (argM (cSl rFrm) fun l => argM (cInt .i64) fun n => argM (cAgg rFrm) fun f => finM (if (0 ≤ n ∧ n < l.length) ∧ l.length ≤ 64 then some (.fsl true 3 ((l.set n.toNat f).map Frm.row)) else none)) := by
  refine pure3 Try.func116 rfl ?_
  rintro l n f r hr
  by_cases hc : (0 ≤ n ∧ n < l.length) ∧ l.length ≤ 64
  case neg => rw [if_neg hc] at hr; cases hr
  rw [if_pos hc] at hr
  simp only [Option.some.injEq] at hr
  subst hr
  refine body_gen (noOrc_ok.withI clFr) fxMix (by kernel_rfl) (by simp [Try.ntmps116]) ?_
  intro C cP cI cN cD cF cA cR cL
  have cn0 := orcI clFr (C := C) (by rw [cN]; rfl)
  replace cI := fun g => congrFun cI g
  simp only [Orc.withP, Orc.withI, Orc.withF, Orc.withD, Orc.withA, Orc.withR, Orc.withC, noOrc] at cI
  replace cR : C.rd = fun _ => none := cR
  replace cD : C.dyn = fun _ => [] := cD
  clear cP cN cF cA
  obtain ⟨⟨h1, h2⟩, h3⟩ := hc
  obtain ⟨k, rfl⟩ := Int.eq_ofNat_of_zero_le h1
  have hk : k < l.length := by omega
  have hne : ¬ l = [] := by intro h; subst h; simp at hk
  have hl : l.length ≤ 4294967296 := by omega
  simp [Try.ntmps116, Try.results116, cSl, cn0, cI, cD, cR, rFrm, Frm.row, frmDec, cloneI, hne, hl, hk]
theorem frAll_len {l : List Frm} (h : frCheck l = 0) : l.length ≤ 64 := by
  unfold frCheck at h
  split at h
  · cases h
  · omega
theorem frAt_ok {l : List Frm} {n : Int} (h : frAt l n = 0) : frCheck l = 0 ∧ 0 ≤ n ∧ n < l.length ∧ l.length ≤ 64 := by
  unfold frAt at h
  split at h
  · rename_i h1
    split at h
    · cases h
    · exact ⟨h1, by omega, by omega, frAll_len h1⟩
  · rename_i h1; exact absurd h h1
def frGet (l : List Frm) (n : Int) : Frm := l[n.toNat]?.getD ⟨0, 0, 0⟩
def frE : Except Int (List Frm) → AVal
  | .ok l => .tup [.fsl true 3 (l.map Frm.row), .v (.int .i64 0)]
  | .error e => .v (.tuple #[.slice none 0 0, .int .i64 e])
def frTake (l : List Frm) (n st ow : Int) : Except Int (List Frm) :=
  if frAt l n = 0 then
    if ((st < 1 ∨ 3 < st) ∨ ow < 0) ∨ 1048576 < ow then .error 1
    else if (frGet l n).st ≠ 0 then .error 5
    else .ok (l.set n.toNat ⟨st, ow, 1⟩)
  else .error (frAt l n)
theorem frTake_pure : PureOk Try.prog 113 (argM (cSl rFrm) fun l => argM (cInt .i64) fun n => argM (cInt .i64) fun st => argM (cInt .i64) fun ow => finM (some (frE (frTake l n st ow)))) := by
  refine pure4 Try.func113 rfl ?_
  rintro l n st ow r hr
  simp only [Option.some.injEq] at hr
  subst hr
  refine body_gen ((noOrc_ok.withP frAt_pure).withP frWith_pure) fxMix (by kernel_rfl) (by simp [Try.ntmps113]) ?_
  intro C cP cI cN cD cF cA cR cL
  have cp0 := orcP frAt_pure (C := C) (by rw [cP]; rfl)
  have cp1 := orcP frWith_pure (C := C) (by rw [cP]; rfl)
  replace cI : C.inl = fun _ => false := cI
  replace cR : C.rd = fun _ => none := cR
  replace cD : C.dyn = fun _ => [] := cD
  clear cP cN cF cA
  unfold frTake
  by_cases h0 : frAt l n = 0
  · obtain ⟨h1, h2, h3, h4⟩ := frAt_ok h0
    have hc1 : ((0 ≤ n ∧ n < l.length) ∧ l.length ≤ 64) = True := eq_true ⟨⟨h2, h3⟩, h4⟩
    have h5 : n.toNat < l.length := by omega
    have hg : frGet l n = l[n.toNat] := by simp [frGet, h5]
    rw [hg]
    by_cases a : st < 1
    · simp [Try.ntmps113, Try.results113, cSl, cp0, cp1, cI, cD, cR, rFrm, frE, h0, a]
      done
    by_cases b : 3 < st
    · simp [Try.ntmps113, Try.results113, cSl, cp0, cp1, cI, cD, cR, rFrm, frE, h0, a, b]
      done
    by_cases c : ow < 0
    · simp [Try.ntmps113, Try.results113, cSl, cp0, cp1, cI, cD, cR, rFrm, frE, h0, a, b, c]
      done
    by_cases d : 1048576 < ow
    · simp [Try.ntmps113, Try.results113, cSl, cp0, cp1, cI, cD, cR, rFrm, frE, h0, a, b, c, d]
      done
    by_cases e : (l[n.toNat]).st = 0
    · simp [Try.ntmps113, Try.results113, cSl, cp0, cp1, cI, cD, cR, rFrm, Frm.row, frmDec, frE, h0, a, b, c, d, e, h2, h3, h4, h5, hc1]
      done
    · simp [Try.ntmps113, Try.results113, cSl, cp0, cp1, cI, cD, cR, rFrm, Frm.row, frmDec, frE, h0, a, b, c, d, e, h2, h3, h4, h5, hc1]
      done
  · simp [Try.ntmps113, Try.results113, cSl, cp0, cp1, cI, cD, cR, rFrm, frE, h0]
theorem frames_pure : PureOk Try.prog 41 ( finM (some (.v (.bool true)))) := by
  refine pure0 Try.func41 rfl ?_
  rintro  r hr
  simp only [Option.some.injEq] at hr
  subst hr
  refine body_gen (noOrc_ok.withP frTake_pure) fxMix (by kernel_rfl) (by simp [Try.ntmps41]) ?_
  intro C cP cI cN cD cF cA cR cL
  have cp0 := orcP frTake_pure (C := C) (by rw [cP]; rfl)
  replace cI : C.inl = fun _ => false := cI
  replace cR : C.rd = fun _ => none := cR
  replace cD : C.dyn = fun _ => [] := cD
  clear cP cN cF cA
  have h1 : frTake [⟨0, 0, 0⟩] 0 2 3 = .ok [⟨2, 3, 1⟩] := by rfl
  simp [Try.ntmps41, Try.results41, cSl, cp0, cI, cD, cR, rFrm, Frm.row, frmDec, h1, frE]
attribute [local simp] okL_tau okL_bare okL_allV okL_one okL_res
def frX : Except Int (List Frm) → Bool × List Frm × Int
  | .ok l => (true, l, 0)
  | .error e => (false, [], e)
def frU (q : Bool × List Frm × Int) : AVal × Heap := (.tup [okL q.1 0 3 q.2.1.length, .v (.int .i64 q.2.2)], [okO q.1 3 (q.2.1.map Frm.row)])
def ltU (b : Bool) (q : Bool × List Frm × Int) : AVal × Heap := (.tup [okL q.1 0 3 q.2.1.length, .v (.bool (q.1 && b)), .v (.int .i64 q.2.2)], [okO q.1 3 (q.2.1.map Frm.row)])
theorem fr_err {e : Int} : Lss (.v (.tuple #[.slice none 0 0, .int .i64 e])) (.tup [.esl, .v (.int .i64 e)]) :=
  (Lss.vals (vs := [.slice none 0 0, .int .i64 e]) rfl (fun j v r hv hr => by
    match j, hv, hr with
    | 0, hv, hr => simp at hv hr; subst hv hr; exact @Lss.nil_esl'
    | 1, hv, hr => simp at hv hr; subst hv hr; exact @Lss.refl _
    | j + 2, hv, hr => simp at hv)).1
theorem lt_err {b : Bool} {e : Int} : Lss (.v (.tuple #[.slice none 0 0, .bool b, .int .i64 e])) (.tup [.esl, .v (.bool b), .v (.int .i64 e)]) :=
  (Lss.vals (vs := [.slice none 0 0, .bool b, .int .i64 e]) rfl (fun j v r hv hr => by
    match j, hv, hr with
    | 0, hv, hr => simp at hv hr; subst hv hr; exact @Lss.nil_esl'
    | 1, hv, hr => simp at hv hr; subst hv hr; exact @Lss.refl _
    | 2, hv, hr => simp at hv hr; subst hv hr; exact @Lss.refl _
    | j + 3, hv, hr => simp at hv)).1
theorem frWith_own : InlOk Try.prog 116 (own0 (argG (cSl rFrm) fun l => argG (cInt .i64) fun n => argG (cAgg rFrm) fun f => finG (if (0 ≤ n ∧ n < l.length) ∧ l.length ≤ 64 then some ((.osl 0 3 0 l.length l.length, [some (3, (l.set n.toNat f).map Frm.row)])) else none))) := by
  refine ownE_3 Try.func116 rfl ?_
  rintro l n f r H' hr
  by_cases hc : (0 ≤ n ∧ n < l.length) ∧ l.length ≤ 64
  case neg => rw [if_neg hc] at hr; cases hr
  rw [if_pos hc] at hr
  simp only [Option.some.injEq, Prod.mk.injEq] at hr
  obtain ⟨rfl, rfl⟩ := hr
  refine bodyE_of (noOrc_ok.withIF clFr clone_loc) fxMix (by kernel_rfl) (by simp [Try.ntmps116]) ?_
  intro C cP cI cN cD cF cA cR cL
  have cn0 := orcI clFr (C := C) (by rw [cN]; rfl)
  replace cI := fun g => congrFun cI g
  simp only [Orc.withP, Orc.withI, Orc.withF, Orc.withD, Orc.withA, Orc.withR, Orc.withC, noOrc] at cI
  replace cR : C.rd = fun _ => none := cR
  replace cD : C.dyn = fun _ => [] := cD
  clear cP cN cF cA
  obtain ⟨⟨h1, h2⟩, h3⟩ := hc
  obtain ⟨k, rfl⟩ := Int.eq_ofNat_of_zero_le h1
  have hk : k < l.length := by omega
  have hne : ¬ l = [] := by intro h; subst h; simp at hk
  have hl : l.length ≤ 4294967296 := by omega
  obtain ⟨Y, hY⟩ : ∃ Y, l.set k f = Y := ⟨_, rfl⟩
  have hms : (l.map Frm.row).set k f.row = Y.map Frm.row := by rw [← hY, List.map_set]
  simp only [Frm.row] at hms
  simp [Try.ntmps116, Try.results116, cSl, cn0, cI, cD, cR, rFrm, Frm.row, frmDec, cloneI, hne, hl, hk, hms, hY]
  first
  | exact ent_err (@fr_err _) (by simp [lowA, lowC])
  | (refine Ent.weakT (th := [0]) ?_; simp []; done)
  | (refine Ent.weakT (th := [1]) ?_; simp []; done)
  | (refine Ent.weakT (th := [2]) ?_; simp []; done)
  | (refine Ent.weakT (th := [3]) ?_; simp []; done)
  | (refine Ent.weakT (th := [4]) ?_; simp []; done)
  | (refine Ent.weakT (th := [5]) ?_; simp []; done)
  | (refine Ent.weakT (th := [6]) ?_; simp []; done)
  | (refine Ent.weakT (th := [7]) ?_; simp []; done)
  | (refine Ent.weakT (th := [8]) ?_; simp []; done)
  | (refine Ent.weakT (th := [9]) ?_; simp []; done)
  | (refine Ent.weakT (th := [10]) ?_; simp []; done)
  | (refine Ent.weakT (th := [11]) ?_; simp []; done)
theorem frWith_inl : InlOk Try.prog 116 (frame0 (own0 (argG (cSl rFrm) fun l => argG (cInt .i64) fun n => argG (cAgg rFrm) fun f => finG (if (0 ≤ n ∧ n < l.length) ∧ l.length ≤ 64 then some ((.osl 0 3 0 l.length l.length, [some (3, (l.set n.toNat f).map Frm.row)])) else none)))) := frame0_ok frWith_own
/-- frame.Hold -/
def frHold (l : List Frm) (n : Int) : Except Int (List Frm) :=
  if frAt l n = 0 then
    if (frGet l n).st < 2 then .error 8
    else if (frGet l n).ct = 1048576 then .error 6
    else .ok (l.set n.toNat ⟨(frGet l n).st, (frGet l n).ow, (frGet l n).ct + 1⟩)
  else .error (frAt l n)

theorem frAll_get {l : List Frm} {f : Frm} (h : frAll l = 0) (hf : f ∈ l) : f.chk = 0 := by
  induction l with
  | nil => simp at hf
  | cons g l ih =>
    simp only [frAll] at h
    split at h
    · rename_i hg
      rcases List.mem_cons.1 hf with rfl | hf
      · exact hg
      · exact ih h hf
    · rename_i hg; exact absurd h hg
theorem chk_ok {f : Frm} (h : f.chk = 0) : 0 ≤ f.st ∧ f.st ≤ 3 ∧ 0 ≤ f.ow ∧ f.ow ≤ 1048576 ∧ 0 ≤ f.ct ∧ f.ct ≤ 1048576 ∧ (f.st = 0 → f.ow = 0 ∧ f.ct = 0) ∧ (f.st ≠ 0 → f.ct ≠ 0) ∧ (f.st = 1 → f.ct = 1) := by
  unfold Frm.chk at h
  split at h
  · cases h
  · rename_i h1
    split at h
    · cases h
    · rename_i h2
      simp [Frm.bad] at h1
      simp [Frm.odd] at h2
      omega
theorem chk_of {f : Frm} (h : 0 ≤ f.st ∧ f.st ≤ 3 ∧ 0 ≤ f.ow ∧ f.ow ≤ 1048576 ∧ 0 ≤ f.ct ∧ f.ct ≤ 1048576 ∧ (f.st = 0 → f.ow = 0 ∧ f.ct = 0) ∧ (f.st ≠ 0 → f.ct ≠ 0) ∧ (f.st = 1 → f.ct = 1)) : f.chk = 0 := by
  unfold Frm.chk
  rw [if_neg (by simp [Frm.bad]; omega), if_neg (by simp [Frm.odd]; omega)]
theorem frGet_ok {l : List Frm} {n : Int} (h : frAt l n = 0) : (frGet l n).chk = 0 := by
  obtain ⟨h1, h2, h3, h4⟩ := frAt_ok h
  have h5 : n.toNat < l.length := by omega
  have : frGet l n = l[n.toNat] := by simp [frGet, h5]
  rw [this]
  unfold frCheck at h1
  rw [if_neg (by omega)] at h1
  exact frAll_get h1 (List.getElem_mem h5)

theorem frHold_own : InlOk Try.prog 51 (own0 (argG (cSl rFrm) fun l => argG (cInt .i64) fun n => finG (some (frU (frX (frHold l n)))))) := by
  refine ownE_2 Try.func51 rfl ?_
  rintro l n r H' hr
  simp only [Option.some.injEq, Prod.mk.injEq] at hr
  obtain ⟨rfl, rfl⟩ := hr
  refine bodyE_of ((noOrc_ok.withP frAt_pure).withI frWith_inl) fxMix (by kernel_rfl) (by simp [Try.ntmps51]) ?_
  intro C cP cI cN cD cF cA cR cL
  have cp0 := orcP frAt_pure (C := C) (by rw [cP]; rfl)
  have cn0 := orcI frWith_inl (C := C) (by rw [cN]; rfl)
  replace cI := fun g => congrFun cI g
  simp only [Orc.withP, Orc.withI, Orc.withF, Orc.withD, Orc.withA, Orc.withR, Orc.withC, noOrc] at cI
  replace cR : C.rd = fun _ => none := cR
  replace cD : C.dyn = fun _ => [] := cD
  clear cP cN cF cA
  unfold frHold
  by_cases h0 : frAt l n = 0
  · obtain ⟨h1, h2, h3, h4⟩ := frAt_ok h0
    have hc1 : ((0 ≤ n ∧ n < l.length) ∧ l.length ≤ 64) = True := eq_true ⟨⟨h2, h3⟩, h4⟩
    have h5 : n.toNat < l.length := by omega
    have hg : frGet l n = l[n.toNat] := by simp [frGet, h5]
    have h7 := chk_ok (frGet_ok h0)
    rw [hg] at h7 ⊢
    have h8 : IntKind.i64.wrap (l[n.toNat].ct + 1) = l[n.toNat].ct + 1 := w64 (by omega) (by omega)
    by_cases a : (l[n.toNat]).st < 2
    · simp [Try.ntmps51, Try.results51, cSl, cp0, cn0, cI, cD, cR, rFrm, Frm.row, frmDec, frX, frU, okL, okO, h0, h2, h3, h4, h5, hc1, a]
      first
      | exact ent_err (@fr_err _) (by simp [lowA, lowC])
      | (refine Ent.weakT (th := [0]) ?_; simp []; done)
      | (refine Ent.weakT (th := [1]) ?_; simp []; done)
      | (refine Ent.weakT (th := [2]) ?_; simp []; done)
      | (refine Ent.weakT (th := [3]) ?_; simp []; done)
      | (refine Ent.weakT (th := [4]) ?_; simp []; done)
      | (refine Ent.weakT (th := [5]) ?_; simp []; done)
      | (refine Ent.weakT (th := [6]) ?_; simp []; done)
      | (refine Ent.weakT (th := [7]) ?_; simp []; done)
      | (refine Ent.weakT (th := [8]) ?_; simp []; done)
      | (refine Ent.weakT (th := [9]) ?_; simp []; done)
      | (refine Ent.weakT (th := [10]) ?_; simp []; done)
      | (refine Ent.weakT (th := [11]) ?_; simp []; done)
    by_cases b : (l[n.toNat]).ct = 1048576
    · simp [Try.ntmps51, Try.results51, cSl, cp0, cn0, cI, cD, cR, rFrm, Frm.row, frmDec, frX, frU, okL, okO, h0, h2, h3, h4, h5, hc1, a, b]
      first
      | exact ent_err (@fr_err _) (by simp [lowA, lowC])
      | (refine Ent.weakT (th := [0]) ?_; simp []; done)
      | (refine Ent.weakT (th := [1]) ?_; simp []; done)
      | (refine Ent.weakT (th := [2]) ?_; simp []; done)
      | (refine Ent.weakT (th := [3]) ?_; simp []; done)
      | (refine Ent.weakT (th := [4]) ?_; simp []; done)
      | (refine Ent.weakT (th := [5]) ?_; simp []; done)
      | (refine Ent.weakT (th := [6]) ?_; simp []; done)
      | (refine Ent.weakT (th := [7]) ?_; simp []; done)
      | (refine Ent.weakT (th := [8]) ?_; simp []; done)
      | (refine Ent.weakT (th := [9]) ?_; simp []; done)
      | (refine Ent.weakT (th := [10]) ?_; simp []; done)
      | (refine Ent.weakT (th := [11]) ?_; simp []; done)
    · simp [Try.ntmps51, Try.results51, cSl, cp0, cn0, cI, cD, cR, rFrm, Frm.row, frmDec, frX, frU, okL, okO, h0, h2, h3, h4, h5, hc1, a, b, h8, -List.map_set]
      first
      | exact ent_err (@fr_err _) (by simp [lowA, lowC])
      | (refine Ent.weakT (th := [0]) ?_; simp [-List.map_set, Frm.row, lowA]; done)
      | (refine Ent.weakT (th := [1]) ?_; simp [-List.map_set, Frm.row, lowA]; done)
      | (refine Ent.weakT (th := [2]) ?_; simp [-List.map_set, Frm.row, lowA]; done)
      | (refine Ent.weakT (th := [3]) ?_; simp [-List.map_set, Frm.row, lowA]; done)
      | (refine Ent.weakT (th := [4]) ?_; simp [-List.map_set, Frm.row, lowA]; done)
      | (refine Ent.weakT (th := [5]) ?_; simp [-List.map_set, Frm.row, lowA]; done)
      | (refine Ent.weakT (th := [6]) ?_; simp [-List.map_set, Frm.row, lowA]; done)
      | (refine Ent.weakT (th := [7]) ?_; simp [-List.map_set, Frm.row, lowA]; done)
      | (refine Ent.weakT (th := [8]) ?_; simp [-List.map_set, Frm.row, lowA]; done)
      | (refine Ent.weakT (th := [9]) ?_; simp [-List.map_set, Frm.row, lowA]; done)
      | (refine Ent.weakT (th := [10]) ?_; simp [-List.map_set, Frm.row, lowA]; done)
      | (refine Ent.weakT (th := [11]) ?_; simp [-List.map_set, Frm.row, lowA]; done)
  · simp [Try.ntmps51, Try.results51, cSl, cp0, cn0, cI, cD, cR, rFrm, frX, frU, okL, okO, h0]
    first
    | exact ent_err (@fr_err _) (by simp [lowA, lowC])
    | (refine Ent.weakT (th := [0]) ?_; simp []; done)
    | (refine Ent.weakT (th := [1]) ?_; simp []; done)
    | (refine Ent.weakT (th := [2]) ?_; simp []; done)
    | (refine Ent.weakT (th := [3]) ?_; simp []; done)
    | (refine Ent.weakT (th := [4]) ?_; simp []; done)
    | (refine Ent.weakT (th := [5]) ?_; simp []; done)
    | (refine Ent.weakT (th := [6]) ?_; simp []; done)
    | (refine Ent.weakT (th := [7]) ?_; simp []; done)
    | (refine Ent.weakT (th := [8]) ?_; simp []; done)
    | (refine Ent.weakT (th := [9]) ?_; simp []; done)
    | (refine Ent.weakT (th := [10]) ?_; simp []; done)
    | (refine Ent.weakT (th := [11]) ?_; simp []; done)
theorem frHold_inl : InlOk Try.prog 51 (frame0 (own0 (argG (cSl rFrm) fun l => argG (cInt .i64) fun n => finG (some (frU (frX (frHold l n))))))) := frame0_ok frHold_own
/-- frame.Let -/
def frLess (f : Frm) : Frm := if f.ct - 1 = 0 then ⟨0, 0, 0⟩ else ⟨f.st, f.ow, f.ct - 1⟩
def frLet (l : List Frm) (n : Int) : Except Int (List Frm) :=
  if frAt l n = 0 then
    if (frGet l n).st = 0 then .error 8
    else .ok (l.set n.toNat (frLess (frGet l n)))
  else .error (frAt l n)
theorem frLet_own : InlOk Try.prog 52 (own0 (argG (cSl rFrm) fun l => argG (cInt .i64) fun n => finG (some (ltU ((frGet l n).ct - 1 == 0) (frX (frLet l n)))))) := by
  refine ownE_2 Try.func52 rfl ?_
  rintro l n r H' hr
  simp only [Option.some.injEq, Prod.mk.injEq] at hr
  obtain ⟨rfl, rfl⟩ := hr
  refine bodyE_of (((noOrc_ok.withP frAt_pure).withIF frWith_inl frame0_loc).withD (fun i => if i = 10 then [(3,5)] else [])) fxMix (by kernel_rfl) (by simp [Try.ntmps52]) ?_
  intro C cP cI cN cD cF cA cR cL
  have cp0 := orcP frAt_pure (C := C) (by rw [cP]; rfl)
  have cn0 := orcI frWith_inl (C := C) (by rw [cN]; rfl)
  replace cI := fun g => congrFun cI g
  simp only [Orc.withP, Orc.withI, Orc.withF, Orc.withD, Orc.withA, Orc.withR, Orc.withC, noOrc] at cI
  replace cR : C.rd = fun _ => none := cR
  replace cD : C.dyn = fun i => if i = 10 then [(3,5)] else [] := cD
  replace cF := fun g => congrFun cF g
  simp only [Orc.withP, Orc.withI, Orc.withF, Orc.withD, Orc.withA, Orc.withR, Orc.withC, noOrc] at cF
  replace cA : C.alt = fun _ => [] := cA
  clear cP cN
  unfold frLet
  by_cases h0 : frAt l n = 0
  · obtain ⟨h1, h2, h3, h4⟩ := frAt_ok h0
    have hc1 : ((0 ≤ n ∧ n < l.length) ∧ l.length ≤ 64) = True := eq_true ⟨⟨h2, h3⟩, h4⟩
    have h5 : n.toNat < l.length := by omega
    have hg : frGet l n = l[n.toNat] := by simp [frGet, h5]
    have h7 := chk_ok (frGet_ok h0)
    rw [hg] at h7 ⊢
    have h8 : IntKind.i64.wrap (l[n.toNat].ct - 1) = l[n.toNat].ct - 1 := w64 (by omega) (by omega)
    by_cases a : (l[n.toNat]).st = 0
    · simp [Try.ntmps52, Try.results52, cSl, cp0, cn0, cI, cD, cR, cF, cA, rFrm, Frm.row, frmDec, frX, ltU, okL, okO, h0, h2, h3, h4, h5, hc1, a]
      first
      | exact ent_err (@lt_err _ _) (by simp [lowA, lowC])
      | (refine Ent.weakT (th := [0]) ?_; simp []; done)
      | (refine Ent.weakT (th := [1]) ?_; simp []; done)
      | (refine Ent.weakT (th := [2]) ?_; simp []; done)
      | (refine Ent.weakT (th := [3]) ?_; simp []; done)
      | (refine Ent.weakT (th := [4]) ?_; simp []; done)
      | (refine Ent.weakT (th := [5]) ?_; simp []; done)
      | (refine Ent.weakT (th := [6]) ?_; simp []; done)
      | (refine Ent.weakT (th := [7]) ?_; simp []; done)
      | (refine Ent.weakT (th := [8]) ?_; simp []; done)
      | (refine Ent.weakT (th := [9]) ?_; simp []; done)
      | (refine Ent.weakT (th := [10]) ?_; simp []; done)
      | (refine Ent.weakT (th := [11]) ?_; simp []; done)
    by_cases b : (l[n.toNat]).ct - 1 = 0
    · simp [Try.ntmps52, Try.results52, cSl, cp0, cn0, cI, cD, cR, cF, cA, rFrm, Frm.row, frmDec, frX, ltU, okL, okO, h0, h2, h3, h4, h5, hc1, a, b, h8, frLess, -List.map_set]
      first
      | exact ent_err (@lt_err _ _) (by simp [lowA, lowC])
      | (refine Ent.weakT (th := [0]) ?_; simp [-List.map_set, Frm.row, lowA]; done)
      | (refine Ent.weakT (th := [1]) ?_; simp [-List.map_set, Frm.row, lowA]; done)
      | (refine Ent.weakT (th := [2]) ?_; simp [-List.map_set, Frm.row, lowA]; done)
      | (refine Ent.weakT (th := [3]) ?_; simp [-List.map_set, Frm.row, lowA]; done)
      | (refine Ent.weakT (th := [4]) ?_; simp [-List.map_set, Frm.row, lowA]; done)
      | (refine Ent.weakT (th := [5]) ?_; simp [-List.map_set, Frm.row, lowA]; done)
      | (refine Ent.weakT (th := [6]) ?_; simp [-List.map_set, Frm.row, lowA]; done)
      | (refine Ent.weakT (th := [7]) ?_; simp [-List.map_set, Frm.row, lowA]; done)
      | (refine Ent.weakT (th := [8]) ?_; simp [-List.map_set, Frm.row, lowA]; done)
      | (refine Ent.weakT (th := [9]) ?_; simp [-List.map_set, Frm.row, lowA]; done)
      | (refine Ent.weakT (th := [10]) ?_; simp [-List.map_set, Frm.row, lowA]; done)
      | (refine Ent.weakT (th := [11]) ?_; simp [-List.map_set, Frm.row, lowA]; done)
    · simp [Try.ntmps52, Try.results52, cSl, cp0, cn0, cI, cD, cR, cF, cA, rFrm, Frm.row, frmDec, frX, ltU, okL, okO, h0, h2, h3, h4, h5, hc1, a, b, h8, frLess, -List.map_set]
      first
      | exact ent_err (@lt_err _ _) (by simp [lowA, lowC])
      | (refine Ent.weakT (th := [0]) ?_; simp [-List.map_set, Frm.row, lowA]; done)
      | (refine Ent.weakT (th := [1]) ?_; simp [-List.map_set, Frm.row, lowA]; done)
      | (refine Ent.weakT (th := [2]) ?_; simp [-List.map_set, Frm.row, lowA]; done)
      | (refine Ent.weakT (th := [3]) ?_; simp [-List.map_set, Frm.row, lowA]; done)
      | (refine Ent.weakT (th := [4]) ?_; simp [-List.map_set, Frm.row, lowA]; done)
      | (refine Ent.weakT (th := [5]) ?_; simp [-List.map_set, Frm.row, lowA]; done)
      | (refine Ent.weakT (th := [6]) ?_; simp [-List.map_set, Frm.row, lowA]; done)
      | (refine Ent.weakT (th := [7]) ?_; simp [-List.map_set, Frm.row, lowA]; done)
      | (refine Ent.weakT (th := [8]) ?_; simp [-List.map_set, Frm.row, lowA]; done)
      | (refine Ent.weakT (th := [9]) ?_; simp [-List.map_set, Frm.row, lowA]; done)
      | (refine Ent.weakT (th := [10]) ?_; simp [-List.map_set, Frm.row, lowA]; done)
      | (refine Ent.weakT (th := [11]) ?_; simp [-List.map_set, Frm.row, lowA]; done)
  · simp [Try.ntmps52, Try.results52, cSl, cp0, cn0, cI, cD, cR, cF, cA, rFrm, frX, ltU, okL, okO, h0]
    first
    | exact ent_err (@lt_err _ _) (by simp [lowA, lowC])
    | (refine Ent.weakT (th := [0]) ?_; simp []; done)
    | (refine Ent.weakT (th := [1]) ?_; simp []; done)
    | (refine Ent.weakT (th := [2]) ?_; simp []; done)
    | (refine Ent.weakT (th := [3]) ?_; simp []; done)
    | (refine Ent.weakT (th := [4]) ?_; simp []; done)
    | (refine Ent.weakT (th := [5]) ?_; simp []; done)
    | (refine Ent.weakT (th := [6]) ?_; simp []; done)
    | (refine Ent.weakT (th := [7]) ?_; simp []; done)
    | (refine Ent.weakT (th := [8]) ?_; simp []; done)
    | (refine Ent.weakT (th := [9]) ?_; simp []; done)
    | (refine Ent.weakT (th := [10]) ?_; simp []; done)
    | (refine Ent.weakT (th := [11]) ?_; simp []; done)
theorem frLet_inl : InlOk Try.prog 52 (frame0 (own0 (argG (cSl rFrm) fun l => argG (cInt .i64) fun n => finG (some (ltU ((frGet l n).ct - 1 == 0) (frX (frLet l n))))))) := frame0_ok frLet_own
end
end
section
set_option linter.unusedSimpArgs false
set_option linter.unusedVariables false
structure Rm where
  at_ : Int
  order : Int
  deriving DecidableEq
def rmDec : Row → Option Rm
  | [.v (.int .i64 x0), .v (.int .i64 x1)] => some ⟨x0, x1⟩
  | _ => none
def Rm.row (e : Rm) : Row := [.v (.int .i64 e.at_), .v (.int .i64 e.order)]
def rRm : RCod Rm := RCod.plain 2 Rm.row rmDec
  (fun e => rfl) (fun _ => rfl) (fun r e h => by
    unfold rmDec at h
    split at h
    · simp at h; subst h; rfl
    · cases h)
def Rm.val (e : Rm) : Value := .agg #[.int .i64 e.at_, .int .i64 e.order]
theorem Rm.eta (e : Rm) : Rm.mk e.at_ e.order = e := rfl
attribute [local simp] Rm.eta
theorem Rm.cold (l : List Rm) : coldR (l.map Rm.row) = l.map Rm.row := by
  induction l with
  | nil => simp [coldR]
  | cons e l ih => simp [coldR, coldC, AI.cold, ih, Rm.row]
theorem Rm.mapM (l : List Rm) : (l.map Rm.row).mapM rmDec = some l := mapM_dec rRm l
theorem Rm.mapMc (l : List Rm) : l.mapM (rmDec ∘ Rm.row) = some l := mapM_dec' rRm l
theorem Rm.view (H : Heap) (n : Nat) (e : Rm) : List.map (AI.view H n) e.row = e.row := by cases n <;> simp [Rm.row, AI.view]
theorem Rm.viewc (H : Heap) (n : Nat) : List.map (AI.view H n) ∘ Rm.row = Rm.row := by funext e; exact Rm.view H n e
theorem Rm.hotR (l : List Rm) : AI.hotR (l.map Rm.row) = true := by
  induction l with
  | nil => simp [AI.hotR]
  | cons e l ih => simp [AI.hotR, hotC, hot, ih, Rm.row]
theorem Rm.ren (n : Nat) (th : List Nat) (e : Rm) : List.map (AI.ren n th) e.row = e.row := by simp [Rm.row, AI.ren]
theorem Rm.renc (n : Nat) (th : List Nat) : List.map (AI.ren n th) ∘ Rm.row = Rm.row := by funext e; exact Rm.ren n th e
theorem Rm.low (n : Nat) (e : Rm) : e.row.all (lowA n) = true := by simp [Rm.row, lowA]
theorem Rm.tau (fp : List Nat) (n : Nat) (e : Rm) : List.map (AI.tau fp n) e.row = e.row := by simp [Rm.row, AI.tau]
theorem Rm.tauc (fp : List Nat) (n : Nat) : List.map (AI.tau fp n) ∘ Rm.row = Rm.row := by funext e; exact Rm.tau fp n e
theorem Rm.bare (e : Rm) : e.row.all bareA = true := by simp [Rm.row, bareA]
theorem Rm.flat (l : List Rm) : flat0 (l.map Rm.row) = true := by simp [flat0, Rm.low]
theorem Rm.flat1 (e : Rm) : flat0 [e.row] = true := by simp [flat0, Rm.low]
theorem Rm.exact : Exact rRm := by
  intro r e h
  simp only [rRm, RCod.plain] at h ⊢
  unfold rmDec at h
  split at h
  · simp at h; subst h; rfl
  · cases h
theorem Rm.mapMt (k : Nat) (l : List Rm) : (List.take k (l.map Rm.row)).mapM rmDec = some (l.take k) := by rw [← List.map_take]; exact mapM_dec rRm _
theorem Rm.mapMd (k : Nat) (l : List Rm) : (List.drop k (l.map Rm.row)).mapM rmDec = some (l.drop k) := by rw [← List.map_drop]; exact mapM_dec rRm _
theorem Rm.coldt (k : Nat) (l : List Rm) : coldR (List.take k (l.map Rm.row)) = List.take k (l.map Rm.row) := by rw [← List.map_take]; exact Rm.cold _
theorem Rm.coldd (k : Nat) (l : List Rm) : coldR (List.drop k (l.map Rm.row)) = List.drop k (l.map Rm.row) := by rw [← List.map_drop]; exact Rm.cold _
theorem Rm.hotRt (k : Nat) (l : List Rm) : AI.hotR (List.take k (l.map Rm.row)) = true := by rw [← List.map_take]; exact Rm.hotR _
theorem Rm.hotRd (k : Nat) (l : List Rm) : AI.hotR (List.drop k (l.map Rm.row)) = true := by rw [← List.map_drop]; exact Rm.hotR _
attribute [local simp] Rm.hotRt Rm.hotRd
attribute [local simp] Rm.tau Rm.tauc Rm.bare Rm.flat Rm.flat1 Rm.mapMt Rm.mapMd Rm.coldt Rm.coldd
attribute [local simp] Rm.cold Rm.mapM Rm.mapMc Rm.view Rm.viewc Rm.hotR Rm.ren Rm.renc Rm.low
theorem rm_eq (a b : Rm) : a = b ↔ (a.at_ = b.at_ ∧ a.order = b.order) := by cases a; cases b; simp
def pw (o : Int) : Int := 2 ^ o.toNat
theorem pw_pos (o : Int) : 0 < pw o := by unfold pw; exact Int.pow_pos (by decide)
theorem pw_succ {o : Int} (h : 0 ≤ o) : pw (o + 1) = 2 * pw o := by
  unfold pw
  have : (o + 1).toNat = o.toNat + 1 := by omega
  rw [this, Int.pow_succ]; omega
theorem pw_dvd {a b : Int} (h : a ≤ b) : pw a ∣ pw b := by
  unfold pw
  have : a.toNat ≤ b.toNat := by omega
  exact ⟨2 ^ (b.toNat - a.toNat), by rw [← Int.pow_add]; congr 1; omega⟩
theorem pw_le {a b : Int} (h : a ≤ b) : pw a ≤ pw b := Int.le_of_dvd (pw_pos _) (pw_dvd h)
theorem pw6 {o : Int} (h0 : 0 ≤ o) (h6 : o ≤ 6) : o = 0 ∨ o = 1 ∨ o = 2 ∨ o = 3 ∨ o = 4 ∨ o = 5 ∨ o = 6 := by omega
theorem pw_le64 {o : Int} (h6 : o ≤ 6) : pw o ≤ 64 := pw_le (b := 6) h6

def Rm.end_ (r : Rm) : Int := r.at_ + pw r.order
def Fit (N : Int) (r : Rm) : Prop := 0 ≤ r.order ∧ r.order ≤ N ∧ 0 ≤ r.at_ ∧ r.end_ ≤ pw N ∧ pw r.order ∣ r.at_
def Bud (a b : Rm) : Prop := a.order = b.order ∧ ((b.at_ = a.end_ ∧ pw (a.order + 1) ∣ a.at_) ∨ (a.at_ = b.end_ ∧ pw (a.order + 1) ∣ b.at_))
theorem Bud.symm {a b : Rm} (h : Bud a b) : Bud b a := by
  obtain ⟨h1, h2 | h2⟩ := h
  · exact ⟨h1.symm, .inr (by rw [← h1]; exact h2)⟩
  · exact ⟨h1.symm, .inl (by rw [← h1]; exact h2)⟩
def Rm.has (r : Rm) (q : Int) : Prop := r.at_ ≤ q ∧ q < r.end_
def Cov (l : List Rm) (q : Int) : Prop := ∃ r ∈ l, r.has q
/-- one behind the other, and no twins -/
def Tw (a b : Rm) : Prop := a.end_ ≤ b.at_ ∧ ¬ Bud a b
def Okl (N : Int) (l : List Rm) : Prop := (∀ r ∈ l, Fit N r) ∧ l.Pairwise Tw
theorem Fit.lt {N : Int} {r : Rm} (h : Fit N r) : r.at_ < r.end_ := by have := pw_pos r.order; simp only [Rm.end_]; omega

theorem cov_nil {q : Int} : ¬ Cov [] q := by rintro ⟨r, h, _⟩; simp at h
theorem cov_cons {r : Rm} {l : List Rm} {q : Int} : Cov (r :: l) q ↔ r.has q ∨ Cov l q := by
  simp [Cov]
theorem cov_append {l m : List Rm} {q : Int} : Cov (l ++ m) q ↔ Cov l q ∨ Cov m q := by
  simp only [Cov, List.mem_append]
  constructor
  · rintro ⟨r, h | h, k⟩
    · exact .inl ⟨r, h, k⟩
    · exact .inr ⟨r, h, k⟩
  · rintro (⟨r, h, k⟩ | ⟨r, h, k⟩)
    · exact ⟨r, .inl h, k⟩
    · exact ⟨r, .inr h, k⟩
theorem okl_cons {N : Int} {r : Rm} {l : List Rm} : Okl N (r :: l) ↔ Fit N r ∧ (∀ s ∈ l, Tw r s) ∧ Okl N l := by
  simp only [Okl, List.mem_cons, forall_eq_or_imp, List.pairwise_cons]
  constructor
  · rintro ⟨⟨h1, h2⟩, h3, h4⟩; exact ⟨h1, h3, h2, h4⟩
  · rintro ⟨h1, h3, h2, h4⟩; exact ⟨⟨h1, h2⟩, h3, h4⟩
theorem okl_behind {N : Int} {r : Rm} {l : List Rm} (h : Okl N (r :: l)) {q : Int} (hq : Cov l q) : r.end_ ≤ q := by
  obtain ⟨s, hs, k⟩ := hq
  have := (okl_cons.1 h).2.1 s hs
  have h1 := this.1
  have h2 := k.1
  omega

theorem dvd_half {o k b : Int} (h0 : 0 ≤ o) (ho : o < k) (hb : pw k ∣ b) {s : Int} (hs : pw s ∣ b + pw o) : s ≤ o := by
  by_cases h : s ≤ o
  · exact h
  · exfalso
    have h1 : pw (o + 1) ∣ b := Int.dvd_trans (pw_dvd (by omega)) hb
    have h2 : pw (o + 1) ∣ b + pw o := Int.dvd_trans (pw_dvd (by omega)) hs
    have h3 : pw (o + 1) ∣ pw o := by
      have := Int.dvd_sub h2 h1
      rwa [show b + pw o - b = pw o by omega] at this
    have h4 := Int.le_of_dvd (pw_pos _) h3
    rw [pw_succ h0] at h4
    have := pw_pos o
    omega

theorem no_fine {N : Int} : ∀ (n : Nat) (l : List Rm) (r : Rm) (k : Int), Okl N (r :: l) → r.order.toNat = n → r.order < k → pw k ∣ r.at_ → (∀ q, r.at_ ≤ q → q < r.at_ + pw k → Cov (r :: l) q) → False := by
  intro n
  induction n using Nat.strongRecOn with
  | ind n ih =>
    intro l r k hok hn hk hd hc
    obtain ⟨f, t, ol⟩ := okl_cons.1 hok
    have hp := pw_pos r.order
    have hpk : pw (r.order + 1) ≤ pw k := pw_le (by omega)
    rw [pw_succ f.1] at hpk
    have h1 := hc r.end_ (by simp only [Rm.end_]; omega) (by simp only [Rm.end_]; omega)
    have h2 : Cov l r.end_ := by
      rcases cov_cons.1 h1 with h | h
      · have := h.2; omega
      · exact h
    cases l with
    | nil => exact cov_nil h2
    | cons s l =>
      have ts := t s (by simp)
      have fs := (okl_cons.1 ol).1
      have hs : s.at_ = r.end_ := by
        rcases cov_cons.1 h2 with h | h
        · have := h.1; have := ts.1; omega
        · have := okl_behind ol h
          have := fs.lt
          have := ts.1
          omega
      have hle : s.order ≤ r.order := dvd_half f.1 hk hd (by have := fs.2.2.2.2; rw [hs] at this; exact this)
      have hne : s.order ≠ r.order := by
        intro he
        exact ts.2 ⟨he.symm, .inl ⟨hs, Int.dvd_trans (pw_dvd (by omega)) hd⟩⟩
      refine ih s.order.toNat (by have := fs.1; omega) l s r.order ol rfl (by omega) ?_ ?_
      · rw [hs]
        exact Int.dvd_add f.2.2.2.2 (Int.dvd_refl _)
      · intro q q1 q2
        have := hc q (by rw [hs] at q1; simp only [Rm.end_] at q1; omega) (by rw [hs] at q2; simp only [Rm.end_] at q2; omega)
        rcases cov_cons.1 this with h | h
        · have := h.2; omega
        · exact h

/-- what is free says how it is told -/
theorem tw_one {N : Int} {l m : List Rm} (h : Okl N l) (k : Okl N m) (he : ∀ q, Cov l q ↔ Cov m q) : l = m := by
  induction l generalizing m with
  | nil =>
    cases m with
    | nil => rfl
    | cons s m => exact absurd ((he s.at_).2 (cov_cons.2 (.inl ⟨Int.le_refl _, (okl_cons.1 k).1.lt⟩))) cov_nil
  | cons r l ih =>
    cases m with
    | nil => exact absurd ((he r.at_).1 (cov_cons.2 (.inl ⟨Int.le_refl _, (okl_cons.1 h).1.lt⟩))) cov_nil
    | cons s m =>
      have fr := (okl_cons.1 h).1
      have fs := (okl_cons.1 k).1
      have hat : r.at_ = s.at_ := by
        have c1 := (he r.at_).1 (cov_cons.2 (.inl ⟨Int.le_refl _, fr.lt⟩))
        have c2 := (he s.at_).2 (cov_cons.2 (.inl ⟨Int.le_refl _, fs.lt⟩))
        have g1 : s.at_ ≤ r.at_ := by
          rcases cov_cons.1 c1 with q | q
          · exact q.1
          · have := okl_behind k q; have := fs.lt; omega
        have g2 : r.at_ ≤ s.at_ := by
          rcases cov_cons.1 c2 with q | q
          · exact q.1
          · have := okl_behind h q; have := fr.lt; omega
        omega
      have hord : r.order = s.order := by
        rcases Int.lt_trichotomy r.order s.order with q | q | q
        · exfalso
          refine no_fine _ l r s.order h rfl q (by rw [hat]; exact fs.2.2.2.2) fun p p1 p2 => (he p).2 (cov_cons.2 (.inl ⟨by omega, by simp only [Rm.end_]; omega⟩))
        · exact q
        · exfalso
          refine no_fine _ m s r.order k rfl q (by rw [← hat]; exact fr.2.2.2.2) fun p p1 p2 => (he p).1 (cov_cons.2 (.inl ⟨by omega, by simp only [Rm.end_]; omega⟩))
      have hrs : r = s := (rm_eq r s).2 ⟨hat, hord⟩
      subst hrs
      congr 1
      refine ih (okl_cons.1 h).2.2 (okl_cons.1 k).2.2 fun q => ?_
      constructor
      · intro c
        have hb := okl_behind h c
        rcases cov_cons.1 ((he q).1 (cov_cons.2 (.inr c))) with d | d
        · have := d.2; omega
        · exact d
      · intro c
        have hb := okl_behind k c
        rcases cov_cons.1 ((he q).2 (cov_cons.2 (.inr c))) with d | d
        · have := d.2; omega
        · exact d

/-- what is left of a room -/
def leftR (a : Int) (o : Int) : Nat → List Rm
  | 0 => []
  | n + 1 => ⟨a + pw o, o⟩ :: leftR a (o + 1) n
theorem leftR_ok {N : Int} {a o : Int} {n : Nat} (h0 : 0 ≤ o) (hN : o + n ≤ N) (ha : 0 ≤ a) (he : a + pw (o + n) ≤ pw N) (hd : pw (o + n) ∣ a) :
    Okl N (leftR a o n) ∧ (∀ x ∈ leftR a o n, a + pw o ≤ x.at_ ∧ x.end_ ≤ a + pw (o + n) ∧ o ≤ x.order ∧ x.order < o + n ∧ x.at_ = a + pw x.order) ∧ ∀ q, Cov (leftR a o n) q ↔ a + pw o ≤ q ∧ q < a + pw (o + n) := by
  induction n generalizing o with
  | zero =>
    refine ⟨⟨by simp [leftR], by simp [leftR]⟩, by simp [leftR], fun q => ?_⟩
    constructor
    · intro h; exact absurd h cov_nil
    · intro h; simp at h; omega
  | succ n ih =>
    have e : o + 1 + (n : Int) = o + ((n + 1 : Nat) : Int) := by omega
    obtain ⟨i1, i2, i3⟩ := ih (o := o + 1) (by omega) (by omega) (by rw [e]; exact he) (by rw [e]; exact hd)
    rw [e] at i2 i3
    have hp := pw_pos o
    have hs := pw_succ h0
    have hle : pw (o + 1) ≤ pw (o + ((n + 1 : Nat) : Int)) := pw_le (by omega)
    have hend : (⟨a + pw o, o⟩ : Rm).end_ = a + pw (o + 1) := by simp only [Rm.end_]; omega
    refine ⟨okl_cons.2 ⟨⟨h0, by simp; omega, by simp; omega, by rw [hend]; exact Int.le_trans (Int.add_le_add_left hle a) he, Int.dvd_add (Int.dvd_trans (pw_dvd (a := o) (b := o + ((n + 1 : Nat) : Int)) (by omega)) hd) (Int.dvd_refl _)⟩, fun x hx => ?_, i1⟩, ?_, fun q => ?_⟩
    · obtain ⟨x1, x2, x3, x4, x5⟩ := i2 x hx
      refine ⟨by rw [hend]; exact x1, fun hb => ?_⟩
      have := hb.1
      simp at this
      omega
    · intro x hx
      simp only [leftR, List.mem_cons] at hx
      rcases hx with rfl | hx
      · refine ⟨by simp, by rw [hend]; omega, by simp, by simp; omega, rfl⟩
      · obtain ⟨x1, x2, x3, x4, x5⟩ := i2 x hx
        exact ⟨by omega, x2, by omega, x4, x5⟩
    · simp only [leftR]
      rw [cov_cons, i3]
      simp only [Rm.has, hend]
      omega

/-- a room taken out of a list -/
theorem take_ok {N : Int} {A B : List Rm} {r : Rm} {o : Int} (h : Okl N (A ++ r :: B)) (h0 : 0 ≤ o) (ho : o ≤ r.order) :
    Okl N (A ++ (leftR r.at_ o (r.order - o).toNat ++ B)) ∧ (∀ q, Cov (A ++ (leftR r.at_ o (r.order - o).toNat ++ B)) q ↔ Cov (A ++ r :: B) q ∧ ¬ (r.at_ ≤ q ∧ q < r.at_ + pw o)) ∧ (∀ q, r.at_ ≤ q ∧ q < r.at_ + pw o → Cov (A ++ r :: B) q) := by
  obtain ⟨hf, hp⟩ := h
  have fr : Fit N r := hf r (by simp)
  have e : o + ((r.order - o).toNat : Int) = r.order := by omega
  obtain ⟨l1, l2, l3⟩ := leftR_ok (N := N) (a := r.at_) (o := o) (n := (r.order - o).toNat) h0 (by rw [e]; exact fr.2.1) fr.2.2.1 (by rw [e]; exact fr.2.2.2.1) (by rw [e]; exact fr.2.2.2.2)
  rw [e] at l2 l3
  have hpo := pw_pos o
  have hpr : pw o ≤ pw r.order := pw_le ho
  rw [List.pairwise_append] at hp
  obtain ⟨pA, pB, pAB⟩ := hp
  rw [List.pairwise_cons] at pB
  have tA : ∀ a ∈ A, Tw a r := fun a ha => pAB a ha r (by simp)
  have tB : ∀ b ∈ B, Tw r b := fun b hb => pB.1 b hb
  refine ⟨⟨?_, ?_⟩, ?_, ?_⟩
  · intro x hx
    simp only [List.mem_append] at hx
    rcases hx with hx | hx | hx
    · exact hf x (by simp [hx])
    · exact l1.1 x hx
    · exact hf x (by simp [hx])
  · rw [List.pairwise_append, List.pairwise_append]
    refine ⟨pA, ⟨l1.2, pB.2, ?_⟩, ?_⟩
    · intro x hx b hb
      obtain ⟨x1, x2, x3, x4, x5⟩ := l2 x hx
      have t := tB b hb
      have t1 := t.1
      refine ⟨by simp only [Rm.end_] at *; omega, fun hbud => ?_⟩
      obtain ⟨b1, ⟨b2, b3⟩ | ⟨b2, b3⟩⟩ := hbud
      · have : pw (x.order + 1) ∣ r.at_ := Int.dvd_trans (pw_dvd (by omega)) fr.2.2.2.2
        have h3 : pw (x.order + 1) ∣ pw x.order := by
          have := Int.dvd_sub b3 this
          rwa [x5, show r.at_ + pw x.order - r.at_ = pw x.order by omega] at this
        have h4 := Int.le_of_dvd (pw_pos _) h3
        rw [pw_succ (by omega)] at h4
        have := pw_pos x.order
        omega
      · have := pw_pos b.order
        simp only [Rm.end_] at *; omega
    · intro a ha y hy
      have t := tA a ha
      have t1 := t.1
      rcases List.mem_append.1 hy with hy | hy
      · obtain ⟨x1, x2, x3, x4, x5⟩ := l2 y hy
        refine ⟨by omega, fun hbud => ?_⟩
        obtain ⟨b1, ⟨b2, b3⟩ | ⟨b2, b3⟩⟩ := hbud
        · omega
        · have := pw_pos y.order
          have := pw_pos a.order
          simp only [Rm.end_] at *; omega
      · exact pAB a ha y (by simp [hy])
  · intro q
    rw [cov_append, cov_append, cov_append, cov_cons, l3]
    constructor
    · rintro (h | h | h)
      · refine ⟨.inl h, ?_⟩
        obtain ⟨a, ha, k⟩ := h
        have := (tA a ha).1
        have := k.2
        omega
      · exact ⟨.inr (.inl ⟨by omega, by simp only [Rm.end_]; omega⟩), by omega⟩
      · refine ⟨.inr (.inr h), ?_⟩
        obtain ⟨b, hb, k⟩ := h
        have := (tB b hb).1
        have := k.1
        simp only [Rm.end_] at *
        omega
    · rintro ⟨h | h | h, hn⟩
      · exact .inl h
      · have h1 := h.1
        have h2 := h.2
        simp only [Rm.end_] at h2
        exact .inr (.inl ⟨by omega, by omega⟩)
      · exact .inr (.inr h)
  · intro q hq
    rw [cov_append, cov_cons]
    exact .inr (.inl ⟨hq.1, by simp only [Rm.end_]; omega⟩)

/-- a room that meets no free one -/
def Off (l : List Rm) (r : Rm) : Prop := ∀ x ∈ l, x.end_ ≤ r.at_ ∨ r.end_ ≤ x.at_
theorem bud_merge {N : Int} {x r : Rm} (hx : Fit N x) (hr : Fit N r) (hb : Bud x r) (hN : r.order < N) : Fit N ⟨min r.at_ x.at_, r.order + 1⟩ ∧ ∀ q, (⟨min r.at_ x.at_, r.order + 1⟩ : Rm).has q ↔ r.has q ∨ x.has q := by
  have hs := pw_succ hr.1
  have hp := pw_pos r.order
  obtain ⟨h1, ⟨h2, h3⟩ | ⟨h2, h3⟩⟩ := hb
  · have hmin : min r.at_ x.at_ = x.at_ := by simp only [Rm.end_] at h2; rw [h1] at h2; omega
    rw [hmin]
    rw [h1] at h3
    refine ⟨⟨by simp; have := hr.1; omega, by simp; omega, hx.2.2.1, ?_, h3⟩, fun q => ?_⟩
    · have := hr.2.2.2.1
      simp only [Rm.end_] at *
      rw [hs]; rw [h1] at h2; omega
    · simp only [Rm.has, Rm.end_] at *
      rw [hs]; rw [h1] at h2 ⊢; omega
  · have hmin : min r.at_ x.at_ = r.at_ := by simp only [Rm.end_] at h2; omega
    rw [hmin]
    rw [h1] at h3
    refine ⟨⟨by simp; have := hr.1; omega, by simp; omega, hr.2.2.1, ?_, h3⟩, fun q => ?_⟩
    · have := hx.2.2.2.1
      simp only [Rm.end_] at *
      rw [hs]; rw [h1] at this; omega
    · simp only [Rm.has, Rm.end_] at *
      rw [hs]; rw [h1]; omega

theorem off_merge {N : Int} {x r y : Rm} (hr : Fit N r) (hb : Bud x r) (a1 : y.end_ ≤ x.at_ ∨ x.end_ ≤ y.at_) (a2 : y.end_ ≤ r.at_ ∨ r.end_ ≤ y.at_) (fy : y.at_ < y.end_) : y.end_ ≤ (⟨min r.at_ x.at_, r.order + 1⟩ : Rm).at_ ∨ (⟨min r.at_ x.at_, r.order + 1⟩ : Rm).end_ ≤ y.at_ := by
  have hs := pw_succ hr.1
  have hp := pw_pos r.order
  have e : (⟨min r.at_ x.at_, r.order + 1⟩ : Rm).end_ = min r.at_ x.at_ + 2 * pw r.order := by simp only [Rm.end_]; rw [hs]
  rw [e]
  have e2 : x.end_ = x.at_ + pw r.order := by simp only [Rm.end_]; rw [hb.1]
  have e3 : r.end_ = r.at_ + pw r.order := rfl
  obtain ⟨h1, ⟨h2, h3⟩ | ⟨h2, h3⟩⟩ := hb
  · simp only; omega
  · simp only; omega

/-- a room at its place -/
def insR (l : List Rm) (r : Rm) : List Rm := l.takeWhile (fun x => decide (x.at_ < r.at_)) ++ r :: l.dropWhile (fun x => decide (x.at_ < r.at_))
theorem insR_ok {N : Int} {l : List Rm} {r : Rm} (h : Okl N l) (hr : Fit N r) (ho : Off l r) (hb : ∀ x ∈ l, ¬ Bud x r) : Okl N (insR l r) ∧ ∀ q, Cov (insR l r) q ↔ r.has q ∨ Cov l q := by
  induction l with
  | nil => exact ⟨okl_cons.2 ⟨hr, by simp, ⟨by simp, by simp⟩⟩, fun q => by simp [insR, cov_cons, cov_nil]⟩
  | cons x l ih =>
    obtain ⟨fx, tx, ol⟩ := okl_cons.1 h
    have hx := ho x (by simp)
    have hl := fx.lt
    have hl2 := hr.lt
    by_cases q : x.at_ < r.at_
    · have e1 : insR (x :: l) r = x :: insR l r := by simp [insR, q]
      rw [e1]
      obtain ⟨i1, i2⟩ := ih ol (fun y hy => ho y (by simp [hy])) (fun y hy => hb y (by simp [hy]))
      have hm : ∀ y, y ∈ insR l r ↔ y = r ∨ y ∈ l := by
        intro y
        simp only [insR, List.mem_append, List.mem_cons]
        have hsplit : y ∈ l ↔ y ∈ l.takeWhile (fun x => decide (x.at_ < r.at_)) ∨ y ∈ l.dropWhile (fun x => decide (x.at_ < r.at_)) := by
          rw [← List.mem_append, List.takeWhile_append_dropWhile]
        rw [hsplit]
        constructor
        · rintro (h | h | h)
          · exact .inr (.inl h)
          · exact .inl h
          · exact .inr (.inr h)
        · rintro (h | h | h)
          · exact .inr (.inl h)
          · exact .inl h
          · exact .inr (.inr h)
      refine ⟨okl_cons.2 ⟨fx, fun y hy => ?_, i1⟩, fun p => ?_⟩
      · rcases (hm y).1 hy with rfl | hy
        · exact ⟨by omega, hb x (by simp)⟩
        · exact tx y hy
      · rw [cov_cons, i2, cov_cons]
        constructor
        · rintro (h | h | h)
          · exact .inr (.inl h)
          · exact .inl h
          · exact .inr (.inr h)
        · rintro (h | h | h)
          · exact .inr (.inl h)
          · exact .inl h
          · exact .inr (.inr h)
    · have e1 : insR (x :: l) r = r :: x :: l := by simp [insR, q]
      rw [e1]
      have hx' : r.end_ ≤ x.at_ := by omega
      refine ⟨okl_cons.2 ⟨hr, fun y hy => ?_, h⟩, fun p => cov_cons⟩
      refine ⟨?_, fun hbb => hb y hy hbb.symm⟩
      rcases List.mem_cons.1 hy with rfl | hy
      · exact hx'
      · have := (tx y hy).1; omega

/-- twins come together -/
def giveGo (bud : Rm → Rm → Bool) (N : Int) : Nat → Rm → List Rm → List Rm
  | 0, r, l => insR l r
  | n + 1, r, l => match l.findIdx? (bud · r) with
    | some i => giveGo bud N n ⟨min r.at_ (l[i]?.getD r).at_, r.order + 1⟩ (l.eraseIdx i)
    | none => insR l r
theorem giveGo_ok {bud : Rm → Rm → Bool} {N : Int} (hbud : ∀ x r, Fit N x → Fit N r → (bud x r = true ↔ Bud x r)) : ∀ (n : Nat) (r : Rm) (l : List Rm), Okl N l → Fit N r → Off l r → (N - r.order).toNat = n → Okl N (giveGo bud N n r l) ∧ ∀ q, Cov (giveGo bud N n r l) q ↔ r.has q ∨ Cov l q := by
  intro n
  induction n with
  | zero =>
    intro r l h hr ho hn
    simp only [giveGo]
    refine insR_ok h hr ho fun x hx hb => ?_
    have fx := h.1 x hx
    have : r.order = N := by have := hr.2.1; omega
    have h1 := hb.1
    have h2 := ho x hx
    have h3 := hr.2.2
    have h4 := fx.2.2
    have hp := pw_pos N
    simp only [Rm.end_] at *
    rw [h1, this] at h4 h2
    rw [this] at h3
    omega
  | succ n ih =>
    intro r l h hr ho hn
    simp only [giveGo]
    split
    · rename_i i hi
      obtain ⟨hil, hb, _⟩ := List.findIdx?_eq_some_iff_getElem.1 hi
      have fx := h.1 _ (List.getElem_mem hil)
      have hB := (hbud _ _ fx hr).1 hb
      obtain ⟨m1, m2⟩ := bud_merge fx hr hB (by omega)
      have e : (l[i]?.getD r) = l[i] := by simp [hil]
      rw [e]
      have hsub : (l.eraseIdx i).Sublist l := List.eraseIdx_sublist ..
      have hmem : ∀ y, y ∈ l.eraseIdx i → y.end_ ≤ l[i].at_ ∨ l[i].end_ ≤ y.at_ := by
        intro y hy
        rw [List.mem_eraseIdx_iff_getElem] at hy
        obtain ⟨j, hj, hne, rfl⟩ := hy
        have hp := List.pairwise_iff_getElem.1 h.2
        rcases Nat.lt_or_gt_of_ne hne with q | q
        · exact .inl (hp _ _ hj hil q).1
        · exact .inr (hp _ _ hil hj q).1
      obtain ⟨i1, i2⟩ := ih ⟨min r.at_ l[i].at_, r.order + 1⟩ (l.eraseIdx i) ⟨fun y hy => h.1 y (hsub.subset hy), h.2.sublist hsub⟩ m1 (by
        intro y hy
        exact off_merge hr hB (hmem y hy) (ho y (hsub.subset hy)) (h.1 y (hsub.subset hy)).lt) (by simp; omega)
      refine ⟨i1, fun q => ?_⟩
      rw [i2, m2]
      have hc : Cov l q ↔ l[i].has q ∨ Cov (l.eraseIdx i) q := by
        constructor
        · rintro ⟨y, hy, k⟩
          obtain ⟨j, hj, rfl⟩ := List.getElem_of_mem hy
          by_cases hji : j = i
          · subst hji; exact .inl k
          · exact .inr ⟨_, List.mem_eraseIdx_iff_getElem.2 ⟨j, hj, hji, rfl⟩, k⟩
        · rintro (k | ⟨y, hy, k⟩)
          · exact ⟨_, List.getElem_mem hil, k⟩
          · exact ⟨y, hsub.subset hy, k⟩
      rw [hc]
      constructor
      · rintro ((h | h) | h)
        · exact .inl h
        · exact .inr (.inl h)
        · exact .inr (.inr h)
      · rintro (h | h | h)
        · exact .inl (.inl h)
        · exact .inl (.inr h)
        · exact .inr h
    · rename_i hi
      rw [List.findIdx?_eq_none_iff] at hi
      exact insR_ok h hr ho fun x hx hb => by
        have := hi x hx
        rw [(hbud x r (h.1 x hx) hr).2 hb] at this
        cases this
end
section
set_option maxHeartbeats 2000000
set_option maxRecDepth 100000
set_option linter.unusedSimpArgs false
set_option linter.unusedVariables false
attribute [local simp] wpA wpX RunA RunD runF foot footP footB idsA bare apart runL step1 gsel_f gsel_t gsel_s res_same res_and1 res_and2 res_and3 res_and4 res_and5 res_and6 res_false res_true res_v res_ptr res_fptr res_osl res_xsl soft aAppendZ aCap ovlI ovlJ res_fsl res_esl res_agg res_tup res_fn res_junk res_anyb aPick hk imp_left iteV dstOk guardOk astep astepE AI.ev AI.look AI.put envOf aBox cellsOf allOne allOneA oneA Value.oneCell' Value.cells newObj' aFieldAddr aLoad obj readAt thenA blockA condA retA resA tupA view hot hotC hotR depthV cAgg cInt cBool mkAgg allV aAlloc aBuild fillA writeAt aStore isAggA aField idx aIndexAddr aIndex bnd aSlice aExtract aLen aBuiltin aCall isStatic eqAgg eqTy eqC ev_add ev_sub ev_mul ev_quo ev_rem ev_and ev_or ev_xor ev_andNot ev_shl ev_shr ev_eql ev_neq ev_lss ev_leq ev_gtr ev_geq ev_agg w64 wu32 wu8 ev_not ev_neg Cod.plain RCod.plain argM finM cold coldC coldR goInt intDec boolDec aggDec Weaker heapW lowA lowC Again slDec undef aBuildSlice setRows aAppend rowsOf aMakeSlice aClear aCopy softer_self softer_nil valsOf ev_min2 ev_max2 hotR_set hotR_append take_map_set irow_cold irow_mapM irow_mapMc irow_view irow_viewc irow_hotR irow_ren irow_renc irow_low WeakT heapT thOf ren renC AgainT NextF NextT fnDec cFn rNil selfLt natLt0 natLt1 getLastMap frame0 frame1 own0 own1 argG finG tau tauI tauO tauC bareA bareC bareH irow_tau irow_tauc irow_bare irow_flat irow_bareR ownA_nil ownT_nil ownA_c ownT_c ownA_s ownT_s takeMapLen footC plainA noId noIdC cloneF frame0F frame1F insertF replaceI replaceF cellDec rCell fpDec cFp rTwo deleteF allV_oA oneA_oA res_oA RunR RunE runFT footAt hotR_cat tmodN aEqH aSliceA frameN newA newC newH fxSz3 fxBy3 fxAg3 fxZe3 fxSl3 fxSz96 fxAg96 fxZe96 fxSl96 fxAr96 fxSz97 fxAg97 fxZe97 fxSl97 fxAr97 fxSz99 fxAg99 fxZe99 fxFi99x0 fxFi99x1 fxPl99 fxSz100 fxAg100 fxSl100 fxAr100 fxSz102 fxAg102 fxZe102 fxFi102x0 fxFi102x1 fxPl102 fxSz104 fxAg104 fxZe104 fxFi104x0 fxFi104x1 fxPl104 fxSz107 fxBy107 fxAg107 fxZe107 fxFi107x0 fxFi107x1 fxFi107x2 fxPl107 fxSz110 fxBy110 fxAg110 fxZe110 fxFi110x0 fxFi110x1 fxPl110 fxSz111 fxAg111 fxZe111 fxSl111 fxAr111 fxSz112 fxBy112 fxAg112 fxZe112 fxSl112 fxAr112 fxSz114 fxBy114 fxAg114 fxZe114 fxFi114x0 fxFi114x1 fxPl114 fxZe131 fxAr131 fxPl131 fxZe132 fxAr132 fxPl132 fxZe133 fxAr133 fxPl133 fxEq107 fxEq110 fxNe96 fxOe96 fxXe96 fxLn97 fxNe97 fxOe97 fxXe97 fxNe100 fxOe100 fxXe100 fxNe112 fxOe112 fxXe112 fxFm41 fxFi41 fxFm42 fxFi42 fxFm43 fxFi43 fxFm44 fxFm45 fxFm46 fxFi46 fxFi47 fxFj47 fxFm48 fxFi48 fxFm49 fxFi49 fxFm50 fxFi50 fxFm51 fxFm52 fxFm53 fxFm54 fxFm55 fxFm56 fxFm113 fxFi113 fxFm114 fxFi114 fxFm115 fxFi115 fxFm116 fxFi116 fxFm117 fxFi117 fxFm118 fxFm119 fxFi119 fxFm120 fxFi120 fxFm121 fxFi121 fxFm122 fxFi122 fxFm123 fxFm124 fxFm125 fxFi125 fxFm126 fxFm127 fxFi127 fxFm128 fxFi128 fxFm129 fxFm130 fxFi130 fxFm131 fxFi131 fxFm132 fxFm133 fxFi133 fxFm134 fxFm135 fxFm172 fxFi172 fxFm173 fxFm176 fxFi176 fxFm177 fxFi177 fxFm178 fxFi178 fxFm179 fxFm180 fxFm182 fxFi182 fxFm183
section
attribute [local simp] Rm.eta Rm.cold Rm.mapM Rm.mapMc Rm.view Rm.viewc Rm.hotR Rm.ren Rm.renc Rm.low Rm.tau Rm.tauc Rm.bare Rm.flat Rm.flat1 Rm.mapMt Rm.mapMd Rm.coldt Rm.coldd Rm.hotRt Rm.hotRd
structure Twn where
  order : Int
  free : List Rm
  deriving DecidableEq
def twnDec : Row → Option Twn
  | [.v (.int .i64 x0), a1] => match slDec rRm a1 with | some x1 => some ⟨x0, x1⟩ | _ => none
  | _ => none
def Twn.row (e : Twn) : Row := [.v (.int .i64 e.order), .fsl false 2 (e.free.map Rm.row)]
def Twn.hrow (e : Twn) : Row := [.v (.int .i64 e.order), .fsl true 2 (e.free.map Rm.row)]
theorem Twn.eta (e : Twn) : Twn.mk e.order e.free = e := rfl
theorem Twn.dec_row (e : Twn) : twnDec e.row = some e := by
  have h1 := (cSl rRm).de e.free
  simp only [cSl] at h1
  simp only [twnDec, Twn.row]
  erw [h1]
theorem Twn.dec_hrow (e : Twn) : twnDec e.hrow = some e := Twn.dec_row e
def rTwn : RCod Twn where
  sz := 2
  enc := Twn.row
  dec := twnDec
  de := Twn.dec_row
  len _ := rfl
  ok := by
    intro r e h β ok w n x hok hr
    unfold twnDec at h
    split at h
    · split at h
      · rename_i h1
        simp at h
        subst h
        refine ⟨rfl, fun j c hj => ?_⟩
        match j, hj with
        | 0, hj => simp [Twn.row] at hj; subst hj; exact hr 0 _ rfl
        | 1, hj => simp [Twn.row] at hj; subst hj; exact (cSl rRm).ok h1 hok (hr 1 _ rfl)
        | j + 2, hj => simp [Twn.row] at hj
      · cases h
    · cases h
theorem Twn.cold (l : List Twn) : coldR (l.map Twn.row) = l.map Twn.row := by
  induction l with
  | nil => simp [coldR]
  | cons e l ih => simp [coldR, coldC, AI.cold, ih, Twn.row, Rm.cold, irow_cold]
theorem Twn.hcold (l : List Twn) : coldR (l.map Twn.hrow) = l.map Twn.row := by
  induction l with
  | nil => simp [coldR]
  | cons e l ih => simp [coldR, coldC, AI.cold, ih, Twn.row, Twn.hrow, Rm.cold, irow_cold]
theorem Twn.mapM (l : List Twn) : (l.map Twn.row).mapM twnDec = some l := mapM_dec rTwn l
theorem Twn.mapMc (l : List Twn) : l.mapM (twnDec ∘ Twn.row) = some l := mapM_dec' rTwn l
theorem Twn.hmapM (l : List Twn) : (l.map Twn.hrow).mapM twnDec = some l := by
  rw [List.mapM_map]
  have : twnDec ∘ Twn.hrow = twnDec ∘ Twn.row := by funext e; simp [Function.comp, Twn.dec_row, Twn.dec_hrow]
  rw [this]; exact Twn.mapMc l
theorem Twn.hmapMc (l : List Twn) : l.mapM (twnDec ∘ Twn.hrow) = some l := by
  have := Twn.hmapM l
  rwa [List.mapM_map] at this
theorem Twn.view (H : Heap) (n : Nat) (e : Twn) : List.map (AI.view H n) e.row = e.row := by cases n <;> simp [Twn.row, AI.view]
theorem Twn.viewc (H : Heap) (n : Nat) : List.map (AI.view H n) ∘ Twn.row = Twn.row := by funext e; exact Twn.view H n e
theorem Twn.hview (H : Heap) (n : Nat) (e : Twn) : List.map (AI.view H n) e.hrow = e.hrow := by cases n <;> simp [Twn.hrow, AI.view]
theorem Twn.hviewc (H : Heap) (n : Nat) : List.map (AI.view H n) ∘ Twn.hrow = Twn.hrow := by funext e; exact Twn.hview H n e
theorem Twn.hotR (l : List Twn) : AI.hotR (l.map Twn.hrow) = true := by
  induction l with
  | nil => simp [AI.hotR]
  | cons e l ih => simp [AI.hotR, hotC, hot, ih, Twn.hrow, Rm.hotR, irow_hotR]
theorem Twn.ren (n : Nat) (th : List Nat) (e : Twn) : List.map (AI.ren n th) e.row = e.row := by simp [Twn.row, AI.ren]
theorem Twn.renc (n : Nat) (th : List Nat) : List.map (AI.ren n th) ∘ Twn.row = Twn.row := by funext e; exact Twn.ren n th e
theorem Twn.low (n : Nat) (e : Twn) : e.row.all (lowA n) = true := by simp [Twn.row, lowA]
theorem Twn.hlow (n : Nat) (e : Twn) : e.hrow.all (lowA n) = true := by simp [Twn.hrow, lowA]
attribute [local simp] Twn.hlow Twn.eta Twn.dec_row Twn.dec_hrow Twn.cold Twn.hcold Twn.mapM Twn.mapMc Twn.hmapM Twn.hmapMc Twn.view Twn.viewc Twn.hview Twn.hviewc Twn.hotR Twn.ren Twn.renc Twn.low

theorem ishl_pw {o : Int} (h0 : 0 ≤ o) (h6 : o ≤ 6) : ishl .i64 1 o = pw o := by
  rcases pw6 h0 h6 with rfl | rfl | rfl | rfl | rfl | rfl | rfl <;> decide +kernel
def twBud (a b : Rm) : Bool := a.order == b.order && ixor .i64 a.at_ b.at_ == ishl .i64 1 a.order
theorem xor_tab : ∀ o : Fin 7, ∀ a b : Fin 64, (2 ^ o.val ∣ a.val) → (2 ^ o.val ∣ b.val) →
    (ixor .i64 (a.val : Int) (b.val : Int) = ((2 ^ o.val : Nat) : Int) ↔ ((b.val = a.val + 2 ^ o.val ∧ 2 ^ (o.val + 1) ∣ a.val) ∨ (a.val = b.val + 2 ^ o.val ∧ 2 ^ (o.val + 1) ∣ b.val))) := by
  decide +kernel
theorem pw_nat (o : Int) : pw o = ((2 ^ o.toNat : Nat) : Int) := by unfold pw; simp
theorem bud_nat {o a b : Nat} (ho : o < 7) (ha : a < 64) (hb : b < 64) (d1 : 2 ^ o ∣ a) (d2 : 2 ^ o ∣ b) :
    (ixor .i64 (a : Int) (b : Int) = ((2 ^ o : Nat) : Int) ↔ ((b = a + 2 ^ o ∧ 2 ^ (o + 1) ∣ a) ∨ (a = b + 2 ^ o ∧ 2 ^ (o + 1) ∣ b))) := xor_tab ⟨o, ho⟩ ⟨a, ha⟩ ⟨b, hb⟩ d1 d2
theorem bud_key {o a b : Int} (o0 : 0 ≤ o) (o6 : o ≤ 6) (a0 : 0 ≤ a) (a6 : a < 64) (b0 : 0 ≤ b) (b6 : b < 64) (d1 : pw o ∣ a) (d2 : pw o ∣ b) :
    (ixor .i64 a b = pw o ↔ ((b = a + pw o ∧ pw (o + 1) ∣ a) ∨ (a = b + pw o ∧ pw (o + 1) ∣ b))) := by
  obtain ⟨o, rfl⟩ := Int.eq_ofNat_of_zero_le o0
  obtain ⟨a, rfl⟩ := Int.eq_ofNat_of_zero_le a0
  obtain ⟨b, rfl⟩ := Int.eq_ofNat_of_zero_le b0
  have e1 : pw (o : Int) = ((2 ^ o : Nat) : Int) := by rw [pw_nat]; simp
  have e2 : pw ((o : Int) + 1) = ((2 ^ (o + 1) : Nat) : Int) := by rw [pw_nat, show ((o : Int) + 1).toNat = o + 1 by omega]
  rw [e1] at d1 d2 ⊢
  rw [e2]
  rw [bud_nat (by omega) (by omega) (by omega) (Int.natCast_dvd_natCast.1 d1) (Int.natCast_dvd_natCast.1 d2)]
  rw [Int.natCast_dvd_natCast, Int.natCast_dvd_natCast, ← Int.natCast_add, ← Int.natCast_add, Int.natCast_inj, Int.natCast_inj]
theorem twBud_iff {N : Int} (hN : N ≤ 6) {x r : Rm} (hx : Fit N x) (hr : Fit N r) : twBud x r = true ↔ Bud x r := by
  obtain ⟨x1, x2, x3, x4, x5⟩ := hx
  obtain ⟨r1, r2, r3, r4, r5⟩ := hr
  have p1 := pw_pos x.order
  have p2 := pw_pos r.order
  have p3 := pw_le64 hN
  unfold twBud Bud
  rw [ishl_pw x1 (by omega)]
  simp only [Rm.end_] at *
  simp only [Bool.and_eq_true, beq_iff_eq]
  by_cases h1 : x.order = r.order
  · simp only [h1, true_and]
    rw [h1] at x5
    exact bud_key r1 (by omega) x3 (by omega) r3 (by omega) x5 r5
  · simp [h1]
/-- Check, room by room -/
def twOne (N e : Int) (p : Option Rm) (r : Rm) : Prop := 0 ≤ r.order ∧ r.order ≤ N ∧ e ≤ r.at_ ∧ r.at_ ≤ pw N - pw r.order ∧ r.at_.tmod (pw r.order) = 0 ∧ ∀ b, p = some b → twBud b r = false
instance (N e : Int) (p : Option Rm) (r : Rm) : Decidable (twOne N e p r) := by
  unfold twOne
  cases p with
  | none => exact decidable_of_iff (0 ≤ r.order ∧ r.order ≤ N ∧ e ≤ r.at_ ∧ r.at_ ≤ pw N - pw r.order ∧ r.at_.tmod (pw r.order) = 0) (by simp)
  | some b => exact decidable_of_iff (0 ≤ r.order ∧ r.order ≤ N ∧ e ≤ r.at_ ∧ r.at_ ≤ pw N - pw r.order ∧ r.at_.tmod (pw r.order) = 0 ∧ twBud b r = false) (by simp)
def twGo (N : Int) : Int → Option Rm → List Rm → Bool
  | _, _, [] => true
  | e, p, r :: l => decide (twOne N e p r) && twGo N r.end_ (some r) l
def twCheck (t : Twn) : Int := if t.order < 0 ∨ 6 < t.order then 1 else if twGo t.order 0 none t.free = true then 0 else 3
theorem tmod_dvd {a b : Int} : a.tmod b = 0 ↔ b ∣ a := ⟨Int.dvd_of_tmod_eq_zero, Int.tmod_eq_zero_of_dvd⟩
theorem twGo_iff {N : Int} (hN : N ≤ 6) : ∀ (l : List Rm) (e : Int) (p : Option Rm), 0 ≤ e → (∀ b, p = some b → Fit N b ∧ b.end_ = e) → (twGo N e p l = true ↔ Okl N l ∧ (∀ r ∈ l, e ≤ r.at_) ∧ ∀ b, p = some b → ∀ r ∈ l, Tw b r) := by
  intro l
  induction l with
  | nil => intro e p he hp; simp [twGo, Okl]
  | cons r l ih =>
    intro e p he hp
    have hfit : twOne N e p r ↔ Fit N r ∧ e ≤ r.at_ ∧ ∀ b, p = some b → twBud b r = false := by
      unfold twOne Fit
      simp only [Rm.end_, tmod_dvd]
      constructor
      · rintro ⟨h1, h2, h3, h4, h5, h6⟩; exact ⟨⟨h1, h2, by omega, by omega, h5⟩, h3, h6⟩
      · rintro ⟨⟨h1, h2, h3, h4, h5⟩, h6, h7⟩; exact ⟨h1, h2, h6, by omega, h5, h7⟩
    simp only [twGo, Bool.and_eq_true, decide_eq_true_eq, hfit]
    constructor
    · rintro ⟨⟨f, h2, h3⟩, h4⟩
      have fl := f.lt
      obtain ⟨i1, i2, i3⟩ := (ih r.end_ (some r) (by have := f.2.2.1; omega) (by rintro b hb; simp at hb; subst hb; exact ⟨f, rfl⟩)).1 h4
      refine ⟨okl_cons.2 ⟨f, i3 r rfl, i1⟩, ?_, ?_⟩
      · intro x hx
        rcases List.mem_cons.1 hx with rfl | hx
        · exact h2
        · have := i2 x hx; omega
      · intro b hb x hx
        obtain ⟨fb, eb⟩ := hp b hb
        rcases List.mem_cons.1 hx with rfl | hx
        · refine ⟨by omega, fun hbud => ?_⟩
          have := h3 b hb
          rw [(twBud_iff hN fb f).2 hbud] at this
          cases this
        · have h5 := i2 x hx
          refine ⟨by omega, fun hbud => ?_⟩
          have fx := i1.1 x hx
          obtain ⟨g1, ⟨g2, _⟩ | ⟨g2, _⟩⟩ := hbud
          · omega
          · have := fb.lt; have := fx.lt; omega
    · rintro ⟨h1, h2, h3⟩
      obtain ⟨f, t, ok⟩ := okl_cons.1 h1
      refine ⟨⟨f, h2 r (by simp), fun b hb => ?_⟩, (ih r.end_ (some r) (by have := f.lt; have := f.2.2.1; omega) (by rintro b hb; simp at hb; subst hb; exact ⟨f, rfl⟩)).2 ⟨ok, fun x hx => (t x hx).1, by rintro b hb; simp at hb; subst hb; exact t⟩⟩
      have := (h3 b hb r (by simp)).2
      rw [← twBud_iff hN (hp b hb).1 f] at this
      simpa using this
theorem twCheck_ok {t : Twn} : twCheck t = 0 ↔ 0 ≤ t.order ∧ t.order ≤ 6 ∧ Okl t.order t.free := by
  unfold twCheck
  split
  · rename_i h; simp; omega
  · rename_i h
    have := twGo_iff (N := t.order) (by omega) t.free 0 none (by omega) (by simp)
    split
    · rename_i h2
      simp
      exact ⟨by omega, by omega, (this.1 h2).1⟩
    · rename_i h2
      simp
      intro h3 h4 h5
      exact h2 (this.2 ⟨h5, fun r hr => (h5.1 r hr).2.2.1, by simp⟩)
theorem okl_len {N : Int} (hN : N ≤ 6) {l : List Rm} (h : Okl N l) : l.length ≤ 64 := by
  have key : ∀ (l : List Rm) (e : Int), Okl N l → (∀ r ∈ l, e ≤ r.at_) → 0 ≤ e → e ≤ pw N → (l.length : Int) ≤ pw N - e := by
    intro l
    induction l with
    | nil => intro e _ _ _ h; simp; omega
    | cons r l ih =>
      intro e h1 h2 h3 h4
      obtain ⟨f, t, ok⟩ := okl_cons.1 h1
      have := ih r.end_ ok (fun x hx => (t x hx).1) (by have := f.lt; have := f.2.2.1; omega) f.2.2.2.1
      have := f.lt
      have := h2 r (by simp)
      simp; omega
  have := key l 0 h (fun r hr => (h.1 r hr).2.2.1) (by omega) (by have := pw_pos N; omega)
  have := pw_le64 hN
  omega
end
section
attribute [local simp] Rm.eta Rm.cold Rm.mapM Rm.mapMc Rm.view Rm.viewc Rm.hotR Rm.ren Rm.renc Rm.low Rm.tau Rm.tauc Rm.bare Rm.flat Rm.flat1 Rm.mapMt Rm.mapMd Rm.coldt Rm.coldd Rm.hotRt Rm.hotRd
attribute [local simp] Twn.eta Twn.dec_row Twn.dec_hrow Twn.cold Twn.hcold Twn.mapM Twn.mapMc Twn.hmapM Twn.hmapMc Twn.view Twn.viewc Twn.hview Twn.hviewc Twn.hotR Twn.ren Twn.renc Twn.low Twn.hlow
theorem bud_pure : PureOk Try.prog 122 (argM (cAgg rRm) fun a => argM (cAgg rRm) fun b => finM (if 0 ≤ a.order then some (.v (.bool (twBud a b))) else none)) := by
  refine pure2 Try.func122 rfl ?_
  rintro a b r hr
  by_cases hc : 0 ≤ a.order
  case neg => rw [if_neg hc] at hr; cases hr
  rw [if_pos hc] at hr
  simp only [Option.some.injEq] at hr
  subst hr
  refine body_gen noOrc_ok fxMix (by kernel_rfl) (by simp [Try.ntmps122]) ?_
  intro C cP cI cN cD cF cA cR cL
  replace cI : C.inl = fun _ => false := cI
  replace cR : C.rd = fun _ => none := cR
  replace cD : C.dyn = fun _ => [] := cD
  clear cP cN cF cA
  by_cases h : a.order = b.order
  · have hc' : 0 ≤ b.order := by omega
    have h' : (a.order == b.order) = true := by simp [h]
    simp [Try.ntmps122, Try.results122, cSl, cI, cD, cR, rRm, Rm.row, twBud, h, hc', h']
  · have h' : (a.order == b.order) = false := by simp [h]
    simp [Try.ntmps122, Try.results122, cSl, cI, cD, cR, rRm, Rm.row, twBud, h, h']
def prevR (l : List Rm) (k : Nat) : Option Rm := match k with | 0 => none | j + 1 => l[j]?
def endR (l : List Rm) (k : Nat) : Int := match prevR l k with | none => 0 | some b => b.end_
theorem prevR_succ {l : List Rm} {k : Nat} (hk : k < l.length) : prevR l (k + 1) = some l[k] := by simp [prevR, hk]
theorem endR_succ {l : List Rm} {k : Nat} (hk : k < l.length) : endR l (k + 1) = l[k].end_ := by simp [endR, prevR_succ hk]
theorem prevR_pos {l : List Rm} {k : Nat} (h0 : ¬ k = 0) (hk : k < l.length) : ∃ hj : k - 1 < l.length, prevR l k = some l[k - 1] := by
  refine ⟨by omega, ?_⟩
  cases k with
  | zero => exact absurd rfl h0
  | succ j => simp [prevR, show j < l.length by omega]
theorem twCheck_pure : PureOk Try.prog 117 (argM (cAgg rTwn) fun t => finM (some (.v (.int .i64 (twCheck t))))) := by
  refine pure1 Try.func117 rfl ?_
  rintro t r hr
  simp only [Option.some.injEq] at hr
  subst hr
  refine body_gen (noOrc_ok.withP bud_pure) fxMix (by kernel_rfl) (by simp [Try.ntmps117]) ?_
  intro C cP cI cN cD cF cA cR cL
  have cp0 := orcP bud_pure (C := C) (by rw [cP]; rfl)
  replace cI : C.inl = fun _ => false := cI
  replace cR : C.rd = fun _ => none := cR
  replace cD : C.dyn = fun _ => [] := cD
  clear cP cN cF cA
  obtain ⟨N, l⟩ := t
  unfold twCheck
  simp only
  by_cases h1 : N < 0
  · simp [Try.ntmps117, Try.results117, cSl, cp0, cI, cD, cR, rTwn, Twn.row, h1]
  · by_cases h2 : 6 < N
    · simp [Try.ntmps117, Try.results117, cSl, cp0, cI, cD, cR, rTwn, Twn.row, h1, h2]
    · have hN0 : 0 ≤ N := by omega
      have hN6 : N ≤ 6 := by omega
      have hNs := ishl_pw hN0 hN6
      have pN := pw_le64 hN6
      have pN0 := pw_pos N
      simp [Try.ntmps117, Try.results117, cSl, cp0, cI, cD, cR, rTwn, Twn.row, h1, h2]
      refine loop_forB l.length (fun k (_ : Unit) => ([(1, .ptr 0 2 0 0), (3, .v (.int .i64 (endR l k))), (15, .fsl false 2 (l.map Rm.row)), (16, .v (.int .i64 l.length)), (17, .v (.int .i64 k))], [some (2, [Twn.row ⟨N, l⟩])])) (fun k _ => twGo N (endR l k) (prevR l k) (l.drop k) = twGo N 0 none l ∧ (k : Int) ≤ endR l k ∧ endR l k ≤ pw N ∧ ∀ b, prevR l k = some b → Fit N b ∧ b.end_ = endR l k) () (by rintro k _ _ ⟨_, h, h', _⟩; omega) ⟨rfl, by simp [endR, prevR], by simp [endR, prevR]; omega, by simp [prevR]⟩ (by simp [Twn.row, endR, prevR]) ?_ ?_
      · rintro k _ hk ⟨hall, hke, heN, hfit⟩ hw
        rw [List.drop_eq_getElem_cons hk, twGo] at hall
        have hkw : k < 4294967296 := by omega
        have hp1 := prevR_succ hk
        have he1 := endR_succ hk
        generalize hx : l[k] = x at *
        by_cases c1 : x.order < 0
        · have hF : twGo N 0 none l = false := by
            have hn : ¬ twOne N (endR l k) (prevR l k) x := by rintro ⟨g1, g2, g3, g4, g5, g6⟩; omega
            rw [← hall]; simp [hn]
          simp [Try.ntmps117, Try.results117, cSl, cp0, cI, cD, cR, hk, hw, hx, Rm.row, Twn.row, c1, hF]
        by_cases c2 : N < x.order
        · have hF : twGo N 0 none l = false := by
            have hn : ¬ twOne N (endR l k) (prevR l k) x := by rintro ⟨g1, g2, g3, g4, g5, g6⟩; omega
            rw [← hall]; simp [hn]
          simp [Try.ntmps117, Try.results117, cSl, cp0, cI, cD, cR, hk, hw, hx, Rm.row, Twn.row, c1, c2, hF]
        by_cases c3 : x.at_ < endR l k
        · have hF : twGo N 0 none l = false := by
            have hn : ¬ twOne N (endR l k) (prevR l k) x := by rintro ⟨g1, g2, g3, g4, g5, g6⟩; omega
            rw [← hall]; simp [hn]
          simp [Try.ntmps117, Try.results117, cSl, cp0, cI, cD, cR, hk, hw, hx, Rm.row, Twn.row, c1, c2, c3, hF]
        have ho0 : 0 ≤ x.order := by omega
        have ho6 : x.order ≤ 6 := by omega
        have hos := ishl_pw ho0 ho6
        have po := pw_le64 ho6
        have po0 := pw_pos x.order
        have hwd : IntKind.i64.wrap (pw N - pw x.order) = pw N - pw x.order := w64 (by omega) (by omega)
        by_cases c4 : pw N - pw x.order < x.at_
        · have hF : twGo N 0 none l = false := by
            have hn : ¬ twOne N (endR l k) (prevR l k) x := by rintro ⟨g1, g2, g3, g4, g5, g6⟩; omega
            rw [← hall]; simp [hn]
          simp [Try.ntmps117, Try.results117, cSl, cp0, cI, cD, cR, hk, hw, hx, Rm.row, Twn.row, c1, c2, c3, c4, hF, hN0, ho0, hNs, hos, hwd]
        have hne : ¬ pw x.order = 0 := by omega
        have hwe : IntKind.i64.wrap (x.at_ + pw x.order) = x.end_ := by rw [w64 (by omega) (by omega)]; rfl
        by_cases c5 : x.at_.tmod (pw x.order) = 0
        case neg =>
          have hF : twGo N 0 none l = false := by rw [← hall]; simp [twOne, c5]
          simp [Try.ntmps117, Try.results117, cSl, cp0, cI, cD, cR, hk, hw, hx, Rm.row, Twn.row, c1, c2, c3, c4, c5, hF, hN0, ho0, hNs, hos, hwd, hne]
        have hfx : Fit N x := ⟨ho0, by omega, by omega, by simp only [Rm.end_]; omega, Int.dvd_of_tmod_eq_zero c5⟩
        have hlt := hfx.lt
        have hin : (k : Int) + 1 ≤ x.end_ ∧ x.end_ ≤ pw N ∧ Fit N x := ⟨by omega, hfx.2.2.2.1, hfx⟩
        by_cases q0 : k = 0
        · have q0n : ¬ 0 < k := by omega
          have hone : twOne N (endR l k) (prevR l k) x := ⟨ho0, by omega, by omega, by omega, c5, by rw [q0]; simp [prevR]⟩
          simp only [hone, decide_true, Bool.true_and] at hall
          simp [Try.ntmps117, Try.results117, cSl, cp0, cI, cD, cR, hk, hw, hx, Rm.row, Twn.row, c1, c2, c3, c4, c5, hN0, ho0, hNs, hos, hwd, hne, hwe, q0n, hp1, he1]
          exact ⟨hall, hin⟩
        · obtain ⟨hj, hp⟩ := prevR_pos q0 hk
          have hjw : IntKind.i64.wrap ((k : Int) - 1) = ((k - 1 : Nat) : Int) := by rw [w64 (by omega) (by omega)]; omega
          have hfp := (hfit _ hp).1
          have hp0 : 0 ≤ l[k - 1].order := hfp.1
          by_cases c6 : twBud l[k - 1] x = true
          · have hF : twGo N 0 none l = false := by rw [← hall]; simp [twOne, hp, c6]
            simp [Try.ntmps117, Try.results117, cSl, cp0, cI, cD, cR, hk, hj, hw, hx, Rm.row, rRm, rmDec, Twn.row, c1, c2, c3, c4, c5, c6, hN0, ho0, hNs, hos, hwd, hne, hwe, q0, hjw, hp0, hF]
          · simp only [Bool.not_eq_true] at c6
            have hone : twOne N (endR l k) (prevR l k) x := ⟨ho0, by omega, by omega, by omega, c5, by rw [hp]; simp [c6]⟩
            simp only [hone, decide_true, Bool.true_and] at hall
            simp [Try.ntmps117, Try.results117, cSl, cp0, cI, cD, cR, hk, hj, hw, hx, Rm.row, rRm, rmDec, Twn.row, c1, c2, c3, c4, c5, c6, hN0, ho0, hNs, hos, hwd, hne, hwe, q0, hjw, hp0, hp1, he1]
            exact ⟨hall, hin⟩
      · rintro _ ⟨hall, _, _, _⟩
        simp only [List.drop_length, twGo] at hall
        simp [Try.ntmps117, Try.results117, cSl, cp0, cI, cD, cR, ← hall]
end
section
attribute [local simp] Rm.eta Rm.cold Rm.mapM Rm.mapMc Rm.view Rm.viewc Rm.hotR Rm.ren Rm.renc Rm.low Rm.tau Rm.tauc Rm.bare Rm.flat Rm.flat1 Rm.mapMt Rm.mapMd Rm.coldt Rm.coldd Rm.hotRt Rm.hotRd
attribute [local simp] Twn.eta Twn.dec_row Twn.dec_hrow Twn.cold Twn.hcold Twn.mapM Twn.mapMc Twn.hmapM Twn.hmapMc Twn.view Twn.viewc Twn.hview Twn.hviewc Twn.hotR Twn.ren Twn.renc Twn.low Twn.hlow
def twE : Except Int Twn → AVal
  | .ok t => .tup [.agg t.hrow, .v (.int .i64 0)]
  | .error e => .v (.tuple #[.agg #[.int .i64 0, .slice none 0 0], .int .i64 e])
def twNew (o : Int) : Except Int Twn := if o < 0 ∨ 6 < o then .error 1 else .ok ⟨o, [⟨0, o⟩]⟩
def sumP (l : List Rm) : Int := (l.map fun r => pw r.order).sum
def maxO (l : List Rm) : Int := l.foldl (fun b r => max b r.order) (-1)
theorem sumP_take {l : List Rm} {k : Nat} (hk : k < l.length) : sumP (l.take (k + 1)) = sumP (l.take k) + pw l[k].order := by
  unfold sumP
  rw [List.take_succ_eq_append_getElem hk, List.map_append, List.sum_append]; simp
theorem maxO_take {l : List Rm} {k : Nat} (hk : k < l.length) : maxO (l.take (k + 1)) = max (maxO (l.take k)) l[k].order := by
  unfold maxO
  rw [List.take_succ_eq_append_getElem hk, List.foldl_append]; rfl
theorem okl_sum {N : Int} : ∀ (l : List Rm) (e : Int), Okl N l → (∀ r ∈ l, e ≤ r.at_) → e ≤ pw N → sumP l ≤ pw N - e := by
  intro l
  induction l with
  | nil => intro e _ _ h; simp [sumP]; omega
  | cons r l ih =>
    intro e h1 h2 h4
    obtain ⟨f, t, ok⟩ := okl_cons.1 h1
    have := ih r.end_ ok (fun x hx => (t x hx).1) f.2.2.2.1
    have := h2 r (by simp)
    simp only [sumP, List.map_cons, List.sum_cons, Rm.end_] at *
    omega
theorem sumP_nn (l : List Rm) : 0 ≤ sumP l := by
  induction l with
  | nil => simp [sumP]
  | cons r l ih =>
    have := pw_pos r.order
    simp only [sumP, List.map_cons, List.sum_cons] at *
    omega
theorem okl_take {N : Int} {l : List Rm} (h : Okl N l) (k : Nat) : Okl N (l.take k) := ⟨fun r hr => h.1 r (List.mem_of_mem_take hr), h.2.sublist (List.take_sublist _ _)⟩
theorem twMost_pure : PureOk Try.prog 114 (argM (cAgg rTwn) fun t => finM (some (.v (if twCheck t = 0 then .tuple #[.int .i64 (maxO t.free), .int .i64 (sumP t.free), .int .i64 0] else .tuple #[.int .i64 0, .int .i64 0, .int .i64 (twCheck t)])))) := by
  refine pure1 Try.func114 rfl ?_
  rintro t r hr
  simp only [Option.some.injEq] at hr
  subst hr
  refine body_gen (noOrc_ok.withP twCheck_pure) fxMix (by kernel_rfl) (by simp [Try.ntmps114]) ?_
  intro C cP cI cN cD cF cA cR cL
  have cp0 := orcP twCheck_pure (C := C) (by rw [cP]; rfl)
  replace cI : C.inl = fun _ => false := cI
  replace cR : C.rd = fun _ => none := cR
  replace cD : C.dyn = fun _ => [] := cD
  clear cP cN cF cA
  by_cases h0 : twCheck t = 0
  · obtain ⟨g1, g2, g3⟩ := twCheck_ok.1 h0
    obtain ⟨N, l⟩ := t
    simp only at g1 g2 g3
    have hl := okl_len g2 g3
    have pN := pw_le64 g2
    simp [Try.ntmps114, Try.results114, cSl, cp0, cI, cD, cR, rTwn, twnDec, rRm, Twn.row, h0]
    refine loop_for l.length (fun k (_ : Unit) => ([(6, .v (.int .i64 (maxO (l.take k)))), (7, .v (.int .i64 (sumP (l.take k)))), (16, .fsl false 2 (l.map Rm.row)), (17, .v (.int .i64 l.length)), (18, .v (.int .i64 k))], [])) (fun k _ => True) () (by omega) trivial (by simp [maxO, sumP]) ?_ ?_
    · rintro k _ hk _ hw
      have f := g3.1 _ (List.getElem_mem hk)
      have hos := ishl_pw f.1 (by have := f.2.1; omega)
      have h1 := okl_sum (l.take (k + 1)) 0 (okl_take g3 _) (fun r hr => ((okl_take g3 (k + 1)).1 r hr).2.2.1) (by have := pw_pos N; omega)
      have h2 := sumP_nn (l.take k)
      have h3 := sumP_take hk
      have h4 := maxO_take hk
      have h5 := pw_pos l[k].order
      have w1 : IntKind.i64.wrap (sumP (l.take k) + pw l[k].order) = sumP (l.take k) + pw l[k].order := w64 (by omega) (by omega)
      have e1 : (if maxO (l.take k) < l[k].order then l[k].order else maxO (l.take k)) = max (maxO (l.take k)) l[k].order := by omega
      have e2 : (if l[k].order > maxO (l.take k) then l[k].order else maxO (l.take k)) = max (maxO (l.take k)) l[k].order := by omega
      simp [Try.ntmps114, Try.results114, cSl, cp0, cI, cD, cR, hk, hw, Rm.row, f.1, hos, w1, h3, h4, e1, e2]
    · rintro _ _
      simp [Try.ntmps114, Try.results114, cSl, cp0, cI, cD, cR]
  · simp [Try.ntmps114, Try.results114, cSl, cp0, cI, cD, cR, rTwn, twnDec, rRm, Twn.row, h0]
def meetB (r x : Rm) : Bool := decide (x.at_ < r.at_ + pw r.order) && decide (r.at_ < x.at_ + pw x.order)
def okR (x : Rm) : Prop := 0 ≤ x.order ∧ x.order ≤ 6 ∧ 0 ≤ x.at_ ∧ x.at_ ≤ 64
instance (x : Rm) : Decidable (okR x) := by unfold okR; infer_instance
def rCapR : RCod Rm := rCell (cFp rRm)
theorem meets_pure : PureOk Try.prog 176 (argM (cAgg rRm) fun x => argM (cFp rRm) fun p => finM (if okR x ∧ okR p then some (.v (.bool (meetB p x))) else none)) := by
  refine pure2 Try.func176 rfl ?_
  rintro x p r hr
  by_cases hc : okR x ∧ okR p
  case neg => rw [if_neg hc] at hr; cases hr
  rw [if_pos hc] at hr
  simp only [Option.some.injEq] at hr
  subst hr
  refine body_gen noOrc_ok fxMix (by kernel_rfl) (by simp [Try.ntmps176]) ?_
  intro C cP cI cN cD cF cA cR cL
  replace cI : C.inl = fun _ => false := cI
  replace cR : C.rd = fun _ => none := cR
  replace cD : C.dyn = fun _ => [] := cD
  clear cP cN cF cA
  obtain ⟨⟨x1, x2, x3, x4⟩, r1, r2, r3, r4⟩ := hc
  have h1 := ishl_pw x1 x2
  have h2 := ishl_pw r1 r2
  have p1 := pw_le64 x2
  have p2 := pw_le64 r2
  have q1 := pw_pos x.order
  have q2 := pw_pos p.order
  have w1 : IntKind.i64.wrap (x.at_ + pw x.order) = x.at_ + pw x.order := w64 (by omega) (by omega)
  have w2 : IntKind.i64.wrap (p.at_ + pw p.order) = p.at_ + pw p.order := w64 (by omega) (by omega)
  by_cases c : x.at_ < p.at_ + pw p.order
  · simp [Try.ntmps176, Try.results176, cSl, cI, cD, cR, rRm, Rm.row, rmDec, x1, r1, h1, h2, w1, w2, meetB, c]
  · simp [Try.ntmps176, Try.results176, cSl, cI, cD, cR, rRm, Rm.row, rmDec, x1, r1, h1, h2, w1, w2, meetB, c]
theorem meetsI_pure : PureOk Try.prog 120 (argM (cSl rRm) fun l => argM (cFn 176 rCapR) fun cp => finM (if l.length ≤ 4294967296 ∧ (∀ x ∈ l, okR x) ∧ okR cp then some (.v (.int .i64 (idxP (meetB cp) l))) else none)) := by
  refine pure2 Try.func120 rfl ?_
  rintro l cp r hr
  by_cases hc : l.length ≤ 4294967296 ∧ (∀ x ∈ l, okR x) ∧ okR cp
  case neg => rw [if_neg hc] at hr; cases hr
  rw [if_pos hc] at hr
  simp only [Option.some.injEq] at hr
  subst hr
  refine body_gen (noOrc_ok.withP meets_pure) fxMix (by kernel_rfl) (by simp [Try.ntmps120]) ?_
  intro C cP cI cN cD cF cA cR cL
  have cp0 := orcP meets_pure (C := C) (by rw [cP]; rfl)
  replace cI : C.inl = fun _ => false := cI
  replace cR : C.rd = fun _ => none := cR
  replace cD : C.dyn = fun _ => [] := cD
  clear cP cN cF cA
  obtain ⟨hc, hok, hcp⟩ := hc
  simp [Try.ntmps120, Try.results120, cSl, cp0, cI, cD, cR, rRm, rCapR]
  refine loop_for l.length (fun k (_ : Unit) => ([(0, .fsl false 2 (l.map Rm.row)), (1, .fn 176 [.fptr (Rm.row cp) 0]), (7, .v (.int .i64 l.length)), (8, .v (.int .i64 k))], [])) (fun k _ => ((l.drop k).findIdx? (meetB cp)).map (· + k) = l.findIdx? (meetB cp)) () hc (by simp) (by simp [Rm.row]) ?_ ?_
  · intro k _ hk hall hw
    have hok1 := hok _ (List.getElem_mem hk)
    by_cases q : (meetB cp) l[k] = true
    · rw [find_drop hk, if_pos q] at hall
      simp [Try.ntmps120, Try.results120, cSl, cp0, cI, cD, cR, hk, hw, rRm, rCapR, rmDec, Rm.row, q, idxP, ← hall, hok1, hcp]
    · rw [find_drop hk, if_neg q] at hall
      simp at q
      simp [Try.ntmps120, Try.results120, cSl, cp0, cI, cD, cR, hk, hw, rRm, rCapR, rmDec, Rm.row, q, hok1, hcp]
      simpa using hall
  · intro _ hall
    simp at hall
    simp [Try.ntmps120, Try.results120, cSl, cp0, cI, cD, cR, idxP, ← hall]
theorem meetsC_pure : PureOk Try.prog 177 (argM (cSl rRm) fun l => argM (cFn 176 rCapR) fun cp => finM (if l.length ≤ 4294967296 ∧ (∀ x ∈ l, okR x) ∧ okR cp then some (.v (.bool (l.any (meetB cp)))) else none)) := by
  refine pure2 Try.func177 rfl ?_
  rintro l cp r hr
  by_cases hc : l.length ≤ 4294967296 ∧ (∀ x ∈ l, okR x) ∧ okR cp
  case neg => rw [if_neg hc] at hr; cases hr
  rw [if_pos hc] at hr
  simp only [Option.some.injEq] at hr
  subst hr
  refine body_gen (noOrc_ok.withP meetsI_pure) fxMix (by kernel_rfl) (by simp [Try.ntmps177]) ?_
  intro C cP cI cN cD cF cA cR cL
  have cp0 := orcP meetsI_pure (C := C) (by rw [cP]; rfl)
  replace cI : C.inl = fun _ => false := cI
  replace cR : C.rd = fun _ => none := cR
  replace cD : C.dyn = fun _ => [] := cD
  clear cP cN cF cA
  have hc1 := hc.1
  have hc2 : (∀ x, x ∈ l → okR x) = True := eq_true hc.2.1
  have hc3 := hc.2.2
  simp [Try.ntmps177, Try.results177, cSl, cp0, cI, cD, cR, hc1, hc2, hc3, idxP_iff, rRm, rCapR, rmDec, Rm.row] <;> (rw [Bool.eq_iff_iff]; simp)
def apartB (t : Twn) (r : Rm) : Bool := decide (0 ≤ r.order ∧ r.order ≤ t.order ∧ 0 ≤ r.at_ ∧ r.at_ ≤ pw t.order - pw r.order ∧ r.at_.tmod (pw r.order) = 0) && !(t.free.any (meetB r))
theorem fit_okR {N : Int} (hN : N ≤ 6) {x : Rm} (h : Fit N x) : okR x := by
  have := pw_le64 hN
  have := h.lt
  have := h.2.2.2.1
  exact ⟨h.1, by have := h.2.1; omega, h.2.2.1, by omega⟩
theorem apart_pure : PureOk Try.prog 119 (argM (cAgg rTwn) fun t => argM (cAgg rRm) fun p => finM (if twCheck t = 0 then some (.v (.bool (apartB t p))) else none)) := by
  refine pure2 Try.func119 rfl ?_
  rintro t p r hr
  by_cases hc : twCheck t = 0
  case neg => rw [if_neg hc] at hr; cases hr
  rw [if_pos hc] at hr
  simp only [Option.some.injEq] at hr
  subst hr
  refine body_gen (noOrc_ok.withP meetsC_pure) fxMix (by kernel_rfl) (by simp [Try.ntmps119]) ?_
  intro C cP cI cN cD cF cA cR cL
  have cp0 := orcP meetsC_pure (C := C) (by rw [cP]; rfl)
  replace cI : C.inl = fun _ => false := cI
  replace cR : C.rd = fun _ => none := cR
  replace cD : C.dyn = fun _ => [] := cD
  clear cP cN cF cA
  obtain ⟨g1, g2, g3⟩ := twCheck_ok.1 hc
  obtain ⟨N, l⟩ := t
  simp only at g1 g2 g3
  have hl := okl_len g2 g3
  have hl2 : l.length ≤ 4294967296 := by omega
  have hok : (∀ x, x ∈ l → okR x) = True := eq_true fun x hx => fit_okR g2 (g3.1 x hx)
  have hNs := ishl_pw g1 g2
  have pN := pw_le64 g2
  have pN0 := pw_pos N
  by_cases c1 : 0 ≤ p.order
  case neg => simp [Try.ntmps119, Try.results119, cSl, cp0, cI, cD, cR, rTwn, Twn.row, rRm, Rm.row, apartB, c1]
  by_cases c2 : p.order ≤ N
  case neg => simp [Try.ntmps119, Try.results119, cSl, cp0, cI, cD, cR, rTwn, Twn.row, rRm, Rm.row, apartB, c1, c2]
  by_cases c3 : 0 ≤ p.at_
  case neg => simp [Try.ntmps119, Try.results119, cSl, cp0, cI, cD, cR, rTwn, Twn.row, rRm, Rm.row, apartB, c1, c2, c3]
  have c6 : p.order ≤ 6 := by omega
  have hos := ishl_pw c1 c6
  have po := pw_le64 c6
  have po0 := pw_pos p.order
  have hwd : IntKind.i64.wrap (pw N - pw p.order) = pw N - pw p.order := w64 (by omega) (by omega)
  by_cases c4 : p.at_ ≤ pw N - pw p.order
  case neg => simp [Try.ntmps119, Try.results119, cSl, cp0, cI, cD, cR, rTwn, Twn.row, rRm, Rm.row, apartB, c1, c2, c3, c4, hNs, hos, hwd, g1]
  have hne : ¬ pw p.order = 0 := by omega
  by_cases c5 : p.at_.tmod (pw p.order) = 0
  case neg => simp [Try.ntmps119, Try.results119, cSl, cp0, cI, cD, cR, rTwn, Twn.row, rRm, Rm.row, apartB, c1, c2, c3, c4, c5, hNs, hos, hwd, hne, g1]
  have hop : okR p := ⟨c1, c6, c3, by omega⟩
  simp [Try.ntmps119, Try.results119, cSl, cp0, cI, cD, cR, rTwn, Twn.row, rRm, rmDec, rCapR, Rm.row, apartB, c1, c2, c3, c4, c5, hNs, hos, hwd, hne, g1, hl2, hok, hop]
theorem meetB_off {N : Int} {l : List Rm} {r : Rm} : l.any (meetB r) = false ↔ Off l r := by
  simp only [List.any_eq_false, meetB, Bool.and_eq_true, decide_eq_true_eq, Off, Rm.end_]
  constructor
  · intro h x hx; have := h x hx; omega
  · intro h x hx; have := h x hx; omega
theorem apartB_iff {t : Twn} {r : Rm} : apartB t r = true ↔ Fit t.order r ∧ Off t.free r := by
  unfold apartB
  rw [Bool.and_eq_true, Bool.not_eq_true', meetB_off (N := t.order), decide_eq_true_eq, tmod_dvd]
  unfold Fit
  simp only [Rm.end_]
  constructor
  · rintro ⟨⟨h1, h2, h3, h4, h5⟩, h6⟩; exact ⟨⟨h1, h2, h3, by omega, h5⟩, h6⟩
  · rintro ⟨⟨h1, h2, h3, h4, h5⟩, h6⟩; exact ⟨⟨h1, h2, h3, by omega, h5⟩, h6⟩
end
section
attribute [local simp] Rm.eta Rm.cold Rm.mapM Rm.mapMc Rm.view Rm.viewc Rm.hotR Rm.ren Rm.renc Rm.low Rm.tau Rm.tauc Rm.bare Rm.flat Rm.flat1 Rm.mapMt Rm.mapMd Rm.coldt Rm.coldd Rm.hotRt Rm.hotRd
theorem rmRepOv : InlOk Try.prog 173 ovlJ := ovlJ_inl (t := 97) (r := 4) Try.func173 (by kernel_rfl) (by kernel_rfl) (by kernel_rfl) (by kernel_rfl) Try.underlying97 (sz := 2) (by kernel_rfl)
theorem rmRep : InlOk Try.prog 118 (replaceI 2) := by
  have hC := (noOrc_ok (P := Try.prog)).withI rmRepOv
  refine replace_of (z := [.v (.int .i64 0), .v (.int .i64 0)]) Try.func118 rfl (by simp [Try.ntmps118]) ?_ ?_ ?_ ?_ ?_ ?_
  · intro H id i rows h1 h2 h3 h4
    refine wpA_sound hC fxMix _ _ _ _ (by kernel_rfl) ?_
    have h1' := obj_get h1
    have g1 := (List.getElem?_eq_some_iff.1 h1').2
    have c0 : (i : Int) ≤ rows.length := by omega
    have c1 : (i : Int) + 1 ≤ rows.length := by omega
    have c2 : 0 ≤ (i : Int) + 1 := by omega
    have c3 : (i : Int) ≤ i + 1 := by omega
    have c4 : i ≤ rows.length := by omega
    have c5 : i + 1 ≤ rows.length := by omega
    have d1 : ¬ ((i : Int) = i + 1) := by omega
    have a6 : min i rows.length = i := by omega
    have e1 : (i : Int) + 1 = rows.length := by omega
    have e2 : i < rows.length := by omega
    have e3 : rows.length - i = 1 := by omega
    have e4 : i + 1 = rows.length := by omega
    have e5 : i ≤ 4294967296 := by omega
    have e6 : ¬ ((i : Int) = rows.length) := by omega
    have e7 : List.drop rows.length rows = [] := List.drop_eq_nil_of_le (by omega)
    simp [Try.ntmps118, Try.results118, noOrc, Orc.withI, h1', g1, h2, c0, c1, c2, c3, c4, c5, d1, a6, e1, e2, e3, e4, e5, e6, e7]
  · intro H id i cap rows h1 h2 h3 h4 h5
    refine wpA_sound hC fxMix _ _ _ _ (by kernel_rfl) ?_
    have h1' := obj_get h1
    have g1 := (List.getElem?_eq_some_iff.1 h1').2
    have c0 : (i : Int) ≤ rows.length := by omega
    have c1 : (i : Int) + 1 ≤ rows.length := by omega
    have c2 : 0 ≤ (i : Int) + 1 := by omega
    have c3 : (i : Int) ≤ i + 1 := by omega
    have c4 : i ≤ rows.length := by omega
    have c5 : i + 1 ≤ rows.length := by omega
    have d1 : ¬ ((i : Int) = i + 1) := by omega
    have a6 : min i rows.length = i := by omega
    have e1 : ¬ ((i : Int) + 1 = rows.length) := by omega
    have w1 : IntKind.i64.wrap (i : Int) = i := w64 (by omega) (by omega)
    have w2 : IntKind.i64.wrap ((i : Int) + ((rows.length - (i + 1) : Nat) : Int)) = ((rows.length - 1 : Nat) : Int) := by rw [w64 (by omega) (by omega)]; omega
    have e2 : ¬ (cap < rows.length - 1) := by omega
    have e3 : rows.length - 1 ≤ cap := by omega
    have e4 : i ≤ rows.length - 1 := by omega
    have e5 : rows.length - 1 ≤ rows.length := by omega
    have e6 : min (rows.length - (i + 1)) (rows.length - 1 - i) = rows.length - (i + 1) := by omega
    have e7 : i + (rows.length - (i + 1)) = rows.length - 1 := by omega
    have e8 : rows.length - (rows.length - 1) = 1 := by omega
    have e9 : i + (rows.length - 1 - i) ≤ rows.length := by omega
    have e10 : i + 1 + (rows.length - (i + 1)) ≤ rows.length := by omega
    have e11 : List.take (rows.length - (i + 1)) (List.drop (i + 1) rows) = List.drop (i + 1) rows := List.take_of_length_le (by simp)
    have e12 : List.take (rows.length - 1 - i) (List.drop (i + 1) rows) = List.drop (i + 1) rows := List.take_of_length_le (by simp; omega)
    have e13 : ∀ X : List Row, List.take (rows.length - 1) (List.take i rows ++ (List.drop (i + 1) rows ++ X)) = List.take i rows ++ List.drop (i + 1) rows := by
      intro X
      rw [← List.append_assoc, List.take_append_of_le_length (by simp; omega), List.take_of_length_le (by simp; omega)]
    have e14 : rows.length - 1 + 1 = rows.length := by omega
    have e15 : List.drop rows.length (List.take i rows ++ (List.drop (i + 1) rows ++ List.drop (rows.length - 1) rows)) = [] := List.drop_eq_nil_of_le (by simp; omega)
    have e16 : rows.length ≤ i + (rows.length - (i + 1) + 1) := by omega
    have e17 : ((rows.length - 1 : Nat) : Int) ≤ rows.length := by omega
    have e18 : ((rows.length - 1 : Nat) : Int) ≤ cap := by omega
    have e19 : ¬ ((cap : Int) < ((rows.length - 1 : Nat) : Int)) := by omega
    have e20 : (i : Int) ≤ ((rows.length - 1 : Nat) : Int) := by omega
    have e21 : (i : Int) + 1 ≤ cap := by omega
    have e22 : i ≤ cap := by omega
    have e23 : (i : Int) ≤ cap := by omega
    simp [Try.ntmps118, Try.results118, noOrc, Orc.withI, h1', g1, h2, c0, c1, c2, c3, c4, c5, d1, a6, e1, e2, e3, e4, e5, e6, e7, e8, e9, e10, e11, e12, e13, e14, e15, e16, e17, e18, e19, e20, e21, e22, e23, w1, w2, h3, h5]
  · intro H id vid i rows vr h1 h1b hne h2 h2b h3 h4 h5
    refine wpA_sound hC fxMix _ _ _ _ (by kernel_rfl) ?_
    have h1' := obj_get h1
    have g1 := (List.getElem?_eq_some_iff.1 h1').2
    have c0 : (i : Int) ≤ rows.length := by omega
    have c1 : (i : Int) + 1 ≤ rows.length := by omega
    have c2 : 0 ≤ (i : Int) + 1 := by omega
    have c3 : (i : Int) ≤ i + 1 := by omega
    have c4 : i ≤ rows.length := by omega
    have c5 : i + 1 ≤ rows.length := by omega
    have d1 : ¬ ((i : Int) = i + 1) := by omega
    have a6 : min i rows.length = i := by omega
    have h1b' := obj_get h1b
    have g1b := (List.getElem?_eq_some_iff.1 h1b').2
    have e1 : (i : Int) + 1 = rows.length := by omega
    have e2 : i < rows.length := by omega
    have e4 : i + 1 = rows.length := by omega
    have e5 : i + 1 ≤ 4294967296 := by omega
    have e6 : ¬ ((i : Int) = rows.length) := by omega
    have e7 : List.drop rows.length rows = [] := List.drop_eq_nil_of_le (by omega)
    have e8 : List.take 1 vr = vr := List.take_of_length_le (by omega)
    have e9 : rows.length ≤ 4294967296 := by omega
    simp [Try.ntmps118, Try.results118, noOrc, Orc.withI, h1', g1, h2, c0, c1, c2, c3, c4, c5, d1, a6, h1b', g1b, h2b, h5, e1, e2, e4, e5, e6, e7, e8, e9]
  · intro H id vid i rows vr h1 h1b hne h2 h2b h3 h4 h5 h6
    refine wpA_sound hC fxMix _ _ _ _ (by kernel_rfl) ?_
    have h1' := obj_get h1
    have g1 := (List.getElem?_eq_some_iff.1 h1').2
    have h1b' := obj_get h1b
    have g1b := (List.getElem?_eq_some_iff.1 h1b').2
    have c2 : 0 ≤ (i : Int) + 1 := by omega
    have c3 : (i : Int) ≤ i + 1 := by omega
    have d1 : ¬ ((i : Int) = i + 1) := by omega
    have e2 : ¬ (i + vr.length ≤ i + 1) := by omega
    have e3 : ¬ ((i : Int) + vr.length < i + 1) := by omega
    have e5 : i + vr.length ≤ 4294967296 := by omega
    have e6 : ¬ (vr.length ≤ 1) := by omega
    have e8 : List.take vr.length vr = vr := List.take_length
    have e9 : ¬ (vr.length < 1) := by omega
    have e10 : ¬ ((vr.length : Int) < 1) := by omega
    simp [Try.ntmps118, Try.results118, noOrc, Orc.withI, h1', g1, h1b', g1b, h2, h2b, h3, c2, c3, d1, e2, e3, e5, e6, e8, e9, e10]
  · intro H id vid i cap rows vr h1 h1b hne h2 h2b h3 h4 h5 h6 h7 h8
    refine wpA_sound hC fxMix _ _ _ _ (by kernel_rfl) ?_
    have h1' := obj_get h1
    have g1 := (List.getElem?_eq_some_iff.1 h1').2
    have c0 : (i : Int) ≤ rows.length := by omega
    have c1 : (i : Int) + 1 ≤ rows.length := by omega
    have c2 : 0 ≤ (i : Int) + 1 := by omega
    have c3 : (i : Int) ≤ i + 1 := by omega
    have c4 : i ≤ rows.length := by omega
    have c5 : i + 1 ≤ rows.length := by omega
    have d1 : ¬ ((i : Int) = i + 1) := by omega
    have a6 : min i rows.length = i := by omega
    have h1b' := obj_get h1b
    have g1b := (List.getElem?_eq_some_iff.1 h1b').2
    have e1 : ¬ ((i : Int) + 1 = rows.length) := by omega
    obtain ⟨k, hk⟩ : ∃ k, k = rows.length - 1 + vr.length - i := ⟨_, rfl⟩
    have w1 : IntKind.i64.wrap ((i : Int) + vr.length) = ((i + vr.length : Nat) : Int) := by rw [w64 (by omega) (by omega)]; omega
    have w2 : IntKind.i64.wrap ((i : Int) + vr.length + ((rows.length - (i + 1) : Nat) : Int)) = ((rows.length - 1 + vr.length : Nat) : Int) := by rw [w64 (by omega) (by omega)]; omega
    have w3 : IntKind.i64.wrap (((rows.length - 1 + vr.length : Nat) : Int) - i) = (k : Int) := by rw [w64 (by omega) (by omega)]; omega
    have w4 : IntKind.i64.wrap (((rows.length - 1 : Nat) : Int) + vr.length - i) = (k : Int) := by rw [w64 (by omega) (by omega)]; omega
    have e2 : cap < rows.length - 1 + vr.length := h8
    have e3 : (cap : Int) < ((rows.length - 1 : Nat) : Int) + vr.length := by omega
    have e4 : (i : Int) + 1 ≤ cap := by omega
    have e5 : i ≤ cap := by omega
    have e6 : (i : Int) ≤ cap := by omega
    have e7 : cap < i + k := by omega
    have e8 : i + k ≤ 4294967296 := by omega
    have e9 : (i : Int) ≤ ((i + k : Nat) : Int) := by omega
    have e10 : i + k - i = k := by omega
    have e11 : List.take k vr = vr := List.take_of_length_le (by omega)
    have e12 : min vr.length k = vr.length := by omega
    have e13 : ∀ X : List Row, List.drop (i + vr.length) (List.take i rows ++ X) = List.drop vr.length X := by
      intro X
      rw [List.drop_append, List.drop_eq_nil_of_le (by simp; omega)]; simp; congr 1; omega
    have e14 : List.take (rows.length - (i + 1)) (List.drop (i + 1) rows) = List.drop (i + 1) rows := List.take_of_length_le (by simp)
    have e15 : i + vr.length ≤ i + k := by omega
    have e16 : (i : Int) + vr.length ≤ i + k := by omega
    have e17 : i + k - (i + vr.length) = rows.length - (i + 1) := by omega
    have e18 : i + vr.length + (rows.length - (i + 1)) = i + k := by omega
    have e19 : ∀ X : List Row, List.take (i + vr.length) (List.take i rows ++ (vr ++ X)) = List.take i rows ++ vr := by
      intro X
      rw [← List.append_assoc, List.take_append_of_le_length (by simp; omega), List.take_of_length_le (by simp; omega)]
    have e20 : rows.length - 1 + vr.length = i + k := by omega
    have e24 : ((rows.length - 1 : Nat) : Int) + vr.length = i + k := by omega
    have e25 : (cap : Int) < i + k := by omega
    have e26 : (i : Int) ≤ i + k := by omega
    have f3 : k ≤ vr.length + (k - vr.length) := by omega
    have f4 : ∀ z : Row, List.drop (i + k) (List.take i rows ++ (vr ++ List.replicate (k - vr.length) z)) = [] := by intro z; exact List.drop_eq_nil_of_le (by simp; omega)
    have f1 : ∀ l, (H ++ l)[vid]? = some (some (2, vr)) := by intro l; rw [List.getElem?_append_left h2b, h1b']
    have f2 : ∀ l, (H ++ l)[id]? = some (some (2, rows)) := by intro l; rw [List.getElem?_append_left h2, h1']
    have e27 : 0 ≤ (i : Int) + k := by omega
    have e28 : ((i : Int) + k).toNat = i + k := by omega
    have e29 : ((i : Int) + vr.length).toNat = i + vr.length := by omega
    have w5 : IntKind.i64.wrap ((i : Int) + k - i) = k := by rw [w64 (by omega) (by omega)]; omega
    have w6 : IntKind.i64.wrap ((i : Int) + vr.length + ((rows.length - (i + 1) : Nat) : Int)) = (i : Int) + k := by rw [w64 (by omega) (by omega)]; omega
    have e21 : 0 ≤ (i : Int) + vr.length := by omega
    have e22 : i + 1 + (rows.length - (i + 1)) ≤ rows.length := by omega
    have e23 : 0 < k := by omega
    simp [Try.ntmps118, Try.results118, noOrc, Orc.withI, h1', g1, h2, c0, c1, c2, c3, c4, c5, d1, a6, h2b, h1b', g1b, h3, h7, e1, e4, e5, e6, e7, e8, e9, e10, e11, e12, e13, e14, e15, e16, e17, e18, e19, e20, e21, e22, e23, e24, e25, e26, e27, e28, e29, f1, f2, f3, f4, w1, w3, w4, w5, w6]
  · intro H id vid i cap rows vr jr h1 h1b hne h2 h2b h3 h4 h5 h6 h7
    refine wpA_sound hC fxMix _ _ _ _ (by kernel_rfl) ?_
    have h1' := obj_get h1
    have g1 := (List.getElem?_eq_some_iff.1 h1').2
    have c0 : (i : Int) ≤ rows.length := by omega
    have c1 : (i : Int) + 1 ≤ rows.length := by omega
    have c2 : 0 ≤ (i : Int) + 1 := by omega
    have c3 : (i : Int) ≤ i + 1 := by omega
    have c4 : i ≤ rows.length := by omega
    have c5 : i + 1 ≤ rows.length := by omega
    have d1 : ¬ ((i : Int) = i + 1) := by omega
    have a6 : min i rows.length = i := by omega
    have h1b' := obj_get h1b
    have g1b := (List.getElem?_eq_some_iff.1 h1b').2
    have e1 : ¬ ((i : Int) + 1 = rows.length) := by omega
    have e4 : (i : Int) + 1 ≤ cap := by omega
    have e5 : i ≤ cap := by omega
    have e6 : (i : Int) ≤ cap := by omega
    have d0 : ¬ vid = id := fun h => hne h.symm
    by_cases hm : vr.length = 1
    · have hj : jr = [] := List.length_eq_zero_iff.1 (by omega)
      subst hj
      clear g1 g1b
      obtain ⟨x, rfl⟩ := List.length_eq_one_iff.1 hm
      rw [List.append_nil] at h1 h1'
      have g1 := (List.getElem?_eq_some_iff.1 h1').2
      have g1b := (List.getElem?_eq_some_iff.1 h1b').2
      have w1 : IntKind.i64.wrap ((i : Int) + 1) = (i : Int) + 1 := w64 (by omega) (by omega)
      have w2 : IntKind.i64.wrap ((i : Int) + 1 + ((rows.length - (i + 1) : Nat) : Int)) = (rows.length : Int) := by rw [w64 (by omega) (by omega)]; omega
      have e7 : ¬ ((cap : Int) < rows.length) := by omega
      have e8 : (rows.length : Int) ≤ cap := by omega
      have e9 : rows.length - 1 + 1 = rows.length := by omega
      have e10 : List.take (rows.length - i) [x] = [x] := List.take_of_length_le (by simp; omega)
      have e11 : min 1 (rows.length - i) = 1 := by omega
      have e12 : ¬ (cap < rows.length) := by omega
      have e13 : i + (rows.length - i) ≤ rows.length := by omega
      have e14 : ∀ X : List Row, List.drop (i + 1) (List.take i rows ++ x :: X) = X := by
        intro X
        have hl : (List.take i rows).length = i := by simp; omega
        rw [List.drop_append, List.drop_eq_nil_of_le (by omega), hl, show i + 1 - i = 1 by omega]; simp
      have e16 : List.take (rows.length - (i + 1)) (List.drop (i + 1) rows) = List.drop (i + 1) rows := List.take_of_length_le (by simp)
      have e17 : ∀ X : List Row, List.take (i + 1) (List.take i rows ++ x :: X) = List.take i rows ++ [x] := by
        intro X
        have hl : (List.take i rows).length = i := by simp; omega
        rw [List.take_append, List.take_of_length_le (by omega), hl, show i + 1 - i = 1 by omega]; simp
      have e18 : i + 1 + (rows.length - (i + 1)) = rows.length := by omega
      have e19 : List.drop rows.length (List.take i rows ++ x :: List.drop (i + 1) rows) = [] := List.drop_eq_nil_of_le (by simp; omega)
      have e20 : List.take rows.length (List.take i rows ++ x :: List.drop (i + 1) rows) = List.take i rows ++ x :: List.drop (i + 1) rows := List.take_of_length_le (by simp; omega)
      have e21 : i + (rows.length - (i + 1) + 1) = rows.length := by omega
      have e22 : (i : Int) ≤ rows.length := by omega
      have e24 : rows.length ≤ i + (rows.length - (i + 1) + 1) := by omega
      have e25 : rows.length - rows.length = 0 := by omega
      simp [Try.ntmps118, Try.results118, noOrc, Orc.withI, h1', g1, h2, c0, c1, c2, c3, c4, c5, d1, a6, h2b, h1b', g1b, h3, d0, e1, e4, e5, e6, e7, e8, e9, e10, e11, e12, e13, e14, e16, e17, e18, e19, e20, e21, e22, e24, w1, w2]
    · obtain ⟨k, hk⟩ : ∃ k, k = rows.length - 1 + vr.length - i := ⟨_, rfl⟩
      have w1 : IntKind.i64.wrap ((i : Int) + vr.length) = ((i + vr.length : Nat) : Int) := by rw [w64 (by omega) (by omega)]; omega
      have w2 : IntKind.i64.wrap ((i : Int) + vr.length + ((rows.length - (i + 1) : Nat) : Int)) = (i : Int) + k := by rw [w64 (by omega) (by omega)]; omega
      have f1 : ¬ ((cap : Int) < i + k) := by omega
      have f2 : (i : Int) + k ≤ cap := by omega
      have f3 : ¬ ((i : Int) + vr.length ≤ i + 1) := by omega
      have f4 : rows.length - 1 + vr.length = i + k := by omega
      have f5 : ¬ (vr.length ≤ 1) := by omega
      have f6 : (i : Int) + vr.length ≤ i + k := by omega
      have f7 : i + vr.length ≤ i + k := by omega
      have f8 : i + vr.length < i + k := by omega
      have f9 : 0 < vr.length := by omega
      have f10 : 0 ≤ (i : Int) + vr.length := by omega
      have f11 : i + k - (i + vr.length) = rows.length - (i + 1) := by omega
      have f12 : 0 < rows.length - (i + 1) := by omega
      have hrj : (rows ++ jr).length = i + k := by simp; omega
      have f13 : List.take (rows.length - (i + 1)) (List.drop (i + 1) (rows ++ jr)) = List.drop (i + 1) rows := by
        rw [List.drop_append_of_le_length (by omega), List.take_append_of_le_length (by simp), List.take_of_length_le (by simp)]
      have f14 : i + vr.length + (rows.length - (i + 1)) = i + k := by omega
      have f15 : List.drop (i + k) (rows ++ jr) = [] := List.drop_eq_nil_of_le (by omega)
      have f16 : rows.length + jr.length = i + k := by omega
      have f17 : i + 1 + (rows.length - (i + 1)) ≤ i + k := by omega
      have f18 : i + k - i = k := by omega
      have f19 : List.take k vr = vr := List.take_of_length_le (by omega)
      have f20 : min vr.length k = vr.length := by omega
      have f21 : ∀ X : List Row, List.drop (i + vr.length) (List.take (i + vr.length) (rows ++ jr) ++ X) = X := by
        intro X
        rw [List.drop_append, List.drop_eq_nil_of_le (by simp; omega)]
        have : (List.take (i + vr.length) (rows ++ jr)).length = i + vr.length := by simp; omega
        rw [this]; simp
      have f22 : ∀ X : List Row, List.take i (List.take (i + vr.length) (rows ++ jr) ++ X) = List.take i rows := by
        intro X
        rw [List.take_append_of_le_length (by simp; omega), List.take_take, Nat.min_eq_left (by omega), List.take_append_of_le_length (by omega)]
      have f23 : min (i + vr.length) (i + k) = i + vr.length := by omega
      have f24 : i + vr.length + (rows.length - (i + 1)) ≤ i + k := by omega
      have f26 : (i : Int) ≤ i + k := by omega
      have f30 : rows.length ≤ i + k := by omega
      have f31 : List.take (rows.length - (i + 1)) (List.drop (i + 1) rows) = List.drop (i + 1) rows := List.take_of_length_le (by simp)
      have f27 : 0 ≤ (i : Int) + k := by omega
      have f28 : ((i : Int) + k).toNat = i + k := by omega
      have f29 : ((i : Int) + vr.length).toNat = i + vr.length := by omega
      have f25 : min (rows.length - (i + 1)) (rows.length - (i + 1)) = rows.length - (i + 1) := by omega
      simp [Try.ntmps118, Try.results118, noOrc, Orc.withI, h1', g1, h2, c0, c1, c2, c3, c4, c5, d1, a6, h2b, h1b', g1b, h3, d0, hne, e1, e4, e5, e6, w1, w2, f1, f2, f3, f4, f5, f6, f7, f8, f9, f10, f11, f12, f13, f14, f15, f16, f17, f18, f19, f20, f21, f22, f23, f26, f27, f28, f29, f30, f31]
end
section
attribute [local simp] Rm.eta Rm.cold Rm.mapM Rm.mapMc Rm.view Rm.viewc Rm.hotR Rm.ren Rm.renc Rm.low Rm.tau Rm.tauc Rm.bare Rm.flat Rm.flat1 Rm.mapMt Rm.mapMd Rm.coldt Rm.coldd Rm.hotRt Rm.hotRd
attribute [local simp] Twn.eta Twn.dec_row Twn.dec_hrow Twn.cold Twn.hcold Twn.mapM Twn.mapMc Twn.hmapM Twn.hmapMc Twn.view Twn.viewc Twn.hview Twn.hviewc Twn.hotR Twn.ren Twn.renc Twn.low Twn.hlow
theorem rmClone : InlOk Try.prog 45 (cloneI 2) := by
  refine inl_soft Try.func45 rfl ?_
  intro args H r H' hr
  rcases cloneI_some hr with ⟨o, rows, rfl, hl, hc⟩ | ⟨id, st, k, kc, rows, rfl, hob, hle, hl, hc⟩ | ⟨rfl, rfl, rfl⟩
  · refine ⟨by simp [Try.ntmps45], wpA_sound noOrc_ok fxMix _ _ _ _ (by kernel_rfl) ?_⟩
    rcases hc with ⟨rfl, rfl, rfl⟩ | ⟨h0, rfl, rfl⟩
    · simp [Try.ntmps45, Try.results45, noOrc]
    · simp [Try.ntmps45, Try.results45, h0, hl, noOrc]
  · refine ⟨by simp [Try.ntmps45], wpA_sound noOrc_ok fxMix _ _ _ _ (by kernel_rfl) ?_⟩
    have hob' := obj_get hob
    have e1 : min k (rows.length - st) = k := by omega
    have e2 : st + k ≤ rows.length := hle
    have e3 : st ≤ rows.length := by omega
    rcases hc with ⟨rfl, rfl, rfl⟩ | ⟨h0, rfl, rfl⟩
    · simp [Try.ntmps45, Try.results45, noOrc, hob', e2, e3]
    · simp [Try.ntmps45, Try.results45, hl, noOrc, hob', e1, e2, h0]
  · refine ⟨by simp [Try.ntmps45], wpA_sound noOrc_ok fxMix _ _ _ _ (by kernel_rfl) ?_⟩
    simp [Try.ntmps45, Try.results45, noOrc]
/-- the first of the smallest that are large enough -/
def bestGo (l : List Rm) (o : Int) : Nat → Int
  | 0 => -1
  | k + 1 => match l[k]? with
    | some r => if o ≤ r.order ∧ (bestGo l o k < 0 ∨ r.order < (l[(bestGo l o k).toNat]?.getD r).order) then k else bestGo l o k
    | none => bestGo l o k
theorem bestGo_ok (l : List Rm) (o : Int) : ∀ k, k ≤ l.length → (bestGo l o k = -1 ∧ ∀ i r, i < k → l[i]? = some r → r.order < o) ∨ ∃ (n : Nat) (r : Rm), bestGo l o k = n ∧ n < k ∧ l[n]? = some r ∧ o ≤ r.order := by
  intro k
  induction k with
  | zero => intro _; left; simp [bestGo]
  | succ k ih =>
    intro hk
    have hg : l[k]? = some l[k] := List.getElem?_eq_getElem hk
    simp only [bestGo, hg]
    split
    · rename_i h
      exact .inr ⟨k, l[k], rfl, by omega, hg, h.1⟩
    · rename_i h
      rcases ih (by omega) with ⟨h1, h2⟩ | ⟨n, r, h1, h2, h3, h4⟩
      · left
        refine ⟨h1, fun i r hi hr => ?_⟩
        by_cases hik : i = k
        · subst hik
          rw [hg] at hr
          simp at hr
          subst hr
          rw [h1] at h
          simp at h
          omega
        · exact h2 i r (by omega) hr
      · exact .inr ⟨n, r, h1, by omega, h3, h4⟩
theorem leftR_succ (a o : Int) (n : Nat) : leftR a o (n + 1) = leftR a o n ++ [⟨a + pw (o + n), o + n⟩] := by
  induction n generalizing o with
  | zero => simp [leftR]
  | succ n ih =>
    rw [leftR, ih (o + 1), leftR]
    simp
    constructor
    · congr 1; omega
    · omega
theorem leftR_len (a o : Int) (n : Nat) : (leftR a o n).length = n := by
  induction n generalizing o with
  | zero => rfl
  | succ n ih => simp [leftR, ih]
def twTake (t : Twn) (o : Int) : Except Int (Twn × Int) :=
  if twCheck t = 0 then
    if o < 0 ∨ t.order < o then .error 1
    else if bestGo t.free o t.free.length < 0 then .error 6
    else match t.free[(bestGo t.free o t.free.length).toNat]? with
      | some r => .ok (⟨t.order, t.free.take (bestGo t.free o t.free.length).toNat ++ (leftR r.at_ o (r.order - o).toNat ++ t.free.drop ((bestGo t.free o t.free.length).toNat + 1))⟩, r.at_)
      | none => .error 6
  else .error (twCheck t)
attribute [local simp] okL_tau okL_bare okL_allV okL_one okL_res
def tkX : Except Int (Twn × Int) → Bool × Int × List Rm × Int × Int
  | .ok (t, a) => (true, t.order, t.free, a, 0)
  | .error e => (false, 0, [], 0, e)
def tkU (q : Bool × Int × List Rm × Int × Int) : AVal × Heap := (.tup [.agg [.v (.int .i64 q.2.1), okL q.1 0 2 q.2.2.1.length], .v (.int .i64 q.2.2.2.1), .v (.int .i64 q.2.2.2.2)], [okO q.1 2 (q.2.2.1.map Rm.row)])
theorem ag2_err : Lss (.v (.agg #[.int .i64 0, .slice none 0 0])) (.agg [.v (.int .i64 0), .esl]) :=
  (Lss.vals (vs := [.int .i64 0, .slice none 0 0]) rfl (fun j v r hv hr => by
    match j, hv, hr with
    | 0, hv, hr => simp at hv hr; subst hv hr; exact @Lss.refl _
    | 1, hv, hr => simp at hv hr; subst hv hr; exact @Lss.nil_esl'
    | j + 2, hv, hr => simp at hv)).2
theorem tk_err {a e : Int} : Lss (.v (.tuple #[.agg #[.int .i64 0, .slice none 0 0], .int .i64 a, .int .i64 e])) (.tup [.agg [.v (.int .i64 0), .esl], .v (.int .i64 a), .v (.int .i64 e)]) :=
  (Lss.vals (vs := [.agg #[.int .i64 0, .slice none 0 0], .int .i64 a, .int .i64 e]) rfl (fun j v r hv hr => by
    match j, hv, hr with
    | 0, hv, hr => simp at hv hr; subst hv hr; exact @ag2_err
    | 1, hv, hr => simp at hv hr; subst hv hr; exact @Lss.refl _
    | 2, hv, hr => simp at hv hr; subst hv hr; exact @Lss.refl _
    | j + 3, hv, hr => simp at hv)).1
theorem tw_err {e : Int} : Lss (.v (.tuple #[.agg #[.int .i64 0, .slice none 0 0], .int .i64 e])) (.tup [.agg [.v (.int .i64 0), .esl], .v (.int .i64 e)]) :=
  (Lss.vals (vs := [.agg #[.int .i64 0, .slice none 0 0], .int .i64 e]) rfl (fun j v r hv hr => by
    match j, hv, hr with
    | 0, hv, hr => simp at hv hr; subst hv hr; exact @ag2_err
    | 1, hv, hr => simp at hv hr; subst hv hr; exact @Lss.refl _
    | j + 2, hv, hr => simp at hv)).1
theorem twTake_own : InlOk Try.prog 53 (own0 (argG (cAgg rTwn) fun t => argG (cInt .i64) fun o => finG (some (tkU (tkX (twTake t o)))))) := by
  refine ownE_2 Try.func53 rfl ?_
  rintro t o r H' hr
  simp only [Option.some.injEq, Prod.mk.injEq] at hr
  obtain ⟨rfl, rfl⟩ := hr
  refine bodyE_of ((((noOrc_ok.withP twCheck_pure).withIF rmClone clone_loc).withIF rmRep replace_loc).withD (fun i => if i = 21 then [(1,4),(1,9),(4,12),(9,12),(12,13)] else [])) fxMix (by kernel_rfl) (by simp [Try.ntmps53]) ?_
  intro C cP cI cN cD cF cA cR cL
  have cp0 := orcP twCheck_pure (C := C) (by rw [cP]; rfl)
  have cn0 := orcI rmClone (C := C) (by rw [cN]; rfl)
  have cn1 := orcI rmRep (C := C) (by rw [cN]; rfl)
  replace cI := fun g => congrFun cI g
  simp only [Orc.withP, Orc.withI, Orc.withF, Orc.withD, Orc.withA, Orc.withR, Orc.withC, noOrc] at cI
  replace cR : C.rd = fun _ => none := cR
  replace cD : C.dyn = fun i => if i = 21 then [(1,4),(1,9),(4,12),(9,12),(12,13)] else [] := cD
  replace cF := fun g => congrFun cF g
  simp only [Orc.withP, Orc.withI, Orc.withF, Orc.withD, Orc.withA, Orc.withR, Orc.withC, noOrc] at cF
  replace cA : C.alt = fun _ => [] := cA
  clear cP cN
  obtain ⟨N, l⟩ := t
  unfold twTake
  simp only
  by_cases h0 : twCheck ⟨N, l⟩ = 0
  case neg =>
    simp [Try.ntmps53, Try.results53, cSl, cp0, cn0, cn1, cI, cD, cR, cF, cA, rTwn, twnDec, rRm, Twn.row, h0, tkX, tkU, okL, okO]
    first
    | exact ent_err (@tk_err _ _) (by simp [lowA, lowC])
    | (refine Ent.weakT (th := [0]) ?_; simp []; done)
    | (refine Ent.weakT (th := [1]) ?_; simp []; done)
    | (refine Ent.weakT (th := [2]) ?_; simp []; done)
    | (refine Ent.weakT (th := [3]) ?_; simp []; done)
    | (refine Ent.weakT (th := [4]) ?_; simp []; done)
    | (refine Ent.weakT (th := [5]) ?_; simp []; done)
    | (refine Ent.weakT (th := [6]) ?_; simp []; done)
    | (refine Ent.weakT (th := [7]) ?_; simp []; done)
    | (refine Ent.weakT (th := [8]) ?_; simp []; done)
    | (refine Ent.weakT (th := [9]) ?_; simp []; done)
    | (refine Ent.weakT (th := [10]) ?_; simp []; done)
    | (refine Ent.weakT (th := [11]) ?_; simp []; done)
  obtain ⟨g1, g2, g3⟩ := twCheck_ok.1 h0
  simp only at g1 g2 g3
  have hl := okl_len g2 g3
  have pN := pw_le64 g2
  by_cases c1 : o < 0
  · simp [Try.ntmps53, Try.results53, cSl, cp0, cn0, cn1, cI, cD, cR, cF, cA, rTwn, twnDec, rRm, Twn.row, h0, c1, tkX, tkU, okL, okO]
    first
    | exact ent_err (@tk_err _ _) (by simp [lowA, lowC])
    | (refine Ent.weakT (th := [0]) ?_; simp [Rm.row, lowA]; done)
    | (refine Ent.weakT (th := [1]) ?_; simp [Rm.row, lowA]; done)
    | (refine Ent.weakT (th := [2]) ?_; simp [Rm.row, lowA]; done)
    | (refine Ent.weakT (th := [3]) ?_; simp [Rm.row, lowA]; done)
    | (refine Ent.weakT (th := [4]) ?_; simp [Rm.row, lowA]; done)
    | (refine Ent.weakT (th := [5]) ?_; simp [Rm.row, lowA]; done)
    | (refine Ent.weakT (th := [6]) ?_; simp [Rm.row, lowA]; done)
    | (refine Ent.weakT (th := [7]) ?_; simp [Rm.row, lowA]; done)
    | (refine Ent.weakT (th := [8]) ?_; simp [Rm.row, lowA]; done)
    | (refine Ent.weakT (th := [9]) ?_; simp [Rm.row, lowA]; done)
    | (refine Ent.weakT (th := [10]) ?_; simp [Rm.row, lowA]; done)
    | (refine Ent.weakT (th := [11]) ?_; simp [Rm.row, lowA]; done)
  by_cases c2 : N < o
  · simp [Try.ntmps53, Try.results53, cSl, cp0, cn0, cn1, cI, cD, cR, cF, cA, rTwn, twnDec, rRm, Twn.row, h0, c1, c2, tkX, tkU, okL, okO]
    first
    | exact ent_err (@tk_err _ _) (by simp [lowA, lowC])
    | (refine Ent.weakT (th := [0]) ?_; simp [Rm.row, lowA]; done)
    | (refine Ent.weakT (th := [1]) ?_; simp [Rm.row, lowA]; done)
    | (refine Ent.weakT (th := [2]) ?_; simp [Rm.row, lowA]; done)
    | (refine Ent.weakT (th := [3]) ?_; simp [Rm.row, lowA]; done)
    | (refine Ent.weakT (th := [4]) ?_; simp [Rm.row, lowA]; done)
    | (refine Ent.weakT (th := [5]) ?_; simp [Rm.row, lowA]; done)
    | (refine Ent.weakT (th := [6]) ?_; simp [Rm.row, lowA]; done)
    | (refine Ent.weakT (th := [7]) ?_; simp [Rm.row, lowA]; done)
    | (refine Ent.weakT (th := [8]) ?_; simp [Rm.row, lowA]; done)
    | (refine Ent.weakT (th := [9]) ?_; simp [Rm.row, lowA]; done)
    | (refine Ent.weakT (th := [10]) ?_; simp [Rm.row, lowA]; done)
    | (refine Ent.weakT (th := [11]) ?_; simp [Rm.row, lowA]; done)
  simp [Try.ntmps53, Try.results53, cSl, cp0, cn0, cn1, cI, cD, cR, cF, cA, rTwn, twnDec, rRm, Twn.row, h0, c1, c2]
  refine loop_for l.length (fun k (_ : Unit) => ([(1, .v (.int .i64 o)), (2, .ptr 0 2 0 0), (4, .ptr 1 2 0 0), (8, .v (.int .i64 (bestGo l o k))), (30, .fsl false 2 (l.map Rm.row)), (31, .v (.int .i64 l.length)), (32, .v (.int .i64 k))], [some (2, [Twn.row ⟨N, l⟩]), some (2, [[.v (.int .i64 0), .v (.slice none 0 0)]])])) (fun k _ => True) () (by omega) trivial (by simp [Twn.row, bestGo]) ?_ ?_
  · rintro k _ hk _ hw
    have hg : l[k]? = some l[k] := List.getElem?_eq_getElem hk
    have hb : bestGo l o (k + 1) = if o ≤ l[k].order ∧ (bestGo l o k < 0 ∨ l[k].order < (l[(bestGo l o k).toNat]?.getD l[k]).order) then (k : Int) else bestGo l o k := by simp [bestGo, hg]
    by_cases q1 : o ≤ l[k].order
    · rcases bestGo_ok l o k (by omega) with ⟨h1, h2⟩ | ⟨n, r, h1, h2, h3, h4⟩
      · rw [h1] at hb
        simp [q1] at hb
        simp [Try.ntmps53, Try.results53, cSl, cp0, cn0, cn1, cI, cD, cR, cF, cA, hk, hw, Rm.row, Twn.row, q1, h1, hb]
      · have hn : n < l.length := by omega
        have h3' : l[n] = r := by
          have := List.getElem?_eq_getElem hn
          rw [this] at h3
          simpa using h3
        have hneg : ¬ ((n : Int) < 0) := by omega
        rw [h1] at hb
        simp only [q1, true_and, hneg, false_or, Int.toNat_natCast, h3, Option.getD_some] at hb
        by_cases q2 : l[k].order < r.order
        · rw [if_pos q2] at hb
          simp [Try.ntmps53, Try.results53, cSl, cp0, cn0, cn1, cI, cD, cR, cF, cA, hk, hw, hn, Rm.row, Twn.row, q1, h1, hb, h3', q2, hneg]
        · rw [if_neg q2] at hb
          simp [Try.ntmps53, Try.results53, cSl, cp0, cn0, cn1, cI, cD, cR, cF, cA, hk, hw, hn, Rm.row, Twn.row, q1, h1, hb, h3', q2, hneg]
    · simp [q1] at hb
      simp [Try.ntmps53, Try.results53, cSl, cp0, cn0, cn1, cI, cD, cR, cF, cA, hk, hw, Rm.row, Twn.row, q1, hb]
  · rintro _ _
    rcases bestGo_ok l o l.length (Nat.le_refl _) with ⟨h1, h2⟩ | ⟨n, r, h1, h2, h3, h4⟩
    · simp [Try.ntmps53, Try.results53, cSl, cp0, cn0, cn1, cI, cD, cR, cF, cA, h1, tkX, tkU, okL, okO, Twn.row]
      first
      | exact ent_err (@tk_err _ _) (by simp [lowA, lowC])
      | (refine Ent.weakT (th := [0]) ?_; simp [Rm.row, lowA]; done)
      | (refine Ent.weakT (th := [1]) ?_; simp [Rm.row, lowA]; done)
      | (refine Ent.weakT (th := [2]) ?_; simp [Rm.row, lowA]; done)
      | (refine Ent.weakT (th := [3]) ?_; simp [Rm.row, lowA]; done)
      | (refine Ent.weakT (th := [4]) ?_; simp [Rm.row, lowA]; done)
      | (refine Ent.weakT (th := [5]) ?_; simp [Rm.row, lowA]; done)
      | (refine Ent.weakT (th := [6]) ?_; simp [Rm.row, lowA]; done)
      | (refine Ent.weakT (th := [7]) ?_; simp [Rm.row, lowA]; done)
      | (refine Ent.weakT (th := [8]) ?_; simp [Rm.row, lowA]; done)
      | (refine Ent.weakT (th := [9]) ?_; simp [Rm.row, lowA]; done)
      | (refine Ent.weakT (th := [10]) ?_; simp [Rm.row, lowA]; done)
      | (refine Ent.weakT (th := [11]) ?_; simp [Rm.row, lowA]; done)
    · have h3' : l[n] = r := by
        have := List.getElem?_eq_getElem h2
        rw [this] at h3
        simpa using h3
      have hneg : ¬ ((n : Int) < 0) := by omega
      have fr := g3.1 r (by rw [← h3']; exact List.getElem_mem h2)
      have o1 : r.order ≤ 6 := by have := fr.2.1; omega
      have hpr := pw_le64 o1
      have hrend := fr.2.2.2.1
      simp only [Rm.end_] at hrend
      simp [Try.ntmps53, Try.results53, cSl, cp0, cn0, cn1, cI, cD, cR, cF, cA, h1, Twn.row, Rm.row, h2, h3, h3', hneg]
      generalize hn : (r.order - o).toNat = m at *
      refine loop_forT m (fun k (left : List Rm) => ([(2, .ptr 0 2 0 0), (4, .ptr 1 2 0 0), (8, .v (.int .i64 n)), (11, .ptr 2 2 0 0), (12, ownA 3 2 (left.map Rm.row)), (13, .v (.int .i64 (o + k)))], [some (2, [Twn.row ⟨N, l⟩]), some (2, [[.v (.int .i64 0), .v (.slice none 0 0)]]), some (2, [Rm.row r])] ++ ownT 2 (left.map Rm.row))) (fun k left => left = leftR r.at_ o k) [] [0, 1, 2] (by omega) (by simp [leftR]) (by simp [Twn.row, Rm.row, ownA_nil, ownT_nil]) ?_ ?_
      · rintro k left hk hleft hw
        have hs := leftR_succ r.at_ o k
        rw [← hleft] at hs
        have hll := leftR_len r.at_ o k
        rw [← hleft] at hll
        have d0 : 0 ≤ o + (k : Int) := by omega
        have d6 : o + (k : Int) ≤ 6 := by omega
        have d1 := ishl_pw d0 d6
        have d2 := pw_le64 d6
        have d3 := pw_pos (o + k)
        have dlt : o + (k : Int) < r.order := by omega
        have fr3 := fr.2.2.1
        have fr4 := pw_pos r.order
        have w1 : IntKind.i64.wrap (r.at_ + pw (o + k)) = r.at_ + pw (o + k) := w64 (by omega) (by omega)
        have w2 : IntKind.i64.wrap (o + k + 1) = o + ((k + 1 : Nat) : Int) := by rw [w64 (by omega) (by omega)]; omega
        have n1 : ¬ (left.length + 1 ≤ left.length) := by omega
        have n2 : left.length + 1 ≤ 4294967296 := by omega
        by_cases ho : left = []
        · subst ho
          simp [Try.ntmps53, Try.results53, cSl, cp0, cn0, cn1, cI, cD, cR, cF, cA, Rm.row, Twn.row, dlt, d0, d1, w1, w2, hs, ownA_nil, ownT_nil]
          exact ⟨[0, 1, 2, 4], by simp [ownA, ownT, Rm.row]⟩
        · have o1 : ownA 3 2 (left.map Rm.row) = .osl 3 2 0 left.length left.length := by simp [ownA, ho]
          have o2 : ownT 2 (left.map Rm.row) = [some (2, left.map Rm.row)] := by simp [ownT, ho]
          simp [Try.ntmps53, Try.results53, cSl, cp0, cn0, cn1, cI, cD, cR, cF, cA, Rm.row, Twn.row, dlt, d0, d1, w1, w2, hs, o1, o2, n1, n2]
          exact ⟨[0, 1, 2, 5], by simp [ownA, ownT, Rm.row]⟩
      · rintro left hleft
        have hll := leftR_len r.at_ o m
        rw [← hleft] at hll
        have hm : o + (m : Int) = r.order := by omega
        have hlne : ¬ l = [] := by rintro rfl; simp at h2
        have hl2 : l.length ≤ 4294967296 := by omega
        have hl3 : l.length ≤ 1048576 := by omega
        have hw1 : IntKind.i64.wrap ((n : Int) + 1) = (n : Int) + 1 := w64 (by omega) (by omega)
        rw [← hleft]
        by_cases ho : left = []
        · subst ho
          have he : (l.map Rm.row).eraseIdx n = (l.take n ++ l.drop (n + 1)).map Rm.row := by rw [List.eraseIdx_eq_take_drop_succ]; simp
          have t1 : l.length ≤ min n l.length + (l.length - (n + 1)) + 1 := by omega
          have t2 : List.take (l.length - 1) (List.take n (List.map Rm.row l) ++ List.drop (n + 1) (List.map Rm.row l)) = List.take n (List.map Rm.row l) ++ List.drop (n + 1) (List.map Rm.row l) := List.take_of_length_le (by simp; omega)
          obtain ⟨Y, hY⟩ : ∃ Y, l.take n ++ l.drop (n + 1) = Y := ⟨_, rfl⟩
          have hYm : List.take n (List.map Rm.row l) ++ List.drop (n + 1) (List.map Rm.row l) = Y.map Rm.row := by rw [← hY]; simp
          have hYl : Y.length = l.length - 1 := by rw [← hY]; simp; omega
          simp [Try.ntmps53, Try.results53, cSl, cp0, cn0, cn1, cI, cD, cR, cF, cA, Rm.row, Twn.row, Twn.hrow, hm, ownA_nil, ownT_nil, cloneI, hlne, hl2, hl3, h2, hw1, tkX, tkU, okL, okO, he, t1, t2, hY, hYm, hYl]
          first
          | exact ent_err (@tk_err _ _) (by simp [lowA, lowC])
          | (refine Ent.weakT (th := [0]) ?_; simp [Rm.row, lowA]; done)
          | (refine Ent.weakT (th := [1]) ?_; simp [Rm.row, lowA]; done)
          | (refine Ent.weakT (th := [2]) ?_; simp [Rm.row, lowA]; done)
          | (refine Ent.weakT (th := [3]) ?_; simp [Rm.row, lowA]; done)
          | (refine Ent.weakT (th := [4]) ?_; simp [Rm.row, lowA]; done)
          | (refine Ent.weakT (th := [5]) ?_; simp [Rm.row, lowA]; done)
          | (refine Ent.weakT (th := [6]) ?_; simp [Rm.row, lowA]; done)
          | (refine Ent.weakT (th := [7]) ?_; simp [Rm.row, lowA]; done)
          | (refine Ent.weakT (th := [8]) ?_; simp [Rm.row, lowA]; done)
          | (refine Ent.weakT (th := [9]) ?_; simp [Rm.row, lowA]; done)
          | (refine Ent.weakT (th := [10]) ?_; simp [Rm.row, lowA]; done)
          | (refine Ent.weakT (th := [11]) ?_; simp [Rm.row, lowA]; done)
        · have o1 : ownA 3 2 (left.map Rm.row) = .osl 3 2 0 left.length left.length := by simp [ownA, ho]
          have o2 : ownT 2 (left.map Rm.row) = [some (2, left.map Rm.row)] := by simp [ownT, ho]
          have hpos : 0 < left.length := List.length_pos_iff.2 ho
          have hl4 : left.length ≤ 1048576 := by omega
          have t1 : l.length - 1 + left.length ≤ min n l.length + (left.length + (l.length - (n + 1))) := by omega
          have t2 : List.take (l.length - 1 + left.length) (List.take n (List.map Rm.row l) ++ (List.map Rm.row left ++ List.drop (n + 1) (List.map Rm.row l))) = List.take n (List.map Rm.row l) ++ (List.map Rm.row left ++ List.drop (n + 1) (List.map Rm.row l)) := List.take_of_length_le (by simp; omega)
          obtain ⟨Y, hY⟩ : ∃ Y, l.take n ++ (left ++ l.drop (n + 1)) = Y := ⟨_, rfl⟩
          have hYm : List.take n (List.map Rm.row l) ++ (List.map Rm.row left ++ List.drop (n + 1) (List.map Rm.row l)) = Y.map Rm.row := by rw [← hY]; simp
          have hYl : Y.length = l.length - 1 + left.length := by rw [← hY]; simp; omega
          simp [Try.ntmps53, Try.results53, cSl, cp0, cn0, cn1, cI, cD, cR, cF, cA, Rm.row, Twn.row, Twn.hrow, hm, o1, o2, cloneI, hlne, hl2, hl3, hl4, hpos, h2, hw1, tkX, tkU, okL, okO, t1, t2, hY, hYm, hYl]
          first
          | exact ent_err (@tk_err _ _) (by simp [lowA, lowC])
          | (refine Ent.weakT (th := [0]) ?_; simp [Rm.row, lowA]; done)
          | (refine Ent.weakT (th := [1]) ?_; simp [Rm.row, lowA]; done)
          | (refine Ent.weakT (th := [2]) ?_; simp [Rm.row, lowA]; done)
          | (refine Ent.weakT (th := [3]) ?_; simp [Rm.row, lowA]; done)
          | (refine Ent.weakT (th := [4]) ?_; simp [Rm.row, lowA]; done)
          | (refine Ent.weakT (th := [5]) ?_; simp [Rm.row, lowA]; done)
          | (refine Ent.weakT (th := [6]) ?_; simp [Rm.row, lowA]; done)
          | (refine Ent.weakT (th := [7]) ?_; simp [Rm.row, lowA]; done)
          | (refine Ent.weakT (th := [8]) ?_; simp [Rm.row, lowA]; done)
          | (refine Ent.weakT (th := [9]) ?_; simp [Rm.row, lowA]; done)
          | (refine Ent.weakT (th := [10]) ?_; simp [Rm.row, lowA]; done)
          | (refine Ent.weakT (th := [11]) ?_; simp [Rm.row, lowA]; done)
theorem twTake_inl : InlOk Try.prog 53 (frame0 (own0 (argG (cAgg rTwn) fun t => argG (cInt .i64) fun o => finG (some (tkU (tkX (twTake t o))))))) := frame0_ok twTake_own
end
section
attribute [local simp] Rm.eta Rm.cold Rm.mapM Rm.mapMc Rm.view Rm.viewc Rm.hotR Rm.ren Rm.renc Rm.low Rm.tau Rm.tauc Rm.bare Rm.flat Rm.flat1 Rm.mapMt Rm.mapMd Rm.coldt Rm.coldd Rm.hotRt Rm.hotRd
attribute [local simp] Twn.eta Twn.dec_row Twn.dec_hrow Twn.cold Twn.hcold Twn.mapM Twn.mapMc Twn.hmapM Twn.hmapMc Twn.view Twn.viewc Twn.hview Twn.hviewc Twn.hotR Twn.ren Twn.renc Twn.low Twn.hlow
theorem rmInsOv : InlOk Try.prog 173 ovlI := ovl_inl (t := 97) (r := 4) Try.func173 (by kernel_rfl) (by kernel_rfl) (by kernel_rfl) (by kernel_rfl) Try.underlying97 (sz := 2) (by kernel_rfl)
theorem rmIns : InlOk Try.prog 124 (insertI 2) := by
  have hC := (noOrc_ok (P := Try.prog)).withI rmInsOv
  refine insert_of Try.func124 rfl (by simp [Try.ntmps124]) ?_ ?_ ?_ ?_
  · intro H vid vr h1
    refine wpA_sound hC fxMix _ _ _ _ (by kernel_rfl) ?_
    have h1' := obj_get h1
    simp [Try.ntmps124, Try.results124, noOrc, Orc.withI, h1']
  · intro H id vid rows vr h1 h2 h3 h5
    refine wpA_sound hC fxMix _ _ _ _ (by kernel_rfl) ?_
    have h1' := obj_get h1
    have h2' := obj_get h2
    have h6 : ¬ (rows.length + 1 ≤ rows.length) := by omega
    have h7 : rows.length ≤ 4294967295 := by omega
    simp [Try.ntmps124, Try.results124, noOrc, Orc.withI, h1', h2', h6, h7]
  · intro H id vid i rows vr h1 h2 h3 h4 h5 h6 h7
    refine wpA_sound hC fxMix _ _ _ _ (by kernel_rfl) ?_
    have h1' := obj_get h1
    have h2' := obj_get h2
    have w1 : IntKind.i64.wrap ((rows.length : Int) + 1) = ((rows.length + 1 : Nat) : Int) := by rw [w64 (by omega) (by omega)]; simp
    obtain ⟨k, hk⟩ : ∃ k, k = rows.length + 1 - i := ⟨_, rfl⟩
    have w2 : IntKind.i64.wrap ((rows.length : Int) + 1 - i) = (k : Int) := by rw [w64 (by omega) (by omega)]; omega
    have w3 : IntKind.i64.wrap ((i : Int) + 1) = ((i + 1 : Nat) : Int) := by rw [w64 (by omega) (by omega)]; simp
    have h8 : ¬ i = rows.length := by omega
    have g1 := (List.getElem?_eq_some_iff.1 h1').2
    have g2 := (List.getElem?_eq_some_iff.1 h2').2
    have b1 : ¬ (i : Int) = rows.length := by omega
    have b2 : ¬ (rows.length : Int) = i := by omega
    have e1 : ∀ l, (H ++ l)[vid]? = some (some (2, [vr])) := by intro l; rw [List.getElem?_append_left h5, h2']
    have e2 : ∀ l, (H ++ l)[id]? = some (some (2, rows)) := by intro l; rw [List.getElem?_append_left h4, h1']
    have d0 : ¬ vid = id := fun h => h3 h.symm
    have d1 : 0 < rows.length - i := by omega
    have d2 : min 1 (rows.length + 1 - i) = 1 := by omega
    have d3 : List.take (rows.length + 1 - i) [vr] = [vr] := List.take_of_length_le (by simp; omega)
    have d4 : rows.length - i ≤ rows.length + 1 - (i + 1) := by omega
    have d5 : min (rows.length - i) (rows.length + 1 - (i + 1)) = rows.length - i := by omega
    have d6 : i + 1 + (rows.length - i) ≤ i + (rows.length - i + 1) := by omega
    have d7 : i + 1 + (rows.length - i) ≤ rows.length + 1 := by omega
    have d8 : min (i + 1) rows.length = i + 1 := by omega
    have d9 : rows.length + 1 ≤ i + 1 + (rows.length - i) := by omega
    have f1 : ∀ X, List.take (i + 1) (List.take i rows ++ vr :: X) = List.take i rows ++ [vr] := by
      intro X
      have hl : (List.take i rows).length = i := by simp; omega
      rw [List.take_append, hl, List.take_of_length_le (by omega)]; simp
    have f2 : List.take (rows.length - i) (List.drop i rows) = List.drop i rows := List.take_of_length_le (by simp)
    have f7 : ∀ X, List.take i (List.take (i + 1) rows ++ X) = List.take i rows := by intro X; rw [List.take_append_of_le_length (by simp; omega), List.take_take]; congr 1; omega
    have f8 : ∀ X, List.drop (i + 1) (List.take (i + 1) rows ++ X) = X := by intro X; rw [List.drop_append_of_le_length (by simp; omega), List.drop_eq_nil_of_le (by simp; omega)]; rfl
    have c1 : (i : Int) ≤ rows.length + 1 := by omega
    have c2 : 0 ≤ (rows.length : Int) + 1 := by omega
    have c3 : (i : Int) + 1 ≤ rows.length + 1 := by omega
    have c4 : 0 ≤ (i : Int) + 1 := by omega
    have c5 : i + 1 ≤ rows.length + 1 := by omega
    have c6 : i + (rows.length + 1 - i) = rows.length + 1 := by omega
    have c7 : i + 1 + (rows.length + 1 - (i + 1)) = rows.length + 1 := by omega
    have a1 : i ≤ rows.length := by omega
    have a2 : i + k = rows.length + 1 := by omega
    have a3 : rows.length < rows.length + 1 := by omega
    have a4 : rows.length + 1 ≤ 4294967296 := by omega
    have a5 : i ≤ rows.length + 1 := by omega
    have a6 : min i rows.length = i := by omega
    have f3 : ∀ (z : Row), List.drop (i + 1 + (rows.length - i)) (List.take i rows ++ vr :: List.drop (i + 1) (List.take i rows ++ List.replicate k z)) = [] := by intro z; apply List.drop_eq_nil_of_le; simp; omega
    simp [Try.ntmps124, Try.results124, noOrc, Orc.withI, h1', h2', w1, w2, w3, h8, h4, h5, g1, g2, e1, e2, d0, d1, d2, d3, d4, d5, d6, d7, d8, d9, f1, f2, f3,  b1, b2, c1, c2, c3, c4, c5, c6, c7, a1, a2, a3, a4, a5, a6]
  · intro H id vid i cap rows vr jr h1 h2 h3 h4 h5 h6 h7 h8
    refine wpA_sound hC fxMix _ _ _ _ (by kernel_rfl) ?_
    have h1' := obj_get h1
    have h2' := obj_get h2
    have w1 : IntKind.i64.wrap ((rows.length : Int) + 1) = ((rows.length + 1 : Nat) : Int) := by rw [w64 (by omega) (by omega)]; simp
    have w3 : IntKind.i64.wrap ((i : Int) + 1) = ((i + 1 : Nat) : Int) := by rw [w64 (by omega) (by omega)]; simp
    have h9 : ¬ i = rows.length := by omega
    have g1 := (List.getElem?_eq_some_iff.1 h1').2
    have g2 := (List.getElem?_eq_some_iff.1 h2').2
    have b1 : ¬ (i : Int) = rows.length := by omega
    have b2 : ¬ (rows.length : Int) = i := by omega
    have e1 : ∀ l, (H ++ l)[vid]? = some (some (2, [vr])) := by intro l; rw [List.getElem?_append_left h5, h2']
    have e2 : ∀ l, (H ++ l)[id]? = some (some (2, rows ++ [jr])) := by intro l; rw [List.getElem?_append_left h4, h1']
    have d0 : ¬ vid = id := fun h => h3 h.symm
    have d1 : 0 < rows.length - i := by omega
    have d2 : min 1 (rows.length + 1 - i) = 1 := by omega
    have d3 : List.take (rows.length + 1 - i) [vr] = [vr] := List.take_of_length_le (by simp; omega)
    have d4 : rows.length - i ≤ rows.length + 1 - (i + 1) := by omega
    have d5 : min (rows.length - i) (rows.length + 1 - (i + 1)) = rows.length - i := by omega
    have d6 : i + 1 + (rows.length - i) ≤ i + (rows.length - i + 1) := by omega
    have d7 : i + 1 + (rows.length - i) ≤ rows.length + 1 := by omega
    have d8 : min (i + 1) rows.length = i + 1 := by omega
    have d9 : rows.length + 1 ≤ i + 1 + (rows.length - i) := by omega
    have f1 : ∀ X, List.take (i + 1) (List.take i rows ++ vr :: X) = List.take i rows ++ [vr] := by
      intro X
      have hl : (List.take i rows).length = i := by simp; omega
      rw [List.take_append, hl, List.take_of_length_le (by omega)]; simp
    have f2 : List.take (rows.length - i) (List.drop i rows) = List.drop i rows := List.take_of_length_le (by simp)
    have f7 : ∀ X, List.take i (List.take (i + 1) rows ++ X) = List.take i rows := by intro X; rw [List.take_append_of_le_length (by simp; omega), List.take_take]; congr 1; omega
    have f8 : ∀ X, List.drop (i + 1) (List.take (i + 1) rows ++ X) = X := by intro X; rw [List.drop_append_of_le_length (by simp; omega), List.drop_eq_nil_of_le (by simp; omega)]; rfl
    have c1 : (i : Int) ≤ rows.length + 1 := by omega
    have c2 : 0 ≤ (rows.length : Int) + 1 := by omega
    have c3 : (i : Int) + 1 ≤ rows.length + 1 := by omega
    have c4 : 0 ≤ (i : Int) + 1 := by omega
    have c5 : i + 1 ≤ rows.length + 1 := by omega
    have c6 : i + (rows.length + 1 - i) = rows.length + 1 := by omega
    have c7 : i + 1 + (rows.length + 1 - (i + 1)) = rows.length + 1 := by omega
    have a1 : i ≤ rows.length := by omega
    have a3 : ¬ cap < rows.length + 1 := by omega
    have a5 : i ≤ rows.length + 1 := by omega
    have a6 : min i rows.length = i := by omega
    have a7 : (rows.length : Int) + 1 ≤ cap := by omega
    have b3 : ¬ (cap : Int) < rows.length + 1 := by omega
    have a8 : i ≤ cap := by omega
    have f4 : List.take (rows.length - i) (List.take (rows.length + 1 - i) (List.drop i (rows ++ [jr]))) = List.drop i rows := by
      rw [List.take_take, List.drop_append_of_le_length a1, List.take_append_of_le_length (by simp; omega), List.take_of_length_le (by simp; omega)]
    have f5 : List.drop (i + 1 + (rows.length - i)) (rows ++ [jr]) = [] := List.drop_eq_nil_of_le (by simp; omega)
    have f6 : List.take (i + 1) (rows ++ [jr]) = List.take (i + 1) rows := List.take_append_of_le_length (by omega)
    simp [Try.ntmps124, Try.results124, noOrc, Orc.withI, h1', h2', w1, w3, h9, h4, h5, g1, g2, e1, e2, d0, d1, d2, d3, d4, d5, d6, d7, d8, d9, f2, f4, f5, f6, f7, f8, h3, List.getElem_set_ne,  b1, b2, c1, c2, c3, c4, c5, c6, c7, a1, a3, a5, a6, a7, a8, b3]

theorem rmDel : InlOk Try.prog 123 (deleteI 2) := by
  refine delete_of (z := [.v (.int .i64 0), .v (.int .i64 0)]) Try.func123 rfl (by simp [Try.ntmps123]) ?_
  intro H id i rows h1 h2 h3 h4
  refine wpA_sound noOrc_ok fxMix _ _ _ _ (by kernel_rfl) ?_
  have h1' := obj_get h1
  have g1 := (List.getElem?_eq_some_iff.1 h1').2
  have c1 : (i : Int) + 1 ≤ rows.length := by omega
  have c2 : 0 ≤ (i : Int) + 1 := by omega
  have c3 : (i : Int) ≤ i + 1 := by omega
  have c4 : i ≤ rows.length := by omega
  have c5 : i + 1 ≤ rows.length := by omega
  have c6 : i + 1 + (rows.length - (i + 1)) ≤ rows.length := by omega
  have c7 : i + (rows.length - (i + 1)) ≤ rows.length := by omega
  have c8 : i + (rows.length - (i + 1)) = rows.length - 1 := by omega
  have c9 : rows.length - 1 ≤ rows.length := by omega
  have d1 : ¬ ((i : Int) = i + 1) := by omega
  have d2 : List.take (rows.length - (i + 1)) (List.drop (i + 1) rows) = List.drop (i + 1) rows := List.take_of_length_le (by simp)
  have d3 : rows.length - (rows.length - 1) = 1 := by omega
  have d4 : (rows.length - 1) + 1 = rows.length := by omega
  have d5 : ¬ rows.length = i := by omega
  have d6 : ¬ rows.length = 0 := by omega
  have d7 : rows.length ≤ 4294967296 := by omega
  have d8 : i + (rows.length - (i + 1)) ≤ 4294967296 := by omega
  have f1 : rows.length ≤ 4294967297 := by omega
  have f2 : rows.length ≤ i + (rows.length - (i + 1) + 1) := by omega
  have d9 : ∀ X : List Row, List.take (rows.length - 1) (List.take i rows ++ (List.drop (i + 1) rows ++ X)) = List.take i rows ++ List.drop (i + 1) rows := by
    intro X
    rw [← List.append_assoc, List.take_append_of_le_length (by simp; omega), List.take_of_length_le (by simp; omega)]
  have e1 : List.drop rows.length (List.take i rows ++ (List.drop (i + 1) rows ++ List.drop (rows.length - 1) rows)) = [] := List.drop_eq_nil_of_le (by simp; omega)
  have e2 : rows.length - 1 ≤ i + (rows.length - (i + 1) + 1) := by omega
  have e3 : min i rows.length = i := by omega
  have e4 : ((rows.length - 1 : Nat) : Int) ≤ rows.length := by omega
  simp [Try.ntmps123, Try.results123, noOrc, h1', h2, h3, g1, c1, c2, c3, c4, c5, c6, c7, c8, c9, d1, d2, d3, d4, d5, d6, d7, d8, d9, e1, e2, e3, e4, f1, f2]
theorem give1_pure : PureOk Try.prog 121 (argM (cAgg rRm) fun x => argM (cFp rRm) fun p => finM (if 0 ≤ x.order then some (.v (.bool (twBud x p))) else none)) := by
  refine pure2 Try.func121 rfl ?_
  rintro x p r hr
  by_cases hc : 0 ≤ x.order
  case neg => rw [if_neg hc] at hr; cases hr
  rw [if_pos hc] at hr
  simp only [Option.some.injEq] at hr
  subst hr
  refine body_gen (noOrc_ok.withP bud_pure) fxMix (by kernel_rfl) (by simp [Try.ntmps121]) ?_
  intro C cP cI cN cD cF cA cR cL
  have cp0 := orcP bud_pure (C := C) (by rw [cP]; rfl)
  replace cI : C.inl = fun _ => false := cI
  replace cR : C.rd = fun _ => none := cR
  replace cD : C.dyn = fun _ => [] := cD
  clear cP cN cF cA
  simp [Try.ntmps121, Try.results121, cSl, cp0, cI, cD, cR, rRm, Rm.row, rmDec, hc]
theorem giveI_pure : PureOk Try.prog 120 (argM (cSl rRm) fun l => argM (cFn 121 rCapR) fun cp => finM (if l.length ≤ 4294967296 ∧ (∀ x ∈ l, okR x) then some (.v (.int .i64 (idxP (twBud · cp) l))) else none)) := by
  refine pure2 Try.func120 rfl ?_
  rintro l cp r hr
  by_cases hc : l.length ≤ 4294967296 ∧ (∀ x ∈ l, okR x)
  case neg => rw [if_neg hc] at hr; cases hr
  rw [if_pos hc] at hr
  simp only [Option.some.injEq] at hr
  subst hr
  refine body_gen (noOrc_ok.withP give1_pure) fxMix (by kernel_rfl) (by simp [Try.ntmps120]) ?_
  intro C cP cI cN cD cF cA cR cL
  have cp0 := orcP give1_pure (C := C) (by rw [cP]; rfl)
  replace cI : C.inl = fun _ => false := cI
  replace cR : C.rd = fun _ => none := cR
  replace cD : C.dyn = fun _ => [] := cD
  clear cP cN cF cA
  obtain ⟨hc, hok⟩ := hc
  simp [Try.ntmps120, Try.results120, cSl, cp0, cI, cD, cR, rRm, rCapR]
  refine loop_for l.length (fun k (_ : Unit) => ([(0, .fsl false 2 (l.map Rm.row)), (1, .fn 121 [.fptr (Rm.row cp) 0]), (7, .v (.int .i64 l.length)), (8, .v (.int .i64 k))], [])) (fun k _ => ((l.drop k).findIdx? (twBud · cp)).map (· + k) = l.findIdx? (twBud · cp)) () hc (by simp) (by simp [Rm.row]) ?_ ?_
  · intro k _ hk hall hw
    have hok1 := (hok _ (List.getElem_mem hk)).1
    by_cases q : twBud l[k] cp = true
    · rw [find_drop hk, if_pos q] at hall
      simp [Try.ntmps120, Try.results120, cSl, cp0, cI, cD, cR, hk, hw, rRm, rCapR, rmDec, Rm.row, q, idxP, ← hall, hok1]
    · rw [find_drop hk, if_neg q] at hall
      simp at q
      simp [Try.ntmps120, Try.results120, cSl, cp0, cI, cD, cR, hk, hw, rRm, rCapR, rmDec, Rm.row, q, hok1]
      simpa using hall
  · intro _ hall
    simp at hall
    simp [Try.ntmps120, Try.results120, cSl, cp0, cI, cD, cR, idxP, ← hall]
attribute [local simp] okL_tau okL_bare okL_allV okL_one okL_res
def twX : Except Int Twn → Bool × Int × List Rm × Int
  | .ok t => (true, t.order, t.free, 0)
  | .error e => (false, 0, [], e)
def twU (q : Bool × Int × List Rm × Int) : AVal × Heap := (.tup [.agg [.v (.int .i64 q.2.1), okL q.1 0 2 q.2.2.1.length], .v (.int .i64 q.2.2.2)], [okO q.1 2 (q.2.2.1.map Rm.row)])
def twGive (t : Twn) (a o : Int) : Except Int Twn :=
  if twCheck t = 0 then (if apartB t ⟨a, o⟩ = true then .ok ⟨t.order, giveGo twBud t.order (t.order - o).toNat ⟨a, o⟩ t.free⟩ else .error 1) else .error (twCheck t)
theorem tw_lt {α : Type} {p : α → Bool} {l : List α} {i : Nat} (h : i < (l.takeWhile p).length) : ∃ hl : i < l.length, p l[i] = true := by
  induction l generalizing i with
  | nil => simp at h
  | cons a l ih =>
    by_cases q : p a = true
    · simp only [List.takeWhile_cons, q, if_true, List.length_cons] at h
      cases i with
      | zero => exact ⟨by simp, by simpa using q⟩
      | succ i =>
        obtain ⟨h1, h2⟩ := ih (i := i) (by omega)
        exact ⟨by simp; exact h1, by simpa using h2⟩
    · simp [List.takeWhile_cons, q] at h
theorem tw_end {α : Type} (p : α → Bool) (l : List α) : (l.takeWhile p).length = l.length ∨ ∃ hl : (l.takeWhile p).length < l.length, p l[(l.takeWhile p).length] = false := by
  induction l with
  | nil => simp
  | cons a l ih =>
    by_cases q : p a = true
    · rcases ih with h | ⟨h1, h2⟩
      · left; simp [List.takeWhile_cons, q, h]
      · right
        refine ⟨by simp [List.takeWhile_cons, q]; exact h1, ?_⟩
        simpa [List.takeWhile_cons, q] using h2
    · right
      simp at q
      exact ⟨by simp [List.takeWhile_cons, q], by simp [List.takeWhile_cons, q]⟩
theorem tw_take {α : Type} (p : α → Bool) (l : List α) : l.take (l.takeWhile p).length = l.takeWhile p ∧ l.drop (l.takeWhile p).length = l.dropWhile p := by
  induction l with
  | nil => simp
  | cons a l ih =>
    by_cases q : p a = true
    · simp [List.takeWhile_cons, List.dropWhile_cons, q, ih]
    · simp [List.takeWhile_cons, List.dropWhile_cons, q]
theorem tw_le {α : Type} (p : α → Bool) (l : List α) : (l.takeWhile p).length ≤ l.length := by
  have := congrArg List.length (tw_take p l).1
  simp at this
  omega
theorem insR_rows (l : List Rm) (r : Rm) : (insR l r).map Rm.row = List.take (l.takeWhile (fun x => decide (x.at_ < r.at_))).length (l.map Rm.row) ++ r.row :: List.drop (l.takeWhile (fun x => decide (x.at_ < r.at_))).length (l.map Rm.row) := by
  obtain ⟨h1, h2⟩ := tw_take (fun x : Rm => decide (x.at_ < r.at_)) l
  rw [← List.map_take, ← List.map_drop, h1, h2]
  simp [insR]
theorem insR_len (l : List Rm) (r : Rm) : (insR l r).length = l.length + 1 := by
  have h1 := congrArg List.length (insR_rows l r)
  have h2 := tw_le (fun x : Rm => decide (x.at_ < r.at_)) l
  simp at h1
  omega
theorem twGive_own : InlOk Try.prog 54 (own0 (argG (cAgg rTwn) fun t => argG (cInt .i64) fun a => argG (cInt .i64) fun o => finG (some (twU (twX (twGive t a o)))))) := by
  refine ownE_3 Try.func54 rfl ?_
  rintro t a o r H' hr
  simp only [Option.some.injEq, Prod.mk.injEq] at hr
  obtain ⟨rfl, rfl⟩ := hr
  refine bodyE_of (((((((noOrc_ok.withP twCheck_pure).withP apart_pure).withP giveI_pure).withIF rmClone clone_loc).withIF rmDel delete_loc).withIF rmIns insert_loc).withD (fun i => if i = 16 then [(1,5),(1,6)] else [])) fxMix (by kernel_rfl) (by simp [Try.ntmps54]) ?_
  intro C cP cI cN cD cF cA cR cL
  have cp0 := orcP twCheck_pure (C := C) (by rw [cP]; rfl)
  have cp1 := orcP apart_pure (C := C) (by rw [cP]; rfl)
  have cp2 := orcP giveI_pure (C := C) (by rw [cP]; rfl)
  have cn0 := orcI rmClone (C := C) (by rw [cN]; rfl)
  have cn1 := orcI rmDel (C := C) (by rw [cN]; rfl)
  have cn2 := orcI rmIns (C := C) (by rw [cN]; rfl)
  replace cI := fun g => congrFun cI g
  simp only [Orc.withP, Orc.withI, Orc.withF, Orc.withD, Orc.withA, Orc.withR, Orc.withC, noOrc] at cI
  replace cR : C.rd = fun _ => none := cR
  replace cD : C.dyn = fun i => if i = 16 then [(1,5),(1,6)] else [] := cD
  replace cF := fun g => congrFun cF g
  simp only [Orc.withP, Orc.withI, Orc.withF, Orc.withD, Orc.withA, Orc.withR, Orc.withC, noOrc] at cF
  replace cA : C.alt = fun _ => [] := cA
  clear cP cN
  obtain ⟨N, l⟩ := t
  unfold twGive
  simp only
  by_cases h0 : twCheck ⟨N, l⟩ = 0
  case neg =>
    simp [Try.ntmps54, Try.results54, cSl, cp0, cp1, cp2, cn0, cn1, cn2, cI, cD, cR, cF, cA, rTwn, twnDec, rRm, Twn.row, h0, twX, twU, okL, okO]
    first
    | exact ent_err (@tw_err _) (by simp [lowA, lowC])
    | (refine Ent.weakT (th := [0]) ?_; simp []; done)
    | (refine Ent.weakT (th := [1]) ?_; simp []; done)
    | (refine Ent.weakT (th := [2]) ?_; simp []; done)
    | (refine Ent.weakT (th := [3]) ?_; simp []; done)
    | (refine Ent.weakT (th := [4]) ?_; simp []; done)
    | (refine Ent.weakT (th := [5]) ?_; simp []; done)
    | (refine Ent.weakT (th := [6]) ?_; simp []; done)
    | (refine Ent.weakT (th := [7]) ?_; simp []; done)
    | (refine Ent.weakT (th := [8]) ?_; simp []; done)
    | (refine Ent.weakT (th := [9]) ?_; simp []; done)
    | (refine Ent.weakT (th := [10]) ?_; simp []; done)
    | (refine Ent.weakT (th := [11]) ?_; simp []; done)
  obtain ⟨g1, g2, g3⟩ := twCheck_ok.1 h0
  simp only at g1 g2 g3
  have hl := okl_len g2 g3
  have pN := pw_le64 g2
  by_cases c1 : apartB ⟨N, l⟩ ⟨a, o⟩ = true
  case neg =>
    simp [Try.ntmps54, Try.results54, cSl, cp0, cp1, cp2, cn0, cn1, cn2, cI, cD, cR, cF, cA, rTwn, twnDec, rRm, rmDec, Twn.row, h0, c1, twX, twU, okL, okO]
    first
    | exact ent_err (@tw_err _) (by simp [lowA, lowC])
    | (refine Ent.weakT (th := [0]) ?_; simp []; done)
    | (refine Ent.weakT (th := [1]) ?_; simp []; done)
    | (refine Ent.weakT (th := [2]) ?_; simp []; done)
    | (refine Ent.weakT (th := [3]) ?_; simp []; done)
    | (refine Ent.weakT (th := [4]) ?_; simp []; done)
    | (refine Ent.weakT (th := [5]) ?_; simp []; done)
    | (refine Ent.weakT (th := [6]) ?_; simp []; done)
    | (refine Ent.weakT (th := [7]) ?_; simp []; done)
    | (refine Ent.weakT (th := [8]) ?_; simp []; done)
    | (refine Ent.weakT (th := [9]) ?_; simp []; done)
    | (refine Ent.weakT (th := [10]) ?_; simp []; done)
    | (refine Ent.weakT (th := [11]) ?_; simp []; done)
  obtain ⟨f0, off0⟩ := apartB_iff.1 c1
  simp only at f0 off0
  have hl2 : l.length ≤ 4294967296 := by omega
  have key : ∀ (n : Nat) (r : Rm) (m : List Rm), Fit N r → Okl N m → (N - r.order).toNat = n → (idxP (twBud · r) m < 0 ∨ ¬ r.order < N) → giveGo twBud N n r m = insR m r := by
    intro n r m _ _ hn hh
    cases n with
    | zero => rfl
    | succ n =>
      rcases hh with hh | hh
      · have := idxP_none hh
        simp only [giveGo]
        rw [List.findIdx?_eq_none_iff.2 (fun x hx => this x hx)]
      · omega
  by_cases hne : l = []
  · subst hne
    have hi0 : idxP (twBud · ⟨a, o⟩) [] < 0 := by simp [idxP]
    have hres := key _ ⟨a, o⟩ [] f0 g3 rfl (.inl hi0)
    have hins : insR [] ⟨a, o⟩ = [⟨a, o⟩] := rfl
    rw [hins] at hres
    simp only at hres
    simp [Try.ntmps54, Try.results54, cSl, cp0, cp1, cp2, cn0, cn1, cn2, cI, cD, cR, cF, cA, rTwn, twnDec, rRm, rmDec, Twn.row, h0, c1, twX, twU, okL, okO, cloneI, hres]
    refine loop_rounds 1 ?_
    by_cases q : o < N
    · simp [Try.ntmps54, Try.results54, cSl, cp0, cp1, cp2, cn0, cn1, cn2, cI, cD, cR, cF, cA, UnrK, Twn.row, Rm.row, q, rRm, rCapR, rmDec, idxP]
      refine loop_rounds 1 ?_
      simp [Try.ntmps54, Try.results54, cSl, cp0, cp1, cp2, cn0, cn1, cn2, cI, cD, cR, cF, cA, UnrK, Twn.row, Rm.row, insertI, twX, twU, okL, okO, hres, Twn.hrow]
      first
      | exact ent_err (@tw_err _) (by simp [lowA, lowC])
      | (refine Ent.weakT (th := [0]) ?_; simp [Rm.row, lowA]; done)
      | (refine Ent.weakT (th := [1]) ?_; simp [Rm.row, lowA]; done)
      | (refine Ent.weakT (th := [2]) ?_; simp [Rm.row, lowA]; done)
      | (refine Ent.weakT (th := [3]) ?_; simp [Rm.row, lowA]; done)
      | (refine Ent.weakT (th := [4]) ?_; simp [Rm.row, lowA]; done)
      | (refine Ent.weakT (th := [5]) ?_; simp [Rm.row, lowA]; done)
      | (refine Ent.weakT (th := [6]) ?_; simp [Rm.row, lowA]; done)
      | (refine Ent.weakT (th := [7]) ?_; simp [Rm.row, lowA]; done)
      | (refine Ent.weakT (th := [8]) ?_; simp [Rm.row, lowA]; done)
      | (refine Ent.weakT (th := [9]) ?_; simp [Rm.row, lowA]; done)
      | (refine Ent.weakT (th := [10]) ?_; simp [Rm.row, lowA]; done)
      | (refine Ent.weakT (th := [11]) ?_; simp [Rm.row, lowA]; done)
    · simp [Try.ntmps54, Try.results54, cSl, cp0, cp1, cp2, cn0, cn1, cn2, cI, cD, cR, cF, cA, UnrK, Twn.row, Rm.row, q, rRm, rCapR, rmDec, idxP]
      refine loop_rounds 1 ?_
      simp [Try.ntmps54, Try.results54, cSl, cp0, cp1, cp2, cn0, cn1, cn2, cI, cD, cR, cF, cA, UnrK, Twn.row, Rm.row, insertI, twX, twU, okL, okO, hres, Twn.hrow]
      first
      | exact ent_err (@tw_err _) (by simp [lowA, lowC])
      | (refine Ent.weakT (th := [0]) ?_; simp [Rm.row, lowA]; done)
      | (refine Ent.weakT (th := [1]) ?_; simp [Rm.row, lowA]; done)
      | (refine Ent.weakT (th := [2]) ?_; simp [Rm.row, lowA]; done)
      | (refine Ent.weakT (th := [3]) ?_; simp [Rm.row, lowA]; done)
      | (refine Ent.weakT (th := [4]) ?_; simp [Rm.row, lowA]; done)
      | (refine Ent.weakT (th := [5]) ?_; simp [Rm.row, lowA]; done)
      | (refine Ent.weakT (th := [6]) ?_; simp [Rm.row, lowA]; done)
      | (refine Ent.weakT (th := [7]) ?_; simp [Rm.row, lowA]; done)
      | (refine Ent.weakT (th := [8]) ?_; simp [Rm.row, lowA]; done)
      | (refine Ent.weakT (th := [9]) ?_; simp [Rm.row, lowA]; done)
      | (refine Ent.weakT (th := [10]) ?_; simp [Rm.row, lowA]; done)
      | (refine Ent.weakT (th := [11]) ?_; simp [Rm.row, lowA]; done)
  · simp [Try.ntmps54, Try.results54, cSl, cp0, cp1, cp2, cn0, cn1, cn2, cI, cD, cR, cF, cA, rTwn, twnDec, rRm, rmDec, Twn.row, h0, c1, twX, twU, okL, okO, cloneI, hne, hl2]
    generalize hG : giveGo twBud N (N - o).toNat ⟨a, o⟩ l = G
    refine loop_inv (σ := {p : Nat × Rm × List Rm // giveGo twBud N p.1 p.2.1 p.2.2 = G ∧ Fit N p.2.1 ∧ Okl N p.2.2 ∧ (N - p.2.1.order).toNat = p.1}) (fun p => ([(3, .ptr 0 2 0 0), (6, .ptr 1 2 0 0), (9, .ptr 2 2 0 0), (10, .osl 3 2 0 p.val.2.2.length p.val.2.2.length)], [some (2, [Twn.row ⟨N, l⟩]), some (2, [[.v (.int .i64 0), .v (.slice none 0 0)]]), some (2, [p.val.2.1.row]), some (2, p.val.2.2.map Rm.row)])) (fun p => p.val.1) ⟨((N - o).toNat, ⟨a, o⟩, l), hG, f0, g3, rfl⟩ (by simp [Twn.row, Rm.row]) ?_
    rintro ⟨⟨n, r, m⟩, i1, i2, i3, i4⟩
    simp only at i1 i2 i3 i4 ⊢
    have hml := okl_len g2 i3
    have hml2 : m.length ≤ 4294967296 := by omega
    have hml3 : m.length ≤ 1048576 := by omega
    have hok : (∀ x, x ∈ m → okR x) = True := eq_true fun x hx => fit_okR g2 (i3.1 x hx)
    by_cases q : r.order < N
    · by_cases q2 : idxP (twBud · r) m < 0
      · have hres := key n r m i2 i3 i4 (.inl q2)
        rw [i1] at hres
        simp [Try.ntmps54, Try.results54, cSl, cp0, cp1, cp2, cn0, cn1, cn2, cI, cD, cR, cF, cA, Twn.row, Rm.row, q, rRm, rCapR, rmDec, hml2, hok, q2]
        generalize htw : (m.takeWhile (fun x => decide (x.at_ < r.at_))).length = tw at *
        have htl : tw ≤ m.length := by rw [← htw]; exact tw_le _ _
        refine loop_inv (σ := {i : Nat // i ≤ tw}) (fun p => ([(3, .ptr 0 2 0 0), (6, .ptr 1 2 0 0), (9, .ptr 2 2 0 0), (10, .osl 3 2 0 m.length m.length), (12, .v (.int .i64 p.val))], [some (2, [Twn.row ⟨N, l⟩]), some (2, [[.v (.int .i64 0), .v (.slice none 0 0)]]), some (2, [r.row]), some (2, m.map Rm.row)])) (fun p => tw - p.val) ⟨0, by omega⟩ (by simp [Twn.row, Rm.row]) ?_
        rintro ⟨i, hi⟩
        have hw : IntKind.i64.wrap ((i : Int) + 1) = ((i + 1 : Nat) : Int) := by rw [w64 (by omega) (by omega)]; simp
        rcases Nat.lt_or_ge i tw with hit | hit
        · obtain ⟨hil, hip⟩ := tw_lt (p := fun x : Rm => decide (x.at_ < r.at_)) (l := m) (i := i) (by rw [htw]; exact hit)
          simp at hip
          simp [Try.ntmps54, Try.results54, cSl, cp0, cp1, cp2, cn0, cn1, cn2, cI, cD, cR, cF, cA, hil, Twn.row, Rm.row, hip, hw]
          exact ⟨i + 1, by omega, by omega, by simp⟩
        · have hitw : i = tw := by omega
          subst hitw
          have hYm := (insR_rows m r).symm
          have hYl := insR_len m r
          generalize insR m r = Y at *
          rw [htw] at hYm
          simp only [Rm.row] at hYm
          have hend := tw_end (fun x : Rm => decide (x.at_ < r.at_)) m
          simp only [htw] at hend
          have hcond : ¬ ∃ hh : i < m.length, m[i].at_ < r.at_ := by
            rintro ⟨h1, h2⟩
            rcases hend with h | ⟨_, h⟩
            · omega
            · simp at h; omega
          have hl1 : m.length ≤ 1048576 := by omega
          have hile : i ≤ m.length := htl
          have t1 : m.length + 1 ≤ i + (m.length - i + 1) := by omega
          have t2 : ∀ x : Row, List.take (m.length + 1) (List.take i (m.map Rm.row) ++ x :: List.drop i (m.map Rm.row)) = List.take i (m.map Rm.row) ++ x :: List.drop i (m.map Rm.row) := fun x => List.take_of_length_le (by simp; omega)
          by_cases hil : i < m.length
          · have hp : ¬ m[i].at_ < r.at_ := fun h => hcond ⟨hil, h⟩
            simp [Try.ntmps54, Try.results54, cSl, cp0, cp1, cp2, cn0, cn1, cn2, cI, cD, cR, cF, cA, hil, Twn.row, Twn.hrow, Rm.row, hp, insertI, hl1, hile, twX, twU, okL, okO, hres, hYm, hYl, t1, t2]
            first
            | exact ent_err (@tw_err _) (by simp [lowA, lowC])
            | (refine Ent.weakT (th := [0]) ?_; simp [Rm.row, lowA]; done)
            | (refine Ent.weakT (th := [1]) ?_; simp [Rm.row, lowA]; done)
            | (refine Ent.weakT (th := [2]) ?_; simp [Rm.row, lowA]; done)
            | (refine Ent.weakT (th := [3]) ?_; simp [Rm.row, lowA]; done)
            | (refine Ent.weakT (th := [4]) ?_; simp [Rm.row, lowA]; done)
            | (refine Ent.weakT (th := [5]) ?_; simp [Rm.row, lowA]; done)
            | (refine Ent.weakT (th := [6]) ?_; simp [Rm.row, lowA]; done)
            | (refine Ent.weakT (th := [7]) ?_; simp [Rm.row, lowA]; done)
            | (refine Ent.weakT (th := [8]) ?_; simp [Rm.row, lowA]; done)
            | (refine Ent.weakT (th := [9]) ?_; simp [Rm.row, lowA]; done)
            | (refine Ent.weakT (th := [10]) ?_; simp [Rm.row, lowA]; done)
            | (refine Ent.weakT (th := [11]) ?_; simp [Rm.row, lowA]; done)
          · have hile2 : i = m.length := by omega
            simp [Try.ntmps54, Try.results54, cSl, cp0, cp1, cp2, cn0, cn1, cn2, cI, cD, cR, cF, cA, hil, Twn.row, Twn.hrow, Rm.row, insertI, hl1, hile, twX, twU, okL, okO, hres, hYm, hYl, t1, t2]
            first
            | exact ent_err (@tw_err _) (by simp [lowA, lowC])
            | (refine Ent.weakT (th := [0]) ?_; simp [Rm.row, lowA]; done)
            | (refine Ent.weakT (th := [1]) ?_; simp [Rm.row, lowA]; done)
            | (refine Ent.weakT (th := [2]) ?_; simp [Rm.row, lowA]; done)
            | (refine Ent.weakT (th := [3]) ?_; simp [Rm.row, lowA]; done)
            | (refine Ent.weakT (th := [4]) ?_; simp [Rm.row, lowA]; done)
            | (refine Ent.weakT (th := [5]) ?_; simp [Rm.row, lowA]; done)
            | (refine Ent.weakT (th := [6]) ?_; simp [Rm.row, lowA]; done)
            | (refine Ent.weakT (th := [7]) ?_; simp [Rm.row, lowA]; done)
            | (refine Ent.weakT (th := [8]) ?_; simp [Rm.row, lowA]; done)
            | (refine Ent.weakT (th := [9]) ?_; simp [Rm.row, lowA]; done)
            | (refine Ent.weakT (th := [10]) ?_; simp [Rm.row, lowA]; done)
            | (refine Ent.weakT (th := [11]) ?_; simp [Rm.row, lowA]; done)
      · obtain ⟨k, e1, hk, e2, e3⟩ := idxP_some q2
        have hf : m.findIdx? (twBud · r) = some k := by
          unfold idxP at e1
          split at e1
          · rename_i k' hk'; rw [hk']; congr 1; omega
          · omega
        have hB := (twBud_iff g2 (i3.1 _ (List.getElem_mem hk)) i2).1 e2
        obtain ⟨m1, m2⟩ := bud_merge (i3.1 _ (List.getElem_mem hk)) i2 hB q
        cases n with
        | zero => omega
        | succ n =>
          simp only [giveGo, hf] at i1
          have e : (m[k]?.getD r) = m[k] := by simp [hk]
          rw [e] at i1
          have w1 : IntKind.i64.wrap (r.order + 1) = r.order + 1 := by have := i2.1; exact w64 (by omega) (by omega)
          have w2 : IntKind.i64.wrap ((k : Int) + 1) = (k : Int) + 1 := w64 (by omega) (by omega)
          have e4 : (if m[k].at_ < r.at_ then m[k].at_ else r.at_) = min r.at_ m[k].at_ := by omega
          have he : (m.map Rm.row).eraseIdx k = (m.eraseIdx k).map Rm.row := by rw [List.eraseIdx_eq_take_drop_succ, List.eraseIdx_eq_take_drop_succ]; simp
          have hle : (m.eraseIdx k).length = m.length - 1 := by rw [List.length_eraseIdx, if_pos hk]
          have hsub : (m.eraseIdx k).Sublist m := List.eraseIdx_sublist ..
          have q3 : ¬ ((k : Int) < 0) := by omega
          simp [Try.ntmps54, Try.results54, cSl, cp0, cp1, cp2, cn0, cn1, cn2, cI, cD, cR, cF, cA, Twn.row, Rm.row, q, rRm, rCapR, rmDec, hml2, hml3, hok, e1, q3, hk, w1, w2, e4, he, deleteI]
          exact ⟨n, by omega, ⟨min r.at_ m[k].at_, r.order + 1⟩, m.eraseIdx k, hle.symm, ⟨rfl, rfl⟩, ⟨i1, m1, ⟨fun y hy => i3.1 y (hsub.subset hy), i3.2.sublist hsub⟩, by simp; omega⟩, rfl⟩
    · have hres := key n r m i2 i3 i4 (.inr q)
      rw [i1] at hres
      simp [Try.ntmps54, Try.results54, cSl, cp0, cp1, cp2, cn0, cn1, cn2, cI, cD, cR, cF, cA, Twn.row, Rm.row, q]
      generalize htw : (m.takeWhile (fun x => decide (x.at_ < r.at_))).length = tw at *
      have htl : tw ≤ m.length := by rw [← htw]; exact tw_le _ _
      refine loop_inv (σ := {i : Nat // i ≤ tw}) (fun p => ([(3, .ptr 0 2 0 0), (6, .ptr 1 2 0 0), (9, .ptr 2 2 0 0), (10, .osl 3 2 0 m.length m.length), (12, .v (.int .i64 p.val))], [some (2, [Twn.row ⟨N, l⟩]), some (2, [[.v (.int .i64 0), .v (.slice none 0 0)]]), some (2, [r.row]), some (2, m.map Rm.row)])) (fun p => tw - p.val) ⟨0, by omega⟩ (by simp [Twn.row, Rm.row]) ?_
      rintro ⟨i, hi⟩
      have hw : IntKind.i64.wrap ((i : Int) + 1) = ((i + 1 : Nat) : Int) := by rw [w64 (by omega) (by omega)]; simp
      rcases Nat.lt_or_ge i tw with hit | hit
      · obtain ⟨hil, hip⟩ := tw_lt (p := fun x : Rm => decide (x.at_ < r.at_)) (l := m) (i := i) (by rw [htw]; exact hit)
        simp at hip
        simp [Try.ntmps54, Try.results54, cSl, cp0, cp1, cp2, cn0, cn1, cn2, cI, cD, cR, cF, cA, hil, Twn.row, Rm.row, hip, hw]
        exact ⟨i + 1, by omega, by omega, by simp⟩
      · have hitw : i = tw := by omega
        subst hitw
        have hYm := (insR_rows m r).symm
        have hYl := insR_len m r
        generalize insR m r = Y at *
        rw [htw] at hYm
        simp only [Rm.row] at hYm
        have hend := tw_end (fun x : Rm => decide (x.at_ < r.at_)) m
        simp only [htw] at hend
        have hcond : ¬ ∃ hh : i < m.length, m[i].at_ < r.at_ := by
          rintro ⟨h1, h2⟩
          rcases hend with h | ⟨_, h⟩
          · omega
          · simp at h; omega
        have hl1 : m.length ≤ 1048576 := by omega
        have hile : i ≤ m.length := htl
        have t1 : m.length + 1 ≤ i + (m.length - i + 1) := by omega
        have t2 : ∀ x : Row, List.take (m.length + 1) (List.take i (m.map Rm.row) ++ x :: List.drop i (m.map Rm.row)) = List.take i (m.map Rm.row) ++ x :: List.drop i (m.map Rm.row) := fun x => List.take_of_length_le (by simp; omega)
        by_cases hil : i < m.length
        · have hp : ¬ m[i].at_ < r.at_ := fun h => hcond ⟨hil, h⟩
          simp [Try.ntmps54, Try.results54, cSl, cp0, cp1, cp2, cn0, cn1, cn2, cI, cD, cR, cF, cA, hil, Twn.row, Twn.hrow, Rm.row, hp, insertI, hl1, hile, twX, twU, okL, okO, hres, hYm, hYl, t1, t2]
          first
          | exact ent_err (@tw_err _) (by simp [lowA, lowC])
          | (refine Ent.weakT (th := [0]) ?_; simp [Rm.row, lowA]; done)
          | (refine Ent.weakT (th := [1]) ?_; simp [Rm.row, lowA]; done)
          | (refine Ent.weakT (th := [2]) ?_; simp [Rm.row, lowA]; done)
          | (refine Ent.weakT (th := [3]) ?_; simp [Rm.row, lowA]; done)
          | (refine Ent.weakT (th := [4]) ?_; simp [Rm.row, lowA]; done)
          | (refine Ent.weakT (th := [5]) ?_; simp [Rm.row, lowA]; done)
          | (refine Ent.weakT (th := [6]) ?_; simp [Rm.row, lowA]; done)
          | (refine Ent.weakT (th := [7]) ?_; simp [Rm.row, lowA]; done)
          | (refine Ent.weakT (th := [8]) ?_; simp [Rm.row, lowA]; done)
          | (refine Ent.weakT (th := [9]) ?_; simp [Rm.row, lowA]; done)
          | (refine Ent.weakT (th := [10]) ?_; simp [Rm.row, lowA]; done)
          | (refine Ent.weakT (th := [11]) ?_; simp [Rm.row, lowA]; done)
        · have hile2 : i = m.length := by omega
          simp [Try.ntmps54, Try.results54, cSl, cp0, cp1, cp2, cn0, cn1, cn2, cI, cD, cR, cF, cA, hil, Twn.row, Twn.hrow, Rm.row, insertI, hl1, hile, twX, twU, okL, okO, hres, hYm, hYl, t1, t2]
          first
          | exact ent_err (@tw_err _) (by simp [lowA, lowC])
          | (refine Ent.weakT (th := [0]) ?_; simp [Rm.row, lowA]; done)
          | (refine Ent.weakT (th := [1]) ?_; simp [Rm.row, lowA]; done)
          | (refine Ent.weakT (th := [2]) ?_; simp [Rm.row, lowA]; done)
          | (refine Ent.weakT (th := [3]) ?_; simp [Rm.row, lowA]; done)
          | (refine Ent.weakT (th := [4]) ?_; simp [Rm.row, lowA]; done)
          | (refine Ent.weakT (th := [5]) ?_; simp [Rm.row, lowA]; done)
          | (refine Ent.weakT (th := [6]) ?_; simp [Rm.row, lowA]; done)
          | (refine Ent.weakT (th := [7]) ?_; simp [Rm.row, lowA]; done)
          | (refine Ent.weakT (th := [8]) ?_; simp [Rm.row, lowA]; done)
          | (refine Ent.weakT (th := [9]) ?_; simp [Rm.row, lowA]; done)
          | (refine Ent.weakT (th := [10]) ?_; simp [Rm.row, lowA]; done)
          | (refine Ent.weakT (th := [11]) ?_; simp [Rm.row, lowA]; done)
theorem twGive_inl : InlOk Try.prog 54 (frame0 (own0 (argG (cAgg rTwn) fun t => argG (cInt .i64) fun a => argG (cInt .i64) fun o => finG (some (twU (twX (twGive t a o))))))) := frame0_ok twGive_own
end
end
end Go.Proofs.Ytebpjfdbjhodiaa
