/- Package swap: what its functions answer, at every argument. -/
import Derived.Test.YtkajpjbjafjbkaaGoA
namespace Go.Proofs.Ytkajpjbjafjbkaa
open Go.AI
set_option maxHeartbeats 2000000
set_option linter.unusedSimpArgs false
set_option linter.unusedVariables false
attribute [local simp] wpA wpX RunA RunD runF foot footP bare apart runL step1 gsel_f gsel_t gsel_s res_same res_and1 res_and2 res_and3 res_and4 res_and5 res_and6 res_false res_true res_v res_ptr res_fptr res_osl res_fsl res_esl res_agg res_tup res_fn res_junk res_anyb aPick hk imp_left iteV dstOk guardOk astep astepE AI.ev AI.look AI.put envOf aBox cellsOf allOne allOneA oneA Value.oneCell' Value.cells newObj' aFieldAddr aLoad obj readAt thenA blockA condA retA resA tupA view hot hotC hotR depthV cAgg cInt cBool mkAgg allV aAlloc aBuild fillA writeAt aStore isAggA aField idx aIndexAddr aIndex bnd aSlice aExtract aLen aBuiltin aCall isStatic eqAgg eqTy eqC ev_add ev_sub ev_mul ev_quo ev_rem ev_and ev_or ev_xor ev_andNot ev_shl ev_shr ev_eql ev_neq ev_lss ev_leq ev_gtr ev_geq ev_agg w64 wu32 wu8 ev_not ev_neg Cod.plain RCod.plain argM finM cold coldC coldR goInt intDec boolDec aggDec Weaker heapW lowA lowC Again slDec undef aBuildSlice setRows aAppend rowsOf aMakeSlice aClear aCopy softer_self softer_nil valsOf ev_min2 ev_max2 hotR_set hotR_append take_map_set irow_cold irow_mapM irow_mapMc irow_view irow_viewc irow_hotR irow_ren irow_renc irow_low WeakT heapT thOf ren renC AgainT NextF NextT fnDec cFn rNil selfLt natLt0 natLt1 getLastMap fxSz2 fxBy2 fxAg2 fxZe2 fxSl2 fxAr2 fxPl2 fxSz3 fxBy3 fxAg3 fxZe3 fxSl3 fxAr3 fxPl3 fxSz4 fxBy4 fxAg4 fxZe4 fxSl4 fxAr4 fxPl4 fxSz5 fxBy5 fxAg5 fxZe5 fxSl5 fxAr5 fxPl5 fxSz9 fxBy9 fxAg9 fxZe9 fxSl9 fxAr9 fxPl9 fxSz12 fxBy12 fxAg12 fxZe12 fxSl12 fxAr12 fxPl12 fxSz13 fxBy13 fxAg13 fxZe13 fxSl13 fxAr13 fxFi13x0 fxFi13x1 fxPl13 fxSz21 fxBy21 fxAg21 fxZe21 fxSl21 fxAr21 fxPl21 fxSz22 fxBy22 fxAg22 fxZe22 fxSl22 fxAr22 fxPl22 fxSz23 fxBy23 fxAg23 fxZe23 fxSl23 fxAr23 fxPl23 fxSz24 fxBy24 fxAg24 fxZe24 fxSl24 fxAr24 fxPl24 fxSz38 fxBy38 fxAg38 fxZe38 fxSl38 fxAr38 fxFi38x0 fxFi38x1 fxPl38 fxSz39 fxBy39 fxAg39 fxZe39 fxSl39 fxAr39 fxFi39x0 fxFi39x1 fxPl39 fxSz41 fxBy41 fxAg41 fxZe41 fxSl41 fxAr41 fxFi41x0 fxFi41x1 fxFi41x2 fxFi41x3 fxFi41x4 fxFi41x5 fxFi41x6 fxPl41 fxSz42 fxBy42 fxAg42 fxZe42 fxSl42 fxAr42 fxFi42x0 fxFi42x1 fxFi42x2 fxFi42x3 fxFi42x4 fxFi42x5 fxFi42x6 fxPl42 fxSz43 fxBy43 fxAg43 fxZe43 fxSl43 fxAr43 fxFi43x0 fxFi43x1 fxFi43x2 fxFi43x3 fxPl43 fxSz44 fxBy44 fxAg44 fxZe44 fxSl44 fxAr44 fxFi44x0 fxFi44x1 fxFi44x2 fxFi44x3 fxPl44 fxSz45 fxBy45 fxAg45 fxZe45 fxSl45 fxAr45 fxPl45 fxSz57 fxBy57 fxAg57 fxZe57 fxSl57 fxAr57 fxPl57 fxSz68 fxBy68 fxAg68 fxZe68 fxSl68 fxAr68 fxPl68 fxSz72 fxBy72 fxAg72 fxZe72 fxSl72 fxAr72 fxPl72 fxSz73 fxBy73 fxAg73 fxZe73 fxSl73 fxAr73 fxFi73x0 fxPl73 fxSz76 fxBy76 fxAg76 fxZe76 fxSl76 fxAr76 fxPl76 fxSz80 fxBy80 fxAg80 fxZe80 fxSl80 fxAr80 fxPl80 fxSz85 fxBy85 fxAg85 fxZe85 fxSl85 fxAr85 fxPl85 fxEq23 fxEq39 fxEq42 fxEq44 fxCv2x2 fxCv2x3 fxCv2x5 fxCv2x12 fxCv2x21 fxCv2x24 fxCv2x76 fxCv3x2 fxCv3x3 fxCv3x5 fxCv3x12 fxCv3x21 fxCv3x24 fxCv3x76 fxCv5x2 fxCv5x3 fxCv5x5 fxCv5x12 fxCv5x21 fxCv5x24 fxCv5x76 fxCv12x2 fxCv12x3 fxCv12x5 fxCv12x12 fxCv12x21 fxCv12x24 fxCv12x76 fxCv21x2 fxCv21x3 fxCv21x5 fxCv21x12 fxCv21x21 fxCv21x24 fxCv21x76 fxCv24x2 fxCv24x3 fxCv24x5 fxCv24x12 fxCv24x21 fxCv24x24 fxCv24x76 fxCv76x2 fxCv76x3 fxCv76x5 fxCv76x12 fxCv76x21 fxCv76x24 fxCv76x76 fxEb4 fxNb4 fxLt9 fxLn22 fxNe22 fxNn22 fxLn45 fxNe45 fxNn45 fxLn57 fxNe57 fxNn57 fxFn3 fxFb3 fxFn4 fxFb4 fxFn5 fxFb5 fxFn6 fxFb6 fxFn7 fxFb7 fxFn8 fxFb8 fxFn9 fxFb9 fxFn10 fxFb10 fxFn11 fxFb11 fxFn12 fxFb12 fxFn13 fxFb13 fxFn14 fxFb14 fxFn15 fxFb15 fxFn16 fxFb16 fxFn17 fxFb17 fxFn18 fxFb18 fxFn19 fxFb19 fxFn20 fxFb20 fxFn21 fxFb21 fxFn22 fxFb22 fxFn23 fxFb23 fxFn24 fxFb24 fxFn25 fxFb25 fxFn26 fxFb26 fxFn27 fxFb27 fxFn28 fxFb28 fxFn29 fxFb29 fxFn30 fxFb30 fxFn31 fxFb31 fxFn32 fxFb32 fxFn33 fxFb33 fxFn34 fxFb34
structure Pg where
  b0 : Int
  b1 : Int
  b2 : Int
  b3 : Int
  b4 : Int
  b5 : Int
  b6 : Int
  b7 : Int
  b8 : Int
  b9 : Int
  b10 : Int
  b11 : Int
  b12 : Int
  b13 : Int
  b14 : Int
  b15 : Int
  deriving DecidableEq
def pgDec : Row → Option Pg
  | [.v (.int .u8 x0), .v (.int .u8 x1), .v (.int .u8 x2), .v (.int .u8 x3), .v (.int .u8 x4), .v (.int .u8 x5), .v (.int .u8 x6), .v (.int .u8 x7), .v (.int .u8 x8), .v (.int .u8 x9), .v (.int .u8 x10), .v (.int .u8 x11), .v (.int .u8 x12), .v (.int .u8 x13), .v (.int .u8 x14), .v (.int .u8 x15)] => some ⟨x0, x1, x2, x3, x4, x5, x6, x7, x8, x9, x10, x11, x12, x13, x14, x15⟩
  | _ => none
def Pg.row (e : Pg) : Row := [.v (.int .u8 e.b0), .v (.int .u8 e.b1), .v (.int .u8 e.b2), .v (.int .u8 e.b3), .v (.int .u8 e.b4), .v (.int .u8 e.b5), .v (.int .u8 e.b6), .v (.int .u8 e.b7), .v (.int .u8 e.b8), .v (.int .u8 e.b9), .v (.int .u8 e.b10), .v (.int .u8 e.b11), .v (.int .u8 e.b12), .v (.int .u8 e.b13), .v (.int .u8 e.b14), .v (.int .u8 e.b15)]
def rPg : RCod Pg := RCod.plain 16 Pg.row pgDec
  (fun e => rfl) (fun _ => rfl) (fun r e h => by
    unfold pgDec at h
    split at h
    · simp at h; subst h; rfl
    · cases h)
def Pg.val (e : Pg) : Value := .agg #[.int .u8 e.b0, .int .u8 e.b1, .int .u8 e.b2, .int .u8 e.b3, .int .u8 e.b4, .int .u8 e.b5, .int .u8 e.b6, .int .u8 e.b7, .int .u8 e.b8, .int .u8 e.b9, .int .u8 e.b10, .int .u8 e.b11, .int .u8 e.b12, .int .u8 e.b13, .int .u8 e.b14, .int .u8 e.b15]
theorem Pg.eta (e : Pg) : Pg.mk e.b0 e.b1 e.b2 e.b3 e.b4 e.b5 e.b6 e.b7 e.b8 e.b9 e.b10 e.b11 e.b12 e.b13 e.b14 e.b15 = e := rfl
attribute [local simp] Pg.eta
theorem Pg.cold (l : List Pg) : coldR (l.map Pg.row) = l.map Pg.row := by
  induction l with
  | nil => simp [coldR]
  | cons e l ih => simp [coldR, coldC, AI.cold, ih, Pg.row]
theorem Pg.mapM (l : List Pg) : (l.map Pg.row).mapM pgDec = some l := mapM_dec rPg l
theorem Pg.mapMc (l : List Pg) : l.mapM (pgDec ∘ Pg.row) = some l := mapM_dec' rPg l
theorem Pg.view (H : Heap) (n : Nat) (e : Pg) : List.map (AI.view H n) e.row = e.row := by cases n <;> simp [Pg.row, AI.view]
theorem Pg.viewc (H : Heap) (n : Nat) : List.map (AI.view H n) ∘ Pg.row = Pg.row := by funext e; exact Pg.view H n e
theorem Pg.hotR (l : List Pg) : AI.hotR (l.map Pg.row) = true := by
  induction l with
  | nil => simp [AI.hotR]
  | cons e l ih => simp [AI.hotR, hotC, hot, ih, Pg.row]
theorem Pg.ren (n : Nat) (th : List Nat) (e : Pg) : List.map (AI.ren n th) e.row = e.row := by simp [Pg.row, AI.ren]
theorem Pg.renc (n : Nat) (th : List Nat) : List.map (AI.ren n th) ∘ Pg.row = Pg.row := by funext e; exact Pg.ren n th e
theorem Pg.low (n : Nat) (e : Pg) : e.row.all (lowA n) = true := by simp [Pg.row, lowA]
attribute [local simp] Pg.cold Pg.mapM Pg.mapMc Pg.view Pg.viewc Pg.hotR Pg.ren Pg.renc Pg.low
structure Slot where
  many : Int
  data : Pg
  deriving DecidableEq
def slotDec : Row → Option Slot
  | [.v (.int .i64 x0), .v (.int .u8 x1), .v (.int .u8 x2), .v (.int .u8 x3), .v (.int .u8 x4), .v (.int .u8 x5), .v (.int .u8 x6), .v (.int .u8 x7), .v (.int .u8 x8), .v (.int .u8 x9), .v (.int .u8 x10), .v (.int .u8 x11), .v (.int .u8 x12), .v (.int .u8 x13), .v (.int .u8 x14), .v (.int .u8 x15), .v (.int .u8 x16)] => some ⟨x0, ⟨x1, x2, x3, x4, x5, x6, x7, x8, x9, x10, x11, x12, x13, x14, x15, x16⟩⟩
  | _ => none
def Slot.row (e : Slot) : Row := [.v (.int .i64 e.many), .v (.int .u8 e.data.b0), .v (.int .u8 e.data.b1), .v (.int .u8 e.data.b2), .v (.int .u8 e.data.b3), .v (.int .u8 e.data.b4), .v (.int .u8 e.data.b5), .v (.int .u8 e.data.b6), .v (.int .u8 e.data.b7), .v (.int .u8 e.data.b8), .v (.int .u8 e.data.b9), .v (.int .u8 e.data.b10), .v (.int .u8 e.data.b11), .v (.int .u8 e.data.b12), .v (.int .u8 e.data.b13), .v (.int .u8 e.data.b14), .v (.int .u8 e.data.b15)]
def rSlot : RCod Slot := RCod.plain 17 Slot.row slotDec
  (fun e => rfl) (fun _ => rfl) (fun r e h => by
    unfold slotDec at h
    split at h
    · simp at h; subst h; rfl
    · cases h)
def Slot.val (e : Slot) : Value := .agg #[.int .i64 e.many, .int .u8 e.data.b0, .int .u8 e.data.b1, .int .u8 e.data.b2, .int .u8 e.data.b3, .int .u8 e.data.b4, .int .u8 e.data.b5, .int .u8 e.data.b6, .int .u8 e.data.b7, .int .u8 e.data.b8, .int .u8 e.data.b9, .int .u8 e.data.b10, .int .u8 e.data.b11, .int .u8 e.data.b12, .int .u8 e.data.b13, .int .u8 e.data.b14, .int .u8 e.data.b15]
theorem Slot.eta (e : Slot) : Slot.mk e.many e.data = e := rfl
attribute [local simp] Slot.eta
theorem Slot.cold (l : List Slot) : coldR (l.map Slot.row) = l.map Slot.row := by
  induction l with
  | nil => simp [coldR]
  | cons e l ih => simp [coldR, coldC, AI.cold, ih, Slot.row]
theorem Slot.mapM (l : List Slot) : (l.map Slot.row).mapM slotDec = some l := mapM_dec rSlot l
theorem Slot.mapMc (l : List Slot) : l.mapM (slotDec ∘ Slot.row) = some l := mapM_dec' rSlot l
theorem Slot.view (H : Heap) (n : Nat) (e : Slot) : List.map (AI.view H n) e.row = e.row := by cases n <;> simp [Slot.row, AI.view]
theorem Slot.viewc (H : Heap) (n : Nat) : List.map (AI.view H n) ∘ Slot.row = Slot.row := by funext e; exact Slot.view H n e
theorem Slot.hotR (l : List Slot) : AI.hotR (l.map Slot.row) = true := by
  induction l with
  | nil => simp [AI.hotR]
  | cons e l ih => simp [AI.hotR, hotC, hot, ih, Slot.row]
theorem Slot.ren (n : Nat) (th : List Nat) (e : Slot) : List.map (AI.ren n th) e.row = e.row := by simp [Slot.row, AI.ren]
theorem Slot.renc (n : Nat) (th : List Nat) : List.map (AI.ren n th) ∘ Slot.row = Slot.row := by funext e; exact Slot.ren n th e
theorem Slot.low (n : Nat) (e : Slot) : e.row.all (lowA n) = true := by simp [Slot.row, lowA]
attribute [local simp] Slot.cold Slot.mapM Slot.mapMc Slot.view Slot.viewc Slot.hotR Slot.ren Slot.renc Slot.low
def noPg : Pg := ⟨0, 0, 0, 0, 0, 0, 0, 0, 0, 0, 0, 0, 0, 0, 0, 0⟩
def noSlot : Slot := ⟨0, noPg⟩
theorem pg_eq (a b : Pg) : a = b ↔ (a.b0 = b.b0 ∧ a.b1 = b.b1 ∧ a.b2 = b.b2 ∧ a.b3 = b.b3 ∧ a.b4 = b.b4 ∧ a.b5 = b.b5 ∧ a.b6 = b.b6 ∧ a.b7 = b.b7 ∧ a.b8 = b.b8 ∧ a.b9 = b.b9 ∧ a.b10 = b.b10 ∧ a.b11 = b.b11 ∧ a.b12 = b.b12 ∧ a.b13 = b.b13 ∧ a.b14 = b.b14 ∧ a.b15 = b.b15) := by cases a; cases b; simp
theorem slot_eq (a b : Slot) : a = b ↔ (a.many = b.many ∧ a.data.b0 = b.data.b0 ∧ a.data.b1 = b.data.b1 ∧ a.data.b2 = b.data.b2 ∧ a.data.b3 = b.data.b3 ∧ a.data.b4 = b.data.b4 ∧ a.data.b5 = b.data.b5 ∧ a.data.b6 = b.data.b6 ∧ a.data.b7 = b.data.b7 ∧ a.data.b8 = b.data.b8 ∧ a.data.b9 = b.data.b9 ∧ a.data.b10 = b.data.b10 ∧ a.data.b11 = b.data.b11 ∧ a.data.b12 = b.data.b12 ∧ a.data.b13 = b.data.b13 ∧ a.data.b14 = b.data.b14 ∧ a.data.b15 = b.data.b15) := by cases a; cases b; simp [pg_eq]

def Slot.chk (s : Slot) : Int := if s.many < 0 ∨ 1024 < s.many then 1 else if s.many = 0 ∧ ¬ s = noSlot then 3 else 0
def swAll : List Slot → Int
  | [] => 0
  | f :: r => if f.chk = 0 then swAll r else f.chk
def swCheck (l : List Slot) : Int := if 64 < l.length then 2 else swAll l

theorem swCheck_pure : PureOk Try.prog 23 (argM (cSl rSlot) fun l => finM (some (.v (.int .i64 (swCheck l))))) := by
  refine pure1 Try.func23 rfl ?_
  rintro l r hr
  simp only [Option.some.injEq] at hr
  subst hr
  refine body_gen noOrc_ok fxMix (by kernel_rfl) (by simp [Try.ntmps23]) ?_
  intro C cP cI cN cD
  replace cI : C.inl = fun _ => false := cI
  replace cD : C.dyn = fun _ => [] := cD
  clear cP cN
  simp [Try.ntmps23, Try.results23, cSl, cI, cD, rSlot]
  unfold swCheck
  split
  · rename_i h; simp [show 64 < l.length by omega]
  · rename_i h
    rw [if_neg (by omega)]
    refine loop_for l.length (fun k (_ : Unit) => ([(8, .fsl false 17 (l.map Slot.row)), (9, .v (.int .i64 l.length)), (10, .v (.int .i64 k))], [])) (fun k _ => swAll (l.drop k) = swAll l) () (by omega) (by simp) (by simp) ?_ ?_
    · intro k _ hk hall hw
      have hd : swAll (l.drop k) = if l[k].chk = 0 then swAll (l.drop (k + 1)) else l[k].chk := by
        rw [List.drop_eq_getElem_cons hk]; rfl
      rw [hd] at hall
      have he := slot_eq l[k] noSlot
      simp only [noSlot, noPg] at he
      simp [Try.ntmps23, Try.results23, cSl, cI, cD, hk, hw, Slot.row]
      generalize hx : l[k] = x at *
      unfold Slot.chk at hall
      by_cases q1 : x.many < 0 ∨ 1024 < x.many
      · simp [q1] at hall ⊢
        exact hall
      · by_cases q2 : x.many = 0 ∧ ¬ x = noSlot
        · simp [q1, q2] at hall ⊢
          have q4 := fun h => q2.2 (he.2 h)
          simp [q2.1] at q4
          intros
          simp_all
        · simp only [q1, q2, if_false, if_true] at hall ⊢
          rw [← hall]
          rw [not_and, Classical.not_not] at q2
          split
          · rename_i q3
            have := he.1 (q2 q3.1)
            simp_all
          · rfl
    · intro _ hall
      simp [swAll] at hall
      simp [Try.ntmps23, Try.results23, cSl, cI, cD, hall]
end Go.Proofs.Ytkajpjbjafjbkaa
