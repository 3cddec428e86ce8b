/- Packages code and cpu: what their plain functions answer. A processor's registers, as a row. cpu.other, cpu.jump. cpu.jump. A memory as a processor sees it: Load, Store. cpu.fetch. cpu.put. cpu.memory. -/
import Derived.Test.YtibpipgabcpaoaaFacts
import Derived.Test.YtibpipgabcpaoaaGD
import Derived.Test.YtibpipgabcpaoaaGE
import Derived.Test.YtibpipgabcpaoaaVmA
namespace Go.Proofs.Ytibpipgabcpaoaa
open Go.AI
set_option linter.unusedSimpArgs false
set_option linter.unusedVariables false
section
set_option maxHeartbeats 2000000
set_option maxRecDepth 100000
set_option linter.unusedSimpArgs false
set_option linter.unusedVariables false
attribute [local simp] wpA wpX RunA RunD runF foot footP footB idsA bare apart runL step1 gsel_f gsel_t gsel_s res_same res_and1 res_and2 res_and3 res_and4 res_and5 res_and6 res_false res_true res_v res_ptr res_fptr res_osl res_xsl soft aAppendZ aCap ovlI ovlJ res_fsl res_esl res_agg res_tup res_fn res_junk res_anyb aPick hk imp_left iteV dstOk guardOk astep astepE AI.ev AI.look AI.put envOf aBox cellsOf allOne allOneA oneA Value.oneCell' Value.cells newObj' aFieldAddr aLoad obj readAt thenA blockA condA retA resA tupA view hot hotC hotR depthV cAgg cInt cBool mkAgg allV aAlloc aBuild fillA writeAt aStore isAggA aField idx aIndexAddr aIndex bnd aSlice aExtract aLen aBuiltin aCall isStatic eqAgg eqTy eqC ev_add ev_sub ev_mul ev_quo ev_rem ev_and ev_or ev_xor ev_andNot ev_shl ev_shr ev_eql ev_neq ev_lss ev_leq ev_gtr ev_geq ev_agg w64 wu32 wu8 ev_not ev_neg Cod.plain RCod.plain argM finM cold coldC coldR goInt intDec boolDec aggDec Weaker heapW lowA lowC Again slDec undef aBuildSlice setRows aAppend rowsOf aMakeSlice aClear aCopyX aCopy softer_self softer_nil valsOf ev_min2 ev_max2 hotR_set hotR_append take_map_set irow_cold irow_mapM irow_mapMc irow_view irow_viewc irow_hotR irow_ren irow_renc irow_low WeakT heapT thOf ren renC AgainT NextF NextT fnDec cFn rNil selfLt natLt0 natLt1 getLastMap frame0 frame1 own0 own1 argG finG tau tauI tauO tauC bareA bareC bareH irow_tau irow_tauc irow_bare irow_flat irow_bareR ownA_nil ownT_nil ownA_c ownT_c ownA_s ownT_s takeMapLen footC plainA noId noIdC cloneF frame0F frame1F insertF replaceI replaceF cellDec rCell fpDec cFp rTwo deleteF allV_oA oneA_oA res_oA RunR RunE runFT footAt hotR_cat tmodN aEqH aSliceA frameN newA newC newH fxSz3 fxBy3 fxAg3 fxZe3 fxSl3 fxSz4 fxAg4 fxSz5 fxBy5 fxAg5 fxZe5 fxSl22 fxAr22 fxSl23 fxAr23 fxAg24 fxSz31 fxAg31 fxZe31 fxSl31 fxAr31 fxSz34 fxAg34 fxAr35 fxSz37 fxAg37 fxZe37 fxFi37x0 fxFi37x1 fxFi37x2 fxPl37 fxSz38 fxAg38 fxZe38 fxAr38 fxSz47 fxAg47 fxZe47 fxFi47x0 fxPl47 fxZe51 fxFi51x0 fxFi51x1 fxPl51 fxAg55 fxSz56 fxAg56 fxSl56 fxAr56 fxZe58 fxFi58x0 fxFi58x1 fxFi58x2 fxFi58x3 fxFi58x4 fxPl58 fxSz62 fxAg62 fxZe62 fxFi62x0 fxFi62x1 fxFi62x2 fxFi62x3 fxPl62 fxZe65 fxSl67 fxAr67 fxSz72 fxAg72 fxZe72 fxSl72 fxAr72 fxPl72 fxSz74 fxZe74 fxFi74x0 fxFi74x1 fxFi74x2 fxFi74x3 fxPl74 fxSz75 fxBy75 fxAg75 fxZe75 fxSz79 fxAg79 fxZe79 fxFi79x0 fxFi79x1 fxPl79 fxEq47 fxCv3x5 fxCv3x34 fxCv3x70 fxCv3x100 fxCv5x34 fxCv34x3 fxCv34x5 fxCv34x112 fxCv70x3 fxCv100x34 fxCv112x3 fxLn31 fxLn56 fxFm4 fxFm5 fxFi5 fxFm6 fxFm7 fxFm8 fxFm9 fxFi9 fxFm10 fxFm11 fxFm12 fxFm13 fxFm14 fxFm15 fxFm16 fxFm17 fxFi17 fxFm18 fxFm19 fxFi19 fxFm20 fxFm21 fxFm22 fxFm23 fxFm24 fxFi24 fxFm25 fxFi25 fxFm26 fxFm27 fxFm28 fxFi28 fxFm29 fxFm30 fxFm31 fxFm32 fxFm33 fxFi33 fxFm34 fxFi34 fxFm35 fxFm36 fxFm37 fxFm38 fxFm39 fxFi39 fxFm40 fxFi40 fxFm41 fxFi41 fxFm42 fxFm45 fxFi45 fxFm46 fxFi46 fxFm47 fxFm48 fxFm49 fxFi49 fxFm50 fxFm51 fxFm52 fxFi52 fxFm64 fxFi64 fxFm87 fxFm88 fxFm89
section
theorem ba_loop (bs : ByteArray) : ∀ (n i : Nat) (r : List UInt8), bs.size - i = n → ByteArray.toList.loop bs i r = r.reverse ++ bs.data.toList.drop i := by
 intro n
 induction n with
 | zero =>
  intro i r h
  unfold ByteArray.toList.loop
  have hs : bs.size = bs.data.toList.length := by show bs.data.size = _; rw [Array.length_toList]
  rw [if_neg (by omega), List.drop_eq_nil_of_le (by omega), List.append_nil]
 | succ n ih =>
  intro i r h
  unfold ByteArray.toList.loop
  have hs : bs.size = bs.data.toList.length := by show bs.data.size = _; rw [Array.length_toList]
  have hi : i < bs.data.toList.length := by omega
  rw [if_pos (by omega), ih (i + 1) _ (by omega), List.drop_eq_getElem_cons hi]
  have : bs.get! i = bs.data.toList[i] := by
   simp [ByteArray.get!]
   rw [getElem!_pos bs.data i (by simpa using hi)]
  simp [this]
theorem ba_list (bs : ByteArray) : bs.toList = bs.data.toList := by
 unfold ByteArray.toList
 rw [ba_loop bs _ 0 [] rfl]; simp
theorem ev_seq {P : Program} {t : TypeId} {x y : Operand} {a b : ByteArray} : aBin P .eql t x y (.v (.string a)) (.v (.string b)) = some (.v (.bool (a.data.toList == b.data.toList))) := by
 simp [aBin, eqGuard, binOp, Op.stringOp, pr_pure, asV, ba_list]
attribute [local simp] ev_seq
structure Ins where
 op : Int
 a : Int
 b : Int
 c : Int
 deriving DecidableEq
def insDec : Row → Option Ins
 | [.v (.int .i64 x0), .v (.int .i64 x1), .v (.int .i64 x2), .v (.int .i64 x3)] => some ⟨x0, x1, x2, x3⟩
 | _ => none
def Ins.row (e : Ins) : Row := [.v (.int .i64 e.op), .v (.int .i64 e.a), .v (.int .i64 e.b), .v (.int .i64 e.c)]
def rIns : RCod Ins := RCod.plain 4 Ins.row insDec
 (fun e => rfl) (fun _ => rfl) (fun r e h => by
  unfold insDec at h
  split at h
  ·simp at h; subst h; rfl
  ·cases h)
def Ins.val (e : Ins) : Value := .agg #[.int .i64 e.op, .int .i64 e.a, .int .i64 e.b, .int .i64 e.c]
theorem Ins.eta (e : Ins) : Ins.mk e.op e.a e.b e.c = e := rfl
attribute [local simp] Ins.eta
theorem Ins.cold (l : List Ins) : coldR (l.map Ins.row) = l.map Ins.row := by
 induction l with
 | nil => simp [coldR]
 | cons e l ih => simp [coldR, coldC, AI.cold, ih, Ins.row]
theorem Ins.mapM (l : List Ins) : (l.map Ins.row).mapM insDec = some l := mapM_dec rIns l
theorem Ins.mapMc (l : List Ins) : l.mapM (insDec ∘ Ins.row) = some l := mapM_dec' rIns l
theorem Ins.view (H : Heap) (n : Nat) (e : Ins) : List.map (AI.view H n) e.row = e.row := by cases n <;> simp [Ins.row, AI.view]
theorem Ins.viewc (H : Heap) (n : Nat) : List.map (AI.view H n) ∘ Ins.row = Ins.row := by funext e; exact Ins.view H n e
theorem Ins.hotR (l : List Ins) : AI.hotR (l.map Ins.row) = true := by
 induction l with
 | nil => simp [AI.hotR]
 | cons e l ih => simp [AI.hotR, hotC, hot, ih, Ins.row]
theorem Ins.ren (n : Nat) (th : List Nat) (e : Ins) : List.map (AI.ren n th) e.row = e.row := by simp [Ins.row, AI.ren]
theorem Ins.renc (n : Nat) (th : List Nat) : List.map (AI.ren n th) ∘ Ins.row = Ins.row := by funext e; exact Ins.ren n th e
theorem Ins.low (n : Nat) (e : Ins) : e.row.all (lowA n) = true := by simp [Ins.row, lowA]
theorem Ins.tau (fp : List Nat) (n : Nat) (e : Ins) : List.map (AI.tau fp n) e.row = e.row := by simp [Ins.row, AI.tau]
theorem Ins.tauc (fp : List Nat) (n : Nat) : List.map (AI.tau fp n) ∘ Ins.row = Ins.row := by funext e; exact Ins.tau fp n e
theorem Ins.bare (e : Ins) : e.row.all bareA = true := by simp [Ins.row, bareA]
theorem Ins.flat (l : List Ins) : flat0 (l.map Ins.row) = true := by simp [flat0, Ins.low]
theorem Ins.flat1 (e : Ins) : flat0 [e.row] = true := by simp [flat0, Ins.low]
theorem Ins.exact : Exact rIns := by
 intro r e h
 simp only [rIns, RCod.plain] at h ⊢
 unfold insDec at h
 split at h
 ·simp at h; subst h; rfl
 ·cases h
theorem Ins.mapMt (k : Nat) (l : List Ins) : (List.take k (l.map Ins.row)).mapM insDec = some (l.take k) := by rw [← List.map_take]; exact mapM_dec rIns _
theorem Ins.mapMd (k : Nat) (l : List Ins) : (List.drop k (l.map Ins.row)).mapM insDec = some (l.drop k) := by rw [← List.map_drop]; exact mapM_dec rIns _
theorem Ins.coldt (k : Nat) (l : List Ins) : coldR (List.take k (l.map Ins.row)) = List.take k (l.map Ins.row) := by rw [← List.map_take]; exact Ins.cold _
theorem Ins.coldd (k : Nat) (l : List Ins) : coldR (List.drop k (l.map Ins.row)) = List.drop k (l.map Ins.row) := by rw [← List.map_drop]; exact Ins.cold _
theorem Ins.hotRt (k : Nat) (l : List Ins) : AI.hotR (List.take k (l.map Ins.row)) = true := by rw [← List.map_take]; exact Ins.hotR _
theorem Ins.hotRd (k : Nat) (l : List Ins) : AI.hotR (List.drop k (l.map Ins.row)) = true := by rw [← List.map_drop]; exact Ins.hotR _
attribute [local simp] Ins.hotRt Ins.hotRd
attribute [local simp] Ins.tau Ins.tauc Ins.bare Ins.flat Ins.flat1 Ins.mapMt Ins.mapMd Ins.coldt Ins.coldd
attribute [local simp] Ins.cold Ins.mapM Ins.mapMc Ins.view Ins.viewc Ins.hotR Ins.ren Ins.renc Ins.low
def remR (k n : Int) : Int := IntKind.i64.wrap ((IntKind.u64.wrap k).tmod (IntKind.u64.wrap n))
theorem rest_pure : PureOk Try.prog 9 (argM (cInt .i64) fun k => argM (cInt .i64) fun n => finM (if IntKind.u64.wrap n ≠ 0 then some (.v (.int .i64 (remR k n))) else none)) := by
 refine pure2 Try.func9 rfl ?_
 rintro k n r hr
 by_cases hc : IntKind.u64.wrap n ≠ 0
 case neg => rw [if_neg hc] at hr; cases hr
 rw [if_pos hc] at hr
 simp only [Option.some.injEq] at hr
 subst hr
 refine body_gen noOrc_ok fxMix (by kernel_rfl) (by simp [Try.ntmps9]) ?_
 intro C cP cI cN cD cF cA cR cL
 replace cI : C.inl = fun _ => false := cI
 replace cR : C.rd = fun _ => none := cR
 replace cD : C.dyn = fun _ => [] := cD
 clear cP cN cF cA
 simp [Try.ntmps9, Try.results9, cSl, cI, cD, cR, hc, remR]
def nmL (op : Int) : Array UInt8 :=
 if op = 14 then #[112, 108, 117, 115] else if op = 15 then #[108, 111, 97, 100] else if op = 16 then #[108, 111, 97, 100, 98] else if op = 17 then #[115, 116, 111, 114, 101] else if op = 18 then #[115, 116, 111, 114, 101, 98] else if op = 19 then #[106, 117, 109, 112] else if op = 20 then #[122, 101, 114, 111] else if op = 21 then #[108, 101, 115, 115] else if op = 22 then #[99, 97, 108, 108] else if op = 23 then #[98, 97, 99, 107] else if op = 24 then #[115, 121, 115] else if op = 25 then #[115, 119, 97, 112] else if op = 26 then #[104, 111, 109, 101] else #[]
def flL (op : Int) : Int :=
 if op = 14 then 7 else if op = 15 then 7 else if op = 16 then 7 else if op = 17 then 7 else if op = 18 then 7 else if op = 19 then 4 else if op = 20 then 5 else if op = 21 then 7 else if op = 22 then 5 else if op = 23 then 1 else if op = 24 then 0 else if op = 25 then 7 else if op = 26 then 1 else 0
def nmO (op : Int) : Array UInt8 :=
 if op = 1 then #[104, 97, 108, 116] else if op = 2 then #[115, 101, 116] else if op = 3 then #[104, 105, 103, 104] else if op = 4 then #[109, 111, 118, 101] else if op = 5 then #[97, 100, 100] else if op = 6 then #[115, 117, 98] else if op = 7 then #[109, 117, 108] else if op = 8 then #[100, 105, 118] else if op = 9 then #[97, 110, 100] else if op = 10 then #[111, 114] else if op = 11 then #[120, 111, 114] else if op = 12 then #[108, 101, 102, 116] else if op = 13 then #[114, 105, 103, 104, 116] else nmL op
def flO (op : Int) : Int :=
 if op = 1 then 0 else if op = 2 then 5 else if op = 3 then 5 else if op = 4 then 3 else if op = 5 then 3 else if op = 6 then 3 else if op = 7 then 3 else if op = 8 then 3 else if op = 9 then 3 else if op = 10 then 3 else if op = 11 then 3 else if op = 12 then 3 else if op = 13 then 3 else flL op
theorem later_pure : PureOk Try.prog 52 (argM (cInt .i64) fun op => finM (some (.v (.tuple #[.string ⟨nmL op⟩, .int .i64 (flL op)])))) := by
 refine pure1 Try.func52 rfl ?_
 rintro op r hr
 simp only [Option.some.injEq] at hr
 subst hr
 refine body_gen noOrc_ok fxMix (by kernel_rfl) (by simp [Try.ntmps52]) ?_
 intro C cP cI cN cD cF cA cR cL
 replace cI : C.inl = fun _ => false := cI
 replace cR : C.rd = fun _ => none := cR
 replace cD : C.dyn = fun _ => [] := cD
 clear cP cN cF cA
 by_cases h14 : op = 14
 ·subst h14
  simp [Try.ntmps52, Try.results52, cSl, cI, cD, cR, nmL, flL]
 by_cases h15 : op = 15
 ·subst h15
  simp [Try.ntmps52, Try.results52, cSl, cI, cD, cR, nmL, flL]
 by_cases h16 : op = 16
 ·subst h16
  simp [Try.ntmps52, Try.results52, cSl, cI, cD, cR, nmL, flL]
 by_cases h17 : op = 17
 ·subst h17
  simp [Try.ntmps52, Try.results52, cSl, cI, cD, cR, nmL, flL]
 by_cases h18 : op = 18
 ·subst h18
  simp [Try.ntmps52, Try.results52, cSl, cI, cD, cR, nmL, flL]
 by_cases h19 : op = 19
 ·subst h19
  simp [Try.ntmps52, Try.results52, cSl, cI, cD, cR, nmL, flL]
 by_cases h20 : op = 20
 ·subst h20
  simp [Try.ntmps52, Try.results52, cSl, cI, cD, cR, nmL, flL]
 by_cases h21 : op = 21
 ·subst h21
  simp [Try.ntmps52, Try.results52, cSl, cI, cD, cR, nmL, flL]
 by_cases h22 : op = 22
 ·subst h22
  simp [Try.ntmps52, Try.results52, cSl, cI, cD, cR, nmL, flL]
 by_cases h23 : op = 23
 ·subst h23
  simp [Try.ntmps52, Try.results52, cSl, cI, cD, cR, nmL, flL]
 by_cases h24 : op = 24
 ·subst h24
  simp [Try.ntmps52, Try.results52, cSl, cI, cD, cR, nmL, flL]
 by_cases h25 : op = 25
 ·subst h25
  simp [Try.ntmps52, Try.results52, cSl, cI, cD, cR, nmL, flL]
 by_cases h26 : op = 26
 ·subst h26
  simp [Try.ntmps52, Try.results52, cSl, cI, cD, cR, nmL, flL]
 simp [Try.ntmps52, Try.results52, cSl, cI, cD, cR, nmL, flL, h14, h15, h16, h17, h18, h19, h20, h21, h22, h23, h24, h25, h26]
theorem row_pure : PureOk Try.prog 39 (argM (cInt .i64) fun op => finM (some (.v (.tuple #[.string ⟨nmO op⟩, .int .i64 (flO op)])))) := by
 refine pure1 Try.func39 rfl ?_
 rintro op r hr
 simp only [Option.some.injEq] at hr
 subst hr
 refine body_gen (noOrc_ok.withP later_pure) fxMix (by kernel_rfl) (by simp [Try.ntmps39]) ?_
 intro C cP cI cN cD cF cA cR cL
 have cp0 := orcP later_pure (C := C) (by rw [cP]; rfl)
 replace cI : C.inl = fun _ => false := cI
 replace cR : C.rd = fun _ => none := cR
 replace cD : C.dyn = fun _ => [] := cD
 clear cP cN cF cA
 by_cases h1 : op = 1
 ·subst h1
  simp [Try.ntmps39, Try.results39, cSl, cp0, cI, cD, cR, nmO, flO]
 by_cases h2 : op = 2
 ·subst h2
  simp [Try.ntmps39, Try.results39, cSl, cp0, cI, cD, cR, nmO, flO]
 by_cases h3 : op = 3
 ·subst h3
  simp [Try.ntmps39, Try.results39, cSl, cp0, cI, cD, cR, nmO, flO]
 by_cases h4 : op = 4
 ·subst h4
  simp [Try.ntmps39, Try.results39, cSl, cp0, cI, cD, cR, nmO, flO]
 by_cases h5 : op = 5
 ·subst h5
  simp [Try.ntmps39, Try.results39, cSl, cp0, cI, cD, cR, nmO, flO]
 by_cases h6 : op = 6
 ·subst h6
  simp [Try.ntmps39, Try.results39, cSl, cp0, cI, cD, cR, nmO, flO]
 by_cases h7 : op = 7
 ·subst h7
  simp [Try.ntmps39, Try.results39, cSl, cp0, cI, cD, cR, nmO, flO]
 by_cases h8 : op = 8
 ·subst h8
  simp [Try.ntmps39, Try.results39, cSl, cp0, cI, cD, cR, nmO, flO]
 by_cases h9 : op = 9
 ·subst h9
  simp [Try.ntmps39, Try.results39, cSl, cp0, cI, cD, cR, nmO, flO]
 by_cases h10 : op = 10
 ·subst h10
  simp [Try.ntmps39, Try.results39, cSl, cp0, cI, cD, cR, nmO, flO]
 by_cases h11 : op = 11
 ·subst h11
  simp [Try.ntmps39, Try.results39, cSl, cp0, cI, cD, cR, nmO, flO]
 by_cases h12 : op = 12
 ·subst h12
  simp [Try.ntmps39, Try.results39, cSl, cp0, cI, cD, cR, nmO, flO]
 by_cases h13 : op = 13
 ·subst h13
  simp [Try.ntmps39, Try.results39, cSl, cp0, cI, cD, cR, nmO, flO]
 simp [Try.ntmps39, Try.results39, cSl, cp0, cI, cD, cR, nmO, flO, h1, h2, h3, h4, h5, h6, h7, h8, h9, h10, h11, h12, h13]
def knownO (op : Int) : Prop := 1 ≤ op ∧ op ≤ 26
instance (op : Int) : Decidable (knownO op) := by unfold knownO; infer_instance
theorem nm_known {op : Int} : nmO op = #[] ↔ ¬ knownO op := by
 unfold knownO
 constructor
 ·intro h h1
  obtain ⟨n, rfl⟩ := Int.eq_ofNat_of_zero_le (show 0 ≤ op by omega)
  have h2 : n < 27 := by omega
  have h3 : 0 < n := by omega
  have hd : ∀ m : Fin 27, m.val ≠ 0 → (nmO (m.val : Int)).size ≠ 0 := by decide
  have := hd ⟨n, h2⟩ (by simp; omega)
  simp only at this
  rw [h] at this
  exact this rfl
 ·intro h
  unfold nmO nmL
  simp only [show op ≠ 1 by omega, show op ≠ 2 by omega, show op ≠ 3 by omega, show op ≠ 4 by omega, show op ≠ 5 by omega, show op ≠ 6 by omega, show op ≠ 7 by omega, show op ≠ 8 by omega, show op ≠ 9 by omega, show op ≠ 10 by omega, show op ≠ 11 by omega, show op ≠ 12 by omega, show op ≠ 13 by omega, show op ≠ 14 by omega, show op ≠ 15 by omega, show op ≠ 16 by omega, show op ≠ 17 by omega, show op ≠ 18 by omega, show op ≠ 19 by omega, show op ≠ 20 by omega, show op ≠ 21 by omega, show op ≠ 22 by omega, show op ≠ 23 by omega, show op ≠ 24 by omega, show op ≠ 25 by omega, show op ≠ 26 by omega, if_false]
theorem nm_beq (op : Int) : ((nmO op).toList == ([] : List UInt8)) = decide (¬ knownO op) := by
 rw [Bool.eq_iff_iff]
 simp only [beq_iff_eq, decide_eq_true_eq]
 rw [← nm_known]
 constructor
 ·intro h; apply Array.ext'; exact h
 ·intro h; rw [h]
def reckF (op a b : Int) : Int × Bool :=
 if op = 5 then (IntKind.u32.wrap (a + b), true) else if op = 6 then (IntKind.u32.wrap (a - b), true) else if op = 7 then (IntKind.u32.wrap (a * b), true) else
 if op = 8 then (if b = 0 then (0, false) else (IntKind.u32.wrap (a.tdiv b), true)) else if op = 9 then (iand .u32 a b, true) else if op = 10 then (ior .u32 a b, true) else if op = 11 then (ixor .u32 a b, true) else
 if op = 12 then (ishl .u32 a (b.tmod 32), true) else (ishr .u32 a (b.tmod 32), true)
theorem reckon_pure : PureOk Try.prog 34 (argM (cInt .i64) fun op => argM (cInt .u32) fun a => argM (cInt .u32) fun b => finM (if 0 ≤ b then some (.v (.tuple #[.int .u32 (reckF op a b).1, .bool (reckF op a b).2])) else none)) := by
 refine pure3 Try.func34 rfl ?_
 rintro op a b r hr
 by_cases hc : 0 ≤ b
 case neg => rw [if_neg hc] at hr; cases hr
 rw [if_pos hc] at hr
 simp only [Option.some.injEq] at hr
 subst hr
 refine body_gen noOrc_ok fxMix (by kernel_rfl) (by simp [Try.ntmps34]) ?_
 intro C cP cI cN cD cF cA cR cL
 replace cI : C.inl = fun _ => false := cI
 replace cR : C.rd = fun _ => none := cR
 replace cD : C.dyn = fun _ => [] := cD
 clear cP cN cF cA
 have h0 : 0 ≤ b.tmod 32 := Int.tmod_nonneg _ hc
 by_cases h5 : op = 5
 ·subst h5
  simp [Try.ntmps34, Try.results34, cSl, cI, cD, cR, reckF]
 by_cases h6 : op = 6
 ·subst h6
  simp [Try.ntmps34, Try.results34, cSl, cI, cD, cR, reckF]
 by_cases h7 : op = 7
 ·subst h7
  simp [Try.ntmps34, Try.results34, cSl, cI, cD, cR, reckF]
 by_cases h8 : op = 8
 ·subst h8
  by_cases hb : b = 0
  ·simp [Try.ntmps34, Try.results34, cSl, cI, cD, cR, reckF, hb]
  ·simp [Try.ntmps34, Try.results34, cSl, cI, cD, cR, reckF, hb]
 by_cases h9 : op = 9
 ·subst h9
  simp [Try.ntmps34, Try.results34, cSl, cI, cD, cR, reckF, h0]
 by_cases h10 : op = 10
 ·subst h10
  simp [Try.ntmps34, Try.results34, cSl, cI, cD, cR, reckF, h0]
 by_cases h11 : op = 11
 ·subst h11
  simp [Try.ntmps34, Try.results34, cSl, cI, cD, cR, reckF, h0]
 by_cases h12 : op = 12
 ·subst h12
  simp [Try.ntmps34, Try.results34, cSl, cI, cD, cR, reckF, h0]
 simp [Try.ntmps34, Try.results34, cSl, cI, cD, cR, reckF, h0, h5, h6, h7, h8, h9, h10, h11, h12]
def fitI (i : Ins) : Prop := 0 ≤ i.a ∧ i.a < 8 ∧ 0 ≤ i.b ∧ i.b < 8 ∧ -32768 ≤ i.c ∧ i.c ≤ 32767
instance (i : Ins) : Decidable (fitI i) := by unfold fitI; infer_instance
def badI (i : Ins) : Prop := (iand .i64 (flO i.op) 1 = 0 ∧ i.a ≠ 0) ∨ (iand .i64 (flO i.op) 2 = 0 ∧ i.b ≠ 0) ∨ (iand .i64 (flO i.op) 4 = 0 ∧ i.c ≠ 0)
instance (i : Ins) : Decidable (badI i) := by unfold badI; infer_instance
def wordI (i : Ins) : Int := ior .u32 (ior .u32 (ior .u32 (ishl .u32 (IntKind.u32.wrap i.op) 24) (ishl .u32 (IntKind.u32.wrap i.a) 20)) (ishl .u32 (IntKind.u32.wrap i.b) 16)) (IntKind.u32.wrap (IntKind.u16.wrap i.c))
def encF (i : Ins) : Int × Int :=
 if ¬ knownO i.op then (0, 4) else if ¬ fitI i then (0, 1) else if badI i then (0, 3) else (wordI i, 0)
theorem enc_pure : PureOk Try.prog 19 (argM (cAgg rIns) fun i => finM (some (.v (.tuple #[.int .u32 (encF i).1, .int .i64 (encF i).2])))) := by
 refine pure1 Try.func19 rfl ?_
 rintro i r hr
 simp only [Option.some.injEq] at hr
 subst hr
 refine body_gen (noOrc_ok.withP row_pure) fxMix (by kernel_rfl) (by simp [Try.ntmps19]) ?_
 intro C cP cI cN cD cF cA cR cL
 have cp0 := orcP row_pure (C := C) (by rw [cP]; rfl)
 replace cI : C.inl = fun _ => false := cI
 replace cR : C.rd = fun _ => none := cR
 replace cD : C.dyn = fun _ => [] := cD
 clear cP cN cF cA
 obtain ⟨op, a, b, c⟩ := i
 have hk := nm_beq op
 have hf : (((((a < 0 ∨ 8 ≤ a) ∨ b < 0) ∨ 8 ≤ b) ∨ c < -32768) ∨ 32767 < c) ↔ ¬ fitI ⟨op, a, b, c⟩ := by unfold fitI; simp only; omega
 have hb : ((iand IntKind.i64 (flO op) 1 = 0 ∧ ¬a = 0 ∨ iand IntKind.i64 (flO op) 2 = 0 ∧ ¬b = 0) ∨ iand IntKind.i64 (flO op) 4 = 0 ∧ ¬c = 0) ↔ badI ⟨op, a, b, c⟩ := by unfold badI; simp only [or_assoc, ne_eq]
 by_cases h1 : knownO op
 ·by_cases h2 : fitI ⟨op, a, b, c⟩
  ·by_cases h3 : badI ⟨op, a, b, c⟩
   ·simp [Try.ntmps19, Try.results19, cSl, cp0, cI, cD, cR, rIns, Ins.row, insDec, hk, hf, hb, h1, h2, h3, encF]
   ·simp [Try.ntmps19, Try.results19, cSl, cp0, cI, cD, cR, rIns, Ins.row, insDec, hk, hf, hb, h1, h2, h3, encF, wordI]
  ·simp [Try.ntmps19, Try.results19, cSl, cp0, cI, cD, cR, rIns, Ins.row, insDec, hk, hf, h1, h2, encF]
 ·simp [Try.ntmps19, Try.results19, cSl, cp0, cI, cD, cR, rIns, Ins.row, insDec, hk, h1, encF]
def insW (w : Int) : Ins := ⟨IntKind.i64.wrap (ishr .u32 w 24), IntKind.i64.wrap (iand .u32 (ishr .u32 w 20) 15), IntKind.i64.wrap (iand .u32 (ishr .u32 w 16) 15), IntKind.i64.wrap (IntKind.i16.wrap w)⟩
def decOk (w : Int) : Prop := (encF (insW w)).2 = 0 ∧ (encF (insW w)).1 = w
instance (w : Int) : Decidable (decOk w) := by unfold decOk; infer_instance
def decF (w : Int) : Ins × Int := if decOk w then (insW w, 0) else (⟨0, 0, 0, 0⟩, 3)
theorem dec_pure : PureOk Try.prog 33 (argM (cInt .u32) fun w => finM (some (tupA [.v (.agg #[.int .i64 (decF w).1.op, .int .i64 (decF w).1.a, .int .i64 (decF w).1.b, .int .i64 (decF w).1.c]), .v (.int .i64 (decF w).2)]))) := by
 refine pure1 Try.func33 rfl ?_
 rintro w r hr
 simp only [Option.some.injEq] at hr
 subst hr
 refine body_gen (noOrc_ok.withP enc_pure) fxMix (by kernel_rfl) (by simp [Try.ntmps33]) ?_
 intro C cP cI cN cD cF cA cR cL
 have cp0 := orcP enc_pure (C := C) (by rw [cP]; rfl)
 replace cI : C.inl = fun _ => false := cI
 replace cR : C.rd = fun _ => none := cR
 replace cD : C.dyn = fun _ => [] := cD
 clear cP cN cF cA
 have hi : insW w = ⟨IntKind.i64.wrap (ishr .u32 w 24), IntKind.i64.wrap (iand .u32 (ishr .u32 w 20) 15), IntKind.i64.wrap (iand .u32 (ishr .u32 w 16) 15), IntKind.i64.wrap (IntKind.i16.wrap w)⟩ := rfl
 by_cases h1 : (encF (insW w)).2 = 0
 ·by_cases h2 : (encF (insW w)).1 = w
  ·have h3 : decF w = (insW w, 0) := if_pos ⟨h1, h2⟩
   rw [h3]
   simp only [hi] at h1 h2 ⊢
   simp [Try.ntmps33, Try.results33, cSl, cp0, cI, cD, cR, rIns, Ins.row, insDec, h1, h2]
  ·have h3 : decF w = (⟨0, 0, 0, 0⟩, 3) := if_neg fun h => h2 h.2
   rw [h3]
   simp only [hi] at h1 h2 ⊢
   simp [Try.ntmps33, Try.results33, cSl, cp0, cI, cD, cR, rIns, Ins.row, insDec, h1, h2]
 ·have h3 : decF w = (⟨0, 0, 0, 0⟩, 3) := if_neg fun h => h1 h.1
  rw [h3]
  simp only [hi] at h1 ⊢
  simp [Try.ntmps33, Try.results33, cSl, cp0, cI, cD, cR, rIns, Ins.row, insDec, h1]
end
section
structure Rg where
 r : List Int
 pc : Int
 ring : Int
def rgL (g : Rg) : List Value := g.r.map (Value.int .u32) ++ [.int .u32 g.pc, .int .i64 g.ring]
def rgA (g : Rg) : Array Value := (rgL g).toArray
def rgRow (g : Rg) : Row := (rgL g).map .v
def Rg.at (g : Rg) (k : Nat) : Int := (g.r[k]?).getD 0
def Rg.set (g : Rg) (k : Nat) (x : Int) : Rg := { g with r := g.r.set k x }
structure Rg.ok (g : Rg) : Prop where
 len : g.r.length = 8
 r : ∀ x ∈ g.r, 0 ≤ x ∧ x < 4294967296
 pc : 0 ≤ g.pc ∧ g.pc < 4294967296
theorem Rg.at_ok {g : Rg} (h : g.ok) (k : Nat) : 0 ≤ g.at k ∧ g.at k < 4294967296 := by
 unfold Rg.at
 cases e : g.r[k]? with
 | none => simp
 | some x => exact h.r x (List.mem_of_getElem? e)
theorem Rg.set_ok {g : Rg} (h : g.ok) (k : Nat) {x : Int} (hx : 0 ≤ x ∧ x < 4294967296) : (g.set k x).ok := by
 refine ⟨by simp [Rg.set, h.len], fun y hy => ?_, h.pc⟩
 rcases List.mem_or_eq_of_mem_set hy with h1 | rfl
 ·exact h.r y h1
 ·exact hx
theorem Rg.pc_ok {g : Rg} (h : g.ok) {x : Int} (hx : 0 ≤ x ∧ x < 4294967296) : ({ g with pc := x } : Rg).ok := ⟨h.len, h.r, hx⟩
theorem u32_ok (x : Int) : 0 ≤ IntKind.u32.wrap x ∧ IntKind.u32.wrap x < 4294967296 := by
 simp [IntKind.wrap, IntKind.bits, IntKind.signed]
 omega
theorem rg_len {g : Rg} (h : g.r.length = 8) : (rgRow g).length = 10 := by simp [rgRow, rgL, h]
theorem rg_get {g : Rg} (h : g.r.length = 8) {k : Nat} (hk : k < 8) : (rgRow g)[k]? = some (.v (.int .u32 (g.at k))) := by
 unfold rgRow rgL Rg.at
 rw [List.map_append, List.getElem?_append_left (by simp [h]; exact hk)]
 have : k < g.r.length := by omega
 simp [this]
theorem rg_pc {g : Rg} (h : g.r.length = 8) : (rgRow g)[8]? = some (.v (.int .u32 g.pc)) := by
 unfold rgRow rgL
 rw [List.map_append, List.getElem?_append_right (by simp [h])]
 simp [h]
theorem rg_ring {g : Rg} (h : g.r.length = 8) : (rgRow g)[9]? = some (.v (.int .i64 g.ring)) := by
 unfold rgRow rgL
 rw [List.map_append, List.getElem?_append_right (by simp [h])]
 simp [h]
theorem rg_get' {g : Rg} (h : g.r.length = 8) {k : Nat} (hk : k < 8) (hi : k < (rgRow g).length) : (rgRow g)[k] = .v (.int .u32 (g.at k)) := (List.getElem?_eq_some_iff.1 (rg_get h hk)).2
theorem rg_pc' {g : Rg} (h : g.r.length = 8) (hi : 8 < (rgRow g).length) : (rgRow g)[8] = .v (.int .u32 g.pc) := (List.getElem?_eq_some_iff.1 (rg_pc h)).2
theorem rg_ring' {g : Rg} (h : g.r.length = 8) (hi : 9 < (rgRow g).length) : (rgRow g)[9] = .v (.int .i64 g.ring) := (List.getElem?_eq_some_iff.1 (rg_ring h)).2
theorem writeAt1 : ∀ (r : Row) (i : Nat) (v : AVal), writeAt r i [v] = r.set i v
 | [], i, v => by cases i <;> rfl
 | x :: r, 0, v => by cases r <;> rfl
 | x :: r, i + 1, v => by show x :: writeAt r i [v] = _; rw [writeAt1 r i v]; rfl
theorem writeAt_all : ∀ (r cs : Row), r.length = cs.length → writeAt r 0 cs = cs
 | [], [], _ => rfl
 | [], _ :: _, h => by simp at h
 | _ :: _, [], h => by simp at h
 | x :: r, c :: cs, h => by
  have := writeAt_all r cs (by simpa using h)
  simp [writeAt, this]
theorem rw_r {g : Rg} (h : g.r.length = 8) {k : Nat} (hk : k < 8) (x : Int) : writeAt (rgRow g) k [.v (.int .u32 x)] = rgRow (g.set k x) := by
 rw [writeAt1]
 unfold rgRow rgL Rg.set
 rw [List.map_append, List.set_append_left _ _ (by simp [h]; exact hk)]
 simp [List.map_set]
theorem rw_pc {g : Rg} (h : g.r.length = 8) (x : Int) : writeAt (rgRow g) 8 [.v (.int .u32 x)] = rgRow { g with pc := x } := by
 rw [writeAt1]
 unfold rgRow rgL
 rw [List.map_append, List.set_append_right _ _ (by simp [h])]
 simp [h]
theorem rw_ring {g : Rg} (h : g.r.length = 8) (x : Int) : writeAt (rgRow g) 9 [.v (.int .i64 x)] = rgRow { g with ring := x } := by
 rw [writeAt1]
 unfold rgRow rgL
 rw [List.map_append, List.set_append_right _ _ (by simp [h])]
 simp [h]
theorem rw_all {g : Rg} (h : g.r.length = 8) {r : Row} (hr : r.length = 10) : writeAt r 0 (rgRow g) = rgRow g := writeAt_all _ _ (by rw [hr, rg_len h])
theorem rg_one (g : Rg) : allOne (rgL g) = true := by
 unfold rgL
 generalize g.r = l
 induction l with
 | nil => rfl
 | cons a l ih => simp only [List.map_cons, List.cons_append, allOne, ih, Value.oneCell', Bool.and_self]
theorem rgA_list (g : Rg) : (rgA g).toList = rgL g := by simp [rgA]
theorem rgL_map (g : Rg) : (rgL g).map AVal.v = rgRow g := rfl
theorem allV_map : ∀ (l : List Value), allV (l.map AVal.v) = some l
 | [] => rfl
 | x :: l => by simp [allV, allV_map l]
theorem rg_allV (g : Rg) : allV (rgRow g) = some (rgL g) := allV_map _
theorem rgL_arr (g : Rg) : (rgL g).toArray = rgA g := rfl
theorem rg_take {g : Rg} (h : g.r.length = 8) : (rgRow g).take 10 = rgRow g := List.take_of_length_le (by rw [rg_len h]; omega)
theorem rgRow_inj {g g' : Rg} (h : rgRow g = rgRow g') : g = g' := by
 have h1 : rgL g = rgL g' := by
  have := rg_allV g
  rw [h, rg_allV] at this
  exact (Option.some.inj this).symm
 obtain ⟨h2, h3⟩ := List.append_inj' h1 (by simp)
 have h4 : g.r = g'.r := by
  have hm : ∀ {a b : List Int}, a.map (Value.int .u32) = b.map (Value.int .u32) → a = b := by
   intro a
   induction a with
   | nil => intro b hb; cases b with
    | nil => rfl
    | cons _ _ => simp at hb
   | cons x a ih => intro b hb; cases b with
    | nil => simp at hb
    | cons y b => simp only [List.map_cons, List.cons.injEq, Value.int.injEq, true_and] at hb; rw [hb.1, ih hb.2]
  exact hm h2
 simp only [List.cons.injEq, Value.int.injEq, true_and, and_true] at h3
 obtain ⟨r, p, q⟩ := g
 obtain ⟨r', p', q'⟩ := g'
 simp only at h4 h3
 rw [h4, h3.1, h3.2]
theorem rgA_inj {g g' : Rg} (h : rgA g = rgA g') : g = g' := by
 refine rgRow_inj ?_
 have := congrArg Array.toList h
 rw [rgA_list, rgA_list] at this
 unfold rgRow; rw [this]
def insA (i : Ins) : Array Value := #[.int .i64 i.op, .int .i64 i.a, .int .i64 i.b, .int .i64 i.c]
theorem insA_inj {i i' : Ins} (h : insA i = insA i') : i = i' := by
 obtain ⟨a, b, c, d⟩ := i
 obtain ⟨a', b', c', d'⟩ := i'
 simpa [insA] using h
def trA (k a : Int) : Array Value := #[.int .i64 k, .int .u32 a]
def otherF (g : Rg) (i : Ins) : Rg × Int :=
 if i.op = 1 then (g, 5) else if i.op = 24 then (g, 1) else if i.op = 26 then ({ g with pc := g.at i.a.toNat, ring := 1 }, 0) else
 if i.op = 2 then (g.set i.a.toNat (IntKind.u32.wrap i.c), 0) else if i.op = 3 then (g.set i.a.toNat (ior .u32 (ishl .u32 (g.at i.a.toNat) 16) (IntKind.u32.wrap (IntKind.u16.wrap i.c))), 0) else
 if i.op = 4 then (g.set i.a.toNat (g.at i.b.toNat), 0) else if i.op = 14 then (g.set i.a.toNat (IntKind.u32.wrap (g.at i.b.toNat + IntKind.u32.wrap i.c)), 0) else (g, 0)
def jumpF (g : Rg) (i : Ins) (at_ : Int) : Rg :=
 let to := IntKind.u32.wrap (at_ + IntKind.u32.wrap i.c)
 if i.op = 19 ∨ (i.op = 20 ∧ g.at i.a.toNat = 0) ∨ (i.op = 21 ∧ g.at i.a.toNat < g.at i.b.toNat) then { g with pc := to } else
 if i.op = 22 then { g.set i.a.toNat (IntKind.u32.wrap (at_ + 4)) with pc := to } else if i.op = 23 then { g with pc := g.at i.a.toNat } else g
theorem ior_ok (a b : Int) : 0 ≤ ior .u32 a b ∧ ior .u32 a b < 4294967296 := u32_ok _
theorem otherF_ok {g : Rg} (h : g.ok) (i : Ins) : (otherF g i).1.ok := by
 unfold otherF
 repeat' split
 ·exact h
 ·exact h
 ·exact ⟨h.len, h.r, g.at_ok h _⟩
 ·exact Rg.set_ok h _ (u32_ok _)
 ·exact Rg.set_ok h _ (ior_ok _ _)
 ·exact Rg.set_ok h _ (g.at_ok h _)
 ·exact Rg.set_ok h _ (u32_ok _)
 ·exact h
theorem jumpF_ok {g : Rg} (h : g.ok) (i : Ins) (a : Int) : (jumpF g i a).ok := by
 unfold jumpF
 simp only
 split
 ·exact Rg.pc_ok h (u32_ok _)
 ·split
  ·exact Rg.pc_ok (Rg.set_ok h _ (u32_ok _)) (u32_ok _)
  ·split
   ·exact Rg.pc_ok h (g.at_ok h _)
   ·exact h
end
section
attribute [local simp] rgA_list rgL_map rg_allV rgL_arr rg_one
def SpO (args : Row) (H : Heap) (r : AVal) (H' : Heap) : Prop := ∀ g i, args = [.v (.agg (rgA g)), .v (.agg (insA i))] → r = tupA [.v (.agg (rgA (otherF g i).1)), .v (.agg (trA (otherF g i).2 0))] ∧ ∃ K, H' = H ++ K
noncomputable def otherM := chM Try.prog Try.f37 SpO
theorem other_inl : InlOk Try.prog 37 otherM := chM_ok Try.func37 rfl
theorem spO_of {H K : Heap} {g : Rg} {i : Ins} {r : AVal} (h : r = tupA [.v (.agg (rgA (otherF g i).1)), .v (.agg (trA (otherF g i).2 0))]) : SpO [.v (.agg (rgA g)), .v (.agg (insA i))] H r (H ++ K) := by
 intro g' i' h'
 simp only [List.cons.injEq, AVal.v.injEq, Value.agg.injEq, and_true] at h'
 have h1 := rgA_inj h'.1
 have h2 := insA_inj h'.2
 subst h1 h2
 exact ⟨h, K, rfl⟩
theorem other_ev {H : Heap} {g : Rg} {i : Ins} (h : g.ok) (hi : fitI i) : ∃ K, otherM [.v (.agg (rgA g)), .v (.agg (insA i))] H = some (tupA [.v (.agg (rgA (otherF g i).1)), .v (.agg (trA (otherF g i).2 0))], H ++ K) := by
 suffices hs : ∃ r H', otherM [.v (.agg (rgA g)), .v (.agg (insA i))] H = some (r, H') ∧ SpO [.v (.agg (rgA g)), .v (.agg (insA i))] H r H' by
  obtain ⟨r, H', h1, h2⟩ := hs
  obtain ⟨rfl, K, rfl⟩ := h2 g i rfl
  exact ⟨K, h1⟩
 have h8 := h.len
 have e1 := rg_len h8
 have e2 := @rg_take g h8
 obtain ⟨op, a, b, c⟩ := i
 obtain ⟨k1, k2, k3, k4, k5, k6⟩ := hi
 simp only at k1 k2 k3 k4 k5 k6
 obtain ⟨a, rfl⟩ := Int.eq_ofNat_of_zero_le k1
 obtain ⟨b, rfl⟩ := Int.eq_ofNat_of_zero_le k3
 have ka : a < 8 := by omega
 have kb : b < 8 := by omega
 have kaI : (a : Int) < 8 := by omega
 have kbI : (b : Int) < 8 := by omega
 have ka9 : a ≤ 9 := by omega
 have kb9 : b ≤ 9 := by omega
 have ga := rg_get h8 ka
 have gb := rg_get h8 kb
 have ea := fun x => rw_r h8 ka x
 have la := fun x => rg_len (g := g.set a x) (by simp [Rg.set, h8])
 have ta := fun x => @rg_take (g.set a x) (by simp [Rg.set, h8])
 have ep := fun x => rw_pc h8 x
 have eq := fun x y => @rw_ring ⟨g.r, x, y⟩ h8
 have lq := fun x y => @rg_len ⟨g.r, x, y⟩ h8
 have tq := fun x y => @rg_take ⟨g.r, x, y⟩ h8
 have aq := fun x y (r : Row) => @rw_all ⟨g.r, x, y⟩ h8 r
 have aa := fun (r : Row) => @rw_all g h8 r
 have aS := fun x (r : Row) => @rw_all (g.set a x) (by simp [Rg.set, h8]) r
 by_cases h1 : op = 1
 ·subst h1
  refine chM_ev rfl ?_
  apply Exists.intro
  apply Exists.intro
  apply And.intro
  refine' bodyE_of noOrc_ok fxMix (by kernel_rfl) (by simp [Try.ntmps37]) ?_
  rotate_left 2
  intro C cP cI cN cD cF cA cR cL
  replace cI : C.inl = fun _ => false := cI
  replace cR : C.rd = fun _ => none := cR
  replace cD : C.dyn = fun _ => [] := cD
  clear cP cN cF cA
  unfold insA
  simp [Try.ntmps37, Try.results37, cSl, cI, cD, cR, ka, kb, kaI, kbI, ka9, kb9, e1, e2, ga, gb, ea, la, ta, ep, eq, lq, tq, aq, aa, aS]
  exact Ent.refl _ _
  exact spO_of rfl
 by_cases h24 : op = 24
 ·subst h24
  refine chM_ev rfl ?_
  apply Exists.intro
  apply Exists.intro
  apply And.intro
  refine' bodyE_of noOrc_ok fxMix (by kernel_rfl) (by simp [Try.ntmps37]) ?_
  rotate_left 2
  intro C cP cI cN cD cF cA cR cL
  replace cI : C.inl = fun _ => false := cI
  replace cR : C.rd = fun _ => none := cR
  replace cD : C.dyn = fun _ => [] := cD
  clear cP cN cF cA
  unfold insA
  simp [Try.ntmps37, Try.results37, cSl, cI, cD, cR, ka, kb, kaI, kbI, ka9, kb9, e1, e2, ga, gb, ea, la, ta, ep, eq, lq, tq, aq, aa, aS]
  exact Ent.refl _ _
  exact spO_of rfl
 by_cases h26 : op = 26
 ·subst h26
  refine chM_ev rfl ?_
  apply Exists.intro
  apply Exists.intro
  apply And.intro
  refine' bodyE_of noOrc_ok fxMix (by kernel_rfl) (by simp [Try.ntmps37]) ?_
  rotate_left 2
  intro C cP cI cN cD cF cA cR cL
  replace cI : C.inl = fun _ => false := cI
  replace cR : C.rd = fun _ => none := cR
  replace cD : C.dyn = fun _ => [] := cD
  clear cP cN cF cA
  unfold insA
  simp [Try.ntmps37, Try.results37, cSl, cI, cD, cR, ka, kb, kaI, kbI, ka9, kb9, e1, e2, ga, gb, ea, la, ta, ep, eq, lq, tq, aq, aa, aS]
  exact Ent.refl _ _
  exact spO_of rfl
 by_cases h2 : op = 2
 ·subst h2
  refine chM_ev rfl ?_
  apply Exists.intro
  apply Exists.intro
  apply And.intro
  refine' bodyE_of noOrc_ok fxMix (by kernel_rfl) (by simp [Try.ntmps37]) ?_
  rotate_left 2
  intro C cP cI cN cD cF cA cR cL
  replace cI : C.inl = fun _ => false := cI
  replace cR : C.rd = fun _ => none := cR
  replace cD : C.dyn = fun _ => [] := cD
  clear cP cN cF cA
  unfold insA
  simp [Try.ntmps37, Try.results37, cSl, cI, cD, cR, ka, kb, kaI, kbI, ka9, kb9, e1, e2, ga, gb, ea, la, ta, ep, eq, lq, tq, aq, aa, aS]
  exact Ent.refl _ _
  exact spO_of rfl
 by_cases h3 : op = 3
 ·subst h3
  refine chM_ev rfl ?_
  apply Exists.intro
  apply Exists.intro
  apply And.intro
  refine' bodyE_of noOrc_ok fxMix (by kernel_rfl) (by simp [Try.ntmps37]) ?_
  rotate_left 2
  intro C cP cI cN cD cF cA cR cL
  replace cI : C.inl = fun _ => false := cI
  replace cR : C.rd = fun _ => none := cR
  replace cD : C.dyn = fun _ => [] := cD
  clear cP cN cF cA
  unfold insA
  simp [Try.ntmps37, Try.results37, cSl, cI, cD, cR, ka, kb, kaI, kbI, ka9, kb9, e1, e2, ga, gb, ea, la, ta, ep, eq, lq, tq, aq, aa, aS]
  exact Ent.refl _ _
  exact spO_of rfl
 by_cases h4 : op = 4
 ·subst h4
  refine chM_ev rfl ?_
  apply Exists.intro
  apply Exists.intro
  apply And.intro
  refine' bodyE_of noOrc_ok fxMix (by kernel_rfl) (by simp [Try.ntmps37]) ?_
  rotate_left 2
  intro C cP cI cN cD cF cA cR cL
  replace cI : C.inl = fun _ => false := cI
  replace cR : C.rd = fun _ => none := cR
  replace cD : C.dyn = fun _ => [] := cD
  clear cP cN cF cA
  unfold insA
  simp [Try.ntmps37, Try.results37, cSl, cI, cD, cR, ka, kb, kaI, kbI, ka9, kb9, e1, e2, ga, gb, ea, la, ta, ep, eq, lq, tq, aq, aa, aS]
  exact Ent.refl _ _
  exact spO_of rfl
 by_cases h14 : op = 14
 ·subst h14
  refine chM_ev rfl ?_
  apply Exists.intro
  apply Exists.intro
  apply And.intro
  refine' bodyE_of noOrc_ok fxMix (by kernel_rfl) (by simp [Try.ntmps37]) ?_
  rotate_left 2
  intro C cP cI cN cD cF cA cR cL
  replace cI : C.inl = fun _ => false := cI
  replace cR : C.rd = fun _ => none := cR
  replace cD : C.dyn = fun _ => [] := cD
  clear cP cN cF cA
  unfold insA
  simp [Try.ntmps37, Try.results37, cSl, cI, cD, cR, ka, kb, kaI, kbI, ka9, kb9, e1, e2, ga, gb, ea, la, ta, ep, eq, lq, tq, aq, aa, aS]
  exact Ent.refl _ _
  exact spO_of rfl
 refine chM_ev rfl ?_
 apply Exists.intro
 apply Exists.intro
 apply And.intro
 refine' bodyE_of noOrc_ok fxMix (by kernel_rfl) (by simp [Try.ntmps37]) ?_
 rotate_left 2
 intro C cP cI cN cD cF cA cR cL
 replace cI : C.inl = fun _ => false := cI
 replace cR : C.rd = fun _ => none := cR
 replace cD : C.dyn = fun _ => [] := cD
 clear cP cN cF cA
 unfold insA
 simp [Try.ntmps37, Try.results37, cSl, cI, cD, cR, ka, kb, kaI, kbI, ka9, kb9, e1, e2, ga, gb, ea, la, ta, ep, eq, lq, tq, aq, aa, aS, h1, h24, h26, h2, h3, h4, h14]
 exact Ent.refl _ _
 exact spO_of (by simp [otherF, h1, h24, h26, h2, h3, h4, h14]; rfl)
end
section
attribute [local simp] rgA_list rgL_map rg_allV rgL_arr rg_one
def SpJ (args : Row) (H : Heap) (r : AVal) (H' : Heap) : Prop := ∀ id g i a, args = [.ptr id 10 0 0, .v (.agg (insA i)), .v (.int .u32 a)] → H[id]? = some (some (10, [rgRow g])) → r = .v (.tuple #[]) ∧ ∃ K, H' = H.set id (some (10, [rgRow (jumpF g i a)])) ++ K
noncomputable def jumpM := chM Try.prog Try.f36 SpJ
theorem jump_inl : InlOk Try.prog 36 jumpM := chM_ok Try.func36 rfl
theorem spJ_of {H K : Heap} {id : Nat} {g : Rg} {i : Ins} {a : Int} {r : AVal} {H' : Heap} (hH : H[id]? = some (some (10, [rgRow g]))) (h : r = .v (.tuple #[]) ∧ H' = H.set id (some (10, [rgRow (jumpF g i a)])) ++ K) : SpJ [.ptr id 10 0 0, .v (.agg (insA i)), .v (.int .u32 a)] H r H' := by
 intro id' g' i' a' h' hH'
 simp only [List.cons.injEq, AVal.v.injEq, Value.agg.injEq, Value.int.injEq, AVal.ptr.injEq, true_and, and_true] at h'
 obtain ⟨rfl, h2, rfl⟩ := h'
 have h2 := insA_inj h2
 subst h2
 rw [hH] at hH'
 simp only [Option.some.injEq, Prod.mk.injEq, List.cons.injEq, and_true, true_and] at hH'
 have := rgRow_inj hH'
 subst this
 exact ⟨h.1, K, h.2⟩
theorem set_same {H : Heap} {id : Nat} {o : Option (Nat × List Row)} (h : H[id]? = some o) : H.set id o = H := by
 apply List.ext_getElem?
 intro j
 by_cases e : j = id
 ·subst e; rw [List.getElem?_set_self (List.getElem?_eq_some_iff.1 h).1, h]
 ·rw [List.getElem?_set_ne (fun q => e q.symm)]
theorem jump_ev {H : Heap} {id : Nat} {g : Rg} {i : Ins} {pc : Int} (h : g.ok) (hi : fitI i) (hH : H[id]? = some (some (10, [rgRow g]))) :
  ∃ K, jumpM [.ptr id 10 0 0, .v (.agg (insA i)), .v (.int .u32 pc)] H = some (.v (.tuple #[]), H.set id (some (10, [rgRow (jumpF g i pc)])) ++ K) := by
 suffices hs : ∃ r H', jumpM [.ptr id 10 0 0, .v (.agg (insA i)), .v (.int .u32 pc)] H = some (r, H') ∧ SpJ [.ptr id 10 0 0, .v (.agg (insA i)), .v (.int .u32 pc)] H r H' by
  obtain ⟨r, H', h1, h2⟩ := hs
  obtain ⟨rfl, K, rfl⟩ := h2 id g i pc rfl hH
  exact ⟨K, h1⟩
 have hl : id < H.length := (List.getElem?_eq_some_iff.1 hH).1
 have gH := (List.getElem?_eq_some_iff.1 hH).2
 have hSet : H.set id (some (10, [rgRow g])) = H := set_same hH
 have h8 := h.len
 have e1 := rg_len h8
 have e2 := @rg_take g h8
 obtain ⟨op, a, b, c⟩ := i
 obtain ⟨k1, k2, k3, k4, k5, k6⟩ := hi
 simp only at k1 k2 k3 k4 k5 k6
 obtain ⟨a, rfl⟩ := Int.eq_ofNat_of_zero_le k1
 obtain ⟨b, rfl⟩ := Int.eq_ofNat_of_zero_le k3
 have ka : a < 8 := by omega
 have kb : b < 8 := by omega
 have kaI : (a : Int) < 8 := by omega
 have kbI : (b : Int) < 8 := by omega
 have ka9 : a ≤ 9 := by omega
 have kb9 : b ≤ 9 := by omega
 have ga := rg_get h8 ka
 have gb := rg_get h8 kb
 have ea := fun x => rw_r h8 ka x
 have la := fun x => rg_len (g := g.set a x) (by simp [Rg.set, h8])
 have ta := fun x => @rg_take (g.set a x) (by simp [Rg.set, h8])
 have ep := fun x => rw_pc h8 x
 have epa := fun x y => @rw_pc (g.set a x) (by simp [Rg.set, h8]) y
 have lp := fun x => @rg_len ⟨g.r, x, g.ring⟩ h8
 by_cases h19 : op = 19
 ·subst h19
  refine chM_ev rfl ?_
  apply Exists.intro
  apply Exists.intro
  apply And.intro
  refine' bodyE_of noOrc_ok fxMix (by kernel_rfl) (by simp [Try.ntmps36]) ?_
  rotate_left 2
  intro C cP cI cN cD cF cA cR cL
  replace cI : C.inl = fun _ => false := cI
  replace cR : C.rd = fun _ => none := cR
  replace cD : C.dyn = fun _ => [] := cD
  clear cP cN cF cA
  unfold insA
  simp [Try.ntmps36, Try.results36, cSl, cI, cD, cR, ka, kb, kaI, kbI, ka9, kb9, hH, gH, hl, e1, e2, ga, gb, ea, la, ta, ep, epa, lp, List.getElem?_append, List.set_append]
  exact Ent.refl _ _
  exact spJ_of hH ⟨rfl, by simp [jumpF, hSet]; first | rfl | done⟩
 by_cases h20 : op = 20
 ·subst h20
  by_cases hz : g.at a = 0
  ·refine chM_ev rfl ?_
   apply Exists.intro
   apply Exists.intro
   apply And.intro
   refine' bodyE_of noOrc_ok fxMix (by kernel_rfl) (by simp [Try.ntmps36]) ?_
   rotate_left 2
   intro C cP cI cN cD cF cA cR cL
   replace cI : C.inl = fun _ => false := cI
   replace cR : C.rd = fun _ => none := cR
   replace cD : C.dyn = fun _ => [] := cD
   clear cP cN cF cA
   unfold insA
   simp [Try.ntmps36, Try.results36, cSl, cI, cD, cR, ka, kb, kaI, kbI, ka9, kb9, hH, gH, hl, e1, e2, ga, gb, ea, la, ta, ep, epa, lp, List.getElem?_append, List.set_append, hz]
   exact Ent.refl _ _
   exact spJ_of hH ⟨rfl, by simp [jumpF, hSet, hz]; first | rfl | done⟩
  ·refine chM_ev rfl ?_
   apply Exists.intro
   apply Exists.intro
   apply And.intro
   refine' bodyE_of noOrc_ok fxMix (by kernel_rfl) (by simp [Try.ntmps36]) ?_
   rotate_left 2
   intro C cP cI cN cD cF cA cR cL
   replace cI : C.inl = fun _ => false := cI
   replace cR : C.rd = fun _ => none := cR
   replace cD : C.dyn = fun _ => [] := cD
   clear cP cN cF cA
   unfold insA
   simp [Try.ntmps36, Try.results36, cSl, cI, cD, cR, ka, kb, kaI, kbI, ka9, kb9, hH, gH, hl, e1, e2, ga, gb, ea, la, ta, ep, epa, lp, List.getElem?_append, List.set_append, hz]
   exact Ent.refl _ _
   exact spJ_of hH ⟨rfl, by simp [jumpF, hSet, hz]; first | rfl | done⟩
 by_cases h21 : op = 21
 ·subst h21
  by_cases hz : g.at a < g.at b
  ·refine chM_ev rfl ?_
   apply Exists.intro
   apply Exists.intro
   apply And.intro
   refine' bodyE_of noOrc_ok fxMix (by kernel_rfl) (by simp [Try.ntmps36]) ?_
   rotate_left 2
   intro C cP cI cN cD cF cA cR cL
   replace cI : C.inl = fun _ => false := cI
   replace cR : C.rd = fun _ => none := cR
   replace cD : C.dyn = fun _ => [] := cD
   clear cP cN cF cA
   unfold insA
   simp [Try.ntmps36, Try.results36, cSl, cI, cD, cR, ka, kb, kaI, kbI, ka9, kb9, hH, gH, hl, e1, e2, ga, gb, ea, la, ta, ep, epa, lp, List.getElem?_append, List.set_append, hz]
   exact Ent.refl _ _
   exact spJ_of hH ⟨rfl, by simp [jumpF, hSet, hz]; first | rfl | done⟩
  ·refine chM_ev rfl ?_
   apply Exists.intro
   apply Exists.intro
   apply And.intro
   refine' bodyE_of noOrc_ok fxMix (by kernel_rfl) (by simp [Try.ntmps36]) ?_
   rotate_left 2
   intro C cP cI cN cD cF cA cR cL
   replace cI : C.inl = fun _ => false := cI
   replace cR : C.rd = fun _ => none := cR
   replace cD : C.dyn = fun _ => [] := cD
   clear cP cN cF cA
   unfold insA
   simp [Try.ntmps36, Try.results36, cSl, cI, cD, cR, ka, kb, kaI, kbI, ka9, kb9, hH, gH, hl, e1, e2, ga, gb, ea, la, ta, ep, epa, lp, List.getElem?_append, List.set_append, hz]
   exact Ent.refl _ _
   exact spJ_of hH ⟨rfl, by simp [jumpF, hSet, hz]; first | rfl | done⟩
 by_cases h22 : op = 22
 ·subst h22
  refine chM_ev rfl ?_
  apply Exists.intro
  apply Exists.intro
  apply And.intro
  refine' bodyE_of noOrc_ok fxMix (by kernel_rfl) (by simp [Try.ntmps36]) ?_
  rotate_left 2
  intro C cP cI cN cD cF cA cR cL
  replace cI : C.inl = fun _ => false := cI
  replace cR : C.rd = fun _ => none := cR
  replace cD : C.dyn = fun _ => [] := cD
  clear cP cN cF cA
  unfold insA
  simp [Try.ntmps36, Try.results36, cSl, cI, cD, cR, ka, kb, kaI, kbI, ka9, kb9, hH, gH, hl, e1, e2, ga, gb, ea, la, ta, ep, epa, lp, List.getElem?_append, List.set_append]
  exact Ent.refl _ _
  exact spJ_of hH ⟨rfl, by simp [jumpF, hSet]; first | rfl | done⟩
 by_cases h23 : op = 23
 ·subst h23
  refine chM_ev rfl ?_
  apply Exists.intro
  apply Exists.intro
  apply And.intro
  refine' bodyE_of noOrc_ok fxMix (by kernel_rfl) (by simp [Try.ntmps36]) ?_
  rotate_left 2
  intro C cP cI cN cD cF cA cR cL
  replace cI : C.inl = fun _ => false := cI
  replace cR : C.rd = fun _ => none := cR
  replace cD : C.dyn = fun _ => [] := cD
  clear cP cN cF cA
  unfold insA
  simp [Try.ntmps36, Try.results36, cSl, cI, cD, cR, ka, kb, kaI, kbI, ka9, kb9, hH, gH, hl, e1, e2, ga, gb, ea, la, ta, ep, epa, lp, List.getElem?_append, List.set_append]
  exact Ent.refl _ _
  exact spJ_of hH ⟨rfl, by simp [jumpF, hSet]; first | rfl | done⟩
 refine chM_ev rfl ?_
 apply Exists.intro
 apply Exists.intro
 apply And.intro
 refine' bodyE_of noOrc_ok fxMix (by kernel_rfl) (by simp [Try.ntmps36]) ?_
 rotate_left 2
 intro C cP cI cN cD cF cA cR cL
 replace cI : C.inl = fun _ => false := cI
 replace cR : C.rd = fun _ => none := cR
 replace cD : C.dyn = fun _ => [] := cD
 clear cP cN cF cA
 unfold insA
 simp [Try.ntmps36, Try.results36, cSl, cI, cD, cR, ka, kb, kaI, kbI, ka9, kb9, hH, gH, hl, e1, e2, ga, gb, ea, la, ta, ep, epa, lp, List.getElem?_append, List.set_append, h19, h20, h21, h22, h23]
 exact Ent.refl _ _
 exact spJ_of hH ⟨rfl, by simp [jumpF, hSet, h19, h20, h21, h22, h23]; first | rfl | done⟩
end
section
attribute [local simp] pgRow_len pg16 pg17 pg18 pg16' pg17' pg18' ww16 ww17 ww18 keyI_ok aLookup aMapUpdate aDelete lkRes bin_mn spV enV Try.underlying65 Try.underlying55
def busA (mid : Nat) (s : Int) : AVal := .agg [.ptr mid 5 0 0, .v (.int .i64 s)]
def busV (mid : Nat) (s : Int) : AVal := .ifc 51 (busA mid s)
theorem rg_uniq {H : Heap} {mid : Nat} {A B : Ab} (h : RG mid (H, A)) (h' : RG mid (H, B)) : A = B := by
 have h1 := rg_at h
 rw [rg_at h'] at h1
 exact (Option.some.inj h1).symm
theorem busA_inj {m m' : Nat} {s s' : Int} (h : busA m s = busA m' s') : m = m' ∧ s = s' := by
 simpa [busA] using h
theorem busV_inj {m m' : Nat} {s s' : Int} (h : busV m s = busV m' s') : m = m' ∧ s = s' := by
 simpa [busV, busA] using h
def LkRG (mid : Nat) (H : Heap) (A : Ab) (H' : Heap) : Prop := ∃ L', Like A.lo L' ∧ RG mid (H', { A with lo := L' }) ∧ KN H H'
theorem LkRG.refl {mid : Nat} {H : Heap} {A : Ab} (h : RG mid (H, A)) : LkRG mid H A H := ⟨A.lo, Like.refl _, h, KN.refl _⟩
theorem LkRG.app {mid : Nat} {H H' : Heap} {A : Ab} (h : LkRG mid H A H') (K : Heap) : LkRG mid H A (H' ++ K) := by
 obtain ⟨L', h1, h2, h3⟩ := h
 exact ⟨L', h1, rg_app h2, h3.trans KN.app⟩
theorem LkRG.of_app {mid : Nat} {H K H' : Heap} {A : Ab} (h : LkRG mid (H ++ K) A H') : LkRG mid H A H' := by
 obtain ⟨L', h1, h2, h3⟩ := h
 exact ⟨L', h1, h2, (KN.app (K := K)).trans h3⟩
def SpL (args : Row) (H : Heap) (r : AVal) (H' : Heap) : Prop := ∀ mid s A addr want, args = [busA mid s, .v (.int .u32 addr), .v (.int .i64 want)] → RG mid (H, A) → r = .v (.tuple #[.int .u8 (ldV (vw A s) addr want).1, .int .i64 (ldV (vw A s) addr want).2]) ∧ LkRG mid H A H'
noncomputable def busL := chM Try.prog Try.f88 SpL
theorem busL_inl : InlOk Try.prog 88 busL := chM_ok Try.func88 rfl
theorem busL_ev {H : Heap} {mid : Nat} {A : Ab} (h : RG mid (H, A)) {s addr want : Int} (hs : has A s) (hw : 0 ≤ addr ∧ addr < 4294967296) (hwt : 1 ≤ want ∧ want ≤ 7) :
  ∃ H', busL [busA mid s, .v (.int .u32 addr), .v (.int .i64 want)] H = some (.v (.tuple #[.int .u8 (ldV (vw A s) addr want).1, .int .i64 (ldV (vw A s) addr want).2]), H') ∧ LkRG mid H A H' := by
 suffices hx : ∃ r H', busL [busA mid s, .v (.int .u32 addr), .v (.int .i64 want)] H = some (r, H') ∧ SpL [busA mid s, .v (.int .u32 addr), .v (.int .i64 want)] H r H' by
  obtain ⟨r, H', h1, h2⟩ := hx
  obtain ⟨rfl, h3⟩ := h2 mid s A addr want rfl h
  exact ⟨H', h1, h3⟩
 obtain ⟨H1, L1, hl, lk, r1, kn⟩ := load_v (rg_app (K := [some (2, [[.ptr mid 5 0 0, .v (.int .i64 s)]])]) h) hs hw hwt
 refine chM_ev rfl ?_
 apply Exists.intro
 apply Exists.intro
 apply And.intro
 refine' bodyE_of (noOrc_ok.withI load_inl) fxMix (by kernel_rfl) (by simp [Try.ntmps88]) ?_
 rotate_left 2
 intro C cP cI cN cD cF cA cR cL
 have cn0 := orcI load_inl (C := C) (by rw [cN]; rfl)
 replace cI := fun g => congrFun cI g
 simp only [Orc.withP, Orc.withI, Orc.withF, Orc.withD, Orc.withA, Orc.withR, Orc.withC, noOrc] at cI
 replace cR : C.rd = fun _ => none := cR
 replace cD : C.dyn = fun _ => [] := cD
 clear cP cN cF cA
 unfold busA
 simp [Try.ntmps88, Try.results88, cSl, cn0, cI, cD, cR, hl]
 exact Ent.refl _ _
 intro mid' s' A' addr' want' ha hA'
 simp only [List.cons.injEq, AVal.v.injEq, Value.int.injEq, true_and, and_true] at ha
 obtain ⟨h1, rfl, rfl⟩ := ha
 obtain ⟨rfl, rfl⟩ := busA_inj h1
 have := rg_uniq h hA'
 subst this
 exact ⟨rfl, LkRG.of_app ⟨L1, lk, r1, kn⟩⟩
def StRG (mid : Nat) (s : Int) (H : Heap) (A : Ab) (V : View) (H' : Heap) : Prop := ∃ A', RG mid (H', A') ∧ Eff s A A' ∧ vw A' s = V ∧ KN H H'
def SpS (args : Row) (H : Heap) (r : AVal) (H' : Heap) : Prop := ∀ mid s A addr b, args = [busA mid s, .v (.int .u32 addr), .v (.int .u8 b)] → RG mid (H, A) → r = .v (.int .i64 (stV (vw A s) addr b).1) ∧ StRG mid s H A (stV (vw A s) addr b).2 H'
noncomputable def busS := chM Try.prog Try.f89 SpS
theorem busS_inl : InlOk Try.prog 89 busS := chM_ok Try.func89 rfl
theorem busS_ev {H : Heap} {mid : Nat} {A : Ab} (h : RG mid (H, A)) {s addr b : Int} (hs : has A s) (hw : 0 ≤ addr ∧ addr < 4294967296) (hr : (A.lo.pgs.length : Int) + 1 ≤ A.lo.fr + A.lo.sl) :
  ∃ H', busS [busA mid s, .v (.int .u32 addr), .v (.int .u8 b)] H = some (.v (.int .i64 (stV (vw A s) addr b).1), H') ∧ StRG mid s H A (stV (vw A s) addr b).2 H' := by
 suffices hx : ∃ r H', busS [busA mid s, .v (.int .u32 addr), .v (.int .u8 b)] H = some (r, H') ∧ SpS [busA mid s, .v (.int .u32 addr), .v (.int .u8 b)] H r H' by
  obtain ⟨r, H', h1, h2⟩ := hx
  obtain ⟨rfl, h3⟩ := h2 mid s A addr b rfl h
  exact ⟨H', h1, h3⟩
 obtain ⟨H1, A1, hl, r1, e1, v1, kn⟩ := store_v (b := b) (rg_app (K := [some (2, [[.ptr mid 5 0 0, .v (.int .i64 s)]])]) h) hs hw hr
 refine chM_ev rfl ?_
 apply Exists.intro
 apply Exists.intro
 apply And.intro
 refine' bodyE_of (noOrc_ok.withI store_inl) fxMix (by kernel_rfl) (by simp [Try.ntmps89]) ?_
 rotate_left 2
 intro C cP cI cN cD cF cA cR cL
 have cn0 := orcI store_inl (C := C) (by rw [cN]; rfl)
 replace cI := fun g => congrFun cI g
 simp only [Orc.withP, Orc.withI, Orc.withF, Orc.withD, Orc.withA, Orc.withR, Orc.withC, noOrc] at cI
 replace cR : C.rd = fun _ => none := cR
 replace cD : C.dyn = fun _ => [] := cD
 clear cP cN cF cA
 unfold busA
 simp [Try.ntmps89, Try.results89, cSl, cn0, cI, cD, cR, hl]
 exact Ent.refl _ _
 intro mid' s' A' addr' want' ha hA'
 simp only [List.cons.injEq, AVal.v.injEq, Value.int.injEq, true_and, and_true] at ha
 obtain ⟨h1, rfl, rfl⟩ := ha
 obtain ⟨rfl, rfl⟩ := busA_inj h1
 have := rg_uniq h hA'
 subst this
 exact ⟨rfl, A1, r1, e1, v1, (KN.app (K := _)).trans kn⟩
theorem mfL : methodF Try.prog 51 "Load" = some 88 := by kernel_rfl
theorem mfS : methodF Try.prog 51 "Store" = some 89 := by kernel_rfl
end
section
theorem res_ifc {g : Bool} {t : TypeId} {a : AVal} : res g (.ifc t a) = .ifc t a := rfl
theorem res_meth {g : Bool} {n : String} {t : TypeId} : res g (.meth n t) = .meth n t := rfl
attribute [local simp] aInvoke mfL mfS UnrK res_ifc res_meth
theorem LkRG.look {mid : Nat} {H H1 : Heap} {A : Ab} {s addr want : Int} (k : LkRG mid H A H1) (hs : has A s) (hw : 0 ≤ addr ∧ addr < 4294967296) (hwt : 1 ≤ want ∧ want ≤ 7) :
  ∃ H', busL [busA mid s, .v (.int .u32 addr), .v (.int .i64 want)] H1 = some (.v (.tuple #[.int .u8 (ldV (vw A s) addr want).1, .int .i64 (ldV (vw A s) addr want).2]), H') ∧ LkRG mid H A H' := by
 obtain ⟨L1, lk1, r1, kn1⟩ := k
 obtain ⟨H', h1, L2, lk2, r2, kn2⟩ := busL_ev r1 (s := s) (has_like hs) hw hwt
 have e : vw { A with lo := L1 } s = vw A s := funext (vw_like lk1 s)
 rw [e] at h1
 exact ⟨H', h1, L2, lk1.trans lk2, r2, kn1.trans kn2⟩
theorem LkRG.keep {mid i : Nat} {H H1 : Heap} {A : Ab} {q : Nat × List Row} (k : LkRG mid H A H1) (h : H[i]? = some (some q)) (hq : q.1 ≠ 0 ∧ q.1 ≠ 1 ∧ q.1 ≠ 5 ∧ q.1 ≠ 19) : H1[i]? = some (some q) := by
 obtain ⟨_, _, _, kn⟩ := k
 exact kn i ⟨some q, fun q' e => by cases e; exact hq⟩ h
theorem LkRG.set {mid i : Nat} {H H1 : Heap} {A : Ab} {q : Nat × List Row} {o : Option (Nat × List Row)} (k : LkRG mid H A H1) (h : H1[i]? = some (some q)) (hq : q.1 = 2) (hn : H[i]? = none) : LkRG mid H A (H1.set i o) := by
 obtain ⟨L', lk, r, kn⟩ := k
 have hno : ∀ j, fpP mid { A with lo := L' } j → j ≠ i := fun j hj e => by
  subst e
  obtain ⟨q', hq', _⟩ := fp_live r hj
  rw [h] at hq'
  cases hq'
  rcases hj with ⟨x, hx⟩ | hj | ⟨x, hx, hj⟩
  ·have h1 := r.1.st.at' j x hx
   simp only at h1
   rw [h] at h1
   have := cell_on hx
   cases h1
   omega
  ·have h1 := r.1.sp
   simp only at h1 hj
   rw [← hj, h] at h1
   cases h1
   cases hq
  ·have h1 := r.1.en x hx
   simp only at h1 hj
   rw [hj, h] at h1
   cases h1
   cases hq
 refine ⟨L', lk, rg_same r fun j hj => by rw [List.getElem?_set_ne (fun e => hno j hj e.symm)], fun j rows hr => ?_⟩
 by_cases e : i = j
 ·subst e; rw [hn] at hr; cases hr
 ·rw [List.getElem?_set_ne e]; exact kn j rows hr
def wordV (b0 b1 b2 b3 : Int) : Int := ior .u32 (ior .u32 (ior .u32 (ior .u32 0 (ishl .u32 (IntKind.u32.wrap b0) 0)) (ishl .u32 (IntKind.u32.wrap b1) 8)) (ishl .u32 (IntKind.u32.wrap b2) 16)) (ishl .u32 (IntKind.u32.wrap b3) 24)
def fetchV (V : View) (a want : Int) : Int × Int × Int :=
 if a.tmod 4 ≠ 0 then (0, 2, a) else if (ldV V a want).2 ≠ 0 then (0, 2, a) else if (ldV V (a + 1) want).2 ≠ 0 then (0, 2, a + 1) else
 if (ldV V (a + 2) want).2 ≠ 0 then (0, 2, a + 2) else if (ldV V (a + 3) want).2 ≠ 0 then (0, 2, a + 3) else
 (wordV (ldV V a want).1 (ldV V (a + 1) want).1 (ldV V (a + 2) want).1 (ldV V (a + 3) want).1, 0, 0)
def SpF (args : Row) (H : Heap) (r : AVal) (H' : Heap) : Prop := ∀ mid s A a want, args = [busV mid s, .v (.int .u32 a), .v (.int .i64 want)] → RG mid (H, A) → r = tupA [.v (.int .u32 (fetchV (vw A s) a want).1), .v (.agg (trA (fetchV (vw A s) a want).2.1 (fetchV (vw A s) a want).2.2))] ∧ LkRG mid H A H'
noncomputable def fetM := chM Try.prog Try.f32 SpF
theorem fet_inl : InlOk Try.prog 32 fetM := chM_ok Try.func32 rfl
theorem spF_of {H : Heap} {mid : Nat} {A : Ab} {s a want : Int} {r : AVal} {H' : Heap} (h : RG mid (H, A)) (hr : r = tupA [.v (.int .u32 (fetchV (vw A s) a want).1), .v (.agg (trA (fetchV (vw A s) a want).2.1 (fetchV (vw A s) a want).2.2))]) (hk : LkRG mid H A H') : SpF [busV mid s, .v (.int .u32 a), .v (.int .i64 want)] H r H' := by
 intro mid' s' A' a' want' ha hA'
 simp only [List.cons.injEq, AVal.v.injEq, Value.int.injEq, true_and, and_true] at ha
 obtain ⟨h1, rfl, rfl⟩ := ha
 obtain ⟨rfl, rfl⟩ := busV_inj h1
 have := rg_uniq h hA'
 subst this
 exact ⟨hr, hk⟩
theorem fet_ev {H : Heap} {mid : Nat} {A : Ab} (h : RG mid (H, A)) {s a want : Int} (hs : has A s) (hw : 0 ≤ a ∧ a < 4294967296) (hwt : 1 ≤ want ∧ want ≤ 7) :
  ∃ H', fetM [busV mid s, .v (.int .u32 a), .v (.int .i64 want)] H = some (tupA [.v (.int .u32 (fetchV (vw A s) a want).1), .v (.agg (trA (fetchV (vw A s) a want).2.1 (fetchV (vw A s) a want).2.2))], H') ∧ LkRG mid H A H' := by
 suffices hx : ∃ r H', fetM [busV mid s, .v (.int .u32 a), .v (.int .i64 want)] H = some (r, H') ∧ SpF [busV mid s, .v (.int .u32 a), .v (.int .i64 want)] H r H' by
  obtain ⟨r, H', h1, h2⟩ := hx
  obtain ⟨rfl, h3⟩ := h2 mid s A a want rfl h
  exact ⟨H', h1, h3⟩
 by_cases hm : a.tmod 4 = 0
 case neg =>
  refine chM_ev rfl ?_
  apply Exists.intro
  apply Exists.intro
  apply And.intro
  refine' bodyE_of (noOrc_ok.withI busL_inl) fxMix (by kernel_rfl) (by simp [Try.ntmps32]) ?_
  rotate_left 2
  intro C cP cI cN cD cF cA cR cL
  have cn0 := orcI busL_inl (C := C) (by rw [cN]; rfl)
  replace cI := fun g => congrFun cI g
  simp only [Orc.withP, Orc.withI, Orc.withF, Orc.withD, Orc.withA, Orc.withR, Orc.withC, noOrc] at cI
  replace cR : C.rd = fun _ => none := cR
  replace cD : C.dyn = fun _ => [] := cD
  clear cP cN cF cA
  unfold busV
  simp [Try.ntmps32, Try.results32, cSl, cn0, cI, cD, cR, hm]
  exact Ent.refl _ _
  exact spF_of h (by simp [fetchV, hm]; rfl) ((LkRG.refl h).app _)
 have hm4 : a % 4 = 0 := by rw [Int.tmod_eq_emod_of_nonneg hw.1] at hm; exact hm
 have w0 : IntKind.u32.wrap a = a := wu32 (by omega) (by omega)
 have w1 : IntKind.u32.wrap (a + 1) = a + 1 := wu32 (by omega) (by omega)
 have w2 : IntKind.u32.wrap (a + 2) = a + 2 := wu32 (by omega) (by omega)
 have w3 : IntKind.u32.wrap (a + 3) = a + 3 := wu32 (by omega) (by omega)
 have h0 : RG mid (H ++ [some (2, [[.v (.int .i64 0), .v (.int .u32 0)]])], A) := rg_app h
 have g0 : (H ++ [some (2, [[AVal.v (.int .i64 0), AVal.v (.int .u32 0)]])])[H.length]? = some (some (2, [[.v (.int .i64 0), .v (.int .u32 0)]])) := by simp
 obtain ⟨H1, l0, k1⟩ := (LkRG.refl h0).look hs hw hwt
 obtain ⟨H2, l1, k2⟩ := k1.look (addr := a + 1) hs (by omega) hwt
 obtain ⟨H3, l2, k3⟩ := k2.look (addr := a + 2) hs (by omega) hwt
 obtain ⟨H4, l3, k4⟩ := k3.look (addr := a + 3) hs (by omega) hwt
 have g1 := k1.keep g0 (by decide)
 have n1 := (List.getElem?_eq_some_iff.1 g1).1
 have v1 := (List.getElem?_eq_some_iff.1 g1).2
 have g2 := k2.keep g0 (by decide)
 have n2 := (List.getElem?_eq_some_iff.1 g2).1
 have v2 := (List.getElem?_eq_some_iff.1 g2).2
 have g3 := k3.keep g0 (by decide)
 have n3 := (List.getElem?_eq_some_iff.1 g3).1
 have v3 := (List.getElem?_eq_some_iff.1 g3).2
 have g4 := k4.keep g0 (by decide)
 have n4 := (List.getElem?_eq_some_iff.1 g4).1
 have v4 := (List.getElem?_eq_some_iff.1 g4).2
 by_cases q0 : (ldV (vw A s) a want).2 = 0
 case neg =>
  refine chM_ev rfl ?_
  apply Exists.intro
  apply Exists.intro
  apply And.intro
  refine' bodyE_of (noOrc_ok.withI busL_inl) fxMix (by kernel_rfl) (by simp [Try.ntmps32]) ?_
  rotate_left 2
  intro C cP cI cN cD cF cA cR cL
  have cn0 := orcI busL_inl (C := C) (by rw [cN]; rfl)
  replace cI := fun g => congrFun cI g
  simp only [Orc.withP, Orc.withI, Orc.withF, Orc.withD, Orc.withA, Orc.withR, Orc.withC, noOrc] at cI
  replace cR : C.rd = fun _ => none := cR
  replace cD : C.dyn = fun _ => [] := cD
  clear cP cN cF cA
  unfold busV
  simp [Try.ntmps32, Try.results32, cSl, cn0, cI, cD, cR, hm]
  refine loop_rounds 1 ?_
  simp [Try.ntmps32, Try.results32, cSl, cn0, cI, cD, cR, hm, w0, w1, w2, w3, l0, q0, g1, n1, v1]
  exact Ent.refl _ _
  exact spF_of h (by simp [fetchV, hm, q0]; rfl) (k1.of_app.set g1 rfl (by simp))
 by_cases q1 : (ldV (vw A s) (a + 1) want).2 = 0
 case neg =>
  refine chM_ev rfl ?_
  apply Exists.intro
  apply Exists.intro
  apply And.intro
  refine' bodyE_of (noOrc_ok.withI busL_inl) fxMix (by kernel_rfl) (by simp [Try.ntmps32]) ?_
  rotate_left 2
  intro C cP cI cN cD cF cA cR cL
  have cn0 := orcI busL_inl (C := C) (by rw [cN]; rfl)
  replace cI := fun g => congrFun cI g
  simp only [Orc.withP, Orc.withI, Orc.withF, Orc.withD, Orc.withA, Orc.withR, Orc.withC, noOrc] at cI
  replace cR : C.rd = fun _ => none := cR
  replace cD : C.dyn = fun _ => [] := cD
  clear cP cN cF cA
  unfold busV
  simp [Try.ntmps32, Try.results32, cSl, cn0, cI, cD, cR, hm]
  refine loop_rounds 2 ?_
  simp [Try.ntmps32, Try.results32, cSl, cn0, cI, cD, cR, hm, w0, w1, w2, w3, l0, q0, l1, q1, g1, n1, v1, g2, n2, v2]
  exact Ent.refl _ _
  exact spF_of h (by simp [fetchV, hm, q0, q1]; rfl) (k2.of_app.set g2 rfl (by simp))
 by_cases q2 : (ldV (vw A s) (a + 2) want).2 = 0
 case neg =>
  refine chM_ev rfl ?_
  apply Exists.intro
  apply Exists.intro
  apply And.intro
  refine' bodyE_of (noOrc_ok.withI busL_inl) fxMix (by kernel_rfl) (by simp [Try.ntmps32]) ?_
  rotate_left 2
  intro C cP cI cN cD cF cA cR cL
  have cn0 := orcI busL_inl (C := C) (by rw [cN]; rfl)
  replace cI := fun g => congrFun cI g
  simp only [Orc.withP, Orc.withI, Orc.withF, Orc.withD, Orc.withA, Orc.withR, Orc.withC, noOrc] at cI
  replace cR : C.rd = fun _ => none := cR
  replace cD : C.dyn = fun _ => [] := cD
  clear cP cN cF cA
  unfold busV
  simp [Try.ntmps32, Try.results32, cSl, cn0, cI, cD, cR, hm]
  refine loop_rounds 3 ?_
  simp [Try.ntmps32, Try.results32, cSl, cn0, cI, cD, cR, hm, w0, w1, w2, w3, l0, q0, l1, q1, l2, q2, g1, n1, v1, g2, n2, v2, g3, n3, v3]
  exact Ent.refl _ _
  exact spF_of h (by simp [fetchV, hm, q0, q1, q2]; rfl) (k3.of_app.set g3 rfl (by simp))
 by_cases q3 : (ldV (vw A s) (a + 3) want).2 = 0
 case neg =>
  refine chM_ev rfl ?_
  apply Exists.intro
  apply Exists.intro
  apply And.intro
  refine' bodyE_of (noOrc_ok.withI busL_inl) fxMix (by kernel_rfl) (by simp [Try.ntmps32]) ?_
  rotate_left 2
  intro C cP cI cN cD cF cA cR cL
  have cn0 := orcI busL_inl (C := C) (by rw [cN]; rfl)
  replace cI := fun g => congrFun cI g
  simp only [Orc.withP, Orc.withI, Orc.withF, Orc.withD, Orc.withA, Orc.withR, Orc.withC, noOrc] at cI
  replace cR : C.rd = fun _ => none := cR
  replace cD : C.dyn = fun _ => [] := cD
  clear cP cN cF cA
  unfold busV
  simp [Try.ntmps32, Try.results32, cSl, cn0, cI, cD, cR, hm]
  refine loop_rounds 4 ?_
  simp [Try.ntmps32, Try.results32, cSl, cn0, cI, cD, cR, hm, w0, w1, w2, w3, l0, q0, l1, q1, l2, q2, l3, q3, g1, n1, v1, g2, n2, v2, g3, n3, v3, g4, n4, v4]
  exact Ent.refl _ _
  exact spF_of h (by simp [fetchV, hm, q0, q1, q2, q3]; rfl) (k4.of_app.set g4 rfl (by simp))
 refine chM_ev rfl ?_
 apply Exists.intro
 apply Exists.intro
 apply And.intro
 refine' bodyE_of (noOrc_ok.withI busL_inl) fxMix (by kernel_rfl) (by simp [Try.ntmps32]) ?_
 rotate_left 2
 intro C cP cI cN cD cF cA cR cL
 have cn0 := orcI busL_inl (C := C) (by rw [cN]; rfl)
 replace cI := fun g => congrFun cI g
 simp only [Orc.withP, Orc.withI, Orc.withF, Orc.withD, Orc.withA, Orc.withR, Orc.withC, noOrc] at cI
 replace cR : C.rd = fun _ => none := cR
 replace cD : C.dyn = fun _ => [] := cD
 clear cP cN cF cA
 unfold busV
 simp [Try.ntmps32, Try.results32, cSl, cn0, cI, cD, cR, hm]
 refine loop_rounds 5 ?_
 simp [Try.ntmps32, Try.results32, cSl, cn0, cI, cD, cR, hm, w0, w1, w2, w3, l0, q0, l1, q1, l2, q2, l3, q3, g1, n1, v1, g2, n2, v2, g3, n3, v3, g4, n4, v4]
 exact Ent.refl _ _
 exact spF_of h (by simp [fetchV, hm, q0, q1, q2, q3]; exact ⟨rfl, rfl⟩) (k4.of_app.set g4 rfl (by simp))
end
section
attribute [local simp] aInvoke mfL mfS UnrK res_ifc res_meth
def Ss (mid : Nat) (s : Int) (H : Heap) (A : Ab) (V : View) (H' : Heap) : Prop := ∃ A', RG mid (H', A') ∧ Eff s A A' ∧ vw A' s = V ∧ KN H H' ∧ ∀ c, Inv c A → Inv c A'
theorem Ss.refl {mid : Nat} {s : Int} {H : Heap} {A : Ab} (h : RG mid (H, A)) : Ss mid s H A (vw A s) H := ⟨A, h, Eff.refl _ _, rfl, KN.refl _, fun _ h => h⟩
theorem Ss.app {mid : Nat} {s : Int} {H H' : Heap} {A : Ab} {V : View} (h : Ss mid s H A V H') (K : Heap) : Ss mid s H A V (H' ++ K) := by
 obtain ⟨A', h1, h2, h3, h4, h5⟩ := h
 exact ⟨A', rg_app h1, h2, h3, h4.trans KN.app, h5⟩
theorem Ss.of_app {mid : Nat} {s : Int} {H K H' : Heap} {A : Ab} {V : View} (h : Ss mid s (H ++ K) A V H') : Ss mid s H A V H' := by
 obtain ⟨A', h1, h2, h3, h4, h5⟩ := h
 exact ⟨A', h1, h2, h3, (KN.app (K := K)).trans h4, h5⟩
theorem Ss.trans {mid : Nat} {s : Int} {H H1 H2 : Heap} {A : Ab} {V W : View} (h : Ss mid s H A V H1) (k : ∀ A1, RG mid (H1, A1) → Eff s A A1 → vw A1 s = V → (∀ c, Inv c A → Inv c A1) → Ss mid s H1 A1 W H2) : Ss mid s H A W H2 := by
 obtain ⟨A1, h1, h2, h3, h4, h5⟩ := h
 obtain ⟨A2, k1, k2, k3, k4, k5⟩ := k A1 h1 h2 h3 h5
 exact ⟨A2, k1, h2.trans k2, k3, h4.trans k4, fun c hc => k5 c (h5 c hc)⟩
theorem Ss.keep {mid i : Nat} {s : Int} {H H1 : Heap} {A : Ab} {V : View} {q : Nat × List Row} (k : Ss mid s H A V H1) (h : H[i]? = some (some q)) (hq : q.1 ≠ 0 ∧ q.1 ≠ 1 ∧ q.1 ≠ 5 ∧ q.1 ≠ 19) : H1[i]? = some (some q) := by
 obtain ⟨_, _, _, _, kn, _⟩ := k
 exact kn i ⟨some q, fun q' e => by cases e; exact hq⟩ h
theorem fp_size {mid i : Nat} {H : Heap} {A : Ab} {q : Nat × List Row} (r : RG mid (H, A)) (hi : fpP mid A i) (h : H[i]? = some (some q)) : q.1 = 0 ∨ q.1 = 1 ∨ q.1 = 5 ∨ q.1 = 19 := by
 rcases hi with ⟨x, hx⟩ | hi | ⟨x, hx, hi⟩
 ·have h1 := r.1.st.at' i x hx
  simp only at h1
  rw [h] at h1
  have := cell_on hx
  cases h1
  omega
 ·have h1 := r.1.sp
  simp only at h1
  rw [← hi, h] at h1
  cases h1
  exact .inl rfl
 ·have h1 := r.1.en x hx
  simp only at h1
  rw [hi, h] at h1
  cases h1
  exact .inl rfl
theorem Ss.set {mid i : Nat} {s : Int} {H H1 : Heap} {A : Ab} {V : View} {q : Nat × List Row} {o : Option (Nat × List Row)} (k : Ss mid s H A V H1) (h : H1[i]? = some (some q)) (hq : q.1 ≠ 0 ∧ q.1 ≠ 1 ∧ q.1 ≠ 5 ∧ q.1 ≠ 19) (hn : H[i]? = none) : Ss mid s H A V (H1.set i o) := by
 obtain ⟨A', r, e, hv, kn, hc⟩ := k
 have hno : ∀ j, fpP mid A' j → j ≠ i := fun j hj e => by
  subst e
  have := fp_size r hj h
  omega
 refine ⟨A', rg_same r fun j hj => by rw [List.getElem?_set_ne (fun e => hno j hj e.symm)], e, hv, fun j rows hr => ?_, hc⟩
 by_cases e : i = j
 ·subst e; rw [hn] at hr; cases hr
 ·rw [List.getElem?_set_ne e]; exact kn j rows hr
theorem Ss.store {mid : Nat} {s : Int} {H H1 : Heap} {A : Ab} {V : View} {addr b : Int} (k : Ss mid s H A V H1) (hs : has A s) {c : Nat} (hc : Inv c A) (hw : 0 ≤ addr ∧ addr < 4294967296) :
  ∃ H', busS [busA mid s, .v (.int .u32 addr), .v (.int .u8 b)] H1 = some (.v (.int .i64 (stV V addr b).1), H') ∧ Ss mid s H A (stV V addr b).2 H' := by
 obtain ⟨A1, h1, h2, h3, h4, h5⟩ := k
 obtain ⟨H', g1, A2, g2, g3, g4, g5⟩ := busS_ev (b := b) h1 (eff_has h2 hs) hw ((h5 c hc).room h1)
 rw [h3] at g1 g4
 refine ⟨H', g1, A2, g2, h2.trans g3, g4, h4.trans g5, fun c hc => (h5 c hc).store g3 (by rw [g4, h3])⟩
theorem Ss.load {mid : Nat} {s : Int} {H H1 : Heap} {A : Ab} {V : View} {addr want : Int} (k : Ss mid s H A V H1) (hs : has A s) (hw : 0 ≤ addr ∧ addr < 4294967296) (hwt : 1 ≤ want ∧ want ≤ 7) :
  ∃ H', busL [busA mid s, .v (.int .u32 addr), .v (.int .i64 want)] H1 = some (.v (.tuple #[.int .u8 (ldV V addr want).1, .int .i64 (ldV V addr want).2]), H') ∧ Ss mid s H A V H' := by
 obtain ⟨A1, h1, h2, h3, h4, h5⟩ := k
 obtain ⟨H', g1, L, lk, g3, g4⟩ := busL_ev (want := want) h1 (eff_has h2 hs) hw hwt
 rw [h3] at g1
 exact ⟨H', g1, { A1 with lo := L }, g3, h2.trans (Eff.like s lk), by rw [← h3]; exact funext (vw_like lk s), h4.trans g4, fun c hc => (h5 c hc).like lk⟩
theorem Ss.fetch {mid : Nat} {s : Int} {H H1 : Heap} {A : Ab} {V : View} {a want : Int} (k : Ss mid s H A V H1) (hs : has A s) (hw : 0 ≤ a ∧ a < 4294967296) (hwt : 1 ≤ want ∧ want ≤ 7) :
  ∃ H', fetM [busV mid s, .v (.int .u32 a), .v (.int .i64 want)] H1 = some (tupA [.v (.int .u32 (fetchV V a want).1), .v (.agg (trA (fetchV V a want).2.1 (fetchV V a want).2.2))], H') ∧ Ss mid s H A V H' := by
 obtain ⟨A1, h1, h2, h3, h4, h5⟩ := k
 obtain ⟨H', g1, L, lk, g3, g4⟩ := fet_ev h1 (eff_has h2 hs) hw hwt
 rw [h3] at g1
 exact ⟨H', g1, { A1 with lo := L }, g3, h2.trans (Eff.like s lk), by rw [← h3]; exact funext (vw_like lk s), h4.trans g4, fun c hc => (h5 c hc).like lk⟩
def byteW (w k : Int) : Int := IntKind.u8.wrap (ishr .u32 w k)
def putV (V : View) (a w : Int) : Int × Int × View :=
 if a.tmod 4 ≠ 0 then (2, a, V) else
 if (stV V a (byteW w 0)).1 ≠ 0 then (2, a, (stV V a (byteW w 0)).2) else
 if (stV (stV V a (byteW w 0)).2 (a + 1) (byteW w 8)).1 ≠ 0 then (2, a + 1, (stV (stV V a (byteW w 0)).2 (a + 1) (byteW w 8)).2) else
 if (stV (stV (stV V a (byteW w 0)).2 (a + 1) (byteW w 8)).2 (a + 2) (byteW w 16)).1 ≠ 0 then (2, a + 2, (stV (stV (stV V a (byteW w 0)).2 (a + 1) (byteW w 8)).2 (a + 2) (byteW w 16)).2) else
 if (stV (stV (stV (stV V a (byteW w 0)).2 (a + 1) (byteW w 8)).2 (a + 2) (byteW w 16)).2 (a + 3) (byteW w 24)).1 ≠ 0 then (2, a + 3, (stV (stV (stV (stV V a (byteW w 0)).2 (a + 1) (byteW w 8)).2 (a + 2) (byteW w 16)).2 (a + 3) (byteW w 24)).2) else
 (0, 0, (stV (stV (stV (stV V a (byteW w 0)).2 (a + 1) (byteW w 8)).2 (a + 2) (byteW w 16)).2 (a + 3) (byteW w 24)).2)
def SpP (args : Row) (H : Heap) (r : AVal) (H' : Heap) : Prop := ∀ mid s A a w, args = [busV mid s, .v (.int .u32 a), .v (.int .u32 w)] → RG mid (H, A) → r = .v (.agg (trA (putV (vw A s) a w).1 (putV (vw A s) a w).2.1)) ∧ Ss mid s H A (putV (vw A s) a w).2.2 H'
noncomputable def putM' := chM Try.prog Try.f50 SpP
theorem cput_inl : InlOk Try.prog 50 putM' := chM_ok Try.func50 rfl
theorem spP_of {H : Heap} {mid : Nat} {A : Ab} {s a w : Int} {r : AVal} {H' : Heap} (h : RG mid (H, A)) (hr : r = .v (.agg (trA (putV (vw A s) a w).1 (putV (vw A s) a w).2.1)) ∧ Ss mid s H A (putV (vw A s) a w).2.2 H') : SpP [busV mid s, .v (.int .u32 a), .v (.int .u32 w)] H r H' := by
 intro mid' s' A' a' want' ha hA'
 simp only [List.cons.injEq, AVal.v.injEq, Value.int.injEq, true_and, and_true] at ha
 obtain ⟨h1, rfl, rfl⟩ := ha
 obtain ⟨rfl, rfl⟩ := busV_inj h1
 have := rg_uniq h hA'
 subst this
 exact hr
theorem cput_ev {H : Heap} {mid c : Nat} {A : Ab} (h : RG mid (H, A)) {s a w : Int} (hs : has A s) (hc : Inv c A) (hw : 0 ≤ a ∧ a < 4294967296) :
  ∃ H', putM' [busV mid s, .v (.int .u32 a), .v (.int .u32 w)] H = some (.v (.agg (trA (putV (vw A s) a w).1 (putV (vw A s) a w).2.1)), H') ∧ Ss mid s H A (putV (vw A s) a w).2.2 H' := by
 suffices hx : ∃ r H', putM' [busV mid s, .v (.int .u32 a), .v (.int .u32 w)] H = some (r, H') ∧ SpP [busV mid s, .v (.int .u32 a), .v (.int .u32 w)] H r H' by
  obtain ⟨r, H', h1, h2⟩ := hx
  obtain ⟨rfl, h3⟩ := h2 mid s A a w rfl h
  exact ⟨H', h1, h3⟩
 by_cases hm : a.tmod 4 = 0
 case neg =>
  refine chM_ev rfl ?_
  apply Exists.intro
  apply Exists.intro
  apply And.intro
  refine' bodyE_of (noOrc_ok.withI busS_inl) fxMix (by kernel_rfl) (by simp [Try.ntmps50]) ?_
  rotate_left 2
  intro C cP cI cN cD cF cA cR cL
  have cn0 := orcI busS_inl (C := C) (by rw [cN]; rfl)
  replace cI := fun g => congrFun cI g
  simp only [Orc.withP, Orc.withI, Orc.withF, Orc.withD, Orc.withA, Orc.withR, Orc.withC, noOrc] at cI
  replace cR : C.rd = fun _ => none := cR
  replace cD : C.dyn = fun _ => [] := cD
  clear cP cN cF cA
  unfold busV
  simp [Try.ntmps50, Try.results50, cSl, cn0, cI, cD, cR, hm]
  exact Ent.refl _ _
  exact spP_of h ⟨by simp [putV, hm]; rfl, by simp [putV, hm]; exact (Ss.refl h).app _⟩
 have hm4 : a % 4 = 0 := by rw [Int.tmod_eq_emod_of_nonneg hw.1] at hm; exact hm
 have w0 : IntKind.u32.wrap a = a := wu32 (by omega) (by omega)
 have w1 : IntKind.u32.wrap (a + 1) = a + 1 := wu32 (by omega) (by omega)
 have w2 : IntKind.u32.wrap (a + 2) = a + 2 := wu32 (by omega) (by omega)
 have w3 : IntKind.u32.wrap (a + 3) = a + 3 := wu32 (by omega) (by omega)
 have h0 : RG mid (H ++ [some (2, [[.v (.int .i64 0), .v (.int .u32 0)]])], A) := rg_app h
 have g0 : (H ++ [some (2, [[AVal.v (.int .i64 0), AVal.v (.int .u32 0)]])])[H.length]? = some (some (2, [[.v (.int .i64 0), .v (.int .u32 0)]])) := by simp
 obtain ⟨H1, l0, k1⟩ := (Ss.refl h0).store (b := byteW w 0) hs hc hw
 obtain ⟨H2, l1, k2⟩ := k1.store (addr := a + 1) (b := byteW w 8) hs hc (by omega)
 obtain ⟨H3, l2, k3⟩ := k2.store (addr := a + 2) (b := byteW w 16) hs hc (by omega)
 obtain ⟨H4, l3, k4⟩ := k3.store (addr := a + 3) (b := byteW w 24) hs hc (by omega)
 have g1 := k1.keep g0 (by decide)
 have n1 := (List.getElem?_eq_some_iff.1 g1).1
 have v1 := (List.getElem?_eq_some_iff.1 g1).2
 have g2 := k2.keep g0 (by decide)
 have n2 := (List.getElem?_eq_some_iff.1 g2).1
 have v2 := (List.getElem?_eq_some_iff.1 g2).2
 have g3 := k3.keep g0 (by decide)
 have n3 := (List.getElem?_eq_some_iff.1 g3).1
 have v3 := (List.getElem?_eq_some_iff.1 g3).2
 have g4 := k4.keep g0 (by decide)
 have n4 := (List.getElem?_eq_some_iff.1 g4).1
 have v4 := (List.getElem?_eq_some_iff.1 g4).2
 have hb0 : IntKind.u8.wrap (ishr .u32 w 0) = byteW w 0 := rfl
 have hb1 : IntKind.u8.wrap (ishr .u32 w 8) = byteW w 8 := rfl
 have hb2 : IntKind.u8.wrap (ishr .u32 w 16) = byteW w 16 := rfl
 have hb3 : IntKind.u8.wrap (ishr .u32 w 24) = byteW w 24 := rfl
 by_cases q0 : (stV (vw A s) a (byteW w 0)).1 = 0
 case neg =>
  refine chM_ev rfl ?_
  apply Exists.intro
  apply Exists.intro
  apply And.intro
  refine' bodyE_of (noOrc_ok.withI busS_inl) fxMix (by kernel_rfl) (by simp [Try.ntmps50]) ?_
  rotate_left 2
  intro C cP cI cN cD cF cA cR cL
  have cn0 := orcI busS_inl (C := C) (by rw [cN]; rfl)
  replace cI := fun g => congrFun cI g
  simp only [Orc.withP, Orc.withI, Orc.withF, Orc.withD, Orc.withA, Orc.withR, Orc.withC, noOrc] at cI
  replace cR : C.rd = fun _ => none := cR
  replace cD : C.dyn = fun _ => [] := cD
  clear cP cN cF cA
  unfold busV
  simp [Try.ntmps50, Try.results50, cSl, cn0, cI, cD, cR, hm]
  refine loop_rounds 1 ?_
  simp [Try.ntmps50, Try.results50, cSl, cn0, cI, cD, cR, hm, w0, w1, w2, w3, hb0, hb1, hb2, hb3, l0, q0, g1, n1, v1]
  exact Ent.refl _ _
  exact spP_of h ⟨by simp [putV, hm, q0]; rfl, by simp [putV, hm, q0]; exact k1.of_app.set g1 (by decide) (by simp)⟩
 by_cases q1 : (stV (stV (vw A s) a (byteW w 0)).2 (a + 1) (byteW w 8)).1 = 0
 case neg =>
  refine chM_ev rfl ?_
  apply Exists.intro
  apply Exists.intro
  apply And.intro
  refine' bodyE_of (noOrc_ok.withI busS_inl) fxMix (by kernel_rfl) (by simp [Try.ntmps50]) ?_
  rotate_left 2
  intro C cP cI cN cD cF cA cR cL
  have cn0 := orcI busS_inl (C := C) (by rw [cN]; rfl)
  replace cI := fun g => congrFun cI g
  simp only [Orc.withP, Orc.withI, Orc.withF, Orc.withD, Orc.withA, Orc.withR, Orc.withC, noOrc] at cI
  replace cR : C.rd = fun _ => none := cR
  replace cD : C.dyn = fun _ => [] := cD
  clear cP cN cF cA
  unfold busV
  simp [Try.ntmps50, Try.results50, cSl, cn0, cI, cD, cR, hm]
  refine loop_rounds 2 ?_
  simp [Try.ntmps50, Try.results50, cSl, cn0, cI, cD, cR, hm, w0, w1, w2, w3, hb0, hb1, hb2, hb3, l0, q0, l1, q1, g1, n1, v1, g2, n2, v2]
  exact Ent.refl _ _
  exact spP_of h ⟨by simp [putV, hm, q0, q1]; rfl, by simp [putV, hm, q0, q1]; exact k2.of_app.set g2 (by decide) (by simp)⟩
 by_cases q2 : (stV (stV (stV (vw A s) a (byteW w 0)).2 (a + 1) (byteW w 8)).2 (a + 2) (byteW w 16)).1 = 0
 case neg =>
  refine chM_ev rfl ?_
  apply Exists.intro
  apply Exists.intro
  apply And.intro
  refine' bodyE_of (noOrc_ok.withI busS_inl) fxMix (by kernel_rfl) (by simp [Try.ntmps50]) ?_
  rotate_left 2
  intro C cP cI cN cD cF cA cR cL
  have cn0 := orcI busS_inl (C := C) (by rw [cN]; rfl)
  replace cI := fun g => congrFun cI g
  simp only [Orc.withP, Orc.withI, Orc.withF, Orc.withD, Orc.withA, Orc.withR, Orc.withC, noOrc] at cI
  replace cR : C.rd = fun _ => none := cR
  replace cD : C.dyn = fun _ => [] := cD
  clear cP cN cF cA
  unfold busV
  simp [Try.ntmps50, Try.results50, cSl, cn0, cI, cD, cR, hm]
  refine loop_rounds 3 ?_
  simp [Try.ntmps50, Try.results50, cSl, cn0, cI, cD, cR, hm, w0, w1, w2, w3, hb0, hb1, hb2, hb3, l0, q0, l1, q1, l2, q2, g1, n1, v1, g2, n2, v2, g3, n3, v3]
  exact Ent.refl _ _
  exact spP_of h ⟨by simp [putV, hm, q0, q1, q2]; rfl, by simp [putV, hm, q0, q1, q2]; exact k3.of_app.set g3 (by decide) (by simp)⟩
 by_cases q3 : (stV (stV (stV (stV (vw A s) a (byteW w 0)).2 (a + 1) (byteW w 8)).2 (a + 2) (byteW w 16)).2 (a + 3) (byteW w 24)).1 = 0
 case neg =>
  refine chM_ev rfl ?_
  apply Exists.intro
  apply Exists.intro
  apply And.intro
  refine' bodyE_of (noOrc_ok.withI busS_inl) fxMix (by kernel_rfl) (by simp [Try.ntmps50]) ?_
  rotate_left 2
  intro C cP cI cN cD cF cA cR cL
  have cn0 := orcI busS_inl (C := C) (by rw [cN]; rfl)
  replace cI := fun g => congrFun cI g
  simp only [Orc.withP, Orc.withI, Orc.withF, Orc.withD, Orc.withA, Orc.withR, Orc.withC, noOrc] at cI
  replace cR : C.rd = fun _ => none := cR
  replace cD : C.dyn = fun _ => [] := cD
  clear cP cN cF cA
  unfold busV
  simp [Try.ntmps50, Try.results50, cSl, cn0, cI, cD, cR, hm]
  refine loop_rounds 4 ?_
  simp [Try.ntmps50, Try.results50, cSl, cn0, cI, cD, cR, hm, w0, w1, w2, w3, hb0, hb1, hb2, hb3, l0, q0, l1, q1, l2, q2, l3, q3, g1, n1, v1, g2, n2, v2, g3, n3, v3, g4, n4, v4]
  exact Ent.refl _ _
  exact spP_of h ⟨by simp [putV, hm, q0, q1, q2, q3]; rfl, by simp [putV, hm, q0, q1, q2, q3]; exact k4.of_app.set g4 (by decide) (by simp)⟩
 refine chM_ev rfl ?_
 apply Exists.intro
 apply Exists.intro
 apply And.intro
 refine' bodyE_of (noOrc_ok.withI busS_inl) fxMix (by kernel_rfl) (by simp [Try.ntmps50]) ?_
 rotate_left 2
 intro C cP cI cN cD cF cA cR cL
 have cn0 := orcI busS_inl (C := C) (by rw [cN]; rfl)
 replace cI := fun g => congrFun cI g
 simp only [Orc.withP, Orc.withI, Orc.withF, Orc.withD, Orc.withA, Orc.withR, Orc.withC, noOrc] at cI
 replace cR : C.rd = fun _ => none := cR
 replace cD : C.dyn = fun _ => [] := cD
 clear cP cN cF cA
 unfold busV
 simp [Try.ntmps50, Try.results50, cSl, cn0, cI, cD, cR, hm]
 refine loop_rounds 5 ?_
 simp [Try.ntmps50, Try.results50, cSl, cn0, cI, cD, cR, hm, w0, w1, w2, w3, hb0, hb1, hb2, hb3, l0, q0, l1, q1, l2, q2, l3, q3, g1, n1, v1, g2, n2, v2, g3, n3, v3, g4, n4, v4]
 exact Ent.refl _ _
 exact spP_of h ⟨by simp [putV, hm, q0, q1, q2, q3]; rfl, by simp [putV, hm, q0, q1, q2, q3]; exact k4.of_app.set g4 (by decide) (by simp)⟩
theorem Ss.put {mid c : Nat} {s : Int} {H H1 : Heap} {A : Ab} {V : View} {a w : Int} (k : Ss mid s H A V H1) (hs : has A s) (hc : Inv c A) (hw : 0 ≤ a ∧ a < 4294967296) :
  ∃ H', putM' [busV mid s, .v (.int .u32 a), .v (.int .u32 w)] H1 = some (.v (.agg (trA (putV V a w).1 (putV V a w).2.1)), H') ∧ Ss mid s H A (putV V a w).2.2 H' := by
 obtain ⟨A1, h1, h2, h3, h4, h5⟩ := k
 obtain ⟨H', g1, A2, k1, k2, k3, k4, k5⟩ := cput_ev (w := w) h1 (eff_has h2 hs) (h5 c hc) hw
 rw [h3] at g1 k3
 exact ⟨H', g1, A2, k1, h2.trans k2, k3, h4.trans k4, fun c hc => k5 c (h5 c hc)⟩
end
section
attribute [local simp] rgA_list rgL_map rg_allV rgL_arr rg_one aInvoke mfL mfS res_ifc res_meth
def memV (V : View) (g : Rg) (i : Ins) : (Int × Int) × Rg × View :=
 if i.op = 15 then
  (if (fetchV V (IntKind.u32.wrap (g.at i.b.toNat + IntKind.u32.wrap i.c)) 1).2.1 = 0 then ((fetchV V (IntKind.u32.wrap (g.at i.b.toNat + IntKind.u32.wrap i.c)) 1).2, g.set i.a.toNat (fetchV V (IntKind.u32.wrap (g.at i.b.toNat + IntKind.u32.wrap i.c)) 1).1, V)
   else ((fetchV V (IntKind.u32.wrap (g.at i.b.toNat + IntKind.u32.wrap i.c)) 1).2, g, V))
 else if i.op = 16 then
  (if (ldV V (IntKind.u32.wrap (g.at i.b.toNat + IntKind.u32.wrap i.c)) 1).2 ≠ 0 then ((2, IntKind.u32.wrap (g.at i.b.toNat + IntKind.u32.wrap i.c)), g, V)
   else ((0, 0), g.set i.a.toNat (IntKind.u32.wrap (ldV V (IntKind.u32.wrap (g.at i.b.toNat + IntKind.u32.wrap i.c)) 1).1), V))
 else if i.op = 17 then
  (((putV V (IntKind.u32.wrap (g.at i.b.toNat + IntKind.u32.wrap i.c)) (g.at i.a.toNat)).1, (putV V (IntKind.u32.wrap (g.at i.b.toNat + IntKind.u32.wrap i.c)) (g.at i.a.toNat)).2.1), g, (putV V (IntKind.u32.wrap (g.at i.b.toNat + IntKind.u32.wrap i.c)) (g.at i.a.toNat)).2.2)
 else if i.op = 18 then
  (if (stV V (IntKind.u32.wrap (g.at i.b.toNat + IntKind.u32.wrap i.c)) (IntKind.u8.wrap (g.at i.a.toNat))).1 ≠ 0 then ((2, IntKind.u32.wrap (g.at i.b.toNat + IntKind.u32.wrap i.c)), g, (stV V (IntKind.u32.wrap (g.at i.b.toNat + IntKind.u32.wrap i.c)) (IntKind.u8.wrap (g.at i.a.toNat))).2)
   else ((0, 0), g, (stV V (IntKind.u32.wrap (g.at i.b.toNat + IntKind.u32.wrap i.c)) (IntKind.u8.wrap (g.at i.a.toNat))).2))
 else
  (if (fetchV V (IntKind.u32.wrap (g.at i.b.toNat + IntKind.u32.wrap i.c)) 1).2.1 = 0 then
   (if (putV V (IntKind.u32.wrap (g.at i.b.toNat + IntKind.u32.wrap i.c)) (g.at i.a.toNat)).1 = 0 then
    (((putV V (IntKind.u32.wrap (g.at i.b.toNat + IntKind.u32.wrap i.c)) (g.at i.a.toNat)).1, (putV V (IntKind.u32.wrap (g.at i.b.toNat + IntKind.u32.wrap i.c)) (g.at i.a.toNat)).2.1), g.set i.a.toNat (fetchV V (IntKind.u32.wrap (g.at i.b.toNat + IntKind.u32.wrap i.c)) 1).1, (putV V (IntKind.u32.wrap (g.at i.b.toNat + IntKind.u32.wrap i.c)) (g.at i.a.toNat)).2.2)
    else (((putV V (IntKind.u32.wrap (g.at i.b.toNat + IntKind.u32.wrap i.c)) (g.at i.a.toNat)).1, (putV V (IntKind.u32.wrap (g.at i.b.toNat + IntKind.u32.wrap i.c)) (g.at i.a.toNat)).2.1), g, (putV V (IntKind.u32.wrap (g.at i.b.toNat + IntKind.u32.wrap i.c)) (g.at i.a.toNat)).2.2))
   else ((fetchV V (IntKind.u32.wrap (g.at i.b.toNat + IntKind.u32.wrap i.c)) 1).2, g, V))
def SpM (args : Row) (H : Heap) (r : AVal) (H' : Heap) : Prop := ∀ id g i mid s A, args = [.ptr id 10 0 0, .v (.agg (insA i)), busV mid s] → H[id]? = some (some (10, [rgRow g])) → RG mid (H, A) →
 r = .v (.agg (trA (memV (vw A s) g i).1.1 (memV (vw A s) g i).1.2)) ∧ ∃ H1, H' = H1.set id (some (10, [rgRow (memV (vw A s) g i).2.1])) ∧ Ss mid s H A (memV (vw A s) g i).2.2 H1
noncomputable def memM := chM Try.prog Try.f35 SpM
theorem mem_inl : InlOk Try.prog 35 memM := chM_ok Try.func35 rfl
theorem spM_of {H : Heap} {id mid : Nat} {g : Rg} {i : Ins} {s : Int} {A : Ab} {r : AVal} {H' : Heap} (hH : H[id]? = some (some (10, [rgRow g]))) (h : RG mid (H, A))
  (hr : r = .v (.agg (trA (memV (vw A s) g i).1.1 (memV (vw A s) g i).1.2)) ∧ ∃ H1, H' = H1.set id (some (10, [rgRow (memV (vw A s) g i).2.1])) ∧ Ss mid s H A (memV (vw A s) g i).2.2 H1) : SpM [.ptr id 10 0 0, .v (.agg (insA i)), busV mid s] H r H' := by
 intro id' g' i' mid' s' A' h' hH' hA'
 simp only [List.cons.injEq, AVal.v.injEq, Value.agg.injEq, AVal.ptr.injEq, true_and, and_true] at h'
 obtain ⟨rfl, h2, h3⟩ := h'
 have h2 := insA_inj h2
 obtain ⟨rfl, rfl⟩ := busV_inj h3
 subst h2
 rw [hH] at hH'
 simp only [Option.some.injEq, Prod.mk.injEq, List.cons.injEq, and_true, true_and] at hH'
 have := rgRow_inj hH'
 subst this
 have := rg_uniq h hA'
 subst this
 exact hr
theorem fin_set {H1 K : Heap} {id n : Nat} {R T : Option (Nat × List Row)} (h : id ≠ n) (hl : id < H1.length) : (H1.set id R).set n T ++ K = (H1.set n T ++ K).set id R := by
 rw [List.set_append_left _ _ (by simpa using hl), List.set_comm _ _ h]
theorem fin_same {H1 K : Heap} {id n : Nat} {R T : Option (Nat × List Row)} (h : id ≠ n) (hR : H1[id]? = some R) : H1.set n T ++ K = (H1.set n T ++ K).set id R := by
 have hl := (List.getElem?_eq_some_iff.1 hR).1
 refine (set_same ?_).symm
 rw [List.getElem?_append_left (by simpa using hl), List.getElem?_set_ne (fun e => h e.symm), hR]
theorem fin_set0 {H1 : Heap} {id n : Nat} {R T : Option (Nat × List Row)} (h : id ≠ n) : (H1.set id R).set n T = (H1.set n T).set id R := List.set_comm _ _ h
theorem fin_same0 {H1 : Heap} {id n : Nat} {R T : Option (Nat × List Row)} (h : id ≠ n) (hR : H1[id]? = some R) : H1.set n T = (H1.set n T).set id R := by
 refine (set_same ?_).symm
 rw [List.getElem?_set_ne (fun e => h e.symm), hR]
theorem Ss.keep2 {mid i : Nat} {s : Int} {H H1 : Heap} {A : Ab} {V : View} {q : Nat × List Row} (k : Ss mid s H A V H1) (h : H[i]? = some (some q)) (hq : q.1 ≠ 0 ∧ q.1 ≠ 1 ∧ q.1 ≠ 5 ∧ q.1 ≠ 19) : H1[i]? = some (some q) ∧ i < H1.length ∧ ∀ hi : i < H1.length, H1[i] = some q :=
 have h1 := k.keep h hq
 ⟨h1, (List.getElem?_eq_some_iff.1 h1).1, fun _ => (List.getElem?_eq_some_iff.1 h1).2⟩
theorem mem_ev {H : Heap} {id mid c : Nat} {g : Rg} {i : Ins} {s : Int} {A : Ab} (hg : g.ok) (hi : fitI i) (hH : H[id]? = some (some (10, [rgRow g]))) (h : RG mid (H, A)) (hs : has A s) (hc : Inv c A) :
  ∃ H1, memM [.ptr id 10 0 0, .v (.agg (insA i)), busV mid s] H = some (.v (.agg (trA (memV (vw A s) g i).1.1 (memV (vw A s) g i).1.2)), H1.set id (some (10, [rgRow (memV (vw A s) g i).2.1]))) ∧ Ss mid s H A (memV (vw A s) g i).2.2 H1 := by
 suffices hx : ∃ r H', memM [.ptr id 10 0 0, .v (.agg (insA i)), busV mid s] H = some (r, H') ∧ SpM [.ptr id 10 0 0, .v (.agg (insA i)), busV mid s] H r H' by
  obtain ⟨r, H', h1, h2⟩ := hx
  obtain ⟨rfl, H1, rfl, h3⟩ := h2 id g i mid s A rfl hH h
  exact ⟨H1, h1, h3⟩
 have hl : id < H.length := (List.getElem?_eq_some_iff.1 hH).1
 have h8 := hg.len
 have e1 := rg_len h8
 have e2 := @rg_take g h8
 obtain ⟨op, a, b, c'⟩ := i
 obtain ⟨k1, k2, k3, k4, k5, k6⟩ := hi
 simp only at k1 k2 k3 k4 k5 k6
 obtain ⟨a, rfl⟩ := Int.eq_ofNat_of_zero_le k1
 obtain ⟨b, rfl⟩ := Int.eq_ofNat_of_zero_le k3
 have ka : a < 8 := by omega
 have kb : b < 8 := by omega
 have kaI : (a : Int) < 8 := by omega
 have kbI : (b : Int) < 8 := by omega
 have ka9 : a ≤ 9 := by omega
 have kb9 : b ≤ 9 := by omega
 have ga := rg_get h8 ka
 have gb := rg_get h8 kb
 have ea := fun x => rw_r h8 ka x
 have la := fun x => rg_len (g := g.set a x) (by simp [Rg.set, h8])
 obtain ⟨at_, hat⟩ : ∃ x, IntKind.u32.wrap (g.at b + IntKind.u32.wrap c') = x := ⟨_, rfl⟩
 have hato : 0 ≤ at_ ∧ at_ < 4294967296 := by rw [← hat]; exact u32_ok _
 obtain ⟨I, hI⟩ : ∃ x, insA ⟨op, a, b, c'⟩ = x := ⟨_, rfl⟩
 have r0 : RG mid (H ++ [some (4, [[.v (.int .i64 op), .v (.int .i64 a), .v (.int .i64 b), .v (.int .i64 c')]]), some (2, [[.v (.int .i64 0), .v (.int .u32 0)]])], A) := rg_app h
 have k0 : Ss mid s H A (vw A s) (H ++ [some (4, [[.v (.int .i64 op), .v (.int .i64 a), .v (.int .i64 b), .v (.int .i64 c')]]), some (2, [[.v (.int .i64 0), .v (.int .u32 0)]])]) := (Ss.refl h).app _
 obtain ⟨H0, hH0⟩ : ∃ x, H ++ [some (4, [[AVal.v (.int .i64 op), AVal.v (.int .i64 a), AVal.v (.int .i64 b), AVal.v (.int .i64 c')]]), some (2, [[AVal.v (.int .i64 0), AVal.v (.int .u32 0)]])] = x := ⟨_, rfl⟩
 have d0 : H0[id]? = some (some (10, [rgRow g])) := by rw [← hH0, List.getElem?_append_left hl]; exact hH
 have d1 : H0[H.length]? = some (some (4, [[.v (.int .i64 op), .v (.int .i64 a), .v (.int .i64 b), .v (.int .i64 c')]])) := by rw [← hH0]; simp
 have d2 : H0[H.length + 1]? = some (some (2, [[.v (.int .i64 0), .v (.int .u32 0)]])) := by rw [← hH0, List.getElem?_append_right (by omega)]; simp
 rw [hH0] at k0 r0
 have hln : H0.length = H.length + 2 := by rw [← hH0]; simp
 obtain ⟨hle1, hle2, hle3⟩ : id ≠ H.length ∧ id ≠ H.length + 1 ∧ H.length ≠ H.length + 1 := by omega
 have vd0 := (List.getElem?_eq_some_iff.1 d0).2
 have vd1 := (List.getElem?_eq_some_iff.1 d1).2
 have vd2 := (List.getElem?_eq_some_iff.1 d2).2
 by_cases h15 : op = 15
 ·subst h15
  obtain ⟨H1, l1, j1⟩ := (Ss.refl r0).fetch (want := 1) (a := at_) hs hato (by decide)
  obtain ⟨a0, n0, va0⟩ := j1.keep2 d0 (by simp)
  obtain ⟨a1, n1, va1⟩ := j1.keep2 d1 (by simp)
  obtain ⟨a2, n2, va2⟩ := j1.keep2 d2 (by simp)
  rw [← hH0] at j1
  replace j1 := j1.of_app
  obtain ⟨⟨fw, fk, fa⟩, hf⟩ : ∃ x, fetchV (vw A s) at_ 1 = x := ⟨_, rfl⟩
  rw [hf] at l1
  unfold busV at l1
  by_cases q : fk = 0
  ·subst q
   refine chM_ev rfl ?_
   apply Exists.intro
   apply Exists.intro
   apply And.intro
   refine' bodyE_of ((((noOrc_ok.withI fet_inl).withI cput_inl).withI busL_inl).withI busS_inl) fxMix (by kernel_rfl) (by simp [Try.ntmps35]) ?_
   rotate_left 2
   intro C cP cI cN cD cF cA cR cL
   have cn0 := orcI fet_inl (C := C) (by rw [cN]; rfl)
   have cn1 := orcI cput_inl (C := C) (by rw [cN]; rfl)
   have cn2 := orcI busL_inl (C := C) (by rw [cN]; rfl)
   have cn3 := orcI busS_inl (C := C) (by rw [cN]; rfl)
   replace cI := fun g => congrFun cI g
   simp only [Orc.withP, Orc.withI, Orc.withF, Orc.withD, Orc.withA, Orc.withR, Orc.withC, noOrc] at cI
   replace cR : C.rd = fun _ => none := cR
   replace cD : C.dyn = fun _ => [] := cD
   clear cP cN cF cA
   unfold insA busV
   simp [Try.ntmps35, Try.results35, cSl, cn0, cn1, cn2, cn3, cI, cD, cR, ka, kb, kaI, kbI, ka9, kb9, e1, e2, ga, gb, ea, la, hat, hH0, d0, d1, d2, vd0, vd1, vd2, hl, hln, a0, a1, a2, va0, va1, va2, n0, n1, n2, hle1, hle2, hle3, List.getElem?_append, List.set_append, trA, l1]
   exact Ent.refl _ _
   refine spM_of hH h ?_
   have hm : memV (vw A s) g ⟨15, a, b, c'⟩ = ((0, fa), g.set a fw, vw A s) := by simp [memV, hat, hf]
   rw [hm]
   exact ⟨rfl, _, fin_set hle2 n0, (j1.set a2 (by simp) (by simp)).app _⟩
  ·refine chM_ev rfl ?_
   apply Exists.intro
   apply Exists.intro
   apply And.intro
   refine' bodyE_of ((((noOrc_ok.withI fet_inl).withI cput_inl).withI busL_inl).withI busS_inl) fxMix (by kernel_rfl) (by simp [Try.ntmps35]) ?_
   rotate_left 2
   intro C cP cI cN cD cF cA cR cL
   have cn0 := orcI fet_inl (C := C) (by rw [cN]; rfl)
   have cn1 := orcI cput_inl (C := C) (by rw [cN]; rfl)
   have cn2 := orcI busL_inl (C := C) (by rw [cN]; rfl)
   have cn3 := orcI busS_inl (C := C) (by rw [cN]; rfl)
   replace cI := fun g => congrFun cI g
   simp only [Orc.withP, Orc.withI, Orc.withF, Orc.withD, Orc.withA, Orc.withR, Orc.withC, noOrc] at cI
   replace cR : C.rd = fun _ => none := cR
   replace cD : C.dyn = fun _ => [] := cD
   clear cP cN cF cA
   unfold insA busV
   simp [Try.ntmps35, Try.results35, cSl, cn0, cn1, cn2, cn3, cI, cD, cR, ka, kb, kaI, kbI, ka9, kb9, e1, e2, ga, gb, ea, la, hat, hH0, d0, d1, d2, vd0, vd1, vd2, hl, hln, a0, a1, a2, va0, va1, va2, n0, n1, n2, hle1, hle2, hle3, List.getElem?_append, List.set_append, trA, l1, q]
   exact Ent.refl _ _
   refine spM_of hH h ?_
   have hm : memV (vw A s) g ⟨15, a, b, c'⟩ = ((fk, fa), g, vw A s) := by simp [memV, hat, hf, q]
   rw [hm]
   exact ⟨rfl, _, fin_same hle2 a0, (j1.set a2 (by simp) (by simp)).app _⟩
 by_cases h16 : op = 16
 ·subst h16
  obtain ⟨H1, l1, j1⟩ := (Ss.refl r0).load (want := 1) (addr := at_) hs hato (by decide)
  obtain ⟨a0, n0, va0⟩ := j1.keep2 d0 (by simp)
  obtain ⟨a1, n1, va1⟩ := j1.keep2 d1 (by simp)
  obtain ⟨a2, n2, va2⟩ := j1.keep2 d2 (by simp)
  rw [← hH0] at j1
  replace j1 := j1.of_app
  obtain ⟨⟨lx, le⟩, hf⟩ : ∃ x, ldV (vw A s) at_ 1 = x := ⟨_, rfl⟩
  rw [hf] at l1
  by_cases q : le = 0
  ·subst q
   refine chM_ev rfl ?_
   apply Exists.intro
   apply Exists.intro
   apply And.intro
   refine' bodyE_of ((((noOrc_ok.withI fet_inl).withI cput_inl).withI busL_inl).withI busS_inl) fxMix (by kernel_rfl) (by simp [Try.ntmps35]) ?_
   rotate_left 2
   intro C cP cI cN cD cF cA cR cL
   have cn0 := orcI fet_inl (C := C) (by rw [cN]; rfl)
   have cn1 := orcI cput_inl (C := C) (by rw [cN]; rfl)
   have cn2 := orcI busL_inl (C := C) (by rw [cN]; rfl)
   have cn3 := orcI busS_inl (C := C) (by rw [cN]; rfl)
   replace cI := fun g => congrFun cI g
   simp only [Orc.withP, Orc.withI, Orc.withF, Orc.withD, Orc.withA, Orc.withR, Orc.withC, noOrc] at cI
   replace cR : C.rd = fun _ => none := cR
   replace cD : C.dyn = fun _ => [] := cD
   clear cP cN cF cA
   unfold insA busV
   simp [Try.ntmps35, Try.results35, cSl, cn0, cn1, cn2, cn3, cI, cD, cR, ka, kb, kaI, kbI, ka9, kb9, e1, e2, ga, gb, ea, la, hat, hH0, d0, d1, d2, vd0, vd1, vd2, hl, hln, a0, a1, a2, va0, va1, va2, n0, n1, n2, hle1, hle2, hle3, List.getElem?_append, List.set_append, trA, l1]
   exact Ent.refl _ _
   refine spM_of hH h ?_
   have hm : memV (vw A s) g ⟨16, a, b, c'⟩ = ((0, 0), g.set a (IntKind.u32.wrap lx), vw A s) := by simp [memV, hat, hf]
   rw [hm]
   exact ⟨rfl, _, fin_set0 hle2, j1.set a2 (by simp) (by simp)⟩
  ·refine chM_ev rfl ?_
   apply Exists.intro
   apply Exists.intro
   apply And.intro
   refine' bodyE_of ((((noOrc_ok.withI fet_inl).withI cput_inl).withI busL_inl).withI busS_inl) fxMix (by kernel_rfl) (by simp [Try.ntmps35]) ?_
   rotate_left 2
   intro C cP cI cN cD cF cA cR cL
   have cn0 := orcI fet_inl (C := C) (by rw [cN]; rfl)
   have cn1 := orcI cput_inl (C := C) (by rw [cN]; rfl)
   have cn2 := orcI busL_inl (C := C) (by rw [cN]; rfl)
   have cn3 := orcI busS_inl (C := C) (by rw [cN]; rfl)
   replace cI := fun g => congrFun cI g
   simp only [Orc.withP, Orc.withI, Orc.withF, Orc.withD, Orc.withA, Orc.withR, Orc.withC, noOrc] at cI
   replace cR : C.rd = fun _ => none := cR
   replace cD : C.dyn = fun _ => [] := cD
   clear cP cN cF cA
   unfold insA busV
   simp [Try.ntmps35, Try.results35, cSl, cn0, cn1, cn2, cn3, cI, cD, cR, ka, kb, kaI, kbI, ka9, kb9, e1, e2, ga, gb, ea, la, hat, hH0, d0, d1, d2, vd0, vd1, vd2, hl, hln, a0, a1, a2, va0, va1, va2, n0, n1, n2, hle1, hle2, hle3, List.getElem?_append, List.set_append, trA, l1, q]
   exact Ent.refl _ _
   refine spM_of hH h ?_
   have hm : memV (vw A s) g ⟨16, a, b, c'⟩ = ((2, at_), g, vw A s) := by simp [memV, hat, hf, q]
   rw [hm]
   exact ⟨rfl, _, fin_same0 hle2 a0, j1.set a2 (by simp) (by simp)⟩
 by_cases h17 : op = 17
 ·subst h17
  obtain ⟨H1, l1, j1⟩ := (Ss.refl r0).put (w := g.at a) (a := at_) hs hc hato
  obtain ⟨a0, n0, va0⟩ := j1.keep2 d0 (by simp)
  obtain ⟨a1, n1, va1⟩ := j1.keep2 d1 (by simp)
  obtain ⟨a2, n2, va2⟩ := j1.keep2 d2 (by simp)
  rw [← hH0] at j1
  replace j1 := j1.of_app
  obtain ⟨⟨pk, pa, pv⟩, hf⟩ : ∃ x, putV (vw A s) at_ (g.at a) = x := ⟨_, rfl⟩
  rw [hf] at l1 j1
  unfold busV at l1
  refine chM_ev rfl ?_
  apply Exists.intro
  apply Exists.intro
  apply And.intro
  refine' bodyE_of ((((noOrc_ok.withI fet_inl).withI cput_inl).withI busL_inl).withI busS_inl) fxMix (by kernel_rfl) (by simp [Try.ntmps35]) ?_
  rotate_left 2
  intro C cP cI cN cD cF cA cR cL
  have cn0 := orcI fet_inl (C := C) (by rw [cN]; rfl)
  have cn1 := orcI cput_inl (C := C) (by rw [cN]; rfl)
  have cn2 := orcI busL_inl (C := C) (by rw [cN]; rfl)
  have cn3 := orcI busS_inl (C := C) (by rw [cN]; rfl)
  replace cI := fun g => congrFun cI g
  simp only [Orc.withP, Orc.withI, Orc.withF, Orc.withD, Orc.withA, Orc.withR, Orc.withC, noOrc] at cI
  replace cR : C.rd = fun _ => none := cR
  replace cD : C.dyn = fun _ => [] := cD
  clear cP cN cF cA
  unfold insA busV
  simp [Try.ntmps35, Try.results35, cSl, cn0, cn1, cn2, cn3, cI, cD, cR, ka, kb, kaI, kbI, ka9, kb9, e1, e2, ga, gb, ea, la, hat, hH0, d0, d1, d2, vd0, vd1, vd2, hl, hln, a0, a1, a2, va0, va1, va2, n0, n1, n2, hle1, hle2, hle3, List.getElem?_append, List.set_append, trA, l1]
  exact Ent.refl _ _
  refine spM_of hH h ?_
  have hm : memV (vw A s) g ⟨17, a, b, c'⟩ = ((pk, pa), g, pv) := by simp [memV, hat, hf]
  rw [hm]
  exact ⟨rfl, _, fin_same0 hle2 a0, j1.set a2 (by simp) (by simp)⟩
 by_cases h18 : op = 18
 ·subst h18
  obtain ⟨H1, l1, j1⟩ := (Ss.refl r0).store (b := IntKind.u8.wrap (g.at a)) (addr := at_) hs hc hato
  obtain ⟨a0, n0, va0⟩ := j1.keep2 d0 (by simp)
  obtain ⟨a1, n1, va1⟩ := j1.keep2 d1 (by simp)
  obtain ⟨a2, n2, va2⟩ := j1.keep2 d2 (by simp)
  rw [← hH0] at j1
  replace j1 := j1.of_app
  obtain ⟨⟨se, sv⟩, hf⟩ : ∃ x, stV (vw A s) at_ (IntKind.u8.wrap (g.at a)) = x := ⟨_, rfl⟩
  rw [hf] at l1 j1
  by_cases q : se = 0
  ·subst q
   refine chM_ev rfl ?_
   apply Exists.intro
   apply Exists.intro
   apply And.intro
   refine' bodyE_of ((((noOrc_ok.withI fet_inl).withI cput_inl).withI busL_inl).withI busS_inl) fxMix (by kernel_rfl) (by simp [Try.ntmps35]) ?_
   rotate_left 2
   intro C cP cI cN cD cF cA cR cL
   have cn0 := orcI fet_inl (C := C) (by rw [cN]; rfl)
   have cn1 := orcI cput_inl (C := C) (by rw [cN]; rfl)
   have cn2 := orcI busL_inl (C := C) (by rw [cN]; rfl)
   have cn3 := orcI busS_inl (C := C) (by rw [cN]; rfl)
   replace cI := fun g => congrFun cI g
   simp only [Orc.withP, Orc.withI, Orc.withF, Orc.withD, Orc.withA, Orc.withR, Orc.withC, noOrc] at cI
   replace cR : C.rd = fun _ => none := cR
   replace cD : C.dyn = fun _ => [] := cD
   clear cP cN cF cA
   unfold insA busV
   simp [Try.ntmps35, Try.results35, cSl, cn0, cn1, cn2, cn3, cI, cD, cR, ka, kb, kaI, kbI, ka9, kb9, e1, e2, ga, gb, ea, la, hat, hH0, d0, d1, d2, vd0, vd1, vd2, hl, hln, a0, a1, a2, va0, va1, va2, n0, n1, n2, hle1, hle2, hle3, List.getElem?_append, List.set_append, trA, l1]
   exact Ent.refl _ _
   refine spM_of hH h ?_
   have hm : memV (vw A s) g ⟨18, a, b, c'⟩ = ((0, 0), g, sv) := by simp [memV, hat, hf]
   rw [hm]
   exact ⟨rfl, _, fin_same0 hle2 a0, j1.set a2 (by simp) (by simp)⟩
  ·refine chM_ev rfl ?_
   apply Exists.intro
   apply Exists.intro
   apply And.intro
   refine' bodyE_of ((((noOrc_ok.withI fet_inl).withI cput_inl).withI busL_inl).withI busS_inl) fxMix (by kernel_rfl) (by simp [Try.ntmps35]) ?_
   rotate_left 2
   intro C cP cI cN cD cF cA cR cL
   have cn0 := orcI fet_inl (C := C) (by rw [cN]; rfl)
   have cn1 := orcI cput_inl (C := C) (by rw [cN]; rfl)
   have cn2 := orcI busL_inl (C := C) (by rw [cN]; rfl)
   have cn3 := orcI busS_inl (C := C) (by rw [cN]; rfl)
   replace cI := fun g => congrFun cI g
   simp only [Orc.withP, Orc.withI, Orc.withF, Orc.withD, Orc.withA, Orc.withR, Orc.withC, noOrc] at cI
   replace cR : C.rd = fun _ => none := cR
   replace cD : C.dyn = fun _ => [] := cD
   clear cP cN cF cA
   unfold insA busV
   simp [Try.ntmps35, Try.results35, cSl, cn0, cn1, cn2, cn3, cI, cD, cR, ka, kb, kaI, kbI, ka9, kb9, e1, e2, ga, gb, ea, la, hat, hH0, d0, d1, d2, vd0, vd1, vd2, hl, hln, a0, a1, a2, va0, va1, va2, n0, n1, n2, hle1, hle2, hle3, List.getElem?_append, List.set_append, trA, l1, q]
   exact Ent.refl _ _
   refine spM_of hH h ?_
   have hm : memV (vw A s) g ⟨18, a, b, c'⟩ = ((2, at_), g, sv) := by simp [memV, hat, hf, q]
   rw [hm]
   exact ⟨rfl, _, fin_same0 hle2 a0, j1.set a2 (by simp) (by simp)⟩
 obtain ⟨H1, l1, j1⟩ := (Ss.refl r0).fetch (want := 1) (a := at_) hs hato (by decide)
 obtain ⟨a0, n0, va0⟩ := j1.keep2 d0 (by simp)
 obtain ⟨a1, n1, va1⟩ := j1.keep2 d1 (by simp)
 obtain ⟨a2, n2, va2⟩ := j1.keep2 d2 (by simp)
 rw [← hH0] at j1
 replace j1 := j1.of_app
 obtain ⟨⟨fw, fk, fa⟩, hf⟩ : ∃ x, fetchV (vw A s) at_ 1 = x := ⟨_, rfl⟩
 rw [hf] at l1
 unfold busV at l1
 by_cases q : fk = 0
 case neg =>
  refine chM_ev rfl ?_
  apply Exists.intro
  apply Exists.intro
  apply And.intro
  refine' bodyE_of ((((noOrc_ok.withI fet_inl).withI cput_inl).withI busL_inl).withI busS_inl) fxMix (by kernel_rfl) (by simp [Try.ntmps35]) ?_
  rotate_left 2
  intro C cP cI cN cD cF cA cR cL
  have cn0 := orcI fet_inl (C := C) (by rw [cN]; rfl)
  have cn1 := orcI cput_inl (C := C) (by rw [cN]; rfl)
  have cn2 := orcI busL_inl (C := C) (by rw [cN]; rfl)
  have cn3 := orcI busS_inl (C := C) (by rw [cN]; rfl)
  replace cI := fun g => congrFun cI g
  simp only [Orc.withP, Orc.withI, Orc.withF, Orc.withD, Orc.withA, Orc.withR, Orc.withC, noOrc] at cI
  replace cR : C.rd = fun _ => none := cR
  replace cD : C.dyn = fun _ => [] := cD
  clear cP cN cF cA
  unfold insA busV
  simp [Try.ntmps35, Try.results35, cSl, cn0, cn1, cn2, cn3, cI, cD, cR, ka, kb, kaI, kbI, ka9, kb9, e1, e2, ga, gb, ea, la, hat, hH0, d0, d1, d2, vd0, vd1, vd2, hl, hln, a0, a1, a2, va0, va1, va2, n0, n1, n2, hle1, hle2, hle3, List.getElem?_append, List.set_append, trA, l1, q, h15, h16, h17, h18]
  exact Ent.refl _ _
  refine spM_of hH h ?_
  have hm : memV (vw A s) g ⟨op, a, b, c'⟩ = ((fk, fa), g, vw A s) := by simp [memV, hat, hf, q, h15, h16, h17, h18]
  rw [hm]
  exact ⟨rfl, _, fin_same hle2 a0, (j1.set a2 (by simp) (by simp)).app _⟩
 subst q
 obtain ⟨H1', hH1'⟩ : ∃ x, H1 ++ [some (2, [[AVal.v (.int .i64 0), AVal.v (.int .u32 fa)]])] = x := ⟨_, rfl⟩
 obtain ⟨A1, r1, f2, f3, f4, f5⟩ := j1
 have r1' : RG mid (H1', A1) := by rw [← hH1']; exact rg_app r1
 have b0 : H1'[id]? = some (some (10, [rgRow g])) := by rw [← hH1', List.getElem?_append_left n0]; exact a0
 have b1 : H1'[H.length]? = some (some (4, [[.v (.int .i64 op), .v (.int .i64 a), .v (.int .i64 b), .v (.int .i64 c')]])) := by rw [← hH1', List.getElem?_append_left n1]; exact a1
 have b2 : H1'[H.length + 1]? = some (some (2, [[.v (.int .i64 0), .v (.int .u32 0)]])) := by rw [← hH1', List.getElem?_append_left n2]; exact a2
 have b3 : H1'[H1.length]? = some (some (2, [[.v (.int .i64 0), .v (.int .u32 fa)]])) := by rw [← hH1']; simp
 have vb0 := (List.getElem?_eq_some_iff.1 b0).2
 have vb1 := (List.getElem?_eq_some_iff.1 b1).2
 have vb2 := (List.getElem?_eq_some_iff.1 b2).2
 have vb3 := (List.getElem?_eq_some_iff.1 b3).2
 have hln1 : H1'.length = H1.length + 1 := by rw [← hH1']; simp
 obtain ⟨H2, l2, j2⟩ := (Ss.refl r1').put (w := g.at a) (a := at_) (eff_has f2 hs) (f5 c hc) hato
 rw [f3] at l2 j2
 obtain ⟨c0, p0, w0⟩ := j2.keep2 b0 (by simp)
 obtain ⟨c1, p1, w1⟩ := j2.keep2 b1 (by simp)
 obtain ⟨c2, p2, w2⟩ := j2.keep2 b2 (by simp)
 obtain ⟨c3, p3, w3⟩ := j2.keep2 b3 (by simp)
 obtain ⟨⟨pk, pa, pv⟩, hp⟩ : ∃ x, putV (vw A s) at_ (g.at a) = x := ⟨_, rfl⟩
 rw [hp] at l2 j2
 unfold busV at l2
 have hne3 : id ≠ H1.length := by omega
 have hne4 : H.length + 1 ≠ H1.length := by omega
 have hne5 : H.length ≠ H1.length := by omega
 have hnf3 : H1.length ≠ id := by omega
 have hnf4 : H1.length ≠ H.length + 1 := by omega
 have hnf5 : H1.length ≠ H.length := by omega
 rw [← hH1'] at j2
 have j3 : Ss mid s H A pv H2 := by
  obtain ⟨A2, g1, g2, g3, g4, g5⟩ := j2.of_app
  exact ⟨A2, g1, f2.trans g2, g3, f4.trans g4, fun c hc => g5 c (f5 c hc)⟩
 have hN1 : H[H1.length]? = none := List.getElem?_eq_none (by omega)
 have hN2 : H[H.length + 1]? = none := by simp
 by_cases q2 : pk = 0
 ·subst q2
  refine chM_ev rfl ?_
  apply Exists.intro
  apply Exists.intro
  apply And.intro
  refine' bodyE_of ((((noOrc_ok.withI fet_inl).withI cput_inl).withI busL_inl).withI busS_inl) fxMix (by kernel_rfl) (by simp [Try.ntmps35]) ?_
  rotate_left 2
  intro C cP cI cN cD cF cA cR cL
  have cn0 := orcI fet_inl (C := C) (by rw [cN]; rfl)
  have cn1 := orcI cput_inl (C := C) (by rw [cN]; rfl)
  have cn2 := orcI busL_inl (C := C) (by rw [cN]; rfl)
  have cn3 := orcI busS_inl (C := C) (by rw [cN]; rfl)
  replace cI := fun g => congrFun cI g
  simp only [Orc.withP, Orc.withI, Orc.withF, Orc.withD, Orc.withA, Orc.withR, Orc.withC, noOrc] at cI
  replace cR : C.rd = fun _ => none := cR
  replace cD : C.dyn = fun _ => [] := cD
  clear cP cN cF cA
  unfold insA busV
  simp [Try.ntmps35, Try.results35, cSl, cn0, cn1, cn2, cn3, cI, cD, cR, ka, kb, kaI, kbI, ka9, kb9, e1, e2, ga, gb, ea, la, hat, hH0, d0, d1, d2, vd0, vd1, vd2, hl, hln, a0, a1, a2, va0, va1, va2, n0, n1, n2, hle1, hle2, hle3, List.getElem?_append, List.set_append, trA, hH1', b0, b1, b2, b3, vb0, vb1, vb2, vb3, hln1, l1, l2, c0, p0, w0, c1, p1, w1, c2, p2, w2, c3, p3, w3, hne3, hne4, hne5, hnf3, hnf4, hnf5, List.getElem_set, List.getElem?_set, h15, h16, h17, h18]
  exact Ent.refl _ _
  refine spM_of hH h ?_
  have hm : memV (vw A s) g ⟨op, a, b, c'⟩ = ((0, pa), g.set a fw, pv) := by simp [memV, hat, hf, hp, h15, h16, h17, h18]
  rw [hm]
  exact ⟨rfl, _, fin_set0 hle2, (j3.set c3 (by simp) hN1).set (by rw [List.getElem?_set_ne hnf4]; exact c2) (by simp) hN2⟩
 ·refine chM_ev rfl ?_
  apply Exists.intro
  apply Exists.intro
  apply And.intro
  refine' bodyE_of ((((noOrc_ok.withI fet_inl).withI cput_inl).withI busL_inl).withI busS_inl) fxMix (by kernel_rfl) (by simp [Try.ntmps35]) ?_
  rotate_left 2
  intro C cP cI cN cD cF cA cR cL
  have cn0 := orcI fet_inl (C := C) (by rw [cN]; rfl)
  have cn1 := orcI cput_inl (C := C) (by rw [cN]; rfl)
  have cn2 := orcI busL_inl (C := C) (by rw [cN]; rfl)
  have cn3 := orcI busS_inl (C := C) (by rw [cN]; rfl)
  replace cI := fun g => congrFun cI g
  simp only [Orc.withP, Orc.withI, Orc.withF, Orc.withD, Orc.withA, Orc.withR, Orc.withC, noOrc] at cI
  replace cR : C.rd = fun _ => none := cR
  replace cD : C.dyn = fun _ => [] := cD
  clear cP cN cF cA
  unfold insA busV
  simp [Try.ntmps35, Try.results35, cSl, cn0, cn1, cn2, cn3, cI, cD, cR, ka, kb, kaI, kbI, ka9, kb9, e1, e2, ga, gb, ea, la, hat, hH0, d0, d1, d2, vd0, vd1, vd2, hl, hln, a0, a1, a2, va0, va1, va2, n0, n1, n2, hle1, hle2, hle3, List.getElem?_append, List.set_append, trA, hH1', b0, b1, b2, b3, vb0, vb1, vb2, vb3, hln1, l1, l2, c0, p0, w0, c1, p1, w1, c2, p2, w2, c3, p3, w3, hne3, hne4, hne5, hnf3, hnf4, hnf5, List.getElem_set, List.getElem?_set, h15, h16, h17, h18, q2]
  exact Ent.refl _ _
  refine spM_of hH h ?_
  have hm : memV (vw A s) g ⟨op, a, b, c'⟩ = ((pk, pa), g, pv) := by simp [memV, hat, hf, hp, q2, h15, h16, h17, h18]
  rw [hm]
  exact ⟨rfl, _, fin_same0 hle2 (by rw [List.getElem?_set_ne hnf3]; exact c0), (j3.set c3 (by simp) hN1).set (by rw [List.getElem?_set_ne hnf4]; exact c2) (by simp) hN2⟩
end
end
end Go.Proofs.Ytibpipgabcpaoaa
