/- Package space: Write, Store. Package space: Reclaim. Package space: Make, New. Package space: what a walk through a space's entries leaves. Package space: Fork. Package space: Drop. -/
import Derived.Test.YtibpipgabcpaoaaSmC
namespace Go.Proofs.Ytibpipgabcpaoaa
open Go.AI
set_option linter.unusedSimpArgs false
set_option linter.unusedVariables false
section
set_option maxHeartbeats 2000000
set_option maxRecDepth 100000
set_option linter.unusedSimpArgs false
set_option linter.unusedVariables false
attribute [local simp] wpA wpX RunA RunD runF foot footP footB idsA bare apart runL step1 gsel_f gsel_t gsel_s res_same res_and1 res_and2 res_and3 res_and4 res_and5 res_and6 res_false res_true res_v res_ptr res_fptr res_osl res_xsl soft aAppendZ aCap ovlI ovlJ res_fsl res_esl res_agg res_tup res_fn res_junk res_anyb aPick hk imp_left iteV dstOk guardOk astep astepE AI.ev AI.look AI.put envOf aBox cellsOf allOne allOneA oneA Value.oneCell' Value.cells newObj' aFieldAddr aLoad obj readAt thenA blockA condA retA resA tupA view hot hotC hotR depthV cAgg cInt cBool mkAgg allV aAlloc aBuild fillA writeAt aStore isAggA aField idx aIndexAddr aIndex bnd aSlice aExtract aLen aBuiltin aCall isStatic eqAgg eqTy eqC ev_add ev_sub ev_mul ev_quo ev_rem ev_and ev_or ev_xor ev_andNot ev_shl ev_shr ev_eql ev_neq ev_lss ev_leq ev_gtr ev_geq ev_agg w64 wu32 wu8 ev_not ev_neg Cod.plain RCod.plain argM finM cold coldC coldR goInt intDec boolDec aggDec Weaker heapW lowA lowC Again slDec undef aBuildSlice setRows aAppend rowsOf aMakeSlice aClear aCopyX aCopy softer_self softer_nil valsOf ev_min2 ev_max2 hotR_set hotR_append take_map_set irow_cold irow_mapM irow_mapMc irow_view irow_viewc irow_hotR irow_ren irow_renc irow_low WeakT heapT thOf ren renC AgainT NextF NextT fnDec cFn rNil selfLt natLt0 natLt1 getLastMap frame0 frame1 own0 own1 argG finG tau tauI tauO tauC bareA bareC bareH irow_tau irow_tauc irow_bare irow_flat irow_bareR ownA_nil ownT_nil ownA_c ownT_c ownA_s ownT_s takeMapLen footC plainA noId noIdC cloneF frame0F frame1F insertF replaceI replaceF cellDec rCell fpDec cFp rTwo deleteF allV_oA oneA_oA res_oA RunR RunE runFT footAt hotR_cat tmodN aEqH aSliceA fxSz3 fxBy3 fxAg3 fxZe3 fxSl3 fxSz4 fxAg4 fxSz5 fxBy5 fxAg5 fxZe5 fxSl22 fxAr22 fxSl23 fxAr23 fxAg24 fxSz31 fxAg31 fxZe31 fxSl31 fxAr31 fxSz34 fxAg34 fxAr35 fxSz37 fxAg37 fxZe37 fxFi37x0 fxFi37x1 fxFi37x2 fxPl37 fxSz38 fxAg38 fxZe38 fxAr38 fxSz47 fxAg47 fxZe47 fxFi47x0 fxPl47 fxZe51 fxFi51x0 fxFi51x1 fxPl51 fxAg55 fxSz56 fxAg56 fxSl56 fxAr56 fxZe58 fxFi58x0 fxFi58x1 fxFi58x2 fxFi58x3 fxFi58x4 fxPl58 fxSz62 fxAg62 fxZe62 fxFi62x0 fxFi62x1 fxFi62x2 fxFi62x3 fxPl62 fxZe65 fxSl67 fxAr67 fxSz72 fxAg72 fxZe72 fxSl72 fxAr72 fxPl72 fxSz74 fxZe74 fxFi74x0 fxFi74x1 fxFi74x2 fxFi74x3 fxPl74 fxSz75 fxBy75 fxAg75 fxZe75 fxSz79 fxAg79 fxZe79 fxFi79x0 fxFi79x1 fxPl79 fxEq47 fxCv3x5 fxCv3x34 fxCv3x70 fxCv3x100 fxCv5x34 fxCv34x3 fxCv34x5 fxCv34x112 fxCv70x3 fxCv100x34 fxCv112x3 fxLn31 fxLn56 fxFm4 fxFm5 fxFi5 fxFm6 fxFm7 fxFm8 fxFm9 fxFi9 fxFm10 fxFm11 fxFm12 fxFm13 fxFm14 fxFm15 fxFm16 fxFm17 fxFi17 fxFm18 fxFm19 fxFi19 fxFm20 fxFm21 fxFm22 fxFm23 fxFm24 fxFi24 fxFm25 fxFi25 fxFm26 fxFm27 fxFm28 fxFi28 fxFm29 fxFm30 fxFm31 fxFm32 fxFm33 fxFi33 fxFm34 fxFi34 fxFm35 fxFm36 fxFm37 fxFm38 fxFm39 fxFi39 fxFm40 fxFi40 fxFm41 fxFi41 fxFm42 fxFm45 fxFi45 fxFm46 fxFi46 fxFm47 fxFm48 fxFm49 fxFi49 fxFm50 fxFm51 fxFm52 fxFi52 fxFm64 fxFi64 fxFm87 fxFm88 fxFm89
section
attribute [local simp] pgRow_len pg16 pg17 pg18 pg16' pg17' pg18' ww16 ww17 ww18 keyI_ok aLookup aMapUpdate aDelete lkRes bin_mn spV enV Try.underlying65 Try.underlying55
theorem bytesAt_app {H K : Heap} {x : AVal} {d : List Int} (h : bytesAt H x = some d) : bytesAt (H ++ K) x = some d := by
 unfold bytesAt at h ⊢
 split at h
 ·exact h
 ·rename_i id n kc
  split at h
  ·rename_i rows hr
   simp only [Option.bind_eq_some_iff] at h
   rw [List.getElem?_append_left (List.getElem?_eq_some_iff.1 hr).1, hr]
   simp only [Option.bind_eq_some_iff]
   exact h
  ·cases h
 ·exact h
 ·exact h
 ·cases h
def writeR (H : Heap) (mid : Nat) (A : Ab) (s addr : Int) (d : List Int) : AVal × Heap := match getK s A.sps with
 | none => (.v (.int .i64 4), H)
 | some x => if 256 < d.length then (.v (.int .i64 1), H) else
   if (mayR x.2 2 addr d.length).1 = true then layR (H ++ List.replicate (mayR x.2 2 addr d.length).2 none) mid A s addr d
   else (.v (.int .i64 11), H ++ List.replicate (mayR x.2 2 addr d.length).2 none)
noncomputable def writeM : Row → Heap → Option (AVal × Heap)
 | [.ptr mid 5 0 0, .v (.int .i64 s), .v (.int .i64 addr), x], H => (repAt H mid).bind fun A => (bytesAt H x).bind fun d => @ite _ (IntKind.i64.wrap addr = addr ∧ apart A mid x) (Classical.propDecidable _) (some (writeR H mid A s addr d)) none
 | _, _ => none
theorem lay_eval {H : Heap} {mid : Nat} {A : Ab} {s addr : Int} {x : AVal} {y : Nat × En} {d : List Int} (hA : repAt H mid = some A) (hd : bytesAt H x = some d) (hg : getK s A.sps = some y) (h1 : spanK y.2 addr d.length) (h2 : apart A mid x) :
  layM [.ptr mid 5 0 0, .v (.int .i64 s), .v (.int .i64 addr), x] H = some (layR H mid A s addr d) := by
 simp only [layM, hA, hd, Option.bind_some, hg]
 rw [if_pos ⟨h1, h2⟩]
theorem layR_v {H : Heap} {mid : Nat} {A : Ab} {s addr : Int} {d : List Int} : ∃ e H', layR H mid A s addr d = (.v (.int .i64 e), H') := by
 unfold layR
 split
 ·exact ⟨_, _, rfl⟩
 ·split <;> exact ⟨_, _, rfl⟩
theorem write_inl : InlOk Try.prog 14 writeM := by
 refine inl_canonE Try.func14 rfl fun args H r H' hr => ⟨args, canon_refl args, ?_⟩
 unfold writeM at hr
 split at hr
 case h_2 => cases hr
 rename_i mid s addr x
 simp only [Option.bind_eq_some_iff, Option.map_eq_some_iff] at hr
 obtain ⟨A, hA, d, hd, hr⟩ := hr
 split at hr
 case isFalse => cases hr
 rename_i hcond
 obtain ⟨hwa, hap⟩ := hcond
 simp only [Option.some.injEq] at hr
 obtain ⟨rp, gd⟩ := repAt_iff.1 hA
 have hM := rp.st.mem
 have hS := rp.sp
 have hf := rp.find s
 simp only [Lo.row] at hM
 unfold writeR at hr
 refine bodyE_of ((noOrc_ok.withI may_inl).withI lay_inl) fxMix (by kernel_rfl) (by simp [Try.ntmps14]) ?_
 intro C cP cI cN cD cF cA cR cL
 have cn0 := orcI may_inl (C := C) (by rw [cN]; rfl)
 have cn1 := orcI lay_inl (C := C) (by rw [cN]; rfl)
 replace cI := fun g => congrFun cI g
 simp only [Orc.withP, Orc.withI, Orc.withF, Orc.withD, Orc.withA, Orc.withR, Orc.withC, noOrc] at cI
 replace cR : C.rd = fun _ => none := cR
 replace cD : C.dyn = fun _ => [] := cD
 clear cP cN cF cA
 rcases bytesAt_cases hd with ⟨o, rfl⟩ | ⟨id, kc, rfl, hid, hidl, gid⟩ | ⟨rfl, hd0⟩ | ⟨rfl, hd0⟩
 ·
   obtain ⟨n, hn⟩ : ∃ n, d.length = n := ⟨_, rfl⟩
   have hyl : (yRow d).length = n := by rw [yRow_len, hn]
   rw [hn] at hr
   cases hg : getK s A.sps with
   | none =>
    simp only [hg, Prod.mk.injEq] at hr
    obtain ⟨rfl, rfl⟩ := hr
    simp [Try.ntmps14, Try.results14, cSl, cn0, cn1, cI, cD, cR, hM, hS, hf, hg]
    exact Ent.refl _ _
   | some y =>
    simp only [hg] at hr
    by_cases h1 : 256 < n
    ·rw [if_pos h1] at hr
     simp only [Prod.mk.injEq] at hr
     obtain ⟨rfl, rfl⟩ := hr
     have h1' : (256 : Int) < (n : Int) := by omega
     first
     | exact absurd h1 (by rw [← hn, hd0]; simp)
     |(simp [Try.ntmps14, Try.results14, cSl, cn0, cn1, cI, cD, cR, hM, hS, hf, hg, hyl, hn, hd, h1, h1']
       exact Ent.refl _ _)
    ·rw [if_neg h1] at hr
     have h1' : ¬ (256 : Int) < (n : Int) := by omega
     have hme := may_eval (addr := addr) (want := 2) hA hg (n := (n : Int)) (by omega)
     by_cases hm : (mayR y.2 2 addr n).1 = true
     ·rw [if_pos hm] at hr
      have hle := lay_eval (rep_app (K := List.replicate (mayR y.2 2 addr n).2 none) hA) (bytesAt_app hd) hg (by rw [hn]; exact may_span (by omega) hwa hm) hap
      rw [hm] at hme
      obtain ⟨e, H2, hlr⟩ := layR_v (H := H ++ List.replicate (mayR y.2 2 addr n).2 none) (mid := mid) (A := A) (s := s) (addr := addr) (d := d)
      rw [hlr] at hr hle
      simp only [Prod.mk.injEq] at hr
      obtain ⟨rfl, rfl⟩ := hr
      generalize (mayR y.2 2 addr n).2 = g at *
      skip
      simp [Try.ntmps14, Try.results14, cSl, cn0, cn1, cI, cD, cR, hM, hS, hf, hg, hyl, hn, hd, h1', hme, hle]
      exact Ent.refl _ _
     ·rw [if_neg hm] at hr
      simp only [Bool.not_eq_true] at hm
      rw [hm] at hme
      simp only [Prod.mk.injEq] at hr
      obtain ⟨rfl, rfl⟩ := hr
      skip
      simp [Try.ntmps14, Try.results14, cSl, cn0, cn1, cI, cD, cR, hM, hS, hf, hg, hyl, hn, hd, h1', hme]
      exact Ent.refl _ _
 ·
   obtain ⟨n, hn⟩ : ∃ n, d.length = n := ⟨_, rfl⟩
   have hyl : (yRow d).length = n := by rw [yRow_len, hn]
   rw [hn] at hr
   cases hg : getK s A.sps with
   | none =>
    simp only [hg, Prod.mk.injEq] at hr
    obtain ⟨rfl, rfl⟩ := hr
    simp [Try.ntmps14, Try.results14, cSl, cn0, cn1, cI, cD, cR, hM, hS, hf, hg]
    exact Ent.refl _ _
   | some y =>
    simp only [hg] at hr
    by_cases h1 : 256 < n
    ·rw [if_pos h1] at hr
     simp only [Prod.mk.injEq] at hr
     obtain ⟨rfl, rfl⟩ := hr
     have h1' : (256 : Int) < (n : Int) := by omega
     first
     | exact absurd h1 (by rw [← hn, hd0]; simp)
     |(simp [Try.ntmps14, Try.results14, cSl, cn0, cn1, cI, cD, cR, hM, hS, hf, hg, hyl, hn, hid, gid, hidl, h1, h1']
       exact Ent.refl _ _)
    ·rw [if_neg h1] at hr
     have h1' : ¬ (256 : Int) < (n : Int) := by omega
     have hme := may_eval (addr := addr) (want := 2) hA hg (n := (n : Int)) (by omega)
     by_cases hm : (mayR y.2 2 addr n).1 = true
     ·rw [if_pos hm] at hr
      have hle := lay_eval (rep_app (K := List.replicate (mayR y.2 2 addr n).2 none) hA) (bytesAt_app hd) hg (by rw [hn]; exact may_span (by omega) hwa hm) hap
      rw [hm] at hme
      obtain ⟨e, H2, hlr⟩ := layR_v (H := H ++ List.replicate (mayR y.2 2 addr n).2 none) (mid := mid) (A := A) (s := s) (addr := addr) (d := d)
      rw [hlr] at hr hle
      simp only [Prod.mk.injEq] at hr
      obtain ⟨rfl, rfl⟩ := hr
      generalize (mayR y.2 2 addr n).2 = g at *
      try rw [hn] at hle
      simp [Try.ntmps14, Try.results14, cSl, cn0, cn1, cI, cD, cR, hM, hS, hf, hg, hyl, hn, hid, gid, hidl, h1', hme, hle]
      exact Ent.refl _ _
     ·rw [if_neg hm] at hr
      simp only [Bool.not_eq_true] at hm
      rw [hm] at hme
      simp only [Prod.mk.injEq] at hr
      obtain ⟨rfl, rfl⟩ := hr
      try rw [hn] at hle
      simp [Try.ntmps14, Try.results14, cSl, cn0, cn1, cI, cD, cR, hM, hS, hf, hg, hyl, hn, hid, gid, hidl, h1', hme]
      exact Ent.refl _ _
 ·
   obtain ⟨n, hn⟩ : ∃ n, d.length = n := ⟨_, rfl⟩
   have hyl : (yRow d).length = n := by rw [yRow_len, hn]
   rw [hn] at hr
   cases hg : getK s A.sps with
   | none =>
    simp only [hg, Prod.mk.injEq] at hr
    obtain ⟨rfl, rfl⟩ := hr
    simp [Try.ntmps14, Try.results14, cSl, cn0, cn1, cI, cD, cR, hM, hS, hf, hg]
    exact Ent.refl _ _
   | some y =>
    simp only [hg] at hr
    by_cases h1 : 256 < n
    ·rw [if_pos h1] at hr
     simp only [Prod.mk.injEq] at hr
     obtain ⟨rfl, rfl⟩ := hr
     have h1' : (256 : Int) < (n : Int) := by omega
     first
     | exact absurd h1 (by rw [← hn, hd0]; simp)
     |(simp [Try.ntmps14, Try.results14, cSl, cn0, cn1, cI, cD, cR, hM, hS, hf, hg, hyl, hn, hd, h1, h1']
       exact Ent.refl _ _)
    ·rw [if_neg h1] at hr
     have h1' : ¬ (256 : Int) < (n : Int) := by omega
     have hme := may_eval (addr := addr) (want := 2) hA hg (n := (n : Int)) (by omega)
     by_cases hm : (mayR y.2 2 addr n).1 = true
     ·rw [if_pos hm] at hr
      have hle := lay_eval (rep_app (K := List.replicate (mayR y.2 2 addr n).2 none) hA) (bytesAt_app hd) hg (by rw [hn]; exact may_span (by omega) hwa hm) hap
      rw [hm] at hme
      obtain ⟨e, H2, hlr⟩ := layR_v (H := H ++ List.replicate (mayR y.2 2 addr n).2 none) (mid := mid) (A := A) (s := s) (addr := addr) (d := d)
      rw [hlr] at hr hle
      simp only [Prod.mk.injEq] at hr
      obtain ⟨rfl, rfl⟩ := hr
      generalize (mayR y.2 2 addr n).2 = g at *
      (obtain rfl : n = 0 := by rw [← hn, hd0]; rfl); simp only [Int.natCast_zero, Int.ofNat_zero] at hme
      simp [Try.ntmps14, Try.results14, cSl, cn0, cn1, cI, cD, cR, hM, hS, hf, hg, hyl, hn, hd, h1', hme, hle]
      exact Ent.refl _ _
     ·rw [if_neg hm] at hr
      simp only [Bool.not_eq_true] at hm
      rw [hm] at hme
      simp only [Prod.mk.injEq] at hr
      obtain ⟨rfl, rfl⟩ := hr
      (obtain rfl : n = 0 := by rw [← hn, hd0]; rfl); simp only [Int.natCast_zero, Int.ofNat_zero] at hme
      simp [Try.ntmps14, Try.results14, cSl, cn0, cn1, cI, cD, cR, hM, hS, hf, hg, hyl, hn, hd, h1', hme]
      exact Ent.refl _ _
 ·
   obtain ⟨n, hn⟩ : ∃ n, d.length = n := ⟨_, rfl⟩
   have hyl : (yRow d).length = n := by rw [yRow_len, hn]
   rw [hn] at hr
   cases hg : getK s A.sps with
   | none =>
    simp only [hg, Prod.mk.injEq] at hr
    obtain ⟨rfl, rfl⟩ := hr
    simp [Try.ntmps14, Try.results14, cSl, cn0, cn1, cI, cD, cR, hM, hS, hf, hg]
    exact Ent.refl _ _
   | some y =>
    simp only [hg] at hr
    by_cases h1 : 256 < n
    ·rw [if_pos h1] at hr
     simp only [Prod.mk.injEq] at hr
     obtain ⟨rfl, rfl⟩ := hr
     have h1' : (256 : Int) < (n : Int) := by omega
     first
     | exact absurd h1 (by rw [← hn, hd0]; simp)
     |(simp [Try.ntmps14, Try.results14, cSl, cn0, cn1, cI, cD, cR, hM, hS, hf, hg, hyl, hn, hd, h1, h1']
       exact Ent.refl _ _)
    ·rw [if_neg h1] at hr
     have h1' : ¬ (256 : Int) < (n : Int) := by omega
     have hme := may_eval (addr := addr) (want := 2) hA hg (n := (n : Int)) (by omega)
     by_cases hm : (mayR y.2 2 addr n).1 = true
     ·rw [if_pos hm] at hr
      have hle := lay_eval (rep_app (K := List.replicate (mayR y.2 2 addr n).2 none) hA) (bytesAt_app hd) hg (by rw [hn]; exact may_span (by omega) hwa hm) hap
      rw [hm] at hme
      obtain ⟨e, H2, hlr⟩ := layR_v (H := H ++ List.replicate (mayR y.2 2 addr n).2 none) (mid := mid) (A := A) (s := s) (addr := addr) (d := d)
      rw [hlr] at hr hle
      simp only [Prod.mk.injEq] at hr
      obtain ⟨rfl, rfl⟩ := hr
      generalize (mayR y.2 2 addr n).2 = g at *
      (obtain rfl : n = 0 := by rw [← hn, hd0]; rfl); simp only [Int.natCast_zero, Int.ofNat_zero] at hme
      simp [Try.ntmps14, Try.results14, cSl, cn0, cn1, cI, cD, cR, hM, hS, hf, hg, hyl, hn, hd, h1', hme, hle]
      exact Ent.refl _ _
     ·rw [if_neg hm] at hr
      simp only [Bool.not_eq_true] at hm
      rw [hm] at hme
      simp only [Prod.mk.injEq] at hr
      obtain ⟨rfl, rfl⟩ := hr
      (obtain rfl : n = 0 := by rw [← hn, hd0]; rfl); simp only [Int.natCast_zero, Int.ofNat_zero] at hme
      simp [Try.ntmps14, Try.results14, cSl, cn0, cn1, cI, cD, cR, hM, hS, hf, hg, hyl, hn, hd, h1', hme]
      exact Ent.refl _ _
noncomputable def storeM : Row → Heap → Option (AVal × Heap)
 | [.ptr mid 5 0 0, .v (.int .i64 s), .v (.int .u32 addr), .v (.int .u8 b)], H => (repAt H mid).bind fun A => if 0 ≤ addr ∧ addr < 4294967296 then some (writeR (H ++ [some (1, yRow [b])]) mid A s addr [b]) else none
 | _, _ => none
theorem writeR_v {H : Heap} {mid : Nat} {A : Ab} {s addr : Int} {d : List Int} : ∃ e H', writeR H mid A s addr d = (.v (.int .i64 e), H') := by
 unfold writeR
 split
 ·exact ⟨_, _, rfl⟩
 ·split
  ·exact ⟨_, _, rfl⟩
  ·split
   ·exact layR_v
   ·exact ⟨_, _, rfl⟩
theorem write_eval {H : Heap} {mid : Nat} {A : Ab} {s addr : Int} {x : AVal} {d : List Int} (hA : repAt H mid = some A) (hd : bytesAt H x = some d) (hw : IntKind.i64.wrap addr = addr) (h2 : apart A mid x) :
  writeM [.ptr mid 5 0 0, .v (.int .i64 s), .v (.int .i64 addr), x] H = some (writeR H mid A s addr d) := by
 simp only [writeM, hA, hd, Option.bind_some]
 rw [if_pos ⟨hw, h2⟩]
theorem store_inl : InlOk Try.prog 20 storeM := by
 refine inl_canonE Try.func20 rfl fun args H r H' hr => ⟨args, canon_refl args, ?_⟩
 unfold storeM at hr
 split at hr
 case h_2 => cases hr
 rename_i mid s addr b
 simp only [Option.bind_eq_some_iff, Option.map_eq_some_iff] at hr
 obtain ⟨A, hA, hr⟩ := hr
 split at hr
 case isFalse => cases hr
 rename_i hwa
 simp only [Option.some.injEq] at hr
 obtain ⟨rp, gd⟩ := repAt_iff.1 hA
 have hwa2 : IntKind.i64.wrap addr = addr := w64 (by omega) (by omega)
 have hev := write_eval (H := H ++ [some (1, yRow [b])]) (x := .osl H.length 1 0 1 1) (d := [b]) (s := s) (rep_app (K := [some (1, yRow [b])]) hA) (by simp [bytesAt, yRow, by1]) hwa2 (by
  show A.lo.cell mid H.length = none
  cases e : A.lo.cell mid H.length with
  | none => rfl
  | some z => exact absurd (rp.st.lt e) (by omega))
 obtain ⟨e, H2, hwr⟩ := writeR_v (H := H ++ [some (1, yRow [b])]) (mid := mid) (A := A) (s := s) (addr := addr) (d := [b])
 rw [hwr] at hr hev
 simp only [Prod.mk.injEq] at hr
 obtain ⟨rfl, rfl⟩ := hr
 simp only [yRow, List.map_cons, List.map_nil] at hev
 refine bodyE_of (noOrc_ok.withI write_inl) fxMix (by kernel_rfl) (by simp [Try.ntmps20]) ?_
 intro C cP cI cN cD cF cA cR cL
 have cn0 := orcI write_inl (C := C) (by rw [cN]; rfl)
 replace cI := fun g => congrFun cI g
 simp only [Orc.withP, Orc.withI, Orc.withF, Orc.withD, Orc.withA, Orc.withR, Orc.withC, noOrc] at cI
 replace cR : C.rd = fun _ => none := cR
 replace cD : C.dyn = fun _ => [] := cD
 clear cP cN cF cA
 simp [Try.ntmps20, Try.results20, cSl, cn0, cI, cD, cR, hwa2, hev]
 exact Ent.refl _ _
end
section
attribute [local simp] pgRow_len pg16 pg17 pg18 pg16' pg17' pg18' ww16 ww17 ww18 keyI_ok aLookup aMapUpdate aDelete lkRes bin_mn spV enV Try.underlying65 Try.underlying55
attribute [local simp] res_oldV bin_pn
def recL (L : Lo) : Nat → Lo
 | 0 => L
 | j + 1 => (recL L j).out
theorem Like.recl (L : Lo) : ∀ j, Like L (recL L j)
 | 0 => Like.refl _
 | j + 1 => (Like.recl L j).trans (Like.out _)
theorem hr_out {H : Heap} {mid : Nat} {L : Lo} (s : St H mid L) (h : 0 < L.hr) : L.out.hr + 1 = L.hr := by
 obtain ⟨o, q, ho, hg, hh, _⟩ := s.old h
 have hout : L.out = L.setP o { q with here := false } := by simp [Lo.out, ho, hg]
 rw [hout]
 obtain ⟨a, b, h1, h2, _⟩ := getK_split s.wf.nd hg
 unfold Lo.hr
 simp only [Lo.setP]
 rw [h2, h1]
 simp [hereN, hh]
 omega
theorem rec_hr {H : Heap} {mid : Nat} {L : Lo} (s : St H mid L) : ∀ j, j ≤ L.hr → (recL L j).hr = L.hr - j
 | 0, _ => rfl
 | j + 1, h => by
  have ih := rec_hr s j (by omega)
  have := hr_out (s.like (Like.recl L j)) (by omega)
  simp only [recL]
  omega
def recN (L : Lo) (n : Int) : Nat := (min n (min (L.hr : Int) (L.sl - L.pgs.length + L.hr))).toNat
noncomputable def recM : Row → Heap → Option (AVal × Heap)
 | [.ptr mid 5 0 0, .v (.int .i64 n)], H => (stAt H mid).map fun L => (.v (.int .i64 (recN L n : Nat)), wr H mid (recL L (recN L n)))
 | _, _ => none
theorem hr_le (L : Lo) : L.hr ≤ L.pgs.length := by
 have := here_le (L.pgs.map (·.2))
 simpa [Lo.hr] using this
theorem rec_inl : InlOk Try.prog 10 recM := by
 refine inl_canonE Try.func10 rfl fun args H r H' hr => ⟨args, canon_refl args, ?_⟩
 unfold recM at hr
 split at hr
 case h_2 => cases hr
 rename_i mid n
 simp only [Option.bind_eq_some_iff, Option.map_eq_some_iff] at hr
 obtain ⟨L, hst, hr⟩ := hr
 obtain ⟨rfl, rfl⟩ := hr
 have s := stAt_iff.1 hst
 have hK : recN L n = (min n (min (L.hr : Int) (L.sl - L.pgs.length + L.hr))).toNat := rfl
 have hhl := hr_le L
 have hle := s.wf.le
 generalize recN L n = K at *
 refine bodyE_of ((noOrc_ok.withR here_rd).withR old_rd) fxMix (by kernel_rfl) (by simp [Try.ntmps10]) ?_
 intro C cP cI cN cD cF cA cR cL
 replace cI : C.inl = fun _ => false := cI
 replace cR := fun g => congrFun cR g
 simp only [Orc.withP, Orc.withI, Orc.withF, Orc.withD, Orc.withA, Orc.withR, Orc.withC, noOrc] at cR
 replace cD : C.dyn = fun _ => [] := cD
 clear cP cN cF cA
 have step : ∀ k : Nat, k ≤ L.hr → St (wr H mid (recL L k)) mid (recL L k) ∧ stAt (wr H mid (recL L k)) mid = some (recL L k) ∧ (recL L k).sl = L.sl ∧ (recL L k).lid = L.lid ∧ (recL L k).pgs.length = L.pgs.length ∧ hereM [.ptr mid 5 0 0] (wr H mid (recL L k)) = some (.v (.int .i64 (L.hr - k : Nat))) := fun k hk => by
  have lk := Like.recl L k
  have s1 := s.like lk
  have h1 := stAt_iff.2 s1
  have hl : (recL L k).pgs.length = L.pgs.length := by have := congrArg List.length lk.keys; simpa using this
  refine ⟨s1, h1, lk.sl, lk.lid, hl, ?_⟩
  unfold hereM
  simp only [h1, Option.map_some]
  have := rec_hr s k hk
  unfold Lo.hr at this
  rw [this]; rfl
 simp [Try.ntmps10, Try.results10, cSl, cI, cD, cR]
 refine loop_forE K (fun k (_ : Unit) => ([(0, .ptr mid 5 0 0), (1, .v (.int .i64 n)), (5, .v (.int .i64 k))], wr H mid (recL L k))) (fun k _ => True) () (fun k _ hk _ => by omega) trivial ?_ ?_ ?_
 ·simp only [recL, s.wr_self]
  exact Ent.env (by simp)
 ·rintro k _ hk _ hw
  obtain ⟨s1, h1, e1, e2, e3, hh⟩ := step k (by omega)
  obtain ⟨r, hr0⟩ : ∃ r, L.hr - k = r := ⟨_, rfl⟩
  rw [hr0] at hh
  have c1 : (k : Int) < n := by omega
  have c2 : (0 : Int) < (r : Int) := by omega
  have c2' : 0 < r := by omega
  have c3 : (L.pgs.length : Int) - (r : Int) < L.sl := by omega
  have hw3 : IntKind.i64.wrap ((L.pgs.length : Int) - (r : Int)) = (L.pgs.length : Int) - (r : Int) := w64 (by omega) (by omega)
  have hrk := rec_hr s k (by omega)
  have hwk : IntKind.i64.wrap ((k : Int) + 1) = (k : Int) + 1 := w64 (by omega) (by omega)
  have hnext : recL L (k + 1) = (recL L k).out := rfl
  obtain ⟨o, q, ho, hg, hqh, hov, hO, hod⟩ := s1.old (by omega)
  have hout : (recL L k).out = (recL L k).setP o { q with here := false } := by simp [Lo.out, ho, hg]
  have s2 := s1.setP (q' := { q with here := false }) hg hod
  have hM := s1.mem
  have hom : ¬ o = mid := by rintro rfl; rw [hM] at hO; cases hO
  obtain ⟨l, hlid, hpv, hL⟩ : ∃ l, (recL L k).lid = some l ∧ (recL L k).pv = .osl l 1 0 (recL L k).pgs.length (recL L k).pgs.length ∧ (wr H mid (recL L k))[l]? = some (some (1, (recL L k).lrows)) := by
   rcases s1.cases with ⟨_, _, hnil⟩ | h
   ·rw [hnil] at hg; cases hg
   ·exact h
  have hold : oldM [.ptr mid 5 0 0] (wr H mid (recL L k)) = some (.ptr o 19 0 0) := by
   unfold oldM
   simp only [h1, Option.map_some, hov]
  simp only [Lo.row] at hM
  rw [hpv, e3, e1] at hM
  have hwr : (wr H mid (recL L k)).set o (some (19, [pgRow { q with here := false }])) = wr H mid (recL L (k + 1)) := by
   rw [hnext, hout]
   symm
   refine (wr_eq s2 (by rw [List.length_set, wr_len]) fun i hi => ?_)
   have n2 := cell_ne hi (s2.wf.cell_pg (p := o) (q := { q with here := false }) (by simp [Lo.setP, getK_setK, hg]))
   rw [List.getElem?_set_ne n2, wr_ne]
   cases e : (recL L k).cell mid i with
   | none => rfl
   | some y =>
    exfalso
    unfold Lo.cell at hi e
    split at hi
    ·cases hi
    ·rename_i him
     rw [if_neg him] at e
     split at hi
     ·cases hi
     ·rename_i hil
      rw [if_neg (show ¬ (recL L k).lid = some i from hil)] at e
      rw [Option.map_eq_none_iff, getK_none] at hi
      simp only [Lo.setP, setK_keys] at hi
      rw [getK_none.2 hi] at e
      cases e
  have hol : o < (wr H mid (recL L k)).length := (List.getElem?_eq_some_iff.1 hO).1
  have gO := (List.getElem?_eq_some_iff.1 hO).2
  obtain ⟨W', hW'⟩ : ∃ x, wr H mid (recL L (k + 1)) = x := ⟨_, rfl⟩
  rw [hW'] at hwr
  generalize wr H mid (recL L k) = W at *
  simp [Try.ntmps10, Try.results10, cSl, cI, cD, cR, c1, hh, c2, c2', hM, hpv, hw3, c3, hold, hO, gO, hol, hod, hwr, hwk]
  refine ⟨(), trivial, ?_⟩
  simp only [hW']
  exact Ent.env (by simp)
 ·rintro _ _
  have hKl : K ≤ L.hr := by omega
  obtain ⟨s1, h1, e1, e2, e3, hh⟩ := step K hKl
  obtain ⟨r, hr0⟩ : ∃ r, L.hr - K = r := ⟨_, rfl⟩
  rw [hr0] at hh
  have hM := s1.mem
  simp only [Lo.row] at hM
  rw [e1] at hM
  generalize wr H mid (recL L K) = W at *
  by_cases c1 : (K : Int) < n
  ·by_cases c2 : 0 < r
   ·have c2' : (0 : Int) < (r : Int) := by omega
    have c3 : ¬ (L.pgs.length : Int) - (r : Int) < L.sl := by omega
    have hw3 : IntKind.i64.wrap ((L.pgs.length : Int) - (r : Int)) = (L.pgs.length : Int) - (r : Int) := w64 (by omega) (by omega)
    obtain ⟨l, hpv⟩ : ∃ l, (recL L K).pv = .osl l 1 0 L.pgs.length L.pgs.length := by
     rcases s1.cases with ⟨_, _, hnil⟩ | ⟨l, _, h, _⟩
     ·rw [hnil] at e3; simp at e3; omega
     ·exact ⟨l, by rw [h, e3]⟩
    rw [hpv] at hM
    simp [Try.ntmps10, Try.results10, cSl, cI, cD, cR, c1, hh, c2, c2', hM, hw3, c3]
    exact Ent.refl _ _
   ·have c2' : ¬ (0 : Int) < (r : Int) := by omega
    simp [Try.ntmps10, Try.results10, cSl, cI, cD, cR, c1, hh, c2, c2']
    exact Ent.refl _ _
  ·simp [Try.ntmps10, Try.results10, cSl, cI, cD, cR, c1]
   exact Ent.refl _ _
end
section
attribute [local simp] pgRow_len pg16 pg17 pg18 pg16' pg17' pg18' ww16 ww17 ww18 keyI_ok aLookup aMapUpdate aDelete lkRes bin_mn spV enV Try.underlying65 Try.underlying55
def mV (x : Nat) : AVal := .ptr x 0 0 0
def mRow (x : Int × Nat) : Row := [.v (.int .i64 x.1), mV x.2]
theorem mRow_inj : ∀ {a b : List (Int × Nat)}, a.map mRow = b.map mRow → a = b
 | [], [], _ => rfl
 | [], _ :: _, h => by simp at h
 | _ :: _, [], h => by simp at h
 |(k, x) :: a, (k', y) :: b, h => by
  simp only [List.map_cons, List.cons.injEq, mRow, mV, AVal.v.injEq, Value.int.injEq, true_and, AVal.ptr.injEq, and_true] at h
  obtain ⟨⟨rfl, rfl⟩, h2⟩ := h
  rw [mRow_inj h2]
structure MpAt (H : Heap) (sid : Nat) (ss : List (Int × Nat)) : Prop where
 at' : H[sid]? = some (some (0, ss.map mRow))
 nd : (ss.map (·.1)).Nodup
noncomputable def mpAt (H : Heap) (sid : Nat) : Option (List (Int × Nat)) := @dite _ (∃ ss, MpAt H sid ss) (Classical.propDecidable _) (fun h => some h.choose) fun _ => none
theorem mpAt_iff {H : Heap} {sid : Nat} {ss : List (Int × Nat)} : mpAt H sid = some ss ↔ MpAt H sid ss := by
 have u : ∀ {a b}, MpAt H sid a → MpAt H sid b → a = b := fun ha hb => by
  have := ha.at'
  rw [hb.at'] at this
  simp only [Option.some.injEq, Prod.mk.injEq, true_and] at this
  exact (mRow_inj this).symm
 unfold mpAt
 constructor
 ·intro h
  split at h
  ·rename_i hx
   cases h
   exact hx.choose_spec
  ·cases h
 ·intro h
  rw [dif_pos ⟨ss, h⟩]
  exact congrArg some (u (Exists.choose_spec ⟨ss, h⟩) h)
def freeF (ks : List Int) (s : Int) : Nat → Option Int
 | 0 => none
 | m + 1 => if s ∈ ks then freeF ks (s + 1) m else some s
theorem freeF_at {ks : List Int} : ∀ {m k : Nat} {s : Int}, (∀ i : Nat, i < k → s + (i : Nat) ∈ ks) → s + (k : Nat) ∉ ks → k < m → freeF ks s m = some (s + (k : Nat))
 | m + 1, 0, s, _, h, _ => by
  simp at h
  simp [freeF, h]
 | m + 1, k + 1, s, ha, h, hk => by
  have h0 := ha 0 (by omega)
  simp at h0
  simp only [freeF]
  have ih := freeF_at (m := m) (k := k) (s := s + 1) (ks := ks) (fun i hi => by
   have := ha (i + 1) (by omega)
   rwa [show s + ((i + 1 : Nat) : Int) = s + 1 + (i : Nat) by push_cast; omega] at this) (by rwa [show s + ((k + 1 : Nat) : Int) = s + 1 + (k : Nat) by push_cast; omega] at h) (by omega)
  rw [if_pos h0, ih]
  congr 1; push_cast; omega
 | 0, _, _, _, _, h => by omega
theorem freeF_none {ks : List Int} : ∀ {m : Nat} {s : Int}, (∀ i : Nat, i < m → s + (i : Nat) ∈ ks) → freeF ks s m = none
 | 0, _, _ => rfl
 | m + 1, s, ha => by
  have h0 := ha 0 (by omega)
  simp at h0
  simp only [freeF]
  rw [if_pos h0]
  refine freeF_none (m := m) fun i hi => ?_
  have := ha (i + 1) (by omega)
  rwa [show s + ((i + 1 : Nat) : Int) = s + 1 + (i : Nat) by push_cast; omega] at this
theorem bin_mm {k : Nat} : aBin Try.prog .eql 65 (.tmp k) (.const (.map none)) (.v (.map none)) (.v (.map none)) = some (.v (.bool true)) := by
 rfl
attribute [local simp] bin_mm
def makeR (H : Heap) (sid : Nat) (ss : List (Int × Nat)) : AVal × Heap := match freeF (ss.map (·.1)) 1 16 with
 | none => (.v (.tuple #[.int .i64 0, .int .i64 6]), H)
 | some s => (.v (.tuple #[.int .i64 s, .int .i64 0]), (H ++ [some (0, [])]).set sid (some (0, (ss ++ [(s, H.length)]).map mRow)))
noncomputable def makeM : Row → Heap → Option (AVal × Heap)
 | [.ptr mid 5 0 0], H => (stAt H mid).bind fun L => (mpAt H L.sid).map fun ss => makeR H L.sid ss
 | _, _ => none
theorem make_inl : InlOk Try.prog 6 makeM := by
 refine inl_canonE Try.func6 rfl fun args H r H' hr => ⟨args, canon_refl args, ?_⟩
 unfold makeM at hr
 split at hr
 case h_2 => cases hr
 rename_i mid
 simp only [Option.bind_eq_some_iff, Option.map_eq_some_iff] at hr
 obtain ⟨L, hst, ss, hss, hr⟩ := hr
 have s := stAt_iff.1 hst
 obtain ⟨hS, hnd⟩ := mpAt_iff.1 hss
 have hM := s.mem
 have hf := fun k => find_key (g := mRow) (v := mV) (fun _ => rfl) k ss hnd
 have hml : mid < H.length := s.lt cell_m
 have hsl : L.sid < H.length := (List.getElem?_eq_some_iff.1 hS).1
 have gM := (List.getElem?_eq_some_iff.1 hM).2
 have gS := (List.getElem?_eq_some_iff.1 hS).2
 simp only [Lo.row] at hM gM
 unfold makeR at hr
 refine bodyE_of noOrc_ok fxMix (by kernel_rfl) (by simp [Try.ntmps6]) ?_
 intro C cP cI cN cD cF cA cR cL
 replace cI : C.inl = fun _ => false := cI
 replace cR : C.rd = fun _ => none := cR
 replace cD : C.dyn = fun _ => [] := cD
 clear cP cN cF cA
 simp [Try.ntmps6, Try.results6, cSl, cI, cD, cR]
 refine loop_forE 16 (fun k (_ : Unit) => ([(0, .ptr mid 5 0 0), (4, .v (.int .i64 (1 + (k : Nat))))], H)) (fun k _ => ∀ i : Nat, i < k → (1 : Int) + (i : Nat) ∈ ss.map (·.1)) () (fun k _ hk _ => by omega) (fun i hi => by omega) ?_ ?_ ?_
 ·exact Ent.env (by simp)
 ·rintro k _ hk hall hw
  have hlt : (1 : Int) + (k : Int) ≤ 16 := by omega
  have hwk : IntKind.i64.wrap (1 + (k : Int) + 1) = 1 + (k : Int) + 1 := w64 (by omega) (by omega)
  have hfk := hf (1 + (k : Int))
  cases hg : getK (1 + (k : Int)) ss with
  | some y =>
   rw [hg] at hfk
   simp only [Option.map_some, mV] at hfk
   simp [Try.ntmps6, Try.results6, cSl, cI, cD, cR, hlt, hM, hS, hfk, hwk]
   refine ⟨(), fun i hi => ?_, ?_⟩
   ·rcases Nat.lt_or_ge i k with h | h
    ·simpa using hall i h
    ·have : i = k := by omega
     subst this
     simpa using (List.mem_map.2 ⟨_, getK_mem hg, rfl⟩ : (1 : Int) + (i : Int) ∈ ss.map (·.1))
   ·exact Ent.env (by simp; omega)
  | none =>
   have hno := getK_none.1 hg
   rw [freeF_at hall hno hk] at hr
   simp only [Prod.mk.injEq] at hr
   obtain ⟨rfl, rfl⟩ := hr
   have hput := put_key (g := mRow) (v := mV) (fun _ => rfl) (1 + (k : Int)) H.length ss hnd
   rw [putK_new hno] at hput
   rw [hg] at hfk
   simp only [Option.map_none] at hfk
   simp only [mV] at hput
   simp [Try.ntmps6, Try.results6, cSl, cI, cD, cR, hlt, hM, hS, hfk, hml, hsl, gM, gS, List.getElem?_append, List.set_append, hput]
   exact Ent.refl _ _
 ·rintro _ hall
  rw [freeF_none hall] at hr
  simp only [Prod.mk.injEq] at hr
  obtain ⟨rfl, rfl⟩ := hr
  simp [Try.ntmps6, Try.results6, cSl, cI, cD, cR]
  exact Ent.refl _ _
def newB (frames slots : Int) : Prop := frames < 4 ∨ 64 < frames ∨ slots < 0 ∨ 64 < slots
instance (a b : Int) : Decidable (newB a b) := by unfold newB; infer_instance
def newL (n : Nat) (frames slots : Int) : Lo := ⟨frames, slots, 0, none, n, []⟩
def newR (H : Heap) (frames slots : Int) : AVal × Heap :=
 if newB frames slots then (.v (.tuple #[.pointer none, .int .i64 1]), H) else (tupA [.ptr (H.length + 1) 5 0 0, .v (.int .i64 0)], H ++ [some (0, []), some (5, [(newL H.length frames slots).row])])
def newM : Row → Heap → Option (AVal × Heap)
 | [.v (.int .i64 frames), .v (.int .i64 slots)], H => some (newR H frames slots)
 | _, _ => none
theorem new_inl : InlOk Try.prog 4 newM := by
 refine inl_canonE Try.func4 rfl fun args H r H' hr => ⟨args, canon_refl args, ?_⟩
 unfold newM at hr
 split at hr
 case h_2 => cases hr
 rename_i frames slots
 simp only [Option.some.injEq] at hr
 unfold newR at hr
 refine bodyE_of noOrc_ok fxMix (by kernel_rfl) (by simp [Try.ntmps4]) ?_
 intro C cP cI cN cD cF cA cR cL
 replace cI : C.inl = fun _ => false := cI
 replace cR : C.rd = fun _ => none := cR
 replace cD : C.dyn = fun _ => [] := cD
 clear cP cN cF cA
 by_cases hb : newB frames slots
 ·rw [if_pos hb] at hr
  simp only [Prod.mk.injEq] at hr
  obtain ⟨rfl, rfl⟩ := hr
  unfold newB at hb
  by_cases h1 : frames < 4
  ·simp [Try.ntmps4, Try.results4, cSl, cI, cD, cR, h1]
   exact Ent.refl _ _
  ·by_cases h2 : 64 < frames
   ·simp [Try.ntmps4, Try.results4, cSl, cI, cD, cR, h1, h2]
    exact Ent.refl _ _
   ·by_cases h3 : slots < 0
    ·simp [Try.ntmps4, Try.results4, cSl, cI, cD, cR, h1, h2, h3]
     exact Ent.refl _ _
    ·have h4 : 64 < slots := by omega
     simp [Try.ntmps4, Try.results4, cSl, cI, cD, cR, h1, h2, h3, h4]
     exact Ent.refl _ _
 ·rw [if_neg hb] at hr
  simp only [Prod.mk.injEq] at hr
  obtain ⟨rfl, rfl⟩ := hr
  unfold newB at hb
  have h1 : ¬ frames < 4 := by omega
  have h2 : ¬ 64 < frames := by omega
  have h3 : ¬ slots < 0 := by omega
  have h4 : ¬ 64 < slots := by omega
  simp [Try.ntmps4, Try.results4, cSl, cI, cD, cR, h1, h2, h3, h4, newL, Lo.row, Lo.pv]
  exact Ent.refl _ _
theorem new_rep {H : Heap} {frames slots : Int} (h : ¬ newB frames slots) : RG (H.length + 1) (H ++ [some (0, []), some (5, [(newL H.length frames slots).row])], ⟨newL H.length frames slots, []⟩) := by
 unfold newB at h
 refine ⟨⟨⟨⟨fun _ => rfl, List.nodup_nil, fun x hx => by simp [newL] at hx, by simp [newL], fun l hl => by simp [newL] at hl, by simp [newL]; omega⟩, fun i x hx => ?_⟩, ?_, fun x hx => by simp at hx, List.nodup_nil, by simp, fun x hx => by simp at hx⟩, ⟨fun x hx => by simp [newL] at hx, fun x hx => by simp at hx, fun x hx => by simp at hx, fun x hx => by simp at hx, by simp [newL]; omega⟩⟩
 ·unfold Lo.cell at hx
  split at hx
  ·rename_i e
   cases hx
   subst e
   simp
  ·simp [newL, getK] at hx
 ·simp [newL]
end
end
section
theorem fmap_congr {α β : Type} {f g : α → Option β} : ∀ {l : List α}, (∀ x ∈ l, f x = g x) → l.filterMap f = l.filterMap g
 | [], _ => rfl
 | x :: l, h => by rw [List.filterMap_cons, List.filterMap_cons, h x List.mem_cons_self, fmap_congr fun y hy => h y (List.mem_cons_of_mem _ hy)]
theorem perm_of_map {α β : Type} {f : α → β} {rs ys : List β} (h : rs.Perm ys) : ∀ es : List α, ys = es.map f → ∃ es' : List α, rs = es'.map f ∧ es'.Perm es := by
 induction h with
 | nil =>
  intro es he
  have : es = [] := by
   cases es with
   | nil => rfl
   | cons a l => simp at he
  subst this
  exact ⟨[], rfl, .refl _⟩
 | cons x h ih =>
  intro es he
  cases es with
  | nil => simp at he
  | cons a l =>
   simp only [List.map_cons, List.cons.injEq] at he
   obtain ⟨rfl, he⟩ := he
   obtain ⟨es', rfl, hp⟩ := ih l he
   exact ⟨a :: es', rfl, hp.cons a⟩
 | swap x y l =>
  intro es he
  match es, he with
  | a :: b :: l', he =>
   simp only [List.map_cons, List.cons.injEq] at he
   obtain ⟨rfl, rfl, rfl⟩ := he
   exact ⟨b :: a :: l', rfl, .swap ..⟩
 | trans h1 h2 ih1 ih2 =>
  intro es he
  obtain ⟨e1, he1, p1⟩ := ih2 es he
  obtain ⟨e2, he2, p2⟩ := ih1 e1 he1
  exact ⟨e2, he2, p2.trans p1⟩
theorem cntE_perm {p : Nat} {a b : En} (h : a.Perm b) : cntE p a = cntE p b := h.countP_eq _
theorem stamp_find {es : En} {bs : List Int} (hn : bs.Nodup) : ∀ {i : Nat} {e : Int × (Nat × Int)} {b : Int}, es[i]? = some e → bs[i]? = some b → stampR b (stampL (es.map enRow) bs) = some (.v (.int .i64 e.1), enV e.2) := by
 induction bs generalizing es with
 | nil => intro i e b _ h; simp at h
 | cons b0 bs ih =>
  intro i e b h1 h2
  cases es with
  | nil => simp at h1
  | cons e0 es =>
   rw [List.nodup_cons] at hn
   simp only [stampL, List.map_cons, List.zipWith_cons_cons, enRow, List.cons_append, List.nil_append, stampR]
   cases i with
   | zero =>
    simp only [List.getElem?_cons_zero, Option.some.injEq] at h1 h2
    subst h1 h2
    rw [if_pos rfl]
   | succ i =>
    simp only [List.getElem?_cons_succ] at h1 h2
    rw [if_neg]
    ·exact ih hn.2 h1 h2
    ·rintro rfl
     exact hn.1 (List.mem_of_getElem? h2)
theorem stamp_inv {es : En} {bs : List Int} {i : Nat} {k a : AVal} {b : Int} (h : (stampL (es.map enRow) bs)[i]? = some [k, a, .v (.int .i64 b)]) : ∃ e, es[i]? = some e ∧ bs[i]? = some b ∧ k = .v (.int .i64 e.1) ∧ a = enV e.2 := by
 obtain ⟨q, b', h1, h2, h3⟩ := stampL_inv h
 rw [List.getElem?_map, Option.map_eq_some_iff] at h1
 obtain ⟨e, he, rfl⟩ := h1
 simp only [enRow, List.cons_append, List.nil_append, List.cons.injEq, AVal.v.injEq, Value.int.injEq, true_and, and_true] at h3
 obtain ⟨h3, h4, h5⟩ := h3
 subst h5
 exact ⟨e, he, h2, h3, h4⟩
theorem stamp_rows {es : En} {bs : List Int} : ∀ r ∈ stampL (es.map enRow) bs, ∃ k a b, r = [k, a, .v (.int .i64 b)] := by
 intro r hr
 obtain ⟨i, hi⟩ := List.mem_iff_getElem?.1 hr
 obtain ⟨q, b', h1, h2, h3⟩ := stampL_inv hi
 rw [List.getElem?_map, Option.map_eq_some_iff] at h1
 obtain ⟨e, he, rfl⟩ := h1
 exact ⟨_, _, _, h3⟩
def inc (p : Nat) (c : Nat → Nat) (x : Nat) : Nat := c x + one (p == x)
def upP (c : Nat → Nat) (x : Nat × Pg) : Nat × Pg := (x.1, { x.2 with users := x.2.users + c x.1 })
def Lo.up (c : Nat → Nat) (L : Lo) : Lo := { L with pgs := L.pgs.map (upP c) }
theorem up_keys {c : Nat → Nat} {L : Lo} : (L.up c).pgs.map (·.1) = L.pgs.map (·.1) := by
 simp only [Lo.up, List.map_map]
 rfl
theorem up_get {c : Nat → Nat} {p : Nat} {L : Lo} : getK p (L.up c).pgs = (getK p L.pgs).map fun q => { q with users := q.users + c p } := by
 simp only [Lo.up]
 induction L.pgs with
 | nil => rfl
 | cons x l ih =>
  simp only [List.map_cons, getK, upP]
  split
  ·rename_i e
   subst e
   rfl
  ·exact ih
theorem up_zero {L : Lo} : L.up (fun _ => 0) = L := by
 have : L.pgs.map (upP fun _ => 0) = L.pgs := by
  conv => rhs; rw [← List.map_id L.pgs]
  apply List.map_congr_left
  intro x _
  simp [upP]
 simp only [Lo.up, this]
theorem up_len {c : Nat → Nat} {L : Lo} : (L.up c).pgs.length = L.pgs.length := by simp [Lo.up]
theorem up_row {c : Nat → Nat} {L : Lo} : (L.up c).row = L.row ∧ (L.up c).lrows = L.lrows := by
 refine ⟨by simp [Lo.row, Lo.pv, Lo.up], ?_⟩
 simp [Lo.lrows, Lo.up, upP]
theorem up_step {c : Nat → Nat} {p : Nat} {L : Lo} (hn : (L.pgs.map (·.1)).Nodup) {q : Pg} (h : getK p L.pgs = some q) : (L.up c).setP p { q with users := q.users + c p + 1 } = L.up (inc p c) := by
 have : setK p { q with users := q.users + c p + 1 } (L.pgs.map (upP c)) = L.pgs.map (upP (inc p c)) := by
  unfold setK
  rw [List.map_map]
  apply List.map_congr_left
  intro x hx
  simp only [Function.comp, upP, inc]
  by_cases e : x.1 = p
  ·subst e
   have := getK_of hn (k := x.1) (v := x.2) hx
   rw [h] at this
   cases this
   rw [one_self]
   simp [Int.add_assoc]
  ·rw [one_ne (fun h => e h.symm)]
   simp [e]
 simp only [Lo.setP, Lo.up, this]
theorem Less.up {mid : Nat} {c : Nat → Nat} {L : Lo} : Less mid L (L.up c) := fun i h => by
 unfold Lo.cell at h ⊢
 split at h
 ·cases h
 ·rename_i hm
  rw [if_neg hm]
  split at h
  ·cases h
  ·rename_i hl
   rw [if_neg (show ¬ (L.up c).lid = some i from hl)]
   rw [Option.map_eq_none_iff] at h ⊢
   rw [getK_none] at h ⊢
   rw [up_keys]
   exact h
theorem Wf.up {mid : Nat} {c : Nat → Nat} {L : Lo} (w : Wf mid L) : Wf mid (L.up c) := by
 refine ⟨fun e => ?_, ?_, fun x hx => ?_, ?_, ?_, ?_⟩
 ·simp [Lo.up, w.nil e]
 ·rw [up_keys]; exact w.nd
 ·obtain ⟨y, hy, rfl⟩ := List.mem_map.1 hx
  exact w.d y hy
 ·rw [up_keys]; exact w.hm
 ·rw [up_keys]; exact w.hl
 ·rw [up_len]; exact w.le
def dnP (c : Nat → Nat) (x : Nat × Pg) : Option (Nat × Pg) := if x.2.users = c x.1 then none else some (x.1, { x.2 with users := x.2.users - c x.1 })
def Lo.dn (c : Nat → Nat) (L : Lo) : Lo := { L with pgs := L.pgs.filterMap (dnP c) }
theorem dnP_key {c : Nat → Nat} {x y : Nat × Pg} (h : dnP c x = some y) : y.1 = x.1 ∧ y.2.data = x.2.data ∧ y.2.here = x.2.here ∧ y.2.asked = x.2.asked ∧ x.2.users ≠ c x.1 ∧ y.2.users = x.2.users - c x.1 := by
 unfold dnP at h
 split at h
 ·cases h
 ·rename_i hne
  cases h
  exact ⟨rfl, rfl, rfl, rfl, hne, rfl⟩
theorem dn_sub {c : Nat → Nat} {L : Lo} : ((L.dn c).pgs.map (·.1)).Sublist (L.pgs.map (·.1)) := by
 simp only [Lo.dn]
 induction L.pgs with
 | nil => exact .slnil
 | cons x l ih =>
  rw [List.filterMap_cons]
  cases h : dnP c x with
  | none => exact .cons _ ih
  | some y =>
   rw [List.map_cons, List.map_cons, (dnP_key h).1]
   exact .cons_cons _ ih
theorem dn_get {c : Nat → Nat} {p : Nat} {L : Lo} (hn : (L.pgs.map (·.1)).Nodup) : getK p (L.dn c).pgs = (getK p L.pgs).bind fun q => if q.users = c p then none else some { q with users := q.users - c p } := by
 have hs : ∀ l : List (Nat × Pg), ((l.filterMap (dnP c)).map (·.1)).Sublist (l.map (·.1)) := fun l => dn_sub (L := { L with pgs := l })
 simp only [Lo.dn]
 revert hn
 generalize L.pgs = l
 intro hn
 induction l with
 | nil => rfl
 | cons x l ih =>
  rw [List.map_cons, List.nodup_cons] at hn
  replace ih := ih hn.2
  rw [List.filterMap_cons]
  simp only [getK]
  by_cases e : x.1 = p
  ·subst e
   rw [if_pos rfl]
   simp only [Option.bind_some]
   cases h : dnP c x with
   | none =>
    have : x.2.users = c x.1 := by
     unfold dnP at h
     split at h
     ·assumption
     ·cases h
    rw [if_pos this]
    exact getK_none.2 fun hm => hn.1 ((hs l).subset hm)
   | some y =>
    obtain ⟨k1, k2, k3, k4, k5, k6⟩ := dnP_key h
    rw [if_neg k5]
    simp only [getK]
    rw [if_pos k1]
    unfold dnP at h
    rw [if_neg k5] at h
    cases h; rfl
  ·rw [if_neg e]
   cases h : dnP c x with
   | none => exact ih
   | some y =>
    simp only [getK]
    rw [if_neg (by rw [(dnP_key h).1]; exact e)]
    exact ih
theorem dn_zero {L : Lo} (h : ∀ x ∈ L.pgs, 1 ≤ x.2.users) : L.dn (fun _ => 0) = L := by
 have : L.pgs.filterMap (dnP fun _ => 0) = L.pgs := by
  conv => rhs; rw [← List.filterMap_some (l := L.pgs)]
  apply fmap_congr
  intro x hx
  have := h x hx
  unfold dnP
  rw [if_neg (by simp; omega)]
  simp
 simp only [Lo.dn, this]
theorem dn_len {c : Nat → Nat} {L : Lo} : (L.dn c).pgs.length ≤ L.pgs.length := by
 have := dn_sub (c := c) (L := L).length_le
 simpa using this
theorem Wf.dn {mid : Nat} {c : Nat → Nat} {L : Lo} (w : Wf mid L) : Wf mid (L.dn c) := by
 refine ⟨fun e => ?_, w.nd.sublist dn_sub, fun x hx => ?_, fun e => w.hm (dn_sub.subset e), fun l hl => ⟨(w.hl l hl).1, fun e => (w.hl l hl).2 (dn_sub.subset e)⟩, ?_⟩
 ·simp [Lo.dn, w.nil e]
 ·simp only [Lo.dn] at hx
  obtain ⟨y, hy, h⟩ := List.mem_filterMap.1 hx
  rw [(dnP_key h).2.1]
  exact w.d y hy
 ·have := w.le
  have h2 := dn_len (c := c) (L := L)
  simp only [Lo.dn] at h2 ⊢
  omega
theorem Less.dn {mid : Nat} {c : Nat → Nat} {L : Lo} : Less mid L (L.dn c) := fun i h => by
 unfold Lo.cell at h ⊢
 split at h
 ·cases h
 ·rename_i hm
  rw [if_neg hm]
  split at h
  ·cases h
  ·rename_i hl
   rw [if_neg (show ¬ (L.dn c).lid = some i from hl)]
   rw [Option.map_eq_none_iff] at h ⊢
   rw [getK_none] at h ⊢
   exact fun e => h (dn_sub.subset e)
theorem dn_step {c : Nat → Nat} {p : Nat} {L : Lo} (hn : (L.pgs.map (·.1)).Nodup) {q : Pg} (h : getK p L.pgs = some q) (h1 : (c p : Int) < q.users) (h2 : q.users ≤ 1024) : (L.dn c).letP p { q with users := q.users - c p } = L.dn (inc p c) := by
 have hw : IntKind.i64.wrap (q.users - c p - 1) = q.users - c p - 1 := w64 (by omega) (by omega)
 have key : ∀ x ∈ L.pgs, x.1 = p → x.2 = q := fun x hx e => by
  subst e
  have := getK_of hn (k := x.1) (v := x.2) hx
  rw [h] at this
  cases this; rfl
 unfold Lo.letP
 simp only [lessU, hw]
 split
 ·rename_i h0
  have : delK p (L.pgs.filterMap (dnP c)) = L.pgs.filterMap (dnP (inc p c)) := by
   unfold delK
   rw [List.filter_filterMap]
   apply fmap_congr
   intro x hx
   by_cases e : x.1 = p
   ·have := key x hx e
    obtain ⟨x1, x2⟩ := x
    simp only at e this
    subst e this
    have e1 : dnP (inc x1 c) (x1, x2) = none := by
     unfold dnP inc
     simp only [one_self]
     rw [if_pos (by push_cast; omega)]
    have e2 : dnP c (x1, x2) = some (x1, { x2 with users := x2.users - c x1 }) := by
     unfold dnP
     rw [if_neg (by simp only; omega)]
    rw [e1, e2]
    simp
   ·have e1 : dnP (inc p c) x = dnP c x := by
     unfold dnP inc
     rw [one_ne (fun h => e h.symm)]; rfl
    rw [e1]
    cases e2 : dnP c x with
    | none => rfl
    | some y =>
     have := (dnP_key e2).1
     simp [Option.filter, this, e]
  simp only [Lo.delP, Lo.dn, this]
 ·rename_i h0
  have : setK p { q with users := q.users - c p - 1 } (L.pgs.filterMap (dnP c)) = L.pgs.filterMap (dnP (inc p c)) := by
   unfold setK
   rw [List.map_filterMap]
   apply fmap_congr
   intro x hx
   by_cases e : x.1 = p
   ·have := key x hx e
    obtain ⟨x1, x2⟩ := x
    simp only at e this
    subst e this
    have e1 : dnP (inc x1 c) (x1, x2) = some (x1, { x2 with users := x2.users - c x1 - 1 }) := by
     unfold dnP inc
     simp only [one_self]
     rw [if_neg (by push_cast; omega)]
     push_cast
     simp only [Int.sub_sub]
    have e2 : dnP c (x1, x2) = some (x1, { x2 with users := x2.users - c x1 }) := by
     unfold dnP
     rw [if_neg (by simp only; omega)]
    rw [e1, e2]
    simp
   ·have e1 : dnP (inc p c) x = dnP c x := by
     unfold dnP inc
     rw [one_ne (fun h => e h.symm)]; rfl
    rw [e1]
    cases e2 : dnP c x with
    | none => rfl
    | some y =>
     have := (dnP_key e2).1
     simp [this, e]
  simp only [Lo.setP, Lo.dn, this]
end
section
set_option maxHeartbeats 2000000
set_option maxRecDepth 100000
set_option linter.unusedSimpArgs false
set_option linter.unusedVariables false
attribute [local simp] wpA wpX RunA RunD runF foot footP footB idsA bare apart runL step1 gsel_f gsel_t gsel_s res_same res_and1 res_and2 res_and3 res_and4 res_and5 res_and6 res_false res_true res_v res_ptr res_fptr res_osl res_xsl soft aAppendZ aCap ovlI ovlJ res_fsl res_esl res_agg res_tup res_fn res_junk res_anyb aPick hk imp_left iteV dstOk guardOk astep astepE AI.ev AI.look AI.put envOf aBox cellsOf allOne allOneA oneA Value.oneCell' Value.cells newObj' aFieldAddr aLoad obj readAt thenA blockA condA retA resA tupA view hot hotC hotR depthV cAgg cInt cBool mkAgg allV aAlloc aBuild fillA writeAt aStore isAggA aField idx aIndexAddr aIndex bnd aSlice aExtract aLen aBuiltin aCall isStatic eqAgg eqTy eqC ev_add ev_sub ev_mul ev_quo ev_rem ev_and ev_or ev_xor ev_andNot ev_shl ev_shr ev_eql ev_neq ev_lss ev_leq ev_gtr ev_geq ev_agg w64 wu32 wu8 ev_not ev_neg Cod.plain RCod.plain argM finM cold coldC coldR goInt intDec boolDec aggDec Weaker heapW lowA lowC Again slDec undef aBuildSlice setRows aAppend rowsOf aMakeSlice aClear aCopyX aCopy softer_self softer_nil valsOf ev_min2 ev_max2 hotR_set hotR_append take_map_set irow_cold irow_mapM irow_mapMc irow_view irow_viewc irow_hotR irow_ren irow_renc irow_low WeakT heapT thOf ren renC AgainT NextF NextT fnDec cFn rNil selfLt natLt0 natLt1 getLastMap frame0 frame1 own0 own1 argG finG tau tauI tauO tauC bareA bareC bareH irow_tau irow_tauc irow_bare irow_flat irow_bareR ownA_nil ownT_nil ownA_c ownT_c ownA_s ownT_s takeMapLen footC plainA noId noIdC cloneF frame0F frame1F insertF replaceI replaceF cellDec rCell fpDec cFp rTwo deleteF allV_oA oneA_oA res_oA RunR RunE runFT footAt hotR_cat tmodN aEqH aSliceA fxSz3 fxBy3 fxAg3 fxZe3 fxSl3 fxSz4 fxAg4 fxSz5 fxBy5 fxAg5 fxZe5 fxSl22 fxAr22 fxSl23 fxAr23 fxAg24 fxSz31 fxAg31 fxZe31 fxSl31 fxAr31 fxSz34 fxAg34 fxAr35 fxSz37 fxAg37 fxZe37 fxFi37x0 fxFi37x1 fxFi37x2 fxPl37 fxSz38 fxAg38 fxZe38 fxAr38 fxSz47 fxAg47 fxZe47 fxFi47x0 fxPl47 fxZe51 fxFi51x0 fxFi51x1 fxPl51 fxAg55 fxSz56 fxAg56 fxSl56 fxAr56 fxZe58 fxFi58x0 fxFi58x1 fxFi58x2 fxFi58x3 fxFi58x4 fxPl58 fxSz62 fxAg62 fxZe62 fxFi62x0 fxFi62x1 fxFi62x2 fxFi62x3 fxPl62 fxZe65 fxSl67 fxAr67 fxSz72 fxAg72 fxZe72 fxSl72 fxAr72 fxPl72 fxSz74 fxZe74 fxFi74x0 fxFi74x1 fxFi74x2 fxFi74x3 fxPl74 fxSz75 fxBy75 fxAg75 fxZe75 fxSz79 fxAg79 fxZe79 fxFi79x0 fxFi79x1 fxPl79 fxEq47 fxCv3x5 fxCv3x34 fxCv3x70 fxCv3x100 fxCv5x34 fxCv34x3 fxCv34x5 fxCv34x112 fxCv70x3 fxCv100x34 fxCv112x3 fxLn31 fxLn56 fxFm4 fxFm5 fxFi5 fxFm6 fxFm7 fxFm8 fxFm9 fxFi9 fxFm10 fxFm11 fxFm12 fxFm13 fxFm14 fxFm15 fxFm16 fxFm17 fxFi17 fxFm18 fxFm19 fxFi19 fxFm20 fxFm21 fxFm22 fxFm23 fxFm24 fxFi24 fxFm25 fxFi25 fxFm26 fxFm27 fxFm28 fxFi28 fxFm29 fxFm30 fxFm31 fxFm32 fxFm33 fxFi33 fxFm34 fxFi34 fxFm35 fxFm36 fxFm37 fxFm38 fxFm39 fxFi39 fxFm40 fxFi40 fxFm41 fxFi41 fxFm42 fxFm45 fxFi45 fxFm46 fxFi46 fxFm47 fxFm48 fxFm49 fxFi49 fxFm50 fxFm51 fxFm52 fxFi52 fxFm64 fxFi64 fxFm87 fxFm88 fxFm89
section
attribute [local simp] pgRow_len pg16 pg17 pg18 pg16' pg17' pg18' ww16 ww17 ww18 keyI_ok aLookup aMapUpdate aDelete lkRes bin_mn spV enV Try.underlying65 Try.underlying55
attribute [local simp] bin_mm
theorem runN_of {P : Program} {C : Orc} {nt : Nat} {ops : Array Oper} {K : Env → Heap → Prop} {ρ : Env} {H : Heap} {o : Oper} {l : List Oper} {d : Tmp} {x : Operand} {rid id : Nat} {c : Int} {sn : Row} {es : List Row}
  (ho : ops.toList = o :: l) (h1 : o.op = .next x false) (h2 : o.guard = none) (h3 : o.dst = some d) (h4 : d < nt) (h5 : ev ρ x = .ptr rid 1 0 0)
  (h6 : H[rid]? = some (some (0, [[.ptr id 0 0 0, .v (.int .i64 c), .v (.int .i64 c)], sn]))) (h7 : H[id]? = some (some (0, [.v (.int .i64 c)] :: es)))
  (h8 : ∀ r ∈ es, ∃ k a b, r = [k, a, .v (.int .i64 b)]) (h9 : ∀ x ∈ sn, ∃ b, x = .v (.int .i64 b))
  (h10 : ∀ (i : Nat) (k a : AVal) (b : Int), es[i]? = some [k, a, .v (.int .i64 b)] → AVal.v (.int .i64 b) ∉ sn → RunK P C nt ops l K (put ρ (some d) (.tup [.v (.bool true), k, a])) (H.set rid (some (0, [[.ptr id 0 0 0, .v (.int .i64 c), .v (.int .i64 c)], sn ++ [.v (.int .i64 b)]]))))
  (h11 : (∀ (i : Nat) (k a : AVal) (b : Int), es[i]? = some [k, a, .v (.int .i64 b)] → AVal.v (.int .i64 b) ∈ sn) → RunK P C nt ops l K (put ρ (some d) (.v (.tuple #[.bool false]))) H) : RunN P C nt ops K ρ H := by
 unfold RunN
 rw [ho]
 simp only [h1, h2, h3, h5]
 exact ⟨h4, id, c, c, c, sn, es, h6, h7, rfl, Int.le_refl _, h8, h9, h10, h11⟩
def vsE (es : En) (is : List Nat) : En := is.map fun i => (es[i]?).getD (0, (0, 0))
def bsR (bs : List Int) (is : List Nat) : Row := is.map fun i => .v (.int .i64 ((bs[i]?).getD 0))
def forkR (H : Heap) (mid : Nat) (A : Ab) (s : Int) : AVal × Heap := match getK s A.sps with
 | none => (.v (.tuple #[.int .i64 0, .int .i64 4]), H)
 | some x => match freeF (A.sps.map (·.1)) 1 16 with
  | none => (.v (.tuple #[.int .i64 0, .int .i64 6]), H)
  | some to => (.v (.tuple #[.int .i64 to, .int .i64 0]), wr (H.set A.lo.sid (some (0, (A.sps.map (fun x => (x.1, x.2.1)) ++ [(to, H.length)]).map mRow)) ++ (some (0, x.2.map enRow) :: List.replicate (x.2.length + 1) none)) mid (A.lo.up fun p => cntE p x.2))
noncomputable def forkM : Row → Heap → Option (AVal × Heap)
 | [.ptr mid 5 0 0, .v (.int .i64 s)], H => (repAt H mid).map fun A => forkR H mid A s
 | _, _ => none
structure ForkI (H1 : Heap) (mid n mp : Nat) (c : Int) (L : Lo) (es' : En) (bs : List Int) (X : Heap) (is : List Nat) : Prop where
 st : St X mid (L.up fun p => cntE p (vsE es' is))
 len : X.length = n + 2 + is.length
 nn : X[n]? = some (some (0, (vsE es' is).map enRow))
 it : X[n + 1]? = some (some (0, [[.ptr mp 0 0 0, .v (.int .i64 c), .v (.int .i64 c)], bsR bs is]))
 old : ∀ i, i < n → L.cell mid i = none → X[i]? = H1[i]?
 gar : ∀ j, n + 2 ≤ j → j < X.length → X[j]? = some none
 nd : is.Nodup
 lt : ∀ i ∈ is, i < es'.length
theorem freeF_no {ks : List Int} {to : Int} : ∀ {m : Nat} {s : Int}, freeF ks s m = some to → to ∉ ks
 | m + 1, s, h => by
  unfold freeF at h
  split at h
  ·exact freeF_no h
  ·rename_i hn
   cases h
   exact hn
theorem St.lt_none {H : Heap} {mid i : Nat} {L : Lo} (s : St H mid L) (h : H.length ≤ i) : L.cell mid i = none := by
 cases e : L.cell mid i with
 | none => rfl
 | some x => exact absurd (s.lt e) (by omega)
theorem vsE_app {es : En} {is : List Nat} {i : Nat} {e : Int × (Nat × Int)} (h : es[i]? = some e) : vsE es (is ++ [i]) = vsE es is ++ [e] := by
 simp [vsE, h]
theorem bsR_app {bs : List Int} {is : List Nat} {i : Nat} {b : Int} (h : bs[i]? = some b) : bsR bs (is ++ [i]) = bsR bs is ++ [AVal.v (.int .i64 b)] := by
 simp [bsR, h]
theorem up_inc {es : En} {is : List Nat} {i p : Nat} {k rg : Int} (h : es[i]? = some (k, (p, rg))) : inc p (fun x => cntE x (vsE es is)) = fun x => cntE x (vsE es (is ++ [i])) := by
 funext x
 rw [vsE_app h, cntE_app, cntE_cons]
 simp [inc, cntE_nil]
theorem vsE_key {es : En} {is : List Nat} {i : Nat} {e : Int × (Nat × Int)} (hn : (es.map (·.1)).Nodup) (hi : i ∉ is) (hl : ∀ j ∈ is, j < es.length) (h : es[i]? = some e) : e.1 ∉ (vsE es is).map (·.1) := by
 intro hm
 simp only [vsE, List.map_map, List.mem_map, Function.comp] at hm
 obtain ⟨j, hj, he⟩ := hm
 have hjl := hl j hj
 have hil := (List.getElem?_eq_some_iff.1 h).1
 rw [List.getElem?_eq_getElem hjl] at he
 simp only [Option.getD_some] at he
 have e1 : (es.map (·.1))[j]'(by simpa using hjl) = (es.map (·.1))[i]'(by simpa using hil) := by
  simp only [List.getElem_map]
  rw [he, (List.getElem?_eq_some_iff.1 h).2]
 have := (List.getElem_inj hn).1 e1
 subst this
 exact hi hj
theorem vsE_nodup {es : En} {is : List Nat} (hn : (es.map (·.1)).Nodup) (h : is.Nodup) (hl : ∀ i ∈ is, i < es.length) : ((vsE es is).map (·.1)).Nodup := by
 simp only [vsE, List.map_map]
 rw [List.Nodup, List.pairwise_map]
 refine h.imp_of_mem ?_
 intro i j hi hj hij he
 have hil := hl i hi
 have hjl := hl j hj
 simp only [Function.comp, List.getElem?_eq_getElem hil, List.getElem?_eq_getElem hjl, Option.getD_some] at he
 have e1 : (es.map (·.1))[i]'(by simpa using hil) = (es.map (·.1))[j]'(by simpa using hjl) := by simpa using he
 exact hij ((List.getElem_inj hn).1 e1)
theorem ForkI.step {H1 X : Heap} {mid n mp i p : Nat} {c b k rg : Int} {L : Lo} {es' : En} {bs : List Int} {is : List Nat} {q : Pg} (f : ForkI H1 mid n mp c L es' bs X is) (hL : (L.pgs.map (·.1)).Nodup) (hcn : ∀ j, n ≤ j → L.cell mid j = none) (hi : i ∉ is) (he : es'[i]? = some (k, (p, rg))) (hb : bs[i]? = some b) (hq : getK p L.pgs = some q) (hp : p < n) :
  ForkI H1 mid n mp c L es' bs ((((X.set (n + 1) (some (0, [[.ptr mp 0 0 0, .v (.int .i64 c), .v (.int .i64 c)], bsR bs is ++ [AVal.v (.int .i64 b)]]))).set p (some (19, [pgRow { q with users := q.users + cntE p (vsE es' is) + 1 }]))).set n (some (0, (vsE es' is).map enRow ++ [enRow (k, (p, rg))]))) ++ [none]) (is ++ [i]) := by
 have hup : getK p (L.up fun x => cntE x (vsE es' is)).pgs = some { q with users := q.users + cntE p (vsE es' is) } := by rw [up_get, hq]; rfl
 have hqd := (f.st.pg hup).2
 have hcn' : ∀ c' j, n ≤ j → (L.up c').cell mid j = none := fun c' j hj => Less.up j (hcn j hj)
 have s1 := ((f.st.set_ne (o := some (0, [[.ptr mp 0 0 0, .v (.int .i64 c), .v (.int .i64 c)], bsR bs is ++ [AVal.v (.int .i64 b)]])) (hcn' _ (n + 1) (by omega)))).setP (q' := { q with users := q.users + cntE p (vsE es' is) + 1 }) hup hqd
 have hus : (L.up fun x => cntE x (vsE es' is)).setP p { q with users := q.users + cntE p (vsE es' is) + 1 } = L.up (inc p fun x => cntE x (vsE es' is)) := up_step hL hq
 rw [hus, up_inc he] at s1
 have s2 := (s1.set_ne (o := some (0, (vsE es' is).map enRow ++ [enRow (k, (p, rg))])) (hcn' _ n (Nat.le_refl _))).app (K := [none])
 have hl := f.len
 have hnn := (List.getElem?_eq_some_iff.1 f.nn).1
 refine ⟨s2, ?_, ?_, ?_, fun j hj hc => ?_, fun j hj hl2 => ?_, ?_, ?_⟩
 ·simp; omega
 ·rw [List.getElem?_append_left (by simp; omega), List.getElem?_set_self (by simp; omega), vsE_app he]
  simp
 ·rw [List.getElem?_append_left (by simp; omega), List.getElem?_set_ne (by omega), List.getElem?_set_ne (by omega), List.getElem?_set_self (by omega), bsR_app hb]
 ·have hjp : ¬ p = j := by
   rintro rfl
   have := (Less.up (c := fun x => cntE x (vsE es' is))) p hc
   rw [f.st.wf.cell_pg hup] at this
   cases this
  rw [List.getElem?_append_left (by simp; omega), List.getElem?_set_ne (by omega), List.getElem?_set_ne hjp, List.getElem?_set_ne (by omega), f.old j hj hc]
 ·simp only [List.length_set, List.length_append, List.length_cons, List.length_nil] at hl2
  rcases Nat.lt_or_ge j X.length with h | h
  ·rw [List.getElem?_append_left (by simpa using h), List.getElem?_set_ne (by omega), List.getElem?_set_ne (by omega), List.getElem?_set_ne (by omega), f.gar j hj h]
  ·rw [List.getElem?_append_right (by simpa using h)]
   simp only [List.length_set]
   rw [show j - X.length = 0 by omega]; rfl
 ·rw [List.nodup_append]
  refine ⟨f.nd, by simp, fun a ha b hb => ?_⟩
  simp at hb
  subst hb
  rintro rfl
  exact hi ha
 ·intro j hj
  rcases List.mem_append.1 hj with h | h
  ·exact f.lt j h
  ·simp at h
   subst h
   exact (List.getElem?_eq_some_iff.1 he).1
theorem up_back {mid i : Nat} {c : Nat → Nat} {L : Lo} (h : (L.up c).cell mid i = none) : L.cell mid i = none := by
 unfold Lo.cell at h ⊢
 split at h
 ·cases h
 ·rename_i hm
  rw [if_neg hm]
  split at h
  ·cases h
  ·rename_i hl
   rw [if_neg (show ¬ L.lid = some i from hl)]
   rw [Option.map_eq_none_iff] at h ⊢
   rw [getK_none] at h ⊢
   rw [up_keys] at h
   exact h
theorem ForkI.init {H1 : Heap} {mid n mp : Nat} {c : Int} {L : Lo} {es' : En} {bs : List Int} (h1 : St H1 mid L) (h2 : H1.length = n + 1) (h3 : H1[n]? = some (some (0, []))) : ForkI H1 mid n mp c L es' bs (H1 ++ [some (0, [[.ptr mp 0 0 0, .v (.int .i64 c), .v (.int .i64 c)], []])]) [] := by
 have e : (L.up fun p => cntE p (vsE es' [])) = L := up_zero
 refine ⟨by rw [e]; exact h1.app, by simp [h2], ?_, ?_, fun i hi hc => ?_, fun j hj hl => ?_, by simp, by simp⟩
 ·rw [List.getElem?_append_left (by omega)]; exact h3
 ·rw [List.getElem?_append_right (by omega), h2]
  simp [bsR]
 ·rw [List.getElem?_append_left (by omega)]
 ·simp at hl; omega
theorem vsE_all {es : En} {bs : List Int} {is : List Nat} (hl : bs.length = es.length) (hbn : bs.Nodup) (hn : is.Nodup) (hlt : ∀ i ∈ is, i < es.length) (h : ∀ i, i < es.length → AVal.v (.int .i64 ((bs[i]?).getD 0)) ∈ bsR bs is) : (vsE es is).Perm es := by
 have hp : is.Perm (List.range es.length) := by
  rw [List.perm_ext_iff_of_nodup hn List.nodup_range]
  intro i
  rw [List.mem_range]
  refine ⟨hlt i, fun hi => ?_⟩
  have := h i hi
  simp only [bsR, List.mem_map, AVal.v.injEq, Value.int.injEq, true_and] at this
  obtain ⟨j, hj, he⟩ := this
  have hjl := hlt j hj
  rw [List.getElem?_eq_getElem (by omega), List.getElem?_eq_getElem (by omega)] at he
  simp only [Option.getD_some] at he
  have := (List.getElem_inj hbn).1 he
  subst this
  exact hj
 have h1 : (vsE es is).Perm (vsE es (List.range es.length)) := hp.map _
 have h2 : vsE es (List.range es.length) = es := by
  apply List.ext_getElem?
  intro i
  simp only [vsE, List.getElem?_map]
  by_cases hi : i < es.length
  ·rw [List.getElem?_range hi]
   simp [hi]
  ·have h3 : (List.range es.length)[i]? = none := List.getElem?_eq_none (by simp; omega)
   have h4 : es[i]? = none := List.getElem?_eq_none (by omega)
   rw [h3, h4]; rfl
 rwa [h2] at h1
theorem vsE_cnt {es es' : En} {is : List Nat} {p : Nat} (hn : (es.map (·.1)).Nodup) (hk : ∀ e ∈ es, 0 ≤ e.1 ∧ e.1 < 64) (hp : es'.Perm es) (h : is.Nodup) (hl : ∀ i ∈ is, i < es'.length) : cntE p (vsE es' is) ≤ 64 := by
 have h1 : cntE p (vsE es' is) ≤ (vsE es' is).length := List.countP_le_length
 have h2 := below h hl
 have h3 := below_int (n := 64) (a := 0) hn (by
  intro z hz
  obtain ⟨e, he, rfl⟩ := List.mem_map.1 hz
  have := hk e he
  omega)
 have h4 := hp.length_eq
 have h5 : (vsE es' is).length = is.length := by simp [vsE]
 simp at h3
 omega
theorem ForkI.fin {H1 X : Heap} {mid n mp : Nat} {c : Int} {L : Lo} {es es' : En} {bs : List Int} {is : List Nat} (f : ForkI H1 mid n mp c L es' bs X is) (hcn : ∀ j, n ≤ j → L.cell mid j = none) (hbl : bs.length = es'.length) (hbn : bs.Nodup) (hpe : es'.Perm es) (hmp : mp < n) (hcm : L.cell mid mp = none)
  (hE1 : H1[mp]? = some (some (0, [.v (.int .i64 c)] :: stampL (es'.map enRow) bs))) {Y : Heap} (hYl : Y.length = n) (hY : ∀ i, i < n → i ≠ mp → Y[i]? = H1[i]?) (hYm : Y[mp]? = some (some (0, es.map enRow)))
  (hall : ∀ (i : Nat) (k a : AVal) (b : Int), (stampL (es'.map enRow) bs)[i]? = some [k, a, .v (.int .i64 b)] → AVal.v (.int .i64 b) ∈ bsR bs is) {n0 : Nat} {ρ : Env} :
  Ent n0 (ρ, wr (Y ++ (some (0, es.map enRow) :: List.replicate (es.length + 1) none)) mid (L.up fun p => cntE p es)) (ρ, X) := by
 have hv := vsE_all hbl hbn f.nd f.lt fun i hi => by
  have hi2 : i < bs.length := by omega
  rw [List.getElem?_eq_getElem hi2]
  exact hall i (.v (.int .i64 es'[i].1)) (enV es'[i].2) bs[i] (by rw [stampL_get (by simpa using hi) hi2]; simp [enRow])
 have hvs := hv.trans hpe
 have hil : is.length = es.length := by have := hvs.length_eq; simpa [vsE] using this
 have hupe : (L.up fun p => cntE p (vsE es' is)) = L.up fun p => cntE p es := by
  congr 1
  funext p
  exact cntE_perm hvs
 have hXm : X[mp]? = some (some (0, [.v (.int .i64 c)] :: stampL (es'.map enRow) bs)) := by rw [f.old mp hmp hcm]; exact hE1
 have hl := f.len
 have e0 := Ent.kill (n0 := n0) (ρ := ρ) (H := X) (n + 1)
 have e1 := Ent.hide (n0 := n0) (ρ := ρ) (H := X.set (n + 1) none) (id := mp) (by rw [List.getElem?_set_ne (by omega)]; exact hXm) (by simpa using hbl) (fun r hr => by obtain ⟨e, _, rfl⟩ := List.mem_map.1 hr; exact ⟨_, _, rfl⟩)
 have e2 := Ent.perm (n0 := n0) (ρ := ρ) (H := (X.set (n + 1) none).set mp (some (0, es'.map enRow))) (id := mp) (rows := es'.map enRow) (rows' := es.map enRow) (List.getElem?_set_self (by simp; omega)) (hpe.map _) (fun r hr => by obtain ⟨e, _, rfl⟩ := List.mem_map.1 hr; rfl)
 have e3 := Ent.perm (n0 := n0) (ρ := ρ) (H := ((X.set (n + 1) none).set mp (some (0, es'.map enRow))).set mp (some (0, es.map enRow))) (id := n) (rows := (vsE es' is).map enRow) (rows' := es.map enRow) (by rw [List.getElem?_set_ne (by omega), List.getElem?_set_ne (by omega), List.getElem?_set_ne (by omega)]; exact f.nn) (hvs.map _) (fun r hr => by obtain ⟨e, _, rfl⟩ := List.mem_map.1 hr; rfl)
 refine Eq.mp ?_ (e3.trans (e2.trans (e1.trans e0)))
 congr 2
 symm
 have hst := f.st
 rw [hupe] at hst
 refine wr_eq (((hst.set_ne (Less.up _ (hcn _ (by omega)))).set_ne (Less.up _ hcm)).set_ne (Less.up _ hcm) |>.set_ne (Less.up _ (hcn _ (Nat.le_refl _)))) ?_ fun i hi => ?_
 ·simp [hYl]; omega
 ·have hi2 := up_back hi
  rcases Nat.lt_or_ge i n with h | h
  ·rw [List.getElem?_set_ne (by omega), List.getElem?_append_left (by omega)]
   by_cases him : i = mp
   ·subst him
    rw [List.getElem?_set_self (by simp; omega), hYm]
   ·rw [List.getElem?_set_ne (by omega), List.getElem?_set_ne (by omega), List.getElem?_set_ne (by omega), f.old i h hi2, hY i h him]
  ·rw [List.getElem?_append_right (by omega), hYl]
   by_cases h1 : i = n
   ·subst h1
    rw [List.getElem?_set_self (by simp; omega)]; simp
   ·rw [List.getElem?_set_ne (by omega), List.getElem?_set_ne (by omega), List.getElem?_set_ne (by omega)]
    obtain ⟨j, hj⟩ : ∃ j, i - n = j + 1 := ⟨i - n - 1, by omega⟩
    rw [hj, List.getElem?_cons_succ]
    by_cases h2 : i = n + 1
    ·subst h2
     rw [List.getElem?_set_self (by omega), List.getElem?_replicate, if_pos (by omega)]
    ·rw [List.getElem?_set_ne (by omega), List.getElem?_replicate]
     by_cases h3 : i < X.length
     ·rw [f.gar i (by omega) h3, if_pos (by omega)]
     ·rw [List.getElem?_eq_none (by omega), if_neg (by omega)]
theorem fork_inl : InlOk Try.prog 12 forkM := by
 refine inl_canonE Try.func12 rfl fun args H r H' hr => ⟨args, canon_refl args, ?_⟩
 unfold forkM at hr
 split at hr
 case h_2 => cases hr
 rename_i mid s
 simp only [Option.bind_eq_some_iff, Option.map_eq_some_iff] at hr
 obtain ⟨A, hA, hr⟩ := hr
 obtain ⟨rp, gd⟩ := repAt_iff.1 hA
 have hM := rp.st.mem
 have hS := rp.sp
 have hf := rp.find s
 unfold forkR at hr
 have hsl : A.lo.sid < H.length := (List.getElem?_eq_some_iff.1 hS).1
 have hml : mid < H.length := rp.st.lt cell_m
 cases hg : getK s A.sps with
 | none =>
  simp only [hg, Prod.mk.injEq] at hr
  obtain ⟨rfl, rfl⟩ := hr
  simp only [Lo.row] at hM
  refine bodyE_of ((noOrc_ok.withI make_inl).withD (fun i => if i = 7 then [(1000000,1000000)] else [])) fxMix (by kernel_rfl) (by simp [Try.ntmps12]) ?_
  intro C cP cI cN cD cF cA cR cL
  have cn0 := orcI make_inl (C := C) (by rw [cN]; rfl)
  replace cI := fun g => congrFun cI g
  simp only [Orc.withP, Orc.withI, Orc.withF, Orc.withD, Orc.withA, Orc.withR, Orc.withC, noOrc] at cI
  replace cR : C.rd = fun _ => none := cR
  replace cD : C.dyn = fun i => if i = 7 then [(1000000,1000000)] else [] := cD
  replace cF := fun g => congrFun cF g
  simp only [Orc.withP, Orc.withI, Orc.withF, Orc.withD, Orc.withA, Orc.withR, Orc.withC, noOrc] at cF
  replace cA : C.alt = fun _ => [] := cA
  clear cP cN
  simp [Try.ntmps12, Try.results12, cSl, cn0, cI, cD, cR, cF, cA, hM, hS, hf, hg]
  exact Ent.refl _ _
 | some x =>
  obtain ⟨mp, es⟩ := x
  simp only [hg] at hr
  obtain ⟨hE, hnd, _⟩ := rp.findE hg 0
  have hrow : ∀ r ∈ es.map enRow, r.length = 2 := fun r hr => by
   obtain ⟨e, _, rfl⟩ := List.mem_map.1 hr
   rfl
  have hcell : A.lo.cell mid mp = none := rp.freeE (getK_mem hg)
  have hsm : ¬ A.lo.sid = mp := by
   have := rp.ndm
   rw [List.nodup_cons] at this
   intro e
   exact this.1 (List.mem_map.2 ⟨_, getK_mem hg, e.symm⟩)
  have hms : ¬ mp = A.lo.sid := fun e => hsm e.symm
  have hel : mp < H.length := (List.getElem?_eq_some_iff.1 hE).1
  have hmm : ¬ mid = mp := by rintro rfl; rw [cell_m] at hcell; cases hcell
  have hmm2 : ¬ mp = mid := fun e => hmm e.symm
  refine bodyX_of hE hrow ((noOrc_ok.withI make_inl).withD (fun i => if i = 7 then [(1000000,1000000)] else [])) fxMix (by kernel_rfl) (by simp [Try.ntmps12]) ?_
  intro C cP cI cN cD cF cA cR cL
  have cn0 := orcI make_inl (C := C) (by rw [cN]; rfl)
  replace cI := fun g => congrFun cI g
  simp only [Orc.withP, Orc.withI, Orc.withF, Orc.withD, Orc.withA, Orc.withR, Orc.withC, noOrc] at cI
  replace cR : C.rd = fun _ => none := cR
  replace cD : C.dyn = fun i => if i = 7 then [(1000000,1000000)] else [] := cD
  replace cF := fun g => congrFun cF g
  simp only [Orc.withP, Orc.withI, Orc.withF, Orc.withD, Orc.withA, Orc.withR, Orc.withC, noOrc] at cF
  replace cA : C.alt = fun _ => [] := cA
  clear cP cN
  intro c rs bs hp hbl hbn hlt
  obtain ⟨es', rfl, hpe⟩ := perm_of_map hp es rfl
  rw [List.length_map] at hbl
  have hst0 : St (H.set mp (some (0, [.v (.int .i64 c)] :: stampL (es'.map enRow) bs))) mid A.lo := rp.st.set_ne hcell
  have hss : (A.sps.map (fun x => (x.1, x.2.1))).map mRow = A.sps.map spRow := by
   rw [List.map_map]; rfl
  have hks : (A.sps.map (fun x => (x.1, x.2.1))).map (·.1) = A.sps.map (·.1) := by
   rw [List.map_map]; rfl
  obtain ⟨H0, hH0⟩ : ∃ x, H.set mp (some (0, [.v (.int .i64 c)] :: stampL (es'.map enRow) bs)) = x := ⟨_, rfl⟩
  rw [hH0] at hst0
  have hl0 : H0.length = H.length := by rw [← hH0, List.length_set]
  have hS0 : H0[A.lo.sid]? = some (some (0, (A.sps.map (fun x => (x.1, x.2.1))).map mRow)) := by rw [← hH0, List.getElem?_set_ne hms, hS, hss]
  have hM0 := hst0.mem
  have hE0 : H0[mp]? = some (some (0, [.v (.int .i64 c)] :: stampL (es'.map enRow) bs)) := by rw [← hH0, List.getElem?_set_self hel]
  have hnd0 : ((A.sps.map (fun x => (x.1, x.2.1))).map (·.1)).Nodup := by rw [hks]; exact rp.nds
  have hmk : makeM [.ptr mid 5 0 0] H0 = some (makeR H0 A.lo.sid (A.sps.map (fun x => (x.1, x.2.1)))) := by
   unfold makeM
   simp only [stAt_iff.2 hst0, Option.bind_some]
   rw [mpAt_iff.2 (show MpAt H0 A.lo.sid _ from ⟨hS0, hnd0⟩)]
   rfl
  simp only [makeR, hks] at hmk
  simp only [Lo.row] at hM hM0
  rw [hH0]
  have hf0 := find_key (g := mRow) (v := mV) (fun _ => rfl) s (A.sps.map (fun x => (x.1, x.2.1))) hnd0
  rw [show getK s (A.sps.map (fun x => (x.1, x.2.1))) = some mp by rw [getK_map (fun x : Nat × En => x.1), hg]; rfl] at hf0
  generalize hSS : A.sps.map (fun x => (x.1, x.2.1)) = SS at *
  cases hfr : freeF (A.sps.map (·.1)) 1 16 with
  | none =>
   simp only [hfr, Prod.mk.injEq] at hr hmk
   obtain ⟨rfl, rfl⟩ := hr
   simp only [Option.map_some, mV] at hf0
   simp [Try.ntmps12, Try.results12, cSl, cn0, cI, cD, cR, cF, cA, hM0, hS0, hf0, hmk]
   have e1 := Ent.hide (n0 := H.length) (ρ := [(0, .v (.tuple #[.int .i64 0, .int .i64 6]))]) hE0 (by simpa using hbl) (fun r hr => by obtain ⟨e, _, rfl⟩ := List.mem_map.1 hr; exact ⟨_, _, rfl⟩)
   have e2 := Ent.perm (n0 := H.length) (ρ := [(0, .v (.tuple #[.int .i64 0, .int .i64 6]))]) (H := H0.set mp (some (0, es'.map enRow))) (id := mp) (rows := es'.map enRow) (rows' := es.map enRow) (List.getElem?_set_self (by omega)) hp (fun r hr => by obtain ⟨e, _, rfl⟩ := List.mem_map.1 hr; rfl)
   have e3 : (H0.set mp (some (0, es'.map enRow))).set mp (some (0, es.map enRow)) = H := by
    rw [← hH0, List.set_set, List.set_set]
    have hg1 := (List.getElem?_eq_some_iff.1 hE).2
    rw [← hg1]
    exact List.set_getElem_self hel
   rw [e3] at e2
   exact e2.trans e1
  | some to =>
   simp only [hfr, Prod.mk.injEq] at hr hmk
   obtain ⟨rfl, rfl⟩ := hr
   rw [hl0] at hmk
   have hto : to ∉ SS.map (·.1) := by rw [hks]; exact freeF_no hfr
   obtain ⟨H1, hH1⟩ : ∃ x, (H0 ++ [some (0, [])]).set A.lo.sid (some (0, (SS ++ [(to, H.length)]).map mRow)) = x := ⟨_, rfl⟩
   rw [hH1] at hmk
   have hl1 : H1.length = H.length + 1 := by rw [← hH1]; simp [hl0]
   have hsn : ¬ A.lo.sid = H.length := by omega
   have hst1 : St H1 mid A.lo := by rw [← hH1]; exact (hst0.app).set_ne rp.freeS
   have hM1 := hst1.mem
   simp only [Lo.row] at hM1
   have hnd1 : ((SS ++ [(to, H.length)]).map (·.1)).Nodup := by
    rw [List.map_append, List.nodup_append]
    refine ⟨hnd0, by simp, fun a ha b hb => ?_⟩
    simp at hb
    subst hb
    rintro rfl
    exact hto ha
   have hS1 : H1[A.lo.sid]? = some (some (0, (SS ++ [(to, H.length)]).map mRow)) := by rw [← hH1, List.getElem?_set_self (by simp; omega)]
   have hE1 : H1[mp]? = some (some (0, [.v (.int .i64 c)] :: stampL (es'.map enRow) bs)) := by rw [← hH1, List.getElem?_set_ne hsm, List.getElem?_append_left (by omega), hE0]
   have hN1 : H1[H.length]? = some (some (0, [])) := by rw [← hH1, List.getElem?_set_ne hsn, List.getElem?_append_right (by omega)]; simp [hl0]
   have hgs : getK s SS = some mp := by rw [← hSS, getK_map (fun x : Nat × En => x.1), hg]; rfl
   have hf1 := find_key (g := mRow) (v := mV) (fun _ => rfl) s (SS ++ [(to, H.length)]) hnd1
   rw [show getK s (SS ++ [(to, H.length)]) = some mp by rw [getK_app, hgs]] at hf1
   have hf2 := find_key (g := mRow) (v := mV) (fun _ => rfl) to (SS ++ [(to, H.length)]) hnd1
   rw [show getK to (SS ++ [(to, H.length)]) = some H.length by rw [getK_app, getK_none.2 hto]; simp] at hf2
   simp only [Option.map_some, mV] at hf0 hf1 hf2
   generalize (SS ++ [(to, H.length)]).map mRow = SR at *
   simp [Try.ntmps12, Try.results12, cSl, cn0, cI, cD, cR, cF, cA, hM0, hS0, hf0, hmk, hM1, hS1, hf1, hE1, aRange, hl1]
   have hcn : ∀ j, H.length ≤ j → A.lo.cell mid j = none := fun j hj => rp.st.lt_none hj
   refine loop_ent (σ := {p : Heap × List Nat // ForkI H1 mid H.length mp c A.lo es' bs p.1 p.2}) (fun p => ([(0, .ptr mid 5 0 0), (6, .v (.int .i64 to)), (31, .ptr (H.length + 1) 1 0 0)], p.val.1)) (fun p => es'.length - p.val.2.length) ⟨(H1 ++ [some (0, [[.ptr mp 0 0 0, .v (.int .i64 c), .v (.int .i64 c)], []])], []), ForkI.init hst1 hl1 hN1⟩ (Ent.env (by simp)) ?_
   rintro ⟨⟨X, is⟩, f⟩
   simp only at f ⊢
   have hX := f.len
   have hIt := f.it
   have hXm : X[mp]? = some (some (0, [.v (.int .i64 c)] :: stampL (es'.map enRow) bs)) := by rw [f.old mp hel hcell]; exact hE1
   have hXM := f.st.mem
   rw [up_row.1] at hXM
   simp only [Lo.row] at hXM
   have hXS : X[A.lo.sid]? = some (some (0, SR)) := by rw [f.old A.lo.sid hsl rp.freeS]; exact hS1
   have hXN := f.nn
   simp [Try.ntmps12, Try.results12, cSl, cn0, cI, cD, cR, cF, cA, hIt, hXm]
   refine runN_of rfl rfl rfl rfl (by decide) rfl hIt hXm stamp_rows (fun x hx => by obtain ⟨i, _, rfl⟩ := List.mem_map.1 hx; exact ⟨_, rfl⟩) ?_ ?_
   ·intro i k a b hi hb
    obtain ⟨⟨k, p, rg⟩, he, hbi, rfl, rfl⟩ := stamp_inv hi
    have hpm := stamp_find hbn he hbi
    obtain ⟨q, hq⟩ := gd.page hg (k := k) (p := p) (rg := rg) (getK_of hnd (hpe.subset (List.mem_of_getElem? he)))
    have hpl : p < H.length := rp.st.id_lt (List.mem_map.2 ⟨_, getK_mem hq, rfl⟩)
    have hni : i ∉ is := fun hm => hb (List.mem_map.2 ⟨i, hm, by rw [hbi]; rfl⟩)
    have fs := f.step rp.st.wf.nd hcn hni he hbi hq hpl
    have hup : getK p (A.lo.up fun x => cntE x (vsE es' is)).pgs = some { q with users := q.users + cntE p (vsE es' is) } := by rw [up_get, hq]; rfl
    obtain ⟨hP, hPd⟩ := f.st.pg hup
    have hu := rp.us gd hq
    have hcu : cntE p (vsE es' is) ≤ 64 := vsE_cnt hnd (fun e he => (gd.key _ (getK_mem hg) e he).1) hpe f.nd f.lt
    have hw : IntKind.i64.wrap (q.users + (cntE p (vsE es' is) : Nat) + 1) = q.users + (cntE p (vsE es' is) : Nat) + 1 := w64 (by omega) (by omega)
    have hkv := vsE_key (e := (k, (p, rg))) (hpe.symm.map (·.1) |>.nodup hnd) hni f.lt he
    have hput := put_key (g := enRow) (v := enV) (fun _ => rfl) k (p, rg) (vsE es' is) (vsE_nodup (hpe.symm.map (·.1) |>.nodup hnd) f.nd f.lt)
    rw [putK_new hkv] at hput
    generalize cntE p (vsE es' is) = u at *
    simp only at hPd
    have hww := ww16 hPd (q.users + u + 1)
    have hpp := pgRow_len hPd
    have hmpp : ¬ mp = p := by rintro rfl; rw [hXm] at hP; cases hP
    have hsp : ¬ A.lo.sid = p := by rintro h; rw [h] at hXS; rw [hXS] at hP; cases hP
    have hmp2 : ¬ mid = p := by rintro rfl; rw [hXM] at hP; cases hP
    have hpp2 : ¬ p = mp := fun e => hmpp e.symm
    have hpsd : ¬ p = A.lo.sid := fun e => hsp e.symm
    have hpmd : ¬ p = mid := fun e => hmp2 e.symm
    have n1 : ¬ p = H.length := by omega
    have n2 : ¬ p = H.length + 1 := by omega
    have n3 : ¬ mp = H.length + 1 := by omega
    have n4 : ¬ mid = H.length + 1 := by omega
    have n5 : ¬ A.lo.sid = H.length + 1 := by omega
    have n6 : ¬ H.length + 1 = p := by omega
    have n7 : ¬ H.length + 1 = mp := by omega
    have n8 : ¬ H.length + 1 = mid := by omega
    have n9 : ¬ H.length + 1 = A.lo.sid := by omega
    have n10 : ¬ H.length = p := by omega
    have n11 : ¬ H.length + 1 = H.length := by omega
    have l1 : p < X.length := by omega
    have l2 : mp < X.length := by omega
    have l3 : mid < X.length := by omega
    have l4 : A.lo.sid < X.length := by omega
    have l5 : H.length < X.length := by omega
    have l6 : H.length + 1 < X.length := by omega
    have gXm := (List.getElem?_eq_some_iff.1 hXm).2
    have gXM := (List.getElem?_eq_some_iff.1 hXM).2
    have gXS := (List.getElem?_eq_some_iff.1 hXS).2
    have gXN := (List.getElem?_eq_some_iff.1 hXN).2
    have gP := (List.getElem?_eq_some_iff.1 hP).2
    simp only [enV] at hpm hput ⊢
    simp [Try.ntmps12, Try.results12, cSl, cn0, cI, cD, cR, cF, cA, RunK, runL, hIt, hXm, hpm, hXM, hXS, hXN, hP, hPd, hw, gXm, gXM, gXS, gXN, gP,  hww, hpp, hput, hf2, hmpp, hsp, hmp2, hpp2, hpsd, hpmd, n1, n2, n3, n4, n5, n6, n7, n8, n9, n10, n11, l1, l2, l3, l4, l5, l6, List.getElem?_set, List.getElem?_append, aEntry]
    have hlen : is.length + 1 ≤ es'.length := by
     have := below fs.nd fs.lt
     simpa using this
    exact ⟨⟨(_, is ++ [i]), fs⟩, by simp; omega, (Ent.env (by simp)).trans (Ent.killAt (K := []) (M := []))⟩
   ·intro hall
    simp [Try.ntmps12, Try.results12, cSl, cn0, cI, cD, cR, cF, cA, RunK, runL, hIt, hXm]
    refine f.fin hcn hbl hbn hpe hel hcell hE1 (by simp) (fun i hi him => ?_) (by rw [List.getElem?_set_ne hsm]; exact hE) hall
    rw [← hH1]
    by_cases hsi : A.lo.sid = i
    ·subst hsi
     rw [List.getElem?_set_self hsl, List.getElem?_set_self (by simp; omega)]
    ·rw [List.getElem?_set_ne hsi, List.getElem?_set_ne hsi, List.getElem?_append_left (by omega), ← hH0, List.getElem?_set_ne (fun e => him e.symm)]
end
section
attribute [local simp] pgRow_len pg16 pg17 pg18 pg16' pg17' pg18' ww16 ww17 ww18 keyI_ok aLookup aMapUpdate aDelete lkRes bin_mn spV enV Try.underlying65 Try.underlying55
attribute [local simp] bin_mm
def killH (H : Heap) (mid : Nat) (L L' : Lo) : Heap := H.mapIdx fun i o => if (L.cell mid i).isSome && (L'.cell mid i).isNone then none else o
theorem killH_len {H : Heap} {mid : Nat} {L L' : Lo} : (killH H mid L L').length = H.length := by simp [killH]
theorem killH_get {H : Heap} {mid i : Nat} {L L' : Lo} (hi : i < H.length) : (killH H mid L L')[i]? = if (L.cell mid i).isSome && (L'.cell mid i).isNone then some none else H[i]? := by
 unfold killH
 rw [List.getElem?_mapIdx, List.getElem?_eq_getElem hi]
 simp only [Option.map_some]
 split <;> rfl
theorem vsE_le {es : En} {is : List Nat} {p : Nat} (h : is.Nodup) (hl : ∀ i ∈ is, i < es.length) : cntE p (vsE es is) ≤ cntE p es := by
 have hp : is.Perm ((List.range es.length).filter fun i => decide (i ∈ is)) := by
  rw [List.perm_ext_iff_of_nodup h (List.nodup_range.filter _)]
  intro i
  rw [List.mem_filter, List.mem_range]
  simp
  exact hl i
 have h1 : (vsE es is).Perm (vsE es ((List.range es.length).filter fun i => decide (i ∈ is))) := hp.map _
 have h2 : (vsE es ((List.range es.length).filter fun i => decide (i ∈ is))).Sublist (vsE es (List.range es.length)) := List.filter_sublist.map _
 have h3 : vsE es (List.range es.length) = es := by
  apply List.ext_getElem?
  intro i
  simp only [vsE, List.getElem?_map]
  by_cases hi : i < es.length
  ·rw [List.getElem?_range hi]
   simp [hi]
  ·have h3 : (List.range es.length)[i]? = none := List.getElem?_eq_none (by simp; omega)
   have h4 : es[i]? = none := List.getElem?_eq_none (by omega)
   rw [h3, h4]; rfl
 rw [h3] at h2
 rw [cntE_perm h1]
 exact h2.countP_le
structure DropI (H0 : Heap) (mid n mp : Nat) (c : Int) (L : Lo) (es' : En) (bs : List Int) (X : Heap) (is : List Nat) : Prop where
 st : St X mid (L.dn fun p => cntE p (vsE es' is))
 len : X.length = n + 1 + 2 * is.length
 it : X[n]? = some (some (0, [[.ptr mp 0 0 0, .v (.int .i64 c), .v (.int .i64 c)], bsR bs is]))
 old : ∀ i, i < n → L.cell mid i = none → X[i]? = H0[i]?
 dead : ∀ i, i < n → L.cell mid i ≠ none → (L.dn fun p => cntE p (vsE es' is)).cell mid i = none → X[i]? = some none
 gar : ∀ j, n + 1 ≤ j → j < X.length → X[j]? = some none
 nd : is.Nodup
 lt : ∀ i ∈ is, i < es'.length
theorem DropI.init {H0 : Heap} {mid n mp : Nat} {c : Int} {L : Lo} {es' : En} {bs : List Int} (h1 : St H0 mid L) (h2 : H0.length = n) (hu : ∀ x ∈ L.pgs, 1 ≤ x.2.users) : DropI H0 mid n mp c L es' bs (H0 ++ [some (0, [[.ptr mp 0 0 0, .v (.int .i64 c), .v (.int .i64 c)], []])]) [] := by
 have e : (L.dn fun p => cntE p (vsE es' [])) = L := dn_zero hu
 refine ⟨by rw [e]; exact h1.app, by simp [h2], ?_, fun i hi hc => ?_, fun i hi hc hd => ?_, fun j hj hl => ?_, by simp, by simp⟩
 ·rw [List.getElem?_append_right (by omega), h2]
  simp [bsR]
 ·rw [List.getElem?_append_left (by omega)]
 ·rw [e] at hd
  exact absurd hd hc
 ·simp at hl; omega
theorem dn_cell {mid i : Nat} {c : Nat → Nat} {L : Lo} (hi : L.cell mid i ≠ none) (h : (L.dn c).cell mid i = none) : (∃ q, getK i L.pgs = some q) ∧ getK i (L.dn c).pgs = none ∧ i ≠ mid ∧ L.lid ≠ some i := by
 unfold Lo.cell at h hi
 split at h
 ·cases h
 ·rename_i hm
  rw [if_neg hm] at hi
  split at h
  ·cases h
  ·rename_i hl
   replace hl : ¬ L.lid = some i := hl
   rw [if_neg hl] at hi
   rw [Option.map_eq_none_iff] at h
   refine ⟨?_, h, hm, hl⟩
   cases e : getK i L.pgs with
   | none => rw [e] at hi; exact absurd rfl hi
   | some q => exact ⟨q, rfl⟩
theorem DropI.step {H0 X : Heap} {mid n mp i p : Nat} {c b k rg : Int} {L : Lo} {es' : En} {bs : List Int} {is : List Nat} {q : Pg} (f : DropI H0 mid n mp c L es' bs X is) (hL : (L.pgs.map (·.1)).Nodup) (hcn : ∀ j, n ≤ j → L.cell mid j = none) (hi : i ∉ is) (he : es'[i]? = some (k, (p, rg))) (hb : bs[i]? = some b) (hq : getK p L.pgs = some q) (hp : p < n)
  (h1 : (cntE p (vsE es' is) : Int) < q.users) (h2 : q.users ≤ 1024) (hn : H0.length = n) :
  DropI H0 mid n mp c L es' bs ((wr (letB (X.set n (some (0, [[.ptr mp 0 0 0, .v (.int .i64 c), .v (.int .i64 c)], bsR bs is ++ [AVal.v (.int .i64 b)]])) ++ [some (2, [boxE (some (p, rg))])]) p { q with users := q.users - cntE p (vsE es' is) }) mid ((L.dn fun x => cntE x (vsE es' is)).letP p { q with users := q.users - cntE p (vsE es' is) })).set X.length none) (is ++ [i]) := by
 have hdn : getK p (L.dn fun x => cntE x (vsE es' is)).pgs = some { q with users := q.users - cntE p (vsE es' is) } := by
  rw [dn_get hL, hq]
  simp only [Option.bind_some]
  rw [if_neg (by omega)]
 have hds : (L.dn fun x => cntE x (vsE es' is)).letP p { q with users := q.users - cntE p (vsE es' is) } = L.dn (inc p fun x => cntE x (vsE es' is)) := dn_step (c := fun x => cntE x (vsE es' is)) hL hq h1 h2
 have hcn' : ∀ c' j, n ≤ j → (L.dn c').cell mid j = none := fun c' j hj => Less.dn j (hcn j hj)
 have hl := f.len
 have s0 := (f.st.set_ne (o := some (0, [[.ptr mp 0 0 0, .v (.int .i64 c), .v (.int .i64 c)], bsR bs is ++ [AVal.v (.int .i64 b)]])) (hcn' _ n (Nat.le_refl _))).app (K := [some (2, [boxE (some (p, rg))])])
 have s1 := s0.let hdn
 have hlb : (letB (X.set n (some (0, [[.ptr mp 0 0 0, .v (.int .i64 c), .v (.int .i64 c)], bsR bs is ++ [AVal.v (.int .i64 b)]])) ++ [some (2, [boxE (some (p, rg))])]) p { q with users := q.users - cntE p (vsE es' is) }).length = X.length + 2 := by
  rw [letB_len]; simp
 have hoth : ∀ j, j < X.length + 1 → j ≠ p → (letB (X.set n (some (0, [[.ptr mp 0 0 0, .v (.int .i64 c), .v (.int .i64 c)], bsR bs is ++ [AVal.v (.int .i64 b)]])) ++ [some (2, [boxE (some (p, rg))])]) p { q with users := q.users - cntE p (vsE es' is) })[j]? = (X.set n (some (0, [[.ptr mp 0 0 0, .v (.int .i64 c), .v (.int .i64 c)], bsR bs is ++ [AVal.v (.int .i64 b)]])) ++ [some (2, [boxE (some (p, rg))])])[j]? := fun j hj hjp => letB_get (by simp; omega) hjp
 have hlast : (letB (X.set n (some (0, [[.ptr mp 0 0 0, .v (.int .i64 c), .v (.int .i64 c)], bsR bs is ++ [AVal.v (.int .i64 b)]])) ++ [some (2, [boxE (some (p, rg))])]) p { q with users := q.users - cntE p (vsE es' is) })[X.length + 1]? = some none := by
  unfold letB
  split <;> rw [List.getElem?_append_right (by simp)] <;> simp
 have hdead : (lessU { q with users := q.users - cntE p (vsE es' is) }).users = 0 → (letB (X.set n (some (0, [[.ptr mp 0 0 0, .v (.int .i64 c), .v (.int .i64 c)], bsR bs is ++ [AVal.v (.int .i64 b)]])) ++ [some (2, [boxE (some (p, rg))])]) p { q with users := q.users - cntE p (vsE es' is) })[p]? = some none := fun h0 => by
  unfold letB
  rw [if_pos h0, List.getElem?_append_left (by simp; omega), List.getElem?_set_self (by simp; omega)]
 have hinc : ∀ x, cntE x (vsE es' (is ++ [i])) = cntE x (vsE es' is) + one (p == x) := fun x => by
  rw [vsE_app he, cntE_app, cntE_cons]
  simp [cntE_nil]
 have hnp : getK p (L.dn fun x => cntE x (vsE es' is)).pgs ≠ none := by rw [hdn]; simp
 have hlu : (lessU { q with users := q.users - cntE p (vsE es' is) }).users = q.users - cntE p (vsE es' is) - 1 := w64 (by simp only; omega) (by simp only; omega)
 rw [hds, up_inc he] at s1 ⊢
 generalize letB (X.set n (some (0, [[.ptr mp 0 0 0, .v (.int .i64 c), .v (.int .i64 c)], bsR bs is ++ [AVal.v (.int .i64 b)]])) ++ [some (2, [boxE (some (p, rg))])]) p { q with users := q.users - cntE p (vsE es' is) } = W at *
 have hpc : L.cell mid p ≠ none := by
  unfold Lo.cell
  split
  ·simp
  ·split
   ·simp
   ·rw [hq]; simp
 refine ⟨s1.set_ne (hcn' _ _ (by omega)), by simp [wr_len, hlb]; omega, ?_, fun j hj hc => ?_, fun j hj hc hd => ?_, fun j hj hl2 => ?_, ?_, ?_⟩
 ·rw [List.getElem?_set_ne (by omega), wr_ne (hcn' _ n (Nat.le_refl _)), hoth n (by omega) (by omega), List.getElem?_append_left (by simp; omega), List.getElem?_set_self (by omega), bsR_app hb]
 ·have hjp : j ≠ p := by rintro rfl; exact hpc hc
  rw [List.getElem?_set_ne (by omega), wr_ne (Less.dn j hc), hoth j (by omega) hjp, List.getElem?_append_left (by simp; omega), List.getElem?_set_ne (by omega), f.old j hj hc]
 ·rw [List.getElem?_set_ne (by omega), wr_ne hd]
  by_cases hjp : j = p
  ·subst hjp
   refine hdead ?_
   obtain ⟨⟨q', hq'⟩, h3, _⟩ := dn_cell hc hd
   rw [dn_get hL, hq] at h3
   simp only [Option.bind_some] at h3
   split at h3
   ·rename_i h4
    rw [hinc, one_self] at h4
    rw [hlu]
    push_cast at h4
    omega
   ·cases h3
  ·rw [hoth j (by omega) hjp, List.getElem?_append_left (by simp; omega), List.getElem?_set_ne (by omega)]
   refine f.dead j hj hc ?_
   obtain ⟨⟨q', hq'⟩, h3, h4, h5⟩ := dn_cell hc hd
   unfold Lo.cell
   rw [if_neg h4, if_neg (show ¬ (L.dn fun p => cntE p (vsE es' is)).lid = some j from h5), Option.map_eq_none_iff]
   rw [dn_get hL, hq'] at h3 ⊢
   simp only [Option.bind_some, hinc, one_ne (fun e => hjp e.symm), Nat.add_zero] at h3 ⊢
   exact h3
 ·simp only [List.length_set, wr_len, hlb] at hl2
  by_cases h3 : j = X.length
  ·subst h3
   rw [List.getElem?_set_self (by rw [wr_len, hlb]; omega)]
  ·rw [List.getElem?_set_ne (fun e => h3 e.symm), wr_ne (hcn' _ j (by omega))]
   by_cases h4 : j = X.length + 1
   ·subst h4; exact hlast
   ·rw [hoth j (by omega) (by omega), List.getElem?_append_left (by simp; omega), List.getElem?_set_ne (by omega), f.gar j hj (by omega)]
 ·rw [List.nodup_append]
  refine ⟨f.nd, by simp, fun a ha b hb => ?_⟩
  simp at hb
  subst hb
  rintro rfl
  exact hi ha
 ·intro j hj
  rcases List.mem_append.1 hj with h | h
  ·exact f.lt j h
  ·simp at h
   subst h
   exact (List.getElem?_eq_some_iff.1 he).1
theorem DropI.fin {H H0 X : Heap} {mid n mp sid : Nat} {c : Int} {L : Lo} {es es' : En} {bs : List Int} {is : List Nat} {SR : List Row} (f : DropI H0 mid n mp c L es' bs X is) (hcn : ∀ j, n ≤ j → L.cell mid j = none) (hbl : bs.length = es'.length) (hbn : bs.Nodup) (hpe : es'.Perm es) (hmp : mp < n) (hcm : L.cell mid mp = none) (hcs : L.cell mid sid = none) (hsn : sid < n) (hsm : sid ≠ mp)
  (hHl : H.length = n) (hH : ∀ i, i < n → i ≠ mp → H[i]? = H0[i]?)
  (hall : ∀ (i : Nat) (k a : AVal) (b : Int), (stampL (es'.map enRow) bs)[i]? = some [k, a, .v (.int .i64 b)] → AVal.v (.int .i64 b) ∈ bsR bs is) {n0 : Nat} {ρ : Env} :
  Ent n0 (ρ, wr (((killH H mid L (L.dn fun p => cntE p es)).set mp none).set sid (some (0, SR)) ++ List.replicate (1 + 2 * es.length) none) mid (L.dn fun p => cntE p es)) (ρ, X.set sid (some (0, SR))) := by
 have hv := vsE_all hbl hbn f.nd f.lt fun i hi => by
  have hi2 : i < bs.length := by omega
  rw [List.getElem?_eq_getElem hi2]
  exact hall i (.v (.int .i64 es'[i].1)) (enV es'[i].2) bs[i] (by rw [stampL_get (by simpa using hi) hi2]; simp [enRow])
 have hvs := hv.trans hpe
 have hil : is.length = es.length := by have := hvs.length_eq; simpa [vsE] using this
 have hupe : (L.dn fun p => cntE p (vsE es' is)) = L.dn fun p => cntE p es := by
  congr 1
  funext p
  exact cntE_perm hvs
 have hl := f.len
 have hst := f.st
 have hdd := f.dead
 rw [hupe] at hst hdd
 have e0 := Ent.kill (n0 := n0) (ρ := ρ) (H := X.set sid (some (0, SR))) n
 have e1 := Ent.kill (n0 := n0) (ρ := ρ) (H := (X.set sid (some (0, SR))).set n none) mp
 refine Eq.mp ?_ (e1.trans e0)
 congr 2
 symm
 refine wr_eq (((hst.set_ne (Less.dn _ hcs)).set_ne (Less.dn _ (hcn _ (Nat.le_refl _)))).set_ne (Less.dn _ hcm)) ?_ fun i hi => ?_
 ·simp [killH_len, hHl]; omega
 ·rcases Nat.lt_or_ge i n with h | h
  ·rw [List.getElem?_append_left (by simp [killH_len, hHl]; omega)]
   by_cases him : i = mp
   ·subst him
    rw [List.getElem?_set_self (by simp; omega), List.getElem?_set_ne hsm, List.getElem?_set_self (by rw [killH_len]; omega)]
   ·rw [List.getElem?_set_ne (fun e => him e.symm), List.getElem?_set_ne (by omega)]
    by_cases his : i = sid
    ·subst his
     rw [List.getElem?_set_self (by omega), List.getElem?_set_self (by simp [killH_len]; omega)]
    ·rw [List.getElem?_set_ne (fun e => his e.symm), List.getElem?_set_ne (fun e => his e.symm), List.getElem?_set_ne (fun e => him e.symm), killH_get (by omega), hi]
     cases e : L.cell mid i with
     | none => simp; rw [f.old i h e, hH i h him]
     | some y => simp; exact hdd i h (by rw [e]; simp) hi
  ·rw [List.getElem?_append_right (by simp [killH_len, hHl]; omega), List.getElem?_set_ne (by omega)]
   have e2 : (((killH H mid L (L.dn fun p => cntE p es)).set mp none).set sid (some (0, SR))).length = n := by simp [killH_len, hHl]
   rw [e2, List.getElem?_replicate]
   by_cases h1 : i = n
   ·subst h1
    rw [List.getElem?_set_self (by simp; omega), if_pos (by omega)]
   ·rw [List.getElem?_set_ne (by omega), List.getElem?_set_ne (by omega)]
    by_cases h3 : i < X.length
    ·rw [f.gar i (by omega) h3, if_pos (by omega)]
    ·rw [List.getElem?_eq_none (by omega), if_neg (by omega)]
def dropR (H : Heap) (mid : Nat) (A : Ab) (s : Int) : AVal × Heap := match getK s A.sps with
 | none => (.v (.int .i64 4), H)
 | some x => (.v (.int .i64 0), wr (((killH H mid A.lo (A.lo.dn fun p => cntE p x.2)).set x.1 none).set A.lo.sid (some (0, (delK s A.sps).map spRow)) ++ List.replicate (1 + 2 * x.2.length) none) mid (A.lo.dn fun p => cntE p x.2))
noncomputable def dropM : Row → Heap → Option (AVal × Heap)
 | [.ptr mid 5 0 0, .v (.int .i64 s)], H => (repAt H mid).map fun A => dropR H mid A s
 | _, _ => none
theorem drop_inl : InlOk Try.prog 15 dropM := by
 refine inl_canonE Try.func15 rfl fun args H r H' hr => ⟨args, canon_refl args, ?_⟩
 unfold dropM at hr
 split at hr
 case h_2 => cases hr
 rename_i mid s
 simp only [Option.bind_eq_some_iff, Option.map_eq_some_iff] at hr
 obtain ⟨A, hA, hr⟩ := hr
 obtain ⟨rp, gd⟩ := repAt_iff.1 hA
 have hM := rp.st.mem
 have hS := rp.sp
 have hf := rp.find s
 unfold dropR at hr
 have hsl : A.lo.sid < H.length := (List.getElem?_eq_some_iff.1 hS).1
 have hml : mid < H.length := rp.st.lt cell_m
 cases hg : getK s A.sps with
 | none =>
  simp only [hg, Prod.mk.injEq] at hr
  obtain ⟨rfl, rfl⟩ := hr
  simp only [Lo.row] at hM
  refine bodyE_of ((noOrc_ok.withI let_inl).withD (fun i => if i = 4 then [(1000000,1000000)] else [])) fxMix (by kernel_rfl) (by simp [Try.ntmps15]) ?_
  intro C cP cI cN cD cF cA cR cL
  have cn0 := orcI let_inl (C := C) (by rw [cN]; rfl)
  replace cI := fun g => congrFun cI g
  simp only [Orc.withP, Orc.withI, Orc.withF, Orc.withD, Orc.withA, Orc.withR, Orc.withC, noOrc] at cI
  replace cR : C.rd = fun _ => none := cR
  replace cD : C.dyn = fun i => if i = 4 then [(1000000,1000000)] else [] := cD
  replace cF := fun g => congrFun cF g
  simp only [Orc.withP, Orc.withI, Orc.withF, Orc.withD, Orc.withA, Orc.withR, Orc.withC, noOrc] at cF
  replace cA : C.alt = fun _ => [] := cA
  clear cP cN
  simp [Try.ntmps15, Try.results15, cSl, cn0, cI, cD, cR, cF, cA, hM, hS, hf, hg]
  exact Ent.refl _ _
 | some x =>
  obtain ⟨mp, es⟩ := x
  simp only [hg, Prod.mk.injEq] at hr
  obtain ⟨rfl, rfl⟩ := hr
  obtain ⟨hE, hnd, _⟩ := rp.findE hg 0
  have hrow : ∀ r ∈ es.map enRow, r.length = 2 := fun r hr => by
   obtain ⟨e, _, rfl⟩ := List.mem_map.1 hr
   rfl
  have hcell : A.lo.cell mid mp = none := rp.freeE (getK_mem hg)
  have hsm : ¬ A.lo.sid = mp := by
   have := rp.ndm
   rw [List.nodup_cons] at this
   intro e
   exact this.1 (List.mem_map.2 ⟨_, getK_mem hg, e.symm⟩)
  have hms : ¬ mp = A.lo.sid := fun e => hsm e.symm
  have hel : mp < H.length := (List.getElem?_eq_some_iff.1 hE).1
  have hmm : ¬ mid = mp := by rintro rfl; rw [cell_m] at hcell; cases hcell
  have hmm2 : ¬ mp = mid := fun e => hmm e.symm
  refine bodyX_of hE hrow ((noOrc_ok.withI let_inl).withD (fun i => if i = 4 then [(1000000,1000000)] else [])) fxMix (by kernel_rfl) (by simp [Try.ntmps15]) ?_
  intro C cP cI cN cD cF cA cR cL
  have cn0 := orcI let_inl (C := C) (by rw [cN]; rfl)
  replace cI := fun g => congrFun cI g
  simp only [Orc.withP, Orc.withI, Orc.withF, Orc.withD, Orc.withA, Orc.withR, Orc.withC, noOrc] at cI
  replace cR : C.rd = fun _ => none := cR
  replace cD : C.dyn = fun i => if i = 4 then [(1000000,1000000)] else [] := cD
  replace cF := fun g => congrFun cF g
  simp only [Orc.withP, Orc.withI, Orc.withF, Orc.withD, Orc.withA, Orc.withR, Orc.withC, noOrc] at cF
  replace cA : C.alt = fun _ => [] := cA
  clear cP cN
  intro c rs bs hp hbl hbn hlt
  obtain ⟨es', rfl, hpe⟩ := perm_of_map hp es rfl
  rw [List.length_map] at hbl
  have hst0 : St (H.set mp (some (0, [.v (.int .i64 c)] :: stampL (es'.map enRow) bs))) mid A.lo := rp.st.set_ne hcell
  obtain ⟨H0, hH0⟩ : ∃ x, H.set mp (some (0, [.v (.int .i64 c)] :: stampL (es'.map enRow) bs)) = x := ⟨_, rfl⟩
  rw [hH0] at hst0
  have hl0 : H0.length = H.length := by rw [← hH0, List.length_set]
  have hS0 : H0[A.lo.sid]? = some (some (0, A.sps.map spRow)) := by rw [← hH0, List.getElem?_set_ne hms, hS]
  have hM0 := hst0.mem
  have hE0 : H0[mp]? = some (some (0, [.v (.int .i64 c)] :: stampL (es'.map enRow) bs)) := by rw [← hH0, List.getElem?_set_self hel]
  simp only [Lo.row] at hM hM0
  rw [hH0]
  have hcn : ∀ j, H.length ≤ j → A.lo.cell mid j = none := fun j hj => rp.st.lt_none hj
  have hdel := del_key (g := spRow) (v := spV) (fun _ => rfl) s A.sps rp.nds
  simp [Try.ntmps15, Try.results15, cSl, cn0, cI, cD, cR, cF, cA, hM0, hS0, hf, hg, hE0, aRange, hl0]
  refine loop_ent (σ := {p : Heap × List Nat // DropI H0 mid H.length mp c A.lo es' bs p.1 p.2}) (fun p => ([(0, .ptr mid 5 0 0), (1, .v (.int .i64 s)), (20, .ptr H.length 1 0 0)], p.val.1)) (fun p => es'.length - p.val.2.length) ⟨(H0 ++ [some (0, [[.ptr mp 0 0 0, .v (.int .i64 c), .v (.int .i64 c)], []])], []), DropI.init hst0 hl0 fun x hx => (gd.us x hx).2⟩ (Ent.env (by simp)) ?_
  rintro ⟨⟨X, is⟩, f⟩
  simp only at f ⊢
  have hX := f.len
  have hIt := f.it
  have hXm : X[mp]? = some (some (0, [.v (.int .i64 c)] :: stampL (es'.map enRow) bs)) := by rw [f.old mp hel hcell]; exact hE0
  simp [Try.ntmps15, Try.results15, cSl, cn0, cI, cD, cR, cF, cA, hIt, hXm]
  refine runN_of rfl rfl rfl rfl (by decide) rfl hIt hXm stamp_rows (fun x hx => by obtain ⟨i, _, rfl⟩ := List.mem_map.1 hx; exact ⟨_, rfl⟩) ?_ ?_
  ·intro i k a b hi hb
   obtain ⟨⟨k, p, rg⟩, he, hbi, rfl, rfl⟩ := stamp_inv hi
   have hpm := stamp_find hbn he hbi
   have hgk : getK k es = some (p, rg) := getK_of hnd (hpe.subset (List.mem_of_getElem? he))
   obtain ⟨q, hq⟩ := gd.page hg hgk
   have hpl : p < H.length := rp.st.id_lt (List.mem_map.2 ⟨_, getK_mem hq, rfl⟩)
   have hni : i ∉ is := fun hm => hb (List.mem_map.2 ⟨i, hm, by rw [hbi]; rfl⟩)
   have hu := rp.us gd hq
   have hcu : (cntE p (vsE es' is) : Int) < q.users := by
    have h1 := vsE_le (es := es') (is := is ++ [i]) (p := p) (by
     rw [List.nodup_append]
     refine ⟨f.nd, by simp, fun a ha b hb => ?_⟩
     simp at hb
     subst hb
     rintro rfl
     exact hni ha) (by
     intro j hj
     rcases List.mem_append.1 hj with h | h
     ·exact f.lt j h
     ·simp at h
      subst h
      exact (List.getElem?_eq_some_iff.1 he).1)
    rw [vsE_app he, cntE_app, cntE_cons, cntE_perm hpe] at h1
    simp only [one_self, cntE_nil] at h1
    have h2 := cntS_del (p := p) rp.nds hg
    simp only at h2
    omega
   have fs := f.step rp.st.wf.nd hcn hni he hbi hq hpl hcu hu.2.2 hl0
   have hdn : getK p (A.lo.dn fun x => cntE x (vsE es' is)).pgs = some { q with users := q.users - cntE p (vsE es' is) } := by
    rw [dn_get rp.st.wf.nd, hq]
    simp only [Option.bind_some]
    rw [if_neg (by omega)]
   have hcnd : ∀ c' j, H.length ≤ j → (A.lo.dn c').cell mid j = none := fun c' j hj => Less.dn j (hcn j hj)
   have s0 := (f.st.set_ne (o := some (0, [[.ptr mp 0 0 0, .v (.int .i64 c), .v (.int .i64 c)], bsR bs is ++ [AVal.v (.int .i64 b)]])) (hcnd _ H.length (Nat.le_refl _))).app (K := [some (2, [boxE (some (p, rg))])])
   have hlet := let_eval (rg := rg) s0 hdn
   have hlen : is.length + 1 ≤ es'.length := by
    have := below fs.nd fs.lt
    simpa using this
   obtain ⟨W, hW⟩ : ∃ W, (wr (letB (X.set H.length (some (0, [[.ptr mp 0 0 0, .v (.int .i64 c), .v (.int .i64 c)], bsR bs is ++ [AVal.v (.int .i64 b)]])) ++ [some (2, [boxE (some (p, rg))])]) p { q with users := q.users - cntE p (vsE es' is) }) mid ((A.lo.dn fun x => cntE x (vsE es' is)).letP p { q with users := q.users - cntE p (vsE es' is) })) = W := ⟨_, rfl⟩
   rw [hW] at fs hlet
   have l2 : mp < X.length := by omega
   have l5 : H.length < X.length := by omega
   have n3 : ¬ mp = H.length := by omega
   have n7 : ¬ H.length = mp := by omega
   have gXm := (List.getElem?_eq_some_iff.1 hXm).2
   simp only [boxE] at hlet
   simp only [enV] at hpm ⊢
   simp [Try.ntmps15, Try.results15, cSl, cn0, cI, cD, cR, cF, cA, RunK, runL, hIt, hXm, gXm, hpm, hlet, l2, l5, n3, n7, List.getElem?_set, List.getElem?_append, aEntry]
   exact ⟨⟨(_, is ++ [i]), fs⟩, by simp; omega, (Ent.env (by simp)).trans (Ent.kill X.length)⟩
  ·intro hall
   have hXM := f.st.mem
   have hXS : X[A.lo.sid]? = some (some (0, A.sps.map spRow)) := by rw [f.old A.lo.sid hsl rp.freeS]; exact hS0
   simp only [Lo.row] at hXM
   have hsd : (A.lo.dn fun x => cntE x (vsE es' is)).sid = A.lo.sid := rfl
   rw [hsd] at hXM
   have l3 : mid < X.length := by omega
   have l4 : A.lo.sid < X.length := by omega
   have gXM := (List.getElem?_eq_some_iff.1 hXM).2
   have gXS := (List.getElem?_eq_some_iff.1 hXS).2
   simp [Try.ntmps15, Try.results15, cSl, cn0, cI, cD, cR, cF, cA, RunK, runL, hIt, hXm, hXM, hXS, gXM, gXS, hdel, l3, l4]
   exact f.fin hcn hbl hbn hpe hel hcell rp.freeS hsl hsm rfl (fun i hi him => by rw [← hH0, List.getElem?_set_ne (fun e => him e.symm)]) hall
end
end
end Go.Proofs.Ytibpipgabcpaoaa
