/- The statement SpaceBytes. -/
import Derived.Test.YtegjbfcgbfnldaaStE
namespace Go.Proofs.Ytegjbfcgbfnldaa
open Go.AI
set_option maxHeartbeats 2000000
set_option maxRecDepth 100000
set_option linter.unusedSimpArgs false
set_option linter.unusedVariables false
attribute [local simp] wpA wpX RunA RunD runF foot footP footB idsA bare apart runL step1 gsel_f gsel_t gsel_s res_same res_and1 res_and2 res_and3 res_and4 res_and5 res_and6 res_false res_true res_v res_ptr res_fptr res_osl res_xsl soft aAppendZ aCap ovlI ovlJ res_fsl res_esl res_agg res_tup res_fn res_junk res_anyb aPick hk imp_left iteV dstOk guardOk astep astepE AI.ev AI.look AI.put envOf aBox cellsOf allOne allOneA oneA Value.oneCell' Value.cells newObj' aFieldAddr aLoad obj readAt thenA blockA condA retA resA tupA view hot hotC hotR depthV cAgg cInt cBool mkAgg allV aAlloc aBuild fillA writeAt aStore isAggA aField idx aIndexAddr aIndex bnd aSlice aExtract aLen aBuiltin aCall isStatic eqAgg eqTy eqC ev_add ev_sub ev_mul ev_quo ev_rem ev_and ev_or ev_xor ev_andNot ev_shl ev_shr ev_eql ev_neq ev_lss ev_leq ev_gtr ev_geq ev_agg w64 wu32 wu8 ev_not ev_neg Cod.plain RCod.plain argM finM cold coldC coldR goInt intDec boolDec aggDec Weaker heapW lowA lowC Again slDec undef aBuildSlice setRows aAppend rowsOf aMakeSlice aClear aCopy softer_self softer_nil valsOf ev_min2 ev_max2 hotR_set hotR_append take_map_set irow_cold irow_mapM irow_mapMc irow_view irow_viewc irow_hotR irow_ren irow_renc irow_low WeakT heapT thOf ren renC AgainT NextF NextT fnDec cFn rNil selfLt natLt0 natLt1 getLastMap frame0 frame1 own0 own1 argG finG tau tauI tauO tauC bareA bareC bareH irow_tau irow_tauc irow_bare irow_flat irow_bareR ownA_nil ownT_nil ownA_c ownT_c ownA_s ownT_s takeMapLen footC plainA noId noIdC cloneF frame0F frame1F insertF replaceI replaceF cellDec rCell fpDec cFp rTwo deleteF allV_oA oneA_oA res_oA RunR RunE runFT footAt hotR_cat tmodN aEqH aSliceA fxSz3 fxBy3 fxAg3 fxZe3 fxSz4 fxAg4 fxSz5 fxBy5 fxAg5 fxZe5 fxSl22 fxAr22 fxSz26 fxAg26 fxZe26 fxSz28 fxBy28 fxAg28 fxZe28 fxSl28 fxAr28 fxSl51 fxAr51 fxSl58 fxAr58 fxSz69 fxAg69 fxZe69 fxFi69x0 fxFi69x1 fxFi69x2 fxFi69x3 fxFi69x4 fxFi69x5 fxSz71 fxBy71 fxAg71 fxZe71 fxSz73 fxAg73 fxZe73 fxFi73x0 fxFi73x1 fxPl73 fxZe75 fxSz76 fxAg76 fxSl76 fxAr76 fxAg77 fxZe79 fxFi79x0 fxFi79x1 fxFi79x2 fxFi79x3 fxFi79x4 fxPl79 fxSz82 fxAg82 fxZe82 fxSl82 fxAr82 fxPl82 fxSl87 fxAr87 fxSz91 fxZe91 fxFi91x0 fxFi91x1 fxFi91x2 fxFi91x3 fxPl91 fxCv3x36 fxCv36x3 fxEb4 fxNb4 fxLn28 fxNe28 fxOe28 fxXe28 fxLn58 fxNe58 fxOe58 fxXe58 fxLn76 fxFm15 fxFm16 fxFi16 fxFm17 fxFm18 fxFm19 fxFi19 fxFm20 fxFi20 fxFm21 fxFm22 fxFm23 fxFm24 fxFm25 fxFi25 fxFm26 fxFm27 fxFm28 fxFi28 fxFm29 fxFi29 fxFm30 fxFm31 fxFm32 fxFm33 fxFi33 fxFm34 fxFm35 fxFm36 fxFm37 fxFm38 fxFi38 fxFm39 fxFm40 fxFm41 fxFi41 fxFm42 fxFm43 fxFm44 fxFi44 fxFm45 fxFi45 fxFm46 fxFm47 fxFm48 fxFm49 fxFi49 fxFm50 fxFi50 fxFm51 fxFi51 fxFm52 fxFi52 fxFm53 fxFm54 fxFi54 fxFm55 fxFi55 fxFm56 fxFm57 fxFi57 fxFm58 fxFi58 fxFm61 fxFm62 fxFi62 fxFm63 fxFi63 fxFm64 fxFm65 fxFi65 fxFm77 fxFi77
attribute [local simp] pgRow_len pg16 pg17 pg18 pg16' pg17' pg18' ww16 ww17 ww18 keyI_ok aLookup aMapUpdate aDelete lkRes bin_mn spV enV Try.underlying75 Try.underlying77
attribute [local simp] Dd.eta Dd.dec_row Dd.dec_hrow
attribute [local simp] bin_pM bin_pMM rDd_sz rDd_enc
/-- bytes that were read -/
theorem rd_bytes {H : Heap} {mid : Nat} {A : Ab} (h : RG mid (H, A)) {s addr : Int} {n : Nat} (hn : n ≤ 256) (hw : IntKind.i64.wrap addr = addr) :
    (∃ e, e ≠ 0 ∧ ∃ K, readM [.ptr mid 5 0 0, .v (.int .i64 s), .v (.int .i64 addr), .v (.int .i64 n)] H = some (.v (.tuple #[.slice none 0 0, .int .i64 e]), H ++ K) ∧ ¬ (has A s ∧ ∀ i : Nat, i < n → okV A s 1 ((addr + i) / 16) = true)) ∨
    (has A s ∧ (∀ i : Nat, i < n → okV A s 1 ((addr + i) / 16) = true) ∧ ((n = 0 ∧ ∃ X L', readM [.ptr mid 5 0 0, .v (.int .i64 s), .v (.int .i64 addr), .v (.int .i64 n)] H = some (.v (.tuple #[.slice none 0 0, .int .i64 0]), X) ∧ Like A.lo L' ∧ RG mid (X, { A with lo := L' })) ∨
      (n ≠ 0 ∧ ∃ X L', readM [.ptr mid 5 0 0, .v (.int .i64 s), .v (.int .i64 addr), .v (.int .i64 n)] H = some (.tup [.osl X.length 1 0 n n, .v (.int .i64 0)], X ++ [some (1, (btL A s addr n).map (irow .u8))]) ∧ Like A.lo L' ∧ RG mid (X, { A with lo := L' })))) := by
  rcases read_ev h hn hw with h1 | ⟨h1, h2, _⟩
  · exact .inl h1
  refine .inr ⟨h1, h2, ?_⟩
  have hev : readM [.ptr mid 5 0 0, .v (.int .i64 s), .v (.int .i64 addr), .v (.int .i64 n)] H = some (readR H mid A s addr n) := by
    simp only [readM, rg_at h, Option.bind_some]
    rw [if_pos hw]
  rw [hev]
  unfold readR
  cases hg : getK s A.sps with
  | none => unfold has at h1; rw [hg] at h1; cases h1
  | some x =>
    obtain ⟨m, es⟩ := x
    have hm := may_iff h.2 (want := 1) (addr := addr) hg n
    have hmay : (mayR es 1 addr n).1 = true := hm.2 h2
    have hbb : fetchB es A.lo addr n = btL A s addr n := fetchB_bt h.2 hg
    simp only
    rw [if_neg (by omega), if_pos hmay, Int.toNat_natCast, hbb]
    cases n with
    | zero =>
      refine .inl ⟨rfl, _, fetchL es A.lo addr 0, rfl, Like.fetch es A.lo addr 0, ?_⟩
      exact fetch_rg (rg_app h) es addr _
    | succ i =>
      refine .inr ⟨by omega, wr (H ++ List.replicate (mayR es 1 addr (i + 1 : Nat)).2 none) mid (fetchL es A.lo addr (i + 1)) ++ List.replicate (2 * i + 1) none, fetchL es A.lo addr (i + 1), ?_, Like.fetch es A.lo addr (i + 1), fetch_rg (rg_app h) es addr _⟩
      generalize (mayR es 1 addr (i + 1 : Nat)).2 = g
      have e5 : (wr (H ++ List.replicate g none) mid (fetchL es A.lo addr (i + 1)) ++ List.replicate (2 * i + 1) none).length = H.length + g + (2 * i + 1) := by simp [wr_len]
      rw [e5]
      simp [outV, outK, tupA, yRow_irow]
theorem btL_at {A : Ab} {s addr : Int} {n k : Nat} (h : k < n) : (btL A s addr n)[k]? = some (bt A s (addr + (k : Nat))) := by
  unfold btL
  rw [List.getElem?_map, List.getElem?_range h]; rfl
theorem bt_like {A : Ab} {L' : Lo} (a : Like A.lo L') (s i : Int) : bt { A with lo := L' } s i = bt A s i := by
  unfold bt
  rw [vw_like a]
/-- states that show the same -/
def SameV (A B : Ab) : Prop := (∀ t k, vw B t k = vw A t k) ∧ ∀ t, has B t ↔ has A t
theorem SameV.like {A B : Ab} {L' : Lo} (h : SameV A B) (a : Like B.lo L') : SameV A { B with lo := L' } := ⟨fun t k => by rw [vw_like a]; exact h.1 t k, fun t => h.2 t⟩
theorem SameV.ok {A B : Ab} (h : SameV A B) (s w k : Int) : okV B s w k = okV A s w k := by
  unfold okV
  rw [h.1]
theorem SameV.bt {A B : Ab} (h : SameV A B) (s i : Int) : bt B s i = bt A s i := by
  unfold Go.Proofs.Ytegjbfcgbfnldaa.bt
  rw [h.1]
theorem SameV.refl (A : Ab) : SameV A A := ⟨fun _ _ => rfl, fun _ => Iff.rfl⟩
/-- what Load answers, by what is seen -/
def ldE (A : Ab) (s want addr : Int) : Int := if okV A s want (addr / 16) = true then 0 else if (getK s A.sps).isSome = true then 11 else 4
def ldB (A : Ab) (s want addr : Int) : Int := if okV A s want (addr / 16) = true then bt A s addr else 0
theorem ok_has {A : Ab} {s w k : Int} (h : okV A s w k = true) : has A s := by
  unfold okV at h
  cases hg : getK s A.sps with
  | none => rw [vw_no hg] at h; cases h
  | some x => unfold has; rw [hg]; rfl
theorem load_ev2 {H : Heap} {mid : Nat} {A : Ab} (h : RG mid (H, A)) {s addr want : Int} (hw : 0 ≤ addr ∧ addr < 4294967296) (hwt : 1 ≤ want ∧ want ≤ 7) :
    ∃ H' L', loadM [.ptr mid 5 0 0, .v (.int .i64 s), .v (.int .u32 addr), .v (.int .i64 want)] H = some (.v (.tuple #[.int .u8 (ldB A s want addr), .int .i64 (ldE A s want addr)]), H') ∧ Like A.lo L' ∧ RG mid (H', { A with lo := L' }) := by
  obtain ⟨b, e, H', L', h1, h2, h3, h4, _⟩ := load_ev h hw (s := s) (want := want)
  refine ⟨H', L', ?_, h2, h3⟩
  rw [h1]
  unfold ldB ldE
  rcases h4 with ⟨k1, rfl, rfl⟩ | ⟨_, k1, _⟩ | ⟨k1, _, ⟨k2, rfl, rfl⟩ | ⟨k2, rfl, rfl⟩⟩
  · have : ¬ okV A s want (addr / 16) = true := fun hh => k1 (ok_has hh)
    have hn : ¬ (getK s A.sps).isSome = true := k1
    rw [if_neg this, if_neg this, if_neg hn]
  · omega
  · rw [if_pos k2, if_pos k2]
  · have : ¬ okV A s want (addr / 16) = true := by rw [k2]; simp
    have hn : (getK s A.sps).isSome = true := k1
    rw [if_neg this, if_neg this, if_pos hn]
theorem SameV.ld {A B : Ab} (h : SameV A B) (s w a : Int) : ldE B s w a = ldE A s w a ∧ ldB B s w a = ldB A s w a := by
  have hh : ((getK s B.sps).isSome = true) = ((getK s A.sps).isSome = true) := propext (h.2 s)
  unfold ldE ldB
  simp only [h.ok, h.bt, hh]
  exact ⟨trivial, trivial⟩
theorem ld_ok {A : Ab} {s w a : Int} (h : okV A s w (a / 16) = true) : ldE A s w a = 0 ∧ ldB A s w a = bt A s a := by
  unfold ldE ldB
  rw [if_pos h, if_pos h]
  exact ⟨rfl, rfl⟩
theorem ldE_0 {A : Ab} {s w a : Int} (h : ldE A s w a = 0) : okV A s w (a / 16) = true := by
  unfold ldE at h
  split at h
  · assumption
  · split at h <;> cases h
def okN (A : Ab) (s addr : Int) : Nat → Bool
  | 0 => true
  | k + 1 => okN A s addr k && okV A s 1 ((addr + (k : Nat)) / 16)
theorem okN_all {A : Ab} {s addr : Int} : ∀ {n : Nat}, okN A s addr n = true → ∀ i : Nat, i < n → okV A s 1 ((addr + i) / 16) = true
  | n + 1, h, i, hi => by
    simp only [okN, Bool.and_eq_true] at h
    by_cases e : i = n
    · subst e; exact h.2
    · exact okN_all h.1 i (by omega)
theorem bytes_pure : PureOk Try.prog 4 (argM (cInt .i64) fun f => argM (cInt .i64) fun sl => argM (cSl rDd) fun l => argM (cInt .i64) fun s => argM (cInt .i64) fun addr => argM (cInt .i64) fun n => argM (cInt .u8) fun b => finM (if goodL l then some (.v (.bool true)) else none)) := by
  refine pure7 Try.func4 rfl ?_
  rintro f sl l s addr n b r hr
  by_cases hc : goodL l
  case neg => rw [if_neg hc] at hr; cases hr
  rw [if_pos hc] at hr
  simp only [Option.some.injEq] at hr
  subst hr
  refine body_gen (((((noOrc_ok.withP spaces_pure).withI begun_inl).withI read_inl).withI load_inl).withI store_inl) fxMix (by kernel_rfl) (by simp [Try.ntmps4]) ?_
  intro C cP cI cN cD cF cA cR cL
  have cp0 := orcP spaces_pure (C := C) (by rw [cP]; rfl)
  have cn0 := orcI begun_inl (C := C) (by rw [cN]; rfl)
  have cn1 := orcI read_inl (C := C) (by rw [cN]; rfl)
  have cn2 := orcI load_inl (C := C) (by rw [cN]; rfl)
  have cn3 := orcI store_inl (C := C) (by rw [cN]; rfl)
  replace cI := fun g => congrFun cI g
  simp only [Orc.withP, Orc.withI, Orc.withF, Orc.withD, Orc.withA, Orc.withR, Orc.withC, noOrc] at cI
  replace cR : C.rd = fun _ => none := cR
  replace cD : C.dyn = fun _ => [] := cD
  clear cP cN cF cA
  rcases begun_ev (f := f) (s := sl) hc with hb | ⟨G, A, hb, hrg, hf, hs⟩
  · simp [Try.ntmps4, Try.results4, cSl, cp0, cn0, cn1, cn2, cn3, cI, cD, cR, hb]
  · by_cases g1 : addr < 0
    · simp [Try.ntmps4, Try.results4, cSl, cp0, cn0, cn1, cn2, cn3, cI, cD, cR, hb, g1]
    by_cases g2 : 1048576 < addr
    · simp [Try.ntmps4, Try.results4, cSl, cp0, cn0, cn1, cn2, cn3, cI, cD, cR, hb, g1, g2]
    by_cases g3 : n < 0
    · simp [Try.ntmps4, Try.results4, cSl, cp0, cn0, cn1, cn2, cn3, cI, cD, cR, hb, g1, g2, g3]
    by_cases g4 : 40 < n
    · simp [Try.ntmps4, Try.results4, cSl, cp0, cn0, cn1, cn2, cn3, cI, cD, cR, hb, g1, g2, g3, g4]
    obtain ⟨N, rfl⟩ := Int.eq_ofNat_of_zero_le (show 0 ≤ n by omega)
    have hwa : IntKind.i64.wrap addr = addr := w64 (by omega) (by omega)
    rcases rd_bytes hrg (s := s) (addr := addr) (n := N) (by omega) hwa with ⟨e, he, K, hrd, hno⟩ | ⟨hh, hok, ⟨rfl, X, L', hrd, lk, r2⟩ | ⟨hn0, X, L', hrd, lk, r2⟩⟩
    · simp [Try.ntmps4, Try.results4, cSl, cp0, cn0, cn1, cn2, cn3, cI, cD, cR, hb, g1, g2, g3, g4, hrd]
      refine loop_forE N (fun k (x : Heap × Ab) => ([(3, .v (.int .i64 s)), (4, .v (.int .i64 addr)), (5, .v (.int .i64 N)), (6, .v (.int .u8 b)), (15, .ptr 1 5 0 0), (16, .v (.slice none 0 0)), (17, .v (.int .i64 e)), (18, .v (.bool (okN A s addr k))), (63, .v (.int .i64 N)), (64, .v (.int .i64 k))], x.1)) (fun k x => RG 1 x ∧ SameV A x.2) (G ++ K, A) (fun k _ hk _ => by omega) ⟨rg_app hrg, SameV.refl A⟩ (Ent.env (by simp [okN])) ?_ ?_
      · rintro k ⟨Y, B⟩ hk ⟨hx, hvx⟩ hw
        simp only at hvx
        obtain ⟨Z, L', hld, lk, r3⟩ := load_ev2 hx (s := s) (addr := addr + k) (want := 1) (by omega) (by omega)
        rw [(hvx.ld s 1 (addr + k)).1, (hvx.ld s 1 (addr + k)).2] at hld
        have hkN : (k : Int) < N := by omega
        have w1 : IntKind.i64.wrap (addr + k) = addr + k := w64 (by omega) (by omega)
        have w3 : IntKind.u32.wrap (addr + k) = addr + k := wu32 (by omega) (by omega)
        have hnx : ∀ o : Bool, okN A s addr (k + 1) = o → NextE 0 (fun k (x : Heap × Ab) => ([(3, .v (.int .i64 s)), (4, .v (.int .i64 addr)), (5, .v (.int .i64 N)), (6, .v (.int .u8 b)), (15, .ptr 1 5 0 0), (16, .v (.slice none 0 0)), (17, .v (.int .i64 e)), (18, .v (.bool (okN A s addr k))), (63, .v (.int .i64 N)), (64, .v (.int .i64 k))], x.1)) (fun k x => RG 1 x ∧ SameV A x.2) (k + 1) [(3, .v (.int .i64 s)), (4, .v (.int .i64 addr)), (5, .v (.int .i64 N)), (6, .v (.int .u8 b)), (15, .ptr 1 5 0 0), (16, .v (.slice none 0 0)), (17, .v (.int .i64 e)), (18, .v (.bool o)), (63, .v (.int .i64 N)), (64, .v (.int .i64 (k + 1)))] Z := fun o ho =>
          ⟨(Z, { B with lo := L' }), ⟨r3, hvx.like lk⟩, Ent.env (by simp [ho])⟩
        obtain ⟨o, ho⟩ : ∃ o, okN A s addr k = o := ⟨_, rfl⟩
        have hn : okN A s addr (k + 1) = (o && okV A s 1 ((addr + (k : Nat)) / 16)) := by rw [← ho]; rfl
        cases o with
        | false =>
          simp only [Bool.false_and] at hn
          simp [Try.ntmps4, Try.results4, cSl, cp0, cn0, cn1, cn2, cn3, cI, cD, cR, ho, hkN, hk, hw, w1, w3, hld, he]
          exact ⟨(Z, { B with lo := L' }), ⟨r3, hvx.like lk⟩, Ent.env (by simp [hn])⟩
        | true =>
          simp only [Bool.true_and] at hn
          by_cases h0 : okV A s 1 ((addr + (k : Nat)) / 16) = true
          · have h1 := (ld_ok h0).1
            rw [h0] at hn
            simp [Try.ntmps4, Try.results4, cSl, cp0, cn0, cn1, cn2, cn3, cI, cD, cR, ho, hkN, hk, hw, w1, w3, hld, he, h1]
            exact ⟨(Z, { B with lo := L' }), ⟨r3, hvx.like lk⟩, Ent.env (by simp [hn])⟩
          · have h1 : ¬ ldE A s 1 (addr + k) = 0 := fun h => h0 (ldE_0 h)
            rw [Bool.not_eq_true] at h0
            rw [h0] at hn
            simp [Try.ntmps4, Try.results4, cSl, cp0, cn0, cn1, cn2, cn3, cI, cD, cR, ho, hkN, hk, hw, w1, w3, hld, he, h1]
            exact ⟨(Z, { B with lo := L' }), ⟨r3, hvx.like lk⟩, Ent.env (by simp [hn, h1])⟩
      · rintro ⟨Y, B⟩ ⟨hx, hvx⟩
        simp only at hvx
        by_cases hN : N = 0
        · subst hN
          have ho : okN A s addr 0 = true := rfl
          obtain ⟨G3, L3, hl3, lk3, r3⟩ := load_ev2 hx (s := s) (addr := addr) (want := 1) (by omega) (by omega)
          obtain ⟨e4, G4, A4, hst, r4, hE4, hc4⟩ := store_ev r3 (s := s) (addr := addr) (b := b) (by omega)
          obtain ⟨G5, L5, hl5, lk5, r5⟩ := load_ev2 r4 (s := s) (addr := addr) (want := 1) (by omega) (by omega)
          have wA : IntKind.u32.wrap addr = addr := wu32 (by omega) (by omega)
          generalize hE1 : ldE B s 1 addr = E1 at *
          generalize hB1 : ldB B s 1 addr = B1 at *
          rcases hc4 with ⟨rfl, k1, k2, k3⟩ | ⟨he4, rfl, _⟩
          · have hr : ldE A4 s 1 addr = E1 ∧ (E1 = 0 → ldB A4 s 1 addr = b) := by
              have k4 := k3 (addr / 16)
              have hok : okV A4 s 1 (addr / 16) = okV B s 1 (addr / 16) := by
                unfold okV
                rw [k4, vw_like lk3]
                cases vw B s (addr / 16) <;> rfl
              have hhs : ((getK s A4.sps).isSome = true) = ((getK s B.sps).isSome = true) := propext (hE4.has s)
              refine ⟨by rw [← hE1]; unfold ldE; simp only [hok, hhs], fun h0 => ?_⟩
              have hb1 : okV B s 1 (addr / 16) = true := by
                rw [← hE1] at h0
                unfold ldE at h0
                split at h0
                · assumption
                · split at h0 <;> cases h0
              unfold ldB
              rw [hok, if_pos hb1]
              unfold bt
              rw [k4, vw_like lk3]
              cases hv : vw B s (addr / 16) with
              | none => unfold okV at hb1; rw [hv] at hb1; cases hb1
              | some x =>
                have hlen := vw_len (d := x.1) (rg := x.2) hx.1 hv
                simp only [Option.map_some, if_true]
                rw [List.getElem?_set_self (by omega)]; rfl
            rw [hr.1] at hl5
            generalize ldB A4 s 1 addr = B2 at *
            by_cases h0 : E1 = 0
            · have hb2 := hr.2 h0
              subst hb2
              simp [Try.ntmps4, Try.results4, cSl, cp0, cn0, cn1, cn2, cn3, cI, cD, cR, wA, hl3, hst, hl5, h0, he, ho]
            · simp [Try.ntmps4, Try.results4, cSl, cp0, cn0, cn1, cn2, cn3, cI, cD, cR, wA, hl3, hst, hl5, h0, he, ho]
          · have hsm := (SameV.refl B).like lk3
            have h1 := (hsm.ld s 1 addr).1
            have h2 := (hsm.ld s 1 addr).2
            rw [hE1] at h1
            rw [hB1] at h2
            rw [h1, h2] at hl5
            simp [Try.ntmps4, Try.results4, cSl, cp0, cn0, cn1, cn2, cn3, cI, cD, cR, wA, hl3, hst, hl5, he4, he, ho]
        · have ho : okN A s addr N = false := by
            cases h : okN A s addr N with
            | false => rfl
            | true => exact absurd ⟨ok_has (okN_all h 0 (by omega)), okN_all h⟩ hno
          have hN2 : 0 < N := by omega
          obtain ⟨G3, L3, hl3, lk3, r3⟩ := load_ev2 hx (s := s) (addr := addr) (want := 1) (by omega) (by omega)
          obtain ⟨e4, G4, A4, hst, r4, hE4, hc4⟩ := store_ev r3 (s := s) (addr := addr) (b := b) (by omega)
          obtain ⟨G5, L5, hl5, lk5, r5⟩ := load_ev2 r4 (s := s) (addr := addr) (want := 1) (by omega) (by omega)
          have wA : IntKind.u32.wrap addr = addr := wu32 (by omega) (by omega)
          generalize hE1 : ldE B s 1 addr = E1 at *
          generalize hB1 : ldB B s 1 addr = B1 at *
          rcases hc4 with ⟨rfl, k1, k2, k3⟩ | ⟨he4, rfl, _⟩
          · have hr : ldE A4 s 1 addr = E1 ∧ (E1 = 0 → ldB A4 s 1 addr = b) := by
              have k4 := k3 (addr / 16)
              have hok : okV A4 s 1 (addr / 16) = okV B s 1 (addr / 16) := by
                unfold okV
                rw [k4, vw_like lk3]
                cases vw B s (addr / 16) <;> rfl
              have hhs : ((getK s A4.sps).isSome = true) = ((getK s B.sps).isSome = true) := propext (hE4.has s)
              refine ⟨by rw [← hE1]; unfold ldE; simp only [hok, hhs], fun h0 => ?_⟩
              have hb1 : okV B s 1 (addr / 16) = true := by
                rw [← hE1] at h0
                unfold ldE at h0
                split at h0
                · assumption
                · split at h0 <;> cases h0
              unfold ldB
              rw [hok, if_pos hb1]
              unfold bt
              rw [k4, vw_like lk3]
              cases hv : vw B s (addr / 16) with
              | none => unfold okV at hb1; rw [hv] at hb1; cases hb1
              | some x =>
                have hlen := vw_len (d := x.1) (rg := x.2) hx.1 hv
                simp only [Option.map_some, if_true]
                rw [List.getElem?_set_self (by omega)]; rfl
            rw [hr.1] at hl5
            generalize ldB A4 s 1 addr = B2 at *
            by_cases h0 : E1 = 0
            · have hb2 := hr.2 h0
              subst hb2
              simp [Try.ntmps4, Try.results4, cSl, cp0, cn0, cn1, cn2, cn3, cI, cD, cR, wA, hl3, hst, hl5, h0, he, ho]
            · simp [Try.ntmps4, Try.results4, cSl, cp0, cn0, cn1, cn2, cn3, cI, cD, cR, wA, hl3, hst, hl5, h0, he, ho]
          · have hsm := (SameV.refl B).like lk3
            have h1 := (hsm.ld s 1 addr).1
            have h2 := (hsm.ld s 1 addr).2
            rw [hE1] at h1
            rw [hB1] at h2
            rw [h1, h2] at hl5
            simp [Try.ntmps4, Try.results4, cSl, cp0, cn0, cn1, cn2, cn3, cI, cD, cR, wA, hl3, hst, hl5, he4, he, ho]
    · simp only [Int.natCast_zero, Int.ofNat_zero] at hrd
      simp [Try.ntmps4, Try.results4, cSl, cp0, cn0, cn1, cn2, cn3, cI, cD, cR, hb, g1, g2, g3, g4, hrd]
      have hx := r2
      obtain ⟨B, hB⟩ : ∃ B : Ab, { A with lo := L' } = B := ⟨_, rfl⟩
      rw [hB] at hx
      refine loop_forE 0 (fun k (x : Unit) => ([(3, .v (.int .i64 s)), (4, .v (.int .i64 addr)), (5, .v (.int .i64 0)), (6, .v (.int .u8 b)), (15, .ptr 1 5 0 0), (16, .v (.slice none 0 0)), (17, .v (.int .i64 0)), (18, .v (.bool true)), (63, .v (.int .i64 0)), (64, .v (.int .i64 k))], X)) (fun k x => True) () (fun k _ hk _ => by omega) trivial ?_ (fun k _ hk => by omega) ?_
      · exact Ent.env (by simp)
      · rintro _ _
        obtain ⟨G3, L3, hl3, lk3, r3⟩ := load_ev2 hx (s := s) (addr := addr) (want := 1) (by omega) (by omega)
        obtain ⟨e4, G4, A4, hst, r4, hE4, hc4⟩ := store_ev r3 (s := s) (addr := addr) (b := b) (by omega)
        obtain ⟨G5, L5, hl5, lk5, r5⟩ := load_ev2 r4 (s := s) (addr := addr) (want := 1) (by omega) (by omega)
        have wA : IntKind.u32.wrap addr = addr := wu32 (by omega) (by omega)
        generalize hE1 : ldE B s 1 addr = E1 at *
        generalize hB1 : ldB B s 1 addr = B1 at *
        rcases hc4 with ⟨rfl, k1, k2, k3⟩ | ⟨he4, rfl, _⟩
        · have hr : ldE A4 s 1 addr = E1 ∧ (E1 = 0 → ldB A4 s 1 addr = b) := by
            have k4 := k3 (addr / 16)
            have hok : okV A4 s 1 (addr / 16) = okV B s 1 (addr / 16) := by
              unfold okV
              rw [k4, vw_like lk3]
              cases vw B s (addr / 16) <;> rfl
            have hhs : ((getK s A4.sps).isSome = true) = ((getK s B.sps).isSome = true) := propext (hE4.has s)
            refine ⟨by rw [← hE1]; unfold ldE; simp only [hok, hhs], fun h0 => ?_⟩
            have hb1 : okV B s 1 (addr / 16) = true := by
              rw [← hE1] at h0
              unfold ldE at h0
              split at h0
              · assumption
              · split at h0 <;> cases h0
            unfold ldB
            rw [hok, if_pos hb1]
            unfold bt
            rw [k4, vw_like lk3]
            cases hv : vw B s (addr / 16) with
            | none => unfold okV at hb1; rw [hv] at hb1; cases hb1
            | some x =>
              have hlen := vw_len (d := x.1) (rg := x.2) hx.1 hv
              simp only [Option.map_some, if_true]
              rw [List.getElem?_set_self (by omega)]; rfl
          rw [hr.1] at hl5
          generalize ldB A4 s 1 addr = B2 at *
          by_cases h0 : E1 = 0
          · have hb2 := hr.2 h0
            subst hb2
            simp [Try.ntmps4, Try.results4, cSl, cp0, cn0, cn1, cn2, cn3, cI, cD, cR, wA, hl3, hst, hl5, h0, hb]
          · simp [Try.ntmps4, Try.results4, cSl, cp0, cn0, cn1, cn2, cn3, cI, cD, cR, wA, hl3, hst, hl5, h0, hb]
        · have hsm := (SameV.refl B).like lk3
          have h1 := (hsm.ld s 1 addr).1
          have h2 := (hsm.ld s 1 addr).2
          rw [hE1] at h1
          rw [hB1] at h2
          rw [h1, h2] at hl5
          simp [Try.ntmps4, Try.results4, cSl, cp0, cn0, cn1, cn2, cn3, cI, cD, cR, wA, hl3, hst, hl5, he4, hb]
    · obtain ⟨d, hd⟩ : ∃ x, btL A s addr N = x := ⟨_, rfl⟩
      have hdl : d.length = N := by rw [← hd]; exact btL_len A s addr N
      have hdg : ∀ (k : Nat) (h : k < d.length), d[k] = bt A s (addr + k) := fun k h => by
        have := btL_at (A := A) (s := s) (addr := addr) (n := N) (k := k) (by omega)
        rw [hd, List.getElem?_eq_getElem h] at this
        exact Option.some.inj this
      rw [hd] at hrd
      subst hdl
      simp [Try.ntmps4, Try.results4, cSl, cp0, cn0, cn1, cn2, cn3, cI, cD, cR, hb, g1, g2, g3, g4, hrd]
      have hset : (X ++ [some (1, d.map (irow .u8))]).set X.length none = X ++ [none] := by simp
      refine loop_forE d.length (fun k (x : Heap × Ab) => ([(3, .v (.int .i64 s)), (4, .v (.int .i64 addr)), (5, .v (.int .i64 d.length)), (6, .v (.int .u8 b)), (15, .ptr 1 5 0 0), (16, .fsl true 1 (d.map (irow .u8))), (17, .v (.int .i64 0)), (18, .v (.bool true)), (63, .v (.int .i64 d.length)), (64, .v (.int .i64 k))], x.1)) (fun k x => RG 1 x ∧ SameV A x.2) (X ++ [none], { A with lo := L' }) (fun k _ hk _ => by omega) ⟨rg_app r2, (SameV.refl A).like lk⟩ ?_ ?_ ?_
      · refine Ent.trans ?_ (Ent.frzE (t := 16) (n := X.length) (sz := 1) (kc := d.length) (len := d.length) (rows := d.map (irow .u8)) (by simp [obj]) (by simp) (fun r hr => by obtain ⟨z, _, rfl⟩ := List.mem_map.1 hr; rfl) (by simp))
        rw [hset]
        exact Ent.env (by simp)
      · rintro k ⟨Y, B⟩ hk ⟨hx, hvx⟩ hw
        simp only at hvx
        obtain ⟨Z, L', hld, lk, r3⟩ := load_ev2 hx (s := s) (addr := addr + k) (want := 1) (by omega) (by omega)
        rw [(hvx.ld s 1 (addr + k)).1, (hvx.ld s 1 (addr + k)).2] at hld
        have hkN : (k : Int) < d.length := by omega
        have w1 : IntKind.i64.wrap (addr + k) = addr + k := w64 (by omega) (by omega)
        have w3 : IntKind.u32.wrap (addr + k) = addr + k := wu32 (by omega) (by omega)
        have h1 := ld_ok (hok k hk)
        rw [h1.1, h1.2] at hld
        have hgk := hdg k hk
        have hle : ¬ (d.length : Int) ≤ k := by omega
        simp [Try.ntmps4, Try.results4, cSl, cp0, cn0, cn1, cn2, cn3, cI, cD, cR, hkN, hk, hw, w1, w3, hld, hgk, hle, irow]
        exact ⟨(Z, { B with lo := L' }), ⟨r3, hvx.like lk⟩, Ent.env (by simp)⟩
      · rintro ⟨Y, B⟩ ⟨hx, hvx⟩
        simp only at hvx
        obtain ⟨G3, L3, hl3, lk3, r3⟩ := load_ev2 hx (s := s) (addr := addr) (want := 1) (by omega) (by omega)
        obtain ⟨e4, G4, A4, hst, r4, hE4, hc4⟩ := store_ev r3 (s := s) (addr := addr) (b := b) (by omega)
        obtain ⟨G5, L5, hl5, lk5, r5⟩ := load_ev2 r4 (s := s) (addr := addr) (want := 1) (by omega) (by omega)
        have wA : IntKind.u32.wrap addr = addr := wu32 (by omega) (by omega)
        generalize hE1 : ldE B s 1 addr = E1 at *
        generalize hB1 : ldB B s 1 addr = B1 at *
        rcases hc4 with ⟨rfl, k1, k2, k3⟩ | ⟨he4, rfl, _⟩
        · have hr : ldE A4 s 1 addr = E1 ∧ (E1 = 0 → ldB A4 s 1 addr = b) := by
            have k4 := k3 (addr / 16)
            have hok : okV A4 s 1 (addr / 16) = okV B s 1 (addr / 16) := by
              unfold okV
              rw [k4, vw_like lk3]
              cases vw B s (addr / 16) <;> rfl
            have hhs : ((getK s A4.sps).isSome = true) = ((getK s B.sps).isSome = true) := propext (hE4.has s)
            refine ⟨by rw [← hE1]; unfold ldE; simp only [hok, hhs], fun h0 => ?_⟩
            have hb1 : okV B s 1 (addr / 16) = true := by
              rw [← hE1] at h0
              unfold ldE at h0
              split at h0
              · assumption
              · split at h0 <;> cases h0
            unfold ldB
            rw [hok, if_pos hb1]
            unfold bt
            rw [k4, vw_like lk3]
            cases hv : vw B s (addr / 16) with
            | none => unfold okV at hb1; rw [hv] at hb1; cases hb1
            | some x =>
              have hlen := vw_len (d := x.1) (rg := x.2) hx.1 hv
              simp only [Option.map_some, if_true]
              rw [List.getElem?_set_self (by omega)]; rfl
          rw [hr.1] at hl5
          generalize ldB A4 s 1 addr = B2 at *
          by_cases h0 : E1 = 0
          · have hb2 := hr.2 h0
            subst hb2
            simp [Try.ntmps4, Try.results4, cSl, cp0, cn0, cn1, cn2, cn3, cI, cD, cR, wA, hl3, hst, hl5, h0, hb]
          · simp [Try.ntmps4, Try.results4, cSl, cp0, cn0, cn1, cn2, cn3, cI, cD, cR, wA, hl3, hst, hl5, h0, hb]
        · have hsm := (SameV.refl B).like lk3
          have h1 := (hsm.ld s 1 addr).1
          have h2 := (hsm.ld s 1 addr).2
          rw [hE1] at h1
          rw [hB1] at h2
          rw [h1, h2] at hl5
          simp [Try.ntmps4, Try.results4, cSl, cp0, cn0, cn1, cn2, cn3, cI, cD, cR, wA, hl3, hst, hl5, he4, hb]
end Go.Proofs.Ytegjbfcgbfnldaa
