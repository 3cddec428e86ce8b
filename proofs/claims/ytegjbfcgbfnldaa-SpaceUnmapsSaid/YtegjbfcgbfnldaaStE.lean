/- The statement SpaceRights. -/
import Derived.Test.YtegjbfcgbfnldaaSmF
namespace Go.Proofs.Ytegjbfcgbfnldaa
open Go.AI
set_option maxHeartbeats 2000000
set_option maxRecDepth 100000
set_option linter.unusedSimpArgs false
set_option linter.unusedVariables false
attribute [local simp] wpA wpX RunA RunD runF foot footP footB idsA bare apart runL step1 gsel_f gsel_t gsel_s res_same res_and1 res_and2 res_and3 res_and4 res_and5 res_and6 res_false res_true res_v res_ptr res_fptr res_osl res_xsl soft aAppendZ aCap ovlI ovlJ res_fsl res_esl res_agg res_tup res_fn res_junk res_anyb aPick hk imp_left iteV dstOk guardOk astep astepE AI.ev AI.look AI.put envOf aBox cellsOf allOne allOneA oneA Value.oneCell' Value.cells newObj' aFieldAddr aLoad obj readAt thenA blockA condA retA resA tupA view hot hotC hotR depthV cAgg cInt cBool mkAgg allV aAlloc aBuild fillA writeAt aStore isAggA aField idx aIndexAddr aIndex bnd aSlice aExtract aLen aBuiltin aCall isStatic eqAgg eqTy eqC ev_add ev_sub ev_mul ev_quo ev_rem ev_and ev_or ev_xor ev_andNot ev_shl ev_shr ev_eql ev_neq ev_lss ev_leq ev_gtr ev_geq ev_agg w64 wu32 wu8 ev_not ev_neg Cod.plain RCod.plain argM finM cold coldC coldR goInt intDec boolDec aggDec Weaker heapW lowA lowC Again slDec undef aBuildSlice setRows aAppend rowsOf aMakeSlice aClear aCopy softer_self softer_nil valsOf ev_min2 ev_max2 hotR_set hotR_append take_map_set irow_cold irow_mapM irow_mapMc irow_view irow_viewc irow_hotR irow_ren irow_renc irow_low WeakT heapT thOf ren renC AgainT NextF NextT fnDec cFn rNil selfLt natLt0 natLt1 getLastMap frame0 frame1 own0 own1 argG finG tau tauI tauO tauC bareA bareC bareH irow_tau irow_tauc irow_bare irow_flat irow_bareR ownA_nil ownT_nil ownA_c ownT_c ownA_s ownT_s takeMapLen footC plainA noId noIdC cloneF frame0F frame1F insertF replaceI replaceF cellDec rCell fpDec cFp rTwo deleteF allV_oA oneA_oA res_oA RunR RunE runFT footAt hotR_cat tmodN aEqH aSliceA fxSz3 fxBy3 fxAg3 fxZe3 fxSz4 fxAg4 fxSz5 fxBy5 fxAg5 fxZe5 fxSl22 fxAr22 fxSz26 fxAg26 fxZe26 fxSz28 fxBy28 fxAg28 fxZe28 fxSl28 fxAr28 fxSl51 fxAr51 fxSl58 fxAr58 fxSz69 fxAg69 fxZe69 fxFi69x0 fxFi69x1 fxFi69x2 fxFi69x3 fxFi69x4 fxFi69x5 fxSz71 fxBy71 fxAg71 fxZe71 fxSz73 fxAg73 fxZe73 fxFi73x0 fxFi73x1 fxPl73 fxZe75 fxSz76 fxAg76 fxSl76 fxAr76 fxAg77 fxZe79 fxFi79x0 fxFi79x1 fxFi79x2 fxFi79x3 fxFi79x4 fxPl79 fxSz82 fxAg82 fxZe82 fxSl82 fxAr82 fxPl82 fxSl87 fxAr87 fxSz91 fxZe91 fxFi91x0 fxFi91x1 fxFi91x2 fxFi91x3 fxPl91 fxCv3x36 fxCv36x3 fxEb4 fxNb4 fxLn28 fxNe28 fxOe28 fxXe28 fxLn58 fxNe58 fxOe58 fxXe58 fxLn76 fxFm15 fxFm16 fxFi16 fxFm17 fxFm18 fxFm19 fxFi19 fxFm20 fxFi20 fxFm21 fxFm22 fxFm23 fxFm24 fxFm25 fxFi25 fxFm26 fxFm27 fxFm28 fxFi28 fxFm29 fxFi29 fxFm30 fxFm31 fxFm32 fxFm33 fxFi33 fxFm34 fxFm35 fxFm36 fxFm37 fxFm38 fxFi38 fxFm39 fxFm40 fxFm41 fxFi41 fxFm42 fxFm43 fxFm44 fxFi44 fxFm45 fxFi45 fxFm46 fxFm47 fxFm48 fxFm49 fxFi49 fxFm50 fxFi50 fxFm51 fxFi51 fxFm52 fxFi52 fxFm53 fxFm54 fxFi54 fxFm55 fxFi55 fxFm56 fxFm57 fxFi57 fxFm58 fxFi58 fxFm61 fxFm62 fxFi62 fxFm63 fxFi63 fxFm64 fxFm65 fxFi65 fxFm77 fxFi77
attribute [local simp] pgRow_len pg16 pg17 pg18 pg16' pg17' pg18' ww16 ww17 ww18 keyI_ok aLookup aMapUpdate aDelete lkRes bin_mn spV enV Try.underlying75 Try.underlying77
attribute [local simp] Dd.eta Dd.dec_row Dd.dec_hrow
attribute [local simp] bin_pM bin_pMM rDd_sz rDd_enc
theorem pure8 {P : Program} {f : FuncId} {fn : Func} {c : Code} {α1 α2 α3 α4 α5 α6 α7 α8 : Type} {c1 : Cod α1} {c2 : Cod α2} {c3 : Cod α3} {c4 : Cod α4} {c5 : Cod α5} {c6 : Cod α6} {c7 : Cod α7} {c8 : Cod α8} (hf : P.funcs[f]? = some fn) (hb : fn.body = some c) {g : α1 → α2 → α3 → α4 → α5 → α6 → α7 → α8 → Option AVal} (h : ∀ e1 e2 e3 e4 e5 e6 e7 e8 r, g e1 e2 e3 e4 e5 e6 e7 e8 = some r → Body P fn c [c1.enc e1, c2.enc e2, c3.enc e3, c4.enc e4, c5.enc e5, c6.enc e6, c7.enc e7, c8.enc e8] r) : PureOk P f (argM c1 fun e1 => argM c2 fun e2 => argM c3 fun e3 => argM c4 fun e4 => argM c5 fun e5 => argM c6 fun e6 => argM c7 fun e7 => argM c8 fun e8 => finM (g e1 e2 e3 e4 e5 e6 e7 e8)) := by
  refine pure_canon hf hb fun args r hr => ?_
  obtain ⟨x1, e1, r1, rfl, h1, hr⟩ := argM_some hr
  obtain ⟨x2, e2, r2, rfl, h2, hr⟩ := argM_some hr
  obtain ⟨x3, e3, r3, rfl, h3, hr⟩ := argM_some hr
  obtain ⟨x4, e4, r4, rfl, h4, hr⟩ := argM_some hr
  obtain ⟨x5, e5, r5, rfl, h5, hr⟩ := argM_some hr
  obtain ⟨x6, e6, r6, rfl, h6, hr⟩ := argM_some hr
  obtain ⟨x7, e7, r7, rfl, h7, hr⟩ := argM_some hr
  obtain ⟨x8, e8, r8, rfl, h8, hr⟩ := argM_some hr
  obtain ⟨rfl, hr⟩ := finM_some hr
  exact ⟨_, .cons c1 h1 (.cons c2 h2 (.cons c3 h3 (.cons c4 h4 (.cons c5 h5 (.cons c6 h6 (.cons c7 h7 (.cons c8 h8 .nil))))))), h e1 e2 e3 e4 e5 e6 e7 e8 r hr⟩
theorem store_ev {H : Heap} {mid : Nat} {A : Ab} (h : RG mid (H, A)) {s addr b : Int} (hw : 0 ≤ addr ∧ addr < 4294967296) :
    ∃ e H' A', storeM [.ptr mid 5 0 0, .v (.int .i64 s), .v (.int .u32 addr), .v (.int .u8 b)] H = some (.v (.int .i64 e), H') ∧ RG mid (H', A') ∧ Eff s A A' ∧
      ((e = 0 ∧ has A s ∧ okV A s 2 (addr / 16) = true ∧ ∀ j, vw A' s j = (vw A s j).map fun x => (if addr / 16 = j then x.1.set (addr % 16).toNat b else x.1, x.2)) ∨
       (e ≠ 0 ∧ A' = A ∧ ((e = 4 ∧ ¬ has A s) ∨ (e = 11 ∧ has A s ∧ okV A s 2 (addr / 16) = false) ∨ (e = 6 ∧ has A s ∧ okV A s 2 (addr / 16) = true)))) := by
  obtain ⟨e, H', A', h1, h2, h3, h4⟩ := write_ev (rg_app (K := [some (1, yRow [b])]) h) (s := s) (addr := addr) (d := [b]) (w64 (by omega) (by omega))
  have hst : storeM [.ptr mid 5 0 0, .v (.int .i64 s), .v (.int .u32 addr), .v (.int .u8 b)] H = some (writeR (H ++ [some (1, yRow [b])]) mid A s addr [b]) := by
    simp only [storeM, rg_at h, Option.bind_some]
    rw [if_pos hw]
  have hok : (∀ i : Nat, i < [b].length → okV A s 2 ((addr + (i : Int)) / 16) = true) ↔ okV A s 2 (addr / 16) = true := by
    constructor
    · intro h
      have := h 0 (by simp)
      simpa using this
    · intro h i hi
      have : i = 0 := by simp at hi; omega
      subst this
      simpa using h
  refine ⟨e, H', A', by rw [hst, h1], h2, h3, ?_⟩
  rcases h4 with ⟨k0, k1, _, k3, k4⟩ | ⟨k0, k1, k2⟩
  · refine .inl ⟨k0, k1, hok.1 k3, fun j => ?_⟩
    rw [k4]
    congr 1
    funext x
    simp [patN]
  · refine .inr ⟨k0, k1, ?_⟩
    rcases k2 with h | ⟨_, h⟩ | ⟨a, b', c⟩ | ⟨a, b', c⟩
    · exact .inl h
    · simp at h
    · refine .inr (.inl ⟨a, b', ?_⟩)
      rw [hok] at c
      simpa using c
    · exact .inr (.inr ⟨a, b', hok.1 c⟩)
theorem and2 {r : Int} (h0 : 0 ≤ r) (h1 : r ≤ 7) : iand .i64 r 2 = 0 ∨ iand .i64 r 2 = 2 := by
  have : ∀ n : Nat, n < 8 → iand .i64 (n : Int) 2 = 0 ∨ iand .i64 (n : Int) 2 = 2 := by decide
  obtain ⟨N, rfl⟩ := Int.eq_ofNat_of_zero_le h0
  exact this N (by omega)
theorem rights_pure : PureOk Try.prog 5 (argM (cInt .i64) fun f => argM (cInt .i64) fun sl => argM (cSl rDd) fun l => argM (cInt .i64) fun s => argM (cInt .i64) fun page => argM (cInt .i64) fun n => argM (cInt .i64) fun rights => argM (cInt .i64) fun want => finM (if goodL l then some (.v (.bool true)) else none)) := by
  refine pure8 Try.func5 rfl ?_
  rintro f sl l s page n rights want r hr
  by_cases hc : goodL l
  case neg => rw [if_neg hc] at hr; cases hr
  rw [if_pos hc] at hr
  simp only [Option.some.injEq] at hr
  subst hr
  refine body_gen (((((noOrc_ok.withP spaces_pure).withI begun_inl).withI prot_inl).withI load_inl).withI store_inl) fxMix (by kernel_rfl) (by simp [Try.ntmps5]) ?_
  intro C cP cI cN cD cF cA cR cL
  have cp0 := orcP spaces_pure (C := C) (by rw [cP]; rfl)
  have cn0 := orcI begun_inl (C := C) (by rw [cN]; rfl)
  have cn1 := orcI prot_inl (C := C) (by rw [cN]; rfl)
  have cn2 := orcI load_inl (C := C) (by rw [cN]; rfl)
  have cn3 := orcI store_inl (C := C) (by rw [cN]; rfl)
  replace cI := fun g => congrFun cI g
  simp only [Orc.withP, Orc.withI, Orc.withF, Orc.withD, Orc.withA, Orc.withR, Orc.withC, noOrc] at cI
  replace cR : C.rd = fun _ => none := cR
  replace cD : C.dyn = fun _ => [] := cD
  clear cP cN cF cA
  rcases begun_ev (f := f) (s := sl) hc with hb | ⟨G, A, hb, hrg, hf, hs⟩
  · simp [Try.ntmps5, Try.results5, cSl, cp0, cn0, cn1, cn2, cn3, cI, cD, cR, hb]
  · obtain ⟨e, G2, A2, hpr, r2, hE, hcs⟩ := prot_ev hrg (s := s) (first := page) (n := n) (rights := rights)
    rcases hcs with ⟨rfl, hh, hsp, hv⟩ | ⟨he, rfl⟩
    case inr =>
      simp [Try.ntmps5, Try.results5, cSl, cp0, cn0, cn1, cn2, cn3, cI, cD, cR, hb, hpr, he]
    by_cases g1 : want < 1
    · simp [Try.ntmps5, Try.results5, cSl, cp0, cn0, cn1, cn2, cn3, cI, cD, cR, hb, hpr, g1]
    by_cases g2 : 7 < want
    · simp [Try.ntmps5, Try.results5, cSl, cp0, cn0, cn1, cn2, cn3, cI, cD, cR, hb, hpr, g1, g2]
    unfold spanBad at hsp
    have hh2 : has A2 s := (hE.has s).2 hh
    obtain ⟨N, rfl⟩ := Int.eq_ofNat_of_zero_le (show 0 ≤ n by omega)
    simp [Try.ntmps5, Try.results5, cSl, cp0, cn0, cn1, cn2, cn3, cI, cD, cR, hb, hpr, g1, g2]
    refine loop_forE N (fun k (x : Heap × Ab) => ([(3, .v (.int .i64 s)), (4, .v (.int .i64 page)), (6, .v (.int .i64 rights)), (7, .v (.int .i64 want)), (17, .ptr 1 5 0 0), (50, .v (.int .i64 N)), (51, .v (.int .i64 k))], x.1)) (fun k x => RG 1 x ∧ has x.2 s ∧ ∀ j, page ≤ j → j < page + N → ∃ d, vw x.2 s j = some (d, rights)) (G2, A2) (fun k _ hk _ => by omega) ⟨r2, hh2, hv⟩ (Ent.env (by simp)) ?_ ?_
    · rintro k ⟨X, B⟩ hk ⟨hx, hhx, hvx⟩ hw
      simp only at hvx hhx
      obtain ⟨b, e, Y, L', hld, lk, r3, hcs, _⟩ := load_ev hx (s := s) (addr := (page + k) * 16) (want := want) (by omega)
      obtain ⟨d, hd⟩ := hvx (page + k) (by omega) (by omega)
      have hok : okV B s want ((page + (k : Int)) * 16 / 16) = (iand .i64 rights want == want) := by
        rw [show (page + (k : Int)) * 16 / 16 = page + k by omega]
        unfold okV
        rw [hd]
      rw [hok] at hcs
      have w1 : IntKind.i64.wrap (page + k) = page + k := w64 (by omega) (by omega)
      have w2 : IntKind.i64.wrap ((page + k) * 16) = (page + k) * 16 := w64 (by omega) (by omega)
      have w3 : IntKind.u32.wrap ((page + k) * 16) = (page + k) * 16 := wu32 (by omega) (by omega)
      have hkN : (k : Int) < N := by omega
      have hnext : NextE 0 (fun k (x : Heap × Ab) => ([(3, .v (.int .i64 s)), (4, .v (.int .i64 page)), (6, .v (.int .i64 rights)), (7, .v (.int .i64 want)), (17, .ptr 1 5 0 0), (50, .v (.int .i64 N)), (51, .v (.int .i64 k))], x.1)) (fun k x => RG 1 x ∧ has x.2 s ∧ ∀ j, page ≤ j → j < page + N → ∃ d, vw x.2 s j = some (d, rights)) (k + 1) [(3, .v (.int .i64 s)), (4, .v (.int .i64 page)), (6, .v (.int .i64 rights)), (7, .v (.int .i64 want)), (17, .ptr 1 5 0 0), (50, .v (.int .i64 N)), (51, .v (.int .i64 (k + 1)))] Y :=
        ⟨(Y, { B with lo := L' }), ⟨r3, hhx, fun j h1 h2 => by rw [vw_like lk]; exact hvx j h1 h2⟩, Ent.env (by simp)⟩
      rcases hcs with ⟨h, _⟩ | ⟨_, h, _⟩ | ⟨_, _, ⟨h, rfl, rfl⟩ | ⟨h, rfl, rfl⟩⟩
      · exact absurd hhx h
      · omega
      · simp only [beq_iff_eq] at h
        simp [Try.ntmps5, Try.results5, cSl, cp0, cn0, cn1, cn2, cn3, cI, cD, cR, w1, w2, w3, hld, hw, hk, hkN, h]
        refine ⟨(Y, { B with lo := L' }), ⟨r3, hhx, fun j h1 h2 => by rw [vw_like lk]; exact hvx j h1 h2⟩, Ent.env (by simp)⟩
      · simp only [beq_eq_false_iff_ne, ne_eq] at h
        simp [Try.ntmps5, Try.results5, cSl, cp0, cn0, cn1, cn2, cn3, cI, cD, cR, w1, w2, w3, hld, hw, hk, hkN, h]
        refine ⟨(Y, { B with lo := L' }), ⟨r3, hhx, fun j h1 h2 => by rw [vw_like lk]; exact hvx j h1 h2⟩, Ent.env (by simp)⟩
    · rintro ⟨X, B⟩ ⟨hx, hhx, hvx⟩
      simp only at hvx hhx
      obtain ⟨e, Y, B', hst, _, _, hcs⟩ := store_ev hx (s := s) (addr := page * 16) (b := 1) (by omega)
      obtain ⟨d, hd⟩ := hvx page (by omega) (by omega)
      have hok : okV B s 2 (page * 16 / 16) = (iand .i64 rights 2 == 2) := by
        rw [show page * 16 / 16 = page by omega]
        unfold okV
        rw [hd]
      rw [hok] at hcs
      have w2 : IntKind.i64.wrap (page * 16) = page * 16 := w64 (by omega) (by omega)
      have w3 : IntKind.u32.wrap (page * 16) = page * 16 := wu32 (by omega) (by omega)
      have h2 := and2 (r := rights) (by omega) (by omega)
      rcases hcs with ⟨rfl, _, h, _⟩ | ⟨he, _, ⟨_, h⟩ | ⟨rfl, _, h⟩ | ⟨rfl, _, h⟩⟩
      · simp only [beq_iff_eq] at h
        simp [Try.ntmps5, Try.results5, cSl, cp0, cn0, cn1, cn2, cn3, cI, cD, cR, w2, w3, hst, h]
      · exact absurd hhx h
      · simp only [beq_eq_false_iff_ne, ne_eq] at h
        have h3 : iand .i64 rights 2 = 0 := by omega
        simp [Try.ntmps5, Try.results5, cSl, cp0, cn0, cn1, cn2, cn3, cI, cD, cR, w2, w3, hst, h3]
      · simp only [beq_iff_eq] at h
        simp [Try.ntmps5, Try.results5, cSl, cp0, cn0, cn1, cn2, cn3, cI, cD, cR, w2, w3, hst, h]
end Go.Proofs.Ytegjbfcgbfnldaa
