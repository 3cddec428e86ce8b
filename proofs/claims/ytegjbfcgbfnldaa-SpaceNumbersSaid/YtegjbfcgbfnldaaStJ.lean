/- The statement SpaceAll. -/
import Derived.Test.YtegjbfcgbfnldaaSmG
namespace Go.Proofs.Ytegjbfcgbfnldaa
open Go.AI
set_option maxHeartbeats 2000000
set_option maxRecDepth 100000
set_option linter.unusedSimpArgs false
set_option linter.unusedVariables false
attribute [local simp] wpA wpX RunA RunD runF foot footP footB idsA bare apart runL step1 gsel_f gsel_t gsel_s res_same res_and1 res_and2 res_and3 res_and4 res_and5 res_and6 res_false res_true res_v res_ptr res_fptr res_osl res_xsl soft aAppendZ aCap ovlI ovlJ res_fsl res_esl res_agg res_tup res_fn res_junk res_anyb aPick hk imp_left iteV dstOk guardOk astep astepE AI.ev AI.look AI.put envOf aBox cellsOf allOne allOneA oneA Value.oneCell' Value.cells newObj' aFieldAddr aLoad obj readAt thenA blockA condA retA resA tupA view hot hotC hotR depthV cAgg cInt cBool mkAgg allV aAlloc aBuild fillA writeAt aStore isAggA aField idx aIndexAddr aIndex bnd aSlice aExtract aLen aBuiltin aCall isStatic eqAgg eqTy eqC ev_add ev_sub ev_mul ev_quo ev_rem ev_and ev_or ev_xor ev_andNot ev_shl ev_shr ev_eql ev_neq ev_lss ev_leq ev_gtr ev_geq ev_agg w64 wu32 wu8 ev_not ev_neg Cod.plain RCod.plain argM finM cold coldC coldR goInt intDec boolDec aggDec Weaker heapW lowA lowC Again slDec undef aBuildSlice setRows aAppend rowsOf aMakeSlice aClear aCopy softer_self softer_nil valsOf ev_min2 ev_max2 hotR_set hotR_append take_map_set irow_cold irow_mapM irow_mapMc irow_view irow_viewc irow_hotR irow_ren irow_renc irow_low WeakT heapT thOf ren renC AgainT NextF NextT fnDec cFn rNil selfLt natLt0 natLt1 getLastMap frame0 frame1 own0 own1 argG finG tau tauI tauO tauC bareA bareC bareH irow_tau irow_tauc irow_bare irow_flat irow_bareR ownA_nil ownT_nil ownA_c ownT_c ownA_s ownT_s takeMapLen footC plainA noId noIdC cloneF frame0F frame1F insertF replaceI replaceF cellDec rCell fpDec cFp rTwo deleteF allV_oA oneA_oA res_oA RunR RunE runFT footAt hotR_cat tmodN aEqH aSliceA fxSz3 fxBy3 fxAg3 fxZe3 fxSz4 fxAg4 fxSz5 fxBy5 fxAg5 fxZe5 fxSl22 fxAr22 fxSz26 fxAg26 fxZe26 fxSz28 fxBy28 fxAg28 fxZe28 fxSl28 fxAr28 fxSl51 fxAr51 fxSl58 fxAr58 fxSz69 fxAg69 fxZe69 fxFi69x0 fxFi69x1 fxFi69x2 fxFi69x3 fxFi69x4 fxFi69x5 fxSz71 fxBy71 fxAg71 fxZe71 fxSz73 fxAg73 fxZe73 fxFi73x0 fxFi73x1 fxPl73 fxZe75 fxSz76 fxAg76 fxSl76 fxAr76 fxAg77 fxZe79 fxFi79x0 fxFi79x1 fxFi79x2 fxFi79x3 fxFi79x4 fxPl79 fxSz82 fxAg82 fxZe82 fxSl82 fxAr82 fxPl82 fxSl87 fxAr87 fxSz91 fxZe91 fxFi91x0 fxFi91x1 fxFi91x2 fxFi91x3 fxPl91 fxCv3x36 fxCv36x3 fxEb4 fxNb4 fxLn28 fxNe28 fxOe28 fxXe28 fxLn58 fxNe58 fxOe58 fxXe58 fxLn76 fxFm15 fxFm16 fxFi16 fxFm17 fxFm18 fxFm19 fxFi19 fxFm20 fxFi20 fxFm21 fxFm22 fxFm23 fxFm24 fxFm25 fxFi25 fxFm26 fxFm27 fxFm28 fxFi28 fxFm29 fxFi29 fxFm30 fxFm31 fxFm32 fxFm33 fxFi33 fxFm34 fxFm35 fxFm36 fxFm37 fxFm38 fxFi38 fxFm39 fxFm40 fxFm41 fxFi41 fxFm42 fxFm43 fxFm44 fxFi44 fxFm45 fxFi45 fxFm46 fxFm47 fxFm48 fxFm49 fxFi49 fxFm50 fxFi50 fxFm51 fxFi51 fxFm52 fxFi52 fxFm53 fxFm54 fxFi54 fxFm55 fxFi55 fxFm56 fxFm57 fxFi57 fxFm58 fxFi58 fxFm61 fxFm62 fxFi62 fxFm63 fxFi63 fxFm64 fxFm65 fxFi65 fxFm77 fxFi77
attribute [local simp] pgRow_len pg16 pg17 pg18 pg16' pg17' pg18' ww16 ww17 ww18 keyI_ok aLookup aMapUpdate aDelete lkRes bin_mn spV enV Try.underlying75 Try.underlying77
attribute [local simp] Dd.eta Dd.dec_row Dd.dec_hrow
attribute [local simp] bin_pM bin_pMM rDd_sz rDd_enc
attribute [local simp] res_outZ
theorem sps_le {H : Heap} {mid : Nat} {A : Ab} (h : RG mid (H, A)) : A.sps.length ≤ 16 := by
  have := below_int (n := 16) (a := 1) h.1.nds (by
    intro z hz
    obtain ⟨x, hx, rfl⟩ := List.mem_map.1 hz
    have := h.2.num x hx
    omega)
  simpa using this
theorem spaces_ev {H : Heap} {mid : Nat} {A : Ab} (h : RG mid (H, A)) : spacesM [.ptr mid 5 0 0] H = some (outZ H.length A.sps.length, H ++ none :: outZK (sortZ (A.sps.map (·.1))) A.sps.length) := by
  simp only [spacesM, rg_at h, Option.map_some]
theorem irow64_flat (d : List Int) : ∀ r ∈ d.map (irow .i64), r.all (lowA 0) = true := fun r hr => by obtain ⟨z, _, rfl⟩ := List.mem_map.1 hr; rfl
/-- a list of spaces, frozen -/
theorem outZ_frz {n0 t n : Nat} {ρ ρ' : Env} {H : Heap} {d : List Int} (hd : d.length = n + 1) (h1 : AI.look ρ t = outZ H.length (n + 1)) (he : ∀ p ∈ ρ', AI.look ((t, .fsl true 1 (d.map (irow .i64))) :: ρ) p.1 = p.2) :
    Ent n0 (ρ', H ++ none :: (List.replicate (2 * n + 1) none ++ [none])) (ρ, H ++ none :: outZK d (n + 1)) := by
  have h := Ent.frzE (n0 := n0) (t := t) (n := H.length + (2 * n + 1 + 1)) (sz := 1) (kc := n + 1) (len := n + 1) (ρ := ρ) (H := H ++ none :: outZK d (n + 1)) (rows := d.map (irow .i64)) (by
    unfold obj
    rw [outZK_s, List.getElem?_append_right (by omega), Nat.add_sub_cancel_left, List.getElem?_cons_succ, List.getElem?_append_right (by simp)]
    simp) (by simp [hd]) (irow64_flat d) (by rw [h1, outZ_s])
  have hs : (H ++ none :: outZK d (n + 1)).set (H.length + (2 * n + 1 + 1)) none = H ++ none :: (List.replicate (2 * n + 1) none ++ [none]) := by
    rw [outZK_s, List.set_append_right _ _ (by omega), Nat.add_sub_cancel_left, List.set_cons_succ, List.set_append_right _ _ (by simp)]
    simp
  rw [hs] at h
  exact (Ent.env he).trans h
theorem gone {H : Heap} {mid : Nat} {A : Ab} (h : RG mid (H, A)) (hno : ∀ t, ¬ has A t) : A.sps = [] ∧ A.lo.pgs = [] := by
  have h1 : A.sps = [] := by
    cases e : A.sps with
    | nil => rfl
    | cons x l =>
      refine absurd (has_key.2 ?_) (hno x.1)
      rw [e]; simp
  refine ⟨h1, ?_⟩
  cases e : A.lo.pgs with
  | nil => rfl
  | cons x l =>
    have := h.2.us x (by rw [e]; simp)
    rw [h1] at this
    have h0 : cntS x.1 [] = 0 := rfl
    rw [h0] at this
    have h2 := this.1
    have h3 := this.2
    simp at h2
    omega
theorem all_pure : PureOk Try.prog 13 (argM (cInt .i64) fun f => argM (cInt .i64) fun sl => argM (cSl rDd) fun l => finM (if goodL l then some (.v (.bool true)) else none)) := by
  refine pure3 Try.func13 rfl ?_
  rintro f sl l r hr
  by_cases hc : goodL l
  case neg => rw [if_neg hc] at hr; cases hr
  rw [if_pos hc] at hr
  simp only [Option.some.injEq] at hr
  subst hr
  refine body_gen (((((noOrc_ok.withP spaces_pure).withI begun_inl).withI spaces_inl).withI drop_inl).withR free_rd) fxMix (by kernel_rfl) (by simp [Try.ntmps13]) ?_
  intro C cP cI cN cD cF cA cR cL
  have cp0 := orcP spaces_pure (C := C) (by rw [cP]; rfl)
  have cn0 := orcI begun_inl (C := C) (by rw [cN]; rfl)
  have cn1 := orcI spaces_inl (C := C) (by rw [cN]; rfl)
  have cn2 := orcI drop_inl (C := C) (by rw [cN]; rfl)
  replace cI := fun g => congrFun cI g
  simp only [Orc.withP, Orc.withI, Orc.withF, Orc.withD, Orc.withA, Orc.withR, Orc.withC, noOrc] at cI
  replace cR := fun g => congrFun cR g
  simp only [Orc.withP, Orc.withI, Orc.withF, Orc.withD, Orc.withA, Orc.withR, Orc.withC, noOrc] at cR
  replace cD : C.dyn = fun _ => [] := cD
  clear cP cN cF cA
  rcases begun_ev (f := f) (s := sl) hc with hb | ⟨G, A, hb, hrg, hf, hs⟩
  · simp [Try.ntmps13, Try.results13, cSl, cp0, cn0, cn1, cn2, cI, cD, cR, hb]
  · have hsp := spaces_ev hrg
    have hle := sps_le hrg
    obtain ⟨Z, hZ⟩ : ∃ x, sortZ (A.sps.map (·.1)) = x := ⟨_, rfl⟩
    have hZl : Z.length = A.sps.length := by rw [← hZ, sortZ_len]; simp
    have hZm : ∀ t, t ∈ Z ↔ has A t := fun t => by rw [← hZ, (sortZ_perm _).mem_iff, has_key]
    have hZn : Z.Nodup := by rw [← hZ]; exact (sortZ_perm _).nodup_iff.2 hrg.1.nds
    rw [hZ] at hsp
    cases hn : A.sps.length with
    | zero =>
      rw [hn] at hsp
      simp only [outZ_0, outZK_0] at hsp
      simp [Try.ntmps13, Try.results13, cSl, cp0, cn0, cn1, cn2, cI, cD, cR, hb, hsp]
      have hx : RG 1 (G ++ [none], A) := rg_app hrg
      have hno : ∀ t, ¬ has A t := fun t h => by
        have := (hZm t).2 h
        have h0 : Z = [] := List.length_eq_zero_iff.1 (by omega)
        rw [h0] at this; cases this
      refine loop_forE 0 (fun k (_ : Unit) => ([(0, .v (.int .i64 f)), (1, .v (.int .i64 sl)), (7, .ptr 1 5 0 0), (24, .v (.slice none 0 0)), (25, .v (.int .i64 0)), (26, .v (.int .i64 k))], G ++ [none])) (fun k x => True) () (fun k _ hk _ => by omega) trivial ?_ (fun k _ hk => by omega) ?_
      · exact Ent.env (by simp)
      · rintro _ _
        have hfr := hf
        have hsl := hs
        obtain ⟨hs0, hp0⟩ := gone hx hno
        have hfree := free_ev hx
        have hh0 : (A.lo.hr : Int) = 0 := by have := hr_le A.lo; rw [hp0] at this; simp at this; omega
        rw [hh0, hp0, hfr, hsl] at hfree
        simp only [List.length_nil, Int.natCast_zero, Int.ofNat_zero, Int.sub_zero, Int.sub_self] at hfree
        have hsp2 := spaces_ev hx
        rw [hs0] at hsp2
        simp only [List.length_nil, List.map_nil, outZ_0, outZK_0] at hsp2
        simp [Try.ntmps13, Try.results13, cSl, cp0, cn0, cn1, cn2, cI, cD, cR, hfree, hsp2]
    | succ n =>
      rw [hn] at hsp hZl
      simp [Try.ntmps13, Try.results13, cSl, cp0, cn0, cn1, cn2, cI, cD, cR, hb, hsp, outZ_s]
      refine loop_forE (n + 1) (fun k (x : Heap × Ab) => ([(0, .v (.int .i64 f)), (1, .v (.int .i64 sl)), (7, .ptr 1 5 0 0), (24, .fsl true 1 (Z.map (irow .i64))), (25, .v (.int .i64 (n + 1 : Nat))), (26, .v (.int .i64 k))], x.1)) (fun k x => RG 1 x ∧ x.2.lo.fr = f ∧ x.2.lo.sl = sl ∧ ∀ t, has x.2 t ↔ t ∈ Z.drop k) (G ++ none :: (List.replicate (2 * n + 1) none ++ [none]), A) (fun k _ hk _ => by omega) ⟨rg_app hrg, hf, hs, fun t => by rw [List.drop_zero]; exact (hZm t).symm⟩ ?_ ?_ ?_
      · exact outZ_frz (t := 24) hZl (by simp [outZ_s]) (by simp)
      · rintro k ⟨X, B⟩ hk ⟨hx, hfr, hsl, hh⟩ hw
        simp only at hfr hsl hh
        have hkZ : k < Z.length := by omega
        have hkn : (k : Int) < (n : Int) + 1 := by omega
        obtain ⟨e, Y, B', hdr, r3, f1, f2, hcs⟩ := drop_ev hx (s := Z[k])
        have hhk : has B Z[k] := (hh _).2 (by rw [List.drop_eq_getElem_cons hkZ]; exact List.mem_cons_self)
        rcases hcs with ⟨rfl, _, _, hsps⟩ | ⟨_, h, _⟩
        case inr => exact absurd hhk h
        have hh2 : ∀ t, has B' t ↔ t ∈ Z.drop (k + 1) := fun t => by
          have h1 := hh t
          have h2 : has B' t ↔ t ≠ Z[k] ∧ has B t := by
            unfold has
            rw [hsps, getK_delK]
            by_cases e : t = Z[k]
            · rw [if_pos e]; simp [e]
            · rw [if_neg e]; simp [e]
          rw [h2, h1, List.drop_eq_getElem_cons hkZ, List.mem_cons]
          have hnd : Z[k] ∉ Z.drop (k + 1) := by
            have := hZn.sublist (List.drop_sublist k Z)
            rw [List.drop_eq_getElem_cons hkZ, List.nodup_cons] at this
            exact this.1
          constructor
          · rintro ⟨a, b | b⟩
            · exact absurd b a
            · exact b
          · intro b
            exact ⟨fun e => hnd (e ▸ b), .inr b⟩
        simp [Try.ntmps13, Try.results13, cSl, cp0, cn0, cn1, cn2, cI, cD, cR, hk, hw, hkZ, hkn, hdr, irow]
        exact ⟨(Y, B'), ⟨r3, f1.trans hfr, f2.trans hsl, hh2⟩, Ent.env (by simp)⟩
      · rintro ⟨X, B⟩ ⟨hx, hfr, hsl, hh⟩
        simp only at hfr hsl hh
        have hno : ∀ t, ¬ has B t := fun t h => by
          have := (hh t).1 h
          rw [List.drop_eq_nil_of_le (by omega)] at this
          cases this
        obtain ⟨hs0, hp0⟩ := gone hx hno
        have hfree := free_ev hx
        have hh0 : (B.lo.hr : Int) = 0 := by have := hr_le B.lo; rw [hp0] at this; simp at this; omega
        rw [hh0, hp0, hfr, hsl] at hfree
        simp only [List.length_nil, Int.natCast_zero, Int.ofNat_zero, Int.sub_zero, Int.sub_self] at hfree
        have hsp2 := spaces_ev hx
        rw [hs0] at hsp2
        simp only [List.length_nil, List.map_nil, outZ_0, outZK_0] at hsp2
        simp [Try.ntmps13, Try.results13, cSl, cp0, cn0, cn1, cn2, cI, cD, cR, hfree, hsp2]
end Go.Proofs.Ytegjbfcgbfnldaa
