/- The statement SpaceNumbers. -/
import Derived.Test.YtegjbfcgbfnldaaStJ
import Derived.Test.YtegjbfcgbfnldaaSmG
import Derived.Test.YtegjbfcgbfnldaaSmF
namespace Go.Proofs.Ytegjbfcgbfnldaa
open Go.AI
set_option maxHeartbeats 2000000
set_option maxRecDepth 100000
set_option linter.unusedSimpArgs false
set_option linter.unusedVariables false
attribute [local simp] wpA wpX RunA RunD runF foot footP footB idsA bare apart runL step1 gsel_f gsel_t gsel_s res_same res_and1 res_and2 res_and3 res_and4 res_and5 res_and6 res_false res_true res_v res_ptr res_fptr res_osl res_xsl soft aAppendZ aCap ovlI ovlJ res_fsl res_esl res_agg res_tup res_fn res_junk res_anyb aPick hk imp_left iteV dstOk guardOk astep astepE AI.ev AI.look AI.put envOf aBox cellsOf allOne allOneA oneA Value.oneCell' Value.cells newObj' aFieldAddr aLoad obj readAt thenA blockA condA retA resA tupA view hot hotC hotR depthV cAgg cInt cBool mkAgg allV aAlloc aBuild fillA writeAt aStore isAggA aField idx aIndexAddr aIndex bnd aSlice aExtract aLen aBuiltin aCall isStatic eqAgg eqTy eqC ev_add ev_sub ev_mul ev_quo ev_rem ev_and ev_or ev_xor ev_andNot ev_shl ev_shr ev_eql ev_neq ev_lss ev_leq ev_gtr ev_geq ev_agg w64 wu32 wu8 ev_not ev_neg Cod.plain RCod.plain argM finM cold coldC coldR goInt intDec boolDec aggDec Weaker heapW lowA lowC Again slDec undef aBuildSlice setRows aAppend rowsOf aMakeSlice aClear aCopy softer_self softer_nil valsOf ev_min2 ev_max2 hotR_set hotR_append take_map_set irow_cold irow_mapM irow_mapMc irow_view irow_viewc irow_hotR irow_ren irow_renc irow_low WeakT heapT thOf ren renC AgainT NextF NextT fnDec cFn rNil selfLt natLt0 natLt1 getLastMap frame0 frame1 own0 own1 argG finG tau tauI tauO tauC bareA bareC bareH irow_tau irow_tauc irow_bare irow_flat irow_bareR ownA_nil ownT_nil ownA_c ownT_c ownA_s ownT_s takeMapLen footC plainA noId noIdC cloneF frame0F frame1F insertF replaceI replaceF cellDec rCell fpDec cFp rTwo deleteF allV_oA oneA_oA res_oA RunR RunE runFT footAt hotR_cat tmodN aEqH aSliceA fxSz3 fxBy3 fxAg3 fxZe3 fxSz4 fxAg4 fxSz5 fxBy5 fxAg5 fxZe5 fxSl22 fxAr22 fxSz26 fxAg26 fxZe26 fxSz28 fxBy28 fxAg28 fxZe28 fxSl28 fxAr28 fxSl51 fxAr51 fxSl58 fxAr58 fxSz69 fxAg69 fxZe69 fxFi69x0 fxFi69x1 fxFi69x2 fxFi69x3 fxFi69x4 fxFi69x5 fxSz71 fxBy71 fxAg71 fxZe71 fxSz73 fxAg73 fxZe73 fxFi73x0 fxFi73x1 fxPl73 fxZe75 fxSz76 fxAg76 fxSl76 fxAr76 fxAg77 fxZe79 fxFi79x0 fxFi79x1 fxFi79x2 fxFi79x3 fxFi79x4 fxPl79 fxSz82 fxAg82 fxZe82 fxSl82 fxAr82 fxPl82 fxSl87 fxAr87 fxSz91 fxZe91 fxFi91x0 fxFi91x1 fxFi91x2 fxFi91x3 fxPl91 fxCv3x36 fxCv36x3 fxEb4 fxNb4 fxLn28 fxNe28 fxOe28 fxXe28 fxLn58 fxNe58 fxOe58 fxXe58 fxLn76 fxFm15 fxFm16 fxFi16 fxFm17 fxFm18 fxFm19 fxFi19 fxFm20 fxFi20 fxFm21 fxFm22 fxFm23 fxFm24 fxFm25 fxFi25 fxFm26 fxFm27 fxFm28 fxFi28 fxFm29 fxFi29 fxFm30 fxFm31 fxFm32 fxFm33 fxFi33 fxFm34 fxFm35 fxFm36 fxFm37 fxFm38 fxFi38 fxFm39 fxFm40 fxFm41 fxFi41 fxFm42 fxFm43 fxFm44 fxFi44 fxFm45 fxFi45 fxFm46 fxFm47 fxFm48 fxFm49 fxFi49 fxFm50 fxFi50 fxFm51 fxFi51 fxFm52 fxFi52 fxFm53 fxFm54 fxFi54 fxFm55 fxFi55 fxFm56 fxFm57 fxFi57 fxFm58 fxFi58 fxFm61 fxFm62 fxFi62 fxFm63 fxFi63 fxFm64 fxFm65 fxFi65 fxFm77 fxFi77
attribute [local simp] pgRow_len pg16 pg17 pg18 pg16' pg17' pg18' ww16 ww17 ww18 keyI_ok aLookup aMapUpdate aDelete lkRes bin_mn spV enV Try.underlying75 Try.underlying77
attribute [local simp] Dd.eta Dd.dec_row Dd.dec_hrow
attribute [local simp] bin_pM bin_pMM rDd_sz rDd_enc
attribute [local simp] res_outZ
theorem clInt : InlOk Try.prog 39 (cloneI 1) := by
  refine inl_soft Try.func39 rfl ?_
  intro args H r H' hr
  rcases cloneI_some hr with ⟨o, rows, rfl, hl, hc⟩ | ⟨id, st, k, kc, rows, rfl, hob, hle, hl, hc⟩ | ⟨rfl, rfl, rfl⟩
  · refine ⟨by simp [Try.ntmps39], wpA_sound noOrc_ok fxMix _ _ _ _ (by kernel_rfl) ?_⟩
    rcases hc with ⟨rfl, rfl, rfl⟩ | ⟨h0, rfl, rfl⟩
    · simp [Try.ntmps39, Try.results39, noOrc]
    · simp [Try.ntmps39, Try.results39, h0, hl, noOrc]
  · refine ⟨by simp [Try.ntmps39], wpA_sound noOrc_ok fxMix _ _ _ _ (by kernel_rfl) ?_⟩
    have hob' := obj_get hob
    have e1 : min k (rows.length - st) = k := by omega
    have e2 : st + k ≤ rows.length := hle
    have e3 : st ≤ rows.length := by omega
    rcases hc with ⟨rfl, rfl, rfl⟩ | ⟨h0, rfl, rfl⟩
    · simp [Try.ntmps39, Try.results39, noOrc, hob', e2, e3]
    · simp [Try.ntmps39, Try.results39, hl, noOrc, hob', e1, e2, h0]
  · refine ⟨by simp [Try.ntmps39], wpA_sound noOrc_ok fxMix _ _ _ _ (by kernel_rfl) ?_⟩
    simp [Try.ntmps39, Try.results39, noOrc]
theorem inEq_pure : PureOk Try.prog 41 (argM (cSl (rI .i64)) fun l => argM (cSl (rI .i64)) fun m => finM (if l.length ≤ 4294967296 then some (.v (.bool (decide (l = m)))) else none)) := by
  refine pure2 Try.func41 rfl ?_
  rintro l m r hr
  by_cases hc : l.length ≤ 4294967296
  case neg => rw [if_neg hc] at hr; cases hr
  rw [if_pos hc] at hr
  simp only [Option.some.injEq] at hr
  subst hr
  refine body_gen noOrc_ok fxMix (by kernel_rfl) (by simp [Try.ntmps41]) ?_
  intro C cP cI cN cD cF cA cR cL
  replace cI : C.inl = fun _ => false := cI
  replace cR : C.rd = fun _ => none := cR
  replace cD : C.dyn = fun _ => [] := cD
  clear cP cN cF cA
  simp [Try.ntmps41, Try.results41, cSl, cI, cD, cR, rI]
  split
  · rename_i hn
    have hn : l.length = m.length := by omega
    refine loop_for l.length (fun k (_ : Unit) => ([(0, .fsl false 1 (l.map (irow .i64))), (1, .fsl false 1 (m.map (irow .i64))), (12, .v (.int .i64 l.length)), (13, .v (.int .i64 k))], [])) (fun k _ => l.drop k = m.drop k ↔ l = m) () hc (by simp) (by simp) ?_ ?_
    · intro k _ hk hall hw
      have hk3 : k < m.length := by omega
      rw [List.drop_eq_getElem_cons hk, List.drop_eq_getElem_cons hk3, List.cons.injEq] at hall
      by_cases q2 : l[k] = m[k]
      · simp only [q2, true_and] at hall
        simp [Try.ntmps41, Try.results41, cSl, cI, cD, cR, hk, hk3, hw, rI, irow, q2]
        exact hall
      · have hne : ¬ l = m := fun h => q2 (hall.2 h).1
        simp [Try.ntmps41, Try.results41, cSl, cI, cD, cR, hk, hk3, hw, rI, irow, q2]
        exact hne
    · intro _ hall
      simp [hn] at hall
      simp [Try.ntmps41, Try.results41, cSl, cI, cD, cR, hall]
  · rename_i hn
    rintro rfl
    exact hn rfl
theorem rg_setP2 {H : Heap} {mid P : Nat} {A : Ab} {rows : List Row} {o : Option (Nat × List Row)} (h : RG mid (H, A)) (hP : H[P]? = some (some (1, rows))) (hc : A.lo.cell mid P = none) : RG mid (H.set P o, A) :=
  ⟨h.1.keep (h.1.st.set_ne hc) rfl (fun i rws hi => by
    simp only at hi ⊢
    rw [List.getElem?_set_ne, hi]
    rintro rfl
    rw [hP] at hi; cases hi), h.2⟩
theorem make_keep {H H' : Heap} {mid : Nat} {A A' : Ab} (h : RG mid (H, A)) {r : AVal} (hr : makeM [.ptr mid 5 0 0] H = some (r, H')) (h' : RG mid (H', A')) : Keep mid (H, A) (H', A') := by
  have hmp : mpAt H A.lo.sid = some (A.sps.map fun x : Int × (Nat × En) => (x.1, x.2.1)) := mpAt_iff.2 ⟨by rw [h.1.sp, List.map_map]; rfl, by rw [List.map_map]; exact h.1.nds⟩
  have hev : makeM [.ptr mid 5 0 0] H = some (makeR H A.lo.sid (A.sps.map fun x : Int × (Nat × En) => (x.1, x.2.1))) := by
    simp only [makeM, stAt_iff.2 h.1.st, Option.bind_some, hmp, Option.map_some]
  rw [hev] at hr
  have hks : (A.sps.map fun x : Int × (Nat × En) => (x.1, x.2.1)).map (·.1) = A.sps.map (·.1) := by rw [List.map_map]; rfl
  unfold makeR at hr
  rw [hks] at hr
  cases hf : freeF (A.sps.map (·.1)) 1 16 with
  | none =>
    simp only [hf, Option.some.injEq, Prod.mk.injEq] at hr
    obtain ⟨_, rfl⟩ := hr
    rw [rg_uniq h' h]
    exact Keep.refl _ _
  | some s =>
    simp only [hf, Option.some.injEq, Prod.mk.injEq] at hr
    obtain ⟨_, rfl⟩ := hr
    rw [rg_uniq h' (make_spec h hf).1]
    intro i rows h1 h2
    refine ⟨h1, ?_⟩
    have hil := (List.getElem?_eq_some_iff.1 h2).1
    simp only at h2 hil ⊢
    rw [List.getElem?_set_ne, List.getElem?_append_left hil, h2]
    rintro rfl
    have := h.1.sp
    rw [h2] at this; cases this
theorem sub_len {α : Type} [DecidableEq α] : ∀ {a b : List α}, a.Nodup → (∀ x ∈ a, x ∈ b) → a.length ≤ b.length
  | [], _, _, _ => by simp
  | x :: a, b, hn, hs => by
    rw [List.nodup_cons] at hn
    have hx := hs x (by simp)
    have h1 := sub_len (b := b.erase x) hn.2 fun y hy => (List.mem_erase_of_ne (fun e => hn.1 (by rw [← e]; exact hy))).2 (hs y (by simp [hy]))
    have h2 := List.length_erase_of_mem hx
    have h3 := List.length_pos_of_mem hx
    simp only [List.length_cons]
    omega
/-- sixteen numbers are all of them -/
theorem free_len {H : Heap} {mid : Nat} {A : Ab} (h : RG mid (H, A)) : (freeF (A.sps.map (·.1)) 1 16 = none → A.sps.length = 16) ∧ ∀ s, freeF (A.sps.map (·.1)) 1 16 = some s → A.sps.length < 16 := by
  refine ⟨fun hf => ?_, fun s hf => ?_⟩
  · have h1 := sps_le h
    have h2 := freeF_all hf
    have hsub : ((List.range 16).map fun i : Nat => (1 : Int) + (i : Nat)).length ≤ (A.sps.map (·.1)).length := by
      refine sub_len ?_ fun z hz => ?_
      · rw [List.nodup_iff_pairwise_ne, List.pairwise_map]
        exact (List.nodup_iff_pairwise_ne.1 List.nodup_range).imp fun h e => h (by omega)
      · obtain ⟨i, hi, rfl⟩ := List.mem_map.1 hz
        rw [List.mem_range] at hi
        exact h2 _ (by omega) (by omega)
    simp at hsub
    omega
  · obtain ⟨f1, f2, f3, f4⟩ := freeF_range hf
    have := below_int (l := s :: A.sps.map (·.1)) (n := 16) (a := 1) (by rw [List.nodup_cons]; exact ⟨f3, h.1.nds⟩) (by
      intro z hz
      rcases List.mem_cons.1 hz with rfl | hz
      · omega
      · obtain ⟨x, hx, rfl⟩ := List.mem_map.1 hz
        have := h.2.num x hx
        omega)
    simp at this
    omega
theorem sortZ_snoc {a b : List Int} {s : Int} (h : b.Perm (a ++ [s])) : sortZ (sortZ a ++ [s]) = sortZ b := sortZ_eq (((sortZ_perm a).append_right [s]).trans h.symm)
theorem freeF_1 : freeF ([] : List Int) 1 16 = some 1 := rfl
theorem numbers_pure : PureOk Try.prog 14 (argM (cInt .i64) fun f => argM (cInt .i64) fun sl => argM (cSl rDd) fun l => finM (if goodL l then some (.v (.bool true)) else none)) := by
  refine pure3 Try.func14 rfl ?_
  rintro f sl l r hr
  by_cases hc : goodL l
  case neg => rw [if_neg hc] at hr; cases hr
  rw [if_pos hc] at hr
  simp only [Option.some.injEq] at hr
  subst hr
  refine body_gen ((((((((noOrc_ok.withP spaces_pure).withP contains_pure).withP inEq_pure).withI begun_inl).withI spaces_inl).withI make_inl).withI clInt).withI sortZ_in) fxMix (by kernel_rfl) (by simp [Try.ntmps14]) ?_
  intro C cP cI cN cD cF cA cR cL
  have cp0 := orcP spaces_pure (C := C) (by rw [cP]; rfl)
  have cp1 := orcP contains_pure (C := C) (by rw [cP]; rfl)
  have ch0 := orcP inEq_pure (C := C) (by rw [cP]; rfl)
  have cn0 := orcI begun_inl (C := C) (by rw [cN]; rfl)
  have cn1 := orcI spaces_inl (C := C) (by rw [cN]; rfl)
  have cn2 := orcI make_inl (C := C) (by rw [cN]; rfl)
  have cn3 := orcI clInt (C := C) (by rw [cN]; rfl)
  have cn4 := orcI sortZ_in (C := C) (by rw [cN]; rfl)
  replace cI := fun g => congrFun cI g
  simp only [Orc.withP, Orc.withI, Orc.withF, Orc.withD, Orc.withA, Orc.withR, Orc.withC, noOrc] at cI
  replace cR : C.rd = fun _ => none := cR
  replace cD : C.dyn = fun _ => [] := cD
  clear cP cN cF cA
  rcases begun_ev (f := f) (s := sl) hc with hb | ⟨G, A, hb, hrg, hf, hs⟩
  · simp [Try.ntmps14, Try.results14, cSl, cp0, cp1, cn0, cn1, cn2, cn3, cn4, cI, cD, cR, hb]
  · have hsp := spaces_ev hrg
    have hle := sps_le hrg
    obtain ⟨Z, hZ⟩ : ∃ x, sortZ (A.sps.map (·.1)) = x := ⟨_, rfl⟩
    have hZl : Z.length = A.sps.length := by rw [← hZ, sortZ_len]; simp
    have hZm : ∀ t, t ∈ Z ↔ t ∈ A.sps.map (·.1) := fun t => by rw [← hZ, (sortZ_perm _).mem_iff]
    rw [hZ] at hsp
    have r1 : RG 1 (G ++ none :: outZK Z A.sps.length, A) := rg_app hrg
    obtain ⟨s, e, G2, A2, hmk, r2, hlo, hcs⟩ := make_ev r1
    have kp := make_keep r1 hmk r2
    obtain ⟨fl1, fl2⟩ := free_len hrg
    rcases hcs with ⟨rfl, hfr, hno, hh, hv, _, hks⟩ | ⟨rfl, rfl, rfl, hfr⟩
    case inr =>
      have h16 := fl1 hfr
      rw [h16] at hsp hmk
      simp only [outZ] at hsp
      simp [Try.ntmps14, Try.results14, cSl, cp0, cp1, cn0, cn1, cn2, cn3, cn4, cI, cD, cR, hb, hsp, hmk]
    have hlt := fl2 s hfr
    obtain ⟨f1, f2, f3, f4⟩ := freeF_range hfr
    have hsp2 := fun K => spaces_ev (rg_app (K := K) r2)
    have hZ2 : sortZ (Z ++ [s]) = sortZ (A2.sps.map (·.1)) := by
      rw [← hZ]
      exact sortZ_snoc (by rw [hks])
    have hl2 : A2.sps.length = A.sps.length + 1 := by
      have := congrArg List.length hks
      simpa using this
    have hcn : s ∉ Z := fun h => f3 ((hZm s).1 h)
    rw [hl2, ← hZ2] at hsp2
    cases hn : A.sps.length with
    | zero =>
      rw [hn] at hsp hmk hsp2 hZl
      have hZ0 : Z = [] := List.length_eq_zero_iff.1 hZl
      subst hZ0
      simp only [outZ_0, outZK_0] at hsp hmk
      have hs1 : s = 1 := by
        have h0 : A.sps = [] := List.length_eq_zero_iff.1 hn
        rw [h0] at hfr
        cases hfr; rfl
      subst hs1
      simp [Try.ntmps14, Try.results14, cSl, cp0, cp1, cn0, cn1, cn2, cn3, cn4, cI, cD, cR, hb, hsp, hmk]
      refine loop_forE 0 (fun k (_ : Unit) => ([(7, .ptr 1 5 0 0), (8, .esl), (9, .v (.int .i64 1)), (10, .v (.int .i64 0)), (11, .v (.int .i64 (1 + (k : Nat))))], G2)) (fun k x => True) () (fun k _ hk _ => by omega) trivial ?_ (fun k _ hk => by omega) ?_
      · have hle8 : Lss (.v (.slice none 0 0)) .esl := Lss.nil_esl
        refine Ent.trans ?_ (Ent.slotL (t := 8) (r := .esl) hle8)
        exact Ent.env (by simp)
      · rintro _ _
        have hsp3 := hsp2 [some (1, [[.v (.int .i64 1)]]), some (1, [[.v (.int .i64 1)]])]
        have hid : irowDec .i64 [.v (.int .i64 1)] = some 1 := rfl
        have hs1 : sortZ [1] = [1] := List.perm_singleton.1 (sortZ_perm [1])
        simp only [List.nil_append, hs1, outZ_s, outZK_s, List.map_cons, List.map_nil, irow] at hsp3
        simp at hsp3
        simp only [Nat.add_assoc, Nat.reduceAdd] at hsp3
        simp [Try.ntmps14, Try.results14, cSl, cp0, cp1, cn0, cn1, cn2, cn3, cn4, cI, cD, cR, ch0, rI, cloneI, sortZI, hid, hs1, hsp3, irow, List.getElem?_append, List.set_append]
    | succ n =>
      rw [hn] at hsp hmk hsp2 hZl
      have hn16 : ¬ (n : Int) + 1 = 16 := by omega
      obtain ⟨kc, ko⟩ := kp (G.length + (2 * n + 1 + 1)) (Z.map (irow .i64)) (by
        cases e : A.lo.cell 1 (G.length + (2 * n + 1 + 1)) with
        | none => rfl
        | some y => have := hrg.1.st.lt e; simp only at this; omega) (by
        simp only
        rw [hn, outZK_s, List.getElem?_append_right (by omega), Nat.add_sub_cancel_left, List.getElem?_cons_succ, List.getElem?_append_right (by simp)]
        simp)
      simp only at kc ko
      have rX := rg_setP2 (o := none) r2 ko kc
      have hspX := fun K => spaces_ev (rg_app (K := K) rX)
      rw [hl2, hn, ← hZ2] at hspX
      obtain ⟨N, hN⟩ := Int.eq_ofNat_of_zero_le (show 0 ≤ s - 1 by omega)
      simp [Try.ntmps14, Try.results14, cSl, cp0, cp1, cn0, cn1, cn2, cn3, cn4, cI, cD, cR, hb, hsp, outZ_s, hmk, hn16]
      obtain ⟨X, hX⟩ : ∃ x, G2.set (G.length + (2 * n + 1 + 1)) none = x := ⟨_, rfl⟩
      rw [hX] at hspX
      refine loop_forE N (fun k (_ : Unit) => ([(7, .ptr 1 5 0 0), (8, .fsl true 1 (Z.map (irow .i64))), (9, .v (.int .i64 s)), (10, .v (.int .i64 0)), (11, .v (.int .i64 (1 + (k : Nat))))], X)) (fun k x => True) () (fun k _ hk _ => by omega) trivial ?_ ?_ ?_
      · rw [← hX]
        refine Ent.trans ?_ (Ent.frzE (t := 8) (n := G.length + (2 * n + 1 + 1)) (sz := 1) (kc := n + 1) (len := n + 1) (rows := Z.map (irow .i64)) (by unfold obj; rw [ko]; rfl) (by simp [hZl]) (irow64_flat Z) (by simp))
        exact Ent.env (by simp)
      · rintro k _ hk _ hw
        have hks : (1 : Int) + k < s := by omega
        have w1 : IntKind.i64.wrap (1 + (k : Int) + 1) = 1 + (k : Int) + 1 := w64 (by omega) (by omega)
        have hin : (1 : Int) + k ∈ Z := (hZm _).2 (f4 _ (by omega) hks)
        have hl6 : Z.length ≤ 4294967296 := by omega
        simp [Try.ntmps14, Try.results14, cSl, cp0, cp1, cn0, cn1, cn2, cn3, cn4, cI, cD, cR, rI, hks, w1, hin, hl6]
        exact ⟨(), trivial, Ent.env (by simp; omega)⟩
      · rintro _ _
        have hks : ¬ (1 : Int) + N < s := by omega
        have hl6 : Z.length ≤ 4294967296 := by omega
        have hz : ¬ Z = [] := by rintro rfl; simp at hZl
        have hni1 : ¬ n + 1 + 1 ≤ n + 1 := by omega
        have hni2 : n + 1 + 1 ≤ 4294967296 := by omega
        have hni3 : n + 1 + 1 ≤ 1048576 := by omega
        have b1 : n ≤ 4294967295 := by omega
        have b2 : n + 1 ≤ 4294967295 := by omega
        have b3 : n ≤ 4294967294 := by omega
        have b4 : n ≤ 1048574 := by omega
        have b5 : n + 1 ≤ 1048575 := by omega
        have hrows : Z.map (irow .i64) ++ [[.v (.int .i64 s)]] = (Z ++ [s]).map (irow .i64) := by simp [irow]
        have htk : List.take (n + 1 + 1) (Z.map (irow .i64) ++ [[.v (.int .i64 s)]]) = Z.map (irow .i64) ++ [[.v (.int .i64 s)]] := List.take_of_length_le (by simp [hZl])
        have hdk : List.drop (n + 1 + 1) (Z.map (irow .i64) ++ [[.v (.int .i64 s)]]) = [] := List.drop_eq_nil_of_le (by simp [hZl])
        have hdec : List.mapM (irowDec .i64) (Z.map (irow .i64) ++ [[.v (.int .i64 s)]]) = some (Z ++ [s]) := by rw [hrows]; exact irow64_dec _
        obtain ⟨W, hW⟩ : ∃ x, sortZ (Z ++ [s]) = x := ⟨_, rfl⟩
        have hWl : W.length = n + 1 + 1 := by rw [← hW, sortZ_len]; simp [hZl]
        have hsp3 := hspX [none, some (1, [[.v (.int .i64 s)]]), some (1, W.map (irow .i64))]
        rw [hW] at hsp3
        have hview : ∀ (P : Nat) (Y : Heap) (kk : Nat), obj Y P = some (1, W.map (irow .i64)) → cold (view Y 4 (.osl P 1 0 (n + 1 + 1) kk)) = .fsl false 1 (W.map (irow .i64)) := fun P Y kk hob => by
          have htw : List.take (n + 1 + 1) (W.map (irow .i64)) = W.map (irow .i64) := List.take_of_length_le (by simp [hWl])
          have hob' := obj_get hob
          simp [view, hob', hWl, htw, cold]
        have hEq : C.pure 41 [cold (view (X ++ none :: some (1, [[.v (.int .i64 s)]]) :: some (1, W.map (irow .i64)) :: none :: outZK W (n + 1 + 1)) 4 (outZ (X.length + 3) (n + 1 + 1))), cold (view (X ++ none :: some (1, [[.v (.int .i64 s)]]) :: some (1, W.map (irow .i64)) :: none :: outZK W (n + 1 + 1)) 4 (.osl (X.length + 2) 1 0 (n + 1 + 1) (n + 1 + 1)))] = some (.v (.bool true)) := by
          rw [outZ_s, outZK_s, hview _ _ _ (by
            unfold obj
            rw [List.getElem?_append_right (by omega), show X.length + 3 + (2 * (n + 1) + 1 + 1) - X.length = (2 * (n + 1) + 1) + 1 + 1 + 1 + 1 by omega]
            simp only [List.getElem?_cons_succ]
            rw [List.getElem?_append_right (by simp)]
            simp), hview _ _ _ (by
            unfold obj
            rw [List.getElem?_append_right (by omega), Nat.add_sub_cancel_left]
            simp)]
          rw [ch0]
          have hde : (cSl (rI .i64)).dec (.fsl false 1 (W.map (irow .i64))) = some W := irow64_dec W
          simp only [argM, hde, finM]
          rw [if_pos (by omega)]
          simp
        have hvf : ∀ (Y : Heap), cold (view Y 4 (.fsl true 1 (Z.map (irow .i64)))) = .fsl false 1 (Z.map (irow .i64)) := fun Y => by simp [view, cold]
        have hvi : ∀ (Y : Heap) (v : Value), cold (view Y 4 (.v v)) = .v v := fun Y v => by simp [view, cold]
        have hzd : List.mapM (irowDec .i64) (Z.map (irow .i64)) = some Z := irow64_dec Z
        simp [Try.ntmps14, Try.results14, cSl, cp0, cp1, cn0, cn1, cn2, cn3, cn4, cI, cD, cR, -view, -cold, hEq, hvf, hvi, hzd, rI, hks, cloneI, sortZI, hl6, hz, hZl, hni1, hni2, hni3, htk, hdk, hdec, hW, hcn, b1, b2, b3, b4, b5, hsp3, List.getElem?_append, List.set_append]
        simp [view]
end Go.Proofs.Ytegjbfcgbfnldaa
