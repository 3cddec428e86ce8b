/- The statement SpaceWrites. -/
import Derived.Test.YtegjbfcgbfnldaaSmF
import Derived.Test.YtegjbfcgbfnldaaStC
namespace Go.Proofs.Ytegjbfcgbfnldaa
open Go.AI
set_option maxHeartbeats 2000000
set_option maxRecDepth 100000
set_option linter.unusedSimpArgs false
set_option linter.unusedVariables false
attribute [local simp] wpA wpX RunA RunD runF foot footP footB idsA bare apart runL step1 gsel_f gsel_t gsel_s res_same res_and1 res_and2 res_and3 res_and4 res_and5 res_and6 res_false res_true res_v res_ptr res_fptr res_osl res_xsl soft aAppendZ aCap ovlI ovlJ res_fsl res_esl res_agg res_tup res_fn res_junk res_anyb aPick hk imp_left iteV dstOk guardOk astep astepE AI.ev AI.look AI.put envOf aBox cellsOf allOne allOneA oneA Value.oneCell' Value.cells newObj' aFieldAddr aLoad obj readAt thenA blockA condA retA resA tupA view hot hotC hotR depthV cAgg cInt cBool mkAgg allV aAlloc aBuild fillA writeAt aStore isAggA aField idx aIndexAddr aIndex bnd aSlice aExtract aLen aBuiltin aCall isStatic eqAgg eqTy eqC ev_add ev_sub ev_mul ev_quo ev_rem ev_and ev_or ev_xor ev_andNot ev_shl ev_shr ev_eql ev_neq ev_lss ev_leq ev_gtr ev_geq ev_agg w64 wu32 wu8 ev_not ev_neg Cod.plain RCod.plain argM finM cold coldC coldR goInt intDec boolDec aggDec Weaker heapW lowA lowC Again slDec undef aBuildSlice setRows aAppend rowsOf aMakeSlice aClear aCopy softer_self softer_nil valsOf ev_min2 ev_max2 hotR_set hotR_append take_map_set irow_cold irow_mapM irow_mapMc irow_view irow_viewc irow_hotR irow_ren irow_renc irow_low WeakT heapT thOf ren renC AgainT NextF NextT fnDec cFn rNil selfLt natLt0 natLt1 getLastMap frame0 frame1 own0 own1 argG finG tau tauI tauO tauC bareA bareC bareH irow_tau irow_tauc irow_bare irow_flat irow_bareR ownA_nil ownT_nil ownA_c ownT_c ownA_s ownT_s takeMapLen footC plainA noId noIdC cloneF frame0F frame1F insertF replaceI replaceF cellDec rCell fpDec cFp rTwo deleteF allV_oA oneA_oA res_oA RunR RunE runFT footAt hotR_cat tmodN aEqH aSliceA fxSz3 fxBy3 fxAg3 fxZe3 fxSz4 fxAg4 fxSz5 fxBy5 fxAg5 fxZe5 fxSl22 fxAr22 fxSz26 fxAg26 fxZe26 fxSz28 fxBy28 fxAg28 fxZe28 fxSl28 fxAr28 fxSl51 fxAr51 fxSl58 fxAr58 fxSz69 fxAg69 fxZe69 fxFi69x0 fxFi69x1 fxFi69x2 fxFi69x3 fxFi69x4 fxFi69x5 fxSz71 fxBy71 fxAg71 fxZe71 fxSz73 fxAg73 fxZe73 fxFi73x0 fxFi73x1 fxPl73 fxZe75 fxSz76 fxAg76 fxSl76 fxAr76 fxAg77 fxZe79 fxFi79x0 fxFi79x1 fxFi79x2 fxFi79x3 fxFi79x4 fxPl79 fxSz82 fxAg82 fxZe82 fxSl82 fxAr82 fxPl82 fxSl87 fxAr87 fxSz91 fxZe91 fxFi91x0 fxFi91x1 fxFi91x2 fxFi91x3 fxPl91 fxCv3x36 fxCv36x3 fxEb4 fxNb4 fxLn28 fxNe28 fxOe28 fxXe28 fxLn58 fxNe58 fxOe58 fxXe58 fxLn76 fxFm15 fxFm16 fxFi16 fxFm17 fxFm18 fxFm19 fxFi19 fxFm20 fxFi20 fxFm21 fxFm22 fxFm23 fxFm24 fxFm25 fxFi25 fxFm26 fxFm27 fxFm28 fxFi28 fxFm29 fxFi29 fxFm30 fxFm31 fxFm32 fxFm33 fxFi33 fxFm34 fxFm35 fxFm36 fxFm37 fxFm38 fxFi38 fxFm39 fxFm40 fxFm41 fxFi41 fxFm42 fxFm43 fxFm44 fxFi44 fxFm45 fxFi45 fxFm46 fxFm47 fxFm48 fxFm49 fxFi49 fxFm50 fxFi50 fxFm51 fxFi51 fxFm52 fxFi52 fxFm53 fxFm54 fxFi54 fxFm55 fxFi55 fxFm56 fxFm57 fxFi57 fxFm58 fxFi58 fxFm61 fxFm62 fxFi62 fxFm63 fxFi63 fxFm64 fxFm65 fxFi65 fxFm77 fxFi77
attribute [local simp] pgRow_len pg16 pg17 pg18 pg16' pg17' pg18' ww16 ww17 ww18 keyI_ok aLookup aMapUpdate aDelete lkRes bin_mn spV enV Try.underlying75 Try.underlying77
attribute [local simp] Dd.eta Dd.dec_row Dd.dec_hrow
attribute [local simp] bin_pM bin_pMM rDd_sz rDd_enc
/-- a list changed where it lies -/
theorem PlAt.put {H : Heap} {P n : Nat} {rows : List Row} {f : Nat → Nat} {L : List (List Int)} {l : List Int} (h : PlAt H P rows f L) (hn : n < L.length) (hne : L[n] ≠ []) (hl : l.length = L[n].length) : PlAt (H.set (f n) (some (1, byR l))) P rows f (L.set n l) := by
  have hlt := obj_lt (h.ho n hn hne)
  have hP := h.hx n hn hne
  have h1 := PlAt.upd (H' := H.set (f n) (some (1, byR l))) h (l := l) (n := n) (q := f n) hn ?_ (fun i hi hin hne2 => obj_set_ne (fun e => h.hd n i hn hi (fun q => hin q.symm) hne hne2 e)) (fun _ => ⟨obj_set_self hlt (by simp), .inr ⟨rfl, hne⟩, hP⟩)
  · have hr := h.hr n hn
    have e1 : rows.set n [oA (f n) 1 l.length] = rows := by
      rw [hl]
      have := (List.getElem?_eq_some_iff.1 hr)
      obtain ⟨k1, k2⟩ := this
      rw [← k2, List.set_getElem_self]
    have e2 : (fun i => if i = n then f n else f i) = f := by
      funext i
      split
      · rename_i e; rw [e]
      · rfl
    rw [e1, e2] at h1
    exact h1
  · have hr := h.hr n hn
    obtain ⟨k1, k2⟩ := (List.getElem?_eq_some_iff.1 hr)
    rw [obj_set_ne hP, h.hP, hl, ← k2, List.set_getElem_self]
def wL (A : Ab) (s addr : Int) (d : List Int) (n i : Nat) : List (List Int) := (List.range n).map fun (j : Nat) => if seen A s (j : Nat) = [] then [] else patN (j : Nat) addr d i (seen A s (j : Nat))
theorem wL_0 (A : Ab) (s addr : Int) (d : List Int) (n : Nat) : wL A s addr d n 0 = seenL A s n := by
  unfold wL seenL
  apply List.map_congr_left
  intro j _
  split
  · rename_i h; rw [h]
  · rfl
theorem wL_len (A : Ab) (s addr : Int) (d : List Int) (n i : Nat) : (wL A s addr d n i).length = n := by simp [wL]
theorem wL_get {A : Ab} {s addr : Int} {d : List Int} {n i j : Nat} (h : j < (wL A s addr d n i).length) : (wL A s addr d n i)[j] = if seen A s (j : Nat) = [] then [] else patN (j : Nat) addr d i (seen A s (j : Nat)) := by
  simp [wL]
theorem patN_len (k addr : Int) (d x : List Int) : ∀ i, (patN k addr d i x).length = x.length
  | 0 => rfl
  | i + 1 => by
    have := patN_len k addr d x i
    unfold patN
    split
    · rw [List.length_set, this]
    · exact this
theorem wL_skip {A : Ab} {s addr : Int} {d : List Int} {n i j : Nat} (hj : (addr + (i : Nat)) / 16 = (j : Nat)) (hs : seen A s (j : Nat) = []) : wL A s addr d n (i + 1) = wL A s addr d n i := by
  unfold wL
  apply List.map_congr_left
  intro m _
  split
  · rfl
  · rename_i h
    rw [patN, if_neg]
    rintro e
    rw [hj] at e
    rw [← e] at h
    exact h hs
theorem wL_next {A : Ab} {s addr : Int} {d : List Int} {n i j : Nat} (hj : (addr + (i : Nat)) / 16 = (j : Nat)) (hjn : j < n) (hs : seen A s (j : Nat) ≠ []) : wL A s addr d n (i + 1) = (wL A s addr d n i).set j ((patN (j : Nat) addr d i (seen A s (j : Nat))).set ((addr + (i : Nat)) % 16).toNat ((d[i]?).getD 0)) := by
  apply List.ext_getElem?
  intro m
  unfold wL
  rw [List.getElem?_set, List.getElem?_map, List.getElem?_map]
  simp only [List.length_map, List.length_range]
  by_cases hm : m < n
  · rw [List.getElem?_range hm]
    simp only [Option.map_some]
    by_cases e : j = m
    · subst e
      rw [if_pos rfl, if_pos hjn, if_neg hs, patN, if_pos hj]
    · rw [if_neg e]
      split
      · rfl
      · rw [patN, if_neg]
        rw [hj]
        omega
  · have hr : (List.range n)[m]? = none := List.getElem?_eq_none (by simp; omega)
    rw [hr, if_neg (by omega)]; rfl
theorem wL_le {H : Heap} {mid : Nat} {A : Ab} (h : RG mid (H, A)) (s addr : Int) (d : List Int) (n i : Nat) : ∀ x ∈ wL A s addr d n i, x.length ≤ 4294967296 := by
  intro x hx
  obtain ⟨k, _, rfl⟩ := List.mem_map.1 hx
  have := seen_len h s (k : Nat)
  split
  · simp
  · rw [patN_len]; omega
theorem PlAt.other {H : Heap} {P q : Nat} {rows : List Row} {f : Nat → Nat} {L : List (List Int)} {o : Option (Nat × List Row)} (h : PlAt H P rows f L) (h1 : q ≠ P) (h2 : ∀ i, q ≠ f i) : PlAt (H.set q o) P rows f L :=
  ⟨by rw [obj_set_ne h1]; exact h.hP, h.hl, h.hr, fun i hi hn => by rw [obj_set_ne (h2 i)]; exact h.ho i hi hn, h.hd, h.hx⟩
theorem writes_pure : PureOk Try.prog 9 (argM (cInt .i64) fun f => argM (cInt .i64) fun sl => argM (cSl rDd) fun l => argM (cInt .i64) fun s => argM (cInt .i64) fun addr => argM (cSl (rI .u8)) fun d => finM (if goodL l ∧ IntKind.i64.wrap addr = addr then some (.v (.bool true)) else none)) := by
  refine pure6 Try.func9 rfl ?_
  rintro f sl l s addr d r hr
  by_cases hc : goodL l ∧ IntKind.i64.wrap addr = addr
  case neg => rw [if_neg hc] at hr; cases hr
  rw [if_pos hc] at hr
  simp only [Option.some.injEq] at hr
  subst hr
  refine body_gen (((((noOrc_ok.withP spaces_pure).withP same_pure).withI begun_inl).withI wholeO_inl).withI write_inl) fxMix (by kernel_rfl) (by simp [Try.ntmps9]) ?_
  intro C cP cI cN cD cF cA cR cL
  have cp0 := orcP spaces_pure (C := C) (by rw [cP]; rfl)
  have ch0 := orcP same_pure (C := C) (by rw [cP]; rfl)
  have cn0 := orcI begun_inl (C := C) (by rw [cN]; rfl)
  have cn1 := orcI wholeO_inl (C := C) (by rw [cN]; rfl)
  have cn2 := orcI write_inl (C := C) (by rw [cN]; rfl)
  replace cI := fun g => congrFun cI g
  simp only [Orc.withP, Orc.withI, Orc.withF, Orc.withD, Orc.withA, Orc.withR, Orc.withC, noOrc] at cI
  replace cR : C.rd = fun _ => none := cR
  replace cD : C.dyn = fun _ => [] := cD
  clear cP cN cF cA
  obtain ⟨hc, hwa⟩ := hc
  have hsame : ∀ {G : Heap} {P1 P2 : Nat} {r1 r2 : List Row} {f1 f2 : Nat → Nat} {L1 L2 : List (List Int)}, PlAt G P1 r1 f1 L1 → PlAt G P2 r2 f2 L2 → L1 = L2 → 64 = L1.length → (∀ x ∈ L1, x.length ≤ 4294967296) → C.pure 33 [cold (view G 4 (.osl P1 1 0 64 64)), cold (view G 4 (.osl P2 1 0 64 64))] = some (.v (.bool true)) := by
    intro G P1 P2 r1 r2 f1 f2 L1 L2 h1 h2 e hl hle
    subst e
    rw [ch0]
    simp only [argM, h1.dec hl, h2.dec hl, finM]
    rw [if_pos ⟨by omega, hle⟩]
    simp
  rcases begun_ev (f := f) (s := sl) hc with hb | ⟨G, A, hb, hrg, hf, hs⟩
  · simp [Try.ntmps9, Try.results9, cSl, cp0, cn0, cn1, cn2, cI, cD, cR, hb]
  · obtain ⟨G1, L1, P, rows, fP, hw, lk, r1, pl1, _, _⟩ := wholeO_ev hrg s
    obtain ⟨e, G2, A2, hwr, r2, hE, hcs⟩ := write_ev r1 (s := s) (d := d) hwa
    have hwr' := (wdata r1 (s := s) (d := d) hwa false).trans (congrArg some hwr)
    have pl2 := pl1.keep (write_keep r1 hwa hwr r2)
    obtain ⟨G3, L3, P3, rows3, f3, hw3, lk3, r3, pl3, kp3, hP3, hf3⟩ := wholeO_ev r2 s
    have pl23 := pl2.keep kp3
    rcases hcs with ⟨rfl, hh, hlen, hok, hv⟩ | ⟨he, rfl, _⟩
    case inr =>
      rw [seenL_like lk] at pl3
      have hss := hsame pl3.at' pl23.at' rfl (seenL_len A s 64).symm (seenL_le hrg s 64)
      simp [Try.ntmps9, Try.results9, cSl, cp0, cn0, cn1, cn2, cI, cD, cR, -view, -cold, rI, hb, hw, hwr', he, hw3, hss]
      simp [view]
    have hPlt := obj_lt pl2.at'.hP
    simp only at hPlt
    have hflt : ∀ i (hi : i < (seenL A s 64).length), (seenL A s 64)[i] ≠ [] → fP i < G2.length := fun i hi hn => obj_lt (pl2.at'.ho i hi hn)
    have hvL : ∀ j, vw { A with lo := L1 } s j = vw A s j := fun j => vw_like lk s j
    simp [Try.ntmps9, Try.results9, cSl, cp0, cn0, cn1, cn2, cI, cD, cR, -view, -cold, rI, hb, hw, hwr', hw3]
    refine loop_forE d.length (fun k (x : Heap) => ([(4, .v (.int .i64 addr)), (14, .osl P 1 0 64 64), (16, .osl P3 1 0 64 64), (48, .fsl false 1 (d.map (irow .u8))), (49, .v (.int .i64 d.length)), (50, .v (.int .i64 k))], x)) (fun k x => PlAt x P rows fP (wL A s addr d 64 k) ∧ PlAt x P3 rows3 f3 (seenL A2 s 64)) G3 (fun k _ hk _ => by omega) ⟨by rw [wL_0]; exact pl23.at', pl3.at'⟩ ?_ ?_ ?_
    · exact Ent.env (by simp)
    · rintro k X hk ⟨p1, p2⟩ hw
      have hokk := hok k hk
      have hrange := okV_range r1.2 hokk
      obtain ⟨j, hj⟩ := Int.eq_ofNat_of_zero_le hrange.1
      have hj64 : j < 64 := by omega
      have hj65 : (j : Int) < 64 := by omega
      have w1 : IntKind.i64.wrap (addr + k) = addr + k := w64 (by omega) (by omega)
      have wj : IntKind.i64.wrap (j : Int) = j := w64 (by omega) (by omega)
      have c1 : ¬ addr + (k : Int) < 0 := by omega
      have c2 : ¬ (1024 : Int) ≤ addr + k := by omega
      have hd1 : Int.tdiv (addr + k) 16 = j := by rw [Int.tdiv_eq_ediv_of_nonneg (by omega), hj]
      have hm1 : Int.tmod (addr + k) 16 = (addr + k) % 16 := Int.tmod_eq_emod_of_nonneg (by omega)
      obtain ⟨t, ht⟩ := Int.eq_ofNat_of_zero_le (show 0 ≤ (addr + k) % 16 by omega)
      have wt : IntKind.i64.wrap (t : Int) = t := w64 (by omega) (by omega)
      have ht16 : t < 16 := by omega
      have ht17 : (t : Int) < 16 := by omega
      have hjw : j < (wL A s addr d 64 k).length := by rw [wL_len]; exact hj64
      have hr := p1.hr j hjw
      have hPo := obj_get p1.hP
      have hPlt2 := obj_lt p1.hP
      have gX := (List.getElem?_eq_some_iff.1 hPo).2
      have hRl := p1.hl
      rw [wL_len] at hRl
      have hjr : j < rows.length := by omega
      have hkd : (k : Int) < d.length := by omega
      by_cases hsj : seen A s (j : Nat) = []
      · rw [wL_get, if_pos hsj] at hr
        have hr0 : oA (fP j) 1 ([] : List Int).length = .esl := rfl
        rw [hr0] at hr
        have hr' := (List.getElem?_eq_some_iff.1 hr).2
        simp [Try.ntmps9, Try.results9, cSl, cp0, cn0, cn1, cn2, cI, cD, cR, hk, hw, hkd, w1, wj, wt, hj65, c1, c2, hd1, hm1, hj64, hPo, hPlt2, gX, hRl, hjr, hr, hr', irow]
        refine ⟨X, ⟨by rw [wL_skip hj hsj]; exact p1, p2⟩, ?_⟩
        exact Ent.env (by simp)
      · have hlj : (seen A s (j : Nat)).length = 16 := (seen_O hrg hj64 hsj).2
        have hLj : (wL A s addr d 64 k)[j] = patN (j : Nat) addr d k (seen A s (j : Nat)) := by rw [wL_get, if_neg hsj]
        have hpl : (patN (j : Nat) addr d k (seen A s (j : Nat))).length = 16 := by rw [patN_len, hlj]
        have hne : (wL A s addr d 64 k)[j] ≠ [] := by
          rw [hLj]
          intro e
          rw [e] at hpl; simp at hpl
        have hfo := p1.ho j hjw hne
        have hxP := p1.hx j hjw hne
        have hput := p1.put (l := (patN (j : Nat) addr d k (seen A s (j : Nat))).set t d[k]) hjw hne (by rw [hLj, List.length_set])
        have hsn : (seenL A s 64)[j]'(by rw [seenL_len]; exact hj64) ≠ [] := by simpa [seenL] using hsj
        have hfl2 := hflt j (by rw [seenL_len]; exact hj64) hsn
        have hoth := p2.other (q := fP j) (o := some (1, byR ((patN (j : Nat) addr d k (seen A s (j : Nat))).set t d[k]))) (by omega) (fun i => by have := hf3 i; omega)
        have hnx : wL A s addr d 64 (k + 1) = (wL A s addr d 64 k).set j ((patN (j : Nat) addr d k (seen A s (j : Nat))).set t d[k]) := by
          rw [wL_next hj hj64 hsj, ht, Int.toNat_natCast, List.getElem?_eq_getElem hk]; rfl
        rw [hLj] at hfo hr
        generalize patN (j : Nat) addr d k (seen A s (j : Nat)) = Q at *
        rw [hpl] at hr
        have hr0 : oA (fP j) 1 16 = .osl (fP j) 1 0 16 16 := rfl
        rw [hr0] at hr
        have hr' := (List.getElem?_eq_some_iff.1 hr).2
        have hfo' := obj_get hfo
        have hfl := obj_lt hfo
        have gF := (List.getElem?_eq_some_iff.1 hfo').2
        have htQ : t < Q.length := by omega
        simp [Try.ntmps9, Try.results9, cSl, cp0, cn0, cn1, cn2, cI, cD, cR, hk, hw, hkd, w1, wj, wt, hj65, c1, c2, hd1, hm1, ht, ht16, ht17, hj64, hPo, hPlt2, gX, hRl, hjr, hr, hr', irow, hfo', hfl, gF, hpl, htQ]
        refine ⟨X.set (fP j) (some (1, byR (Q.set t d[k]))), ⟨by rw [hnx]; exact hput, hoth⟩, ?_⟩
        have hms : byR (Q.set t d[k]) = (byR Q).set t [.v (.int .u8 d[k])] := List.map_set
        simp only [hms]
        exact Ent.env (by simp)
    · rintro X ⟨p1, p2⟩
      have heq : seenL A2 s 64 = wL A s addr d 64 d.length := by
        unfold seenL wL
        apply List.map_congr_left
        intro j _
        have h1 := hv (j : Nat)
        rw [hvL] at h1
        unfold seen okV
        rw [h1]
        cases hvj : vw A s (j : Nat) with
        | none => rfl
        | some x =>
          have hl16 := vw_len (d := x.1) (rg := x.2) hrg.1 hvj
          simp only [Option.map_some, Option.getD_some]
          by_cases c : (iand .i64 x.2 1 == 1) = true
          · rw [if_pos c, if_pos c, if_neg]
            intro e
            rw [e] at hl16; simp at hl16
          · rw [if_neg c, if_neg c, if_pos rfl]
      have hss := hsame p2 p1 heq (seenL_len A2 s 64).symm (seenL_le r2 s 64)
      simp [Try.ntmps9, Try.results9, cSl, cp0, cn0, cn1, cn2, cI, cD, cR, -view, -cold, hss]
      simp [view]
end Go.Proofs.Ytegjbfcgbfnldaa
