/- The statement SpaceUnmaps. -/
import Derived.Test.YtegjbfcgbfnldaaSmF
import Derived.Test.YtegjbfcgbfnldaaStF
namespace Go.Proofs.Ytegjbfcgbfnldaa
open Go.AI
set_option maxHeartbeats 2000000
set_option maxRecDepth 100000
set_option linter.unusedSimpArgs false
set_option linter.unusedVariables false
attribute [local simp] wpA wpX RunA RunD runF foot footP footB idsA bare apart runL step1 gsel_f gsel_t gsel_s res_same res_and1 res_and2 res_and3 res_and4 res_and5 res_and6 res_false res_true res_v res_ptr res_fptr res_osl res_xsl soft aAppendZ aCap ovlI ovlJ res_fsl res_esl res_agg res_tup res_fn res_junk res_anyb aPick hk imp_left iteV dstOk guardOk astep astepE AI.ev AI.look AI.put envOf aBox cellsOf allOne allOneA oneA Value.oneCell' Value.cells newObj' aFieldAddr aLoad obj readAt thenA blockA condA retA resA tupA view hot hotC hotR depthV cAgg cInt cBool mkAgg allV aAlloc aBuild fillA writeAt aStore isAggA aField idx aIndexAddr aIndex bnd aSlice aExtract aLen aBuiltin aCall isStatic eqAgg eqTy eqC ev_add ev_sub ev_mul ev_quo ev_rem ev_and ev_or ev_xor ev_andNot ev_shl ev_shr ev_eql ev_neq ev_lss ev_leq ev_gtr ev_geq ev_agg w64 wu32 wu8 ev_not ev_neg Cod.plain RCod.plain argM finM cold coldC coldR goInt intDec boolDec aggDec Weaker heapW lowA lowC Again slDec undef aBuildSlice setRows aAppend rowsOf aMakeSlice aClear aCopy softer_self softer_nil valsOf ev_min2 ev_max2 hotR_set hotR_append take_map_set irow_cold irow_mapM irow_mapMc irow_view irow_viewc irow_hotR irow_ren irow_renc irow_low WeakT heapT thOf ren renC AgainT NextF NextT fnDec cFn rNil selfLt natLt0 natLt1 getLastMap frame0 frame1 own0 own1 argG finG tau tauI tauO tauC bareA bareC bareH irow_tau irow_tauc irow_bare irow_flat irow_bareR ownA_nil ownT_nil ownA_c ownT_c ownA_s ownT_s takeMapLen footC plainA noId noIdC cloneF frame0F frame1F insertF replaceI replaceF cellDec rCell fpDec cFp rTwo deleteF allV_oA oneA_oA res_oA RunR RunE runFT footAt hotR_cat tmodN aEqH aSliceA fxSz3 fxBy3 fxAg3 fxZe3 fxSz4 fxAg4 fxSz5 fxBy5 fxAg5 fxZe5 fxSl22 fxAr22 fxSz26 fxAg26 fxZe26 fxSz28 fxBy28 fxAg28 fxZe28 fxSl28 fxAr28 fxSl51 fxAr51 fxSl58 fxAr58 fxSz69 fxAg69 fxZe69 fxFi69x0 fxFi69x1 fxFi69x2 fxFi69x3 fxFi69x4 fxFi69x5 fxSz71 fxBy71 fxAg71 fxZe71 fxSz73 fxAg73 fxZe73 fxFi73x0 fxFi73x1 fxPl73 fxZe75 fxSz76 fxAg76 fxSl76 fxAr76 fxAg77 fxZe79 fxFi79x0 fxFi79x1 fxFi79x2 fxFi79x3 fxFi79x4 fxPl79 fxSz82 fxAg82 fxZe82 fxSl82 fxAr82 fxPl82 fxSl87 fxAr87 fxSz91 fxZe91 fxFi91x0 fxFi91x1 fxFi91x2 fxFi91x3 fxPl91 fxCv3x36 fxCv36x3 fxEb4 fxNb4 fxLn28 fxNe28 fxOe28 fxXe28 fxLn58 fxNe58 fxOe58 fxXe58 fxLn76 fxFm15 fxFm16 fxFi16 fxFm17 fxFm18 fxFm19 fxFi19 fxFm20 fxFi20 fxFm21 fxFm22 fxFm23 fxFm24 fxFm25 fxFi25 fxFm26 fxFm27 fxFm28 fxFi28 fxFm29 fxFi29 fxFm30 fxFm31 fxFm32 fxFm33 fxFi33 fxFm34 fxFm35 fxFm36 fxFm37 fxFm38 fxFi38 fxFm39 fxFm40 fxFm41 fxFi41 fxFm42 fxFm43 fxFm44 fxFi44 fxFm45 fxFi45 fxFm46 fxFm47 fxFm48 fxFm49 fxFi49 fxFm50 fxFi50 fxFm51 fxFi51 fxFm52 fxFi52 fxFm53 fxFm54 fxFi54 fxFm55 fxFi55 fxFm56 fxFm57 fxFi57 fxFm58 fxFi58 fxFm61 fxFm62 fxFi62 fxFm63 fxFi63 fxFm64 fxFm65 fxFi65 fxFm77 fxFi77
attribute [local simp] pgRow_len pg16 pg17 pg18 pg16' pg17' pg18' ww16 ww17 ww18 keyI_ok aLookup aMapUpdate aDelete lkRes bin_mn spV enV Try.underlying75 Try.underlying77
attribute [local simp] Dd.eta Dd.dec_row Dd.dec_hrow
attribute [local simp] bin_pM bin_pMM rDd_sz rDd_enc
theorem rg_setP {H : Heap} {mid P : Nat} {A : Ab} {rows : List Row} {o : Option (Nat × List Row)} (h : RG mid (H, A)) (hP : H[P]? = some (some (1, rows))) (hc : A.lo.cell mid P = none) : RG mid (H.set P o, A) :=
  ⟨h.1.keep (h.1.st.set_ne hc) rfl (fun i rws hi => by
    simp only at hi ⊢
    rw [List.getElem?_set_ne, hi]
    rintro rfl
    rw [hP] at hi; cases hi), h.2⟩
def clr (A : Ab) (s page : Int) (n j : Nat) : List (List Int) := (List.range n).map fun (i : Nat) => if page ≤ (i : Int) ∧ (i : Int) < page + j then [] else seen A s (i : Nat)
theorem clr_0 (A : Ab) (s page : Int) (n : Nat) : clr A s page n 0 = seenL A s n := by
  unfold clr seenL
  apply List.map_congr_left
  intro i _
  rw [if_neg (by simp only [Int.natCast_zero, Int.ofNat_zero]; omega)]
theorem clr_len (A : Ab) (s page : Int) (n j : Nat) : (clr A s page n j).length = n := by simp [clr]
theorem clr_next {A : Ab} {s : Int} {p n j : Nat} (h : p + j < n) : (clr A s (p : Int) n j).set (p + j) [] = clr A s (p : Int) n (j + 1) := by
  apply List.ext_getElem?
  intro i
  unfold clr
  rw [List.getElem?_set, List.getElem?_map, List.getElem?_map]
  simp only [List.length_map, List.length_range]
  by_cases hi : i < n
  · rw [List.getElem?_range hi]
    simp only [Option.map_some]
    by_cases e : p + j = i
    · rw [if_pos e, if_pos h, if_pos (by omega)]
    · rw [if_neg e]
      by_cases c : (p : Int) ≤ (i : Int) ∧ (i : Int) < p + j
      · rw [if_pos c, if_pos (by omega)]
      · rw [if_neg c, if_neg (by omega)]
  · have hr : (List.range n)[i]? = none := List.getElem?_eq_none (by simp; omega)
    rw [hr, if_neg (by omega)]; rfl
theorem clr_le {H : Heap} {mid : Nat} {A : Ab} (h : RG mid (H, A)) (s page : Int) (n j : Nat) : ∀ x ∈ clr A s page n j, x.length ≤ 4294967296 := by
  intro x hx
  obtain ⟨k, _, rfl⟩ := List.mem_map.1 hx
  have := seen_len h s (k : Nat)
  split
  · simp
  · omega
/-- a row less -/
theorem Pl.clear {mid : Nat} {H G : Heap} {A A' : Ab} {P n : Nat} {rows : List Row} {f : Nat → Nat} {L : List (List Int)} {o : Row} (h : Pl mid (H, A) P rows f L) (hn : n < L.length) (k : Keep mid (H.set P (some (1, rows.set n o)), A) (G, A')) :
    G[P]? = some (some (1, rows.set n o)) ∧ A'.lo.cell mid P = none ∧ Pl mid (G.set P (some (1, rows.set n [.esl])), A') P (rows.set n [.esl]) (fun i => if i = n then 0 else f i) (L.set n []) := by
  have hPl := obj_lt h.at'.hP
  simp only at hPl
  have h0 := h.cP
  obtain ⟨k1, k2⟩ := k P (rows.set n o) h0 (by simp only; rw [List.getElem?_set_self hPl])
  simp only at k1 k2
  have hGl := (List.getElem?_eq_some_iff.1 k2).1
  have hfi : ∀ i (hi : i < L.length), i ≠ n → L[i] ≠ [] → A'.lo.cell mid (f i) = none ∧ obj (G.set P (some (1, rows.set n [.esl]))) (f i) = obj H (f i) := fun i hi hin hne => by
    have h1 := h.at'.ho i hi hne
    have h2 := h.at'.hx i hi hne
    obtain ⟨m1, m2⟩ := k (f i) (byR L[i]) (h.cf i hi hne) (by simp only; rw [List.getElem?_set_ne (fun e => h2 e.symm)]; exact obj_get h1)
    refine ⟨m1, ?_⟩
    rw [obj_set_ne (fun e => h2 e.symm)]
    simp only at h1 m2
    rw [h1]
    unfold obj
    rw [m2]; rfl
  refine ⟨k2, k1, ⟨?_, k1, fun i hi hne => ?_⟩⟩
  · have := PlAt.upd (H' := G.set P (some (1, rows.set n [.esl]))) h.at' (l := []) (n := n) (q := 0) hn (by rw [obj_set_self hGl (by simp)]; simp [oA]) (fun i hi hin hne => (hfi i hi hin hne).2) (fun e => absurd rfl e)
    simpa [oA] using this
  · simp only [List.length_set] at hi
    simp only
    by_cases e : i = n
    · subst e; simp at hne
    · rw [if_neg e]
      rw [List.getElem_set_ne (fun q => e q.symm)] at hne
      exact (hfi i hi e hne).1
theorem ldE_11 {A : Ab} {s w a : Int} (h : vw A s (a / 16) = none) (hh : has A s) : ldE A s w a = 11 := by
  unfold ldE okV
  rw [h]
  have : (getK s A.sps).isSome = true := hh
  simp [this]
theorem unmaps_pure : PureOk Try.prog 10 (argM (cInt .i64) fun f => argM (cInt .i64) fun sl => argM (cSl rDd) fun l => argM (cInt .i64) fun s => argM (cInt .i64) fun page => argM (cInt .i64) fun n => finM (if goodL l then some (.v (.bool true)) else none)) := by
  refine pure6 Try.func10 rfl ?_
  rintro f sl l s page n r hr
  by_cases hc : goodL l
  case neg => rw [if_neg hc] at hr; cases hr
  rw [if_pos hc] at hr
  simp only [Option.some.injEq] at hr
  subst hr
  refine body_gen (((((((noOrc_ok.withP spaces_pure).withP same_pure).withI begun_inl).withI wholeO_inl).withI unmap_inl).withI load_inl).withI map_inl) fxMix (by kernel_rfl) (by simp [Try.ntmps10]) ?_
  intro C cP cI cN cD cF cA cR cL
  have cp0 := orcP spaces_pure (C := C) (by rw [cP]; rfl)
  have ch0 := orcP same_pure (C := C) (by rw [cP]; rfl)
  have cn0 := orcI begun_inl (C := C) (by rw [cN]; rfl)
  have cn1 := orcI wholeO_inl (C := C) (by rw [cN]; rfl)
  have cn2 := orcI unmap_inl (C := C) (by rw [cN]; rfl)
  have cn3 := orcI load_inl (C := C) (by rw [cN]; rfl)
  have cn4 := orcI map_inl (C := C) (by rw [cN]; rfl)
  replace cI := fun g => congrFun cI g
  simp only [Orc.withP, Orc.withI, Orc.withF, Orc.withD, Orc.withA, Orc.withR, Orc.withC, noOrc] at cI
  replace cR : C.rd = fun _ => none := cR
  replace cD : C.dyn = fun _ => [] := cD
  clear cP cN cF cA
  have hsame : ∀ {G : Heap} {P1 P2 : Nat} {r1 r2 : List Row} {f1 f2 : Nat → Nat} {L1 L2 : List (List Int)}, PlAt G P1 r1 f1 L1 → PlAt G P2 r2 f2 L2 → L1 = L2 → 64 = L1.length → (∀ x ∈ L1, x.length ≤ 4294967296) → C.pure 33 [cold (view G 4 (.osl P1 1 0 64 64)), cold (view G 4 (.osl P2 1 0 64 64))] = some (.v (.bool true)) := by
    intro G P1 P2 r1 r2 f1 f2 L1 L2 h1 h2 e hl hle
    subst e
    rw [ch0]
    simp only [argM, h1.dec hl, h2.dec hl, finM]
    rw [if_pos ⟨by omega, hle⟩]
    simp
  rcases begun_ev (f := f) (s := sl) hc with hb | ⟨G, A, hb, hrg, hf, hs⟩
  · simp [Try.ntmps10, Try.results10, cSl, cp0, cn0, cn1, cn2, cn3, cn4, cI, cD, cR, hb]
  · obtain ⟨G1, L1, P, rows, fP, hw, lk, r1, pl1, _, _⟩ := wholeO_ev hrg s
    obtain ⟨e, G2, A2, hun, r2, hE, hcs⟩ := unmap_ev r1 (s := s) (first := page) (n := n)
    have pl2 := pl1.keep (unmap_keep r1 hun r2)
    have hle := seenL_le hrg s 64
    rcases hcs with ⟨rfl, hh, hsp, hv⟩ | ⟨he, rfl⟩
    case inr =>
      obtain ⟨G3, L3, P3, rows3, f3, hw3, lk3, r3, pl3, kp3, _⟩ := wholeO_ev r2 s
      have pl23 := pl2.keep kp3
      rw [seenL_like lk] at pl3
      have hss := hsame pl3.at' pl23.at' rfl (seenL_len A s 64).symm hle
      simp [Try.ntmps10, Try.results10, cSl, cp0, cn0, cn1, cn2, cn3, cn4, cI, cD, cR, -view, -cold, hb, hw, hun, he, hw3, hss]
      simp [view]
    unfold spanBad at hsp
    obtain ⟨N, rfl⟩ := Int.eq_ofNat_of_zero_le (show 0 ≤ n by omega)
    obtain ⟨p, rfl⟩ := Int.eq_ofNat_of_zero_le (show 0 ≤ page by omega)
    have hh2 : has A2 s := (hE.has s).2 hh
    simp [Try.ntmps10, Try.results10, cSl, cp0, cn0, cn1, cn2, cn3, cn4, cI, cD, cR, hb, hw, hun]
    refine loop_forE N (fun k (x : Heap × Ab × List Row) => ([(3, .v (.int .i64 s)), (4, .v (.int .i64 p)), (5, .v (.int .i64 N)), (13, .ptr 1 5 0 0), (14, .osl P 1 0 64 64), (15, .v (.int .i64 (p + (k : Nat))))], x.1)) (fun k x => RG 1 (x.1, x.2.1) ∧ SameV A2 x.2.1 ∧ ∃ fk, Pl 1 (x.1, x.2.1) P x.2.2 fk (clr A s p 64 k)) (G2, A2, rows) (fun k _ hk _ => by omega) ⟨r2, SameV.refl _, fP, by rw [clr_0]; exact pl2⟩ ?_ ?_ ?_
    · exact Ent.env (by simp)
    · rintro k ⟨X, B, R⟩ hk ⟨hx, hvx, fk, plk⟩ hw
      simp only at hx hvx plk
      have hPl := obj_lt plk.at'.hP
      have hPo := obj_get plk.at'.hP
      simp only at hPl hPo
      have hRl := plk.at'.hl
      rw [clr_len] at hRl
      have hkn : p + k < 64 := by omega
      have rS := rg_setP (o := some (1, R.set (p + k) [.v (.slice none 0 0)])) hx hPo plk.cP
      have e16 : (((p : Int) + k) * 16) / 16 = (p : Int) + k := by omega
      obtain ⟨Z, L', hld, lk', r3⟩ := load_ev2 rS (s := s) (addr := ((p : Int) + k) * 16) (want := 1) (by omega) (by omega)
      have h11 : ldE B s 1 (((p : Int) + k) * 16) = 11 := by
        rw [(hvx.ld s 1 _).1]
        refine ldE_11 ?_ hh2
        rw [e16, hv, if_pos (by omega)]
      rw [h11] at hld
      obtain ⟨q1, q2, q3⟩ := plk.clear (n := p + k) (by rw [clr_len]; exact hkn) (load_keep rS hld r3)
      rw [clr_next hkn] at q3
      have w1 : IntKind.i64.wrap ((p : Int) + N) = (p : Int) + N := w64 (by omega) (by omega)
      have w2 : IntKind.i64.wrap (((p : Int) + k) * 16) = ((p : Int) + k) * 16 := w64 (by omega) (by omega)
      have w3 : IntKind.u32.wrap (((p : Int) + k) * 16) = ((p : Int) + k) * 16 := wu32 (by omega) (by omega)
      have w4 : IntKind.i64.wrap ((p : Int) + k + 1) = (p : Int) + k + 1 := w64 (by omega) (by omega)
      have c1 : (p : Int) + k < p + N := by omega
      have c2 : (0 : Int) ≤ p + k := by omega
      have c3 : (p : Int) + k < 64 := by omega
      have c4 : ((p : Int) + k).toNat = p + k := by omega
      have gX := (List.getElem?_eq_some_iff.1 hPo).2
      have hrk := plk.at'.hr (p + k) (by rw [clr_len]; exact hkn)
      obtain ⟨ra, hra⟩ : ∃ x, oA (fk (p + k)) 1 ((clr A s p 64 k)[p + k]'(by rw [clr_len]; exact hkn)).length = x := ⟨_, rfl⟩
      rw [hra] at hrk
      have hrk' := (List.getElem?_eq_some_iff.1 hrk).2
      simp [Try.ntmps10, Try.results10, cSl, cp0, cn0, cn1, cn2, cn3, cn4, cI, cD, cR, w1, w2, w3, w4, c1, c2, c3, c4, hk, hPl, hPo, gX, hRl, hkn, hld, hrk', hrk]
      refine ⟨(Z.set P (some (1, R.set (p + k) [.esl])), { B with lo := L' }, R.set (p + k) [.esl]), ⟨rg_setP r3 q1 q2, hvx.like lk', _, q3⟩, ?_⟩
      have hZ := (List.getElem?_eq_some_iff.1 q1).1
      have hR2 : (R.set (p + k) [.v (.slice none 0 0)])[p + k]? = some [.v (.slice none 0 0)] := List.getElem?_set_self (by omega)
      refine Ent.trans (s' := (_, Z.set P (some (1, (R.set (p + k) [.v (.slice none 0 0)]).set (p + k) [.esl])))) ?_ (Ent.rowL (M := P) (i := p + k) (szM := 1) (row := [.v (.slice none 0 0)]) (row' := [.esl]) (by unfold obj; rw [q1]; rfl) hR2 rfl (fun j a r ha hr => by
        match j, ha, hr with
        | 0, ha, hr => simp at ha hr; subst ha hr; exact @Lss.nil_esl
        | j + 1, ha, hr => simp at ha))
      rw [List.set_set]
      exact Ent.env (by simp; omega)
    · rintro ⟨X, B, R⟩ ⟨hx, hvx, fk, plk⟩
      simp only at hx hvx plk
      have hh3 : has B s := (hvx.2 s).2 hh2
      obtain ⟨e, G4, A4, hmap, r4, hE4, hc4⟩ := map_ev hx (s := s) (first := p) (n := N) (rights := 0)
      obtain ⟨G5, L5, P5, rows5, f5, hw5, lk5, r5, pl5, kp5, _⟩ := wholeO_ev r4 s
      have pl6 := (plk.keep (map_keep hx hmap r4)).keep kp5
      have w1 : IntKind.i64.wrap ((p : Int) + N) = (p : Int) + N := w64 (by omega) (by omega)
      have he : (e = 0 ∨ e = 6) ∧ ∀ j, vw A4 s j = if (p : Int) ≤ j ∧ j < p + N then (vw A4 s j) else vw A s j := by
        rcases hc4 with ⟨rfl, _, _, _, _, hv4⟩ | ⟨he, rfl, hc4⟩
        · refine ⟨.inl rfl, fun j => ?_⟩
          split
          · rfl
          · rename_i c
            rw [hv4, if_neg c, hvx.1, hv, if_neg c, vw_like lk]
        · refine ⟨?_, fun j => ?_⟩
          · rcases hc4 with ⟨_, h⟩ | ⟨_, h⟩ | ⟨_, j, h1, h2, h⟩ | ⟨h, _⟩
            · exact absurd hh3 h
            · unfold spanBad at h; omega
            · refine absurd ?_ h
              rw [hvx.1, hv, if_pos ⟨h1, h2⟩]
            · exact .inr h
          · split
            · rfl
            · rename_i c
              rw [hvx.1, hv, if_neg c, vw_like lk]
      have hin : ∀ j, (p : Int) ≤ j → j < p + N → seen A4 s j = [] := fun j h1 h2 => by
        unfold seen okV
        rcases hc4 with ⟨rfl, _, _, _, _, hv4⟩ | ⟨_, rfl, _⟩
        · have := hv4 j
          rw [if_pos ⟨h1, h2⟩] at this
          rw [this]; rfl
        · have := hv j
          rw [if_pos ⟨h1, h2⟩, ← hvx.1] at this
          rw [this]; rfl
      have heq : seenL A4 s 64 = clr A s p 64 N := by
        unfold seenL clr
        apply List.map_congr_left
        intro j _
        split
        · rename_i c
          exact hin _ c.1 c.2
        · rename_i c
          refine seen_eq ?_
          have := he.2 (j : Nat)
          rw [if_neg c] at this
          exact this
      have hss := hsame pl5.at' pl6.at' heq (seenL_len A4 s 64).symm (seenL_le r4 s 64)
      rcases he.1 with rfl | rfl
      · simp [Try.ntmps10, Try.results10, cSl, cp0, cn0, cn1, cn2, cn3, cn4, cI, cD, cR, -view, -cold, w1, hmap, hw5, hss]
        simp [view]
      · simp [Try.ntmps10, Try.results10, cSl, cp0, cn0, cn1, cn2, cn3, cn4, cI, cD, cR, -view, -cold, w1, hmap, hw5, hss]
        simp [view]
end Go.Proofs.Ytegjbfcgbfnldaa
