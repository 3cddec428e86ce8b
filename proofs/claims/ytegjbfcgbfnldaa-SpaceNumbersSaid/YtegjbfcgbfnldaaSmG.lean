/- slices.Sort of integers at this program. Package space: Spaces. slices' functions, of integers. -/
import Derived.Test.YtegjbfcgbfnldaaFacts
import Derived.Test.YtegjbfcgbfnldaaSo
import Derived.Test.YtegjbfcgbfnldaaAiZj
import Derived.Shelf.Sort.Plain
import Derived.Shelf.Slices.In.SortNone
import Derived.Test.YtegjbfcgbfnldaaSmF
namespace Go.Proofs.Ytegjbfcgbfnldaa
open Go.AI
set_option linter.unusedSimpArgs false
set_option linter.unusedVariables false
section
open Go.AI Go.Sort
theorem sortZ_in : InlOk Try.prog 40 sortZI :=
  sortZ_inl ⟨⟨_, _, Try.func40, rfl⟩, fun blk off cap zs w hH hb hs => Any.slices_Sort_int Go.Proofs.Ytegjbfcgbfnldaa.layZ blk off cap zs w hH hb hs, fun p cap w => Any.slices_Sort_int_none Go.Proofs.Ytegjbfcgbfnldaa.layZ p cap w⟩
end
section
set_option maxHeartbeats 2000000
set_option maxRecDepth 100000
set_option linter.unusedSimpArgs false
set_option linter.unusedVariables false
attribute [local simp] wpA wpX RunA RunD runF foot footP footB idsA bare apart runL step1 gsel_f gsel_t gsel_s res_same res_and1 res_and2 res_and3 res_and4 res_and5 res_and6 res_false res_true res_v res_ptr res_fptr res_osl res_xsl soft aAppendZ aCap ovlI ovlJ res_fsl res_esl res_agg res_tup res_fn res_junk res_anyb aPick hk imp_left iteV dstOk guardOk astep astepE AI.ev AI.look AI.put envOf aBox cellsOf allOne allOneA oneA Value.oneCell' Value.cells newObj' aFieldAddr aLoad obj readAt thenA blockA condA retA resA tupA view hot hotC hotR depthV cAgg cInt cBool mkAgg allV aAlloc aBuild fillA writeAt aStore isAggA aField idx aIndexAddr aIndex bnd aSlice aExtract aLen aBuiltin aCall isStatic eqAgg eqTy eqC ev_add ev_sub ev_mul ev_quo ev_rem ev_and ev_or ev_xor ev_andNot ev_shl ev_shr ev_eql ev_neq ev_lss ev_leq ev_gtr ev_geq ev_agg w64 wu32 wu8 ev_not ev_neg Cod.plain RCod.plain argM finM cold coldC coldR goInt intDec boolDec aggDec Weaker heapW lowA lowC Again slDec undef aBuildSlice setRows aAppend rowsOf aMakeSlice aClear aCopy softer_self softer_nil valsOf ev_min2 ev_max2 hotR_set hotR_append take_map_set irow_cold irow_mapM irow_mapMc irow_view irow_viewc irow_hotR irow_ren irow_renc irow_low WeakT heapT thOf ren renC AgainT NextF NextT fnDec cFn rNil selfLt natLt0 natLt1 getLastMap frame0 frame1 own0 own1 argG finG tau tauI tauO tauC bareA bareC bareH irow_tau irow_tauc irow_bare irow_flat irow_bareR ownA_nil ownT_nil ownA_c ownT_c ownA_s ownT_s takeMapLen footC plainA noId noIdC cloneF frame0F frame1F insertF replaceI replaceF cellDec rCell fpDec cFp rTwo deleteF allV_oA oneA_oA res_oA RunR RunE runFT footAt hotR_cat tmodN aEqH aSliceA fxSz3 fxBy3 fxAg3 fxZe3 fxSz4 fxAg4 fxSz5 fxBy5 fxAg5 fxZe5 fxSl22 fxAr22 fxSz26 fxAg26 fxZe26 fxSz28 fxBy28 fxAg28 fxZe28 fxSl28 fxAr28 fxSl51 fxAr51 fxSl58 fxAr58 fxSz69 fxAg69 fxZe69 fxFi69x0 fxFi69x1 fxFi69x2 fxFi69x3 fxFi69x4 fxFi69x5 fxSz71 fxBy71 fxAg71 fxZe71 fxSz73 fxAg73 fxZe73 fxFi73x0 fxFi73x1 fxPl73 fxZe75 fxSz76 fxAg76 fxSl76 fxAr76 fxAg77 fxZe79 fxFi79x0 fxFi79x1 fxFi79x2 fxFi79x3 fxFi79x4 fxPl79 fxSz82 fxAg82 fxZe82 fxSl82 fxAr82 fxPl82 fxSl87 fxAr87 fxSz91 fxZe91 fxFi91x0 fxFi91x1 fxFi91x2 fxFi91x3 fxPl91 fxCv3x36 fxCv36x3 fxEb4 fxNb4 fxLn28 fxNe28 fxOe28 fxXe28 fxLn58 fxNe58 fxOe58 fxXe58 fxLn76 fxFm15 fxFm16 fxFi16 fxFm17 fxFm18 fxFm19 fxFi19 fxFm20 fxFi20 fxFm21 fxFm22 fxFm23 fxFm24 fxFm25 fxFi25 fxFm26 fxFm27 fxFm28 fxFi28 fxFm29 fxFi29 fxFm30 fxFm31 fxFm32 fxFm33 fxFi33 fxFm34 fxFm35 fxFm36 fxFm37 fxFm38 fxFi38 fxFm39 fxFm40 fxFm41 fxFi41 fxFm42 fxFm43 fxFm44 fxFi44 fxFm45 fxFi45 fxFm46 fxFm47 fxFm48 fxFm49 fxFi49 fxFm50 fxFi50 fxFm51 fxFi51 fxFm52 fxFi52 fxFm53 fxFm54 fxFi54 fxFm55 fxFi55 fxFm56 fxFm57 fxFi57 fxFm58 fxFi58 fxFm61 fxFm62 fxFi62 fxFm63 fxFi63 fxFm64 fxFm65 fxFi65 fxFm77 fxFi77
section
attribute [local simp] pgRow_len pg16 pg17 pg18 pg16' pg17' pg18' ww16 ww17 ww18 keyI_ok aLookup aMapUpdate aDelete lkRes bin_mn spV enV Try.underlying75 Try.underlying77
abbrev Ks := List (Int × Nat)
theorem stampM_find {es : Ks} {bs : List Int} (hn : bs.Nodup) : ∀ {i : Nat} {e : Int × Nat} {b : Int}, es[i]? = some e → bs[i]? = some b → stampR b (stampL (es.map mRow) bs) = some (.v (.int .i64 e.1), mV e.2) := by
  induction bs generalizing es with
  | nil => intro i e b _ h; simp at h
  | cons b0 bs ih =>
    intro i e b h1 h2
    cases es with
    | nil => simp at h1
    | cons e0 es =>
      rw [List.nodup_cons] at hn
      simp only [stampL, List.map_cons, List.zipWith_cons_cons, mRow, List.cons_append, List.nil_append, stampR]
      cases i with
      | zero =>
        simp only [List.getElem?_cons_zero, Option.some.injEq] at h1 h2
        subst h1 h2
        rw [if_pos rfl]
      | succ i =>
        simp only [List.getElem?_cons_succ] at h1 h2
        rw [if_neg]
        · exact ih hn.2 h1 h2
        · rintro rfl
          exact hn.1 (List.mem_of_getElem? h2)
theorem stampM_inv {es : Ks} {bs : List Int} {i : Nat} {k a : AVal} {b : Int} (h : (stampL (es.map mRow) bs)[i]? = some [k, a, .v (.int .i64 b)]) : ∃ e, es[i]? = some e ∧ bs[i]? = some b ∧ k = .v (.int .i64 e.1) ∧ a = mV e.2 := by
  obtain ⟨q, b', h1, h2, h3⟩ := stampL_inv h
  rw [List.getElem?_map, Option.map_eq_some_iff] at h1
  obtain ⟨e, he, rfl⟩ := h1
  simp only [mRow, List.cons_append, List.nil_append, List.cons.injEq, AVal.v.injEq, Value.int.injEq, true_and, and_true] at h3
  obtain ⟨h3, h4, h5⟩ := h3
  subst h5
  exact ⟨e, he, h2, h3, h4⟩
theorem stampM_rows {es : Ks} {bs : List Int} : ∀ r ∈ stampL (es.map mRow) bs, ∃ k a b, r = [k, a, .v (.int .i64 b)] := by
  intro r hr
  obtain ⟨i, hi⟩ := List.mem_iff_getElem?.1 hr
  obtain ⟨q, b', h1, h2, h3⟩ := stampL_inv hi
  rw [List.getElem?_map, Option.map_eq_some_iff] at h1
  obtain ⟨e, he, rfl⟩ := h1
  exact ⟨_, _, _, h3⟩
/-- the numbers that were met -/
def ksZ (es : Ks) (is : List Nat) : List Int := is.map fun i => ((es[i]?).map (·.1)).getD 0
theorem ksZ_app {es : Ks} {is : List Nat} {i : Nat} {e : Int × Nat} (h : es[i]? = some e) : ksZ es (is ++ [i]) = ksZ es is ++ [e.1] := by
  simp [ksZ, h]
theorem ksZ_all {es : Ks} {is : List Nat} (hn : is.Nodup) (hl : ∀ i ∈ is, i < es.length) (ha : ∀ i, i < es.length → i ∈ is) : (ksZ es is).Perm (es.map (·.1)) := by
  have hp : is.Perm (List.range es.length) := by
    rw [List.perm_ext_iff_of_nodup hn List.nodup_range]
    intro i
    rw [List.mem_range]
    exact ⟨hl i, ha i⟩
  have h1 : (ksZ es is).Perm (ksZ es (List.range es.length)) := hp.map _
  have h2 : ksZ es (List.range es.length) = es.map (·.1) := by
    apply List.ext_getElem?
    intro i
    simp only [ksZ, List.getElem?_map]
    by_cases hi : i < es.length
    · rw [List.getElem?_range hi]
      simp [hi]
    · have h3 : (List.range es.length)[i]? = none := List.getElem?_eq_none (by simp; omega)
      have h4 : es[i]? = none := List.getElem?_eq_none (by omega)
      rw [h3, h4]; rfl
  rwa [h2] at h1
theorem sortZ_eq {a b : List Int} (h : a.Perm b) : sortZ a = sortZ b := by
  have h1 : (sortZ a).Perm (sortZ b) := (sortZ_perm a).trans (h.trans (sortZ_perm b).symm)
  exact h1.eq_of_pairwise (fun x y _ _ h1 h2 => by omega) (sortZ_sorted a) (sortZ_sorted b)
def outZ (n : Nat) : Nat → AVal
  | 0 => .v (.slice none 0 0)
  | i + 1 => .osl (n + (2 * i + 1 + 1)) 1 0 (i + 1) (i + 1)
def outZK (d : List Int) : Nat → Heap
  | 0 => []
  | i + 1 => List.replicate (2 * i + 1) none ++ [some (1, d.map (irow .i64))]
theorem outZ_0 {n : Nat} : outZ n 0 = .v (.slice none 0 0) := rfl
theorem outZ_s {n i : Nat} : outZ n (i + 1) = .osl (n + (2 * i + 1 + 1)) 1 0 (i + 1) (i + 1) := rfl
theorem outZK_0 {d : List Int} : outZK d 0 = [] := rfl
theorem outZK_s {d : List Int} {i : Nat} : outZK d (i + 1) = List.replicate (2 * i + 1) none ++ [some (1, d.map (irow .i64))] := rfl
theorem res_outZ {b : Bool} {n j : Nat} : res b (outZ n j) = outZ n j := by cases j <;> rfl
attribute [local simp] res_outZ
noncomputable def spacesM : Row → Heap → Option (AVal × Heap)
  | [.ptr mid 5 0 0], H => (repAt H mid).map fun A => (outZ H.length A.sps.length, H ++ none :: outZK (sortZ (A.sps.map (·.1))) A.sps.length)
  | _, _ => none
structure SpI (n : Nat) (es : Ks) (is : List Nat) : Prop where
  nd : is.Nodup
  lt : ∀ i ∈ is, i < es.length
theorem irow64_dec (d : List Int) : List.mapM (irowDec .i64) (d.map (irow .i64)) = some d := mapM_dec (rI .i64) d
theorem sp_kill {n0 a : Nat} {ρ ρ' : Env} {H0 X : Heap} {it t q : Option (Nat × List Row)} (hX : X = H0 ++ (it :: (List.replicate a none ++ [none, t, q]))) (hl : ∀ p ∈ ρ', AI.look ρ p.1 = p.2) : Ent n0 (ρ', H0 ++ (it :: (List.replicate (a + 2) none ++ [q]))) (ρ, X) := by
  subst hX
  have k := Ent.killAt (n0 := n0) (ρ := ρ) (H := H0) (K := it :: (List.replicate a none ++ [none])) (M := [q]) (o := t)
  refine (Ent.env hl).trans (Ent.trans (s' := (ρ, H0 ++ ((it :: (List.replicate a none ++ [none])) ++ none :: [q]))) (Eq.mp ?_ (Ent.refl n0 (ρ, H0 ++ ((it :: (List.replicate a none ++ [none])) ++ none :: [q])))) (Eq.mp ?_ k))
  · congr 2
    simp [List.replicate_succ']
  · congr 2
    simp
theorem spaces_inl : InlOk Try.prog 36 spacesM := by
  refine inl_canonE Try.func36 rfl fun args H r H' hr => ⟨args, canon_refl args, ?_⟩
  unfold spacesM at hr
  split at hr
  case h_2 => cases hr
  rename_i mid
  simp only [Option.bind_eq_some_iff, Option.map_eq_some_iff] at hr
  obtain ⟨A, hA, hr⟩ := hr
  simp only [Prod.mk.injEq] at hr
  obtain ⟨rfl, rfl⟩ := hr
  obtain ⟨rp, gd⟩ := repAt_iff.1 hA
  have hM := rp.st.mem
  have hS := rp.sp
  have hsl : A.lo.sid < H.length := (List.getElem?_eq_some_iff.1 hS).1
  have hml : mid < H.length := rp.st.lt cell_m
  have hss : A.sps.map spRow = (A.sps.map (fun x => (x.1, x.2.1))).map mRow := by
    rw [List.map_map]; rfl
  have hks : (A.sps.map (fun x => (x.1, x.2.1))).map (·.1) = A.sps.map (·.1) := by
    rw [List.map_map]; rfl
  have hle : A.sps.length ≤ 16 := by
    have := below_int (n := 16) (a := 1) rp.nds (by
      intro z hz
      obtain ⟨x, hx, rfl⟩ := List.mem_map.1 hz
      have := gd.num x hx
      omega)
    simpa using this
  have hsln : A.sps.length = (A.sps.map (fun x => (x.1, x.2.1))).length := by simp
  have hmid : ¬ mid = A.lo.sid := by
    intro e
    rw [e] at hM
    rw [hM] at hS; cases hS
  rw [hss] at hS
  rw [hsln] at hle ⊢
  rw [← hks]
  generalize A.sps.map (fun x => (x.1, x.2.1)) = SS at *
  have hrow : ∀ r ∈ SS.map mRow, r.length = 2 := fun r hr => by
    obtain ⟨e, _, rfl⟩ := List.mem_map.1 hr
    rfl
  refine bodyX_of hS hrow ((noOrc_ok.withI sortZ_in).withD (fun i => if i = 3 then [(1000000,1000000)] else [])) fxMix (by kernel_rfl) (by simp [Try.ntmps36]) ?_
  intro C cP cI cN cD cF cA cR cL
  have cn0 := orcI sortZ_in (C := C) (by rw [cN]; rfl)
  replace cI := fun g => congrFun cI g
  simp only [Orc.withP, Orc.withI, Orc.withF, Orc.withD, Orc.withA, Orc.withR, Orc.withC, noOrc] at cI
  replace cR : C.rd = fun _ => none := cR
  replace cD : C.dyn = fun i => if i = 3 then [(1000000,1000000)] else [] := cD
  replace cF := fun g => congrFun cF g
  simp only [Orc.withP, Orc.withI, Orc.withF, Orc.withD, Orc.withA, Orc.withR, Orc.withC, noOrc] at cF
  replace cA : C.alt = fun _ => [] := cA
  clear cP cN
  intro c rs bs hp hbl hbn hlt
  obtain ⟨es', rfl, hpe⟩ := perm_of_map hp SS rfl
  rw [List.length_map] at hbl
  obtain ⟨H0, hH0⟩ : ∃ x, H.set A.lo.sid (some (0, [.v (.int .i64 c)] :: stampL (es'.map mRow) bs)) = x := ⟨_, rfl⟩
  have hl0 : H0.length = H.length := by rw [← hH0, List.length_set]
  have hM0 : H0[mid]? = some (some (5, [A.lo.row])) := by rw [← hH0, List.getElem?_set_ne (fun e => hmid e.symm), hM]
  have hS0 : H0[A.lo.sid]? = some (some (0, [.v (.int .i64 c)] :: stampL (es'.map mRow) bs)) := by rw [← hH0, List.getElem?_set_self hsl]
  simp only [Lo.row] at hM hM0
  rw [hH0]
  simp [Try.ntmps36, Try.results36, cSl, cn0, cI, cD, cR, cF, cA, hM0, hS0, aRange, hl0]
  refine loop_ent (σ := {is : List Nat // is.Nodup ∧ ∀ i ∈ is, i < es'.length}) (fun p => ([(3, outZ H.length p.val.length), (9, .ptr H.length 1 0 0)], H0 ++ (some (0, [[.ptr A.lo.sid 0 0 0, .v (.int .i64 c), .v (.int .i64 c)], bsR bs p.val]) :: outZK (ksZ es' p.val) p.val.length))) (fun p => es'.length - p.val.length) ⟨[], List.nodup_nil, by simp⟩ ?_ ?_
  · exact Ent.env (by simp [outZ])
  rintro ⟨is, hnd, hlt2⟩
  simp only
  have hIt : ∀ K : Heap, (H0 ++ (some (0, [[.ptr A.lo.sid 0 0 0, .v (.int .i64 c), .v (.int .i64 c)], bsR bs is]) :: K))[H.length]? = some (some (0, [[.ptr A.lo.sid 0 0 0, .v (.int .i64 c), .v (.int .i64 c)], bsR bs is])) := fun K => by
    rw [List.getElem?_append_right (by omega), hl0, Nat.sub_self]; rfl
  have hX : ∀ K : Heap, (H0 ++ K)[A.lo.sid]? = some (some (0, [.v (.int .i64 c)] :: stampL (es'.map mRow) bs)) := fun K => by
    rw [List.getElem?_append_left (by omega), hS0]
  simp [Try.ntmps36, Try.results36, cSl, cn0, cI, cD, cR, cF, cA, hIt, hX]
  refine runN_of rfl rfl rfl rfl (by decide) rfl (hIt _) (hX _) stampM_rows (fun x hx => by obtain ⟨i, _, rfl⟩ := List.mem_map.1 hx; exact ⟨_, rfl⟩) ?_ ?_
  · intro i k a b hi hb
    obtain ⟨⟨k, p⟩, he, hbi, rfl, rfl⟩ := stampM_inv hi
    have hpm := stampM_find hbn he hbi
    have hni : i ∉ is := fun hm => hb (List.mem_map.2 ⟨i, hm, by rw [hbi]; rfl⟩)
    have hil : i < es'.length := (List.getElem?_eq_some_iff.1 he).1
    have hnd2 : (is ++ [i]).Nodup := by
      rw [List.nodup_append]
      refine ⟨hnd, by simp, fun a ha b hb => ?_⟩
      simp at hb
      subst hb
      rintro rfl
      exact hni ha
    have hlt3 : ∀ j ∈ is ++ [i], j < es'.length := fun j hj => by
      rcases List.mem_append.1 hj with h | h
      · exact hlt2 j h
      · simp at h; subst h; exact hil
    have hlen : is.length + 1 ≤ es'.length := by
      have := below hnd2 hlt3
      simpa using this
    have hkz := ksZ_app (is := is) he
    have hbs : bsR bs (is ++ [i]) = bsR bs is ++ [.v (.int .i64 b)] := by simp [bsR, hbi]
    have hkl : (ksZ es' is).length = is.length := by simp [ksZ]
    have hset : ∀ K : Heap, (H0 ++ (some (0, [[.ptr A.lo.sid 0 0 0, .v (.int .i64 c), .v (.int .i64 c)], bsR bs is]) :: K)).set H.length (some (0, [[.ptr A.lo.sid 0 0 0, .v (.int .i64 c), .v (.int .i64 c)], bsR bs is ++ [.v (.int .i64 b)]])) = H0 ++ (some (0, [[.ptr A.lo.sid 0 0 0, .v (.int .i64 c), .v (.int .i64 c)], bsR bs is ++ [.v (.int .i64 b)]]) :: K) := fun K => by
      rw [List.set_append_right _ _ (by omega), hl0, Nat.sub_self]; rfl
    rw [hset]
    have hel := hpe.length_eq
    have hnext : ∀ (ρ : Env) (X : Heap), Ent H.length ([(3, outZ H.length (is.length + 1)), (9, .ptr H.length 1 0 0)], H0 ++ (some (0, [[.ptr A.lo.sid 0 0 0, .v (.int .i64 c), .v (.int .i64 c)], bsR bs (is ++ [i])]) :: outZK (ksZ es' is ++ [k]) (is.length + 1))) (ρ, X) → AgainE H.length (fun p : {is : List Nat // is.Nodup ∧ ∀ i ∈ is, i < es'.length} => ([(3, outZ H.length p.val.length), (9, .ptr H.length 1 0 0)], H0 ++ (some (0, [[.ptr A.lo.sid 0 0 0, .v (.int .i64 c), .v (.int .i64 c)], bsR bs p.val]) :: outZK (ksZ es' p.val) p.val.length))) (fun p => es'.length - p.val.length) (es'.length - is.length) ρ X := fun ρ X he =>
      ⟨⟨is ++ [i], hnd2, hlt3⟩, by simp; omega, by simp only [List.length_append, List.length_singleton, hkz]; exact he⟩
    have hIt2 : ∀ K : Heap, (H0 ++ (some (0, [[.ptr A.lo.sid 0 0 0, .v (.int .i64 c), .v (.int .i64 c)], bsR bs is ++ [.v (.int .i64 b)]]) :: K))[H.length]? = some (some (0, [[.ptr A.lo.sid 0 0 0, .v (.int .i64 c), .v (.int .i64 c)], bsR bs is ++ [.v (.int .i64 b)]])) := fun K => by
      rw [List.getElem?_append_right (by omega), hl0, Nat.sub_self]; rfl
    simp only [mV] at hpm
    generalize hZ : ksZ es' is = Z at *
    cases hn : is.length with
    | zero =>
      have hZ0 : Z = [] := List.length_eq_zero_iff.1 (by omega)
      subst hZ0
      rw [hn] at hnext
      simp [Try.ntmps36, Try.results36, cSl, cn0, cI, cD, cR, cF, cA, RunK, runL, hIt2, hX, hpm, outZ_0, outZK_0, aEntry, mV]
      refine hnext _ _ ?_
      rw [outZ_s, outZK_s, hbs]
      have k1 := Ent.killAt (n0 := H.length) (ρ := [(3, .osl (H.length + 2) 1 0 1 1), (9, .ptr H.length 1 0 0)]) (H := H0) (K := [some (0, [[.ptr A.lo.sid 0 0 0, .v (.int .i64 c), .v (.int .i64 c)], bsR bs is ++ [.v (.int .i64 b)]])]) (M := [some (1, [[.v (.int .i64 k)]])]) (o := some (1, [[.v (.int .i64 k)]]))
      refine Ent.trans k1 (Ent.env (by simp [hl0]))
    | succ m =>
      have hni1 : ¬ m + 1 + 1 ≤ m + 1 := by omega
      have hni2 : m + 1 + 1 ≤ 4294967296 := by omega
      rw [hn] at hkl
      rw [hn] at hnext
      have hsl0 : A.lo.sid < H0.length := by omega
      have hsg := (List.getElem?_eq_some_iff.1 hS0).2
      simp [Try.ntmps36, Try.results36, cSl, cn0, cI, cD, cR, cF, cA, RunK, runL, hIt2, hX, hpm, outZ_s, outZK_s, aEntry, mV, hni1, hni2, hkl, hl0, hsl, hS0, List.getElem?_append, List.set_append]
      refine hnext _ _ ?_
      rw [outZ_s, outZK_s, hbs]
      refine sp_kill (a := 2 * m + 1) (t := some (1, [[.v (.int .i64 k)]])) ?_ ?_
      · simp [irow]
      · simp [hl0]
        try omega
  · intro hall
    have hel := hpe.length_eq
    have hal : ∀ i, i < es'.length → i ∈ is := fun i hi => by
      have h1 := hall i (.v (.int .i64 es'[i].1)) (mV es'[i].2) bs[i] (by rw [stampL_get (by simpa using hi) (by omega)]; simp [mRow])
      simp only [bsR, List.mem_map, AVal.v.injEq, Value.int.injEq, true_and] at h1
      obtain ⟨j, hj, he⟩ := h1
      have hjl := hlt2 j hj
      rw [List.getElem?_eq_getElem (by omega)] at he
      simp only [Option.getD_some] at he
      have := (List.getElem_inj hbn).1 he
      subst this
      exact hj
    have hZp : (ksZ es' is).Perm (SS.map (·.1)) := (ksZ_all hnd hlt2 hal).trans (hpe.map _)
    have hZs := sortZ_eq hZp
    have hkl : (ksZ es' is).length = is.length := by simp [ksZ]
    have hil : is.length = SS.length := by have := hZp.length_eq; simp at this; omega
    rw [← hZs, ← hil]
    have hbr : ∀ x ∈ bsR bs is, True := fun _ _ => trivial
    generalize hBS : bsR bs is = BS at *
    generalize ksZ es' is = Z at *
    have hfin : ∀ (ρ : Env) (K : Heap), Ent H.length (ρ, H ++ none :: K) (ρ, H0 ++ (some (0, [[.ptr A.lo.sid 0 0 0, .v (.int .i64 c), .v (.int .i64 c)], BS]) :: K)) := fun ρ K => by
      have e0 := Ent.killAt (n0 := H.length) (ρ := ρ) (H := H0) (K := []) (M := K) (o := some (0, [[.ptr A.lo.sid 0 0 0, .v (.int .i64 c), .v (.int .i64 c)], BS]))
      have e1 := Ent.hide (n0 := H.length) (ρ := ρ) (H := H0 ++ ([] ++ none :: K)) (id := A.lo.sid) (by rw [List.getElem?_append_left (by omega)]; exact hS0) (by simpa using hbl) (fun r hr => by obtain ⟨e, _, rfl⟩ := List.mem_map.1 hr; exact ⟨_, _, rfl⟩)
      have e2 := Ent.perm (n0 := H.length) (ρ := ρ) (H := (H0 ++ ([] ++ none :: K)).set A.lo.sid (some (0, es'.map mRow))) (id := A.lo.sid) (rows := es'.map mRow) (rows' := SS.map mRow) (List.getElem?_set_self (by simp; omega)) (hpe.map _) (fun r hr => by obtain ⟨e, _, rfl⟩ := List.mem_map.1 hr; rfl)
      refine Eq.mp ?_ (e2.trans (e1.trans e0))
      congr 2
      rw [List.set_set, List.set_append_left _ _ (by omega), ← hH0, List.set_set]
      have hg1 := (List.getElem?_eq_some_iff.1 hS).2
      rw [← hg1, List.set_getElem_self]
      rfl
    cases hn : is.length with
    | zero =>
      simp [Try.ntmps36, Try.results36, cSl, cn0, cI, cD, cR, cF, cA, RunK, runL, outZ_0, outZK_0, sortZI]
      exact hfin _ []
    | succ m =>
      rw [hn] at hkl
      have hm1 : m + 1 ≤ 1048576 := by omega
      have htk : List.take (m + 1) (Z.map (irow .i64)) = Z.map (irow .i64) := List.take_of_length_le (by simp [hkl])
      have hdk : List.drop (m + 1) (Z.map (irow .i64)) = [] := List.drop_eq_nil_of_le (by simp [hkl])
      have hob : ∀ (J : Option (Nat × List Row)), obj (H0 ++ J :: (List.replicate (2 * m + 1) none ++ [some (1, Z.map (irow .i64))])) (H.length + (2 * m + 1 + 1)) = some (1, Z.map (irow .i64)) := fun J => by
        unfold obj
        rw [List.getElem?_append_right (by omega), hl0, Nat.add_sub_cancel_left, List.getElem?_cons_succ, List.getElem?_append_right (by simp)]
        simp
      have hse : ∀ (J : Option (Nat × List Row)) (o : Option (Nat × List Row)), (H0 ++ J :: (List.replicate (2 * m + 1) none ++ [some (1, Z.map (irow .i64))])).set (H.length + (2 * m + 1 + 1)) o = H0 ++ J :: (List.replicate (2 * m + 1) none ++ [o]) := fun J o => by
        rw [List.set_append_right _ _ (by omega), hl0, Nat.add_sub_cancel_left, List.set_cons_succ, List.set_append_right _ _ (by simp)]
        simp
      have hob' := fun J => obj_get (hob J)
      simp [Try.ntmps36, Try.results36, cSl, cn0, cI, cD, cR, cF, cA, RunK, runL, outZ_s, outZK_s, sortZI, hob', hkl, hm1, htk, hdk, hse, irow64_dec]
      exact hfin _ _
end
section
/-- slices.Index, of integers -/
def idxOf (x : Int) : List Int → Option Nat
  | [] => none
  | y :: r => if x = y then some 0 else (idxOf x r).map (· + 1)
def idxI (x : Int) (l : List Int) : Int := match idxOf x l with | some k => k | none => -1

theorem index_pure : PureOk Try.prog 58 (argM (cSl (rI .i64)) fun l => argM (cInt .i64) fun x => finM (if l.length ≤ 4294967296 then some (.v (.int .i64 (idxI x l))) else none)) := by
  refine pure2 Try.func58 rfl ?_
  rintro l x r hr
  by_cases hc : l.length ≤ 4294967296
  case neg => rw [if_neg hc] at hr; cases hr
  rw [if_pos hc] at hr
  simp only [Option.some.injEq] at hr
  subst hr
  refine body_gen noOrc_ok fxMix (by kernel_rfl) (by simp [Try.ntmps58]) ?_
  intro C cP cI cN cD cF cA cR cL
  replace cI : C.inl = fun _ => false := cI
  replace cR : C.rd = fun _ => none := cR
  replace cD : C.dyn = fun _ => [] := cD
  clear cP cN cF cA
  simp [Try.ntmps58, Try.results58, cSl, cI, cD, cR, rI]
  refine loop_for l.length (fun k (_ : Unit) => ([(0, .fsl false 1 (l.map (irow .i64))), (1, .v (.int .i64 x)), (7, .v (.int .i64 l.length)), (8, .v (.int .i64 k))], [])) (fun k _ => idxOf x l = (idxOf x (l.drop k)).map (· + k)) () hc (by simp) (by simp) ?_ ?_
  · intro k _ hk hall hw
    rw [List.drop_eq_getElem_cons hk, idxOf] at hall
    simp [Try.ntmps58, Try.results58, cSl, cI, cD, cR, hk, irow, hw]
    split
    · rename_i q
      rw [if_pos q] at hall
      simp [idxI, hall]
    · rename_i q
      rw [if_neg q] at hall
      rw [hall, Option.map_map]
      congr 1
      funext z
      simp; omega
  · intro _ hall
    simp [idxOf] at hall
    simp [Try.ntmps58, Try.results58, cSl, cI, cD, cR, idxI, hall]

theorem idxOf_iff (x : Int) (l : List Int) : (idxOf x l).isSome = true ↔ x ∈ l := by
  induction l with
  | nil => simp [idxOf]
  | cons y r ih =>
    simp only [idxOf]
    split
    · rename_i h; simp [h]
    · rename_i h; simp [h, ih]
theorem idxI_iff (x : Int) (l : List Int) : 0 ≤ idxI x l ↔ x ∈ l := by
  rw [← idxOf_iff]
  unfold idxI
  cases idxOf x l <;> simp

theorem contains_pure : PureOk Try.prog 38 (argM (cSl (rI .i64)) fun l => argM (cInt .i64) fun x => finM (if l.length ≤ 4294967296 then some (.v (.bool (decide (x ∈ l)))) else none)) := by
  refine pure2 Try.func38 rfl ?_
  rintro l x r hr
  by_cases hc : l.length ≤ 4294967296
  case neg => rw [if_neg hc] at hr; cases hr
  rw [if_pos hc] at hr
  simp only [Option.some.injEq] at hr
  subst hr
  refine body_gen (noOrc_ok.withP index_pure) fxMix (by kernel_rfl) (by simp [Try.ntmps38]) ?_
  intro C cP cI cN cD cF cA cR cL
  have cp0 := orcP index_pure (C := C) (by rw [cP]; rfl)
  replace cI : C.inl = fun _ => false := cI
  replace cR : C.rd = fun _ => none := cR
  replace cD : C.dyn = fun _ => [] := cD
  clear cP cN cF cA
  simp [Try.ntmps38, Try.results38, cSl, cp0, cI, cD, cR, rI, hc, idxI_iff]
end
end
end Go.Proofs.Ytegjbfcgbfnldaa
