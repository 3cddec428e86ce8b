/- Package space: what a space has, page by page; a page's change. Package space: Unmap, Protect, lay: what they leave. Package space: Make, Fork, Drop: what they leave. Package space: what each operation answers, and what it leaves. Package space: Make, Fork, Drop, Reclaim, Free: what they answer; deeds. Package space: a memory behind some deeds. slices.Sort of integers at this program. Package space: Spaces. Package space: other objects stay as they are; a memory among other objects. Package space: one space, as it is seen; loads and stores of a byte. -/
import Derived.Test.YtibpipgabcpaoaaSmD
import Derived.Test.YtibpipgabcpaoaaFacts
import Derived.Test.YtibpipgabcpaoaaSo
import Derived.Test.YtibpipgabcpaoaaAiZj
import Derived.Shelf.Sort.Plain
import Derived.Shelf.Slices.In.SortNone
import Derived.Test.YtibpipgabcpaoaaGD
import Derived.Test.YtibpipgabcpaoaaGE
namespace Go.Proofs.Ytibpipgabcpaoaa
open Go.AI
set_option linter.unusedSimpArgs false
set_option linter.unusedVariables false
section
set_option maxHeartbeats 2000000
set_option maxRecDepth 100000
set_option linter.unusedSimpArgs false
set_option linter.unusedVariables false
attribute [local simp] wpA wpX RunA RunD runF foot footP footB idsA bare apart runL step1 gsel_f gsel_t gsel_s res_same res_and1 res_and2 res_and3 res_and4 res_and5 res_and6 res_false res_true res_v res_ptr res_fptr res_osl res_xsl soft aAppendZ aCap ovlI ovlJ res_fsl res_esl res_agg res_tup res_fn res_junk res_anyb aPick hk imp_left iteV dstOk guardOk astep astepE AI.ev AI.look AI.put envOf aBox cellsOf allOne allOneA oneA Value.oneCell' Value.cells newObj' aFieldAddr aLoad obj readAt thenA blockA condA retA resA tupA view hot hotC hotR depthV cAgg cInt cBool mkAgg allV aAlloc aBuild fillA writeAt aStore isAggA aField idx aIndexAddr aIndex bnd aSlice aExtract aLen aBuiltin aCall isStatic eqAgg eqTy eqC ev_add ev_sub ev_mul ev_quo ev_rem ev_and ev_or ev_xor ev_andNot ev_shl ev_shr ev_eql ev_neq ev_lss ev_leq ev_gtr ev_geq ev_agg w64 wu32 wu8 ev_not ev_neg Cod.plain RCod.plain argM finM cold coldC coldR goInt intDec boolDec aggDec Weaker heapW lowA lowC Again slDec undef aBuildSlice setRows aAppend rowsOf aMakeSlice aClear aCopyX aCopy softer_self softer_nil valsOf ev_min2 ev_max2 hotR_set hotR_append take_map_set irow_cold irow_mapM irow_mapMc irow_view irow_viewc irow_hotR irow_ren irow_renc irow_low WeakT heapT thOf ren renC AgainT NextF NextT fnDec cFn rNil selfLt natLt0 natLt1 getLastMap frame0 frame1 own0 own1 argG finG tau tauI tauO tauC bareA bareC bareH irow_tau irow_tauc irow_bare irow_flat irow_bareR ownA_nil ownT_nil ownA_c ownT_c ownA_s ownT_s takeMapLen footC plainA noId noIdC cloneF frame0F frame1F insertF replaceI replaceF cellDec rCell fpDec cFp rTwo deleteF allV_oA oneA_oA res_oA RunR RunE runFT footAt hotR_cat tmodN aEqH aSliceA frameN newA newC newH fxSz3 fxBy3 fxAg3 fxZe3 fxSl3 fxSz4 fxAg4 fxSz5 fxBy5 fxAg5 fxZe5 fxSl22 fxAr22 fxSl23 fxAr23 fxAg24 fxSz31 fxAg31 fxZe31 fxSl31 fxAr31 fxSz34 fxAg34 fxAr35 fxSz37 fxAg37 fxZe37 fxFi37x0 fxFi37x1 fxFi37x2 fxPl37 fxSz38 fxAg38 fxZe38 fxAr38 fxSz47 fxAg47 fxZe47 fxFi47x0 fxPl47 fxZe51 fxFi51x0 fxFi51x1 fxPl51 fxAg55 fxSz56 fxAg56 fxSl56 fxAr56 fxZe58 fxFi58x0 fxFi58x1 fxFi58x2 fxFi58x3 fxFi58x4 fxPl58 fxSz62 fxAg62 fxZe62 fxFi62x0 fxFi62x1 fxFi62x2 fxFi62x3 fxPl62 fxZe65 fxSl67 fxAr67 fxSz72 fxAg72 fxZe72 fxSl72 fxAr72 fxPl72 fxSz74 fxZe74 fxFi74x0 fxFi74x1 fxFi74x2 fxFi74x3 fxPl74 fxSz75 fxBy75 fxAg75 fxZe75 fxSz79 fxAg79 fxZe79 fxFi79x0 fxFi79x1 fxPl79 fxEq47 fxCv3x5 fxCv3x34 fxCv3x70 fxCv3x100 fxCv5x34 fxCv34x3 fxCv34x5 fxCv34x112 fxCv70x3 fxCv100x34 fxCv112x3 fxLn31 fxLn56 fxFm4 fxFm5 fxFi5 fxFm6 fxFm7 fxFm8 fxFm9 fxFi9 fxFm10 fxFm11 fxFm12 fxFm13 fxFm14 fxFm15 fxFm16 fxFm17 fxFi17 fxFm18 fxFm19 fxFi19 fxFm20 fxFm21 fxFm22 fxFm23 fxFm24 fxFi24 fxFm25 fxFi25 fxFm26 fxFm27 fxFm28 fxFi28 fxFm29 fxFm30 fxFm31 fxFm32 fxFm33 fxFi33 fxFm34 fxFi34 fxFm35 fxFm36 fxFm37 fxFm38 fxFm39 fxFi39 fxFm40 fxFi40 fxFm41 fxFi41 fxFm42 fxFm45 fxFi45 fxFm46 fxFi46 fxFm47 fxFm48 fxFm49 fxFi49 fxFm50 fxFm51 fxFm52 fxFi52 fxFm64 fxFi64 fxFm87 fxFm88 fxFm89
section
set_option linter.unusedSimpArgs false
set_option linter.unusedVariables false
section
def vw (A : Ab) (s k : Int) : Option (List Int × Int) := (getK s A.sps).bind fun x => (getK k x.2).bind fun y => (getK y.1 A.lo.pgs).map fun q => (q.data, y.2)
def has (A : Ab) (s : Int) : Prop := (getK s A.sps).isSome = true
theorem has_key {A : Ab} {s : Int} : has A s ↔ s ∈ A.sps.map (·.1) := by
 unfold has
 constructor
 ·intro h
  refine Classical.byContradiction fun hn => ?_
  rw [getK_none.2 hn] at h
  cases h
 ·intro h
  cases e : getK s A.sps with
  | none => exact absurd h (getK_none.1 e)
  | some x => rfl
theorem vw_of {A : Ab} {s k : Int} {m : Nat} {es : En} {p : Nat} {rg : Int} {q : Pg} (h1 : getK s A.sps = some (m, es)) (h2 : getK k es = some (p, rg)) (h3 : getK p A.lo.pgs = some q) : vw A s k = some (q.data, rg) := by
 simp [vw, h1, h2, h3]
theorem vw_inv {A : Ab} {s k : Int} {d : List Int} {rg : Int} (h : vw A s k = some (d, rg)) : ∃ m es p q, getK s A.sps = some (m, es) ∧ getK k es = some (p, rg) ∧ getK p A.lo.pgs = some q ∧ q.data = d := by
 unfold vw at h
 simp only [Option.bind_eq_some_iff, Option.map_eq_some_iff, Prod.mk.injEq] at h
 obtain ⟨⟨m, es⟩, h1, ⟨p, rg'⟩, h2, q, h3, h4, h5⟩ := h
 simp only at h2 h3 h5
 subst h5
 exact ⟨m, es, p, q, h1, h2, h3, h4⟩
theorem vw_none {A : Ab} (g : Good A) {s k : Int} {m : Nat} {es : En} (h1 : getK s A.sps = some (m, es)) : vw A s k = none ↔ getK k es = none := by
 unfold vw
 rw [h1]
 simp only [Option.bind_some]
 cases h2 : getK k es with
 | none => simp
 | some y =>
  obtain ⟨p, rg⟩ := y
  obtain ⟨q, hq⟩ := g.page h1 h2
  simp [hq]
theorem vw_no {A : Ab} {s k : Int} (h1 : getK s A.sps = none) : vw A s k = none := by simp [vw, h1]
theorem vw_rg {A : Ab} (g : Good A) {s k : Int} {d : List Int} {rg : Int} (h : vw A s k = some (d, rg)) : (0 ≤ k ∧ k < 64) ∧ 0 ≤ rg ∧ rg ≤ 7 := by
 obtain ⟨m, es, p, q, h1, h2, h3, h4⟩ := vw_inv h
 exact g.key _ (getK_mem h1) _ (getK_mem h2)
theorem vw_eq {A A' : Ab} {s s' k : Int} (hs : (getK s' A'.sps).map (·.2) = (getK s A.sps).map (·.2)) (hp : ∀ m es p rg, getK s A.sps = some (m, es) → getK k es = some (p, rg) → (getK p A'.lo.pgs).map (·.data) = (getK p A.lo.pgs).map (·.data)) : vw A' s' k = vw A s k := by
 unfold vw
 cases h1 : getK s A.sps with
 | none =>
  rw [h1] at hs
  cases h2 : getK s' A'.sps with
  | none => rfl
  | some x => rw [h2] at hs; cases hs
 | some x =>
  rw [h1] at hs
  cases h2 : getK s' A'.sps with
  | none => rw [h2] at hs; cases hs
  | some x' =>
   rw [h2] at hs
   simp only [Option.map_some, Option.some.injEq] at hs
   obtain ⟨m, es⟩ := x
   obtain ⟨m', es'⟩ := x'
   simp only at hs
   subst hs
   simp only [Option.bind_some]
   cases h3 : getK k es' with
   | none => rfl
   | some y =>
    have := hp m es' y.1 y.2 h1 h3
    simp only [Option.bind_some]
    cases h4 : getK y.1 A.lo.pgs with
    | none =>
     rw [h4] at this
     cases h5 : getK y.1 A'.lo.pgs with
     | none => rfl
     | some q => rw [h5] at this; cases this
    | some q0 =>
     rw [h4] at this
     cases h5 : getK y.1 A'.lo.pgs with
     | none => rw [h5] at this; cases this
     | some q =>
      rw [h5] at this
      simp only [Option.map_some, Option.some.injEq] at this
      simp [this]
theorem Like.pg {L L' : Lo} (a : Like L L') (p : Nat) : (getK p L'.pgs).map (·.data) = (getK p L.pgs).map (·.data) := by
 cases h : getK p L.pgs with
 | some q =>
  obtain ⟨q', h1, h2, _⟩ := a.dt p q h
  rw [h1]; simp [h2]
 | none =>
  cases h2 : getK p L'.pgs with
  | none => rfl
  | some q' =>
   obtain ⟨q, h3, _⟩ := a.back h2
   rw [h] at h3; cases h3
theorem vw_like {A : Ab} {L' : Lo} (a : Like A.lo L') (s k : Int) : vw { A with lo := L' } s k = vw A s k := vw_eq rfl fun _ _ p _ _ _ => a.pg p
theorem alone {H : Heap} {mid : Nat} {A : Ab} (r : Rep H mid A) (g : Good A) {s k : Int} {m : Nat} {es : En} {p : Nat} {rg : Int} {q : Pg} (h1 : getK s A.sps = some (m, es)) (h2 : getK k es = some (p, rg)) (h3 : getK p A.lo.pgs = some q) (hu : q.users ≤ 1)
  {t j : Int} {m' : Nat} {es' : En} {p' : Nat} {rg' : Int} (h4 : getK t A.sps = some (m', es')) (h5 : getK j es' = some (p', rg')) (hne : ¬ (t = s ∧ j = k)) : p' ≠ p := by
 have hnd := r.ndk _ (getK_mem h1)
 have c1 := cntS_set (p := p) (m, delK k es) r.nds h1
 have c2 := cntE_del (p := p) hnd h2
 have hu2 := (g.users h3).1
 simp only [one_self] at c1 c2
 have hz := cntS_zero (p := p) (sps := setK s (m, delK k es) A.sps) (by omega)
 by_cases ht : t = s
 ·subst ht
  rw [h1] at h4
  cases h4
  have hj : j ≠ k := fun e => hne ⟨rfl, e⟩
  have e1 : getK t (setK t (m, delK k es) A.sps) = some (m, delK k es) := by rw [getK_setK, if_pos rfl, h1]; rfl
  have e2 : getK j (delK k es) = some (p', rg') := by rw [getK_delK, if_neg hj, h5]
  exact hz _ (getK_mem e1) _ (getK_mem e2)
 ·have e1 : getK t (setK s (m, delK k es) A.sps) = some (m', es') := by rw [getK_setK, if_neg ht, h4]
  exact hz _ (getK_mem e1) _ (getK_mem h5)
structure Eff (s : Int) (A A' : Ab) : Prop where
 fr : A'.lo.fr = A.lo.fr
 sl : A'.lo.sl = A.lo.sl
 ks : A'.sps.map (·.1) = A.sps.map (·.1)
 ot : ∀ t k, t ≠ s → vw A' t k = vw A t k
theorem Eff.refl (s : Int) (A : Ab) : Eff s A A := ⟨rfl, rfl, rfl, fun _ _ _ => rfl⟩
theorem Eff.trans {s : Int} {A B C : Ab} (a : Eff s A B) (b : Eff s B C) : Eff s A C := ⟨b.fr.trans a.fr, b.sl.trans a.sl, b.ks.trans a.ks, fun t k h => (b.ot t k h).trans (a.ot t k h)⟩
theorem Eff.like {A : Ab} {L' : Lo} (s : Int) (a : Like A.lo L') : Eff s A { A with lo := L' } := ⟨a.fr, a.sl, rfl, fun t k _ => vw_like a t k⟩
theorem Like.len {L L' : Lo} (a : Like L L') : L'.pgs.length = L.pgs.length := by have := congrArg List.length a.keys; simpa using this
def stS (mp : Nat) (s : Int) (A : Ab) (x : Ms) : Ab := ⟨x.L, setK s (mp, x.es) A.sps⟩
theorem putS_spec {mid mp : Nat} {k : Int} {d : List Int} {rg : Int} {x : Ms} {A : Ab} {s : Int} (h : RG mid (x.H, stS mp s A x)) (hs : ∃ e, getK s A.sps = some e) (hd : d.length = 16) (hr : (x.L.pgs.length : Int) + 1 ≤ x.L.fr + x.L.sl) (hk : getK k x.es = none) (hk2 : 0 ≤ k ∧ k < 64) (hg2 : 0 ≤ rg ∧ rg ≤ 7) :
  RG mid ((putS mid mp k d rg x).H, stS mp s A (putS mid mp k d rg x)) ∧ (∀ t j, vw (stS mp s A (putS mid mp k d rg x)) t j = if t = s ∧ j = k then some (d, rg) else vw (stS mp s A x) t j) ∧
   (putS mid mp k d rg x).L.fr = x.L.fr ∧ (putS mid mp k d rg x).L.sl = x.L.sl ∧ (putS mid mp k d rg x).L.pgs.length = x.L.pgs.length + 1 := by
 obtain ⟨r, g⟩ := h
 obtain ⟨e, he⟩ := hs
 have hle := r.st.wf.le
 simp only [stS] at hle
 have hf : ∀ p ∈ x.L.pgs.map (·.1), p < x.H.length := fun p => r.st.id_lt
 have hst := addL_lid (d := d) hf
 have hgs : getK s (setK s (mp, x.es) A.sps) = some (mp, x.es) := by rw [getK_setK, if_pos rfl, he]; rfl
 have hnew : getK k (x.es ++ [(k, (x.H.length + 1, rg))]) = some (x.H.length + 1, rg) := by rw [getK_app, hk]; simp
 have hnd := r.ndk _ (getK_mem hgs)
 have r2 := putS_rep (rg := rg) (k := k) (A := A) (s := s) r ⟨e, he⟩ hd (by omega) hk
 have hset : setK s (mp, x.es ++ [(k, (x.H.length + 1, rg))]) A.sps = setK s (mp, x.es ++ [(k, (x.H.length + 1, rg))]) (setK s (mp, x.es) A.sps) := (setK_setK _).symm
 refine ⟨⟨r2, ?_⟩, ?_, hst.2.2.1, hst.2.2.2.1, by simp only [putS]; exact addL_len hf⟩
 ·simp only [stS, putS]
  rw [hset]
  refine g.addE (n := x.H.length) r.st.wf hd hf (by simp only [stS]; exact hr) (fun p' => ?_) (fun y hy e2 he2 => ?_) fun y hy => ?_
  ·have h1 := cntS_set (p := p') (mp, x.es ++ [(k, (x.H.length + 1, rg))]) r.nds hgs
   have h2 : cntE p' (x.es ++ [(k, (x.H.length + 1, rg))]) = cntE p' x.es + one (x.H.length + 1 == p') := by rw [cntE_app, cntE_cons]; simp [cntE_nil]
   simp only [stS] at h1 ⊢
   omega
  ·rcases mem_setK hy with ⟨rfl, _⟩ | ⟨h1, _⟩
   ·rcases List.mem_append.1 he2 with h3 | h3
    ·exact .inl ⟨_, getK_mem hgs, h3⟩
    ·simp at h3
     subst h3
     exact .inr ⟨rfl, hk2, hg2⟩
   ·exact .inl ⟨y, h1, he2⟩
  ·rcases mem_setK hy with ⟨rfl, _⟩ | ⟨h1, _⟩
   ·exact g.num (s, (mp, x.es)) (getK_mem hgs)
   ·exact g.num y h1
 ·intro t j
  have hpg : ∀ p, p < x.H.length + 1 → (getK p (x.L.addL x.H.length d).pgs).map (·.data) = (getK p x.L.pgs).map (·.data) := fun p hp => by
   cases h : getK p x.L.pgs with
   | some q =>
    obtain ⟨q', h1, h2, _⟩ := (addL_get (d := d) hf).2 p q h
    rw [h1]; simp [h2]
   | none =>
    cases h2 : getK p (x.L.addL x.H.length d).pgs with
    | none => rfl
    | some q' =>
     rcases addL_back hf h2 with ⟨h3, _⟩ | ⟨_, q, h3, _⟩
     ·omega
     ·rw [h] at h3; cases h3
  by_cases ht : t = s
  ·subst ht
   have hg1 : getK t (setK t (mp, x.es ++ [(k, (x.H.length + 1, rg))]) A.sps) = some (mp, x.es ++ [(k, (x.H.length + 1, rg))]) := by rw [getK_setK, if_pos rfl, he]; rfl
   by_cases hj : j = k
   ·subst hj
    rw [if_pos ⟨rfl, rfl⟩]
    obtain ⟨⟨q', hq1, hq2, _⟩, _⟩ := addL_get (d := d) hf
    have := vw_of (A := stS mp t A (putS mid mp j d rg x)) hg1 hnew hq1
    rw [this, hq2]
   ·rw [if_neg (fun e => hj e.2)]
    unfold vw
    simp only [stS, putS]
    rw [hg1, hgs]
    simp only [Option.bind_some]
    have h6 : getK j (x.es ++ [(k, (x.H.length + 1, rg))]) = getK j x.es := by
     rw [getK_app]
     cases getK j x.es with
     | some y => rfl
     | none => simp only; rw [if_neg (fun e => hj e.symm)]
    rw [h6]
    cases h7 : getK j x.es with
    | none => rfl
    | some y =>
     obtain ⟨p, rg'⟩ := y
     obtain ⟨q, hq⟩ := g.page hgs h7
     simp only [Option.bind_some]
     have h8 := hpg p (by have := hf p (List.mem_map.2 ⟨_, getK_mem hq, rfl⟩); omega)
     replace hq : getK p x.L.pgs = some q := hq
     rw [hq] at h8 ⊢
     cases h9 : getK p (x.L.addL x.H.length d).pgs with
     | none => rw [h9] at h8; cases h8
     | some q' =>
      rw [h9] at h8
      simp only [Option.map_some, Option.some.injEq] at h8
      simp [h8]
  ·rw [if_neg (fun e => ht e.1)]
   refine vw_eq ?_ fun m es p rg' h1 h2 => ?_
   ·simp only [stS, putS]
    rw [getK_setK, if_neg ht, getK_setK, if_neg ht]
   ·obtain ⟨q, hq⟩ := g.page h1 h2
    exact hpg p (by have := hf p (List.mem_map.2 ⟨_, getK_mem hq, rfl⟩); omega)
theorem mapS_spec {mid mp : Nat} {first rg : Int} {x : Ms} {A : Ab} {s : Int} (h : RG mid (x.H, stS mp s A x)) (hs : ∃ e, getK s A.sps = some e) (h0 : 0 ≤ first) (hg2 : 0 ≤ rg ∧ rg ≤ 7) : ∀ (j : Nat), first + j ≤ 64 → (x.L.pgs.length : Int) + j ≤ x.L.fr + x.L.sl → (∀ i : Nat, i < j → getK (first + (i : Nat)) x.es = none) →
  RG mid ((mapS mid mp first rg x j).H, stS mp s A (mapS mid mp first rg x j)) ∧ (∀ t k, vw (stS mp s A (mapS mid mp first rg x j)) t k = if t = s ∧ first ≤ k ∧ k < first + j then some (z16, rg) else vw (stS mp s A x) t k) ∧
   (mapS mid mp first rg x j).L.fr = x.L.fr ∧ (mapS mid mp first rg x j).L.sl = x.L.sl ∧ (mapS mid mp first rg x j).L.pgs.length = x.L.pgs.length + j
 | 0, _, _, _ => ⟨h, fun t k => by rw [if_neg (by simp only [Int.natCast_zero, Int.ofNat_zero]; omega)]; rfl, rfl, rfl, rfl⟩
 | j + 1, hj, hl, hno => by
  obtain ⟨r1, v1, f1, f2, f3⟩ := mapS_spec h hs h0 hg2 j (by omega) (by omega) (fun i hi => hno i (by omega))
  obtain ⟨e, he⟩ := hs
  have hk : getK (first + (j : Nat)) (mapS mid mp first rg x j).es = none := by
   have hv := v1 s (first + (j : Nat))
   rw [if_neg (by omega)] at hv
   have hg1 : getK s (stS mp s A x).sps = some (mp, x.es) := by simp only [stS]; rw [getK_setK, if_pos rfl, he]; rfl
   have hg2 : getK s (stS mp s A (mapS mid mp first rg x j)).sps = some (mp, (mapS mid mp first rg x j).es) := by simp only [stS]; rw [getK_setK, if_pos rfl, he]; rfl
   rw [(vw_none h.2 hg1).2 (hno j (by omega))] at hv
   exact (vw_none r1.2 hg2).1 hv
  obtain ⟨r2, v2, e1, e2, e3⟩ := putS_spec (d := z16) (rg := rg) (k := first + (j : Nat)) r1 ⟨e, he⟩ rfl (by omega) hk (by omega) hg2
  refine ⟨r2, fun t k => ?_, e1.trans f1, e2.trans f2, by simp only [mapS]; omega⟩
  simp only [mapS]
  rw [v2, v1]
  by_cases c1 : t = s ∧ k = first + (j : Nat)
  ·rw [if_pos c1, if_pos (by omega)]
  ·rw [if_neg c1]
   by_cases c2 : t = s ∧ first ≤ k ∧ k < first + (j : Nat)
   ·rw [if_pos c2, if_pos (by omega)]
   ·rw [if_neg c2, if_neg (by omega)]
end
section
def enK (A : Ab) (t j : Int) : Option (Nat × Int) := (getK t A.sps).bind fun x => getK j x.2
theorem enK_of {A : Ab} {t j : Int} {m : Nat} {es : En} (h : getK t A.sps = some (m, es)) : enK A t j = getK j es := by simp [enK, h]
theorem enK_get {A : Ab} {t j : Int} {y : Nat × Int} (h : enK A t j = some y) : ∃ m es, getK t A.sps = some (m, es) ∧ getK j es = some y := by
 unfold enK at h
 simp only [Option.bind_eq_some_iff] at h
 obtain ⟨⟨m, es⟩, h1, h2⟩ := h
 exact ⟨m, es, h1, h2⟩
theorem vw_en {A : Ab} {t j : Int} : vw A t j = (enK A t j).bind fun y => (getK y.1 A.lo.pgs).map fun q => (q.data, y.2) := by
 unfold vw enK
 cases getK t A.sps <;> rfl
theorem vw_back {A A' : Ab} {t j : Int} (g' : Good A') (he : enK A' t j = enK A t j) (hb : ∀ p rg q', enK A t j = some (p, rg) → getK p A'.lo.pgs = some q' → ∃ q, getK p A.lo.pgs = some q ∧ q.data = q'.data) : vw A' t j = vw A t j := by
 rw [vw_en, vw_en, he]
 cases h : enK A t j with
 | none => rfl
 | some y =>
  obtain ⟨p, rg⟩ := y
  rw [h] at he
  obtain ⟨m, es, h1, h2⟩ := enK_get he
  obtain ⟨q', hq'⟩ := g'.page h1 h2
  obtain ⟨q, hq, hd⟩ := hb p rg q' h hq'
  simp only [Option.bind_some]
  rw [hq, hq']
  simp [hd]
theorem copyX_spec {mid : Nat} {s k : Int} {X : Heap × Ab} (h : RG mid X) (hc : RG mid (copyX mid s k X)) : (∀ t j, vw (copyX mid s k X).2 t j = vw X.2 t j) ∧ (copyX mid s k X).2.lo.fr = X.2.lo.fr ∧ (copyX mid s k X).2.lo.sl = X.2.lo.sl ∧ (copyX mid s k X).2.sps.map (·.1) = X.2.sps.map (·.1) ∧
  ∀ p rg q, enK (copyX mid s k X).2 s k = some (p, rg) → getK p (copyX mid s k X).2.lo.pgs = some q → q.users ≤ 1 := by
 obtain ⟨r, g⟩ := h
 unfold copyX at hc ⊢
 cases hg : getK s X.2.sps with
 | none =>
  refine ⟨fun _ _ => rfl, rfl, rfl, rfl, fun p rg q h1 _ => ?_⟩
  simp [enK, hg] at h1
 | some x =>
  obtain ⟨m, es⟩ := x
  simp only [hg] at hc ⊢
  cases hk : getK k es with
  | none =>
   refine ⟨fun _ _ => rfl, rfl, rfl, rfl, fun p rg q h1 _ => ?_⟩
   simp [enK, hg, hk] at h1
  | some y =>
   obtain ⟨p, rg⟩ := y
   obtain ⟨q, hq⟩ := g.page hg hk
   simp only [hk, hq] at hc ⊢
   split
   case isFalse hu =>
    refine ⟨fun _ _ => rfl, rfl, rfl, rfl, fun p' rg' q' h1 h2 => ?_⟩
    rw [enK_of hg, hk] at h1
    cases h1
    simp only at h2
    rw [hq] at h2
    cases h2
    omega
   rename_i hu
   rw [if_pos hu] at hc
   have g' := hc.2
   simp only at g'
   have hst : ∀ x ∈ (X.2.lo.setP p (lessU q)).pgs.map (·.1), x < X.1.length + 1 := fun x hx => by simp only [Lo.setP, setK_keys] at hx; have := r.st.id_lt hx; omega
   obtain ⟨s1, s2, s3, s4, s5⟩ := addL_lid (d := q.data) hst
   have hgs : getK s (setK s (m, setK k (X.1.length + 2, rg) es) X.2.sps) = some (m, setK k (X.1.length + 2, rg) es) := by rw [getK_setK, if_pos rfl, hg]; rfl
   have hgk : getK k (setK k (X.1.length + 2, rg) es) = some (X.1.length + 2, rg) := by rw [getK_setK, if_pos rfl, hk]; rfl
   obtain ⟨⟨q2, hq2, hqd2, hqu2⟩, _⟩ := addL_get (d := q.data) hst
   refine ⟨fun t j => ?_, s3, s4, setK_keys _, fun p' rg' q' h1 h2 => ?_⟩
   ·by_cases hc : t = s ∧ j = k
    ·obtain ⟨rfl, rfl⟩ := hc
     have e1 := @vw_of ⟨(X.2.lo.setP p (lessU q)).addL (X.1.length + 1) q.data, setK t (m, setK j (X.1.length + 2, rg) es) X.2.sps⟩ t j m _ _ _ _ hgs hgk hq2
     refine Eq.trans e1 ?_
     rw [vw_of hg hk hq, hqd2]
    ·refine vw_back g' ?_ fun p' rg' q' h1 h2 => ?_
     ·by_cases ht : t = s
      ·subst ht
       rw [enK_of hgs, enK_of hg, getK_setK, if_neg (fun e => hc ⟨rfl, e⟩)]
      ·unfold enK
       simp only
       rw [getK_setK, if_neg ht]
     ·obtain ⟨m', es', k1, k2⟩ := enK_get h1
      obtain ⟨q0, hq0⟩ := g.page k1 k2
      have hp' := r.st.id_lt (List.mem_map.2 ⟨_, getK_mem hq0, rfl⟩)
      simp only at hp'
      rcases addL_back hst h2 with ⟨rfl, _, _⟩ | ⟨_, q1, m1, m2, m3⟩
      ·omega
      ·refine ⟨q0, hq0, ?_⟩
       simp only [Lo.setP, getK_setK] at m1
       split at m1
       ·rename_i e
        subst e
        rw [hq] at m1 hq0
        cases m1; cases hq0
        rw [m2]; rfl
       ·rw [hq0] at m1
        cases m1
        rw [m2]
   ·rw [enK_of hgs, hgk] at h1
    cases h1
    simp only at h2
    replace h2 : getK (X.1.length + 1 + 1) _ = some q' := h2
    rw [hq2] at h2
    cases h2
    omega
theorem putX_spec {mid : Nat} {s k b : Int} {tt : Nat} {X : Heap × Ab} (h : RG mid X) (hu : ∀ p rg q, enK X.2 s k = some (p, rg) → getK p X.2.lo.pgs = some q → q.users ≤ 1) :
  (∀ t j, vw (putX mid s k tt b X).2 t j = if t = s ∧ j = k then (vw X.2 s k).map (fun x => (x.1.set tt b, x.2)) else vw X.2 t j) ∧ (putX mid s k tt b X).2.lo.fr = X.2.lo.fr ∧ (putX mid s k tt b X).2.lo.sl = X.2.lo.sl ∧ (putX mid s k tt b X).2.sps = X.2.sps := by
 have h' := putX_rg (s := s) (k := k) (t := tt) (b := b) h
 obtain ⟨r, g⟩ := h
 have g' := h'.2
 have nochange : vw X.2 s k = none → ∀ t j, vw X.2 t j = if t = s ∧ j = k then (vw X.2 s k).map (fun x => (x.1.set tt b, x.2)) else vw X.2 t j := fun h t j => by
  split
  ·rename_i e
   rw [e.1, e.2, h]; rfl
  ·rfl
 unfold putX at g' ⊢
 cases hg : getK s X.2.sps with
 | none => exact ⟨nochange (vw_no hg), rfl, rfl, rfl⟩
 | some x =>
  obtain ⟨m, es⟩ := x
  simp only [hg] at g' ⊢
  cases hk : getK k es with
  | none => exact ⟨nochange ((vw_none g hg).2 hk), rfl, rfl, rfl⟩
  | some y =>
   obtain ⟨p, rg⟩ := y
   obtain ⟨q, hq⟩ := g.page hg hk
   simp only [hk, hq] at g' ⊢
   have lk : Like X.2.lo (X.2.lo.ask p q) := Like.ask hq
   obtain ⟨q', hq', hd', hu'⟩ := lk.dt p q hq
   simp only [hq'] at g' ⊢
   have hset : getK p (Lo.setP p { q' with data := q'.data.set tt b } (X.2.lo.ask p q)).pgs = some { q' with data := q'.data.set tt b } := by
    simp only [Lo.setP, getK_setK, if_true, hq']; rfl
   refine ⟨fun t j => ?_, lk.fr, lk.sl, trivial⟩
   split
   ·rename_i e
    obtain ⟨rfl, rfl⟩ := e
    have e1 := @vw_of ⟨(X.2.lo.ask p q).setP p { q' with data := q'.data.set tt b }, X.2.sps⟩ t j m es p rg _ hg hk hset
    refine Eq.trans e1 ?_
    rw [vw_of hg hk hq]
    simp [hd']
   ·rename_i hne
    refine vw_back g' rfl fun p' rg' q1 h1 h2 => ?_
    obtain ⟨m', es', k1, k2⟩ := enK_get h1
    have hpp : p' ≠ p := alone r g hg hk hq (hu p rg q (by rw [enK_of hg, hk]) hq) k1 k2 hne
    simp only [Lo.setP, getK_setK, if_neg hpp] at h2
    obtain ⟨q2, m1, m2, _⟩ := lk.back h2
    exact ⟨q2, m1, m2.symm⟩
def patN (k addr : Int) (d : List Int) : Nat → List Int → List Int
 | 0, x => x
 | j + 1, x => if (addr + (j : Nat)) / 16 = k then (patN k addr d j x).set ((addr + (j : Nat)) % 16).toNat ((d[j]?).getD 0) else patN k addr d j x
theorem layN_spec {mid mp n : Nat} {s addr : Int} {d : List Int} {es : En} {X : Heap × Ab} (h : LayI mid mp s addr n 0 es X X) (h0 : 0 ≤ addr) : ∀ i, i ≤ n → (∀ t j, vw (layN mid s addr d X i).2 t j = if t = s then (vw X.2 s j).map (fun x => (patN j addr d i x.1, x.2)) else vw X.2 t j) ∧ (layN mid s addr d X i).2.lo.fr = X.2.lo.fr ∧ (layN mid s addr d X i).2.lo.sl = X.2.lo.sl ∧ (layN mid s addr d X i).2.sps.map (·.1) = X.2.sps.map (·.1)
 | 0, _ => ⟨fun t j => by
   split
   ·rename_i e
    rw [e]
    show vw X.2 s j = _
    cases vw X.2 s j <;> simp [patN]
   ·rfl, rfl, rfl, rfl⟩
 | i + 1, hi => by
  obtain ⟨v1, f1, f2, f3⟩ := layN_spec (d := d) h h0 i (by omega)
  have ik := layN_inv (d := d) h h0 i (by omega)
  have hc := ik.copy h0 (by omega)
  obtain ⟨v2, a1, a2, a3, a4⟩ := copyX_spec ik.rg hc
  obtain ⟨v3, b1, b2, b3⟩ := putX_spec (tt := ((addr + (i : Nat)) % 16).toNat) (b := (d[i]?).getD 0) hc a4
  refine ⟨fun t j => ?_, (b1.trans a1).trans f1, (b2.trans a2).trans f2, ?_⟩
  ·show vw (layX mid s ((addr + (i : Nat)) / 16) ((addr + (i : Nat)) % 16).toNat ((d[i]?).getD 0) (layN mid s addr d X i)).2 t j = _
   unfold layX
   rw [v3, v2, v2, v1, v1]
   by_cases ht : t = s
   ·subst ht
    simp only [true_and, if_true]
    by_cases hj : j = (addr + (i : Nat)) / 16
    ·subst hj
     rw [if_pos rfl]
     cases vw X.2 t ((addr + (i : Nat)) / 16) with
     | none => rfl
     | some x => simp [patN]
    ·rw [if_neg hj]
     cases vw X.2 t j with
     | none => rfl
     | some x =>
      simp only [Option.map_some, patN]
      rw [if_neg (fun e => hj e.symm)]
   ·rw [if_neg (fun e => ht e.1), if_neg ht, if_neg ht]
  ·show (putX mid s _ _ _ (copyX mid s _ (layN mid s addr d X i))).2.sps.map (·.1) = _
   rw [b3, a3, f3]
end
section
theorem freeF_range {ks : List Int} {to : Int} : ∀ {m : Nat} {s : Int}, freeF ks s m = some to → s ≤ to ∧ to < s + m ∧ to ∉ ks ∧ ∀ j, s ≤ j → j < to → j ∈ ks
 | m + 1, s, h => by
  unfold freeF at h
  split at h
  ·rename_i hm
   obtain ⟨h1, h2, h3, h4⟩ := freeF_range h
   refine ⟨by omega, by push_cast; omega, h3, fun j hj hjt => ?_⟩
   by_cases e : j = s
   ·rw [e]; exact hm
   ·exact h4 j (by omega) hjt
  ·rename_i hn
   cases h
   exact ⟨by omega, by push_cast; omega, hn, fun j h1 h2 => by omega⟩
theorem Rep.more {H H' : Heap} {mid n : Nat} {A : Ab} {L' : Lo} {s : Int} {es : En} (r : Rep H mid A) (st : St H' mid L') (hsid : L'.sid = A.lo.sid) (hs : s ∉ A.sps.map (·.1)) (hn : H.length ≤ n) (h1 : H'[A.lo.sid]? = some (some (0, (A.sps ++ [(s, (n, es))]).map spRow))) (h2 : H'[n]? = some (some (0, es.map enRow)))
  (hk : ∀ x ∈ A.sps, H'[x.2.1]? = H[x.2.1]?) (hes : (es.map (·.1)).Nodup) : Rep H' mid ⟨L', A.sps ++ [(s, (n, es))]⟩ := by
 have hlt : ∀ x ∈ A.sps, x.2.1 < n := fun x hx => by
  have := (List.getElem?_eq_some_iff.1 (r.en x hx)).1
  omega
 have hsl := (List.getElem?_eq_some_iff.1 r.sp).1
 refine ⟨st, by rw [hsid]; exact h1, fun x hx => ?_, ?_, ?_, fun x hx => ?_⟩
 ·rcases List.mem_append.1 hx with h | h
  ·rw [hk x h]; exact r.en x h
  ·simp at h
   subst h
   exact h2
 ·rw [List.map_append, List.nodup_append]
  refine ⟨r.nds, by simp, fun a ha b hb => ?_⟩
  simp at hb
  subst hb
  rintro rfl
  exact hs ha
 ·show (L'.sid :: (A.sps ++ [(s, (n, es))]).map (·.2.1)).Nodup
  rw [hsid, List.map_append, ← List.cons_append, List.nodup_append]
  refine ⟨r.ndm, by simp, fun a ha b hb => ?_⟩
  simp at hb
  subst hb
  rintro rfl
  rcases List.mem_cons.1 ha with h | h
  ·omega
  ·obtain ⟨x, hx, e⟩ := List.mem_map.1 h
   have := hlt x hx
   omega
 ·rcases List.mem_append.1 hx with h | h
  ·exact r.ndk x h
  ·simp at h
   subst h
   exact hes
def addA (L' : Lo) (A : Ab) (s : Int) (n : Nat) (es : En) : Ab := ⟨L', A.sps ++ [(s, (n, es))]⟩
theorem get_more {A : Ab} {s t : Int} {n : Nat} {es : En} (hs : s ∉ A.sps.map (·.1)) : getK t (A.sps ++ [(s, (n, es))]) = if t = s then some (n, es) else getK t A.sps := by
 rw [getK_app]
 split
 ·rename_i x hx
  rw [if_neg, hx]
  rintro rfl
  rw [getK_none.2 hs] at hx; cases hx
 ·rename_i hx
  by_cases h : t = s
  ·subst h; simp
  ·rw [if_neg (fun e => h e.symm), if_neg h, hx]
theorem make_spec {H : Heap} {mid : Nat} {A : Ab} (h : RG mid (H, A)) {s : Int} (hf : freeF (A.sps.map (·.1)) 1 16 = some s) :
  RG mid ((H ++ [some (0, [])]).set A.lo.sid (some (0, (A.sps.map (fun x : Int × (Nat × En) => (x.1, x.2.1)) ++ [(s, H.length)]).map mRow)), addA A.lo A s H.length []) ∧ ∀ t j, t ≠ s → vw (addA A.lo A s H.length []) t j = vw A t j := by
 have r : Rep H mid A := h.1
 have g : Good A := h.2
 obtain ⟨f1, f2, f3, f4⟩ := freeF_range hf
 have hsl := (List.getElem?_eq_some_iff.1 r.sp).1
 have hrows : (A.sps.map (fun x : Int × (Nat × En) => (x.1, x.2.1)) ++ [(s, H.length)]).map mRow = (A.sps ++ [(s, (H.length, ([] : En)))]).map spRow := by
  rw [List.map_append, List.map_append, List.map_map]; rfl
 refine ⟨⟨r.more (r.st.app.set_ne r.freeS) rfl f3 (Nat.le_refl _) ?_ ?_ (fun x hx => ?_) (by simp), ?_⟩, fun t j ht => ?_⟩
 ·rw [hrows, List.getElem?_set_self (by simp; omega)]
 ·rw [List.getElem?_set_ne (by omega), List.getElem?_append_right (Nat.le_refl _)]; simp
 ·have h1 := (List.getElem?_eq_some_iff.1 (r.en x hx)).1
  rw [List.getElem?_set_ne, List.getElem?_append_left h1]
  intro e
  have := r.ndm
  rw [List.nodup_cons] at this
  exact this.1 (List.mem_map.2 ⟨x, hx, e.symm⟩)
 ·refine Good.mk2 r.st.wf.nd (fun p q hq => ?_) (fun x hx e he => ?_) (fun x hx e he => ?_) (fun x hx => ?_) g.room
  ·have := g.users hq
   simp only [addA, cntS_app, cntS_cons, cntE_nil]
   have e0 : cntS p [] = 0 := rfl
   omega
  ·rcases List.mem_append.1 hx with h | h
   ·exact g.has h he
   ·simp at h
    subst h
    simp at he
  ·rcases List.mem_append.1 hx with h | h
   ·exact g.key x h e he
   ·simp at h
    subst h
    simp at he
  ·rcases List.mem_append.1 hx with h | h
   ·exact g.num x h
   ·simp at h
    subst h
    simp only; omega
 ·refine vw_eq ?_ fun _ _ _ _ _ _ => rfl
  simp only [addA]
  rw [get_more f3, if_neg ht]
theorem fork_spec {H : Heap} {mid : Nat} {A : Ab} (h : RG mid (H, A)) {s to : Int} {m : Nat} {es : En} (hg : getK s A.sps = some (m, es)) (hf : freeF (A.sps.map (·.1)) 1 16 = some to) :
  RG mid (wr (H.set A.lo.sid (some (0, (A.sps.map (fun x : Int × (Nat × En) => (x.1, x.2.1)) ++ [(to, H.length)]).map mRow)) ++ (some (0, es.map enRow) :: List.replicate (es.length + 1) none)) mid (A.lo.up fun p => cntE p es), addA (A.lo.up fun p => cntE p es) A to H.length es) ∧
   ∀ t j, vw (addA (A.lo.up fun p => cntE p es) A to H.length es) t j = if t = to then vw A s j else vw A t j := by
 have r : Rep H mid A := h.1
 have g : Good A := h.2
 obtain ⟨f1, f2, f3, f4⟩ := freeF_range hf
 have hsl := (List.getElem?_eq_some_iff.1 r.sp).1
 have hrows : (A.sps.map (fun x : Int × (Nat × En) => (x.1, x.2.1)) ++ [(to, H.length)]).map mRow = (A.sps ++ [(to, (H.length, es))]).map spRow := by
  rw [List.map_append, List.map_append, List.map_map]; rfl
 have hst : St (wr (H.set A.lo.sid (some (0, (A.sps.map (fun x : Int × (Nat × En) => (x.1, x.2.1)) ++ [(to, H.length)]).map mRow)) ++ (some (0, es.map enRow) :: List.replicate (es.length + 1) none)) mid (A.lo.up fun p => cntE p es)) mid (A.lo.up fun p => cntE p es) :=
  St.ofwr r.st.wf.up fun i x hx => by
   have := Less.up.lt r.st i x hx
   simp; omega
 have hup : ∀ p, (getK p (A.lo.up fun p => cntE p es).pgs).map (·.data) = (getK p A.lo.pgs).map (·.data) := fun p => by
  rw [up_get]
  cases getK p A.lo.pgs <;> rfl
 refine ⟨⟨r.more hst rfl f3 (Nat.le_refl _) ?_ ?_ (fun x hx => ?_) (r.ndk _ (getK_mem hg)), ?_⟩, fun t j => ?_⟩
 ·rw [wr_ne (Less.up _ r.freeS), List.getElem?_append_left (by simpa using hsl), hrows, List.getElem?_set_self hsl]
 ·rw [wr_ne (Less.up _ (r.st.lt_none (Nat.le_refl _))), List.getElem?_append_right (by simp)]
  simp
 ·have h1 := (List.getElem?_eq_some_iff.1 (r.en x hx)).1
  rw [wr_ne (Less.up _ (r.freeE hx)), List.getElem?_append_left (by simpa using h1), List.getElem?_set_ne]
  intro e
  have := r.ndm
  rw [List.nodup_cons] at this
  exact this.1 (List.mem_map.2 ⟨x, hx, e.symm⟩)
 ·refine Good.mk2 ?_ (fun p q hq => ?_) (fun x hx e he => ?_) (fun x hx e he => ?_) (fun x hx => ?_) ?_
  ·simp only [addA]
   rw [up_keys]; exact r.st.wf.nd
  ·simp only [addA] at hq ⊢
   rw [up_get] at hq
   obtain ⟨q0, h0, rfl⟩ := Option.map_eq_some_iff.1 hq
   have := g.users h0
   simp only [cntS_app, cntS_cons]
   have e0 : cntS p [] = 0 := rfl
   push_cast
   omega
  ·have : ∃ q, getK e.2.1 A.lo.pgs = some q := by
    rcases List.mem_append.1 hx with h | h
    ·exact g.has h he
    ·simp at h
     subst h
     exact g.has (getK_mem hg) he
   obtain ⟨q, hq⟩ := this
   simp only [addA]
   rw [up_get, hq]
   exact ⟨_, rfl⟩
  ·rcases List.mem_append.1 hx with h | h
   ·exact g.key x h e he
   ·simp at h
    subst h
    exact g.key _ (getK_mem hg) e he
  ·rcases List.mem_append.1 hx with h | h
   ·exact g.num x h
   ·simp at h
    subst h
    simp only; omega
  ·simp only [addA]
   rw [up_len]
   exact g.room
 ·split
  ·rename_i e
   refine vw_eq ?_ fun _ _ p _ _ _ => hup p
   simp only [addA]
   rw [get_more f3, if_pos e, hg]; rfl
  ·rename_i ht
   refine vw_eq ?_ fun _ _ p _ _ _ => hup p
   simp only [addA]
   rw [get_more f3, if_neg ht]
theorem drop_spec {H : Heap} {mid : Nat} {A : Ab} (h : RG mid (H, A)) {s : Int} {m : Nat} {es : En} (hg : getK s A.sps = some (m, es)) :
  RG mid (wr (((killH H mid A.lo (A.lo.dn fun p => cntE p es)).set m none).set A.lo.sid (some (0, (delK s A.sps).map spRow)) ++ List.replicate (1 + 2 * es.length) none) mid (A.lo.dn fun p => cntE p es), ⟨A.lo.dn fun p => cntE p es, delK s A.sps⟩) ∧
   ∀ t j, vw ⟨A.lo.dn fun p => cntE p es, delK s A.sps⟩ t j = if t = s then none else vw A t j := by
 have r : Rep H mid A := h.1
 have g : Good A := h.2
 have hsl := (List.getElem?_eq_some_iff.1 r.sp).1
 have hm := getK_mem hg
 have hml := (List.getElem?_eq_some_iff.1 (r.en _ hm)).1
 have hst : St (wr (((killH H mid A.lo (A.lo.dn fun p => cntE p es)).set m none).set A.lo.sid (some (0, (delK s A.sps).map spRow)) ++ List.replicate (1 + 2 * es.length) none) mid (A.lo.dn fun p => cntE p es)) mid (A.lo.dn fun p => cntE p es) :=
  St.ofwr r.st.wf.dn fun i x hx => by
   have := Less.dn.lt r.st i x hx
   simp [killH_len]; omega
 have hcnt : ∀ p, cntS p (delK s A.sps) + cntE p es = cntS p A.sps := fun p => cntS_del r.nds hg
 have hsid : ∀ x ∈ A.sps, A.lo.sid ≠ x.2.1 := fun x hx e => by
  have := r.ndm
  rw [List.nodup_cons] at this
  exact this.1 (List.mem_map.2 ⟨x, hx, e.symm⟩)
 have hne : ∀ x ∈ A.sps, x.1 ≠ s → m ≠ x.2.1 := fun x hx hxs e => by
  have hnd := r.ndm
  rw [List.nodup_cons] at hnd
  obtain ⟨i, hi, hi2⟩ := List.mem_iff_getElem.1 hx
  obtain ⟨j, hj, hj2⟩ := List.mem_iff_getElem.1 hm
  have e1 : (A.sps.map (·.2.1))[i]'(by simpa using hi) = (A.sps.map (·.2.1))[j]'(by simpa using hj) := by simp [hi2, hj2, e]
  have := (List.getElem_inj hnd.2).1 e1
  subst this
  rw [hi2] at hj2
  rw [hj2] at hxs
  exact hxs rfl
 have hg' : Good ⟨A.lo.dn fun p => cntE p es, delK s A.sps⟩ := by
  refine Good.mk2 (r.st.wf.nd.sublist dn_sub) (fun p q hq => ?_) (fun x hx e he => ?_) (fun x hx e he => g.key x (mem_delK hx).1 e he) (fun x hx => g.num x (mem_delK hx).1) ?_
  ·simp only at hq
   rw [dn_get r.st.wf.nd] at hq
   obtain ⟨q0, h0, h1⟩ := Option.bind_eq_some_iff.1 hq
   split at h1
   ·cases h1
   ·rename_i h2
    cases h1
    have := g.users h0
    have := hcnt p
    simp only
    omega
  ·obtain ⟨q, hq⟩ := g.has (mem_delK hx).1 he
   simp only
   rw [dn_get r.st.wf.nd, hq]
   simp only [Option.bind_some]
   have h1 := (g.users hq).1
   have h2 := hcnt e.2.1
   have h3 : 1 ≤ cntS e.2.1 (delK s A.sps) := by
    refine cntS_pos (s := x.1) (k := e.1) (rg := e.2.2) (m := x.2.1) (es := x.2.2) (delK_nodup r.nds) (getK_of (delK_nodup r.nds) hx) (getK_of (r.ndk x (mem_delK hx).1) he)
   rw [if_neg (by omega)]
   exact ⟨_, rfl⟩
  ·have h1 := dn_len (c := fun p => cntE p es) (L := A.lo)
   have h2 := g.room
   simp only [Lo.dn] at h1 ⊢
   omega
 refine ⟨⟨⟨hst, ?_, fun x hx => ?_, delK_nodup r.nds, ?_, fun x hx => r.ndk x (mem_delK hx).1⟩, hg'⟩, fun t j => ?_⟩
 ·show (wr _ mid _)[A.lo.sid]? = _
  rw [wr_ne (Less.dn _ r.freeS), List.getElem?_append_left (by simp [killH_len]; omega), List.getElem?_set_self (by simp [killH_len]; omega)]
 ·obtain ⟨hx1, hx2⟩ := mem_delK hx
  have hxl := (List.getElem?_eq_some_iff.1 (r.en x hx1)).1
  have hc := r.freeE hx1
  show (wr _ mid _)[x.2.1]? = _
  rw [wr_ne (Less.dn _ hc), List.getElem?_append_left (by simp [killH_len]; omega), List.getElem?_set_ne (hsid x hx1), List.getElem?_set_ne (hne x hx1 hx2), killH_get hxl, hc]
  simp
  exact r.en x hx1
 ·have := r.ndm
  rw [List.nodup_cons] at this ⊢
  have hsub : ((delK s A.sps).map (·.2.1)).Sublist (A.sps.map (·.2.1)) := List.filter_sublist.map _
  exact ⟨fun h => this.1 (hsub.subset h), this.2.sublist hsub⟩
 ·split
  ·rename_i e
   refine vw_no ?_
   simp only
   rw [getK_delK, if_pos e]
  ·rename_i ht
   refine vw_back hg' ?_ fun p rg q' h1 h2 => ?_
   ·unfold enK
    simp only
    rw [getK_delK, if_neg ht]
   ·simp only at h2
    rw [dn_get r.st.wf.nd] at h2
    obtain ⟨q0, h0, h3⟩ := Option.bind_eq_some_iff.1 h2
    split at h3
    ·cases h3
    ·cases h3
     exact ⟨q0, h0, rfl⟩
end
section
theorem rg_at {H : Heap} {mid : Nat} {A : Ab} (h : RG mid (H, A)) : repAt H mid = some A := repAt_iff.2 h
theorem rg_app {H K : Heap} {mid : Nat} {A : Ab} (h : RG mid (H, A)) : RG mid (H ++ K, A) := ⟨h.1.app, h.2⟩
def okV (A : Ab) (s want k : Int) : Bool := match vw A s k with
 | some x => iand .i64 x.2 want == want
 | none => false
theorem okE_vw {A : Ab} (g : Good A) {s k want : Int} {m : Nat} {es : En} (hg : getK s A.sps = some (m, es)) : okE es want k = okV A s want k := by
 unfold okE okV
 cases hk : getK k es with
 | none => rw [(vw_none g hg).2 hk]
 | some y =>
  obtain ⟨p, rg⟩ := y
  obtain ⟨q, hq⟩ := g.page hg hk
  rw [vw_of hg hk hq]
theorem okV_range {A : Ab} (g : Good A) {s k want : Int} (h : okV A s want k = true) : 0 ≤ k ∧ k < 64 := by
 unfold okV at h
 split at h
 ·rename_i x hx
  exact (vw_rg (d := x.1) (rg := x.2) g hx).1
 ·cases h
theorem mayB_iff {es : En} {want : Int} : ∀ {m a : Nat}, mayB es want a m = true ↔ ∀ j, a ≤ j → j < a + m → okE es want (j : Int) = true
 | 0, a => by simp [mayB]; intro j h1 h2; omega
 | m + 1, a => by
  simp only [mayB, Bool.and_eq_true]
  rw [mayB_iff]
  constructor
  ·rintro ⟨h1, h2⟩ j h3 h4
   by_cases e : j = a
   ·rw [e]; exact h1
   ·exact h2 j (by omega) (by omega)
  ·intro h
   exact ⟨h a (by omega) (by omega), fun j h1 h2 => h j (by omega) (by omega)⟩
theorem may_iff {A : Ab} (g : Good A) {s want addr : Int} {m : Nat} {es : En} (hg : getK s A.sps = some (m, es)) (n : Nat) : (mayR es want addr n).1 = true ↔ ∀ i : Nat, i < n → okV A s want ((addr + i) / 16) = true := by
 unfold mayR
 by_cases h0 : n = 0
 ·subst h0
  simp
 rw [if_neg (by omega)]
 by_cases h1 : addr < 0 ∨ 1024 - (n : Int) < addr
 ·rw [if_pos h1]
  simp only [Bool.false_eq_true, false_iff]
  intro h
  have k1 := okV_range g (h 0 (by omega))
  have k2 := okV_range g (h (n - 1) (by omega))
  have : ((n - 1 : Nat) : Int) = n - 1 := by omega
  rw [this] at k2
  simp only [Int.natCast_zero, Int.ofNat_zero] at k1
  omega
 ·rw [if_neg h1]
  simp only
  rw [mayB_iff]
  constructor
  ·intro h i hi
   have := h ((addr + i) / 16).toNat (by omega) (by omega)
   rw [okE_vw g hg, show (((addr + (i : Int)) / 16).toNat : Int) = (addr + i) / 16 by omega] at this
   exact this
  ·intro h j h2 h3
   rw [okE_vw g hg]
   rcases Nat.lt_or_ge ((16 * j : Nat) : Int).toNat addr.toNat with hl | hl
   ·have := h 0 (by omega)
    rw [show (addr + ((0 : Nat) : Int)) / 16 = j by simp only [Int.natCast_zero, Int.ofNat_zero]; omega] at this
    exact this
   ·obtain ⟨i, hi⟩ := Int.eq_ofNat_of_zero_le (show 0 ≤ (16 * j : Int) - addr by omega)
    have := h i (by omega)
    rw [show (addr + (i : Int)) / 16 = j by omega] at this
    exact this
def bt (A : Ab) (s i : Int) : Int := match vw A s (i / 16) with
 | some x => (x.1[(i % 16).toNat]?).getD 0
 | none => 0
theorem byteK_bt {A : Ab} (g : Good A) {s i : Int} {m : Nat} {es : En} (hg : getK s A.sps = some (m, es)) : byteK es A.lo i = bt A s i := by
 unfold byteK bt
 cases hk : getK (i / 16) es with
 | none => rw [(vw_none g hg).2 hk]
 | some y =>
  obtain ⟨p, rg⟩ := y
  obtain ⟨q, hq⟩ := g.page hg hk
  rw [vw_of hg hk hq]
  simp only [hq]
def btL (A : Ab) (s addr : Int) (n : Nat) : List Int := (List.range n).map fun j => bt A s (addr + (j : Nat))
theorem fetchB_bt {A : Ab} (g : Good A) {s addr : Int} {m n : Nat} {es : En} (hg : getK s A.sps = some (m, es)) : fetchB es A.lo addr n = btL A s addr n := by
 unfold fetchB btL
 apply List.map_congr_left
 intro j _
 exact byteK_bt g hg
theorem btL_len (A : Ab) (s addr : Int) (n : Nat) : (btL A s addr n).length = n := by simp [btL]
theorem fetch_rg {H : Heap} {mid n : Nat} {A : Ab} (h : RG mid (H, A)) (es : En) (addr : Int) (K : Heap) : RG mid (wr H mid (fetchL es A.lo addr n) ++ K, { A with lo := fetchL es A.lo addr n }) :=
 rg_app ⟨h.1.like (Like.fetch es A.lo addr n), h.2.like h.1.st.wf (Like.fetch es A.lo addr n)⟩
theorem read_ev {H : Heap} {mid : Nat} {A : Ab} (h : RG mid (H, A)) {s addr : Int} {n : Nat} (hn : n ≤ 256) (hw : IntKind.i64.wrap addr = addr) :
  (∃ e, e ≠ 0 ∧ ∃ K, readM [.ptr mid 5 0 0, .v (.int .i64 s), .v (.int .i64 addr), .v (.int .i64 n)] H = some (.v (.tuple #[.slice none 0 0, .int .i64 e]), H ++ K) ∧ ¬ (has A s ∧ ∀ i : Nat, i < n → okV A s 1 ((addr + i) / 16) = true)) ∨
  (has A s ∧ (∀ i : Nat, i < n → okV A s 1 ((addr + i) / 16) = true) ∧ ∃ g L', Like A.lo L' ∧ RG mid (wr (H ++ List.replicate g none) mid L' ++ outK (btL A s addr n) n, { A with lo := L' }) ∧
   readM [.ptr mid 5 0 0, .v (.int .i64 s), .v (.int .i64 addr), .v (.int .i64 n)] H = some (tupA [outV (H.length + g) n, .v (.int .i64 0)], wr (H ++ List.replicate g none) mid L' ++ outK (btL A s addr n) n)) := by
 have hev : readM [.ptr mid 5 0 0, .v (.int .i64 s), .v (.int .i64 addr), .v (.int .i64 n)] H = some (readR H mid A s addr n) := by
  simp only [readM, rg_at h, Option.bind_some]
  rw [if_pos hw]
 rw [hev]
 unfold readR
 cases hg : getK s A.sps with
 | none => exact .inl ⟨4, by decide, [], by simp, fun hh => by unfold has at hh; rw [hg] at hh; cases hh.1⟩
 | some x =>
  obtain ⟨m, es⟩ := x
  have hh : has A s := by unfold has; rw [hg]; rfl
  simp only
  rw [if_neg (by omega)]
  have hm := may_iff h.2 (want := 1) (addr := addr) hg n
  by_cases hmay : (mayR es 1 addr n).1 = true
  ·rw [if_pos hmay]
   right
   refine ⟨hh, hm.1 hmay, (mayR es 1 addr n).2, fetchL es A.lo addr n, Like.fetch es A.lo addr n, ?_, ?_⟩
   ·exact fetch_rg (rg_app h) es addr _
   ·rw [Int.toNat_natCast, fetchB_bt h.2 hg]
  ·rw [if_neg hmay]
   exact .inl ⟨11, by decide, _, rfl, fun hc => hmay (hm.2 hc.2)⟩
theorem load_ev {H : Heap} {mid : Nat} {A : Ab} (h : RG mid (H, A)) {s addr want : Int} (hw : 0 ≤ addr ∧ addr < 4294967296) :
  ∃ b e H' L', loadM [.ptr mid 5 0 0, .v (.int .i64 s), .v (.int .u32 addr), .v (.int .i64 want)] H = some (.v (.tuple #[.int .u8 b, .int .i64 e]), H') ∧ Like A.lo L' ∧ RG mid (H', { A with lo := L' }) ∧
   ((¬ has A s ∧ e = 4 ∧ b = 0) ∨ (has A s ∧ (want < 1 ∨ 7 < want) ∧ e = 1 ∧ b = 0) ∨ (has A s ∧ ¬ (want < 1 ∨ 7 < want) ∧ ((okV A s want (addr / 16) = true ∧ e = 0 ∧ b = bt A s addr) ∨ (okV A s want (addr / 16) = false ∧ e = 11 ∧ b = 0)))) ∧ ∃ g : Nat, (e ≠ 0 → H' = H ++ List.replicate g none) := by
 have hev : loadM [.ptr mid 5 0 0, .v (.int .i64 s), .v (.int .u32 addr), .v (.int .i64 want)] H = some (loadR H mid A s addr want) := by
  simp only [loadM, rg_at h, Option.bind_some]
  rw [if_pos hw]
 rw [hev]
 unfold loadR
 cases hg : getK s A.sps with
 | none => exact ⟨0, 4, H, A.lo, rfl, Like.refl _, h, .inl ⟨fun hh => (by unfold has at hh; rw [hg] at hh; cases hh), rfl, rfl⟩, 0, fun _ => by simp⟩
 | some x =>
  obtain ⟨m, es⟩ := x
  have hh : has A s := by unfold has; rw [hg]; rfl
  simp only
  by_cases hwt : want < 1 ∨ 7 < want
  ·rw [if_pos hwt]
   exact ⟨0, 1, H, A.lo, rfl, Like.refl _, h, .inr (.inl ⟨hh, hwt, rfl, rfl⟩), 0, fun _ => by simp⟩
  ·rw [if_neg hwt]
   have hm := may_iff h.2 (want := want) (addr := addr) hg 1
   have e1 : ∀ i : Nat, i < 1 → (addr + (i : Int)) / 16 = addr / 16 := fun i hi => by
    have : i = 0 := by omega
    subst this
    simp
   by_cases hmay : (mayR es want addr 1).1 = true
   ·rw [if_pos hmay]
    refine ⟨bt A s addr, 0, wr (H ++ List.replicate (mayR es want addr 1).2 none) mid (fetchL es A.lo addr 1) ++ outK [byteK es A.lo addr] 1, fetchL es A.lo addr 1, ?_, Like.fetch es A.lo addr 1, fetch_rg (rg_app h) es addr _, .inr (.inr ⟨hh, hwt, .inl ⟨?_, rfl, rfl⟩⟩), 0, fun hc => absurd rfl hc⟩
    ·rw [byteK_bt h.2 hg]
    ·have := hm.1 hmay 0 (by omega)
     rwa [e1 0 (by omega)] at this
   ·rw [if_neg hmay]
    refine ⟨0, 11, _, A.lo, rfl, Like.refl _, rg_app h, .inr (.inr ⟨hh, hwt, .inr ⟨?_, rfl, rfl⟩⟩), _, fun _ => rfl⟩
    cases ho : okV A s want (addr / 16) with
    | false => rfl
    | true => exact absurd (hm.2 fun i hi => by rw [e1 i hi]; exact ho) hmay
theorem lay_inv0 {H : Heap} {mid m : Nat} {A : Ab} (h : RG mid (H, A)) {s addr : Int} {es : En} {d : List Int} (hg : getK s A.sps = some (m, es)) (hk : spanK es addr d.length) (hr : (shT A es addr d.length : Int) ≤ A.lo.fr + A.lo.sl - A.lo.pgs.length) (h0 : d.length ≠ 0) : LayI mid m s addr d.length 0 es (H, A) (H, A) := by
 refine ⟨h, Keep.refl _ _, es, hg, rfl, fun a b e1 e2 => ?_⟩
 rcases hk with ⟨h1, _⟩ | ⟨k1, k2, k3, k4, k5⟩
 ·omega
 unfold shT at hr
 rw [if_neg h0, show (addr / 16).toNat = a by simp at e1; omega, show ((addr + (d.length : Int) - 1) / 16 + 1 - addr / 16).toNat = b + 1 - a by simp at e1; omega] at hr
 exact hr
theorem write_ev {H : Heap} {mid : Nat} {A : Ab} (h : RG mid (H, A)) {s addr : Int} {d : List Int} (hw : IntKind.i64.wrap addr = addr) :
  ∃ e H' A', writeR H mid A s addr d = (.v (.int .i64 e), H') ∧ RG mid (H', A') ∧ Eff s A A' ∧
   ((e = 0 ∧ has A s ∧ d.length ≤ 256 ∧ (∀ i : Nat, i < d.length → okV A s 2 ((addr + i) / 16) = true) ∧ ∀ j, vw A' s j = (vw A s j).map fun x => (patN j addr d d.length x.1, x.2)) ∨
    (e ≠ 0 ∧ A' = A ∧ ((e = 4 ∧ ¬ has A s) ∨ (e = 1 ∧ 256 < d.length) ∨ (e = 11 ∧ has A s ∧ ¬ ∀ i : Nat, i < d.length → okV A s 2 ((addr + i) / 16) = true) ∨ (e = 6 ∧ has A s ∧ ∀ i : Nat, i < d.length → okV A s 2 ((addr + i) / 16) = true)))) := by
 unfold writeR
 cases hg : getK s A.sps with
 | none => exact ⟨4, H, A, rfl, h, Eff.refl _ _, .inr ⟨by decide, rfl, .inl ⟨rfl, fun hh => by unfold has at hh; rw [hg] at hh; cases hh⟩⟩⟩
 | some x =>
  obtain ⟨m, es⟩ := x
  have hh : has A s := by unfold has; rw [hg]; rfl
  simp only
  by_cases h1 : 256 < d.length
  ·rw [if_pos h1]
   exact ⟨1, H, A, rfl, h, Eff.refl _ _, .inr ⟨by decide, rfl, .inr (.inl ⟨rfl, h1⟩)⟩⟩
  ·rw [if_neg h1]
   have hm := may_iff h.2 (want := 2) (addr := addr) hg d.length
   by_cases hmay : (mayR es 2 addr d.length).1 = true
   ·rw [if_pos hmay]
    have hsp := may_span (es := es) (n := (d.length : Int)) (by omega) hw hmay
    have hr1 : RG mid (H ++ List.replicate (mayR es 2 addr d.length).2 none, A) := rg_app h
    generalize H ++ List.replicate (mayR es 2 addr d.length).2 none = G at *
    unfold layR
    rw [hg]
    simp only
    split
    ·rename_i hroom
     by_cases h0 : d.length = 0
     ·have hd : d = [] := List.length_eq_zero_iff.1 h0
      subst hd
      exact ⟨0, G, A, rfl, hr1, Eff.refl _ _, .inl ⟨rfl, hh, by simp, hm.1 hmay, fun j => by cases vw A s j <;> rfl⟩⟩
     ·have hk3 : 0 ≤ addr := by
       rcases hsp with ⟨h1, _⟩ | ⟨_, _, k3, _⟩ <;> omega
      have hI := lay_inv0 hr1 hg hsp hroom h0
      obtain ⟨v, f1, f2, f3⟩ := layN_spec (d := d) hI hk3 d.length (Nat.le_refl _)
      have iR := (layN_inv (d := d) hI hk3 d.length (Nat.le_refl _)).rg
      refine ⟨0, _, (layN mid s addr d (G, A) d.length).2, rfl, iR, ⟨f1, f2, f3, fun t k ht => by rw [v, if_neg ht]⟩, .inl ⟨rfl, hh, by omega, hm.1 hmay, fun j => by rw [v, if_pos rfl]⟩⟩
    ·exact ⟨6, G, A, rfl, hr1, Eff.refl _ _, .inr ⟨by decide, rfl, .inr (.inr (.inr ⟨rfl, hh, hm.1 hmay⟩))⟩⟩
   ·rw [if_neg hmay]
    exact ⟨11, _, A, rfl, rg_app h, Eff.refl _ _, .inr ⟨by decide, rfl, .inr (.inr (.inl ⟨rfl, hh, fun hc => hmay (hm.2 hc)⟩))⟩⟩
theorem map_ev {H : Heap} {mid : Nat} {A : Ab} (h : RG mid (H, A)) {s first n rights : Int} :
  ∃ e H' A', mapM [.ptr mid 5 0 0, .v (.int .i64 s), .v (.int .i64 first), .v (.int .i64 n), .v (.int .i64 rights)] H = some (.v (.int .i64 e), H') ∧ RG mid (H', A') ∧ Eff s A A' ∧
   ((e = 0 ∧ has A s ∧ ¬ spanBad first n rights ∧ n ≤ A.lo.fr + A.lo.sl - A.lo.pgs.length ∧ (A'.lo.pgs.length : Int) = A.lo.pgs.length + n ∧ (∀ j, vw A' s j = if first ≤ j ∧ j < first + n then some (z16, rights) else vw A s j)) ∨
    (e ≠ 0 ∧ A' = A ∧ ((e = 4 ∧ ¬ has A s) ∨ (e = 1 ∧ spanBad first n rights) ∨ (e = 5 ∧ ∃ j, first ≤ j ∧ j < first + n ∧ vw A s j ≠ none) ∨ (e = 6 ∧ A.lo.fr + A.lo.sl - A.lo.pgs.length < n)))) := by
 have hev : mapM [.ptr mid 5 0 0, .v (.int .i64 s), .v (.int .i64 first), .v (.int .i64 n), .v (.int .i64 rights)] H = some (mapR H mid A s first n rights) := by
  simp only [mapM, rg_at h, Option.map_some]
 rw [hev]
 unfold mapR spanE
 cases hg : getK s A.sps with
 | none => exact ⟨4, H, A, rfl, h, Eff.refl _ _, .inr ⟨by decide, rfl, .inl ⟨rfl, fun hh => by unfold has at hh; rw [hg] at hh; cases hh⟩⟩⟩
 | some x =>
  obtain ⟨m, es⟩ := x
  have hh : has A s := by unfold has; rw [hg]; rfl
  simp only
  by_cases hb : spanBad first n rights
  ·rw [if_pos hb]
   exact ⟨1, H, A, rfl, h, Eff.refl _ _, .inr ⟨by decide, rfl, .inr (.inl ⟨rfl, hb⟩)⟩⟩
  ·rw [if_neg hb]
   simp only [ne_eq, not_true_eq_false, if_false]
   have hb' := hb
   unfold spanBad at hb'
   obtain ⟨N, rfl⟩ := Int.eq_ofNat_of_zero_le (show 0 ≤ n by omega)
   simp only [Int.toNat_natCast]
   by_cases hhit : hitB es first N = true
   ·rw [if_pos hhit]
    refine ⟨5, _, A, rfl, rg_app h, Eff.refl _ _, .inr ⟨by decide, rfl, .inr (.inr (.inl ⟨rfl, ?_⟩))⟩⟩
    unfold hitB at hhit
    rw [List.any_eq_true] at hhit
    obtain ⟨j, hj, hs⟩ := hhit
    rw [List.mem_range] at hj
    refine ⟨first + (j : Nat), by omega, by omega, fun hc => ?_⟩
    rw [(vw_none h.2 hg).1 hc] at hs
    cases hs
   ·rw [if_neg hhit]
    split
    ·rename_i hroom
     have hno : ∀ i : Nat, i < N → getK (first + (i : Nat)) es = none := fun i hi => by
      cases e : getK (first + (i : Nat)) es with
      | none => rfl
      | some y =>
       exfalso
       apply hhit
       unfold hitB
       rw [List.any_eq_true]
       exact ⟨i, List.mem_range.2 hi, by rw [e]; rfl⟩
     have hst : stS m s A ⟨H ++ List.replicate N none, A.lo, es⟩ = A := by
      unfold stS
      rw [setK_self h.1.nds hg]
     have hx : RG mid ((⟨H ++ List.replicate N none, A.lo, es⟩ : Ms).H, stS m s A ⟨H ++ List.replicate N none, A.lo, es⟩) := by
      rw [hst]; exact rg_app h
     obtain ⟨r1, v1, f1, f2, f3⟩ := mapS_spec (rg := rights) (first := first) hx ⟨_, hg⟩ (by omega) (by omega) N (by omega) (by simp only; omega) hno
     rw [hst] at v1
     refine ⟨0, _, stS m s A (mapS mid m first rights ⟨H ++ List.replicate N none, A.lo, es⟩ N), rfl, r1, ⟨f1, f2, setK_keys _, fun t k ht => by rw [v1, if_neg (fun e => ht e.1)]⟩, .inl ⟨rfl, hh, hb, hroom, ?_, fun j => ?_⟩⟩
     ·show ((mapS mid m first rights _ N).L.pgs.length : Int) = _
      rw [f3]; push_cast; rfl
     ·rw [v1]
      by_cases c : first ≤ j ∧ j < first + (N : Int)
      ·rw [if_pos ⟨rfl, c⟩, if_pos c]
      ·rw [if_neg (fun e => c e.2), if_neg c]
    ·rename_i hroom
     exact ⟨6, _, A, rfl, rg_app h, Eff.refl _ _, .inr ⟨by decide, rfl, .inr (.inr (.inr ⟨rfl, by omega⟩))⟩⟩
theorem put_ev {H : Heap} {mid : Nat} {A : Ab} (h : RG mid (H, A)) {s at_ rights : Int} {d : List Int} :
  ∃ e H' A', putR1 H mid A s at_ rights d = (.v (.int .i64 e), H') ∧ RG mid (H', A') ∧ Eff s A A' ∧
   ((e = 0 ∧ has A s ∧ ¬ spanBad at_ 1 rights ∧ d.length ≤ 16 ∧ (∀ j, vw A' s j = if j = at_ then some (pad d, rights) else vw A s j)) ∨
    (e ≠ 0 ∧ A' = A ∧ (¬ has A s ∨ spanBad at_ 1 rights ∨ 16 < d.length ∨ vw A s at_ ≠ none ∨ A.lo.fr + A.lo.sl - A.lo.pgs.length < 1))) := by
 unfold putR1 spanE
 cases hg : getK s A.sps with
 | none => exact ⟨4, H, A, rfl, h, Eff.refl _ _, .inr ⟨by decide, rfl, .inl fun hh => by unfold has at hh; rw [hg] at hh; cases hh⟩⟩
 | some x =>
  obtain ⟨m, es⟩ := x
  have hh : has A s := by unfold has; rw [hg]; rfl
  simp only
  by_cases hb : spanBad at_ 1 rights
  ·rw [if_pos hb]
   exact ⟨1, H, A, rfl, h, Eff.refl _ _, .inr ⟨by decide, rfl, .inr (.inl hb)⟩⟩
  ·rw [if_neg hb]
   simp only [ne_eq, not_true_eq_false, if_false]
   have hb' := hb
   unfold spanBad at hb'
   split
   ·rename_i hl
    exact ⟨1, H, A, rfl, h, Eff.refl _ _, .inr ⟨by decide, rfl, .inr (.inr (.inl (by omega)))⟩⟩
   ·rename_i hl
    split
    ·rename_i hk
     refine ⟨5, _, A, rfl, rg_app h, Eff.refl _ _, .inr ⟨by decide, rfl, .inr (.inr (.inr (.inl fun hc => ?_)))⟩⟩
     rw [(vw_none h.2 hg).1 hc] at hk
     cases hk
    ·rename_i hk
     have hk2 : getK at_ es = none := by
      cases e : getK at_ es with
      | none => rfl
      | some y => rw [e] at hk; exact absurd rfl hk
     split
     ·rename_i hroom
      have hst : stS m s A ⟨H ++ [some (2, [boxE none]), some (1, yRow (pad d))], A.lo, es⟩ = A := by
       unfold stS
       rw [setK_self h.1.nds hg]
      have hx : RG mid ((⟨H ++ [some (2, [boxE none]), some (1, yRow (pad d))], A.lo, es⟩ : Ms).H, stS m s A ⟨H ++ [some (2, [boxE none]), some (1, yRow (pad d))], A.lo, es⟩) := by
       rw [hst]; exact rg_app h
      obtain ⟨r1, v1, f1, f2, f3⟩ := putS_spec (d := pad d) (rg := rights) (k := at_) hx ⟨_, hg⟩ (pad_len (by omega)) (by simp only; omega) hk2 (by omega) (by omega)
      rw [hst] at v1
      refine ⟨0, _, stS m s A (putS mid m at_ (pad d) rights ⟨H ++ [some (2, [boxE none]), some (1, yRow (pad d))], A.lo, es⟩), rfl, r1, ⟨f1, f2, setK_keys _, fun t k ht => by rw [v1, if_neg (fun e => ht e.1)]⟩, .inl ⟨rfl, hh, hb, by omega, fun j => ?_⟩⟩
      rw [v1]
      by_cases c : j = at_
      ·rw [if_pos ⟨rfl, c⟩, if_pos c]
      ·rw [if_neg (fun e => c e.2), if_neg c]
     ·rename_i hroom
      exact ⟨6, _, A, rfl, rg_app h, Eff.refl _ _, .inr ⟨by decide, rfl, .inr (.inr (.inr (.inr (by omega))))⟩⟩
end
section
section
attribute [local simp] pgRow_len pg16 pg17 pg18 pg16' pg17' pg18' ww16 ww17 ww18 keyI_ok aLookup aMapUpdate aDelete lkRes bin_mn spV enV Try.underlying65 Try.underlying55
theorem Eff.has {s : Int} {A A' : Ab} (e : Eff s A A') (t : Int) : has A' t ↔ has A t := by rw [has_key, has_key, e.ks]
theorem make_ev {H : Heap} {mid : Nat} {A : Ab} (h : RG mid (H, A)) :
  ∃ s e H' A', makeM [.ptr mid 5 0 0] H = some (.v (.tuple #[.int .i64 s, .int .i64 e]), H') ∧ RG mid (H', A') ∧ A'.lo = A.lo ∧
   ((e = 0 ∧ freeF (A.sps.map (·.1)) 1 16 = some s ∧ ¬ has A s ∧ has A' s ∧ (∀ j, vw A' s j = none) ∧ (∀ t j, t ≠ s → vw A' t j = vw A t j) ∧ A'.sps.map (·.1) = A.sps.map (·.1) ++ [s]) ∨ (s = 0 ∧ e = 6 ∧ A' = A ∧ freeF (A.sps.map (·.1)) 1 16 = none)) := by
 have hmp : mpAt H A.lo.sid = some (A.sps.map fun x : Int × (Nat × En) => (x.1, x.2.1)) := mpAt_iff.2 ⟨by rw [h.1.sp, List.map_map]; rfl, by rw [List.map_map]; exact h.1.nds⟩
 have hev : makeM [.ptr mid 5 0 0] H = some (makeR H A.lo.sid (A.sps.map fun x : Int × (Nat × En) => (x.1, x.2.1))) := by
  simp only [makeM, stAt_iff.2 h.1.st, Option.bind_some, hmp, Option.map_some]
 have hks : (A.sps.map fun x : Int × (Nat × En) => (x.1, x.2.1)).map (·.1) = A.sps.map (·.1) := by rw [List.map_map]; rfl
 rw [hev]
 unfold makeR
 rw [hks]
 cases hf : freeF (A.sps.map (·.1)) 1 16 with
 | none => exact ⟨0, 6, H, A, rfl, h, rfl, .inr ⟨rfl, rfl, rfl, rfl⟩⟩
 | some s =>
  obtain ⟨r1, v1⟩ := make_spec h hf
  obtain ⟨f1, f2, f3, f4⟩ := freeF_range hf
  have hg : getK s (addA A.lo A s H.length []).sps = some (H.length, []) := by simp only [addA]; rw [get_more f3, if_pos rfl]
  refine ⟨s, 0, _, _, rfl, r1, rfl, .inl ⟨rfl, rfl, fun hh => f3 (has_key.1 hh), ?_, fun j => ?_, fun t j ht => v1 t j ht, ?_⟩⟩
  ·unfold Go.Proofs.Ytibpipgabcpaoaa.has; rw [hg]; rfl
  ·exact (vw_none r1.2 hg).2 rfl
  ·simp [addA]
theorem fork_ev {H : Heap} {mid : Nat} {A : Ab} (h : RG mid (H, A)) {s : Int} :
  ∃ to e H' A', forkM [.ptr mid 5 0 0, .v (.int .i64 s)] H = some (.v (.tuple #[.int .i64 to, .int .i64 e]), H') ∧ RG mid (H', A') ∧ A'.lo.fr = A.lo.fr ∧ A'.lo.sl = A.lo.sl ∧ A'.lo.pgs.length = A.lo.pgs.length ∧
   ((e = 0 ∧ has A s ∧ ¬ has A to ∧ 1 ≤ to ∧ (∀ t j, vw A' t j = if t = to then vw A s j else vw A t j) ∧ A'.sps.map (·.1) = A.sps.map (·.1) ++ [to]) ∨ (e ≠ 0 ∧ to = 0 ∧ A' = A ∧ H' = H)) := by
 have hev : forkM [.ptr mid 5 0 0, .v (.int .i64 s)] H = some (forkR H mid A s) := by
  simp only [forkM, rg_at h, Option.map_some]
 rw [hev]
 unfold forkR
 cases hg : getK s A.sps with
 | none => exact ⟨0, 4, H, A, rfl, h, rfl, rfl, rfl, .inr ⟨by decide, rfl, rfl, rfl⟩⟩
 | some x =>
  obtain ⟨m, es⟩ := x
  simp only
  cases hf : freeF (A.sps.map (·.1)) 1 16 with
  | none => exact ⟨0, 6, H, A, rfl, h, rfl, rfl, rfl, .inr ⟨by decide, rfl, rfl, rfl⟩⟩
  | some to =>
   obtain ⟨r1, v1⟩ := fork_spec h hg hf
   obtain ⟨f1, f2, f3, f4⟩ := freeF_range hf
   refine ⟨to, 0, _, _, rfl, r1, rfl, rfl, up_len, .inl ⟨rfl, by unfold Go.Proofs.Ytibpipgabcpaoaa.has; rw [hg]; rfl, fun hh => f3 (has_key.1 hh), f1, v1, by simp [addA]⟩⟩
theorem drop_ev {H : Heap} {mid : Nat} {A : Ab} (h : RG mid (H, A)) {s : Int} :
  ∃ e H' A', dropM [.ptr mid 5 0 0, .v (.int .i64 s)] H = some (.v (.int .i64 e), H') ∧ RG mid (H', A') ∧ A'.lo.fr = A.lo.fr ∧ A'.lo.sl = A.lo.sl ∧
   ((e = 0 ∧ has A s ∧ (∀ t j, vw A' t j = if t = s then none else vw A t j) ∧ A'.sps = delK s A.sps) ∨ (e ≠ 0 ∧ ¬ has A s ∧ A' = A)) := by
 have hev : dropM [.ptr mid 5 0 0, .v (.int .i64 s)] H = some (dropR H mid A s) := by
  simp only [dropM, rg_at h, Option.map_some]
 rw [hev]
 unfold dropR
 cases hg : getK s A.sps with
 | none => exact ⟨4, H, A, rfl, h, rfl, rfl, .inr ⟨by decide, fun hh => (by unfold Go.Proofs.Ytibpipgabcpaoaa.has at hh; rw [hg] at hh; cases hh), rfl⟩⟩
 | some x =>
  obtain ⟨m, es⟩ := x
  obtain ⟨r1, v1⟩ := drop_spec h hg
  exact ⟨0, _, _, rfl, r1, rfl, rfl, .inl ⟨rfl, by unfold Go.Proofs.Ytibpipgabcpaoaa.has; rw [hg]; rfl, v1, rfl⟩⟩
theorem rec_ev {H : Heap} {mid : Nat} {A : Ab} (h : RG mid (H, A)) {n : Int} :
  ∃ (k : Nat) (H' : Heap) (L' : Lo), recM [.ptr mid 5 0 0, .v (.int .i64 n)] H = some (.v (.int .i64 k), H') ∧ Like A.lo L' ∧ RG mid (H', { A with lo := L' }) ∧ (k : Int) ≤ max n 0 ∧ (L'.hr : Int) = A.lo.hr - k ∧ H' = wr H mid L' := by
 have hev : recM [.ptr mid 5 0 0, .v (.int .i64 n)] H = some (.v (.int .i64 (recN A.lo n : Nat)), wr H mid (recL A.lo (recN A.lo n))) := by
  simp only [recM, stAt_iff.2 h.1.st, Option.map_some]
 have hk : recN A.lo n ≤ A.lo.hr := by unfold recN; omega
 have hr := rec_hr (L := A.lo) (H := H) (mid := mid) h.1.st (recN A.lo n) hk
 have lk := Like.recl A.lo (recN A.lo n)
 refine ⟨_, _, _, hev, lk, ⟨h.1.like lk, h.2.like h.1.st.wf lk⟩, ?_, by omega, rfl⟩
 unfold recN; omega
end
end
end
section
section
open Go.Sort
theorem sortZ_in : InlOk Try.prog 26 sortZI :=
 sortZ_inl ⟨⟨_, _, Try.func26, rfl⟩, fun blk off cap zs w hH hb hs => Any.slices_Sort_int Go.Proofs.Ytibpipgabcpaoaa.layZ blk off cap zs w hH hb hs, fun p cap w => Any.slices_Sort_int_none Go.Proofs.Ytibpipgabcpaoaa.layZ p cap w⟩
end
attribute [local simp] pgRow_len pg16 pg17 pg18 pg16' pg17' pg18' ww16 ww17 ww18 keyI_ok aLookup aMapUpdate aDelete lkRes bin_mn spV enV Try.underlying65 Try.underlying55
abbrev Ks := List (Int × Nat)
theorem stampM_find {es : Ks} {bs : List Int} (hn : bs.Nodup) : ∀ {i : Nat} {e : Int × Nat} {b : Int}, es[i]? = some e → bs[i]? = some b → stampR b (stampL (es.map mRow) bs) = some (.v (.int .i64 e.1), mV e.2) := by
 induction bs generalizing es with
 | nil => intro i e b _ h; simp at h
 | cons b0 bs ih =>
  intro i e b h1 h2
  cases es with
  | nil => simp at h1
  | cons e0 es =>
   rw [List.nodup_cons] at hn
   simp only [stampL, List.map_cons, List.zipWith_cons_cons, mRow, List.cons_append, List.nil_append, stampR]
   cases i with
   | zero =>
    simp only [List.getElem?_cons_zero, Option.some.injEq] at h1 h2
    subst h1 h2
    rw [if_pos rfl]
   | succ i =>
    simp only [List.getElem?_cons_succ] at h1 h2
    rw [if_neg]
    ·exact ih hn.2 h1 h2
    ·rintro rfl
     exact hn.1 (List.mem_of_getElem? h2)
theorem stampM_inv {es : Ks} {bs : List Int} {i : Nat} {k a : AVal} {b : Int} (h : (stampL (es.map mRow) bs)[i]? = some [k, a, .v (.int .i64 b)]) : ∃ e, es[i]? = some e ∧ bs[i]? = some b ∧ k = .v (.int .i64 e.1) ∧ a = mV e.2 := by
 obtain ⟨q, b', h1, h2, h3⟩ := stampL_inv h
 rw [List.getElem?_map, Option.map_eq_some_iff] at h1
 obtain ⟨e, he, rfl⟩ := h1
 simp only [mRow, List.cons_append, List.nil_append, List.cons.injEq, AVal.v.injEq, Value.int.injEq, true_and, and_true] at h3
 obtain ⟨h3, h4, h5⟩ := h3
 subst h5
 exact ⟨e, he, h2, h3, h4⟩
theorem stampM_rows {es : Ks} {bs : List Int} : ∀ r ∈ stampL (es.map mRow) bs, ∃ k a b, r = [k, a, .v (.int .i64 b)] := by
 intro r hr
 obtain ⟨i, hi⟩ := List.mem_iff_getElem?.1 hr
 obtain ⟨q, b', h1, h2, h3⟩ := stampL_inv hi
 rw [List.getElem?_map, Option.map_eq_some_iff] at h1
 obtain ⟨e, he, rfl⟩ := h1
 exact ⟨_, _, _, h3⟩
def ksZ (es : Ks) (is : List Nat) : List Int := is.map fun i => ((es[i]?).map (·.1)).getD 0
theorem ksZ_app {es : Ks} {is : List Nat} {i : Nat} {e : Int × Nat} (h : es[i]? = some e) : ksZ es (is ++ [i]) = ksZ es is ++ [e.1] := by
 simp [ksZ, h]
theorem ksZ_all {es : Ks} {is : List Nat} (hn : is.Nodup) (hl : ∀ i ∈ is, i < es.length) (ha : ∀ i, i < es.length → i ∈ is) : (ksZ es is).Perm (es.map (·.1)) := by
 have hp : is.Perm (List.range es.length) := by
  rw [List.perm_ext_iff_of_nodup hn List.nodup_range]
  intro i
  rw [List.mem_range]
  exact ⟨hl i, ha i⟩
 have h1 : (ksZ es is).Perm (ksZ es (List.range es.length)) := hp.map _
 have h2 : ksZ es (List.range es.length) = es.map (·.1) := by
  apply List.ext_getElem?
  intro i
  simp only [ksZ, List.getElem?_map]
  by_cases hi : i < es.length
  ·rw [List.getElem?_range hi]
   simp [hi]
  ·have h3 : (List.range es.length)[i]? = none := List.getElem?_eq_none (by simp; omega)
   have h4 : es[i]? = none := List.getElem?_eq_none (by omega)
   rw [h3, h4]; rfl
 rwa [h2] at h1
theorem sortZ_eq {a b : List Int} (h : a.Perm b) : sortZ a = sortZ b := by
 have h1 : (sortZ a).Perm (sortZ b) := (sortZ_perm a).trans (h.trans (sortZ_perm b).symm)
 exact h1.eq_of_pairwise (fun x y _ _ h1 h2 => by omega) (sortZ_sorted a) (sortZ_sorted b)
def outZ (n : Nat) : Nat → AVal
 | 0 => .v (.slice none 0 0)
 | i + 1 => .osl (n + (2 * i + 1 + 1)) 1 0 (i + 1) (i + 1)
def outZK (d : List Int) : Nat → Heap
 | 0 => []
 | i + 1 => List.replicate (2 * i + 1) none ++ [some (1, d.map (irow .i64))]
theorem outZ_0 {n : Nat} : outZ n 0 = .v (.slice none 0 0) := rfl
theorem outZ_s {n i : Nat} : outZ n (i + 1) = .osl (n + (2 * i + 1 + 1)) 1 0 (i + 1) (i + 1) := rfl
theorem outZK_0 {d : List Int} : outZK d 0 = [] := rfl
theorem outZK_s {d : List Int} {i : Nat} : outZK d (i + 1) = List.replicate (2 * i + 1) none ++ [some (1, d.map (irow .i64))] := rfl
theorem res_outZ {b : Bool} {n j : Nat} : res b (outZ n j) = outZ n j := by cases j <;> rfl
attribute [local simp] res_outZ
noncomputable def spacesM : Row → Heap → Option (AVal × Heap)
 | [.ptr mid 5 0 0], H => (repAt H mid).map fun A => (outZ H.length A.sps.length, H ++ none :: outZK (sortZ (A.sps.map (·.1))) A.sps.length)
 | _, _ => none
structure SpI (n : Nat) (es : Ks) (is : List Nat) : Prop where
 nd : is.Nodup
 lt : ∀ i ∈ is, i < es.length
theorem irow64_dec (d : List Int) : List.mapM (irowDec .i64) (d.map (irow .i64)) = some d := mapM_dec (rI .i64) d
theorem sp_kill {n0 a : Nat} {ρ ρ' : Env} {H0 X : Heap} {it t q : Option (Nat × List Row)} (hX : X = H0 ++ (it :: (List.replicate a none ++ [none, t, q]))) (hl : ∀ p ∈ ρ', AI.look ρ p.1 = p.2) : Ent n0 (ρ', H0 ++ (it :: (List.replicate (a + 2) none ++ [q]))) (ρ, X) := by
 subst hX
 have k := Ent.killAt (n0 := n0) (ρ := ρ) (H := H0) (K := it :: (List.replicate a none ++ [none])) (M := [q]) (o := t)
 refine (Ent.env hl).trans (Ent.trans (s' := (ρ, H0 ++ ((it :: (List.replicate a none ++ [none])) ++ none :: [q]))) (Eq.mp ?_ (Ent.refl n0 (ρ, H0 ++ ((it :: (List.replicate a none ++ [none])) ++ none :: [q])))) (Eq.mp ?_ k))
 ·congr 2
  simp [List.replicate_succ']
 ·congr 2
  simp
theorem spaces_inl : InlOk Try.prog 11 spacesM := by
 refine inl_canonE Try.func11 rfl fun args H r H' hr => ⟨args, canon_refl args, ?_⟩
 unfold spacesM at hr
 split at hr
 case h_2 => cases hr
 rename_i mid
 simp only [Option.bind_eq_some_iff, Option.map_eq_some_iff] at hr
 obtain ⟨A, hA, hr⟩ := hr
 simp only [Prod.mk.injEq] at hr
 obtain ⟨rfl, rfl⟩ := hr
 obtain ⟨rp, gd⟩ := repAt_iff.1 hA
 have hM := rp.st.mem
 have hS := rp.sp
 have hsl : A.lo.sid < H.length := (List.getElem?_eq_some_iff.1 hS).1
 have hml : mid < H.length := rp.st.lt cell_m
 have hss : A.sps.map spRow = (A.sps.map (fun x => (x.1, x.2.1))).map mRow := by
  rw [List.map_map]; rfl
 have hks : (A.sps.map (fun x => (x.1, x.2.1))).map (·.1) = A.sps.map (·.1) := by
  rw [List.map_map]; rfl
 have hle : A.sps.length ≤ 16 := by
  have := below_int (n := 16) (a := 1) rp.nds (by
   intro z hz
   obtain ⟨x, hx, rfl⟩ := List.mem_map.1 hz
   have := gd.num x hx
   omega)
  simpa using this
 have hsln : A.sps.length = (A.sps.map (fun x => (x.1, x.2.1))).length := by simp
 have hmid : ¬ mid = A.lo.sid := by
  intro e
  rw [e] at hM
  rw [hM] at hS; cases hS
 rw [hss] at hS
 rw [hsln] at hle ⊢
 rw [← hks]
 generalize A.sps.map (fun x => (x.1, x.2.1)) = SS at *
 have hrow : ∀ r ∈ SS.map mRow, r.length = 2 := fun r hr => by
  obtain ⟨e, _, rfl⟩ := List.mem_map.1 hr
  rfl
 refine bodyX_of hS hrow ((noOrc_ok.withI sortZ_in).withD (fun i => if i = 3 then [(1000000,1000000)] else [])) fxMix (by kernel_rfl) (by simp [Try.ntmps11]) ?_
 intro C cP cI cN cD cF cA cR cL
 have cn0 := orcI sortZ_in (C := C) (by rw [cN]; rfl)
 replace cI := fun g => congrFun cI g
 simp only [Orc.withP, Orc.withI, Orc.withF, Orc.withD, Orc.withA, Orc.withR, Orc.withC, noOrc] at cI
 replace cR : C.rd = fun _ => none := cR
 replace cD : C.dyn = fun i => if i = 3 then [(1000000,1000000)] else [] := cD
 replace cF := fun g => congrFun cF g
 simp only [Orc.withP, Orc.withI, Orc.withF, Orc.withD, Orc.withA, Orc.withR, Orc.withC, noOrc] at cF
 replace cA : C.alt = fun _ => [] := cA
 clear cP cN
 intro c rs bs hp hbl hbn hlt
 obtain ⟨es', rfl, hpe⟩ := perm_of_map hp SS rfl
 rw [List.length_map] at hbl
 obtain ⟨H0, hH0⟩ : ∃ x, H.set A.lo.sid (some (0, [.v (.int .i64 c)] :: stampL (es'.map mRow) bs)) = x := ⟨_, rfl⟩
 have hl0 : H0.length = H.length := by rw [← hH0, List.length_set]
 have hM0 : H0[mid]? = some (some (5, [A.lo.row])) := by rw [← hH0, List.getElem?_set_ne (fun e => hmid e.symm), hM]
 have hS0 : H0[A.lo.sid]? = some (some (0, [.v (.int .i64 c)] :: stampL (es'.map mRow) bs)) := by rw [← hH0, List.getElem?_set_self hsl]
 simp only [Lo.row] at hM hM0
 rw [hH0]
 simp [Try.ntmps11, Try.results11, cSl, cn0, cI, cD, cR, cF, cA, hM0, hS0, aRange, hl0]
 refine loop_ent (σ := {is : List Nat // is.Nodup ∧ ∀ i ∈ is, i < es'.length}) (fun p => ([(3, outZ H.length p.val.length), (9, .ptr H.length 1 0 0)], H0 ++ (some (0, [[.ptr A.lo.sid 0 0 0, .v (.int .i64 c), .v (.int .i64 c)], bsR bs p.val]) :: outZK (ksZ es' p.val) p.val.length))) (fun p => es'.length - p.val.length) ⟨[], List.nodup_nil, by simp⟩ ?_ ?_
 ·exact Ent.env (by simp [outZ])
 rintro ⟨is, hnd, hlt2⟩
 simp only
 have hIt : ∀ K : Heap, (H0 ++ (some (0, [[.ptr A.lo.sid 0 0 0, .v (.int .i64 c), .v (.int .i64 c)], bsR bs is]) :: K))[H.length]? = some (some (0, [[.ptr A.lo.sid 0 0 0, .v (.int .i64 c), .v (.int .i64 c)], bsR bs is])) := fun K => by
  rw [List.getElem?_append_right (by omega), hl0, Nat.sub_self]; rfl
 have hX : ∀ K : Heap, (H0 ++ K)[A.lo.sid]? = some (some (0, [.v (.int .i64 c)] :: stampL (es'.map mRow) bs)) := fun K => by
  rw [List.getElem?_append_left (by omega), hS0]
 simp [Try.ntmps11, Try.results11, cSl, cn0, cI, cD, cR, cF, cA, hIt, hX]
 refine runN_of rfl rfl rfl rfl (by decide) rfl (hIt _) (hX _) stampM_rows (fun x hx => by obtain ⟨i, _, rfl⟩ := List.mem_map.1 hx; exact ⟨_, rfl⟩) ?_ ?_
 ·intro i k a b hi hb
  obtain ⟨⟨k, p⟩, he, hbi, rfl, rfl⟩ := stampM_inv hi
  have hpm := stampM_find hbn he hbi
  have hni : i ∉ is := fun hm => hb (List.mem_map.2 ⟨i, hm, by rw [hbi]; rfl⟩)
  have hil : i < es'.length := (List.getElem?_eq_some_iff.1 he).1
  have hnd2 : (is ++ [i]).Nodup := by
   rw [List.nodup_append]
   refine ⟨hnd, by simp, fun a ha b hb => ?_⟩
   simp at hb
   subst hb
   rintro rfl
   exact hni ha
  have hlt3 : ∀ j ∈ is ++ [i], j < es'.length := fun j hj => by
   rcases List.mem_append.1 hj with h | h
   ·exact hlt2 j h
   ·simp at h; subst h; exact hil
  have hlen : is.length + 1 ≤ es'.length := by
   have := below hnd2 hlt3
   simpa using this
  have hkz := ksZ_app (is := is) he
  have hbs : bsR bs (is ++ [i]) = bsR bs is ++ [.v (.int .i64 b)] := by simp [bsR, hbi]
  have hkl : (ksZ es' is).length = is.length := by simp [ksZ]
  have hset : ∀ K : Heap, (H0 ++ (some (0, [[.ptr A.lo.sid 0 0 0, .v (.int .i64 c), .v (.int .i64 c)], bsR bs is]) :: K)).set H.length (some (0, [[.ptr A.lo.sid 0 0 0, .v (.int .i64 c), .v (.int .i64 c)], bsR bs is ++ [.v (.int .i64 b)]])) = H0 ++ (some (0, [[.ptr A.lo.sid 0 0 0, .v (.int .i64 c), .v (.int .i64 c)], bsR bs is ++ [.v (.int .i64 b)]]) :: K) := fun K => by
   rw [List.set_append_right _ _ (by omega), hl0, Nat.sub_self]; rfl
  rw [hset]
  have hel := hpe.length_eq
  have hnext : ∀ (ρ : Env) (X : Heap), Ent H.length ([(3, outZ H.length (is.length + 1)), (9, .ptr H.length 1 0 0)], H0 ++ (some (0, [[.ptr A.lo.sid 0 0 0, .v (.int .i64 c), .v (.int .i64 c)], bsR bs (is ++ [i])]) :: outZK (ksZ es' is ++ [k]) (is.length + 1))) (ρ, X) → AgainE H.length (fun p : {is : List Nat // is.Nodup ∧ ∀ i ∈ is, i < es'.length} => ([(3, outZ H.length p.val.length), (9, .ptr H.length 1 0 0)], H0 ++ (some (0, [[.ptr A.lo.sid 0 0 0, .v (.int .i64 c), .v (.int .i64 c)], bsR bs p.val]) :: outZK (ksZ es' p.val) p.val.length))) (fun p => es'.length - p.val.length) (es'.length - is.length) ρ X := fun ρ X he =>
   ⟨⟨is ++ [i], hnd2, hlt3⟩, by simp; omega, by simp only [List.length_append, List.length_singleton, hkz]; exact he⟩
  have hIt2 : ∀ K : Heap, (H0 ++ (some (0, [[.ptr A.lo.sid 0 0 0, .v (.int .i64 c), .v (.int .i64 c)], bsR bs is ++ [.v (.int .i64 b)]]) :: K))[H.length]? = some (some (0, [[.ptr A.lo.sid 0 0 0, .v (.int .i64 c), .v (.int .i64 c)], bsR bs is ++ [.v (.int .i64 b)]])) := fun K => by
   rw [List.getElem?_append_right (by omega), hl0, Nat.sub_self]; rfl
  simp only [mV] at hpm
  generalize hZ : ksZ es' is = Z at *
  cases hn : is.length with
  | zero =>
   have hZ0 : Z = [] := List.length_eq_zero_iff.1 (by omega)
   subst hZ0
   rw [hn] at hnext
   simp [Try.ntmps11, Try.results11, cSl, cn0, cI, cD, cR, cF, cA, RunK, runL, hIt2, hX, hpm, outZ_0, outZK_0, aEntry, mV]
   refine hnext _ _ ?_
   rw [outZ_s, outZK_s, hbs]
   have k1 := Ent.killAt (n0 := H.length) (ρ := [(3, .osl (H.length + 2) 1 0 1 1), (9, .ptr H.length 1 0 0)]) (H := H0) (K := [some (0, [[.ptr A.lo.sid 0 0 0, .v (.int .i64 c), .v (.int .i64 c)], bsR bs is ++ [.v (.int .i64 b)]])]) (M := [some (1, [[.v (.int .i64 k)]])]) (o := some (1, [[.v (.int .i64 k)]]))
   refine Ent.trans k1 (Ent.env (by simp [hl0]))
  | succ m =>
   have hni1 : ¬ m + 1 + 1 ≤ m + 1 := by omega
   have hni2 : m + 1 + 1 ≤ 4294967296 := by omega
   rw [hn] at hkl
   rw [hn] at hnext
   have hsl0 : A.lo.sid < H0.length := by omega
   have hsg := (List.getElem?_eq_some_iff.1 hS0).2
   simp [Try.ntmps11, Try.results11, cSl, cn0, cI, cD, cR, cF, cA, RunK, runL, hIt2, hX, hpm, outZ_s, outZK_s, aEntry, mV, hni1, hni2, hkl, hl0, hsl, hS0, List.getElem?_append, List.set_append]
   refine hnext _ _ ?_
   rw [outZ_s, outZK_s, hbs]
   refine sp_kill (a := 2 * m + 1) (t := some (1, [[.v (.int .i64 k)]])) ?_ ?_
   ·simp [irow]
   ·simp [hl0]
    try omega
 ·intro hall
  have hel := hpe.length_eq
  have hal : ∀ i, i < es'.length → i ∈ is := fun i hi => by
   have h1 := hall i (.v (.int .i64 es'[i].1)) (mV es'[i].2) bs[i] (by rw [stampL_get (by simpa using hi) (by omega)]; simp [mRow])
   simp only [bsR, List.mem_map, AVal.v.injEq, Value.int.injEq, true_and] at h1
   obtain ⟨j, hj, he⟩ := h1
   have hjl := hlt2 j hj
   rw [List.getElem?_eq_getElem (by omega)] at he
   simp only [Option.getD_some] at he
   have := (List.getElem_inj hbn).1 he
   subst this
   exact hj
  have hZp : (ksZ es' is).Perm (SS.map (·.1)) := (ksZ_all hnd hlt2 hal).trans (hpe.map _)
  have hZs := sortZ_eq hZp
  have hkl : (ksZ es' is).length = is.length := by simp [ksZ]
  have hil : is.length = SS.length := by have := hZp.length_eq; simp at this; omega
  rw [← hZs, ← hil]
  have hbr : ∀ x ∈ bsR bs is, True := fun _ _ => trivial
  generalize hBS : bsR bs is = BS at *
  generalize ksZ es' is = Z at *
  have hfin : ∀ (ρ : Env) (K : Heap), Ent H.length (ρ, H ++ none :: K) (ρ, H0 ++ (some (0, [[.ptr A.lo.sid 0 0 0, .v (.int .i64 c), .v (.int .i64 c)], BS]) :: K)) := fun ρ K => by
   have e0 := Ent.killAt (n0 := H.length) (ρ := ρ) (H := H0) (K := []) (M := K) (o := some (0, [[.ptr A.lo.sid 0 0 0, .v (.int .i64 c), .v (.int .i64 c)], BS]))
   have e1 := Ent.hide (n0 := H.length) (ρ := ρ) (H := H0 ++ ([] ++ none :: K)) (id := A.lo.sid) (by rw [List.getElem?_append_left (by omega)]; exact hS0) (by simpa using hbl) (fun r hr => by obtain ⟨e, _, rfl⟩ := List.mem_map.1 hr; exact ⟨_, _, rfl⟩)
   have e2 := Ent.perm (n0 := H.length) (ρ := ρ) (H := (H0 ++ ([] ++ none :: K)).set A.lo.sid (some (0, es'.map mRow))) (id := A.lo.sid) (rows := es'.map mRow) (rows' := SS.map mRow) (List.getElem?_set_self (by simp; omega)) (hpe.map _) (fun r hr => by obtain ⟨e, _, rfl⟩ := List.mem_map.1 hr; rfl)
   refine Eq.mp ?_ (e2.trans (e1.trans e0))
   congr 2
   rw [List.set_set, List.set_append_left _ _ (by omega), ← hH0, List.set_set]
   have hg1 := (List.getElem?_eq_some_iff.1 hS).2
   rw [← hg1, List.set_getElem_self]
   rfl
  cases hn : is.length with
  | zero =>
   simp [Try.ntmps11, Try.results11, cSl, cn0, cI, cD, cR, cF, cA, RunK, runL, outZ_0, outZK_0, sortZI]
   exact hfin _ []
  | succ m =>
   rw [hn] at hkl
   have hm1 : m + 1 ≤ 1048576 := by omega
   have htk : List.take (m + 1) (Z.map (irow .i64)) = Z.map (irow .i64) := List.take_of_length_le (by simp [hkl])
   have hdk : List.drop (m + 1) (Z.map (irow .i64)) = [] := List.drop_eq_nil_of_le (by simp [hkl])
   have hob : ∀ (J : Option (Nat × List Row)), obj (H0 ++ J :: (List.replicate (2 * m + 1) none ++ [some (1, Z.map (irow .i64))])) (H.length + (2 * m + 1 + 1)) = some (1, Z.map (irow .i64)) := fun J => by
    unfold obj
    rw [List.getElem?_append_right (by omega), hl0, Nat.add_sub_cancel_left, List.getElem?_cons_succ, List.getElem?_append_right (by simp)]
    simp
   have hse : ∀ (J : Option (Nat × List Row)) (o : Option (Nat × List Row)), (H0 ++ J :: (List.replicate (2 * m + 1) none ++ [some (1, Z.map (irow .i64))])).set (H.length + (2 * m + 1 + 1)) o = H0 ++ J :: (List.replicate (2 * m + 1) none ++ [o]) := fun J o => by
    rw [List.set_append_right _ _ (by omega), hl0, Nat.add_sub_cancel_left, List.set_cons_succ, List.set_append_right _ _ (by simp)]
    simp
   have hob' := fun J => obj_get (hob J)
   simp [Try.ntmps11, Try.results11, cSl, cn0, cI, cD, cR, cF, cA, RunK, runL, outZ_s, outZK_s, sortZI, hob', hkl, hm1, htk, hdk, hse, irow64_dec]
   exact hfin _ _
end
end
section
set_option linter.unusedSimpArgs false
set_option linter.unusedVariables false
def OffO : Type := {o : Option (Nat × List Row) // ∀ q, o = some q → q.1 ≠ 0 ∧ q.1 ≠ 1 ∧ q.1 ≠ 5 ∧ q.1 ≠ 19}
def KN (H H' : Heap) : Prop := ∀ (i : Nat) (rows : OffO), H[i]? = some rows.1 → H'[i]? = some rows.1
theorem KN.refl (H : Heap) : KN H H := fun _ _ h => h
theorem KN.trans {A B C : Heap} (a : KN A B) (b : KN B C) : KN A C := fun i r h => b i r (a i r h)
theorem KN.app {H K : Heap} : KN H (H ++ K) := fun i r h => by rw [List.getElem?_append_left (List.getElem?_eq_some_iff.1 h).1, h]
theorem KN.wr {H0 H : Heap} {mid : Nat} {L' : Lo} (a : KN H0 H) (hc : ∀ i (rows : OffO), H0[i]? = some rows.1 → L'.cell mid i = none) : KN H0 (Go.Proofs.Ytibpipgabcpaoaa.wr H mid L') := fun i r h => by rw [wr_ne (hc i r h), a i r h]
theorem KN.set {H0 H : Heap} {j : Nat} {o : Option (Nat × List Row)} (a : KN H0 H) (hj : ∀ rows : OffO, H0[j]? ≠ some rows.1) : KN H0 (H.set j o) := fun i r h => by
 rw [List.getElem?_set_ne, a i r h]
 rintro rfl
 exact hj r h
theorem cell_on {mid i : Nat} {L : Lo} {x : Nat × List Row} (h : L.cell mid i = some x) : x.1 = 5 ∨ x.1 = 1 ∨ x.1 = 19 := by
 unfold Lo.cell at h
 split at h
 ·cases h; exact .inl rfl
 ·split at h
  ·cases h; exact .inr (.inl rfl)
  ·obtain ⟨q, _, rfl⟩ := Option.map_eq_some_iff.1 h
   exact .inr (.inr rfl)
theorem freeN {H : Heap} {mid : Nat} {A : Ab} (h : RG mid (H, A)) : ∀ i (rows : OffO), H[i]? = some rows.1 → A.lo.cell mid i = none := fun i rows hi => by
 cases hc : A.lo.cell mid i with
 | none => rfl
 | some y =>
  have := h.1.st.at' i y hc
  simp only at this
  rw [hi] at this
  have h1 := rows.2 y (Option.some.inj this)
  have h2 := cell_on hc
  omega
theorem mapN {H : Heap} {mid : Nat} {A : Ab} (h : RG mid (H, A)) {s : Int} {m : Nat} {es : En} (hg : getK s A.sps = some (m, es)) : ∀ rows : OffO, H[m]? ≠ some rows.1 := fun rows hi => by
 have := h.1.en _ (getK_mem hg)
 simp only at this
 rw [hi] at this
 have h1 := rows.2 _ (Option.some.inj this)
 simp at h1
theorem sidN {H : Heap} {mid : Nat} {A : Ab} (h : RG mid (H, A)) : ∀ rows : OffO, H[A.lo.sid]? ≠ some rows.1 := fun rows hi => by
 have := h.1.sp
 simp only at this
 rw [hi] at this
 have h1 := rows.2 _ (Option.some.inj this)
 simp at h1
theorem pgN {H : Heap} {mid p : Nat} {A : Ab} {q : Pg} (h : RG mid (H, A)) (hq : getK p A.lo.pgs = some q) : ∀ rows : OffO, H[p]? ≠ some rows.1 := fun rows hi => by
 have := (h.1.st.pg hq).1
 simp only at this
 rw [hi] at this
 have h1 := rows.2 _ (Option.some.inj this)
 simp at h1
theorem likeN {H : Heap} {mid : Nat} {A : Ab} {L' : Lo} (h : RG mid (H, A)) (a : Like A.lo L') (K : Heap) : KN H (wr (H ++ K) mid L') := KN.app.wr fun i r hi => a.none (freeN h i r hi)
theorem kn_make {H H' : Heap} {mid : Nat} {A : Ab} (h : RG mid (H, A)) {r : AVal} (hr : makeM [.ptr mid 5 0 0] H = some (r, H')) : KN H H' := by
 have hmp : mpAt H A.lo.sid = some (A.sps.map fun x : Int × (Nat × En) => (x.1, x.2.1)) := mpAt_iff.2 ⟨by rw [h.1.sp, List.map_map]; rfl, by rw [List.map_map]; exact h.1.nds⟩
 have hev : makeM [.ptr mid 5 0 0] H = some (makeR H A.lo.sid (A.sps.map fun x : Int × (Nat × En) => (x.1, x.2.1))) := by
  simp only [makeM, stAt_iff.2 h.1.st, Option.bind_some, hmp, Option.map_some]
 rw [hev] at hr
 unfold makeR at hr
 split at hr
 ·cases hr; exact KN.refl _
 ·simp only [Option.some.injEq, Prod.mk.injEq] at hr
  obtain ⟨_, rfl⟩ := hr
  exact KN.app.set (sidN h)
theorem kn_fork {H H' : Heap} {mid : Nat} {A : Ab} (h : RG mid (H, A)) {s : Int} {r : AVal} (hr : forkM [.ptr mid 5 0 0, .v (.int .i64 s)] H = some (r, H')) : KN H H' := by
 simp only [forkM, rg_at h, Option.map_some, Option.some.injEq] at hr
 unfold forkR at hr
 split at hr
 ·cases hr; exact KN.refl _
 ·split at hr
  ·cases hr; exact KN.refl _
  ·simp only [Prod.mk.injEq] at hr
   obtain ⟨_, rfl⟩ := hr
   exact (((KN.refl H).set (sidN h)).trans KN.app).wr fun i r hi => Less.up i (freeN h i r hi)
theorem kn_drop {H H' : Heap} {mid : Nat} {A : Ab} (h : RG mid (H, A)) {s : Int} {r : AVal} (hr : dropM [.ptr mid 5 0 0, .v (.int .i64 s)] H = some (r, H')) : KN H H' := by
 simp only [dropM, rg_at h, Option.map_some, Option.some.injEq] at hr
 unfold dropR at hr
 cases hg : getK s A.sps with
 | none => rw [hg] at hr; cases hr; exact KN.refl _
 | some x =>
  obtain ⟨m, es⟩ := x
  rw [hg] at hr
  simp only [Prod.mk.injEq] at hr
  obtain ⟨_, rfl⟩ := hr
  have k1 : KN H (killH H mid A.lo (A.lo.dn fun p => cntE p es)) := fun i r hi => by
   rw [killH_get (List.getElem?_eq_some_iff.1 hi).1, freeN h i r hi]
   simpa using hi
  exact (((k1.set (mapN h hg)).set (sidN h)).trans KN.app).wr fun i r hi => Less.dn i (freeN h i r hi)
theorem kn_putS {mid mp : Nat} {k rg : Int} {d : List Int} {x : Ms} {H : Heap} (a : KN H x.H) (hf : ∀ p ∈ x.L.pgs.map (·.1), p < x.H.length) (hm : ∀ rows : OffO, H[mp]? ≠ some rows.1) (hc : ∀ i (rows : OffO), H[i]? = some rows.1 → x.L.cell mid i = none) :
  KN H (putS mid mp k d rg x).H ∧ ∀ i (rows : OffO), H[i]? = some rows.1 → (putS mid mp k d rg x).L.cell mid i = none := by
 have hc2 : ∀ i (rows : OffO), H[i]? = some rows.1 → (x.L.addL x.H.length d).cell mid i = none := fun i rows hi => addL_cell hf (List.getElem?_eq_some_iff.1 (a i rows hi)).1 (hc i rows hi)
 refine ⟨?_, hc2⟩
 have k1 : KN H (x.L.addH x.H d) := fun i r hi => by rw [addH_get (List.getElem?_eq_some_iff.1 (a i r hi)).1 (hc i r hi), a i r hi]
 exact (k1.wr hc2).set hm
theorem kn_map {H H' : Heap} {mid : Nat} {A : Ab} (h : RG mid (H, A)) {s first n rights : Int} {r : AVal} (hr : mapM [.ptr mid 5 0 0, .v (.int .i64 s), .v (.int .i64 first), .v (.int .i64 n), .v (.int .i64 rights)] H = some (r, H')) : KN H H' := by
 simp only [mapM, rg_at h, Option.map_some, Option.some.injEq] at hr
 unfold mapR at hr
 split at hr
 ·cases hr; exact KN.refl _
 rename_i hsp
 cases hg : getK s A.sps with
 | none => unfold spanE at hsp; rw [hg] at hsp; simp at hsp
 | some x =>
  obtain ⟨m, es⟩ := x
  rw [hg] at hr
  simp only at hr
  split at hr
  ·simp only [Prod.mk.injEq] at hr
   obtain ⟨_, rfl⟩ := hr
   exact KN.app
  ·rename_i hhit
   split at hr
   case isFalse =>
    simp only [Prod.mk.injEq] at hr
    obtain ⟨_, rfl⟩ := hr
    exact KN.app
   rename_i hroom
   have hb : ¬ spanBad first n rights := fun hb => by
    unfold spanE at hsp
    rw [hg] at hsp
    simp only at hsp
    rw [if_pos hb] at hsp
    simp at hsp
   unfold spanBad at hb
   obtain ⟨N, rfl⟩ := Int.eq_ofNat_of_zero_le (show 0 ≤ n by omega)
   simp only [Int.toNat_natCast] at hr hhit
   have hno : ∀ i : Nat, i < N → getK (first + (i : Nat)) es = none := fun i hi => by
    cases e : getK (first + (i : Nat)) es with
    | none => rfl
    | some y =>
     exfalso
     apply hhit
     unfold hitB
     rw [List.any_eq_true]
     exact ⟨i, List.mem_range.2 hi, by rw [e]; rfl⟩
   have hst : stS m s A ⟨H ++ List.replicate N none, A.lo, es⟩ = A := by
    unfold stS
    rw [setK_self h.1.nds hg]
   have hx : RG mid ((⟨H ++ List.replicate N none, A.lo, es⟩ : Ms).H, stS m s A ⟨H ++ List.replicate N none, A.lo, es⟩) := by
    rw [hst]; exact rg_app h
   have hsx : ∀ j, j ≤ N → RG mid ((mapS mid m first rights ⟨H ++ List.replicate N none, A.lo, es⟩ j).H, stS m s A (mapS mid m first rights ⟨H ++ List.replicate N none, A.lo, es⟩ j)) := fun j hj =>
    (mapS_spec (rg := rights) (first := first) hx ⟨_, hg⟩ (by omega) (by omega) j (by omega) (by simp only; omega) (fun i hi => hno i (by omega))).1
   simp only [Prod.mk.injEq] at hr
   obtain ⟨_, rfl⟩ := hr
   have key : ∀ j, j ≤ N → KN H (mapS mid m first rights ⟨H ++ List.replicate N none, A.lo, es⟩ j).H ∧ ∀ i (rows : OffO), H[i]? = some rows.1 → (mapS mid m first rights ⟨H ++ List.replicate N none, A.lo, es⟩ j).L.cell mid i = none := by
    intro j
    induction j with
    | zero => exact fun _ => ⟨KN.app, freeN h⟩
    | succ j ih =>
     intro hj
     obtain ⟨k1, k2⟩ := ih (by omega)
     have hrg := hsx j (by omega)
     exact kn_putS k1 (fun p => hrg.1.st.id_lt) (mapN h hg) k2
   exact (key N (Nat.le_refl _)).1
theorem kn_put {H : Heap} {mid : Nat} {A : Ab} (h : RG mid (H, A)) {s at_ rights : Int} {d : List Int} {r : AVal} {H' : Heap} (hr : putR1 H mid A s at_ rights d = (r, H')) : KN H H' := by
 unfold putR1 at hr
 split at hr
 ·cases hr; exact KN.refl _
 cases hg : getK s A.sps with
 | none => rw [hg] at hr; cases hr; exact KN.refl _
 | some x =>
  obtain ⟨m, es⟩ := x
  rw [hg] at hr
  simp only at hr
  split at hr
  ·cases hr; exact KN.refl _
  ·split at hr
   ·cases hr; exact KN.app
   ·split at hr
    ·simp only [Prod.mk.injEq] at hr
     obtain ⟨_, rfl⟩ := hr
     exact (kn_putS (x := ⟨H ++ [some (2, [boxE none]), some (1, yRow (pad d))], A.lo, es⟩) KN.app (fun p hp => by have := h.1.st.id_lt hp; simp only at this; simp; omega) (mapN h hg) (freeN h)).1
    ·cases hr; exact KN.app
theorem kn_copyX {mid : Nat} {s k : Int} {X : Heap × Ab} (h : RG mid X) : KN X.1 (copyX mid s k X).1 := by
 unfold copyX
 cases hg : getK s X.2.sps with
 | none => exact KN.refl _
 | some x =>
  obtain ⟨m, es⟩ := x
  simp only
  cases hk : getK k es with
  | none => exact KN.refl _
  | some y =>
   obtain ⟨p, rg⟩ := y
   simp only
   obtain ⟨q, hq⟩ := h.2.page hg hk
   rw [hq]
   simp only
   split
   case isFalse => exact KN.app
   intro i rows hi
   have hil := (List.getElem?_eq_some_iff.1 hi).1
   have hc := freeN h i rows hi
   have hc1 : (X.2.lo.setP p (lessU q)).cell mid i = none := Less.setP i hc
   have hst : ∀ x ∈ (X.2.lo.setP p (lessU q)).pgs.map (·.1), x < X.1.length + 1 := fun x hx => by simp only [Lo.setP, setK_keys] at hx; have := h.1.st.id_lt hx; omega
   have hc2 := addL_cell (d := q.data) hst (show i < X.1.length + 1 by omega) hc1
   have him : m ≠ i := by
    rintro rfl
    exact mapN h hg rows hi
   have hip : p ≠ i := by
    rintro rfl
    exact pgN h hq rows hi
   rw [List.getElem?_set_ne him, List.getElem?_set_ne (by omega), wr_ne hc2, addH_get (mid := mid) (by simp; omega) hc1, List.getElem?_append_left (by simpa using hil), List.getElem?_set_ne hip, hi]
theorem kn_putX {mid : Nat} {s k b : Int} {t : Nat} {X : Heap × Ab} (h : RG mid X) : KN X.1 (putX mid s k t b X).1 := by
 unfold putX
 cases hg : getK s X.2.sps with
 | none => exact KN.refl _
 | some x =>
  obtain ⟨m, es⟩ := x
  simp only
  cases hk : getK k es with
  | none => exact KN.refl _
  | some y =>
   obtain ⟨p, rg⟩ := y
   simp only
   obtain ⟨q, hq⟩ := h.2.page hg hk
   rw [hq]
   simp only
   have lk : Like X.2.lo (X.2.lo.ask p q) := Like.ask hq
   obtain ⟨q', hq', _⟩ := lk.dt p q hq
   rw [hq']
   simp only
   exact ((KN.refl _).wr fun i r hi => lk.none (freeN h i r hi)).set (pgN h hq)
theorem kn_write {H H' : Heap} {mid : Nat} {A : Ab} (h : RG mid (H, A)) {s addr : Int} {d : List Int} {r : AVal} (hw : IntKind.i64.wrap addr = addr) (hr : writeR H mid A s addr d = (r, H')) : KN H H' := by
 unfold writeR at hr
 cases hg : getK s A.sps with
 | none => rw [hg] at hr; cases hr; exact KN.refl _
 | some x =>
  obtain ⟨m, es⟩ := x
  rw [hg] at hr
  simp only at hr
  split at hr
  ·cases hr; exact KN.refl _
  ·rename_i hlen
   split at hr
   ·rename_i hmay
    have hsp := may_span (es := es) (n := (d.length : Int)) (by omega) hw hmay
    have hr1 : RG mid (H ++ List.replicate (mayR es 2 addr d.length).2 none, A) := rg_app h
    have hk1 : KN H (H ++ List.replicate (mayR es 2 addr d.length).2 none) := KN.app
    refine hk1.trans ?_
    generalize H ++ List.replicate (mayR es 2 addr d.length).2 none = G at *
    unfold layR at hr
    rw [hg] at hr
    simp only at hr
    split at hr
    ·rename_i hroom
     simp only [Prod.mk.injEq] at hr
     obtain ⟨_, rfl⟩ := hr
     by_cases h0 : d.length = 0
     ·rw [h0]; exact KN.refl _
     ·have hk3 : 0 ≤ addr := by
       rcases hsp with ⟨h1, _⟩ | ⟨_, _, k3, _⟩ <;> omega
      have hI := lay_inv0 hr1 hg hsp hroom h0
      have key : ∀ j, j ≤ d.length → KN G (layN mid s addr d (G, A) j).1 := by
       intro j
       induction j with
       | zero => exact fun _ => KN.refl _
       | succ j ih =>
        intro hj
        have ik := layN_inv (d := d) hI hk3 j (by omega)
        have hc := ik.copy hk3 (by omega)
        exact ((ih (by omega)).trans (kn_copyX ik.rg)).trans (kn_putX hc)
      exact key _ (Nat.le_refl _)
    ·cases hr; exact KN.refl _
   ·cases hr; exact KN.app
theorem kn_read {H H' : Heap} {mid : Nat} {A : Ab} (h : RG mid (H, A)) {s addr n : Int} {r : AVal} (hr : readM [.ptr mid 5 0 0, .v (.int .i64 s), .v (.int .i64 addr), .v (.int .i64 n)] H = some (r, H')) : KN H H' := by
 simp only [readM, rg_at h, Option.bind_some] at hr
 split at hr
 case isFalse => cases hr
 simp only [Option.some.injEq] at hr
 unfold readR at hr
 split at hr
 ·cases hr; exact KN.refl _
 ·split at hr
  ·cases hr; exact KN.refl _
  ·split at hr
   ·simp only [Prod.mk.injEq] at hr
    obtain ⟨_, rfl⟩ := hr
    exact (likeN h (Like.fetch _ _ _ _) _).trans KN.app
   ·cases hr; exact KN.app
theorem kn_rec {H H' : Heap} {mid : Nat} {A : Ab} (h : RG mid (H, A)) {n : Int} {r : AVal} (hr : recM [.ptr mid 5 0 0, .v (.int .i64 n)] H = some (r, H')) : KN H H' := by
 obtain ⟨k, H2, L2, h1, lk, _, _, _, h6⟩ := rec_ev h (n := n)
 rw [h1] at hr
 cases hr
 rw [h6]
 exact (KN.refl H).wr fun i r hi => lk.none (freeN h i r hi)
theorem kn_load {H H' : Heap} {mid : Nat} {A : Ab} (h : RG mid (H, A)) {s addr want : Int} {r : AVal} (hr : loadM [.ptr mid 5 0 0, .v (.int .i64 s), .v (.int .u32 addr), .v (.int .i64 want)] H = some (r, H')) : KN H H' := by
 simp only [loadM, rg_at h, Option.bind_some] at hr
 split at hr
 case isFalse => cases hr
 simp only [Option.some.injEq] at hr
 unfold loadR at hr
 split at hr
 ·cases hr; exact KN.refl _
 ·split at hr
  ·cases hr; exact KN.refl _
  ·split at hr
   ·simp only [Prod.mk.injEq] at hr
    obtain ⟨_, rfl⟩ := hr
    exact (likeN h (Like.fetch _ _ _ _) _).trans KN.app
   ·cases hr; exact KN.app
def fpP (mid : Nat) (A : Ab) (i : Nat) : Prop := (∃ x, A.lo.cell mid i = some x) ∨ i = A.lo.sid ∨ ∃ x ∈ A.sps, x.2.1 = i
theorem fp_live {H : Heap} {mid : Nat} {A : Ab} (h : RG mid (H, A)) {i : Nat} (hi : fpP mid A i) : ∃ q : Nat × List Row, H[i]? = some (some q) ∧ ∀ row ∈ q.2, ∀ a ∈ row, bareA a = true := by
 rcases hi with ⟨x, hx⟩ | rfl | ⟨x, hx, rfl⟩
 ·refine ⟨x, h.1.st.at' i x hx, ?_⟩
  unfold Lo.cell at hx
  split at hx
  ·cases hx
   intro row hr a ha
   simp only [List.mem_singleton] at hr
   subst hr
   simp only [Lo.row, List.mem_cons, List.not_mem_nil, or_false] at ha
   rcases ha with rfl | rfl | rfl | rfl | rfl
   ·rfl
   ·rfl
   ·rfl
   ·unfold Lo.pv; split <;> rfl
   ·rfl
  ·split at hx
   ·cases hx
    intro row hr a ha
    obtain ⟨z, _, rfl⟩ := List.mem_map.1 hr
    simp only [pidRow, List.mem_singleton] at ha
    subst ha; rfl
   ·obtain ⟨q, _, rfl⟩ := Option.map_eq_some_iff.1 hx
    intro row hr a ha
    simp only [List.mem_singleton] at hr
    subst hr
    unfold pgRow at ha
    rcases List.mem_append.1 ha with ha | ha
    ·obtain ⟨z, _, rfl⟩ := List.mem_map.1 ha; rfl
    ·simp only [List.mem_cons, List.not_mem_nil, or_false] at ha
     rcases ha with rfl | rfl | rfl <;> rfl
 ·refine ⟨_, h.1.sp, ?_⟩
  intro row hr a ha
  obtain ⟨z, _, rfl⟩ := List.mem_map.1 hr
  simp only [spRow, spV, List.mem_cons, List.not_mem_nil, or_false] at ha
  rcases ha with rfl | rfl <;> rfl
 ·refine ⟨_, h.1.en x hx, ?_⟩
  intro row hr a ha
  obtain ⟨z, _, rfl⟩ := List.mem_map.1 hr
  simp only [enRow, enV, List.mem_cons, List.not_mem_nil, or_false] at ha
  rcases ha with rfl | rfl
  ·rfl
  ·simp [bareA, bareC]
theorem rg_same {H H' : Heap} {mid : Nat} {A : Ab} (h : RG mid (H, A)) (hs : ∀ i, fpP mid A i → H'[i]? = H[i]?) : RG mid (H', A) := by
 refine ⟨⟨⟨h.1.st.wf, fun i x hx => ?_⟩, ?_, fun x hx => ?_, h.1.nds, h.1.ndm, h.1.ndk⟩, h.2⟩
 ·rw [hs i (.inl ⟨x, hx⟩)]; exact h.1.st.at' i x hx
 ·rw [hs _ (.inr (.inl rfl))]; exact h.1.sp
 ·rw [hs _ (.inr (.inr ⟨x, hx, rfl⟩))]; exact h.1.en x hx
def Apart (m1 : Nat) (A : Ab) (m2 : Nat) (B : Ab) : Prop := ∀ i, fpP m1 A i → ¬ fpP m2 B i
theorem Apart.symm {m1 m2 : Nat} {A B : Ab} (h : Apart m1 A m2 B) : Apart m2 B m1 A := fun i h1 h2 => h i h2 h1
structure Two (m1 m2 : Nat) (H : Heap) (A B : Ab) : Prop where
 a : RG m1 (H, A)
 b : RG m2 (H, B)
 ab : Apart m1 A m2 B
theorem Two.swap {m1 m2 : Nat} {H : Heap} {A B : Ab} (h : Two m1 m2 H A B) : Two m2 m1 H B A := ⟨h.b, h.a, h.ab.symm⟩
theorem Two.app {m1 m2 : Nat} {H : Heap} {A B : Ab} (h : Two m1 m2 H A B) (K : Heap) : Two m1 m2 (H ++ K) A B := ⟨rg_app h.a, rg_app h.b, h.ab⟩
noncomputable def keepS (mid : Nat) (x : Option Nat) (H : Heap) (i : Nat) : Bool := match repAt H mid with
 | some A => @decide (fpP mid A i ∨ x = some i) (Classical.propDecidable _)
 | none => true
theorem keepS_t {mid : Nat} {x : Option Nat} {H : Heap} {A : Ab} (h : RG mid (H, A)) {i : Nat} : keepS mid x H i = true ↔ fpP mid A i ∨ x = some i := by
 unfold keepS
 rw [rg_at h]
 simp
theorem hide_rg {mid : Nat} {x : Option Nat} {H : Heap} {A : Ab} (h : RG mid (H, A)) : RG mid (hideH (keepS mid x H) H, A) :=
 rg_same h fun i hi => by
  rw [hideH_get, (keepS_t h).2 (.inl hi)]
  cases H[i]? <;> rfl
theorem hid_two {m1 m2 : Nat} {x : Option Nat} {H H' : Heap} {A A' B : Ab} (h : Two m1 m2 H A B) (hx : ∀ i, x = some i → ¬ fpP m2 B i) (h' : RG m1 (H', A')) (hk : KN (hideH (keepS m1 x H) H) H') :
  Two m1 m2 (showH (keepS m1 x H) H H') A' B := by
 have hno : ∀ i, fpP m2 B i → keepS m1 x H i = false ∧ i < H.length ∧ H'[i]? = some none := fun i hi => by
  have h1 : keepS m1 x H i = false := by
   cases e : keepS m1 x H i with
   | false => rfl
   | true =>
    exfalso
    rcases (keepS_t h.a).1 e with h2 | h2
    ·exact h.ab i h2 hi
    ·exact hx i h2 hi
  obtain ⟨q, hq, _⟩ := fp_live h.b hi
  have hl := (List.getElem?_eq_some_iff.1 hq).1
  exact ⟨h1, hl, hk i ⟨none, fun q h => by cases h⟩ (hideH_no h1 hl)⟩
 have hap : Apart m1 A' m2 B := fun i h1 h2 => by
  obtain ⟨q, hq, _⟩ := fp_live h' h1
  rw [(hno i h2).2.2] at hq; cases hq
 refine ⟨rg_same h' fun i hi => ?_, rg_same h.b fun i hi => ?_, hap⟩
 ·obtain ⟨q, hq, hb⟩ := fp_live h' hi
  rw [showH_get, hq]
  have hbo : bareO (some q) = some q := bareO_of (by
   rw [List.all_eq_true]; intro row hr
   rw [List.all_eq_true]; exact hb row hr)
  simp only [Option.map_some, hbo]
  cases e : H[i]? with
  | none => rfl
  | some o =>
   simp only
   cases ek : keepS m1 x H i with
   | true => rfl
   | false =>
    have hl := (List.getElem?_eq_some_iff.1 e).1
    rw [hk i ⟨none, fun q h => by cases h⟩ (hideH_no ek hl)] at hq; cases hq
 ·obtain ⟨h1, h2, h3⟩ := hno i hi
  rw [showH_get, h3, List.getElem?_eq_getElem h2]
  simp [h1]
theorem hid_ev {F : Row → Heap → Option (AVal × Heap)} {args : Row} {K : Row → Heap → Nat → Bool} {H H' : Heap} {r : AVal} (h : F args (hideH (K args H) H) = some (r, H')) (hb : bareA r = true) : hidF K F args H = some (r, showH (K args H) H H') := by
 unfold hidF
 rw [h]
 simp only
 rw [if_pos hb]
end
section
set_option linter.unusedSimpArgs false
set_option linter.unusedVariables false
abbrev View := Int → Option (List Int × Int)
def ldV (V : View) (addr want : Int) : Int × Int := match V (addr / 16) with
 | some x => if iand .i64 x.2 want = want then ((x.1[(addr % 16).toNat]?).getD 0, 0) else (0, 11)
 | none => (0, 11)
def stV (V : View) (addr b : Int) : Int × View := match V (addr / 16) with
 | some x => if iand .i64 x.2 2 = 2 then (0, fun j => (V j).map fun x => (patN j addr [b] 1 x.1, x.2)) else (11, V)
 | none => (11, V)
theorem ld_of (A : Ab) (s addr want : Int) : ldV (vw A s) addr want = if okV A s want (addr / 16) = true then (bt A s addr, 0) else (0, 11) := by
 unfold ldV okV bt
 cases vw A s (addr / 16) with
 | none => simp
 | some x => simp
theorem load_v {H : Heap} {mid : Nat} {A : Ab} (h : RG mid (H, A)) {s addr want : Int} (hs : has A s) (hw : 0 ≤ addr ∧ addr < 4294967296) (hwt : 1 ≤ want ∧ want ≤ 7) :
  ∃ H' L', loadM [.ptr mid 5 0 0, .v (.int .i64 s), .v (.int .u32 addr), .v (.int .i64 want)] H = some (.v (.tuple #[.int .u8 (ldV (vw A s) addr want).1, .int .i64 (ldV (vw A s) addr want).2]), H') ∧ Like A.lo L' ∧ RG mid (H', { A with lo := L' }) ∧ KN H H' := by
 obtain ⟨b, e, H', L', h1, lk, h2, h3, _⟩ := load_ev h (s := s) (want := want) hw
 have kn := kn_load h h1
 refine ⟨H', L', ?_, lk, h2, kn⟩
 rw [h1, ld_of]
 rcases h3 with ⟨h4, _⟩ | ⟨_, h4, _⟩ | ⟨_, _, ⟨h4, rfl, rfl⟩ | ⟨h4, rfl, rfl⟩⟩
 ·exact absurd hs h4
 ·omega
 ·rw [if_pos h4]
 ·rw [h4]; rfl
theorem store_v {H : Heap} {mid : Nat} {A : Ab} (h : RG mid (H, A)) {s addr b : Int} (hs : has A s) (hw : 0 ≤ addr ∧ addr < 4294967296) (hr : (A.lo.pgs.length : Int) + 1 ≤ A.lo.fr + A.lo.sl) :
  ∃ H' A', storeM [.ptr mid 5 0 0, .v (.int .i64 s), .v (.int .u32 addr), .v (.int .u8 b)] H = some (.v (.int .i64 (stV (vw A s) addr b).1), H') ∧ RG mid (H', A') ∧ Eff s A A' ∧ vw A' s = (stV (vw A s) addr b).2 ∧ KN H H' := by
 have hw64 : IntKind.i64.wrap addr = addr := w64 (by omega) (by omega)
 have hr1 : RG mid (H ++ [some (1, yRow [b])], A) := rg_app h
 obtain ⟨e, H', A', h1, h2, h3, h4⟩ := write_ev hr1 (s := s) (addr := addr) (d := [b]) hw64
 have hst : storeM [.ptr mid 5 0 0, .v (.int .i64 s), .v (.int .u32 addr), .v (.int .u8 b)] H = some (.v (.int .i64 e), H') := by
  simp only [storeM, rg_at h, Option.bind_some]
  rw [if_pos hw, h1]
 have kn : KN H H' := (KN.app (K := [some (1, yRow [b])])).trans (kn_write hr1 hw64 h1)
 have hok : ∀ i : Nat, i < ([b] : List Int).length → (addr + (i : Int)) / 16 = addr / 16 := fun i hi => by
  have : i = 0 := by simp at hi; omega
  subst this; simp
 refine ⟨H', A', ?_, h2, h3, ?_, kn⟩
 ·rw [hst]
  unfold stV
  rcases h4 with ⟨rfl, _, _, h5, _⟩ | ⟨h5, _, ⟨_, h6⟩ | ⟨_, h6⟩ | ⟨rfl, _, h6⟩ | ⟨rfl, _, h6⟩⟩
  ·have := h5 0 (by simp)
   rw [hok 0 (by simp)] at this
   unfold okV at this
   cases hv : vw A s (addr / 16) with
   | none => rw [hv] at this; cases this
   | some x =>
    rw [hv] at this
    simp only [beq_iff_eq] at this
    simp only [if_pos this]
  ·exact absurd hs h6
  ·simp at h6
  ·have hno : ¬ okV A s 2 (addr / 16) = true := fun hc => h6 fun i hi => by rw [hok i hi]; exact hc
   unfold okV at hno
   cases hv : vw A s (addr / 16) with
   | none => rfl
   | some x =>
    rw [hv] at hno
    simp only [beq_iff_eq] at hno
    simp only [if_neg hno]
  ·exfalso
   have hg : ∃ y, getK s A.sps = some y := by
    unfold has at hs
    exact Option.isSome_iff_exists.1 hs
   obtain ⟨⟨m, es⟩, hg⟩ := hg
   unfold writeR at h1
   rw [hg] at h1
   simp only at h1
   rw [if_neg (by simp)] at h1
   rw [if_pos ((may_iff h.2 (want := 2) (addr := addr) hg ([b] : List Int).length).2 h6)] at h1
   unfold layR at h1
   rw [hg] at h1
   simp only at h1
   rw [if_pos] at h1
   ·simp at h1
   ·have h7 : shT A es addr ([b] : List Int).length ≤ 1 := by
     unfold shT
     split
     ·omega
     ·have := shN_le A.lo es ((addr + (([b] : List Int).length : Nat) - 1) / 16 + 1 - addr / 16).toNat (addr / 16).toNat
      have h8 : ((addr + (([b] : List Int).length : Nat) - 1) / 16 + 1 - addr / 16).toNat = 1 := by simp; omega
      omega
    omega
 ·unfold stV
  rcases h4 with ⟨rfl, _, _, h5, h6⟩ | ⟨h5, rfl, h6⟩
  ·have := h5 0 (by simp)
   rw [hok 0 (by simp)] at this
   unfold okV at this
   cases hv : vw A s (addr / 16) with
   | none => rw [hv] at this; cases this
   | some x =>
    rw [hv] at this
    simp only [beq_iff_eq] at this
    simp only [if_pos this]
    funext j
    exact h6 j
  ·cases hv : vw A' s (addr / 16) with
   | none => rfl
   | some x =>
    simp only
    split
    ·rename_i hx
     exfalso
     have hyes : ∀ i : Nat, i < ([b] : List Int).length → okV A' s 2 ((addr + i) / 16) = true := fun i hi => by
      rw [hok i hi]
      unfold okV
      rw [hv]
      simpa using hx
     rcases h6 with ⟨_, h6⟩ | ⟨_, h6⟩ | ⟨_, _, h6⟩ | ⟨rfl, _, h6⟩
     ·exact h6 hs
     ·simp at h6
     ·exact h6 hyes
     ·have hg : ∃ y, getK s A'.sps = some y := by
       unfold has at hs
       exact Option.isSome_iff_exists.1 hs
      obtain ⟨⟨m, es⟩, hg⟩ := hg
      unfold writeR at h1
      rw [hg] at h1
      simp only at h1
      rw [if_neg (by simp)] at h1
      rw [if_pos ((may_iff h.2 (want := 2) (addr := addr) hg ([b] : List Int).length).2 h6)] at h1
      unfold layR at h1
      rw [hg] at h1
      simp only at h1
      rw [if_pos] at h1
      ·simp at h1
      ·have h7 : shT A' es addr ([b] : List Int).length ≤ 1 := by
        unfold shT
        split
        ·omega
        ·have := shN_le A'.lo es ((addr + (([b] : List Int).length : Nat) - 1) / 16 + 1 - addr / 16).toNat (addr / 16).toNat
         have h8 : ((addr + (([b] : List Int).length : Nat) - 1) / 16 + 1 - addr / 16).toNat = 1 := by simp; omega
         omega
       omega
    ·rfl
def Six (A : Ab) : Prop := ∀ t k, vw A t k ≠ none → 0 ≤ k ∧ k < 6
theorem cnt_some {p : Nat} {sps : Sps} (h : 1 ≤ cntS p sps) : ∃ x ∈ sps, ∃ e ∈ x.2.2, e.2.1 = p := by
 refine Classical.byContradiction fun hn => ?_
 have h0 : cntS p sps = 0 := by
  unfold cntS
  rw [List.sum_eq_zero_iff_forall_eq_nat]
  intro n hm
  obtain ⟨x, hx, rfl⟩ := List.mem_map.1 hm
  unfold cntE
  rw [List.countP_eq_zero]
  intro e he hc
  exact hn ⟨x, hx, e, he, by simpa using hc⟩
 omega
theorem flat_le {α β : Type} {f : α → List β} {c : Nat} : ∀ {l : List α}, (∀ x ∈ l, (f x).length ≤ c) → (l.flatMap f).length ≤ c * l.length
 | [], _ => by simp
 | x :: l, h => by
  have h1 := flat_le (f := f) (c := c) (l := l) fun y hy => h y (List.mem_cons_of_mem _ hy)
  have h2 := h x List.mem_cons_self
  rw [List.flatMap_cons, List.length_append, List.length_cons, Nat.mul_succ]
  omega
theorem six_le {H : Heap} {mid : Nat} {A : Ab} (h : RG mid (H, A)) (h6 : Six A) : A.lo.pgs.length ≤ 6 * A.sps.length := by
 have hsub : A.lo.pgs.map (·.1) ⊆ A.sps.flatMap fun x => x.2.2.map (·.2.1) := by
  intro p hp
  obtain ⟨y, hy, rfl⟩ := List.mem_map.1 hp
  have hu := h.2.us y hy
  have hc : 1 ≤ cntS y.1 A.sps := by
   have h1 := hu.1
   have h2 := hu.2
   rw [h1] at h2
   exact Int.ofNat_le.1 h2
  obtain ⟨x, hx, e, he, he2⟩ := cnt_some hc
  exact List.mem_flatMap.2 ⟨x, hx, List.mem_map.2 ⟨e, he, he2⟩⟩
 have h1 := List.Nodup.length_le_of_subset h.1.st.wf.nd hsub
 rw [List.length_map] at h1
 refine Nat.le_trans h1 (flat_le fun x hx => ?_)
 rw [List.length_map]
 have hnd := h.1.ndk x hx
 have := below_int (n := 6) (a := 0) hnd (by
  intro z hz
  obtain ⟨e, he, rfl⟩ := List.mem_map.1 hz
  obtain ⟨t, m, es⟩ := x
  obtain ⟨k, p, rg⟩ := e
  have hk1 : getK t A.sps = some (m, es) := getK_of h.1.nds hx
  have hk2 : getK k es = some (p, rg) := getK_of hnd he
  obtain ⟨q, hq⟩ := h.2.page hk1 hk2
  have hv := vw_of hk1 hk2 hq
  have := h6 t k (by rw [hv]; simp)
  simp only
  omega)
 simpa using this
structure Inv (c : Nat) (A : Ab) : Prop where
 six : Six A
 le : A.sps.length ≤ c
 rm : 6 * (c : Int) + 2 ≤ A.lo.fr + A.lo.sl
theorem Inv.room {H : Heap} {mid c : Nat} {A : Ab} (h : RG mid (H, A)) (i : Inv c A) : (A.lo.pgs.length : Int) + 1 ≤ A.lo.fr + A.lo.sl := by
 have h1 := six_le h i.six
 have h2 := i.rm
 have h3 : 6 * A.sps.length ≤ 6 * c := Nat.mul_le_mul_left 6 i.le
 omega
theorem Inv.room2 {H : Heap} {mid c : Nat} {A : Ab} (h : RG mid (H, A)) (i : Inv c A) : (A.lo.pgs.length : Int) + 2 ≤ A.lo.fr + A.lo.sl := by
 have h1 := six_le h i.six
 have h2 := i.rm
 have h3 : 6 * A.sps.length ≤ 6 * c := Nat.mul_le_mul_left 6 i.le
 omega
theorem Inv.like {c : Nat} {A : Ab} {L' : Lo} (i : Inv c A) (lk : Like A.lo L') : Inv c { A with lo := L' } :=
 ⟨fun t k h => i.six t k (by rwa [vw_like lk] at h), i.le, by rw [show ({ A with lo := L' } : Ab).lo.fr = A.lo.fr from lk.fr, show ({ A with lo := L' } : Ab).lo.sl = A.lo.sl from lk.sl]; exact i.rm⟩
theorem stV_none {V : View} {addr b k : Int} (h : (stV V addr b).2 k ≠ none) : V k ≠ none := by
 unfold stV at h
 split at h
 ·split at h
  ·intro hn; apply h; simp [hn]
  ·exact h
 ·exact h
theorem Inv.store {c : Nat} {A A' : Ab} {s addr b : Int} (i : Inv c A) (e : Eff s A A') (hv : vw A' s = (stV (vw A s) addr b).2) : Inv c A' := by
 refine ⟨fun t k h => ?_, ?_, by rw [e.fr, e.sl]; exact i.rm⟩
 ·by_cases ht : t = s
  ·subst ht
   rw [hv] at h
   exact i.six t k (stV_none h)
  ·rw [e.ot t k ht] at h
   exact i.six t k h
 ·have := congrArg List.length e.ks
  simp only [List.length_map] at this
  rw [this]; exact i.le
theorem eff_has {s : Int} {A A' : Ab} (e : Eff s A A') {t : Int} (h : has A t) : has A' t := by
 rw [has_key] at h ⊢
 rw [e.ks]; exact h
theorem has_like {A : Ab} {L' : Lo} {t : Int} (h : has A t) : has { A with lo := L' } t := h
end
end Go.Proofs.Ytibpipgabcpaoaa
