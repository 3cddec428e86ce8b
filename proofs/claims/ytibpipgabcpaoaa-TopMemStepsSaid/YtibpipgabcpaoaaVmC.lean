/- cpu.Step. A memory's space in calls of more than a byte: Put, Map, Read. ringtop.h7code: its closure. ringtop.h7code. ringtop.h7lay. ringtop.h7other. ringtop.h7works. -/
import Derived.Test.YtibpipgabcpaoaaVmB
import Derived.Test.YtibpipgabcpaoaaGD
import Derived.Test.YtibpipgabcpaoaaAiZk
import Derived.Test.YtibpipgabcpaoaaVmA
import Derived.Test.YtibpipgabcpaoaaGC
namespace Go.Proofs.Ytibpipgabcpaoaa
open Go.AI
set_option linter.unusedSimpArgs false
set_option linter.unusedVariables false
section
set_option maxHeartbeats 2000000
set_option maxRecDepth 100000
set_option linter.unusedSimpArgs false
set_option linter.unusedVariables false
attribute [local simp] wpA wpX RunA RunD runF foot footP footB idsA bare apart runL step1 gsel_f gsel_t gsel_s res_same res_and1 res_and2 res_and3 res_and4 res_and5 res_and6 res_false res_true res_v res_ptr res_fptr res_osl res_xsl soft aAppendZ aCap ovlI ovlJ res_fsl res_esl res_agg res_tup res_fn res_junk res_anyb aPick hk imp_left iteV dstOk guardOk astep astepE AI.ev AI.look AI.put envOf aBox cellsOf allOne allOneA oneA Value.oneCell' Value.cells newObj' aFieldAddr aLoad obj readAt thenA blockA condA retA resA tupA view hot hotC hotR depthV cAgg cInt cBool mkAgg allV aAlloc aBuild fillA writeAt aStore isAggA aField idx aIndexAddr aIndex bnd aSlice aExtract aLen aBuiltin aCall isStatic eqAgg eqTy eqC ev_add ev_sub ev_mul ev_quo ev_rem ev_and ev_or ev_xor ev_andNot ev_shl ev_shr ev_eql ev_neq ev_lss ev_leq ev_gtr ev_geq ev_agg w64 wu32 wu8 ev_not ev_neg Cod.plain RCod.plain argM finM cold coldC coldR goInt intDec boolDec aggDec Weaker heapW lowA lowC Again slDec undef aBuildSlice setRows aAppend rowsOf aMakeSlice aClear aCopyX aCopy softer_self softer_nil valsOf ev_min2 ev_max2 hotR_set hotR_append take_map_set irow_cold irow_mapM irow_mapMc irow_view irow_viewc irow_hotR irow_ren irow_renc irow_low WeakT heapT thOf ren renC AgainT NextF NextT fnDec cFn rNil selfLt natLt0 natLt1 getLastMap frame0 frame1 own0 own1 argG finG tau tauI tauO tauC bareA bareC bareH irow_tau irow_tauc irow_bare irow_flat irow_bareR ownA_nil ownT_nil ownA_c ownT_c ownA_s ownT_s takeMapLen footC plainA noId noIdC cloneF frame0F frame1F insertF replaceI replaceF cellDec rCell fpDec cFp rTwo deleteF allV_oA oneA_oA res_oA RunR RunE runFT footAt hotR_cat tmodN aEqH aSliceA frameN newA newC newH fxSz3 fxBy3 fxAg3 fxZe3 fxSl3 fxSz4 fxAg4 fxSz5 fxBy5 fxAg5 fxZe5 fxSl22 fxAr22 fxSl23 fxAr23 fxAg24 fxSz31 fxAg31 fxZe31 fxSl31 fxAr31 fxSz34 fxAg34 fxAr35 fxSz37 fxAg37 fxZe37 fxFi37x0 fxFi37x1 fxFi37x2 fxPl37 fxSz38 fxAg38 fxZe38 fxAr38 fxSz47 fxAg47 fxZe47 fxFi47x0 fxPl47 fxZe51 fxFi51x0 fxFi51x1 fxPl51 fxAg55 fxSz56 fxAg56 fxSl56 fxAr56 fxZe58 fxFi58x0 fxFi58x1 fxFi58x2 fxFi58x3 fxFi58x4 fxPl58 fxSz62 fxAg62 fxZe62 fxFi62x0 fxFi62x1 fxFi62x2 fxFi62x3 fxPl62 fxZe65 fxSl67 fxAr67 fxSz72 fxAg72 fxZe72 fxSl72 fxAr72 fxPl72 fxSz74 fxZe74 fxFi74x0 fxFi74x1 fxFi74x2 fxFi74x3 fxPl74 fxSz75 fxBy75 fxAg75 fxZe75 fxSz79 fxAg79 fxZe79 fxFi79x0 fxFi79x1 fxPl79 fxEq47 fxCv3x5 fxCv3x34 fxCv3x70 fxCv3x100 fxCv5x34 fxCv34x3 fxCv34x5 fxCv34x112 fxCv70x3 fxCv100x34 fxCv112x3 fxLn31 fxLn56 fxFm4 fxFm5 fxFi5 fxFm6 fxFm7 fxFm8 fxFm9 fxFi9 fxFm10 fxFm11 fxFm12 fxFm13 fxFm14 fxFm15 fxFm16 fxFm17 fxFi17 fxFm18 fxFm19 fxFi19 fxFm20 fxFm21 fxFm22 fxFm23 fxFm24 fxFi24 fxFm25 fxFi25 fxFm26 fxFm27 fxFm28 fxFi28 fxFm29 fxFm30 fxFm31 fxFm32 fxFm33 fxFi33 fxFm34 fxFi34 fxFm35 fxFm36 fxFm37 fxFm38 fxFm39 fxFi39 fxFm40 fxFi40 fxFm41 fxFi41 fxFm42 fxFm45 fxFi45 fxFm46 fxFi46 fxFm47 fxFm48 fxFm49 fxFi49 fxFm50 fxFm51 fxFm52 fxFi52 fxFm64 fxFi64 fxFm87 fxFm88 fxFm89
section
attribute [local simp] rgA_list rgL_map rg_allV rgL_arr rg_one aInvoke mfL mfS res_ifc res_meth AI.apart
theorem dec_fit {w : Int} (h : (decF w).2 = 0) : fitI (decF w).1 ∧ knownO (decF w).1.op := by
 unfold decF at h ⊢
 split
 ·rename_i hd
  have h1 := hd.1
  unfold encF at h1
  split at h1
  ·cases h1
  ·rename_i hk
   split at h1
   ·cases h1
   ·rename_i hf
    exact ⟨Classical.not_not.1 hf, Classical.not_not.1 hk⟩
 ·rename_i hd
  rw [if_neg hd] at h
  cases h
def stepV (V : View) (g : Rg) : Rg × (Int × Int) × View :=
 let f := fetchV V g.pc 4
 let d := decF f.1
 let nx : Rg := { g with pc := IntKind.u32.wrap (g.pc + 4) }
 if f.2.1 ≠ 0 then (g, f.2, V) else
 if d.2 ≠ 0 ∨ ((d.1.op = 1 ∨ d.1.op = 26) ∧ g.ring ≠ 0) then (g, (3, 0), V) else
 if 5 ≤ d.1.op ∧ d.1.op ≤ 13 then
  (if (reckF d.1.op (g.at d.1.a.toNat) (g.at d.1.b.toNat)).2 = true then (nx.set d.1.a.toNat (reckF d.1.op (g.at d.1.a.toNat) (g.at d.1.b.toNat)).1, (0, 0), V) else (g, (4, 0), V)) else
 if (15 ≤ d.1.op ∧ d.1.op ≤ 18) ∨ d.1.op = 25 then
  (if (memV V nx d.1).1.1 ≠ 0 then (g, (memV V nx d.1).1, (memV V nx d.1).2.2) else ((memV V nx d.1).2.1, (0, 0), (memV V nx d.1).2.2)) else
 if 19 ≤ d.1.op ∧ d.1.op ≤ 23 then (jumpF nx d.1 g.pc, (0, 0), V) else
 ((otherF nx d.1).1, ((otherF nx d.1).2, 0), V)
def SpT (args : Row) (H : Heap) (r : AVal) (H' : Heap) : Prop := ∀ g mid s A, args = [.v (.agg (rgA g)), busV mid s] → RG mid (H, A) →
 r = tupA [.v (.agg (rgA (stepV (vw A s) g).1)), .v (.agg (trA (stepV (vw A s) g).2.1.1 (stepV (vw A s) g).2.1.2))] ∧ Ss mid s H A (stepV (vw A s) g).2.2 H'
noncomputable def stepM := chM Try.prog Try.f16 SpT
theorem step_inl : InlOk Try.prog 16 stepM := chM_ok Try.func16 rfl
theorem spT_of {H : Heap} {mid : Nat} {g : Rg} {s : Int} {A : Ab} {r : AVal} {H' : Heap} {S : Rg × (Int × Int) × View} (h : RG mid (H, A)) (hS : stepV (vw A s) g = S)
  (hr : r = tupA [.v (.agg (rgA S.1)), .v (.agg (trA S.2.1.1 S.2.1.2))] ∧ Ss mid s H A S.2.2 H') : SpT [.v (.agg (rgA g)), busV mid s] H r H' := by
 subst hS
 intro g' mid' s' A' h' hA'
 simp only [List.cons.injEq, AVal.v.injEq, Value.agg.injEq, true_and, and_true] at h'
 have h2 := rgA_inj h'.1
 obtain ⟨rfl, rfl⟩ := busV_inj h'.2
 subst h2
 have := rg_uniq h hA'
 subst this
 exact hr
theorem Ss.setN {mid i : Nat} {s : Int} {H H1 : Heap} {A : Ab} {V : View} {o : Option (Nat × List Row)} (k : Ss mid s H A V H1) (hi : H.length ≤ i) (h : ∃ q, H1[i]? = some (some q) ∧ (q.1 = 10 ∨ q.1 = 2)) : Ss mid s H A V (H1.set i o) := by
 obtain ⟨q, h1, h2⟩ := h
 exact k.set h1 (by omega) (List.getElem?_eq_none hi)
theorem Ss.ret {mid : Nat} {s : Int} {H H1 : Heap} {A : Ab} {V : View} {R T : List Row} {X Y : Option (Nat × List Row)} (k : Ss mid s H A V H1) (a1 : H1[H.length + 1]? = some (some (10, R))) (a2 : H1[H.length + 2]? = some (some (2, T))) : Ss mid s H A V ((H1.set (H.length + 1) X).set (H.length + 2) Y) :=
 (k.setN (by omega) ⟨_, a1, .inl rfl⟩).setN (by omega) ⟨_, by rw [List.getElem?_set_ne (by omega)]; exact a2, .inr rfl⟩
theorem word_ok (a b c d : Int) : 0 ≤ wordV a b c d ∧ wordV a b c d < 4294967296 := ior_ok _ _
theorem fetchV_ok (V : View) (a w : Int) : 0 ≤ (fetchV V a w).1 ∧ (fetchV V a w).1 < 4294967296 := by
 unfold fetchV
 repeat' split
 all_goals first | exact word_ok _ _ _ _ | exact ⟨by simp, by simp⟩
theorem memV_ok {V : View} {g : Rg} (h : g.ok) (i : Ins) : (memV V g i).2.1.ok := by
 unfold memV
 repeat' split
 all_goals first | exact h | exact Rg.set_ok h _ (fetchV_ok _ _ _) | exact Rg.set_ok h _ (u32_ok _)
theorem step_ev {H : Heap} {mid c : Nat} {g : Rg} {s : Int} {A : Ab} (hg : g.ok) (h : RG mid (H, A)) (hs : has A s) (hc : Inv c A) :
  ∃ H', stepM [.v (.agg (rgA g)), busV mid s] H = some (tupA [.v (.agg (rgA (stepV (vw A s) g).1)), .v (.agg (trA (stepV (vw A s) g).2.1.1 (stepV (vw A s) g).2.1.2))], H') ∧ Ss mid s H A (stepV (vw A s) g).2.2 H' := by
 suffices hx : ∃ r H', stepM [.v (.agg (rgA g)), busV mid s] H = some (r, H') ∧ SpT [.v (.agg (rgA g)), busV mid s] H r H' by
  obtain ⟨r, H', h1, h2⟩ := hx
  obtain ⟨rfl, h3⟩ := h2 g mid s A rfl h
  exact ⟨H', h1, h3⟩
 have h8 := hg.len
 have e1 := rg_len h8
 have e2 := @rg_take g h8
 have gp := rg_pc h8
 have gr := rg_ring h8
 have gp' := fun hi => rg_pc' h8 hi
 have gr' := fun hi => rg_ring' h8 hi
 have aa := fun (r : Row) => @rw_all g h8 r
 obtain ⟨Z, hZ⟩ : ∃ x : Row, [AVal.v (.int .u32 0), .v (.int .u32 0), .v (.int .u32 0), .v (.int .u32 0), .v (.int .u32 0), .v (.int .u32 0), .v (.int .u32 0), .v (.int .u32 0), .v (.int .u32 0), .v (.int .i64 0)] = x := ⟨_, rfl⟩
 have hZl : Z.length = 10 := by rw [← hZ]; rfl
 obtain ⟨H0, hH0⟩ : ∃ x, H ++ [some (10, [rgRow g]), some (10, [Z]), some (2, [[AVal.v (.int .i64 0), AVal.v (.int .u32 0)]])] = x := ⟨_, rfl⟩
 have d0 : H0[H.length]? = some (some (10, [rgRow g])) := by rw [← hH0]; simp
 have d1 : H0[H.length + 1]? = some (some (10, [Z])) := by rw [← hH0, List.getElem?_append_right (by omega)]; simp
 have d2 : H0[H.length + 2]? = some (some (2, [[.v (.int .i64 0), .v (.int .u32 0)]])) := by rw [← hH0, List.getElem?_append_right (by omega)]; simp
 have vd0 := (List.getElem?_eq_some_iff.1 d0).2
 have vd1 := (List.getElem?_eq_some_iff.1 d1).2
 have vd2 := (List.getElem?_eq_some_iff.1 d2).2
 have hln : H0.length = H.length + 3 := by rw [← hH0]; simp
 have r0 : RG mid (H0, A) := by rw [← hH0]; exact rg_app h
 obtain ⟨H1, l1, j1⟩ := (Ss.refl r0).fetch (want := 4) (a := g.pc) hs hg.pc (by decide)
 obtain ⟨a0, n0, va0⟩ := j1.keep2 d0 (by simp)
 obtain ⟨a1, n1, va1⟩ := j1.keep2 d1 (by simp)
 obtain ⟨a2, n2, va2⟩ := j1.keep2 d2 (by simp)
 rw [← hH0] at j1
 replace j1 := j1.of_app
 obtain ⟨⟨fw, fk, fa⟩, hf⟩ : ∃ x, fetchV (vw A s) g.pc 4 = x := ⟨_, rfl⟩
 rw [hf] at l1
 unfold busV at l1
 have m1 : H1.length ≠ H.length + 1 := by omega
 have m2 : H1.length ≠ H.length + 2 := by omega
 have m0 : H1.length ≠ H.length := by omega
 have m1' : H.length + 1 ≠ H1.length := by omega
 have m2' : H.length + 2 ≠ H1.length := by omega
 have m0' : H.length ≠ H1.length := by omega
 by_cases q1 : fk = 0
 case neg =>
  refine chM_ev rfl ?_
  apply Exists.intro
  apply Exists.intro
  apply And.intro
  refine' bodyE_of (((((((noOrc_ok.withI fet_inl).withI mem_inl).withI jump_inl).withI other_inl).withP dec_pure).withP reckon_pure).withD (fun i => if i = 3 then [(1,2)] else if i = 18 then [(1,2)] else [])) fxMix (by kernel_rfl) (by simp [Try.ntmps16]) ?_
  rotate_left 2
  intro C cP cI cN cD cF cA cR cL
  have cp0 := orcP dec_pure (C := C) (by rw [cP]; rfl)
  have cp1 := orcP reckon_pure (C := C) (by rw [cP]; rfl)
  have cn0 := orcI fet_inl (C := C) (by rw [cN]; rfl)
  have cn1 := orcI mem_inl (C := C) (by rw [cN]; rfl)
  have cn2 := orcI jump_inl (C := C) (by rw [cN]; rfl)
  have cn3 := orcI other_inl (C := C) (by rw [cN]; rfl)
  replace cI := fun g => congrFun cI g
  simp only [Orc.withP, Orc.withI, Orc.withF, Orc.withD, Orc.withA, Orc.withR, Orc.withC, noOrc] at cI
  replace cR : C.rd = fun _ => none := cR
  replace cD : C.dyn = fun i => if i = 3 then [(1,2)] else if i = 18 then [(1,2)] else [] := cD
  replace cF := fun g => congrFun cF g
  simp only [Orc.withP, Orc.withI, Orc.withF, Orc.withD, Orc.withA, Orc.withR, Orc.withC, noOrc] at cF
  replace cA : C.alt = fun _ => [] := cA
  clear cP cN
  unfold busV
  simp [Try.ntmps16, Try.results16, cSl, cp0, cp1, cn0, cn1, cn2, cn3, cI, cD, cR, cF, cA, gp, gr, gp', gr', aa, e1, e2, hZ, hZl, hH0, d0, d1, d2, vd0, vd1, vd2, hln, l1, a0, a1, a2, va0, va1, va2, n0, n1, n2, m0, m1, m2, m0', m1', m2', List.getElem?_append, List.set_append, List.getElem_set, List.getElem?_set, trA, q1]
  exact Ent.refl _ _
  exact spT_of (S := (g, (fk, fa), vw A s)) h (by simp [stepV, hf, q1]) ⟨rfl, (j1.ret a1 a2).app _⟩
 subst q1
 obtain ⟨⟨⟨op, a, b, c'⟩, e⟩, hd⟩ : ∃ x, decF fw = x := ⟨_, rfl⟩
 by_cases q2 : e = 0
 case neg =>
  refine chM_ev rfl ?_
  apply Exists.intro
  apply Exists.intro
  apply And.intro
  refine' bodyE_of (((((((noOrc_ok.withI fet_inl).withI mem_inl).withI jump_inl).withI other_inl).withP dec_pure).withP reckon_pure).withD (fun i => if i = 3 then [(1,2)] else if i = 18 then [(1,2)] else [])) fxMix (by kernel_rfl) (by simp [Try.ntmps16]) ?_
  rotate_left 2
  intro C cP cI cN cD cF cA cR cL
  have cp0 := orcP dec_pure (C := C) (by rw [cP]; rfl)
  have cp1 := orcP reckon_pure (C := C) (by rw [cP]; rfl)
  have cn0 := orcI fet_inl (C := C) (by rw [cN]; rfl)
  have cn1 := orcI mem_inl (C := C) (by rw [cN]; rfl)
  have cn2 := orcI jump_inl (C := C) (by rw [cN]; rfl)
  have cn3 := orcI other_inl (C := C) (by rw [cN]; rfl)
  replace cI := fun g => congrFun cI g
  simp only [Orc.withP, Orc.withI, Orc.withF, Orc.withD, Orc.withA, Orc.withR, Orc.withC, noOrc] at cI
  replace cR : C.rd = fun _ => none := cR
  replace cD : C.dyn = fun i => if i = 3 then [(1,2)] else if i = 18 then [(1,2)] else [] := cD
  replace cF := fun g => congrFun cF g
  simp only [Orc.withP, Orc.withI, Orc.withF, Orc.withD, Orc.withA, Orc.withR, Orc.withC, noOrc] at cF
  replace cA : C.alt = fun _ => [] := cA
  clear cP cN
  unfold busV
  simp [Try.ntmps16, Try.results16, cSl, cp0, cp1, cn0, cn1, cn2, cn3, cI, cD, cR, cF, cA, gp, gr, gp', gr', aa, e1, e2, hZ, hZl, hH0, d0, d1, d2, vd0, vd1, vd2, hln, l1, a0, a1, a2, va0, va1, va2, n0, n1, n2, m0, m1, m2, m0', m1', m2', List.getElem?_append, List.set_append, List.getElem_set, List.getElem?_set, trA, hd, q2]
  exact Ent.refl _ _
  exact spT_of (S := (g, (3, 0), vw A s)) h (by simp [stepV, hf, hd, q2]) ⟨rfl, (j1.ret a1 a2).app _⟩
 subst q2
 have hfit := dec_fit (w := fw) (by rw [hd])
 rw [hd] at hfit
 obtain ⟨hfit, hkn⟩ := hfit
 have hi := hfit
 obtain ⟨k1, k2, k3, k4, k5, k6⟩ := hfit
 unfold knownO at hkn
 simp only at k1 k2 k3 k4 k5 k6 hkn
 obtain ⟨a, rfl⟩ := Int.eq_ofNat_of_zero_le k1
 obtain ⟨b, rfl⟩ := Int.eq_ofNat_of_zero_le k3
 have ka : a < 8 := by omega
 have kb : b < 8 := by omega
 have kaI : (a : Int) < 8 := by omega
 have kbI : (b : Int) < 8 := by omega
 have ka9 : a ≤ 9 := by omega
 have kb9 : b ≤ 9 := by omega
 have ga := rg_get h8 ka
 have gb := rg_get h8 kb
 have ga' := fun hi => rg_get' h8 ka hi
 have gb' := fun hi => rg_get' h8 kb hi
 obtain ⟨nx, hnx⟩ : ∃ x, ({ g with pc := IntKind.u32.wrap (g.pc + 4) } : Rg) = x := ⟨_, rfl⟩
 have hnr : nx.r = g.r := by rw [← hnx]
 have hnok : nx.ok := by rw [← hnx]; exact Rg.pc_ok hg (u32_ok _)
 have x8 := hnok.len
 have ep := rw_pc h8 (IntKind.u32.wrap (g.pc + 4))
 rw [hnx] at ep
 have f1 := rg_len x8
 have f2 := @rg_take nx x8
 have fa2 := fun (r : Row) => @rw_all nx x8 r
 have fe := fun x => rw_r x8 ka x
 have fs := fun x => rg_len (g := nx.set a x) (by simp [Rg.set, x8])
 have fst := fun x => @rg_take (nx.set a x) (by simp [Rg.set, x8])
 have fsa := fun x (r : Row) => @rw_all (nx.set a x) (by simp [Rg.set, x8]) r
 have hgb0 := (g.at_ok hg b).1
 by_cases hb : (op = 1 ∨ op = 26) ∧ g.ring ≠ 0
 ·obtain ⟨hb | hb, qr⟩ := hb
  ·subst hb
   refine chM_ev rfl ?_
   apply Exists.intro
   apply Exists.intro
   apply And.intro
   refine' bodyE_of (((((((noOrc_ok.withI fet_inl).withI mem_inl).withI jump_inl).withI other_inl).withP dec_pure).withP reckon_pure).withD (fun i => if i = 3 then [(1,2)] else if i = 18 then [(1,2)] else [])) fxMix (by kernel_rfl) (by simp [Try.ntmps16]) ?_
   rotate_left 2
   intro C cP cI cN cD cF cA cR cL
   have cp0 := orcP dec_pure (C := C) (by rw [cP]; rfl)
   have cp1 := orcP reckon_pure (C := C) (by rw [cP]; rfl)
   have cn0 := orcI fet_inl (C := C) (by rw [cN]; rfl)
   have cn1 := orcI mem_inl (C := C) (by rw [cN]; rfl)
   have cn2 := orcI jump_inl (C := C) (by rw [cN]; rfl)
   have cn3 := orcI other_inl (C := C) (by rw [cN]; rfl)
   replace cI := fun g => congrFun cI g
   simp only [Orc.withP, Orc.withI, Orc.withF, Orc.withD, Orc.withA, Orc.withR, Orc.withC, noOrc] at cI
   replace cR : C.rd = fun _ => none := cR
   replace cD : C.dyn = fun i => if i = 3 then [(1,2)] else if i = 18 then [(1,2)] else [] := cD
   replace cF := fun g => congrFun cF g
   simp only [Orc.withP, Orc.withI, Orc.withF, Orc.withD, Orc.withA, Orc.withR, Orc.withC, noOrc] at cF
   replace cA : C.alt = fun _ => [] := cA
   clear cP cN
   unfold busV
   simp [Try.ntmps16, Try.results16, cSl, cp0, cp1, cn0, cn1, cn2, cn3, cI, cD, cR, cF, cA, gp, gr, gp', gr', aa, e1, e2, hZ, hZl, hH0, d0, d1, d2, vd0, vd1, vd2, hln, l1, a0, a1, a2, va0, va1, va2, n0, n1, n2, m0, m1, m2, m0', m1', m2', List.getElem?_append, List.set_append, List.getElem_set, List.getElem?_set, trA, hd, qr]
   exact Ent.refl _ _
   exact spT_of (S := (g, (3, 0), vw A s)) h (by simp [stepV, hf, hd, qr]) ⟨rfl, (j1.ret a1 a2).app _⟩
  ·subst hb
   refine chM_ev rfl ?_
   apply Exists.intro
   apply Exists.intro
   apply And.intro
   refine' bodyE_of (((((((noOrc_ok.withI fet_inl).withI mem_inl).withI jump_inl).withI other_inl).withP dec_pure).withP reckon_pure).withD (fun i => if i = 3 then [(1,2)] else if i = 18 then [(1,2)] else [])) fxMix (by kernel_rfl) (by simp [Try.ntmps16]) ?_
   rotate_left 2
   intro C cP cI cN cD cF cA cR cL
   have cp0 := orcP dec_pure (C := C) (by rw [cP]; rfl)
   have cp1 := orcP reckon_pure (C := C) (by rw [cP]; rfl)
   have cn0 := orcI fet_inl (C := C) (by rw [cN]; rfl)
   have cn1 := orcI mem_inl (C := C) (by rw [cN]; rfl)
   have cn2 := orcI jump_inl (C := C) (by rw [cN]; rfl)
   have cn3 := orcI other_inl (C := C) (by rw [cN]; rfl)
   replace cI := fun g => congrFun cI g
   simp only [Orc.withP, Orc.withI, Orc.withF, Orc.withD, Orc.withA, Orc.withR, Orc.withC, noOrc] at cI
   replace cR : C.rd = fun _ => none := cR
   replace cD : C.dyn = fun i => if i = 3 then [(1,2)] else if i = 18 then [(1,2)] else [] := cD
   replace cF := fun g => congrFun cF g
   simp only [Orc.withP, Orc.withI, Orc.withF, Orc.withD, Orc.withA, Orc.withR, Orc.withC, noOrc] at cF
   replace cA : C.alt = fun _ => [] := cA
   clear cP cN
   unfold busV
   simp [Try.ntmps16, Try.results16, cSl, cp0, cp1, cn0, cn1, cn2, cn3, cI, cD, cR, cF, cA, gp, gr, gp', gr', aa, e1, e2, hZ, hZl, hH0, d0, d1, d2, vd0, vd1, vd2, hln, l1, a0, a1, a2, va0, va1, va2, n0, n1, n2, m0, m1, m2, m0', m1', m2', List.getElem?_append, List.set_append, List.getElem_set, List.getElem?_set, trA, hd, qr]
   exact Ent.refl _ _
   exact spT_of (S := (g, (3, 0), vw A s)) h (by simp [stepV, hf, hd, qr]) ⟨rfl, (j1.ret a1 a2).app _⟩
 by_cases cA : 5 ≤ op ∧ op ≤ 13
 ·obtain ⟨o5, o13⟩ := cA
  have o1 : ¬ op = 1 := by omega
  have o26 : ¬ op = 26 := by omega
  obtain ⟨⟨rx, rk⟩, hr⟩ : ∃ x, reckF op (g.at a) (g.at b) = x := ⟨_, rfl⟩
  cases rk with
  | false =>
   refine chM_ev rfl ?_
   apply Exists.intro
   apply Exists.intro
   apply And.intro
   refine' bodyE_of (((((((noOrc_ok.withI fet_inl).withI mem_inl).withI jump_inl).withI other_inl).withP dec_pure).withP reckon_pure).withD (fun i => if i = 3 then [(1,2)] else if i = 18 then [(1,2)] else [])) fxMix (by kernel_rfl) (by simp [Try.ntmps16]) ?_
   rotate_left 2
   intro C cP cI cN cD cF cA cR cL
   have cp0 := orcP dec_pure (C := C) (by rw [cP]; rfl)
   have cp1 := orcP reckon_pure (C := C) (by rw [cP]; rfl)
   have cn0 := orcI fet_inl (C := C) (by rw [cN]; rfl)
   have cn1 := orcI mem_inl (C := C) (by rw [cN]; rfl)
   have cn2 := orcI jump_inl (C := C) (by rw [cN]; rfl)
   have cn3 := orcI other_inl (C := C) (by rw [cN]; rfl)
   replace cI := fun g => congrFun cI g
   simp only [Orc.withP, Orc.withI, Orc.withF, Orc.withD, Orc.withA, Orc.withR, Orc.withC, noOrc] at cI
   replace cR : C.rd = fun _ => none := cR
   replace cD : C.dyn = fun i => if i = 3 then [(1,2)] else if i = 18 then [(1,2)] else [] := cD
   replace cF := fun g => congrFun cF g
   simp only [Orc.withP, Orc.withI, Orc.withF, Orc.withD, Orc.withA, Orc.withR, Orc.withC, noOrc] at cF
   replace cA : C.alt = fun _ => [] := cA
   clear cP cN
   unfold busV
   simp [Try.ntmps16, Try.results16, cSl, cp0, cp1, cn0, cn1, cn2, cn3, cI, cD, cR, cF, cA, gp, gr, gp', gr', aa, e1, e2, hZ, hZl, hH0, d0, d1, d2, vd0, vd1, vd2, hln, l1, a0, a1, a2, va0, va1, va2, n0, n1, n2, m0, m1, m2, m0', m1', m2', List.getElem?_append, List.set_append, List.getElem_set, List.getElem?_set, trA, ep, f1, f2, fa2, fe, fs, fst, fsa, ka, kb, kaI, kbI, ka9, kb9, ga, gb, ga', gb', hd, o1, o26, o5, o13, hr, hgb0]
   exact Ent.refl _ _
   exact spT_of (S := (g, (4, 0), vw A s)) h (by simp [stepV, hf, hd, o1, o26, o5, o13, hr]) ⟨rfl, (j1.ret a1 a2).app _⟩
  | true =>
   refine chM_ev rfl ?_
   apply Exists.intro
   apply Exists.intro
   apply And.intro
   refine' bodyE_of (((((((noOrc_ok.withI fet_inl).withI mem_inl).withI jump_inl).withI other_inl).withP dec_pure).withP reckon_pure).withD (fun i => if i = 3 then [(1,2)] else if i = 18 then [(1,2)] else [])) fxMix (by kernel_rfl) (by simp [Try.ntmps16]) ?_
   rotate_left 2
   intro C cP cI cN cD cF cA cR cL
   have cp0 := orcP dec_pure (C := C) (by rw [cP]; rfl)
   have cp1 := orcP reckon_pure (C := C) (by rw [cP]; rfl)
   have cn0 := orcI fet_inl (C := C) (by rw [cN]; rfl)
   have cn1 := orcI mem_inl (C := C) (by rw [cN]; rfl)
   have cn2 := orcI jump_inl (C := C) (by rw [cN]; rfl)
   have cn3 := orcI other_inl (C := C) (by rw [cN]; rfl)
   replace cI := fun g => congrFun cI g
   simp only [Orc.withP, Orc.withI, Orc.withF, Orc.withD, Orc.withA, Orc.withR, Orc.withC, noOrc] at cI
   replace cR : C.rd = fun _ => none := cR
   replace cD : C.dyn = fun i => if i = 3 then [(1,2)] else if i = 18 then [(1,2)] else [] := cD
   replace cF := fun g => congrFun cF g
   simp only [Orc.withP, Orc.withI, Orc.withF, Orc.withD, Orc.withA, Orc.withR, Orc.withC, noOrc] at cF
   replace cA : C.alt = fun _ => [] := cA
   clear cP cN
   unfold busV
   simp [Try.ntmps16, Try.results16, cSl, cp0, cp1, cn0, cn1, cn2, cn3, cI, cD, cR, cF, cA, gp, gr, gp', gr', aa, e1, e2, hZ, hZl, hH0, d0, d1, d2, vd0, vd1, vd2, hln, l1, a0, a1, a2, va0, va1, va2, n0, n1, n2, m0, m1, m2, m0', m1', m2', List.getElem?_append, List.set_append, List.getElem_set, List.getElem?_set, trA, ep, f1, f2, fa2, fe, fs, fst, fsa, ka, kb, kaI, kbI, ka9, kb9, ga, gb, ga', gb', hd, o1, o26, o5, o13, hr, hgb0]
   exact Ent.refl _ _
   exact spT_of (S := (nx.set a rx, (0, 0), vw A s)) h (by simp [stepV, hf, hd, o1, o26, o5, o13, hr, hnx]) ⟨rfl, (j1.ret a1 a2).app _⟩
 obtain ⟨H1', hH1'⟩ : ∃ x, H1 ++ [some (2, [[AVal.v (.int .i64 0), AVal.v (.int .u32 fa)]]), some (4, [[AVal.v (.int .i64 op), AVal.v (.int .i64 a), AVal.v (.int .i64 b), AVal.v (.int .i64 c')]]), some (10, [rgRow nx])] = x := ⟨_, rfl⟩
 have b0 : H1'[H.length]? = some (some (10, [rgRow g])) := by rw [← hH1', List.getElem?_append_left n0]; exact a0
 have b1 : H1'[H.length + 1]? = some (some (10, [Z])) := by rw [← hH1', List.getElem?_append_left n1]; exact a1
 have b2 : H1'[H.length + 2]? = some (some (2, [[.v (.int .i64 0), .v (.int .u32 0)]])) := by rw [← hH1', List.getElem?_append_left n2]; exact a2
 have b3 : H1'[H1.length]? = some (some (2, [[.v (.int .i64 0), .v (.int .u32 fa)]])) := by rw [← hH1']; simp
 have b4 : H1'[H1.length + 1]? = some (some (4, [[.v (.int .i64 op), .v (.int .i64 a), .v (.int .i64 b), .v (.int .i64 c')]])) := by rw [← hH1', List.getElem?_append_right (by omega)]; simp
 have b5 : H1'[H1.length + 2]? = some (some (10, [rgRow nx])) := by rw [← hH1', List.getElem?_append_right (by omega)]; simp
 have vb0 := (List.getElem?_eq_some_iff.1 b0).2
 have vb1 := (List.getElem?_eq_some_iff.1 b1).2
 have vb2 := (List.getElem?_eq_some_iff.1 b2).2
 have vb3 := (List.getElem?_eq_some_iff.1 b3).2
 have vb4 := (List.getElem?_eq_some_iff.1 b4).2
 have vb5 := (List.getElem?_eq_some_iff.1 b5).2
 have hln1 : H1'.length = H1.length + 3 := by rw [← hH1']; simp
 have t0 : H1.length + 2 ≠ H.length := by omega
 have t1 : H1.length + 2 ≠ H.length + 1 := by omega
 have t2 : H1.length + 2 ≠ H.length + 2 := by omega
 have t0' : H.length ≠ H1.length + 2 := by omega
 have t1' : H.length + 1 ≠ H1.length + 2 := by omega
 have t2' : H.length + 2 ≠ H1.length + 2 := by omega
 have u0 : H.length < H1.length + 3 := by omega
 have u1 : H.length + 1 < H1.length + 3 := by omega
 have u2 : H.length + 2 < H1.length + 3 := by omega
 have jj1 := j1
 obtain ⟨A1, r1, y2, y3, y4, y5⟩ := jj1
 have r1' : RG mid (H1', A1) := by rw [← hH1']; exact rg_app r1
 have jH : Ss mid s H A (vw A s) H1' := by rw [← hH1']; exact j1.app _
 by_cases cC : 19 ≤ op ∧ op ≤ 23
 ·obtain ⟨o19, o23⟩ := cC
  have o1 : ¬ op = 1 := by omega
  have o26 : ¬ op = 26 := by omega
  have o25 : ¬ op = 25 := by omega
  have o5 : 5 ≤ op := by omega
  have o13 : ¬ op ≤ 13 := by omega
  have o15 : 15 ≤ op := by omega
  have o18 : ¬ op ≤ 18 := by omega
  obtain ⟨K, l3⟩ := jump_ev (pc := g.pc) hnok hi b5
  obtain ⟨J, hJ⟩ : ∃ x, jumpF nx ⟨op, a, b, c'⟩ g.pc = x := ⟨_, rfl⟩
  rw [hJ] at l3
  simp only [insA] at l3
  have hJok : J.ok := by rw [← hJ]; exact jumpF_ok hnok _ _
  have z1 := rg_len hJok.len
  have z2 := @rg_take J hJok.len
  have z3 := fun (r : Row) => @rw_all J hJok.len r
  refine chM_ev rfl ?_
  apply Exists.intro
  apply Exists.intro
  apply And.intro
  refine' bodyE_of (((((((noOrc_ok.withI fet_inl).withI mem_inl).withI jump_inl).withI other_inl).withP dec_pure).withP reckon_pure).withD (fun i => if i = 3 then [(1,2)] else if i = 18 then [(1,2)] else [])) fxMix (by kernel_rfl) (by simp [Try.ntmps16]) ?_
  rotate_left 2
  intro C cP cI cN cD cF cA cR cL
  have cp0 := orcP dec_pure (C := C) (by rw [cP]; rfl)
  have cp1 := orcP reckon_pure (C := C) (by rw [cP]; rfl)
  have cn0 := orcI fet_inl (C := C) (by rw [cN]; rfl)
  have cn1 := orcI mem_inl (C := C) (by rw [cN]; rfl)
  have cn2 := orcI jump_inl (C := C) (by rw [cN]; rfl)
  have cn3 := orcI other_inl (C := C) (by rw [cN]; rfl)
  replace cI := fun g => congrFun cI g
  simp only [Orc.withP, Orc.withI, Orc.withF, Orc.withD, Orc.withA, Orc.withR, Orc.withC, noOrc] at cI
  replace cR : C.rd = fun _ => none := cR
  replace cD : C.dyn = fun i => if i = 3 then [(1,2)] else if i = 18 then [(1,2)] else [] := cD
  replace cF := fun g => congrFun cF g
  simp only [Orc.withP, Orc.withI, Orc.withF, Orc.withD, Orc.withA, Orc.withR, Orc.withC, noOrc] at cF
  replace cA : C.alt = fun _ => [] := cA
  clear cP cN
  unfold busV
  simp [Try.ntmps16, Try.results16, cSl, cp0, cp1, cn0, cn1, cn2, cn3, cI, cD, cR, cF, cA, gp, gr, gp', gr', aa, e1, e2, hZ, hZl, hH0, d0, d1, d2, vd0, vd1, vd2, hln, l1, a0, a1, a2, va0, va1, va2, n0, n1, n2, m0, m1, m2, m0', m1', m2', List.getElem?_append, List.set_append, List.getElem_set, List.getElem?_set, trA, ep, f1, f2, fa2, fe, fs, fst, fsa, ka, kb, kaI, kbI, ka9, kb9, ga, gb, ga', gb', hd, hH1', b0, b1, b2, b3, b4, b5, vb0, vb1, vb2, vb3, vb4, vb5, hln1, t0, t1, t2, t0', t1', t2', u0, u1, u2, o1, o26, o25, o5, o13, o15, o18, o19, o23, l3, z1, z2, z3]
  exact Ent.refl _ _
  exact spT_of (S := (J, (0, 0), vw A s)) h (by simp [stepV, hf, hd, o1, o26, o25, o5, o13, o15, o18, o19, o23, hnx, hJ]) ⟨rfl, ((jH.setN (by omega) ⟨_, b5, .inl rfl⟩).ret (by rw [List.getElem?_set_ne t1]; exact b1) (by rw [List.getElem?_set_ne t2]; exact b2)).app K⟩
 by_cases cB : 15 ≤ op ∧ op ≤ 18
 ·obtain ⟨o15, o18⟩ := cB
  have o1 : ¬ op = 1 := by omega
  have o26 : ¬ op = 26 := by omega
  have o5 : 5 ≤ op := by omega
  have o13 : ¬ op ≤ 13 := by omega
  obtain ⟨H2, l3, j2⟩ := mem_ev hnok hi b5 r1' (eff_has y2 hs) (y5 c hc)
  rw [y3] at l3 j2
  have hMok := memV_ok (V := vw A s) hnok ⟨op, (a : Int), (b : Int), c'⟩
  obtain ⟨⟨⟨mk, ma⟩, g2, V2⟩, hM⟩ : ∃ x, memV (vw A s) nx ⟨op, a, b, c'⟩ = x := ⟨_, rfl⟩
  rw [hM] at l3 j2 hMok
  simp only [insA] at l3 j2 hMok
  unfold busV at l3
  have z1 := rg_len hMok.len
  have z2 := @rg_take g2 hMok.len
  have z3 := fun (r : Row) => @rw_all g2 hMok.len r
  obtain ⟨c0, p0, w0⟩ := j2.keep2 b0 (by simp)
  obtain ⟨c1, p1, w1⟩ := j2.keep2 b1 (by simp)
  obtain ⟨c2, p2, w2⟩ := j2.keep2 b2 (by simp)
  obtain ⟨c3, p3, w3⟩ := j2.keep2 b3 (by simp)
  obtain ⟨c4, p4, w4⟩ := j2.keep2 b4 (by simp)
  obtain ⟨c5, p5, w5⟩ := j2.keep2 b5 (by simp)
  have s0 : H2.length ≠ H.length := by omega
  have s1 : H2.length ≠ H.length + 1 := by omega
  have s2 : H2.length ≠ H.length + 2 := by omega
  have s3 : H2.length ≠ H1.length + 2 := by omega
  have s0' : H.length ≠ H2.length := by omega
  have s1' : H.length + 1 ≠ H2.length := by omega
  have s2' : H.length + 2 ≠ H2.length := by omega
  have s3' : H1.length + 2 ≠ H2.length := by omega
  have j3 : Ss mid s H A V2 H2 := by
   rw [← hH1'] at j2
   obtain ⟨A2, x1, x2, x3, x4, x5⟩ := j2.of_app
   exact ⟨A2, x1, y2.trans x2, x3, y4.trans x4, fun c hc => x5 c (y5 c hc)⟩
  have j4 := j3.setN (i := H1.length + 2) (o := some (10, [rgRow g2])) (by omega) ⟨_, c5, .inl rfl⟩
  have c1' : (H2.set (H1.length + 2) (some (10, [rgRow g2])))[H.length + 1]? = some (some (10, [Z])) := by rw [List.getElem?_set_ne t1]; exact c1
  have c2' : (H2.set (H1.length + 2) (some (10, [rgRow g2])))[H.length + 2]? = some (some (2, [[.v (.int .i64 0), .v (.int .u32 0)]])) := by rw [List.getElem?_set_ne t2]; exact c2
  by_cases qm : mk = 0
  ·subst qm
   refine chM_ev rfl ?_
   apply Exists.intro
   apply Exists.intro
   apply And.intro
   refine' bodyE_of (((((((noOrc_ok.withI fet_inl).withI mem_inl).withI jump_inl).withI other_inl).withP dec_pure).withP reckon_pure).withD (fun i => if i = 3 then [(1,2)] else if i = 18 then [(1,2)] else [])) fxMix (by kernel_rfl) (by simp [Try.ntmps16]) ?_
   rotate_left 2
   intro C cP cI cN cD cF cA cR cL
   have cp0 := orcP dec_pure (C := C) (by rw [cP]; rfl)
   have cp1 := orcP reckon_pure (C := C) (by rw [cP]; rfl)
   have cn0 := orcI fet_inl (C := C) (by rw [cN]; rfl)
   have cn1 := orcI mem_inl (C := C) (by rw [cN]; rfl)
   have cn2 := orcI jump_inl (C := C) (by rw [cN]; rfl)
   have cn3 := orcI other_inl (C := C) (by rw [cN]; rfl)
   replace cI := fun g => congrFun cI g
   simp only [Orc.withP, Orc.withI, Orc.withF, Orc.withD, Orc.withA, Orc.withR, Orc.withC, noOrc] at cI
   replace cR : C.rd = fun _ => none := cR
   replace cD : C.dyn = fun i => if i = 3 then [(1,2)] else if i = 18 then [(1,2)] else [] := cD
   replace cF := fun g => congrFun cF g
   simp only [Orc.withP, Orc.withI, Orc.withF, Orc.withD, Orc.withA, Orc.withR, Orc.withC, noOrc] at cF
   replace cA : C.alt = fun _ => [] := cA
   clear cP cN
   unfold busV
   simp [Try.ntmps16, Try.results16, cSl, cp0, cp1, cn0, cn1, cn2, cn3, cI, cD, cR, cF, cA, gp, gr, gp', gr', aa, e1, e2, hZ, hZl, hH0, d0, d1, d2, vd0, vd1, vd2, hln, l1, a0, a1, a2, va0, va1, va2, n0, n1, n2, m0, m1, m2, m0', m1', m2', List.getElem?_append, List.set_append, List.getElem_set, List.getElem?_set, trA, ep, f1, f2, fa2, fe, fs, fst, fsa, ka, kb, kaI, kbI, ka9, kb9, ga, gb, ga', gb', hd, hH1', b0, b1, b2, b3, b4, b5, vb0, vb1, vb2, vb3, vb4, vb5, hln1, t0, t1, t2, t0', t1', t2', u0, u1, u2, o1, o26, o5, o13, o15, o18, l3, z1, z2, z3, c0, p0, w0, c1, p1, w1, c2, p2, w2, c3, p3, w3, c4, p4, w4, c5, p5, w5, s0, s1, s2, s3, s0', s1', s2', s3']
   exact Ent.refl _ _
   exact spT_of (S := (g2, (0, 0), V2)) h (by simp [stepV, hf, hd, o1, o26, o5, o13, o15, o18, hnx, hM]) ⟨rfl, (j4.ret c1' c2').app _⟩
  ·refine chM_ev rfl ?_
   apply Exists.intro
   apply Exists.intro
   apply And.intro
   refine' bodyE_of (((((((noOrc_ok.withI fet_inl).withI mem_inl).withI jump_inl).withI other_inl).withP dec_pure).withP reckon_pure).withD (fun i => if i = 3 then [(1,2)] else if i = 18 then [(1,2)] else [])) fxMix (by kernel_rfl) (by simp [Try.ntmps16]) ?_
   rotate_left 2
   intro C cP cI cN cD cF cA cR cL
   have cp0 := orcP dec_pure (C := C) (by rw [cP]; rfl)
   have cp1 := orcP reckon_pure (C := C) (by rw [cP]; rfl)
   have cn0 := orcI fet_inl (C := C) (by rw [cN]; rfl)
   have cn1 := orcI mem_inl (C := C) (by rw [cN]; rfl)
   have cn2 := orcI jump_inl (C := C) (by rw [cN]; rfl)
   have cn3 := orcI other_inl (C := C) (by rw [cN]; rfl)
   replace cI := fun g => congrFun cI g
   simp only [Orc.withP, Orc.withI, Orc.withF, Orc.withD, Orc.withA, Orc.withR, Orc.withC, noOrc] at cI
   replace cR : C.rd = fun _ => none := cR
   replace cD : C.dyn = fun i => if i = 3 then [(1,2)] else if i = 18 then [(1,2)] else [] := cD
   replace cF := fun g => congrFun cF g
   simp only [Orc.withP, Orc.withI, Orc.withF, Orc.withD, Orc.withA, Orc.withR, Orc.withC, noOrc] at cF
   replace cA : C.alt = fun _ => [] := cA
   clear cP cN
   unfold busV
   simp [Try.ntmps16, Try.results16, cSl, cp0, cp1, cn0, cn1, cn2, cn3, cI, cD, cR, cF, cA, gp, gr, gp', gr', aa, e1, e2, hZ, hZl, hH0, d0, d1, d2, vd0, vd1, vd2, hln, l1, a0, a1, a2, va0, va1, va2, n0, n1, n2, m0, m1, m2, m0', m1', m2', List.getElem?_append, List.set_append, List.getElem_set, List.getElem?_set, trA, ep, f1, f2, fa2, fe, fs, fst, fsa, ka, kb, kaI, kbI, ka9, kb9, ga, gb, ga', gb', hd, hH1', b0, b1, b2, b3, b4, b5, vb0, vb1, vb2, vb3, vb4, vb5, hln1, t0, t1, t2, t0', t1', t2', u0, u1, u2, o1, o26, o5, o13, o15, o18, l3, z1, z2, z3, c0, p0, w0, c1, p1, w1, c2, p2, w2, c3, p3, w3, c4, p4, w4, c5, p5, w5, s0, s1, s2, s3, s0', s1', s2', s3', qm]
   exact Ent.refl _ _
   exact spT_of (S := (g, (mk, ma), V2)) h (by simp [stepV, hf, hd, o1, o26, o5, o13, o15, o18, hnx, hM, qm]) ⟨rfl, (j4.ret c1' c2').app _⟩
 by_cases o25 : op = 25
 ·subst o25
  obtain ⟨H2, l3, j2⟩ := mem_ev hnok hi b5 r1' (eff_has y2 hs) (y5 c hc)
  rw [y3] at l3 j2
  have hMok := memV_ok (V := vw A s) hnok ⟨25, (a : Int), (b : Int), c'⟩
  obtain ⟨⟨⟨mk, ma⟩, g2, V2⟩, hM⟩ : ∃ x, memV (vw A s) nx ⟨25, a, b, c'⟩ = x := ⟨_, rfl⟩
  rw [hM] at l3 j2 hMok
  simp only [insA] at l3 j2 hMok
  unfold busV at l3
  have z1 := rg_len hMok.len
  have z2 := @rg_take g2 hMok.len
  have z3 := fun (r : Row) => @rw_all g2 hMok.len r
  obtain ⟨c0, p0, w0⟩ := j2.keep2 b0 (by simp)
  obtain ⟨c1, p1, w1⟩ := j2.keep2 b1 (by simp)
  obtain ⟨c2, p2, w2⟩ := j2.keep2 b2 (by simp)
  obtain ⟨c3, p3, w3⟩ := j2.keep2 b3 (by simp)
  obtain ⟨c4, p4, w4⟩ := j2.keep2 b4 (by simp)
  obtain ⟨c5, p5, w5⟩ := j2.keep2 b5 (by simp)
  have s0 : H2.length ≠ H.length := by omega
  have s1 : H2.length ≠ H.length + 1 := by omega
  have s2 : H2.length ≠ H.length + 2 := by omega
  have s3 : H2.length ≠ H1.length + 2 := by omega
  have s0' : H.length ≠ H2.length := by omega
  have s1' : H.length + 1 ≠ H2.length := by omega
  have s2' : H.length + 2 ≠ H2.length := by omega
  have s3' : H1.length + 2 ≠ H2.length := by omega
  have j3 : Ss mid s H A V2 H2 := by
   rw [← hH1'] at j2
   obtain ⟨A2, x1, x2, x3, x4, x5⟩ := j2.of_app
   exact ⟨A2, x1, y2.trans x2, x3, y4.trans x4, fun c hc => x5 c (y5 c hc)⟩
  have j4 := j3.setN (i := H1.length + 2) (o := some (10, [rgRow g2])) (by omega) ⟨_, c5, .inl rfl⟩
  have c1' : (H2.set (H1.length + 2) (some (10, [rgRow g2])))[H.length + 1]? = some (some (10, [Z])) := by rw [List.getElem?_set_ne t1]; exact c1
  have c2' : (H2.set (H1.length + 2) (some (10, [rgRow g2])))[H.length + 2]? = some (some (2, [[.v (.int .i64 0), .v (.int .u32 0)]])) := by rw [List.getElem?_set_ne t2]; exact c2
  by_cases qm : mk = 0
  ·subst qm
   refine chM_ev rfl ?_
   apply Exists.intro
   apply Exists.intro
   apply And.intro
   refine' bodyE_of (((((((noOrc_ok.withI fet_inl).withI mem_inl).withI jump_inl).withI other_inl).withP dec_pure).withP reckon_pure).withD (fun i => if i = 3 then [(1,2)] else if i = 18 then [(1,2)] else [])) fxMix (by kernel_rfl) (by simp [Try.ntmps16]) ?_
   rotate_left 2
   intro C cP cI cN cD cF cA cR cL
   have cp0 := orcP dec_pure (C := C) (by rw [cP]; rfl)
   have cp1 := orcP reckon_pure (C := C) (by rw [cP]; rfl)
   have cn0 := orcI fet_inl (C := C) (by rw [cN]; rfl)
   have cn1 := orcI mem_inl (C := C) (by rw [cN]; rfl)
   have cn2 := orcI jump_inl (C := C) (by rw [cN]; rfl)
   have cn3 := orcI other_inl (C := C) (by rw [cN]; rfl)
   replace cI := fun g => congrFun cI g
   simp only [Orc.withP, Orc.withI, Orc.withF, Orc.withD, Orc.withA, Orc.withR, Orc.withC, noOrc] at cI
   replace cR : C.rd = fun _ => none := cR
   replace cD : C.dyn = fun i => if i = 3 then [(1,2)] else if i = 18 then [(1,2)] else [] := cD
   replace cF := fun g => congrFun cF g
   simp only [Orc.withP, Orc.withI, Orc.withF, Orc.withD, Orc.withA, Orc.withR, Orc.withC, noOrc] at cF
   replace cA : C.alt = fun _ => [] := cA
   clear cP cN
   unfold busV
   simp [Try.ntmps16, Try.results16, cSl, cp0, cp1, cn0, cn1, cn2, cn3, cI, cD, cR, cF, cA, gp, gr, gp', gr', aa, e1, e2, hZ, hZl, hH0, d0, d1, d2, vd0, vd1, vd2, hln, l1, a0, a1, a2, va0, va1, va2, n0, n1, n2, m0, m1, m2, m0', m1', m2', List.getElem?_append, List.set_append, List.getElem_set, List.getElem?_set, trA, ep, f1, f2, fa2, fe, fs, fst, fsa, ka, kb, kaI, kbI, ka9, kb9, ga, gb, ga', gb', hd, hH1', b0, b1, b2, b3, b4, b5, vb0, vb1, vb2, vb3, vb4, vb5, hln1, t0, t1, t2, t0', t1', t2', u0, u1, u2, trA, l3, z1, z2, z3, c0, p0, w0, c1, p1, w1, c2, p2, w2, c3, p3, w3, c4, p4, w4, c5, p5, w5, s0, s1, s2, s3, s0', s1', s2', s3']
   exact Ent.refl _ _
   exact spT_of (S := (g2, (0, 0), V2)) h (by simp [stepV, hf, hd, trA, hnx, hM]) ⟨rfl, (j4.ret c1' c2').app _⟩
  ·refine chM_ev rfl ?_
   apply Exists.intro
   apply Exists.intro
   apply And.intro
   refine' bodyE_of (((((((noOrc_ok.withI fet_inl).withI mem_inl).withI jump_inl).withI other_inl).withP dec_pure).withP reckon_pure).withD (fun i => if i = 3 then [(1,2)] else if i = 18 then [(1,2)] else [])) fxMix (by kernel_rfl) (by simp [Try.ntmps16]) ?_
   rotate_left 2
   intro C cP cI cN cD cF cA cR cL
   have cp0 := orcP dec_pure (C := C) (by rw [cP]; rfl)
   have cp1 := orcP reckon_pure (C := C) (by rw [cP]; rfl)
   have cn0 := orcI fet_inl (C := C) (by rw [cN]; rfl)
   have cn1 := orcI mem_inl (C := C) (by rw [cN]; rfl)
   have cn2 := orcI jump_inl (C := C) (by rw [cN]; rfl)
   have cn3 := orcI other_inl (C := C) (by rw [cN]; rfl)
   replace cI := fun g => congrFun cI g
   simp only [Orc.withP, Orc.withI, Orc.withF, Orc.withD, Orc.withA, Orc.withR, Orc.withC, noOrc] at cI
   replace cR : C.rd = fun _ => none := cR
   replace cD : C.dyn = fun i => if i = 3 then [(1,2)] else if i = 18 then [(1,2)] else [] := cD
   replace cF := fun g => congrFun cF g
   simp only [Orc.withP, Orc.withI, Orc.withF, Orc.withD, Orc.withA, Orc.withR, Orc.withC, noOrc] at cF
   replace cA : C.alt = fun _ => [] := cA
   clear cP cN
   unfold busV
   simp [Try.ntmps16, Try.results16, cSl, cp0, cp1, cn0, cn1, cn2, cn3, cI, cD, cR, cF, cA, gp, gr, gp', gr', aa, e1, e2, hZ, hZl, hH0, d0, d1, d2, vd0, vd1, vd2, hln, l1, a0, a1, a2, va0, va1, va2, n0, n1, n2, m0, m1, m2, m0', m1', m2', List.getElem?_append, List.set_append, List.getElem_set, List.getElem?_set, trA, ep, f1, f2, fa2, fe, fs, fst, fsa, ka, kb, kaI, kbI, ka9, kb9, ga, gb, ga', gb', hd, hH1', b0, b1, b2, b3, b4, b5, vb0, vb1, vb2, vb3, vb4, vb5, hln1, t0, t1, t2, t0', t1', t2', u0, u1, u2, trA, l3, z1, z2, z3, c0, p0, w0, c1, p1, w1, c2, p2, w2, c3, p3, w3, c4, p4, w4, c5, p5, w5, s0, s1, s2, s3, s0', s1', s2', s3', qm]
   exact Ent.refl _ _
   exact spT_of (S := (g, (mk, ma), V2)) h (by simp [stepV, hf, hd, trA, hnx, hM, qm]) ⟨rfl, (j4.ret c1' c2').app _⟩
 by_cases o14 : op = 14
 ·subst o14
  obtain ⟨K, l3⟩ := other_ev (H := H1') hnok hi
  have hOok := otherF_ok hnok ⟨14, (a : Int), (b : Int), c'⟩
  obtain ⟨⟨J, tk⟩, hJ⟩ : ∃ x, otherF nx ⟨14, a, b, c'⟩ = x := ⟨_, rfl⟩
  rw [hJ] at l3 hOok
  simp only [insA] at l3 hOok
  have z1 := rg_len hOok.len
  have z2 := @rg_take J hOok.len
  have z3 := fun (r : Row) => @rw_all J hOok.len r
  refine chM_ev rfl ?_
  apply Exists.intro
  apply Exists.intro
  apply And.intro
  refine' bodyE_of (((((((noOrc_ok.withI fet_inl).withI mem_inl).withI jump_inl).withI other_inl).withP dec_pure).withP reckon_pure).withD (fun i => if i = 3 then [(1,2)] else if i = 18 then [(1,2)] else [])) fxMix (by kernel_rfl) (by simp [Try.ntmps16]) ?_
  rotate_left 2
  intro C cP cI cN cD cF cA cR cL
  have cp0 := orcP dec_pure (C := C) (by rw [cP]; rfl)
  have cp1 := orcP reckon_pure (C := C) (by rw [cP]; rfl)
  have cn0 := orcI fet_inl (C := C) (by rw [cN]; rfl)
  have cn1 := orcI mem_inl (C := C) (by rw [cN]; rfl)
  have cn2 := orcI jump_inl (C := C) (by rw [cN]; rfl)
  have cn3 := orcI other_inl (C := C) (by rw [cN]; rfl)
  replace cI := fun g => congrFun cI g
  simp only [Orc.withP, Orc.withI, Orc.withF, Orc.withD, Orc.withA, Orc.withR, Orc.withC, noOrc] at cI
  replace cR : C.rd = fun _ => none := cR
  replace cD : C.dyn = fun i => if i = 3 then [(1,2)] else if i = 18 then [(1,2)] else [] := cD
  replace cF := fun g => congrFun cF g
  simp only [Orc.withP, Orc.withI, Orc.withF, Orc.withD, Orc.withA, Orc.withR, Orc.withC, noOrc] at cF
  replace cA : C.alt = fun _ => [] := cA
  clear cP cN
  unfold busV
  simp [Try.ntmps16, Try.results16, cSl, cp0, cp1, cn0, cn1, cn2, cn3, cI, cD, cR, cF, cA, gp, gr, gp', gr', aa, e1, e2, hZ, hZl, hH0, d0, d1, d2, vd0, vd1, vd2, hln, l1, a0, a1, a2, va0, va1, va2, n0, n1, n2, m0, m1, m2, m0', m1', m2', List.getElem?_append, List.set_append, List.getElem_set, List.getElem?_set, trA, ep, f1, f2, fa2, fe, fs, fst, fsa, ka, kb, kaI, kbI, ka9, kb9, ga, gb, ga', gb', hd, hH1', b0, b1, b2, b3, b4, b5, vb0, vb1, vb2, vb3, vb4, vb5, hln1, t0, t1, t2, t0', t1', t2', u0, u1, u2, trA, l3, z1, z2, z3]
  exact Ent.refl _ _
  exact spT_of (S := (J, (tk, 0), vw A s)) h (by simp [stepV, hf, hd, trA, hnx, hJ]) ⟨rfl, (jH.ret b1 b2).app K⟩
 by_cases o24 : op = 24
 ·subst o24
  obtain ⟨K, l3⟩ := other_ev (H := H1') hnok hi
  have hOok := otherF_ok hnok ⟨24, (a : Int), (b : Int), c'⟩
  obtain ⟨⟨J, tk⟩, hJ⟩ : ∃ x, otherF nx ⟨24, a, b, c'⟩ = x := ⟨_, rfl⟩
  rw [hJ] at l3 hOok
  simp only [insA] at l3 hOok
  have z1 := rg_len hOok.len
  have z2 := @rg_take J hOok.len
  have z3 := fun (r : Row) => @rw_all J hOok.len r
  refine chM_ev rfl ?_
  apply Exists.intro
  apply Exists.intro
  apply And.intro
  refine' bodyE_of (((((((noOrc_ok.withI fet_inl).withI mem_inl).withI jump_inl).withI other_inl).withP dec_pure).withP reckon_pure).withD (fun i => if i = 3 then [(1,2)] else if i = 18 then [(1,2)] else [])) fxMix (by kernel_rfl) (by simp [Try.ntmps16]) ?_
  rotate_left 2
  intro C cP cI cN cD cF cA cR cL
  have cp0 := orcP dec_pure (C := C) (by rw [cP]; rfl)
  have cp1 := orcP reckon_pure (C := C) (by rw [cP]; rfl)
  have cn0 := orcI fet_inl (C := C) (by rw [cN]; rfl)
  have cn1 := orcI mem_inl (C := C) (by rw [cN]; rfl)
  have cn2 := orcI jump_inl (C := C) (by rw [cN]; rfl)
  have cn3 := orcI other_inl (C := C) (by rw [cN]; rfl)
  replace cI := fun g => congrFun cI g
  simp only [Orc.withP, Orc.withI, Orc.withF, Orc.withD, Orc.withA, Orc.withR, Orc.withC, noOrc] at cI
  replace cR : C.rd = fun _ => none := cR
  replace cD : C.dyn = fun i => if i = 3 then [(1,2)] else if i = 18 then [(1,2)] else [] := cD
  replace cF := fun g => congrFun cF g
  simp only [Orc.withP, Orc.withI, Orc.withF, Orc.withD, Orc.withA, Orc.withR, Orc.withC, noOrc] at cF
  replace cA : C.alt = fun _ => [] := cA
  clear cP cN
  unfold busV
  simp [Try.ntmps16, Try.results16, cSl, cp0, cp1, cn0, cn1, cn2, cn3, cI, cD, cR, cF, cA, gp, gr, gp', gr', aa, e1, e2, hZ, hZl, hH0, d0, d1, d2, vd0, vd1, vd2, hln, l1, a0, a1, a2, va0, va1, va2, n0, n1, n2, m0, m1, m2, m0', m1', m2', List.getElem?_append, List.set_append, List.getElem_set, List.getElem?_set, trA, ep, f1, f2, fa2, fe, fs, fst, fsa, ka, kb, kaI, kbI, ka9, kb9, ga, gb, ga', gb', hd, hH1', b0, b1, b2, b3, b4, b5, vb0, vb1, vb2, vb3, vb4, vb5, hln1, t0, t1, t2, t0', t1', t2', u0, u1, u2, trA, l3, z1, z2, z3]
  exact Ent.refl _ _
  exact spT_of (S := (J, (tk, 0), vw A s)) h (by simp [stepV, hf, hd, trA, hnx, hJ]) ⟨rfl, (jH.ret b1 b2).app K⟩
 by_cases o1 : op = 1
 ·subst o1
  have qr : g.ring = 0 := Classical.byContradiction fun e => hb ⟨by simp, e⟩
  have hnx0 : ({ r := g.r, pc := IntKind.u32.wrap (g.pc + 4), ring := 0 } : Rg) = nx := by rw [← hnx, qr]
  obtain ⟨K, l3⟩ := other_ev (H := H1') hnok hi
  have hOok := otherF_ok hnok ⟨1, (a : Int), (b : Int), c'⟩
  obtain ⟨⟨J, tk⟩, hJ⟩ : ∃ x, otherF nx ⟨1, a, b, c'⟩ = x := ⟨_, rfl⟩
  rw [hJ] at l3 hOok
  simp only [insA] at l3 hOok
  have z1 := rg_len hOok.len
  have z2 := @rg_take J hOok.len
  have z3 := fun (r : Row) => @rw_all J hOok.len r
  refine chM_ev rfl ?_
  apply Exists.intro
  apply Exists.intro
  apply And.intro
  refine' bodyE_of (((((((noOrc_ok.withI fet_inl).withI mem_inl).withI jump_inl).withI other_inl).withP dec_pure).withP reckon_pure).withD (fun i => if i = 3 then [(1,2)] else if i = 18 then [(1,2)] else [])) fxMix (by kernel_rfl) (by simp [Try.ntmps16]) ?_
  rotate_left 2
  intro C cP cI cN cD cF cA cR cL
  have cp0 := orcP dec_pure (C := C) (by rw [cP]; rfl)
  have cp1 := orcP reckon_pure (C := C) (by rw [cP]; rfl)
  have cn0 := orcI fet_inl (C := C) (by rw [cN]; rfl)
  have cn1 := orcI mem_inl (C := C) (by rw [cN]; rfl)
  have cn2 := orcI jump_inl (C := C) (by rw [cN]; rfl)
  have cn3 := orcI other_inl (C := C) (by rw [cN]; rfl)
  replace cI := fun g => congrFun cI g
  simp only [Orc.withP, Orc.withI, Orc.withF, Orc.withD, Orc.withA, Orc.withR, Orc.withC, noOrc] at cI
  replace cR : C.rd = fun _ => none := cR
  replace cD : C.dyn = fun i => if i = 3 then [(1,2)] else if i = 18 then [(1,2)] else [] := cD
  replace cF := fun g => congrFun cF g
  simp only [Orc.withP, Orc.withI, Orc.withF, Orc.withD, Orc.withA, Orc.withR, Orc.withC, noOrc] at cF
  replace cA : C.alt = fun _ => [] := cA
  clear cP cN
  unfold busV
  simp [Try.ntmps16, Try.results16, cSl, cp0, cp1, cn0, cn1, cn2, cn3, cI, cD, cR, cF, cA, gp, gr, gp', gr', aa, e1, e2, hZ, hZl, hH0, d0, d1, d2, vd0, vd1, vd2, hln, l1, a0, a1, a2, va0, va1, va2, n0, n1, n2, m0, m1, m2, m0', m1', m2', List.getElem?_append, List.set_append, List.getElem_set, List.getElem?_set, trA, ep, f1, f2, fa2, fe, fs, fst, fsa, ka, kb, kaI, kbI, ka9, kb9, ga, gb, ga', gb', hd, hH1', b0, b1, b2, b3, b4, b5, vb0, vb1, vb2, vb3, vb4, vb5, hln1, t0, t1, t2, t0', t1', t2', u0, u1, u2, qr, hnx0, l3, z1, z2, z3]
  exact Ent.refl _ _
  exact spT_of (S := (J, (tk, 0), vw A s)) h (by simp [stepV, hf, hd, qr, hnx0, hnx, hJ]) ⟨rfl, (jH.ret b1 b2).app K⟩
 by_cases o26 : op = 26
 ·subst o26
  have qr : g.ring = 0 := Classical.byContradiction fun e => hb ⟨by simp, e⟩
  have hnx0 : ({ r := g.r, pc := IntKind.u32.wrap (g.pc + 4), ring := 0 } : Rg) = nx := by rw [← hnx, qr]
  obtain ⟨K, l3⟩ := other_ev (H := H1') hnok hi
  have hOok := otherF_ok hnok ⟨26, (a : Int), (b : Int), c'⟩
  obtain ⟨⟨J, tk⟩, hJ⟩ : ∃ x, otherF nx ⟨26, a, b, c'⟩ = x := ⟨_, rfl⟩
  rw [hJ] at l3 hOok
  simp only [insA] at l3 hOok
  have z1 := rg_len hOok.len
  have z2 := @rg_take J hOok.len
  have z3 := fun (r : Row) => @rw_all J hOok.len r
  refine chM_ev rfl ?_
  apply Exists.intro
  apply Exists.intro
  apply And.intro
  refine' bodyE_of (((((((noOrc_ok.withI fet_inl).withI mem_inl).withI jump_inl).withI other_inl).withP dec_pure).withP reckon_pure).withD (fun i => if i = 3 then [(1,2)] else if i = 18 then [(1,2)] else [])) fxMix (by kernel_rfl) (by simp [Try.ntmps16]) ?_
  rotate_left 2
  intro C cP cI cN cD cF cA cR cL
  have cp0 := orcP dec_pure (C := C) (by rw [cP]; rfl)
  have cp1 := orcP reckon_pure (C := C) (by rw [cP]; rfl)
  have cn0 := orcI fet_inl (C := C) (by rw [cN]; rfl)
  have cn1 := orcI mem_inl (C := C) (by rw [cN]; rfl)
  have cn2 := orcI jump_inl (C := C) (by rw [cN]; rfl)
  have cn3 := orcI other_inl (C := C) (by rw [cN]; rfl)
  replace cI := fun g => congrFun cI g
  simp only [Orc.withP, Orc.withI, Orc.withF, Orc.withD, Orc.withA, Orc.withR, Orc.withC, noOrc] at cI
  replace cR : C.rd = fun _ => none := cR
  replace cD : C.dyn = fun i => if i = 3 then [(1,2)] else if i = 18 then [(1,2)] else [] := cD
  replace cF := fun g => congrFun cF g
  simp only [Orc.withP, Orc.withI, Orc.withF, Orc.withD, Orc.withA, Orc.withR, Orc.withC, noOrc] at cF
  replace cA : C.alt = fun _ => [] := cA
  clear cP cN
  unfold busV
  simp [Try.ntmps16, Try.results16, cSl, cp0, cp1, cn0, cn1, cn2, cn3, cI, cD, cR, cF, cA, gp, gr, gp', gr', aa, e1, e2, hZ, hZl, hH0, d0, d1, d2, vd0, vd1, vd2, hln, l1, a0, a1, a2, va0, va1, va2, n0, n1, n2, m0, m1, m2, m0', m1', m2', List.getElem?_append, List.set_append, List.getElem_set, List.getElem?_set, trA, ep, f1, f2, fa2, fe, fs, fst, fsa, ka, kb, kaI, kbI, ka9, kb9, ga, gb, ga', gb', hd, hH1', b0, b1, b2, b3, b4, b5, vb0, vb1, vb2, vb3, vb4, vb5, hln1, t0, t1, t2, t0', t1', t2', u0, u1, u2, qr, hnx0, l3, z1, z2, z3]
  exact Ent.refl _ _
  exact spT_of (S := (J, (tk, 0), vw A s)) h (by simp [stepV, hf, hd, qr, hnx0, hnx, hJ]) ⟨rfl, (jH.ret b1 b2).app K⟩
 have o5 : ¬ 5 ≤ op := by omega
 have o15 : ¬ 15 ≤ op := by omega
 have o19 : ¬ 19 ≤ op := by omega
 obtain ⟨K, l3⟩ := other_ev (H := H1') hnok hi
 have hOok := otherF_ok hnok ⟨op, (a : Int), (b : Int), c'⟩
 obtain ⟨⟨J, tk⟩, hJ⟩ : ∃ x, otherF nx ⟨op, a, b, c'⟩ = x := ⟨_, rfl⟩
 rw [hJ] at l3 hOok
 simp only [insA] at l3 hOok
 have z1 := rg_len hOok.len
 have z2 := @rg_take J hOok.len
 have z3 := fun (r : Row) => @rw_all J hOok.len r
 refine chM_ev rfl ?_
 apply Exists.intro
 apply Exists.intro
 apply And.intro
 refine' bodyE_of (((((((noOrc_ok.withI fet_inl).withI mem_inl).withI jump_inl).withI other_inl).withP dec_pure).withP reckon_pure).withD (fun i => if i = 3 then [(1,2)] else if i = 18 then [(1,2)] else [])) fxMix (by kernel_rfl) (by simp [Try.ntmps16]) ?_
 rotate_left 2
 intro C cP cI cN cD cF cA cR cL
 have cp0 := orcP dec_pure (C := C) (by rw [cP]; rfl)
 have cp1 := orcP reckon_pure (C := C) (by rw [cP]; rfl)
 have cn0 := orcI fet_inl (C := C) (by rw [cN]; rfl)
 have cn1 := orcI mem_inl (C := C) (by rw [cN]; rfl)
 have cn2 := orcI jump_inl (C := C) (by rw [cN]; rfl)
 have cn3 := orcI other_inl (C := C) (by rw [cN]; rfl)
 replace cI := fun g => congrFun cI g
 simp only [Orc.withP, Orc.withI, Orc.withF, Orc.withD, Orc.withA, Orc.withR, Orc.withC, noOrc] at cI
 replace cR : C.rd = fun _ => none := cR
 replace cD : C.dyn = fun i => if i = 3 then [(1,2)] else if i = 18 then [(1,2)] else [] := cD
 replace cF := fun g => congrFun cF g
 simp only [Orc.withP, Orc.withI, Orc.withF, Orc.withD, Orc.withA, Orc.withR, Orc.withC, noOrc] at cF
 replace cA : C.alt = fun _ => [] := cA
 clear cP cN
 unfold busV
 simp [Try.ntmps16, Try.results16, cSl, cp0, cp1, cn0, cn1, cn2, cn3, cI, cD, cR, cF, cA, gp, gr, gp', gr', aa, e1, e2, hZ, hZl, hH0, d0, d1, d2, vd0, vd1, vd2, hln, l1, a0, a1, a2, va0, va1, va2, n0, n1, n2, m0, m1, m2, m0', m1', m2', List.getElem?_append, List.set_append, List.getElem_set, List.getElem?_set, trA, ep, f1, f2, fa2, fe, fs, fst, fsa, ka, kb, kaI, kbI, ka9, kb9, ga, gb, ga', gb', hd, hH1', b0, b1, b2, b3, b4, b5, vb0, vb1, vb2, vb3, vb4, vb5, hln1, t0, t1, t2, t0', t1', t2', u0, u1, u2, o1, o26, o5, o15, o25, o19, l3, z1, z2, z3]
 exact Ent.refl _ _
 exact spT_of (S := (J, (tk, 0), vw A s)) h (by simp [stepV, hf, hd, o1, o26, o5, o15, o25, o19, hnx, hJ]) ⟨rfl, (jH.ret b1 b2).app K⟩
theorem ishr_ok {a : Int} (b : Int) (h : 0 ≤ a ∧ a < 4294967296) : 0 ≤ ishr .u32 a b ∧ ishr .u32 a b < 4294967296 := by
 unfold ishr
 have hp : (0 : Int) < 2 ^ (min b.toNat (IntKind.u32.bits)) := Int.pow_pos (by decide)
 rw [Int.fdiv_eq_ediv_of_nonneg _ (Int.le_of_lt hp)]
 exact ⟨Int.ediv_nonneg h.1 (Int.le_of_lt hp), Int.lt_of_le_of_lt (Int.ediv_le_self _ h.1) h.2⟩
theorem reckF_ok {a b : Int} (op : Int) (h : 0 ≤ a ∧ a < 4294967296) : 0 ≤ (reckF op a b).1 ∧ (reckF op a b).1 < 4294967296 := by
 unfold reckF
 repeat' split
 all_goals first | exact u32_ok _ | exact ishr_ok _ h | exact ⟨by simp, by simp⟩
theorem stepV_ok {g : Rg} (V : View) (h : g.ok) : (stepV V g).1.ok := by
 unfold stepV
 simp only
 have hn : ({ g with pc := IntKind.u32.wrap (g.pc + 4) } : Rg).ok := Rg.pc_ok h (u32_ok _)
 repeat' split
 all_goals first | exact h | exact Rg.set_ok hn _ (reckF_ok _ (g.at_ok h _)) | exact memV_ok hn _ | exact jumpF_ok hn _ _ | exact otherF_ok hn _
end
section
set_option linter.unusedSimpArgs false
set_option linter.unusedVariables false
def updV (V : View) (j : Int) (x : List Int × Int) : View := fun k => if k = j then some x else V k
theorem Ss.putp {mid c : Nat} {s : Int} {H H1 : Heap} {A : Ab} {V : View} (k : Ss mid s H A V H1) (hs : has A s) (hc : Inv c A) {j rg : Int} {d : List Int} {x : AVal} (hV : V j = none) (hj : 0 ≤ j ∧ j < 6) (hrg : 0 ≤ rg ∧ rg ≤ 7) (hd : d.length = 16) (hx : bytesAt H1 x = some d) :
  ∃ H', putM [.ptr mid 5 0 0, .v (.int .i64 s), .v (.int .i64 j), .v (.int .i64 rg), x] H1 = some (.v (.int .i64 0), H') ∧ Ss mid s H A (updV V j (d, rg)) H' := by
 obtain ⟨A1, h1, h2, h3, h4, h5⟩ := k
 obtain ⟨e, H', A2, g1, g2, g3, g4⟩ := put_ev h1 (s := s) (at_ := j) (rights := rg) (d := d)
 have hp : pad d = d := by simp [pad, hd]
 rcases g4 with ⟨rfl, _, _, _, g5⟩ | ⟨_, _, g5 | g5 | g5 | g5 | g5⟩
 ·refine ⟨H', ?_, A2, g2, h2.trans g3, ?_, h4.trans (kn_put h1 g1), fun c hc => ?_⟩
  ·simp only [putM, rg_at h1, hx, Option.bind_some, Option.map_some, g1]
  ·funext k
   rw [g5 k, hp, h3]; rfl
  ·have i := h5 c hc
   refine ⟨fun t k hk => ?_, ?_, by rw [g3.fr, g3.sl]; exact i.rm⟩
   ·by_cases ht : t = s
    ·subst ht
     rw [g5] at hk
     split at hk
     ·rename_i e; rw [e]; exact hj
     ·exact i.six t k hk
    ·rw [g3.ot t k ht] at hk
     exact i.six t k hk
   ·have := congrArg List.length g3.ks
    simp only [List.length_map] at this
    rw [this]; exact i.le
 ·exact absurd (eff_has h2 hs) g5
 ·unfold spanBad at g5; omega
 ·omega
 ·rw [h3] at g5; exact absurd hV g5
 ·have := (h5 c hc).room h1; omega
theorem Ss.map45 {mid c : Nat} {s : Int} {H H1 : Heap} {A : Ab} {V : View} (k : Ss mid s H A V H1) (hs : has A s) (hc : Inv c A) (hV4 : V 4 = none) (hV5 : V 5 = none) :
  ∃ H', mapM [.ptr mid 5 0 0, .v (.int .i64 s), .v (.int .i64 4), .v (.int .i64 2), .v (.int .i64 3)] H1 = some (.v (.int .i64 0), H') ∧ Ss mid s H A (fun j => if 4 ≤ j ∧ j < 6 then some (z16, 3) else V j) H' := by
 obtain ⟨A1, h1, h2, h3, h4, h5⟩ := k
 obtain ⟨e, H', A2, g1, g2, g3, g4⟩ := map_ev h1 (s := s) (first := 4) (n := 2) (rights := 3)
 rcases g4 with ⟨rfl, _, _, _, _, g5⟩ | ⟨_, _, ⟨_, g5⟩ | ⟨_, g5⟩ | ⟨_, j, g5, g6, g7⟩ | ⟨_, g5⟩⟩
 ·refine ⟨H', g1, A2, g2, h2.trans g3, ?_, h4.trans (kn_map h1 g1), fun c hc => ?_⟩
  ·funext k
   rw [g5 k, h3]; rfl
  ·have i := h5 c hc
   refine ⟨fun t k hk => ?_, ?_, by rw [g3.fr, g3.sl]; exact i.rm⟩
   ·by_cases ht : t = s
    ·subst ht
     rw [g5] at hk
     split at hk
     ·omega
     ·exact i.six t k hk
    ·rw [g3.ot t k ht] at hk
     exact i.six t k hk
   ·have := congrArg List.length g3.ks
    simp only [List.length_map] at this
    rw [this]; exact i.le
 ·exact absurd (eff_has h2 hs) g5
 ·unfold spanBad at g5; omega
 ·rw [h3] at g7
  have : j = 4 ∨ j = 5 := by omega
  rcases this with rfl | rfl
  ·exact absurd hV4 g7
  ·exact absurd hV5 g7
 ·have := (h5 c hc).room2 h1; omega
def okvB (V : View) (want k : Int) : Bool := match V k with
 | some x => iand .i64 x.2 want == want
 | none => false
def btV (V : View) (i : Int) : Int := match V (i / 16) with
 | some x => (x.1[(i % 16).toNat]?).getD 0
 | none => 0
noncomputable def seeV (V : View) : List Int := @ite _ (∀ i : Nat, i < 96 → okvB V 1 ((0 + (i : Int)) / 16) = true) (Classical.propDecidable _) ((List.range 96).map fun i => btV V (0 + ((i : Nat) : Int))) []
def IsL (n0 : Nat) (H : Heap) (r : AVal) (l : List Int) : Prop := (r = .v (.slice none 0 0) ∧ l = []) ∨ ∃ n, r = .osl n 1 0 l.length l.length ∧ H[n]? = some (some (1, yRow l)) ∧ n0 ≤ n ∧ l ≠ []
theorem read_v {H : Heap} {mid : Nat} {A : Ab} (h : RG mid (H, A)) {s : Int} (hs : has A s) :
  (∃ e K, readM [.ptr mid 5 0 0, .v (.int .i64 s), .v (.int .i64 0), .v (.int .i64 96)] H = some (.v (.tuple #[.slice none 0 0, .int .i64 e]), H ++ K) ∧ seeV (vw A s) = []) ∨
  (∃ n H', readM [.ptr mid 5 0 0, .v (.int .i64 s), .v (.int .i64 0), .v (.int .i64 96)] H = some (.tup [.osl n 1 0 96 96, .v (.int .i64 0)], H') ∧ H'[n]? = some (some (1, yRow (seeV (vw A s)))) ∧ H.length ≤ n ∧ (seeV (vw A s)).length = 96 ∧ LkRG mid H A H') := by
 rcases read_ev h (s := s) (addr := 0) (n := 96) (by decide) (by decide) with ⟨e, _, K, h1, h2⟩ | ⟨_, h2, g, L', lk, h3, h4⟩
 ·left
  refine ⟨e, K, h1, ?_⟩
  unfold seeV
  rw [if_neg]
  intro hc
  exact h2 ⟨hs, hc⟩
 ·right
  have hall : seeV (vw A s) = btL A s 0 96 := by
   unfold seeV
   rw [if_pos (show ∀ i : Nat, i < 96 → okvB (vw A s) 1 ((0 + (i : Int)) / 16) = true from fun i hi => h2 i hi)]
   rfl
  have kn := kn_read h (n := ((96 : Nat) : Int)) h4
  refine ⟨H.length + g + 191, _, h4, ?_, by omega, by rw [hall, btL_len], L', lk, h3, kn⟩
  rw [hall]
  have hl : (wr (H ++ List.replicate g none) mid L').length = H.length + g := by rw [wr_len]; simp
  rw [List.getElem?_append_right (by omega), hl]
  show (List.replicate 191 none ++ [some (1, yRow (btL A s 0 96))])[H.length + g + 191 - (H.length + g)]? = _
  rw [show H.length + g + 191 - (H.length + g) = 191 by omega, List.getElem?_append_right (by rw [List.length_replicate]; exact Nat.le_refl _), List.length_replicate]
  rfl
def SpA (args : Row) (H : Heap) (r : AVal) (H' : Heap) : Prop := ∀ mid s A, args = [.ptr mid 5 0 0, .v (.int .i64 s)] → RG mid (H, A) → LkRG mid H A H' ∧ IsL H.length H' r (seeV (vw A s))
noncomputable def allM := chM Try.prog Try.f18 SpA
theorem all_inl : InlOk Try.prog 18 allM := chM_ok Try.func18 rfl
theorem all_ev {H : Heap} {mid : Nat} {A : Ab} (h : RG mid (H, A)) {s : Int} (hs : has A s) : ∃ r H', allM [.ptr mid 5 0 0, .v (.int .i64 s)] H = some (r, H') ∧ LkRG mid H A H' ∧ IsL H.length H' r (seeV (vw A s)) := by
 suffices hx : ∃ r H', allM [.ptr mid 5 0 0, .v (.int .i64 s)] H = some (r, H') ∧ SpA [.ptr mid 5 0 0, .v (.int .i64 s)] H r H' by
  obtain ⟨r, H', h1, h2⟩ := hx
  exact ⟨r, H', h1, h2 mid s A rfl h⟩
 have sp : ∀ {r : AVal} {H' : Heap}, LkRG mid H A H' ∧ IsL H.length H' r (seeV (vw A s)) → SpA [.ptr mid 5 0 0, .v (.int .i64 s)] H r H' := by
  intro r H' hr mid' s' A' ha hA'
  simp only [List.cons.injEq, AVal.v.injEq, Value.int.injEq, AVal.ptr.injEq, true_and, and_true] at ha
  obtain ⟨rfl, rfl⟩ := ha
  have := rg_uniq h hA'
  subst this
  exact hr
 rcases read_v h hs with ⟨e, K, h1, h2⟩ | ⟨n, H', h1, h2, h3, h4, h5⟩
 ·refine chM_ev rfl ?_
  apply Exists.intro
  apply Exists.intro
  apply And.intro
  refine' bodyE_of (noOrc_ok.withI read_inl) fxMix (by kernel_rfl) (by simp [Try.ntmps18]) ?_
  rotate_left 2
  intro C cP cI cN cD cF cA cR cL
  have cn0 := orcI read_inl (C := C) (by rw [cN]; rfl)
  replace cI := fun g => congrFun cI g
  simp only [Orc.withP, Orc.withI, Orc.withF, Orc.withD, Orc.withA, Orc.withR, Orc.withC, noOrc] at cI
  replace cR : C.rd = fun _ => none := cR
  replace cD : C.dyn = fun _ => [] := cD
  clear cP cN cF cA
  simp [Try.ntmps18, Try.results18, cSl, cn0, cI, cD, cR, h1]
  exact Ent.refl _ _
  exact sp ⟨(LkRG.refl h).app _, .inl ⟨rfl, h2⟩⟩
 ·refine chM_ev rfl ?_
  apply Exists.intro
  apply Exists.intro
  apply And.intro
  refine' bodyE_of (noOrc_ok.withI read_inl) fxMix (by kernel_rfl) (by simp [Try.ntmps18]) ?_
  rotate_left 2
  intro C cP cI cN cD cF cA cR cL
  have cn0 := orcI read_inl (C := C) (by rw [cN]; rfl)
  replace cI := fun g => congrFun cI g
  simp only [Orc.withP, Orc.withI, Orc.withF, Orc.withD, Orc.withA, Orc.withR, Orc.withC, noOrc] at cI
  replace cR : C.rd = fun _ => none := cR
  replace cD : C.dyn = fun _ => [] := cD
  clear cP cN cF cA
  simp [Try.ntmps18, Try.results18, cSl, cn0, cI, cD, cR, h1]
  exact Ent.refl _ _
  exact sp ⟨h5, .inr ⟨n, by rw [h4], h2, h3, fun e => by rw [e] at h4; cases h4⟩⟩
end
section
attribute [local simp] Ins.eta Ins.cold Ins.mapM Ins.mapMc Ins.view Ins.viewc Ins.hotR Ins.ren Ins.renc Ins.low Ins.tau Ins.tauc Ins.bare Ins.flat Ins.flat1 Ins.mapMt Ins.mapMd Ins.coldt Ins.coldd Ins.hotRt Ins.hotRd
abbrev yR (d : List Int) : List Row := d.map (irow .u8)
inductive CellL (H : Heap) (t : Nat) : List Int → Option Nat → Prop
 | nil (h : H[t]? = some (some (1, [[.v (.slice none 0 0)]]))) : CellL H t [] none
 | own {d : List Int} {q : Nat} (h : H[t]? = some (some (1, [[.osl q 1 0 d.length d.length]]))) (hq : H[q]? = some (some (1, yR d))) (hn : q ≠ t) (hd : d ≠ []) : CellL H t d (some q)
def KeepB (H H' : Heap) (t : Nat) (q : Option Nat) : Prop := ∀ j, j < H.length → j ≠ t → q ≠ some j → H'[j]? = H[j]?
def SpC (args : Row) (H : Heap) (r : AVal) (H' : Heap) : Prop := ∀ i t d q, args = [.v (.agg (insA i)), .ptr t 1 0 0] → CellL H t d q → r = .v (.tuple #[]) ∧ ∃ d' q', d'.length = d.length + 4 ∧ CellL H' t d' (some q') ∧ KeepB H H' t q ∧ H.length ≤ q' ∧ H.length ≤ H'.length
noncomputable def cloM := chM Try.prog Try.f21 SpC
theorem clo_inl : InlOk Try.prog 21 cloM := chM_ok Try.func21 rfl
theorem CellL.uniq {H : Heap} {t : Nat} {d d' : List Int} {q q' : Option Nat} (h : CellL H t d q) (h' : CellL H t d' q') : d = d' ∧ q = q' := by
 have irw : ∀ {a b : List Int}, yR a = yR b → a = b := by
  intro a
  induction a with
  | nil => intro b e; cases b with
   | nil => rfl
   | cons _ _ => simp at e
  | cons x a ih => intro b e; cases b with
   | nil => simp at e
   | cons y b =>
    simp only [List.map_cons, List.cons.injEq, irow, and_true, AVal.v.injEq, Value.int.injEq, true_and] at e
    rw [e.1, ih e.2]
 cases h with
 | nil h =>
  cases h' with
  | nil h2 => exact ⟨rfl, rfl⟩
  | own h2 _ _ _ => rw [h] at h2; cases h2
 | own h hq hn hd =>
  cases h' with
  | nil h2 => rw [h] at h2; cases h2
  | own h2 hq2 _ _ =>
   rw [h] at h2
   simp only [Option.some.injEq, Prod.mk.injEq, List.cons.injEq, AVal.osl.injEq, true_and, and_true] at h2
   obtain ⟨rfl, _⟩ := h2
   rw [hq] at hq2
   simp only [Option.some.injEq, Prod.mk.injEq, true_and] at hq2
   exact ⟨irw hq2, rfl⟩
theorem clo_ev {H : Heap} {i : Ins} {t : Nat} {d : List Int} {q : Option Nat} (h : CellL H t d q) (hl : d.length ≤ 1000) :
  ∃ H' d' q', cloM [.v (.agg (insA i)), .ptr t 1 0 0] H = some (.v (.tuple #[]), H') ∧ d'.length = d.length + 4 ∧ CellL H' t d' (some q') ∧ KeepB H H' t q ∧ H.length ≤ q' ∧ H.length ≤ H'.length := by
 suffices hx : ∃ r H', cloM [.v (.agg (insA i)), .ptr t 1 0 0] H = some (r, H') ∧ SpC [.v (.agg (insA i)), .ptr t 1 0 0] H r H' by
  obtain ⟨r, H', h1, h2⟩ := hx
  obtain ⟨rfl, d', q', h3⟩ := h2 i t d q rfl h
  exact ⟨H', d', q', h1, h3⟩
 have sp : ∀ {r : AVal} {H' : Heap} (d' : List Int) (q' : Nat), r = .v (.tuple #[]) → d'.length = d.length + 4 ∧ CellL H' t d' (some q') ∧ KeepB H H' t q ∧ H.length ≤ q' ∧ H.length ≤ H'.length → SpC [.v (.agg (insA i)), .ptr t 1 0 0] H r H' := by
  intro r H' d' q' hr hx i' t' d2 q2 ha hc
  simp only [List.cons.injEq, AVal.v.injEq, AVal.ptr.injEq, true_and, and_true] at ha
  obtain ⟨_, rfl⟩ := ha
  obtain ⟨rfl, rfl⟩ := h.uniq hc
  exact ⟨hr, d', q', hx⟩
 obtain ⟨⟨w, e⟩, he⟩ : ∃ x, encF i = x := ⟨_, rfl⟩
 obtain ⟨op, a, b, c⟩ := i
 cases h with
 | nil ht =>
  have htl := (List.getElem?_eq_some_iff.1 ht).1
  have gt := (List.getElem?_eq_some_iff.1 ht).2
  refine chM_ev rfl ?_
  apply Exists.intro
  apply Exists.intro
  apply And.intro
  refine' bodyE_of (noOrc_ok.withP enc_pure) fxMix (by kernel_rfl) (by simp [Try.ntmps21]) ?_
  rotate_left 2
  intro C cP cI cN cD cF cA cR cL
  have cp0 := orcP enc_pure (C := C) (by rw [cP]; rfl)
  replace cI : C.inl = fun _ => false := cI
  replace cR : C.rd = fun _ => none := cR
  replace cD : C.dyn = fun _ => [] := cD
  clear cP cN cF cA
  unfold insA
  simp [Try.ntmps21, Try.results21, cSl, cp0, cI, cD, cR, rIns, Ins.row, insDec, he, ht, htl, gt, List.getElem?_append, List.set_append]
  exact Ent.refl _ _
  refine sp [IntKind.u8.wrap w, IntKind.u8.wrap (ishr .u32 w 8), IntKind.u8.wrap (ishr .u32 w 16), IntKind.u8.wrap (ishr .u32 w 24)] (H.length + 2) rfl ⟨rfl, .own ?_ ?_ (by omega) (by simp), fun j hj hjt _ => ?_, by omega, by simp⟩
  ·rw [List.getElem?_append_left (by simpa using htl), List.getElem?_set_self htl]; rfl
  ·rw [List.getElem?_append_right (by simp)]; simp [irow]
  ·rw [List.getElem?_append_left (by simpa using hj), List.getElem?_set_ne (fun e => hjt e.symm)]
 | @own _ q ht hq hn hd =>
  have htl := (List.getElem?_eq_some_iff.1 ht).1
  have gt := (List.getElem?_eq_some_iff.1 ht).2
  have hql := (List.getElem?_eq_some_iff.1 hq).1
  have gq := (List.getElem?_eq_some_iff.1 hq).2
  have hn' : t ≠ q := fun e => hn e.symm
  have hl2 : d.length + 4 ≤ 4294967296 := by omega
  have hl3 : ¬ (d.length + 4 ≤ d.length) := by omega
  have hq1 : q < H.length + 1 := by omega
  have hq2 : q < H.length + 1 + 1 := by omega
  have ht1 : t < H.length + 1 := by omega
  refine chM_ev rfl ?_
  apply Exists.intro
  apply Exists.intro
  apply And.intro
  refine' bodyE_of (noOrc_ok.withP enc_pure) fxMix (by kernel_rfl) (by simp [Try.ntmps21]) ?_
  rotate_left 2
  intro C cP cI cN cD cF cA cR cL
  have cp0 := orcP enc_pure (C := C) (by rw [cP]; rfl)
  replace cI : C.inl = fun _ => false := cI
  replace cR : C.rd = fun _ => none := cR
  replace cD : C.dyn = fun _ => [] := cD
  clear cP cN cF cA
  unfold insA
  simp [Try.ntmps21, Try.results21, cSl, cp0, cI, cD, cR, rIns, Ins.row, insDec, he, ht, htl, gt, hq, hql, gq, hn, hn', hl2, hl3, hq1, hq2, ht1, List.getElem?_append, List.set_append, List.getElem?_set, List.getElem_set]
  exact Ent.refl _ _
  refine sp (d ++ [IntKind.u8.wrap w, IntKind.u8.wrap (ishr .u32 w 8), IntKind.u8.wrap (ishr .u32 w 16), IntKind.u8.wrap (ishr .u32 w 24)]) (H.length + 2) rfl ⟨by simp, .own ?_ ?_ (by omega) (by simp), fun j hj hjt hjq => ?_, by omega, by simp⟩
  ·rw [List.getElem?_append_left (by simpa using htl), List.getElem?_set_self (by simpa using htl)]; simp
  ·rw [List.getElem?_append_right (by simp)]; simp [irow]
  ·have hqj : q ≠ j := fun e => hjq (by rw [e])
   rw [List.getElem?_append_left (by simpa using hj), List.getElem?_set_ne (fun e => hjt e.symm), List.getElem?_set_ne hqj]
end
section
attribute [local simp] Ins.eta Ins.cold Ins.mapM Ins.mapMc Ins.view Ins.viewc Ins.hotR Ins.ren Ins.renc Ins.low Ins.tau Ins.tauc Ins.bare Ins.flat Ins.flat1 Ins.mapMt Ins.mapMd Ins.coldt Ins.coldd Ins.hotRt Ins.hotRd
theorem Ent.frzE {n0 t n sz kc len : Nat} {ρ : Env} {H : Heap} {rows : List Row} (hob : obj H n = some (sz, rows)) (hlen : len = rows.length) (hflat : ∀ r ∈ rows, r.all (lowA 0) = true) (ht : AI.look ρ t = .osl n sz 0 len kc) :
  Ent n0 ((t, .fsl true sz rows) :: ρ, H.set n none) (ρ, H) := by
 intro f base w0 β fz a w hn0 hs
 have hl : Live H n := ⟨_, obj_some hob⟩
 obtain ⟨s1, e1⟩ := hs.heap.freeze hl
 refine ⟨β, fun b => fz b ∨ b = β n, ⟨s1, hs.defers, hs.size, ?_, fun u => ?_⟩⟩
 ·have := hs.ext.trans e1
  simpa using this
 ·simp only [AI.look]
  split
  ·rename_i e
   have h1 := hs.env t
   rw [ht] at h1
   rw [e]
   exact hs.heap.froze hob hlen hflat (fun b hb => .inl hb) (.inr rfl) h1
  ·have := (hs.env u).ext e1
   simpa using this
theorem frz_end {n0 t n q kc : Nat} {X : Heap} {d : List Int} (hq : X[q]? = some (some (1, yR d))) (hn : d.length = n) : Ent n0 ([(t, .fsl true 1 (yR d))], X.set q none) ([(t, .osl q 1 0 n kc)], X) := by
 have h := Ent.frzE (n0 := n0) (t := t) (ρ := [(t, .osl q 1 0 n kc)]) (H := X) (n := q) (sz := 1) (kc := kc) (len := n) (rows := yR d)
  (by unfold obj; rw [hq]; rfl) (by simp [hn]) (fun r hr => by obtain ⟨z, _, rfl⟩ := List.mem_map.1 hr; rfl) (by simp [AI.look])
 exact (Ent.env (by simp [AI.look])).trans h
theorem set_sameL {H : Heap} {id : Nat} {o : Option (Nat × List Row)} (h : H[id]? = some o) : H.set id o = H := by
 apply List.ext_getElem?
 intro j
 by_cases e : j = id
 ·subst e; rw [List.getElem?_set_self (List.getElem?_eq_some_iff.1 h).1, h]
 ·rw [List.getElem?_set_ne (fun q => e q.symm)]
theorem CellL.app {H : Heap} {t : Nat} {d : List Int} {q : Option Nat} (h : CellL H t d q) (K : Heap) : CellL (H ++ K) t d q := by
 cases h with
 | nil h => exact .nil (by rw [List.getElem?_append_left (List.getElem?_eq_some_iff.1 h).1]; exact h)
 | own h hq hn hd => exact .own (by rw [List.getElem?_append_left (List.getElem?_eq_some_iff.1 h).1]; exact h) (by rw [List.getElem?_append_left (List.getElem?_eq_some_iff.1 hq).1]; exact hq) hn hd
theorem remR_lt (z : Int) {n : Int} (h : 0 < n) (h2 : n < 4611686018427387904) : 0 ≤ remR z n ∧ remR z n < n := by
 unfold remR
 have hn : IntKind.u64.wrap n = n := by simp [IntKind.wrap, IntKind.bits, IntKind.signed]; omega
 rw [hn]
 have hz : 0 ≤ IntKind.u64.wrap z := by simp [IntKind.wrap, IntKind.bits, IntKind.signed]; omega
 have h3 := Int.tmod_lt_of_pos (IntKind.u64.wrap z) h
 have h4 := Int.tmod_nonneg n hz
 rw [w64 (by omega) (by omega)]
 exact ⟨h4, h3⟩
structure KdI (H : Heap) (k : Nat) (X : Heap) (d : List Int) (q : Option Nat) : Prop where
 c : CellL X H.length d q
 len : d.length = 4 * k
 old : ∀ j, j < H.length → X[j]? = H[j]?
 new : ∀ q0, q = some q0 → H.length ≤ q0
 lt : H.length < X.length
theorem KdI.next {H : Heap} {k : Nat} {X K X' : Heap} {d d' : List Int} {q : Option Nat} {q' : Nat} (h : KdI H k X d q) (h1 : d'.length = d.length + 4) (h2 : CellL X' H.length d' (some q')) (h3 : KeepB (X ++ K) X' H.length q) (h4 : (X ++ K).length ≤ q') (h5 : (X ++ K).length ≤ X'.length) : KdI H (k + 1) X' d' (some q') := by
 have hlt := h.lt
 simp only [List.length_append] at h4 h5
 refine ⟨h2, by rw [h1, h.len]; omega, fun j hj => ?_, fun q0 e => by cases e; omega, by omega⟩
 have hj2 : j < (X ++ K).length := by simp; omega
 rw [h3 j hj2 (by omega) (fun e => by have := h.new j e; omega), List.getElem?_append_left (by omega)]
 exact h.old j hj
def SpK (args : Row) (H : Heap) (r : AVal) (H' : Heap) : Prop := ∃ d, d.length = 64 ∧ r = .fsl true 1 (yR d) ∧ ∃ K, H' = H ++ K
noncomputable def codeM := chM Try.prog Try.f7 SpK
theorem code_inl : InlOk Try.prog 7 codeM := chM_ok Try.func7 rfl
theorem ext_app {H X : Heap} (h : ∀ j, j < H.length → X[j]? = H[j]?) (hl : H.length ≤ X.length) : ∃ K, X = H ++ K := by
 refine ⟨X.drop H.length, ?_⟩
 apply List.ext_getElem?
 intro j
 by_cases hj : j < H.length
 ·rw [List.getElem?_append_left hj]; exact h j hj
 ·rw [List.getElem?_append_right (by omega), List.getElem?_drop]; congr 1; omega
def insL (a b at_ c : Int) : List Ins := [⟨2, a, 0, c⟩, ⟨5, a, b, 0⟩, ⟨14, a, b, 7⟩, ⟨7, a, b, 0⟩, ⟨17, a, 0, at_⟩, ⟨15, a, 0, at_⟩, ⟨25, a, 0, at_⟩, ⟨21, a, b, 4⟩]
def insZ (z : Int) : List Ins := insL (remR (IntKind.i64.wrap (z.tdiv 8)) 8) (remR (IntKind.i64.wrap (z.tdiv 64)) 8) (IntKind.i64.wrap (64 + IntKind.i64.wrap (4 * remR (IntKind.i64.wrap (z.tdiv 512)) 8))) (remR (IntKind.i64.wrap (z.tdiv 8)) 1000)
def insK (z : Int) : Ins := ((insZ z)[(remR z 8).toNat]?).getD ⟨0, 0, 0, 0⟩
noncomputable def nextX (t : Nat) (X : Heap) (i : Ins) : Heap := ((cloM [.v (.agg (insA i)), .ptr t 1 0 0] X).map (·.2)).getD []
noncomputable def kdX (l : List Int) (H : Heap) : Nat → Heap
 | 0 => H ++ [some (1, [[.v (.slice none 0 0)]])]
 | k + 1 => nextX H.length (kdX l H k ++ [some (4, (insZ ((l[k]?).getD 0)).map Ins.row)]) (insK ((l[k]?).getD 0))
theorem next_ev {H : Heap} {k : Nat} {X K : Heap} {d : List Int} {q : Option Nat} (h : KdI H k X d q) (hk : k ≤ 200) (i : Ins) :
  cloM [.v (.agg (insA i)), .ptr H.length 1 0 0] (X ++ K) = some (.v (.tuple #[]), nextX H.length (X ++ K) i) ∧ ∃ d' q', KdI H (k + 1) (nextX H.length (X ++ K) i) d' (some q') := by
 obtain ⟨X', d', q', h1, h2, h3, h4, h5, h6⟩ := clo_ev (i := i) (h.c.app K) (by rw [h.len]; omega)
 have e : nextX H.length (X ++ K) i = X' := by unfold nextX; rw [h1]; rfl
 rw [e]
 exact ⟨h1, d', q', h.next h2 h3 h4 h5 h6⟩
theorem kd_inv {l : List Int} {H : Heap} : ∀ k, k ≤ 15 → ∃ d q, KdI H k (kdX l H k) d q
 | 0, _ => ⟨[], none, ⟨.nil (by simp [kdX]), rfl, fun j hj => by simp [kdX, List.getElem?_append_left hj], fun q0 e => (by cases e), by simp [kdX]⟩⟩
 | k + 1, hk => by
  obtain ⟨d, q, h⟩ := kd_inv k (by omega)
  obtain ⟨_, d', q', h2⟩ := next_ev (K := [some (4, (insZ ((l[k]?).getD 0)).map Ins.row)]) h (by omega) (insK ((l[k]?).getD 0))
  exact ⟨d', some q', h2⟩
theorem dyn_inl : InlOk Try.prog dynF (fun _ _ => none) := fun _ _ _ _ h => by cases h
theorem nmC : (Try.f21.name = "runtime.NumGoroutine") = False := eq_false (by decide)
attribute [local simp] nmC dynF
theorem code_ev {H : Heap} {l : List Int} (hl : l.length ≤ 9223372036854775807) : ∃ d K, d.length = 64 ∧ codeM [.fsl false 1 (l.map (irow .i64))] H = some (.fsl true 1 (yR d), H ++ K) := by
 suffices hx : ∃ r H', codeM [.fsl false 1 (l.map (irow .i64))] H = some (r, H') ∧ SpK [.fsl false 1 (l.map (irow .i64))] H r H' by
  obtain ⟨r, H', h1, d, h2, rfl, K, rfl⟩ := hx
  exact ⟨d, K, h2, h1⟩
 have u8 : IntKind.u64.wrap 8 = 8 := by decide
 have u1000 : IntKind.u64.wrap 1000 = 1000 := by decide
 obtain ⟨n, hn⟩ : ∃ x, min l.length 15 = x := ⟨_, rfl⟩
 have hwl : (if (15 : Int) < (l.length : Int) then (15 : Int) else (l.length : Int)) = (n : Int) := by split <;> omega
 have hn2 : n ≤ l.length := by omega
 have hmn : min n l.length = n := by omega
 obtain ⟨d, q, hd⟩ := kd_inv (l := l) (H := H) n (by omega)
 obtain ⟨L, hL⟩ : ∃ x : Int, IntKind.i64.wrap (-4 * (n : Int)) = x := ⟨_, rfl⟩
 obtain ⟨hl1, d2, q2, hd2⟩ := next_ev (K := []) hd (by omega) ⟨19, 0, 0, L⟩
 rw [List.append_nil] at hl1 hd2
 obtain ⟨X2, hX2⟩ : ∃ x, nextX H.length (kdX l H n) ⟨19, 0, 0, L⟩ = x := ⟨_, rfl⟩
 rw [hX2] at hl1 hd2
 simp only [insA] at hl1
 have hd2n : d2 ≠ [] := fun e => by have := hd2.len; rw [e] at this; simp at this
 obtain ⟨hc1, hc2⟩ : X2[H.length]? = some (some (1, [[.osl q2 1 0 d2.length d2.length]])) ∧ X2[q2]? = some (some (1, yR d2)) := by
  cases hd2.c with
  | own h1 h2 _ _ => exact ⟨h1, h2⟩
 have hlen2 : d2.length = 4 * (n + 1) := hd2.len
 have hX2l := (List.getElem?_eq_some_iff.1 hc1).1
 have gc1 := (List.getElem?_eq_some_iff.1 hc1).2
 have hq2l := (List.getElem?_eq_some_iff.1 hc2).1
 have gc2 := (List.getElem?_eq_some_iff.1 hc2).2
 have hwm : IntKind.i64.wrap (64 - (d2.length : Int)) = ((64 - d2.length : Nat) : Int) := by rw [w64 (by omega) (by omega)]; omega
 have hf1 : d2.length + (64 - d2.length) = 64 := by omega
 have hf2 : ¬ (d2.length + (64 - d2.length) ≤ d2.length) ↔ ¬ d2.length = 64 := by omega
 have hf3 : (64 : Nat) ≤ d2.length ↔ d2.length = 64 := by omega
 have hf4 : ((64 - d2.length : Nat) : Int) ≤ 4294967296 := by omega
 have hle64 : d2.length ≤ 64 := by omega
 refine chM_ev rfl ⟨.fsl true 1 (yR (d2 ++ List.replicate (64 - d2.length) 0)), if d2.length = 64 then X2.set q2 none else X2.set q2 none ++ [none], ?_, ?_⟩
 refine bodyE_of (((noOrc_ok.withI clo_inl).withI dyn_inl).withP rest_pure) fxMix (by kernel_rfl) (by simp [Try.ntmps7]) ?_
 intro C cP cI cN cD cF cA cR cL
 have cp0 := orcP rest_pure (C := C) (by rw [cP]; rfl)
 have cn0 := orcI clo_inl (C := C) (by rw [cN]; rfl)
 have cn1 := orcI dyn_inl (C := C) (by rw [cN]; rfl)
 replace cI := fun g => congrFun cI g
 simp only [Orc.withP, Orc.withI, Orc.withF, Orc.withD, Orc.withA, Orc.withR, Orc.withC, noOrc] at cI
 replace cR : C.rd = fun _ => none := cR
 replace cD : C.dyn = fun _ => [] := cD
 clear cP cN cF cA
 simp [Try.ntmps7, Try.results7, cSl, cp0, cn0, cn1, cI, cD, cR, u8, u1000, hwl, hn2, Int.natCast_nonneg]
 refine loop_forE n (fun k (_ : Unit) => ([(0, .fsl false 1 ((l.take n).map (irow .i64))), (3, .ptr H.length 1 0 0), (4, .fn 21 [.ptr H.length 1 0 0]), (16, .fsl false 1 ((l.take n).map (irow .i64))), (17, .v (.int .i64 n)), (18, .v (.int .i64 k))], kdX l H k)) (fun k _ => True) () (fun k _ hk _ => by omega) trivial ?_ ?_ ?_
 ·exact Ent.env (by simp)
 ·rintro k _ hk _ hw
  have hk2 : k < l.length := by omega
  have hkm : k < min n l.length := by omega
  obtain ⟨z, hz⟩ : ∃ x, l[k] = x := ⟨_, rfl⟩
  obtain ⟨dk, qk, hdk⟩ := kd_inv (l := l) (H := H) k (by omega)
  obtain ⟨hcl, _⟩ := next_ev (K := [some (4, (insZ z).map Ins.row)]) hdk (by omega) (insK z)
  have hnx : kdX l H (k + 1) = nextX H.length (kdX l H k ++ [some (4, (insZ z).map Ins.row)]) (insK z) := by
   simp only [kdX, List.getElem?_eq_getElem hk2, hz, Option.getD_some]
  rw [← hnx] at hcl
  have h8 := remR_lt z (n := 8) (by decide) (by decide)
  obtain ⟨a, ha⟩ : ∃ x, remR (IntKind.i64.wrap (z.tdiv 8)) 8 = x := ⟨_, rfl⟩
  obtain ⟨b, hb⟩ : ∃ x, remR (IntKind.i64.wrap (z.tdiv 64)) 8 = x := ⟨_, rfl⟩
  obtain ⟨e, he⟩ : ∃ x, IntKind.i64.wrap (64 + IntKind.i64.wrap (4 * remR (IntKind.i64.wrap (z.tdiv 512)) 8)) = x := ⟨_, rfl⟩
  obtain ⟨c, hc⟩ : ∃ x, remR (IntKind.i64.wrap (z.tdiv 8)) 1000 = x := ⟨_, rfl⟩
  have hdkl := hdk.lt
  have hm : remR z 8 = 0 ∨ remR z 8 = 1 ∨ remR z 8 = 2 ∨ remR z 8 = 3 ∨ remR z 8 = 4 ∨ remR z 8 = 5 ∨ remR z 8 = 6 ∨ remR z 8 = 7 := by omega
  rcases hm with hm | hm | hm | hm | hm | hm | hm | hm
  all_goals
   simp only [insK, insZ, insL, hm, ha, hb, he, hc, insA] at hcl
   simp [Ins.row] at hcl
   simp [Try.ntmps7, Try.results7, cSl, cp0, cn0, cn1, cI, cD, cR, u8, u1000, hk, hk2, hkm, hz, hw, irow, hm, ha, hb, he, hc, hcl, List.getElem?_append]
   exact ⟨(), trivial, Ent.env (by simp)⟩
 ·rintro _ _
  by_cases hfull : d2.length = 64
  ·rw [if_pos hfull]
   simp [Try.ntmps7, Try.results7, cSl, cp0, cn0, cn1, cI, cD, cR, u8, u1000, hmn, hL, hl1, hc1, hc2, gc1, gc2, hX2l, hq2l, hwm, hf1, hfull]
   rw [set_sameL hc2]
   exact frz_end hc2 hfull
  ·rw [if_neg hfull]
   have hf5 : ¬ 64 ≤ d2.length := by omega
   simp [Try.ntmps7, Try.results7, cSl, cp0, cn0, cn1, cI, cD, cR, u8, u1000, hmn, hL, hl1, hc1, hc2, gc1, gc2, hX2l, hq2l, hwm, hf1, hfull, hf4, hf5]
   have e1 : yR d2 ++ List.replicate (64 - d2.length) [AVal.v (Value.int IntKind.u8 0)] = yR (d2 ++ List.replicate (64 - d2.length) 0) := by simp [irow]
   have e2 : X2.set q2 none ++ [none] = (X2.set q2 none ++ [some (1, yR (d2 ++ List.replicate (64 - d2.length) 0))]).set X2.length none := by
    rw [List.set_append_right _ _ (by simp)]; simp
   have e3 : List.map (irow IntKind.u8) d2 ++ List.replicate (64 - d2.length) (irow IntKind.u8 0) = yR (d2 ++ List.replicate (64 - d2.length) 0) := by simp
   rw [e1, e2]
   first | rw [e3] | skip
   refine frz_end (X := X2.set q2 none ++ [some (1, yR (d2 ++ List.replicate (64 - d2.length) 0))]) (q := X2.length) (d := d2 ++ List.replicate (64 - d2.length) 0) ?_ ?_
   ·rw [List.getElem?_append_right (by rw [List.length_set]; exact Nat.le_refl _), List.length_set, Nat.sub_self]; rfl
   ·rw [List.length_append, List.length_replicate]; omega
 ·refine ⟨d2 ++ List.replicate (64 - d2.length) 0, by simp; omega, rfl, ext_app (fun j hj => ?_) ?_⟩
  ·have hnq := hd2.new q2 rfl
   split
   ·rw [List.getElem?_set_ne (by omega)]; exact hd2.old j hj
   ·have := hd2.lt
    rw [List.getElem?_append_left (by simp; omega), List.getElem?_set_ne (by omega)]; exact hd2.old j hj
  ·have := hd2.lt
   split
   ·rw [List.length_set]; omega
   ·rw [List.length_append, List.length_set]; omega
end
section
attribute [local simp] UnrK
def pg4 (d : List Int) (j : Nat) : List Int := (d.drop (16 * j)).take 16
theorem pg4_len {d : List Int} (hd : d.length = 64) {j : Nat} (hj : j < 4) : (pg4 d j).length = 16 := by
 simp [pg4, hd]; omega
def laidV (d : List Int) (V : View) : View := fun j => if 4 ≤ j ∧ j < 6 then some (z16, 3) else updV (updV (updV (updV V 0 (pg4 d 0, 5)) 1 (pg4 d 1, 5)) 2 (pg4 d 2, 5)) 3 (pg4 d 3, 5) j
def SpY (args : Row) (H : Heap) (r : AVal) (H' : Heap) : Prop := ∀ mid s A x d, args = [.ptr mid 5 0 0, .v (.int .i64 s), x] → RG mid (H, A) → bytesAt H x = some d → r = .v (.bool true) ∧ Ss mid s H A (laidV d (vw A s)) H'
noncomputable def layYM := chM Try.prog Try.f8 SpY
theorem layY_inl : InlOk Try.prog 8 layYM := chM_ok Try.func8 rfl
theorem spY_of {H : Heap} {mid : Nat} {s : Int} {A : Ab} {x : AVal} {d : List Int} {r : AVal} {H' : Heap} (h : RG mid (H, A)) (hx : bytesAt H x = some d) (hr : r = .v (.bool true) ∧ Ss mid s H A (laidV d (vw A s)) H') : SpY [.ptr mid 5 0 0, .v (.int .i64 s), x] H r H' := by
 intro mid' s' A' x' d' ha hA' hx'
 simp only [List.cons.injEq, AVal.v.injEq, Value.int.injEq, AVal.ptr.injEq, true_and, and_true] at ha
 obtain ⟨rfl, rfl, rfl⟩ := ha
 have := rg_uniq h hA'
 subst this
 rw [hx] at hx'
 cases hx'
 exact hr
theorem bytes_fsl {H : Heap} {o : Bool} (d : List Int) : bytesAt H (.fsl o 1 (yR d)) = some d := by
 show (yR d).mapM by1 = some d
 exact by1_of d
theorem lay_body {H : Heap} {mid c : Nat} {A : Ab} (h : RG mid (H, A)) {s : Int} (hs : has A s) (hc : Inv c A) {o : Bool} {d : List Int} (hd : d.length = 64) (hV : ∀ j, vw A s j = none) {cd : Code} (hb : Try.f8.body = some cd) :
  ∃ H', BodyE Try.prog Try.f8 cd [.ptr mid 5 0 0, .v (.int .i64 s), .fsl o 1 (yR d)] H (.v (.bool true)) H' ∧ Ss mid s H A (laidV d (vw A s)) H' := by
 cases hb
 have hsl : ∀ j : Nat, j < 4 → (List.take 16 (List.drop (16 * j) (yR d))) = yR (pg4 d j) := fun j _ => by simp [pg4]
 obtain ⟨H1, l1, k1⟩ := (Ss.refl h).putp hs hc (j := 0) (rg := 5) (hV 0) (by decide) (by decide) (pg4_len hd (j := 0) (by decide)) (bytes_fsl (o := o) _)
 obtain ⟨H2, l2, k2⟩ := k1.putp hs hc (j := 1) (rg := 5) (by simp [updV, hV]) (by decide) (by decide) (pg4_len hd (j := 1) (by decide)) (bytes_fsl (o := o) _)
 obtain ⟨H3, l3, k3⟩ := k2.putp hs hc (j := 2) (rg := 5) (by simp [updV, hV]) (by decide) (by decide) (pg4_len hd (j := 2) (by decide)) (bytes_fsl (o := o) _)
 obtain ⟨H4, l4, k4⟩ := k3.putp hs hc (j := 3) (rg := 5) (by simp [updV, hV]) (by decide) (by decide) (pg4_len hd (j := 3) (by decide)) (bytes_fsl (o := o) _)
 obtain ⟨H5, l5, k5⟩ := k4.map45 hs hc (by simp [updV, hV]) (by simp [updV, hV])
 refine ⟨H5, ?_, k5⟩
 refine bodyE_of ((noOrc_ok.withI put_inl).withI map_inl) fxMix (by kernel_rfl) (by simp [Try.ntmps8]) ?_
 intro C cP cI cN cD cF cA cR cL
 have cn0 := orcI put_inl (C := C) (by rw [cN]; rfl)
 have cn1 := orcI map_inl (C := C) (by rw [cN]; rfl)
 replace cI := fun g => congrFun cI g
 simp only [Orc.withP, Orc.withI, Orc.withF, Orc.withD, Orc.withA, Orc.withR, Orc.withC, noOrc] at cI
 replace cR : C.rd = fun _ => none := cR
 replace cD : C.dyn = fun _ => [] := cD
 clear cP cN cF cA
 have hp0 : List.take 16 (yR d) = yR (pg4 d 0) := by simp [pg4]
 have hp1 : List.take 16 (List.drop 16 (yR d)) = yR (pg4 d 1) := by simp [pg4]
 have hp2 : List.take 16 (List.drop 32 (yR d)) = yR (pg4 d 2) := by simp [pg4]
 have hp3 : List.take 16 (List.drop 48 (yR d)) = yR (pg4 d 3) := by simp [pg4]
 simp [Try.ntmps8, Try.results8, cSl, cn0, cn1, cI, cD, cR, hd]
 refine loop_rounds 5 ?_
 simp [Try.ntmps8, Try.results8, cSl, cn0, cn1, cI, cD, cR, hd, hp0, hp1, hp2, hp3, l1, l2, l3, l4, l5]
 exact Ent.refl _ _
theorem layY_ev {H : Heap} {mid c : Nat} {A : Ab} (h : RG mid (H, A)) {s : Int} (hs : has A s) (hc : Inv c A) {o : Bool} {d : List Int} (hd : d.length = 64) (hV : ∀ j, vw A s j = none) :
  ∃ H', layYM [.ptr mid 5 0 0, .v (.int .i64 s), .fsl o 1 (yR d)] H = some (.v (.bool true), H') ∧ Ss mid s H A (laidV d (vw A s)) H' := by
 obtain ⟨H', h1, h2⟩ := lay_body h hs hc (o := o) hd hV rfl
 obtain ⟨r, H2, g1, g2⟩ := chM_ev (Sp := SpY) rfl ⟨_, H', h1, spY_of h (bytes_fsl d) ⟨rfl, h2⟩⟩
 obtain ⟨rfl, g3⟩ := g2 mid s A _ d rfl h (bytes_fsl d)
 exact ⟨H2, g1, g3⟩
theorem body_frz {P : Program} {fn : Func} {cd : Code} {a0 a1 r : AVal} {id kc : Nat} {d : List Int} {H H' : Heap} (hq : H[id]? = some (some (1, yR d))) (h : BodyE P fn cd [a0, a1, .fsl true 1 (yR d)] (H.set id none) r H') : BodyE P fn cd [a0, a1, .osl id 1 0 d.length kc] H r H' := by
 obtain ⟨h1, h2⟩ := h
 rw [List.length_set] at h2
 refine ⟨h1, AWp.entS (σ := Unit) (st := fun _ => (envOf 0 [a0, a1, .fsl true 1 (yR d)], H.set id none)) (fun _ => h2) (EntS.of () ?_)⟩
 have k := Ent.frzE (n0 := H.length) (t := 2) (ρ := envOf 0 [a0, a1, .osl id 1 0 d.length kc]) (H := H) (n := id) (sz := 1) (kc := kc) (len := d.length) (rows := yR d)
  (by unfold obj; rw [hq]; rfl) (by simp) (fun r hr => by obtain ⟨z, _, rfl⟩ := List.mem_map.1 hr; rfl) (by simp [envOf, AI.look])
 exact (Ent.env (by simp [envOf, AI.look])).trans k
theorem layO_ev {H : Heap} {mid c id kc : Nat} {A : Ab} (h : RG mid (H, A)) {s : Int} (hs : has A s) (hc : Inv c A) {d : List Int} (hd : d.length = 64) (hV : ∀ j, vw A s j = none) (hq : H[id]? = some (some (1, yR d))) (hf : ¬ fpP mid A id) :
  ∃ H', layYM [.ptr mid 5 0 0, .v (.int .i64 s), .osl id 1 0 d.length kc] H = some (.v (.bool true), H') ∧ Ss mid s H A (laidV d (vw A s)) H' := by
 have r1 : RG mid (H.set id none, A) := rg_same h fun i hi => by rw [List.getElem?_set_ne]; rintro rfl; exact hf hi
 obtain ⟨H', h1, A', g1, g2, g3, g4, g5⟩ := lay_body r1 hs hc (o := true) hd hV rfl
 have kn : KN H H' := fun i r hi => by
  refine g4 i r ?_
  rw [List.getElem?_set_ne, hi]
  rintro rfl
  rw [hq] at hi
  have := r.2 _ (Option.some.inj hi).symm
  simp at this
 have hx : bytesAt H (.osl id 1 0 d.length kc) = some d := by
  have h1 : (yR d).mapM by1 = some d := by1_of d
  simp only [bytesAt, hq, h1, Option.bind_some, if_true]
 obtain ⟨r, H2, k1, k2⟩ := chM_ev (Sp := SpY) rfl ⟨_, H', body_frz hq h1, spY_of h hx ⟨rfl, A', g1, g2, g3, kn, g5⟩⟩
 obtain ⟨rfl, k3⟩ := k2 mid s A _ d rfl h hx
 exact ⟨H2, k1, k3⟩
end
section
structure One where
 v : Int
 deriving DecidableEq
def oneDec : Row → Option One
 | [.v (.int .i64 x0)] => some ⟨x0⟩
 | _ => none
def One.row (e : One) : Row := [.v (.int .i64 e.v)]
def rOne : RCod One := RCod.plain 1 One.row oneDec
 (fun e => rfl) (fun _ => rfl) (fun r e h => by
  unfold oneDec at h
  split at h
  ·simp at h; subst h; rfl
  ·cases h)
def One.val (e : One) : Value := .agg #[.int .i64 e.v]
theorem One.eta (e : One) : One.mk e.v = e := rfl
attribute [local simp] One.eta
theorem One.cold (l : List One) : coldR (l.map One.row) = l.map One.row := by
 induction l with
 | nil => simp [coldR]
 | cons e l ih => simp [coldR, coldC, AI.cold, ih, One.row]
theorem One.mapM (l : List One) : (l.map One.row).mapM oneDec = some l := mapM_dec rOne l
theorem One.mapMc (l : List One) : l.mapM (oneDec ∘ One.row) = some l := mapM_dec' rOne l
theorem One.view (H : Heap) (n : Nat) (e : One) : List.map (AI.view H n) e.row = e.row := by cases n <;> simp [One.row, AI.view]
theorem One.viewc (H : Heap) (n : Nat) : List.map (AI.view H n) ∘ One.row = One.row := by funext e; exact One.view H n e
theorem One.hotR (l : List One) : AI.hotR (l.map One.row) = true := by
 induction l with
 | nil => simp [AI.hotR]
 | cons e l ih => simp [AI.hotR, hotC, hot, ih, One.row]
theorem One.ren (n : Nat) (th : List Nat) (e : One) : List.map (AI.ren n th) e.row = e.row := by simp [One.row, AI.ren]
theorem One.renc (n : Nat) (th : List Nat) : List.map (AI.ren n th) ∘ One.row = One.row := by funext e; exact One.ren n th e
theorem One.low (n : Nat) (e : One) : e.row.all (lowA n) = true := by simp [One.row, lowA]
theorem One.tau (fp : List Nat) (n : Nat) (e : One) : List.map (AI.tau fp n) e.row = e.row := by simp [One.row, AI.tau]
theorem One.tauc (fp : List Nat) (n : Nat) : List.map (AI.tau fp n) ∘ One.row = One.row := by funext e; exact One.tau fp n e
theorem One.bare (e : One) : e.row.all bareA = true := by simp [One.row, bareA]
theorem One.flat (l : List One) : flat0 (l.map One.row) = true := by simp [flat0, One.low]
theorem One.flat1 (e : One) : flat0 [e.row] = true := by simp [flat0, One.low]
theorem One.exact : Exact rOne := by
 intro r e h
 simp only [rOne, RCod.plain] at h ⊢
 unfold oneDec at h
 split at h
 ·simp at h; subst h; rfl
 ·cases h
theorem One.mapMt (k : Nat) (l : List One) : (List.take k (l.map One.row)).mapM oneDec = some (l.take k) := by rw [← List.map_take]; exact mapM_dec rOne _
theorem One.mapMd (k : Nat) (l : List One) : (List.drop k (l.map One.row)).mapM oneDec = some (l.drop k) := by rw [← List.map_drop]; exact mapM_dec rOne _
theorem One.coldt (k : Nat) (l : List One) : coldR (List.take k (l.map One.row)) = List.take k (l.map One.row) := by rw [← List.map_take]; exact One.cold _
theorem One.coldd (k : Nat) (l : List One) : coldR (List.drop k (l.map One.row)) = List.drop k (l.map One.row) := by rw [← List.map_drop]; exact One.cold _
theorem One.hotRt (k : Nat) (l : List One) : AI.hotR (List.take k (l.map One.row)) = true := by rw [← List.map_take]; exact One.hotR _
theorem One.hotRd (k : Nat) (l : List One) : AI.hotR (List.drop k (l.map One.row)) = true := by rw [← List.map_drop]; exact One.hotR _
attribute [local simp] One.hotRt One.hotRd
attribute [local simp] One.tau One.tauc One.bare One.flat One.flat1 One.mapMt One.mapMd One.coldt One.coldd
attribute [local simp] One.cold One.mapM One.mapMc One.view One.viewc One.hotR One.ren One.renc One.low
def rCapF : RCod Int := rCell (cFp (rI .i64))
theorem oth1_pure : PureOk Try.prog 28 (argM (cInt .i64) fun x => argM (cFp (rI .i64)) fun f => finM (some (.v (.bool (x == f))))) := by
 refine pure2 Try.func28 rfl ?_
 rintro x f r hr
 simp only [Option.some.injEq] at hr
 subst hr
 refine body_gen noOrc_ok fxMix (by kernel_rfl) (by simp [Try.ntmps28]) ?_
 intro C cP cI cN cD cF cA cR cL
 replace cI : C.inl = fun _ => false := cI
 replace cR : C.rd = fun _ => none := cR
 replace cD : C.dyn = fun _ => [] := cD
 clear cP cN cF cA
 simp [Try.ntmps28, Try.results28, cSl, cI, cD, cR, rI, irow]
theorem othI_pure : PureOk Try.prog 45 (argM (cSl rOne) fun l => argM (cFn 28 rCapF) fun cp => finM (if l.length ≤ 4294967296 then some (.v (.int .i64 (idxP ((fun x => x.v == cp)) l))) else none)) := by
 refine pure2 Try.func45 rfl ?_
 rintro l cp r hr
 by_cases hc : l.length ≤ 4294967296
 case neg => rw [if_neg hc] at hr; cases hr
 rw [if_pos hc] at hr
 simp only [Option.some.injEq] at hr
 subst hr
 refine body_gen (noOrc_ok.withP oth1_pure) fxMix (by kernel_rfl) (by simp [Try.ntmps45]) ?_
 intro C cP cI cN cD cF cA cR cL
 have cp0 := orcP oth1_pure (C := C) (by rw [cP]; rfl)
 replace cI : C.inl = fun _ => false := cI
 replace cR : C.rd = fun _ => none := cR
 replace cD : C.dyn = fun _ => [] := cD
 clear cP cN cF cA
 simp [Try.ntmps45, Try.results45, cSl, cp0, cI, cD, cR, rOne, One.row, oneDec, rCapF, rI, irow, irowDec]
 refine loop_for l.length (fun k (_ : Unit) => ([(0, .fsl false 1 (l.map One.row)), (1, .fn 28 [.fptr (irow .i64 cp) 0]), (7, .v (.int .i64 l.length)), (8, .v (.int .i64 k))], [])) (fun k _ => ((l.drop k).findIdx? ((fun x => x.v == cp))).map (· + k) = l.findIdx? ((fun x => x.v == cp))) () hc (by simp) (by simp [rOne, One.row, oneDec, rCapF, rI, irow, irowDec]) ?_ ?_
 ·intro k _ hk hall hw
  by_cases q : ((fun x => x.v == cp)) l[k] = true
  ·rw [find_drop hk, if_pos q] at hall
   try simp at q
   simp [Try.ntmps45, Try.results45, cSl, cp0, cI, cD, cR, hk, hw, rOne, One.row, oneDec, rCapF, rI, irow, irowDec, q, idxP, ← hall]
  ·rw [find_drop hk, if_neg q] at hall
   try simp at q
   simp [Try.ntmps45, Try.results45, cSl, cp0, cI, cD, cR, hk, hw, rOne, One.row, oneDec, rCapF, rI, irow, irowDec, q]
   simpa using hall
 ·intro _ hall
  simp at hall
  simp [Try.ntmps45, Try.results45, cSl, cp0, cI, cD, cR, idxP, ← hall]
theorem othDelNm : (Try.f28.name = "runtime.NumGoroutine") = False := eq_false (beq_eq_false_iff_ne.1 fxFm28)
theorem othDel : InlOk Try.prog 27 (own1 rOne (argG (cFn 28 rCapF) fun cp => finG (if True then some ((.esl, [])) else none)) (fun l => argG (cFn 28 rCapF) fun cp => finG (if l.length ≤ 1048576 then some ((.osl 0 1 0 (l.filter (fun x => !((fun x => x.v == cp) x))).length l.length, [some (1, (l.filter (fun x => !((fun x => x.v == cp) x))).map One.row ++ List.replicate (l.length - (l.filter (fun x => !((fun x => x.v == cp) x))).length) [.v (.int .i64 0)])])) else none))) := by
 refine own1_1 One.exact Try.func27 rfl ?_ ?_
 ·rintro cp r H' hr
  by_cases hc : True
  case neg => rw [if_neg hc] at hr; cases hr
  rw [if_pos hc] at hr
  simp only [Option.some.injEq, Prod.mk.injEq] at hr
  obtain ⟨rfl, rfl⟩ := hr
  refine bodyI_of ((noOrc_ok.withP oth1_pure).withP othI_pure) fxMix (by kernel_rfl) (by simp [Try.ntmps27]) ?_
  intro C cP cI cN cD cF cA cR cL
  have cp0 := orcP oth1_pure (C := C) (by rw [cP]; rfl)
  have cp1 := orcP othI_pure (C := C) (by rw [cP]; rfl)
  replace cI : C.inl = fun _ => false := cI
  replace cR : C.rd = fun _ => none := cR
  replace cD : C.dyn = fun _ => [] := cD
  clear cP cN cF cA
  simp [Try.ntmps27, Try.results27, cSl, cp0, cp1, cI, cD, cR, idxP, rOne, One.row, oneDec, rCapF, rI, irow, irowDec]
 ·rintro l cp r H' hne hr
  by_cases hc : l.length ≤ 1048576
  case neg => rw [if_neg hc] at hr; cases hr
  rw [if_pos hc] at hr
  simp only [Option.some.injEq, Prod.mk.injEq] at hr
  obtain ⟨rfl, rfl⟩ := hr
  refine bodyI_of ((noOrc_ok.withP oth1_pure).withP othI_pure) fxMix (by kernel_rfl) (by simp [Try.ntmps27]) ?_
  intro C cP cI cN cD cF cA cR cL
  have cp0 := orcP oth1_pure (C := C) (by rw [cP]; rfl)
  have cp1 := orcP othI_pure (C := C) (by rw [cP]; rfl)
  replace cI : C.inl = fun _ => false := cI
  replace cR : C.rd = fun _ => none := cR
  replace cD : C.dyn = fun _ => [] := cD
  clear cP cN cF cA
  by_cases h1 : idxP ((fun x => x.v == cp)) l < 0
  ·have hall := idxP_none h1
   have hf : l.filter (fun x => !((fun x => x.v == cp) x)) = l := by
    rw [List.filter_eq_self]
    intro x hx
    simp [hall x hx]
   have hi : idxP ((fun x => x.v == cp)) l = -1 := by
    have hh : ∀ z : Int, z < 0 → -1 ≤ z → z = -1 := by omega
    refine hh _ h1 ?_
    unfold idxP; split <;> omega
   have hl2 : l.length ≤ 4294967296 := by omega
   rw [hf]
   simp [Try.ntmps27, Try.results27, cSl, cp0, cp1, cI, cD, cR, hi, hl2, rOne, One.row, oneDec, rCapF, rI, irow, irowDec]
   exact ⟨[], by simp⟩
  ·obtain ⟨i0, hi, hi0, hp0, hb0⟩ := idxP_some h1
   have hl2 : l.length ≤ 4294967296 := by omega
   have hi1 : ¬ ((i0 : Int) = -1) := by omega
   have hw0 : IntKind.i64.wrap ((i0 : Int) + 1) = ((i0 + 1 : Nat) : Int) := by rw [w64 (by omega) (by omega)]; simp
   have hne1 : ¬ l = [] := hne
   have hpos : 0 < l.length := List.length_pos_iff.2 hne
   have hstart : (l.take (i0 + 1)).filter (fun x => !((fun x => x.v == cp) x)) = l.take i0 := by
    rw [List.take_succ_eq_append_getElem hi0, List.filter_append]
    have e1 : (l.take i0).filter (fun x => !((fun x => x.v == cp) x)) = l.take i0 := by
     rw [List.filter_eq_self]
     intro x hx
     obtain ⟨j, hj, rfl⟩ := List.mem_iff_getElem.1 hx
     simp at hj
     have := hb0 j (by omega)
     simp [this]
    rw [e1]
    simp [hp0]
   simp [Try.ntmps27, Try.results27, cSl, cp0, cp1, cI, cD, cR, hi, hi1, hl2, hw0, rOne, One.row, oneDec, rCapF, rI, irow, irowDec]
   refine loop_inv (σ := {j : Nat // i0 < j ∧ j ≤ l.length}) (fun q => ([(0, .osl 0 1 0 l.length l.length), (1, .fn 28 [.fptr (irow .i64 cp) 0]), (5, .v (.int .i64 ((l.take q.val).filter (fun x => !((fun x => x.v == cp) x))).length)), (6, .v (.int .i64 q.val))], [some (1, ((l.take q.val).filter (fun x => !((fun x => x.v == cp) x)) ++ l.drop ((l.take q.val).filter (fun x => !((fun x => x.v == cp) x))).length).map One.row)])) (fun q => l.length - q.val) ⟨i0 + 1, by omega, by omega⟩ ?_ ?_
   ·have hm : min i0 l.length = i0 := by omega
    simp [hstart, hm, rOne, One.row, oneDec, rCapF, rI, irow, irowDec]
   rintro ⟨j, hj1, hj2⟩
   have hsub : ((l.take j).filter (fun x => !((fun x => x.v == cp) x))).length ≤ j := by
    have := (List.filter_sublist (l := l.take j) (p := fun x => !((fun x => x.v == cp) x))).length_le
    rw [List.length_take] at this; omega
   have hlow : ∀ (k n : Nat) (x : Row), x ∈ List.drop k (l.map One.row) → ∀ a ∈ x, lowA n a = true := by
    intro k n x hx
    obtain ⟨y, _, rfl⟩ := List.mem_map.1 (List.mem_of_mem_drop hx)
    exact List.all_eq_true.1 (One.low n y)
   have hnx : ∀ (hj : j < l.length), (l.take (j + 1)).filter (fun x => !((fun x => x.v == cp) x)) = (l.take j).filter (fun x => !((fun x => x.v == cp) x)) ++ (if (fun x => x.v == cp) l[j] = true then [] else [l[j]]) := by
    intro hj
    rw [List.take_succ_eq_append_getElem hj, List.filter_append]
    by_cases q : (fun x => x.v == cp) l[j] = true
    ·simp [q]
    ·simp [q]
   generalize hF : (l.take j).filter (fun x => !((fun x => x.v == cp) x)) = F at *
   have hwj : IntKind.i64.wrap ((j : Int) + 1) = ((j + 1 : Nat) : Int) := by rw [w64 (by omega) (by omega)]; simp
   have hwF : IntKind.i64.wrap ((F.length : Int) + 1) = ((F.length + 1 : Nat) : Int) := by rw [w64 (by omega) (by omega)]; simp
   have hFl : F.length ≤ l.length := by omega
   have hlen : F.length + (l.length - F.length) = l.length := by omega
   have hlen2 : (F ++ l.drop F.length).length = l.length := by simp; omega
   rcases Nat.lt_or_ge j l.length with hj | hj
   ·replace hnx := hnx hj
    have hget : (F ++ l.drop F.length)[j]? = some l[j] := by
     rw [List.getElem?_append_right (by omega), List.getElem?_drop, show F.length + (j - F.length) = j by omega, List.getElem?_eq_getElem hj]
    by_cases q : (fun x => x.v == cp) l[j] = true
    ·simp only [q, if_true, List.append_nil] at hnx
     have hlr : ((F ++ l.drop F.length).map One.row).length = l.length := by simpa using hlen2
     have hgr : ((F ++ l.drop F.length).map One.row)[j]? = some (One.row l[j]) := by simp only [List.getElem?_map, hget, Option.map_some]
     generalize hX : (F ++ l.drop F.length).map One.row = X at *
     have hgj : ∀ (h : j < X.length), X[j] = One.row l[j] := by
      intro h; rw [List.getElem?_eq_getElem h] at hgr; exact Option.some.inj hgr
     simp [Try.ntmps27, Try.results27, cSl, cp0, cp1, cI, cD, cR, hj, hwj, hlr, hgr, hgj, q, othDelNm, rOne, One.row, oneDec, rCapF, rI, irow, irowDec]
     refine ⟨j + 1, ?_⟩
     simp [hnx, ← hX]
     exact ⟨by omega, ⟨by omega, by omega⟩, hlow _ _⟩
    ·simp only [q, if_false, Bool.false_eq_true] at hnx
     have hlr : ((F ++ l.drop F.length).map One.row).length = l.length := by simpa using hlen2
     have hgr : ((F ++ l.drop F.length).map One.row)[j]? = some (One.row l[j]) := by simp only [List.getElem?_map, hget, Option.map_some]
     have hFj : F.length < l.length := by omega
     have hset : ((F ++ l.drop F.length).map One.row).set F.length (One.row l[j]) = ((F ++ [l[j]]) ++ l.drop (F.length + 1)).map One.row := by
      rw [List.drop_eq_getElem_cons hFj, List.map_append, List.set_append_right _ _ (by simp)]
      simp only [List.length_map, Nat.sub_self, List.map_cons, List.set_cons_zero, List.map_append, List.map_nil, List.append_assoc, List.cons_append, List.nil_append]
     have hgF0 : ((F ++ l.drop F.length).map One.row)[F.length]? = some (One.row l[F.length]) := by
      rw [List.getElem?_map, List.getElem?_append_right (by omega), List.getElem?_drop, Nat.sub_self, Nat.add_zero, List.getElem?_eq_getElem hFj]; rfl
     generalize hX : (F ++ l.drop F.length).map One.row = X at *
     have hgj : ∀ (h : j < X.length), X[j] = One.row l[j] := by
      intro h; rw [List.getElem?_eq_getElem h] at hgr; exact Option.some.inj hgr
     simp only [Bool.not_eq_true] at q
     have hgF : ∀ (h : F.length < X.length), X[F.length] = One.row l[F.length] := by
      intro h; rw [List.getElem?_eq_getElem h] at hgF0; exact Option.some.inj hgF0
     simp [Try.ntmps27, Try.results27, cSl, cp0, cp1, cI, cD, cR, hj, hwj, hwF, hFj, hlr, hgr, hgj, hgF, q, othDelNm, rOne, One.row, oneDec, rCapF, rI, irow, irowDec]
     refine ⟨j + 1, by omega, ?_⟩
     simp [hnx]
     refine ⟨?_, ⟨by omega, by omega⟩, hlow _ _⟩
     refine Eq.trans ?_ hset.symm
     simp [rOne, One.row, oneDec, rCapF, rI, irow, irowDec]
   ·have hje : j = l.length := by omega
    subst hje
    rw [List.take_length] at hF
    rw [hF]
    simp [Try.ntmps27, Try.results27, cSl, cp0, cp1, cI, cD, cR, othDelNm, hFl, hlen, rOne, One.row, oneDec, rCapF, rI, irow, irowDec]
    exact ⟨[], by simp⟩
theorem othDel_inl : InlOk Try.prog 27 (frame1 (own1 rOne (argG (cFn 28 rCapF) fun cp => finG (if True then some ((.esl, [])) else none)) (fun l => argG (cFn 28 rCapF) fun cp => finG (if l.length ≤ 1048576 then some ((.osl 0 1 0 (l.filter (fun x => !((fun x => x.v == cp) x))).length l.length, [some (1, (l.filter (fun x => !((fun x => x.v == cp) x))).map One.row ++ List.replicate (l.length - (l.filter (fun x => !((fun x => x.v == cp) x))).length) [.v (.int .i64 0)])])) else none)))) := frame1_ok othDel
def SpH (args : Row) (H : Heap) (r : AVal) (H' : Heap) : Prop := ∀ mid s k A, args = [.ptr mid 5 0 0, .v (.int .i64 s), .v (.int .i64 k)] → RG mid (H, A) → ∃ o, r = .v (.int .i64 o) ∧ RG mid (H', A) ∧ KN H H' ∧ (o = 0 ∨ has A o ∧ o ≠ s)
noncomputable def othM := chM Try.prog Try.f13 SpH
theorem oth_inl : InlOk Try.prog 13 othM := chM_ok Try.func13 rfl
theorem remN_lt (z : Int) {n : Int} (h : 0 < n) (h2 : n < 4611686018427387904) : 0 ≤ remR z n ∧ remR z n < n := by
 unfold remR
 have hn : IntKind.u64.wrap n = n := by simp [IntKind.wrap, IntKind.bits, IntKind.signed]; omega
 rw [hn]
 have hz : 0 ≤ IntKind.u64.wrap z := by simp [IntKind.wrap, IntKind.bits, IntKind.signed]; omega
 have h3 := Int.tmod_lt_of_pos (IntKind.u64.wrap z) h
 have h4 := Int.tmod_nonneg n hz
 rw [w64 (by omega) (by omega)]
 exact ⟨h4, h3⟩
theorem sps_le {H : Heap} {mid : Nat} {A : Ab} (h : RG mid (H, A)) : A.sps.length ≤ 16 := by
 have := below_int (n := 16) (a := 1) h.1.nds (by
  intro z hz
  obtain ⟨x, hx, rfl⟩ := List.mem_map.1 hz
  have := h.2.num x hx
  omega)
 simpa using this
theorem oth_ev {H : Heap} {mid : Nat} {A : Ab} (h : RG mid (H, A)) {s k : Int} (hs : has A s) :
  ∃ H' o, othM [.ptr mid 5 0 0, .v (.int .i64 s), .v (.int .i64 k)] H = some (.v (.int .i64 o), H') ∧ RG mid (H', A) ∧ KN H H' ∧ (o = 0 ∨ has A o ∧ o ≠ s) := by
 suffices hx : ∃ r H', othM [.ptr mid 5 0 0, .v (.int .i64 s), .v (.int .i64 k)] H = some (r, H') ∧ SpH [.ptr mid 5 0 0, .v (.int .i64 s), .v (.int .i64 k)] H r H' by
  obtain ⟨r, H', h1, h2⟩ := hx
  obtain ⟨o, rfl, h3⟩ := h2 mid s k A rfl h
  exact ⟨H', o, h1, h3⟩
 have sp : ∀ {r : AVal} {H' : Heap} (o : Int) (K : Heap), r = .v (.int .i64 o) → H' = H ++ K → (o = 0 ∨ has A o ∧ o ≠ s) → SpH [.ptr mid 5 0 0, .v (.int .i64 s), .v (.int .i64 k)] H r H' := by
  intro r H' o K hr hK ho mid' s' k' A' ha hA'
  simp only [List.cons.injEq, AVal.v.injEq, Value.int.injEq, AVal.ptr.injEq, true_and, and_true] at ha
  obtain ⟨rfl, rfl, rfl⟩ := ha
  have := rg_uniq h hA'
  subst this
  subst hK
  exact ⟨o, hr, rg_app h, KN.app, ho⟩
 have hsp : spacesM [.ptr mid 5 0 0] (H ++ [some (1, [[.v (.int .i64 s)]])]) = some (outZ (H ++ [some (1, [[AVal.v (.int .i64 s)]])]).length A.sps.length, (H ++ [some (1, [[.v (.int .i64 s)]])]) ++ none :: outZK (sortZ (A.sps.map (·.1))) A.sps.length) := by
  have h1 := rg_app (K := [some (1, [[AVal.v (.int .i64 s)]])]) h
  simp only [spacesM, rg_at h1, Option.map_some]
 have hle := sps_le h
 obtain ⟨Z, hZ⟩ : ∃ x, sortZ (A.sps.map (·.1)) = x := ⟨_, rfl⟩
 have hZl : Z.length = A.sps.length := by rw [← hZ, sortZ_len]; simp
 have hZm : ∀ t, t ∈ Z ↔ has A t := fun t => by rw [← hZ, (sortZ_perm _).mem_iff, has_key]
 rw [hZ] at hsp
 have hsZ := (hZm s).2 hs
 obtain ⟨n, hn⟩ : ∃ n, A.sps.length = n + 1 := ⟨A.sps.length - 1, by have := List.length_pos_of_mem hsZ; omega⟩
 rw [hn] at hsp hZl
 simp only [outZ_s, outZK_s] at hsp
 obtain ⟨Lz, hLz⟩ : ∃ x, Z.map One.mk = x := ⟨_, rfl⟩
 have hrow : Z.map (irow .i64) = Lz.map One.row := by rw [← hLz, List.map_map]; rfl
 have hLl : Lz.length = n + 1 := by rw [← hLz]; simp [hZl]
 rw [hrow] at hsp
 have hLn : Lz ≠ [] := fun e => by rw [e] at hLl; simp at hLl
 obtain ⟨F, hF⟩ : ∃ x, Lz.filter (fun x => !(x.v == s)) = x := ⟨_, rfl⟩
 have hFm : ∀ x ∈ F, has A x.v ∧ x.v ≠ s := fun x hx => by
  rw [← hF, List.mem_filter] at hx
  refine ⟨(hZm _).1 ?_, by simpa using hx.2⟩
  rw [← hLz] at hx
  obtain ⟨z, hz, rfl⟩ := List.mem_map.1 hx.1
  exact hz
 have hFl : F.length ≤ n + 1 := by rw [← hF, ← hLl]; exact List.length_filter_le _ _
 obtain ⟨j, hj⟩ : ∃ x, H.length + 1 + (2 * n + 1 + 1) = x := ⟨_, rfl⟩
 have hob : ∀ X, (H ++ some (1, [[AVal.v (.int .i64 s)]]) :: none :: (List.replicate (2 * n + 1) none ++ [X]))[j]? = some X := fun X => by
  rw [← hj, List.getElem?_append_right (by omega), show H.length + 1 + (2 * n + 1 + 1) - H.length = (2 * n + 1 + 1) + 1 by omega, List.getElem?_cons_succ, List.getElem?_cons_succ, List.getElem?_append_right (by simp)]
  simp
 have hob' : ∀ X hi, (H ++ some (1, [[AVal.v (.int .i64 s)]]) :: none :: (List.replicate (2 * n + 1) none ++ [X]))[j]'hi = X := fun X hi => (List.getElem?_eq_some_iff.1 (hob X)).2
 have hset : ∀ X Y, (H ++ some (1, [[AVal.v (.int .i64 s)]]) :: none :: (List.replicate (2 * n + 1) none ++ [X])).set j Y = H ++ some (1, [[AVal.v (.int .i64 s)]]) :: none :: (List.replicate (2 * n + 1) none ++ [Y]) := fun X Y => by
  rw [← hj, List.set_append_right _ _ (by omega), show H.length + 1 + (2 * n + 1 + 1) - H.length = (2 * n + 1 + 1) + 1 by omega, List.set_cons_succ, List.set_cons_succ, List.set_append_right _ _ (by simp)]
  simp
 have hLlI : ¬ (Lz.length = 0) := by omega
 have hn15 : n ≤ 1048575 := by omega
 by_cases hFn : F.length = 0
 ·refine chM_ev rfl ?_
  apply Exists.intro
  apply Exists.intro
  apply And.intro
  refine' bodyE_of (((noOrc_ok.withI spaces_inl).withI othDel_inl).withP rest_pure) fxMix (by kernel_rfl) (by simp [Try.ntmps13]) ?_
  rotate_left 2
  intro C cP cI cN cD cF cA cR cL
  have cp0 := orcP rest_pure (C := C) (by rw [cP]; rfl)
  have cn0 := orcI spaces_inl (C := C) (by rw [cN]; rfl)
  have cn1 := orcI othDel_inl (C := C) (by rw [cN]; rfl)
  replace cI := fun g => congrFun cI g
  simp only [Orc.withP, Orc.withI, Orc.withF, Orc.withD, Orc.withA, Orc.withR, Orc.withC, noOrc] at cI
  replace cR : C.rd = fun _ => none := cR
  replace cD : C.dyn = fun _ => [] := cD
  clear cP cN cF cA
  simp [Try.ntmps13, Try.results13, cSl, cp0, cn0, cn1, cI, cD, cR, hsp, hj, hob, hob', hset, hLn, hF, rOne, One.row, oneDec, rCapF, rI, irow, irowDec, hLl, hn15, hFn]
  exact Ent.refl _ _
  exact sp 0 _ rfl rfl (.inl rfl)
 ·have hFI : ¬ ((F.length : Int) = 0) := by omega
  have hFp : 0 < F.length := by omega
  have hrl := remN_lt k (n := (F.length : Int)) (by omega) (by omega)
  have hu : IntKind.u64.wrap (F.length : Int) = F.length := by simp [IntKind.wrap, IntKind.bits, IntKind.signed]; omega
  have hu0 : ¬ IntKind.u64.wrap (F.length : Int) = 0 := by rw [hu]; exact hFI
  obtain ⟨m, hm⟩ := Int.eq_ofNat_of_zero_le hrl.1
  have hmF : m < F.length := by omega
  have hmI : (m : Int) < F.length := by omega
  have hml : m < F.length + (n + 1 - F.length) := by omega
  have hg : (F.map One.row ++ List.replicate (n + 1 - F.length) [AVal.v (.int .i64 0)])[m]? = some [.v (.int .i64 F[m].v)] := by
   rw [List.getElem?_append_left (by simpa using hmF)]; simp [hmF, One.row]
  have hg' : ∀ hi, (F.map One.row ++ List.replicate (n + 1 - F.length) [AVal.v (.int .i64 0)])[m]'hi = [.v (.int .i64 F[m].v)] := fun hi => (List.getElem?_eq_some_iff.1 hg).2
  have ho := hFm F[m] (List.getElem_mem hmF)
  refine chM_ev rfl ?_
  apply Exists.intro
  apply Exists.intro
  apply And.intro
  refine' bodyE_of (((noOrc_ok.withI spaces_inl).withI othDel_inl).withP rest_pure) fxMix (by kernel_rfl) (by simp [Try.ntmps13]) ?_
  rotate_left 2
  intro C cP cI cN cD cF cA cR cL
  have cp0 := orcP rest_pure (C := C) (by rw [cP]; rfl)
  have cn0 := orcI spaces_inl (C := C) (by rw [cN]; rfl)
  have cn1 := orcI othDel_inl (C := C) (by rw [cN]; rfl)
  replace cI := fun g => congrFun cI g
  simp only [Orc.withP, Orc.withI, Orc.withF, Orc.withD, Orc.withA, Orc.withR, Orc.withC, noOrc] at cI
  replace cR : C.rd = fun _ => none := cR
  replace cD : C.dyn = fun _ => [] := cD
  clear cP cN cF cA
  simp [Try.ntmps13, Try.results13, cSl, cp0, cn0, cn1, cI, cD, cR, hsp, hj, hob, hob', hset, hLn, hF, rOne, One.row, oneDec, rCapF, rI, irow, irowDec, hLl, hn15, hFn, hFI, hFp, hu, hu0, hm, hmF, hmI, hml, hg, hg']
  exact Ent.refl _ _
  exact sp _ _ rfl rfl (.inr ho)
end
section
attribute [local simp] Ins.eta Ins.cold Ins.mapM Ins.mapMc Ins.view Ins.viewc Ins.hotR Ins.ren Ins.renc Ins.low Ins.tau Ins.tauc Ins.bare Ins.flat Ins.flat1 Ins.mapMt Ins.mapMd Ins.coldt Ins.coldd Ins.hotRt Ins.hotRd
attribute [local simp] rgA_list rgL_map rg_allV rgL_arr rg_one AI.apart aMkI aInvoke mfL mfS res_ifc res_meth
def d0 : List Int := [5, 0, 16, 2] ++ List.replicate 60 0
def g0 : Rg := ⟨[0, 0, 0, 0, 0, 0, 0, 0], 0, 1⟩
def V0 : View := laidV d0 fun _ => none
theorem d0_len : d0.length = 64 := rfl
theorem g0_ok : g0.ok := ⟨rfl, by decide, by decide⟩
theorem st0_1 : (stepV V0 g0).1 = ⟨[0, 5, 0, 0, 0, 0, 0, 0], 4, 1⟩ := by kernel_rfl
theorem st0_2 : (stepV V0 g0).2.1 = (0, 0) := by kernel_rfl
theorem st0_3 : (stepV V0 g0).2.2 = V0 := by kernel_rfl
theorem sv0 : (stV V0 64 9).1 = 0 := by kernel_rfl
theorem all0 : ∀ i : Fin 96, okvB (stV V0 64 9).2 1 ((0 + (i.val : Int)) / 16) = true := by decide +kernel
theorem allV0 : seeV (stV V0 64 9).2 = (List.range 96).map fun i => btV (stV V0 64 9).2 (0 + ((i : Nat) : Int)) := by
 unfold seeV
 rw [if_pos fun i hi => all0 ⟨i, hi⟩]
theorem all0_len : (seeV (stV V0 64 9).2).length = 96 := by rw [allV0]; simp
theorem all0_64 : (seeV (stV V0 64 9).2)[64]? = some 9 := by
 rw [allV0, List.getElem?_map, List.getElem?_range (by decide)]
 kernel_rfl
theorem enc0 : encF ⟨2, 1, 0, 5⟩ = (34603013, 0) := by kernel_rfl
theorem works_pure : PureOk Try.prog 5 ( finM (some (.v (.bool true)))) := by
 refine pure0 Try.func5 rfl ?_
 rintro  r hr
 simp only [Option.some.injEq] at hr
 subst hr
 refine body_gen (((((((noOrc_ok.withP enc_pure).withI new_inl).withI make_inl).withI layY_inl).withI step_inl).withI store_inl).withI all_inl) fxMix (by kernel_rfl) (by simp [Try.ntmps5]) ?_
 intro C cP cI cN cD cF cA cR cL
 have cp0 := orcP enc_pure (C := C) (by rw [cP]; rfl)
 have cn0 := orcI new_inl (C := C) (by rw [cN]; rfl)
 have cn1 := orcI make_inl (C := C) (by rw [cN]; rfl)
 have cn2 := orcI layY_inl (C := C) (by rw [cN]; rfl)
 have cn3 := orcI step_inl (C := C) (by rw [cN]; rfl)
 have cn4 := orcI store_inl (C := C) (by rw [cN]; rfl)
 have cn5 := orcI all_inl (C := C) (by rw [cN]; rfl)
 replace cI := fun g => congrFun cI g
 simp only [Orc.withP, Orc.withI, Orc.withF, Orc.withD, Orc.withA, Orc.withR, Orc.withC, noOrc] at cI
 replace cR : C.rd = fun _ => none := cR
 replace cD : C.dyn = fun _ => [] := cD
 clear cP cN cF cA
 have hnb : ¬ newB 8 0 := by decide
 have hnew : newM [.v (.int .i64 8), .v (.int .i64 0)] [] = some (.tup [.ptr 1 5 0 0, .v (.int .i64 0)], ([] ++ [some (0, []), some (5, [(newL ([] : Heap).length 8 0).row])] : Heap)) := rfl
 have r0 : RG 1 (([] ++ [some (0, []), some (5, [(newL ([] : Heap).length 8 0).row])] : Heap), (⟨newL ([] : Heap).length 8 0, []⟩ : Ab)) := new_rep (H := []) hnb
 generalize ([] ++ [some (0, []), some (5, [(newL ([] : Heap).length 8 0).row])] : Heap) = G0 at *
 obtain ⟨s, e, G1, A1, hmk, r1, hlo, hc⟩ := make_ev r0
 rcases hc with ⟨rfl, hfr, _, hh, hv, hvo, hks⟩ | ⟨_, _, _, hfr⟩
 case inr => cases hfr
 have hs : s = 1 := by cases hfr; rfl
 subst hs
 have hV1 : vw A1 1 = fun _ => none := funext hv
 have inv1 : Inv 1 A1 := by
  refine ⟨fun t k hk => ?_, ?_, ?_⟩
  ·by_cases ht : t = 1
   ·subst ht; exact absurd (hv k) hk
   ·rw [hvo t k ht] at hk
    exact absurd (vw_no rfl) hk
  ·have := congrArg List.length hks
   simp at this
   omega
  ·rw [hlo]; decide
 have hq : (G1 ++ [none, some (1, yR d0)])[G1.length + 1]? = some (some (1, yR d0)) := by
  rw [List.getElem?_append_right (by omega)]; simp
 have r2 := rg_app (K := [none, some (1, yR d0)]) r1
 have hnf : ¬ fpP 1 A1 (G1.length + 1) := fun hf => by
  obtain ⟨q, hq2, _⟩ := fp_live r1 hf
  have := (List.getElem?_eq_some_iff.1 hq2).1
  omega
 obtain ⟨G2, hlay, A2, r3, f1, f2, _, f4⟩ := layO_ev (kc := 64) r2 hh inv1 d0_len hv hq hnf
 have hV2 : vw A2 1 = V0 := by rw [f2, hV1]; rfl
 obtain ⟨G3, hst, A3, r4, p1, p2, _, p4⟩ := step_ev g0_ok r3 (eff_has f1 hh) (f4 1 inv1)
 rw [hV2, st0_3] at p2
 rw [hV2, st0_1, st0_2] at hst
 have hh3 := eff_has p1 (eff_has f1 hh)
 have i3 := p4 1 (f4 1 inv1)
 obtain ⟨g1, hg1⟩ : ∃ x : Rg, (⟨[0, 5, 0, 0, 0, 0, 0, 0], 4, 1⟩ : Rg) = x := ⟨_, rfl⟩
 have h8 : g1.r.length = 8 := by rw [← hg1]; rfl
 have c1 : g1.at 1 = 5 := by rw [← hg1]; rfl
 have c2 : g1.pc = 4 := by rw [← hg1]
 have ga := rg_get h8 (k := 1) (by decide)
 have ga' := fun hi => rg_get' h8 (k := 1) (by decide) hi
 have gp := rg_pc h8
 have gp' := fun hi => rg_pc' h8 hi
 rw [c1] at ga ga'
 rw [c2] at gp gp'
 have e1 := rg_len h8
 have aa := fun (r : Row) => @rw_all g1 h8 r
 rw [hg1] at hst
 have r5 := rg_app (K := [some (10, [rgRow g1]), some (2, [[.v (.int .i64 0), .v (.int .u32 0)]])]) r4
 obtain ⟨G4, A4, hsto, r6, u1, u2, _⟩ := store_v (b := 9) r5 (s := 1) (addr := 64) hh3 (by decide) (i3.room r5)
 rw [p2] at hsto u2
 rw [sv0] at hsto
 have hh4 := eff_has u1 hh3
 obtain ⟨ra, G5, hall, ⟨L5, lk5, r7, _⟩, isl⟩ := all_ev r6 hh4
 rw [u2] at isl
 rcases isl with ⟨_, he⟩ | ⟨n1, rfl, hn1, _, _⟩
 ·have := all0_len; rw [he] at this; cases this
 obtain ⟨rb, G6, hall2, _, isl2⟩ := all_ev r7 (s := 1) (has_like hh4)
 have hv7 : vw { A4 with lo := L5 } 1 = (stV V0 64 9).2 := by rw [← u2]; exact funext (vw_like lk5 1)
 rw [hv7] at isl2
 rcases isl2 with ⟨_, he⟩ | ⟨n2, rfl, hn2, _, _⟩
 ·have := all0_len; rw [he] at this; cases this
 rw [all0_len] at hall hall2
 have hyR : yR d0 = [[.v (.int .u8 5)], [.v (.int .u8 0)], [.v (.int .u8 16)], [.v (.int .u8 2)], [.v (.int .u8 0)], [.v (.int .u8 0)], [.v (.int .u8 0)], [.v (.int .u8 0)], [.v (.int .u8 0)], [.v (.int .u8 0)], [.v (.int .u8 0)], [.v (.int .u8 0)], [.v (.int .u8 0)], [.v (.int .u8 0)], [.v (.int .u8 0)], [.v (.int .u8 0)], [.v (.int .u8 0)], [.v (.int .u8 0)], [.v (.int .u8 0)], [.v (.int .u8 0)], [.v (.int .u8 0)], [.v (.int .u8 0)], [.v (.int .u8 0)], [.v (.int .u8 0)], [.v (.int .u8 0)], [.v (.int .u8 0)], [.v (.int .u8 0)], [.v (.int .u8 0)], [.v (.int .u8 0)], [.v (.int .u8 0)], [.v (.int .u8 0)], [.v (.int .u8 0)], [.v (.int .u8 0)], [.v (.int .u8 0)], [.v (.int .u8 0)], [.v (.int .u8 0)], [.v (.int .u8 0)], [.v (.int .u8 0)], [.v (.int .u8 0)], [.v (.int .u8 0)], [.v (.int .u8 0)], [.v (.int .u8 0)], [.v (.int .u8 0)], [.v (.int .u8 0)], [.v (.int .u8 0)], [.v (.int .u8 0)], [.v (.int .u8 0)], [.v (.int .u8 0)], [.v (.int .u8 0)], [.v (.int .u8 0)], [.v (.int .u8 0)], [.v (.int .u8 0)], [.v (.int .u8 0)], [.v (.int .u8 0)], [.v (.int .u8 0)], [.v (.int .u8 0)], [.v (.int .u8 0)], [.v (.int .u8 0)], [.v (.int .u8 0)], [.v (.int .u8 0)], [.v (.int .u8 0)], [.v (.int .u8 0)], [.v (.int .u8 0)], [.v (.int .u8 0)]] := rfl
 have b0 : IntKind.u8.wrap 34603013 = 5 := by decide
 have b1 : IntKind.u8.wrap (ishr .u32 34603013 8) = 0 := by decide
 have b2 : IntKind.u8.wrap (ishr .u32 34603013 16) = 16 := by decide
 have b3 : IntKind.u8.wrap (ishr .u32 34603013 24) = 2 := by decide
 have h64 : (yRow (seeV (stV V0 64 9).2))[64]? = some [.v (.int .u8 9)] := by
  simp only [yRow, List.getElem?_map, all0_64, Option.map_some]
 have h64' : ∀ hi, (yRow (seeV (stV V0 64 9).2))[64]'hi = [AVal.v (.int .u8 9)] := fun hi => (List.getElem?_eq_some_iff.1 h64).2
 have hyl : (yRow (seeV (stV V0 64 9).2)).length = 96 := by rw [yRow_len, all0_len]
 rw [hyR, d0_len] at hlay
 unfold busV busA at hst
 have hgA : rgA g0 = #[.int .u32 0, .int .u32 0, .int .u32 0, .int .u32 0, .int .u32 0, .int .u32 0, .int .u32 0, .int .u32 0, .int .u32 0, .int .i64 1] := rfl
 rw [hgA] at hst
 simp only [trA] at hst
 simp [Try.ntmps5, Try.results5, cSl, cp0, cn0, cn1, cn2, cn3, cn4, cn5, cI, cD, cR, hnew, tupA, hmk, Ins.row, insDec, rIns, enc0, b0, b1, b2, b3, hlay, hst, ga, ga', gp, gp', e1, aa, hsto, hall, hall2, hn1, hn2, h64, h64', hyl, List.getElem?_append, List.set_append]
end
end
end Go.Proofs.Ytibpipgabcpaoaa
