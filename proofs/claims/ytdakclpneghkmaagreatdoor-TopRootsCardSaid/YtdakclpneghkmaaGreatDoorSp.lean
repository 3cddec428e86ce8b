/- What nobody refers to any more is dropped: the memory is as long as before. -/
import Derived.Test.YtdakclpneghkmaaGreatDoorCat
import Derived.Test.YtdakclpneghkmaaGreatDoorEq
import Derived.Test.YtdakclpneghkmaaGreatDoorBA
namespace Go.AI
set_option linter.unusedSectionVars false
variable [Go.AI.Sym]
set_option linter.unusedSectionVars false
set_option maxRecDepth 100000
open Go.RowKit
theorem ren_low (n : Nat) : ∀ (a : AVal), lowA n a = true → ren n [] a = a
 | .junk, _ => rfl
 | .anyb, _ => rfl
 | .anyi _, _ => rfl
 | .str _, _ => rfl
 | .v _, _ => rfl
 | .ptr id _ _ _, h => by
  have h : id < n := by simpa [lowA] using h
  simp [ren, thOf, h]
 | .fptr _ _, _ => rfl
 | .osl id _ _ _ _, h => by
  have h : id < n := by simpa [lowA] using h
  simp [ren, thOf, h]
 | .xsl id _ _ _ _, h => by
  have h : id < n := by simpa [lowA] using h
  simp [ren, thOf, h]
 | .fsl _ _ _, _ => rfl
 | .esl, _ => rfl
 | .agg cs, h => by
  simp only [lowA, lowC_all] at h
  simp only [ren, renC_map]
  rw [List.map_congr_left (g := id) fun a ha => ren_low n a (List.all_eq_true.1 h a ha), List.map_id]
 | .tup cs, h => by
  simp only [lowA, lowC_all] at h
  simp only [ren, renC_map]
  rw [List.map_congr_left (g := id) fun a ha => ren_low n a (List.all_eq_true.1 h a ha), List.map_id]
 | .fn _ cs, h => by
  simp only [lowA, lowC_all] at h
  simp only [ren, renC_map]
  rw [List.map_congr_left (g := id) fun a ha => ren_low n a (List.all_eq_true.1 h a ha), List.map_id]
 | .when _ a, h => by
  simp only [ren]
  rw [ren_low n a (by simpa [lowA] using h)]
 | .ifc _ a, h => by
  simp only [ren]
  rw [ren_low n a (by simpa [lowA] using h)]
 | .meth _ _, _ => rfl
termination_by a => SizeOf.sizeOf a
decreasing_by
 all_goals simp_wf
 all_goals first
  |(have := List.sizeOf_lt_of_mem ha; omega)
  | omega
theorem heapT_ofO {n0 n : Nat} {th : List Nat} {H : Heap} : ∀ {H' : Heap} {k : Nat}, (∀ (id : Nat) o, H'[id]? = some (some o) → H[thOf n0 th (k + id)]? = some (some (o.1, o.2.map (List.map (ren n0 th)))) ∧ (o.2.all fun row => row.all (lowA n)) = true) → heapT n0 th n H k H'
 | [], _, _ => trivial
 | none :: r, k, h => by
  simp only [heapT]
  refine heapT_ofO fun id o ho => ?_
  have := h (id + 1) o (by simpa using ho)
  rwa [show k + (id + 1) = k + 1 + id by omega] at this
 | some o :: r, k, h => by
  simp only [heapT]
  refine ⟨(h 0 o rfl).1, (h 0 o rfl).2, heapT_ofO fun id o ho => ?_⟩
  have := h (id + 1) o (by simpa using ho)
  rwa [show k + (id + 1) = k + 1 + id by omega] at this
def lowLO (n : Nat) : LO → Bool
 | .ls _ rows => rows.all fun r => r.all (lowA n)
 | .ar _ _ x ps => x.all (lowA n) && ps.all fun p => p.2.all (lowA n)
theorem putPs_all {q : Row → Prop} {m : Nat} : ∀ {ps : List (Nat × Row)} {t : Tr Row}, ArOk m t → (∀ p ∈ ps, p.1 < m) → (∀ i r, tget t i = some r → q r) → (∀ p ∈ ps, q p.2) → ∀ i r, tget (putPs ps t) i = some r → q r
 | [], t, _, _, h, _ => h
 | p :: ps, t, ho, hp, h, h2 => by
  show ∀ i r, tget (putPs ps (tsetR t p.1 p.2)) i = some r → q r
  rw [tsetR_eq]
  refine putPs_all (ho.set (hp p (by simp)) _) (fun p hp' => hp p (by simp [hp'])) (fun i r hr => ?_) (fun p hp' => h2 p (by simp [hp']))
  rw [tget_set _ _ _ _ (ho.below (Nat.le_of_lt (hp p (by simp))))] at hr
  split at hr
  ·cases hr; exact h2 p (by simp)
  ·exact h i r hr
theorem lowLO_ok {n : Nat} {o : LO} (ho : okLO o = true) (h : lowLO n o = true) : ∀ q, absO (toO o) = some q → (q.2.all fun row => row.all (lowA n)) = true := by
 intro q hq
 cases o with
 | ls sz rows => cases hq; exact h
 | ar sz m x ps =>
  simp only [okLO, Bool.and_eq_true, decide_eq_true_eq, List.all_eq_true] at ho
  simp only [lowLO, Bool.and_eq_true, List.all_eq_true] at h
  have e : absO (toO (.ar sz m x ps)) = some (sz, rowsL m (putPs ps (repT x 64 m))) := rfl
  rw [e] at hq
  cases hq
  rw [List.all_eq_true]
  intro row hrow
  unfold rowsL at hrow
  obtain ⟨i, _, rfl⟩ := List.mem_map.1 hrow
  cases hg : tget (putPs ps (repT x 64 m)) i with
  | none => rfl
  | some r =>
   have := putPs_all (q := fun r => (r.all (lowA n)) = true) (repT_ok ho.1).1 ho.2 (fun i r hr => by
    rw [repT_get _ _ _ ho.1] at hr
    split at hr
    ·cases hr; exact List.all_eq_true.2 h.1
    ·cases hr) (fun p hp => List.all_eq_true.2 (h.2 p hp)) i r hg
   exact this
def lowLS (n : Nat) (l : LS) : Bool := l.all fun p => decide (p.1 < n) && lowLO n p.2
theorem putLH_mem : ∀ {l : LS} {H : Heap} (id : Nat) o, (putLH l H)[id]? = some (some o) → H[id]? = some (some o) ∨ ∃ p ∈ l, p.1 = id ∧ absO (toO p.2) = some o
 | [], H, id, o, h => .inl h
 | p :: l, H, id, o, h => by
  rcases putLH_mem (l := l) id o h with h | ⟨q, hq, h1, h2⟩
  ·rw [List.getElem?_set] at h
   split at h
   ·rename_i e
    split at h
    ·right
     refine ⟨p, by simp, e, ?_⟩
     simpa using h
    ·cases h
   ·exact .inl h
  ·exact .inr ⟨q, by simp [hq], h1, h2⟩
theorem putLH_agree {n : Nat} : ∀ {l : LS} {H H' : Heap}, n ≤ H.length → n ≤ H'.length → (∀ id, id < n → H[id]? = H'[id]?) → ∀ id, id < n → (putLH l H)[id]? = (putLH l H')[id]?
 | [], _, _, _, _, h => h
 | p :: l, H, H', h1, h2, h => by
  refine putLH_agree (l := l) (by simpa using h1) (by simpa using h2) fun id hid => ?_
  rw [List.getElem?_set, List.getElem?_set]
  split
  ·rename_i e
   subst e
   rw [if_pos (by omega), if_pos (by omega)]
  ·exact h id hid
theorem mkH_agree {n n' : Nat} {l : LS} (hn : n ≤ n') : ∀ id, id < n → (mkH n l)[id]? = (mkH n' l)[id]? := by
 refine putLH_agree (by simp) (by simpa using hn) fun id hid => ?_
 rw [List.getElem?_replicate, List.getElem?_replicate, if_pos hid, if_pos (by omega)]
theorem ent_shrink {n n' : Nat} {l : LS} {ρ : Env} (hn : n ≤ n') (hok : okLS n l = true) (hl : lowLS n l = true) (hρ : ∀ p ∈ ρ, lowA n p.2 = true) (hnd : ∀ p ∈ ρ, look ρ p.1 = p.2) : Ent n (ρ, mkH n l) (ρ, mkH n' l) := by
 refine Ent.weakT (th := []) ⟨⟨by rw [mkH_len]; exact Nat.le_refl _, by rw [mkH_len]; exact hn⟩, ⟨List.nodup_nil, by rw [mkH_len]; rfl, fun x hx => by cases hx⟩, fun p hp => ?_, ?_⟩
 ·have h1 := hρ p hp
  rw [mkH_len]
  exact ⟨by rw [ren_low n _ h1]; exact hnd p hp, h1⟩
 ·refine heapT_ofO fun id o ho => ?_
  rw [Nat.zero_add, mkH_len]
  have hid : id < n := by have := (List.getElem?_eq_some_iff.1 ho).1; rwa [mkH_len] at this
  have hlow : (o.2.all fun row => row.all (lowA n)) = true := by
   rcases putLH_mem id o ho with h | ⟨p, hp, _, h2⟩
   ·rw [List.getElem?_replicate] at h
    split at h <;> cases h
   ·simp only [okLS, Bool.and_eq_true, List.all_eq_true, decide_eq_true_eq] at hok
    simp only [lowLS, Bool.and_eq_true, List.all_eq_true] at hl
    exact lowLO_ok (hok.2 p hp).2 (hl p hp).2 _ h2
  refine ⟨?_, hlow⟩
  have e : thOf n [] id = id := by simp [thOf, hid]
  rw [e]
  have e2 : o.2.map (List.map (ren n [])) = o.2 := by
   rw [List.map_congr_left (g := fun r => r) fun row hrow => ?_, List.map_id']
   rw [List.map_congr_left (g := fun a => a) fun a ha => ren_low n a (List.all_eq_true.1 (List.all_eq_true.1 hlow row hrow) a ha), List.map_id']
   try rfl
  rw [e2]
  rw [← mkH_agree hn id hid]
  exact ho
end Go.AI
/- strings.Split at a slash, and path.Split: their contracts. -/
namespace Go.Proofs.GD
set_option linter.unusedSectionVars false
variable [Go.AI.Sym]
open Go Go.AI Go.RowKit
set_option maxHeartbeats 2000000
set_option maxRecDepth 100000
set_option linter.unusedSimpArgs false
set_option linter.unusedVariables false
attribute [local simp] wpA wpX RunA RunD runF foot footP footB idsA bare apart runL step1 gsel_f gsel_t gsel_s res_same res_and1 res_and2 res_and3 res_and4 res_and5 res_and6 res_false res_true res_v res_ptr res_fptr res_osl res_xsl soft aAppendZ aCap ovlI ovlJ res_fsl res_esl res_agg res_tup res_fn res_junk res_anyb aPick hk imp_left iteV dstOk guardOk astep astepE AI.ev AI.look AI.put envOf aBox cellsOf allOne allOneA oneA Value.oneCell' Value.cells newObj' aFieldAddr aLoad obj readAt thenA blockA condA retA resA tupA view hot hotC hotR depthV cAgg cInt cBool mkAgg allV aAlloc aBuild fillA writeAt aStore isAggA aField idx aIndexAddr aIndex bnd aSlice aExtract aLen aBuiltin aCall isStatic eqAgg eqTy eqC ev_add ev_sub ev_mul ev_quo ev_rem ev_and ev_or ev_xor ev_andNot ev_shl ev_shr ev_eql ev_neq ev_lss ev_leq ev_gtr ev_geq ev_agg w64 wu32 wu8 ev_not ev_neg Cod.plain RCod.plain argM finM cold coldC coldR goInt intDec boolDec aggDec Weaker heapW lowA lowC Again slDec undef aBuildSlice setRows aAppend rowsOf aMakeSlice aClear aCopy softer_self softer_nil valsOf ev_min2 ev_max2 hotR_set hotR_append take_map_set irow_cold irow_mapM irow_mapMc irow_view irow_viewc irow_hotR irow_ren irow_renc irow_low WeakT heapT thOf ren renC AgainT NextF NextT fnDec cFn rNil selfLt natLt0 natLt1 getLastMap frame0 frame1 own0 own1 argG finG tau tauI tauO tauC bareA bareC bareH irow_tau irow_tauc irow_bare irow_flat irow_bareR ownA_nil ownT_nil ownA_c ownT_c ownA_s ownT_s takeMapLen footC plainA noId noIdC cloneF frame0F frame1F insertF replaceI replaceF cellDec rCell fpDec cFp rTwo deleteF allV_oA oneA_oA res_oA RunR RunE runFT footAt hotR_cat tmodN aEqH aSliceA frameN newA newC newH fqSz3 fqBy3 fqAg3 fqZe3 fqSl3 fqAr3 fqPl3 fqSz4 fqBy4 fqAg4 fqZe4 fqSl4 fqAr4 fqPl4 fqSz5 fqBy5 fqAg5 fqZe5 fqSl5 fqAr5 fqPl5 fqSz27 fqBy27 fqAg27 fqZe27 fqSl27 fqAr27 fqPl27 fqSz28 fqBy28 fqAg28 fqZe28 fqSl28 fqAr28 fqPl28 fqSz39 fqBy39 fqAg39 fqZe39 fqSl39 fqAr39 fqPl39 fqCv3x5 fqCv5x3 fqEb4 fqNb4 fqLn28 fqNe28 fqNn28 fqOe28 fqOn28 fqXe28 fqXn28 fqLn39 fqNe39 fqNn39 fqOe39 fqOn39 fqXe39 fqXn39 fqFm13 fqFi13 fqSz9 fqBy9 fqAg9 fqZe9 fqSl9 fqAr9 fqPl9 fqSz46 fqBy46 fqAg46 fqZe46 fqSl46 fqAr46 fqPl46 fqLt9 fqLn46 fqNe46 fqNn46 fqOe46 fqOn46 fqXe46 fqXn46 fqFm63 fqFi63 fqFm129 fqFi129 fqFm207 fqFi207 fqFm270 fqFi270 fqFm271 fqFi271 fqFm272 fqFi272 fqFm318 fqFm319 fqFi319 fqFm320 fqFi320 fqFm350 ev_eqlS ev_neqS
attribute [local simp] cStr strDec
def emR : Row := [.v (.string ⟨#[]⟩)]
def cutRows (N : Nat) (done : List ByteArray) : List Row := done.map strRow ++ List.replicate (N + 1 - done.length) emR
theorem cutRows_get {N k : Nat} {done : List ByteArray} (h : done.length = k) (hk : k ≤ N) : (cutRows N done)[k]? = some emR := by
 unfold cutRows
 rw [List.getElem?_append_right (by simp [h]), List.length_map, h, Nat.sub_self, List.getElem?_replicate, if_pos (by omega)]
theorem cutRows_set {N k : Nat} {done : List ByteArray} {x : ByteArray} (h : done.length = k) (hk : k ≤ N) : (cutRows N done).set k [.v (.string x)] = cutRows N (done ++ [x]) := by
 unfold cutRows
 rw [List.set_append_right _ _ (by simp [h])]
 have e : N + 1 - k = (N - k) + 1 := by omega
 have e2 : N + 1 - (k + 1) = N - k := by omega
 simp [h, e, e2, List.replicate_succ, strRow]
theorem strRow_view (H : Heap) (d : Nat) (b : ByteArray) : (strRow b).map (AI.view H d) = strRow b := by cases d <;> simp [strRow, AI.view]
theorem strRow_hot : ∀ l : List ByteArray, AI.hotR (l.map strRow) = true
 | [] => by simp [AI.hotR]
 | b :: l => by
  have := strRow_hot l
  simp [AI.hotR, AI.hotC, AI.hot, strRow] at this ⊢
  exact this
theorem cutRows_low {N n : Nat} {l : List ByteArray} : ∀ x : Row, x ∈ cutRows N l → ∀ y : AVal, y ∈ x → lowA n y = true := by
 intro x hx y hy
 unfold cutRows at hx
 rcases List.mem_append.1 hx with h | h
 ·obtain ⟨b, _, rfl⟩ := List.mem_map.1 h
  simp [strRow] at hy
  subst hy
  rfl
 ·have := List.eq_of_mem_replicate h
  subst this
  simp [emR] at hy
  subst hy
  rfl
theorem cutRows_full {N : Nat} {l : List ByteArray} (h : l.length = N + 1) : cutRows N l = l.map strRow := by
 simp [cutRows, h]
theorem sp207 : PureOk Tryz.prog 207 (argM cStr fun s => argM cStr fun t => argM (cInt .i64) fun sv => argM (cInt .i64) fun n => finM (if t = slash ∧ sv = 0 ∧ n = -1 ∧ s.size ≤ 64 then some (.fsl true 1 ((piecesB s).map strRow)) else none)) := by
 refine pure4 Tryz.func207 rfl ?_
 rintro s t sv n r hr
 by_cases hc : t = slash ∧ sv = 0 ∧ n = -1 ∧ s.size ≤ 64
 case neg => rw [if_neg hc] at hr; cases hr
 rw [if_pos hc] at hr
 obtain ⟨rfl, rfl, rfl, hs⟩ := hc
 simp only [Option.some.injEq] at hr
 subst hr
 refine body_gen ((noOrc_ok.withP ix271).withP ct270) fqMix (by kernel_rfl) (by simp [Tryz.ntmps207]) ?_
 intro C cP cI cN cD cF cA cR cL
 replace cI : C.inl = fun _ => false := cI
 replace cR : C.rd = fun _ => none := cR
 replace cD : C.dyn = fun _ => [] := cD
 have hP := orcP ix271 (C := C) (by rw [cP]; rfl)
 have hP2 := orcP ct270 (C := C) (by rw [cP]; rfl)
 clear cP cN cF cA
 have hne : ¬ slash = ⟨#[]⟩ := by decide
 have hl := fun (b : ByteArray) => (ev_lenT (s := b) Tryz.underlying9)
 have hN := ctN_le s
 have w1 : IntKind.i64.wrap ((ctN s : Int) + 1) = (ctN s : Int) + 1 := w64 (by omega) (by omega)
 have w2 : IntKind.i64.wrap ((s.size : Int) + 1) = (s.size : Int) + 1 := w64 (by omega) (by omega)
 have w3 : IntKind.i64.wrap ((ctN s : Int) + 1 - 1) = (ctN s : Int) := by rw [Int.add_sub_cancel]; exact w64 (by omega) (by omega)
 have c1 : ¬ ((s.size : Int) + 1 < (ctN s : Int) + 1) := by omega
 have c2 : (0 : Int) ≤ (ctN s : Int) + 1 := by omega
 have c3 : (ctN s : Int) + 1 ≤ 4294967296 := by omega
 have c4 : ((ctN s : Int) + 1).toNat = ctN s + 1 := by omega
 have hz : emR.length = 1 := rfl
 simp [Tryz.ntmps207, Tryz.results207, cI, cD, cR, hP, hP2, hl, hne, ctB_eq, w1, w2, w3, c1, c2, c3, c4]
 refine loop_for (ctN s) (fun k (q : List ByteArray × ByteArray) => ([(0, .v (.string q.2)), (1, .v (.string slash)), (2, .v (.int .i64 0)), (3, .v (.int .i64 (ctN s))), (9, .osl 0 1 0 (ctN s + 1) (ctN s + 1)), (10, .v (.int .i64 k))], [some (1, cutRows (ctN s) q.1)]))
  (fun k q => q.1.length = k ∧ piecesB s = q.1 ++ cutB (ctN s - k) q.2 ∧ ctN q.2 = ctN s - k ∧ q.2.size ≤ 64) ([], s) (by omega) ⟨rfl, rfl, rfl, hs⟩ ?_ ?_ ?_
 ·simp [cutRows, emR]
  exact ⟨w64 (by omega) (by omega), rfl⟩
 ·rintro k ⟨done, r⟩ hk ⟨i1, i2, i3, i4⟩ hw
  simp only at i1 i2 i3 i4
  obtain ⟨e, lt, ct⟩ := first_ix (s := r) (m := ctN s - k - 1) (by omega)
  have n0 : ¬ (ixN r : Int) < 0 := by omega
  have v1 : IntKind.i64.wrap (ixN r : Int) = (ixN r : Int) := w64 (by omega) (by omega)
  have v2 : IntKind.i64.wrap ((ixN r : Int) + 1) = (ixN r : Int) + 1 := w64 (by omega) (by omega)
  have s1 := ev_slcHi (P := Tryz.prog) (a := r) (k := .i64) (i := ixN r) Tryz.underlying9 (by omega)
  have s2 : asV (pr Tryz.prog (Instr.sliceAt 9 (.string r) (some (.int .i64 ((ixN r : Int) + 1))) none none)) = some (.v (.string (r.extract (ixN r + 1) r.size))) := ev_slcLo (P := Tryz.prog) (a := r) (k := .i64) (i := ixN r + 1) Tryz.underlying9 (by omega)
  have hk1 : (k : Int) < (ctN s : Int) + 1 := by omega
  have g1 := cutRows_get (N := ctN s) i1 (by omega)
  have g2 := cutRows_set (N := ctN s) (x := r.extract 0 (ixN r)) i1 (by omega)
  simp [Tryz.ntmps207, Tryz.results207, cI, cD, cR, hP, hP2, hl, hk, hw, e, n0, v1, v2, s1, s2, vOpt, g1, g2, emR, hk1, slash_size]
  refine ⟨done ++ [r.extract 0 (ixN r)], r.extract (ixN r + 1) r.size, ⟨by simp [i1], ?_, by rw [ct]; omega, by rw [ext_size _ _ _ (Nat.le_refl _)]; omega⟩, rfl, rfl, cutRows_low⟩
  rw [i2, show ctN s - k = (ctN s - (k + 1)) + 1 by omega, cutB, List.append_assoc]
  rfl
 ·rintro ⟨done, r⟩ ⟨i1, i2, i3, i4⟩
  simp only at i1 i2 i3 i4
  have g1 := cutRows_get (N := ctN s) i1 (by omega)
  have g2 := cutRows_set (N := ctN s) (x := r) i1 (by omega)
  simp [Tryz.ntmps207, Tryz.results207, cI, cD, cR, hP, hP2, hl, g1, g2, emR, w1, c2]
  have e3 : done ++ [r] = piecesB s := by rw [i2, Nat.sub_self]; rfl
  have e4 : (piecesB s).length = ctN s + 1 := cutB_len _ _
  have e5 : cutRows (ctN s) (done ++ [r]) = (piecesB s).map strRow := by rw [e3, cutRows_full e4]
  have e6 : (fun r_1 => List.map (AI.view [some (1, (piecesB s).map strRow)] 3) r_1) ∘ strRow = strRow := funext fun b => strRow_view _ _ b
  rw [e5]
  simp only [List.length_map, e4, Nat.le_refl, if_true, List.map_map, e6]
  exact ⟨by rw [List.take_of_length_le (by simp [e4])], strRow_hot _⟩
theorem sp129 : PureOk Tryz.prog 129 (argM cStr fun s => argM cStr fun t => finM (if t = slash ∧ s.size ≤ 64 then some (.fsl true 1 ((piecesB s).map strRow)) else none)) := by
 refine pure2 Tryz.func129 rfl ?_
 rintro s t r hr
 by_cases hc : t = slash ∧ s.size ≤ 64
 case neg => rw [if_neg hc] at hr; cases hr
 rw [if_pos hc] at hr
 obtain ⟨rfl, hs⟩ := hc
 simp only [Option.some.injEq] at hr
 subst hr
 refine body_gen (noOrc_ok.withP sp207) fqMix (by kernel_rfl) (by simp [Tryz.ntmps129]) ?_
 intro C cP cI cN cD cF cA cR cL
 replace cI : C.inl = fun _ => false := cI
 replace cR : C.rd = fun _ => none := cR
 replace cD : C.dyn = fun _ => [] := cD
 have hP := orcP sp207 (C := C) (by rw [cP]; rfl)
 clear cP cN cF cA
 have e6 : (fun r_1 => List.map (AI.view [] 3) r_1) ∘ strRow = strRow := funext fun b => strRow_view _ _ b
 simp [Tryz.ntmps129, Tryz.results129, cI, cD, cR, hP, hs, e6, strRow_hot]
end Go.Proofs.GD
/- path.Split: its contract. -/
namespace Go.Proofs.GD
set_option linter.unusedSectionVars false
variable [Go.AI.Sym]
open Go Go.AI Go.RowKit
set_option maxHeartbeats 2000000
set_option maxRecDepth 100000
set_option linter.unusedSimpArgs false
set_option linter.unusedVariables false
attribute [local simp] wpA wpX RunA RunD runF foot footP footB idsA bare apart runL step1 gsel_f gsel_t gsel_s res_same res_and1 res_and2 res_and3 res_and4 res_and5 res_and6 res_false res_true res_v res_ptr res_fptr res_osl res_xsl soft aAppendZ aCap ovlI ovlJ res_fsl res_esl res_agg res_tup res_fn res_junk res_anyb aPick hk imp_left iteV dstOk guardOk astep astepE AI.ev AI.look AI.put envOf aBox cellsOf allOne allOneA oneA Value.oneCell' Value.cells newObj' aFieldAddr aLoad obj readAt thenA blockA condA retA resA tupA view hot hotC hotR depthV cAgg cInt cBool mkAgg allV aAlloc aBuild fillA writeAt aStore isAggA aField idx aIndexAddr aIndex bnd aSlice aExtract aLen aBuiltin aCall isStatic eqAgg eqTy eqC ev_add ev_sub ev_mul ev_quo ev_rem ev_and ev_or ev_xor ev_andNot ev_shl ev_shr ev_eql ev_neq ev_lss ev_leq ev_gtr ev_geq ev_agg w64 wu32 wu8 ev_not ev_neg Cod.plain RCod.plain argM finM cold coldC coldR goInt intDec boolDec aggDec Weaker heapW lowA lowC Again slDec undef aBuildSlice setRows aAppend rowsOf aMakeSlice aClear aCopy softer_self softer_nil valsOf ev_min2 ev_max2 hotR_set hotR_append take_map_set irow_cold irow_mapM irow_mapMc irow_view irow_viewc irow_hotR irow_ren irow_renc irow_low WeakT heapT thOf ren renC AgainT NextF NextT fnDec cFn rNil selfLt natLt0 natLt1 getLastMap frame0 frame1 own0 own1 argG finG tau tauI tauO tauC bareA bareC bareH irow_tau irow_tauc irow_bare irow_flat irow_bareR ownA_nil ownT_nil ownA_c ownT_c ownA_s ownT_s takeMapLen footC plainA noId noIdC cloneF frame0F frame1F insertF replaceI replaceF cellDec rCell fpDec cFp rTwo deleteF allV_oA oneA_oA res_oA RunR RunE runFT footAt hotR_cat tmodN aEqH aSliceA frameN newA newC newH fqSz3 fqBy3 fqAg3 fqZe3 fqSl3 fqAr3 fqPl3 fqSz4 fqBy4 fqAg4 fqZe4 fqSl4 fqAr4 fqPl4 fqSz5 fqBy5 fqAg5 fqZe5 fqSl5 fqAr5 fqPl5 fqSz27 fqBy27 fqAg27 fqZe27 fqSl27 fqAr27 fqPl27 fqSz28 fqBy28 fqAg28 fqZe28 fqSl28 fqAr28 fqPl28 fqSz39 fqBy39 fqAg39 fqZe39 fqSl39 fqAr39 fqPl39 fqCv3x5 fqCv5x3 fqEb4 fqNb4 fqLn28 fqNe28 fqNn28 fqOe28 fqOn28 fqXe28 fqXn28 fqLn39 fqNe39 fqNn39 fqOe39 fqOn39 fqXe39 fqXn39 fqFm13 fqFi13 fqSz9 fqBy9 fqAg9 fqZe9 fqSl9 fqAr9 fqPl9 fqSz46 fqBy46 fqAg46 fqZe46 fqSl46 fqAr46 fqPl46 fqLt9 fqLn46 fqNe46 fqNn46 fqOe46 fqOn46 fqXe46 fqXn46 fqFm63 fqFi63 fqFm129 fqFi129 fqFm207 fqFi207 fqFm270 fqFi270 fqFm271 fqFi271 fqFm272 fqFi272 fqFm318 fqFm319 fqFi319 fqFm320 fqFi320 fqFm350 ev_eqlS ev_neqS
attribute [local simp] cStr strDec
def neB (p : ByteArray) : Bool := !decide (p = ⟨#[]⟩)
def partsB (s : ByteArray) : List ByteArray := (piecesB s).filter neB
def wholeB (s : ByteArray) : Bool := if h : 0 < s.size then ((s[0]'h).toNat : Int) == 47 else false
def splitR (s : ByteArray) : AVal :=
 if 64 < s.size then .v (.tuple #[.bool false, .slice none 0 0, .int .i64 2])
 else if s = ⟨#[]⟩ then .v (.tuple #[.bool false, .slice none 0 0, .int .i64 3])
 else if (piecesB s).all (fun p => decide (p.size ≤ 14)) = true then
  (if partsB s = [] then .v (.tuple #[.bool (wholeB s), .slice none 0 0, .int .i64 0]) else .tup [.v (.bool (wholeB s)), .fsl true 1 ((partsB s).map strRow), .v (.int .i64 0)])
 else .v (.tuple #[.bool false, .slice none 0 0, .int .i64 3])
theorem strRow_ren (n : Nat) (th : List Nat) (b : ByteArray) : (strRow b).map (ren n th) = strRow b := by simp [strRow, ren]
theorem strRows_ren (n : Nat) (th : List Nat) (l : List ByteArray) : (l.map strRow).map (List.map (ren n th)) = l.map strRow := by
 rw [List.map_map]
 exact List.map_congr_left fun b _ => strRow_ren n th b
theorem strRows_low (n : Nat) (l : List ByteArray) : ((l.map strRow).all fun row => row.all (lowA n)) = true := by
 rw [List.all_map]
 exact List.all_eq_true.2 fun b _ => by simp [strRow, lowA]
theorem heapT_str {i : Nat} {H : Heap} {l : List ByteArray} (hl : l ≠ []) (h : H[i]? = some (some (1, l.map strRow))) : heapT 0 [i] (ownT 1 (l.map strRow)).length H 0 (ownT 1 (l.map strRow)) := by
 have e : ownT 1 (l.map strRow) = [some (1, l.map strRow)] := ownT_cons (by simpa using hl)
 rw [e]
 simp only [heapT]
 refine ⟨?_, strRows_low _ _, trivial⟩
 rw [strRows_ren]
 simpa [thOf] using h
theorem ownA_str {i : Nat} {l : List ByteArray} (hl : l ≠ []) : AVal.osl i 1 0 l.length l.length = ren 0 [i] (ownA 0 1 (l.map strRow)) ∧ lowA (ownT 1 (l.map strRow)).length (ownA 0 1 (l.map strRow)) = true := by
 rw [ownA_cons (by simpa using hl), ownT_cons (by simpa using hl)]
 simp [ren, thOf, lowA]
theorem ownT_str {l : List ByteArray} (hl : l ≠ []) : (ownT 1 (l.map strRow)).length = 1 := by
 rw [ownT_cons (by simpa using hl)]; rfl
theorem sp63 : PureOk Tryz.prog 63 (argM cStr fun s => finM (some (splitR s))) := by
 refine pure1 Tryz.func63 rfl ?_
 rintro s r hr
 simp only [Option.some.injEq] at hr
 subst hr
 refine body_gen (noOrc_ok.withP sp129) fqMix (by kernel_rfl) (by simp [Tryz.ntmps63]) ?_
 intro C cP cI cN cD cF cA cR cL
 replace cI : C.inl = fun _ => false := cI
 replace cR : C.rd = fun _ => none := cR
 replace cD : C.dyn = fun _ => [] := cD
 have hP := orcP sp129 (C := C) (by rw [cP]; rfl)
 clear cP cN cF cA
 have hl := fun (b : ByteArray) => (ev_lenT (s := b) Tryz.underlying9)
 have hsl : ({ data := #[47] } : ByteArray) = slash := rfl
 unfold splitR
 by_cases h64 : 64 < s.size
 ·have c1 : (64 : Int) < (s.size : Int) := by omega
  simp [Tryz.ntmps63, Tryz.results63, cI, cD, cR, hl, c1, h64]
 have c1 : ¬ (64 : Int) < (s.size : Int) := by omega
 have h64' : s.size ≤ 64 := by omega
 by_cases he : s = ⟨#[]⟩
 ·have he' := eq_true he
  simp [Tryz.ntmps63, Tryz.results63, cI, cD, cR, hl, c1, h64, he']
 have hlen : (piecesB s).length = ctN s + 1 := cutB_len _ _
 have hcn := ctN_le s
 simp [Tryz.ntmps63, Tryz.results63, cI, cD, cR, hP, hl, c1, h64, h64', he, hsl]
 generalize hL : piecesB s = L at *
 have hpart : partsB s = L.filter neB := by unfold partsB; rw [hL]
 rw [hpart]
 have nx : ∀ k (hk : k < L.length), L.take (k + 1) = L.take k ++ [L[k]] := fun k hk => (List.take_append_getElem hk).symm
 refine loop_forT L.length (fun k (out : List ByteArray) => ([(0, .v (.string s)), (5, ownA 0 1 (out.map strRow)), (14, .fsl true 1 (L.map strRow)), (15, .v (.int .i64 L.length)), (16, .v (.int .i64 k))], ownT 1 (out.map strRow))) (fun k out => out = (L.take k).filter neB ∧ ∀ p ∈ L.take k, p.size ≤ 14) [] [] (by omega) (by simp) (by simp [ownA_nil, ownT_nil]) ?_ ?_
 ·rintro k out hk ⟨hout, hall⟩ hw
  have hol : out.length ≤ 64 := by
   have := List.length_filter_le neB (L.take k)
   rw [← hout, List.length_take] at this
   omega
  have n1 : out.length ≤ 4294967295 := by omega
  have n2 : ¬ (out.length + 1 ≤ out.length) := by omega
  have hg : L[k]? = some L[k] := List.getElem?_eq_getElem hk
  have nxk := nx k hk
  by_cases q : L[k].size ≤ 14
  ·have c2 : ¬ (14 : Int) < (L[k].size : Int) := by omega
   have hall2 : ∀ p ∈ L.take (k + 1), p.size ≤ 14 := by
    intro p' hp
    rw [nxk, List.mem_append] at hp
    rcases hp with h | h
    ·exact hall p' h
    ·simp at h; subst h; exact q
   by_cases qe : L[k] = ⟨#[]⟩
   ·have hf : (L.take (k + 1)).filter neB = out := by rw [nxk, List.filter_append, ← hout]; simp [neB, qe]
    have qe' := eq_true qe
    by_cases ho : out = []
    ·subst ho
     simp [Tryz.ntmps63, Tryz.results63, cI, cD, cR, hl, hk, hw, strRow, c2, qe', ownA_nil, ownT_nil, hf]
     refine ⟨[], ⟨rfl, hall2⟩, ?_⟩
     simp [ownA_nil, ownT_nil]
    ·have o1 : ownA 0 1 (out.map strRow) = .osl 0 1 0 out.length out.length := by simp [ownA, ho]
     have o2 : ownT 1 (out.map strRow) = [some (1, out.map strRow)] := by simp [ownT, ho]
     simp [Tryz.ntmps63, Tryz.results63, cI, cD, cR, hl, hk, hw, strRow, c2, qe', o1, o2, hf]
     exact ⟨out, ⟨rfl, hall2⟩, [0], ⟨by simp, (ownT_str ho).symm⟩, ownA_str ho, heapT_str ho rfl⟩
   ·have hf : (L.take (k + 1)).filter neB = out ++ [L[k]] := by rw [nxk, List.filter_append, ← hout]; simp [neB, qe]
    have qe' := eq_false qe
    by_cases ho : out = []
    ·subst ho
     simp [Tryz.ntmps63, Tryz.results63, cI, cD, cR, hl, hk, hw, strRow, c2, qe', ownA_nil, ownT_nil, hf]
     exact ⟨[L[k]], ⟨rfl, hall2⟩, [1], ⟨by simp, (ownT_str (l := [L[k]]) (by simp)).symm⟩, ownA_str (i := 1) (l := [L[k]]) (by simp), heapT_str (l := [L[k]]) (by simp) rfl⟩
    ·have o1 : ownA 0 1 (out.map strRow) = .osl 0 1 0 out.length out.length := by simp [ownA, ho]
     have o2 : ownT 1 (out.map strRow) = [some (1, out.map strRow)] := by simp [ownT, ho]
     simp [Tryz.ntmps63, Tryz.results63, cI, cD, cR, hl, hk, hw, strRow, c2, qe', o1, o2, hf, n1, n2]
     have hne : out ++ [L[k]] ≠ [] := by simp
     have ha := ownA_str (i := 2) hne
     simp only [List.length_append, List.length_cons, List.length_nil, Nat.zero_add] at ha
     exact ⟨out ++ [L[k]], ⟨rfl, hall2⟩, [2], ⟨by simp, (ownT_str hne).symm⟩, ha, heapT_str hne (by simp [strRow])⟩
  ·have c2 : (14 : Int) < (L[k].size : Int) := by omega
   have hneg := eq_false (show ¬ ∀ x ∈ L, x.size ≤ 14 from fun h => q (h _ (List.getElem_mem hk)))
   simp [Tryz.ntmps63, Tryz.results63, cI, cD, cR, hl, hk, hw, strRow, c2, hneg]
 ·rintro out ⟨hout, hall⟩
  rw [List.take_length] at hout hall
  have hall' := eq_true hall
  have h0 : 0 < s.size := by
   rcases Nat.eq_zero_or_pos s.size with h | h
   ·exact absurd (bytes_inj (a := s) (b := ⟨#[]⟩) (by
     have e : s.data.toList.length = 0 := by rw [Array.length_toList]; exact h
     rw [List.length_eq_zero_iff.1 e])) he
   ·exact h
  have hix : asV (pr Tryz.prog (Instr.index 9 (.string s) (.int .i64 0))) = some (.v (.int .u8 (s[0]'h0).toNat)) := ev_idxI (P := Tryz.prog) (a := s) (k := .i64) (i := 0) Tryz.underlying9 h0
  have hw : wholeB s = (((s[0]'h0).toNat : Int) == 47) := by unfold wholeB; rw [dif_pos h0]
  by_cases ho : out = []
  ·subst ho
   simp [Tryz.ntmps63, Tryz.results63, cI, cD, cR, hl, ← hout, hall', ownA_nil, ownT_nil, hix, hw]
  ·have o1 : ownA 0 1 (out.map strRow) = .osl 0 1 0 out.length out.length := by simp [ownA, ho]
   have o2 : ownT 1 (out.map strRow) = [some (1, out.map strRow)] := by simp [ownT, ho]
   have e6 : (fun r_1 => List.map (AI.view [some (1, out.map strRow)] 2) r_1) ∘ strRow = strRow := funext fun b => strRow_view _ _ b
   have e7 : (fun r_1 => List.map (AI.view [some (1, out.map strRow)] 3) r_1) ∘ strRow = strRow := funext fun b => strRow_view _ _ b
   simp [Tryz.ntmps63, Tryz.results63, cI, cD, cR, hl, ← hout, hall', o1, o2, ho, hix, hw, strRow_hot, e6, e7]
end Go.Proofs.GD
/- dir.Name and cmp.Compare of strings: their contracts. -/
namespace Go.AI
set_option linter.unusedSectionVars false
variable [Go.AI.Sym]
set_option linter.unusedSectionVars false
open Go.RowKit
theorem ev_lssS {P : Program} {t : TypeId} {x y : Operand} {a b : ByteArray} : aBin P .lss t x y (.v (.string a)) (.v (.string b)) = some (.v (.bool (Op.bytesLess a.toList b.toList))) := by
 simp [aBin, eqGuard, binOp, Op.stringOp, pr_pure, asV]
theorem ev_gtrS {P : Program} {t : TypeId} {x y : Operand} {a b : ByteArray} : aBin P .gtr t x y (.v (.string a)) (.v (.string b)) = some (.v (.bool (!(Op.bytesLess a.toList b.toList || decide (a = b))))) := by
 simp [aBin, eqGuard, binOp, Op.stringOp, pr_pure, asV, toList_beq]
end Go.AI
namespace Go.Proofs.GD
set_option linter.unusedSectionVars false
variable [Go.AI.Sym]
open Go Go.AI Go.RowKit
theorem fqFm208 : (Tryz.f208.name == "runtime.NumGoroutine") = false := by kernel_rfl
theorem fqFi208 : Tryz.f208.body.isNone = false := by kernel_rfl
theorem fqFm274 : (Tryz.f274.name == "runtime.NumGoroutine") = false := by kernel_rfl
theorem fqFi274 : Tryz.f274.body.isNone = false := by kernel_rfl
theorem fqFm322 : (Tryz.f322.name == "runtime.NumGoroutine") = false := by kernel_rfl
theorem fqFi322 : Tryz.f322.body.isNone = false := by kernel_rfl
set_option maxHeartbeats 2000000
set_option maxRecDepth 100000
set_option linter.unusedSimpArgs false
set_option linter.unusedVariables false
attribute [local simp] wpA wpX RunA RunD runF foot footP footB idsA bare apart runL step1 gsel_f gsel_t gsel_s res_same res_and1 res_and2 res_and3 res_and4 res_and5 res_and6 res_false res_true res_v res_ptr res_fptr res_osl res_xsl soft aAppendZ aCap ovlI ovlJ res_fsl res_esl res_agg res_tup res_fn res_junk res_anyb aPick hk imp_left iteV dstOk guardOk astep astepE AI.ev AI.look AI.put envOf aBox cellsOf allOne allOneA oneA Value.oneCell' Value.cells newObj' aFieldAddr aLoad obj readAt thenA blockA condA retA resA tupA view hot hotC hotR depthV cAgg cInt cBool mkAgg allV aAlloc aBuild fillA writeAt aStore isAggA aField idx aIndexAddr aIndex bnd aSlice aExtract aLen aBuiltin aCall isStatic eqAgg eqTy eqC ev_add ev_sub ev_mul ev_quo ev_rem ev_and ev_or ev_xor ev_andNot ev_shl ev_shr ev_eql ev_neq ev_lss ev_leq ev_gtr ev_geq ev_agg w64 wu32 wu8 ev_not ev_neg Cod.plain RCod.plain argM finM cold coldC coldR goInt intDec boolDec aggDec Weaker heapW lowA lowC Again slDec undef aBuildSlice setRows aAppend rowsOf aMakeSlice aClear aCopy softer_self softer_nil valsOf ev_min2 ev_max2 hotR_set hotR_append take_map_set irow_cold irow_mapM irow_mapMc irow_view irow_viewc irow_hotR irow_ren irow_renc irow_low WeakT heapT thOf ren renC AgainT NextF NextT fnDec cFn rNil selfLt natLt0 natLt1 getLastMap frame0 frame1 own0 own1 argG finG tau tauI tauO tauC bareA bareC bareH irow_tau irow_tauc irow_bare irow_flat irow_bareR ownA_nil ownT_nil ownA_c ownT_c ownA_s ownT_s takeMapLen footC plainA noId noIdC cloneF frame0F frame1F insertF replaceI replaceF cellDec rCell fpDec cFp rTwo deleteF allV_oA oneA_oA res_oA RunR RunE runFT footAt hotR_cat tmodN aEqH aSliceA frameN newA newC newH fqSz3 fqBy3 fqAg3 fqZe3 fqSl3 fqAr3 fqPl3 fqSz4 fqBy4 fqAg4 fqZe4 fqSl4 fqAr4 fqPl4 fqSz5 fqBy5 fqAg5 fqZe5 fqSl5 fqAr5 fqPl5 fqSz27 fqBy27 fqAg27 fqZe27 fqSl27 fqAr27 fqPl27 fqSz28 fqBy28 fqAg28 fqZe28 fqSl28 fqAr28 fqPl28 fqSz39 fqBy39 fqAg39 fqZe39 fqSl39 fqAr39 fqPl39 fqCv3x5 fqCv5x3 fqEb4 fqNb4 fqLn28 fqNe28 fqNn28 fqOe28 fqOn28 fqXe28 fqXn28 fqLn39 fqNe39 fqNn39 fqOe39 fqOn39 fqXe39 fqXn39 fqFm13 fqFi13 fqSz9 fqBy9 fqAg9 fqZe9 fqSl9 fqAr9 fqPl9 fqSz46 fqBy46 fqAg46 fqZe46 fqSl46 fqAr46 fqPl46 fqLt9 fqLn46 fqNe46 fqNn46 fqOe46 fqOn46 fqXe46 fqXn46 fqFm63 fqFi63 fqFm129 fqFi129 fqFm207 fqFi207 fqFm270 fqFi270 fqFm271 fqFi271 fqFm272 fqFi272 fqFm318 fqFm319 fqFi319 fqFm320 fqFi320 fqFm350 ev_eqlS ev_neqS fqFm208 fqFi208 fqFm274 fqFi274 fqFm322 fqFi322 ev_lssS ev_gtrS
attribute [local simp] cStr strDec
def nameB (s : ByteArray) : Bool := !decide (s = ⟨#[]⟩) && (decide (s.size ≤ 14) && (!decide (s = ⟨#[46]⟩) && (!decide (s = ⟨#[46, 46]⟩) && (decide (ixB s 0 < 0) && decide (ixB s 47 < 0)))))
theorem nm208 : PureOk Tryz.prog 208 (argM cStr fun s => finM (some (.v (.bool (nameB s))))) := by
 refine pure1 Tryz.func208 rfl ?_
 rintro s r hr
 simp only [Option.some.injEq] at hr
 subst hr
 refine body_gen (noOrc_ok.withP ix272) fqMix (by kernel_rfl) (by simp [Tryz.ntmps208]) ?_
 intro C cP cI cN cD cF cA cR cL
 replace cI : C.inl = fun _ => false := cI
 replace cR : C.rd = fun _ => none := cR
 replace cD : C.dyn = fun _ => [] := cD
 have hP := orcP ix272 (C := C) (by rw [cP]; rfl)
 clear cP cN cF cA
 have hl := fun (b : ByteArray) => (ev_lenT (s := b) Tryz.underlying9)
 unfold nameB
 by_cases h1 : s = ⟨#[]⟩
 ·have h1' := eq_true h1
  simp [Tryz.ntmps208, Tryz.results208, cI, cD, cR, hP, hl, h1']
 have h1' := eq_false h1
 by_cases h2 : s.size ≤ 14
 case neg =>
  have h2' : ¬ (s.size : Int) ≤ 14 := by omega
  simp [Tryz.ntmps208, Tryz.results208, cI, cD, cR, hP, hl, h1', h2, h2']
 have h2' : (s.size : Int) ≤ 14 := by omega
 by_cases h3 : s = ⟨#[46]⟩
 ·have h3' := eq_true h3
  simp [Tryz.ntmps208, Tryz.results208, cI, cD, cR, hP, hl, h1', h2, h2', h3']
 have h3' := eq_false h3
 by_cases h4 : s = ⟨#[46, 46]⟩
 ·have h4' := eq_true h4
  simp [Tryz.ntmps208, Tryz.results208, cI, cD, cR, hP, hl, h1', h2, h2', h3', h4']
 have h4' := eq_false h4
 by_cases h5 : ixB s 0 < 0
 case neg => simp [Tryz.ntmps208, Tryz.results208, cI, cD, cR, hP, hl, h1', h2, h2', h3', h4', h5]
 simp [Tryz.ntmps208, Tryz.results208, cI, cD, cR, hP, hl, h1', h2, h2', h3', h4', h5]
theorem nn322 : PureOk Tryz.prog 322 (argM cStr fun _ => finM (some (.v (.bool false)))) := by
 refine pure1 Tryz.func322 rfl ?_
 rintro s r hr
 simp only [Option.some.injEq] at hr
 subst hr
 refine body_gen noOrc_ok fqMix (by kernel_rfl) (by simp [Tryz.ntmps322]) ?_
 intro C cP cI cN cD cF cA cR cL
 replace cI : C.inl = fun _ => false := cI
 replace cR : C.rd = fun _ => none := cR
 replace cD : C.dyn = fun _ => [] := cD
 clear cP cN cF cA
 simp [Tryz.ntmps322, Tryz.results322, cI, cD, cR]
def cmpB (a b : ByteArray) : Int := if Op.bytesLess a.toList b.toList = true then -1 else if a = b then 0 else 1
theorem cm274 : PureOk Tryz.prog 274 (argM cStr fun a => argM cStr fun b => finM (some (.v (.int .i64 (cmpB a b))))) := by
 refine pure2 Tryz.func274 rfl ?_
 rintro a b r hr
 simp only [Option.some.injEq] at hr
 subst hr
 refine body_gen (noOrc_ok.withP nn322) fqMix (by kernel_rfl) (by simp [Tryz.ntmps274]) ?_
 intro C cP cI cN cD cF cA cR cL
 replace cI : C.inl = fun _ => false := cI
 replace cR : C.rd = fun _ => none := cR
 replace cD : C.dyn = fun _ => [] := cD
 have hP := orcP nn322 (C := C) (by rw [cP]; rfl)
 clear cP cN cF cA
 unfold cmpB
 by_cases h1 : Op.bytesLess a.toList b.toList = true
 ·simp [Tryz.ntmps274, Tryz.results274, cI, cD, cR, hP, h1]
 ·by_cases h2 : a = b
  ·have h2' := eq_true h2
   simp [Tryz.ntmps274, Tryz.results274, cI, cD, cR, hP, h1, h2']
  ·simp [Tryz.ntmps274, Tryz.results274, cI, cD, cR, hP, h1, h2]
end Go.Proofs.GD
/- The way to a name, where nothing is found but a link of the name "l": plain theory. -/
namespace Go.Proofs.GD
set_option linter.unusedSectionVars false
variable [Go.AI.Sym]
open Go Go.AI Go.RowKit
def dotB : ByteArray := ⟨#[46]⟩
def dotsB : ByteArray := ⟨#[46, 46]⟩
def elB : ByteArray := ⟨#[108]⟩
def walkF (more : Option (List ByteArray)) : Nat → List ByteArray → Int
 | _, [] => 0
 | n, p :: l =>
  if p = dotB ∨ p = dotsB then walkF more n l
  else if p = elB ∧ more.isSome = true then
   match n with
   | 0 => 14
   | n + 1 => walkF more n ((more.getD []) ++ l)
  else if nameB p = true then 4 else 3
termination_by n l => (n, l.length)
def walkS (more : Option (List ByteArray)) (s : ByteArray) : Int :=
 match splitR s with
 | .v (.tuple #[_, _, .int _ e]) => if e = 0 then 0 else e
 | .tup _ => walkF more 8 (partsB s)
 | _ => 0
theorem walkF_nil {more : Option (List ByteArray)} {n : Nat} : walkF more n [] = 0 := by rw [walkF.eq_def]
theorem walkF_dot {more : Option (List ByteArray)} {n : Nat} {p : ByteArray} {l : List ByteArray} (h : p = dotB ∨ p = dotsB) : walkF more n (p :: l) = walkF more n l := by
 rw [walkF.eq_def]
 exact if_pos h
theorem walkF_no {more : Option (List ByteArray)} {n : Nat} {p : ByteArray} {l : List ByteArray} (h : ¬ (p = dotB ∨ p = dotsB)) (h2 : ¬ (p = elB ∧ more.isSome = true)) : walkF more n (p :: l) = if nameB p = true then 4 else 3 := by
 rw [walkF.eq_def]
 exact (if_neg h).trans (if_neg h2)
theorem walkF_out {more : List ByteArray} {p : ByteArray} {l : List ByteArray} (h : ¬ (p = dotB ∨ p = dotsB)) (h2 : p = elB) : walkF (some more) 0 (p :: l) = 14 := by
 rw [walkF.eq_def]
 exact (if_neg h).trans (if_pos ⟨h2, rfl⟩)
theorem walkF_link {more : List ByteArray} {n : Nat} {p : ByteArray} {l : List ByteArray} (h : ¬ (p = dotB ∨ p = dotsB)) (h2 : p = elB) : walkF (some more) (n + 1) (p :: l) = walkF (some more) n (more ++ l) := by
 rw [walkF.eq_def]
 exact (if_neg h).trans (if_pos ⟨h2, rfl⟩)
end Go.Proofs.GD
/- slices.Clone of strings. -/
namespace Go.Proofs.GD
set_option linter.unusedSectionVars false
variable [Go.AI.Sym]
open Go Go.AI Go.RowKit
set_option maxHeartbeats 2000000
set_option maxRecDepth 100000
set_option linter.unusedSimpArgs false
set_option linter.unusedVariables false
attribute [local simp] wpA wpX RunA RunD runF foot footP footB idsA bare apart runL step1 gsel_f gsel_t gsel_s res_same res_and1 res_and2 res_and3 res_and4 res_and5 res_and6 res_false res_true res_v res_ptr res_fptr res_osl res_xsl soft aAppendZ aCap ovlI ovlJ res_fsl res_esl res_agg res_tup res_fn res_junk res_anyb aPick hk imp_left iteV dstOk guardOk astep astepE AI.ev AI.look AI.put envOf aBox cellsOf allOne allOneA oneA Value.oneCell' Value.cells newObj' aFieldAddr aLoad obj readAt thenA blockA condA retA resA tupA view hot hotC hotR depthV cAgg cInt cBool mkAgg allV aAlloc aBuild fillA writeAt aStore isAggA aField idx aIndexAddr aIndex bnd aSlice aExtract aLen aBuiltin aCall isStatic eqAgg eqTy eqC ev_add ev_sub ev_mul ev_quo ev_rem ev_and ev_or ev_xor ev_andNot ev_shl ev_shr ev_eql ev_neq ev_lss ev_leq ev_gtr ev_geq ev_agg w64 wu32 wu8 ev_not ev_neg Cod.plain RCod.plain argM finM cold coldC coldR goInt intDec boolDec aggDec Weaker heapW lowA lowC Again slDec undef aBuildSlice setRows aAppend rowsOf aMakeSlice aClear aCopy softer_self softer_nil valsOf ev_min2 ev_max2 hotR_set hotR_append take_map_set irow_cold irow_mapM irow_mapMc irow_view irow_viewc irow_hotR irow_ren irow_renc irow_low WeakT heapT thOf ren renC AgainT NextF NextT fnDec cFn rNil selfLt natLt0 natLt1 getLastMap frame0 frame1 own0 own1 argG finG tau tauI tauO tauC bareA bareC bareH irow_tau irow_tauc irow_bare irow_flat irow_bareR ownA_nil ownT_nil ownA_c ownT_c ownA_s ownT_s takeMapLen footC plainA noId noIdC cloneF frame0F frame1F insertF replaceI replaceF cellDec rCell fpDec cFp rTwo deleteF allV_oA oneA_oA res_oA RunR RunE runFT footAt hotR_cat tmodN aEqH aSliceA frameN newA newC newH fqSz3 fqBy3 fqAg3 fqZe3 fqSl3 fqAr3 fqPl3 fqSz4 fqBy4 fqAg4 fqZe4 fqSl4 fqAr4 fqPl4 fqSz5 fqBy5 fqAg5 fqZe5 fqSl5 fqAr5 fqPl5 fqSz27 fqBy27 fqAg27 fqZe27 fqSl27 fqAr27 fqPl27 fqSz28 fqBy28 fqAg28 fqZe28 fqSl28 fqAr28 fqPl28 fqSz39 fqBy39 fqAg39 fqZe39 fqSl39 fqAr39 fqPl39 fqCv3x5 fqCv5x3 fqEb4 fqNb4 fqLn28 fqNe28 fqNn28 fqOe28 fqOn28 fqXe28 fqXn28 fqLn39 fqNe39 fqNn39 fqOe39 fqOn39 fqXe39 fqXn39 fqFm13 fqFi13 fqSz9 fqBy9 fqAg9 fqZe9 fqSl9 fqAr9 fqPl9 fqSz46 fqBy46 fqAg46 fqZe46 fqSl46 fqAr46 fqPl46 fqLt9 fqLn46 fqNe46 fqNn46 fqOe46 fqOn46 fqXe46 fqXn46 fqFm63 fqFi63 fqFm129 fqFi129 fqFm207 fqFi207 fqFm270 fqFi270 fqFm271 fqFi271 fqFm272 fqFi272 fqFm318 fqFm319 fqFi319 fqFm320 fqFi320 fqFm350 ev_eqlS ev_neqS
theorem cloneS : InlOk Tryz.prog 338 (cloneI 1) := by
 refine inl_soft Tryz.func338 rfl ?_
 intro args H r H' hr
 rcases cloneI_some hr with ⟨o, rows, rfl, hl, hc⟩ | ⟨id, st, k, kc, rows, rfl, hob, hle, hl, hc⟩ | ⟨rfl, rfl, rfl⟩
 ·refine ⟨by simp [Tryz.ntmps338], wpA_sound noOrc_ok fqMix _ _ _ _ (by kernel_rfl) ?_⟩
  rcases hc with ⟨rfl, rfl, rfl⟩ | ⟨h0, rfl, rfl⟩
  ·simp [Tryz.ntmps338, Tryz.results338, noOrc]
  ·simp [Tryz.ntmps338, Tryz.results338, h0, hl, noOrc]
 ·refine ⟨by simp [Tryz.ntmps338], wpA_sound noOrc_ok fqMix _ _ _ _ (by kernel_rfl) ?_⟩
  have hob' := obj_get hob
  have e1 : min k (rows.length - st) = k := by omega
  have e2 : st + k ≤ rows.length := hle
  have e3 : st ≤ rows.length := by omega
  rcases hc with ⟨rfl, rfl, rfl⟩ | ⟨h0, rfl, rfl⟩
  ·simp [Tryz.ntmps338, Tryz.results338, noOrc, hob', e2, e3]
  ·simp [Tryz.ntmps338, Tryz.results338, hl, noOrc, hob', e1, e2, h0]
 ·refine ⟨by simp [Tryz.ntmps338], wpA_sound noOrc_ok fqMix _ _ _ _ (by kernel_rfl) ?_⟩
  simp [Tryz.ntmps338, Tryz.results338, noOrc]
end Go.Proofs.GD
