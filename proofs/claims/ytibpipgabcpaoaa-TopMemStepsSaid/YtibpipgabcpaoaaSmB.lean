/- Package space: states alike. Package space: fetch. Package space: Load, Read. Package space: states behind add, and behind a map's update. Package space: Map. Package space: Put. Package space: Protect. -/
import Derived.Test.YtibpipgabcpaoaaSmA
namespace Go.Proofs.Ytibpipgabcpaoaa
open Go.AI
set_option linter.unusedSimpArgs false
set_option linter.unusedVariables false
section
structure Like (L L' : Lo) : Prop where
 fr : L'.fr = L.fr
 sl : L'.sl = L.sl
 lid : L'.lid = L.lid
 sid : L'.sid = L.sid
 keys : L'.pgs.map (·.1) = L.pgs.map (·.1)
 dt : ∀ p q, getK p L.pgs = some q → ∃ q', getK p L'.pgs = some q' ∧ q'.data = q.data ∧ q'.users = q.users
theorem Like.refl (L : Lo) : Like L L := ⟨rfl, rfl, rfl, rfl, rfl, fun p q h => ⟨q, h, rfl, rfl⟩⟩
theorem Like.trans {L L' L'' : Lo} (a : Like L L') (b : Like L' L'') : Like L L'' :=
 ⟨b.fr.trans a.fr, b.sl.trans a.sl, b.lid.trans a.lid, b.sid.trans a.sid, b.keys.trans a.keys, fun p q h => by
  obtain ⟨q', h1, h2, h3⟩ := a.dt p q h
  obtain ⟨q'', k1, k2, k3⟩ := b.dt p q' h1
  exact ⟨q'', k1, k2.trans h2, k3.trans h3⟩⟩
theorem Like.setP {L : Lo} {p : Nat} {q q' : Pg} (h : getK p L.pgs = some q) (hd : q'.data = q.data) (hu : q'.users = q.users) : Like L (L.setP p q') := by
 refine ⟨rfl, rfl, rfl, rfl, setK_keys _, fun r x hx => ?_⟩
 simp only [Lo.setP, getK_setK]
 by_cases e : r = p
 ·subst e
  rw [h] at hx
  cases hx
  rw [if_pos rfl, h]
  exact ⟨_, rfl, hd, hu⟩
 ·rw [if_neg e]; exact ⟨x, hx, rfl, rfl⟩
theorem Like.tick (L : Lo) : Like L L.tick := ⟨rfl, rfl, rfl, rfl, rfl, fun p q h => ⟨q, h, rfl, rfl⟩⟩
theorem Like.out (L : Lo) : Like L L.out := by
 unfold Lo.out
 split
 ·split
  ·rename_i h; exact Like.setP h rfl rfl
  ·exact Like.refl _
 ·exact Like.refl _
theorem Like.ask {L : Lo} {p : Nat} {q : Pg} (h : getK p L.pgs = some q) : Like L (L.ask p q) := by
 unfold Lo.ask
 simp only
 have a := (Like.tick L).trans (Like.setP (L := L.tick) (p := p) (q := q) (q' := { q with asked := IntKind.i64.wrap (L.ck + 1) }) h rfl rfl)
 have h2 : getK p (L.tick.setP p { q with asked := IntKind.i64.wrap (L.ck + 1) }).pgs = some { q with asked := IntKind.i64.wrap (L.ck + 1) } := by
  simp only [Lo.setP, getK_setK, if_true]
  rw [show getK p L.tick.pgs = some q from h]; rfl
 split
 ·exact a
 ·split
  ·have b := Like.out (L.tick.setP p { q with asked := IntKind.i64.wrap (L.ck + 1) })
   obtain ⟨q', k1, k2, k3⟩ := b.dt p _ h2
   exact (a.trans b).trans (Like.setP k1 k2.symm k3.symm)
  ·exact a.trans (Like.setP h2 rfl rfl)
theorem Like.wf {mid : Nat} {L L' : Lo} (a : Like L L') (w : Wf mid L) : Wf mid L' := by
 have hl : L'.pgs.length = L.pgs.length := by have := congrArg List.length a.keys; simpa using this
 refine ⟨fun e => ?_, by rw [a.keys]; exact w.nd, fun x hx => ?_, by rw [a.keys]; exact w.hm, fun l hl => by rw [a.keys]; exact w.hl l (a.lid ▸ hl), by rw [hl, a.fr, a.sl]; exact w.le⟩
 ·have := w.nil (a.lid ▸ e)
  rw [this] at hl
  exact List.length_eq_zero_iff.1 hl
 ·have hn : (L'.pgs.map (·.1)).Nodup := by rw [a.keys]; exact w.nd
  have hg := getK_of hn hx
  have hm : x.1 ∈ L.pgs.map (·.1) := by rw [← a.keys]; exact List.mem_map.2 ⟨x, hx, rfl⟩
  cases e : getK x.1 L.pgs with
  | none => exact absurd hm (getK_none.1 e)
  | some q =>
   obtain ⟨q', k1, k2, _⟩ := a.dt _ _ e
   rw [hg] at k1
   cases k1
   rw [k2]
   exact w.d _ (getK_mem e)
theorem getK_isSome {α β γ : Type} [DecidableEq α] {a : List (α × β)} {b : List (α × γ)} (h : a.map (·.1) = b.map (·.1)) (k : α) : (getK k a).isSome = (getK k b).isSome := by
 cases e : getK k a with
 | none =>
  have := getK_none.1 e
  rw [h] at this
  rw [getK_none.2 this]; rfl
 | some x =>
  cases e2 : getK k b with
  | none =>
   have := getK_none.1 e2
   rw [← h] at this
   rw [getK_none.2 this] at e; cases e
  | some y => rfl
theorem Like.cell {L L' : Lo} (a : Like L L') (mid i : Nat) : (L'.cell mid i).isSome = (L.cell mid i).isSome := by
 unfold Lo.cell
 rw [a.lid]
 split
 ·rfl
 ·split
  ·rfl
  ·rw [Option.isSome_map, Option.isSome_map]; exact getK_isSome a.keys i
theorem St.like {H : Heap} {mid : Nat} {L L' : Lo} (s : St H mid L) (a : Like L L') : St (wr H mid L') mid L' :=
 St.ofwr (a.wf s.wf) fun i x hx => by
  have := a.cell mid i
  rw [hx] at this
  obtain ⟨y, hy⟩ := Option.isSome_iff_exists.1 this.symm
  exact s.lt hy
theorem Like.none {L L' : Lo} (a : Like L L') {mid i : Nat} (h : L.cell mid i = none) : L'.cell mid i = none := by
 have := a.cell mid i
 rw [h] at this
 cases e : L'.cell mid i with
 | none => rfl
 | some x => rw [e] at this; cases this
theorem wr_wr {H : Heap} {mid : Nat} {L L' : Lo} (a : Like L L') : wr (wr H mid L) mid L' = wr H mid L' := by
 apply List.ext_getElem?
 intro i
 rw [wr_get (H := wr H mid L), wr_get (H := H) (L := L'), wr_len]
 cases h : L'.cell mid i with
 | some x => rfl
 | none =>
  simp only
  rw [wr_ne]
  have := a.cell mid i
  rw [h] at this
  cases e : L.cell mid i with
  | none => rfl
  | some x => rw [e] at this; cases this
theorem wr_app {H K : Heap} {mid : Nat} {L : Lo} (h : ∀ i x, L.cell mid i = some x → i < H.length) : wr (H ++ K) mid L = wr H mid L ++ K := by
 apply List.ext_getElem?
 intro i
 rw [List.getElem?_append (l₁ := wr H mid L), wr_len, wr_get (H := H ++ K), wr_get (H := H)]
 cases e : L.cell mid i with
 | none =>
  simp only
  rw [List.getElem?_append]
 | some x =>
  have := h i x e
  simp [this, Nat.lt_of_lt_of_le this (Nat.le_add_right _ _)]
theorem Like.lt {H : Heap} {mid : Nat} {L L' : Lo} (a : Like L L') (s : St H mid L) : ∀ i x, L'.cell mid i = some x → i < H.length := fun i x hx => by
 have := a.cell mid i
 rw [hx] at this
 obtain ⟨y, hy⟩ := Option.isSome_iff_exists.1 this.symm
 exact s.lt hy
theorem Rep.freeS {H : Heap} {mid : Nat} {A : Ab} (r : Rep H mid A) : A.lo.cell mid A.lo.sid = none := r.st.free r.sp (fun e => by cases e) (fun e => by cases e) (fun e => by cases e)
theorem Rep.freeE {H : Heap} {mid : Nat} {A : Ab} (r : Rep H mid A) {x : Int × (Nat × En)} (hx : x ∈ A.sps) : A.lo.cell mid x.2.1 = none := r.st.free (r.en x hx) (fun e => by cases e) (fun e => by cases e) (fun e => by cases e)
theorem Rep.like {H : Heap} {mid : Nat} {A : Ab} (r : Rep H mid A) {L' : Lo} (a : Like A.lo L') : Rep (wr H mid L') mid { A with lo := L' } := by
 refine ⟨r.st.like a, ?_, fun x hx => ?_, r.nds, ?_, r.ndk⟩
 ·simp only
  rw [a.sid, wr_ne (a.none r.freeS)]
  exact r.sp
 ·simp only at hx ⊢
  rw [wr_ne (a.none (r.freeE hx))]
  exact r.en x hx
 ·simp only
  rw [a.sid]
  exact r.ndm
theorem Rep.app {H K : Heap} {mid : Nat} {A : Ab} (r : Rep H mid A) : Rep (H ++ K) mid A := by
 refine ⟨r.st.app, ?_, fun x hx => ?_, r.nds, r.ndm, r.ndk⟩
 ·rw [List.getElem?_append_left (List.getElem?_eq_some_iff.1 r.sp).1]; exact r.sp
 ·rw [List.getElem?_append_left (List.getElem?_eq_some_iff.1 (r.en x hx)).1]; exact r.en x hx
end
section
set_option maxHeartbeats 2000000
set_option maxRecDepth 100000
set_option linter.unusedSimpArgs false
set_option linter.unusedVariables false
attribute [local simp] wpA wpX RunA RunD runF foot footP footB idsA bare apart runL step1 gsel_f gsel_t gsel_s res_same res_and1 res_and2 res_and3 res_and4 res_and5 res_and6 res_false res_true res_v res_ptr res_fptr res_osl res_xsl soft aAppendZ aCap ovlI ovlJ res_fsl res_esl res_agg res_tup res_fn res_junk res_anyb aPick hk imp_left iteV dstOk guardOk astep astepE AI.ev AI.look AI.put envOf aBox cellsOf allOne allOneA oneA Value.oneCell' Value.cells newObj' aFieldAddr aLoad obj readAt thenA blockA condA retA resA tupA view hot hotC hotR depthV cAgg cInt cBool mkAgg allV aAlloc aBuild fillA writeAt aStore isAggA aField idx aIndexAddr aIndex bnd aSlice aExtract aLen aBuiltin aCall isStatic eqAgg eqTy eqC ev_add ev_sub ev_mul ev_quo ev_rem ev_and ev_or ev_xor ev_andNot ev_shl ev_shr ev_eql ev_neq ev_lss ev_leq ev_gtr ev_geq ev_agg w64 wu32 wu8 ev_not ev_neg Cod.plain RCod.plain argM finM cold coldC coldR goInt intDec boolDec aggDec Weaker heapW lowA lowC Again slDec undef aBuildSlice setRows aAppend rowsOf aMakeSlice aClear aCopyX aCopy softer_self softer_nil valsOf ev_min2 ev_max2 hotR_set hotR_append take_map_set irow_cold irow_mapM irow_mapMc irow_view irow_viewc irow_hotR irow_ren irow_renc irow_low WeakT heapT thOf ren renC AgainT NextF NextT fnDec cFn rNil selfLt natLt0 natLt1 getLastMap frame0 frame1 own0 own1 argG finG tau tauI tauO tauC bareA bareC bareH irow_tau irow_tauc irow_bare irow_flat irow_bareR ownA_nil ownT_nil ownA_c ownT_c ownA_s ownT_s takeMapLen footC plainA noId noIdC cloneF frame0F frame1F insertF replaceI replaceF cellDec rCell fpDec cFp rTwo deleteF allV_oA oneA_oA res_oA RunR RunE runFT footAt hotR_cat tmodN aEqH aSliceA fxSz3 fxBy3 fxAg3 fxZe3 fxSl3 fxSz4 fxAg4 fxSz5 fxBy5 fxAg5 fxZe5 fxSl22 fxAr22 fxSl23 fxAr23 fxAg24 fxSz31 fxAg31 fxZe31 fxSl31 fxAr31 fxSz34 fxAg34 fxAr35 fxSz37 fxAg37 fxZe37 fxFi37x0 fxFi37x1 fxFi37x2 fxPl37 fxSz38 fxAg38 fxZe38 fxAr38 fxSz47 fxAg47 fxZe47 fxFi47x0 fxPl47 fxZe51 fxFi51x0 fxFi51x1 fxPl51 fxAg55 fxSz56 fxAg56 fxSl56 fxAr56 fxZe58 fxFi58x0 fxFi58x1 fxFi58x2 fxFi58x3 fxFi58x4 fxPl58 fxSz62 fxAg62 fxZe62 fxFi62x0 fxFi62x1 fxFi62x2 fxFi62x3 fxPl62 fxZe65 fxSl67 fxAr67 fxSz72 fxAg72 fxZe72 fxSl72 fxAr72 fxPl72 fxSz74 fxZe74 fxFi74x0 fxFi74x1 fxFi74x2 fxFi74x3 fxPl74 fxSz75 fxBy75 fxAg75 fxZe75 fxSz79 fxAg79 fxZe79 fxFi79x0 fxFi79x1 fxPl79 fxEq47 fxCv3x5 fxCv3x34 fxCv3x70 fxCv3x100 fxCv5x34 fxCv34x3 fxCv34x5 fxCv34x112 fxCv70x3 fxCv100x34 fxCv112x3 fxLn31 fxLn56 fxFm4 fxFm5 fxFi5 fxFm6 fxFm7 fxFm8 fxFm9 fxFi9 fxFm10 fxFm11 fxFm12 fxFm13 fxFm14 fxFm15 fxFm16 fxFm17 fxFi17 fxFm18 fxFm19 fxFi19 fxFm20 fxFm21 fxFm22 fxFm23 fxFm24 fxFi24 fxFm25 fxFi25 fxFm26 fxFm27 fxFm28 fxFi28 fxFm29 fxFm30 fxFm31 fxFm32 fxFm33 fxFi33 fxFm34 fxFi34 fxFm35 fxFm36 fxFm37 fxFm38 fxFm39 fxFi39 fxFm40 fxFi40 fxFm41 fxFi41 fxFm42 fxFm45 fxFi45 fxFm46 fxFi46 fxFm47 fxFm48 fxFm49 fxFi49 fxFm50 fxFm51 fxFm52 fxFi52 fxFm64 fxFi64 fxFm87 fxFm88 fxFm89
section
attribute [local simp] pgRow_len pg16 pg17 pg18 pg16' pg17' pg18' ww16 ww17 ww18 keyI_ok aLookup aMapUpdate aDelete lkRes bin_mn spV enV Try.underlying65 Try.underlying55
def askK (es : En) (k : Int) (L : Lo) : Lo := match getK k es with
 | some x => match getK x.1 L.pgs with
  | some q => L.ask x.1 q
  | none => L
 | none => L
theorem Like.askK (es : En) (k : Int) (L : Lo) : Like L (askK es k L) := by
 unfold Go.Proofs.Ytibpipgabcpaoaa.askK
 split
 ·split
  ·exact Like.ask (by assumption)
  ·exact Like.refl _
 ·exact Like.refl _
def fetchL (es : En) (L : Lo) (addr : Int) : Nat → Lo
 | 0 => L
 | m + 1 => askK es ((addr + m) / 16) (fetchL es L addr m)
theorem Like.fetch (es : En) (L : Lo) (addr : Int) : ∀ m, Like L (fetchL es L addr m)
 | 0 => Like.refl _
 | m + 1 => (Like.fetch es L addr m).trans (Like.askK _ _ _)
def byteK (es : En) (L : Lo) (i : Int) : Int := match getK (i / 16) es with
 | some x => match getK x.1 L.pgs with
  | some q => (q.data[(i % 16).toNat]?).getD 0
  | none => 0
 | none => 0
def fetchB (es : En) (L : Lo) (addr : Int) (n : Nat) : List Int := (List.range n).map fun j => byteK es L (addr + (j : Nat))
def yRow (d : List Int) : List Row := d.map fun b => [.v (.int .u8 b)]
def outV (n : Nat) : Nat → AVal
 | 0 => .v (.slice none 0 0)
 | i + 1 => .osl (n + (2 * i + 1)) 1 0 (i + 1) (i + 1)
def outK (d : List Int) : Nat → Heap
 | 0 => []
 | i + 1 => List.replicate (2 * i + 1) none ++ [some (1, yRow d)]
noncomputable def fetchM : Row → Heap → Option (AVal × Heap)
 | [.ptr mid 5 0 0, .v (.int .i64 s), .v (.int .i64 addr), .v (.int .i64 n)], H => (repAt H mid).bind fun A => (getK s A.sps).bind fun x => @ite _ (spanK x.2 addr n) (Classical.propDecidable _) (some (outV H.length n.toNat, wr H mid (fetchL x.2 A.lo addr n.toNat) ++ outK (fetchB x.2 A.lo addr n.toNat) n.toNat)) none
 | _, _ => none
theorem fetchB_len (es : En) (L : Lo) (addr : Int) (n : Nat) : (fetchB es L addr n).length = n := by simp [fetchB]
theorem fetchB_next (es : En) (L : Lo) (addr : Int) (n : Nat) : fetchB es L addr (n + 1) = fetchB es L addr n ++ [byteK es L (addr + (n : Nat))] := by
 unfold fetchB
 rw [List.range_succ, List.map_append]; rfl
theorem Ent.killAt {n0 : Nat} {ρ : Env} {H K M : Heap} {o : Option (Nat × List Row)} : Ent n0 (ρ, H ++ (K ++ none :: M)) (ρ, H ++ (K ++ o :: M)) := by
 have k := Ent.kill (n0 := n0) (ρ := ρ) (H := H ++ (K ++ o :: M)) (H.length + K.length)
 rw [List.set_append_right _ _ (by omega), Nat.add_sub_cancel_left, List.set_append_right _ _ (Nat.le_refl _), Nat.sub_self, List.set_cons_zero] at k
 exact k
theorem res_outV {b : Bool} {n j : Nat} : res b (outV n j) = outV n j := by cases j <;> rfl
attribute [local simp] res_outV
theorem fetch_inl : InlOk Try.prog 51 fetchM := by
 refine inl_canonE Try.func51 rfl fun args H r H' hr => ⟨args, canon_refl args, ?_⟩
 unfold fetchM at hr
 split at hr
 case h_2 => cases hr
 rename_i mid s addr n
 simp only [Option.bind_eq_some_iff, Option.map_eq_some_iff] at hr
 obtain ⟨A, hA, ⟨mp, es⟩, hg, hr⟩ := hr
 split at hr
 case isFalse => cases hr
 rename_i hsk
 simp only [Option.some.injEq, Prod.mk.injEq] at hr
 obtain ⟨rfl, rfl⟩ := hr
 obtain ⟨rp, gd⟩ := repAt_iff.1 hA
 refine bodyE_of (noOrc_ok.withI ask_inl) fxMix (by kernel_rfl) (by simp [Try.ntmps51]) ?_
 intro C cP cI cN cD cF cA cR cL
 have cn0 := orcI ask_inl (C := C) (by rw [cN]; rfl)
 replace cI := fun g => congrFun cI g
 simp only [Orc.withP, Orc.withI, Orc.withF, Orc.withD, Orc.withA, Orc.withR, Orc.withC, noOrc] at cI
 replace cR : C.rd = fun _ => none := cR
 replace cD : C.dyn = fun _ => [] := cD
 clear cP cN cF cA
 rcases hsk with ⟨rfl, hwa⟩ | ⟨k1, k2, k3, k4, k5⟩
 ·have hs := rp.st.wr_self
  simp only [Int.toNat_zero, fetchL, outV, outK, List.append_nil, hs]
  simp [Try.ntmps51, Try.results51, cSl, cn0, cI, cD, cR]
  refine loop_rounds 1 ?_
  simp [Try.ntmps51, Try.results51, cSl, cn0, cI, cD, cR, UnrK, hwa]
  exact Ent.refl _ _
 ·obtain ⟨N, rfl⟩ := Int.eq_ofNat_of_zero_le (show 0 ≤ n by omega)
  simp only [Int.toNat_natCast]
  have hw2 : IntKind.i64.wrap (addr + N) = addr + N := w64 (by omega) (by omega)
  simp [Try.ntmps51, Try.results51, cSl, cn0, cI, cD, cR]
  refine loop_forE N (fun j (_ : Unit) => ([(0, .ptr mid 5 0 0), (1, .v (.int .i64 s)), (2, .v (.int .i64 addr)), (3, .v (.int .i64 N)), (9, outV H.length j), (10, .v (.int .i64 (addr + (j : Nat))))], wr H mid (fetchL es A.lo addr j) ++ outK (fetchB es A.lo addr j) j)) (fun k _ => True) () (fun k _ hk _ => by omega) trivial ?_ ?_ ?_
  ·have hs := rp.st.wr_self
   simp only [fetchL, outV, outK, List.append_nil, hs]
   exact Ent.env (by simp)
  ·rintro j _ hj _ hw
   have lk := Like.fetch es A.lo addr j
   have lk' := Like.fetch es A.lo addr (j + 1)
   have rB := rp.like lk
   have stB := rB.st
   have hBl : (wr H mid (fetchL es A.lo addr j)).length = H.length := wr_len
   have hBl' : (wr H mid (fetchL es A.lo addr (j + 1))).length = H.length := wr_len
   have hkk : (addr + j) / 16 ≤ (addr + N - 1) / 16 := by omega
   obtain ⟨k, hk⟩ := Int.eq_ofNat_of_zero_le (show 0 ≤ (addr + j) / 16 by omega)
   have hks := k5 k (by omega) (by omega)
   obtain ⟨⟨p, rg⟩, hke⟩ := Option.isSome_iff_exists.1 hks
   obtain ⟨q0, hq0⟩ := Good.page gd hg hke
   obtain ⟨q, hq, hqd, _⟩ := lk.dt p q0 hq0
   have hst : stAt (wr H mid (fetchL es A.lo addr j)) mid = some (fetchL es A.lo addr j) := stAt_iff.2 stB
   have hnext : fetchL es A.lo addr (j + 1) = (fetchL es A.lo addr j).ask p q := by
    simp only [fetchL, askK, hk, hke, hq]
   have rB' := rp.like lk'
   obtain ⟨q', hq', hqd', _⟩ := lk'.dt p q0 hq0
   obtain ⟨hP', hd'⟩ := rB'.st.pg hq'
   have hask : ∀ K, askM [.ptr mid 5 0 0, .ptr p 19 0 0] (wr H mid (fetchL es A.lo addr j) ++ K) = some (.v (.tuple #[]), wr H mid (fetchL es A.lo addr (j + 1)) ++ K) := by
    intro K
    have h1 : stAt (wr H mid (fetchL es A.lo addr j) ++ K) mid = some (fetchL es A.lo addr j) := stAt_iff.2 stB.app
    simp only [askM, h1, Option.bind_some, hq, Option.map_some]
    rw [← hnext, wr_app (by rw [hBl]; exact lk'.lt rp.st), wr_wr (by rw [hnext]; exact Like.ask hq)]
   have hask0 := hask []
   rw [List.append_nil, List.append_nil] at hask0
   have hM := rB.st.mem
   have hS := rB.sp
   have hf := rB.find s
   obtain ⟨hE, _, hfe⟩ := rB.findE hg (k : Int)
   have hml : mid < H.length := rp.st.lt cell_m
   have hsl := (List.getElem?_eq_some_iff.1 hS).1
   have hel := (List.getElem?_eq_some_iff.1 hE).1
   have hpl : p < H.length := by have := (List.getElem?_eq_some_iff.1 hP').1; omega
   rw [hBl] at hsl hel
   simp only [Lo.row] at hM
   simp only at hS hf hsl
   have hd1 : Int.tdiv (addr + j) 16 = k := by rw [Int.tdiv_eq_ediv_of_nonneg (by omega), hk]
   have hm1 : Int.tmod (addr + j) 16 = (addr + j) % 16 := Int.tmod_eq_emod_of_nonneg (by omega)
   obtain ⟨t, ht⟩ := Int.eq_ofNat_of_zero_le (show 0 ≤ (addr + j) % 16 by omega)
   have ht16 : t < 16 := by omega
   have ht17 : (t : Int) < 16 := by omega
   have hwk : IntKind.i64.wrap (k : Int) = k := w64 (by omega) (by omega)
   have hby : byteK es A.lo (addr + (j : Nat)) = q0.data[t]'(by rw [← hqd', hd']; exact ht16) := by
    simp only [byteK, hk, hke, hq0, ht]
    simp [show t < q0.data.length by rw [← hqd', hd']; exact ht16]
   have hgb := pgRow_byte (q := q') (k := t) (by rw [hd']; exact ht16)
   simp only [hqd', ← hby] at hgb
   have hlt : addr + (j : Int) < addr + N := by omega
   have hwj : IntKind.i64.wrap (addr + j + 1) = addr + j + 1 := w64 (by omega) (by omega)
   have hfb := fetchB_next es A.lo addr j
   have hbl := fetchB_len es A.lo addr j
   obtain ⟨b, hb⟩ : ∃ x, byteK es A.lo (addr + (j : Nat)) = x := ⟨_, rfl⟩
   obtain ⟨d, hd⟩ : ∃ x, fetchB es A.lo addr j = x := ⟨_, rfl⟩
   obtain ⟨B, hB⟩ : ∃ x, wr H mid (fetchL es A.lo addr j) = x := ⟨_, rfl⟩
   obtain ⟨B', hB'⟩ : ∃ x, wr H mid (fetchL es A.lo addr (j + 1)) = x := ⟨_, rfl⟩
   rw [hb, hd] at hfb
   rw [hb] at hgb
   rw [hB] at hM hS hE hBl hask0
   rw [hB'] at hP' hBl' hask0
   simp only [hB, hB'] at hask
   rw [hd] at hbl
   have hP2 := (List.getElem?_eq_some_iff.1 hP').2
   have gM := (List.getElem?_eq_some_iff.1 hM).2
   have gS := (List.getElem?_eq_some_iff.1 hS).2
   have gE := (List.getElem?_eq_some_iff.1 hE).2
   have gb' := (List.getElem?_eq_some_iff.1 hgb).2
   cases j with
   | zero =>
    simp only [hB, outV, outK, List.append_nil]
    simp at hk hd1 hm1 ht hlt hwj
    simp [Try.ntmps51, Try.results51, cSl, cn0, cI, cD, cR, hw2, hM, hS, hf, hg, hE, hfe, hke, hml, hsl, hel, hk, hd1, hm1, ht, hlt, hwj, hwk, hask0, hBl, hBl', hP', hP2, hpl, hd', hgb, gb', gM, gS, gE, ht16, ht17, List.getElem?_append, List.set_append]
    refine ⟨(), trivial, ?_⟩
    have hd0 : d = [] := by rw [← hd]; rfl
    subst hd0
    simp only [hB', hfb]
    refine Ent.trans ?_ (Ent.killAt (K := []))
    exact Ent.env (by simp)
   | succ i =>
    simp only [hB, hd, outV, outK]
    have hyl : (yRow d).length = i + 1 := by simp [yRow, hbl]
    have hni : ¬ i + 1 + 1 ≤ i + 1 := by omega
    have hni2 : i + 1 + 1 ≤ 4294967296 := by omega
    simp only [Int.natCast_add, Int.natCast_one] at hk hd1 hm1 ht hlt hwj
    simp [Try.ntmps51, Try.results51, cSl, cn0, cI, cD, cR, hw2, hM, hS, hf, hg, hE, hfe, hke, hml, hsl, hel, hk, hd1, hm1, ht, hlt, hwj, hwk, hask, hBl, hBl', hP', hP2, hpl, hd', hgb, gb', gM, gS, gE, ht16, ht17, hyl, hni, hni2, List.getElem?_append, List.set_append]
    refine ⟨(), trivial, ?_⟩
    simp only [hB', hfb]
    have ek : Ent H.length ([(0, .ptr mid 5 0 0), (1, .v (.int .i64 s)), (2, .v (.int .i64 addr)), (3, .v (.int .i64 N)), (9, AVal.osl (H.length + (2 * (i + 1) + 1)) 1 0 (i + 1 + 1) (i + 1 + 1)), (10, .v (.int .i64 (addr + ((i + 1 + 1 : Nat) : Int))))], B' ++ (List.replicate (2 * (i + 1) + 1) none ++ [some (1, yRow (d ++ [b]))])) ([(0, .ptr mid 5 0 0), (1, .v (.int .i64 s)), (2, .v (.int .i64 addr)), (3, .v (.int .i64 N)), (9, AVal.osl (H.length + (2 * (i + 1) + 1)) 1 0 (i + 1 + 1) (i + 1 + 1)), (10, .v (.int .i64 (addr + ((i + 1 + 1 : Nat) : Int))))], B' ++ (List.replicate (2 * i + 1) none ++ [none, some (1, [[AVal.v (.int .u8 b)]]), some (1, yRow d ++ [[AVal.v (.int .u8 b)]])])) := by
     have k := Ent.killAt (n0 := H.length) (ρ := [(0, .ptr mid 5 0 0), (1, .v (.int .i64 s)), (2, .v (.int .i64 addr)), (3, .v (.int .i64 N)), (9, AVal.osl (H.length + (2 * (i + 1) + 1)) 1 0 (i + 1 + 1) (i + 1 + 1)), (10, .v (.int .i64 (addr + ((i + 1 + 1 : Nat) : Int))))]) (H := B') (K := List.replicate (2 * i + 1) none ++ [none]) (M := [some (1, yRow d ++ [[AVal.v (.int .u8 b)]])]) (o := some (1, [[AVal.v (.int .u8 b)]]))
     have e1 : List.replicate (2 * (i + 1) + 1) (none : Option (Nat × List Row)) = List.replicate (2 * i + 1) none ++ [none, none] := by
      rw [show 2 * (i + 1) + 1 = (2 * i + 1) + 2 by omega, ← List.replicate_append_replicate]; rfl
     rw [e1]
     simpa [yRow] using k
    refine Ent.trans ek (Ent.env ?_)
    simp
    omega
  ·rintro _ _
   simp [Try.ntmps51, Try.results51, cSl, cn0, cI, cD, cR, hw2]
   exact Ent.refl _ _
end
section
attribute [local simp] pgRow_len pg16 pg17 pg18 pg16' pg17' pg18' ww16 ww17 ww18 keyI_ok aLookup aMapUpdate aDelete lkRes bin_mn spV enV Try.underlying65 Try.underlying55
attribute [local simp] res_outV
theorem mayB_all {es : En} {want : Int} : ∀ {m a : Nat}, mayB es want a m = true → ∀ j, a ≤ j → j < a + m → okE es want (j : Int) = true
 | 0, a, _, j, h1, h2 => by omega
 | m + 1, a, h, j, h1, h2 => by
  simp only [mayB, Bool.and_eq_true] at h
  by_cases e : j = a
  ·subst e; exact h.1
  ·exact mayB_all h.2 j (by omega) (by omega)
theorem okE_some {es : En} {want k : Int} (h : okE es want k = true) : (getK k es).isSome = true := by
 unfold okE at h
 split at h
 ·rename_i e; rw [e]; rfl
 ·cases h
theorem may_span {es : En} {want addr n : Int} (hn : 0 ≤ n ∧ n ≤ 256) (hw : IntKind.i64.wrap addr = addr) (h : (mayR es want addr n).1 = true) : spanK es addr n := by
 unfold mayR at h
 unfold spanK
 split at h
 ·exact .inl ⟨by assumption, hw⟩
 ·split at h
  ·cases h
  ·right
   refine ⟨by omega, by omega, by omega, by omega, fun j h1 h2 => okE_some (mayB_all h j (by omega) (by omega))⟩
def readR (H : Heap) (mid : Nat) (A : Ab) (s addr n : Int) : AVal × Heap := match getK s A.sps with
 | none => (.v (.tuple #[.slice none 0 0, .int .i64 4]), H)
 | some x => if n < 0 ∨ 256 < n then (.v (.tuple #[.slice none 0 0, .int .i64 1]), H) else
   if (mayR x.2 1 addr n).1 = true then (tupA [outV (H.length + (mayR x.2 1 addr n).2) n.toNat, .v (.int .i64 0)], wr (H ++ List.replicate (mayR x.2 1 addr n).2 none) mid (fetchL x.2 A.lo addr n.toNat) ++ outK (fetchB x.2 A.lo addr n.toNat) n.toNat)
   else (.v (.tuple #[.slice none 0 0, .int .i64 11]), H ++ List.replicate (mayR x.2 1 addr n).2 none)
noncomputable def readM : Row → Heap → Option (AVal × Heap)
 | [.ptr mid 5 0 0, .v (.int .i64 s), .v (.int .i64 addr), .v (.int .i64 n)], H => (repAt H mid).bind fun A => if IntKind.i64.wrap addr = addr then some (readR H mid A s addr n) else none
 | _, _ => none
theorem may_eval {H : Heap} {mid : Nat} {A : Ab} {s addr n want : Int} {x : Nat × En} (hA : repAt H mid = some A) (hg : getK s A.sps = some x) (hn : 0 ≤ n ∧ n ≤ 256) :
  mayM [.ptr mid 5 0 0, .v (.int .i64 s), .v (.int .i64 addr), .v (.int .i64 n), .v (.int .i64 want)] H = some (.v (.bool (mayR x.2 want addr n).1), H ++ List.replicate (mayR x.2 want addr n).2 none) := by
 simp only [mayM, hA, Option.bind_some, hg]
 rw [if_pos hn]
theorem rep_app {H K : Heap} {mid : Nat} {A : Ab} (h : repAt H mid = some A) : repAt (H ++ K) mid = some A := by
 obtain ⟨r, g⟩ := repAt_iff.1 h
 exact repAt_iff.2 ⟨r.app, g⟩
theorem fetch_eval {H : Heap} {mid : Nat} {A : Ab} {s addr n : Int} {x : Nat × En} (hA : repAt H mid = some A) (hg : getK s A.sps = some x) (hn : spanK x.2 addr n) :
  fetchM [.ptr mid 5 0 0, .v (.int .i64 s), .v (.int .i64 addr), .v (.int .i64 n)] H = some (outV H.length n.toNat, wr H mid (fetchL x.2 A.lo addr n.toNat) ++ outK (fetchB x.2 A.lo addr n.toNat) n.toNat) := by
 simp only [fetchM, hA, Option.bind_some, hg]
 rw [if_pos hn]
theorem read_inl : InlOk Try.prog 38 readM := by
 refine inl_canonE Try.func38 rfl fun args H r H' hr => ⟨args, canon_refl args, ?_⟩
 unfold readM at hr
 split at hr
 case h_2 => cases hr
 rename_i mid s addr n
 simp only [Option.bind_eq_some_iff, Option.map_eq_some_iff] at hr
 obtain ⟨A, hA, hr⟩ := hr
 split at hr
 case isFalse => cases hr
 rename_i hwa
 simp only [Option.some.injEq] at hr
 obtain ⟨rp, gd⟩ := repAt_iff.1 hA
 have hM := rp.st.mem
 have hS := rp.sp
 have hf := rp.find s
 simp only [Lo.row] at hM
 unfold readR at hr
 refine bodyE_of ((noOrc_ok.withI may_inl).withI fetch_inl) fxMix (by kernel_rfl) (by simp [Try.ntmps38]) ?_
 intro C cP cI cN cD cF cA cR cL
 have cn0 := orcI may_inl (C := C) (by rw [cN]; rfl)
 have cn1 := orcI fetch_inl (C := C) (by rw [cN]; rfl)
 replace cI := fun g => congrFun cI g
 simp only [Orc.withP, Orc.withI, Orc.withF, Orc.withD, Orc.withA, Orc.withR, Orc.withC, noOrc] at cI
 replace cR : C.rd = fun _ => none := cR
 replace cD : C.dyn = fun _ => [] := cD
 clear cP cN cF cA
 cases hg : getK s A.sps with
 | none =>
  simp only [hg, Prod.mk.injEq] at hr
  obtain ⟨rfl, rfl⟩ := hr
  simp [Try.ntmps38, Try.results38, cSl, cn0, cn1, cI, cD, cR, hM, hS, hf, hg]
  exact Ent.refl _ _
 | some x =>
  simp only [hg] at hr
  by_cases hb : n < 0 ∨ 256 < n
  ·rw [if_pos hb] at hr
   simp only [Prod.mk.injEq] at hr
   obtain ⟨rfl, rfl⟩ := hr
   by_cases h1 : n < 0
   ·simp [Try.ntmps38, Try.results38, cSl, cn0, cn1, cI, cD, cR, hM, hS, hf, hg, h1]
    exact Ent.refl _ _
   ·have h2 : 256 < n := by omega
    simp [Try.ntmps38, Try.results38, cSl, cn0, cn1, cI, cD, cR, hM, hS, hf, hg, h1, h2]
    exact Ent.refl _ _
  ·rw [if_neg hb] at hr
   have h1 : ¬ n < 0 := by omega
   have h2 : ¬ 256 < n := by omega
   have hme := may_eval (addr := addr) (want := 1) hA hg (n := n) (by omega)
   by_cases hm : (mayR x.2 1 addr n).1 = true
   ·rw [if_pos hm] at hr
    have hfe := fetch_eval (rep_app (K := List.replicate (mayR x.2 1 addr n).2 none) hA) hg (may_span (by omega) hwa hm)
    rw [hm] at hme
    generalize (mayR x.2 1 addr n).2 = g at *
    obtain ⟨N, rfl⟩ := Int.eq_ofNat_of_zero_le (show 0 ≤ n by omega)
    simp only [Int.toNat_natCast] at hfe hr
    simp only [List.length_append, List.length_replicate] at hfe
    generalize wr (H ++ List.replicate g none) mid (fetchL x.2 A.lo addr N) ++ outK (fetchB x.2 A.lo addr N) N = X at *
    simp only [Prod.mk.injEq] at hr
    obtain ⟨rfl, rfl⟩ := hr
    cases N with
    | zero =>
     simp only [outV, Int.natCast_zero, Int.ofNat_zero] at hfe hme ⊢
     simp [Try.ntmps38, Try.results38, cSl, cn0, cn1, cI, cD, cR, hM, hS, hf, hg, h1, h2, hme, hfe]
     exact Ent.refl _ _
    | succ i =>
     simp only [outV, Int.natCast_add, Int.natCast_one] at hfe hme h1 h2 ⊢
     simp [Try.ntmps38, Try.results38, cSl, cn0, cn1, cI, cD, cR, hM, hS, hf, hg, h1, h2, hme, hfe]
     exact Ent.refl _ _
   ·rw [if_neg hm] at hr
    simp only [Bool.not_eq_true] at hm
    rw [hm] at hme
    simp only [Prod.mk.injEq] at hr
    obtain ⟨rfl, rfl⟩ := hr
    simp [Try.ntmps38, Try.results38, cSl, cn0, cn1, cI, cD, cR, hM, hS, hf, hg, h1, h2, hme]
    exact Ent.refl _ _
def loadR (H : Heap) (mid : Nat) (A : Ab) (s addr want : Int) : AVal × Heap := match getK s A.sps with
 | none => (.v (.tuple #[.int .u8 0, .int .i64 4]), H)
 | some x => if want < 1 ∨ 7 < want then (.v (.tuple #[.int .u8 0, .int .i64 1]), H) else
   if (mayR x.2 want addr 1).1 = true then (.v (.tuple #[.int .u8 (byteK x.2 A.lo addr), .int .i64 0]), wr (H ++ List.replicate (mayR x.2 want addr 1).2 none) mid (fetchL x.2 A.lo addr 1) ++ outK [byteK x.2 A.lo addr] 1)
   else (.v (.tuple #[.int .u8 0, .int .i64 11]), H ++ List.replicate (mayR x.2 want addr 1).2 none)
noncomputable def loadM : Row → Heap → Option (AVal × Heap)
 | [.ptr mid 5 0 0, .v (.int .i64 s), .v (.int .u32 addr), .v (.int .i64 want)], H => (repAt H mid).bind fun A => if 0 ≤ addr ∧ addr < 4294967296 then some (loadR H mid A s addr want) else none
 | _, _ => none
theorem load_inl : InlOk Try.prog 87 loadM := by
 refine inl_canonE Try.func87 rfl fun args H r H' hr => ⟨args, canon_refl args, ?_⟩
 unfold loadM at hr
 split at hr
 case h_2 => cases hr
 rename_i mid s addr want
 simp only [Option.bind_eq_some_iff, Option.map_eq_some_iff] at hr
 obtain ⟨A, hA, hr⟩ := hr
 split at hr
 case isFalse => cases hr
 rename_i hwa
 simp only [Option.some.injEq] at hr
 obtain ⟨rp, gd⟩ := repAt_iff.1 hA
 have hM := rp.st.mem
 have hS := rp.sp
 have hf := rp.find s
 have hwa2 : IntKind.i64.wrap addr = addr := w64 (by omega) (by omega)
 simp only [Lo.row] at hM
 unfold loadR at hr
 refine bodyE_of ((noOrc_ok.withI may_inl).withI fetch_inl) fxMix (by kernel_rfl) (by simp [Try.ntmps87]) ?_
 intro C cP cI cN cD cF cA cR cL
 have cn0 := orcI may_inl (C := C) (by rw [cN]; rfl)
 have cn1 := orcI fetch_inl (C := C) (by rw [cN]; rfl)
 replace cI := fun g => congrFun cI g
 simp only [Orc.withP, Orc.withI, Orc.withF, Orc.withD, Orc.withA, Orc.withR, Orc.withC, noOrc] at cI
 replace cR : C.rd = fun _ => none := cR
 replace cD : C.dyn = fun _ => [] := cD
 clear cP cN cF cA
 cases hg : getK s A.sps with
 | none =>
  simp only [hg, Prod.mk.injEq] at hr
  obtain ⟨rfl, rfl⟩ := hr
  simp [Try.ntmps87, Try.results87, cSl, cn0, cn1, cI, cD, cR, hM, hS, hf, hg]
  exact Ent.refl _ _
 | some x =>
  simp only [hg] at hr
  by_cases hb : want < 1 ∨ 7 < want
  ·rw [if_pos hb] at hr
   simp only [Prod.mk.injEq] at hr
   obtain ⟨rfl, rfl⟩ := hr
   by_cases h1 : want < 1
   ·simp [Try.ntmps87, Try.results87, cSl, cn0, cn1, cI, cD, cR, hM, hS, hf, hg, h1]
    exact Ent.refl _ _
   ·have h2 : 7 < want := by omega
    simp [Try.ntmps87, Try.results87, cSl, cn0, cn1, cI, cD, cR, hM, hS, hf, hg, h1, h2]
    exact Ent.refl _ _
  ·rw [if_neg hb] at hr
   have h1 : ¬ want < 1 := by omega
   have h2 : ¬ 7 < want := by omega
   have hme := may_eval (addr := addr) (want := want) hA hg (n := 1) (by omega)
   by_cases hm : (mayR x.2 want addr 1).1 = true
   ·rw [if_pos hm] at hr
    have hfe := fetch_eval (rep_app (K := List.replicate (mayR x.2 want addr 1).2 none) hA) hg (may_span (by omega) hwa2 hm)
    rw [hm] at hme
    have hb1 : fetchB x.2 A.lo addr 1 = [byteK x.2 A.lo addr] := by simp [fetchB]
    simp only [Int.toNat_one, hb1] at hfe
    generalize (mayR x.2 want addr 1).2 = g at *
    simp only [List.length_append, List.length_replicate] at hfe
    have hXl : (wr (H ++ List.replicate g none) mid (fetchL x.2 A.lo addr 1)).length = H.length + g := by rw [wr_len]; simp
    generalize wr (H ++ List.replicate g none) mid (fetchL x.2 A.lo addr 1) = X at *
    simp only [Prod.mk.injEq] at hr
    obtain ⟨rfl, rfl⟩ := hr
    simp only [outV, outK, yRow] at hfe ⊢
    simp at hfe
    simp [Try.ntmps87, Try.results87, cSl, cn0, cn1, cI, cD, cR, hM, hS, hf, hg, h1, h2, hwa2, hme, hfe, hXl, List.getElem?_append]
    exact Ent.refl _ _
   ·rw [if_neg hm] at hr
    simp only [Bool.not_eq_true] at hm
    rw [hm] at hme
    simp only [Prod.mk.injEq] at hr
    obtain ⟨rfl, rfl⟩ := hr
    simp [Try.ntmps87, Try.results87, cSl, cn0, cn1, cI, cD, cR, hM, hS, hf, hg, h1, h2, hwa2, hme]
    exact Ent.refl _ _
end
end
section
def Lo.addL (n : Nat) (d : List Int) (L : Lo) : Lo := (L.grow n d).ask (n + 1) ⟨d, 1, false, 0⟩
theorem grow_get {n : Nat} {d : List Int} {L : Lo} (h : ∀ p ∈ L.pgs.map (·.1), p < n) : getK (n + 1) (L.grow n d).pgs = some ⟨d, 1, false, 0⟩ := by
 simp only [Lo.grow]
 rw [getK_app, getK_none.2 (fun e => by have := h _ e; omega)]
 simp
theorem St.addL {H : Heap} {mid : Nat} {L : Lo} (s : St H mid L) {d : List Int} (hd : d.length = 16) (h1 : L.pgs.length < 1000) :
  St (wr (L.addH H d) mid (L.addL H.length d)) mid (L.addL H.length d) := by
 have sg := s.grow hd h1
 have lk : Like (L.grow H.length d) (L.addL H.length d) := Like.ask (grow_get fun p => s.id_lt)
 have := sg.like lk
 rwa [wr_setM] at this
theorem addH_len {H : Heap} {d : List Int} {L : Lo} : (L.addH H d).length = H.length + 4 := by
 simp [Lo.addH, base_len, Lo.newK]
theorem addH_get {H : Heap} {d : List Int} {L : Lo} {mid i : Nat} (hi : i < H.length) (hc : L.cell mid i = none) : (L.addH H d)[i]? = H[i]? := by
 unfold Lo.addH
 rw [List.getElem?_append_left (by rw [base_len]; exact hi)]
 unfold Lo.base
 split
 ·rename_i l hl
  rw [List.getElem?_set_ne]
  rintro rfl
  unfold Lo.cell at hc
  split at hc
  ·cases hc
  ·simp [hl] at hc
 ·rfl
theorem addL_lid {n : Nat} {d : List Int} {L : Lo} (h : ∀ p ∈ L.pgs.map (·.1), p < n) : (L.addL n d).lid = some (n + 3) ∧ (L.addL n d).sid = L.sid ∧ (L.addL n d).fr = L.fr ∧ (L.addL n d).sl = L.sl ∧ (L.addL n d).pgs.map (·.1) = L.pgs.map (·.1) ++ [n + 1] := by
 have lk : Like (L.grow n d) (L.addL n d) := Like.ask (grow_get h)
 refine ⟨lk.lid, lk.sid, lk.fr, lk.sl, ?_⟩
 rw [lk.keys]
 simp [Lo.grow]
theorem addL_cell {n mid i : Nat} {d : List Int} {L : Lo} (h : ∀ p ∈ L.pgs.map (·.1), p < n) (hi : i < n) (hc : L.cell mid i = none) : (L.addL n d).cell mid i = none := by
 obtain ⟨k1, _, _, _, k5⟩ := addL_lid (d := d) h
 unfold Lo.cell at hc ⊢
 split at hc
 ·cases hc
 ·rename_i him
  rw [if_neg him, k1, if_neg (by simp; omega)]
  split at hc
  ·cases hc
  ·rw [Option.map_eq_none_iff] at hc ⊢
   rw [getK_none] at hc ⊢
   rw [k5]
   simp
   refine ⟨by simpa using hc, by omega⟩
theorem Rep.addL {H : Heap} {mid : Nat} {A : Ab} (r : Rep H mid A) {d : List Int} (hd : d.length = 16) (h1 : A.lo.pgs.length < 1000) :
  Rep (wr (A.lo.addH H d) mid (A.lo.addL H.length d)) mid { A with lo := A.lo.addL H.length d } := by
 have hlt : ∀ p ∈ A.lo.pgs.map (·.1), p < H.length := fun p => r.st.id_lt
 have hs := addL_lid (d := d) hlt
 have keep : ∀ i x, H[i]? = some (some (0, x)) → (wr (A.lo.addH H d) mid (A.lo.addL H.length d))[i]? = some (some (0, x)) := fun i x hx => by
  have hi := (List.getElem?_eq_some_iff.1 hx).1
  have hc := r.st.free hx (fun e => by cases e) (fun e => by cases e) (fun e => by cases e)
  rw [wr_ne (addL_cell hlt hi hc), addH_get hi hc, hx]
 refine ⟨r.st.addL hd h1, ?_, fun x hx => keep _ _ (r.en x hx), r.nds, ?_, r.ndk⟩
 ·simp only
  rw [hs.2.1]
  exact keep _ _ r.sp
 ·simp only
  rw [hs.2.1]
  exact r.ndm
def Ab.setE (s : Int) (m : Nat) (es : En) (A : Ab) : Ab := { A with sps := setK s (m, es) A.sps }
theorem Rep.setE {H : Heap} {mid : Nat} {A : Ab} (r : Rep H mid A) {s : Int} {m : Nat} {es es' : En} (h : getK s A.sps = some (m, es)) (hn : (es'.map (·.1)).Nodup) :
  Rep (H.set m (some (0, es'.map enRow))) mid (A.setE s m es') := by
 have hm := getK_mem h
 have hl := (List.getElem?_eq_some_iff.1 (r.en _ hm)).1
 have hmap : (A.setE s m es').sps.map spRow = A.sps.map spRow := by
  simp only [Ab.setE, setK]
  rw [List.map_map]
  apply List.map_congr_left
  intro x hx
  simp only [Function.comp]
  split
  ·rename_i e
   have hx' : (x.1, x.2) ∈ A.sps := hx
   have h2 := getK_of r.nds hx'
   rw [e, h] at h2
   simp only [Option.some.injEq] at h2
   simp [spRow, spV, ← h2]
  ·rfl
 have hids : (A.setE s m es').sps.map (·.2.1) = A.sps.map (·.2.1) := by
  simp only [Ab.setE, setK]
  rw [List.map_map]
  apply List.map_congr_left
  intro x hx
  simp only [Function.comp]
  split
  ·rename_i e
   have hx' : (x.1, x.2) ∈ A.sps := hx
   have h2 := getK_of r.nds hx'
   rw [e, h] at h2
   simp only [Option.some.injEq] at h2
   simp [← h2]
  ·rfl
 have hsm : A.lo.sid ≠ m := by
  have := r.ndm
  rw [List.nodup_cons] at this
  intro e
  exact this.1 (List.mem_map.2 ⟨_, hm, e.symm⟩)
 refine ⟨r.st.set_ne (r.freeE hm), ?_, fun x hx => ?_, ?_, ?_, fun x hx => ?_⟩
 ·show (H.set m _)[A.lo.sid]? = _
  rw [hmap, List.getElem?_set_ne (fun e => hsm e.symm)]
  exact r.sp
 ·rcases mem_setK hx with ⟨rfl, _⟩ | ⟨h1, h2⟩
  ·exact List.getElem?_set_self hl
  ·rw [List.getElem?_set_ne]
   ·exact r.en x h1
   ·intro e
    have hnd := r.ndm
    rw [List.nodup_cons] at hnd
    have hi := List.mem_iff_getElem.1 h1
    have hj := List.mem_iff_getElem.1 hm
    obtain ⟨i, hi, hi2⟩ := hi
    obtain ⟨j, hj, hj2⟩ := hj
    have e1 : (A.sps.map (·.2.1))[i]'(by simpa using hi) = (A.sps.map (·.2.1))[j]'(by simpa using hj) := by simp [hi2, hj2, e]
    have := (List.getElem_inj hnd.2).1 e1
    subst this
    rw [hi2] at hj2
    rw [hj2] at h2
    exact h2 rfl
 ·simp only [Ab.setE, setK_keys]; exact r.nds
 ·show (A.lo.sid :: (A.setE s m es').sps.map (·.2.1)).Nodup
  rw [hids]; exact r.ndm
 ·rcases mem_setK hx with ⟨rfl, _⟩ | ⟨h1, _⟩
  ·exact hn
  ·exact r.ndk x h1
theorem wr_maps {H X : Heap} {mid : Nat} {L L' : Lo} (s : St H mid L) (s' : St (wr X mid L') mid L') (hX : ∀ i, i < H.length → L.cell mid i = none → X[i]? = H[i]?) (hL : ∀ i, i < H.length → L.cell mid i = none → L'.cell mid i = none)
  (hK : ∀ i x, H.length ≤ i → X[i]? ≠ some (some (0, x))) (ho : ∀ i y, L.cell mid i = some y → ∀ x, X[i]? ≠ some (some (0, x))) : MapsSame H (wr X mid L') := by
 intro id rows
 constructor
 ·intro h
  have hi := (List.getElem?_eq_some_iff.1 h).1
  have hc := s.free h (fun e => by cases e) (fun e => by cases e) (fun e => by cases e)
  rw [wr_ne (hL id hi hc), hX id hi hc, h]
 ·intro h
  have hc' := s'.free h (fun e => by cases e) (fun e => by cases e) (fun e => by cases e)
  rw [wr_ne hc'] at h
  rcases Nat.lt_or_ge id H.length with hi | hi
  ·cases hc : L.cell mid id with
   | none => rwa [hX id hi hc] at h
   | some y => exact absurd h (ho id y hc rows)
  ·exact absurd h (hK id rows hi)
theorem add_maps : ∀ args H r H', addM args H = some (r, H') → MapsSame H H' ∧ H.length ≤ H'.length := by
 intro args H r H' hr
 unfold addM at hr
 split at hr
 case h_2 => cases hr
 rename_i mid x
 simp only [Option.bind_eq_some_iff] at hr
 obtain ⟨L, hst, d, hdx, hr⟩ := hr
 split at hr
 case isFalse => cases hr
 rename_i h1000
 simp only [Option.some.injEq, Prod.mk.injEq] at hr
 obtain ⟨rfl, rfl⟩ := hr
 have s := stAt_iff.1 hst
 obtain ⟨rfl, hd⟩ := dat_inv hdx
 have hlt : ∀ p ∈ L.pgs.map (·.1), p < H.length := fun p => s.id_lt
 refine ⟨wr_maps s (s.addL hd h1000) (fun i hi hc => addH_get hi hc) (fun i hi hc => addL_cell hlt hi hc) (fun i x hi e => ?_) (fun i y hc x e => ?_), by rw [wr_len, addH_len]; omega⟩
 ·unfold Lo.addH at e
  rw [List.getElem?_append_right (by rw [base_len]; exact hi), base_len] at e
  have hi2 : i - H.length < 4 := by
   have := (List.getElem?_eq_some_iff.1 e).1
   simpa [Lo.newK] using this
  match hj : i - H.length, hi2 with
  | 0, _ => rw [hj] at e; simp [Lo.newK] at e
  | 1, _ => rw [hj] at e; simp [Lo.newK] at e
  | 2, _ => rw [hj] at e; simp [Lo.newK] at e
  | 3, _ => rw [hj] at e; simp [Lo.newK] at e
  | j + 4, h => omega
 ·have hi := s.lt hc
  unfold Lo.addH at e
  rw [List.getElem?_append_left (by rw [base_len]; exact hi)] at e
  unfold Lo.base at e
  have hH := s.at' i y hc
  have hy : y.1 ≠ 0 := by
   unfold Lo.cell at hc
   split at hc
   ·cases hc; simp
   ·split at hc
    ·cases hc; simp
    ·obtain ⟨q, _, rfl⟩ := Option.map_eq_some_iff.1 hc; simp
  split at e
  ·rename_i l hl
   by_cases hil : l = i
   ·subst hil
    rw [List.getElem?_set_self hi] at e
    cases e
   ·rw [List.getElem?_set_ne hil, hH] at e
    cases e
    exact hy rfl
  ·rw [hH] at e
   cases e
   exact hy rfl
end
section
set_option maxHeartbeats 2000000
set_option maxRecDepth 100000
set_option linter.unusedSimpArgs false
set_option linter.unusedVariables false
attribute [local simp] wpA wpX RunA RunD runF foot footP footB idsA bare apart runL step1 gsel_f gsel_t gsel_s res_same res_and1 res_and2 res_and3 res_and4 res_and5 res_and6 res_false res_true res_v res_ptr res_fptr res_osl res_xsl soft aAppendZ aCap ovlI ovlJ res_fsl res_esl res_agg res_tup res_fn res_junk res_anyb aPick hk imp_left iteV dstOk guardOk astep astepE AI.ev AI.look AI.put envOf aBox cellsOf allOne allOneA oneA Value.oneCell' Value.cells newObj' aFieldAddr aLoad obj readAt thenA blockA condA retA resA tupA view hot hotC hotR depthV cAgg cInt cBool mkAgg allV aAlloc aBuild fillA writeAt aStore isAggA aField idx aIndexAddr aIndex bnd aSlice aExtract aLen aBuiltin aCall isStatic eqAgg eqTy eqC ev_add ev_sub ev_mul ev_quo ev_rem ev_and ev_or ev_xor ev_andNot ev_shl ev_shr ev_eql ev_neq ev_lss ev_leq ev_gtr ev_geq ev_agg w64 wu32 wu8 ev_not ev_neg Cod.plain RCod.plain argM finM cold coldC coldR goInt intDec boolDec aggDec Weaker heapW lowA lowC Again slDec undef aBuildSlice setRows aAppend rowsOf aMakeSlice aClear aCopyX aCopy softer_self softer_nil valsOf ev_min2 ev_max2 hotR_set hotR_append take_map_set irow_cold irow_mapM irow_mapMc irow_view irow_viewc irow_hotR irow_ren irow_renc irow_low WeakT heapT thOf ren renC AgainT NextF NextT fnDec cFn rNil selfLt natLt0 natLt1 getLastMap frame0 frame1 own0 own1 argG finG tau tauI tauO tauC bareA bareC bareH irow_tau irow_tauc irow_bare irow_flat irow_bareR ownA_nil ownT_nil ownA_c ownT_c ownA_s ownT_s takeMapLen footC plainA noId noIdC cloneF frame0F frame1F insertF replaceI replaceF cellDec rCell fpDec cFp rTwo deleteF allV_oA oneA_oA res_oA RunR RunE runFT footAt hotR_cat tmodN aEqH aSliceA fxSz3 fxBy3 fxAg3 fxZe3 fxSl3 fxSz4 fxAg4 fxSz5 fxBy5 fxAg5 fxZe5 fxSl22 fxAr22 fxSl23 fxAr23 fxAg24 fxSz31 fxAg31 fxZe31 fxSl31 fxAr31 fxSz34 fxAg34 fxAr35 fxSz37 fxAg37 fxZe37 fxFi37x0 fxFi37x1 fxFi37x2 fxPl37 fxSz38 fxAg38 fxZe38 fxAr38 fxSz47 fxAg47 fxZe47 fxFi47x0 fxPl47 fxZe51 fxFi51x0 fxFi51x1 fxPl51 fxAg55 fxSz56 fxAg56 fxSl56 fxAr56 fxZe58 fxFi58x0 fxFi58x1 fxFi58x2 fxFi58x3 fxFi58x4 fxPl58 fxSz62 fxAg62 fxZe62 fxFi62x0 fxFi62x1 fxFi62x2 fxFi62x3 fxPl62 fxZe65 fxSl67 fxAr67 fxSz72 fxAg72 fxZe72 fxSl72 fxAr72 fxPl72 fxSz74 fxZe74 fxFi74x0 fxFi74x1 fxFi74x2 fxFi74x3 fxPl74 fxSz75 fxBy75 fxAg75 fxZe75 fxSz79 fxAg79 fxZe79 fxFi79x0 fxFi79x1 fxPl79 fxEq47 fxCv3x5 fxCv3x34 fxCv3x70 fxCv3x100 fxCv5x34 fxCv34x3 fxCv34x5 fxCv34x112 fxCv70x3 fxCv100x34 fxCv112x3 fxLn31 fxLn56 fxFm4 fxFm5 fxFi5 fxFm6 fxFm7 fxFm8 fxFm9 fxFi9 fxFm10 fxFm11 fxFm12 fxFm13 fxFm14 fxFm15 fxFm16 fxFm17 fxFi17 fxFm18 fxFm19 fxFi19 fxFm20 fxFm21 fxFm22 fxFm23 fxFm24 fxFi24 fxFm25 fxFi25 fxFm26 fxFm27 fxFm28 fxFi28 fxFm29 fxFm30 fxFm31 fxFm32 fxFm33 fxFi33 fxFm34 fxFi34 fxFm35 fxFm36 fxFm37 fxFm38 fxFm39 fxFi39 fxFm40 fxFi40 fxFm41 fxFi41 fxFm42 fxFm45 fxFi45 fxFm46 fxFi46 fxFm47 fxFm48 fxFm49 fxFi49 fxFm50 fxFm51 fxFm52 fxFi52 fxFm64 fxFi64 fxFm87 fxFm88 fxFm89
section
attribute [local simp] pgRow_len pg16 pg17 pg18 pg16' pg17' pg18' ww16 ww17 ww18 keyI_ok aLookup aMapUpdate aDelete lkRes bin_mn spV enV Try.underlying65 Try.underlying55
def hitN (es : En) (first : Int) : Nat → Nat
 | 0 => 0
 | m + 1 => if (getK first es).isSome = true then 1 else hitN es (first + 1) m + 1
def hitB (es : En) (first : Int) (n : Nat) : Bool := (List.range n).any fun j => (getK (first + (j : Nat)) es).isSome
def z16 : List Int := [0, 0, 0, 0, 0, 0, 0, 0, 0, 0, 0, 0, 0, 0, 0, 0]
structure Ms where
 H : Heap
 L : Lo
 es : En
def putS (mid mp : Nat) (k : Int) (d : List Int) (rg : Int) (x : Ms) : Ms :=
 let es' := x.es ++ [(k, (x.H.length + 1, rg))]
 ⟨(wr (x.L.addH x.H d) mid (x.L.addL x.H.length d)).set mp (some (0, es'.map enRow)), x.L.addL x.H.length d, es'⟩
def mapS (mid mp : Nat) (first rg : Int) (x : Ms) : Nat → Ms
 | 0 => x
 | j + 1 => putS mid mp (first + (j : Nat)) z16 rg (mapS mid mp first rg x j)
def mapR (H : Heap) (mid : Nat) (A : Ab) (s first n rights : Int) : AVal × Heap :=
 if spanE A s first n rights ≠ 0 then (.v (.int .i64 (spanE A s first n rights)), H) else
 match getK s A.sps with
 | none => (.v (.int .i64 4), H)
 | some x => if hitB x.2 first n.toNat = true then (.v (.int .i64 5), H ++ List.replicate (hitN x.2 first n.toNat) none)
  else if n ≤ A.lo.fr + A.lo.sl - A.lo.pgs.length then (.v (.int .i64 0), (mapS mid x.1 first rights ⟨H ++ List.replicate n.toNat none, A.lo, x.2⟩ n.toNat).H)
  else (.v (.int .i64 6), H ++ List.replicate n.toNat none)
noncomputable def mapM : Row → Heap → Option (AVal × Heap)
 | [.ptr mid 5 0 0, .v (.int .i64 s), .v (.int .i64 first), .v (.int .i64 n), .v (.int .i64 rights)], H => (repAt H mid).map fun A => mapR H mid A s first n rights
 | _, _ => none
theorem hit_yes {es : En} : ∀ {j n : Nat} {first : Int}, j < n → (∀ i : Nat, i < j → getK (first + (i : Nat)) es = none) → (getK (first + (j : Nat)) es).isSome = true → hitN es first n = j + 1
 | 0, n + 1, first, _, _, h => by
  simp at h
  simp [hitN, h]
 | j + 1, n + 1, first, hj, hno, h => by
  have h0 := hno 0 (by omega)
  simp at h0
  simp only [hitN, h0]
  rw [if_neg (by simp), hit_yes (j := j) (n := n) (first := first + 1) (by omega) (fun i hi => ?_) ?_]
  ·rw [show first + 1 + ((j : Nat) : Int) = first + ((j + 1 : Nat) : Int) by simp; omega]; exact h
  ·have := hno (i + 1) (by omega)
   rw [← this]; congr 1; simp; omega
 | _, 0, _, h, _, _ => by omega
theorem room_eval {H : Heap} {mid : Nat} {A : Ab} {n : Int} (r : Rep H mid A) : roomM [.ptr mid 5 0 0, .v (.int .i64 n)] H = some (.v (.bool (decide (n ≤ A.lo.fr + A.lo.sl - A.lo.pgs.length)))) := by
 simp only [roomM, stAt_iff.2 r.st, Option.map_some]
theorem add_eval {H : Heap} {mid : Nat} {A : Ab} {d : List Int} (r : Rep H mid A) (h : A.lo.pgs.length < 1000) (hd : d.length = 16) : addM [.ptr mid 5 0 0, dA d] H = some (.ptr (H.length + 1) 19 0 0, wr (A.lo.addH H d) mid (A.lo.addL H.length d)) := by
 simp only [addM, stAt_iff.2 r.st, Option.bind_some, dat_of hd]
 rw [if_pos h]; rfl
theorem addL_len {n : Nat} {d : List Int} {L : Lo} (h : ∀ p ∈ L.pgs.map (·.1), p < n) : (L.addL n d).pgs.length = L.pgs.length + 1 := by
 have := congrArg List.length (addL_lid (d := d) h).2.2.2.2
 simpa using this
theorem putS_rep {mid mp : Nat} {k : Int} {d : List Int} {rg : Int} {x : Ms} {A : Ab} {s : Int} (r : Rep x.H mid { A with lo := x.L, sps := setK s (mp, x.es) A.sps }) (hs : ∃ e, getK s A.sps = some e) (hd : d.length = 16) (h1 : x.L.pgs.length < 1000) (hk : getK k x.es = none) :
  Rep (putS mid mp k d rg x).H mid { A with lo := (putS mid mp k d rg x).L, sps := setK s (mp, (putS mid mp k d rg x).es) A.sps } := by
 obtain ⟨e, he⟩ := hs
 have hg : getK s (setK s (mp, x.es) A.sps) = some (mp, x.es) := by rw [getK_setK, if_pos rfl, he]; rfl
 have r2 := r.addL hd h1
 have hnd := r.ndk _ (getK_mem hg)
 have r3 := r2.setE (es' := x.es ++ [(k, (x.H.length + 1, rg))]) (s := s) (m := mp) (es := x.es) hg (by
  rw [List.map_append, List.nodup_append]
  refine ⟨hnd, by simp, fun a ha b hb e => ?_⟩
  simp at hb
  rw [e, hb] at ha
  exact getK_none.1 hk ha)
 unfold Ab.setE at r3
 simp only [setK_setK] at r3
 exact r3
theorem mapS_rep {mid mp : Nat} {first rg : Int} {x : Ms} {A : Ab} {s : Int} (r : Rep x.H mid { A with lo := x.L, sps := setK s (mp, x.es) A.sps }) (hs : ∃ e, getK s A.sps = some e) : ∀ (j : Nat), x.L.pgs.length + j ≤ 1000 → (∀ i : Nat, i < j → getK (first + (i : Nat)) x.es = none) →
  Rep (mapS mid mp first rg x j).H mid { A with lo := (mapS mid mp first rg x j).L, sps := setK s (mp, (mapS mid mp first rg x j).es) A.sps } ∧ (mapS mid mp first rg x j).L.pgs.length = x.L.pgs.length + j ∧ (∀ i : Nat, j ≤ i → getK (first + (i : Nat)) x.es = none → getK (first + (i : Nat)) (mapS mid mp first rg x j).es = none)
 | 0, _, _ => ⟨r, rfl, fun _ _ h => h⟩
 | j + 1, hl, hno => by
  obtain ⟨r1, l1, k1⟩ := mapS_rep r hs j (by omega) (fun i hi => hno i (by omega))
  have hk := k1 j (Nat.le_refl _) (hno j (by omega))
  refine ⟨putS_rep r1 hs rfl (by omega) hk, ?_, fun i hi h => ?_⟩
  ·simp only [mapS, putS]
   rw [addL_len fun p => r1.st.id_lt, l1]; rfl
  ·have h2 := k1 i (by omega) h
   simp only [mapS, putS]
   rw [getK_app, h2]
   simp only
   rw [if_neg (by omega)]
theorem setK_self {α β : Type} [DecidableEq α] {k : α} {v : β} : ∀ {l : List (α × β)}, (l.map (·.1)).Nodup → getK k l = some v → setK k v l = l
 | l, hn, h => by
  unfold setK
  conv => rhs; rw [← List.map_id l]
  apply List.map_congr_left
  intro x hx
  split
  ·rename_i e
   have hx' : (x.1, x.2) ∈ l := hx
   have := getK_of hn hx'
   rw [e, h] at this
   simp only [Option.some.injEq] at this
   rw [this]; rfl
  ·rfl
theorem map_inl : InlOk Try.prog 23 mapM := by
 refine inl_canonE Try.func23 rfl fun args H r H' hr => ⟨args, canon_refl args, ?_⟩
 unfold mapM at hr
 split at hr
 case h_2 => cases hr
 rename_i mid s first n rights
 simp only [Option.bind_eq_some_iff, Option.map_eq_some_iff] at hr
 obtain ⟨A, hA, hr⟩ := hr
 obtain ⟨rp, gd⟩ := repAt_iff.1 hA
 have hM := rp.st.mem
 have hS := rp.sp
 have hf := rp.find s
 have hspan : spanM [.ptr mid 5 0 0, .v (.int .i64 s), .v (.int .i64 first), .v (.int .i64 n), .v (.int .i64 rights)] H = some (.v (.int .i64 (spanE A s first n rights))) := by simp only [spanM, hA, Option.map_some]
 unfold mapR at hr
 refine bodyE_of ((((((noOrc_ok.withR span_rd).withR room_rd).withI add_inl).withC (f := 42) (by first | rfl | (funext a b; simp [Orc.withI, Orc.withF])) add_maps).withD (fun i => if i = 16 then [(3,11),(5,11)] else [])).withA (fun i => if i = 16 then [9,10,11,0,1,2,3,4,5,6,7,8,12,13,14] else [])) fxMix (by kernel_rfl) (by simp [Try.ntmps23]) ?_
 intro C cP cI cN cD cF cA cR cL
 have cn0 := orcI add_inl (C := C) (by rw [cN]; rfl)
 replace cI := fun g => congrFun cI g
 simp only [Orc.withP, Orc.withI, Orc.withF, Orc.withD, Orc.withA, Orc.withR, Orc.withC, noOrc] at cI
 replace cR := fun g => congrFun cR g
 simp only [Orc.withP, Orc.withI, Orc.withF, Orc.withD, Orc.withA, Orc.withR, Orc.withC, noOrc] at cR
 replace cL := fun g => congrFun cL g
 simp only [Orc.withP, Orc.withI, Orc.withF, Orc.withD, Orc.withA, Orc.withR, Orc.withC, noOrc] at cL
 replace cD : C.dyn = fun i => if i = 16 then [(3,11),(5,11)] else [] := cD
 replace cF := fun g => congrFun cF g
 simp only [Orc.withP, Orc.withI, Orc.withF, Orc.withD, Orc.withA, Orc.withR, Orc.withC, noOrc] at cF
 replace cA : C.alt = fun i => if i = 16 then [9,10,11,0,1,2,3,4,5,6,7,8,12,13,14] else [] := cA
 have rg15 : List.range 15 = [0, 1, 2, 3, 4, 5, 6, 7, 8, 9, 10, 11, 12, 13, 14] := rfl
 clear cP cN
 by_cases he : spanE A s first n rights = 0
 case neg =>
  rw [if_pos he] at hr
  simp only [Prod.mk.injEq] at hr
  obtain ⟨rfl, rfl⟩ := hr
  simp [Try.ntmps23, Try.results23, cSl, cn0, cI, cD, cR, cL, cF, cA, rg15, hspan, he]
  exact Ent.refl _ _
 case pos =>
  rw [if_neg (fun h => h he)] at hr
  rw [he] at hspan
  unfold spanE at he
  cases hg : getK s A.sps with
  | none => rw [hg] at he; cases he
  | some x =>
   obtain ⟨mp, es⟩ := x
   simp only [hg] at he hr
   have hsb : ¬ spanBad first n rights := by
    intro h
    rw [if_pos h] at he; cases he
   unfold spanBad at hsb
   obtain ⟨N, rfl⟩ := Int.eq_ofNat_of_zero_le (show 0 ≤ n by omega)
   simp only [Int.toNat_natCast] at hr
   obtain ⟨hE, hnd, _⟩ := rp.findE hg 0
   have hfe := fun k => (rp.findE hg k).2.2
   have hml : mid < H.length := rp.st.lt cell_m
   have hsl : A.lo.sid < H.length := (List.getElem?_eq_some_iff.1 hS).1
   have hel : mp < H.length := (List.getElem?_eq_some_iff.1 hE).1
   have gM := (List.getElem?_eq_some_iff.1 hM).2
   have gS := (List.getElem?_eq_some_iff.1 hS).2
   have gE := (List.getElem?_eq_some_iff.1 hE).2
   have hM' := hM
   simp only [Lo.row] at hM gM
   simp [Try.ntmps23, Try.results23, cSl, cn0, cI, cD, cR, cL, cF, cA, rg15, hspan]
   refine loop_forE N (fun k (_ : Unit) => ([(0, .ptr mid 5 0 0), (1, .v (.int .i64 s)), (2, .v (.int .i64 first)), (3, .v (.int .i64 N)), (4, .v (.int .i64 rights)), (25, .v (.int .i64 N)), (26, .v (.int .i64 k))], H ++ List.replicate k none)) (fun k _ => ∀ i : Nat, i < k → getK (first + (i : Nat)) es = none) () (fun k _ hk _ => by omega) (fun i hi => by omega) ?_ ?_ ?_
   ·simp only [List.replicate_zero, List.append_nil]
    exact Ent.env (by simp)
   ·rintro k _ hk hno hw
    have hkw : IntKind.i64.wrap (first + (k : Int)) = first + k := w64 (by omega) (by omega)
    have hfk := hfe (first + k)
    cases hgk : getK (first + (k : Int)) es with
    | none =>
     simp [Try.ntmps23, Try.results23, cSl, cn0, cI, cD, cR, cL, cF, cA, rg15, hM, hS, hf, hg, hE, hfk, hgk, hk, hw, hkw, hml, hsl, hel, gM, gS, gE, List.getElem?_append, List.set_append]
     refine ⟨(), fun i hi => ?_, Ent.trans (Ent.env ?_) Ent.box⟩
     ·rcases Nat.lt_or_ge i k with h | h
      ·exact hno i h
      ·have : i = k := by omega
       subst this; exact hgk
     ·simp
    | some y =>
     obtain ⟨p, rg⟩ := y
     have hb : hitB es first N = true := by
      unfold hitB
      rw [List.any_eq_true]
      exact ⟨k, List.mem_range.2 hk, by rw [hgk]; rfl⟩
     rw [if_pos hb] at hr
     simp only [Prod.mk.injEq] at hr
     obtain ⟨rfl, rfl⟩ := hr
     have hhn := hit_yes hk hno (by rw [hgk]; rfl)
     simp [Try.ntmps23, Try.results23, cSl, cn0, cI, cD, cR, cL, cF, cA, rg15, hM, hS, hf, hg, hE, hfk, hgk, hk, hw, hkw, hml, hsl, hel, gM, gS, gE, List.getElem?_append, List.set_append]
     rw [hhn]
     exact Ent.box
   ·rintro _ hno
    have hb : ¬ hitB es first N = true := by
     intro h
     unfold hitB at h
     rw [List.any_eq_true] at h
     obtain ⟨j, hj, h⟩ := h
     rw [hno j (List.mem_range.1 hj)] at h
     cases h
    rw [if_neg hb] at hr
    have rp2 : Rep (H ++ List.replicate N none) mid A := rp.app
    have hroom := room_eval (n := (N : Int)) rp2
    by_cases hrm : (N : Int) ≤ A.lo.fr + A.lo.sl - A.lo.pgs.length
    ·rw [if_pos hrm] at hr
     simp only [hrm, decide_true] at hroom
     simp only [Prod.mk.injEq] at hr
     obtain ⟨rfl, rfl⟩ := hr
     simp [Try.ntmps23, Try.results23, cSl, cn0, cI, cD, cR, cL, cF, cA, rg15, hroom]
     have hx0 : Rep (Ms.mk (H ++ List.replicate N none) A.lo es).H mid { A with lo := (Ms.mk (H ++ List.replicate N none) A.lo es).L, sps := setK s (mp, (Ms.mk (H ++ List.replicate N none) A.lo es).es) A.sps } := by
      rw [setK_self rp.nds hg]; exact rp2
     refine loop_forE N (fun k (_ : Unit) => ([(0, .ptr mid 5 0 0), (1, .v (.int .i64 s)), (2, .v (.int .i64 first)), (4, .v (.int .i64 rights)), (48, .v (.int .i64 N)), (49, .v (.int .i64 k))], (mapS mid mp first rights ⟨H ++ List.replicate N none, A.lo, es⟩ k).H)) (fun k _ => True) () (fun k _ hk _ => by omega) trivial (Ent.env (by simp)) ?_ ?_
     ·rintro k _ hk _ hw
      have hle := rp.st.wf.le
      have hgd := gd.room
      obtain ⟨r1, l1, k1⟩ := mapS_rep hx0 ⟨_, hg⟩ (first := first) (rg := rights) k (by simp only; omega) (fun i hi => hno i (by omega))
      have hk1 := k1 k (Nat.le_refl _) (hno k hk)
      have hkw : IntKind.i64.wrap (first + (k : Int)) = first + k := w64 (by omega) (by omega)
      have hnext : (mapS mid mp first rights ⟨H ++ List.replicate N none, A.lo, es⟩ (k + 1)).H = (putS mid mp (first + (k : Nat)) z16 rights (mapS mid mp first rights ⟨H ++ List.replicate N none, A.lo, es⟩ k)).H := rfl
      generalize mapS mid mp first rights ⟨H ++ List.replicate N none, A.lo, es⟩ k = Y at *
      have hg1 : getK s (setK s (mp, Y.es) A.sps) = some (mp, Y.es) := by rw [getK_setK, if_pos rfl, hg]; rfl
      have hadd := add_eval r1 (d := z16) (by simp only at l1 ⊢; omega) rfl
      have r2 := r1.addL (d := z16) rfl (by simp only at l1 ⊢; omega)
      have hM1 := r1.st.mem
      have hS1 := r1.sp
      have hf1 := r1.find s
      obtain ⟨hE1, hnd1, hfe1⟩ := r1.findE hg1 (first + k)
      have hM2 := r2.st.mem
      have hS2 := r2.sp
      obtain ⟨hE2, _, _⟩ := r2.findE hg1 (first + k)
      have hsid := (addL_lid (d := z16) (fun p => r1.st.id_lt (p := p))).2.1
      simp only at hadd hM1 hS1 hf1 hE1 hM2 hS2 hE2 hsid
      have hput := put_key (g := enRow) (v := enV) (fun _ => rfl) (first + (k : Int)) (Y.H.length + 1, rights) Y.es hnd1
      rw [putK_new (getK_none.1 hk1)] at hput
      simp only [putS] at hnext
      simp only [Lo.row] at hM1 hM2
      rw [hsid] at hM2 hS2
      have hWl : (wr (Y.L.addH Y.H z16) mid (Y.L.addL Y.H.length z16)).length = Y.H.length + 4 := by rw [wr_len, addH_len]
      generalize wr (Y.L.addH Y.H z16) mid (Y.L.addL Y.H.length z16) = W at *
      have hWn : ¬ W.length < Y.H.length := by omega
      simp only [dA, z16, List.map_cons, List.map_nil, enV] at hadd hput
      simp [Try.ntmps23, Try.results23, cSl, cn0, cI, cD, cR, cL, cF, cA, rg15, hk, hkw, hw, hadd, hM1, hS1, hf1, hg1, hE1, hM2, hS2, hE2, hput, hWn]
      simp only [List.map_append, List.map_cons, List.map_nil] at hnext
      refine ⟨⟨(), trivial, ?_⟩, ⟨(), trivial, ?_⟩⟩
      ·simp only [hnext]
       exact Ent.env (by simp)
      ·simp only [hnext]
       exact Ent.env (by simp)
     ·rintro _ _
      simp [Try.ntmps23, Try.results23, cSl, cn0, cI, cD, cR, cL, cF, cA, rg15]
      exact Ent.refl _ _
    ·rw [if_neg hrm] at hr
     simp only [hrm, decide_false] at hroom
     simp only [Prod.mk.injEq] at hr
     obtain ⟨rfl, rfl⟩ := hr
     simp [Try.ntmps23, Try.results23, cSl, cn0, cI, cD, cR, cL, cF, cA, rg15, hroom]
     exact Ent.refl _ _
end
section
attribute [local simp] pgRow_len pg16 pg17 pg18 pg16' pg17' pg18' ww16 ww17 ww18 keyI_ok aLookup aMapUpdate aDelete lkRes bin_mn spV enV Try.underlying65 Try.underlying55
def by1 : Row → Option Int
 | [.v (.int .u8 b)] => some b
 | _ => none
theorem by1_inv : ∀ {rows : List Row} {d : List Int}, rows.mapM by1 = some d → rows = yRow d
 | [], d, h => by simp at h; subst h; rfl
 | r :: rows, d, h => by
  simp only [List.mapM_cons, Option.bind_eq_bind, Option.bind_eq_some_iff, Option.pure_def, Option.some.injEq] at h
  obtain ⟨p, hp, d', hd, rfl⟩ := h
  rw [yRow, List.map_cons, ← yRow, ← by1_inv hd]
  unfold by1 at hp
  split at hp
  ·cases hp; rfl
  ·cases hp
theorem by1_of (d : List Int) : (yRow d).mapM by1 = some d := by
 induction d with
 | nil => rfl
 | cons a d ih => simp only [yRow, List.map_cons] at ih ⊢; rw [List.mapM_cons, ih]; rfl
def bytesAt (H : Heap) : AVal → Option (List Int)
 | .fsl _ 1 rows => rows.mapM by1
 | .osl id 1 0 n _ => match H[id]? with
  | some (some (1, rows)) => (rows.mapM by1).bind fun d => if d.length = n then some d else none
  | _ => none
 | .esl => some []
 | .v (.slice none 0 0) => some []
 | _ => none
theorem bytesAt_cases {H : Heap} {x : AVal} {d : List Int} (h : bytesAt H x = some d) : (∃ o, x = .fsl o 1 (yRow d)) ∨ (∃ id kc, x = .osl id 1 0 d.length kc ∧ H[id]? = some (some (1, yRow d)) ∧ ∃ h : id < H.length, H[id] = some (1, yRow d)) ∨ (x = .esl ∧ d = []) ∨ (x = .v (.slice none 0 0) ∧ d = []) := by
 unfold bytesAt at h
 split at h
 ·rename_i o rows
  rw [by1_inv h]; exact .inl ⟨o, rfl⟩
 ·rename_i id n kc
  split at h
  ·rename_i rows hr
   simp only [Option.bind_eq_some_iff] at h
   obtain ⟨d', h1, h2⟩ := h
   split at h2
   ·rename_i hn
    cases h2
    rw [by1_inv h1] at hr
    exact .inr (.inl ⟨id, kc, by rw [hn], hr, List.getElem?_eq_some_iff.1 hr⟩)
   ·cases h2
  ·cases h
 ·cases h; exact .inr (.inr (.inl ⟨rfl, rfl⟩))
 ·cases h; exact .inr (.inr (.inr ⟨rfl, rfl⟩))
 ·cases h
def pad (d : List Int) : List Int := d ++ List.replicate (16 - d.length) 0
theorem pad_len {d : List Int} (h : d.length ≤ 16) : (pad d).length = 16 := by simp [pad]; omega
def boxE : Option (Nat × Int) → Row
 | some x => [.ptr x.1 19 0 0, .v (.int .i64 x.2)]
 | none => [.v (.pointer none), .v (.int .i64 0)]
def putR1 (H : Heap) (mid : Nat) (A : Ab) (s at_ rights : Int) (d : List Int) : AVal × Heap :=
 if spanE A s at_ 1 rights ≠ 0 then (.v (.int .i64 (spanE A s at_ 1 rights)), H) else
 match getK s A.sps with
 | none => (.v (.int .i64 4), H)
 | some x => if 16 < d.length then (.v (.int .i64 1), H) else
  if (getK at_ x.2).isSome = true then (.v (.int .i64 5), H ++ [some (2, [boxE (getK at_ x.2)])]) else
  if 1 ≤ A.lo.fr + A.lo.sl - A.lo.pgs.length then (.v (.int .i64 0), (putS mid x.1 at_ (pad d) rights ⟨H ++ [some (2, [boxE none]), some (1, yRow (pad d))], A.lo, x.2⟩).H)
  else (.v (.int .i64 6), H ++ [some (2, [boxE none])])
noncomputable def putM : Row → Heap → Option (AVal × Heap)
 | [.ptr mid 5 0 0, .v (.int .i64 s), .v (.int .i64 at_), .v (.int .i64 rights), x], H => (repAt H mid).bind fun A => (bytesAt H x).map fun d => putR1 H mid A s at_ rights d
 | _, _ => none
theorem yRow_len (d : List Int) : (yRow d).length = d.length := by simp [yRow]
theorem yRow_flat (d : List Int) : (yRow d).flatten = bRow d := by
 unfold yRow bRow
 induction d with
 | nil => rfl
 | cons a d ih => simp [ih]
theorem allV_b (d : List Int) : allV (bRow d) = some (d.map (Value.int .u8)) := by
 unfold bRow
 induction d with
 | nil => rfl
 | cons a d ih => simp [allV, ih]
theorem yRow_pad (d : List Int) : yRow d ++ List.drop d.length [[AVal.v (.int .u8 0)], [AVal.v (.int .u8 0)], [AVal.v (.int .u8 0)], [AVal.v (.int .u8 0)], [AVal.v (.int .u8 0)], [AVal.v (.int .u8 0)], [AVal.v (.int .u8 0)], [AVal.v (.int .u8 0)], [AVal.v (.int .u8 0)], [AVal.v (.int .u8 0)], [AVal.v (.int .u8 0)], [AVal.v (.int .u8 0)], [AVal.v (.int .u8 0)], [AVal.v (.int .u8 0)], [AVal.v (.int .u8 0)], [AVal.v (.int .u8 0)]] = yRow (pad d) := by
 rw [show ([[AVal.v (.int .u8 0)], [AVal.v (.int .u8 0)], [AVal.v (.int .u8 0)], [AVal.v (.int .u8 0)], [AVal.v (.int .u8 0)], [AVal.v (.int .u8 0)], [AVal.v (.int .u8 0)], [AVal.v (.int .u8 0)], [AVal.v (.int .u8 0)], [AVal.v (.int .u8 0)], [AVal.v (.int .u8 0)], [AVal.v (.int .u8 0)], [AVal.v (.int .u8 0)], [AVal.v (.int .u8 0)], [AVal.v (.int .u8 0)], [AVal.v (.int .u8 0)]] : List Row) = List.replicate 16 [AVal.v (.int .u8 0)] from rfl, List.drop_replicate]
 simp [yRow, pad]
theorem maxlen : ∀ {d : List Int}, d.length ≤ 16 → (yRow d).take 16 = yRow d := fun h => List.take_of_length_le (by rw [yRow_len]; exact h)
theorem lit0 {d : List Int} (h : d = []) : ([[AVal.v (.int .u8 0)], [AVal.v (.int .u8 0)], [AVal.v (.int .u8 0)], [AVal.v (.int .u8 0)], [AVal.v (.int .u8 0)], [AVal.v (.int .u8 0)], [AVal.v (.int .u8 0)], [AVal.v (.int .u8 0)], [AVal.v (.int .u8 0)], [AVal.v (.int .u8 0)], [AVal.v (.int .u8 0)], [AVal.v (.int .u8 0)], [AVal.v (.int .u8 0)], [AVal.v (.int .u8 0)], [AVal.v (.int .u8 0)], [AVal.v (.int .u8 0)]] : List Row) = yRow (pad d) := by
 subst h; rfl
theorem put_inl : InlOk Try.prog 22 putM := by
 refine inl_canonE Try.func22 rfl fun args H r H' hr => ⟨args, canon_refl args, ?_⟩
 unfold putM at hr
 split at hr
 case h_2 => cases hr
 rename_i mid s at_ rights x
 simp only [Option.bind_eq_some_iff, Option.map_eq_some_iff] at hr
 obtain ⟨A, hA, d, hd, hr⟩ := hr
 obtain ⟨rp, gd⟩ := repAt_iff.1 hA
 have hM := rp.st.mem
 have hS := rp.sp
 have hf := rp.find s
 have hspan : spanM [.ptr mid 5 0 0, .v (.int .i64 s), .v (.int .i64 at_), .v (.int .i64 1), .v (.int .i64 rights)] H = some (.v (.int .i64 (spanE A s at_ 1 rights))) := by simp only [spanM, hA, Option.map_some]
 unfold putR1 at hr
 refine bodyE_of ((((((noOrc_ok.withR span_rd).withR room_rd).withI add_inl).withC (f := 42) (by first | rfl | (funext a b; simp [Orc.withI, Orc.withF])) add_maps).withD (fun i => if i = 13 then [(3,9),(5,9)] else [])).withA (fun i => if i = 13 then [7,8,9,0,1,2,3,4,5,6,10,11,12] else [])) fxMix (by kernel_rfl) (by simp [Try.ntmps22]) ?_
 intro C cP cI cN cD cF cA cR cL
 have cn0 := orcI add_inl (C := C) (by rw [cN]; rfl)
 replace cI := fun g => congrFun cI g
 simp only [Orc.withP, Orc.withI, Orc.withF, Orc.withD, Orc.withA, Orc.withR, Orc.withC, noOrc] at cI
 replace cR := fun g => congrFun cR g
 simp only [Orc.withP, Orc.withI, Orc.withF, Orc.withD, Orc.withA, Orc.withR, Orc.withC, noOrc] at cR
 replace cL := fun g => congrFun cL g
 simp only [Orc.withP, Orc.withI, Orc.withF, Orc.withD, Orc.withA, Orc.withR, Orc.withC, noOrc] at cL
 replace cD : C.dyn = fun i => if i = 13 then [(3,9),(5,9)] else [] := cD
 replace cF := fun g => congrFun cF g
 simp only [Orc.withP, Orc.withI, Orc.withF, Orc.withD, Orc.withA, Orc.withR, Orc.withC, noOrc] at cF
 replace cA : C.alt = fun i => if i = 13 then [7,8,9,0,1,2,3,4,5,6,10,11,12] else [] := cA
 have rg13 : List.range 13 = [0, 1, 2, 3, 4, 5, 6, 7, 8, 9, 10, 11, 12] := rfl
 clear cP cN
 rcases bytesAt_cases hd with ⟨o, rfl⟩ | ⟨id, kc, rfl, hid, hidl, gid⟩ | ⟨rfl, hd0⟩ | ⟨rfl, hd0⟩
 ·
   by_cases he : spanE A s at_ 1 rights = 0
   case neg =>
    rw [if_pos he] at hr
    simp only [Prod.mk.injEq] at hr
    obtain ⟨rfl, rfl⟩ := hr
    simp [Try.ntmps22, Try.results22, cSl, cn0, cI, cD, cR, cL, cF, cA, rg13, hspan, he]
    exact Ent.refl _ _
   case pos =>
    rw [if_neg (fun h => h he)] at hr
    rw [he] at hspan
    unfold spanE at he
    cases hg : getK s A.sps with
    | none => rw [hg] at he; cases he
    | some x =>
     obtain ⟨mp, es⟩ := x
     simp only [hg] at he hr
     have hsb : ¬ spanBad at_ 1 rights := by
      intro h
      rw [if_pos h] at he; cases he
     unfold spanBad at hsb
     obtain ⟨hE, hnd, hfk⟩ := rp.findE hg at_
     have hml : mid < H.length := rp.st.lt cell_m
     have hsl : A.lo.sid < H.length := (List.getElem?_eq_some_iff.1 hS).1
     have hel : mp < H.length := (List.getElem?_eq_some_iff.1 hE).1
     have gM := (List.getElem?_eq_some_iff.1 hM).2
     have gS := (List.getElem?_eq_some_iff.1 hS).2
     have gE := (List.getElem?_eq_some_iff.1 hE).2
     simp only [Lo.row] at hM gM
     by_cases h16 : 16 < d.length
     ·have h16' : (16 : Int) < (d.length : Int) := by omega
      rw [if_pos h16] at hr
      simp only [Prod.mk.injEq] at hr
      obtain ⟨rfl, rfl⟩ := hr
      first
      | exact absurd h16 (by rw [hd0]; simp)
      |(simp [Try.ntmps22, Try.results22, cSl, cn0, cI, cD, cR, cL, cF, cA, rg13, hspan, h16', hd, yRow_len]
        exact Ent.refl _ _)
     ·rw [if_neg h16] at hr
      have h16' : ¬ (16 : Int) < (d.length : Int) := by omega
      cases hgk : getK at_ es with
      | some y =>
       obtain ⟨p, rg⟩ := y
       rw [if_pos (by rw [hgk]; rfl), hgk] at hr
       simp only [Prod.mk.injEq] at hr
       obtain ⟨rfl, rfl⟩ := hr
       simp [Try.ntmps22, Try.results22, cSl, cn0, cI, cD, cR, cL, cF, cA, rg13, hspan, h16', hd, yRow_len, hM, hS, hf, hg, hE, hfk, hgk, hml, hsl, hel, gM, gS, gE, List.getElem?_append, List.set_append]
       exact Ent.refl _ _
      | none =>
       rw [if_neg (by rw [hgk]; simp)] at hr
       have rp2 : Rep (H ++ [some (2, [boxE none])]) mid A := rp.app
       have hroom := room_eval (n := 1) rp2
       simp only [boxE] at hroom
       by_cases hrm : 1 ≤ A.lo.fr + A.lo.sl - A.lo.pgs.length
       case neg =>
        rw [if_neg hrm] at hr
        simp only [hrm, decide_false] at hroom
        simp only [Prod.mk.injEq] at hr
        obtain ⟨rfl, rfl⟩ := hr
        simp [Try.ntmps22, Try.results22, cSl, cn0, cI, cD, cR, cL, cF, cA, rg13, hspan, h16', hd, yRow_len, hM, hS, hf, hg, hE, hfk, hgk, hml, hsl, hel, gM, gS, gE, List.getElem?_append, List.set_append, hroom]
        exact Ent.refl _ _
       case pos =>
        rw [if_pos hrm] at hr
        simp only [hrm, decide_true] at hroom
        simp only [Prod.mk.injEq] at hr
        obtain ⟨rfl, rfl⟩ := hr
        have hle := rp.st.wf.le
        have h17 : d.length ≤ 16 := by omega
        have hpl := pad_len h17
        have r1 : Rep (H ++ [some (2, [boxE none]), some (1, yRow (pad d))]) mid A := rp.app
        have hadd := add_eval r1 (d := pad d) (by omega) hpl
        have r2 := r1.addL (d := pad d) hpl (by omega)
        have hM2 := r2.st.mem
        have hS2 := r2.sp
        obtain ⟨hE2, _, _⟩ := r2.findE hg at_
        have hsid := (addL_lid (d := pad d) (fun p => r1.st.id_lt (p := p))).2.1
        have hput := put_key (g := enRow) (v := enV) (fun _ => rfl) at_ ((H ++ [some (2, [boxE none]), some (1, yRow (pad d))]).length + 1, rights) es hnd
        rw [putK_new (getK_none.1 hgk)] at hput
        simp only [Lo.row] at hM2
        rw [hsid] at hM2 hS2
        have hWl : (wr (A.lo.addH (H ++ [some (2, [boxE none]), some (1, yRow (pad d))]) (pad d)) mid (A.lo.addL (H ++ [some (2, [boxE none]), some (1, yRow (pad d))]).length (pad d))).length = (H ++ [some (2, [boxE none]), some (1, yRow (pad d))]).length + 4 := by rw [wr_len, addH_len]
        simp only [putS, List.map_append, List.map_cons, List.map_nil]
        generalize wr (A.lo.addH (H ++ [some (2, [boxE none]), some (1, yRow (pad d))]) (pad d)) mid (A.lo.addL (H ++ [some (2, [boxE none]), some (1, yRow (pad d))]).length (pad d)) = W at *
        have hyp := yRow_pad d
        have hyl := yRow_len (pad d)
        rw [hpl] at hyl
        have hmx := maxlen h17
        have hwlt : ¬ W.length < H.length + 1 + 1 := by simp at hWl; omega
        have hfl := yRow_flat (pad d)
        have hmk := allV_b (pad d)
        have hbl := bRow_len (pad d)
        rw [hpl] at hbl
        have htk : (bRow (pad d)).take 16 = bRow (pad d) := List.take_of_length_le (by omega)
        have hml16 : min d.length 16 = d.length := by omega
        simp at hadd hput
        simp only [boxE, enV, dA] at hadd hput
        simp [Try.ntmps22, Try.results22, cSl, cn0, cI, cD, cR, cL, cF, cA, rg13, hspan, h16', hd, yRow_len, hM, hS, hf, hg, hE, hfk, hgk, hml, hsl, hel, gM, gS, gE, List.getElem?_append, List.set_append, hroom, hyp, hyl, htk, hmx, hwlt, hfl, hmk, hbl, hpl, hadd, hput, hM2, hS2, hE2, hml16, h17]
        exact Ent.refl _ _
 ·
   by_cases he : spanE A s at_ 1 rights = 0
   case neg =>
    rw [if_pos he] at hr
    simp only [Prod.mk.injEq] at hr
    obtain ⟨rfl, rfl⟩ := hr
    simp [Try.ntmps22, Try.results22, cSl, cn0, cI, cD, cR, cL, cF, cA, rg13, hspan, he]
    exact Ent.refl _ _
   case pos =>
    rw [if_neg (fun h => h he)] at hr
    rw [he] at hspan
    unfold spanE at he
    cases hg : getK s A.sps with
    | none => rw [hg] at he; cases he
    | some x =>
     obtain ⟨mp, es⟩ := x
     simp only [hg] at he hr
     have hsb : ¬ spanBad at_ 1 rights := by
      intro h
      rw [if_pos h] at he; cases he
     unfold spanBad at hsb
     obtain ⟨hE, hnd, hfk⟩ := rp.findE hg at_
     have hml : mid < H.length := rp.st.lt cell_m
     have hsl : A.lo.sid < H.length := (List.getElem?_eq_some_iff.1 hS).1
     have hel : mp < H.length := (List.getElem?_eq_some_iff.1 hE).1
     have gM := (List.getElem?_eq_some_iff.1 hM).2
     have gS := (List.getElem?_eq_some_iff.1 hS).2
     have gE := (List.getElem?_eq_some_iff.1 hE).2
     simp only [Lo.row] at hM gM
     by_cases h16 : 16 < d.length
     ·have h16' : (16 : Int) < (d.length : Int) := by omega
      rw [if_pos h16] at hr
      simp only [Prod.mk.injEq] at hr
      obtain ⟨rfl, rfl⟩ := hr
      first
      | exact absurd h16 (by rw [hd0]; simp)
      |(simp [Try.ntmps22, Try.results22, cSl, cn0, cI, cD, cR, cL, cF, cA, rg13, hspan, h16', hid, gid, hidl, (List.take_of_length_le (Nat.le_of_eq (yRow_len d)) : List.take d.length (yRow d) = yRow d), yRow_len]
        exact Ent.refl _ _)
     ·rw [if_neg h16] at hr
      have h16' : ¬ (16 : Int) < (d.length : Int) := by omega
      cases hgk : getK at_ es with
      | some y =>
       obtain ⟨p, rg⟩ := y
       rw [if_pos (by rw [hgk]; rfl), hgk] at hr
       simp only [Prod.mk.injEq] at hr
       obtain ⟨rfl, rfl⟩ := hr
       simp [Try.ntmps22, Try.results22, cSl, cn0, cI, cD, cR, cL, cF, cA, rg13, hspan, h16', hid, gid, hidl, (List.take_of_length_le (Nat.le_of_eq (yRow_len d)) : List.take d.length (yRow d) = yRow d), yRow_len, hM, hS, hf, hg, hE, hfk, hgk, hml, hsl, hel, gM, gS, gE, List.getElem?_append, List.set_append]
       exact Ent.refl _ _
      | none =>
       rw [if_neg (by rw [hgk]; simp)] at hr
       have rp2 : Rep (H ++ [some (2, [boxE none])]) mid A := rp.app
       have hroom := room_eval (n := 1) rp2
       simp only [boxE] at hroom
       by_cases hrm : 1 ≤ A.lo.fr + A.lo.sl - A.lo.pgs.length
       case neg =>
        rw [if_neg hrm] at hr
        simp only [hrm, decide_false] at hroom
        simp only [Prod.mk.injEq] at hr
        obtain ⟨rfl, rfl⟩ := hr
        simp [Try.ntmps22, Try.results22, cSl, cn0, cI, cD, cR, cL, cF, cA, rg13, hspan, h16', hid, gid, hidl, (List.take_of_length_le (Nat.le_of_eq (yRow_len d)) : List.take d.length (yRow d) = yRow d), yRow_len, hM, hS, hf, hg, hE, hfk, hgk, hml, hsl, hel, gM, gS, gE, List.getElem?_append, List.set_append, hroom]
        exact Ent.refl _ _
       case pos =>
        rw [if_pos hrm] at hr
        simp only [hrm, decide_true] at hroom
        simp only [Prod.mk.injEq] at hr
        obtain ⟨rfl, rfl⟩ := hr
        have hle := rp.st.wf.le
        have h17 : d.length ≤ 16 := by omega
        have hpl := pad_len h17
        have r1 : Rep (H ++ [some (2, [boxE none]), some (1, yRow (pad d))]) mid A := rp.app
        have hadd := add_eval r1 (d := pad d) (by omega) hpl
        have r2 := r1.addL (d := pad d) hpl (by omega)
        have hM2 := r2.st.mem
        have hS2 := r2.sp
        obtain ⟨hE2, _, _⟩ := r2.findE hg at_
        have hsid := (addL_lid (d := pad d) (fun p => r1.st.id_lt (p := p))).2.1
        have hput := put_key (g := enRow) (v := enV) (fun _ => rfl) at_ ((H ++ [some (2, [boxE none]), some (1, yRow (pad d))]).length + 1, rights) es hnd
        rw [putK_new (getK_none.1 hgk)] at hput
        simp only [Lo.row] at hM2
        rw [hsid] at hM2 hS2
        have hWl : (wr (A.lo.addH (H ++ [some (2, [boxE none]), some (1, yRow (pad d))]) (pad d)) mid (A.lo.addL (H ++ [some (2, [boxE none]), some (1, yRow (pad d))]).length (pad d))).length = (H ++ [some (2, [boxE none]), some (1, yRow (pad d))]).length + 4 := by rw [wr_len, addH_len]
        simp only [putS, List.map_append, List.map_cons, List.map_nil]
        generalize wr (A.lo.addH (H ++ [some (2, [boxE none]), some (1, yRow (pad d))]) (pad d)) mid (A.lo.addL (H ++ [some (2, [boxE none]), some (1, yRow (pad d))]).length (pad d)) = W at *
        have hyp := yRow_pad d
        have hyl := yRow_len (pad d)
        rw [hpl] at hyl
        have hmx := maxlen h17
        have hwlt : ¬ W.length < H.length + 1 + 1 := by simp at hWl; omega
        have hfl := yRow_flat (pad d)
        have hmk := allV_b (pad d)
        have hbl := bRow_len (pad d)
        rw [hpl] at hbl
        have htk : (bRow (pad d)).take 16 = bRow (pad d) := List.take_of_length_le (by omega)
        have hml16 : min d.length 16 = d.length := by omega
        simp at hadd hput
        simp only [boxE, enV, dA] at hadd hput
        simp [Try.ntmps22, Try.results22, cSl, cn0, cI, cD, cR, cL, cF, cA, rg13, hspan, h16', hid, gid, hidl, (List.take_of_length_le (Nat.le_of_eq (yRow_len d)) : List.take d.length (yRow d) = yRow d), yRow_len, hM, hS, hf, hg, hE, hfk, hgk, hml, hsl, hel, gM, gS, gE, List.getElem?_append, List.set_append, hroom, hyp, hyl, htk, hmx, hwlt, hfl, hmk, hbl, hpl, hadd, hput, hM2, hS2, hE2, hml16, h17]
        exact Ent.refl _ _
 ·
   by_cases he : spanE A s at_ 1 rights = 0
   case neg =>
    rw [if_pos he] at hr
    simp only [Prod.mk.injEq] at hr
    obtain ⟨rfl, rfl⟩ := hr
    simp [Try.ntmps22, Try.results22, cSl, cn0, cI, cD, cR, cL, cF, cA, rg13, hspan, he]
    exact Ent.refl _ _
   case pos =>
    rw [if_neg (fun h => h he)] at hr
    rw [he] at hspan
    unfold spanE at he
    cases hg : getK s A.sps with
    | none => rw [hg] at he; cases he
    | some x =>
     obtain ⟨mp, es⟩ := x
     simp only [hg] at he hr
     have hsb : ¬ spanBad at_ 1 rights := by
      intro h
      rw [if_pos h] at he; cases he
     unfold spanBad at hsb
     obtain ⟨hE, hnd, hfk⟩ := rp.findE hg at_
     have hml : mid < H.length := rp.st.lt cell_m
     have hsl : A.lo.sid < H.length := (List.getElem?_eq_some_iff.1 hS).1
     have hel : mp < H.length := (List.getElem?_eq_some_iff.1 hE).1
     have gM := (List.getElem?_eq_some_iff.1 hM).2
     have gS := (List.getElem?_eq_some_iff.1 hS).2
     have gE := (List.getElem?_eq_some_iff.1 hE).2
     simp only [Lo.row] at hM gM
     by_cases h16 : 16 < d.length
     ·have h16' : (16 : Int) < (d.length : Int) := by omega
      rw [if_pos h16] at hr
      simp only [Prod.mk.injEq] at hr
      obtain ⟨rfl, rfl⟩ := hr
      first
      | exact absurd h16 (by rw [hd0]; simp)
      |(simp [Try.ntmps22, Try.results22, cSl, cn0, cI, cD, cR, cL, cF, cA, rg13, hspan, h16', lit0 hd0, (by rw [hd0]; rfl : d.length = 0), (by rw [hd0]; rfl : yRow d = []), yRow_len]
        exact Ent.refl _ _)
     ·rw [if_neg h16] at hr
      have h16' : ¬ (16 : Int) < (d.length : Int) := by omega
      cases hgk : getK at_ es with
      | some y =>
       obtain ⟨p, rg⟩ := y
       rw [if_pos (by rw [hgk]; rfl), hgk] at hr
       simp only [Prod.mk.injEq] at hr
       obtain ⟨rfl, rfl⟩ := hr
       simp [Try.ntmps22, Try.results22, cSl, cn0, cI, cD, cR, cL, cF, cA, rg13, hspan, h16', lit0 hd0, (by rw [hd0]; rfl : d.length = 0), (by rw [hd0]; rfl : yRow d = []), yRow_len, hM, hS, hf, hg, hE, hfk, hgk, hml, hsl, hel, gM, gS, gE, List.getElem?_append, List.set_append]
       exact Ent.refl _ _
      | none =>
       rw [if_neg (by rw [hgk]; simp)] at hr
       have rp2 : Rep (H ++ [some (2, [boxE none])]) mid A := rp.app
       have hroom := room_eval (n := 1) rp2
       simp only [boxE] at hroom
       by_cases hrm : 1 ≤ A.lo.fr + A.lo.sl - A.lo.pgs.length
       case neg =>
        rw [if_neg hrm] at hr
        simp only [hrm, decide_false] at hroom
        simp only [Prod.mk.injEq] at hr
        obtain ⟨rfl, rfl⟩ := hr
        simp [Try.ntmps22, Try.results22, cSl, cn0, cI, cD, cR, cL, cF, cA, rg13, hspan, h16', lit0 hd0, (by rw [hd0]; rfl : d.length = 0), (by rw [hd0]; rfl : yRow d = []), yRow_len, hM, hS, hf, hg, hE, hfk, hgk, hml, hsl, hel, gM, gS, gE, List.getElem?_append, List.set_append, hroom]
        exact Ent.refl _ _
       case pos =>
        rw [if_pos hrm] at hr
        simp only [hrm, decide_true] at hroom
        simp only [Prod.mk.injEq] at hr
        obtain ⟨rfl, rfl⟩ := hr
        have hle := rp.st.wf.le
        have h17 : d.length ≤ 16 := by omega
        have hpl := pad_len h17
        have r1 : Rep (H ++ [some (2, [boxE none]), some (1, yRow (pad d))]) mid A := rp.app
        have hadd := add_eval r1 (d := pad d) (by omega) hpl
        have r2 := r1.addL (d := pad d) hpl (by omega)
        have hM2 := r2.st.mem
        have hS2 := r2.sp
        obtain ⟨hE2, _, _⟩ := r2.findE hg at_
        have hsid := (addL_lid (d := pad d) (fun p => r1.st.id_lt (p := p))).2.1
        have hput := put_key (g := enRow) (v := enV) (fun _ => rfl) at_ ((H ++ [some (2, [boxE none]), some (1, yRow (pad d))]).length + 1, rights) es hnd
        rw [putK_new (getK_none.1 hgk)] at hput
        simp only [Lo.row] at hM2
        rw [hsid] at hM2 hS2
        have hWl : (wr (A.lo.addH (H ++ [some (2, [boxE none]), some (1, yRow (pad d))]) (pad d)) mid (A.lo.addL (H ++ [some (2, [boxE none]), some (1, yRow (pad d))]).length (pad d))).length = (H ++ [some (2, [boxE none]), some (1, yRow (pad d))]).length + 4 := by rw [wr_len, addH_len]
        simp only [putS, List.map_append, List.map_cons, List.map_nil]
        generalize wr (A.lo.addH (H ++ [some (2, [boxE none]), some (1, yRow (pad d))]) (pad d)) mid (A.lo.addL (H ++ [some (2, [boxE none]), some (1, yRow (pad d))]).length (pad d)) = W at *
        have hyp := yRow_pad d
        have hyl := yRow_len (pad d)
        rw [hpl] at hyl
        have hmx := maxlen h17
        have hwlt : ¬ W.length < H.length + 1 + 1 := by simp at hWl; omega
        have hfl := yRow_flat (pad d)
        have hmk := allV_b (pad d)
        have hbl := bRow_len (pad d)
        rw [hpl] at hbl
        have htk : (bRow (pad d)).take 16 = bRow (pad d) := List.take_of_length_le (by omega)
        have hml16 : min d.length 16 = d.length := by omega
        simp at hadd hput
        simp only [boxE, enV, dA] at hadd hput
        simp [Try.ntmps22, Try.results22, cSl, cn0, cI, cD, cR, cL, cF, cA, rg13, hspan, h16', lit0 hd0, (by rw [hd0]; rfl : d.length = 0), (by rw [hd0]; rfl : yRow d = []), yRow_len, hM, hS, hf, hg, hE, hfk, hgk, hml, hsl, hel, gM, gS, gE, List.getElem?_append, List.set_append, hroom, hyp, hyl, htk, hmx, hwlt, hfl, hmk, hbl, hpl, hadd, hput, hM2, hS2, hE2, hml16, h17]
        exact Ent.refl _ _
 ·
   by_cases he : spanE A s at_ 1 rights = 0
   case neg =>
    rw [if_pos he] at hr
    simp only [Prod.mk.injEq] at hr
    obtain ⟨rfl, rfl⟩ := hr
    simp [Try.ntmps22, Try.results22, cSl, cn0, cI, cD, cR, cL, cF, cA, rg13, hspan, he]
    exact Ent.refl _ _
   case pos =>
    rw [if_neg (fun h => h he)] at hr
    rw [he] at hspan
    unfold spanE at he
    cases hg : getK s A.sps with
    | none => rw [hg] at he; cases he
    | some x =>
     obtain ⟨mp, es⟩ := x
     simp only [hg] at he hr
     have hsb : ¬ spanBad at_ 1 rights := by
      intro h
      rw [if_pos h] at he; cases he
     unfold spanBad at hsb
     obtain ⟨hE, hnd, hfk⟩ := rp.findE hg at_
     have hml : mid < H.length := rp.st.lt cell_m
     have hsl : A.lo.sid < H.length := (List.getElem?_eq_some_iff.1 hS).1
     have hel : mp < H.length := (List.getElem?_eq_some_iff.1 hE).1
     have gM := (List.getElem?_eq_some_iff.1 hM).2
     have gS := (List.getElem?_eq_some_iff.1 hS).2
     have gE := (List.getElem?_eq_some_iff.1 hE).2
     simp only [Lo.row] at hM gM
     by_cases h16 : 16 < d.length
     ·have h16' : (16 : Int) < (d.length : Int) := by omega
      rw [if_pos h16] at hr
      simp only [Prod.mk.injEq] at hr
      obtain ⟨rfl, rfl⟩ := hr
      first
      | exact absurd h16 (by rw [hd0]; simp)
      |(simp [Try.ntmps22, Try.results22, cSl, cn0, cI, cD, cR, cL, cF, cA, rg13, hspan, h16', lit0 hd0, (by rw [hd0]; rfl : d.length = 0), (by rw [hd0]; rfl : yRow d = []), yRow_len]
        exact Ent.refl _ _)
     ·rw [if_neg h16] at hr
      have h16' : ¬ (16 : Int) < (d.length : Int) := by omega
      cases hgk : getK at_ es with
      | some y =>
       obtain ⟨p, rg⟩ := y
       rw [if_pos (by rw [hgk]; rfl), hgk] at hr
       simp only [Prod.mk.injEq] at hr
       obtain ⟨rfl, rfl⟩ := hr
       simp [Try.ntmps22, Try.results22, cSl, cn0, cI, cD, cR, cL, cF, cA, rg13, hspan, h16', lit0 hd0, (by rw [hd0]; rfl : d.length = 0), (by rw [hd0]; rfl : yRow d = []), yRow_len, hM, hS, hf, hg, hE, hfk, hgk, hml, hsl, hel, gM, gS, gE, List.getElem?_append, List.set_append]
       exact Ent.refl _ _
      | none =>
       rw [if_neg (by rw [hgk]; simp)] at hr
       have rp2 : Rep (H ++ [some (2, [boxE none])]) mid A := rp.app
       have hroom := room_eval (n := 1) rp2
       simp only [boxE] at hroom
       by_cases hrm : 1 ≤ A.lo.fr + A.lo.sl - A.lo.pgs.length
       case neg =>
        rw [if_neg hrm] at hr
        simp only [hrm, decide_false] at hroom
        simp only [Prod.mk.injEq] at hr
        obtain ⟨rfl, rfl⟩ := hr
        simp [Try.ntmps22, Try.results22, cSl, cn0, cI, cD, cR, cL, cF, cA, rg13, hspan, h16', lit0 hd0, (by rw [hd0]; rfl : d.length = 0), (by rw [hd0]; rfl : yRow d = []), yRow_len, hM, hS, hf, hg, hE, hfk, hgk, hml, hsl, hel, gM, gS, gE, List.getElem?_append, List.set_append, hroom]
        exact Ent.refl _ _
       case pos =>
        rw [if_pos hrm] at hr
        simp only [hrm, decide_true] at hroom
        simp only [Prod.mk.injEq] at hr
        obtain ⟨rfl, rfl⟩ := hr
        have hle := rp.st.wf.le
        have h17 : d.length ≤ 16 := by omega
        have hpl := pad_len h17
        have r1 : Rep (H ++ [some (2, [boxE none]), some (1, yRow (pad d))]) mid A := rp.app
        have hadd := add_eval r1 (d := pad d) (by omega) hpl
        have r2 := r1.addL (d := pad d) hpl (by omega)
        have hM2 := r2.st.mem
        have hS2 := r2.sp
        obtain ⟨hE2, _, _⟩ := r2.findE hg at_
        have hsid := (addL_lid (d := pad d) (fun p => r1.st.id_lt (p := p))).2.1
        have hput := put_key (g := enRow) (v := enV) (fun _ => rfl) at_ ((H ++ [some (2, [boxE none]), some (1, yRow (pad d))]).length + 1, rights) es hnd
        rw [putK_new (getK_none.1 hgk)] at hput
        simp only [Lo.row] at hM2
        rw [hsid] at hM2 hS2
        have hWl : (wr (A.lo.addH (H ++ [some (2, [boxE none]), some (1, yRow (pad d))]) (pad d)) mid (A.lo.addL (H ++ [some (2, [boxE none]), some (1, yRow (pad d))]).length (pad d))).length = (H ++ [some (2, [boxE none]), some (1, yRow (pad d))]).length + 4 := by rw [wr_len, addH_len]
        simp only [putS, List.map_append, List.map_cons, List.map_nil]
        generalize wr (A.lo.addH (H ++ [some (2, [boxE none]), some (1, yRow (pad d))]) (pad d)) mid (A.lo.addL (H ++ [some (2, [boxE none]), some (1, yRow (pad d))]).length (pad d)) = W at *
        have hyp := yRow_pad d
        have hyl := yRow_len (pad d)
        rw [hpl] at hyl
        have hmx := maxlen h17
        have hwlt : ¬ W.length < H.length + 1 + 1 := by simp at hWl; omega
        have hfl := yRow_flat (pad d)
        have hmk := allV_b (pad d)
        have hbl := bRow_len (pad d)
        rw [hpl] at hbl
        have htk : (bRow (pad d)).take 16 = bRow (pad d) := List.take_of_length_le (by omega)
        have hml16 : min d.length 16 = d.length := by omega
        simp at hadd hput
        simp only [boxE, enV, dA] at hadd hput
        simp [Try.ntmps22, Try.results22, cSl, cn0, cI, cD, cR, cL, cF, cA, rg13, hspan, h16', lit0 hd0, (by rw [hd0]; rfl : d.length = 0), (by rw [hd0]; rfl : yRow d = []), yRow_len, hM, hS, hf, hg, hE, hfk, hgk, hml, hsl, hel, gM, gS, gE, List.getElem?_append, List.set_append, hroom, hyp, hyl, htk, hmx, hwlt, hfl, hmk, hbl, hpl, hadd, hput, hM2, hS2, hE2, hml16, h17]
        exact Ent.refl _ _
end
section
attribute [local simp] pgRow_len pg16 pg17 pg18 pg16' pg17' pg18' ww16 ww17 ww18 keyI_ok aLookup aMapUpdate aDelete lkRes bin_mn spV enV Try.underlying65 Try.underlying55
end
end
end Go.Proofs.Ytibpipgabcpaoaa
