/- Phase B: the walk's round at the link. -/
import Derived.Test.YtdakclpneghkmaaGreatDoorBc
namespace Go.Proofs.GD
set_option linter.unusedSectionVars false
variable [Go.AI.Sym]
open Go Go.AI Go.RowKit
set_option maxRecDepth 100000
set_option maxHeartbeats 2000000
set_option linter.unusedSimpArgs false
set_option linter.unusedVariables false
attribute [local simp] wpA wpX RunA RunD runF foot footP footB idsA bare apart runL step1 gsel_f gsel_t gsel_s res_same res_and1 res_and2 res_and3 res_and4 res_and5 res_and6 res_false res_true res_v res_ptr res_fptr res_osl res_xsl soft aAppendZ aCap ovlI ovlJ res_fsl res_esl res_agg res_tup res_fn res_junk res_anyb aPick hk imp_left iteV dstOk guardOk astep astepE AI.ev AI.look AI.put envOf aBox cellsOf allOne allOneA oneA Value.oneCell' Value.cells newObj' aFieldAddr aLoad obj readAt thenA blockA condA retA resA tupA view hot hotC hotR depthV cAgg cInt cBool mkAgg allV aAlloc aBuild fillA writeAt aStore isAggA aField idx aIndexAddr aIndex bnd aSlice aExtract aLen aBuiltin aCall isStatic eqAgg eqTy eqC ev_add ev_sub ev_mul ev_quo ev_rem ev_and ev_or ev_xor ev_andNot ev_shl ev_shr ev_eql ev_neq ev_lss ev_leq ev_gtr ev_geq ev_agg w64 wu32 wu8 ev_not ev_neg Cod.plain RCod.plain argM finM cold coldC coldR goInt intDec boolDec aggDec Weaker heapW lowA lowC Again slDec undef aBuildSlice setRows aAppend rowsOf aMakeSlice aClear aCopy softer_self softer_nil valsOf ev_min2 ev_max2 hotR_set hotR_append take_map_set irow_cold irow_mapM irow_mapMc irow_view irow_viewc irow_hotR irow_ren irow_renc irow_low WeakT heapT thOf ren renC AgainT NextF NextT fnDec cFn rNil selfLt natLt0 natLt1 getLastMap frame0 frame1 own0 own1 argG finG tau tauI tauO tauC bareA bareC bareH irow_tau irow_tauc irow_bare irow_flat irow_bareR ownA_nil ownT_nil ownA_c ownT_c ownA_s ownT_s takeMapLen footC plainA noId noIdC cloneF frame0F frame1F insertF replaceI replaceF cellDec rCell fpDec cFp rTwo deleteF allV_oA oneA_oA res_oA RunR RunE runFT footAt hotR_cat tmodN aEqH aSliceA frameN newA newC newH fqSz3 fqBy3 fqAg3 fqZe3 fqSl3 fqAr3 fqPl3 fqSz4 fqBy4 fqAg4 fqZe4 fqSl4 fqAr4 fqPl4 fqSz5 fqBy5 fqAg5 fqZe5 fqSl5 fqAr5 fqPl5 fqSz27 fqBy27 fqAg27 fqZe27 fqSl27 fqAr27 fqPl27 fqSz28 fqBy28 fqAg28 fqZe28 fqSl28 fqAr28 fqPl28 fqSz39 fqBy39 fqAg39 fqZe39 fqSl39 fqAr39 fqPl39 fqCv3x5 fqCv5x3 fqEb4 fqNb4 fqLn28 fqNe28 fqNn28 fqOe28 fqOn28 fqXe28 fqXn28 fqLn39 fqNe39 fqNn39 fqOe39 fqOn39 fqXe39 fqXn39 fqFm13 fqFi13 fqSz9 fqBy9 fqAg9 fqZe9 fqSl9 fqAr9 fqPl9 fqSz46 fqBy46 fqAg46 fqZe46 fqSl46 fqAr46 fqPl46 fqLt9 fqLn46 fqNe46 fqNn46 fqOe46 fqOn46 fqXe46 fqXn46 fqFm63 fqFi63 fqFm129 fqFi129 fqFm207 fqFi207 fqFm270 fqFi270 fqFm271 fqFi271 fqFm272 fqFi272 fqFm318 fqFm319 fqFi319 fqFm320 fqFi320 fqFm350 ev_eqlS ev_neqS
def f246o19 : Array Oper := #[{ dst := some 92, op := Op.move (Operand.tmp 0), type := 368, pos := "path.go:97", after := #[], guard := none }, { dst := some 93, op := Op.move (Operand.tmp 9), type := 3, pos := "path.go:97", after := #[], guard := none }, { dst := some 94, op := Op.call { callee := Callee.value (Operand.func 303), args := #[Operand.tmp 92, Operand.tmp 93], argTypes := #[368, 3] }, type := 422, pos := "path.go:97", after := #[{ on := 0, ground := Ground.data }, { on := 1, ground := Ground.data }], guard := none }, { dst := some 91, op := Op.move (Operand.tmp 94), type := 422, pos := "path.go:97", after := #[{ on := 2, ground := Ground.data }], guard := none }, { dst := some 95, op := Op.extract (Operand.tmp 91) 0, type := 46, pos := "path.go:97", after := #[{ on := 3, ground := Ground.data }], guard := none }, { dst := some 96, op := Op.extract (Operand.tmp 91) 1, type := 27, pos := "path.go:97", after := #[{ on := 3, ground := Ground.data }, { on := 6, ground := Ground.gcOnly Departure.lateStores }], guard := none }, { dst := some 12, op := Op.assign (Operand.tmp 95), type := 46, pos := "path.go:97", after := #[{ on := 4, ground := Ground.data }, { on := 2, ground := Ground.chain }, { on := 0, ground := Ground.phase }, { on := 1, ground := Ground.phase }, { on := 2, ground := Ground.phase }, { on := 3, ground := Ground.phase }, { on := 4, ground := Ground.phase }, { on := 5, ground := Ground.textOnly Departure.lateStores }], guard := none }, { dst := some 13, op := Op.assign (Operand.tmp 96), type := 27, pos := "path.go:97", after := #[{ on := 5, ground := Ground.data }, { on := 6, ground := Ground.chain }, { on := 0, ground := Ground.phase }, { on := 1, ground := Ground.phase }, { on := 2, ground := Ground.phase }, { on := 3, ground := Ground.phase }, { on := 4, ground := Ground.phase }, { on := 5, ground := Ground.phase }, { on := 6, ground := Ground.phase }], guard := none }]
def f246o20 : Array Oper := #[{ dst := some 97, op := Op.move (Operand.tmp 13), type := 27, pos := "path.go:98", after := #[], guard := none }, { dst := some 98, op := Op.binOp BinOp.neq 27 (Operand.tmp 97) (Operand.const (Value.int IntKind.i64 0)) 27, type := 4, pos := "path.go:98", after := #[{ on := 0, ground := Ground.data }], guard := none }]
def f246o22 : Array Oper := #[{ dst := some 100, op := Op.move (Operand.tmp 12), type := 46, pos := "path.go:101", after := #[], guard := none }, { dst := some 101, op := Op.move (Operand.tmp 1), type := 46, pos := "path.go:101", after := #[], guard := none }, { dst := some 102, op := Op.call { callee := Callee.builtin Builtin.append, args := #[Operand.tmp 100, Operand.tmp 101], argTypes := #[46, 46] }, type := 46, pos := "path.go:101", after := #[{ on := 0, ground := Ground.data }, { on := 1, ground := Ground.data }], guard := none }, { dst := some 1, op := Op.assign (Operand.tmp 102), type := 46, pos := "path.go:101", after := #[{ on := 2, ground := Ground.data }, { on := 2, ground := Ground.chain }, { on := 0, ground := Ground.phase }, { on := 1, ground := Ground.phase }, { on := 2, ground := Ground.phase }], guard := none }]
theorem fqNm303 : (Tryz.f303.name = "runtime.NumGoroutine") = False := eq_false (by decide)
def g9 (l : AVal) : Env := (90, .v (.bool true)) :: eE l (.v (.int .i64 4))
def g12 (l x y : AVal) : Env := [(12, x), (13, y), (0, .ptr 2827 10 0 0), (1, l), (2, .v (.bool true))]
theorem k19 {H : Heap} {l r : AVal} {S : LS} {n' : Nat} {l' : LS} {x y : AVal} (hI : InlOk Tryz.prog 303 (snapM [.ptr 2827 10 0 0, .v (.int .i64 4)] 2828 S r n' l')) (hsub : SubH (mkH 2828 S) H)
  (h : (r = .tup [x, y] ∧ res true x = x ∧ res true y = y) ∨ ∃ a b, r = .v (.tuple #[a, b]) ∧ x = .v a ∧ y = .v b) : AWp Tryz.prog 125 2828 (.region 19 f246o19 false) (fun e ρ' H' => e = .normal ∧ H' = mkH n' l' ∧ ∀ q ∈ g12 l x y, AI.look ρ' q.1 = q.2) (g9 l) H := by
 have hs : snapM [.ptr 2827 10 0 0, .v (.int .i64 4)] 2828 S r n' l' [.ptr 2827 10 0 0, .v (.int .i64 4)] H = some (r, mkH n' l') := if_pos ⟨rfl, hsub⟩
 refine wpA_sound (noOrc_ok.withI hI) fqMix _ _ _ _ (by kernel_rfl) ?_
 rcases h with ⟨rfl, h1, h2⟩ | ⟨a, b, rfl, rfl, rfl⟩ <;> simp [f246o19, noOrc, Orc.withI, g9, g12, eE, hs, fqNm303, *]
theorem k20 {H : Heap} {l x : AVal} {e : Int} : AWp Tryz.prog 125 2828 (.region 20 f246o20 false) (fun ex ρ' H' => ex = .normal ∧ H' = H ∧ ∀ q ∈ (98, .v (.bool (e != 0))) :: g12 l x (.v (.int .i64 e)), AI.look ρ' q.1 = q.2) (g12 l x (.v (.int .i64 e))) H := by
 refine wpA_sound noOrc_ok fqMix _ _ _ _ (by kernel_rfl) ?_
 simp [f246o20, noOrc, g12]
theorem fqSe46 : sliceElem Tryz.prog 46 = some 9 := by kernel_rfl
theorem k22a {H : Heap} {rows rows2 : List Row} {y : AVal} (hlen : H.length = 2829) (hob : H[2828]? = some (some (1, rows))) (hl : rows.length + rows2.length ≤ 4294967296) (hne : rows2 ≠ []) :
  AWp Tryz.prog 125 2828 (.region 22 f246o22 false) (fun e ρ' H' => e = .normal ∧ H' = (H.set 2828 none) ++ [some (1, rows ++ rows2)] ∧ ∀ q ∈ [(0, AVal.ptr 2827 10 0 0), (1, .osl 2829 1 0 (rows.length + rows2.length) (rows.length + rows2.length)), (2, .v (.bool true))], AI.look ρ' q.1 = q.2) (g12 (.fsl true 1 rows2) (.osl 2828 1 0 rows.length rows.length) y) H := by
 have hp : 0 < rows2.length := List.length_pos_iff.2 hne
 have h1 : ¬ (rows.length + rows2.length ≤ rows.length) := by omega
 have hob2 : H[2828]'(by omega) = some (1, rows) := (List.getElem?_eq_some_iff.1 hob).2
 refine wpA_sound noOrc_ok fqMix _ _ _ _ (by kernel_rfl) ?_
 simp [f246o22, noOrc, g12, hlen, hob, hl, h1, hob2, fqSe46, fqSz9, fqZe9, fqBy9, aAppend, rowsOf]
theorem k22b {H : Heap} {rows : List Row} {y : AVal} (hlen : H.length = 2829) (hob : H[2828]? = some (some (1, rows))) (hl : rows.length ≤ 4294967296) :
  AWp Tryz.prog 125 2828 (.region 22 f246o22 false) (fun e ρ' H' => e = .normal ∧ H' = H.set 2828 (some (1, rows)) ∧ ∀ q ∈ [(0, AVal.ptr 2827 10 0 0), (1, .osl 2828 1 0 rows.length rows.length), (2, .v (.bool true))], AI.look ρ' q.1 = q.2) (g12 (.fsl true 1 []) (.osl 2828 1 0 rows.length rows.length) y) H := by
 have hob2 : H[2828]'(by omega) = some (1, rows) := (List.getElem?_eq_some_iff.1 hob).2
 refine wpA_sound noOrc_ok fqMix _ _ _ _ (by kernel_rfl) ?_
 simp [f246o22, noOrc, g12, hlen, hob, hl, hob2, fqSe46, fqSz9, fqZe9, fqBy9, aAppend, rowsOf]
theorem k22c {H : Heap} {rows2 : List Row} {y : AVal} (hl : rows2.length ≤ 4294967296) (hne : rows2 ≠ []) :
  AWp Tryz.prog 125 2828 (.region 22 f246o22 false) (fun e ρ' H' => e = .normal ∧ H' = H ++ [some (1, rows2)] ∧ ∀ q ∈ [(0, AVal.ptr 2827 10 0 0), (1, .osl H.length 1 0 rows2.length rows2.length), (2, .v (.bool true))], AI.look ρ' q.1 = q.2) (g12 (.fsl true 1 rows2) .esl y) H := by
 have hp : ¬ (rows2.length = 0) := by have := List.length_pos_iff.2 hne; omega
 refine wpA_sound noOrc_ok fqMix _ _ _ _ (by kernel_rfl) ?_
 simp [f246o22, noOrc, g12, hl, hp, hne, fqSe46, fqSz9, fqZe9, fqBy9, aAppend, rowsOf]
theorem k22d {H : Heap} {y : AVal} :
  AWp Tryz.prog 125 2828 (.region 22 f246o22 false) (fun e ρ' H' => e = .normal ∧ H' = H ∧ ∀ q ∈ [(0, AVal.ptr 2827 10 0 0), (1, .esl), (2, .v (.bool true))], AI.look ρ' q.1 = q.2) (g12 (.fsl true 1 []) .esl y) H := by
 refine wpA_sound noOrc_ok fqMix _ _ _ _ (by kernel_rfl) ?_
 simp [f246o22, noOrc, g12, fqSe46, fqSz9, fqZe9, fqBy9, aAppend, rowsOf]
end Go.Proofs.GD
/- Phase B: the walk's round at the link, whole. -/
namespace Go.Proofs.GD
set_option linter.unusedSectionVars false
variable [Go.AI.Sym]
open Go Go.AI Go.RowKit
set_option maxRecDepth 100000
set_option maxHeartbeats 2000000
noncomputable def wX21 : Code := cond2 (sndC (fstC (sndC (cond2 (sndC wC18)))))
noncomputable def wX19 : Code := .seq (.region 19 f246o19 false) (.seq (.seq (.region 20 f246o20 false) (.cond (.tmp 98) wX21 .skip)) (.seq (.region 22 f246o22 false) (.exit 1)))
theorem wT_eq : wT = .seq wR12 (.seq wB13 (.seq wR15 (.seq wB16 (.seq (.seq wR18 (.cond (.tmp 90) wX19 .skip)) wRest)))) := by kernel_rfl
theorem b_21 (bx : Nat → LO) (l x : AVal) : obsB (runG 246 125 cat4 wX21 (g12 l x (.v (.int .i64 14))) (mkT 2828 (SBB 9 bx))) 1 2828 SWb [6] ((kWB 9 bx).map Prod.fst) = some ([(6, .v (.int .i64 14))], (kWB 9 bx).map fun p => some (absO (toO p.2))) := by kernel_rfl
variable {bx : Nat → LO}
theorem sws_ok (hB : Bl 2822 bx) (c : Int) : okLS 2854 (SWs ++ kWB c bx) = true := okLS_app (by kernel_rfl) fun p hp => by
 obtain ⟨h1, h2⟩ := kWB_ok hB c p hp
 exact ⟨by omega, h2⟩
theorem sbb_okn (hB : Bl 2822 bx) (c : Int) {n : Nat} (hn : n = 2853 ∨ n = 2829) : okLS n (SBB c bx) = true := okLS_app (by rcases hn with rfl | rfl <;> kernel_rfl) fun p hp => by
 obtain ⟨h1, h2⟩ := kWB_ok hB c p hp
 exact ⟨by omega, h2⟩
theorem lk_pre (hB : Bl 2822 bx) {c : Int} {ps : List ByteArray} {Q : Post} (h : AWp Tryz.prog 125 2828 wX19 (fun e ρ H => e ≠ .normal ∧ Q e ρ H) (g9 (psA ps)) (mkH 2828 (SBB c bx))) : AWp Tryz.prog 125 2828 wT Q (wkE (psA ps) (.v (.string elB))) (mkH 2828 (SBB c bx)) := by
 rw [wT_eq]
 refine AWp.seqE (partV hT4 (sbb_ok hB c) (b_12 bx c (psA ps))) ?_
 refine AWp.seqE (partV hT4 (sbb_okn hB c (.inl rfl)) (b_13 bx c (psA ps))) ?_
 refine AWp.seqE (partV hT4 (sbb_okn hB c (.inl rfl)) (b_15 bx c (psA ps))) ?_
 refine AWp.seqE (partV hT4 (sws_ok hB c) (b_16 bx c (psA ps))) ?_
 refine AWp.seq (AWp.seqE (partV hT4 (sws_ok hB c) (b_18 bx c (ps.map strRow))) ?_)
 refine AWp.condT rfl ?_
 refine AWp.entP (ρ' := g9 (psA ps)) (H' := mkH 2828 (SBB c bx)) (shrB hB (n' := 2854) (by decide) (fun q hq => ?_) (fun q hq => ?_)) (h.mono fun e ρ H hq => ?_)
 ·simp only [g9, eE, List.mem_cons, List.not_mem_nil, or_false] at hq
  rcases hq with rfl | rfl | rfl | rfl | rfl <;> rfl
 ·simp only [g9, eE, List.mem_cons, List.not_mem_nil, or_false] at hq
  rcases hq with rfl | rfl | rfl | rfl | rfl <;> rfl
 ·cases e with
  | normal => exact absurd rfl hq.1
  | _ => exact hq.2
theorem lk_out (hB : Bl 2822 bx) {ps : List ByteArray} : AWp Tryz.prog 125 2828 wT (fun ex ρ2 H2 => ex = .ret ∧ Ent 2828 ([(6, .v (.int .i64 14))], mkH 2828 (SBB 9 bx)) (ρ2, H2)) (wkE (psA ps) (.v (.string elB))) (mkH 2828 (SBB 8 bx)) := by
 refine lk_pre hB ?_
 refine AWp.seqC (k19 (w303e hB) ⟨rfl, fun _ _ h => h⟩ (.inr ⟨_, _, rfl, rfl, rfl⟩)) ?_
 refine AWp.seq (AWp.seqG (k20 (e := 14)) (AWp.condT rfl ?_))
 refine AWp.sub (ρ' := g12 (psA ps) (.v (.slice none 0 0)) (.v (.int .i64 14))) (fun p hp => ?_) ((partV hT4 (sbb_ok hB 9) (b_21 bx _ _)).mono ?_)
 ·simp only [g12, List.mem_cons, List.not_mem_nil, or_false] at hp
  rcases hp with rfl | rfl | rfl | rfl | rfl <;> rfl
 ·rintro ex ρ2 H2 ⟨h1, h2⟩
  rw [exN_ret h1]
  exact ⟨by simp, rfl, h2⟩
theorem frz_cut (hB : Bl 2822 bx) {c : Int} {H : Heap} {ρ : Env} {id kc : Nat} {ps : List ByteArray} (hob : obj H id = some (1, ps.map strRow)) (hid : 2828 ≤ id) (hlen : 2828 ≤ H.length) (hS : ∀ p ∈ SBB c bx, H[p.1]? = some (absO (toO p.2)))
  (h0 : AI.look ρ 0 = .ptr 2827 10 0 0) (h1 : AI.look ρ 1 = .osl id 1 0 ps.length kc) (h2 : AI.look ρ 2 = .v (.bool true)) : Ent 2828 (wkE3 (psA ps), mkH 2828 (SBB c bx)) (ρ, H) := by
 refine Ent.trans (s' := ((1, .fsl true 1 (ps.map strRow)) :: ρ, H.set id none)) ?_ (Ent.frzS hob (by simp) (fun r hr => List.all_eq_true.1 (strRows_low 0 ps) r hr) h1)
 refine ent_cut (by simpa using hlen) (sbb_ok hB c) (sbb_low hB c) (fun p hp => ?_) (fun p hp => ?_)
 ·simp only [wkE3, List.mem_cons, List.not_mem_nil, or_false] at hp
  rcases hp with rfl | rfl | rfl
  ·exact ⟨rfl, h0⟩
  ·exact ⟨rfl, rfl⟩
  ·exact ⟨rfl, h2⟩
 ·have hp2 : p.1 < 2828 := by
   have := sbb_ok hB c
   simp only [okLS, Bool.and_eq_true, List.all_eq_true, decide_eq_true_eq] at this
   exact (this.2 p hp).1
  rw [List.getElem?_set_ne (by omega)]
  exact hS p hp
theorem sbb_nd (c : Int) {o : LO} : ((SBB c bx ++ [(2828, o)]).map Prod.fst).Nodup := by
 have h : ((SBB c bx ++ [(2828, o)]).map Prod.fst) = (SBB 0 (fun _ => diskO) ++ [(2828, diskO)]).map Prod.fst := by kernel_rfl
 rw [h]; decide
theorem sbb_at (hB : Bl 2822 bx) (c : Int) {rows : List Row} : ∀ p ∈ SBB c bx ++ [(2828, .ls 1 rows)], (mkH 2829 (SBB c bx ++ [(2828, .ls 1 rows)]))[p.1]? = some (absO (toO p.2)) := fun p hp => by
 refine mkH_at (sbb_nd c) (okLS_app (sbb_okn hB c (.inr rfl)) fun p hp => ?_) hp
 simp only [List.mem_cons, List.not_mem_nil, or_false] at hp
 subst hp
 exact ⟨by simp, rfl⟩
theorem sbb_at0 (hB : Bl 2822 bx) (c : Int) : ∀ p ∈ SBB c bx, (mkH 2828 (SBB c bx))[p.1]? = some (absO (toO p.2)) := fun p hp => by
 refine mkH_at ?_ (sbb_ok hB c) hp
 have h := sbb_nd (bx := bx) c (o := diskO)
 rw [List.map_append, List.nodup_append] at h
 exact h.1
theorem sbb_lt (hB : Bl 2822 bx) (c : Int) : ∀ p ∈ SBB c bx, p.1 < 2828 := fun p hp => by
 have := sbb_ok hB c
 simp only [okLS, Bool.and_eq_true, List.all_eq_true, decide_eq_true_eq] at this
 exact (this.2 p hp).1
theorem esl_fsl : Lss .esl (.fsl true 1 []) := fun _ h => by
 cases h; exact .fsl0
theorem lk_in (hB : Bl 2822 bx) {c : Int} (h : c = 0 ∨ c = 1 ∨ c = 2 ∨ c = 3 ∨ c = 4 ∨ c = 5 ∨ c = 6 ∨ c = 7) {z : Nat} {x : Nat → UInt8} {tgt : ByteArray} (hK : LkOk z x tgt) {ps : List ByteArray} (hb : ps.length ≤ 4000000000) :
  AWp Tryz.prog 125 2828 wT (fun ex ρ2 H2 => ex = .exit 1 ∧ Ent 2828 (wkE3 (psA (partsB tgt ++ ps)), mkH 2828 (SBB (c + 1) bx)) (ρ2, H2)) (wkE (psA ps) (.v (.string elB))) (mkH 2828 (SBB c bx)) := by
 have hlen := tR_len tgt (spE_size hK.ok)
 refine lk_pre hB ?_
 have hw := w303 hB h hK
 by_cases hp : partsB tgt = []
 ·have e1 : lkR tgt = .tup [.esl, .v (.int .i64 0)] := if_pos hp
  have e2 : lkN tgt = 2828 := if_pos hp
  have e3 : lkS tgt = [] := if_pos hp
  rw [e1, e2, e3, List.append_nil] at hw
  rw [hp, List.nil_append]
  refine AWp.seqC (k19 hw ⟨rfl, fun _ _ h => h⟩ (.inl ⟨rfl, rfl, rfl⟩)) ?_
  refine AWp.seq (AWp.seqG (k20 (e := 0)) (AWp.condF rfl (AWp.skipG ?_)))
  show AWp Tryz.prog 125 2828 (.seq (.region 22 f246o22 false) (.exit 1)) _ _ _
  refine AWp.sub (ρ' := g12 (psA ps) .esl (.v (.int .i64 0))) (fun p hp => ?_) ?_
  ·simp only [g12, List.mem_cons, List.not_mem_nil, or_false] at hp
   rcases hp with rfl | rfl | rfl | rfl | rfl <;> rfl
  cases ps with
  | nil =>
   refine AWp.seqC k22d (AWp.exitG ⟨by simp, rfl, ?_⟩)
   refine Ent.trans (s' := ((1, .fsl true 1 []) :: [(0, .ptr 2827 10 0 0), (1, .esl), (2, .v (.bool true))], mkH 2828 (SBB (c + 1) bx))) (Ent.env fun q hq => ?_) (Ent.slotL (t := 1) (ρ := [(0, .ptr 2827 10 0 0), (1, .esl), (2, .v (.bool true))]) esl_fsl)
   simp only [wkE3, psA, List.mem_cons, List.not_mem_nil, or_false] at hq
   rcases hq with rfl | rfl | rfl <;> rfl
  | cons p ps =>
   have hl : ((p :: ps).map strRow).length ≤ 4294967296 := by simp only [List.length_map]; omega
   have hk := k22c (H := mkH 2828 (SBB (c + 1) bx)) (y := .v (.int .i64 0)) hl (by simp)
   rw [mkH_len] at hk
   refine AWp.seqC hk (AWp.exitG ⟨by simp, rfl, ?_⟩)
   refine frz_cut hB (id := 2828) (kc := (p :: ps).length) ?_ (by decide) (by simp [mkH_len]) (fun q hq => ?_) rfl (by simp [AI.look]) rfl
   ·unfold obj
    rw [List.getElem?_append_right (by rw [mkH_len]; omega), mkH_len]
    rfl
   ·rw [List.getElem?_append_left (by rw [mkH_len]; exact sbb_lt hB _ q hq)]
    exact sbb_at0 hB _ q hq
 ·have e1 : lkR tgt = .tup [.osl 2828 1 0 (tR tgt).length (tR tgt).length, .v (.int .i64 0)] := if_neg hp
  have e2 : lkN tgt = 2829 := if_neg hp
  have e3 : lkS tgt = [(2828, .ls 1 (tR tgt))] := if_neg hp
  rw [e1, e2, e3] at hw
  have htl : (tR tgt).length ≤ 65 := by simp only [tR, List.length_map]; exact hlen
  have hHl : (mkH 2829 (SBB (c + 1) bx ++ [(2828, .ls 1 (tR tgt))])).length = 2829 := mkH_len _ _
  have hob : (mkH 2829 (SBB (c + 1) bx ++ [(2828, .ls 1 (tR tgt))]))[2828]? = some (some (1, tR tgt)) := sbb_at hB (c + 1) (2828, .ls 1 (tR tgt)) (by simp)
  refine AWp.seqC (k19 hw ⟨rfl, fun _ _ h => h⟩ (.inl ⟨rfl, rfl, rfl⟩)) ?_
  refine AWp.seq (AWp.seqG (k20 (e := 0)) (AWp.condF rfl (AWp.skipG ?_)))
  show AWp Tryz.prog 125 2828 (.seq (.region 22 f246o22 false) (.exit 1)) _ _ _
  refine AWp.sub (ρ' := g12 (psA ps) (.osl 2828 1 0 (tR tgt).length (tR tgt).length) (.v (.int .i64 0))) (fun p hp => ?_) ?_
  ·simp only [g12, List.mem_cons, List.not_mem_nil, or_false] at hp
   rcases hp with rfl | rfl | rfl | rfl | rfl <;> rfl
  cases ps with
  | nil =>
   refine AWp.seqC (k22b hHl hob (by omega)) (AWp.exitG ⟨by simp, rfl, ?_⟩)
   rw [List.append_nil]
   refine frz_cut hB (id := 2828) (kc := (tR tgt).length) ?_ (by decide) (by rw [List.length_set, hHl]; decide) (fun q hq => ?_) rfl (by simp [AI.look, tR]) rfl
   ·unfold obj
    rw [List.getElem?_set_self (by omega)]
    rfl
   ·have := sbb_lt hB _ q hq
    rw [List.getElem?_set_ne (by omega)]
    exact sbb_at hB _ q (List.mem_append_left _ hq)
  | cons p ps =>
   have hl : (tR tgt).length + ((p :: ps).map strRow).length ≤ 4294967296 := by simp only [List.length_map]; omega
   refine AWp.seqC (k22a hHl hob hl (by simp)) (AWp.exitG ⟨by simp, rfl, ?_⟩)
   refine frz_cut hB (id := 2829) (kc := (tR tgt).length + ((p :: ps).map strRow).length) ?_ (by decide) (by simp [hHl]) (fun q hq => ?_) rfl (by simp [AI.look, tR]) rfl
   ·unfold obj
    rw [List.getElem?_append_right (by rw [List.length_set, hHl]; omega), List.length_set, hHl]
    simp [tR]
   ·have := sbb_lt hB _ q hq
    rw [List.getElem?_append_left (by rw [List.length_set, hHl]; omega), List.getElem?_set_ne (by omega)]
    exact sbb_at hB _ q (List.mem_append_left _ hq)
end Go.Proofs.GD
/- Phase B: the walk along pieces, all of it. -/
namespace Go.Proofs.GD
set_option linter.unusedSectionVars false
variable [Go.AI.Sym]
open Go Go.AI Go.RowKit
set_option maxRecDepth 100000
set_option maxHeartbeats 2000000
def mkOf (p : ByteArray) : Nat := if nameB p = true then (if cmpB p elB = -1 then 2 else 3) else 1
def wkA : Row := [.ifc 69 (.ptr 2064 198 0 0), .v (.slice none 0 0), .v (.int .i64 0), .v (.int .i64 0), .v (.slice none 0 0), .v (.int .i64 127), .v (.int .i64 0), .v (.int .i64 0), .osl 2826 1 0 1 1, .anyi .i64]
def SBE (bx : Nat → LO) : LS := SWb ++ ((100, .ls 1 blM) :: (2827, .ls 10 [wkA]) :: bxL bx)
variable {bx : Nat → LO}
theorem sbe_of (c : Int) : LsZ (SBB c bx) (SBE bx) := LsZ.app (LsZ.refl _) ⟨rfl, .inl rfl, rfl, .inr ⟨10, [wkR c], [wkA], by decide, rfl, rfl, ⟨⟨Lss.refl _, Lss.refl _, Lss.refl _, Lss.refl _, Lss.refl _, Lss.refl _, Lss.refl _, Lss.refl _, Lss.refl _, fun _ h => by rw [h.v_inv]; exact .anyi, trivial⟩, trivial⟩⟩, LsZ.refl _⟩
def QB (bx : Nat → LO) (r : Int) : Post := fun e ρ H => (r = 0 → e = .exit 0 ∧ Ent 2828 ([], mkH 2828 (SBE bx)) (ρ, H)) ∧ (r ≠ 0 → e = .ret ∧ Ent 2828 ([(6, .v (.int .i64 r))], mkH 2828 (SBE bx)) (ρ, H))
theorem dot_okB (hB : Bl 2822 bx) {c : Int} {l p : AVal} (hl : lowA 2828 l = true) (hp : p = .v (.string dotB) ∨ p = .v (.string dotsB)) : AWp Tryz.prog 125 2828 wD (fun ex ρ2 H2 => exN ex = 3 ∧ Ent 2828 (wkE3 l, mkH 2828 (SBB c bx)) (ρ2, H2)) (wkE l p) (mkH 2828 (SBB c bx)) := by
 have key : Ent 2828 (wkE3 l, mkH 2828 (SBB c bx)) (wkE3 l, mkH 2838 (SBB c bx)) := shrB hB (by decide) (fun q hq => by
  simp only [wkE3, List.mem_cons, List.not_mem_nil, or_false] at hq
  rcases hq with rfl | rfl | rfl
  ·rfl
  ·exact hl
  ·rfl) (fun q hq => by
  simp only [wkE3, List.mem_cons, List.not_mem_nil, or_false] at hq
  rcases hq with rfl | rfl | rfl <;> rfl)
 rcases hp with rfl | rfl
 ·exact (partV hT4 (sbb_ok hB c) (b_dot bx c l)).mono fun e ρ2 H2 h => ⟨h.1, key.trans h.2⟩
 ·exact (partV hT4 (sbb_ok hB c) (b_dots bx c l)).mono fun e ρ2 H2 h => ⟨h.1, key.trans h.2⟩
theorem may_okB (hB : Bl 2822 bx) {c : Int} {l p : AVal} (hl : lowA 2828 l = true) (hp : lowA 2828 p = true) : AWp Tryz.prog 125 2828 wM4 (fun e ρ2 H2 => exN e = 0 ∧ Ent 2828 (wkE l p, mkH 2828 (SBB c bx)) (ρ2, H2)) (wkE l p) (mkH 2828 (SBB c bx)) := by
 refine (partV hT4 (sbb_ok hB c) (b_may bx c l p)).mono ?_
 rintro e ρ2 H2 ⟨he, hE⟩
 refine ⟨he, Ent.trans (shrB hB (by decide) (fun q hq => ?_) (fun q hq => ?_)) hE⟩
 ·simp only [wkE, List.mem_cons, List.not_mem_nil, or_false] at hq
  rcases hq with rfl | rfl | rfl | rfl
  ·rfl
  ·exact hl
  ·rfl
  ·exact hp
 ·simp only [wkE, List.mem_cons, List.not_mem_nil, or_false] at hq
  rcases hq with rfl | rfl | rfl | rfl <;> rfl
theorem wt_okB (hB : Bl 2822 bx) (hM : MarksB) {c : Int} {ps : List ByteArray} {p : ByteArray} :
  AWp Tryz.prog 125 2828 wT (fun e ρ2 H2 => e = .ret ∧ Ent 2828 ([(6, .v (.int .i64 (if nameB p = true then 4 else 3)))], mkH 2828 (SBB c bx)) (ρ2, H2)) (wkE (psA ps) (.str (mkOf p))) (mkH 2828 (SBB c bx)) := by
 have sh : ∀ (r : Int), Ent 2828 ([(6, .v (.int .i64 r))], mkH 2828 (SBB c bx)) ([(6, .v (.int .i64 r))], mkH 2853 (SBB c bx)) := fun r => shrB hB (by decide) (fun q hq => by
  simp only [List.mem_cons, List.not_mem_nil, or_false] at hq; subst hq; rfl) (fun q hq => by
  simp only [List.mem_cons, List.not_mem_nil, or_false] at hq; subst hq; rfl)
 unfold mkOf
 by_cases hn : nameB p = true
 ·rw [if_pos hn, if_pos hn]
  by_cases hc : cmpB p elB = -1
  ·rw [if_pos hc]
   exact (partV (hTB hM) (sbb_ok hB c) (b_no2 bx c (psA ps))).mono fun e ρ2 H2 h => ⟨exN_ret h.1, (sh 4).trans h.2⟩
  ·rw [if_neg hc]
   exact (partV (hTB hM) (sbb_ok hB c) (b_no3 bx c (psA ps))).mono fun e ρ2 H2 h => ⟨exN_ret h.1, (sh 4).trans h.2⟩
 ·rw [if_neg hn, if_neg hn]
  exact (partV (hTB hM) (sbb_ok hB c) (b_nul bx c (psA ps))).mono fun e ρ2 H2 h => ⟨exN_ret h.1, h.2⟩
theorem nd_pre {H : Heap} {ps : List ByteArray} {p : ByteArray} {Q : Post} (h1 : ¬ p = dotB) (h2 : ¬ p = dotsB) (h : AWp Tryz.prog 125 2828 wT Q ((30, .v (.bool false)) :: wkF (psA ps) p) H) :
  AWp Tryz.prog 125 2828 (.seq (.seq (.region 7 f246o7 false) (.block 2 (.seq (.region 8 f246o8 false) (.cond (.tmp 28) (.exit 1) (.seq (.region 9 f246o9 false) (.cond (.tmp 30) wX .skip)))))) wT) Q (wkE (psA ps) (.v (.string p))) H :=
 AWp.seq (AWp.seqG k7s (AWp.blockG (AWp.seqG (k8s h1) (AWp.condF rfl (AWp.seqG (k9s h2) (AWp.condF rfl (AWp.skipG h)))))))
theorem look_wkF {ps : List ByteArray} {p : ByteArray} : ∀ q ∈ wkE (psA ps) (.v (.string p)), AI.look ((30, .v (.bool false)) :: wkF (psA ps) p) q.1 = q.2 := fun q hq => by
 simp only [wkE, List.mem_cons, List.not_mem_nil, or_false] at hq
 rcases hq with rfl | rfl | rfl | rfl <;> rfl
theorem oth_okB (hB : Bl 2822 bx) (hM : MarksB) {c : Int} {ps : List ByteArray} {p : ByteArray} (h1 : ¬ p = dotB) (h2 : ¬ p = dotsB) (hm : Sym.P (mkOf p) (.string p)) :
  AWp Tryz.prog 125 2828 (.seq (.seq (.region 7 f246o7 false) (.block 2 (.seq (.region 8 f246o8 false) (.cond (.tmp 28) (.exit 1) (.seq (.region 9 f246o9 false) (.cond (.tmp 30) wX .skip)))))) wT)
   (fun e ρ2 H2 => e = .ret ∧ Ent 2828 ([(6, .v (.int .i64 (if nameB p = true then 4 else 3)))], mkH 2828 (SBB c bx)) (ρ2, H2)) (wkE (psA ps) (.v (.string p))) (mkH 2828 (SBB c bx)) := by
 refine nd_pre h1 h2 ?_
 refine AWp.entP (ρ' := wkE (psA ps) (.str (mkOf p))) (H' := mkH 2828 (SBB c bx)) ?_ (wt_okB hB hM)
 refine Ent.trans (s' := ((7, .str (mkOf p)) :: wkE (psA ps) (.v (.string p)), mkH 2828 (SBB c bx))) ?_ ?_
 ·refine Ent.env fun q hq => ?_
  simp only [wkE, List.mem_cons, List.not_mem_nil, or_false] at hq
  rcases hq with rfl | rfl | rfl | rfl <;> rfl
 ·refine Ent.trans (Ent.slotL (t := 7) (ρ := wkE (psA ps) (.v (.string p))) (lss_of hm)) (Ent.env look_wkF)
theorem loopB (hB : Bl 2822 bx) (hM : MarksB) (hP : ∀ p, ¬ p = elB → Sym.P (mkOf p) (.string p)) {z : Nat} {x : Nat → UInt8} {tgt : ByteArray} (hK : LkOk z x tgt) :
  ∀ (n : Nat) (ps : List ByteArray), n ≤ 8 → ps.length + 65 * n ≤ 4000000000 → ∃ k, ∀ ρ H, Ent 2828 (wkE3 (psA ps), mkH 2828 (SBB (8 - n) bx)) (ρ, H) →
   UnrA (fun Q ρ H => AWp Tryz.prog 125 2828 wLpC Q ρ H) (QB bx (walkF (some (partsB tgt)) n ps)) k ρ H
 | n, [], hn, hl => ⟨1, fun ρ H he => by
  rw [UnrA]
  refine AWp.entP he (AWp.seq (AWp.seqG k1 (AWp.condF rfl (AWp.exitG ?_))))
  have h0 : Ent 2828 ([], mkH 2828 (SBE bx)) (((16, .v (.bool (decide (0 < ([] : List ByteArray).length)))) :: wkE3 (psA [])), mkH 2828 (SBB (8 - n) bx)) := Ent.trans (Ent.lss (sbe_of _)) (Ent.env (fun q hq => by cases hq))
  exact And.intro (fun _ => And.intro rfl h0) (fun h => absurd walkF_nil h)⟩
 | n, p :: ps, hn, hl => by
  have hc : opd ((16, .v (.bool (decide (0 < (p :: ps).length)))) :: wkE3 (psA (p :: ps))) (.tmp 16) = .v (.bool true) := by
   show AVal.v (.bool (decide (0 < (p :: ps).length))) = _
   rw [decide_eq_true (by simp)]
  have head : ∀ {Q : Post} {ρ H}, Ent 2828 (wkE3 (psA (p :: ps)), mkH 2828 (SBB (8 - n) bx)) (ρ, H) → AWp Tryz.prog 125 2828 wD (blockA 1 Q) (wkE (psA ps) (.v (.string p))) (mkH 2828 (SBB (8 - n) bx)) → AWp Tryz.prog 125 2828 wLpC Q ρ H := fun {Q ρ H} he h => by
   refine AWp.entP he (AWp.seq (AWp.seqG k1 (AWp.condT hc (AWp.skipG ?_))))
   show AWp Tryz.prog 125 2828 (.block 1 (.seq (.region 2 f246o2 false) (.seq (.region 3 f246o3 false) wD))) _ _ _
   refine AWp.sub (ρ' := wkE3 (psA (p :: ps))) (fun q hq => ?_) (AWp.blockG (AWp.seqG k2 (AWp.seqG k3 h)))
   simp only [wkE3, List.mem_cons, List.not_mem_nil, or_false] at hq
   rcases hq with rfl | rfl | rfl <;> rfl
  have hl2 : ps.length + 1 + 65 * n ≤ 4000000000 := hl
  by_cases hd : p = dotB ∨ p = dotsB
  ·obtain ⟨k, hk⟩ := loopB hB hM hP hK n ps hn (by omega)
   refine ⟨k + 1, fun ρ H he => ?_⟩
   rw [UnrA, walkF_dot hd]
   refine head he ((dot_okB hB (l := psA ps) rfl (by rcases hd with rfl | rfl <;> simp)).mono ?_)
   rintro e ρ2 H2 ⟨h1, h2⟩
   rw [exN_out h1]
   simp only [blockA, if_true]
   exact hk ρ2 H2 h2
  ·have h1 : ¬ p = dotB := fun h => hd (.inl h)
   have h2 : ¬ p = dotsB := fun h => hd (.inr h)
   by_cases hel : p = elB
   ·subst hel
    cases n with
    | zero =>
     refine ⟨1, fun ρ H he => ?_⟩
     rw [UnrA, walkF_out hd rfl]
     refine head he ?_
     rw [wD_eq]
     refine AWp.seqE (may_okB hB rfl rfl) (nd_pre h1 h2 (AWp.sub look_wkF ((lk_out hB).mono ?_)))
     rintro e ρ2 H2 ⟨rfl, hE⟩
     exact ⟨fun h => absurd h (by decide), fun _ => ⟨rfl, Ent.trans (Ent.lss (sbe_of 9)) hE⟩⟩
    | succ n =>
     have htl := tR_len tgt (spE_size hK.ok)
     obtain ⟨k, hk⟩ := loopB hB hM hP hK n (partsB tgt ++ ps) (by omega) (by rw [List.length_append]; omega)
     refine ⟨k + 1, fun ρ H he => ?_⟩
     rw [UnrA, walkF_link hd rfl]
     refine head he ?_
     rw [wD_eq]
     have hcc : (8 : Int) - (n + 1 : Nat) = 0 ∨ (8 : Int) - (n + 1 : Nat) = 1 ∨ (8 : Int) - (n + 1 : Nat) = 2 ∨ (8 : Int) - (n + 1 : Nat) = 3 ∨ (8 : Int) - (n + 1 : Nat) = 4 ∨ (8 : Int) - (n + 1 : Nat) = 5 ∨ (8 : Int) - (n + 1 : Nat) = 6 ∨ (8 : Int) - (n + 1 : Nat) = 7 := by omega
     have hce : (8 : Int) - (n + 1 : Nat) + 1 = 8 - n := by omega
     refine AWp.seqE (may_okB hB rfl rfl) (nd_pre h1 h2 (AWp.sub look_wkF ((lk_in hB hcc hK (ps := ps) (by omega)).mono ?_)))
     rintro e ρ2 H2 ⟨rfl, hE⟩
     rw [hce] at hE
     simp only [blockA, if_true]
     exact hk ρ2 H2 hE
   ·refine ⟨1, fun ρ H he => ?_⟩
    rw [UnrA, walkF_no hd (fun h => hel h.1)]
    refine head he ?_
    rw [wD_eq]
    refine AWp.seqE (may_okB hB rfl rfl) ((oth_okB hB hM h1 h2 (hP p hel)).mono ?_)
    rintro e ρ2 H2 ⟨rfl, hE⟩
    refine ⟨fun h => ?_, fun _ => ⟨rfl, Ent.trans (Ent.lss (sbe_of _)) hE⟩⟩
    exfalso
    split at h <;> omega
termination_by n ps => (n, ps.length)
end Go.Proofs.GD
/- w.walk in phase B: its contract. -/
namespace Go.Proofs.GD
set_option linter.unusedSectionVars false
variable [Go.AI.Sym]
open Go Go.AI Go.RowKit
set_option maxRecDepth 100000
set_option maxHeartbeats 2000000
variable {bx : Nat → LO}
theorem endB {r : Int} {e : Exit} {ρ : Env} {H : Heap} (h : QB bx r e ρ H) : blockA 0 (thenA (fun ρ H => AWp Tryz.prog 125 2828 (.seq (.region 27 f246o27 false) .ret) (fun e2 ρ2 H2 => e2 = .ret ∧ Ent 2828 ([(6, .v (.int .i64 r))], mkH 2828 (SBE bx)) (ρ2, H2)) ρ H) (fun e2 ρ2 H2 => e2 = .ret ∧ Ent 2828 ([(6, .v (.int .i64 r))], mkH 2828 (SBE bx)) (ρ2, H2))) e ρ H := by
 by_cases hr : r = 0
 ·subst hr
  obtain ⟨rfl, hE⟩ := h.1 rfl
  simp only [blockA, if_true]
  exact AWp.entP hE (AWp.seqG k27 (AWp.retG ⟨rfl, Ent.refl _ _⟩))
 ·obtain ⟨rfl, hE⟩ := h.2 hr
  exact ⟨rfl, hE⟩
theorem bodyB {l : AVal} {r : Int} (hl : ∃ n, ∀ ρ H, Ent 2828 (wkE3 l, mkH 2828 (SBB 0 bx)) (ρ, H) → UnrA (fun Q ρ H => AWp Tryz.prog 125 2828 wLpC Q ρ H) (QB bx r) n ρ H) :
  InlOk Tryz.prog 246 (snapM [.ptr 2827 10 0 0, l, .v (.bool true)] 2828 (SBB 0 bx) (.v (.int .i64 r)) 2828 (SBE bx)) := by
 obtain ⟨n, hl⟩ := hl
 refine snapE (code := w0c) Tryz.func246 rfl (by show 3 ≤ 125; decide) ?_
 refine snapR (ρ' := [(6, .v (.int .i64 r))]) (e := .ret) (.inl rfl) ⟨_, rfl, rfl⟩ ?_
 rw [w0_eq]
 refine AWp.seqG (ρ' := wkE3 l) k0 (AWp.seq (AWp.blockG (AWp.mono ?_ fun e ρ H h => endB (bx := bx) (r := r) h)))
 exact LoopA_sound (W := fun Q ρ H => AWp Tryz.prog 125 2828 wLpC Q ρ H) (fun _ _ _ h => h) (.inl ⟨n, hl _ _ (Ent.refl _ _)⟩)
theorem w246B (hB : Bl 2822 bx) (hM : MarksB) (hP : ∀ p, ¬ p = elB → Sym.P (mkOf p) (.string p)) {z : Nat} {x : Nat → UInt8} {tgt : ByteArray} (hK : LkOk z x tgt) {ps : List ByteArray} (hl : ps.length ≤ 1000) :
  InlOk Tryz.prog 246 (snapM [.ptr 2827 10 0 0, psA ps, .v (.bool true)] 2828 (SBB 0 bx) (.v (.int .i64 (walkF (some (partsB tgt)) 8 ps))) 2828 (SBE bx)) :=
 bodyB (loopB hB hM hP hK 8 ps (by decide) (by omega))
theorem w246Bn : InlOk Tryz.prog 246 (snapM [.ptr 2827 10 0 0, .v (.slice none 0 0), .v (.bool true)] 2828 (SBB 0 bx) (.v (.int .i64 0)) 2828 (SBE bx)) :=
 bodyB ⟨1, fun ρ H he => by
  rw [UnrA]
  refine AWp.entP he (AWp.seq (AWp.seqG k1n (AWp.condF rfl (AWp.exitG ?_))))
  exact ⟨fun _ => ⟨rfl, Ent.trans (Ent.lss (sbe_of 0)) (Ent.env (fun q hq => by cases hq))⟩, fun h => absurd rfl h⟩⟩
end Go.Proofs.GD
/- Phase B under the names of phase A: for the texts that are alike in both. -/
namespace Go.Proofs.GD.PB
set_option linter.unusedSectionVars false
variable [Go.AI.Sym]
open Go Go.AI Go.RowKit
set_option maxRecDepth 100000
variable {bx : Nat → LO}
abbrev SA : LS := SAB
def SW (c : Int) : LS := SWb ++ [(100, .ls 1 blM), (2827, .ls 10 [wkR c])]
def SB (bx : Nat → LO) : LS := SW 0 ++ bxL bx
def SE0 : LS := SWb ++ [(100, .ls 1 blM), (2827, .ls 10 [wkA])]
def SE (bx : Nat → LO) : LS := SE0 ++ bxL bx
theorem sb_is : SB bx = SBB 0 bx := by unfold SB SW SBB kWB; rw [List.append_assoc]; rfl
theorem se_is : SE bx = SBE bx := by unfold SE SE0 SBE; rw [List.append_assoc]; rfl
theorem se_ok (hB : Bl 2822 bx) : okLS 2828 (SE bx) = true := addB_ok (S := SE0) (by decide) (by kernel_rfl) hB.ok
end Go.Proofs.GD.PB
