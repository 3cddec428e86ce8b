/- path.start in phase B: its contract. Printed by a program (mkb.py). -/
import Derived.Test.YtdakclpneghkmaaGreatDoorBd
namespace Go.Proofs.GD.PB
set_option linter.unusedSectionVars false
variable [Go.AI.Sym]
open Go Go.AI Go.RowKit
set_option maxRecDepth 100000
set_option maxHeartbeats 2000000
set_option linter.unusedSimpArgs false
set_option linter.unusedVariables false
attribute [local simp] wpA wpX RunA RunD runF foot footP footB idsA bare apart runL step1 gsel_f gsel_t gsel_s res_same res_and1 res_and2 res_and3 res_and4 res_and5 res_and6 res_false res_true res_v res_ptr res_fptr res_osl res_xsl soft aAppendZ aCap ovlI ovlJ res_fsl res_esl res_agg res_tup res_fn res_junk res_anyb aPick hk imp_left iteV dstOk guardOk astep astepE AI.ev AI.look AI.put envOf aBox cellsOf allOne allOneA oneA Value.oneCell' Value.cells newObj' aFieldAddr aLoad obj readAt thenA blockA condA retA resA tupA view hot hotC hotR depthV cAgg cInt cBool mkAgg allV aAlloc aBuild fillA writeAt aStore isAggA aField idx aIndexAddr aIndex bnd aSlice aExtract aLen aBuiltin aCall isStatic eqAgg eqTy eqC ev_add ev_sub ev_mul ev_quo ev_rem ev_and ev_or ev_xor ev_andNot ev_shl ev_shr ev_eql ev_neq ev_lss ev_leq ev_gtr ev_geq ev_agg w64 wu32 wu8 ev_not ev_neg Cod.plain RCod.plain argM finM cold coldC coldR goInt intDec boolDec aggDec Weaker heapW lowA lowC Again slDec undef aBuildSlice setRows aAppend rowsOf aMakeSlice aClear aCopy softer_self softer_nil valsOf ev_min2 ev_max2 hotR_set hotR_append take_map_set irow_cold irow_mapM irow_mapMc irow_view irow_viewc irow_hotR irow_ren irow_renc irow_low WeakT heapT thOf ren renC AgainT NextF NextT fnDec cFn rNil selfLt natLt0 natLt1 getLastMap frame0 frame1 own0 own1 argG finG tau tauI tauO tauC bareA bareC bareH irow_tau irow_tauc irow_bare irow_flat irow_bareR ownA_nil ownT_nil ownA_c ownT_c ownA_s ownT_s takeMapLen footC plainA noId noIdC cloneF frame0F frame1F insertF replaceI replaceF cellDec rCell fpDec cFp rTwo deleteF allV_oA oneA_oA res_oA RunR RunE runFT footAt hotR_cat tmodN aEqH aSliceA frameN newA newC newH fqSz3 fqBy3 fqAg3 fqZe3 fqSl3 fqAr3 fqPl3 fqSz4 fqBy4 fqAg4 fqZe4 fqSl4 fqAr4 fqPl4 fqSz5 fqBy5 fqAg5 fqZe5 fqSl5 fqAr5 fqPl5 fqSz27 fqBy27 fqAg27 fqZe27 fqSl27 fqAr27 fqPl27 fqSz28 fqBy28 fqAg28 fqZe28 fqSl28 fqAr28 fqPl28 fqSz39 fqBy39 fqAg39 fqZe39 fqSl39 fqAr39 fqPl39 fqCv3x5 fqCv5x3 fqEb4 fqNb4 fqLn28 fqNe28 fqNn28 fqOe28 fqOn28 fqXe28 fqXn28 fqLn39 fqNe39 fqNn39 fqOe39 fqOn39 fqXe39 fqXn39 fqFm13 fqFi13 fqSz9 fqBy9 fqAg9 fqZe9 fqSl9 fqAr9 fqPl9 fqSz46 fqBy46 fqAg46 fqZe46 fqSl46 fqAr46 fqPl46 fqLt9 fqLn46 fqNe46 fqNn46 fqOe46 fqOn46 fqXe46 fqXn46 fqFm63 fqFi63 fqFm129 fqFi129 fqFm207 fqFi207 fqFm270 fqFi270 fqFm271 fqFi271 fqFm272 fqFi272 fqFm318 fqFm319 fqFi319 fqFm320 fqFi320 fqFm350 ev_eqlS ev_neqS
variable {bx : Nat → LO}
def SC (bx : Nat → LO) : LS := addB SA bx
theorem s_R0 (p : AVal) : obsB (runG 245 59 cat4 sR0 (s0E cwA p) (mkT 2823 (SC bx))) 0 2824 (SA ++ [(2823, crO)]) [7, 0, 1, 2, 3, 4] bxK = some (s1E cwA p, bxO bx) := by kernel_rfl
def S1 : LS := SA ++ [(2823, crO)]
theorem s_B1 (p : AVal) : obsB (runG 245 59 cat4 sB1 (s1E cwA p) (mkT 2824 (addB S1 bx))) 0 2824 S1 [7, 0, 1, 2, 3, 4] bxK = some (s1E cwA p, bxO bx) := by kernel_rfl
theorem s_B4 (p : AVal) : obsB (runG 245 59 cat4 sB4 (s1E cwA p) (mkT 2824 (addB S1 bx))) 0 2826 S1 [7, 0, 1, 2, 3, 4] bxK = some (s1E cwA p, bxO bx) := by kernel_rfl
theorem s_B7 (p : AVal) : obsB (runG 245 59 cat4 sB7 (s1E cwA p) (mkT 2826 (addB S1 bx))) 0 2826 S1 [7, 0, 1, 2, 3, 4] bxK = some (s1E cwA p, bxO bx) := by kernel_rfl
theorem s_E (p x y : AVal) (e : Int) (he : e = 2 ∨ e = 3) : obsB (runG 245 59 cat4 sB10 (s2E cwA p x y (.v (.int .i64 e))) (mkT 2826 (addB S1 bx))) 1 2826 SA [10, 11, 12] bxK = some ([(10, .v (.pointer none)), (11, .v (.slice none 0 0)), (12, .v (.int .i64 e))], bxO bx) := by
 rcases he with rfl | rfl <;> kernel_rfl
theorem s_B10 (p x y : AVal) : obsB (runG 245 59 cat4 sB10 (s2E cwA p x y (.v (.int .i64 0))) (mkT 2826 (addB S1 bx))) 0 2826 S1 [15, 16, 17, 7, 0, 1, 2, 3, 4] bxK = some (s2E cwA p x y (.v (.int .i64 0)), bxO bx) := by kernel_rfl
theorem s_R12f (p : AVal) (rows : List Row) (b : Bool) : obsB (runG 245 59 cat4 sR12 (s2E cwA p (.v (.bool b)) (.fsl true 1 rows) (.v (.int .i64 0))) (mkT 2826 (addB S1 bx))) 1 2828 (SW 0) [10, 11, 12] bxK = some ([(10, .ptr 2827 10 0 0), (11, (.fsl true 1 rows)), (12, .v (.int .i64 0))], bxO bx) := by cases b <;> kernel_rfl
theorem s_R12n (p : AVal) (b : Bool) : obsB (runG 245 59 cat4 sR12 (s2E cwA p (.v (.bool b)) (.v (.slice none 0 0)) (.v (.int .i64 0))) (mkT 2826 (addB S1 bx))) 1 2828 (SW 0) [10, 11, 12] bxK = some ([(10, .ptr 2827 10 0 0), (11, (.v (.slice none 0 0))), (12, .v (.int .i64 0))], bxO bx) := by cases b <;> kernel_rfl
theorem sa_ok : okLS 2822 SA = true := by kernel_rfl
theorem sa_low : lowLS 2822 SA = true := by kernel_rfl
theorem s1_ok23 : okLS 2823 SA = true := by kernel_rfl
theorem s1_ok {m : Nat} (hm : m = 2824 ∨ m = 2826) : okLS m S1 = true := by rcases hm with rfl | rfl <;> kernel_rfl
theorem s_pre (hB : Bl 2822 bx) {s : ByteArray} {Q : Post} {y : Code} (h : AWp Tryz.prog 59 2823 y Q (s1E cwA (.v (.string s))) (mkH 2826 (addB S1 bx))) : AWp Tryz.prog 59 2823 (.seq sR0 (.seq sB1 (.seq sB4 (.seq sB7 y)))) Q (s0E cwA (.v (.string s))) (mkH 2823 (SC bx)) :=
 AWp.seqE (partG hT4 (addB_ok (by decide) s1_ok23 hB.ok) (s_R0 _)) (AWp.seqE (partG hT4 (addB_ok (by decide) (s1_ok (.inl rfl)) hB.ok) (s_B1 _)) (AWp.seqE (partG hT4 (addB_ok (by decide) (s1_ok (.inl rfl)) hB.ok) (s_B4 _)) (AWp.seqE (partG hT4 (addB_ok (by decide) (s1_ok (.inr rfl)) hB.ok) (s_B7 _)) h)))
theorem w245e (hB : Bl 2822 bx) {s : ByteArray} {e : Int} (he : e = 2 ∨ e = 3) (hs : splitR s = .v (.tuple #[.bool false, .slice none 0 0, .int .i64 e])) :
  InlOk Tryz.prog 245 (snapM (stA cwA (.v (.string s))) 2823 (SC bx) (.v (.tuple #[.pointer none, .slice none 0 0, .int .i64 e])) 2826 (SC bx)) := by
 refine snapE (code := s0c) Tryz.func245 rfl (by show 5 ≤ 59; decide) ?_
 refine snapR (ρ' := [(10, .v (.pointer none)), (11, .v (.slice none 0 0)), (12, .v (.int .i64 e))]) (e := .ret) (.inl rfl) ⟨_, rfl, rfl⟩ ?_
 rw [s0_eq]
 refine s_pre hB (AWp.seqC (ρ' := s2E cwA (.v (.string s)) (.v (.bool false)) (.v (.slice none 0 0)) (.v (.int .i64 e))) (k9 (.inr ⟨_, _, _, hs, rfl, rfl, rfl⟩)) ?_)
 exact AWp.retE (partG hT4 (addB_ok (by decide) (s1_ok (.inr rfl)) hB.ok) (s_E _ _ _ e he))
theorem w245 (hB : Bl 2822 bx) {s : ByteArray} {b : Bool} {L : AVal} (hL : L = restA s) (hs : splitR s = .v (.tuple #[.bool b, .slice none 0 0, .int .i64 0]) ∧ partsB s = [] ∨ splitR s = .tup [.v (.bool b), .fsl true 1 ((partsB s).map strRow), .v (.int .i64 0)] ∧ partsB s ≠ []) :
  InlOk Tryz.prog 245 (snapM (stA cwA (.v (.string s))) 2823 (SC bx) (.tup [.ptr 2827 10 0 0, L, .v (.int .i64 0)]) 2828 (SB bx)) := by
 refine snapE (code := s0c) Tryz.func245 rfl (by show 5 ≤ 59; decide) ?_
 have hm : ∃ q, resA Tryz.prog [(10, .ptr 2827 10 0 0), (11, L), (12, .v (.int .i64 0))] (mkH 2828 (SB bx)) Tryz.f245.results.toList = some q ∧ tupA q = .tup [.ptr 2827 10 0 0, L, .v (.int .i64 0)] := ⟨_, rfl, rfl⟩
 refine snapR (ρ' := [(10, .ptr 2827 10 0 0), (11, L), (12, .v (.int .i64 0))]) (e := .ret) (.inl rfl) hm ?_
 rw [s0_eq]
 rcases hs with ⟨hs, hp⟩ | ⟨hs, hp⟩
 ·rw [restA, if_pos hp] at hL
  subst hL
  refine s_pre hB (AWp.seqC (ρ' := s2E cwA (.v (.string s)) (.v (.bool b)) (.v (.slice none 0 0)) (.v (.int .i64 0))) (k9 (.inr ⟨_, _, _, hs, rfl, rfl, rfl⟩)) ?_)
  refine AWp.seqE (partG hT4 (addB_ok (by decide) (s1_ok (.inr rfl)) hB.ok) (s_B10 _ _ _)) ?_
  exact (partG hT4 (addB_ok (by decide) (s1_ok (.inr rfl)) hB.ok) (s_R12n _ b)).mono fun ex ρ2 H2 h => ⟨exN_ret h.1, h.2⟩
 ·rw [restA, if_neg hp] at hL
  subst hL
  refine s_pre hB (AWp.seqC (ρ' := s2E cwA (.v (.string s)) (.v (.bool b)) (.fsl true 1 ((partsB s).map strRow)) (.v (.int .i64 0))) (k9 (.inl ⟨_, _, _, hs, rfl, rfl, rfl⟩)) ?_)
  refine AWp.seqE (partG hT4 (addB_ok (by decide) (s1_ok (.inr rfl)) hB.ok) (s_B10 _ _ _)) ?_
  exact (partG hT4 (addB_ok (by decide) (s1_ok (.inr rfl)) hB.ok) (s_R12f _ _ b)).mono fun ex ρ2 H2 h => ⟨exN_ret h.1, h.2⟩
end Go.Proofs.GD.PB
/- path.Walk in phase B: its contract. Printed by a program (mkb.py). -/
namespace Go.Proofs.GD.PB
set_option linter.unusedSectionVars false
variable [Go.AI.Sym]
open Go Go.AI Go.RowKit
set_option maxRecDepth 100000
set_option maxHeartbeats 2000000
set_option linter.unusedSimpArgs false
set_option linter.unusedVariables false
attribute [local simp] wpA wpX RunA RunD runF foot footP footB idsA bare apart runL step1 gsel_f gsel_t gsel_s res_same res_and1 res_and2 res_and3 res_and4 res_and5 res_and6 res_false res_true res_v res_ptr res_fptr res_osl res_xsl soft aAppendZ aCap ovlI ovlJ res_fsl res_esl res_agg res_tup res_fn res_junk res_anyb aPick hk imp_left iteV dstOk guardOk astep astepE AI.ev AI.look AI.put envOf aBox cellsOf allOne allOneA oneA Value.oneCell' Value.cells newObj' aFieldAddr aLoad obj readAt thenA blockA condA retA resA tupA view hot hotC hotR depthV cAgg cInt cBool mkAgg allV aAlloc aBuild fillA writeAt aStore isAggA aField idx aIndexAddr aIndex bnd aSlice aExtract aLen aBuiltin aCall isStatic eqAgg eqTy eqC ev_add ev_sub ev_mul ev_quo ev_rem ev_and ev_or ev_xor ev_andNot ev_shl ev_shr ev_eql ev_neq ev_lss ev_leq ev_gtr ev_geq ev_agg w64 wu32 wu8 ev_not ev_neg Cod.plain RCod.plain argM finM cold coldC coldR goInt intDec boolDec aggDec Weaker heapW lowA lowC Again slDec undef aBuildSlice setRows aAppend rowsOf aMakeSlice aClear aCopy softer_self softer_nil valsOf ev_min2 ev_max2 hotR_set hotR_append take_map_set irow_cold irow_mapM irow_mapMc irow_view irow_viewc irow_hotR irow_ren irow_renc irow_low WeakT heapT thOf ren renC AgainT NextF NextT fnDec cFn rNil selfLt natLt0 natLt1 getLastMap frame0 frame1 own0 own1 argG finG tau tauI tauO tauC bareA bareC bareH irow_tau irow_tauc irow_bare irow_flat irow_bareR ownA_nil ownT_nil ownA_c ownT_c ownA_s ownT_s takeMapLen footC plainA noId noIdC cloneF frame0F frame1F insertF replaceI replaceF cellDec rCell fpDec cFp rTwo deleteF allV_oA oneA_oA res_oA RunR RunE runFT footAt hotR_cat tmodN aEqH aSliceA frameN newA newC newH fqSz3 fqBy3 fqAg3 fqZe3 fqSl3 fqAr3 fqPl3 fqSz4 fqBy4 fqAg4 fqZe4 fqSl4 fqAr4 fqPl4 fqSz5 fqBy5 fqAg5 fqZe5 fqSl5 fqAr5 fqPl5 fqSz27 fqBy27 fqAg27 fqZe27 fqSl27 fqAr27 fqPl27 fqSz28 fqBy28 fqAg28 fqZe28 fqSl28 fqAr28 fqPl28 fqSz39 fqBy39 fqAg39 fqZe39 fqSl39 fqAr39 fqPl39 fqCv3x5 fqCv5x3 fqEb4 fqNb4 fqLn28 fqNe28 fqNn28 fqOe28 fqOn28 fqXe28 fqXn28 fqLn39 fqNe39 fqNn39 fqOe39 fqOn39 fqXe39 fqXn39 fqFm13 fqFi13 fqSz9 fqBy9 fqAg9 fqZe9 fqSl9 fqAr9 fqPl9 fqSz46 fqBy46 fqAg46 fqZe46 fqSl46 fqAr46 fqPl46 fqLt9 fqLn46 fqNe46 fqNn46 fqOe46 fqOn46 fqXe46 fqXn46 fqFm63 fqFi63 fqFm129 fqFi129 fqFm207 fqFi207 fqFm270 fqFi270 fqFm271 fqFi271 fqFm272 fqFi272 fqFm318 fqFm319 fqFi319 fqFm320 fqFi320 fqFm350 ev_eqlS ev_neqS
variable {bx : Nat → LO}
def S0 : LS := SA ++ [(2822, crO)]
theorem a_R0 (p : AVal) : obsB (runG 173 43 cat4 aR0 (a0E p) (mkT 2822 (SC bx))) 0 2823 S0 [8, 0, 1, 2, 3, 4, 5] bxK = some (a1E p, bxO bx) := by kernel_rfl
theorem a_B2e (x y : AVal) (e : Int) (he : e = 2 ∨ e = 3) : obsB (runG 173 43 cat4 aB2 (a2E x y (.v (.int .i64 e))) (mkT 2826 (SC bx))) 1 2826 SA [12, 13] bxK = some ([(12, .v (.slice none 0 0)), (13, .v (.int .i64 e))], bxO bx) := by
 rcases he with rfl | rfl <;> kernel_rfl
theorem a_B2 (x y : AVal) : obsB (runG 173 43 cat4 aB2 (a2E x y (.v (.int .i64 0))) (mkT 2828 (SB bx))) 0 2828 (SW 0) [14, 15, 16, 5] bxK = some (a2E x y (.v (.int .i64 0)), bxO bx) := by kernel_rfl
theorem a_B5e (e : Int) (he : e = 2 ∨ e = 3 ∨ e = 4 ∨ e = 14) : obsB (runG 173 43 cat4 aB5 (a3E (.v (.int .i64 e))) (mkT 2828 (SE bx))) 1 2828 SA [12, 13] bxK = some ([(12, .v (.slice none 0 0)), (13, .v (.int .i64 e))], bxO bx) := by
 rcases he with rfl | rfl | rfl | rfl <;> kernel_rfl
theorem a_B5 : obsB (runG 173 43 cat4 aB5 (a3E (.v (.int .i64 0))) (mkT 2828 (SE bx))) 0 2828 SE0 [14, 17] bxK = some (a3E (.v (.int .i64 0)), bxO bx) := by kernel_rfl
def S7 : LS := SA ++ [(2828, .ls 1 [[.v (.int .i64 3)]])]
theorem a_R7 : obsB (runG 173 43 cat4 aR7 (a3E (.v (.int .i64 0))) (mkT 2828 (SE bx))) 1 2829 S7 [12, 13] bxK = some ([(12, .osl 2828 1 0 1 1), (13, .v (.int .i64 0))], bxO bx) := by kernel_rfl
theorem s0_ok : okLS 2823 S0 = true := by kernel_rfl
theorem s0_nd : ((addB S0 bx).map Prod.fst).Nodup := by
 have h : ((addB S0 bx).map Prod.fst) = (addB S0 fun _ => diskO).map Prod.fst := by kernel_rfl
 rw [h]; decide
theorem h23_obj (hB : Bl 2822 bx) : (mkH 2823 (addB S0 bx))[2822]? = some (some (6, [[.v (.int .i64 0), .v (.int .i64 0), .v (.slice none 0 0), .v (.int .i64 127), .v (.int .i64 0), .v (.int .i64 0)]])) := by
 have h := mkH_at (n := 2823) s0_nd (addB_ok (by decide) s0_ok hB.ok) (p := (2822, crO)) (List.mem_append_left _ (List.mem_append_right _ (by simp)))
 exact h
theorem h23_sub (hB : Bl 2822 bx) : SubH (mkH 2823 (SC bx)) (mkH 2823 (addB S0 bx)) := mkH_sub s0_nd (addB_ok (by decide) s0_ok hB.ok) fun p hp => by
 simp only [SC, addB, S0, List.mem_append] at hp ⊢
 rcases hp with h | h
 ·exact .inl (.inl h)
 ·exact .inr h
theorem er_shr (hB : Bl 2822 bx) {e : Int} {n : Nat} (hn : 2822 ≤ n) : Ent 2822 (erE e, mkH 2822 (SC bx)) (erE e, mkH n (SC bx)) :=
 ent_shrink hn (addB_ok (by decide) sa_ok hB.ok) (addB_low (by decide) sa_low hB.low) (fun q hq => by
  simp only [erE, List.mem_cons, List.not_mem_nil, or_false] at hq
  rcases hq with rfl | rfl <;> rfl) (fun q hq => by
  simp only [erE, List.mem_cons, List.not_mem_nil, or_false] at hq
  rcases hq with rfl | rfl <;> rfl)
theorem sb_ok (hB : Bl 2822 bx) : okLS 2828 (SB bx) = true := sw_ok (bl_bx hB)
theorem wa_pre {n' : Nat} {l' : LS} {p r x y z : AVal} {Q : Post} {c : Code} (hB : Bl 2822 bx) (hI : InlOk Tryz.prog 245 (snapM (stA cwA p) 2823 (SC bx) r n' l')) (hp : res true p = p)
  (h : (r = .tup [x, y, z] ∧ res true x = x ∧ res true y = y ∧ res true z = z) ∨ ∃ a b d, r = .v (.tuple #[a, b, d]) ∧ x = .v a ∧ y = .v b ∧ z = .v d) (hc : AWp Tryz.prog 43 2822 c Q (a2E x y z) (mkH n' l')) :
  AWp Tryz.prog 43 2822 (.seq aR0 (.seq (.region 1 f173o1 false) c)) Q (a0E p) (mkH 2822 (SC bx)) :=
 AWp.seqE (partG hT4 (addB_ok (by decide) sa_ok hB.ok) (a_R0 p)) (AWp.seqC (j1 hI hp (h23_obj hB) (h23_sub hB) h) hc)
theorem w173s (hB : Bl 2822 bx) {s : ByteArray} {e : Int} (he : e = 2 ∨ e = 3) (hs : splitR s = .v (.tuple #[.bool false, .slice none 0 0, .int .i64 e])) : InlOk Tryz.prog 173 (snapM (waA (.v (.string s))) 2822 (SC bx) (errA e) 2822 (SC bx)) := by
 refine snapE (code := a0c) Tryz.func173 rfl (by show 6 ≤ 43; decide) ?_
 refine snapR (ρ' := erE e) (e := .ret) (.inl rfl) ⟨_, rfl, rfl⟩ ?_
 rw [a0_eq]
 refine AWp.mono (wa_pre hB (w245e hB he hs) rfl (.inr ⟨_, _, _, rfl, rfl, rfl, rfl⟩) (AWp.retE (partG hT4 (addB_ok (by decide) (by kernel_rfl) hB.ok) (a_B2e _ _ e he)))) ?_
 rintro ex ρ2 H2 ⟨h1, h2⟩
 exact ⟨h1, (er_shr hB (by decide)).trans h2⟩
theorem wa_mid (hB : Bl 2822 bx) {s : ByteArray} {L : AVal} (hL : L = restA s) (hs : ∃ b, splitR s = .v (.tuple #[.bool b, .slice none 0 0, .int .i64 0]) ∧ partsB s = [] ∨ splitR s = .tup [.v (.bool b), .fsl true 1 ((partsB s).map strRow), .v (.int .i64 0)] ∧ partsB s ≠ [])
  {r : Int} (hI : InlOk Tryz.prog 246 (snapM [.ptr 2827 10 0 0, L, .v (.bool true)] 2828 (SB bx) (.v (.int .i64 r)) 2828 (SE bx))) {Q : Post}
  (h : AWp Tryz.prog 43 2822 aB5 (thenA (AWp Tryz.prog 43 2822 aR7 Q) Q) (a3E (.v (.int .i64 r))) (mkH 2828 (SE bx))) : AWp Tryz.prog 43 2822 a0c Q (a0E (.v (.string s))) (mkH 2822 (SC bx)) := by
 obtain ⟨b, hs⟩ := hs
 have hres : res true L = L := by
  rw [hL, restA]
  split <;> rfl
 rw [a0_eq]
 refine wa_pre hB (w245 hB hL hs) rfl (.inl ⟨rfl, rfl, hres, rfl⟩) ?_
 refine AWp.seqE (partG hT4 (sb_ok hB) (a_B2 _ _)) ?_
 exact AWp.seq (AWp.seqC (j4 hI hres ⟨rfl, fun _ _ h => h⟩) h)
theorem w173r (hB : Bl 2822 bx) {s : ByteArray} {L : AVal} (hL : L = restA s) (hs : ∃ b, splitR s = .v (.tuple #[.bool b, .slice none 0 0, .int .i64 0]) ∧ partsB s = [] ∨ splitR s = .tup [.v (.bool b), .fsl true 1 ((partsB s).map strRow), .v (.int .i64 0)] ∧ partsB s ≠ [])
  {r : Int} (hr : r = 2 ∨ r = 3 ∨ r = 4 ∨ r = 14) (hI : InlOk Tryz.prog 246 (snapM [.ptr 2827 10 0 0, L, .v (.bool true)] 2828 (SB bx) (.v (.int .i64 r)) 2828 (SE bx))) : InlOk Tryz.prog 173 (snapM (waA (.v (.string s))) 2822 (SC bx) (errA r) 2822 (SC bx)) := by
 refine snapE (code := a0c) Tryz.func173 rfl (by show 6 ≤ 43; decide) ?_
 refine snapR (ρ' := erE r) (e := .ret) (.inl rfl) ⟨_, rfl, rfl⟩ ?_
 refine wa_mid hB hL hs hI ((partG hT4 (se_ok hB) (a_B5e r hr)).mono ?_)
 rintro ex ρ2 H2 ⟨h1, h2⟩
 rw [exN_ret h1]
 exact ⟨rfl, (er_shr hB (by decide)).trans h2⟩
theorem w173o (hB : Bl 2822 bx) {s : ByteArray} {L : AVal} (hL : L = restA s) (hs : ∃ b, splitR s = .v (.tuple #[.bool b, .slice none 0 0, .int .i64 0]) ∧ partsB s = [] ∨ splitR s = .tup [.v (.bool b), .fsl true 1 ((partsB s).map strRow), .v (.int .i64 0)] ∧ partsB s ≠ [])
  (hI : InlOk Tryz.prog 246 (snapM [.ptr 2827 10 0 0, L, .v (.bool true)] 2828 (SB bx) (.v (.int .i64 0)) 2828 (SE bx))) : InlOk Tryz.prog 173 (snapM (waA (.v (.string s))) 2822 (SC bx) (.tup [.osl 2828 1 0 1 1, .v (.int .i64 0)]) 2829 (addB S7 bx)) := by
 refine snapE (code := a0c) Tryz.func173 rfl (by show 6 ≤ 43; decide) ?_
 refine snapR (ρ' := [(12, .osl 2828 1 0 1 1), (13, .v (.int .i64 0))]) (e := .ret) (.inl rfl) ⟨_, rfl, rfl⟩ ?_
 refine wa_mid hB hL hs hI ((partG hT4 (se_ok hB) a_B5).mono ?_)
 rintro ex ρ2 H2 ⟨h1, h2⟩
 rw [exN_on h1]
 refine AWp.ent ?_ h2
 exact (partG hT4 (se_ok hB) a_R7).mono fun ex ρ2 H2 h => ⟨exN_ret h.1, h.2⟩
end Go.Proofs.GD.PB
