/- The walk's code in parts, and the state at its head. -/
import Derived.Test.YtdakclpneghkmaaGreatDoorEq
import Derived.Test.YtdakclpneghkmaaGreatDoorSp
namespace Go.Proofs.GD
set_option linter.unusedSectionVars false
variable [Go.AI.Sym]
open Go Go.AI Go.RowKit
set_option maxRecDepth 100000
noncomputable def w0c : Code := bodyC Tryz.f246
noncomputable def wLp : Code := lopC (blkC (fstC (sndC w0c)))
noncomputable def wH : Code := fstC wLp
noncomputable def wIn : Code := blkC (sndC wLp)
noncomputable def wR2 : Code := fstC wIn
noncomputable def wR3 : Code := fstC (sndC wIn)
noncomputable def wM4 : Code := fstC (sndC (sndC wIn))
noncomputable def wM7 : Code := fstC (sndC (sndC (sndC wIn)))
noncomputable def wT : Code := sndC (sndC (sndC (sndC wIn)))
noncomputable def wD : Code := sndC (sndC wIn)
noncomputable def run246 (cat : FuncId → Sp) (c : Code) (ρ : Env) (T : TH) : RT := (compCT Tryz.prog tab4 (live 246) 5000 246 125 c 1).run (execW Tryz.prog tab4 cat live 5000 59) (execT Tryz.prog tab4 cat live 5000 59) ρ T
noncomputable def endN : RT → Option (Nat × Env × TH)
 | .no => none
 | .nm ρ T => some (0, ρ, T)
 | .rt ρ T => some (1, ρ, T)
 | .ex id ρ T => some (Nat.add id 2, ρ, T)
noncomputable def obsB (x : RT) (e n : Nat) (l : LS) (kk ks : List Nat) : Option (Env × List (Option Ob)) := match endN x with
 | some (e', ρ, T) => cond (Nat.beq e' e) (cond (Nat.beq T.n n) (cond (checkLS T l) (some (kk.map fun k => (k, AI.look ρ k), ks.map fun k => (tgetR T.t k).map absO)) none) none) none
 | none => none
def bxL (bx : Nat → LO) : LS := [(2806, bx 0), (2807, bx 1), (2808, bx 2), (2809, bx 3), (2810, bx 4), (2811, bx 5), (2812, bx 6), (2813, bx 7), (2814, bx 8), (2815, bx 9), (2816, bx 10), (2817, bx 11), (2818, bx 12), (2819, bx 13), (2820, bx 14), (2821, bx 15)]
def bxK : List Nat := [2806, 2807, 2808, 2809, 2810, 2811, 2812, 2813, 2814, 2815, 2816, 2817, 2818, 2819, 2820, 2821]
noncomputable def bxO (bx : Nat → LO) : List (Option Ob) := (bxL bx).map fun p => some (absO (toO p.2))
structure Bx (bx : Nat → LO) : Prop where
 ok : ∀ i, okLO (bx i) = true
 low : ∀ i, lowLO 2828 (bx i) = true
def wkR (c : Int) : Row := [.ifc 69 (.ptr 2064 198 0 0), .v (.slice none 0 0), .v (.int .i64 0), .v (.int .i64 0), .v (.slice none 0 0), .v (.int .i64 127), .v (.int .i64 0), .v (.int .i64 0), .osl 2826 1 0 1 1, .v (.int .i64 c)]
def SW (c : Int) : LS := SA ++ [(2826, .ls 1 [[.v (.int .i64 3)]]), (2827, .ls 10 [wkR c])]
def SB (bx : Nat → LO) : LS := SW 0 ++ bxL bx
def wkE (l p : AVal) : Env := [(0, .ptr 2827 10 0 0), (1, l), (2, .v (.bool true)), (7, p)]
end Go.Proofs.GD
/- A part of the walk, run by the kernel, as what it does to the memory; the pieces "." and ".." in phase A. -/
namespace Go.Proofs.GD
set_option linter.unusedSectionVars false
variable [Go.AI.Sym]
open Go Go.AI Go.RowKit
set_option maxRecDepth 100000
def exN : Exit → Nat
 | .normal => 0
 | .ret => 1
 | .exit k => k + 2
 | _ => 5000000
theorem condW {α : Type} {b : Bool} {x : Option α} {y : α} (h : cond b x none = some y) : b = true ∧ x = some y := by
 cases b with
 | false => cases h
 | true => exact ⟨rfl, h⟩
theorem endN_res {x : RT} {e : Nat} {ρ : Env} {T : TH} (h : endN x = some (e, ρ, T)) : ∃ ex, toRes x = some (ex, ρ, T) ∧ exN ex = e := by
 cases x with
 | no => cases h
 | nm ρ T => cases h; exact ⟨.normal, rfl, rfl⟩
 | rt ρ T => cases h; exact ⟨.ret, rfl, rfl⟩
 | ex id ρ T => cases h; exact ⟨.exit id, rfl, rfl⟩
theorem obsB_some {x : RT} {e n : Nat} {l : LS} {kk ks : List Nat} {ρ' : Env} {os : List (Option Ob)} (h : obsB x e n l kk ks = some (ρ', os)) : ∃ ex ρ T, toRes x = some (ex, ρ, T) ∧ exN ex = e ∧ ρ' = kk.map (fun k => (k, AI.look ρ k)) ∧ Nat.beq T.n n = true ∧ checkLS T l = true ∧ os = ks.map fun k => (tgetR T.t k).map absO := by
 unfold obsB at h
 split at h
 case h_2 => cases h
 rename_i e' ρ T he
 obtain ⟨h1, h2⟩ := condW h
 obtain ⟨h3, h4⟩ := condW h2
 obtain ⟨h5, h6⟩ := condW h4
 obtain ⟨ex, q1, q2⟩ := endN_res he
 simp only [Option.some.injEq, Prod.mk.injEq] at h6
 exact ⟨ex, ρ, T, q1, q2.trans (Nat.eq_of_beq_eq_true h1), h6.1.symm, h3, h5, h6.2.symm⟩
theorem map_atW {α β : Type} {f g : α → β} : ∀ {l : List α}, l.map f = l.map g → ∀ p ∈ l, f p = g p
 | [], _, p, hp => by cases hp
 | q :: l, h, p, hp => by
  simp only [List.map_cons, List.cons.injEq] at h
  rcases List.mem_cons.1 hp with rfl | hp
  ·exact h.1
  ·exact map_atW h.2 p hp
theorem subB {T : TH} {H : Heap} (h : TR T H) {n : Nat} {l : LS} {bx : Nat → LO} (hn : Nat.beq T.n n = true) (hc : checkLS T l = true) (ho : bxO bx = bxK.map fun k => (tgetR T.t k).map absO) : SubH (mkH n (l ++ bxL bx)) H := by
 have hn : n = H.length := by rw [← h.n]; exact (Nat.eq_of_beq_eq_true hn).symm
 refine putLH_sub ⟨by simp [hn], fun id q hq => ?_⟩ (fun p hp => ?_)
 ·rw [List.getElem?_replicate] at hq
  split at hq <;> cases hq
 ·rcases List.mem_append.1 hp with hp | hp
  ·exact checkLS_at h hc p hp
  ·have h2 : (bxL bx).map (fun p => (tgetR T.t p.1).map absO) = (bxL bx).map fun p => some (absO (toO p.2)) := ho.symm
   have := map_atW h2 p hp
   simp only [tgetR_eq] at this
   rw [← h.g, this]
theorem partW {cat : FuncId → Sp} (hT : TabV Tryz.prog tab4 cat) {n0 : Nat} {c : Code} {ρ ρ' : Env} {e n n' : Nat} {l l' : LS} {kk : List Nat} {bx : Nat → LO} (hok : okLS n (l ++ bxL bx) = true) (hx : obsB (run246 cat c ρ (mkT n (l ++ bxL bx))) e n' l' kk bxK = some (ρ', bxO bx)) :
  AWp Tryz.prog 125 n0 c (fun ex ρ2 H2 => exN ex = e ∧ Ent n0 (ρ', mkH n' (l' ++ bxL bx)) (ρ2, H2)) ρ (mkH n (l ++ bxL bx)) := by
 have hm : Tryz.prog.follows .mixedOrders = true := by kernel_rfl
 obtain ⟨ex, ρ2, T, h1, h2, rfl, h4, h5, h6⟩ := obsB_some hx
 obtain ⟨H', q1, q2⟩ := runT_sound (n0 := n0) hT hm (mkT_R hok) h1
 refine q2.ofX ⟨h2, ?_⟩
 refine Ent.trans (Ent.env fun p hp => ?_) (Ent.ofH (H' := mkH n' (l' ++ bxL bx)) (subB q1 h4 h5 h6).len fun hs => hs.sub (subB q1 h4 h5 h6))
 obtain ⟨k, _, rfl⟩ := List.mem_map.1 hp
 rfl
variable {bx : Nat → LO}
theorem sw_ok (hB : Bx bx) : okLS 2828 (SB bx) = true := by
 have h : okLS 2828 (SW 0) = true := by kernel_rfl
 simp only [okLS, Bool.and_eq_true] at h ⊢
 refine ⟨h.1, ?_⟩
 rw [SB, List.all_append, h.2]
 simp [bxL, hB.ok]
theorem sw_low (hB : Bx bx) : lowLS 2828 (SB bx) = true := by
 have h : lowLS 2828 (SW 0) = true := by kernel_rfl
 unfold lowLS at h ⊢
 rw [SB, List.all_append, h]
 simp [bxL, hB.low]
def wkE3 (l : AVal) : Env := [(0, .ptr 2827 10 0 0), (1, l), (2, .v (.bool true))]
theorem dotA (l : AVal) : obsB (run246 cat4 wD (wkE l (.v (.string dotB))) (mkT 2828 (SB bx))) 3 2838 (SW 0) [0, 1, 2] bxK = some (wkE3 l, bxO bx) := by kernel_rfl
theorem dotsA (l : AVal) : obsB (run246 cat4 wD (wkE l (.v (.string dotsB))) (mkT 2828 (SB bx))) 3 2838 (SW 0) [0, 1, 2] bxK = some (wkE3 l, bxO bx) := by kernel_rfl
theorem dot_ok (hB : Bx bx) {l p : AVal} (hl : lowA 2828 l = true) (hp : p = .v (.string dotB) ∨ p = .v (.string dotsB)) : AWp Tryz.prog 125 2828 wD (fun ex ρ2 H2 => exN ex = 3 ∧ Ent 2828 (wkE3 l, mkH 2828 (SB bx)) (ρ2, H2)) (wkE l p) (mkH 2828 (SB bx)) := by
 have key : Ent 2828 (wkE3 l, mkH 2828 (SB bx)) (wkE3 l, mkH 2838 (SB bx)) := ent_shrink (by decide) (sw_ok hB) (sw_low hB) (fun q hq => by
  simp only [wkE3, List.mem_cons, List.not_mem_nil, or_false] at hq
  rcases hq with rfl | rfl | rfl
  ·rfl
  ·exact hl
  ·rfl) (fun q hq => by
  simp only [wkE3, List.mem_cons, List.not_mem_nil, or_false] at hq
  rcases hq with rfl | rfl | rfl <;> rfl)
 rcases hp with rfl | rfl
 ·exact (partW hT4 (sw_ok hB) (dotA l)).mono fun e ρ2 H2 h => ⟨h.1, key.trans h.2⟩
 ·exact (partW hT4 (sw_ok hB) (dotsA l)).mono fun e ρ2 H2 h => ⟨h.1, key.trans h.2⟩
end Go.Proofs.GD
/- The head of the walk's rounds, by the symbolic engine. -/
namespace Go.Proofs.GD
set_option linter.unusedSectionVars false
variable [Go.AI.Sym]
open Go Go.AI Go.RowKit
set_option maxRecDepth 100000
def f246o0 : Array Oper := #[{ dst := some 6, op := Op.assign (Operand.const (Value.int IntKind.i64 0)), type := 27, pos := "path.go:72", after := #[], guard := none }]
def f246o1 : Array Oper := #[{ dst := some 14, op := Op.move (Operand.tmp 1), type := 46, pos := "path.go:73", after := #[], guard := none }, { dst := some 15, op := Op.call { callee := Callee.builtin Builtin.len, args := #[Operand.tmp 14], argTypes := #[46] }, type := 3, pos := "path.go:73", after := #[{ on := 0, ground := Ground.data }], guard := none }, { dst := some 16, op := Op.binOp BinOp.gtr 3 (Operand.tmp 15) (Operand.const (Value.int IntKind.i64 0)) 3, type := 4, pos := "path.go:73", after := #[{ on := 1, ground := Ground.data }], guard := none }]
def f246o2 : Array Oper := #[{ dst := some 17, op := Op.move (Operand.tmp 1), type := 46, pos := "path.go:74", after := #[], guard := none }, { dst := some 18, op := Op.indexAddr 46 (Operand.tmp 17) (Operand.const (Value.int IntKind.i64 0)), type := 0, pos := "path.go:74", after := #[{ on := 0, ground := Ground.data }], guard := none }, { dst := some 19, op := Op.load 9 (Operand.tmp 18), type := 9, pos := "path.go:74", after := #[{ on := 1, ground := Ground.data }], guard := none }, { dst := some 7, op := Op.assign (Operand.tmp 19), type := 9, pos := "path.go:74", after := #[{ on := 2, ground := Ground.data }, { on := 0, ground := Ground.phase }, { on := 1, ground := Ground.phase }, { on := 2, ground := Ground.phase }], guard := none }]
def f246o3 : Array Oper := #[{ dst := some 20, op := Op.move (Operand.tmp 1), type := 46, pos := "path.go:75", after := #[], guard := none }, { dst := some 21, op := Op.slice 46 (Operand.tmp 20) (some (Operand.const (Value.int IntKind.i64 1))) none none, type := 46, pos := "path.go:75", after := #[{ on := 0, ground := Ground.data }], guard := none }, { dst := some 1, op := Op.assign (Operand.tmp 21), type := 46, pos := "path.go:75", after := #[{ on := 1, ground := Ground.data }, { on := 0, ground := Ground.phase }, { on := 1, ground := Ground.phase }], guard := none }]
def f246o7 : Array Oper := #[{ dst := some 27, op := Op.move (Operand.tmp 7), type := 9, pos := "path.go:79", after := #[], guard := none }]
def f246o8 : Array Oper := #[{ dst := some 29, op := Op.binOp BinOp.eql 9 (Operand.tmp 27) (Operand.const (Value.string { data := #[46] })) 9, type := 4, pos := "path.go:80", after := #[], guard := none }, { dst := some 28, op := Op.assign (Operand.tmp 29), type := 4, pos := "path.go:80", after := #[{ on := 0, ground := Ground.data }], guard := none }]
def f246o9 : Array Oper := #[{ dst := some 31, op := Op.binOp BinOp.eql 9 (Operand.tmp 27) (Operand.const (Value.string { data := #[46, 46] })) 9, type := 4, pos := "path.go:82", after := #[], guard := none }, { dst := some 30, op := Op.assign (Operand.tmp 31), type := 4, pos := "path.go:82", after := #[{ on := 0, ground := Ground.data }], guard := none }]
def f246o27 : Array Oper := #[{ dst := some 6, op := Op.assign (Operand.const (Value.int IntKind.i64 0)), type := 27, pos := "path.go:109", after := #[], guard := none }]
set_option maxHeartbeats 2000000
set_option maxRecDepth 100000
set_option linter.unusedSimpArgs false
set_option linter.unusedVariables false
attribute [local simp] wpA wpX RunA RunD runF foot footP footB idsA bare apart runL step1 gsel_f gsel_t gsel_s res_same res_and1 res_and2 res_and3 res_and4 res_and5 res_and6 res_false res_true res_v res_ptr res_fptr res_osl res_xsl soft aAppendZ aCap ovlI ovlJ res_fsl res_esl res_agg res_tup res_fn res_junk res_anyb aPick hk imp_left iteV dstOk guardOk astep astepE AI.ev AI.look AI.put envOf aBox cellsOf allOne allOneA oneA Value.oneCell' Value.cells newObj' aFieldAddr aLoad obj readAt thenA blockA condA retA resA tupA view hot hotC hotR depthV cAgg cInt cBool mkAgg allV aAlloc aBuild fillA writeAt aStore isAggA aField idx aIndexAddr aIndex bnd aSlice aExtract aLen aBuiltin aCall isStatic eqAgg eqTy eqC ev_add ev_sub ev_mul ev_quo ev_rem ev_and ev_or ev_xor ev_andNot ev_shl ev_shr ev_eql ev_neq ev_lss ev_leq ev_gtr ev_geq ev_agg w64 wu32 wu8 ev_not ev_neg Cod.plain RCod.plain argM finM cold coldC coldR goInt intDec boolDec aggDec Weaker heapW lowA lowC Again slDec undef aBuildSlice setRows aAppend rowsOf aMakeSlice aClear aCopy softer_self softer_nil valsOf ev_min2 ev_max2 hotR_set hotR_append take_map_set irow_cold irow_mapM irow_mapMc irow_view irow_viewc irow_hotR irow_ren irow_renc irow_low WeakT heapT thOf ren renC AgainT NextF NextT fnDec cFn rNil selfLt natLt0 natLt1 getLastMap frame0 frame1 own0 own1 argG finG tau tauI tauO tauC bareA bareC bareH irow_tau irow_tauc irow_bare irow_flat irow_bareR ownA_nil ownT_nil ownA_c ownT_c ownA_s ownT_s takeMapLen footC plainA noId noIdC cloneF frame0F frame1F insertF replaceI replaceF cellDec rCell fpDec cFp rTwo deleteF allV_oA oneA_oA res_oA RunR RunE runFT footAt hotR_cat tmodN aEqH aSliceA frameN newA newC newH fqSz3 fqBy3 fqAg3 fqZe3 fqSl3 fqAr3 fqPl3 fqSz4 fqBy4 fqAg4 fqZe4 fqSl4 fqAr4 fqPl4 fqSz5 fqBy5 fqAg5 fqZe5 fqSl5 fqAr5 fqPl5 fqSz27 fqBy27 fqAg27 fqZe27 fqSl27 fqAr27 fqPl27 fqSz28 fqBy28 fqAg28 fqZe28 fqSl28 fqAr28 fqPl28 fqSz39 fqBy39 fqAg39 fqZe39 fqSl39 fqAr39 fqPl39 fqCv3x5 fqCv5x3 fqEb4 fqNb4 fqLn28 fqNe28 fqNn28 fqOe28 fqOn28 fqXe28 fqXn28 fqLn39 fqNe39 fqNn39 fqOe39 fqOn39 fqXe39 fqXn39 fqFm13 fqFi13 fqSz9 fqBy9 fqAg9 fqZe9 fqSl9 fqAr9 fqPl9 fqSz46 fqBy46 fqAg46 fqZe46 fqSl46 fqAr46 fqPl46 fqLt9 fqLn46 fqNe46 fqNn46 fqOe46 fqOn46 fqXe46 fqXn46 fqFm63 fqFi63 fqFm129 fqFi129 fqFm207 fqFi207 fqFm270 fqFi270 fqFm271 fqFi271 fqFm272 fqFi272 fqFm318 fqFm319 fqFi319 fqFm320 fqFi320 fqFm350 ev_eqlS ev_neqS
def psA (ps : List ByteArray) : AVal := .fsl true 1 (ps.map strRow)
theorem k1 {H : Heap} {ps : List ByteArray} : AWp Tryz.prog 125 2828 (.region 1 f246o1 false) (fun e ρ' H' => e = .normal ∧ H' = H ∧ ∀ p ∈ (16, .v (.bool (decide (0 < ps.length)))) :: wkE3 (psA ps), AI.look ρ' p.1 = p.2) (wkE3 (psA ps)) H := by
 refine wpA_sound noOrc_ok fqMix _ _ _ _ (by kernel_rfl) ?_
 simp [f246o1, noOrc, wkE3, psA]
theorem k1n {H : Heap} : AWp Tryz.prog 125 2828 (.region 1 f246o1 false) (fun e ρ' H' => e = .normal ∧ H' = H ∧ ∀ p ∈ (16, .v (.bool false)) :: wkE3 (.v (.slice none 0 0)), AI.look ρ' p.1 = p.2) (wkE3 (.v (.slice none 0 0))) H := by
 refine wpA_sound noOrc_ok fqMix _ _ _ _ (by kernel_rfl) ?_
 simp [f246o1, noOrc, wkE3]
theorem k2 {H : Heap} {p : ByteArray} {ps : List ByteArray} : AWp Tryz.prog 125 2828 (.region 2 f246o2 false) (fun e ρ' H' => e = .normal ∧ H' = H ∧ ∀ q ∈ wkE (psA (p :: ps)) (.v (.string p)), AI.look ρ' q.1 = q.2) (wkE3 (psA (p :: ps))) H := by
 refine wpA_sound noOrc_ok fqMix _ _ _ _ (by kernel_rfl) ?_
 simp [f246o2, noOrc, wkE3, wkE, psA, strRow]
theorem k3 {H : Heap} {p : ByteArray} {ps : List ByteArray} : AWp Tryz.prog 125 2828 (.region 3 f246o3 false) (fun e ρ' H' => e = .normal ∧ H' = H ∧ ∀ q ∈ wkE (psA ps) (.v (.string p)), AI.look ρ' q.1 = q.2) (wkE (psA (p :: ps)) (.v (.string p))) H := by
 refine wpA_sound noOrc_ok fqMix _ _ _ _ (by kernel_rfl) ?_
 have h1 : (1 : Int) ≤ (ps.length : Int) + 1 := by omega
 simp [f246o3, noOrc, wkE, psA, strRow, h1]
def wkF (l : AVal) (p : ByteArray) : Env := (27, .v (.string p)) :: wkE l (.v (.string p))
theorem k7s {H : Heap} {ps : List ByteArray} {p : ByteArray} : AWp Tryz.prog 125 2828 (.region 7 f246o7 false) (fun e ρ' H' => e = .normal ∧ H' = H ∧ ∀ q ∈ wkF (psA ps) p, AI.look ρ' q.1 = q.2) (wkE (psA ps) (.v (.string p))) H := by
 refine wpA_sound noOrc_ok fqMix _ _ _ _ (by kernel_rfl) ?_
 simp [f246o7, noOrc, wkE, wkF, psA]
theorem k8s {H : Heap} {ps : List ByteArray} {p : ByteArray} (hp : ¬ p = dotB) : AWp Tryz.prog 125 2828 (.region 8 f246o8 false) (fun e ρ' H' => e = .normal ∧ H' = H ∧ ∀ q ∈ (28, .v (.bool false)) :: wkF (psA ps) p, AI.look ρ' q.1 = q.2) (wkF (psA ps) p) H := by
 refine wpA_sound noOrc_ok fqMix _ _ _ _ (by kernel_rfl) ?_
 have hp' : (p = ⟨#[46]⟩) = False := eq_false hp
 simp [f246o8, noOrc, wkE, wkF, psA, hp']
theorem k9s {H : Heap} {ps : List ByteArray} {p : ByteArray} (hp : ¬ p = dotsB) : AWp Tryz.prog 125 2828 (.region 9 f246o9 false) (fun e ρ' H' => e = .normal ∧ H' = H ∧ ∀ q ∈ (30, .v (.bool false)) :: wkF (psA ps) p, AI.look ρ' q.1 = q.2) ((28, .v (.bool false)) :: wkF (psA ps) p) H := by
 refine wpA_sound noOrc_ok fqMix _ _ _ _ (by kernel_rfl) ?_
 have hp' : (p = ⟨#[46, 46]⟩) = False := eq_false hp
 simp [f246o9, noOrc, wkE, wkF, psA, hp']
theorem mayA (bx : Nat → LO) (l p : AVal) : obsB (run246 cat4 wM4 (wkE l p) (mkT 2828 (SB bx))) 0 2838 (SW 0) [0, 1, 2, 7] bxK = some (wkE l p, bxO bx) := by kernel_rfl
end Go.Proofs.GD
/- Functions of a string, at a string with a mark. -/
namespace Go.Proofs.GD
set_option linter.unusedSectionVars false
variable [Go.AI.Sym]
open Go Go.AI Go.RowKit
set_option maxRecDepth 100000
attribute [local simp] cStr strDec
def markM (mk : Nat → Option Value) (args : Row) (H : Heap) : Option (AVal × Heap) := match args with
 | [.str k] => (mk k).map fun x => (.v x, H)
 | _ => none
noncomputable def markT (mk : Nat → Option Value) (args : Row) (T : TH) : Option (AVal × TH) := match args with
 | [.str k] => match mk k with
  | some x => some (.v x, T)
  | none => none
 | _ => none
theorem mark_sim (mk : Nat → Option Value) (args : Row) (T : TH) (H : Heap) (h : TR T H) : SimO (markT mk args T) (markM mk args H) := by
 unfold markT markM
 split
 ·rename_i k
  cases mk k with
  | none => exact SimO.nil
  | some x => exact SimO.one h (.v x)
 ·exact SimO.nil
theorem mark_inl {f : FuncId} {fn : Func} {c : Code} (hf : Tryz.prog.funcs[f]? = some fn) (hb : fn.body = some c) {g : ByteArray → Value} (h : PureOk Tryz.prog f (argM cStr fun s => finM (some (.v (g s))))) {mk : Nat → Option Value} (hk : ∀ k x, mk k = some x → ∀ y, Sym.P k y → ∃ s, y = .string s ∧ g s = x) : InlOk Tryz.prog f (markM mk) := by
 intro args H r H' hr base w0 β fz w vals hs hargs
 unfold markM at hr
 split at hr
 case h_2 => cases hr
 rename_i k
 simp only [Option.map_eq_some_iff, Prod.mk.injEq] at hr
 obtain ⟨x, hx, rfl, rfl⟩ := hr
 obtain ⟨hsz, hv⟩ := hargs
 have h0 := hv 0 _ rfl
 have hs1 : vals.size = 1 := hsz
 generalize hv0 : vals[0]?.getD undef = y at h0
 cases h0 with
 | str hP =>
  obtain ⟨s, rfl, hg⟩ := hk k x hx _ hP
  have hvals : vals = #[.string s] := by
   apply Array.ext
   ·simpa using hs1
   ·intro i h2 h3
    have : i = 0 := by simp at h3; omega
    subst this
    simpa [h2] using hv0
  subst hvals
  refine CallsX.of hf hb ((h [.v (.string s)] (.v (g s)) (by simp [argM, finM, Cod.plain]) w _ (ArgsR.of (vals := [.string s]) rfl (fun j a ha => by
   match j, ha with
   | 0, ha => simp at ha; subst ha; exact .v
   | j + 1, ha => simp at ha))).mono ?_)
  rintro e w' ⟨v, rfl, hb', hR⟩
  obtain ⟨q1, q2⟩ := hs.called hb'
  refine ⟨v, _, _, rfl, q1, q2, ?_⟩
  rw [hR.v_inv, hg]
  exact .v
end Go.Proofs.GD
/- Phase A: a piece that is no dot leads nowhere. -/
namespace Go.Proofs.GD
set_option linter.unusedSectionVars false
variable [Go.AI.Sym]
open Go Go.AI Go.RowKit
set_option maxRecDepth 100000
def mkN : Nat → Option Value
 | 0 => some (.bool true)
 | 1 => some (.bool false)
 | _ => none
noncomputable def catN : FuncId → Sp := fun g => cond (Nat.beq g 208) (.gen (fun _ => markM mkN) (fun _ _ => markT mkN) (fun _ _ args T H _ h => mark_sim mkN args T H h)) (cat4 g)
theorem q208 : tab4.rdf 208 = false := by kernel_rfl
structure Marks : Prop where
 yes : ∀ x, Sym.P 0 x → ∃ s, x = .string s ∧ nameB s = true
 no : ∀ x, Sym.P 1 x → ∃ s, x = .string s ∧ nameB s = false
theorem hTN (hM : Marks) : TabV Tryz.prog tab4 catN := hT4.addG q208 fun X hX => mark_inl Tryz.func208 rfl nm208 (fun k x hx y hy => by
 match k, hx with
 | 0, hx => obtain ⟨s, rfl, h⟩ := hM.yes y hy; cases hx; exact ⟨s, rfl, by rw [h]⟩
 | 1, hx => obtain ⟨s, rfl, h⟩ := hM.no y hy; cases hx; exact ⟨s, rfl, by rw [h]⟩)
end Go.Proofs.GD
/- Phase A: the walk along pieces, all of it. -/
namespace Go.Proofs.GD
set_option linter.unusedSectionVars false
variable [Go.AI.Sym]
open Go Go.AI Go.RowKit
set_option maxRecDepth 100000
set_option maxHeartbeats 2000000
theorem noA (bx : Nat → LO) (l : AVal) : obsB (run246 catN wT (wkE l (.str 0)) (mkT 2828 (SB bx))) 1 2843 (SW 0) [6] bxK = some ([(6, .v (.int .i64 4))], bxO bx) := by kernel_rfl
theorem nulA (bx : Nat → LO) (l : AVal) : obsB (run246 catN wT (wkE l (.str 1)) (mkT 2828 (SB bx))) 1 2828 (SW 0) [6] bxK = some ([(6, .v (.int .i64 3))], bxO bx) := by kernel_rfl
def cond2 : Code → Code
 | .cond _ x _ => x
 | c => c
def cond3 : Code → Code
 | .cond _ _ y => y
 | c => c
noncomputable def wX : Code := cond2 (sndC (cond3 (sndC (blkC (sndC wM7)))))
noncomputable def wLpC : Code := .seq (.seq (.region 1 f246o1 false) (.cond (.tmp 16) .skip (.exit 0))) (.block 1 (.seq (.region 2 f246o2 false) (.seq (.region 3 f246o3 false) wD)))
theorem wD_eq : wD = .seq wM4 (.seq (.seq (.region 7 f246o7 false) (.block 2 (.seq (.region 8 f246o8 false) (.cond (.tmp 28) (.exit 1) (.seq (.region 9 f246o9 false) (.cond (.tmp 30) wX .skip)))))) wT) := by kernel_rfl
section
variable {nt n0 : Nat} {ρ : Env} {H : Heap} {Q : Post}
theorem AWp.exitG {id : Nat} (h : Q (.exit id) ρ H) : AWp Tryz.prog nt n0 (.exit id) Q ρ H := wpA_sound noOrc_ok fqMix _ _ _ _ rfl h
theorem AWp.skipG (h : Q .normal ρ H) : AWp Tryz.prog nt n0 .skip Q ρ H := wpA_sound noOrc_ok fqMix _ _ _ _ rfl h
theorem AWp.blockG {id : Nat} {x : Code} (h : AWp Tryz.prog nt n0 x (blockA id Q) ρ H) : AWp Tryz.prog nt n0 (.block id x) Q ρ H := by
 intro f base w0 β fz a w h1 h2 hs
 refine wp_block (wp_mono (h f base w0 β fz a w h1 h2 hs) ?_)
 rintro e a' w' ⟨ρ', H', β', fz', q, s⟩
 cases e with
 | exit id' =>
  simp only [blockA] at q
  simp only [Exit.inBlock]
  split at q
  ·rename_i hid; rw [if_pos hid]; exact ⟨ρ', H', β', fz', q, s⟩
  ·rename_i hid; rw [if_neg hid]; exact ⟨ρ', H', β', fz', q, s⟩
 | _ => exact ⟨ρ', H', β', fz', q, s⟩
theorem AWp.seqG {x y : Code} {ρ' : Env} (h : AWp Tryz.prog nt n0 x (fun e ρ2 H2 => e = .normal ∧ H2 = H ∧ ∀ p ∈ ρ', AI.look ρ2 p.1 = p.2) ρ H) (h2 : AWp Tryz.prog nt n0 y Q ρ' H) : AWp Tryz.prog nt n0 (.seq x y) Q ρ H := by
 refine AWp.seq (h.mono ?_)
 rintro e ρ2 H2 ⟨rfl, rfl, h3⟩
 exact AWp.sub h3 h2
end
variable {bx : Nat → LO}
theorem shrA (hB : Bx bx) {ρ : Env} {n' : Nat} (hn : 2828 ≤ n') (h1 : ∀ p ∈ ρ, lowA 2828 p.2 = true) (h2 : ∀ p ∈ ρ, AI.look ρ p.1 = p.2) : Ent 2828 (ρ, mkH 2828 (SB bx)) (ρ, mkH n' (SB bx)) := ent_shrink hn (sw_ok hB) (sw_low hB) h1 h2
theorem exN_ret {e : Exit} (h : exN e = 1) : e = .ret := by
 cases e <;> simp_all [exN]
theorem exN_out {e : Exit} (h : exN e = 3) : e = .exit 1 := by
 cases e <;> simp_all [exN]
theorem exN_on {e : Exit} (h : exN e = 0) : e = .normal := by
 cases e <;> simp_all [exN]
theorem partS {cat : FuncId → Sp} (hT : TabV Tryz.prog tab4 cat) (hB : Bx bx) {n0 : Nat} {c : Code} {ρ ρ' : Env} {e n' : Nat} {kk : List Nat} (hx : obsB (run246 cat c ρ (mkT 2828 (SB bx))) e n' (SW 0) kk bxK = some (ρ', bxO bx)) :
  AWp Tryz.prog 125 n0 c (fun ex ρ2 H2 => exN ex = e ∧ Ent n0 (ρ', mkH n' (SB bx)) (ρ2, H2)) ρ (mkH 2828 (SB bx)) := partW (l := SW 0) (l' := SW 0) (bx := bx) hT (sw_ok hB) hx
theorem other_ok (hB : Bx bx) (hM : Marks) {ps : List ByteArray} {p : ByteArray} (h1 : ¬ p = dotB) (h2 : ¬ p = dotsB) (hm : Sym.P (if nameB p = true then 0 else 1) (.string p)) :
  AWp Tryz.prog 125 2828 (.seq (.seq (.region 7 f246o7 false) (.block 2 (.seq (.region 8 f246o8 false) (.cond (.tmp 28) (.exit 1) (.seq (.region 9 f246o9 false) (.cond (.tmp 30) wX .skip)))))) wT)
   (fun e ρ2 H2 => e = .ret ∧ Ent 2828 ([(6, .v (.int .i64 (if nameB p = true then 4 else 3)))], mkH 2828 (SB bx)) (ρ2, H2)) (wkE (psA ps) (.v (.string p))) (mkH 2828 (SB bx)) := by
 refine AWp.seq (AWp.seqG k7s (AWp.blockG (AWp.seqG (k8s h1) (AWp.condF rfl (AWp.seqG (k9s h2) (AWp.condF rfl (AWp.skipG ?_)))))))
 have hmark : Ent 2828 (wkE (psA ps) (.str (if nameB p = true then 0 else 1)), mkH 2828 (SB bx)) ((30, .v (.bool false)) :: wkF (psA ps) p, mkH 2828 (SB bx)) := by
  refine Ent.trans (s' := ((7, .str (if nameB p = true then 0 else 1)) :: wkE (psA ps) (.v (.string p)), mkH 2828 (SB bx))) ?_ ?_
  ·refine Ent.env fun q hq => ?_
   simp only [wkE, List.mem_cons, List.not_mem_nil, or_false] at hq
   rcases hq with rfl | rfl | rfl | rfl <;> rfl
  ·refine Ent.trans (Ent.slotL (t := 7) (ρ := wkE (psA ps) (.v (.string p))) (fun _ h => ?_)) (Ent.env fun q hq => ?_)
   ·have e : AI.look (wkE (psA ps) (.v (.string p))) 7 = .v (.string p) := rfl
    rw [e] at h
    rw [h.v_inv]
    exact .str hm
   ·simp only [wkE, List.mem_cons, List.not_mem_nil, or_false] at hq
    rcases hq with rfl | rfl | rfl | rfl <;> rfl
 show AWp Tryz.prog 125 2828 wT _ _ _
 refine AWp.ent ?_ hmark
 by_cases hn : nameB p = true
 ·rw [if_pos hn, if_pos hn]
  refine (partS (hTN hM) hB (noA bx (psA ps))).mono ?_
  rintro e ρ2 H2 ⟨he, hE⟩
  refine ⟨exN_ret he, Ent.trans (shrA hB (by decide) (fun q hq => ?_) (fun q hq => ?_)) hE⟩
  ·simp only [List.mem_cons, List.not_mem_nil, or_false] at hq; subst hq; rfl
  ·simp only [List.mem_cons, List.not_mem_nil, or_false] at hq; subst hq; rfl
 ·rw [if_neg hn, if_neg hn]
  refine (partS (hTN hM) hB (nulA bx (psA ps))).mono ?_
  rintro e ρ2 H2 ⟨he, hE⟩
  exact And.intro (exN_ret he) hE
theorem mayA_ok (hB : Bx bx) {l p : AVal} (hl : lowA 2828 l = true) (hp : lowA 2828 p = true) : AWp Tryz.prog 125 2828 wM4 (fun e ρ2 H2 => e = .normal ∧ Ent 2828 (wkE l p, mkH 2828 (SB bx)) (ρ2, H2)) (wkE l p) (mkH 2828 (SB bx)) := by
 refine (partS hT4 hB (mayA bx l p)).mono ?_
 rintro e ρ2 H2 ⟨he, hE⟩
 refine ⟨exN_on he, Ent.trans (shrA hB (by decide) (fun q hq => ?_) (fun q hq => ?_)) hE⟩
 ·simp only [wkE, List.mem_cons, List.not_mem_nil, or_false] at hq
  rcases hq with rfl | rfl | rfl | rfl
  ·rfl
  ·exact hl
  ·rfl
  ·exact hp
 ·simp only [wkE, List.mem_cons, List.not_mem_nil, or_false] at hq
  rcases hq with rfl | rfl | rfl | rfl <;> rfl
def QA (bx : Nat → LO) (r : Int) : Post := fun e ρ H => (r = 0 → e = .exit 0 ∧ Ent 2828 ([], mkH 2828 (SB bx)) (ρ, H)) ∧ (r ≠ 0 → e = .ret ∧ Ent 2828 ([(6, .v (.int .i64 r))], mkH 2828 (SB bx)) (ρ, H))
def Marked (ps : List ByteArray) : Prop := ∀ p ∈ ps, ¬ p = dotB → ¬ p = dotsB → Sym.P (if nameB p = true then 0 else 1) (.string p)
theorem loopA (hB : Bx bx) (hM : Marks) : ∀ (ps : List ByteArray), Marked ps → ∀ ρ H, Ent 2828 (wkE3 (psA ps), mkH 2828 (SB bx)) (ρ, H) →
  UnrA (fun Q ρ H => AWp Tryz.prog 125 2828 wLpC Q ρ H) (QA bx (walkF none 8 ps)) (ps.length + 1) ρ H
 | [], hm, ρ, H, he => by
  rw [UnrA]
  refine AWp.ent (AWp.seq (AWp.seqG k1 (AWp.condF rfl (AWp.exitG ?_)))) he
  have h0 : Ent 2828 ([], mkH 2828 (SB bx)) (((16, .v (.bool (decide (0 < ([] : List ByteArray).length)))) :: wkE3 (psA [])), mkH 2828 (SB bx)) := Ent.env (fun q hq => by cases hq)
  exact And.intro (fun _ => And.intro rfl h0) (fun h => absurd walkF_nil h)
 | p :: ps, hm, ρ, H, he => by
  rw [UnrA]
  have hc : opd ((16, .v (.bool (decide (0 < (p :: ps).length)))) :: wkE3 (psA (p :: ps))) (.tmp 16) = .v (.bool true) := by
   show AVal.v (.bool (decide (0 < (p :: ps).length))) = _
   rw [decide_eq_true (by simp)]
  refine AWp.ent (AWp.seq (AWp.seqG k1 (AWp.condT hc (AWp.skipG ?_)))) he
  show AWp Tryz.prog 125 2828 (.block 1 (.seq (.region 2 f246o2 false) (.seq (.region 3 f246o3 false) wD))) _ _ _
  refine AWp.sub (ρ' := wkE3 (psA (p :: ps))) (fun q hq => ?_) (AWp.blockG (AWp.seqG k2 (AWp.seqG k3 ?_)))
  ·simp only [wkE3, List.mem_cons, List.not_mem_nil, or_false] at hq
   rcases hq with rfl | rfl | rfl <;> rfl
  by_cases hd : p = dotB ∨ p = dotsB
  ·refine (dot_ok hB (l := psA ps) rfl (by rcases hd with rfl | rfl <;> simp)).mono ?_
   rintro e ρ2 H2 ⟨h1, h2⟩
   rw [exN_out h1]
   rw [walkF_dot hd]
   simp only [blockA, if_true]
   exact loopA hB hM ps (fun q hq => hm q (by simp [hq])) ρ2 H2 h2
  ·rw [walkF_no hd (by simp)]
   have h1 : ¬ p = dotB := fun h => hd (.inl h)
   have h2 : ¬ p = dotsB := fun h => hd (.inr h)
   rw [wD_eq]
   refine AWp.seq ((mayA_ok hB (l := psA ps) (p := .v (.string p)) rfl rfl).mono ?_)
   rintro e ρ2 H2 ⟨rfl, hE⟩
   refine AWp.ent ((other_ok hB hM h1 h2 (hm p (by simp) h1 h2)).mono ?_) hE
   rintro e ρ3 H3 ⟨rfl, hE3⟩
   refine ⟨fun h => ?_, fun _ => ⟨rfl, hE3⟩⟩
   exfalso
   split at h <;> omega
end Go.Proofs.GD
