
import Derived.Test.YtdakclpneghkmaaGreatDoorTab
import Derived.Recover
import Derived.Test.YtdakclpneghkmaaGreatDoorL18

namespace Go.Proofs.GD
set_option linter.unusedSectionVars false
variable [Go.AI.Sym]
open Go Go.AI Go.RowKit
set_option maxRecDepth 100000
theorem snap_of {cat : FuncId → Sp} (hT : TabV Tryz.prog tab cat) {f : Nat} {a : Row} {n : Nat} {l : LS} {r : AVal} {n' : Nat} {l' : LS} (h0 : okLS n l = true) (h1 : okLS n' l' = true)
  (hc : cameTo (execT Tryz.prog tab cat live 5000 60 f a (mkT n l)) r n' l' = true) : InlOk Tryz.prog f (snapM a n l r n' l') := by
 have hm : Tryz.prog.follows .mixedOrders = true := by kernel_rfl
 obtain ⟨H, q1, q2⟩ := cameTo_sub (execT_sim 60 f a (mkT n l) (mkH n l) (mkT_R h0)) h1 hc
 exact snap_inl (execW_inl hT hm 60 f) q1 q2
theorem ok1 : okLS newn newl = true := by kernel_rfl
theorem ok2 : okLS formatn formatl = true := by kernel_rfl
theorem ok3 : okLS maken makel = true := by kernel_rfl
theorem ok4 : okLS startedn startedl = true := by kernel_rfl
theorem ok0 : okLS 0 [] = true := by kernel_rfl
end Go.Proofs.GD
namespace Go.Proofs.GD
set_option linter.unusedSectionVars false
variable [Go.AI.Sym]
open Go Go.AI
set_option maxRecDepth 100000
noncomputable def okQt (f : Nat) : Bool := match Tryz.prog.funcs[f]? with
 | some fn => match fn.body with
  | some c => quietC (fun g => !tab.rdf g) c
  | none => true
 | none => true
theorem tabQt : (quietL.all fun f => memN f empL || okQt f) = true := by kernel_rfl
theorem memN_iff (f : Nat) : ∀ l, memN f l = true → f ∈ l
 | [], h => by cases h
 | m :: l, h => by
  simp only [memN] at h
  cases hb : Nat.beq f m with
  | true => rw [Nat.eq_of_beq_eq_true hb]; simp
  | false => rw [hb] at h; exact List.mem_cons_of_mem _ (memN_iff f l h)
theorem tab_qt (cat : FuncId → Sp) (hc : ∀ f, memN f empL = true → cat f = .emp) : ∀ f fn c, tab.rdf f = true → cat f = .no → Tryz.prog.funcs[f]? = some fn → fn.body = some c → quietC (fun g => !tab.rdf g) c = true := by
 intro f fn c hr hn hf hb
 have := List.all_eq_true.1 tabQt f (memN_iff f _ hr)
 simp only [Bool.or_eq_true] at this
 rcases this with h | h
 ·rw [hc f h] at hn; cases hn
 ·unfold okQt at h
  rw [hf] at h
  simp only [hb] at h
  exact h
end Go.Proofs.GD
namespace Go.Proofs.GD
set_option linter.unusedSectionVars false
variable [Go.AI.Sym]
open Go Go.AI Go.RowKit
set_option maxRecDepth 100000
theorem calls42 (p : Value) (w : World) : CallsD Tryz.prog 42 #[p] .returning w fun e u' w' => (∃ v, e = .returned v) ∧ u' = .returning ∧ w' = w := by
 refine callsD_of_wpS Tryz.func42 rfl ?_
 intro c₀ cs hm
 have hrec : recoverD (c₀ :: cs) = none := by simp [recoverD, hm]
 have h1 : ∀ w, (eqGuard .neq 20 (.tmp 3) (.const .nilIface) .nilIface .nilIface).run Tryz.prog w = .ok () w := fun w => pr_run (by kernel_rfl) w
 have h2 : ∀ w, (binOp .neq 20 .nilIface .nilIface).run Tryz.prog w = .ok (.bool false) w := fun w => pr_run (by kernel_rfl) w
 refine wpS_seq (wpS_region ?_)
 simp [wpOpsS, List.range, List.range.loop, Region.wanted, execOp, hrec, Oper.upon, Act.put, Act.eval, Exit.thenS]
 refine wpS_seq (wpS_region ?_)
 simp [wpOpsS, List.range, List.range.loop, Region.wanted, execOp, Oper.upon, Act.put, Act.eval, Exit.thenS, h1, h2]
 refine wpS_cond (t := false) ?_ ?_
 ·simp [Act.eval]
 ·simp only [Bool.false_eq_true, if_false]
  refine wpS_of_wp (wp_skip ?_)
  refine ⟨rfl, .returning, ?_, ?_⟩
  ·rw [← hm]
  ·exact ⟨_, results_none rfl _ _ _, ⟨_, rfl⟩, rfl, rfl⟩
def orcA (X : XF) : Orc where
 pure := fun _ _ => none
 inl := fun _ => true
 inline := X
 dyn := fun _ => []
 fp := fun _ _ => none
 alt := fun _ => []
 rd := fun _ => none
 cl := fun _ => false
theorem orcA_ok {X : XF} (hX : ∀ g, InlOk Tryz.prog g (X g)) : OrcOk Tryz.prog (orcA X) where
 pure := fun f args r h => by simp [orcA] at h
 inline := fun f _ => hX f
 foot := fun f args ids h => by simp [orcA] at h
 rd := fun f m h => by simp [orcA] at h
 cells := fun f h => by simp [orcA] at h
theorem catch_inl (X : XF) (hX : ∀ g, InlOk Tryz.prog g (X g)) : InlOk Tryz.prog 20 (catM Tryz.prog 33 X) := by
 intro args H r H' hr base w0 β fz w vals hs hargs
 unfold catM at hr
 split at hr
 case h_2 => cases hr
 rename_i g caps
 split at hr
 case h_2 => cases hr
 rename_i p H1 hok ha
 split at hr
 case h_2 => cases hr
 rename_i r2 H2 hx
 split at hr
 case h_2 => cases hr
 rename_i H3 hst
 simp only [Option.map_eq_some_iff, Prod.mk.injEq] at hr
 obtain ⟨rr, hl, rfl, rfl⟩ := hr
 obtain ⟨hsz, hv⟩ := hargs
 obtain ⟨v, rfl⟩ : ∃ v, vals = #[v] := by
  have : vals.size = 1 := hsz
  exact ⟨vals[0], by
   apply Array.ext
   ·simp [this]
   ·intro i h1 h2
    have : i = 0 := by omega
    subst this; rfl⟩
 have hfn := hv 0 (.fn g caps) rfl
 simp only [List.getElem?_toArray, List.getElem?_cons_zero, Option.getD_some] at hfn
 refine CallsX.of Tryz.func20 rfl ?_
 refine calls_of_wp_defers Tryz.func20 rfl ?_
 have hJ : ∀ (a : Act) β fz w H, HSim base w0 β fz H w → SimE base w0 β fz (fun _ => .junk) H a w := fun a β fz w H h => ⟨h, fun _ => .junk⟩
 refine wp_seq (wp_region ?_)
 show wpOps _ _ _ [0] _ _
 rw [wpOps_cons]
 unfold wpOp
 simp only [Region.wanted, List.getElem?_toArray, List.getElem?_cons_zero, if_true]
 left
 refine does_alloc (P := Tryz.prog) (t := 33) rfl (hJ _ _ _ _ _ hs) ha _ _ (fun px β1 fz1 w1 h1 e1 hp1 => ?_)
 simp only [wpOps, Exit.then]
 refine wp_seq (wp_region ?_)
 have htm : ({ tmps := #[v] ++ Array.replicate (Tryz.f20.ntmps - #[v].size) undef, defers := [] } : Act).put (some 2) px = { tmps := #[v, undef, px, undef, undef, undef], defers := [] } := rfl
 rw [htm]
 have hmf : (Instr.makeFunc (Fn.func 42) #[] #[px]).run Tryz.prog w1 = .ok (.func (.func 42) #[] #[px]) w1 := by simp [Instr.makeFunc]
 simp [wpOps, List.range, List.range.loop, Region.wanted, Oper.wp, execOp, Oper.upon, Act.put, Act.eval, resolve, Deferred.ofValue, Exit.then, hmf]
 left
 left
 refine wp_seq (wp_region ?_)
 show wpOps _ _ _ [0, 1, 2] _ _
 rw [wpOps_cons]
 unfold wpOp
 simp only [Region.wanted, List.getElem?_toArray, List.getElem?_cons_zero, if_true]
 left
 have hv1 : R β1 (okOf base fz1) w1 H1.length (.fn g caps) v := hfn.ext e1
 generalize hvv : v = vv at hv1
 cases hv1 with
 | @fn _ _ _ xs hlen hxs =>
 subst hvv
 simp only [Oper.wp, execOp, Act.eval]
 simp [Oper.upon]
 rw [wpOps_cons]
 unfold wpOp
 simp only [Region.wanted, List.getElem?_toArray, List.getElem?_cons_succ, List.getElem?_cons_zero, if_true]
 left
 have hcA : aCall Tryz.prog (orcA X) true (.fn g caps) [] H1 = some (r2, H2) := by
  unfold callOk at hok
  split at hok
  ·rename_i fn hfg
   have hk : (fn.name == "runtime.NumGoroutine") = false := by simpa using hok
   simp [aCall, hfg, orcA, hk, hx]
  ·cases hok
 refine callee_does (P := Tryz.prog) (C := orcA X) (st := true) (g := g) (caps := caps) (args := []) (vals := xs) (orcA_ok hX) (hJ _ _ _ _ _ h1) ⟨hlen.symm, hxs⟩ (by simp [execOp, resolve, Act.eval, Act.put, Deferred.ofValue, invoke]) hcA _ _ (fun y β2 fz2 w2 h2 e2 hr2 => ?_)
 rw [wpOps_cons]
 unfold wpOp
 simp only [Region.wanted, List.getElem?_toArray, List.getElem?_cons_succ, List.getElem?_cons_zero, if_true]
 left
 have hp2 := hp1.ext e2
 refine does_store (P := Tryz.prog) (t := 33) (x := .tmp 2) (y := .tmp 5) (e' := fun x => match x with | .tmp 2 => p | .tmp 5 => r2 | _ => .junk) rfl ⟨h2, fun x => ?_⟩ hst _ _ (fun z β3 fz3 w3 h3 e3 _ => ?_)
 ·split
  ·exact hp2
  ·exact hr2
  ·exact .junk
 simp only [wpOps, Exit.then]
 refine wp_ret ?_
 obtain ⟨ad, y2, hpx, hrun, hR⟩ := load_run (P := Tryz.prog) h3 (hp2.ext e3) hl
 subst hpx
 show Leaves Tryz.prog Tryz.f20 _ _ _ .returning w3
 refine leaves_cons (f := 42) (args := #[.pointer (some ad)]) (by intro hc; cases hc) (by simp [invoke, callFunc, Tryz.func42]; simp [Tryz.f42]) ?_
 refine (calls42 _ w3).mono ?_
 rintro e u' w' ⟨⟨v', rfl⟩, rfl, rfl⟩
 show Leaves Tryz.prog Tryz.f20 _ _ [] .returning _
 refine ⟨y2, ?_, y2, rfl, _, _, h3, (e1.trans e2).trans e3, hR⟩
 simp [results, Tryz.f20, Act.put, asAddr, hrun]
end Go.Proofs.GD
namespace Go.Proofs.GD
set_option linter.unusedSectionVars false
variable [Go.AI.Sym]
open Go Go.AI Go.RowKit
set_option maxRecDepth 100000
theorem catF_emp : ∀ f, memN f empL = true → catF f = .emp := by
 intro f h
 have := memN_iff f empL h
 simp only [empL, List.mem_cons, List.not_mem_nil, or_false] at this
 rcases this with rfl | rfl | rfl <;> rfl
theorem quiet20 : memN 20 quietL = false := by kernel_rfl
theorem catF_cases (f : Nat) : (f = 20 ∧ catF f = .cat 33) ∨ catF f = .emp ∨ catF f = .no := by
 unfold catF
 cases h : Nat.beq f 20 with
 | true => exact .inl ⟨Nat.eq_of_beq_eq_true h, rfl⟩
 | false => cases h2 : memN f empL with
  | true => exact .inr (.inl rfl)
  | false => exact .inr (.inr rfl)
theorem hT0 : TabV Tryz.prog tab catF where
 qt := tab_qt catF catF_emp
 nc := fun f h => by
  rcases catF_cases f with ⟨rfl, _⟩ | h2 | h2
  ·have : memN 20 quietL = true := h
   rw [quiet20] at this; cases this
  ·exact .inr (.inl h2)
  ·exact .inl h2
 qtt := fun f a h => by
  rcases catF_cases f with ⟨_, h2⟩ | h2 | h2 <;> rw [h2] at h <;> cases h
 snap := fun f a m l r m' l' h => by
  rcases catF_cases f with ⟨_, h2⟩ | h2 | h2 <;> rw [h2] at h <;> cases h
 cat := fun f t h => by
  rcases catF_cases f with ⟨rfl, h2⟩ | h2 | h2
  ·rw [h2] at h; cases h; exact catch_inl
  ·rw [h2] at h; cases h
  ·rw [h2] at h; cases h
 ext := fun f g h => by
  rcases catF_cases f with ⟨_, h2⟩ | h2 | h2 <;> rw [h2] at h <;> cases h
 gen := fun f m mt hs h => by
  rcases catF_cases f with ⟨_, h2⟩ | h2 | h2 <;> rw [h2] at h <;> cases h
end Go.Proofs.GD
namespace Go.Proofs.GD
set_option linter.unusedSectionVars false
variable [Go.AI.Sym]
open Go Go.AI Go.RowKit
set_option maxRecDepth 100000
noncomputable def n0c : Code := bodyC Tryz.f26
noncomputable def nR0 : Code := fstC n0c
noncomputable def n1c : Code := sndC n0c
noncomputable def nC1 : Code := fstC n1c
noncomputable def n2c : Code := sndC n1c
noncomputable def nR3 : Code := fstC n2c
noncomputable def n3c : Code := sndC n2c
noncomputable def nR4 : Code := fstC n3c
theorem n_body : Tryz.f26.body = some (.seq nR0 (.seq nC1 (.seq nR3 (.seq nR4 .ret)))) := by kernel_rfl
theorem n_r4 : nR4 = .region 4 (opsC nR4) true := by kernel_rfl
def bz : Row := [.v (.int .u8 0)]
def arr0 : Nat × List Row := (1, List.replicate 16384 bz)
def dsk (a b : Nat) : Nat × List Row := (4, [[.osl a 1 0 16384 16384, .osl b 1 0 16384 16384, .v (.slice none 0 0), .v (.int .i64 (-1))]])
def newH (a b : Nat) : Heap := [some arr0, some arr0, some (dsk a b)]
theorem mk_new : mkH newn newl = newH 0 1 := by
 have h : rowsL 16384 (repT bz 64 16384) = List.replicate 16384 bz := (repT_ok (by decide)).2
 have h2 : absO (toO (.ar 1 16384 bz [])) = some arr0 := by
  show some (1, rowsL 16384 (putPs [] (repT bz 64 16384))) = some arr0
  have : putPs [] (repT bz 64 16384) = repT bz 64 16384 := rfl
  rw [this, h]; rfl
 show putLH [(0, .ar 1 16384 bz []), (1, .ar 1 16384 bz []), (2, .ls 4 (dsk 0 1).2)] (List.replicate 3 none) = newH 0 1
 simp only [putLH, h2]
 rfl
abbrev nv (n : Int) : AVal := .v (.int .i64 n)
noncomputable def ρn1 : Env := [(3, nv 0), (2, .v (.pointer none)), (0, nv 256)]
theorem n_x0 : execV Tryz.prog (orcN nilX) 19 (fun _ => none) 1 nR0 0 (envOf 0 [nv 256]) [] = some (.normal, ρn1, []) := by kernel_rfl
noncomputable def outE (x : Option Res) : Env := match x with
 | some (_, ρ, _) => ρ
 | none => []
noncomputable def isN (x : Option Res) : Bool := match x with
 | some (.normal, _, []) => true
 | _ => false
theorem isN_ok {x : Option Res} (h : isN x = true) : x = some (.normal, outE x, []) := by
 unfold isN at h
 split at h
 ·rfl
 ·cases h
noncomputable def ρn2 : Env := outE (execV Tryz.prog (orcN nilX) 19 (fun _ => none) 1 nC1 0 ρn1 [])
theorem n_x1 : execV Tryz.prog (orcN nilX) 19 (fun _ => none) 1 nC1 0 ρn1 [] = some (.normal, ρn2, []) := isN_ok (by kernel_rfl)
noncomputable def ρn3 : Env := outE (execV Tryz.prog (orcN nilX) 19 (fun _ => none) 1 nR3 0 ρn2 [])
theorem n_x3 : execV Tryz.prog (orcN nilX) 19 (fun _ => none) 1 nR3 0 ρn2 [] = some (.normal, ρn3, []) := isN_ok (by kernel_rfl)
def nT : List (List Nat) := [[0, 1, 2, 3, 4, 5, 6, 7], [0, 2, 3, 1, 4, 5, 6, 7]]
theorem n_rf : raceFreeM (orcN nilX).inl [1, 3] [] nT (opsC nR4) = true := by kernel_rfl
def nsum (x : Option ((Env × Heap) × List (Nat × Foot))) : Option (AVal × AVal × Heap) := x.map fun r => (AI.look r.1.1 2, AI.look r.1.1 3, r.1.2)
theorem n_o1 : nsum (runFT Tryz.prog (orcN nilX) 19 (opsC nR4) [] 0 [0, 1, 2, 3, 4, 5, 6, 7] (ρn3, [])) = some (.ptr 2 4 0 0, nv 0, newH 0 1) := by kernel_rfl
theorem n_o2 : nsum (runFT Tryz.prog (orcN nilX) 19 (opsC nR4) [] 0 [0, 2, 3, 1, 4, 5, 6, 7] (ρn3, [])) = some (.ptr 2 4 0 0, nv 0, newH 1 0) := by kernel_rfl
noncomputable def nS : Env × Heap := ([(2, .ptr 2 4 0 0), (3, nv 0)], newH 0 1)
theorem arr_low (n : Nat) : (arr0.2.all fun row => row.all (lowA n)) = true := by
 simp only [arr0, List.all_eq_true]
 intro row hrow
 rw [List.eq_of_mem_replicate hrow]
 intro x hx
 simp only [bz, List.mem_cons, List.not_mem_nil, or_false] at hx
 subst hx
 rfl
theorem n_ent {a b : Nat} (h : (a = 0 ∧ b = 1) ∨ (a = 1 ∧ b = 0)) {x : Option ((Env × Heap) × List (Nat × Foot))} (hx : nsum x = some (.ptr 2 4 0 0, nv 0, newH a b)) : ∃ ρ1 H1 f1, x = some ((ρ1, H1), f1) ∧ Ent 0 nS (ρ1, H1) := by
 unfold nsum at hx
 simp only [Option.map_eq_some_iff, Prod.mk.injEq] at hx
 obtain ⟨⟨⟨ρ1, H1⟩, f1⟩, rfl, h2, h3, h4⟩ := hx
 simp only at h2 h3 h4
 subst h4
 refine ⟨_, _, _, rfl, Ent.weakT (th := [a, b, 2]) ⟨⟨Nat.zero_le _, Nat.zero_le _⟩, ⟨?_, rfl, fun _ _ => Nat.zero_le _⟩, fun p hp => ?_, ?_⟩⟩
 ·rcases h with ⟨rfl, rfl⟩ | ⟨rfl, rfl⟩ <;> decide
 ·simp only [nS, List.mem_cons, List.not_mem_nil, or_false] at hp
  rcases hp with rfl | rfl
  ·simp only [h2]; exact ⟨rfl, rfl⟩
  ·simp only [h3]; exact ⟨rfl, rfl⟩
 ·have hren : List.map (List.map (ren 0 [a, b, 2])) arr0.2 = arr0.2 := by
   simp only [arr0, List.map_replicate]; rfl
  show heapT 0 [a, b, 2] 3 (newH a b) 0 [some arr0, some arr0, some (dsk 0 1)]
  simp only [heapT, arr_low, hren, and_true, true_and]
  rcases h with ⟨rfl, rfl⟩ | ⟨rfl, rfl⟩ <;> exact ⟨rfl, rfl, rfl, rfl⟩
theorem new_inl : InlOk Tryz.prog 26 (snapM [.v (.int .i64 256)] 0 [] newr0 newn newl) := by
 have hm : Tryz.prog.follows .mixedOrders = true := by kernel_rfl
 refine inl_of Tryz.func26 n_body fun args H r H' hr => ?_
 unfold snapM at hr
 split at hr
 case isFalse => cases hr
 rename_i hc
 obtain ⟨rfl, hsub⟩ := hc
 simp only [Option.some.injEq, Prod.mk.injEq] at hr
 obtain ⟨rfl, rfl⟩ := hr
 have hH : H = [] := by
  have := hsub.len
  rw [mkH_len] at this
  exact List.length_eq_zero_iff.1 this.symm
 subst hH
 have hC : OrcOk Tryz.prog (orcN nilX) := orcN_ok nilX_ok
 refine ⟨by decide, ?_⟩
 refine AWp.seqX (execV_sound hC hm nR0 0 _ _ _ (codeRV_true _ _) n_x0) ?_
 refine AWp.seqX (execV_sound hC hm nC1 0 _ _ _ (codeRV_true _ _) n_x1) ?_
 refine AWp.seqX (execV_sound hC hm nR3 0 _ _ _ (codeRV_true _ _) n_x3) ?_
 have h4 : AWp Tryz.prog 19 0 nR4 (IsX (.normal, nS.1, nS.2)) ρn3 [] := by
  rw [n_r4]
  refine AWp.regM hC hm (X0 := [1, 3]) (pairs := []) (idx := []) (Ts := nT) n_rf (fun τ hτ => ?_)
  simp only [nT, List.mem_cons, List.not_mem_nil, or_false] at hτ
  rcases hτ with rfl | rfl
  ·obtain ⟨ρ1, H1, f1, q1, q2⟩ := n_ent (.inl ⟨rfl, rfl⟩) n_o1
   exact ⟨ρ1, H1, f1, q1, fun q hq => by simp at hq, q2⟩
  ·obtain ⟨ρ1, H1, f1, q1, q2⟩ := n_ent (.inr ⟨rfl, rfl⟩) n_o2
   exact ⟨ρ1, H1, f1, q1, fun q hq => by simp at hq, q2⟩
 refine AWp.seqX h4 ?_
 have hret : AWp Tryz.prog 19 0 .ret (IsX (.ret, nS.1, nS.2)) nS.1 nS.2 := execV_sound (C := orcN nilX) (live := fun _ => none) (k := 1) hC hm .ret 0 _ _ _ rfl rfl
 refine hret.ofX ?_
 rw [mk_new]
 exact ⟨rfl, rfl⟩
end Go.Proofs.GD
