/- The tables of TopShare's run: more readers. -/
import Derived.Test.YtdakclpneghkmaaGreatDoorCon
import Derived.Test.YtdakclpneghkmaaGreatDoorL18
import Derived.Test.YtdakclpneghkmaaGreatDoorKA
import Derived.Lib.Bytealg
import Derived.Shelf.Strings.Count
namespace Go.Proofs.GD
set_option linter.unusedSectionVars false
variable [Go.AI.Sym]
open Go Go.AI Go.RowKit
set_option maxRecDepth 100000
def qtL : List Nat := [86, 165, 235]
def quiet4 : List Nat := 1000000009 :: (qtL ++ quietL)
def tab4 : Tab := ⟨fun _ _ => [], fun _ _ => [], fun f => memN f quiet4, fun f => memN f finL⟩
def catG (f : Nat) : Sp := cond (Nat.beq f 20) (.cat 33) (cond (memN f empL) .emp (cond (Nat.beq f 86) (.qt 6) (cond (Nat.beq f 165) (.qt 4) (cond (Nat.beq f 235) (.qt 2) .no))))
noncomputable def okQt4 (f : Nat) : Bool := match Tryz.prog.funcs[f]? with
 | some fn => match fn.body with
  | some c => quietC (fun g => !tab4.rdf g) c
  | none => true
 | none => true
theorem tabQt4 : (quiet4.all fun f => memN f empL || memN f qtL || okQt4 f) = true := by kernel_rfl
theorem quiet20' : memN 20 quiet4 = false := by kernel_rfl
noncomputable def okWr (f a : Nat) : Bool := match Tryz.prog.funcs[f]? with
 | some fn => match fn.body with
  | some c => wrC (fun g => !tab4.rdf g) a c
  | none => false
 | none => false
theorem okWr_ok {f a : Nat} (h : okWr f a = true) : ∃ fn c, Tryz.prog.funcs[f]? = some fn ∧ fn.body = some c ∧ wrC (fun g => !tab4.rdf g) a c = true := by
 unfold okWr at h
 split at h
 ·rename_i fn hf
  split at h
  ·rename_i c hb; exact ⟨fn, c, hf, hb, h⟩
  ·cases h
 ·cases h
theorem w86 : okWr 86 6 = true := by kernel_rfl
theorem w165 : okWr 165 4 = true := by kernel_rfl
theorem w235 : okWr 235 2 = true := by kernel_rfl
theorem catG_cases (f : Nat) : (f = 20 ∧ catG f = .cat 33) ∨ (f ≠ 20 ∧ catG f = .emp) ∨ (f ≠ 20 ∧ f = 86 ∧ catG f = .qt 6) ∨ (f ≠ 20 ∧ f = 165 ∧ catG f = .qt 4) ∨ (f ≠ 20 ∧ f = 235 ∧ catG f = .qt 2) ∨ (f ≠ 20 ∧ memN f empL = false ∧ memN f qtL = false ∧ catG f = .no) := by
 unfold catG
 cases h : Nat.beq f 20 with
 | true => exact .inl ⟨Nat.eq_of_beq_eq_true h, rfl⟩
 | false =>
  have hn : f ≠ 20 := fun e => by rw [e] at h; cases h
  cases h2 : memN f empL with
  | true => exact .inr (.inl ⟨hn, rfl⟩)
  | false =>
   cases h3 : Nat.beq f 86 with
   | true => exact .inr (.inr (.inl ⟨hn, Nat.eq_of_beq_eq_true h3, rfl⟩))
   | false =>
    cases h4 : Nat.beq f 165 with
    | true => exact .inr (.inr (.inr (.inl ⟨hn, Nat.eq_of_beq_eq_true h4, rfl⟩)))
    | false =>
     cases h5 : Nat.beq f 235 with
     | true => exact .inr (.inr (.inr (.inr (.inl ⟨hn, Nat.eq_of_beq_eq_true h5, rfl⟩))))
     | false =>
      refine .inr (.inr (.inr (.inr (.inr ⟨hn, rfl, ?_, rfl⟩))))
      simp only [qtL, memN, h3, h4, h5, cond_false]
theorem hG : TabV Tryz.prog tab4 catG where
 qt := fun f fn c hr hn hf hb => by
  rcases catG_cases f with ⟨_, h⟩ | ⟨_, h⟩ | ⟨_, _, h⟩ | ⟨_, _, h⟩ | ⟨_, _, h⟩ | ⟨_, he, hq, _⟩
  all_goals first | (rw [h] at hn; cases hn; done) | skip
  have := List.all_eq_true.1 tabQt4 f (memN_iff f _ hr)
  rw [he, hq] at this
  simp only [Bool.false_or] at this
  unfold okQt4 at this
  rw [hf] at this
  simp only [hb] at this
  exact this
 nc := fun f h => by
  rcases catG_cases f with ⟨rfl, _⟩ | ⟨_, h2⟩ | ⟨_, _, h2⟩ | ⟨_, _, h2⟩ | ⟨_, _, h2⟩ | ⟨_, _, _, h2⟩
  ·have : memN 20 quiet4 = true := h
   rw [quiet20'] at this; cases this
  ·exact .inr (.inl h2)
  ·exact .inr (.inr (.inr ⟨_, h2⟩))
  ·exact .inr (.inr (.inr ⟨_, h2⟩))
  ·exact .inr (.inr (.inr ⟨_, h2⟩))
  ·exact .inl h2
 qtt := fun f a h => by
  rcases catG_cases f with ⟨rfl, h2⟩ | ⟨_, h2⟩ | ⟨_, rfl, h2⟩ | ⟨_, rfl, h2⟩ | ⟨_, rfl, h2⟩ | ⟨_, _, _, h2⟩ <;> rw [h2] at h <;> cases h
  ·exact okWr_ok w86
  ·exact okWr_ok w165
  ·exact okWr_ok w235
 snap := fun f a m l r m' l' h => by
  rcases catG_cases f with ⟨rfl, h2⟩ | ⟨_, h2⟩ | ⟨_, rfl, h2⟩ | ⟨_, rfl, h2⟩ | ⟨_, rfl, h2⟩ | ⟨_, _, _, h2⟩ <;> rw [h2] at h <;> cases h
 ext := fun f g h => by
  rcases catG_cases f with ⟨rfl, h2⟩ | ⟨_, h2⟩ | ⟨_, rfl, h2⟩ | ⟨_, rfl, h2⟩ | ⟨_, rfl, h2⟩ | ⟨_, _, _, h2⟩ <;> rw [h2] at h <;> cases h
 gen := fun f m mt hs h => by
  rcases catG_cases f with ⟨rfl, h2⟩ | ⟨_, h2⟩ | ⟨_, rfl, h2⟩ | ⟨_, rfl, h2⟩ | ⟨_, rfl, h2⟩ | ⟨_, _, _, h2⟩ <;> rw [h2] at h <;> cases h
 cat := fun f t h => by
  rcases catG_cases f with ⟨rfl, h2⟩ | ⟨_, h2⟩ | ⟨_, rfl, h2⟩ | ⟨_, rfl, h2⟩ | ⟨_, rfl, h2⟩ | ⟨_, _, _, h2⟩ <;> rw [h2] at h <;> cases h
  exact catch_inl
end Go.Proofs.GD
/- keep as a whole: its code, with its two walks over what is put told by what they come to. -/
namespace Go.Proofs.GD
set_option linter.unusedSectionVars false
variable [Go.AI.Sym]
open Go Go.AI Go.RowKit
set_option maxRecDepth 100000
set_option linter.unusedVariables false
set_option linter.unusedSimpArgs false
def noWhen : AVal → Bool
 | .when _ _ => false
 | _ => true
theorem noWhen_res {a : AVal} (h : noWhen a = true) : res true a = a := by cases a <;> first | rfl | cases h
noncomputable def decR : List Row → Option KV
 | [] => some []
 | [.v (.int .i64 k), a] :: l => cond (noWhen a) (match decR l with
  | some r => some ((k, a) :: r)
  | none => none) none
 | _ => none
theorem decR_some : ∀ {rows : List Row} {R : KV}, decR rows = some R → rows = R.map gI ∧ ∀ x ∈ R, noWhen x.2 = true
 | [], R, h => by simp only [decR, Option.some.injEq] at h; subst h; exact ⟨rfl, fun x hx => by simp at hx⟩
 | row :: l, R, h => by
  unfold decR at h
  split at h
  ·rename_i he; cases he
  ·rename_i k a l' he
   simp only [List.cons.injEq] at he
   obtain ⟨rfl, rfl⟩ := he
   cases hn : noWhen a with
   | false => rw [hn] at h; cases h
   | true =>
    rw [hn, cond_true] at h
    split at h
    ·rename_i r hr
     simp only [Option.some.injEq] at h
     subst h
     obtain ⟨h1, h2⟩ := decR_some hr
     refine ⟨by rw [h1]; rfl, fun x hx => ?_⟩
     rcases List.mem_cons.1 hx with rfl | hx
     ·exact hn
     ·exact h2 x hx
    ·cases h
  ·cases h
noncomputable def memK (k : Int) : KV → Bool
 | [] => false
 | x :: l => cond (eqZ x.1 k) true (memK k l)
theorem memK_iff {k : Int} : ∀ {l : KV}, memK k l = true ↔ k ∈ l.map (·.1)
 | [] => by simp [memK]
 | x :: l => by
  simp only [memK, List.map_cons, List.mem_cons]
  cases h : eqZ x.1 k with
  | true => rw [eqZ_eq] at h; simp [eq_of_beq h]
  | false =>
   rw [eqZ_eq] at h
   have : ¬ x.1 = k := by simpa using h
   rw [cond_false, memK_iff]
   exact ⟨.inr, fun q => q.resolve_left fun e => this e.symm⟩
noncomputable def nodK : KV → Bool
 | [] => true
 | x :: l => cond (memK x.1 l) false (nodK l)
theorem nodK_ok : ∀ {l : KV}, nodK l = true → (l.map (·.1)).Nodup
 | [], _ => by simp
 | x :: l, h => by
  simp only [nodK] at h
  cases hm : memK x.1 l with
  | true => rw [hm] at h; cases h
  | false =>
   rw [hm, cond_false] at h
   rw [List.map_cons, List.nodup_cons]
   exact ⟨fun e => (by rw [memK_iff.2 e] at hm; cases hm), nodK_ok h⟩
structure KS where
 tid : Nat
 fid : Nat
 mid : Nat
 td : Nat
 R : KV
 T : KV
noncomputable def chkS (s : KS) : Bool := cond (Nat.beq s.td s.mid) false (cond (nodK s.R) (cond (nodK s.T) (cond (Nat.blt s.R.length 1000) (cond (Nat.blt s.T.length 1000) (cond (Nat.beq s.R.length 0) false true) false) false) false) false)
noncomputable def getS (ρ : Env) (H : Heap) : Option KS :=
 match AI.look ρ 0, AI.look ρ 8 with
 | .ptr tid 200 0 0, .ptr fid 198 0 0 => match aLoad Tryz.prog 140 (.ptr tid 200 0 196) H, aLoad Tryz.prog 140 (.ptr fid 198 0 196) H with
  | some (.ptr mid 0 0 0), some (.ptr td 0 0 0) => match H[mid]?, H[td]? with
   | some (some (0, rows)), some (some (0, trows)) => match decR rows, decR trows with
    | some R, some T => cond (chkS ⟨tid, fid, mid, td, R, T⟩) (some ⟨tid, fid, mid, td, R, T⟩) none
    | _, _ => none
   | _, _ => none
  | _, _ => none
 | _, _ => none
structure Held (ρ : Env) (H : Heap) (s : KS) : Prop where
 h0 : AI.look ρ 0 = .ptr s.tid 200 0 0
 h8 : AI.look ρ 8 = .ptr s.fid 198 0 0
 hT : aLoad Tryz.prog 140 (.ptr s.tid 200 0 196) H = some (.ptr s.mid 0 0 0)
 hF : aLoad Tryz.prog 140 (.ptr s.fid 198 0 196) H = some (.ptr s.td 0 0 0)
 hM : H[s.mid]? = some (some (0, s.R.map gI))
 hTd : H[s.td]? = some (some (0, s.T.map gI))
 hne : s.R ≠ []
 htd : s.td ≠ s.mid
 hRn : (s.R.map (·.1)).Nodup
 hTn : (s.T.map (·.1)).Nodup
 hr : ∀ x ∈ s.R, res true x.2 = x.2
 ht : ∀ x ∈ s.T, res true x.2 = x.2
 lR : s.R.length < 1000
 lT : s.T.length < 1000
theorem getS_held {ρ : Env} {H : Heap} {s : KS} (h : getS ρ H = some s) : Held ρ H s := by
 unfold getS at h
 split at h
 case h_2 => cases h
 rename_i tid fid h0 h8
 split at h
 case h_2 => cases h
 rename_i mid td hT hF
 split at h
 case h_2 => cases h
 rename_i rows trows hM hTd
 split at h
 case h_2 => cases h
 rename_i R T hR hTT
 cases hc : chkS ⟨tid, fid, mid, td, R, T⟩ with
 | false => rw [hc] at h; cases h
 | true =>
  rw [hc, cond_true] at h
  simp only [Option.some.injEq] at h
  subst h
  obtain ⟨r1, r2⟩ := decR_some hR
  obtain ⟨t1, t2⟩ := decR_some hTT
  unfold chkS at hc
  simp only [beq_dec] at hc
  cases q1 : decide (td = mid) with
  | true => rw [q1] at hc; cases hc
  | false =>
  cases q2 : nodK R with
  | false => rw [q1, q2] at hc; cases hc
  | true =>
  cases q3 : nodK T with
  | false => rw [q1, q2, q3] at hc; cases hc
  | true =>
  cases q4 : Nat.blt R.length 1000 with
  | false => rw [q1, q2, q3, q4] at hc; cases hc
  | true =>
  cases q5 : Nat.blt T.length 1000 with
  | false => rw [q1, q2, q3, q4, q5] at hc; cases hc
  | true =>
  cases q6 : decide (R.length = 0) with
  | true => rw [q1, q2, q3, q4, q5, q6] at hc; cases hc
  | false =>
  exact ⟨h0, h8, hT, hF, by rw [hM, r1], by rw [hTd, t1], fun e => by subst e; simp at q6, of_decide_eq_false q1, nodK_ok q2, nodK_ok q3, fun x hx => noWhen_res (r2 x hx), fun x hx => noWhen_res (t2 x hx), Nat.lt_of_succ_le (Nat.le_of_ble_eq_true q4), Nat.lt_of_succ_le (Nat.le_of_ble_eq_true q5)⟩
noncomputable def getT (ρ : Env) (H : TH) : Option KS :=
 match lkR ρ 0, lkR ρ 8 with
 | .ptr tid 200 0 0, .ptr fid 198 0 0 => match loadQ Tryz.prog 140 (.ptr tid 200 0 196) H, loadQ Tryz.prog 140 (.ptr fid 198 0 196) H with
  | some (.ptr mid 0 0 0), some (.ptr td 0 0 0) => match mapT H mid, mapT H td with
   | some rows, some trows => match decR rows, decR trows with
    | some R, some T => cond (chkS ⟨tid, fid, mid, td, R, T⟩) (some ⟨tid, fid, mid, td, R, T⟩) none
    | _, _ => none
   | _, _ => none
  | _, _ => none
 | _, _ => none
theorem getT_sim {ρ : Env} {T : TH} {H : Heap} (h : TR T H) {s : KS} (hg : getT ρ T = some s) : getS ρ H = some s := by
 unfold getT at hg
 split at hg
 case h_2 => cases hg
 rename_i tid fid h0 h8
 split at hg
 case h_2 => cases hg
 rename_i mid td hT hF
 split at hg
 case h_2 => cases hg
 rename_i rows trows hM hTd
 rw [lkR_eq, lk_eq] at h0 h8
 unfold getS
 rw [h0, h8]
 simp only [loadQ_some h hT, loadQ_some h hF, (mapT_some h hM).1, (mapT_some h hTd).1]
 exact hg
noncomputable def newK (R T : KV) : Nat := R.countP fun x => !memK x.1 T
noncomputable def sumA (ρ : Env) (H : Heap) : Option (Env × Heap) := match getS ρ H with
 | some s => some ([(9, nI (s.T.length + newK s.R s.T : Nat)), (0, .ptr s.tid 200 0 0), (2, AI.look ρ 2), (8, .ptr s.fid 198 0 0)], H ++ [none])
 | none => none
noncomputable def sumB (ρ : Env) (H : Heap) : Option (Env × Heap) := match getS ρ H with
 | some s => some ([(0, .ptr s.tid 200 0 0), (2, AI.look ρ 2), (8, .ptr s.fid 198 0 0)], H.set s.td (some (0, (putAll s.T s.R).map gI)) ++ [none])
 | none => none
noncomputable def sumAT (ρ : Env) (H : TH) : Option (Env × TH) := match getT ρ H with
 | some s => some ([(9, nI (s.T.length + newK s.R s.T : Nat)), (0, .ptr s.tid 200 0 0), (2, lkR ρ 2), (8, .ptr s.fid 198 0 0)], pushT H .no)
 | none => none
noncomputable def sumBT (ρ : Env) (H : TH) : Option (Env × TH) := match getT ρ H with
 | some s => some ([(0, .ptr s.tid 200 0 0), (2, lkR ρ 2), (8, .ptr s.fid 198 0 0)], pushT (setT H s.td (.ls 0 ((putAll s.T s.R).map gI))) .no)
 | none => none
theorem sumA_sim {ρ : Env} {T : TH} {H : Heap} (h : TR T H) : SimE2 (sumAT ρ T) (sumA ρ H) := by
 intro ρ' T' e
 unfold sumAT at e
 split at e
 ·rename_i s hs
  simp only [Option.some.injEq, Prod.mk.injEq] at e
  obtain ⟨rfl, rfl⟩ := e
  refine ⟨H ++ [none], ?_, h.push (y := .no) trivial⟩
  unfold sumA
  rw [getT_sim h hs, lkR_eq, lk_eq]
 ·cases e
theorem sumB_sim {ρ : Env} {T : TH} {H : Heap} (h : TR T H) : SimE2 (sumBT ρ T) (sumB ρ H) := by
 intro ρ' T' e
 unfold sumBT at e
 split at e
 ·rename_i s hs
  simp only [Option.some.injEq, Prod.mk.injEq] at e
  obtain ⟨rfl, rfl⟩ := e
  have hg := getT_sim h hs
  have hlt : s.td < H.length := (List.getElem?_eq_some_iff.1 (getS_held hg).hTd).1
  refine ⟨H.set s.td (some (0, (putAll s.T s.R).map gI)) ++ [none], ?_, (h.set hlt (y := .ls 0 ((putAll s.T s.R).map gI)) trivial).push (y := .no) trivial⟩
  unfold sumB
  rw [hg, lkR_eq, lk_eq]
 ·cases e
noncomputable def runP (X : XF) : List Code → Env → Heap → Option (Env × Heap)
 | [], ρ, H => some (ρ, H)
 | c :: l, ρ, H => match execV Tryz.prog (orcX tab4 X 128) 136 (live 128) 5000 c 0 ρ H with
  | some (.normal, ρ', H') => runP X l ρ' H'
  | _ => none
def chainC : List Code → Code → Code
 | [], z => z
 | c :: l, z => .seq c (chainC l z)
theorem runP_sound {X : XF} (hC : OrcOk Tryz.prog (orcX tab4 X 128)) {n0 : Nat} {z : Code} {Q : Post} {ρ' : Env} {H' : Heap} (hz : AWp Tryz.prog 136 n0 z Q ρ' H') : ∀ {l : List Code} {ρ : Env} {H : Heap}, runP X l ρ H = some (ρ', H') → AWp Tryz.prog 136 n0 (chainC l z) Q ρ H
 | [], ρ, H, h => by simp only [runP, Option.some.injEq, Prod.mk.injEq] at h; obtain ⟨rfl, rfl⟩ := h; exact hz
 | c :: l, ρ, H, h => by
  simp only [runP] at h
  split at h
  ·rename_i ρ1 H1 h1
   exact AWp.seqX (execV_sound hC mixed c 0 _ _ _ (codeRV_true _ _) h1) (runP_sound hC hz h)
  ·cases h
noncomputable def runPT (X : XF) (Xt : XT) : List Code → Env → TH → Option (Env × TH)
 | [], ρ, H => some (ρ, H)
 | c :: l, ρ, H => match (compCT Tryz.prog tab4 (live 128) 5000 128 136 c 0).run X Xt ρ H with
  | .nm ρ' H' => runPT X Xt l ρ' H'
  | _ => none
theorem runPT_sim {X : XF} {Xt : XT} (hX : SimX Xt X) : ∀ {l : List Code} {ρ : Env} {T : TH} {H : Heap}, TR T H → SimE2 (runPT X Xt l ρ T) (runP X l ρ H)
 | [], ρ, T, H, h => fun ρ' T' e => by
  simp only [runPT, Option.some.injEq, Prod.mk.injEq] at e
  obtain ⟨rfl, rfl⟩ := e
  exact ⟨H, rfl, h⟩
 | c :: l, ρ, T, H, h => fun ρ' T' e => by
  simp only [runPT] at e
  split at e
  ·rename_i ρ1 T1 h1
   obtain ⟨H1, q1, q2⟩ := compCT_sim (P := Tryz.prog) (T := tab4) (live := live 128) (k := 5000) (f := 128) (nt := 136) hX c 0 ρ T H h .normal ρ1 T1 (by rw [h1]; rfl)
   simp only [runP, q1]
   exact runPT_sim hX q2 _ _ e
  ·cases e
noncomputable def kPre : List Code := [kAt 0, kAt 1, kAt 2, kAt 3, kAt 4, kAt 5, kAt 6]
noncomputable def kMid : List Code := [kAt 9]
noncomputable def kEnd : Code := kTail 11
theorem k_body : Tryz.f128.body = some (chainC kPre (.seq (kAt 7) (.seq kL1 (chainC kMid (.seq kL2 kEnd))))) := by kernel_rfl
noncomputable def mKeep (X : XF) (args : Row) (H : Heap) : Option (AVal × Heap) :=
 match runP X kPre (envOf 0 args) H with
 | some (ρ1, H1) => match sumA ρ1 H1 with
  | some (ρ2, H2) => match runP X kMid ρ2 H2 with
   | some (ρ3, H3) => match sumB ρ3 H3 with
    | some (ρ4, H4) => cond (Nat.ble args.length 136) (endK Tryz.prog Tryz.f128.results.toList (execV Tryz.prog (orcX tab4 X 128) 136 (live 128) 5000 kEnd 0 ρ4 H4)) none
    | none => none
   | none => none
  | none => none
 | none => none
noncomputable def mtKeep (X : XF) (Xt : XT) (args : Row) (H : TH) : Option (AVal × TH) :=
 match runPT X Xt kPre (envOf 0 args) H with
 | some (ρ1, H1) => match sumAT ρ1 H1 with
  | some (ρ2, H2) => match runPT X Xt kMid ρ2 H2 with
   | some (ρ3, H3) => match sumBT ρ3 H3 with
    | some (ρ4, H4) => cond (Nat.ble args.length 136) (endT Tryz.prog Tryz.f128.results.toList ((compCT Tryz.prog tab4 (live 128) 5000 128 136 kEnd 0).run X Xt ρ4 H4)) none
    | none => none
   | none => none
  | none => none
 | none => none
theorem keep_sim (X : XF) (Xt : XT) (args : Row) (T : TH) (H : Heap) (hX : SimX Xt X) (h : TR T H) : SimO (mtKeep X Xt args T) (mKeep X args H) := by
 unfold mtKeep
 split
 ·rename_i ρ1 T1 e1
  obtain ⟨H1, a1, b1⟩ := runPT_sim hX h _ _ e1
  split
  ·rename_i ρ2 T2 e2
   obtain ⟨H2, a2, b2⟩ := sumA_sim b1 _ _ e2
   split
   ·rename_i ρ3 T3 e3
    obtain ⟨H3, a3, b3⟩ := runPT_sim hX b2 _ _ e3
    split
    ·rename_i ρ4 T4 e4
     obtain ⟨H4, a4, b4⟩ := sumB_sim b3 _ _ e4
     unfold mKeep
     simp only [a1, a2, a3, a4]
     cases Nat.ble args.length 136 with
     | false => exact SimO.nil
     | true => exact endT_sim (compCT_sim hX kEnd 0 _ _ _ b4)
    ·exact SimO.nil
   ·exact SimO.nil
  ·exact SimO.nil
 ·exact SimO.nil
end Go.Proofs.GD
/- keep's contract. -/
namespace Go.Proofs.GD
set_option linter.unusedSectionVars false
variable [Go.AI.Sym]
open Go Go.AI Go.RowKit
set_option maxRecDepth 100000
set_option linter.unusedVariables false
set_option linter.unusedSimpArgs false
theorem zero28 : zeroOf Tryz.prog 28 = some (.slice none 0 0) := by kernel_rfl
noncomputable def presK (T : KV) (k : Value) : Bool := match k with
 | .int .i64 n => memK n T
 | _ => false
theorem looksK {H : Heap} {td : Nat} {R T : KV} (hTd : H[td]? = some (some (0, T.map gI))) (hTn : (T.map (·.1)).Nodup) (ht : ∀ x ∈ T, res true x.2 = x.2) : Looks H td (R.map gI) (presK T) := by
 intro k a hm
 obtain ⟨⟨n, a'⟩, _, e⟩ := List.mem_map.1 hm
 simp only [gI, List.cons.injEq, AVal.v.injEq, and_true] at e
 obtain ⟨rfl, rfl⟩ := e
 have hk : keyOk Tryz.prog 3 (.int .i64 n) = true := keyI_ok n
 have hf := find_key (g := gI) (v := id) gI_ok n T hTn
 have hl : aLookup Tryz.prog 140 (.ptr td 0 0 0) (.v (.int .i64 n)) true H = lkRes true (some (.slice none 0 0)) ((getK n T).map id) := by
  unfold aLookup
  simp only [und140', hTd, hk, if_true, hf, zero28]
 cases hg : getK n T with
 | some v =>
  rw [hg] at hl
  have hp : presK T (.int .i64 n) = true := memK_iff.2 (by
   refine Classical.byContradiction fun hn => ?_
   rw [getK_none.2 hn] at hg; cases hg)
  exact ⟨.tup [v, .v (.bool true)], v, hl, rfl, by rw [hp]; rfl, rfl⟩
 | none =>
  rw [hg] at hl
  have hp : presK T (.int .i64 n) = false := by
   cases hq : presK T (.int .i64 n) with
   | false => rfl
   | true => exact absurd (memK_iff.1 hq) (getK_none.1 hg)
  exact ⟨.v (.tuple #[.slice none 0 0, .bool false]), .v (.slice none 0 0), hl, rfl, by rw [hp]; rfl, rfl⟩
noncomputable def ops12 : Array Oper := opsC (kAt 7)
theorem k7_eq : kAt 7 = .region 12 ops12 false := by kernel_rfl
noncomputable def o12 (i : Nat) : Oper := ops12.getD i default
theorem ops12_l : ops12.toList = [o12 0, o12 1, o12 2, o12 3] ++ o12 4 :: [o12 5] := by kernel_rfl
theorem k12 {n0 : Nat} {ρ : Env} {H : Heap} {fid td : Nat} {T : KV} (h8 : AI.look ρ 8 = .ptr fid 198 0 0) (hF : aLoad Tryz.prog 140 (.ptr fid 198 0 196) H = some (.ptr td 0 0 0)) (hTd : H[td]? = some (some (0, T.map gI))) :
  AWp Tryz.prog 136 n0 (kAt 7) (IsX (.normal, (9, nI T.length) :: (64, nI T.length) :: (63, .ptr td 0 0 0) :: (62, .ptr fid 198 0 196) :: (61, .ptr fid 198 0 0) :: (60, .ptr fid 198 0 0) :: ρ, H)) ρ H := by
 rw [k7_eq]
 have e8 : AI.ev ρ (.tmp 8) = .ptr fid 198 0 0 := h8
 have r1 : runL Tryz.prog oC 136 ops12 [o12 0, o12 1, o12 2, o12 3] (ρ, H) = some ((63, .ptr td 0 0 0) :: (62, .ptr fid 198 0 196) :: (61, .ptr fid 198 0 0) :: (60, .ptr fid 198 0 0) :: ρ, H) := by
  refine runL_step rfl rfl (v := .ptr fid 198 0 0) (congrArg (fun z => some (res true z, H)) e8) ?_
  refine runL_step rfl rfl rfl ?_
  refine runL_step rfl rfl (mapS (fa2 fid)) ?_
  refine runL_step rfl rfl (mapS hF) ?_
  exact rfl
 refine AWp.doesAt (s2 := (_, H)) (av := .v (goInt (T.map gI).length)) (H' := H) (d := 64) oC_ok ops12_l rfl rfl (by decide) r1 (fun f base w0 β fz a w hs => ?_) ?_
 ·refine does_lenM (c := { callee := .builtin .len, args := #[.tmp 63], argTypes := #[140] }) (x := .tmp 63) rfl rfl rfl rfl und140' hs.heap (id := td) ?_ hTd (fun r hr => by obtain ⟨x, _, rfl⟩ := List.mem_map.1 hr; rfl)
  exact hs.ev (.tmp 63)
 ·rw [List.length_map]
  refine runL_step rfl rfl (v := nI T.length) rfl ?_
  exact rfl
theorem newK_eq (R T : KV) : (R.map gI).countP (unseen (presK T)) = newK R T := by
 rw [List.countP_map]; rfl
theorem keep_inl (X : XF) (hC : ∀ g, OrcOk Tryz.prog (orcX tab4 X g)) : InlOk Tryz.prog 128 (mKeep X) := by
 refine inl_of Tryz.func128 k_body fun args H r H' hr => ?_
 unfold mKeep at hr
 split at hr
 case h_2 => cases hr
 rename_i ρ1 H1 e1
 split at hr
 case h_2 => cases hr
 rename_i ρ2 H2 e2
 split at hr
 case h_2 => cases hr
 rename_i ρ3 H3 e3
 split at hr
 case h_2 => cases hr
 rename_i ρ4 H4 e4
 cases hl : Nat.ble args.length 136 with
 | false => rw [hl] at hr; cases hr
 | true =>
 rw [hl, cond_true] at hr
 refine ⟨Nat.le_of_ble_eq_true hl, runP_sound (hC 128) ?_ e1⟩
 unfold sumA at e2
 split at e2
 case h_2 => cases e2
 rename_i s hs
 simp only [Option.some.injEq, Prod.mk.injEq] at e2
 obtain ⟨rfl, rfl⟩ := e2
 have hd := getS_held hs
 refine AWp.seqX (k12 hd.h8 hd.hF hd.hTd) ?_
 have hlt : s.td < H1.length := (List.getElem?_eq_some_iff.1 hd.hTd).1
 have L1 := loop1 (n0 := H.length) (ρ := (9, nI s.T.length) :: (64, nI s.T.length) :: (63, .ptr s.td 0 0 0) :: (62, .ptr s.fid 198 0 196) :: (61, .ptr s.fid 198 0 0) :: (60, .ptr s.fid 198 0 0) :: ρ1) (n := s.T.length) (pres := presK s.T) hd.h0 hd.h8 rfl (by have := hd.lT; omega) hd.hT hd.hM (by simpa using hd.hne) (fun r hr => by obtain ⟨x, _, rfl⟩ := List.mem_map.1 hr; rfl) (by have := hd.lR; simpa using (by omega : s.R.length < 100000)) hd.hF hd.htd hlt (looksK hd.hTd hd.hTn hd.ht)
 rw [newK_eq] at L1
 have e5 : nI ((s.T.length : Nat) + (newK s.R s.T : Nat)) = nI ((s.T.length + newK s.R s.T : Nat) : Int) := by simp
 rw [e5] at L1
 refine AWp.seqX L1 ?_
 refine runP_sound (hC 128) ?_ e3
 unfold sumB at e4
 split at e4
 case h_2 => cases e4
 rename_i s' hs'
 simp only [Option.some.injEq, Prod.mk.injEq] at e4
 obtain ⟨rfl, rfl⟩ := e4
 have hd' := getS_held hs'
 refine AWp.seqX (loop2 hd'.h0 hd'.h8 hd'.hT hd'.hM hd'.hne hd'.hF hd'.htd (List.getElem?_eq_some_iff.1 hd'.hTd).1 hd'.hTd hd'.hTn hd'.hRn hd'.hr) ?_
 obtain ⟨e, ρ5, H5, l, hx, hel, hl5, hr5⟩ := endK_some hr
 cases hr5
 refine (execV_sound (hC 128) mixed kEnd 0 _ _ _ (codeRV_true _ _) hx).mono ?_
 rintro e' ρ' H6 q
 simp only [IsX, Prod.mk.injEq] at q
 obtain ⟨rfl, rfl, rfl⟩ := q
 rcases hel with rfl | rfl <;> simp only [retA, hl5, and_self]
end Go.Proofs.GD
/- Functions without a body, by what they answer; the tables with keep and these. -/
namespace Go.AI
set_option linter.unusedSectionVars false
variable [Go.AI.Sym]
open Go.RowKit
section
variable {P : Program} {T : Tab} {cat : FuncId → Sp}
theorem beq_self (g : Nat) : Nat.beq g g = true := by rw [beq_dec]; exact decide_eq_true rfl
theorem beq_not {f g : Nat} (h : f ≠ g) : Nat.beq f g = false := by rw [beq_dec]; exact decide_eq_false h
theorem TabV.addG (hT : TabV P T cat) {g : FuncId} {m mt hs} (hg : T.rdf g = false) (h : ∀ X : XF, (∀ g, OrcOk P (orcX T X g)) → InlOk P g (m X)) : TabV P T (fun f => cond (Nat.beq f g) (.gen m mt hs) (cat f)) where
 qt := fun f fn c h1 h2 h3 h4 => by
  by_cases hf : f = g
  ·subst hf; rw [hg] at h1; cases h1
  ·rw [beq_not hf, cond_false] at h2; exact hT.qt f fn c h1 h2 h3 h4
 nc := fun f h1 => by
  by_cases hf : f = g
  ·subst hf; rw [hg] at h1; cases h1
  ·rw [beq_not hf, cond_false]; exact hT.nc f h1
 qtt := fun f a2 h1 => by
  by_cases hf : f = g
  ·subst hf; rw [beq_self, cond_true] at h1; cases h1
  ·rw [beq_not hf, cond_false] at h1; exact hT.qtt f a2 h1
 snap := fun f a2 m2 l2 r2 m3 l3 h1 => by
  by_cases hf : f = g
  ·subst hf; rw [beq_self, cond_true] at h1; cases h1
  ·rw [beq_not hf, cond_false] at h1; exact hT.snap f a2 m2 l2 r2 m3 l3 h1
 ext := fun f e2 h1 => by
  by_cases hf : f = g
  ·subst hf; rw [beq_self, cond_true] at h1; cases h1
  ·rw [beq_not hf, cond_false] at h1; exact hT.ext f e2 h1
 gen := fun f m2 mt2 hs2 h1 => by
  by_cases hf : f = g
  ·subst hf; rw [beq_self, cond_true] at h1; cases h1; exact h
  ·rw [beq_not hf, cond_false] at h1; exact hT.gen f m2 mt2 hs2 h1
 cat := fun f t h1 => by
  by_cases hf : f = g
  ·subst hf; rw [beq_self, cond_true] at h1; cases h1
  ·rw [beq_not hf, cond_false] at h1; exact hT.cat f t h1
theorem TabV.addX (hT : TabV P T cat) {g : FuncId} {e : Row → Option Value} (h : InlOk P g (extM e)) : TabV P T (fun f => cond (Nat.beq f g) (.ext e) (cat f)) where
 qt := fun f fn c h1 h2 h3 h4 => by
  by_cases hf : f = g
  ·subst hf; rw [beq_self, cond_true] at h2; cases h2
  ·rw [beq_not hf, cond_false] at h2; exact hT.qt f fn c h1 h2 h3 h4
 nc := fun f h1 => by
  by_cases hf : f = g
  ·subst hf; rw [beq_self, cond_true]; exact .inr (.inr (.inl ⟨_, rfl⟩))
  ·rw [beq_not hf, cond_false]; exact hT.nc f h1
 qtt := fun f a2 h1 => by
  by_cases hf : f = g
  ·subst hf; rw [beq_self, cond_true] at h1; cases h1
  ·rw [beq_not hf, cond_false] at h1; exact hT.qtt f a2 h1
 snap := fun f a2 m2 l2 r2 m3 l3 h1 => by
  by_cases hf : f = g
  ·subst hf; rw [beq_self, cond_true] at h1; cases h1
  ·rw [beq_not hf, cond_false] at h1; exact hT.snap f a2 m2 l2 r2 m3 l3 h1
 ext := fun f e2 h1 => by
  by_cases hf : f = g
  ·subst hf; rw [beq_self, cond_true] at h1; cases h1; exact h
  ·rw [beq_not hf, cond_false] at h1; exact hT.ext f e2 h1
 gen := fun f m2 mt2 hs2 h1 => by
  by_cases hf : f = g
  ·subst hf; rw [beq_self, cond_true] at h1; cases h1
  ·rw [beq_not hf, cond_false] at h1; exact hT.gen f m2 mt2 hs2 h1
 cat := fun f t h1 => by
  by_cases hf : f = g
  ·subst hf; rw [beq_self, cond_true] at h1; cases h1
  ·rw [beq_not hf, cond_false] at h1; exact hT.cat f t h1
end
end Go.AI
namespace Go.Proofs.GD
set_option linter.unusedSectionVars false
variable [Go.AI.Sym]
open Go Go.AI Go.RowKit
set_option maxRecDepth 100000
def cntG (args : Row) : Option Value := match args with
 | [.v (.string s), .v (.int .u8 c)] => some (.int .i64 (Lib.countByte s.data.toList c.toNat.toUInt8))
 | _ => none
def idxG (args : Row) : Option Value := match args with
 | [.v (.string s), .v (.int .u8 c)] => some (.int .i64 (Lib.indexByte s.data.toList c.toNat.toUInt8))
 | _ => none
theorem vals2 {β : Nat → Nat} {ok : Bool → Nat → Prop} {w : World} {n : Nat} {a b : Value} {vals : Array Value} (h : ArgsR β ok w n [.v a, .v b] vals) : vals = #[a, b] := by
 obtain ⟨hsz, hv⟩ := h
 have h0 := (hv 0 _ rfl).v_inv
 have h1 := (hv 1 _ rfl).v_inv
 have hs2 : vals.size = 2 := hsz
 apply Array.ext
 ·simpa using hs2
 ·intro i h2 h3
  have : i = 0 ∨ i = 1 := by simp at h3; omega
  rcases this with rfl | rfl
  ·simpa [h2] using h0
  ·simpa [h2] using h1
theorem cnt_inl : InlOk Tryz.prog 318 (extM cntG) := by
 intro args H r H' hr base w0 β fz w vals hs hargs fn hfn
 simp only [extM, Option.map_map, Option.map_eq_some_iff, Function.comp, Prod.mk.injEq] at hr
 obtain ⟨x, hx, rfl, rfl⟩ := hr
 unfold cntG at hx
 split at hx
 case h_2 => cases hx
 rename_i s c
 simp only [Option.some.injEq] at hx
 subst hx
 rw [Tryz.func318] at hfn
 cases hfn
 rw [vals2 hargs]
 refine ⟨fun hb => (by cases hb), fun _ => ⟨_, w, ?_, _, β, fz, rfl, hs, Ext.refl _ _ _ _, .v⟩⟩
 rw [run_callFunc_extern Tryz.func318 (by kernel_rfl) (by kernel_rfl) (by kernel_rfl) (e := Extern.BytealgCount.count) (by kernel_rfl), Lib.run_countString]
 rfl
theorem idx_inl : InlOk Tryz.prog 350 (extM idxG) := by
 intro args H r H' hr base w0 β fz w vals hs hargs fn hfn
 simp only [extM, Option.map_map, Option.map_eq_some_iff, Function.comp, Prod.mk.injEq] at hr
 obtain ⟨x, hx, rfl, rfl⟩ := hr
 unfold idxG at hx
 split at hx
 case h_2 => cases hx
 rename_i s c
 simp only [Option.some.injEq] at hx
 subst hx
 rw [Tryz.func350] at hfn
 cases hfn
 rw [vals2 hargs]
 refine ⟨fun hb => (by cases hb), fun _ => ⟨_, w, ?_, _, β, fz, rfl, hs, Ext.refl _ _ _ _, .v⟩⟩
 rw [run_callFunc_extern Tryz.func350 (by kernel_rfl) (by kernel_rfl) (by kernel_rfl) (e := Extern.BytealgIndexByte.indexByte) (by kernel_rfl), Lib.run_indexByteString]
 rfl
end Go.Proofs.GD
