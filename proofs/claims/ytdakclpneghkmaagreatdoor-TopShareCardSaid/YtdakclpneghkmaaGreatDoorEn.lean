/- What the law reads at the end, and its start: runs by the kernel, part behind part. -/
import Derived.Test.YtdakclpneghkmaaGreatDoorSt
import Derived.Test.YtdakclpneghkmaaGreatDoorHd
namespace Go.Proofs.GD
open Go Go.AI Go.RowKit
set_option maxRecDepth 100000
/-- the first so many rows of an object -/
noncomputable def cutO (i : Nat) : Option TO → Option (Nat × List Row)
  | some o => match absO o with
    | some q => some (q.1, q.2.take i)
    | none => none
  | none => none
noncomputable def obsE (x : RT) (kk : List Nat) (i : Nat) (ks : List Nat) : Option (Env × List (Option (Nat × List Row))) := match x with
  | .nm ρ T => some (kk.map fun k => (k, AI.look ρ k), ks.map fun k => cutO i (tgetR T.t k))
  | _ => none
theorem cutO_some {i : Nat} {T : TH} {H : Heap} (h : TR T H) {k sz : Nat} {rows : List Row} (h0 : sz ≠ 0) (hc : cutO i (tgetR T.t k) = some (sz, rows)) : ∃ R, obj H k = some (sz, R) ∧ R.take i = rows := by
  unfold cutO at hc
  split at hc
  case h_2 => cases hc
  rename_i o ho
  split at hc
  case h_2 => cases hc
  rename_i q hq
  simp only [Option.some.injEq, Prod.mk.injEq] at hc
  obtain ⟨h1, h2⟩ := hc
  subst h1
  refine ⟨q.2, ?_, h2⟩
  have hk : H[k]? = some (some q) := by
    rw [← h.g, ← tgetR_eq, ho]
    simp [hq]
  unfold obj
  rw [hk]
  simp only [Option.bind_some]
  rw [if_neg h0]
theorem run4_seq {a b : Code} {ρ ρ' : Env} {T T' : TH} (h : run4 (.seq a b) ρ T = .nm ρ' T') : ∃ ρ1 T1, run4 a ρ T = .nm ρ1 T1 ∧ run4 b ρ1 T1 = .nm ρ' T' := by
  have h' : RT.rec (motive := fun _ => RT) .no (fun ρ' H' => run4 b ρ' H') (fun id ρ' H' => .ex id ρ' H') (fun ρ' H' => .rt ρ' H') (run4 a ρ T) = .nm ρ' T' := h
  cases hr : run4 a ρ T with
  | no => rw [hr] at h'; cases h'
  | nm ρ1 T1 => rw [hr] at h'; exact ⟨ρ1, T1, rfl, h'⟩
  | ex id ρ1 T1 => rw [hr] at h'; cases h'
  | rt ρ1 T1 => rw [hr] at h'; cases h'
theorem run4_sound {n0 : Nat} {a : Code} {ρ ρ' : Env} {T T' : TH} {H : Heap} (hT : TR T H) (h : run4 a ρ T = .nm ρ' T') : ∃ H', TR T' H' ∧ AWp Tryz.prog 109 n0 a (IsX (.normal, ρ', H')) ρ H := by
  have hm : Tryz.prog.follows .mixedOrders = true := by kernel_rfl
  exact runT_sound (n0 := n0) hT4 hm hT (by rw [show (compCT Tryz.prog tab4 (live 4) 5000 4 109 a 0).run (execW Tryz.prog tab4 cat4 live 5000 59) (execT Tryz.prog tab4 cat4 live 5000 59) ρ T = .nm ρ' T' from h]; rfl)
/-- one part behind the other, and what comes behind them -/
theorem run4_then {n0 : Nat} {a b c : Code} {Q : Post} {ρ ρ' : Env} {T T' : TH} {H : Heap} (hT : TR T H) (h : run4 (.seq a b) ρ T = .nm ρ' T')
    (hb : ∀ ρ1 T1 H1, TR T1 H1 → run4 b ρ1 T1 = .nm ρ' T' → AWp Tryz.prog 109 n0 c Q ρ1 H1) : AWp Tryz.prog 109 n0 (.seq a c) Q ρ H := by
  obtain ⟨ρ1, T1, h1, h2⟩ := run4_seq h
  obtain ⟨H1, q1, q2⟩ := run4_sound (n0 := n0) hT h1
  exact AWp.seqX q2 (hb ρ1 T1 H1 q1 h2)
theorem run4_last {n0 : Nat} {a c : Code} {Q : Post} {ρ ρ' : Env} {T T' : TH} {H : Heap} (hT : TR T H) (h : run4 a ρ T = .nm ρ' T')
    (hb : ∀ H1, TR T' H1 → AWp Tryz.prog 109 n0 c Q ρ' H1) : AWp Tryz.prog 109 n0 (.seq a c) Q ρ H := by
  obtain ⟨H1, q1, q2⟩ := run4_sound (n0 := n0) hT h
  exact AWp.seqX q2 (hb H1 q1)
theorem obsE_some {x : RT} {kk : List Nat} {i : Nat} {ks : List Nat} {y : Env × List (Option (Nat × List Row))} (h : obsE x kk i ks = some y) : ∃ ρ T, x = .nm ρ T ∧ y.1 = kk.map (fun k => (k, AI.look ρ k)) ∧ y.2 = ks.map fun k => cutO i (tgetR T.t k) := by
  unfold obsE at h
  split at h
  case h_2 => cases h
  cases h
  exact ⟨_, _, rfl, rfl, rfl⟩
noncomputable def qEnd : Code := .seq qR24 (.seq qR25 (.seq (.region 26 lops26 false) .ret))
theorem end_ok {ρ : Env} {n i g al : Nat} {l : LS} {c : Nat → Int} (hi : i ≤ 30) (hok : okLS n l = true)
    (hx : obsE (run4 (.seq qR24 qR25) ρ (mkT n l)) [12, 19, 20] i [g, al] = some ([(12, .osl al 1 0 i i), (19, .osl g 1 0 i i), (20, .v (.int .i64 0))], [some (1, rowsI c i), some (1, rowsI c i)])) :
    AWp Tryz.prog 109 0 qEnd (retA Tryz.prog Tryz.f4 fun x _ => x = .v (.bool true)) ρ (mkH n l) := by
  obtain ⟨ρ', T', h1, h2, h3⟩ := obsE_some hx
  refine run4_then (mkT_R hok) h1 fun ρ1 T1 H1 q1 q2 => run4_last q1 q2 fun H2 q3 => ?_
  simp only [List.map_cons, List.map_nil, List.cons.injEq, Prod.mk.injEq, and_true, true_and] at h2 h3
  obtain ⟨R1, o1, e1⟩ := cutO_some q3 (by decide) h3.1.symm
  obtain ⟨R2, o2, e2⟩ := cutO_some q3 (by decide) h3.2.symm
  exact h26 (B := bs c i) (by simp [bs]) hi h2.2.2.symm h2.2.1.symm h2.1.symm o1 o2 e1 e2
theorem end_ok0 {ρ : Env} {n : Nat} {l : LS} (hok : okLS n l = true)
    (hx : obsE (run4 (.seq qR24 qR25) ρ (mkT n l)) [12, 19, 20] 0 [] = some ([(12, .v (.slice none 0 0)), (19, .v (.slice none 0 0)), (20, .v (.int .i64 0))], [])) :
    AWp Tryz.prog 109 0 qEnd (retA Tryz.prog Tryz.f4 fun x _ => x = .v (.bool true)) ρ (mkH n l) := by
  obtain ⟨ρ', T', h1, h2, h3⟩ := obsE_some hx
  refine run4_then (mkT_R hok) h1 fun ρ1 T1 H1 q1 q2 => run4_last q1 q2 fun H2 q3 => ?_
  simp only [List.map_cons, List.map_nil, List.cons.injEq, Prod.mk.injEq, and_true, true_and] at h2
  exact h26n h2.2.2.symm h2.2.1.symm h2.1.symm
end Go.Proofs.GD
/- The law's start: up to the loop, run by the kernel. -/
namespace Go.Proofs.GD
open Go Go.AI Go.RowKit
set_option maxRecDepth 100000
noncomputable def qPre : Code := .seq qR0 (.seq qR1 (.seq qC2 (.seq qR4 (.seq qR5 (.seq qR6 (.seq qR7 (.seq qC8 qR10)))))))
/-- compared, whatever the form -/
noncomputable def beqP (o : TO) (l : LO) : Bool := match o, l with
  | .ls sz rows, .ar sz' n x ps => cond (Nat.beq sz sz') (beqRows.beqLL rows (rowsL n (putPs ps (repT x 64 n)))) false
  | o, l => beqO o l
theorem beqP_eq {o : TO} {l : LO} (h : beqP o l = true) : absO o = absO (toO l) := by
  unfold beqP at h
  split at h
  · rename_i sz rows sz' n x ps
    cases h1 : Nat.beq sz sz' with
    | false => rw [h1] at h; cases h
    | true =>
      rw [h1, cond_true] at h
      rw [Nat.eq_of_beq_eq_true h1, beqRows_eq h]
      rfl
  · exact beqO_eq h
noncomputable def checkP (T : TH) (l : LS) : Bool := l.all fun p => match tgetR T.t p.1 with
  | some o => beqP o p.2
  | none => false
theorem checkP_at {T : TH} {H : Heap} (h : TR T H) {l : LS} (hc : checkP T l = true) : ∀ p ∈ l, H[p.1]? = some (absO (toO p.2)) := by
  intro p hp
  have := List.all_eq_true.1 hc p hp
  split at this
  · rename_i o ho
    rw [← h.g, ← tgetR_eq, ho, Option.map_some, beqP_eq this]
  · cases this
def baseR : LS := baseL.tail.tail
noncomputable def obsP (x : RT) : Option (Env × List (Option Ob)) := match x with
  | .nm ρ T => cond (Nat.beq T.n 2907) (cond (checkP T (firstL ++ baseR)) (some ([0, 1, 5, 8, 10, 11, 12].map fun k => (k, AI.look ρ k), [0, 1, 1530].map fun k => (tgetR T.t k).map absO)) none) none
  | _ => none
def preE (a d : AVal) : Env := [(0, a), (1, d), (5, .ptr 1532 655 0 0), (8, .v (.int .i64 0)), (10, .ptr 2816 11 0 0), (11, .v (.int .i64 1)), (12, .v (.slice none 0 0))]
theorem b0 (a d : AVal) : obsP (run4 qPre (envOf 0 [a, d]) ⟨.leaf, 0⟩) = some (preE a d, [some (absO (toO diskO)), some (absO (toO diskO)), some (some (328, [opRow (.v (.int .i64 0)) (.v (.int .i64 0))]))]) := by kernel_rfl
end Go.Proofs.GD
