/- The law's function answers true, whatever the lists. -/
import Derived.Test.YtdakclpneghkmaaGreatDoorRd
namespace Go.Proofs.GD
open Go Go.AI Go.RowKit
set_option maxRecDepth 100000
noncomputable def lpC : Code := .seq (.region 12 lops12 false) (.seq (.cond (.tmp 62) .skip (.exit 0)) (.seq (.block 1 (.seq (.region 13 lops13 false) (.seq (.region 14 lops14 false) (.seq (.seq (.region 15 lops15 false) (.cond (.tmp 71) (.region 16 lops16 false) .skip)) qS)))) (.region 23 lops23 false)))
noncomputable def t4C : Code := .seq qR0 (.seq qR1 (.seq qC2 (.seq qR4 (.seq qR5 (.seq qR6 (.seq qR7 (.seq qC8 (.seq qR10 (.seq (.seq (.region 11 lops11 false) (.block 0 (.loop lpC))) qEnd)))))))))
theorem t4_body : Tryz.f4.body = some t4C := by kernel_rfl
section
variable {n0 : Nat} {ρ : Env} {H : Heap} {Q : Post}
theorem AWp.exitX {id : Nat} (h : Q (.exit id) ρ H) : AWp Tryz.prog 109 n0 (.exit id) Q ρ H := wpA_sound noOrc_ok fqMix _ _ _ _ rfl h
theorem AWp.skipX (h : Q .normal ρ H) : AWp Tryz.prog 109 n0 .skip Q ρ H := wpA_sound noOrc_ok fqMix _ _ _ _ rfl h
theorem AWp.blockX {id : Nat} {x : Code} (h : AWp Tryz.prog 109 n0 x (blockA id Q) ρ H) : AWp Tryz.prog 109 n0 (.block id x) Q ρ H := by
  intro f base w0 β fz a w h1 h2 hs
  refine wp_block (wp_mono (h f base w0 β fz a w h1 h2 hs) ?_)
  rintro e a' w' ⟨ρ', H', β', fz', q, s⟩
  cases e with
  | exit id' =>
    simp only [blockA] at q
    simp only [Exit.inBlock]
    split at q
    · rename_i hid; rw [if_pos hid]; exact ⟨ρ', H', β', fz', q, s⟩
    · rename_i hid; rw [if_neg hid]; exact ⟨ρ', H', β', fz', q, s⟩
  | _ => exact ⟨ρ', H', β', fz', q, s⟩
/-- a part that ends as it should, then what follows from less -/
theorem AWp.seqE {x y : Code} {ρ' : Env} (h : AWp Tryz.prog 109 n0 x (fun e ρ2 H2 => e = .normal ∧ H2 = H ∧ ∀ p ∈ ρ', AI.look ρ2 p.1 = p.2) ρ H) (h2 : AWp Tryz.prog 109 n0 y Q ρ' H) : AWp Tryz.prog 109 n0 (.seq x y) Q ρ H := by
  refine AWp.seq (h.mono ?_)
  rintro e ρ2 H2 ⟨rfl, rfl, h3⟩
  exact AWp.sub h3 h2
end
theorem unr_mono {c : Code} {Q Q' : Post} (h : ∀ e ρ H, Q e ρ H → Q' e ρ H) : ∀ (n : Nat) (ρ : Env) (H : Heap), UnrA (fun Q ρ H => AWp Tryz.prog 109 0 c Q ρ H) Q n ρ H → UnrA (fun Q ρ H => AWp Tryz.prog 109 0 c Q ρ H) Q' n ρ H
  | 0, _, _, hu => hu.elim
  | n + 1, ρ, H, hu => by
    simp only [UnrA] at hu ⊢
    refine AWp.mono hu fun e ρ2 H2 q => ?_
    cases e with
    | normal => exact unr_mono h n ρ2 H2 q
    | _ => exact h _ _ _ q
/-- the byte of a round -/
def cc (D : List Int) (i : Nat) : Int := D[i]?.getD i
/-- what a round changes, but for the files' places -/
noncomputable def chL (i : Nat) : LS := laterL (tI i) (eI i) (mI i) (dI i) i ++ baseL
noncomputable def ksL (D : List Int) (i : Nat) (x y : AVal) : LS := [(dI i, dataO (bs (cc D) i)), (alI i, allO i (bs (cc D) i)), (1530, opensO x y)]
theorem si_eq (D : List Int) (i : Nat) : SI (cc D) (i + 1) = chL (i + 1) ++ ksL D (i + 1) (.anyi .i64) (.anyi .i64) := rfl
theorem ks_eq (D : List Int) (i : Nat) (x y : AVal) : ksL D i x y = [(dI i, dataO (bs (cc D) i)), (alI i, allO i (bs (cc D) i))] ++ [(1530, opensO x y)] := rfl
theorem ks_abs (D : List Int) {i : Nat} (hi : i ≤ 30) (x y : AVal) : ((ksL D i x y).map fun p => some (absO (toO p.2))) = [some (some (1, rowsD (cc D) i)), some (some (1, rowsI (cc D) i)), some (some (328, [opRow x y]))] := by
  unfold ksL
  rw [List.map_cons, List.map_cons, List.map_cons, List.map_nil]
  show [some (absO (toO (dataO (bs (cc D) i)))), some (absO (toO (allO i (bs (cc D) i)))), some (some (328, [opRow x y]))] = _
  rw [absD (cc D) i hi, absA (cc D) i hi]
theorem sz_lt : ∀ i, 1530 < szI (i + 1)
  | 0 => by decide
  | i + 1 => by show 1530 < 3334 + 203 * i; omega
/-- a step of the loop by the kernel, as what it does to the memory -/
theorem step_ok {D : List Int} {b : Bool} {i : Nat} (hi : i < 30) (d l n : AVal) : AWp Tryz.prog 109 0 qS (fun e ρ2 H2 => e = .normal ∧ Ent 0 (hdG (alV (i + 1)) i d l n, mkH (szI (i + 1)) (SI (cc D) (i + 1))) (ρ2, H2)) (envS b (cc D i) (alV i) i d l n) (mkH (szI i) (SI (cc D) i)) := by
  obtain ⟨x, y, hx, hy, hr⟩ := rounds (cc D) d l n i hi b
  have h1 : i + 1 ≤ 30 := hi
  rw [← ks_abs D h1 x y] at hr
  refine (part_ent (n0 := 0) (ks := ksL D (i + 1) x y) (okS (cc D) i (Nat.le_of_lt hi)) hr).mono ?_
  rintro e ρ2 H2 ⟨rfl, he⟩
  refine ⟨rfl, Ent.trans ?_ he⟩
  rw [si_eq, ks_eq, ks_eq, ← List.append_assoc, ← List.append_assoc]
  exact ent_open (sz_lt i) hx hy
/-- a round: the state behind it -/
theorem round_ok {D : List Int} {L : List Bool} {b : Bool} {i N : Nat} (hi : i < 30) (hb : L[i]? = some b) {K : Env → Heap → Prop}
    (hK : ∀ ρ H, Ent 0 (hdE (alV (i + 1)) (.fsl false 1 (bytesR D)) (i + 1) N L, mkH (szI (i + 1)) (SI (cc D) (i + 1))) (ρ, H) → K ρ H) {Q : Post} :
    AWp Tryz.prog 109 0 (.seq (.block 1 (.seq (.region 13 lops13 false) (.seq (.region 14 lops14 false) (.seq (.seq (.region 15 lops15 false) (.cond (.tmp 71) (.region 16 lops16 false) .skip)) qS)))) (.region 23 lops23 false)) (thenA K Q)
      (hdE (alV i) (.fsl false 1 (bytesR D)) i N L) (mkH (szI i) (SI (cc D) i)) := by
  refine AWp.seq (AWp.blockX (AWp.seqE (h13 hb) (AWp.seqE (h14 hi) (AWp.seqE h15 ?_))))
  have hs := step_ok (D := D) (b := b) hi (.fsl false 1 (bytesR D)) (.fsl false 1 (rowsB L)) (.v (.int .i64 N))
  generalize SI (cc D) i = S0 at hs ⊢
  generalize SI (cc D) (i + 1) = S1 at hs hK
  refine AWp.mono hs ?_
  rintro e ρ2 H2 ⟨rfl, he⟩
  show AWp Tryz.prog 109 0 (.region 23 lops23 false) (thenA K Q) ρ2 H2
  refine AWp.ent (s := (hdE (alV (i + 1)) (.fsl false 1 (bytesR D)) i N L, mkH (szI (i + 1)) S1)) (AWp.mono (h23 hi) ?_) he
  rintro e ρ3 H3 ⟨rfl, rfl, h3⟩
  exact hK _ _ (Ent.env h3)
/-- the loop from a round on -/
theorem loop_ok {D : List Int} {L : List Bool} {N : Nat} (hN : N ≤ 30) (hL : L.length = N) : ∀ (k i : Nat), i + k = N → ∀ ρ H, Ent 0 (hdE (alV i) (.fsl false 1 (bytesR D)) i N L, mkH (szI i) (SI (cc D) i)) (ρ, H) →
    UnrA (fun Q ρ H => AWp Tryz.prog 109 0 lpC Q ρ H) (fun e ρ H => e = .exit 0 ∧ Ent 0 (hdE (alV N) (.fsl false 1 (bytesR D)) N N L, mkH (szI N) (SI (cc D) N)) (ρ, H)) (k + 1) ρ H := by
  intro k
  induction k with
  | zero =>
    intro i hi ρ H he
    obtain rfl : i = N := by omega
    simp only [UnrA]
    refine AWp.ent (AWp.seqE h12 (AWp.seq (AWp.condF (by show AVal.v (.bool (decide (i < i))) = _; rw [decide_eq_false (by omega)]) (AWp.exitX ?_)))) he
    exact ⟨rfl, Ent.env fun p hp => by
      simp only [hdE, List.mem_cons, List.not_mem_nil, or_false] at hp
      rcases hp with rfl | rfl | rfl | rfl | rfl | rfl | rfl | rfl | rfl <;> rfl⟩
  | succ k ih =>
    intro i hi ρ H he
    have hiN : i < N := by omega
    rw [UnrA]
    obtain ⟨b, hb⟩ : ∃ b, L[i]? = some b := ⟨L[i]'(by omega), List.getElem?_eq_getElem (by omega)⟩
    refine AWp.ent (AWp.seqE h12 (AWp.seq (AWp.condT (by show AVal.v (.bool (decide (i < N))) = _; rw [decide_eq_true hiN]) (AWp.skipX ?_)))) he
    refine AWp.sub (ρ' := hdE (alV i) (.fsl false 1 (bytesR D)) i N L) (fun p hp => ?_) (round_ok (by omega) hb fun ρ2 H2 he2 => ih (i + 1) (by omega) ρ2 H2 he2)
    simp only [hdE, List.mem_cons, List.not_mem_nil, or_false] at hp
    rcases hp with rfl | rfl | rfl | rfl | rfl | rfl | rfl | rfl | rfl <;> rfl
theorem obsP_some {x : RT} {e : Env} {os : List (Option Ob)} (h : obsP x = some (e, os)) : ∃ ρ T, x = .nm ρ T ∧ Nat.beq T.n 2907 = true ∧ checkP T (firstL ++ baseR) = true ∧ e = [0, 1, 5, 8, 10, 11, 12].map (fun k => (k, AI.look ρ k)) ∧ os = [0, 1, 1530].map fun k => (tgetR T.t k).map absO := by
  unfold obsP at h
  split at h
  case h_2 => cases h
  rename_i ρ T
  obtain ⟨h1, h2⟩ := cond_some h
  obtain ⟨h3, h4⟩ := cond_some h2
  simp only [Option.some.injEq, Prod.mk.injEq] at h4
  exact ⟨ρ, T, rfl, h1, h3, h4.1.symm, h4.2.symm⟩
theorem base_cases : ∀ p ∈ SI (fun _ => 0) 0, p = (0, diskO) ∨ p = (1, diskO) ∨ p = (1530, opensO (.v (.int .i64 0)) (.v (.int .i64 0))) ∨ p ∈ firstL ++ baseR := by
  intro p hp
  have hp' : p ∈ (firstL ++ ((0, diskO) :: (1, diskO) :: baseR)) ++ [(1530, opensO (.v (.int .i64 0)) (.v (.int .i64 0)))] := hp
  simp only [List.mem_append, List.mem_cons, List.not_mem_nil, or_false] at hp' ⊢
  rcases hp' with (h | h | h | h) | h
  · exact .inr (.inr (.inr (.inl h)))
  · exact .inl h
  · exact .inr (.inl h)
  · exact .inr (.inr (.inr (.inr h)))
  · exact .inr (.inr (.inl h))
/-- the law, from the start to the end -/
theorem law4 (L : List Bool) (D : List Int) : AWp Tryz.prog 109 0 t4C (retA Tryz.prog Tryz.f4 fun x _ => x = .v (.bool true)) (envOf 0 [.fsl false 1 (rowsB L), .fsl false 1 (bytesR D)]) [] := by
  obtain ⟨ρ, T, hr, hn, hc, hρ, ho⟩ := obsP_some (b0 (.fsl false 1 (rowsB L)) (.fsl false 1 (bytesR D)))
  unfold t4C
  refine run4_then empty_R hr fun ρ1 T1 H1 q1 r1 => run4_then q1 r1 fun ρ2 T2 H2 q2 r2 => run4_then q2 r2 fun ρ3 T3 H3 q3 r3 => run4_then q3 r3 fun ρ4 T4 H4 q4 r4 => run4_then q4 r4 fun ρ5 T5 H5 q5 r5 => run4_then q5 r5 fun ρ6 T6 H6 q6 r6 => run4_then q6 r6 fun ρ7 T7 H7 q7 r7 => run4_then q7 r7 fun ρ8 T8 H8 q8 r8 => run4_last q8 r8 fun H9 q9 => ?_
  have hS : SubH (mkH (szI 0) (SI (cc D) 0)) H9 := by
    have hlen : (2907 : Nat) = H9.length := by rw [← q9.n]; exact (Nat.eq_of_beq_eq_true hn).symm
    simp only [List.map_cons, List.map_nil, List.cons.injEq, and_true] at ho
    refine putLH_sub ⟨by rw [List.length_replicate]; exact hlen, fun id q hq => ?_⟩ (fun p hp => ?_)
    · rw [List.getElem?_replicate] at hq
      split at hq <;> cases hq
    · rcases base_cases p hp with rfl | rfl | rfl | hp
      · rw [← q9.g, ← tgetR_eq]; exact ho.1.symm
      · rw [← q9.g, ← tgetR_eq]; exact ho.2.1.symm
      · rw [← q9.g, ← tgetR_eq]; exact ho.2.2.symm
      · exact checkP_at q9 hc p hp
  have hE : Ent 0 (preE (.fsl false 1 (rowsB L)) (.fsl false 1 (bytesR D)), mkH (szI 0) (SI (cc D) 0)) (ρ, H9) := by
    refine (Ent.env fun p hp => ?_).trans (Ent.subH hS)
    rw [hρ] at hp
    obtain ⟨k, _, rfl⟩ := List.mem_map.1 hp
    rfl
  refine AWp.ent ?_ hE
  generalize hG : SI (cc D) 0 = S0
  -- the slots of the loop
  refine AWp.seq (AWp.seq ((h11 (L := L) (by rfl)).mono ?_))
  rintro e ρ' H' ⟨rfl, rfl, g1, g2, g3, g4⟩
  refine AWp.blockX ?_
  have hlen : (L.take 30).length = min L.length 30 := by rw [List.length_take, Nat.min_comm]
  have hN : min L.length 30 ≤ 30 := Nat.min_le_right _ _
  refine LoopA_sound (W := fun Q ρ H => AWp Tryz.prog 109 0 lpC Q ρ H) (fun Q ρ H h => h) (.inl ⟨min L.length 30 + 1, ?_⟩)
  subst hG
  have hu := loop_ok (D := D) hN hlen (min L.length 30) 0 (by omega) ρ' (mkH (szI 0) (SI (cc D) 0)) (Ent.env fun p hp => by
    simp only [hdE, List.mem_cons, List.not_mem_nil, or_false] at hp
    rcases hp with rfl | rfl | rfl | rfl | rfl | rfl | rfl | rfl | rfl
    · exact g4 1 (by simp)
    · exact g4 5 (by simp)
    · exact g4 8 (by simp)
    · exact g4 10 (by simp)
    · exact g4 11 (by simp)
    · exact g4 12 (by simp)
    · exact g1
    · exact g2
    · exact g3)
  refine unr_mono ?_ _ _ _ hu
  rintro e ρ2 H2 ⟨rfl, he⟩
  show AWp Tryz.prog 109 0 qEnd _ ρ2 H2
  exact AWp.ent (ends (cc D) _ _ _ _ hN) he
end Go.Proofs.GD
/- The law's function, as a pure one: true at whatever lists. -/
namespace Go.Proofs.GD
open Go Go.AI Go.RowKit
set_option maxRecDepth 100000
theorem law_pure4 : PureOk Tryz.prog 4 (argM (cSl rB) fun _ => argM (cSl (rI .u8)) fun _ => finM (some (.v (.bool true)))) := by
  refine pure2 Tryz.func4 t4_body ?_
  intro L D r hr
  cases hr
  refine ⟨(by decide : 2 ≤ 109), (law4 L D).mono (retA_mono fun x H h => ?_)⟩
  subst h
  exact ⟨rfl, rfl⟩
#print axioms law_pure4
end Go.Proofs.GD
