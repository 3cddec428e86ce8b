/- fs.begin's contract, on lists and on trees. -/
import Derived.Test.YtdakclpneghkmaaGreatDoorBA
import Derived.Test.YtdakclpneghkmaaGreatDoorTQ
namespace Go.Proofs.GD
set_option linter.unusedSectionVars false
variable [Go.AI.Sym]
open Go Go.AI Go.RowKit
set_option maxRecDepth 100000
set_option linter.unusedVariables false
set_option linter.unusedSimpArgs false
section
variable {H : Heap} {fid nid st n kc : Nat} {v7 v11 : AVal} {rows : List Row} {cells : Row}
theorem b_reg {n0 : Nat} (hB : Bg H fid v7 v11 nid st n kc rows) (hC : Ce H fid v7 v11 cells) : AWp Tryz.prog 21 n0 (.region 1 bOps true) (IsX (.normal, [(2, .ptr (H.length + 3) 200 0 0)], H ++ canS H ((rows.drop st).take n) cells n)) [(2, .v (.pointer none)), (0, .ptr fid 198 0 0)] H := by
 intro f base w0 β0 fz0 a1 w1 h1 h2 hs0
 have key : ∀ (p1 p2 p3 : Nat) (S : Heap) (ρ1 : Env), PS H S ((rows.drop st).take n) cells n p1 p2 p3 → AI.look ρ1 2 = .ptr (H.length + 3) 200 0 0 → ∀ β fz a w, Sim f base w0 β fz ρ1 (H ++ S) a w →
   ∃ ρ' H' β' fz', IsX (.normal, [(2, .ptr (H.length + 3) 200 0 0)], H ++ canS H ((rows.drop st).take n) cells n) .normal ρ' H' ∧ Sim f base w0 β' fz' ρ' H' a w :=
  fun p1 p2 p3 S ρ1 hS hl β fz a w hs => ⟨_, _, _, _, rfl, b_perm hB hC hS hs0 hs hl⟩
 have hap : ∀ fs : List (Nat × Foot), footAt fs 4 = fpF fid → footAt fs 8 = fpF fid → footAt fs 12 = fpF fid → footAt fs 13 = .fp [nid] true → footAt fs 14 = .fp [] true → footAt fs 15 = .fp [] true → ∀ q ∈ bPairs, apart H.length (footAt fs q.1) (footAt fs q.2) = true := by
  intro fs e4 e8 e12 e13 e14 e15 q hq
  have hne : fid ≠ nid := fun e => hB.ne e.symm
  simp only [bPairs, List.mem_cons, List.not_mem_nil, or_false] at hq
  rcases hq with rfl | rfl | rfl | rfl | rfl | rfl | rfl | rfl <;> simp only [e4, e8, e12, e13, e14, e15, fpF] <;> simp [apart, hne, hB.flt]
 have le0 := Nat.le_refl H.length
 have lp : ∀ (x : Option (Nat × List Row)), (H ++ [x]).length = H.length + 1 := fun x => by simp
 have ob1 : ∀ S : Heap, obj (H ++ S) nid = some (8, rows) := fun S => by
  have hlt : nid < H.length := (List.getElem?_eq_some_iff.1 (obj_get hB.ob)).1
  have := hB.ob
  unfold obj at this ⊢
  rw [List.getElem?_append_left hlt]; exact this
 have r7 : res true (AI.ev (bEnv fid nid st n kc v7 v11) (.tmp 7)) = v7 := hB.r7
 have r11 : res true (AI.ev (bEnv fid nid st n kc v7 v11) (.tmp 11)) = v11 := hB.r11
 refine region_wpM orcB_ok mixed (idx := bIdx) b_rf _ hs0 (fun τ hτ => ?_)
 rw [h1]
 simp only [bT, bPerms, List.map_cons, List.map_nil, List.mem_cons, List.not_mem_nil, or_false] at hτ
 rcases hτ with rfl | rfl | rfl | rfl | rfl | rfl
 ·refine ⟨_, _, _, b_pre hB (b_clone le0 hB.ob hB.le hB.n0 hB.big rfl (b_map 14 (.inl rfl) (by simp) (b_map 15 (.inr rfl) (by simp) (b_suf hC (by simp) rfl r7 r11 rfl rfl rfl)))), hap _ rfl rfl rfl rfl rfl rfl, ?_⟩
  have := key 0 1 2 [some (8, (rows.drop st).take n), some (0, []), some (0, []), some (200, [setC cells n (H.length + 0) (H.length + 1) (H.length + 2)])]
  simp only [List.append_assoc, List.cons_append, List.nil_append, List.length_append, List.length_cons, List.length_nil]
  exact this _ ⟨rfl, rfl, rfl, rfl, rfl, by decide, by decide, by decide, by decide, by decide, by decide⟩ rfl
 ·refine ⟨_, _, _, b_pre hB (b_clone le0 hB.ob hB.le hB.n0 hB.big rfl (b_map 15 (.inr rfl) (by simp) (b_map 14 (.inl rfl) (by simp) (b_suf hC (by simp) rfl r7 r11 rfl rfl rfl)))), hap _ rfl rfl rfl rfl rfl rfl, ?_⟩
  have := key 0 2 1 [some (8, (rows.drop st).take n), some (0, []), some (0, []), some (200, [setC cells n (H.length + 0) (H.length + 2) (H.length + 1)])]
  simp only [List.append_assoc, List.cons_append, List.nil_append, List.length_append, List.length_cons, List.length_nil]
  exact this _ ⟨rfl, rfl, rfl, rfl, rfl, by decide, by decide, by decide, by decide, by decide, by decide⟩ rfl
 ·refine ⟨_, _, _, b_pre hB (b_map 14 (.inl rfl) le0 (b_clone (by simp) (ob1 _) hB.le hB.n0 hB.big rfl (b_map 15 (.inr rfl) (by simp) (b_suf hC (by simp) rfl r7 r11 rfl rfl rfl)))), hap _ rfl rfl rfl rfl rfl rfl, ?_⟩
  have := key 1 0 2 [some (0, []), some (8, (rows.drop st).take n), some (0, []), some (200, [setC cells n (H.length + 1) (H.length + 0) (H.length + 2)])]
  simp only [List.append_assoc, List.cons_append, List.nil_append, List.length_append, List.length_cons, List.length_nil]
  exact this _ ⟨rfl, rfl, rfl, rfl, rfl, by decide, by decide, by decide, by decide, by decide, by decide⟩ rfl
 ·refine ⟨_, _, _, b_pre hB (b_map 14 (.inl rfl) le0 (b_map 15 (.inr rfl) (by simp) (b_clone (by simp) (by rw [List.append_assoc]; exact ob1 _) hB.le hB.n0 hB.big rfl (b_suf hC (by simp) rfl r7 r11 rfl rfl rfl)))), hap _ rfl rfl rfl rfl rfl rfl, ?_⟩
  have := key 2 0 1 [some (0, []), some (0, []), some (8, (rows.drop st).take n), some (200, [setC cells n (H.length + 2) (H.length + 0) (H.length + 1)])]
  simp only [List.append_assoc, List.cons_append, List.nil_append, List.length_append, List.length_cons, List.length_nil]
  exact this _ ⟨rfl, rfl, rfl, rfl, rfl, by decide, by decide, by decide, by decide, by decide, by decide⟩ rfl
 ·refine ⟨_, _, _, b_pre hB (b_map 15 (.inr rfl) le0 (b_clone (by simp) (ob1 _) hB.le hB.n0 hB.big rfl (b_map 14 (.inl rfl) (by simp) (b_suf hC (by simp) rfl r7 r11 rfl rfl rfl)))), hap _ rfl rfl rfl rfl rfl rfl, ?_⟩
  have := key 1 2 0 [some (0, []), some (8, (rows.drop st).take n), some (0, []), some (200, [setC cells n (H.length + 1) (H.length + 2) (H.length + 0)])]
  simp only [List.append_assoc, List.cons_append, List.nil_append, List.length_append, List.length_cons, List.length_nil]
  exact this _ ⟨rfl, rfl, rfl, rfl, rfl, by decide, by decide, by decide, by decide, by decide, by decide⟩ rfl
 ·refine ⟨_, _, _, b_pre hB (b_map 15 (.inr rfl) le0 (b_map 14 (.inl rfl) (by simp) (b_clone (by simp) (by rw [List.append_assoc]; exact ob1 _) hB.le hB.n0 hB.big rfl (b_suf hC (by simp) rfl r7 r11 rfl rfl rfl)))), hap _ rfl rfl rfl rfl rfl rfl, ?_⟩
  have := key 2 1 0 [some (0, []), some (0, []), some (8, (rows.drop st).take n), some (200, [setC cells n (H.length + 2) (H.length + 1) (H.length + 0)])]
  simp only [List.append_assoc, List.cons_append, List.nil_append, List.length_append, List.length_cons, List.length_nil]
  exact this _ ⟨rfl, rfl, rfl, rfl, rfl, by decide, by decide, by decide, by decide, by decide, by decide⟩ rfl
end
end Go.Proofs.GD
/- fs.begin's contract, on lists and on trees. -/
namespace Go.Proofs.GD
set_option linter.unusedSectionVars false
variable [Go.AI.Sym]
open Go Go.AI Go.RowKit
set_option maxRecDepth 100000
set_option linter.unusedVariables false
set_option linter.unusedSimpArgs false
noncomputable def bHd : Row → Bool
 | .ptr _ _ _ _ :: _ => true
 | _ => false
noncomputable def chkB (N fid : Nat) (v7 v11 : AVal) (nid st n rl : Nat) (cells : Row) : Bool :=
 cond (Nat.blt fid N) (cond (Nat.beq nid fid) false (cond (Nat.beq n 0) false (cond (Nat.ble (st + n) rl) (cond (Nat.ble n 4294967296) (cond (noWhen v7) (cond (noWhen v11) (cond (Nat.beq cells.length 200) (cond (allOneA cells) (cond (lowC N cells) (bHd cells) false) false) false) false) false) false) false))) false
noncomputable def mBegin (args : Row) (H : Heap) : Option (AVal × Heap) :=
 match args with
 | [.ptr fid 198 0 0] => match aLoad Tryz.prog 121 (.ptr fid 198 0 2) H, aLoad Tryz.prog 137 (.ptr fid 198 0 194) H, aLoad Tryz.prog 134 (.ptr fid 198 0 195) H with
  | some v7, some v11, some (.osl nid 8 st n kc) => match obj H nid with
   | some (8, rows) => match fillA pl250 zc250 [(0, .ptr fid 198 0 0), (1, v7), (2, v11)] with
    | some cells => cond (chkB H.length fid v7 v11 nid st n rows.length cells) (some (.ptr (H.length + 3) 200 0 0, H ++ canS H ((rows.drop st).take n) cells n)) none
    | none => none
   | _ => none
  | _, _, _ => none
 | _ => none
noncomputable def mtBegin (args : Row) (T : TH) : Option (AVal × TH) :=
 match args with
 | [.ptr fid 198 0 0] => match loadQ Tryz.prog 121 (.ptr fid 198 0 2) T, loadQ Tryz.prog 137 (.ptr fid 198 0 194) T, loadQ Tryz.prog 134 (.ptr fid 198 0 195) T with
  | some v7, some v11, some (.osl nid 8 st n kc) => match (match tgetR T.t nid with
   | some (.ls 8 rows) => some rows
   | some (.ar 8 m t) => some (rowsL m t)
   | _ => none) with
   | some rows => match fillA pl250 zc250 [(0, .ptr fid 198 0 0), (1, v7), (2, v11)] with
    | some cells => cond (chkB T.n fid v7 v11 nid st n rows.length cells) (some (.ptr (T.n + 3) 200 0 0, pushT (pushT (pushT (pushT T (.ls 8 ((rows.drop st).take n))) (.ls 0 [])) (.ls 0 [])) (.ls 200 [setC cells n T.n (T.n + 1) (T.n + 2)]))) none
    | none => none
   | none => none
  | _, _, _ => none
 | _ => none
theorem begin_sim (args : Row) (T : TH) (H : Heap) (h : TR T H) : SimO (mtBegin args T) (mBegin args H) := by
 unfold mtBegin
 split
 ·rename_i fid
  split
  ·rename_i v7 v11 nid st n kc e1 e2 e3
   split
   ·rename_i rows hr
    have hob : obj H nid = some (8, rows) := by
     have hg := h.g nid
     rw [← tgetR_eq] at hg
     split at hr
     ·rename_i rows' ht
      simp only [Option.some.injEq] at hr
      subst hr
      rw [ht] at hg
      simp only [Option.map_some, absO] at hg
      simp [obj, ← hg]
     ·rename_i m t ht
      simp only [Option.some.injEq] at hr
      subst hr
      rw [ht] at hg
      simp only [Option.map_some, absO] at hg
      simp [obj, ← hg]
     ·cases hr
    split
    ·rename_i cells hc
     intro a T' q
     cases hk : chkB T.n fid v7 v11 nid st n rows.length cells with
     | false => rw [hk] at q; cases q
     | true =>
      rw [hk, cond_true] at q
      simp only [Option.some.injEq, Prod.mk.injEq] at q
      obtain ⟨rfl, rfl⟩ := q
      have hn := h.n
      have t1 := h.push (y := .ls 8 ((rows.drop st).take n)) trivial
      have t2 := t1.push (y := .ls 0 []) trivial
      have t3 := t2.push (y := .ls 0 []) trivial
      have t4 := t3.push (y := .ls 200 [setC cells n T.n (T.n + 1) (T.n + 2)]) trivial
      refine ⟨_, ?_, t4⟩
      unfold mBegin
      simp only [loadQ_some h e1, loadQ_some h e2, loadQ_some h e3, hob, hc]
      rw [← hn, hk, cond_true]
      simp [canS, absO, hn]
    ·exact SimO.nil
   ·exact SimO.nil
  ·exact SimO.nil
 ·exact SimO.nil
theorem begin_inl : InlOk Tryz.prog 60 mBegin := by
 refine inl_of Tryz.func60 b_body fun args H r H' hr => ?_
 unfold mBegin at hr
 split at hr
 case h_2 => cases hr
 rename_i fid
 split at hr
 case h_2 => cases hr
 rename_i v7 v11 nid st n kc e1 e2 e3
 split at hr
 case h_2 => cases hr
 rename_i rows hob
 split at hr
 case h_2 => cases hr
 rename_i cells hc
 cases hk : chkB H.length fid v7 v11 nid st n rows.length cells with
 | false => rw [hk] at hr; cases hr
 | true =>
 rw [hk, cond_true] at hr
 simp only [Option.some.injEq, Prod.mk.injEq] at hr
 obtain ⟨rfl, rfl⟩ := hr
 unfold chkB at hk
 cases q1 : Nat.blt fid H.length with
 | false => rw [q1] at hk; cases hk
 | true =>
 cases q2 : Nat.beq nid fid with
 | true => rw [q1, q2] at hk; cases hk
 | false =>
 cases q3 : Nat.beq n 0 with
 | true => rw [q1, q2, q3] at hk; cases hk
 | false =>
 cases q4 : Nat.ble (st + n) rows.length with
 | false => rw [q1, q2, q3, q4] at hk; cases hk
 | true =>
 cases q5 : Nat.ble n 4294967296 with
 | false => rw [q1, q2, q3, q4, q5] at hk; cases hk
 | true =>
 cases q6 : noWhen v7 with
 | false => rw [q1, q2, q3, q4, q5, q6] at hk; cases hk
 | true =>
 cases q7 : noWhen v11 with
 | false => rw [q1, q2, q3, q4, q5, q6, q7] at hk; cases hk
 | true =>
 cases q8 : Nat.beq cells.length 200 with
 | false => rw [q1, q2, q3, q4, q5, q6, q7, q8] at hk; cases hk
 | true =>
 cases q9 : allOneA cells with
 | false => rw [q1, q2, q3, q4, q5, q6, q7, q8, q9] at hk; cases hk
 | true =>
 cases q10 : lowC H.length cells with
 | false => rw [q1, q2, q3, q4, q5, q6, q7, q8, q9, q10] at hk; cases hk
 | true =>
 rw [q1, q2, q3, q4, q5, q6, q7, q8, q9, q10] at hk
 simp only [cond_true, cond_false] at hk
 have hhd : ∃ a b c d t, cells = .ptr a b c d :: t := by
  unfold bHd at hk
  split at hk
  ·exact ⟨_, _, _, _, _, rfl⟩
  ·cases hk
 rw [beq_dec] at q2 q3
 have hB : Bg H fid v7 v11 nid st n kc rows := ⟨e1, e2, e3, hob, of_decide_eq_false q3, Nat.le_of_ble_eq_true q4, Nat.le_of_ble_eq_true q5, of_decide_eq_false q2, Nat.lt_of_succ_le (Nat.le_of_ble_eq_true q1), noWhen_res q6, noWhen_res q7⟩
 have hC : Ce H fid v7 v11 cells := ⟨hc, Nat.eq_of_beq_eq_true q8, q9, q10, hhd⟩
 refine ⟨(by decide : 1 ≤ 21), ?_⟩
 have e0 : execV Tryz.prog oC 21 (fun _ => none) 1 (fstC (bodyC Tryz.f60)) 0 (envOf 0 [.ptr fid 198 0 0]) H = some (.normal, [(2, .v (.pointer none)), (0, .ptr fid 198 0 0)], H) := by kernel_rfl
 refine AWp.seqX (execV_sound oC_ok mixed _ 0 _ _ _ (codeRV_true _ _) e0) ?_
 refine AWp.seqX (b_reg hB hC) ?_
 have hret : AWp Tryz.prog 21 H.length .ret (IsX (.ret, [(2, .ptr (H.length + 3) 200 0 0)], H ++ canS H ((rows.drop st).take n) cells n)) [(2, .ptr (H.length + 3) 200 0 0)] (H ++ canS H ((rows.drop st).take n) cells n) := execV_sound (C := oC) (live := fun _ => none) (k := 1) oC_ok mixed .ret 0 _ _ _ rfl rfl
 exact hret.ofX ⟨rfl, rfl⟩
end Go.Proofs.GD
