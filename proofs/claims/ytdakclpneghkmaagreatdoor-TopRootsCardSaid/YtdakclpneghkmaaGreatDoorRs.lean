/- The law's loop, in both phases. -/
import Derived.Test.YtdakclpneghkmaaGreatDoorSyR
import Derived.Test.YtdakclpneghkmaaGreatDoorRz
import Derived.Test.YtdakclpneghkmaaGreatDoorEq
import Derived.Test.YtdakclpneghkmaaGreatDoorL11
import Derived.SliceStrings
import Derived.SizedLaws
namespace Go.Proofs.GD
set_option linter.unusedSectionVars false
variable [Go.AI.Sym]
open Go Go.AI Go.RowKit
set_option maxRecDepth 100000
set_option maxHeartbeats 1000000
variable {tgt : ByteArray}
structure Phs (S : LS) : Prop where
 ok : okLS 2806 S = true
 low : lowM 2806 S = true
 nd : (S.map Prod.fst).Nodup
 ch : ∀ s, Asks (chV s) S S
 st : ∀ (s : ByteArray) (a b c d e f : AVal), (∀ p ∈ qR kP a b c d e f, mvA (gOf []) p.2 = p.2 ∧ lowA 2806 p.2 = true) →
  AWp Tryz.prog 75 0 rQ (fun ex ρ2 H2 => exN ex = 0 ∧ Ent 0 (qR kP a b c d e f, mkH 2806 S) (ρ2, H2)) (qE kP (.v (.string s)) a b c d e f) (mkH 2806 S)
theorem markE {k : Nat} {s : ByteArray} {a b c d e f : AVal} {H : Heap} (h : Sym.P k (.string s)) : Ent 0 (qE kP (.str k) a b c d e f, H) (qE kP (.v (.string s)) a b c d e f, H) := by
 refine Ent.trans (s' := ((9, .str k) :: qE kP (.v (.string s)) a b c d e f, H)) (Ent.env fun q hq => ?_) (Ent.slotL (t := 9) (ρ := qE kP (.v (.string s)) a b c d e f) (lss_of h))
 simp only [qE, List.mem_cons, List.not_mem_nil, or_false] at hq
 rcases hq with rfl | rfl | rfl | rfl | rfl | rfl | rfl | rfl <;> rfl
theorem phsA (hM : Mk tgt) : Phs SA where
 ok := ok_SA
 low := low_SA
 nd := nodupB (by kernel_rfl)
 ch := ask_ch hM
 st := fun s a b c d e f hok => by
  rcases walkS_vals none s with h | h | h | h | h
  ·exact AWp.entP (markE (hM.ofA (e := 0) (by decide) h)) (partQ (tO hM) ok_SA rfl ok_SA low_SA (st_0 a b c d e f) hok)
  ·exact AWp.entP (markE (hM.ofA (e := 2) (by decide) h)) (partQ (tE hM (e := 2) (by decide) (by decide)) ok_SA rfl ok_SA low_SA (st_2 a b c d e f) hok)
  ·exact AWp.entP (markE (hM.ofA (e := 3) (by decide) h)) (partQ (tE hM (e := 3) (by decide) (by decide)) ok_SA rfl ok_SA low_SA (st_3 a b c d e f) hok)
  ·exact AWp.entP (markE (hM.ofA (e := 4) (by decide) h)) (partQ (tE hM (e := 4) (by decide) (by decide)) ok_SA rfl ok_SA low_SA (st_4 a b c d e f) hok)
  ·cases h.2
theorem phsB (hM : Mk tgt) : Phs SAB where
 ok := ok_SAB
 low := low_SAB
 nd := nodupB (by kernel_rfl)
 ch := ask_chB hM hM.link
 st := fun s a b c d e f hok => by
  rcases walkS_vals (some (partsB tgt)) s with h | h | h | h | h
  ·exact AWp.entP (markE (hM.ofB (e := 0) (by decide) h)) (partQ (tOB hM hM.link) ok_SAB rfl ok_SAB low_SAB (PB.st_0 a b c d e f) hok)
  ·exact AWp.entP (markE (hM.ofB (e := 2) (by decide) h)) (partQ (tEB hM hM.link (e := 2) (by decide) (by decide)) ok_SAB rfl ok_SAB low_SAB (PB.st_2 a b c d e f) hok)
  ·exact AWp.entP (markE (hM.ofB (e := 3) (by decide) h)) (partQ (tEB hM hM.link (e := 3) (by decide) (by decide)) ok_SAB rfl ok_SAB low_SAB (PB.st_3 a b c d e f) hok)
  ·exact AWp.entP (markE (hM.ofB (e := 4) (by decide) h)) (partQ (tEB hM hM.link (e := 4) (by decide) (by decide)) ok_SAB rfl ok_SAB low_SAB (PB.st_4 a b c d e f) hok)
  ·exact AWp.entP (markE (hM.ofB (e := 14) (by decide) h.1)) (partQ (tEB hM hM.link (e := 14) (by decide) (by decide)) ok_SAB rfl ok_SAB low_SAB (PB.st_14 a b c d e f) hok)
theorem asksR {a : Row} {S S' : LS} (h : Asks a S S') (ok' : okLS 2806 S' = true) (low' : lowM 2806 S' = true) {names : List ByteArray} {i : Nat} {s : ByteArray} {c : Code}
  (hr : ∀ n' l', InlOk Tryz.prog 8 (snapM a 2806 S .junk n' l') → AWp Tryz.prog 75 0 c (fun e ρ' H' => e = .normal ∧ H' = mkH n' l' ∧ ∀ q ∈ (7, .v (.string s)) :: hE names i, AI.look ρ' q.1 = q.2) ((7, .v (.string s)) :: hE names i) (mkH 2806 S)) :
  AWp Tryz.prog 75 0 c (fun ex ρ2 H2 => exN ex = 0 ∧ Ent 0 ((7, .v (.string s)) :: hE names i, mkH 2806 S') (ρ2, H2)) ((7, .v (.string s)) :: hE names i) (mkH 2806 S) := by
 obtain ⟨n', mv, hI, hmv, okn, nd, hg⟩ := h
 refine (hr n' _ hI).mono ?_
 rintro e ρ2 H2 ⟨rfl, rfl, h3⟩
 refine ⟨rfl, Ent.trans (entQ (n := n') hmv ok' low' okn nd fun p hp => ?_) (Ent.env h3)⟩
 simp only [hE, List.mem_cons, List.not_mem_nil, or_false] at hp
 rcases hp with rfl | rfl | rfl | rfl | rfl
 ·exact ⟨rfl, rfl, rfl⟩
 ·refine ⟨?_, rfl, rfl⟩
  show AVal.ptr (gOf mv 1532) 655 0 0 = _
  rw [hg]; rfl
 ·exact ⟨rfl, rfl, rfl⟩
 ·exact ⟨rfl, rfl, rfl⟩
 ·exact ⟨rfl, rfl, rfl⟩
noncomputable def rLqC : Code := .seq (.region 10 f5o10 false) (.seq (.cond (.tmp 57) .skip (.exit 2)) (.seq (.block 3 (.seq (.region 11 f5o11 false) rQ)) (.region 15 f5o15 false)))
noncomputable def rLpC : Code := .seq (.region 5 f5o5 false) (.seq (.cond (.tmp 40) .skip (.exit 0)) (.seq (.block 1 (.seq (.region 6 f5o6 false) (.seq (.region 7 f5o7 false) (.seq (.region 8 f5o8 false) (.seq (.region 9 f5o9 false) (.block 2 (.loop rLqC))))))) (.region 16 f5o16 false)))
theorem sub_E {names : List ByteArray} {i j : Nat} {s : ByteArray} : ∀ p ∈ iE names i s j, AI.look (((57, .v (.bool (decide (j < 6)))) :: iE names i s j)) p.1 = p.2 := fun p hp => by
 simp only [iE, hE, List.mem_cons, List.not_mem_nil, or_false] at hp
 rcases hp with rfl | rfl | rfl | rfl | rfl | rfl | rfl <;> rfl
theorem inner {S : LS} (hS : Phs S) {names : List ByteArray} {i : Nat} {s : ByteArray} : ∀ (k j : Nat), j + k = 6 → ∀ ρ H, Ent 0 (iE names i s j, mkH 2806 S) (ρ, H) →
  UnrA (fun Q ρ H => AWp Tryz.prog 75 0 rLqC Q ρ H) (fun e ρ H => e = .exit 2 ∧ Ent 0 (hE names i, mkH 2806 S) (ρ, H)) (k + 1) ρ H
 | 0, j, hj, ρ, H, he => by
  obtain rfl : j = 6 := by omega
  rw [UnrA]
  refine AWp.entP he (AWp.seqG r10 (AWp.seq (AWp.condF rfl (AWp.exitG ⟨rfl, Ent.env fun p hp => ?_⟩))))
  simp only [hE, List.mem_cons, List.not_mem_nil, or_false] at hp
  rcases hp with rfl | rfl | rfl | rfl <;> rfl
 | k + 1, j, hj, ρ, H, he => by
  have hj6 : j < 6 := by omega
  obtain ⟨t, ht⟩ : ∃ t, (six s)[j]? = some t := ⟨(six s)[j]'(by simpa [six] using hj6), List.getElem?_eq_getElem _⟩
  rw [UnrA]
  refine AWp.entP he (AWp.seqG r10 (AWp.seq (AWp.condT (by show AVal.v (.bool (decide (j < 6))) = _; rw [decide_eq_true hj6]) (AWp.skipG ?_))))
  show AWp Tryz.prog 75 0 (.seq (.block 3 (.seq (.region 11 f5o11 false) rQ)) (.region 15 f5o15 false)) _ _ _
  refine AWp.sub sub_E (AWp.seq (AWp.blockG (AWp.seqG (r11 ht) ?_)))
  refine AWp.sub (ρ' := qE kP (.v (.string t)) (.fsl false 1 (names.map strRow)) (.v (.int .i64 names.length)) (.v (.int .i64 i)) (.fsl true 1 ((six s).map strRow)) (.v (.int .i64 6)) (.v (.int .i64 j))) (fun p hp => ?_) ((hS.st t _ _ _ _ _ _ (fun p hp => ?_)).mono ?_)
  ·simp only [qE, List.mem_cons, List.not_mem_nil, or_false] at hp
   rcases hp with rfl | rfl | rfl | rfl | rfl | rfl | rfl | rfl <;> rfl
  ·simp only [qR, List.mem_cons, List.not_mem_nil, or_false] at hp
   rcases hp with rfl | rfl | rfl | rfl | rfl | rfl | rfl <;> exact ⟨rfl, rfl⟩
  rintro ex ρ2 H2 ⟨h1, h2⟩
  rw [exN_on h1]
  show AWp Tryz.prog 75 0 (.region 15 f5o15 false) _ ρ2 H2
  refine AWp.entP (ρ' := iE names i s j) (H' := mkH 2806 S) (Ent.trans (Ent.env fun p hp => ?_) h2) ((r15 hj6).mono ?_)
  ·simp only [iE, hE, List.mem_cons, List.not_mem_nil, or_false] at hp
   rcases hp with rfl | rfl | rfl | rfl | rfl | rfl | rfl <;> rfl
  rintro e ρ3 H3 ⟨rfl, rfl, h3⟩
  exact inner hS k (j + 1) (by omega) ρ3 _ (Ent.env h3)
end Go.Proofs.GD
/- The law's function answers true, whatever the names. -/
namespace Go.AI
set_option linter.unusedSectionVars false
variable [Go.AI.Sym]
set_option linter.unusedSectionVars false
theorem mv_id : ∀ (a : AVal), mvA (gOf []) a = a
 | .junk => rfl
 | .anyb => rfl
 | .anyi _ => rfl
 | .str _ => rfl
 | .v _ => rfl
 | .ptr _ _ _ _ => rfl
 | .fptr _ _ => rfl
 | .osl _ _ _ _ _ => rfl
 | .xsl _ _ _ _ _ => rfl
 | .fsl _ _ _ => rfl
 | .esl => rfl
 | .agg cs => by
  simp only [mvA, mvC_map]
  rw [List.map_congr_left (g := id) fun a ha => mv_id a, List.map_id]
 | .tup cs => by
  simp only [mvA, mvC_map]
  rw [List.map_congr_left (g := id) fun a ha => mv_id a, List.map_id]
 | .fn _ cs => by
  simp only [mvA, mvC_map]
  rw [List.map_congr_left (g := id) fun a ha => mv_id a, List.map_id]
 | .when _ a => by simp only [mvA]; rw [mv_id a]
 | .ifc _ a => by simp only [mvA]; rw [mv_id a]
 | .meth _ _ => rfl
termination_by a => SizeOf.sizeOf a
decreasing_by
 all_goals simp_wf
 all_goals first
  |(have := List.sizeOf_lt_of_mem ha; omega)
  | omega
theorem mvLO_id (o : LO) : mvLO (gOf []) o = o := by
 cases o with
 | ls sz rows =>
  simp only [mvLO]
  rw [List.map_congr_left (g := fun r => r) fun r _ => by rw [List.map_congr_left (g := fun a => a) fun a _ => mv_id a, List.map_id'], List.map_id']
 | ar sz m x ps => rfl
end Go.AI
namespace Go.Proofs.GD
set_option linter.unusedSectionVars false
variable [Go.AI.Sym]
open Go Go.AI Go.RowKit
set_option maxRecDepth 100000
set_option maxHeartbeats 1000000
variable {tgt : ByteArray}
theorem frz9 {S : LS} (hS : Phs S) {names : List ByteArray} {i : Nat} {s : ByteArray} {ρ : Env} (h : ∀ q ∈ (54, .osl 2806 1 0 6 6) :: (55, .v (.int .i64 6)) :: (56, .v (.int .i64 0)) :: hE names i, AI.look ρ q.1 = q.2) :
  Ent 0 (iE names i s 0, mkH 2806 S) (ρ, mkH 2806 S ++ [some (1, (six s).map strRow)]) := by
 have hl : (mkH 2806 S).length = 2806 := mkH_len _ _
 have hob : obj (mkH 2806 S ++ [some (1, (six s).map strRow)]) 2806 = some (1, (six s).map strRow) := by
  unfold obj
  rw [List.getElem?_append_right (by omega), hl]
  rfl
 refine Ent.trans (s' := ((54, .fsl true 1 ((six s).map strRow)) :: ρ, (mkH 2806 S ++ [some (1, (six s).map strRow)]).set 2806 none)) ?_ (Ent.frzS (len := 6) (kc := 6) hob rfl (fun r hr => List.all_eq_true.1 (strRows_low 0 (six s)) r hr) (h (54, .osl 2806 1 0 6 6) (by simp)))
 refine ent_move (mv := []) rfl hS.ok hS.low (fun p hp => ?_) (fun p hp => ?_)
 ·simp only [iE, hE, List.mem_cons, List.not_mem_nil, or_false] at hp
  rcases hp with rfl | rfl | rfl | rfl | rfl | rfl | rfl
  ·exact ⟨rfl, rfl⟩
  ·exact ⟨h (55, .v (.int .i64 6)) (by simp), rfl⟩
  ·exact ⟨h (56, .v (.int .i64 0)) (by simp), rfl⟩
  ·exact ⟨h (3, kP) (by simp [hE]), rfl⟩
  ·exact ⟨h (37, .fsl false 1 (names.map strRow)) (by simp [hE]), rfl⟩
  ·exact ⟨h (38, .v (.int .i64 names.length)) (by simp [hE]), rfl⟩
  ·exact ⟨h (39, .v (.int .i64 i)) (by simp [hE]), rfl⟩
 ·have hok := hS.ok
  simp only [okLS, Bool.and_eq_true, List.all_eq_true, decide_eq_true_eq] at hok
  have hp2 := (hok.2 p hp).1
  show (List.set _ 2806 none)[p.1]? = _
  rw [List.getElem?_set_ne (by omega), List.getElem?_append_left (by omega)]
  rw [mvLO_id]
  exact mkH_at hS.nd hS.ok hp
theorem round5 {S S' : LS} (hS : Phs S) (hS' : Phs S') {names : List ByteArray} {i : Nat} {s : ByteArray} (hs : names[i]? = some s) (hsz : s.size ≤ 140737488351232) (hi : i < 140737488351232) (hsy : Asks (syV s) S S') {K : Env → Heap → Prop} {Q : Post}
  (hK : ∀ ρ H, Ent 0 (hE names (i + 1), mkH 2806 S') (ρ, H) → K ρ H) : AWp Tryz.prog 75 0 rLpC (thenA K Q) (hE names i) (mkH 2806 S) := by
 have hlt : i < names.length := (List.getElem?_eq_some_iff.1 hs).1
 refine AWp.seqG r5 (AWp.seq (AWp.condT (by show AVal.v (.bool (decide (i < names.length))) = _; rw [decide_eq_true hlt]) (AWp.skipG ?_)))
 show AWp Tryz.prog 75 0 (.seq (.block 1 _) (.region 16 f5o16 false)) _ _ _
 refine AWp.sub (ρ' := hE names i) (fun p hp => ?_) (AWp.seq (AWp.blockG (AWp.seqG (r6 hs) ?_)))
 ·simp only [hE, List.mem_cons, List.not_mem_nil, or_false] at hp
  rcases hp with rfl | rfl | rfl | rfl <;> rfl
 refine AWp.seqE (asksR (hS.ch s) hS.ok hS.low fun n' l' hI => r7 hI ⟨rfl, fun _ _ h => h⟩) ?_
 refine AWp.seqE (asksR hsy hS'.ok hS'.low fun n' l' hI => r8 hI ⟨rfl, fun _ _ h => h⟩) ?_
 refine AWp.seq ((r9 hsz).mono ?_)
 rintro e ρ2 H2 ⟨rfl, rfl, h3⟩
 rw [mkH_len] at h3
 show AWp Tryz.prog 75 0 (.block 2 (.loop rLqC)) _ ρ2 _
 refine AWp.entP (frz9 hS' h3) (AWp.blockG ?_)
 have hin := inner hS' (names := names) (i := i) (s := s) 6 0 rfl _ _ (Ent.refl _ _)
 refine AWp.mono (LoopA_sound (W := fun Q ρ H => AWp Tryz.prog 75 0 rLqC Q ρ H) (fun _ _ _ h => h) (.inl ⟨7, hin⟩)) ?_
 rintro e ρ3 H3 ⟨rfl, h4⟩
 show AWp Tryz.prog 75 0 (.region 16 f5o16 false) (thenA K Q) ρ3 H3
 refine AWp.entP h4 ((r16 hi).mono ?_)
 rintro e ρ4 H4 ⟨rfl, rfl, h5⟩
 exact hK _ _ (Ent.env h5)
def okT (s : ByteArray) : Bool := decide (spE s = 0)
theorem outer (hM : Mk tgt) {names : List ByteArray} (hlen : names.length ≤ 140737488351232) (hsz : ∀ s ∈ names, s.size ≤ 140737488351232) : ∀ (l : List ByteArray) (i : Nat), names.drop i = l → i ≤ names.length → ∀ ρ H,
  (Ent 0 (hE names i, mkH 2806 SA) (ρ, H) ∧ (l.find? okT = some tgt ∨ l.find? okT = none)) ∨ Ent 0 (hE names i, mkH 2806 SAB) (ρ, H) →
  UnrA (fun Q ρ H => AWp Tryz.prog 75 0 rLpC Q ρ H) (fun e _ _ => e = .exit 0) (l.length + 1) ρ H
 | [], i, hl, hi, ρ, H, h => by
  have hge : i = names.length := by
   have := congrArg List.length hl
   simp only [List.length_drop, List.length_nil] at this
   omega
  have key : ∀ S, Ent 0 (hE names i, mkH 2806 S) (ρ, H) → UnrA (fun Q ρ H => AWp Tryz.prog 75 0 rLpC Q ρ H) (fun e _ _ => e = .exit 0) 1 ρ H := fun S he => by
   rw [UnrA]
   refine AWp.entP he (AWp.seqG r5 (AWp.seq (AWp.condF (by show AVal.v (.bool (decide (i < names.length))) = _; rw [decide_eq_false (by omega)]) (AWp.exitG rfl))))
  rcases h with ⟨h, _⟩ | h
  ·exact key _ h
  ·exact key _ h
 | s :: l, i, hl, hi, ρ, H, h => by
  have hs : names[i]? = some s := by
   have := congrArg (fun l => l[0]?) hl
   simpa [List.getElem?_drop] using this
  have hl2 : names.drop (i + 1) = l := by
   rw [← List.drop_drop, hl]; rfl
  have hlt : i < names.length := (List.getElem?_eq_some_iff.1 hs).1
  have hss := hsz s (List.mem_of_getElem? hs)
  have ih := outer hM hlen hsz l (i + 1) hl2 (by omega)
  show UnrA _ _ (l.length + 1 + 1) ρ H
  rw [UnrA]
  rcases h with ⟨he, hf⟩ | he
  ·by_cases hok : spE s = 0
   ·have e1 : (s :: l).find? okT = some s := by
     rw [List.find?_cons_of_pos]
     simpa [okT] using hok
    rw [e1] at hf
    have hst : s = tgt := by
     rcases hf with hf | hf
     ·simpa using hf
     ·cases hf
    subst hst
    exact AWp.entP he (round5 (phsA hM) (phsB hM) hs hss (by omega) (ask_syT hM) fun ρ2 H2 h2 => ih ρ2 H2 (.inr h2))
   ·have e1 : (s :: l).find? okT = l.find? okT := by
     rw [List.find?_cons_of_neg]
     simpa [okT] using hok
    rw [e1] at hf
    exact AWp.entP he (round5 (phsA hM) (phsA hM) hs hss (by omega) (ask_sy hM hok) fun ρ2 H2 h2 => ih ρ2 H2 (.inl ⟨h2, hf⟩))
  ·exact AWp.entP he (round5 (phsB hM) (phsB hM) hs hss (by omega) (ask_syB hM s) fun ρ2 H2 h2 => ih ρ2 H2 (.inr h2))
end Go.Proofs.GD
/- The law's function, as a pure one: true at whatever names of no more than 2^47 bytes. -/
namespace Go.Proofs.GD
set_option linter.unusedSectionVars false
variable [Go.AI.Sym]
open Go Go.AI Go.RowKit
set_option maxRecDepth 100000
set_option maxHeartbeats 1000000
variable {tgt : ByteArray}
theorem run5_seq {a b : Code} {ρ ρ' : Env} {T T' : TH} (h : run5 (.seq a b) ρ T = .nm ρ' T') : ∃ ρ1 T1, run5 a ρ T = .nm ρ1 T1 ∧ run5 b ρ1 T1 = .nm ρ' T' := by
 have h' : RT.rec (motive := fun _ => RT) .no (fun ρ' H' => run5 b ρ' H') (fun id ρ' H' => .ex id ρ' H') (fun ρ' H' => .rt ρ' H') (run5 a ρ T) = .nm ρ' T' := h
 cases hr : run5 a ρ T with
 | no => rw [hr] at h'; cases h'
 | nm ρ1 T1 => rw [hr] at h'; exact ⟨ρ1, T1, rfl, h'⟩
 | ex id ρ1 T1 => rw [hr] at h'; cases h'
 | rt ρ1 T1 => rw [hr] at h'; cases h'
theorem run5_sound {n0 : Nat} {a : Code} {ρ ρ' : Env} {T T' : TH} {H : Heap} (hT : TR T H) (h : run5 a ρ T = .nm ρ' T') : ∃ H', TR T' H' ∧ AWp Tryz.prog 75 n0 a (IsX (.normal, ρ', H')) ρ H := by
 have hm : Tryz.prog.follows .mixedOrders = true := by kernel_rfl
 exact runT_sound (n0 := n0) hT4 hm hT (by rw [show (compCT Tryz.prog tab4 (live 5) 5000 5 75 a 0).run (execW Tryz.prog tab4 cat4 live 5000 59) (execT Tryz.prog tab4 cat4 live 5000 59) ρ T = .nm ρ' T' from h]; rfl)
theorem run5_then {n0 : Nat} {a b c : Code} {Q : Post} {ρ ρ' : Env} {T T' : TH} {H : Heap} (hT : TR T H) (h : run5 (.seq a b) ρ T = .nm ρ' T')
  (hb : ∀ ρ1 T1 H1, TR T1 H1 → run5 b ρ1 T1 = .nm ρ' T' → AWp Tryz.prog 75 n0 c Q ρ1 H1) : AWp Tryz.prog 75 n0 (.seq a c) Q ρ H := by
 obtain ⟨ρ1, T1, h1, h2⟩ := run5_seq h
 obtain ⟨H1, q1, q2⟩ := run5_sound (n0 := n0) hT h1
 exact AWp.seqX q2 (hb ρ1 T1 H1 q1 h2)
theorem run5_last {n0 : Nat} {a c : Code} {Q : Post} {ρ ρ' : Env} {T T' : TH} {H : Heap} (hT : TR T H) (h : run5 a ρ T = .nm ρ' T')
  (hb : ∀ H1, TR T' H1 → AWp Tryz.prog 75 n0 c Q ρ' H1) : AWp Tryz.prog 75 n0 (.seq a c) Q ρ H := by
 obtain ⟨H1, q1, q2⟩ := run5_sound (n0 := n0) hT h
 exact AWp.seqX q2 (hb H1 q1)
theorem obsS_some {x : RT} {e : Env} {os : List (Option Ob)} (h : obsS x = some (e, os)) : ∃ ρ T, x = .nm ρ T ∧ Nat.beq T.n 2806 = true ∧ checkP T SAr = true ∧ e = [0, 3].map (fun k => (k, AI.look ρ k)) ∧ os = [0, 1].map fun k => (tgetR T.t k).map absO := by
 unfold obsS at h
 split at h
 case h_2 => cases h
 rename_i ρ T
 obtain ⟨h1, h2⟩ := condW h
 obtain ⟨h3, h4⟩ := condW h2
 simp only [Option.some.injEq, Prod.mk.injEq] at h4
 exact ⟨ρ, T, rfl, h1, h3, h4.1.symm, h4.2.symm⟩
noncomputable def r5C : Code := .seq rR0 (.seq rR1 (.seq rC2 (.seq (.seq (.region 4 f5o4 false) (.block 0 (.loop rLpC))) (.seq (.region 17 f5o17 false) .ret))))
theorem t5_body : Tryz.f5.body = some r5C := by kernel_rfl
theorem law5 (hM : Mk tgt) {names : List ByteArray} (hlen : names.length ≤ 140737488351232) (hsz : ∀ s ∈ names, s.size ≤ 140737488351232) (hf : names.find? okT = some tgt ∨ names.find? okT = none) :
  AWp Tryz.prog 75 0 r5C (retA Tryz.prog Tryz.f5 fun x _ => x = .v (.bool true)) (envOf 0 [.fsl false 1 (names.map strRow)]) [] := by
 obtain ⟨ρ, T, hr, hn, hc, hρ, ho⟩ := obsS_some (s5 (names.map strRow))
 unfold r5C
 refine run5_then empty_R hr fun ρ1 T1 H1 q1 r1 => run5_then q1 r1 fun ρ2 T2 H2 q2 r2 => run5_last q2 r2 fun H3 q3 => ?_
 have hS : SubH (mkH 2806 SA) H3 := by
  have hlen : (2806 : Nat) = H3.length := by rw [← q3.n]; exact (Nat.eq_of_beq_eq_true hn).symm
  simp only [List.map_cons, List.map_nil, List.cons.injEq, and_true] at ho
  refine putLH_sub ⟨by rw [List.length_replicate]; exact hlen, fun id q hq => ?_⟩ (fun p hp => ?_)
  ·rw [List.getElem?_replicate] at hq
   split at hq <;> cases hq
  ·have hp' : p ∈ (0, diskO) :: (1, diskO) :: SAr := hp
   simp only [List.mem_cons] at hp'
   rcases hp' with rfl | rfl | hp
   ·rw [← q3.g, ← tgetR_eq]; exact ho.1.symm
   ·rw [← q3.g, ← tgetR_eq]; exact ho.2.symm
   ·exact checkP_at q3 hc p hp
 have hE : Ent 0 ([(0, .fsl false 1 (names.map strRow)), (3, kP)], mkH 2806 SA) (ρ, H3) := by
  refine (Ent.env fun p hp => ?_).trans (Ent.ofH (H' := mkH 2806 SA) hS.len fun hs => hs.sub hS)
  have hρ' : ([(0, .fsl false 1 (names.map strRow)), (3, kP)] : Env) = [0, 3].map (fun k => (k, AI.look ρ k)) := hρ
  rw [hρ'] at hp
  obtain ⟨k, _, rfl⟩ := List.mem_map.1 hp
  rfl
 refine AWp.entP hE (AWp.seq (AWp.seqG r4 (AWp.blockG ?_)))
 have hu := outer hM hlen hsz names 0 rfl (Nat.zero_le _) _ _ (.inl ⟨Ent.refl _ _, hf⟩)
 refine AWp.mono (LoopA_sound (W := fun Q ρ H => AWp Tryz.prog 75 0 rLpC Q ρ H) (fun _ _ _ h => h) (.inl ⟨_, hu⟩)) ?_
 rintro e ρ4 H4 rfl
 show AWp Tryz.prog 75 0 (.seq (.region 17 f5o17 false) .ret) _ ρ4 H4
 refine AWp.sub (ρ' := []) (fun p hp => by cases hp) ?_
 refine AWp.seqG r17 (AWp.retG ?_)
 exact rfl
#print axioms law5
end Go.Proofs.GD
/- A list of strings as an argument: how it is read, and how large it may be. -/
namespace Go.AI
set_option linter.unusedSectionVars false
variable [Go.AI.Sym]
set_option linter.unusedSectionVars false
set_option maxRecDepth 100000
open Go.RowKit Go.WideShapes Go.ChangeShapes Go.Proofs.GD
theorem weights_all {H : Type} {P : Program} {e : TypeId} : ∀ {l : List ByteArray} {s : ByteArray}, s ∈ l → s.size ∈ DataW.weightsAll P e (strs (H := H) l)
 | [], s, h => by cases h
 | x :: l, s, h => by
  rcases List.mem_cons.1 h with rfl | h
  ·simp only [strs, List.map_cons, DataW.weightsAll, DataW.weights, List.mem_append, List.mem_cons, List.not_mem_nil, or_false]
   exact .inl (by rw [Array.length_toList]; rfl)
  ·have := weights_all (H := H) (P := P) (e := e) h
   simp only [strs, List.map_cons, DataW.weightsAll, List.mem_append] at this ⊢
   exact .inr this
theorem rd_strs {H : Type} {enc : TypeId × Value → H} {P : Program} {W : World} {spare : Nat → Bool} {held : Bool} {t e : TypeId} {v : Value} {d : DataW H} {p : List MemPlace} {base : Nat} (ht : P.underlying t = some (.slice e)) (he : P.underlying e = some .string) (hc : P.cellsOf e = 1) (hb : P.bytesOf e = 16)
  (hv : Value.okWide P W .any base t v) (h : DataW.Trod enc P W 0 spare held t v d p) (hw : ∀ n ∈ d.weights P t, n ≤ reachBytes) :
  ∃ l : List ByteArray, l.length ≤ 140737488351232 ∧ (∀ s ∈ l, s.size ≤ 140737488351232) ∧ R β0 (ok0 W) W 0 (.fsl false 1 (l.map strRow)) v := by
 obtain ⟨fuel, hf⟩ := h
 obtain ⟨a0, len0, cap0, rfl⟩ := okWide_slice ht hv
 rcases open_strings ht he hc hf with ⟨hcs, _⟩ | ⟨a, len, cap, ss, hcs, _, hl, hm, hz, hx, hcell, hsz⟩
 ·simp [Value.cells] at hcs
  obtain ⟨rfl, rfl, rfl⟩ := hcs
  exact ⟨[], by simp, by simp, .fsl0⟩
 ·simp [Value.cells] at hcs
  obtain ⟨rfl, rfl, rfl⟩ := hcs
  have hd : d = .slice (strs (ss.take len0)) (strs (ss.drop len0)) := by
   have := congrArg Prod.fst hx
   exact this
  subst hd
  have hle : len0 ≤ ss.length := by rw [hz]; split <;> omega
  simp only [DataW.weights, ht, hb] at hw
  have h1 := hw _ (List.mem_cons_self ..)
  have hlen : (ss.take len0).length = len0 := by rw [List.length_take]; omega
  have hsl : (strs (H := H) (ss.take len0)).length = len0 := by simp only [strs, List.length_map]; exact hlen
  refine ⟨ss.take len0, ?_, fun s hs => ?_, ?_⟩
  ·rw [hlen]
   rw [hsl] at h1
   have : len0 * 16 ≤ 140737488351232 := Nat.le_trans (Nat.mul_le_mul_right 16 (Nat.le_add_right _ _)) h1
   omega
  ·exact hw _ (List.mem_cons_of_mem _ (List.mem_append_left _ (weights_all hs)))
  ·by_cases hl0 : len0 = 0
   ·subst hl0
    exact .fsl0
   ·obtain ⟨b, off, spot⟩ := a
    have hc0 := hcell 0 (by omega)
    have hspot : spot = none := by simpa [Addr.add] using World.cell?_spot hc0
    subst hspot
    have hblk : b < W.heap.size := by
     rw [add_none] at hc0
     by_cases hb : b < W.heap.size
     ·exact hb
     ·simp [World.cell?, Array.getElem?_eq_none (Nat.le_of_not_lt hb)] at hc0
    have := R.fsl (β := β0) (ok := ok0 W) (w := W) (n := 0) (o := false) (sz := 1) (rows := (ss.take len0).map strRow) (b := b) (off := off) (cap := cap0)
     (fun i _ => .string (ss.getD i ByteArray.empty)) (by simp only [List.length_map]; omega)
     (fun r hr => by
      simp only [List.mem_map] at hr
      obtain ⟨y, _, rfl⟩ := hr
      rfl) (fun _ => ⟨hblk, fun h => by cases h⟩)
     (fun i j hi hj => by
      have hil : i < len0 := by rw [List.length_map, hlen] at hi; exact hi
      have h2 := hcell i (by omega)
      rw [add_none] at h2
      have e1 : off + i * 1 + j = off + i := by omega
      rw [e1]
      exact ⟨h2, rfl⟩)
     (fun i r hi j b' hj => by
      simp only [List.getElem?_map, Option.map_eq_some_iff] at hi
      obtain ⟨y, hy, rfl⟩ := hi
      rw [List.getElem?_take] at hy
      split at hy
      ·cases j with
       | zero =>
        simp [strRow] at hj
        subst hj
        have e2 : ss.getD i ByteArray.empty = y := by simp [List.getD, hy]
        rw [e2]; exact .v
       | succ j => simp [strRow] at hj
      ·cases hy)
    simp only [List.length_map, hlen] at this
    exact this
theorem fsl_inst (i0 i1 : Go.AI.Sym) {β : Nat → Nat} {ok : Bool → Nat → Prop} {w : World} {n : Nat} {names : List ByteArray} {v : Value} (h : @R i0 β ok w n (.fsl false 1 (names.map strRow)) v) : @R i1 β ok w n (.fsl false 1 (names.map strRow)) v := by
 generalize hrows : names.map strRow = rows at h ⊢
 cases h with
 | fsl x hl hs hb hc hr =>
  refine @R.fsl i1 _ _ _ _ _ _ _ _ _ _ x hl hs hb hc fun i r hi j a hj => ?_
  have h1 := hr i r hi j a hj
  rw [← hrows, List.getElem?_map, Option.map_eq_some_iff] at hi
  obtain ⟨y, _, rfl⟩ := hi
  cases j with
  | zero =>
   simp [strRow] at hj
   subst hj
   rw [@R.v_inv i0 _ _ _ _ _ _ h1]
   exact @R.v i1 _ _ _ _ _
  | succ j => simp [strRow] at hj
 | fsl0 => exact @R.fsl0 i1 _ _ _ _ _ _ _ _
end Go.AI
/- The law's function, called: true at whatever names of no more than 2^47 bytes. -/
namespace Go.Proofs.GD
open Go Go.AI Go.RowKit
set_option maxRecDepth 100000
-- no variable [Go.AI.Sym] here
abbrev sym0 : Go.AI.Sym := ⟨fun _ _ => False, fun h => h.elim⟩
abbrev symT (tgt : ByteArray) : Go.AI.Sym := ⟨PT tgt, @PT_one sym0 tgt⟩
theorem mk_symT {tgt : ByteArray} (h : spE tgt = 0) : @Mk (symT tgt) tgt := @Mk.mk (symT tgt) tgt (fun _ _ => Iff.rfl) h
open Classical in
theorem law_calls5 {tgt : ByteArray} (hok : spE tgt = 0) {names : List ByteArray} (hlen : names.length ≤ 140737488351232) (hsz : ∀ s ∈ names, s.size ≤ 140737488351232) (hf : names.find? okT = some tgt ∨ names.find? okT = none) {W : World} {v : Value}
  (hR : @R (symT tgt) β0 (Go.AI.ok0 W) W 0 (.fsl false 1 (names.map strRow)) v) : Calls Tryz.prog 5 #[v] W fun e W' => e = .returned (.bool true) ∧ RowKit.Below W.heap.size W W' := by
 letI : Go.AI.Sym := symT tgt
 have hP : PureOk Tryz.prog 5 (fun args => if args = [.fsl false 1 (names.map strRow)] then some (.v (.bool true)) else none) := by
  refine pure_canon Tryz.func5 t5_body fun args r hr => ?_
  split at hr
  case isFalse => cases hr
  rename_i ha
  cases hr
  subst ha
  refine ⟨_, Canon.refl _, (by show 1 ≤ 75; decide), (law5 (mk_symT hok) hlen hsz hf).mono (retA_mono fun x H h => ?_)⟩
  subst h
  exact ⟨rfl, rfl⟩
 exact law_calls hP (if_pos rfl) (ArgsR.of (vals := [v]) rfl (fun j a ha => by
  match j, ha with
  | 0, ha => simp at ha; subst ha; exact hR
  | j + 1, ha => simp at ha))
def tgtOf (names : List ByteArray) : ByteArray := (names.find? okT).getD dotB
theorem tgt_ok (names : List ByteArray) : spE (tgtOf names) = 0 := by
 unfold tgtOf
 cases h : names.find? okT with
 | none => show spE dotB = 0; kernel_rfl
 | some s => have h2 := List.find?_some h; simpa [okT] using h2
theorem tgt_find (names : List ByteArray) : names.find? okT = some (tgtOf names) ∨ names.find? okT = none := by
 unfold tgtOf
 cases h : names.find? okT with
 | none => exact .inr rfl
 | some s => exact .inl rfl
theorem law_all {names : List ByteArray} (hlen : names.length ≤ 140737488351232) (hsz : ∀ s ∈ names, s.size ≤ 140737488351232) {W : World} {v : Value} (i0 : Go.AI.Sym) (hR : @R i0 β0 (Go.AI.ok0 W) W 0 (.fsl false 1 (names.map strRow)) v) :
  Calls Tryz.prog 5 #[v] W fun e W' => e = .returned (.bool true) ∧ RowKit.Below W.heap.size W W' :=
 law_calls5 (tgt_ok names) hlen hsz (tgt_find names) (@fsl_inst sym0 i0 (symT (tgtOf names)) _ _ _ _ _ _ hR)
end Go.Proofs.GD
