/- What all the marks say. -/
import Derived.Test.YtdakclpneghkmaaGreatDoorSy
namespace Go.Proofs.GD
set_option linter.unusedSectionVars false
variable [Go.AI.Sym]
open Go Go.AI Go.RowKit
set_option maxRecDepth 100000
def byT (tgt : ByteArray) (i : Nat) : UInt8 := tgt.data.getD i 0
def PT (tgt : ByteArray) (k : Nat) (v : Value) : Prop :=
 (∃ s, v = .string s ∧ ((k = 0 ∧ nameB s = true) ∨ (k = 1 ∧ nameB s = false) ∨ (k = 2 ∧ nameB s = true ∧ cmpB s elB = -1) ∨ (k = 3 ∧ nameB s = true ∧ cmpB s elB = 1) ∨
  (16 ≤ k ∧ k < 32 ∧ walkS none s = (k : Int) - 16) ∨ (32 ≤ k ∧ k < 48 ∧ walkS (some (partsB tgt)) s = (k : Int) - 32) ∨ (48 ≤ k ∧ k < 64 ∧ spE s = (k : Int) - 48) ∨ (k = 64 ∧ s = tgt))) ∨
 (k = 70 ∧ v = .int .i64 tgt.size) ∨ (k = 71 ∧ v = .int .u8 tgt.size) ∨ ∃ i, i < 64 ∧ k = 100 + i ∧ v = .int .u8 (bif Nat.blt i tgt.size then (byT tgt i).toNat else 0)
theorem PT_one {tgt : ByteArray} {k : Nat} {v : Value} (h : PT tgt k v) : v.oneCell' = true := by
 rcases h with ⟨s, rfl, _⟩ | ⟨_, rfl⟩ | ⟨_, rfl⟩ | ⟨i, _, _, rfl⟩ <;> rfl
structure Mk (tgt : ByteArray) : Prop where
 mean : ∀ k v, Sym.P k v ↔ PT tgt k v
 ok : spE tgt = 0
variable {tgt : ByteArray}
theorem PT_str {k : Nat} {v : Value} (hk : k ≤ 64) (h : PT tgt k v) : ∃ s, v = .string s ∧ ((k = 0 ∧ nameB s = true) ∨ (k = 1 ∧ nameB s = false) ∨ (k = 2 ∧ nameB s = true ∧ cmpB s elB = -1) ∨ (k = 3 ∧ nameB s = true ∧ cmpB s elB = 1) ∨
  (16 ≤ k ∧ k < 32 ∧ walkS none s = (k : Int) - 16) ∨ (32 ≤ k ∧ k < 48 ∧ walkS (some (partsB tgt)) s = (k : Int) - 32) ∨ (48 ≤ k ∧ k < 64 ∧ spE s = (k : Int) - 48) ∨ (k = 64 ∧ s = tgt)) := by
 rcases h with h | ⟨h, _⟩ | ⟨h, _⟩ | ⟨i, _, h, _⟩
 ·exact h
 all_goals exfalso; omega
theorem Mk.marks (hM : Mk tgt) : Marks where
 yes := fun v h => by
  obtain ⟨s, rfl, g⟩ := PT_str (by decide) ((hM.mean 0 v).1 h)
  refine ⟨s, rfl, ?_⟩
  rcases g with h | h | h | h | h | h | h | h
  ·exact h.2
  all_goals exfalso; omega
 no := fun v h => by
  obtain ⟨s, rfl, g⟩ := PT_str (by decide) ((hM.mean 1 v).1 h)
  refine ⟨s, rfl, ?_⟩
  rcases g with h | h | h | h | h | h | h | h
  ·exfalso; omega
  ·exact h.2
  all_goals exfalso; omega
theorem Mk.put (hM : Mk tgt) (ps : List ByteArray) : Marked ps := fun p _ _ _ => by
 rw [hM.mean]
 refine .inl ⟨p, rfl, ?_⟩
 by_cases h : nameB p = true
 ·rw [if_pos h]; exact .inl ⟨rfl, h⟩
 ·rw [if_neg h]; exact .inr (.inl ⟨rfl, by simpa using h⟩)
theorem Mk.marksB (hM : Mk tgt) : MarksB where
 name := fun k b hb v h => by
  have hk : (k = 0 ∧ b = true) ∨ (k = 1 ∧ b = false) ∨ (k = 2 ∧ b = true) ∨ (k = 3 ∧ b = true) := by
   unfold mkB at hb
   split at hb <;> cases hb <;> simp
  obtain ⟨s, rfl, g⟩ := PT_str (by omega) ((hM.mean k v).1 h)
  refine ⟨s, rfl, ?_⟩
  rcases hk with ⟨rfl, rfl⟩ | ⟨rfl, rfl⟩ | ⟨rfl, rfl⟩ | ⟨rfl, rfl⟩ <;> (rcases g with h | h | h | h | h | h | h | h) <;> first | exact h.2 | exact h.2.1 | (exfalso; omega)
 cmp := fun k c hc v h => by
  have hk : (k = 2 ∧ c = -1) ∨ (k = 3 ∧ c = 1) := by
   unfold mkC at hc
   split at hc <;> cases hc <;> simp
  obtain ⟨s, rfl, g⟩ := PT_str (by omega) ((hM.mean k v).1 h)
  refine ⟨s, rfl, ?_⟩
  rcases hk with ⟨rfl, rfl⟩ | ⟨rfl, rfl⟩ <;> (rcases g with h | h | h | h | h | h | h | h) <;> first | exact h.2.2 | (exfalso; omega)
theorem Mk.putB (hM : Mk tgt) (p : ByteArray) (hp : ¬ p = elB) : Sym.P (mkOf p) (.string p) := by
 rw [hM.mean]
 refine .inl ⟨p, rfl, ?_⟩
 unfold mkOf
 by_cases h : nameB p = true
 ·rw [if_pos h]
  by_cases h2 : cmpB p elB = -1
  ·rw [if_pos h2]; exact .inr (.inr (.inl ⟨rfl, h, h2⟩))
  ·rw [if_neg h2]
   refine .inr (.inr (.inr (.inl ⟨rfl, h, ?_⟩)))
   unfold cmpB at h2 ⊢
   by_cases h3 : Op.bytesLess p.toList elB.toList = true
   ·rw [if_pos h3] at h2; exact absurd rfl h2
   ·rw [if_neg h3, if_neg hp]
 ·rw [if_neg h]; exact .inr (.inl ⟨rfl, by simpa using h⟩)
theorem Mk.marksS (hM : Mk tgt) : MarksS where
 at_ := fun k e he v h => by
  have hk : (k = 48 ∧ e = 0) ∨ (k = 50 ∧ e = 2) ∨ (k = 51 ∧ e = 3) ∨ (k = 64 ∧ e = 0) := by
   unfold mkE at he
   split at he <;> cases he <;> simp
  obtain ⟨s, rfl, g⟩ := PT_str (by omega) ((hM.mean k v).1 h)
  refine ⟨s, rfl, ?_⟩
  rcases g with h | h | h | h | h | h | h | h
  all_goals first | (exfalso; omega) | skip
  ·rw [h.2.2]; omega
  ·rw [h.2, hM.ok]; omega
theorem Mk.marksL (hM : Mk tgt) : MarksL tgt.size (byT tgt) where
 size := fun v => by
  rw [hM.mean]
  refine ⟨fun h => ?_, fun h => .inr (.inl ⟨rfl, h⟩)⟩
  rcases h with ⟨s, rfl, h⟩ | ⟨_, h⟩ | ⟨h, _⟩ | ⟨i, _, h, _⟩
  ·exfalso; omega
  ·exact h
  all_goals exfalso; omega
 sizeB := fun v => by
  rw [hM.mean]
  refine ⟨fun h => ?_, fun h => .inr (.inr (.inl ⟨rfl, h⟩))⟩
  rcases h with ⟨s, rfl, h⟩ | ⟨h, _⟩ | ⟨_, h⟩ | ⟨i, _, h, _⟩
  ·exfalso; omega
  ·exfalso; omega
  ·exact h
  ·exfalso; omega
 byte := fun i hi v => by
  rw [hM.mean]
  refine ⟨fun h => ?_, fun h => .inr (.inr (.inr ⟨i, hi, rfl, h⟩))⟩
  rcases h with ⟨s, rfl, h⟩ | ⟨h, _⟩ | ⟨h, _⟩ | ⟨j, _, h, h2⟩
  ·exfalso; omega
  ·exfalso; omega
  ·exfalso; omega
  ·have : j = i := by omega
   subst this; exact h2
theorem Mk.walkA (hM : Mk tgt) {k : Nat} (hk : 16 ≤ k ∧ k < 32) {v : Value} (h : Sym.P k v) : ∃ s, v = .string s ∧ walkS none s = (k : Int) - 16 := by
 obtain ⟨s, rfl, g⟩ := PT_str (by omega) ((hM.mean k v).1 h)
 refine ⟨s, rfl, ?_⟩
 rcases g with h | h | h | h | h | h | h | h
 all_goals first | (exfalso; omega) | exact h.2.2
theorem Mk.walkB (hM : Mk tgt) {k : Nat} (hk : 32 ≤ k ∧ k < 48) {v : Value} (h : Sym.P k v) : ∃ s, v = .string s ∧ walkS (some (partsB tgt)) s = (k : Int) - 32 := by
 obtain ⟨s, rfl, g⟩ := PT_str (by omega) ((hM.mean k v).1 h)
 refine ⟨s, rfl, ?_⟩
 rcases g with h | h | h | h | h | h | h | h
 all_goals first | (exfalso; omega) | exact h.2.2
theorem Mk.ofA (hM : Mk tgt) {s : ByteArray} {e : Nat} (he : e < 16) (h : walkS none s = e) : Sym.P (16 + e) (.string s) := by
 rw [hM.mean]
 exact .inl ⟨s, rfl, .inr (.inr (.inr (.inr (.inl ⟨by omega, by omega, by rw [h]; omega⟩))))⟩
theorem Mk.ofB (hM : Mk tgt) {s : ByteArray} {e : Nat} (he : e < 16) (h : walkS (some (partsB tgt)) s = e) : Sym.P (32 + e) (.string s) := by
 rw [hM.mean]
 exact .inl ⟨s, rfl, .inr (.inr (.inr (.inr (.inr (.inl ⟨by omega, by omega, by rw [h]; omega⟩)))))⟩
theorem Mk.ofS (hM : Mk tgt) {s : ByteArray} {e : Nat} (he : e < 16) (h : spE s = e) : Sym.P (48 + e) (.string s) := by
 rw [hM.mean]
 exact .inl ⟨s, rfl, .inr (.inr (.inr (.inr (.inr (.inr (.inl ⟨by omega, by omega, by rw [h]; omega⟩))))))⟩
theorem Mk.ofT (hM : Mk tgt) : Sym.P 64 (.string tgt) := by
 rw [hM.mean]
 exact .inl ⟨tgt, rfl, .inr (.inr (.inr (.inr (.inr (.inr (.inr ⟨rfl, rfl⟩))))))⟩
theorem Mk.isT (hM : Mk tgt) {v : Value} (h : Sym.P 64 v) : v = .string tgt := by
 obtain ⟨s, rfl, g⟩ := PT_str (by omega) ((hM.mean 64 v).1 h)
 rcases g with h | h | h | h | h | h | h | h
 all_goals first | (exfalso; omega) | rw [h.2]
theorem Mk.isS (hM : Mk tgt) {v : Value} (h : Sym.P 48 v) : ∃ s, v = .string s ∧ spE s = 0 := by
 obtain ⟨s, rfl, g⟩ := PT_str (by omega) ((hM.mean 48 v).1 h)
 refine ⟨s, rfl, ?_⟩
 rcases g with h | h | h | h | h | h | h | h
 all_goals first | (exfalso; omega) | skip
 rw [h.2.2]; omega
end Go.Proofs.GD
/- Ask, for any string, in both phases: contracts. -/
namespace Go.Proofs.GD
set_option linter.unusedSectionVars false
variable [Go.AI.Sym]
open Go Go.AI Go.RowKit
set_option maxRecDepth 100000
set_option maxHeartbeats 1000000
theorem walkS_cases (more : Option (List ByteArray)) (s : ByteArray) : (∃ e, (e = 2 ∨ e = 3) ∧ splitR s = .v (.tuple #[.bool false, .slice none 0 0, .int .i64 e]) ∧ walkS more s = e) ∨
  (∃ b, splitR s = .v (.tuple #[.bool b, .slice none 0 0, .int .i64 0]) ∧ partsB s = [] ∧ walkS more s = 0) ∨ (∃ b, splitR s = .tup [.v (.bool b), .fsl true 1 ((partsB s).map strRow), .v (.int .i64 0)] ∧ partsB s ≠ [] ∧ walkS more s = walkF more 8 (partsB s)) := by
 rcases split_is s with ⟨e, he, hs⟩ | ⟨b, hs, hp⟩ | ⟨b, hs, hp⟩
 ·refine .inl ⟨e, he, hs, ?_⟩
  unfold walkS
  rw [hs]
  rcases he with rfl | rfl <;> rfl
 ·refine .inr (.inl ⟨b, hs, hp, ?_⟩)
  unfold walkS
  rw [hs]
  rfl
 ·refine .inr (.inr ⟨b, hs, hp, ?_⟩)
  unfold walkS
  rw [hs]
theorem walkF_vals (more : Option (List ByteArray)) : ∀ (n : Nat) (l : List ByteArray), walkF more n l = 0 ∨ walkF more n l = 3 ∨ walkF more n l = 4 ∨ (walkF more n l = 14 ∧ more.isSome = true)
 | n, [] => .inl walkF_nil
 | n, p :: l => by
  by_cases hd : p = dotB ∨ p = dotsB
  ·rw [walkF_dot hd]; exact walkF_vals more n l
  ·by_cases h2 : p = elB ∧ more.isSome = true
   ·obtain ⟨m, rfl⟩ := Option.isSome_iff_exists.1 h2.2
    cases n with
    | zero => rw [walkF_out hd h2.1]; exact .inr (.inr (.inr ⟨rfl, rfl⟩))
    | succ n => rw [walkF_link hd h2.1]; exact walkF_vals (some m) n (m ++ l)
   ·rw [walkF_no hd h2]
    split
    ·exact .inr (.inr (.inl rfl))
    ·exact .inr (.inl rfl)
termination_by n l => (n, l.length)
theorem walkS_vals (more : Option (List ByteArray)) (s : ByteArray) : walkS more s = 0 ∨ walkS more s = 2 ∨ walkS more s = 3 ∨ walkS more s = 4 ∨ (walkS more s = 14 ∧ more.isSome = true) := by
 rcases walkS_cases more s with ⟨e, he, _, h⟩ | ⟨_, _, _, h⟩ | ⟨_, _, _, h⟩
 ·rw [h]; rcases he with rfl | rfl <;> simp
 ·rw [h]; simp
 ·rw [h]
  rcases walkF_vals more 8 (partsB s) with h | h | h | h
  ·exact .inl h
  ·exact .inr (.inr (.inl h))
  ·exact .inr (.inr (.inr (.inl h)))
  ·exact .inr (.inr (.inr (.inr h)))
variable {tgt : ByteArray} {bx : Nat → LO}
theorem rest_n {s : ByteArray} (h : partsB s = []) : restA s = .v (.slice none 0 0) := if_pos h
theorem rest_p {s : ByteArray} (h : partsB s ≠ []) : restA s = psA (partsB s) := if_neg h
theorem w173A (hM : Mk tgt) (hB : Bl 2822 bx) {s : ByteArray} {e : Int} (he : walkS none s = e) (hne : e ≠ 0) : InlOk Tryz.prog 173 (snapM (waA (.v (.string s))) 2822 (SC bx) (errA e) 2822 (SC bx)) := by
 rcases walkS_cases none s with ⟨e', h1, h2, h3⟩ | ⟨b, h1, h2, h3⟩ | ⟨b, h1, h2, h3⟩
 ·rw [h3] at he; subst he; exact w173s hB h1 h2
 ·exact absurd (h3.symm.trans he).symm hne
 ·rw [h3] at he
  have hI := w246 (bl_bx hB) hM.marks (hM.put (partsB s))
  rw [he] at hI
  refine w173r hB (rest_p h2).symm ⟨b, .inr ⟨h1, h2⟩⟩ ?_ hI
  rcases walkF_vals none 8 (partsB s) with h | h | h | h
  ·exact absurd (h.symm.trans he).symm hne
  ·right; left; omega
  ·right; right; left; omega
  ·cases h.2
theorem w173A0 (hM : Mk tgt) (hB : Bl 2822 bx) {s : ByteArray} (he : walkS none s = 0) : InlOk Tryz.prog 173 (snapM (waA (.v (.string s))) 2822 (SC bx) (.tup [.osl 2828 1 0 1 1, .v (.int .i64 0)]) 2829 (addB S7 bx)) := by
 rcases walkS_cases none s with ⟨e', h1, h2, h3⟩ | ⟨b, h1, h2, h3⟩ | ⟨b, h1, h2, h3⟩
 ·rw [he] at h3; rcases h1 with rfl | rfl <;> cases h3
 ·exact w173o hB (rest_n h2).symm ⟨b, .inl ⟨h1, h2⟩⟩ (w246n (bl_bx hB))
 ·have hI := w246 (bl_bx hB) hM.marks (hM.put (partsB s))
  rw [← h3, he] at hI
  exact w173o hB (rest_p h2).symm ⟨b, .inr ⟨h1, h2⟩⟩ hI
theorem Mk.lk (hM : Mk tgt) (hT : ∀ z, 1 ≤ z → z ≤ 64 → RunT z) (hs : strZ tgt.size (byT tgt) = tgt) (h1 : 1 ≤ tgt.size) : LkOk tgt.size (byT tgt) tgt := ⟨hM.marksL, hT _ h1 (spE_size hM.ok), hs, hM.ok⟩
theorem parts_len {s : ByteArray} (h : s.size ≤ 64) : (partsB s).length ≤ 1000 := by have := tR_len s h; omega
theorem split_size {s : ByteArray} {b : Bool} {y : AVal} (h : splitR s = .tup [.v (.bool b), y, .v (.int .i64 0)]) : s.size ≤ 64 := by
 rcases Nat.lt_or_ge 64 s.size with h1 | h1
 ·unfold splitR at h; rw [if_pos h1] at h; cases h
 ·exact h1
theorem w173B (hM : Mk tgt) (hK : LkOk tgt.size (byT tgt) tgt) (hB : Bl 2822 bx) {s : ByteArray} {e : Int} (he : walkS (some (partsB tgt)) s = e) (hne : e ≠ 0) : InlOk Tryz.prog 173 (snapM (waA (.v (.string s))) 2822 (PB.SC bx) (errA e) 2822 (PB.SC bx)) := by
 rcases walkS_cases (some (partsB tgt)) s with ⟨e', h1, h2, h3⟩ | ⟨b, h1, h2, h3⟩ | ⟨b, h1, h2, h3⟩
 ·rw [h3] at he; subst he; exact PB.w173s hB h1 h2
 ·exact absurd (h3.symm.trans he).symm hne
 ·rw [h3] at he
  have hI := w246B hB hM.marksB hM.putB hK (parts_len (split_size h1))
  rw [he, ← PB.sb_is, ← PB.se_is] at hI
  refine PB.w173r hB (rest_p h2).symm ⟨b, .inr ⟨h1, h2⟩⟩ ?_ hI
  rcases walkF_vals (some (partsB tgt)) 8 (partsB s) with h | h | h | h
  ·exact absurd (h.symm.trans he).symm hne
  ·right; left; omega
  ·right; right; left; omega
  ·right; right; right; omega
theorem w173B0 (hM : Mk tgt) (hK : LkOk tgt.size (byT tgt) tgt) (hB : Bl 2822 bx) {s : ByteArray} (he : walkS (some (partsB tgt)) s = 0) : InlOk Tryz.prog 173 (snapM (waA (.v (.string s))) 2822 (PB.SC bx) (.tup [.osl 2828 1 0 1 1, .v (.int .i64 0)]) 2829 (addB PB.S7 bx)) := by
 rcases walkS_cases (some (partsB tgt)) s with ⟨e', h1, h2, h3⟩ | ⟨b, h1, h2, h3⟩ | ⟨b, h1, h2, h3⟩
 ·rw [he] at h3; rcases h1 with rfl | rfl <;> cases h3
 ·have hI := w246Bn (bx := bx)
  rw [← PB.sb_is, ← PB.se_is] at hI
  exact PB.w173o hB (rest_n h2).symm ⟨b, .inl ⟨h1, h2⟩⟩ hI
 ·have hI := w246B hB hM.marksB hM.putB hK (parts_len (split_size h1))
  rw [← h3, he, ← PB.sb_is, ← PB.se_is] at hI
  exact PB.w173o hB (rest_p h2).symm ⟨b, .inr ⟨h1, h2⟩⟩ hI
end Go.Proofs.GD
/- Ask's calls in the law, for any string: contracts. -/
namespace Go.Proofs.GD
set_option linter.unusedSectionVars false
variable [Go.AI.Sym]
open Go Go.AI Go.RowKit
set_option maxRecDepth 100000
set_option maxHeartbeats 1000000
theorem q173 : tab4.rdf 173 = false := by kernel_rfl
theorem q65 : tab4.rdf 65 = false := by kernel_rfl
variable {tgt : ByteArray}
theorem wa_mark {k n n' : Nat} {l l' : LS} {r : AVal} (h : ∀ x, Sym.P k x → InlOk Tryz.prog 173 (snapM (waA (.v x)) n l r n' l')) : InlOk Tryz.prog 173 (snapM (waA (.str k)) n l r n' l') :=
 snap_mark (pre := [kA, .v (.slice none 0 0), crA, cwA]) (post := [.v (.bool true)]) h
theorem tE (hM : Mk tgt) {num : Int} {e : Nat} (he : e < 16) (hne : e ≠ 0) : TabV Tryz.prog tab4 (catE num (16 + e) e) := hT4.add q173 (wa_mark fun x hx => by
 obtain ⟨s, rfl, h⟩ := hM.walkA ⟨by omega, by omega⟩ hx
 exact w173A hM bW_ok (by rw [h]; omega) (by omega))
theorem tO (hM : Mk tgt) {num : Int} : TabV Tryz.prog tab4 (catO num 16) := hT4.add q173 (wa_mark fun x hx => by
 obtain ⟨s, rfl, h⟩ := hM.walkA ⟨by omega, by omega⟩ hx
 exact w173A0 hM bW_ok (by rw [h]; rfl))
theorem tEB (hM : Mk tgt) (hK : LkOk tgt.size (byT tgt) tgt) {num : Int} {e : Nat} (he : e < 16) (hne : e ≠ 0) : TabV Tryz.prog tab4 (PB.catE num (32 + e) e) := hT4.add q173 (wa_mark fun x hx => by
 obtain ⟨s, rfl, h⟩ := hM.walkB ⟨by omega, by omega⟩ hx
 exact w173B hM hK bW_ok (by rw [h]; omega) (by omega))
theorem tOB (hM : Mk tgt) (hK : LkOk tgt.size (byT tgt) tgt) {num : Int} : TabV Tryz.prog tab4 (PB.catO num 32) := hT4.add q173 (wa_mark fun x hx => by
 obtain ⟨s, rfl, h⟩ := hM.walkB ⟨by omega, by omega⟩ hx
 exact w173B0 hM hK bW_ok (by rw [h]; rfl))
def Asks (a : Row) (l l' : LS) : Prop := ∃ n' mv, InlOk Tryz.prog 8 (snapM a 2806 l .junk n' (l'.map (mvP (gOf mv)))) ∧ keyB 2806 mv = true ∧ okLS n' (l'.map (mvP (gOf mv))) = true ∧ ((l'.map (mvP (gOf mv))).map Prod.fst).Nodup ∧ gOf mv 1532 = 1532
def chV (s : ByteArray) : Row := [kP, .v (.int .i64 1), .v (.agg #[.int .i64 33, .int .i64 0, .int .i64 0, .int .i64 0, .string s, .string ⟨#[]⟩, .slice none 0 0])]
def syV (s : ByteArray) : Row := [kP, .v (.int .i64 1), .v (.agg #[.int .i64 16, .int .i64 0, .int .i64 0, .int .i64 0, .string ⟨#[108]⟩, .string s, .slice none 0 0])]
theorem lss_ch {k : Nat} {s : ByteArray} (h : Sym.P k (.string s)) : ∀ (j : Nat) x y, (chV s)[j]? = some x → (chA (.str k))[j]? = some y → Lss x y := fun j x y hx hy => by
 match j, hx, hy with
 | 0, hx, hy => cases hx; cases hy; exact @Lss.refl _ _
 | 1, hx, hy => cases hx; cases hy; exact @Lss.refl _ _
 | 2, hx, hy =>
  cases hx; cases hy
  intro β ok w n v _ hr
  rw [hr.v_inv]
  refine .agg rfl fun j a ha => ?_
  match j, ha with
  | 0, ha => cases ha; exact .v
  | 1, ha => cases ha; exact .v
  | 2, ha => cases ha; exact .v
  | 3, ha => cases ha; exact .v
  | 4, ha => cases ha; exact .str h
  | 5, ha => cases ha; exact .v
  | 6, ha => cases ha; exact .v
theorem lss_sy {k : Nat} {s : ByteArray} (h : Sym.P k (.string s)) : ∀ (j : Nat) x y, (syV s)[j]? = some x → (syA (.str k))[j]? = some y → Lss x y := fun j x y hx hy => by
 match j, hx, hy with
 | 0, hx, hy => cases hx; cases hy; exact @Lss.refl _ _
 | 1, hx, hy => cases hx; cases hy; exact @Lss.refl _ _
 | 2, hx, hy =>
  cases hx; cases hy
  intro β ok w n v _ hr
  rw [hr.v_inv]
  refine .agg rfl fun j a ha => ?_
  match j, ha with
  | 0, ha => cases ha; exact .v
  | 1, ha => cases ha; exact .v
  | 2, ha => cases ha; exact .v
  | 3, ha => cases ha; exact .v
  | 4, ha => cases ha; exact .v
  | 5, ha => cases ha; exact .str h
  | 6, ha => cases ha; exact .v
theorem ok_SA : okLS 2806 SA = true := by kernel_rfl
theorem ok_SAB : okLS 2806 SAB = true := by kernel_rfl
theorem low_SA : lowM 2806 SA = true := by kernel_rfl
theorem low_SAB : lowM 2806 SAB = true := by kernel_rfl
theorem nodupB {l : List Nat} (h : decide l.Nodup = true) : l.Nodup := of_decide_eq_true h
theorem sa_nil : SA.map (mvP (gOf [])) = SA := by kernel_rfl
theorem sab_nil : SAB.map (mvP (gOf [])) = SAB := by kernel_rfl
theorem asks0 {a : Row} {n' : Nat} (h : InlOk Tryz.prog 8 (snapM a 2806 SA .junk n' SA)) (hok : okLS n' SA = true) : Asks a SA SA := ⟨n', [], by rw [sa_nil]; exact h, rfl, by rw [sa_nil]; exact hok, by rw [sa_nil]; exact nodupB (by kernel_rfl), rfl⟩
theorem asks0B {a : Row} {n' : Nat} (h : InlOk Tryz.prog 8 (snapM a 2806 SAB .junk n' SAB)) (hok : okLS n' SAB = true) : Asks a SAB SAB := ⟨n', [], by rw [sab_nil]; exact h, rfl, by rw [sab_nil]; exact hok, by rw [sab_nil]; exact nodupB (by kernel_rfl), rfl⟩
theorem ask_ch (hM : Mk tgt) (s : ByteArray) : Asks (chV s) SA SA := by
 rcases walkS_vals none s with h | h | h | h | h
 ·exact ⟨2841, mvC0, (snapJ (tO hM) ok_SA ch_0).more rfl (lss_ch (hM.ofA (e := 0) (by decide) h)), by decide, by kernel_rfl, nodupB (by kernel_rfl), rfl⟩
 ·exact asks0 ((snapJ (tE hM (e := 2) (by decide) (by decide)) ok_SA ch_2).more rfl (lss_ch (hM.ofA (e := 2) (by decide) h))) (by kernel_rfl)
 ·exact asks0 ((snapJ (tE hM (e := 3) (by decide) (by decide)) ok_SA ch_3).more rfl (lss_ch (hM.ofA (e := 3) (by decide) h))) (by kernel_rfl)
 ·exact asks0 ((snapJ (tE hM (e := 4) (by decide) (by decide)) ok_SA ch_4).more rfl (lss_ch (hM.ofA (e := 4) (by decide) h))) (by kernel_rfl)
 ·cases h.2
theorem ask_chB (hM : Mk tgt) (hK : LkOk tgt.size (byT tgt) tgt) (s : ByteArray) : Asks (chV s) SAB SAB := by
 rcases walkS_vals (some (partsB tgt)) s with h | h | h | h | h
 ·exact ⟨2841, mvC0, (snapJ (tOB hM hK) ok_SAB PB.ch_0).more rfl (lss_ch (hM.ofB (e := 0) (by decide) h)), by decide, by kernel_rfl, nodupB (by kernel_rfl), rfl⟩
 ·exact asks0B ((snapJ (tEB hM hK (e := 2) (by decide) (by decide)) ok_SAB PB.ch_2).more rfl (lss_ch (hM.ofB (e := 2) (by decide) h))) (by kernel_rfl)
 ·exact asks0B ((snapJ (tEB hM hK (e := 3) (by decide) (by decide)) ok_SAB PB.ch_3).more rfl (lss_ch (hM.ofB (e := 3) (by decide) h))) (by kernel_rfl)
 ·exact asks0B ((snapJ (tEB hM hK (e := 4) (by decide) (by decide)) ok_SAB PB.ch_4).more rfl (lss_ch (hM.ofB (e := 4) (by decide) h))) (by kernel_rfl)
 ·exact asks0B ((snapJ (tEB hM hK (e := 14) (by decide) (by decide)) ok_SAB PB.ch_14).more rfl (lss_ch (hM.ofB (e := 14) (by decide) h.1))) (by kernel_rfl)
end Go.Proofs.GD
