/- Two memories: calls on one of them. Two memories: their spaces' making; what is compared. The statement TopMemSteps. Triples, read. -/
import Derived.Test.YtibpipgabcpaoaaVmC
import Derived.Test.YtibpipgabcpaoaaGC
import Derived.KernelRfl
namespace Go.Proofs.Ytibpipgabcpaoaa
open Go.AI
set_option linter.unusedSimpArgs false
set_option linter.unusedVariables false
section
set_option linter.unusedSimpArgs false
set_option linter.unusedVariables false
noncomputable def kA : Row → Heap → Nat → Bool
 | [.ptr mid 5 0 0, .v (.int .i64 _), .v (.int .i64 _), .osl id _ _ _ _], H => keepS mid (some id) H
 | .ptr mid 5 0 0 :: _, H => keepS mid none H
 | [.v _, .ifc _ (.agg [.ptr mid 5 0 0, _])], H => keepS mid none H
 | _, _ => fun _ => true
noncomputable def hd (F : Row → Heap → Option (AVal × Heap)) := hidF kA F
theorem hd_ok {f : FuncId} {F : Row → Heap → Option (AVal × Heap)} (h : InlOk Try.prog f F) : InlOk Try.prog f (hd F) := hid_ok h
def Oth (H H' : Heap) : Prop := ∀ (i : Nat) (q : Nat × List Row), H[i]? = some (some q) → q.1 ≠ 0 → q.1 ≠ 1 → q.1 ≠ 5 → q.1 ≠ 19 → H'[i]? = some (some q)
theorem Oth.trans {H H1 H2 : Heap} (a : Oth H H1) (b : Oth H1 H2) : Oth H H2 := fun i q h h0 h1 h5 h19 => b i q (a i q h h0 h1 h5 h19) h0 h1 h5 h19
theorem Oth.app {H K : Heap} : Oth H (H ++ K) := fun i q h _ _ _ _ => by rw [List.getElem?_append_left (List.getElem?_eq_some_iff.1 h).1]; exact h
theorem hop {m1 m2 : Nat} {x : Option Nat} {H H' : Heap} {A A' B : Ab} {F : Row → Heap → Option (AVal × Heap)} {args : Row} {r : AVal} (hK : kA args H = keepS m1 x H) (h : Two m1 m2 H A B) (hx : ∀ i, x = some i → ¬ fpP m2 B i)
  (hx2 : ∀ i, x = some i → ∃ q, H[i]? = some (some q) ∧ q.1 = 1)
  (hF : F args (hideH (keepS m1 x H) H) = some (r, H')) (hr : bareA r = true) (h' : RG m1 (H', A')) (kn : KN (hideH (keepS m1 x H) H) H') :
  hd F args H = some (r, showH (keepS m1 x H) H H') ∧ Two m1 m2 (showH (keepS m1 x H) H H') A' B ∧ Oth H (showH (keepS m1 x H) H H') := by
 refine ⟨?_, hid_two h hx h' kn, fun i q hq h0 h1 h5 h19 => ?_⟩
 ·have := hid_ev (K := kA) (F := F) (args := args) (H := H) (H' := H') (r := r) (by rw [hK]; exact hF) hr
  rw [hK] at this
  exact this
 ·have hlt := (List.getElem?_eq_some_iff.1 hq).1
  have hnf : ¬ (fpP m1 A i ∨ x = some i) := by
   rintro (hf | hf)
   ·have := fp_size h.a hf hq; omega
   ·obtain ⟨q', hq', hq1⟩ := hx2 i hf
    rw [hq] at hq'; cases hq'; exact h1 hq1
  have hk : keepS m1 x H i = false := by
   cases e : keepS m1 x H i with
   | false => rfl
   | true => exact absurd ((keepS_t h.a).1 e) hnf
  have hn := kn i ⟨none, fun q h => by cases h⟩ (hideH_no hk hlt)
  rw [showH_get, hn, hq]
  simp [hk]
theorem hid_keep {m1 m2 i : Nat} {H H' : Heap} {A B : Ab} {o : Option (Nat × List Row)} (h : Two m1 m2 H A B) (kn : KN (hideH (keepS m1 none H) H) H') (hf : ¬ fpP m1 A i) (hi : H[i]? = some o) : (showH (keepS m1 none H) H H')[i]? = some o := by
 have hlt := (List.getElem?_eq_some_iff.1 hi).1
 have hk : keepS m1 none H i = false := by
  cases e : keepS m1 none H i with
  | false => rfl
  | true =>
   rcases (keepS_t h.a).1 e with h2 | h2
   ·exact absurd h2 hf
   ·cases h2
 have hn := kn i ⟨none, fun q h => by cases h⟩ (hideH_no hk hlt)
 rw [showH_get, hn, hi]
 simp [hk]
theorem hide_two {m1 m2 : Nat} {H : Heap} {A B : Ab} (h : Two m1 m2 H A B) : RG m1 (hideH (keepS m1 none H) H, A) := hide_rg h.a
theorem bare_tup2 (a b : Value) : bareA (tupA [.v a, .v b]) = true := rfl
theorem h_step {m1 m2 c : Nat} {H : Heap} {A B : Ab} {s : Int} {g : Rg} (h : Two m1 m2 H A B) (hg : g.ok) (hs : has A s) (hc : Inv c A) :
  ∃ H' A', hd stepM [.v (.agg (rgA g)), busV m1 s] H = some (tupA [.v (.agg (rgA (stepV (vw A s) g).1)), .v (.agg (trA (stepV (vw A s) g).2.1.1 (stepV (vw A s) g).2.1.2))], H') ∧ Two m1 m2 H' A' B ∧ vw A' s = (stepV (vw A s) g).2.2 ∧ has A' s ∧ Inv c A' ∧ Oth H H' := by
 obtain ⟨H1, h1, A', r1, e1, v1, kn, i1⟩ := step_ev hg (hide_two h) hs hc
 obtain ⟨k1, k2, k3⟩ := hop (x := none) (by rfl) h (fun i e => by cases e) (fun i e => by cases e) h1 (bare_tup2 _ _) r1 kn
 exact ⟨_, A', k1, k2, v1, eff_has e1 hs, i1 c hc, k3⟩
theorem h_all {m1 m2 c : Nat} {H : Heap} {A B : Ab} {s : Int} (h : Two m1 m2 H A B) (hs : has A s) (hc : Inv c A) :
  ∃ r H' A', hd allM [.ptr m1 5 0 0, .v (.int .i64 s)] H = some (r, H') ∧ Two m1 m2 H' A' B ∧ vw A' s = vw A s ∧ has A' s ∧ Inv c A' ∧ Oth H H' ∧ IsL H.length H' r (seeV (vw A s)) ∧ (∀ i o, ¬ fpP m1 A i → H[i]? = some o → H'[i]? = some o) := by
 obtain ⟨r, H1, h1, ⟨L, lk, r1, kn⟩, hl⟩ := all_ev (hide_two h) hs
 have hb : bareA r = true := by
  rcases hl with ⟨rfl, _⟩ | ⟨n, rfl, _⟩ <;> rfl
 obtain ⟨k1, k2, k3⟩ := hop (x := none) (by rfl) h (fun i e => by cases e) (fun i e => by cases e) h1 hb r1 kn
 refine ⟨r, _, _, k1, k2, funext (vw_like lk s), has_like hs, hc.like lk, k3, ?_, fun i o hf hi => hid_keep h kn hf hi⟩
 rcases hl with hl | ⟨n, e1, e2, e3, e4⟩
 ·exact .inl hl
 ·rw [hideH_len] at e3
  refine .inr ⟨n, e1, ?_, e3, e4⟩
  rw [showH_get, e2, List.getElem?_eq_none e3]
  simp only [Option.map_some]
  rw [bareO_of]
  rw [List.all_eq_true]
  intro row hrow
  obtain ⟨z, _, rfl⟩ := List.mem_map.1 hrow
  rfl
theorem h_lay {m1 m2 c : Nat} {H : Heap} {A B : Ab} {s : Int} {o : Bool} {d : List Int} (h : Two m1 m2 H A B) (hs : has A s) (hc : Inv c A) (hd64 : d.length = 64) (hV : ∀ j, vw A s j = none) :
  ∃ H' A', hd layYM [.ptr m1 5 0 0, .v (.int .i64 s), .fsl o 1 (yR d)] H = some (.v (.bool true), H') ∧ Two m1 m2 H' A' B ∧ vw A' s = laidV d (vw A s) ∧ has A' s ∧ Inv c A' ∧ Oth H H' ∧ A'.lo.fr + A'.lo.sl = A.lo.fr + A.lo.sl := by
 obtain ⟨H1, h1, A', r1, e1, v1, kn, i1⟩ := layY_ev (o := o) (hide_two h) hs hc hd64 hV
 obtain ⟨k1, k2, k3⟩ := hop (x := none) (by rfl) h (fun i e => by cases e) (fun i e => by cases e) h1 rfl r1 kn
 exact ⟨_, A', k1, k2, v1, eff_has e1 hs, i1 c hc, k3, by rw [e1.fr, e1.sl]⟩
structure Side (m1 m2 : Nat) (H : Heap) (A B : Ab) (s : Int) (H' : Heap) (A' : Ab) : Prop where
 two : Two m1 m2 H' A' B
 v : vw A' s = vw A s
 has : Go.Proofs.Ytibpipgabcpaoaa.has A' s
 inv : Inv 8 A → Inv 8 A'
 oth : Oth H H'
theorem h_rec {m1 m2 : Nat} {H : Heap} {A B : Ab} {s n : Int} (h : Two m1 m2 H A B) (hs : has A s) : ∃ r H' A', hd recM [.ptr m1 5 0 0, .v (.int .i64 n)] H = some (r, H') ∧ Side m1 m2 H A B s H' A' := by
 obtain ⟨k, H1, L, h1, lk, r1, _, _, _⟩ := rec_ev (hide_two h) (n := n)
 obtain ⟨k1, k2, k3⟩ := hop (x := none) (by rfl) h (fun i e => by cases e) (fun i e => by cases e) h1 rfl r1 (kn_rec (hide_two h) h1)
 exact ⟨_, _, _, k1, k2, funext (vw_like lk s), has_like hs, fun i => i.like lk, k3⟩
theorem h_oth {m1 m2 : Nat} {H : Heap} {A B : Ab} {s k : Int} (h : Two m1 m2 H A B) (hs : has A s) : ∃ o H', hd othM [.ptr m1 5 0 0, .v (.int .i64 s), .v (.int .i64 k)] H = some (.v (.int .i64 o), H') ∧ Two m1 m2 H' A B ∧ Oth H H' ∧ (o = 0 ∨ has A o ∧ o ≠ s) := by
 obtain ⟨H1, o, h1, r1, kn, ho⟩ := oth_ev (hide_two h) (s := s) (k := k) hs
 obtain ⟨k1, k2, k3⟩ := hop (x := none) (by rfl) h (fun i e => by cases e) (fun i e => by cases e) h1 rfl r1 kn
 exact ⟨o, _, k1, k2, k3, ho⟩
theorem h_drop {m1 m2 : Nat} {H : Heap} {A B : Ab} {s o : Int} (h : Two m1 m2 H A B) (hs : has A s) (ho : o ≠ s) : ∃ r H' A', hd dropM [.ptr m1 5 0 0, .v (.int .i64 o)] H = some (r, H') ∧ Side m1 m2 H A B s H' A' := by
 obtain ⟨e, H1, A', h1, r1, f1, f2, hc⟩ := drop_ev (hide_two h) (s := o)
 obtain ⟨k1, k2, k3⟩ := hop (x := none) (by rfl) h (fun i e => by cases e) (fun i e => by cases e) h1 rfl r1 (kn_drop (hide_two h) h1)
 rcases hc with ⟨_, _, v1, ks⟩ | ⟨_, _, rfl⟩
 ·refine ⟨_, _, A', k1, k2, funext fun j => by rw [v1, if_neg (fun e => ho e.symm)], ?_, fun i => ⟨fun t k hk => ?_, ?_, by rw [f1, f2]; exact i.rm⟩, k3⟩
  ·unfold Go.Proofs.Ytibpipgabcpaoaa.has at hs ⊢
   rw [ks, getK_delK, if_neg (fun e => ho e.symm)]; exact hs
  ·rw [v1] at hk
   split at hk
   ·exact absurd rfl hk
   ·exact i.six t k hk
  ·rw [ks]
   exact Nat.le_trans (List.length_filter_le _ _) i.le
 ·exact ⟨_, _, _, k1, k2, rfl, hs, fun i => i, k3⟩
theorem h_fork {m1 m2 : Nat} {H : Heap} {A B : Ab} {s : Int} (h : Two m1 m2 H A B) (hs : has A s) (hl : A.sps.length < 8) : ∃ r H' A', hd forkM [.ptr m1 5 0 0, .v (.int .i64 s)] H = some (r, H') ∧ Side m1 m2 H A B s H' A' := by
 obtain ⟨to, e, H1, A', h1, r1, f1, f2, _, hc⟩ := fork_ev (hide_two h) (s := s)
 obtain ⟨k1, k2, k3⟩ := hop (x := none) (by rfl) h (fun i e => by cases e) (fun i e => by cases e) h1 rfl r1 (kn_fork (hide_two h) h1)
 rcases hc with ⟨_, _, hn, _, v1, ks⟩ | ⟨_, _, rfl, _⟩
 ·have hne : s ≠ to := fun e => hn (e ▸ hs)
  refine ⟨_, _, A', k1, k2, funext fun j => by rw [v1, if_neg hne], ?_, fun i => ⟨fun t k hk => ?_, ?_, by rw [f1, f2]; exact i.rm⟩, k3⟩
  ·rw [has_key] at hs ⊢
   rw [ks]; exact List.mem_append_left _ hs
  ·rw [v1] at hk
   split at hk
   ·exact i.six _ k hk
   ·exact i.six t k hk
  ·have := congrArg List.length ks
   simp at this
   omega
 ·exact ⟨_, _, _, k1, k2, rfl, hs, fun i => i, k3⟩
theorem h_spaces {m1 m2 : Nat} {H : Heap} {A B : Ab} {s : Int} (h : Two m1 m2 H A B) (hs : has A s) : ∃ n kc H', hd spacesM [.ptr m1 5 0 0] H = some (.osl n 1 0 A.sps.length kc, H') ∧ Two m1 m2 H' A B ∧ Oth H H' := by
 have hr := hide_two h
 obtain ⟨n, hn⟩ : ∃ n, A.sps.length = n + 1 := ⟨A.sps.length - 1, by
  have := List.length_pos_of_mem (has_key.1 hs)
  simp at this
  omega⟩
 have h1 : spacesM [.ptr m1 5 0 0] (hideH (keepS m1 none H) H) = some (outZ (hideH (keepS m1 none H) H).length A.sps.length, hideH (keepS m1 none H) H ++ none :: outZK (sortZ (A.sps.map (·.1))) A.sps.length) := by
  simp only [spacesM, rg_at hr, Option.map_some]
 rw [hn, outZ_s] at h1
 obtain ⟨k1, k2, k3⟩ := hop (x := none) (by rfl) h (fun i e => by cases e) (fun i e => by cases e) h1 rfl (rg_app hr) KN.app
 exact ⟨_, _, _, by rw [hn]; exact k1, k2, k3⟩
theorem h_write {m1 m2 q : Nat} {H : Heap} {A B : Ab} {s o a b : Int} (h : Two m1 m2 H A B) (hs : has A s) (ho : o ≠ s) (hw : IntKind.i64.wrap a = a) :
  ∃ r H' A', hd writeM [.ptr m1 5 0 0, .v (.int .i64 o), .v (.int .i64 a), .osl H.length 1 0 1 1] (H ++ [some (1, [[.v (.int .u8 b)]])]) = some (r, H') ∧ Side m1 m2 H A B s H' A' := by
 have h2 := h.app [some (1, [[.v (.int .u8 b)]])]
 have hq : (H ++ [some (1, [[AVal.v (.int .u8 b)]])])[H.length]? = some (some (1, [[.v (.int .u8 b)]])) := by simp
 obtain ⟨X, hX⟩ : ∃ x, H ++ [some (1, [[AVal.v (.int .u8 b)]])] = x := ⟨_, rfl⟩
 rw [hX] at h2 hq ⊢
 have hr : RG m1 (hideH (keepS m1 (some H.length) X) X, A) := hide_rg h2.a
 have hqh : (hideH (keepS m1 (some H.length) X) X)[H.length]? = some (some (1, yRow [b])) := hideH_yes ((keepS_t h2.a).2 (.inr rfl)) hq
 have hb : bytesAt (hideH (keepS m1 (some H.length) X) X) (.osl H.length 1 0 1 1) = some [b] := by
  simp only [bytesAt, hqh]
  have : (yRow [b]).mapM by1 = some [b] := by1_of [b]
  rw [this]; rfl
 have hnf : ∀ m A', RG m (H, A') → ¬ fpP m A' H.length := fun m A' hm hf => by
  obtain ⟨q, hq2, _⟩ := fp_live hm hf
  have := (List.getElem?_eq_some_iff.1 hq2).1
  omega
 have hap : apart A m1 (.osl H.length 1 0 1 1) := by
  show A.lo.cell m1 H.length = none
  cases e : A.lo.cell m1 H.length with
  | none => rfl
  | some z => exact absurd (.inl ⟨z, e⟩) (hnf m1 A h.a)
 have hev := write_eval (s := o) (rg_at hr) hb hw hap
 obtain ⟨e, H1, A', h1, r1, f1, hc⟩ := write_ev hr (s := o) (addr := a) (d := [b]) hw
 rw [h1] at hev
 obtain ⟨k1, k2, k3⟩ := hop (x := some H.length) (by rfl) h2 (fun i e => by cases e; exact hnf m2 B h.b) (fun i e => by cases e; exact ⟨_, hq, rfl⟩) hev rfl r1 (kn_write hr hw h1)
 have hoth : Oth H (showH (keepS m1 (some H.length) X) X H1) := by
  have h4 : Oth H X := by rw [← hX]; exact Oth.app
  exact h4.trans k3
 refine ⟨_, _, A', k1, k2, funext fun j => f1.ot s j (fun e => ho e.symm), eff_has f1 hs, fun i => ⟨fun t k hk => ?_, ?_, by rw [f1.fr, f1.sl]; exact i.rm⟩, hoth⟩
 ·by_cases ht : t = o
  ·subst ht
   rcases hc with ⟨_, _, _, _, v1⟩ | ⟨_, rfl, _⟩
   ·rw [v1] at hk
    exact i.six t k (fun e => hk (by rw [e]; rfl))
   ·exact i.six t k hk
  ·rw [f1.ot t k ht] at hk
   exact i.six t k hk
 ·have := congrArg List.length f1.ks
  simp only [List.length_map] at this
  rw [this]; exact i.le
end
section
theorem rg_eqTy (l : List Int) (p q : Int) : eqTy (List.replicate l.length 1 ++ [1, 1]) (l.map (Value.int .u32) ++ [.int .u32 p, .int .i64 q]) (l.map (Value.int .u32) ++ [.int .u32 p, .int .i64 q]) = some true := by
 induction l with
 | nil => simp [eqTy, eqC]
 | cons a l ih =>
  simp only [List.length_cons, List.replicate_succ, List.map_cons, List.cons_append, eqTy, eqC, if_true, ih]
  simp
theorem eqT37 : eqOkT Try.prog 37 = some [1, 1, 1, 1, 1, 1, 1, 1, 1, 1] := by kernel_rfl
theorem eqT47 : eqOkT Try.prog 47 = some [1, 1] := by kernel_rfl
theorem ne_regs {x y : Operand} {g : Rg} (h : g.r.length = 8) : aBin Try.prog .neq 37 x y (.v (.agg (rgA g))) (.v (.agg (rgA g))) = some (.v (.bool false)) := by
 have h1 := rg_eqTy g.r g.pc g.ring
 rw [h] at h1
 have h2 : eqTy [1, 1, 1, 1, 1, 1, 1, 1, 1, 1] (rgA g).toList (rgA g).toList = some true := by rw [rgA_list]; exact h1
 simp only [aBin, eqAgg, eqT37, h2]
 rfl
theorem ne_trap {x y : Operand} {k a : Int} : aBin Try.prog .neq 47 x y (.v (.agg #[.int .i64 k, .int .u32 a])) (.v (.agg #[.int .i64 k, .int .u32 a])) = some (.v (.bool false)) := by
 simp [aBin, eqAgg, eqT47, eqTy, eqC]
theorem h_make {m1 m2 : Nat} {H : Heap} {A B : Ab} (h : Two m1 m2 H A B) (h0 : A.sps = []) (hr : 8 ≤ A.lo.fr + A.lo.sl) :
  ∃ H' A', hd makeM [.ptr m1 5 0 0] H = some (.v (.tuple #[.int .i64 1, .int .i64 0]), H') ∧ Two m1 m2 H' A' B ∧ has A' 1 ∧ (∀ j, vw A' 1 j = none) ∧ Inv 1 A' ∧ A'.lo = A.lo ∧ Oth H H' := by
 obtain ⟨s, e, H1, A', h1, r1, hlo, hc⟩ := make_ev (hide_two h)
 have hf : freeF (A.sps.map (·.1)) 1 16 = some 1 := by rw [h0]; rfl
 rcases hc with ⟨rfl, hfr, _, hh, hv, hvo, hks⟩ | ⟨_, _, _, hfr⟩
 ·rw [hf] at hfr
  cases hfr
  obtain ⟨k1, k2, k3⟩ := hop (x := none) (by rfl) h (fun i e => by cases e) (fun i e => by cases e) h1 rfl r1 (kn_make (hide_two h) h1)
  refine ⟨_, A', k1, k2, hh, hv, ⟨fun t k hk => ?_, ?_, by rw [hlo]; simpa using hr⟩, hlo, k3⟩
  ·by_cases ht : t = 1
   ·subst ht; exact absurd (hv k) hk
   ·rw [hvo t k ht] at hk
    exact absurd (vw_no (by rw [h0]; rfl)) hk
  ·have := congrArg List.length hks
   rw [h0] at this
   simp at this
   omega
 ·rw [hf] at hfr; cases hfr
theorem two0 : ∃ H1, newM [.v (.int .i64 40), .v (.int .i64 0)] [] = some (.tup [.ptr 1 5 0 0, .v (.int .i64 0)], [some (0, []), some (5, [(newL 0 40 0).row])]) ∧ newM [.v (.int .i64 6), .v (.int .i64 60)] [some (0, []), some (5, [(newL 0 40 0).row])] = some (.tup [.ptr 3 5 0 0, .v (.int .i64 0)], H1) ∧
  Two 1 3 H1 ⟨newL 0 40 0, []⟩ ⟨newL 2 6 60, []⟩ := by
 have r1 : RG 1 (([] ++ [some (0, []), some (5, [(newL ([] : Heap).length 40 0).row])] : Heap), (⟨newL ([] : Heap).length 40 0, []⟩ : Ab)) := new_rep (H := []) (by decide)
 have r2 := new_rep (H := [some (0, []), some (5, [(newL 0 40 0).row])]) (frames := 6) (slots := 60) (by decide)
 refine ⟨_, rfl, rfl, rg_app (K := [some (0, []), some (5, [(newL 2 6 60).row])]) r1, r2, fun i h1 h2 => ?_⟩
 obtain ⟨q, hq, _⟩ := fp_live r1 h1
 have hlt := (List.getElem?_eq_some_iff.1 hq).1
 simp at hlt
 rcases h2 with ⟨x, hx⟩ | h2 | ⟨x, hx, _⟩
 ·unfold Lo.cell at hx
  split at hx
  ·omega
  ·split at hx
   ·rename_i h3; simp [newL] at h3
   ·simp [newL, getK] at hx
 ·simp [newL] at h2; omega
 ·simp at hx
theorem dec_isL {n0 : Nat} {H : Heap} {r : AVal} {l : List Int} (h : IsL n0 H r l) : (cSl (rI .u8)).dec (cold (view H 4 r)) = some l := by
 rcases h with ⟨rfl, rfl⟩ | ⟨n, rfl, h2, _, _⟩
 ·simp [view, cold, cSl, slDec]
 ·have ho : obj H n = some (1, yRow l) := by unfold obj; rw [h2]; rfl
  have hl : (yRow l).length = l.length := yRow_len l
  have hv : cold (view H 4 (.osl n 1 0 l.length l.length)) = .fsl false 1 (l.map (irow .u8)) := by
   have ho' : obj H n = some (1, l.map (irow .u8)) := ho
   simp [view, ho', cold, irow_viewc, irow_cold, List.take_of_length_le]
  rw [hv]
  exact mapM_dec (rI .u8) l
theorem IsL.keep {n0 : Nat} {H H' : Heap} {r : AVal} {l : List Int} (h : IsL n0 H r l) (hk : ∀ n, r = .osl n 1 0 l.length l.length → n0 ≤ n → H[n]? = some (some (1, yRow l)) → H'[n]? = some (some (1, yRow l))) : IsL n0 H' r l := by
 rcases h with h | ⟨n, h1, h2, h3, h4⟩
 ·exact .inl h
 ·exact .inr ⟨n, h1, hk n h1 h3 h2, h3, h4⟩
end
section
set_option maxHeartbeats 2000000
set_option maxRecDepth 100000
set_option linter.unusedSimpArgs false
set_option linter.unusedVariables false
attribute [local simp] wpA wpX RunA RunD runF foot footP footB idsA bare apart runL step1 gsel_f gsel_t gsel_s res_same res_and1 res_and2 res_and3 res_and4 res_and5 res_and6 res_false res_true res_v res_ptr res_fptr res_osl res_xsl soft aAppendZ aCap ovlI ovlJ res_fsl res_esl res_agg res_tup res_fn res_junk res_anyb aPick hk imp_left iteV dstOk guardOk astep astepE AI.ev AI.look AI.put envOf aBox cellsOf allOne allOneA oneA Value.oneCell' Value.cells newObj' aFieldAddr aLoad obj readAt thenA blockA condA retA resA tupA view hot hotC hotR depthV cAgg cInt cBool mkAgg allV aAlloc aBuild fillA writeAt aStore isAggA aField idx aIndexAddr aIndex bnd aSlice aExtract aLen aBuiltin aCall isStatic eqAgg eqTy eqC ev_add ev_sub ev_mul ev_quo ev_rem ev_and ev_or ev_xor ev_andNot ev_shl ev_shr ev_eql ev_neq ev_lss ev_leq ev_gtr ev_geq ev_agg w64 wu32 wu8 ev_not ev_neg Cod.plain RCod.plain argM finM cold coldC coldR goInt intDec boolDec aggDec Weaker heapW lowA lowC Again slDec undef aBuildSlice setRows aAppend rowsOf aMakeSlice aClear aCopyX aCopy softer_self softer_nil valsOf ev_min2 ev_max2 hotR_set hotR_append take_map_set irow_cold irow_mapM irow_mapMc irow_view irow_viewc irow_hotR irow_ren irow_renc irow_low WeakT heapT thOf ren renC AgainT NextF NextT fnDec cFn rNil selfLt natLt0 natLt1 getLastMap frame0 frame1 own0 own1 argG finG tau tauI tauO tauC bareA bareC bareH irow_tau irow_tauc irow_bare irow_flat irow_bareR ownA_nil ownT_nil ownA_c ownT_c ownA_s ownT_s takeMapLen footC plainA noId noIdC cloneF frame0F frame1F insertF replaceI replaceF cellDec rCell fpDec cFp rTwo deleteF allV_oA oneA_oA res_oA RunR RunE runFT footAt hotR_cat tmodN aEqH aSliceA fxSz3 fxBy3 fxAg3 fxZe3 fxSl3 fxSz4 fxAg4 fxSz5 fxBy5 fxAg5 fxZe5 fxSl22 fxAr22 fxSl23 fxAr23 fxAg24 fxSz31 fxAg31 fxZe31 fxSl31 fxAr31 fxSz34 fxAg34 fxAr35 fxSz37 fxAg37 fxZe37 fxFi37x0 fxFi37x1 fxFi37x2 fxPl37 fxSz38 fxAg38 fxZe38 fxAr38 fxSz47 fxAg47 fxZe47 fxFi47x0 fxPl47 fxZe51 fxFi51x0 fxFi51x1 fxPl51 fxAg55 fxSz56 fxAg56 fxSl56 fxAr56 fxZe58 fxFi58x0 fxFi58x1 fxFi58x2 fxFi58x3 fxFi58x4 fxPl58 fxSz62 fxAg62 fxZe62 fxFi62x0 fxFi62x1 fxFi62x2 fxFi62x3 fxPl62 fxZe65 fxSl67 fxAr67 fxSz72 fxAg72 fxZe72 fxSl72 fxAr72 fxPl72 fxSz74 fxZe74 fxFi74x0 fxFi74x1 fxFi74x2 fxFi74x3 fxPl74 fxSz75 fxBy75 fxAg75 fxZe75 fxSz79 fxAg79 fxZe79 fxFi79x0 fxFi79x1 fxPl79 fxEq47 fxCv3x5 fxCv3x34 fxCv3x70 fxCv3x100 fxCv5x34 fxCv34x3 fxCv34x5 fxCv34x112 fxCv70x3 fxCv100x34 fxCv112x3 fxLn31 fxLn56 fxFm4 fxFm5 fxFi5 fxFm6 fxFm7 fxFm8 fxFm9 fxFi9 fxFm10 fxFm11 fxFm12 fxFm13 fxFm14 fxFm15 fxFm16 fxFm17 fxFi17 fxFm18 fxFm19 fxFi19 fxFm20 fxFm21 fxFm22 fxFm23 fxFm24 fxFi24 fxFm25 fxFi25 fxFm26 fxFm27 fxFm28 fxFi28 fxFm29 fxFm30 fxFm31 fxFm32 fxFm33 fxFi33 fxFm34 fxFi34 fxFm35 fxFm36 fxFm37 fxFm38 fxFm39 fxFi39 fxFm40 fxFi40 fxFm41 fxFi41 fxFm42 fxFm45 fxFi45 fxFm46 fxFi46 fxFm47 fxFm48 fxFm49 fxFi49 fxFm50 fxFm51 fxFm52 fxFi52 fxFm64 fxFi64 fxFm87 fxFm88 fxFm89
section
attribute [local simp] rgA_list rgL_map rg_allV rgL_arr rg_one AI.apart aMkI aInvoke res_ifc res_meth
structure D3 where
 a : Int
 b : Int
 c : Int
 deriving DecidableEq
def d3Dec : Row → Option D3
 | [.v (.int .i64 x0), .v (.int .i64 x1), .v (.int .i64 x2)] => some ⟨x0, x1, x2⟩
 | _ => none
def D3.row (e : D3) : Row := [.v (.int .i64 e.a), .v (.int .i64 e.b), .v (.int .i64 e.c)]
def rD3 : RCod D3 := RCod.plain 3 D3.row d3Dec
 (fun e => rfl) (fun _ => rfl) (fun r e h => by
  unfold d3Dec at h
  split at h
  ·simp at h; subst h; rfl
  ·cases h)
def D3.val (e : D3) : Value := .agg #[.int .i64 e.a, .int .i64 e.b, .int .i64 e.c]
theorem D3.eta (e : D3) : D3.mk e.a e.b e.c = e := rfl
attribute [local simp] D3.eta
theorem D3.cold (l : List D3) : coldR (l.map D3.row) = l.map D3.row := by
 induction l with
 | nil => simp [coldR]
 | cons e l ih => simp [coldR, coldC, AI.cold, ih, D3.row]
theorem D3.mapM (l : List D3) : (l.map D3.row).mapM d3Dec = some l := mapM_dec rD3 l
theorem D3.mapMc (l : List D3) : l.mapM (d3Dec ∘ D3.row) = some l := mapM_dec' rD3 l
theorem D3.view (H : Heap) (n : Nat) (e : D3) : List.map (AI.view H n) e.row = e.row := by cases n <;> simp [D3.row, AI.view]
theorem D3.viewc (H : Heap) (n : Nat) : List.map (AI.view H n) ∘ D3.row = D3.row := by funext e; exact D3.view H n e
theorem D3.hotR (l : List D3) : AI.hotR (l.map D3.row) = true := by
 induction l with
 | nil => simp [AI.hotR]
 | cons e l ih => simp [AI.hotR, hotC, hot, ih, D3.row]
theorem D3.ren (n : Nat) (th : List Nat) (e : D3) : List.map (AI.ren n th) e.row = e.row := by simp [D3.row, AI.ren]
theorem D3.renc (n : Nat) (th : List Nat) : List.map (AI.ren n th) ∘ D3.row = D3.row := by funext e; exact D3.ren n th e
theorem D3.low (n : Nat) (e : D3) : e.row.all (lowA n) = true := by simp [D3.row, lowA]
theorem D3.tau (fp : List Nat) (n : Nat) (e : D3) : List.map (AI.tau fp n) e.row = e.row := by simp [D3.row, AI.tau]
theorem D3.tauc (fp : List Nat) (n : Nat) : List.map (AI.tau fp n) ∘ D3.row = D3.row := by funext e; exact D3.tau fp n e
theorem D3.bare (e : D3) : e.row.all bareA = true := by simp [D3.row, bareA]
theorem D3.flat (l : List D3) : flat0 (l.map D3.row) = true := by simp [flat0, D3.low]
theorem D3.flat1 (e : D3) : flat0 [e.row] = true := by simp [flat0, D3.low]
theorem D3.exact : Exact rD3 := by
 intro r e h
 simp only [rD3, RCod.plain] at h ⊢
 unfold d3Dec at h
 split at h
 ·simp at h; subst h; rfl
 ·cases h
theorem D3.mapMt (k : Nat) (l : List D3) : (List.take k (l.map D3.row)).mapM d3Dec = some (l.take k) := by rw [← List.map_take]; exact mapM_dec rD3 _
theorem D3.mapMd (k : Nat) (l : List D3) : (List.drop k (l.map D3.row)).mapM d3Dec = some (l.drop k) := by rw [← List.map_drop]; exact mapM_dec rD3 _
theorem D3.coldt (k : Nat) (l : List D3) : coldR (List.take k (l.map D3.row)) = List.take k (l.map D3.row) := by rw [← List.map_take]; exact D3.cold _
theorem D3.coldd (k : Nat) (l : List D3) : coldR (List.drop k (l.map D3.row)) = List.drop k (l.map D3.row) := by rw [← List.map_drop]; exact D3.cold _
theorem D3.hotRt (k : Nat) (l : List D3) : AI.hotR (List.take k (l.map D3.row)) = true := by rw [← List.map_take]; exact D3.hotR _
theorem D3.hotRd (k : Nat) (l : List D3) : AI.hotR (List.drop k (l.map D3.row)) = true := by rw [← List.map_drop]; exact D3.hotR _
attribute [local simp] D3.hotRt D3.hotRd
attribute [local simp] D3.tau D3.tauc D3.bare D3.flat D3.flat1 D3.mapMt D3.mapMd D3.coldt D3.coldd
attribute [local simp] D3.cold D3.mapM D3.mapMc D3.view D3.viewc D3.hotR D3.ren D3.renc D3.low
theorem byEq_pure : PureOk Try.prog 17 (argM (cSl (rI .u8)) fun l => argM (cSl (rI .u8)) fun m => finM (if l.length ≤ 4294967296 then some (.v (.bool (decide (l = m)))) else none)) := by
 refine pure2 Try.func17 rfl ?_
 rintro l m r hr
 by_cases hc : l.length ≤ 4294967296
 case neg => rw [if_neg hc] at hr; cases hr
 rw [if_pos hc] at hr
 simp only [Option.some.injEq] at hr
 subst hr
 refine body_gen noOrc_ok fxMix (by kernel_rfl) (by simp [Try.ntmps17]) ?_
 intro C cP cI cN cD cF cA cR cL
 replace cI : C.inl = fun _ => false := cI
 replace cR : C.rd = fun _ => none := cR
 replace cD : C.dyn = fun _ => [] := cD
 clear cP cN cF cA
 simp [Try.ntmps17, Try.results17, cSl, cI, cD, cR, rI]
 split
 ·rename_i hn
  have hn : l.length = m.length := by omega
  refine loop_for l.length (fun k (_ : Unit) => ([(0, .fsl false 1 (l.map (irow .u8))), (1, .fsl false 1 (m.map (irow .u8))), (12, .v (.int .i64 l.length)), (13, .v (.int .i64 k))], [])) (fun k _ => l.drop k = m.drop k ↔ l = m) () hc (by simp) (by simp) ?_ ?_
  ·intro k _ hk hall hw
   have hk3 : k < m.length := by omega
   rw [List.drop_eq_getElem_cons hk, List.drop_eq_getElem_cons hk3, List.cons.injEq] at hall
   by_cases q2 : l[k] = m[k]
   ·simp only [q2, true_and] at hall
    simp [Try.ntmps17, Try.results17, cSl, cI, cD, cR, hk, hk3, hw, rI, irow, q2]
    exact hall
   ·have hne : ¬ l = m := fun h => q2 (hall.2 h).1
    simp [Try.ntmps17, Try.results17, cSl, cI, cD, cR, hk, hk3, hw, rI, irow, q2]
    exact hne
  ·intro _ hall
   simp [hn] at hall
   simp [Try.ntmps17, Try.results17, cSl, cI, cD, cR, hall]
 ·rename_i hn
  rintro rfl
  exact hn rfl
structure LI (L0 : Nat) (g : Rg) (X : Heap) (A B : Ab) : Prop where
 two : Two 1 3 X A B
 hA : has A 1
 hB : has B 1
 v : vw A 1 = vw B 1
 iA : Inv 1 A
 iB : Inv 8 B
 ok : g.ok
 x : X[L0]? = some (some (10, [rgRow g]))
 y : X[L0 + 1]? = some (some (10, [rgRow g]))
theorem Two.set {m1 m2 i : Nat} {H : Heap} {A B : Ab} {q : Nat × List Row} {o : Option (Nat × List Row)} (h : Two m1 m2 H A B) (hq : H[i]? = some (some q)) (h10 : q.1 = 10) : Two m1 m2 (H.set i o) A B :=
 ⟨rg_same h.a fun j hj => by rw [List.getElem?_set_ne]; rintro rfl; have := fp_size h.a hj hq; omega,
  rg_same h.b fun j hj => by rw [List.getElem?_set_ne]; rintro rfl; have := fp_size h.b hj hq; omega, h.ab⟩
theorem law_pure : PureOk Try.prog 3 (argM (cSl (rI .i64)) fun l => argM (cInt .i64) fun steps => argM (cSl rD3) fun bt => finM (if l.length ≤ 9223372036854775807 ∧ bt.length ≤ 9223372036854775807 then some (.v (.bool true)) else none)) := by
 refine pure3 Try.func3 rfl ?_
 rintro l steps bt r hr
 by_cases hc : l.length ≤ 9223372036854775807 ∧ bt.length ≤ 9223372036854775807
 case neg => rw [if_neg hc] at hr; cases hr
 rw [if_pos hc] at hr
 simp only [Option.some.injEq] at hr
 subst hr
 refine body_gen ((((((((((((((((noOrc_ok.withP works_pure).withP rest_pure).withP byEq_pure).withI new_inl).withI (hd_ok make_inl)).withI code_inl).withI (hd_ok layY_inl)).withI (hd_ok rec_inl)).withI (hd_ok spaces_inl)).withI (hd_ok fork_inl)).withI (hd_ok oth_inl)).withI (hd_ok write_inl)).withI (hd_ok drop_inl)).withI (hd_ok step_inl)).withI (hd_ok all_inl)).withD (fun i => if i = 25 then [(3,9),(4,9)] else if i = 34 then [(1,2)] else [])) fxMix (by kernel_rfl) (by simp [Try.ntmps3]) ?_
 intro C cP cI cN cD cF cA cR cL
 have cp0 := orcP works_pure (C := C) (by rw [cP]; rfl)
 have cp1 := orcP rest_pure (C := C) (by rw [cP]; rfl)
 have ch0 := orcP byEq_pure (C := C) (by rw [cP]; rfl)
 have cn0 := orcI new_inl (C := C) (by rw [cN]; rfl)
 have cn1 := orcI (hd_ok make_inl) (C := C) (by rw [cN]; rfl)
 have cn2 := orcI code_inl (C := C) (by rw [cN]; rfl)
 have cn3 := orcI (hd_ok layY_inl) (C := C) (by rw [cN]; rfl)
 have cn4 := orcI (hd_ok rec_inl) (C := C) (by rw [cN]; rfl)
 have cn5 := orcI (hd_ok spaces_inl) (C := C) (by rw [cN]; rfl)
 have cn6 := orcI (hd_ok fork_inl) (C := C) (by rw [cN]; rfl)
 have cn7 := orcI (hd_ok oth_inl) (C := C) (by rw [cN]; rfl)
 have cn8 := orcI (hd_ok write_inl) (C := C) (by rw [cN]; rfl)
 have cn9 := orcI (hd_ok drop_inl) (C := C) (by rw [cN]; rfl)
 have cn10 := orcI (hd_ok step_inl) (C := C) (by rw [cN]; rfl)
 have cn11 := orcI (hd_ok all_inl) (C := C) (by rw [cN]; rfl)
 replace cI := fun g => congrFun cI g
 simp only [Orc.withP, Orc.withI, Orc.withF, Orc.withD, Orc.withA, Orc.withR, Orc.withC, noOrc] at cI
 replace cR : C.rd = fun _ => none := cR
 replace cD : C.dyn = fun i => if i = 25 then [(3,9),(4,9)] else if i = 34 then [(1,2)] else [] := cD
 replace cF := fun g => congrFun cF g
 simp only [Orc.withP, Orc.withI, Orc.withF, Orc.withD, Orc.withA, Orc.withR, Orc.withC, noOrc] at cF
 replace cA : C.alt = fun _ => [] := cA
 clear cP cN
 obtain ⟨hl, hbl⟩ := hc
 obtain ⟨G1, hn1, hn2, t1⟩ := two0
 obtain ⟨G2, A1, hm1, t2, hA1, vA1, iA1, _, _⟩ := h_make t1 rfl (by decide)
 obtain ⟨G3, B1, hm2, t3, hB1, vB1, iB1, lB1, _⟩ := h_make t2.swap rfl (by decide)
 obtain ⟨d, K, hd, hcode⟩ := code_ev (H := G3) hl
 have t4 := (t3.swap).app K
 obtain ⟨G4, A2, hl1, t5, vA2, hA2, iA2, _, _⟩ := h_lay (o := true) t4 hA1 iA1 hd vA1
 obtain ⟨G5, B2, hl2, t6, vB2, hB2, iB2, _, hroom⟩ := h_lay (o := true) t5.swap hB1 iB1 hd vB1
 have hV : vw A2 1 = vw B2 1 := by rw [vA2, vB2, funext vA1, funext vB1]
 have iB8 : Inv 8 B2 := ⟨iB2.six, by have := iB2.le; omega, by rw [hroom, lB1]; decide⟩
 obtain ⟨N, hN⟩ : ∃ N : Nat, (if (40 : Int) < (if steps < 0 then 0 else steps) then (40 : Int) else (if steps < 0 then 0 else steps)) = (N : Int) := by
  refine Int.eq_ofNat_of_zero_le ?_
  split
  ·decide
  ·split
   ·decide
   ·omega
 have hN40 : N ≤ 40 := by
  have : (N : Int) ≤ 40 := by
   rw [← hN]
   split
   ·decide
   ·omega
  omega
 obtain ⟨L0, hL0⟩ : ∃ x, G5.length = x := ⟨_, rfl⟩
 simp [Try.ntmps3, Try.results3, cSl, cp0, cp1, cn0, cn1, cn2, cn3, cn4, cn5, cn6, cn7, cn8, cn9, cn10, cn11, cI, cD, cR, cF, cA, rI, hn1, hn2, hm1, hm2, hcode, hl1, hl2, hN, hL0]
 refine loop_forE N (fun k (x : Rg × Heap × Ab × Ab) => ([(2, .fsl false 3 (bt.map D3.row)), (7, .ptr 1 5 0 0), (9, .ptr 3 5 0 0), (11, .v (.int .i64 1)), (13, .v (.int .i64 1)), (16, .ptr L0 10 0 0), (17, .ptr (L0 + 1) 10 0 0), (72, .v (.int .i64 N)), (73, .v (.int .i64 k))], x.2.1)) (fun k x => LI L0 x.1 x.2.1 x.2.2.1 x.2.2.2)
  (g0, G5 ++ [some (10, [rgRow g0]), some (10, [rgRow g0])], A2, B2) (fun k _ hk _ => by omega) ?_ ?_ ?_ ?_
 ·exact ⟨t6.swap.app _, hA2, hB2, hV, iA2, iB8, g0_ok, by rw [← hL0]; simp, by rw [← hL0, List.getElem?_append_right (by omega)]; simp⟩
 ·exact Ent.env (by simp [rD3])
 ·rintro k ⟨g, X, A, BB⟩ hk hI hw
  simp only at hI ⊢
  have hkN : (k : Int) < N := by omega
  have hvi : ∀ (Y : Heap) (v : Value), cold (view Y 4 (.v v)) = .v v := fun Y v => by simp [view, cold]
  by_cases hkb : k < bt.length
  case neg =>
   have tw := hI.two
   have hBB := hI.hB
   have vBB := hI.v.symm
   have iBB := hI.iB
   have xx := hI.x
   have yy := hI.y
   obtain ⟨X1, A', s1, u1, v1, w1, i1, o1⟩ := h_step tw hI.ok hI.hA hI.iA
   obtain ⟨⟨u, ⟨pk, pa⟩, V'⟩, hS⟩ : ∃ x, stepV (vw A 1) g = x := ⟨_, rfl⟩
   have hu : u.ok := by have := stepV_ok (vw A 1) hI.ok; rw [hS] at this; exact this
   rw [hS] at s1 v1
   simp only at s1 v1
   have x1 := o1 _ _ xx (by simp) (by simp) (by simp) (by simp)
   have y1 := o1 _ _ yy (by simp) (by simp) (by simp) (by simp)
   obtain ⟨Y1, hY1⟩ : ∃ x, X1 ++ [some (10, [rgRow u]), some (2, [[AVal.v (.int .i64 pk), AVal.v (.int .u32 pa)]])] = x := ⟨_, rfl⟩
   have tw2 : Two 3 1 Y1 BB A' := by rw [← hY1]; exact u1.swap.app _
   have e1 : L0 < X1.length := (List.getElem?_eq_some_iff.1 x1).1
   have e2 : L0 + 1 < X1.length := (List.getElem?_eq_some_iff.1 y1).1
   have a1 : Y1[L0]? = some (some (10, [rgRow g])) := by rw [← hY1, List.getElem?_append_left e1]; exact x1
   have a2 : Y1[L0 + 1]? = some (some (10, [rgRow g])) := by rw [← hY1, List.getElem?_append_left e2]; exact y1
   have a3 : Y1[X1.length]? = some (some (10, [rgRow u])) := by rw [← hY1]; simp
   have a4 : Y1[X1.length + 1]? = some (some (2, [[.v (.int .i64 pk), .v (.int .u32 pa)]])) := by rw [← hY1, List.getElem?_append_right (by omega)]; simp
   have hYl1 : Y1.length = X1.length + 2 := by rw [← hY1]; simp
   obtain ⟨X2, B', s2, u2, v2, w2, i2, o2⟩ := h_step tw2 hI.ok hBB iBB
   rw [vBB, hS] at s2 v2
   simp only at s2 v2
   have b1 := o2 _ _ a1 (by simp) (by simp) (by simp) (by simp)
   have b2 := o2 _ _ a2 (by simp) (by simp) (by simp) (by simp)
   have b3 := o2 _ _ a3 (by simp) (by simp) (by simp) (by simp)
   have b4 := o2 _ _ a4 (by simp) (by simp) (by simp) (by simp)
   have f1 := (List.getElem?_eq_some_iff.1 b1).1
   have f2 := (List.getElem?_eq_some_iff.1 b2).1
   have f3 := (List.getElem?_eq_some_iff.1 b3).1
   have f4 := (List.getElem?_eq_some_iff.1 b4).1
   obtain ⟨Y2, hY2⟩ : ∃ x, X2 ++ [some (10, [rgRow u]), some (2, [[AVal.v (.int .i64 pk), AVal.v (.int .u32 pa)]])] = x := ⟨_, rfl⟩
   have tw3 : Two 1 3 Y2 A' B' := by rw [← hY2]; exact u2.swap.app _
   have c1 : Y2[L0]? = some (some (10, [rgRow g])) := by rw [← hY2, List.getElem?_append_left f1]; exact b1
   have c2 : Y2[L0 + 1]? = some (some (10, [rgRow g])) := by rw [← hY2, List.getElem?_append_left f2]; exact b2
   have c3 : Y2[X1.length]? = some (some (10, [rgRow u])) := by rw [← hY2, List.getElem?_append_left f3]; exact b3
   have c4 : Y2[X1.length + 1]? = some (some (2, [[.v (.int .i64 pk), .v (.int .u32 pa)]])) := by rw [← hY2, List.getElem?_append_left f4]; exact b4
   have c5 : Y2[X2.length]? = some (some (10, [rgRow u])) := by rw [← hY2]; simp
   have c6 : Y2[X2.length + 1]? = some (some (2, [[.v (.int .i64 pk), .v (.int .u32 pa)]])) := by rw [← hY2, List.getElem?_append_right (by omega)]; simp
   obtain ⟨ra, X3, A3, s3, u3, v3, w3, i3, o3, l3, _⟩ := h_all tw3 w1 i1
   obtain ⟨rb, X4, B3, s4, u4, v4, w4, i4, o4, l4, k4⟩ := h_all u3.swap w2 i2
   have o34 := o3.trans o4
   have g1 := o34 _ _ c1 (by simp) (by simp) (by simp) (by simp)
   have g2 := o34 _ _ c2 (by simp) (by simp) (by simp) (by simp)
   have g3 := o34 _ _ c3 (by simp) (by simp) (by simp) (by simp)
   have g5 := o34 _ _ c5 (by simp) (by simp) (by simp) (by simp)
   rw [v1] at l3
   rw [v2] at l4
   have l3' : IsL Y2.length X4 ra (seeV V') := l3.keep fun n _ hn h3 => k4 n _ (fun hf => by
    obtain ⟨q, hq, _⟩ := fp_live tw3.b hf
    have := (List.getElem?_eq_some_iff.1 hq).1
    omega) h3
   have hra : ∀ b, res b ra = ra := fun b => by rcases l3 with ⟨rfl, _⟩ | ⟨n, rfl, _⟩ <;> rfl
   have hrb : ∀ b, res b rb = rb := fun b => by rcases l4 with ⟨rfl, _⟩ | ⟨n, rfl, _⟩ <;> rfl
   have hlen : (seeV V').length ≤ 4294967296 := by unfold seeV; split <;> simp
   have heq : C.pure 17 [cold (view X4 4 ra), cold (view X4 4 rb)] = some (.v (.bool true)) := by
    rw [ch0]
    simp only [argM, dec_isL l3', dec_isL l4, finM]
    rw [if_pos hlen]
    simp
   have n1 : X1.length ≠ L0 := by omega
   have n2 : X1.length ≠ L0 + 1 := by omega
   have n3 : X2.length ≠ L0 := by omega
   have n4 : X2.length ≠ L0 + 1 := by omega
   have n5 : L0 ≠ L0 + 1 := by omega
   have h8 := hI.ok.len
   have hu8 := hu.len
   have r1 := rg_len h8
   have r2 := @rg_take g h8
   have r3 := rg_len hu8
   have r4 := @rg_take u hu8
   have r5 := fun (r : Row) => @rw_all u hu8 r
   have q1 := (List.getElem?_eq_some_iff.1 xx).2
   have q2 := (List.getElem?_eq_some_iff.1 yy).2
   have nR := fun x y => @ne_regs x y u hu8
   unfold busV busA at s1 s2
   simp only [trA] at s1 s2
   simp [Try.ntmps3, Try.results3, cSl, cp0, cp1, cn0, cn1, cn2, cn3, cn4, cn5, cn6, cn7, cn8, cn9, cn10, cn11, cI, cD, cR, cF, cA, -view, -cold, hkN, hw, hkb, rD3, xx, yy, s1, hY1, a1, a2, a3, a4, hYl1, s2, hY2, c1, c2, c3, c4, c5, c6, s3, s4, hra, hrb, heq, nR, ne_trap, g1, g2, g3, g5, n1, n2, n3, n4, n5, r1, r2, r3, r4, r5, List.getElem?_append, List.set_append, List.getElem_set, List.getElem?_set]
   have g2' : ((X4.set L0 (some (10, [rgRow u])))[L0 + 1]? : Option (Option (Nat × List Row))) = some (some (10, [rgRow g])) := by rw [List.getElem?_set_ne (by omega)]; exact g2
   have hlX : L0 < X4.length := (List.getElem?_eq_some_iff.1 g1).1
   have hlX2 : L0 + 1 < X4.length := (List.getElem?_eq_some_iff.1 g2).1
   exact ⟨(u, (X4.set L0 (some (10, [rgRow u]))).set (L0 + 1) (some (10, [rgRow u])), A3, B3), ⟨(u4.swap.set g1 rfl).set g2' rfl, w3, w4, by rw [v3, v1, v4, v2], i3, i4, hu, by rw [List.getElem?_set_ne (by omega), List.getElem?_set_self hlX], by rw [List.getElem?_set_self (by simpa using hlX2)]⟩, Ent.env (by simp)⟩
  obtain ⟨⟨da, db, dc⟩, hdd⟩ : ∃ x, bt[k] = x := ⟨_, rfl⟩
  have hq := remR_lt da (n := 4) (by decide) (by decide)
  have hq9 := remR_lt db (n := 9) (by decide) (by decide)
  have hq32 := remR_lt dc (n := 32) (by decide) (by decide)
  have w4u : IntKind.u64.wrap 4 = 4 := by decide
  have w9u : IntKind.u64.wrap 9 = 9 := by decide
  have w32u : IntKind.u64.wrap 32 = 32 := by decide
  obtain ⟨DX, hDX⟩ : ∃ x, X ++ [some (3, [[AVal.v (.int .i64 da), AVal.v (.int .i64 db), AVal.v (.int .i64 dc)]])] = x := ⟨_, rfl⟩
  have td : Two 1 3 DX A BB := by rw [← hDX]; exact hI.two.app _
  have xd : DX[L0]? = some (some (10, [rgRow g])) := by rw [← hDX, List.getElem?_append_left (List.getElem?_eq_some_iff.1 hI.x).1]; exact hI.x
  have yd : DX[L0 + 1]? = some (some (10, [rgRow g])) := by rw [← hDX, List.getElem?_append_left (List.getElem?_eq_some_iff.1 hI.y).1]; exact hI.y
  have zd : DX[X.length]? = some (some (3, [[.v (.int .i64 da), .v (.int .i64 db), .v (.int .i64 dc)]])) := by rw [← hDX]; simp
  have hDl : DX.length = X.length + 1 := by rw [← hDX]; simp
  have zd' := (List.getElem?_eq_some_iff.1 zd).2
  have hm : remR da 4 = 0 ∨ remR da 4 = 1 ∨ remR da 4 = 2 ∨ remR da 4 = 3 := by omega
  rcases hm with hm | hm | hm | hm
  ·obtain ⟨rr, XX, BB1, hr, sd⟩ := h_rec (n := remR db 9) td.swap hI.hB
   have iBB := sd.inv hI.iB
   have vBB : vw BB1 1 = vw A 1 := sd.v.trans hI.v.symm
   have hBB := sd.has
   have tw := sd.two.swap
   have xx := sd.oth _ _ xd (by simp) (by simp) (by simp) (by simp)
   have yy := sd.oth _ _ yd (by simp) (by simp) (by simp) (by simp)
   clear sd
   obtain ⟨X1, A', s1, u1, v1, w1, i1, o1⟩ := h_step tw hI.ok hI.hA hI.iA
   obtain ⟨⟨u, ⟨pk, pa⟩, V'⟩, hS⟩ : ∃ x, stepV (vw A 1) g = x := ⟨_, rfl⟩
   have hu : u.ok := by have := stepV_ok (vw A 1) hI.ok; rw [hS] at this; exact this
   rw [hS] at s1 v1
   simp only at s1 v1
   have x1 := o1 _ _ xx (by simp) (by simp) (by simp) (by simp)
   have y1 := o1 _ _ yy (by simp) (by simp) (by simp) (by simp)
   obtain ⟨Y1, hY1⟩ : ∃ x, X1 ++ [some (10, [rgRow u]), some (2, [[AVal.v (.int .i64 pk), AVal.v (.int .u32 pa)]])] = x := ⟨_, rfl⟩
   have tw2 : Two 3 1 Y1 BB1 A' := by rw [← hY1]; exact u1.swap.app _
   have e1 : L0 < X1.length := (List.getElem?_eq_some_iff.1 x1).1
   have e2 : L0 + 1 < X1.length := (List.getElem?_eq_some_iff.1 y1).1
   have a1 : Y1[L0]? = some (some (10, [rgRow g])) := by rw [← hY1, List.getElem?_append_left e1]; exact x1
   have a2 : Y1[L0 + 1]? = some (some (10, [rgRow g])) := by rw [← hY1, List.getElem?_append_left e2]; exact y1
   have a3 : Y1[X1.length]? = some (some (10, [rgRow u])) := by rw [← hY1]; simp
   have a4 : Y1[X1.length + 1]? = some (some (2, [[.v (.int .i64 pk), .v (.int .u32 pa)]])) := by rw [← hY1, List.getElem?_append_right (by omega)]; simp
   have hYl1 : Y1.length = X1.length + 2 := by rw [← hY1]; simp
   obtain ⟨X2, B', s2, u2, v2, w2, i2, o2⟩ := h_step tw2 hI.ok hBB iBB
   rw [vBB, hS] at s2 v2
   simp only at s2 v2
   have b1 := o2 _ _ a1 (by simp) (by simp) (by simp) (by simp)
   have b2 := o2 _ _ a2 (by simp) (by simp) (by simp) (by simp)
   have b3 := o2 _ _ a3 (by simp) (by simp) (by simp) (by simp)
   have b4 := o2 _ _ a4 (by simp) (by simp) (by simp) (by simp)
   have f1 := (List.getElem?_eq_some_iff.1 b1).1
   have f2 := (List.getElem?_eq_some_iff.1 b2).1
   have f3 := (List.getElem?_eq_some_iff.1 b3).1
   have f4 := (List.getElem?_eq_some_iff.1 b4).1
   obtain ⟨Y2, hY2⟩ : ∃ x, X2 ++ [some (10, [rgRow u]), some (2, [[AVal.v (.int .i64 pk), AVal.v (.int .u32 pa)]])] = x := ⟨_, rfl⟩
   have tw3 : Two 1 3 Y2 A' B' := by rw [← hY2]; exact u2.swap.app _
   have c1 : Y2[L0]? = some (some (10, [rgRow g])) := by rw [← hY2, List.getElem?_append_left f1]; exact b1
   have c2 : Y2[L0 + 1]? = some (some (10, [rgRow g])) := by rw [← hY2, List.getElem?_append_left f2]; exact b2
   have c3 : Y2[X1.length]? = some (some (10, [rgRow u])) := by rw [← hY2, List.getElem?_append_left f3]; exact b3
   have c4 : Y2[X1.length + 1]? = some (some (2, [[.v (.int .i64 pk), .v (.int .u32 pa)]])) := by rw [← hY2, List.getElem?_append_left f4]; exact b4
   have c5 : Y2[X2.length]? = some (some (10, [rgRow u])) := by rw [← hY2]; simp
   have c6 : Y2[X2.length + 1]? = some (some (2, [[.v (.int .i64 pk), .v (.int .u32 pa)]])) := by rw [← hY2, List.getElem?_append_right (by omega)]; simp
   obtain ⟨ra, X3, A3, s3, u3, v3, w3, i3, o3, l3, _⟩ := h_all tw3 w1 i1
   obtain ⟨rb, X4, B3, s4, u4, v4, w4, i4, o4, l4, k4⟩ := h_all u3.swap w2 i2
   have o34 := o3.trans o4
   have g1 := o34 _ _ c1 (by simp) (by simp) (by simp) (by simp)
   have g2 := o34 _ _ c2 (by simp) (by simp) (by simp) (by simp)
   have g3 := o34 _ _ c3 (by simp) (by simp) (by simp) (by simp)
   have g5 := o34 _ _ c5 (by simp) (by simp) (by simp) (by simp)
   rw [v1] at l3
   rw [v2] at l4
   have l3' : IsL Y2.length X4 ra (seeV V') := l3.keep fun n _ hn h3 => k4 n _ (fun hf => by
    obtain ⟨q, hq, _⟩ := fp_live tw3.b hf
    have := (List.getElem?_eq_some_iff.1 hq).1
    omega) h3
   have hra : ∀ b, res b ra = ra := fun b => by rcases l3 with ⟨rfl, _⟩ | ⟨n, rfl, _⟩ <;> rfl
   have hrb : ∀ b, res b rb = rb := fun b => by rcases l4 with ⟨rfl, _⟩ | ⟨n, rfl, _⟩ <;> rfl
   have hlen : (seeV V').length ≤ 4294967296 := by unfold seeV; split <;> simp
   have heq : C.pure 17 [cold (view X4 4 ra), cold (view X4 4 rb)] = some (.v (.bool true)) := by
    rw [ch0]
    simp only [argM, dec_isL l3', dec_isL l4, finM]
    rw [if_pos hlen]
    simp
   have n1 : X1.length ≠ L0 := by omega
   have n2 : X1.length ≠ L0 + 1 := by omega
   have n3 : X2.length ≠ L0 := by omega
   have n4 : X2.length ≠ L0 + 1 := by omega
   have n5 : L0 ≠ L0 + 1 := by omega
   have h8 := hI.ok.len
   have hu8 := hu.len
   have r1 := rg_len h8
   have r2 := @rg_take g h8
   have r3 := rg_len hu8
   have r4 := @rg_take u hu8
   have r5 := fun (r : Row) => @rw_all u hu8 r
   have q1 := (List.getElem?_eq_some_iff.1 xx).2
   have q2 := (List.getElem?_eq_some_iff.1 yy).2
   have nR := fun x y => @ne_regs x y u hu8
   unfold busV busA at s1 s2
   simp only [trA] at s1 s2
   simp [Try.ntmps3, Try.results3, cSl, cp0, cp1, cn0, cn1, cn2, cn3, cn4, cn5, cn6, cn7, cn8, cn9, cn10, cn11, cI, cD, cR, cF, cA, -view, -cold, hkN, hw, hkb, hvi, hdd, rD3, D3.row, hDX, zd, zd', hDl, w4u, w9u, w32u, hm, hr, xx, yy, s1, hY1, a1, a2, a3, a4, hYl1, s2, hY2, c1, c2, c3, c4, c5, c6, s3, s4, hra, hrb, heq, nR, ne_trap, g1, g2, g3, g5, n1, n2, n3, n4, n5, r1, r2, r3, r4, r5, List.getElem?_append, List.set_append, List.getElem_set, List.getElem?_set]
   have g2' : ((X4.set L0 (some (10, [rgRow u])))[L0 + 1]? : Option (Option (Nat × List Row))) = some (some (10, [rgRow g])) := by rw [List.getElem?_set_ne (by omega)]; exact g2
   have hlX : L0 < X4.length := (List.getElem?_eq_some_iff.1 g1).1
   have hlX2 : L0 + 1 < X4.length := (List.getElem?_eq_some_iff.1 g2).1
   exact ⟨(u, (X4.set L0 (some (10, [rgRow u]))).set (L0 + 1) (some (10, [rgRow u])), A3, B3), ⟨(u4.swap.set g1 rfl).set g2' rfl, w3, w4, by rw [v3, v1, v4, v2], i3, i4, hu, by rw [List.getElem?_set_ne (by omega), List.getElem?_set_self hlX], by rw [List.getElem?_set_self (by simpa using hlX2)]⟩, Ent.env (by simp)⟩
  ·obtain ⟨sn, skc, X5, hsp, t5', o5⟩ := h_spaces td.swap hI.hB
   have x5 := o5 _ _ xd (by simp) (by simp) (by simp) (by simp)
   have y5 := o5 _ _ yd (by simp) (by simp) (by simp) (by simp)
   by_cases hlt : BB.sps.length < 8
   ·obtain ⟨rr, XX, BB1, hr, sd⟩ := h_fork t5' hI.hB hlt
    have hltI : (BB.sps.length : Int) < 8 := by omega
    have iBB := sd.inv hI.iB
    have vBB : vw BB1 1 = vw A 1 := sd.v.trans hI.v.symm
    have hBB := sd.has
    have tw := sd.two.swap
    have xx := sd.oth _ _ x5 (by simp) (by simp) (by simp) (by simp)
    have yy := sd.oth _ _ y5 (by simp) (by simp) (by simp) (by simp)
    clear sd
    obtain ⟨X1, A', s1, u1, v1, w1, i1, o1⟩ := h_step tw hI.ok hI.hA hI.iA
    obtain ⟨⟨u, ⟨pk, pa⟩, V'⟩, hS⟩ : ∃ x, stepV (vw A 1) g = x := ⟨_, rfl⟩
    have hu : u.ok := by have := stepV_ok (vw A 1) hI.ok; rw [hS] at this; exact this
    rw [hS] at s1 v1
    simp only at s1 v1
    have x1 := o1 _ _ xx (by simp) (by simp) (by simp) (by simp)
    have y1 := o1 _ _ yy (by simp) (by simp) (by simp) (by simp)
    obtain ⟨Y1, hY1⟩ : ∃ x, X1 ++ [some (10, [rgRow u]), some (2, [[AVal.v (.int .i64 pk), AVal.v (.int .u32 pa)]])] = x := ⟨_, rfl⟩
    have tw2 : Two 3 1 Y1 BB1 A' := by rw [← hY1]; exact u1.swap.app _
    have e1 : L0 < X1.length := (List.getElem?_eq_some_iff.1 x1).1
    have e2 : L0 + 1 < X1.length := (List.getElem?_eq_some_iff.1 y1).1
    have a1 : Y1[L0]? = some (some (10, [rgRow g])) := by rw [← hY1, List.getElem?_append_left e1]; exact x1
    have a2 : Y1[L0 + 1]? = some (some (10, [rgRow g])) := by rw [← hY1, List.getElem?_append_left e2]; exact y1
    have a3 : Y1[X1.length]? = some (some (10, [rgRow u])) := by rw [← hY1]; simp
    have a4 : Y1[X1.length + 1]? = some (some (2, [[.v (.int .i64 pk), .v (.int .u32 pa)]])) := by rw [← hY1, List.getElem?_append_right (by omega)]; simp
    have hYl1 : Y1.length = X1.length + 2 := by rw [← hY1]; simp
    obtain ⟨X2, B', s2, u2, v2, w2, i2, o2⟩ := h_step tw2 hI.ok hBB iBB
    rw [vBB, hS] at s2 v2
    simp only at s2 v2
    have b1 := o2 _ _ a1 (by simp) (by simp) (by simp) (by simp)
    have b2 := o2 _ _ a2 (by simp) (by simp) (by simp) (by simp)
    have b3 := o2 _ _ a3 (by simp) (by simp) (by simp) (by simp)
    have b4 := o2 _ _ a4 (by simp) (by simp) (by simp) (by simp)
    have f1 := (List.getElem?_eq_some_iff.1 b1).1
    have f2 := (List.getElem?_eq_some_iff.1 b2).1
    have f3 := (List.getElem?_eq_some_iff.1 b3).1
    have f4 := (List.getElem?_eq_some_iff.1 b4).1
    obtain ⟨Y2, hY2⟩ : ∃ x, X2 ++ [some (10, [rgRow u]), some (2, [[AVal.v (.int .i64 pk), AVal.v (.int .u32 pa)]])] = x := ⟨_, rfl⟩
    have tw3 : Two 1 3 Y2 A' B' := by rw [← hY2]; exact u2.swap.app _
    have c1 : Y2[L0]? = some (some (10, [rgRow g])) := by rw [← hY2, List.getElem?_append_left f1]; exact b1
    have c2 : Y2[L0 + 1]? = some (some (10, [rgRow g])) := by rw [← hY2, List.getElem?_append_left f2]; exact b2
    have c3 : Y2[X1.length]? = some (some (10, [rgRow u])) := by rw [← hY2, List.getElem?_append_left f3]; exact b3
    have c4 : Y2[X1.length + 1]? = some (some (2, [[.v (.int .i64 pk), .v (.int .u32 pa)]])) := by rw [← hY2, List.getElem?_append_left f4]; exact b4
    have c5 : Y2[X2.length]? = some (some (10, [rgRow u])) := by rw [← hY2]; simp
    have c6 : Y2[X2.length + 1]? = some (some (2, [[.v (.int .i64 pk), .v (.int .u32 pa)]])) := by rw [← hY2, List.getElem?_append_right (by omega)]; simp
    obtain ⟨ra, X3, A3, s3, u3, v3, w3, i3, o3, l3, _⟩ := h_all tw3 w1 i1
    obtain ⟨rb, X4, B3, s4, u4, v4, w4, i4, o4, l4, k4⟩ := h_all u3.swap w2 i2
    have o34 := o3.trans o4
    have g1 := o34 _ _ c1 (by simp) (by simp) (by simp) (by simp)
    have g2 := o34 _ _ c2 (by simp) (by simp) (by simp) (by simp)
    have g3 := o34 _ _ c3 (by simp) (by simp) (by simp) (by simp)
    have g5 := o34 _ _ c5 (by simp) (by simp) (by simp) (by simp)
    rw [v1] at l3
    rw [v2] at l4
    have l3' : IsL Y2.length X4 ra (seeV V') := l3.keep fun n _ hn h3 => k4 n _ (fun hf => by
     obtain ⟨q, hq, _⟩ := fp_live tw3.b hf
     have := (List.getElem?_eq_some_iff.1 hq).1
     omega) h3
    have hra : ∀ b, res b ra = ra := fun b => by rcases l3 with ⟨rfl, _⟩ | ⟨n, rfl, _⟩ <;> rfl
    have hrb : ∀ b, res b rb = rb := fun b => by rcases l4 with ⟨rfl, _⟩ | ⟨n, rfl, _⟩ <;> rfl
    have hlen : (seeV V').length ≤ 4294967296 := by unfold seeV; split <;> simp
    have heq : C.pure 17 [cold (view X4 4 ra), cold (view X4 4 rb)] = some (.v (.bool true)) := by
     rw [ch0]
     simp only [argM, dec_isL l3', dec_isL l4, finM]
     rw [if_pos hlen]
     simp
    have n1 : X1.length ≠ L0 := by omega
    have n2 : X1.length ≠ L0 + 1 := by omega
    have n3 : X2.length ≠ L0 := by omega
    have n4 : X2.length ≠ L0 + 1 := by omega
    have n5 : L0 ≠ L0 + 1 := by omega
    have h8 := hI.ok.len
    have hu8 := hu.len
    have r1 := rg_len h8
    have r2 := @rg_take g h8
    have r3 := rg_len hu8
    have r4 := @rg_take u hu8
    have r5 := fun (r : Row) => @rw_all u hu8 r
    have q1 := (List.getElem?_eq_some_iff.1 xx).2
    have q2 := (List.getElem?_eq_some_iff.1 yy).2
    have nR := fun x y => @ne_regs x y u hu8
    unfold busV busA at s1 s2
    simp only [trA] at s1 s2
    simp [Try.ntmps3, Try.results3, cSl, cp0, cp1, cn0, cn1, cn2, cn3, cn4, cn5, cn6, cn7, cn8, cn9, cn10, cn11, cI, cD, cR, cF, cA, -view, -cold, hkN, hw, hkb, hvi, hdd, rD3, D3.row, hDX, zd, zd', hDl, w4u, w9u, w32u, hm, hsp, hltI, hr, xx, yy, s1, hY1, a1, a2, a3, a4, hYl1, s2, hY2, c1, c2, c3, c4, c5, c6, s3, s4, hra, hrb, heq, nR, ne_trap, g1, g2, g3, g5, n1, n2, n3, n4, n5, r1, r2, r3, r4, r5, List.getElem?_append, List.set_append, List.getElem_set, List.getElem?_set]
    have g2' : ((X4.set L0 (some (10, [rgRow u])))[L0 + 1]? : Option (Option (Nat × List Row))) = some (some (10, [rgRow g])) := by rw [List.getElem?_set_ne (by omega)]; exact g2
    have hlX : L0 < X4.length := (List.getElem?_eq_some_iff.1 g1).1
    have hlX2 : L0 + 1 < X4.length := (List.getElem?_eq_some_iff.1 g2).1
    exact ⟨(u, (X4.set L0 (some (10, [rgRow u]))).set (L0 + 1) (some (10, [rgRow u])), A3, B3), ⟨(u4.swap.set g1 rfl).set g2' rfl, w3, w4, by rw [v3, v1, v4, v2], i3, i4, hu, by rw [List.getElem?_set_ne (by omega), List.getElem?_set_self hlX], by rw [List.getElem?_set_self (by simpa using hlX2)]⟩, Ent.env (by simp)⟩
   ·obtain ⟨XX, hXX⟩ : ∃ x, X5 = x := ⟨_, rfl⟩
    obtain ⟨BB1, hBe⟩ : ∃ x, BB = x := ⟨_, rfl⟩
    have hltI : ¬ (BB.sps.length : Int) < 8 := by omega
    rw [hXX] at hsp t5' x5 y5
    have iBB := hI.iB
    have vBB := hI.v.symm
    have hBB := hI.hB
    have tw := t5'.swap
    rw [hBe] at iBB vBB hBB tw
    have xx := x5
    have yy := y5
    obtain ⟨X1, A', s1, u1, v1, w1, i1, o1⟩ := h_step tw hI.ok hI.hA hI.iA
    obtain ⟨⟨u, ⟨pk, pa⟩, V'⟩, hS⟩ : ∃ x, stepV (vw A 1) g = x := ⟨_, rfl⟩
    have hu : u.ok := by have := stepV_ok (vw A 1) hI.ok; rw [hS] at this; exact this
    rw [hS] at s1 v1
    simp only at s1 v1
    have x1 := o1 _ _ xx (by simp) (by simp) (by simp) (by simp)
    have y1 := o1 _ _ yy (by simp) (by simp) (by simp) (by simp)
    obtain ⟨Y1, hY1⟩ : ∃ x, X1 ++ [some (10, [rgRow u]), some (2, [[AVal.v (.int .i64 pk), AVal.v (.int .u32 pa)]])] = x := ⟨_, rfl⟩
    have tw2 : Two 3 1 Y1 BB1 A' := by rw [← hY1]; exact u1.swap.app _
    have e1 : L0 < X1.length := (List.getElem?_eq_some_iff.1 x1).1
    have e2 : L0 + 1 < X1.length := (List.getElem?_eq_some_iff.1 y1).1
    have a1 : Y1[L0]? = some (some (10, [rgRow g])) := by rw [← hY1, List.getElem?_append_left e1]; exact x1
    have a2 : Y1[L0 + 1]? = some (some (10, [rgRow g])) := by rw [← hY1, List.getElem?_append_left e2]; exact y1
    have a3 : Y1[X1.length]? = some (some (10, [rgRow u])) := by rw [← hY1]; simp
    have a4 : Y1[X1.length + 1]? = some (some (2, [[.v (.int .i64 pk), .v (.int .u32 pa)]])) := by rw [← hY1, List.getElem?_append_right (by omega)]; simp
    have hYl1 : Y1.length = X1.length + 2 := by rw [← hY1]; simp
    obtain ⟨X2, B', s2, u2, v2, w2, i2, o2⟩ := h_step tw2 hI.ok hBB iBB
    rw [vBB, hS] at s2 v2
    simp only at s2 v2
    have b1 := o2 _ _ a1 (by simp) (by simp) (by simp) (by simp)
    have b2 := o2 _ _ a2 (by simp) (by simp) (by simp) (by simp)
    have b3 := o2 _ _ a3 (by simp) (by simp) (by simp) (by simp)
    have b4 := o2 _ _ a4 (by simp) (by simp) (by simp) (by simp)
    have f1 := (List.getElem?_eq_some_iff.1 b1).1
    have f2 := (List.getElem?_eq_some_iff.1 b2).1
    have f3 := (List.getElem?_eq_some_iff.1 b3).1
    have f4 := (List.getElem?_eq_some_iff.1 b4).1
    obtain ⟨Y2, hY2⟩ : ∃ x, X2 ++ [some (10, [rgRow u]), some (2, [[AVal.v (.int .i64 pk), AVal.v (.int .u32 pa)]])] = x := ⟨_, rfl⟩
    have tw3 : Two 1 3 Y2 A' B' := by rw [← hY2]; exact u2.swap.app _
    have c1 : Y2[L0]? = some (some (10, [rgRow g])) := by rw [← hY2, List.getElem?_append_left f1]; exact b1
    have c2 : Y2[L0 + 1]? = some (some (10, [rgRow g])) := by rw [← hY2, List.getElem?_append_left f2]; exact b2
    have c3 : Y2[X1.length]? = some (some (10, [rgRow u])) := by rw [← hY2, List.getElem?_append_left f3]; exact b3
    have c4 : Y2[X1.length + 1]? = some (some (2, [[.v (.int .i64 pk), .v (.int .u32 pa)]])) := by rw [← hY2, List.getElem?_append_left f4]; exact b4
    have c5 : Y2[X2.length]? = some (some (10, [rgRow u])) := by rw [← hY2]; simp
    have c6 : Y2[X2.length + 1]? = some (some (2, [[.v (.int .i64 pk), .v (.int .u32 pa)]])) := by rw [← hY2, List.getElem?_append_right (by omega)]; simp
    obtain ⟨ra, X3, A3, s3, u3, v3, w3, i3, o3, l3, _⟩ := h_all tw3 w1 i1
    obtain ⟨rb, X4, B3, s4, u4, v4, w4, i4, o4, l4, k4⟩ := h_all u3.swap w2 i2
    have o34 := o3.trans o4
    have g1 := o34 _ _ c1 (by simp) (by simp) (by simp) (by simp)
    have g2 := o34 _ _ c2 (by simp) (by simp) (by simp) (by simp)
    have g3 := o34 _ _ c3 (by simp) (by simp) (by simp) (by simp)
    have g5 := o34 _ _ c5 (by simp) (by simp) (by simp) (by simp)
    rw [v1] at l3
    rw [v2] at l4
    have l3' : IsL Y2.length X4 ra (seeV V') := l3.keep fun n _ hn h3 => k4 n _ (fun hf => by
     obtain ⟨q, hq, _⟩ := fp_live tw3.b hf
     have := (List.getElem?_eq_some_iff.1 hq).1
     omega) h3
    have hra : ∀ b, res b ra = ra := fun b => by rcases l3 with ⟨rfl, _⟩ | ⟨n, rfl, _⟩ <;> rfl
    have hrb : ∀ b, res b rb = rb := fun b => by rcases l4 with ⟨rfl, _⟩ | ⟨n, rfl, _⟩ <;> rfl
    have hlen : (seeV V').length ≤ 4294967296 := by unfold seeV; split <;> simp
    have heq : C.pure 17 [cold (view X4 4 ra), cold (view X4 4 rb)] = some (.v (.bool true)) := by
     rw [ch0]
     simp only [argM, dec_isL l3', dec_isL l4, finM]
     rw [if_pos hlen]
     simp
    have n1 : X1.length ≠ L0 := by omega
    have n2 : X1.length ≠ L0 + 1 := by omega
    have n3 : X2.length ≠ L0 := by omega
    have n4 : X2.length ≠ L0 + 1 := by omega
    have n5 : L0 ≠ L0 + 1 := by omega
    have h8 := hI.ok.len
    have hu8 := hu.len
    have r1 := rg_len h8
    have r2 := @rg_take g h8
    have r3 := rg_len hu8
    have r4 := @rg_take u hu8
    have r5 := fun (r : Row) => @rw_all u hu8 r
    have q1 := (List.getElem?_eq_some_iff.1 xx).2
    have q2 := (List.getElem?_eq_some_iff.1 yy).2
    have nR := fun x y => @ne_regs x y u hu8
    unfold busV busA at s1 s2
    simp only [trA] at s1 s2
    simp [Try.ntmps3, Try.results3, cSl, cp0, cp1, cn0, cn1, cn2, cn3, cn4, cn5, cn6, cn7, cn8, cn9, cn10, cn11, cI, cD, cR, cF, cA, -view, -cold, hkN, hw, hkb, hvi, hdd, rD3, D3.row, hDX, zd, zd', hDl, w4u, w9u, w32u, hm, hsp, hltI, xx, yy, s1, hY1, a1, a2, a3, a4, hYl1, s2, hY2, c1, c2, c3, c4, c5, c6, s3, s4, hra, hrb, heq, nR, ne_trap, g1, g2, g3, g5, n1, n2, n3, n4, n5, r1, r2, r3, r4, r5, List.getElem?_append, List.set_append, List.getElem_set, List.getElem?_set]
    have g2' : ((X4.set L0 (some (10, [rgRow u])))[L0 + 1]? : Option (Option (Nat × List Row))) = some (some (10, [rgRow g])) := by rw [List.getElem?_set_ne (by omega)]; exact g2
    have hlX : L0 < X4.length := (List.getElem?_eq_some_iff.1 g1).1
    have hlX2 : L0 + 1 < X4.length := (List.getElem?_eq_some_iff.1 g2).1
    exact ⟨(u, (X4.set L0 (some (10, [rgRow u]))).set (L0 + 1) (some (10, [rgRow u])), A3, B3), ⟨(u4.swap.set g1 rfl).set g2' rfl, w3, w4, by rw [v3, v1, v4, v2], i3, i4, hu, by rw [List.getElem?_set_ne (by omega), List.getElem?_set_self hlX], by rw [List.getElem?_set_self (by simpa using hlX2)]⟩, Ent.env (by simp)⟩
  ·obtain ⟨o, X5, hot, t5', o5, ho⟩ := h_oth (k := db) td.swap hI.hB
   have x5 := o5 _ _ xd (by simp) (by simp) (by simp) (by simp)
   have y5 := o5 _ _ yd (by simp) (by simp) (by simp) (by simp)
   have z5 := o5 _ _ zd (by simp) (by simp) (by simp) (by simp)
   have z5' := (List.getElem?_eq_some_iff.1 z5).2
   have z5l := (List.getElem?_eq_some_iff.1 z5).1
   have zne : X5.length ≠ X.length := by omega
   have zne' : X.length ≠ X5.length := by omega
   by_cases hpos : 0 < o
   ·have ho2 : o ≠ 1 := by rcases ho with h | h <;> omega
    have hw64 : IntKind.i64.wrap (64 + remR dc 32) = 64 + remR dc 32 := w64 (by omega) (by omega)
    obtain ⟨rr, XX, BB1, hr, sd⟩ := h_write (q := 0) (b := IntKind.u8.wrap dc) t5' hI.hB ho2 hw64
    have iBB := sd.inv hI.iB
    have vBB : vw BB1 1 = vw A 1 := sd.v.trans hI.v.symm
    have hBB := sd.has
    have tw := sd.two.swap
    have xx := sd.oth _ _ x5 (by simp) (by simp) (by simp) (by simp)
    have yy := sd.oth _ _ y5 (by simp) (by simp) (by simp) (by simp)
    clear sd
    obtain ⟨X1, A', s1, u1, v1, w1, i1, o1⟩ := h_step tw hI.ok hI.hA hI.iA
    obtain ⟨⟨u, ⟨pk, pa⟩, V'⟩, hS⟩ : ∃ x, stepV (vw A 1) g = x := ⟨_, rfl⟩
    have hu : u.ok := by have := stepV_ok (vw A 1) hI.ok; rw [hS] at this; exact this
    rw [hS] at s1 v1
    simp only at s1 v1
    have x1 := o1 _ _ xx (by simp) (by simp) (by simp) (by simp)
    have y1 := o1 _ _ yy (by simp) (by simp) (by simp) (by simp)
    obtain ⟨Y1, hY1⟩ : ∃ x, X1 ++ [some (10, [rgRow u]), some (2, [[AVal.v (.int .i64 pk), AVal.v (.int .u32 pa)]])] = x := ⟨_, rfl⟩
    have tw2 : Two 3 1 Y1 BB1 A' := by rw [← hY1]; exact u1.swap.app _
    have e1 : L0 < X1.length := (List.getElem?_eq_some_iff.1 x1).1
    have e2 : L0 + 1 < X1.length := (List.getElem?_eq_some_iff.1 y1).1
    have a1 : Y1[L0]? = some (some (10, [rgRow g])) := by rw [← hY1, List.getElem?_append_left e1]; exact x1
    have a2 : Y1[L0 + 1]? = some (some (10, [rgRow g])) := by rw [← hY1, List.getElem?_append_left e2]; exact y1
    have a3 : Y1[X1.length]? = some (some (10, [rgRow u])) := by rw [← hY1]; simp
    have a4 : Y1[X1.length + 1]? = some (some (2, [[.v (.int .i64 pk), .v (.int .u32 pa)]])) := by rw [← hY1, List.getElem?_append_right (by omega)]; simp
    have hYl1 : Y1.length = X1.length + 2 := by rw [← hY1]; simp
    obtain ⟨X2, B', s2, u2, v2, w2, i2, o2⟩ := h_step tw2 hI.ok hBB iBB
    rw [vBB, hS] at s2 v2
    simp only at s2 v2
    have b1 := o2 _ _ a1 (by simp) (by simp) (by simp) (by simp)
    have b2 := o2 _ _ a2 (by simp) (by simp) (by simp) (by simp)
    have b3 := o2 _ _ a3 (by simp) (by simp) (by simp) (by simp)
    have b4 := o2 _ _ a4 (by simp) (by simp) (by simp) (by simp)
    have f1 := (List.getElem?_eq_some_iff.1 b1).1
    have f2 := (List.getElem?_eq_some_iff.1 b2).1
    have f3 := (List.getElem?_eq_some_iff.1 b3).1
    have f4 := (List.getElem?_eq_some_iff.1 b4).1
    obtain ⟨Y2, hY2⟩ : ∃ x, X2 ++ [some (10, [rgRow u]), some (2, [[AVal.v (.int .i64 pk), AVal.v (.int .u32 pa)]])] = x := ⟨_, rfl⟩
    have tw3 : Two 1 3 Y2 A' B' := by rw [← hY2]; exact u2.swap.app _
    have c1 : Y2[L0]? = some (some (10, [rgRow g])) := by rw [← hY2, List.getElem?_append_left f1]; exact b1
    have c2 : Y2[L0 + 1]? = some (some (10, [rgRow g])) := by rw [← hY2, List.getElem?_append_left f2]; exact b2
    have c3 : Y2[X1.length]? = some (some (10, [rgRow u])) := by rw [← hY2, List.getElem?_append_left f3]; exact b3
    have c4 : Y2[X1.length + 1]? = some (some (2, [[.v (.int .i64 pk), .v (.int .u32 pa)]])) := by rw [← hY2, List.getElem?_append_left f4]; exact b4
    have c5 : Y2[X2.length]? = some (some (10, [rgRow u])) := by rw [← hY2]; simp
    have c6 : Y2[X2.length + 1]? = some (some (2, [[.v (.int .i64 pk), .v (.int .u32 pa)]])) := by rw [← hY2, List.getElem?_append_right (by omega)]; simp
    obtain ⟨ra, X3, A3, s3, u3, v3, w3, i3, o3, l3, _⟩ := h_all tw3 w1 i1
    obtain ⟨rb, X4, B3, s4, u4, v4, w4, i4, o4, l4, k4⟩ := h_all u3.swap w2 i2
    have o34 := o3.trans o4
    have g1 := o34 _ _ c1 (by simp) (by simp) (by simp) (by simp)
    have g2 := o34 _ _ c2 (by simp) (by simp) (by simp) (by simp)
    have g3 := o34 _ _ c3 (by simp) (by simp) (by simp) (by simp)
    have g5 := o34 _ _ c5 (by simp) (by simp) (by simp) (by simp)
    rw [v1] at l3
    rw [v2] at l4
    have l3' : IsL Y2.length X4 ra (seeV V') := l3.keep fun n _ hn h3 => k4 n _ (fun hf => by
     obtain ⟨q, hq, _⟩ := fp_live tw3.b hf
     have := (List.getElem?_eq_some_iff.1 hq).1
     omega) h3
    have hra : ∀ b, res b ra = ra := fun b => by rcases l3 with ⟨rfl, _⟩ | ⟨n, rfl, _⟩ <;> rfl
    have hrb : ∀ b, res b rb = rb := fun b => by rcases l4 with ⟨rfl, _⟩ | ⟨n, rfl, _⟩ <;> rfl
    have hlen : (seeV V').length ≤ 4294967296 := by unfold seeV; split <;> simp
    have heq : C.pure 17 [cold (view X4 4 ra), cold (view X4 4 rb)] = some (.v (.bool true)) := by
     rw [ch0]
     simp only [argM, dec_isL l3', dec_isL l4, finM]
     rw [if_pos hlen]
     simp
    have n1 : X1.length ≠ L0 := by omega
    have n2 : X1.length ≠ L0 + 1 := by omega
    have n3 : X2.length ≠ L0 := by omega
    have n4 : X2.length ≠ L0 + 1 := by omega
    have n5 : L0 ≠ L0 + 1 := by omega
    have h8 := hI.ok.len
    have hu8 := hu.len
    have r1 := rg_len h8
    have r2 := @rg_take g h8
    have r3 := rg_len hu8
    have r4 := @rg_take u hu8
    have r5 := fun (r : Row) => @rw_all u hu8 r
    have q1 := (List.getElem?_eq_some_iff.1 xx).2
    have q2 := (List.getElem?_eq_some_iff.1 yy).2
    have nR := fun x y => @ne_regs x y u hu8
    unfold busV busA at s1 s2
    simp only [trA] at s1 s2
    simp [Try.ntmps3, Try.results3, cSl, cp0, cp1, cn0, cn1, cn2, cn3, cn4, cn5, cn6, cn7, cn8, cn9, cn10, cn11, cI, cD, cR, cF, cA, -view, -cold, hkN, hw, hkb, hvi, hdd, rD3, D3.row, hDX, zd, zd', hDl, w4u, w9u, w32u, hm, hot, hpos, hw64, z5, z5', z5l, zne, zne', hr, xx, yy, s1, hY1, a1, a2, a3, a4, hYl1, s2, hY2, c1, c2, c3, c4, c5, c6, s3, s4, hra, hrb, heq, nR, ne_trap, g1, g2, g3, g5, n1, n2, n3, n4, n5, r1, r2, r3, r4, r5, List.getElem?_append, List.set_append, List.getElem_set, List.getElem?_set]
    have g2' : ((X4.set L0 (some (10, [rgRow u])))[L0 + 1]? : Option (Option (Nat × List Row))) = some (some (10, [rgRow g])) := by rw [List.getElem?_set_ne (by omega)]; exact g2
    have hlX : L0 < X4.length := (List.getElem?_eq_some_iff.1 g1).1
    have hlX2 : L0 + 1 < X4.length := (List.getElem?_eq_some_iff.1 g2).1
    exact ⟨(u, (X4.set L0 (some (10, [rgRow u]))).set (L0 + 1) (some (10, [rgRow u])), A3, B3), ⟨(u4.swap.set g1 rfl).set g2' rfl, w3, w4, by rw [v3, v1, v4, v2], i3, i4, hu, by rw [List.getElem?_set_ne (by omega), List.getElem?_set_self hlX], by rw [List.getElem?_set_self (by simpa using hlX2)]⟩, Ent.env (by simp)⟩
   ·obtain ⟨XX, hXX⟩ : ∃ x, X5 = x := ⟨_, rfl⟩
    obtain ⟨BB1, hBe⟩ : ∃ x, BB = x := ⟨_, rfl⟩
    rw [hXX] at hot t5' x5 y5
    have iBB := hI.iB
    have vBB := hI.v.symm
    have hBB := hI.hB
    have tw := t5'.swap
    rw [hBe] at iBB vBB hBB tw
    have xx := x5
    have yy := y5
    obtain ⟨X1, A', s1, u1, v1, w1, i1, o1⟩ := h_step tw hI.ok hI.hA hI.iA
    obtain ⟨⟨u, ⟨pk, pa⟩, V'⟩, hS⟩ : ∃ x, stepV (vw A 1) g = x := ⟨_, rfl⟩
    have hu : u.ok := by have := stepV_ok (vw A 1) hI.ok; rw [hS] at this; exact this
    rw [hS] at s1 v1
    simp only at s1 v1
    have x1 := o1 _ _ xx (by simp) (by simp) (by simp) (by simp)
    have y1 := o1 _ _ yy (by simp) (by simp) (by simp) (by simp)
    obtain ⟨Y1, hY1⟩ : ∃ x, X1 ++ [some (10, [rgRow u]), some (2, [[AVal.v (.int .i64 pk), AVal.v (.int .u32 pa)]])] = x := ⟨_, rfl⟩
    have tw2 : Two 3 1 Y1 BB1 A' := by rw [← hY1]; exact u1.swap.app _
    have e1 : L0 < X1.length := (List.getElem?_eq_some_iff.1 x1).1
    have e2 : L0 + 1 < X1.length := (List.getElem?_eq_some_iff.1 y1).1
    have a1 : Y1[L0]? = some (some (10, [rgRow g])) := by rw [← hY1, List.getElem?_append_left e1]; exact x1
    have a2 : Y1[L0 + 1]? = some (some (10, [rgRow g])) := by rw [← hY1, List.getElem?_append_left e2]; exact y1
    have a3 : Y1[X1.length]? = some (some (10, [rgRow u])) := by rw [← hY1]; simp
    have a4 : Y1[X1.length + 1]? = some (some (2, [[.v (.int .i64 pk), .v (.int .u32 pa)]])) := by rw [← hY1, List.getElem?_append_right (by omega)]; simp
    have hYl1 : Y1.length = X1.length + 2 := by rw [← hY1]; simp
    obtain ⟨X2, B', s2, u2, v2, w2, i2, o2⟩ := h_step tw2 hI.ok hBB iBB
    rw [vBB, hS] at s2 v2
    simp only at s2 v2
    have b1 := o2 _ _ a1 (by simp) (by simp) (by simp) (by simp)
    have b2 := o2 _ _ a2 (by simp) (by simp) (by simp) (by simp)
    have b3 := o2 _ _ a3 (by simp) (by simp) (by simp) (by simp)
    have b4 := o2 _ _ a4 (by simp) (by simp) (by simp) (by simp)
    have f1 := (List.getElem?_eq_some_iff.1 b1).1
    have f2 := (List.getElem?_eq_some_iff.1 b2).1
    have f3 := (List.getElem?_eq_some_iff.1 b3).1
    have f4 := (List.getElem?_eq_some_iff.1 b4).1
    obtain ⟨Y2, hY2⟩ : ∃ x, X2 ++ [some (10, [rgRow u]), some (2, [[AVal.v (.int .i64 pk), AVal.v (.int .u32 pa)]])] = x := ⟨_, rfl⟩
    have tw3 : Two 1 3 Y2 A' B' := by rw [← hY2]; exact u2.swap.app _
    have c1 : Y2[L0]? = some (some (10, [rgRow g])) := by rw [← hY2, List.getElem?_append_left f1]; exact b1
    have c2 : Y2[L0 + 1]? = some (some (10, [rgRow g])) := by rw [← hY2, List.getElem?_append_left f2]; exact b2
    have c3 : Y2[X1.length]? = some (some (10, [rgRow u])) := by rw [← hY2, List.getElem?_append_left f3]; exact b3
    have c4 : Y2[X1.length + 1]? = some (some (2, [[.v (.int .i64 pk), .v (.int .u32 pa)]])) := by rw [← hY2, List.getElem?_append_left f4]; exact b4
    have c5 : Y2[X2.length]? = some (some (10, [rgRow u])) := by rw [← hY2]; simp
    have c6 : Y2[X2.length + 1]? = some (some (2, [[.v (.int .i64 pk), .v (.int .u32 pa)]])) := by rw [← hY2, List.getElem?_append_right (by omega)]; simp
    obtain ⟨ra, X3, A3, s3, u3, v3, w3, i3, o3, l3, _⟩ := h_all tw3 w1 i1
    obtain ⟨rb, X4, B3, s4, u4, v4, w4, i4, o4, l4, k4⟩ := h_all u3.swap w2 i2
    have o34 := o3.trans o4
    have g1 := o34 _ _ c1 (by simp) (by simp) (by simp) (by simp)
    have g2 := o34 _ _ c2 (by simp) (by simp) (by simp) (by simp)
    have g3 := o34 _ _ c3 (by simp) (by simp) (by simp) (by simp)
    have g5 := o34 _ _ c5 (by simp) (by simp) (by simp) (by simp)
    rw [v1] at l3
    rw [v2] at l4
    have l3' : IsL Y2.length X4 ra (seeV V') := l3.keep fun n _ hn h3 => k4 n _ (fun hf => by
     obtain ⟨q, hq, _⟩ := fp_live tw3.b hf
     have := (List.getElem?_eq_some_iff.1 hq).1
     omega) h3
    have hra : ∀ b, res b ra = ra := fun b => by rcases l3 with ⟨rfl, _⟩ | ⟨n, rfl, _⟩ <;> rfl
    have hrb : ∀ b, res b rb = rb := fun b => by rcases l4 with ⟨rfl, _⟩ | ⟨n, rfl, _⟩ <;> rfl
    have hlen : (seeV V').length ≤ 4294967296 := by unfold seeV; split <;> simp
    have heq : C.pure 17 [cold (view X4 4 ra), cold (view X4 4 rb)] = some (.v (.bool true)) := by
     rw [ch0]
     simp only [argM, dec_isL l3', dec_isL l4, finM]
     rw [if_pos hlen]
     simp
    have n1 : X1.length ≠ L0 := by omega
    have n2 : X1.length ≠ L0 + 1 := by omega
    have n3 : X2.length ≠ L0 := by omega
    have n4 : X2.length ≠ L0 + 1 := by omega
    have n5 : L0 ≠ L0 + 1 := by omega
    have h8 := hI.ok.len
    have hu8 := hu.len
    have r1 := rg_len h8
    have r2 := @rg_take g h8
    have r3 := rg_len hu8
    have r4 := @rg_take u hu8
    have r5 := fun (r : Row) => @rw_all u hu8 r
    have q1 := (List.getElem?_eq_some_iff.1 xx).2
    have q2 := (List.getElem?_eq_some_iff.1 yy).2
    have nR := fun x y => @ne_regs x y u hu8
    unfold busV busA at s1 s2
    simp only [trA] at s1 s2
    simp [Try.ntmps3, Try.results3, cSl, cp0, cp1, cn0, cn1, cn2, cn3, cn4, cn5, cn6, cn7, cn8, cn9, cn10, cn11, cI, cD, cR, cF, cA, -view, -cold, hkN, hw, hkb, hvi, hdd, rD3, D3.row, hDX, zd, zd', hDl, w4u, w9u, w32u, hm, hot, hpos, xx, yy, s1, hY1, a1, a2, a3, a4, hYl1, s2, hY2, c1, c2, c3, c4, c5, c6, s3, s4, hra, hrb, heq, nR, ne_trap, g1, g2, g3, g5, n1, n2, n3, n4, n5, r1, r2, r3, r4, r5, List.getElem?_append, List.set_append, List.getElem_set, List.getElem?_set]
    have g2' : ((X4.set L0 (some (10, [rgRow u])))[L0 + 1]? : Option (Option (Nat × List Row))) = some (some (10, [rgRow g])) := by rw [List.getElem?_set_ne (by omega)]; exact g2
    have hlX : L0 < X4.length := (List.getElem?_eq_some_iff.1 g1).1
    have hlX2 : L0 + 1 < X4.length := (List.getElem?_eq_some_iff.1 g2).1
    exact ⟨(u, (X4.set L0 (some (10, [rgRow u]))).set (L0 + 1) (some (10, [rgRow u])), A3, B3), ⟨(u4.swap.set g1 rfl).set g2' rfl, w3, w4, by rw [v3, v1, v4, v2], i3, i4, hu, by rw [List.getElem?_set_ne (by omega), List.getElem?_set_self hlX], by rw [List.getElem?_set_self (by simpa using hlX2)]⟩, Ent.env (by simp)⟩
  ·obtain ⟨o, X5, hot, t5', o5, ho⟩ := h_oth (k := db) td.swap hI.hB
   have x5 := o5 _ _ xd (by simp) (by simp) (by simp) (by simp)
   have y5 := o5 _ _ yd (by simp) (by simp) (by simp) (by simp)
   have z5 := o5 _ _ zd (by simp) (by simp) (by simp) (by simp)
   have z5' := (List.getElem?_eq_some_iff.1 z5).2
   have z5l := (List.getElem?_eq_some_iff.1 z5).1
   have zne : X5.length ≠ X.length := by omega
   have zne' : X.length ≠ X5.length := by omega
   by_cases hpos : 0 < o
   ·have ho2 : o ≠ 1 := by rcases ho with h | h <;> omega
    obtain ⟨rr, XX, BB1, hr, sd⟩ := h_drop t5' hI.hB ho2
    have iBB := sd.inv hI.iB
    have vBB : vw BB1 1 = vw A 1 := sd.v.trans hI.v.symm
    have hBB := sd.has
    have tw := sd.two.swap
    have xx := sd.oth _ _ x5 (by simp) (by simp) (by simp) (by simp)
    have yy := sd.oth _ _ y5 (by simp) (by simp) (by simp) (by simp)
    clear sd
    obtain ⟨X1, A', s1, u1, v1, w1, i1, o1⟩ := h_step tw hI.ok hI.hA hI.iA
    obtain ⟨⟨u, ⟨pk, pa⟩, V'⟩, hS⟩ : ∃ x, stepV (vw A 1) g = x := ⟨_, rfl⟩
    have hu : u.ok := by have := stepV_ok (vw A 1) hI.ok; rw [hS] at this; exact this
    rw [hS] at s1 v1
    simp only at s1 v1
    have x1 := o1 _ _ xx (by simp) (by simp) (by simp) (by simp)
    have y1 := o1 _ _ yy (by simp) (by simp) (by simp) (by simp)
    obtain ⟨Y1, hY1⟩ : ∃ x, X1 ++ [some (10, [rgRow u]), some (2, [[AVal.v (.int .i64 pk), AVal.v (.int .u32 pa)]])] = x := ⟨_, rfl⟩
    have tw2 : Two 3 1 Y1 BB1 A' := by rw [← hY1]; exact u1.swap.app _
    have e1 : L0 < X1.length := (List.getElem?_eq_some_iff.1 x1).1
    have e2 : L0 + 1 < X1.length := (List.getElem?_eq_some_iff.1 y1).1
    have a1 : Y1[L0]? = some (some (10, [rgRow g])) := by rw [← hY1, List.getElem?_append_left e1]; exact x1
    have a2 : Y1[L0 + 1]? = some (some (10, [rgRow g])) := by rw [← hY1, List.getElem?_append_left e2]; exact y1
    have a3 : Y1[X1.length]? = some (some (10, [rgRow u])) := by rw [← hY1]; simp
    have a4 : Y1[X1.length + 1]? = some (some (2, [[.v (.int .i64 pk), .v (.int .u32 pa)]])) := by rw [← hY1, List.getElem?_append_right (by omega)]; simp
    have hYl1 : Y1.length = X1.length + 2 := by rw [← hY1]; simp
    obtain ⟨X2, B', s2, u2, v2, w2, i2, o2⟩ := h_step tw2 hI.ok hBB iBB
    rw [vBB, hS] at s2 v2
    simp only at s2 v2
    have b1 := o2 _ _ a1 (by simp) (by simp) (by simp) (by simp)
    have b2 := o2 _ _ a2 (by simp) (by simp) (by simp) (by simp)
    have b3 := o2 _ _ a3 (by simp) (by simp) (by simp) (by simp)
    have b4 := o2 _ _ a4 (by simp) (by simp) (by simp) (by simp)
    have f1 := (List.getElem?_eq_some_iff.1 b1).1
    have f2 := (List.getElem?_eq_some_iff.1 b2).1
    have f3 := (List.getElem?_eq_some_iff.1 b3).1
    have f4 := (List.getElem?_eq_some_iff.1 b4).1
    obtain ⟨Y2, hY2⟩ : ∃ x, X2 ++ [some (10, [rgRow u]), some (2, [[AVal.v (.int .i64 pk), AVal.v (.int .u32 pa)]])] = x := ⟨_, rfl⟩
    have tw3 : Two 1 3 Y2 A' B' := by rw [← hY2]; exact u2.swap.app _
    have c1 : Y2[L0]? = some (some (10, [rgRow g])) := by rw [← hY2, List.getElem?_append_left f1]; exact b1
    have c2 : Y2[L0 + 1]? = some (some (10, [rgRow g])) := by rw [← hY2, List.getElem?_append_left f2]; exact b2
    have c3 : Y2[X1.length]? = some (some (10, [rgRow u])) := by rw [← hY2, List.getElem?_append_left f3]; exact b3
    have c4 : Y2[X1.length + 1]? = some (some (2, [[.v (.int .i64 pk), .v (.int .u32 pa)]])) := by rw [← hY2, List.getElem?_append_left f4]; exact b4
    have c5 : Y2[X2.length]? = some (some (10, [rgRow u])) := by rw [← hY2]; simp
    have c6 : Y2[X2.length + 1]? = some (some (2, [[.v (.int .i64 pk), .v (.int .u32 pa)]])) := by rw [← hY2, List.getElem?_append_right (by omega)]; simp
    obtain ⟨ra, X3, A3, s3, u3, v3, w3, i3, o3, l3, _⟩ := h_all tw3 w1 i1
    obtain ⟨rb, X4, B3, s4, u4, v4, w4, i4, o4, l4, k4⟩ := h_all u3.swap w2 i2
    have o34 := o3.trans o4
    have g1 := o34 _ _ c1 (by simp) (by simp) (by simp) (by simp)
    have g2 := o34 _ _ c2 (by simp) (by simp) (by simp) (by simp)
    have g3 := o34 _ _ c3 (by simp) (by simp) (by simp) (by simp)
    have g5 := o34 _ _ c5 (by simp) (by simp) (by simp) (by simp)
    rw [v1] at l3
    rw [v2] at l4
    have l3' : IsL Y2.length X4 ra (seeV V') := l3.keep fun n _ hn h3 => k4 n _ (fun hf => by
     obtain ⟨q, hq, _⟩ := fp_live tw3.b hf
     have := (List.getElem?_eq_some_iff.1 hq).1
     omega) h3
    have hra : ∀ b, res b ra = ra := fun b => by rcases l3 with ⟨rfl, _⟩ | ⟨n, rfl, _⟩ <;> rfl
    have hrb : ∀ b, res b rb = rb := fun b => by rcases l4 with ⟨rfl, _⟩ | ⟨n, rfl, _⟩ <;> rfl
    have hlen : (seeV V').length ≤ 4294967296 := by unfold seeV; split <;> simp
    have heq : C.pure 17 [cold (view X4 4 ra), cold (view X4 4 rb)] = some (.v (.bool true)) := by
     rw [ch0]
     simp only [argM, dec_isL l3', dec_isL l4, finM]
     rw [if_pos hlen]
     simp
    have n1 : X1.length ≠ L0 := by omega
    have n2 : X1.length ≠ L0 + 1 := by omega
    have n3 : X2.length ≠ L0 := by omega
    have n4 : X2.length ≠ L0 + 1 := by omega
    have n5 : L0 ≠ L0 + 1 := by omega
    have h8 := hI.ok.len
    have hu8 := hu.len
    have r1 := rg_len h8
    have r2 := @rg_take g h8
    have r3 := rg_len hu8
    have r4 := @rg_take u hu8
    have r5 := fun (r : Row) => @rw_all u hu8 r
    have q1 := (List.getElem?_eq_some_iff.1 xx).2
    have q2 := (List.getElem?_eq_some_iff.1 yy).2
    have nR := fun x y => @ne_regs x y u hu8
    unfold busV busA at s1 s2
    simp only [trA] at s1 s2
    simp [Try.ntmps3, Try.results3, cSl, cp0, cp1, cn0, cn1, cn2, cn3, cn4, cn5, cn6, cn7, cn8, cn9, cn10, cn11, cI, cD, cR, cF, cA, -view, -cold, hkN, hw, hkb, hvi, hdd, rD3, D3.row, hDX, zd, zd', hDl, w4u, w9u, w32u, hm, hot, hpos, z5, z5', z5l, zne, zne', hr, xx, yy, s1, hY1, a1, a2, a3, a4, hYl1, s2, hY2, c1, c2, c3, c4, c5, c6, s3, s4, hra, hrb, heq, nR, ne_trap, g1, g2, g3, g5, n1, n2, n3, n4, n5, r1, r2, r3, r4, r5, List.getElem?_append, List.set_append, List.getElem_set, List.getElem?_set]
    have g2' : ((X4.set L0 (some (10, [rgRow u])))[L0 + 1]? : Option (Option (Nat × List Row))) = some (some (10, [rgRow g])) := by rw [List.getElem?_set_ne (by omega)]; exact g2
    have hlX : L0 < X4.length := (List.getElem?_eq_some_iff.1 g1).1
    have hlX2 : L0 + 1 < X4.length := (List.getElem?_eq_some_iff.1 g2).1
    exact ⟨(u, (X4.set L0 (some (10, [rgRow u]))).set (L0 + 1) (some (10, [rgRow u])), A3, B3), ⟨(u4.swap.set g1 rfl).set g2' rfl, w3, w4, by rw [v3, v1, v4, v2], i3, i4, hu, by rw [List.getElem?_set_ne (by omega), List.getElem?_set_self hlX], by rw [List.getElem?_set_self (by simpa using hlX2)]⟩, Ent.env (by simp)⟩
   ·obtain ⟨XX, hXX⟩ : ∃ x, X5 = x := ⟨_, rfl⟩
    obtain ⟨BB1, hBe⟩ : ∃ x, BB = x := ⟨_, rfl⟩
    rw [hXX] at hot t5' x5 y5
    have iBB := hI.iB
    have vBB := hI.v.symm
    have hBB := hI.hB
    have tw := t5'.swap
    rw [hBe] at iBB vBB hBB tw
    have xx := x5
    have yy := y5
    obtain ⟨X1, A', s1, u1, v1, w1, i1, o1⟩ := h_step tw hI.ok hI.hA hI.iA
    obtain ⟨⟨u, ⟨pk, pa⟩, V'⟩, hS⟩ : ∃ x, stepV (vw A 1) g = x := ⟨_, rfl⟩
    have hu : u.ok := by have := stepV_ok (vw A 1) hI.ok; rw [hS] at this; exact this
    rw [hS] at s1 v1
    simp only at s1 v1
    have x1 := o1 _ _ xx (by simp) (by simp) (by simp) (by simp)
    have y1 := o1 _ _ yy (by simp) (by simp) (by simp) (by simp)
    obtain ⟨Y1, hY1⟩ : ∃ x, X1 ++ [some (10, [rgRow u]), some (2, [[AVal.v (.int .i64 pk), AVal.v (.int .u32 pa)]])] = x := ⟨_, rfl⟩
    have tw2 : Two 3 1 Y1 BB1 A' := by rw [← hY1]; exact u1.swap.app _
    have e1 : L0 < X1.length := (List.getElem?_eq_some_iff.1 x1).1
    have e2 : L0 + 1 < X1.length := (List.getElem?_eq_some_iff.1 y1).1
    have a1 : Y1[L0]? = some (some (10, [rgRow g])) := by rw [← hY1, List.getElem?_append_left e1]; exact x1
    have a2 : Y1[L0 + 1]? = some (some (10, [rgRow g])) := by rw [← hY1, List.getElem?_append_left e2]; exact y1
    have a3 : Y1[X1.length]? = some (some (10, [rgRow u])) := by rw [← hY1]; simp
    have a4 : Y1[X1.length + 1]? = some (some (2, [[.v (.int .i64 pk), .v (.int .u32 pa)]])) := by rw [← hY1, List.getElem?_append_right (by omega)]; simp
    have hYl1 : Y1.length = X1.length + 2 := by rw [← hY1]; simp
    obtain ⟨X2, B', s2, u2, v2, w2, i2, o2⟩ := h_step tw2 hI.ok hBB iBB
    rw [vBB, hS] at s2 v2
    simp only at s2 v2
    have b1 := o2 _ _ a1 (by simp) (by simp) (by simp) (by simp)
    have b2 := o2 _ _ a2 (by simp) (by simp) (by simp) (by simp)
    have b3 := o2 _ _ a3 (by simp) (by simp) (by simp) (by simp)
    have b4 := o2 _ _ a4 (by simp) (by simp) (by simp) (by simp)
    have f1 := (List.getElem?_eq_some_iff.1 b1).1
    have f2 := (List.getElem?_eq_some_iff.1 b2).1
    have f3 := (List.getElem?_eq_some_iff.1 b3).1
    have f4 := (List.getElem?_eq_some_iff.1 b4).1
    obtain ⟨Y2, hY2⟩ : ∃ x, X2 ++ [some (10, [rgRow u]), some (2, [[AVal.v (.int .i64 pk), AVal.v (.int .u32 pa)]])] = x := ⟨_, rfl⟩
    have tw3 : Two 1 3 Y2 A' B' := by rw [← hY2]; exact u2.swap.app _
    have c1 : Y2[L0]? = some (some (10, [rgRow g])) := by rw [← hY2, List.getElem?_append_left f1]; exact b1
    have c2 : Y2[L0 + 1]? = some (some (10, [rgRow g])) := by rw [← hY2, List.getElem?_append_left f2]; exact b2
    have c3 : Y2[X1.length]? = some (some (10, [rgRow u])) := by rw [← hY2, List.getElem?_append_left f3]; exact b3
    have c4 : Y2[X1.length + 1]? = some (some (2, [[.v (.int .i64 pk), .v (.int .u32 pa)]])) := by rw [← hY2, List.getElem?_append_left f4]; exact b4
    have c5 : Y2[X2.length]? = some (some (10, [rgRow u])) := by rw [← hY2]; simp
    have c6 : Y2[X2.length + 1]? = some (some (2, [[.v (.int .i64 pk), .v (.int .u32 pa)]])) := by rw [← hY2, List.getElem?_append_right (by omega)]; simp
    obtain ⟨ra, X3, A3, s3, u3, v3, w3, i3, o3, l3, _⟩ := h_all tw3 w1 i1
    obtain ⟨rb, X4, B3, s4, u4, v4, w4, i4, o4, l4, k4⟩ := h_all u3.swap w2 i2
    have o34 := o3.trans o4
    have g1 := o34 _ _ c1 (by simp) (by simp) (by simp) (by simp)
    have g2 := o34 _ _ c2 (by simp) (by simp) (by simp) (by simp)
    have g3 := o34 _ _ c3 (by simp) (by simp) (by simp) (by simp)
    have g5 := o34 _ _ c5 (by simp) (by simp) (by simp) (by simp)
    rw [v1] at l3
    rw [v2] at l4
    have l3' : IsL Y2.length X4 ra (seeV V') := l3.keep fun n _ hn h3 => k4 n _ (fun hf => by
     obtain ⟨q, hq, _⟩ := fp_live tw3.b hf
     have := (List.getElem?_eq_some_iff.1 hq).1
     omega) h3
    have hra : ∀ b, res b ra = ra := fun b => by rcases l3 with ⟨rfl, _⟩ | ⟨n, rfl, _⟩ <;> rfl
    have hrb : ∀ b, res b rb = rb := fun b => by rcases l4 with ⟨rfl, _⟩ | ⟨n, rfl, _⟩ <;> rfl
    have hlen : (seeV V').length ≤ 4294967296 := by unfold seeV; split <;> simp
    have heq : C.pure 17 [cold (view X4 4 ra), cold (view X4 4 rb)] = some (.v (.bool true)) := by
     rw [ch0]
     simp only [argM, dec_isL l3', dec_isL l4, finM]
     rw [if_pos hlen]
     simp
    have n1 : X1.length ≠ L0 := by omega
    have n2 : X1.length ≠ L0 + 1 := by omega
    have n3 : X2.length ≠ L0 := by omega
    have n4 : X2.length ≠ L0 + 1 := by omega
    have n5 : L0 ≠ L0 + 1 := by omega
    have h8 := hI.ok.len
    have hu8 := hu.len
    have r1 := rg_len h8
    have r2 := @rg_take g h8
    have r3 := rg_len hu8
    have r4 := @rg_take u hu8
    have r5 := fun (r : Row) => @rw_all u hu8 r
    have q1 := (List.getElem?_eq_some_iff.1 xx).2
    have q2 := (List.getElem?_eq_some_iff.1 yy).2
    have nR := fun x y => @ne_regs x y u hu8
    unfold busV busA at s1 s2
    simp only [trA] at s1 s2
    simp [Try.ntmps3, Try.results3, cSl, cp0, cp1, cn0, cn1, cn2, cn3, cn4, cn5, cn6, cn7, cn8, cn9, cn10, cn11, cI, cD, cR, cF, cA, -view, -cold, hkN, hw, hkb, hvi, hdd, rD3, D3.row, hDX, zd, zd', hDl, w4u, w9u, w32u, hm, hot, hpos, xx, yy, s1, hY1, a1, a2, a3, a4, hYl1, s2, hY2, c1, c2, c3, c4, c5, c6, s3, s4, hra, hrb, heq, nR, ne_trap, g1, g2, g3, g5, n1, n2, n3, n4, n5, r1, r2, r3, r4, r5, List.getElem?_append, List.set_append, List.getElem_set, List.getElem?_set]
    have g2' : ((X4.set L0 (some (10, [rgRow u])))[L0 + 1]? : Option (Option (Nat × List Row))) = some (some (10, [rgRow g])) := by rw [List.getElem?_set_ne (by omega)]; exact g2
    have hlX : L0 < X4.length := (List.getElem?_eq_some_iff.1 g1).1
    have hlX2 : L0 + 1 < X4.length := (List.getElem?_eq_some_iff.1 g2).1
    exact ⟨(u, (X4.set L0 (some (10, [rgRow u]))).set (L0 + 1) (some (10, [rgRow u])), A3, B3), ⟨(u4.swap.set g1 rfl).set g2' rfl, w3, w4, by rw [v3, v1, v4, v2], i3, i4, hu, by rw [List.getElem?_set_ne (by omega), List.getElem?_set_self hlX], by rw [List.getElem?_set_self (by simpa using hlX2)]⟩, Ent.env (by simp)⟩
 ·rintro _ _
  simp [Try.ntmps3, Try.results3, cSl, cp0, cp1, cn0, cn1, cn2, cn3, cn4, cn5, cn6, cn7, cn8, cn9, cn10, cn11, cI, cD, cR, cF, cA]
end
end
section
open Go.ChangeShapes Go.WideShapes Go.ChangeAt Go.RowKit Go.AI
set_option maxRecDepth 100000
theorem rdD3 : RdRow Try.prog 38 rD3 (fun _ => True) := by
 intro H enc W base spare held fuel cs x h
 obtain ⟨xs, n, _, _, hlen, hxl, hf⟩ := DataW.trod_array Try.underlying38 h
 replace hlen : cs.length = 3 := hlen.trans (by kernel_rfl)
 have hce : Try.prog.cellsOf 3 = 1 := by kernel_rfl
 obtain ⟨y0, y1, y2, rfl⟩ : ∃ y0 y1 y2, xs = [y0, y1, y2] := by
  match xs, hxl with
  | [y0, y1, y2], _ => exact ⟨y0, y1, y2, rfl⟩
 have g0 := hf 0 (by decide)
 rw [show 0 * Try.prog.cellsOf 3 = 0 by rw [hce]] at g0
 obtain ⟨e0, q0, f0⟩ := RowsAt.field (cs := cs) (o := 0) (n := 1) (rdI Try.underlying3) hce (x := y0) g0
 have g1 := hf 1 (by decide)
 rw [show 1 * Try.prog.cellsOf 3 = 1 by rw [hce]] at g1
 obtain ⟨e1, q1, f1⟩ := RowsAt.field (cs := cs) (o := 1) (n := 1) (rdI Try.underlying3) hce (x := y1) g1
 have g2 := hf 2 (by decide)
 rw [show 2 * Try.prog.cellsOf 3 = 2 by rw [hce]] at g2
 obtain ⟨e2, q2, f2⟩ := RowsAt.field (cs := cs) (o := 2) (n := 1) (rdI Try.underlying3) hce (x := y2) g2
 have hR := f0 _ (f1 _ (f2 _ (RowsAt.nil (by omega))))
 refine ⟨hlen, hR.1, ⟨e0,e1,e2⟩, trivial, fun j a ha => hR.2 j a ha⟩
end
end Go.Proofs.Ytibpipgabcpaoaa
