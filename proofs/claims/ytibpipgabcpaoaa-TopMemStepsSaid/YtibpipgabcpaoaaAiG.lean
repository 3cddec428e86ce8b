/- Each step of the interpreter is true of the model: slicing, len, min, max. -/
import Derived.Test.YtibpipgabcpaoaaAiF
namespace Go.AI
set_option linter.unusedSimpArgs false
set_option linter.unusedVariables false
open Go.RowKit
section
variable {base : Nat} {w0 : World} {β : Nat → Nat} {fz : Nat → Prop} {e' : AEv} {H H' : Heap} {a : Act} {w : World} {P : Program} {C : Orc} {o : Oper} {av : AVal} {n : Nat} {ok : Bool → Nat → Prop}
theorem bnd_some {i : AVal} {k d m : Nat} {v : Value} (h : bnd (some i) d m = some k) (hr : R β ok w n i v) : ∃ kd z, v = .int kd z ∧ 0 ≤ z ∧ z ≤ m ∧ z.toNat = k := by
 unfold bnd at h
 split at h
 ·rename_i h0; cases h0
 ·rename_i kd z h0
  simp only [Option.some.injEq] at h0
  subst h0
  split at h
  ·rename_i hz
   simp only [Option.some.injEq] at h
   exact ⟨kd, z, hr.v_inv, hz.1, hz.2, h⟩
  ·cases h
 ·cases h
theorem run_bound {kd : IntKind} {z : Int} {m : Nat} (z0 : 0 ≤ z) (z1 : z ≤ m) (c : BoundsCode) : (Instr.sliceBound (.int kd z) m c).run P w = .ok z.toNat w := by
 simp [Instr.sliceBound, asIntOf, z0, z1]
theorem bnd_run {x : Option Operand} {k d m : Nat} (hs : SimE base w0 β fz e' H a w) (h : bnd (x.map (e')) d m = some k) (c : BoundsCode) :
  ((match x.map a.eval with
   | some v => Instr.sliceBound v m c
   | none => pure d).run P w = .ok k w) ∧ (x = none → k = d) ∧ (x ≠ none → k ≤ m) := by
 cases x with
 | none => simp [bnd] at h; subst h; exact ⟨rfl, fun _ => rfl, fun hh => absurd rfl hh⟩
 | some i =>
  obtain ⟨kd, z, hz, z0, z1, rfl⟩ := bnd_some h (hs.ev i)
  refine ⟨?_, (fun hh => absurd hh (by simp)), fun _ => by omega⟩
  simp only [Option.map_some, hz]
  exact run_bound z0 z1 c
theorem does_slice {t : TypeId} {x : Operand} {lo hi mx : Option Operand} (hop : o.op = .slice t x lo hi mx) (hs : SimE base w0 β fz e' H a w)
  (h : aSlice P t (e' x) (lo.map (e')) (hi.map (e')) (mx.map (e')) = some av) : Does P o a w base w0 β fz H av H := by
 have hx := hs.ev x
 unfold aSlice at h
 split at h
 ·rename_i e hE
  have hu := run_slice_und hE
  split at h
  ·rename_i sz hsz
   -- what the operation comes to
   have run2 : ∀ (ad : Option Addr) (len cap l k : Nat), mx = none → (bnd (hi.map (e')) len cap = some k) → bnd (lo.map (e')) 0 k = some l →
     (Instr.sliceAt t (.slice ad len cap) (lo.map a.eval) (hi.map a.eval) (mx.map a.eval)).run P w = .ok (.slice (if cap = l then ad else ad.map (·.add (l * sz))) (k - l) (cap - l)) w := by
    intro ad len cap l k hm h1 h2
    subst hm
    have b1 := (bnd_run (P := P) hs h1 .sliceAcap).1
    have b2 := (bnd_run (P := P) hs h2 .sliceB).1
    have hb : (Instr.sliceBounds true len cap (lo.map a.eval) (hi.map a.eval) none).run P w = .ok (l, k, cap) w := by
     simp only [Instr.sliceBounds]
     cases hi <;> cases lo <;> simp_all
    simp [Instr.sliceAt, Instr.slice, run_underlying hu, hb, run_sz hsz]
   have run3 : ∀ (ad : Option Addr) (len cap l k m : Nat) (mm hh : Operand), mx = some mm → hi = some hh → bnd (some (e' mm)) 0 cap = some m → bnd (some (e' hh)) 0 m = some k → bnd (lo.map (e')) 0 k = some l →
     (Instr.sliceAt t (.slice ad len cap) (lo.map a.eval) (hi.map a.eval) (mx.map a.eval)).run P w = .ok (.slice (if m = l then ad else ad.map (·.add (l * sz))) (k - l) (m - l)) w := by
    intro ad len cap l k m mm hh hm1 hm2 h1 h2 h3
    subst hm1; subst hm2
    have b1 := (bnd_run (P := P) (x := some mm) hs h1 .slice3Acap).1
    have b2 := (bnd_run (P := P) (x := some hh) hs h2 .slice3B).1
    have b3 := (bnd_run (P := P) hs h3 .slice3C).1
    have hb : (Instr.sliceBounds true len cap (lo.map a.eval) (some (a.eval hh)) (some (a.eval mm))).run P w = .ok (l, k, m) w := by
     simp only [Instr.sliceBounds]
     cases lo <;> simp_all
    simp [Instr.sliceAt, Instr.slice, run_underlying hu, hb, run_sz hsz]
   have up : ∀ {y : Option Operand} {d p q k : Nat}, bnd (y.map (e')) d p = some k → p ≤ q → bnd (y.map (e')) d q = some k := by
    intro y d p q k hh hpq
    cases y with
    | none => exact hh
    | some i =>
     simp only [Option.map_some, bnd] at hh ⊢
     split at hh
     ·rename_i h0; cases h0
     ·rename_i h0
      split at hh
      ·rename_i hz; rw [if_pos (by omega)]; exact hh
      ·cases hh
     ·cases hh
   split at h
   ·-- own slices
    rename_i id sz' s len kc hp
    split at h
    ·rename_i hss
     subst hss
     rw [hp] at hx
     generalize hv : a.eval x = v at hx
     cases hx with
     | @osl _ _ _ _ _ _ ad cap hid hl hkc ha =>
      split at h
      ·rename_i hm
       have hm' : mx = none := by cases mx <;> simp_all
       split at h
       ·rename_i k hk
        simp only [Option.map_eq_some_iff] at h
        obtain ⟨l, hl', rfl⟩ := h
        have hkk : k ≤ kc := by
         rcases Option.eq_none_or_eq_some hi with hh | ⟨y, hh⟩
         ·rw [hh] at hk; simp [bnd] at hk; omega
         ·exact (bnd_run (P := P) hs hk .sliceB).2.2 (by simp [hh])
        have hlk : l ≤ k := by
         rcases Option.eq_none_or_eq_some lo with hh | ⟨y, hh⟩
         ·rw [hh] at hl'; simp [bnd] at hl'; omega
         ·exact (bnd_run (P := P) hs hl' .sliceB).2.2 (by simp [hh])
        refine does_pure hs.heap ?_ ?_ (x := .slice (if cap = l then some ad else some (ad.add (l * sz'))) (k - l) (cap - l))
        ·simp only [execOp, hop, hv]
         have := run2 (some ad) len cap l k hm' (up hk hkc) hl'
         rw [Sem.run_bind, this]; simp
        ·by_cases hcl : cap = l
         ·rw [if_pos hcl]; exact .osl hid (by omega) (by omega) (.inl (by omega))
         ·rw [if_neg hcl]
          rcases ha with ha | ⟨ha, cs, e', f', h1, h2⟩
          ·omega
          ·refine .osl hid (by omega) (by omega) (.inr ⟨?_, cs, e', f', h1, ?_⟩)
           ·rw [ha, add_none, Nat.add_mul]
           ·have : s + l + (cap - l) = s + cap := by omega
            rw [this]; exact h2
       ·cases h
      ·rename_i m0 hm
       obtain ⟨mm, hmm, hmv⟩ : ∃ mm, mx = some mm ∧ e' mm = m0 := by cases mx <;> simp_all
       subst hmv
       split at h
       ·rename_i m hm1
        split at h
        ·rename_i h0 hh0
         obtain ⟨hh, hhi, hhv⟩ : ∃ hh, hi = some hh ∧ e' hh = h0 := by cases hi <;> simp_all
         subst hhv
         split at h
         ·rename_i k hk
          simp only [Option.map_eq_some_iff] at h
          obtain ⟨l, hl', rfl⟩ := h
          have hmk : m ≤ kc := (bnd_run (P := P) (x := some mm) hs hm1 .sliceB).2.2 (by simp)
          have hkm : k ≤ m := (bnd_run (P := P) (x := some hh) hs hk .sliceB).2.2 (by simp)
          have hlk : l ≤ k := by
           rcases Option.eq_none_or_eq_some lo with hh | ⟨y, hh⟩
           ·rw [hh] at hl'; simp [bnd] at hl'; omega
           ·exact (bnd_run (P := P) hs hl' .sliceB).2.2 (by simp [hh])
          refine does_pure hs.heap ?_ ?_ (x := .slice (if m = l then some ad else some (ad.add (l * sz'))) (k - l) (m - l))
          ·simp only [execOp, hop, hv]
           have := run3 (some ad) len cap l k m mm hh hmm hhi (up (y := some mm) hm1 hkc) hk hl'
           rw [Sem.run_bind, this]; simp
          ·by_cases hcl : m = l
           ·rw [if_pos hcl, if_pos hcl]
            have e1 : k - l = 0 := by omega
            have e2 : m - l = 0 := by omega
            rw [e1, e2]; exact .esl
           ·rw [if_neg hcl, if_neg hcl]
            rcases ha with ha | ⟨ha, cs, e', f', h1, h2⟩
            ·omega
            ·refine .osl hid (by omega) (Nat.le_refl _) (.inr ⟨?_, cs, e', f', h1, ?_⟩)
             ·rw [ha, add_none, Nat.add_mul]
             ·have : (s + l + (m - l)) * sz' ≤ (s + cap) * sz' := Nat.mul_le_mul_right _ (by omega)
              omega
         ·cases h
        ·cases h
       ·cases h
    ·cases h
   ·-- own slices, the capacity known
    rename_i id sz' s len cap hp
    split at h
    ·rename_i hss
     subst hss
     rw [hp] at hx
     generalize hv : a.eval x = v at hx
     cases hx with
     | @xsl _ _ _ _ _ _ ad hid hl ha =>
      split at h
      ·rename_i hm
       have hm' : mx = none := by cases mx <;> simp_all
       split at h
       ·rename_i k hk
        simp only [Option.map_eq_some_iff] at h
        obtain ⟨l, hl', rfl⟩ := h
        have hkk : k ≤ cap := by
         rcases Option.eq_none_or_eq_some hi with hh | ⟨y, hh⟩
         ·rw [hh] at hk; simp [bnd] at hk; omega
         ·exact (bnd_run (P := P) hs hk .sliceB).2.2 (by simp [hh])
        have hlk : l ≤ k := by
         rcases Option.eq_none_or_eq_some lo with hh | ⟨y, hh⟩
         ·rw [hh] at hl'; simp [bnd] at hl'; omega
         ·exact (bnd_run (P := P) hs hl' .sliceB).2.2 (by simp [hh])
        refine does_pure hs.heap ?_ ?_ (x := .slice (if cap = l then some ad else some (ad.add (l * sz'))) (k - l) (cap - l))
        ·simp only [execOp, hop, hv]
         have := run2 (some ad) len cap l k hm' hk hl'
         rw [Sem.run_bind, this]; simp
        ·by_cases hcl : cap = l
         ·rw [if_pos hcl]; exact .xsl hid (by omega) (.inl (by omega))
         ·rw [if_neg hcl]
          rcases ha with ha | ⟨ha, cs, e', f', h1, h2⟩
          ·omega
          ·refine .xsl hid (by omega) (.inr ⟨?_, cs, e', f', h1, ?_⟩)
           ·rw [ha, add_none, Nat.add_mul]
           ·have : s + l + (cap - l) = s + cap := by omega
            rw [this]; exact h2
       ·cases h
      ·cases h
    ·cases h
   ·-- frozen slices
    rename_i oo sz' rows hp
    split at h
    ·rename_i hss
     subst hss
     rw [hp] at hx
     generalize hv : a.eval x = v at hx
     obtain ⟨ad, cap, hvv, hlc, hR⟩ : ∃ ad cap, v = .slice ad rows.length cap ∧ rows.length ≤ cap ∧ ∀ l k c', l ≤ k → k ≤ rows.length → k - l ≤ c' → (c' ≠ 0 → l ≠ cap ∧ c' ≤ cap - l) →
       R β (okOf base fz) w H.length (.fsl oo sz' ((rows.drop l).take (k - l))) (.slice (if c' = 0 then ad else ad.map (·.add (l * sz'))) (k - l) c') := by
      cases hx with
      | @fsl _ _ _ _ b off cap x' hl hsr hb hc hr =>
       refine ⟨_, cap, rfl, hl, fun l k c' h1 h2 h3 h4 => ?_⟩
       have hlen : ((rows.drop l).take (k - l)).length = k - l := by simp; omega
       by_cases hkl : k - l = 0
       ·rw [hkl]; simp only [List.take_zero]; exact .fsl0
       ·have hc0 : c' ≠ 0 := by omega
        rw [if_neg hc0]
        simp only [Option.map_some, add_none]
        have hget : ∀ i, i < k - l → ((rows.drop l).take (k - l))[i]? = rows[l + i]? := fun i hi => by
         rw [List.getElem?_take_of_lt hi, List.getElem?_drop]
        have := R.fsl (β := β) (ok := okOf base fz) (w := w) (n := H.length) (o := oo) (sz := sz') (rows := (rows.drop l).take (k - l)) (b := b) (off := off + l * sz') (cap := c') (fun i j => x' (l + i) j) (by omega)
         (fun r hr => hsr r (List.mem_of_mem_drop (List.mem_of_mem_take hr))) (fun ⟨r, hr, hn⟩ => hb ⟨r, List.mem_of_mem_drop (List.mem_of_mem_take hr), hn⟩)
         (fun i j hi hj => by
          have := hc (l + i) j (by omega) hj
          rwa [Nat.add_mul, ← Nat.add_assoc] at this)
         (fun i r hi j c hj => by
          have : i < k - l := by have := (List.getElem?_eq_some_iff.1 hi).1; omega
          rw [hget i this] at hi
          exact hr (l + i) r hi j c hj)
        rwa [hlen] at this
      | @fsl0 _ _ _ ad cap =>
       refine ⟨ad, cap, rfl, Nat.zero_le _, fun l k c' h1 h2 h3 h4 => ?_⟩
       have : k - l = 0 := by simp at h2; omega
       rw [this]; simp only [List.drop_nil, List.take_nil]; exact .fsl0
     subst hvv
     split at h
     ·rename_i hm
      have hm' : mx = none := by cases mx <;> simp_all
      split at h
      ·rename_i k hk
       simp only [Option.map_eq_some_iff] at h
       obtain ⟨l, hl', rfl⟩ := h
       have hkk : k ≤ rows.length := by
        rcases Option.eq_none_or_eq_some hi with hh | ⟨y, hh⟩
        ·rw [hh] at hk; simp [bnd] at hk; omega
        ·exact (bnd_run (P := P) hs hk .sliceB).2.2 (by simp [hh])
       have hlk : l ≤ k := by
        rcases Option.eq_none_or_eq_some lo with hh | ⟨y, hh⟩
        ·rw [hh] at hl'; simp [bnd] at hl'; omega
        ·exact (bnd_run (P := P) hs hl' .sliceB).2.2 (by simp [hh])
       refine does_pure hs.heap ?_ (hR l k (cap - l) hlk hkk (by omega) (fun hc => ⟨by omega, Nat.le_refl _⟩))
       simp only [execOp, hop, hv]
       have := run2 ad rows.length cap l k hm' (up hk hlc) hl'
       rw [Sem.run_bind, this]
       by_cases hcl : cap = l
       ·have : cap - l = 0 := by omega
        simp [hcl]
       ·have h1 : cap - l ≠ 0 := by omega
        simp [hcl, h1]
      ·cases h
     ·rename_i m0 hm
      obtain ⟨mm, hmm, hmv⟩ : ∃ mm, mx = some mm ∧ e' mm = m0 := by cases mx <;> simp_all
      subst hmv
      split at h
      ·rename_i m hm1
       split at h
       ·rename_i h0 hh0
        obtain ⟨hh, hhi, hhv⟩ : ∃ hh, hi = some hh ∧ e' hh = h0 := by cases hi <;> simp_all
        subst hhv
        split at h
        ·rename_i k hk
         simp only [Option.map_eq_some_iff] at h
         obtain ⟨l, hl', rfl⟩ := h
         have hmk : m ≤ rows.length := (bnd_run (P := P) (x := some mm) hs hm1 .sliceB).2.2 (by simp)
         have hkm : k ≤ m := (bnd_run (P := P) (x := some hh) hs hk .sliceB).2.2 (by simp)
         have hlk : l ≤ k := by
          rcases Option.eq_none_or_eq_some lo with hh | ⟨y, hh⟩
          ·rw [hh] at hl'; simp [bnd] at hl'; omega
          ·exact (bnd_run (P := P) hs hl' .sliceB).2.2 (by simp [hh])
         have hrun := run3 ad rows.length cap l k m mm hh hmm hhi (up (y := some mm) hm1 hlc) hk hl'
         by_cases hcl : m = l
         ·rw [if_pos hcl]
          refine does_pure hs.heap (x := .slice ad 0 0) ?_ .esl
          simp only [execOp, hop, hv]
          rw [Sem.run_bind, hrun]
          have e1 : k - l = 0 := by omega
          have e2 : m - l = 0 := by omega
          simp [hcl, e1]
         ·rw [if_neg hcl]
          refine does_pure hs.heap ?_ (hR l k (m - l) hlk (by omega) (by omega) (fun hc => ⟨by omega, by omega⟩))
          simp only [execOp, hop, hv]
          rw [Sem.run_bind, hrun]
          have h1 : m - l ≠ 0 := by omega
          simp [hcl, h1]
        ·cases h
       ·cases h
      ·cases h
    ·cases h
   ·-- empty
    rename_i hp
    rw [hp] at hx
    generalize hv : a.eval x = v at hx
    split at h
    ·rename_i p q r h1 h2 h3
     split at h
     ·cases h
     ·rename_i hcnd
      simp only [Option.some.injEq] at h
      subst h
      cases hx with
      | @esl _ ad =>
       have hp0 : p = 0 := by
        rcases Option.eq_none_or_eq_some hi with hh | ⟨y, hh⟩
        ·rw [hh] at h1; simp [bnd] at h1; omega
        ·have := (bnd_run (P := P) hs h1 .sliceB).2.2 (by simp [hh]); omega
       have hq0 : q = 0 := by
        rcases Option.eq_none_or_eq_some lo with hh | ⟨y, hh⟩
        ·rw [hh] at h2; simp [bnd] at h2; omega
        ·have := (bnd_run (P := P) hs h2 .sliceB).2.2 (by simp [hh]); omega
       subst hp0; subst hq0
       refine does_pure hs.heap (x := .slice ad 0 0) ?_ .esl
       simp only [execOp, hop, hv]
       rcases Option.eq_none_or_eq_some mx with hm | ⟨mm, hm⟩
       ·have := run2 ad 0 0 0 0 hm h1 h2
        rw [Sem.run_bind, this]; simp
       ·rcases Option.eq_none_or_eq_some hi with hh | ⟨y, hh⟩
        ·exfalso; apply hcnd; simp [hm, hh]
        ·have hr0 : r = 0 := by
          have := (bnd_run (P := P) hs h3 .sliceB).2.2 (by simp [hm]); omega
         subst hr0
         have := run3 ad 0 0 0 0 0 mm y hm hh (by rw [hm] at h3; exact h3) (by rw [hh] at h1; exact h1) h2
         rw [Sem.run_bind, this]; simp
    ·cases h
   ·-- nil
    rename_i hp
    rw [hp] at hx
    have hv := hx.v_inv
    split at h
    ·rename_i p q r h1 h2 h3
     split at h
     ·cases h
     ·rename_i hcnd
      simp only [Option.some.injEq] at h
      subst h
      have hp0 : p = 0 := by
       rcases Option.eq_none_or_eq_some hi with hh | ⟨y, hh⟩
       ·rw [hh] at h1; simp [bnd] at h1; omega
       ·have := (bnd_run (P := P) hs h1 .sliceB).2.2 (by simp [hh]); omega
      have hq0 : q = 0 := by
       rcases Option.eq_none_or_eq_some lo with hh | ⟨y, hh⟩
       ·rw [hh] at h2; simp [bnd] at h2; omega
       ·have := (bnd_run (P := P) hs h2 .sliceB).2.2 (by simp [hh]); omega
      subst hp0; subst hq0
      refine does_pure hs.heap (x := .slice none 0 0) ?_ .v
      simp only [execOp, hop, hv]
      rcases Option.eq_none_or_eq_some mx with hm | ⟨mm, hm⟩
      ·have := run2 none 0 0 0 0 hm h1 h2
       rw [Sem.run_bind, this]; simp
      ·rcases Option.eq_none_or_eq_some hi with hh | ⟨y, hh⟩
       ·exfalso; apply hcnd; simp [hm, hh]
       ·have hr0 : r = 0 := by
         have := (bnd_run (P := P) hs h3 .sliceB).2.2 (by simp [hm]); omega
        subst hr0
        have := run3 none 0 0 0 0 0 mm y hm hh (by rw [hm] at h3; exact h3) (by rw [hh] at h1; exact h1) h2
        rw [Sem.run_bind, this]; simp
    ·cases h
   ·cases h
  ·cases h
 ·cases h
end
end Go.AI
