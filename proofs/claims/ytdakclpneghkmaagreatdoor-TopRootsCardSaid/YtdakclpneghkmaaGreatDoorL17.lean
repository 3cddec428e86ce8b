/- The interpreter that runs: regions in any order by the values that are read. -/
import Derived.Test.YtdakclpneghkmaaGreatDoorL14
import Derived.Test.YtdakclpneghkmaaGreatDoorL15
import Derived.Test.YtdakclpneghkmaaGreatDoorL16
namespace Go.AI
set_option linter.unusedSectionVars false
variable [Sym]
set_option linter.unusedSimpArgs false
set_option linter.unusedVariables false
set_option maxRecDepth 100000
open Go.RowKit
def runV (P : Program) (C : Orc) (nt : Nat) (ops : Array Oper) : List Oper → Env × Heap → Option (List (Env × Heap × AVal) × (Env × Heap))
 | [], s => some ([], s)
 | o :: l, s => if dstOk nt o = true then match act P C ops o (ev s.1) s.2 with
   | some (v, H') => match runV P C nt ops l (put s.1 o.dst v, H') with
    | some (q, r) => some ((s.1, s.2, v) :: q, r)
    | none => none
   | none => none
  else none
def envV (q : List (Env × Heap × AVal)) (r : Env × Heap) (i : Nat) : Env := match q[i]? with | some x => x.1 | none => r.1
def heapV (q : List (Env × Heap × AVal)) (r : Env × Heap) (i : Nat) : Heap := match q[i]? with | some x => x.2.1 | none => r.2
def valV (q : List (Env × Heap × AVal)) (i : Nat) : AVal := match q[i]? with | some x => x.2.2 | none => .junk
def pairsV (inl : FuncId → Bool) (ops : Array Oper) : List (Nat × Nat) :=
 (List.range ops.size).flatMap fun r => if hk inl (ops.getD r default) = 1 then ((List.range ops.size).filter fun w => decide (hk inl (ops.getD w default) = 2) && (if w < r then !befB ops r w else !befB ops w r)).map fun w => (r, w) else []
def againV (P : Program) (C : Orc) (ops : Array Oper) (q : List (Env × Heap × AVal)) (r : Env × Heap) (p : Nat × Nat) : Bool :=
 match act P C ops (ops.getD p.1 default) (ev (envV q r p.1)) (heapV q r (if p.2 < p.1 then p.2 else p.2 + 1)) with
 | some (v, _) => beqA v (valV q p.1)
 | none => false
def regionV (P : Program) (C : Orc) (nt : Nat) (ops : Array Oper) (ρ : Env) (H : Heap) : Option (Env × Heap) :=
 match runV P C nt ops ops.toList (ρ, H) with
 | some (q, r) => if (pairsV C.inl ops).all (againV P C ops q r) = true then some r else none
 | none => none
def rfV (inl : FuncId → Bool) (ops : Array Oper) : Bool :=
 (ops.toList.zipIdx.all fun (o, i) => o.after.all fun e => !Region.binds .any e || decide (e.on < i)) &&
 (List.range ops.size).all fun j => (List.range j).all fun i => befB ops j i || (!clash ops (ops.getD i default) (ops.getD j default) && !clash ops (ops.getD j default) (ops.getD i default) && !(hk inl (ops.getD i default) == 2 && hk inl (ops.getD j default) == 2))
section
variable {P : Program} {C : Orc} {ops : Array Oper}
theorem runV_at {nt : Nat} : ∀ {l : List Oper} {s r : Env × Heap} {q : List (Env × Heap × AVal)}, runV P C nt ops l s = some (q, r) →
  q.length = l.length ∧ envV q r 0 = s.1 ∧ heapV q r 0 = s.2 ∧ envV q r l.length = r.1 ∧ heapV q r l.length = r.2 ∧
   ∀ i o, l[i]? = some o → dstOk nt o = true ∧ act P C ops o (ev (envV q r i)) (heapV q r i) = some (valV q i, heapV q r (i + 1)) ∧ envV q r (i + 1) = put (envV q r i) o.dst (valV q i)
 | [], s, r, q, h => by
  simp only [runV, Option.some.injEq, Prod.mk.injEq] at h
  obtain ⟨rfl, rfl⟩ := h
  exact ⟨rfl, rfl, rfl, rfl, rfl, fun i o h => by simp at h⟩
 | o :: l, s, r, q, h => by
  simp only [runV] at h
  split at h
  case isFalse => cases h
  rename_i hd
  split at h
  case h_2 => cases h
  rename_i v H' ha
  split at h
  case h_2 => cases h
  rename_i q' r' hr
  simp only [Option.some.injEq, Prod.mk.injEq] at h
  obtain ⟨rfl, rfl⟩ := h
  obtain ⟨i1, i2, i3, i4, i5, i6⟩ := runV_at hr
  have e1 : ∀ i, envV ((s.1, s.2, v) :: q') r' (i + 1) = envV q' r' i := fun i => by simp [envV]
  have e2 : ∀ i, heapV ((s.1, s.2, v) :: q') r' (i + 1) = heapV q' r' i := fun i => by simp [heapV]
  have e3 : ∀ i, valV ((s.1, s.2, v) :: q') (i + 1) = valV q' i := fun i => by simp [valV]
  refine ⟨by simp [i1], rfl, rfl, by rw [List.length_cons, e1]; exact i4, by rw [List.length_cons, e2]; exact i5, fun i p hp => ?_⟩
  cases i with
  | zero =>
   simp at hp; subst hp
   rw [e1, e2, i2, i3]
   exact ⟨hd, ha, rfl⟩
  | succ i =>
   rw [e1, e2, e1, e2, e3]
   exact i6 i p (by simpa using hp)
theorem regionV_canon {nt : Nat} {ρ : Env} {H : Heap} {s : Env × Heap} (hrf : rfV C.inl ops = true) (h : regionV P C nt ops ρ H = some s) :
  ∃ V HH E, CanV P C ops nt V HH E ∧ EdgesLt ops ∧ E 0 = ρ ∧ HH 0 = H ∧ E ops.size = s.1 ∧ HH ops.size = s.2 := by
 unfold regionV at h
 split at h
 case h_2 => cases h
 rename_i q r hr
 split at h
 case isFalse => cases h
 rename_i hall
 simp only [Option.some.injEq] at h
 subst h
 obtain ⟨i1, i2, i3, i4, i5, i6⟩ := runV_at hr
 simp only [Array.length_toList] at i1 i4 i5
 have hrf' := hrf
 simp only [rfV, Bool.and_eq_true, List.all_eq_true] at hrf'
 obtain ⟨hlt, hpair⟩ := hrf'
 have hE : EdgesLt ops := by
  intro i o ho e he hb
  have h1 := hlt (o, i) (by
   rw [List.mem_zipIdx_iff_getElem?]
   simpa using ho)
  simp only [Array.all_eq_true', Bool.or_eq_true, Bool.not_eq_true', decide_eq_true_eq] at h1
  rcases h1 e (Array.mem_toList_iff.1 he) with h | h
  ·rw [hb] at h; cases h
  ·exact h
 have hget : ∀ i, i < ops.size → ops.toList[i]? = some (ops.getD i default) := fun i hi => by simp [Array.getD, hi]
 have hag : ∀ a w, a < ops.size → w < ops.size → hk C.inl (ops.getD a default) = 1 → hk C.inl (ops.getD w default) = 2 → (if w < a then !befB ops a w else !befB ops w a) = true → againV P C ops q r (a, w) = true := by
  intro a w ha hw h1 h2 h3
  refine List.all_eq_true.1 hall _ ?_
  unfold pairsV
  rw [List.mem_flatMap]
  refine ⟨a, by simpa using ha, ?_⟩
  rw [if_pos h1, List.mem_map]
  refine ⟨w, ?_, rfl⟩
  rw [List.mem_filter]
  refine ⟨by simpa using hw, ?_⟩
  simp only [h2, decide_true, Bool.true_and]
  exact h3
 have hval : ∀ a w, againV P C ops q r (a, w) = true → hk C.inl (ops.getD a default) = 1 → act P C ops (ops.getD a default) (ev (envV q r a)) (heapV q r (if w < a then w else w + 1)) = some (valV q a, heapV q r (if w < a then w else w + 1)) := by
  intro a w h1 h2
  unfold againV at h1
  simp only at h1
  split at h1
  ·rename_i v H' hv
   have e1 := act_quiet (by omega) hv
   rw [hv, beqA_eq h1, e1]
  ·cases h1
 refine ⟨valV q, heapV q r, envV q r, ⟨fun i hi => (i6 i _ (hget i hi)).1, fun i hi => (i6 i _ (hget i hi)).2.1, fun i hi => (i6 i _ (hget i hi)).2.2, fun k i hki hi => ?_, fun a w hwa ha h1 h2 h3 => ?_, fun a w haw hw h1 h2 h3 => ?_⟩, hE, i2, i3, i4, i5⟩
 ·have := hpair i (by simpa using hi) k (by simpa using hki)
  simp only [Bool.or_eq_true, Bool.and_eq_true, Bool.not_eq_true'] at this
  rcases this with h | ⟨⟨h1, h2⟩, h3⟩
  ·exact .inl h
  ·exact .inr ⟨h1, h2, fun q => by rw [q.1, q.2] at h3; exact absurd h3 (by decide)⟩
 ·have := hval a w (hag a w ha (by omega) h1 h2 (by rw [if_pos hwa, h3]; rfl)) h1
  rwa [if_pos hwa] at this
 ·have := hval a w (hag a w (by omega) hw h1 h2 (by rw [if_neg (by omega), h3]; rfl)) h1
  rwa [if_neg (by omega)] at this
end
def execRV (P : Program) (C : Orc) (nt : Nat) (ops : Array Oper) (draw : Bool) (ρ : Env) (H : Heap) : Option (Env × Heap) :=
 if (draw && !raceFree C.inl ops) = true then cond (rfV C.inl ops) (regionV P C nt ops ρ H) none else runL P C nt ops ops.toList (ρ, H)
def codeRV (inl : FuncId → Bool) : Code → Bool
 | .region _ _ _ => true
 | .seq x y => codeRV inl x && codeRV inl y
 | .cond _ x y => codeRV inl x && codeRV inl y
 | .block _ x => codeRV inl x
 | .loop x => codeRV inl x
 | _ => true
section
variable {P : Program} {C : Orc} {nt n0 : Nat}
theorem execRV_sound (hC : OrcOk P C) (hm : P.follows .mixedOrders = true) {id : Nat} {ops : Array Oper} {draw : Bool} {ρ : Env} {H : Heap} {s : Env × Heap} (hrf : codeRV C.inl (.region id ops draw) = true) (h : execRV P C nt ops draw ρ H = some s) :
  AWp P nt n0 (.region id ops draw) (IsX (.normal, s.1, s.2)) ρ H := by
 intro fr base w0 β fz a w h1 h2 hs
 subst h1
 have hQ : ∀ β fz a w, Sim fr base w0 β fz s.1 s.2 a w → ∃ ρ' H' β' fz', IsX (.normal, s.1, s.2) .normal ρ' H' ∧ Sim fr base w0 β' fz' ρ' H' a w := fun β fz a w hs => ⟨s.1, s.2, β, fz, rfl, hs⟩
 unfold execRV at h
 split at h
 ·rename_i hc
  simp only [Bool.and_eq_true, Bool.not_eq_true'] at hc
  obtain ⟨rfl, hnr⟩ := hc
  cases hrf : rfV C.inl ops with
  | false => rw [hrf] at h; cases h
  | true =>
  rw [hrf, cond_true] at h
  obtain ⟨V, HH, E, hcan, hE, e0, e1, e2, e3⟩ := regionV_canon hrf h
  apply wp_region_any hm
  have hrest : rest ops (Array.replicate ops.size false) = List.range ops.size := by
   unfold rest
   rw [List.filter_eq_self]
   intro i hi
   have : i < ops.size := by simpa using hi
   simp [Array.getD_eq_getD_getElem?, this]
  have hf : ∀ i, (Array.replicate ops.size false).getD i false = false := fun i => by
   rw [Array.getD_eq_getD_getElem?]
   by_cases hi : i < ops.size
   ·simp [hi]
   ·simp [hi]
  refine any_wpV hC hE hcan _ (fun β fz ρ a w he hs => hQ β fz a w ?_) ops.size _ ρ H β fz a _ (by simp) (by rw [hrest]; simp) ?_ ?_ hs.drew
  ·rw [e3] at hs
   exact ⟨hs.heap, hs.defers, hs.size, hs.ext, fun t => by have := hs.env t; rw [← he t, e2] at this; exact this⟩
  ·intro i o ho hl
   rw [hf] at hl; cases hl
  ·refine ⟨fun t => ?_, 0, by omega, e1.symm, fun w _ _ => ?_⟩
   ·have e4 : ∀ m, canV ops V (E 0) (fun _ => false) m = E 0 := by
     intro m
     induction m with
     | zero => rfl
     | succ m ih => simp only [canV, Bool.false_eq_true, if_false]; exact ih
    rw [canV_congr (g := fun _ => false) (fun k _ _ => hf k), e4, e0]
   ·rw [hf]; simp
 ·rename_i hc
  refine region_wp hC hm (fun hd => ?_) _ hs (ρn := s.1) (Hn := s.2) h hQ
  subst hd
  simpa using hc
end
theorem codeRV_true (inl : FuncId → Bool) : ∀ c : Code, codeRV inl c = true := by
 intro c
 induction c with
 | seq x y ihx ihy => simp only [codeRV, ihx, ihy, Bool.and_self]
 | cond c x y ihx ihy => simp only [codeRV, ihx, ihy, Bool.and_self]
 | block id x ih => simp only [codeRV, ih]
 | loop x ih => simp only [codeRV, ih]
 | _ => rfl
def execV (P : Program) (C : Orc) (nt : Nat) (live : Nat → Option (List Nat)) (k : Nat) : Code → Nat → Env → Heap → Option Res
 | .skip, _, ρ, H => some (.normal, ρ, H)
 | .region _ ops draw, _, ρ, H => match execRV P C nt ops draw ρ H with
  | some s => some (.normal, s.1, s.2)
  | none => none
 | .seq x y, b, ρ, H => match execV P C nt live k x b ρ H with
  | some (.normal, ρ', H') => execV P C nt live k y b ρ' H'
  | r => r
 | .cond c x y, b, ρ, H => match opd ρ c with
  | .v (.bool true) => execV P C nt live k x b ρ H
  | .v (.bool false) => execV P C nt live k y b ρ H
  | _ => none
 | .block id c, _, ρ, H => match execV P C nt live k c id ρ H with
  | some (.exit id', ρ', H') => if id' = id then some (.normal, ρ', H') else some (.exit id', ρ', H')
  | r => r
 | .loop c, b, ρ, H => iterP (execV P C nt live k c b) (live b) k ρ H
 | .exit id, _, ρ, H => some (.exit id, ρ, H)
 | .ret, _, ρ, H => some (.ret, ρ, H)
 | .label _, _, ρ, H => some (.normal, ρ, H)
 | _, _, _, _ => none
section
variable {P : Program} {C : Orc} {nt n0 : Nat}
theorem execV_sound (hC : OrcOk P C) (hm : P.follows .mixedOrders = true) {live : Nat → Option (List Nat)} {k : Nat} : ∀ (c : Code) (b : Nat) (ρ : Env) (H : Heap) (r : Res), codeRV C.inl c = true → execV P C nt live k c b ρ H = some r → AWp P nt n0 c (IsX r) ρ H := by
 intro c
 induction c with
 | skip => intro b ρ H r _ h f base w0 β fz a w h1 h2 hs; simp only [execV, Option.some.injEq] at h; exact wp_skip ⟨ρ, H, β, fz, h.symm, hs⟩
 | label l => intro b ρ H r _ h f base w0 β fz a w h1 h2 hs; simp only [execV, Option.some.injEq] at h; exact wp_label ⟨ρ, H, β, fz, h.symm, hs⟩
 | exit id => intro b ρ H r _ h f base w0 β fz a w h1 h2 hs; simp only [execV, Option.some.injEq] at h; exact wp_exit ⟨ρ, H, β, fz, h.symm, hs⟩
 | ret => intro b ρ H r _ h f base w0 β fz a w h1 h2 hs; simp only [execV, Option.some.injEq] at h; exact wp_ret ⟨ρ, H, β, fz, h.symm, hs⟩
 | region id ops draw =>
  intro b ρ H r hrf h
  simp only [execV] at h
  split at h
  ·rename_i s hs
   simp only [Option.some.injEq] at h
   subst h
   exact execRV_sound hC hm hrf hs
  ·cases h
 | seq x y ihx ihy =>
  intro b ρ H r hrf h
  simp only [codeRV, Bool.and_eq_true] at hrf
  simp only [execV] at h
  refine AWp.seq ?_
  split at h
  ·rename_i ρ' H' h1
   refine (ihx _ _ _ _ hrf.1 h1).mono ?_
   rintro e ρ2 H2 q
   simp only [IsX, Prod.mk.injEq] at q
   obtain ⟨rfl, rfl, rfl⟩ := q
   exact ihy _ _ _ _ hrf.2 h
  ·rename_i hn
   refine (ihx _ _ _ _ hrf.1 h).mono ?_
   rintro e ρ2 H2 q
   cases e with
   | normal =>
    simp only [IsX] at q
    subst q
    exact (hn _ _ h).elim
   | _ => exact q
 | cond c x y ihx ihy =>
  intro b ρ H r hrf h fr base w0 β fz a w h1 h2 hs
  simp only [codeRV, Bool.and_eq_true] at hrf
  simp only [execV, opd_eq] at h
  have hc := res_R (g := true) rfl (hs.ev c)
  split at h
  ·rename_i ht
   rw [ht] at hc
   exact wp_cond hc.v_inv (ihx _ _ _ _ hrf.1 h fr base w0 β fz a w h1 h2 hs)
  ·rename_i ht
   rw [ht] at hc
   exact wp_cond hc.v_inv (ihy _ _ _ _ hrf.2 h fr base w0 β fz a w h1 h2 hs)
  ·cases h
 | block id x ih =>
  intro b ρ H r hrf h fr base w0 β fz a w h1 h2 hs
  simp only [codeRV] at hrf
  simp only [execV] at h
  split at h
  ·rename_i id' ρ' H' hx
   refine wp_block (wp_mono (ih _ _ _ _ hrf hx fr base w0 β fz a w h1 h2 hs) ?_)
   rintro e a' w' ⟨ρ2, H2, β', fz', q, s⟩
   simp only [IsX, Prod.mk.injEq] at q
   obtain ⟨rfl, rfl, rfl⟩ := q
   simp only [Exit.inBlock]
   split at h <;> (rename_i hid; simp only [Option.some.injEq] at h; subst h)
   ·rw [if_pos hid]; exact ⟨ρ', H', β', fz', rfl, s⟩
   ·rw [if_neg hid]; exact ⟨ρ', H', β', fz', rfl, s⟩
  ·rename_i hn
   refine wp_block (wp_mono (ih _ _ _ _ hrf h fr base w0 β fz a w h1 h2 hs) ?_)
   rintro e a' w' ⟨ρ2, H2, β', fz', q, s⟩
   cases e with
   | exit id' => simp only [IsX] at q; subst q; exact (hn _ _ _ h).elim
   | _ => exact ⟨ρ2, H2, β', fz', q, s⟩
 | loop x ih =>
  intro b ρ H r hrf h
  simp only [codeRV] at hrf
  simp only [execV] at h
  exact iterP_sound (fun ρ H r hW => ih b ρ H r hrf hW) h
 | rangeFunc _ _ _ _ _ _ => intro b ρ H r _ h; simp [execV] at h
 | scope _ _ => intro b ρ H r _ h; simp [execV] at h
 | goto _ => intro b ρ H r _ h; simp [execV] at h
 | refuse _ => intro b ρ H r _ h; simp [execV] at h
theorem runV_quiet {ops : Array Oper} : ∀ {l : List Oper} {s r : Env × Heap} {q : List (Env × Heap × AVal)}, (∀ o ∈ l, hk C.inl o ≠ 2) → runV P C nt ops l s = some (q, r) → r.2 = s.2
 | [], s, r, q, _, h => by simp only [runV, Option.some.injEq, Prod.mk.injEq] at h; rw [h.2]
 | o :: l, s, r, q, hl, h => by
  simp only [runV] at h
  split at h
  case isFalse => cases h
  split at h
  case h_2 => cases h
  rename_i v H' ha
  split at h
  case h_2 => cases h
  rename_i q' r' hr
  simp only [Option.some.injEq, Prod.mk.injEq] at h
  obtain ⟨_, rfl⟩ := h
  have e1 := runV_quiet (fun o ho => hl o (List.mem_cons_of_mem _ ho)) hr
  have e2 := act_quiet (hl o List.mem_cons_self) ha
  simp only at e1
  rw [e1, e2]
theorem execRV_quiet {ops : Array Oper} {draw : Bool} {ρ : Env} {H : Heap} {s : Env × Heap} (hq : quietR C.inl ops = true) (h : execRV P C nt ops draw ρ H = some s) : s.2 = H := by
 have hl : ∀ o ∈ ops.toList, hk C.inl o ≠ 2 := fun o ho => by
  have := List.all_eq_true.1 hq o ho
  simpa using this
 unfold execRV at h
 split at h
 ·cases hrf : rfV C.inl ops with
  | false => rw [hrf] at h; cases h
  | true =>
  rw [hrf, cond_true] at h
  unfold regionV at h
  split at h
  case h_2 => cases h
  rename_i q r hr
  split at h
  case isFalse => cases h
  simp only [Option.some.injEq] at h
  subst h
  exact runV_quiet hl hr
 ·exact runL_quiet hl h
theorem execV_quiet {live : Nat → Option (List Nat)} {k : Nat} : ∀ (c : Code) (b : Nat) (ρ : Env) (H : Heap) (r : Res), quietC C.inl c = true → execV P C nt live k c b ρ H = some r → r.2.2 = H := by
 intro c
 induction c with
 | skip => intro b ρ H r _ h; simp only [execV, Option.some.injEq] at h; subst h; rfl
 | label l => intro b ρ H r _ h; simp only [execV, Option.some.injEq] at h; subst h; rfl
 | exit id => intro b ρ H r _ h; simp only [execV, Option.some.injEq] at h; subst h; rfl
 | ret => intro b ρ H r _ h; simp only [execV, Option.some.injEq] at h; subst h; rfl
 | region id ops draw =>
  intro b ρ H r hq h
  simp only [execV] at h
  split at h
  ·rename_i s hs
   simp only [Option.some.injEq] at h
   subst h
   exact execRV_quiet hq hs
  ·cases h
 | seq x y ihx ihy =>
  intro b ρ H r hq h
  simp only [quietC, Bool.and_eq_true] at hq
  simp only [execV] at h
  split at h
  ·rename_i ρ' H' h1
   have := ihx _ _ _ _ hq.1 h1
   simp only at this
   subst this
   exact ihy _ _ _ _ hq.2 h
  ·exact ihx _ _ _ _ hq.1 h
 | cond c x y ihx ihy =>
  intro b ρ H r hq h
  simp only [quietC, Bool.and_eq_true] at hq
  simp only [execV] at h
  split at h
  ·exact ihx _ _ _ _ hq.1 h
  ·exact ihy _ _ _ _ hq.2 h
  ·cases h
 | block id x ih =>
  intro b ρ H r hq h
  simp only [quietC] at hq
  simp only [execV] at h
  split at h
  ·rename_i id' ρ' H' hx
   have := ih _ _ _ _ hq hx
   split at h <;> (simp only [Option.some.injEq] at h; subst h; exact this)
  ·exact ih _ _ _ _ hq h
 | loop x ih =>
  intro b ρ H r hq h
  simp only [quietC] at hq
  simp only [execV] at h
  exact iterP_quiet (fun ρ H r hW => ih b ρ H r hq hW) h
 | rangeFunc _ _ _ _ _ _ => intro b ρ H r _ h; simp [execV] at h
 | scope _ _ => intro b ρ H r _ h; simp [execV] at h
 | goto _ => intro b ρ H r _ h; simp [execV] at h
 | refuse _ => intro b ρ H r _ h; simp [execV] at h
end
def wrO (inl : FuncId → Bool) (a : Tmp) (o : Oper) : Bool :=
 match o.guard with
 | some _ => false
 | none => match o.op with
  | .alloc _ => true
  | .box _ _ => true
  | .store _ (.tmp x) _ => Nat.beq x a && o.dst.isNone
  | _ => !(Nat.beq (hk inl o) 2) && (match o.dst with
   | some d => !(Nat.beq d a)
   | none => true)
def wrC (inl : FuncId → Bool) (a : Tmp) : Code → Bool
 | .skip => true
 | .exit _ => true
 | .ret => true
 | .label _ => true
 | .region _ ops draw => !draw && ops.toList.all (wrO inl a)
 | .seq x y => wrC inl a x && wrC inl a y
 | .cond _ x y => wrC inl a x && wrC inl a y
 | .block _ x => wrC inl a x
 | _ => false
structure FrI (n0 : Nat) (H0 : Heap) (a : Tmp) (ρ : Env) (H : Heap) : Prop where
 len : n0 ≤ H.length
 same : ∀ i, i < n0 → H[i]? = H0[i]?
 own : ∀ id sz i off, res true (look ρ a) = .ptr id sz i off → n0 ≤ id
section
variable {P : Program} {C : Orc} {nt n0 : Nat} {H0 : Heap} {a : Tmp} {ops : Array Oper}
theorem new_frame {ρ : Env} {H : Heap} {sz : Nat} {rows : List Row} {d : Option Tmp} (hI : FrI n0 H0 a ρ H) : FrI n0 H0 a (put ρ d (.ptr H.length sz 0 0)) (newObj' H sz rows) := by
 refine ⟨?_, fun i hi => ?_, fun id sz' i off hl => ?_⟩
 ·have := hI.len
  simp [newObj']; omega
 ·unfold newObj'
  rw [List.getElem?_append_left (Nat.lt_of_lt_of_le hi hI.len)]
  exact hI.same i hi
 ·rw [look_put] at hl
  split at hl
  ·simp only [res, AVal.ptr.injEq] at hl
   rw [← hl.1]; exact hI.len
  ·exact hI.own id sz' i off hl
theorem step_frame {o : Oper} {ρ ρ' : Env} {H H' : Heap} (hw : wrO C.inl a o = true) (hI : FrI n0 H0 a ρ H) (h : step1 P C nt ops o (ρ, H) = some (ρ', H')) : FrI n0 H0 a ρ' H' := by
 unfold wrO at hw
 split at hw
 ·cases hw
 rename_i hg
 unfold step1 at h
 split at h
 case isFalse => cases h
 simp only [hg] at h
 simp only [Option.map_eq_some_iff, Prod.mk.injEq] at h
 obtain ⟨⟨v, H2⟩, ha, rfl, rfl⟩ := h
 simp only
 split at hw
 ·rename_i t hop
  unfold astep at ha
  rw [hop] at ha
  simp only [astepE, hop] at ha
  unfold aAlloc at ha
  split at ha
  ·split at ha
   ·simp only [Option.some.injEq, Prod.mk.injEq] at ha
    obtain ⟨rfl, rfl⟩ := ha
    exact new_frame hI
   ·cases ha
  ·cases ha
 ·rename_i t x hop
  unfold astep at ha
  rw [hop] at ha
  simp only [astepE, hop] at ha
  unfold aBox at ha
  split at ha
  ·split at ha
   ·cases ha
   ·simp only [Option.some.injEq, Prod.mk.injEq] at ha
    obtain ⟨rfl, rfl⟩ := ha
    exact new_frame hI
  ·cases ha
 ·rename_i t x y hop
  simp only [Bool.and_eq_true] at hw
  have hxa : x = a := Nat.eq_of_beq_eq_true hw.1
  subst hxa
  have hd : o.dst = none := by cases hq : o.dst with
   | none => rfl
   | some d => rw [hq] at hw; simp at hw
  unfold astep at ha
  rw [hop] at ha
  simp only [astepE, hop, Option.map_eq_some_iff, Prod.mk.injEq] at ha
  obtain ⟨H3, hst, rfl, rfl⟩ := ha
  rw [hd]
  have key : ∃ id q, n0 ≤ id ∧ H3 = H.set id q := by
   unfold aStore at hst
   split at hst
   ·rename_i id sz i off hp
    have hid := hI.own id sz i off hp
    split at hst
    ·split at hst
     ·split at hst
      ·simp only [Option.some.injEq] at hst; exact ⟨id, _, hid, hst.symm⟩
      ·split at hst
       ·simp only [Option.some.injEq] at hst; exact ⟨id, _, hid, hst.symm⟩
       ·cases hst
     ·cases hst
    ·cases hst
   ·cases hst
  obtain ⟨id, q, hid, rfl⟩ := key
  refine ⟨by simpa using hI.len, fun i hi => ?_, fun id' sz i off hl => hI.own id' sz i off hl⟩
  rw [List.getElem?_set_ne (by omega)]
  exact hI.same i hi
 ·rename_i hn1 hn2 hn3
  simp only [Bool.and_eq_true, Bool.not_eq_true'] at hw
  have h2 : hk C.inl o ≠ 2 := fun e => by rw [e] at hw; cases hw.1
  have hq : H2 = H := astep_read (fun _ => rfl) h2 ha
  subst hq
  refine ⟨hI.len, hI.same, fun id sz i off hl => hI.own id sz i off ?_⟩
  have hne : ¬ o.dst = some a := by
   intro e
   rw [e] at hw
   have h3 := hw.2
   simp only [Nat.beq_refl, Bool.not_true] at h3
   cases h3
  rw [look_put, if_neg hne] at hl
  exact hl
theorem runL_frame : ∀ {l : List Oper} {ρ : Env} {H : Heap} {s : Env × Heap}, l.all (wrO C.inl a) = true → FrI n0 H0 a ρ H → runL P C nt ops l (ρ, H) = some s → FrI n0 H0 a s.1 s.2
 | [], ρ, H, s, _, hI, h => by simp only [runL, Option.some.injEq] at h; subst h; exact hI
 | o :: l, ρ, H, s, hw, hI, h => by
  simp only [List.all_cons, Bool.and_eq_true] at hw
  simp only [runL] at h
  split at h
  ·rename_i s' hs
   exact runL_frame (ρ := s'.1) (H := s'.2) hw.2 (step_frame hw.1 hI hs) h
  ·cases h
theorem execV_frame {live : Nat → Option (List Nat)} {k : Nat} : ∀ (c : Code) (b : Nat) (ρ : Env) (H : Heap) (r : Res), wrC C.inl a c = true → FrI n0 H0 a ρ H → execV P C nt live k c b ρ H = some r → FrI n0 H0 a r.2.1 r.2.2 := by
 intro c
 induction c with
 | skip => intro b ρ H r _ hI h; simp only [execV, Option.some.injEq] at h; subst h; exact hI
 | label l => intro b ρ H r _ hI h; simp only [execV, Option.some.injEq] at h; subst h; exact hI
 | exit id => intro b ρ H r _ hI h; simp only [execV, Option.some.injEq] at h; subst h; exact hI
 | ret => intro b ρ H r _ hI h; simp only [execV, Option.some.injEq] at h; subst h; exact hI
 | region id ops draw =>
  intro b ρ H r hw hI h
  simp only [wrC, Bool.and_eq_true, Bool.not_eq_true'] at hw
  simp only [execV] at h
  split at h
  ·rename_i s hs
   simp only [Option.some.injEq] at h
   subst h
   unfold execRV at hs
   rw [hw.1] at hs
   simp only [Bool.false_and, Bool.false_eq_true, if_false] at hs
   exact runL_frame hw.2 hI hs
  ·cases h
 | seq x y ihx ihy =>
  intro b ρ H r hw hI h
  simp only [wrC, Bool.and_eq_true] at hw
  simp only [execV] at h
  split at h
  ·rename_i ρ' H' h1
   exact ihy _ _ _ _ hw.2 (ihx _ _ _ _ hw.1 hI h1) h
  ·exact ihx _ _ _ _ hw.1 hI h
 | cond c x y ihx ihy =>
  intro b ρ H r hw hI h
  simp only [wrC, Bool.and_eq_true] at hw
  simp only [execV] at h
  split at h
  ·exact ihx _ _ _ _ hw.1 hI h
  ·exact ihy _ _ _ _ hw.2 hI h
  ·cases h
 | block id x ih =>
  intro b ρ H r hw hI h
  simp only [wrC] at hw
  simp only [execV] at h
  split at h
  ·rename_i id' ρ' H' hx
   have := ih _ _ _ _ hw hI hx
   split at h <;> (simp only [Option.some.injEq] at h; subst h; exact this)
  ·exact ih _ _ _ _ hw hI h
 | loop x ih => intro b ρ H r hw _ h; cases hw
 | rangeFunc _ _ _ _ _ _ => intro b ρ H r hw _ h; cases hw
 | scope _ _ => intro b ρ H r hw _ h; cases hw
 | goto _ => intro b ρ H r hw _ h; cases hw
 | refuse _ => intro b ρ H r hw _ h; cases hw
end
def qtM (m : Row → Heap → Option (AVal × Heap)) (a : Tmp) (args : Row) (H : Heap) : Option (AVal × Heap) :=
 match Nat.ble args.length a, m args H with
 | true, some (r, _) => cond (lowA H.length r) (some (r, H)) none
 | _, _ => none
theorem envOf_junk {a : Nat} : ∀ (args : Row) (k : Nat), k + args.length ≤ a → look (envOf k args) a = .junk
 | [], k, h => rfl
 | x :: l, k, h => by
  simp only [envOf, look]
  simp only [List.length_cons] at h
  rw [if_neg (by omega)]
  exact envOf_junk l (k + 1) (by omega)
def catM (P : Program) (t : TypeId) (X : XF) (args : Row) (H : Heap) : Option (AVal × Heap) :=
 match args with
 | [.fn g caps] => match callOk P g, aAlloc P t H with
  | true, some (p, H1) => match X g caps H1 with
   | some (r, H2) => match aStore P t p r H2 with
    | some H3 => (aLoad P t p H3).map (·, H3)
    | none => none
   | none => none
  | _, _ => none
 | _ => none
def normW (P : Program) (T : Tab) (live : FuncId → Nat → Option (List Nat)) (k : Nat) (X : XF) : XF := fun f args H =>
 match T.fin f, P.funcs[f]? with
 | true, some fn => match fn.body with
  | some c => cond (Nat.ble args.length fn.ntmps) (endK P fn.results.toList (execV P (orcX T X f) fn.ntmps (live f) k c 0 (envOf 0 args) H)) none
  | none => none
 | _, _ => none
def extM (g : Row → Option Value) (args : Row) (H : Heap) : Option (AVal × Heap) := ((g args).map AVal.v).map (·, H)
noncomputable def execW (P : Program) (T : Tab) (cat : FuncId → Sp) (live : FuncId → Nat → Option (List Nat)) (k : Nat) : Nat → XF
 | 0, _, _, _ => none
 | n + 1, f, args, H => match cat f with
  | .cat t => catM P t (execW P T cat live k n) args H
  | .snap a m l r m' l' => snapM a m l r m' l' args H
  | .emp => empM (normW P T live k (execW P T cat live k n) f) args H
  | .ext g => extM g args H
  | .gen m _ _ => m (execW P T cat live k n) args H
  | .qt a => qtM (normW P T live k (execW P T cat live k n) f) a args H
  | .no => normW P T live k (execW P T cat live k n) f args H
structure TabV (P : Program) (T : Tab) (cat : FuncId → Sp) : Prop where
 qt : ∀ f fn c, T.rdf f = true → cat f = .no → P.funcs[f]? = some fn → fn.body = some c → quietC (fun g => !T.rdf g) c = true
 nc : ∀ f, T.rdf f = true → cat f = .no ∨ cat f = .emp ∨ (∃ g, cat f = .ext g) ∨ ∃ a, cat f = .qt a
 qtt : ∀ f a, cat f = .qt a → ∃ fn c, P.funcs[f]? = some fn ∧ fn.body = some c ∧ wrC (fun g => !T.rdf g) a c = true
 snap : ∀ f a m l r m' l', cat f = .snap a m l r m' l' → InlOk P f (snapM a m l r m' l')
 ext : ∀ f g, cat f = .ext g → InlOk P f (extM g)
 gen : ∀ f m mt h, cat f = .gen m mt h → ∀ X : XF, (∀ g, OrcOk P (orcX T X g)) → InlOk P f (m X)
 cat : ∀ f t, cat f = .cat t → ∀ X : XF, (∀ g, InlOk P g (X g)) → InlOk P f (catM P t X)
section
variable {P : Program} {T : Tab} {cat : FuncId → Sp} {live : FuncId → Nat → Option (List Nat)} {k : Nat}
theorem normW_some {X : XF} {f : FuncId} {args : Row} {H : Heap} {r : AVal × Heap} (h : normW P T live k X f args H = some r) : T.fin f = true ∧ ∃ fn c, P.funcs[f]? = some fn ∧ fn.body = some c ∧ args.length ≤ fn.ntmps ∧ endK P fn.results.toList (execV P (orcX T X f) fn.ntmps (live f) k c 0 (envOf 0 args) H) = some r := by
 unfold normW at h
 split at h
 ·rename_i fn h1 h2
  split at h
  ·rename_i c hb
   cases hl : Nat.ble args.length fn.ntmps with
   | false => rw [hl] at h; cases h
   | true =>
    rw [hl] at h
    exact ⟨h1, fn, c, h2, hb, Nat.le_of_ble_eq_true hl, h⟩
  ·cases h
 ·cases h
theorem execW_quiet (hT : TabV P T cat) {n : Nat} {f : FuncId} {args : Row} {H H' : Heap} {r : AVal} (hf : T.rdf f = true) (h : execW P T cat live k n f args H = some (r, H')) : H' = H := by
 cases n with
 | zero => simp [execW] at h
 | succ n =>
  rcases hT.nc f hf with hc | hc | ⟨g, hc⟩ | ⟨a, hc⟩
  ·simp only [execW, hc] at h
   obtain ⟨hfin, fn, c, hfn, hb, hn, he⟩ := normW_some h
   obtain ⟨e, ρ, H2, l, hx, _, _, hr⟩ := endK_some he
   have := execV_quiet c _ _ _ _ (hT.qt f fn c hf hc hfn hb) hx
   cases hr
   exact this
  ·simp only [execW, hc] at h
   unfold empM at h
   split at h
   ·simp only [Option.some.injEq, Prod.mk.injEq] at h; exact h.2.symm
   ·cases h
  ·simp only [execW, hc, extM, Option.map_map, Option.map_eq_some_iff, Function.comp, Prod.mk.injEq] at h
   obtain ⟨x, _, _, h3⟩ := h
   exact h3.symm
  ·simp only [execW, hc, qtM] at h
   split at h
   ·rename_i r' H2 hb hm
    cases hl : lowA H.length r' with
    | false => rw [hl] at h; cases h
    | true =>
     rw [hl, cond_true] at h
     simp only [Option.some.injEq, Prod.mk.injEq] at h
     exact h.2.symm
   ·cases h
theorem orcV_ok (hT : TabV P T cat) {X : XF} (hX : ∀ f, InlOk P f (X f)) (hq : ∀ f args H r H', T.rdf f = true → X f args H = some (r, H') → H' = H) (g : FuncId) : OrcOk P (orcX T X g) where
 pure := fun f args r h => by simp [orcX] at h
 inline := fun f _ => hX f
 foot := fun f args ids h => by simp [orcX] at h
 rd := fun f m h => by
  simp only [orcX] at h
  split at h
  ·rename_i hr
   simp only [Option.some.injEq] at h
   subst h
   intro args H r H' h2
   simp only [Option.map_map, Option.map_eq_some_iff, Function.comp, Prod.mk.injEq] at h2
   obtain ⟨q, hq1, rfl, rfl⟩ := h2
   have := hq f args H q.1 q.2 hr hq1
   exact hX f args H q.1 H (by rw [hq1, ← this])
  ·cases h
 cells := fun f h => by simp [orcX] at h
theorem normW_inl (hm : P.follows .mixedOrders = true) {X : XF} (hC : ∀ f, OrcOk P (orcX T X f)) (f : FuncId) : InlOk P f (normW P T live k X f) := by
 cases hfn : P.funcs[f]? with
 | none =>
  intro args H r H' h
  obtain ⟨_, fn, c, h1, _⟩ := normW_some h
  rw [hfn] at h1; cases h1
 | some fn =>
  cases hb : fn.body with
  | none =>
   intro args H r H' h
   obtain ⟨_, fn', c, h1, h2, _⟩ := normW_some h
   rw [hfn] at h1; cases h1
   rw [hb] at h2; cases h2
  | some c =>
   refine inl_of hfn hb fun args H r H' h => ?_
   obtain ⟨hfin, fn', c', h1, h2, hn, he⟩ := normW_some h
   rw [hfn] at h1; cases h1
   rw [hb] at h2; cases h2
   obtain ⟨e, ρ, H2, l, hx, hel, hl, hr⟩ := endK_some he
   cases hr
   refine ⟨hn, (execV_sound (n0 := H.length) (hC f) hm c _ _ _ _ (codeRV_true _ c) hx).mono ?_⟩
   rintro e' ρ' H3 q
   simp only [IsX, Prod.mk.injEq] at q
   obtain ⟨rfl, rfl, rfl⟩ := q
   rcases hel with rfl | rfl <;> simp only [retA, hl, and_self]
theorem qt_inl (hm : P.follows .mixedOrders = true) {X : XF} (hC : ∀ f, OrcOk P (orcX T X f)) {f : FuncId} {a : Tmp} {fn : Func} {c : Code} (hf : P.funcs[f]? = some fn) (hb : fn.body = some c) (hw : wrC (fun g => !T.rdf g) a c = true) : InlOk P f (qtM (normW P T live k X f) a) := by
 intro args H r H' hr base w0 β fz w vals hs hargs fn0 hfn
 unfold qtM at hr
 split at hr
 case h_2 => cases hr
 rename_i r' H2 hle hx
 cases hl : lowA H.length r' with
 | false => rw [hl] at hr; cases hr
 | true =>
 rw [hl, cond_true] at hr
 simp only [Option.some.injEq, Prod.mk.injEq] at hr
 obtain ⟨rfl, rfl⟩ := hr
 obtain ⟨hfin, fn', c', h1, h2, hn, he⟩ := normW_some hx
 rw [hf] at h1; cases h1
 rw [hb] at h2; cases h2
 obtain ⟨e, ρ, H3, l, hxx, hel, hl3, hr3⟩ := endK_some he
 cases hr3
 have hfr : FrI H.length H a ρ H2 := execV_frame (C := orcX T X f) c 0 _ _ _ hw ⟨Nat.le_refl _, fun _ _ => rfl, fun id sz i off hlk => by rw [envOf_junk args 0 (by rw [Nat.zero_add]; exact Nat.le_of_ble_eq_true hle)] at hlk; cases hlk⟩ hxx
 obtain ⟨k1, k2⟩ := normW_inl (live := live) (k := k) hm hC f args H _ H2 hx base w0 β fz w vals hs hargs fn0 hfn
 have key : ∀ e w', (∃ v β' fz', e = Ending.returned v ∧ HSim base w0 β' fz' H2 w' ∧ Ext H.length β fz w H2.length β' fz' w' ∧ R β' (okOf base fz') w' H2.length (tupA l) v) → ∃ v β' fz', e = .returned v ∧ HSim base w0 β' fz' H w' ∧ Ext H.length β fz w H.length β' fz' w' ∧ R β' (okOf base fz') w' H.length (tupA l) v := by
  rintro e w' ⟨v, β', fz', a1, a2, a3, a4⟩
  obtain ⟨b1, b2⟩ := hs.quiet a2 a3 (fun i hi => hfr.same i hi)
  exact ⟨v, β', fz', a1, b1, b2, low_R a4 hl⟩
 exact ⟨fun hb => (k1 hb).mono key, fun hb => let ⟨v, w', b1, b2⟩ := k2 hb; ⟨v, w', b1, key _ _ b2⟩⟩
theorem execW_inl (hT : TabV P T cat) (hm : P.follows .mixedOrders = true) : ∀ (n : Nat) (f : FuncId), InlOk P f (execW P T cat live k n f) := by
 intro n
 induction n with
 | zero => intro f args H r H' h; simp [execW] at h
 | succ n ih =>
  intro f
  have hN := normW_inl (P := P) (T := T) (live := live) (k := k) hm (fun g => orcV_ok hT (X := execW P T cat live k n) ih (fun f args H r H' hr hx => execW_quiet hT hr hx) g) f
  cases hcf : cat f with
  | snap a m l r m' l' =>
   have h2 : execW P T cat live k (n + 1) f = snapM a m l r m' l' := by
    funext args H
    simp only [execW, hcf]
   rw [h2]; exact hT.snap f a m l r m' l' hcf
  | cat t =>
   have h2 : execW P T cat live k (n + 1) f = catM P t (execW P T cat live k n) := by
    funext args H
    simp only [execW, hcf]
   rw [h2]; exact hT.cat f t hcf _ ih
  | emp =>
   have h2 : execW P T cat live k (n + 1) f = empM (normW P T live k (execW P T cat live k n) f) := by
    funext args H
    simp only [execW, hcf]
   rw [h2]; exact emp_inl hN
  | qt a =>
   have h2 : execW P T cat live k (n + 1) f = qtM (normW P T live k (execW P T cat live k n) f) a := by
    funext args H
    simp only [execW, hcf]
   obtain ⟨fn, c, e1, e2, e3⟩ := hT.qtt f a hcf
   rw [h2]; exact qt_inl hm (fun g => orcV_ok hT (X := execW P T cat live k n) ih (fun f args H r H' hr hx => execW_quiet hT hr hx) g) e1 e2 e3
  | gen m mt h =>
   have h2 : execW P T cat live k (n + 1) f = m (execW P T cat live k n) := by
    funext args H
    simp only [execW, hcf]
   rw [h2]; exact hT.gen f m mt h hcf _ (fun g => orcV_ok hT (X := execW P T cat live k n) ih (fun f args H r H' hr hx => execW_quiet hT hr hx) g)
  | ext g =>
   have h2 : execW P T cat live k (n + 1) f = extM g := by
    funext args H
    simp only [execW, hcf]
   rw [h2]; exact hT.ext f g hcf
  | no =>
   have h2 : execW P T cat live k (n + 1) f = normW P T live k (execW P T cat live k n) f := by
    funext args H
    simp only [execW, hcf]
   rw [h2]; exact hN
end
end Go.AI
/- The interpreter that runs on a tree: each operation, looked at once. -/
namespace Go.AI
set_option linter.unusedSectionVars false
variable [Sym]
set_option linter.unusedSimpArgs false
set_option linter.unusedVariables false
set_option maxRecDepth 100000
open Go.RowKit
noncomputable def lkR (ρ : Env) (t : Nat) : AVal := List.rec (motive := fun _ => AVal) .junk (fun p _ ih => Prod.rec (motive := fun _ => AVal) (fun s a => bIf (Nat.beq t s) a ih) p) ρ
theorem lkR_eq : ∀ (ρ : Env) (t : Nat), lkR ρ t = lk ρ t
 | [], t => rfl
 |(s, a) :: r, t => by
  have ih := lkR_eq r t
  show bIf (Nat.beq t s) a (lkR r t) = _
  rw [ih, bIf_eq]
  rfl
noncomputable def opR (ρ : Env) (x : Operand) : AVal := Operand.rec (motive := fun _ => AVal) (fun t => resQ (lkR ρ t)) (fun v => .v v) (fun _ => .junk) (fun f => .fn f []) x
theorem opR_eq : opR = opd := by
 funext ρ x
 cases x with
 | tmp t => show resQ (lkR ρ t) = _; rw [resQ_eq, lkR_eq]; rfl
 | _ => rfl
structure KV where
 run : XF → XT → Env → TH → Option (AVal × TH)
noncomputable def opv (ρ : Env) (x : Operand) : AVal := Operand.casesOn (motive := fun _ => AVal) x (fun t => lkR ρ t) (fun v => .v v) (fun _ => .junk) (fun f => .fn f [])
theorem opv_eq (ρ : Env) (x : Operand) : opv ρ x = ev ρ x := by
 cases x with
 | tmp t => simp only [opv, ev, lkR_eq, lk_eq]
 | _ => rfl
def mq (x : Option AVal) (T : TH) : Option (AVal × TH) := Option.casesOn (motive := fun _ => Option (AVal × TH)) x none fun a => some (a, T)
theorem mq_sim {x : Option AVal} {T : TH} {H : Heap} (h : TR T H) : SimO (mq x T) (x.map (·, H)) := by
 cases x with
 | none => exact SimO.nil
 | some x => exact SimO.one h x
noncomputable def eqHT (P : Program) (op : BinOp) (t : TypeId) (a b : AVal) (T : TH) : Option AVal :=
 match P.underlying t, op, a, b with
 | some (.pointer e), .eql, .ptr i s x y, .ptr i' s' x' y' =>
  if szOf P e = some 0 ∨ szOf P e = none then none
  else if s = s' ∧ x = x' ∧ y = y' ∧ s ≠ 0 ∧ (getO T i).isSome = true ∧ (getO T i').isSome = true then some (.v (.bool (i == i'))) else none
 | _, _, _, _ => none
theorem getO_is {T : TH} {H : Heap} (h : TR T H) (id : Nat) : (getO T id).isSome = (obj H id).isSome := by
 cases hg : getO T id with
 | none => rw [getO_none h hg]; rfl
 | some o =>
  obtain ⟨_, ⟨sz, rows, _, ho⟩ | ⟨sz, n, tr, _, ho⟩⟩ := getO_some h hg <;> rw [ho] <;> rfl
theorem eqHT_eq {P : Program} {op : BinOp} {t : TypeId} {a b : AVal} {T : TH} {H : Heap} (h : TR T H) : eqHT P op t a b T = aEqH P op t a b H := by
 unfold eqHT aEqH
 simp only [getO_is h]
 rfl
noncomputable def binT (P : Program) (op : BinOp) (t : TypeId) (x y : Operand) (a b : AVal) (T : TH) : Option AVal :=
 match aBin P op t x y a b with
 | some r => some r
 | none => match x, y with
  | .tmp _, .tmp _ => eqHT P op t a b T
  | _, _ => none
theorem binT_eq {P : Program} {op : BinOp} {t : TypeId} {x y : Operand} {a b : AVal} {T : TH} {H : Heap} (h : TR T H) : (binT P op t x y a b T).map (·, H) = binE P op t x y a b H := by
 unfold binT binE
 simp only [eqHT_eq h]
 cases aBin P op t x y a b with
 | some r => rfl
 | none => cases x <;> cases y <;> rfl
noncomputable def mapT (T : TH) (id : Nat) : Option (List Row) :=
 match tgetR T.t id with
 | some (.ls 0 rows) => some rows
 | _ => none
theorem mapT_some {T : TH} {H : Heap} (h : TR T H) {id : Nat} {rows : List Row} (hg : mapT T id = some rows) : H[id]? = some (some (0, rows)) ∧ id < H.length := by
 unfold mapT at hg
 split at hg
 ·rename_i r hr
  simp only [Option.some.injEq] at hg
  subst hg
  rw [tgetR_eq] at hr
  refine ⟨?_, h.id_lt hr⟩
  rw [← h.g, hr]; rfl
 ·cases hg
noncomputable def lookupT (P : Program) (t : TypeId) (m k : AVal) (ok : Bool) (T : TH) : Option AVal :=
 match P.underlying t with
 | some (.map key elem) => match m, k with
  | .ptr id 0 0 0, .v k => match mapT T id with
   | some rows => if keyOk P key k = true then (match findR P key k rows with
     | some r => lkRes ok (zeroOf P elem) r
     | none => none) else none
   | none => none
  | .v (.map none), .v k => if keyOk P key k = true then lkRes ok (zeroOf P elem) none else none
  | _, _ => none
 | _ => none
theorem lookupT_sim {P : Program} {t : TypeId} {m k : AVal} {ok : Bool} {T : TH} {H : Heap} (h : TR T H) : SimO (mq (lookupT P t m k ok T) T) ((aLookup P t m k ok H).map (·, H)) := by
 intro a T' e
 cases hl : lookupT P t m k ok T with
 | none => rw [hl] at e; cases e
 | some x =>
  rw [hl] at e
  simp only [mq, Option.some.injEq, Prod.mk.injEq] at e
  obtain ⟨rfl, rfl⟩ := e
  refine ⟨H, ?_, h⟩
  have : aLookup P t m k ok H = some x := by
   unfold lookupT at hl
   split at hl
   case h_2 => cases hl
   rename_i key el hu
   split at hl
   ·rename_i id k
    split at hl
    case h_2 => cases hl
    rename_i rows hm
    obtain ⟨hg, _⟩ := mapT_some h hm
    split at hl
    case isFalse => cases hl
    rename_i hk
    split at hl
    case h_2 => cases hl
    rename_i r hf
    simp only [aLookup, hu, hg, hk, if_true, hf]
    exact hl
   ·simp only [aLookup, hu]; exact hl
   ·cases hl
  rw [this]; rfl
noncomputable def mapUpdateT (P : Program) (t : TypeId) (m k x : AVal) (T : TH) : Option (AVal × TH) :=
 match P.underlying t with
 | some (.map key _) => match m, k with
  | .ptr id 0 0 0, .v k => match mapT T id with
   | some rows => if keyOk P key k = true then (match putR P key k x rows with
     | some rows' => some (.v undef, setT T id (.ls 0 rows'))
     | none => none) else none
   | none => none
  | _, _ => none
 | _ => none
theorem mapUpdateT_sim {P : Program} {t : TypeId} {m k x : AVal} {T : TH} {H : Heap} (h : TR T H) : SimO (mapUpdateT P t m k x T) ((aMapUpdate P t m k x H).map (AVal.v undef, ·)) := by
 intro a T' e
 unfold mapUpdateT at e
 split at e
 case h_2 => cases e
 rename_i key el hu
 split at e
 case h_2 => cases e
 rename_i id k
 split at e
 case h_2 => cases e
 rename_i rows hm
 obtain ⟨hg, hlt⟩ := mapT_some h hm
 split at e
 case isFalse => cases e
 rename_i hk
 split at e
 case h_2 => cases e
 rename_i rows' hp
 simp only [Option.some.injEq, Prod.mk.injEq] at e
 obtain ⟨rfl, rfl⟩ := e
 refine ⟨H.set id (some (0, rows')), ?_, h.set hlt (y := .ls 0 rows') trivial⟩
 simp only [aMapUpdate, hu, hg, hk, if_true, hp, Option.map_some]
noncomputable def convT (P : Program) (s d : TypeId) (a : AVal) (T : TH) : Option (AVal × TH) :=
 match a with
 | .v a => match asV (pr P (convert s d a)) with
  | some r => some (r, T)
  | none => mq (aByt P s d a) T
 | a => mq (strTT P s d a T) T
structure CB where
 run : AVal → TH → Option (AVal × TH)
noncomputable def cvF (P : Program) (s d : TypeId) : CB :=
 match P.underlying s, P.underlying d with
 | some _, some (.int k) => ⟨fun a T => match a with
  | .v (.int _ n) => some (.v (.int k (wrapZ k n)), T)
  | a => convT P s d a T⟩
 | _, _ => ⟨fun a T => convT P s d a T⟩
theorem cvF_sim {P : Program} {s d : TypeId} {a : AVal} {T : TH} {H : Heap} (h : TR T H) : SimO ((cvF P s d).run a T) (match a with | .v a => (match asV (pr P (convert s d a)) with | some r => some (r, H) | none => (aByt P s d a).map (·, H)) | a => (aStr P s d a H).map (·, H)) := by
 have hcv : SimO (convT P s d a T) (match a with | .v a => (match asV (pr P (convert s d a)) with | some r => some (r, H) | none => (aByt P s d a).map (·, H)) | a => (aStr P s d a H).map (·, H)) := by
  unfold convT
  cases a with
  | v x =>
   simp only
   cases asV (pr P (convert s d x)) with
   | some r => exact SimO.one h r
   | none => exact mq_sim h
  | _ => simp only [strTT_eq h]; exact mq_sim h
 unfold cvF
 split
 ·rename_i ds k h1 h2
  simp only
  split
  ·rename_i kk n
   simp only [ev_conv h1 h2, wrapZ_eq]
   exact SimO.one h _
  ·exact hcv
 ·exact hcv
noncomputable def callT (P : Program) (T : Tab) (Xt : XT) (g : FuncId) (args : Row) (H : TH) : Option (AVal × TH) :=
 match T.rdf g with
 | true => match callRd P g with
  | true => match Xt g args H with
   | some (a, _) => some (a, H)
   | none => none
  | false => none
 | false => match callOk P g with
  | true => Xt g args H
  | false => none
def SimX (Xt : XT) (X : XF) : Prop := ∀ g args T H, TR T H → SimO (Xt g args T) (X g args H)
theorem callT_sim {P : Program} {T : Tab} {f g : FuncId} {X : XF} {Xt : XT} (hX : SimX Xt X) {args caps : Row} {Th : TH} {H : Heap} {static : Bool} (h : TR Th H) (hs : static = true ∨ T.rdf dynF = false) : SimO (callT P T Xt g (args ++ caps) Th) (aCall P (orcX T X f) static (.fn g caps) args H) := by
 intro a T' e
 unfold callT at e
 unfold aCall
 simp only
 split at e
 ·rename_i hr
  have hi : (orcX T X f).inl g = false := by simp [orcX, hr]
  have hR : (orcX T X f).rd g = some (fun args H => (X g args H).map Prod.fst) := by simp [orcX, hr]
  split at e
  ·rename_i hc
   unfold callRd at hc
   split at hc
   ·rename_i fn hfn
    have hc' : (fn.name == "runtime.NumGoroutine" || fn.body.isNone) = false := by simpa using hc
    simp only [hfn, hi, hR, hc', Bool.false_eq_true, if_false]
    split at e
    ·rename_i r1 r2 hx
     simp only [Option.some.injEq, Prod.mk.injEq] at e
     obtain ⟨rfl, rfl⟩ := e
     obtain ⟨H', q1, _⟩ := hX g _ Th H h r1 r2 hx
     exact ⟨H, by simp [q1], h⟩
    ·cases e
   ·cases hc
  ·cases e
 ·rename_i hr
  have hi : (orcX T X f).inl g = true := by simp [orcX, hr]
  split at e
  ·rename_i hc
   unfold callOk at hc
   split at hc
   ·rename_i fn hfn
    have hc' : (fn.name == "runtime.NumGoroutine") = false := by simpa using hc
    have hst : (static || (orcX T X f).inl dynF) = true := by
     rcases hs with rfl | hs
     ·rfl
     ·simp [orcX, hs]
    simp only [hfn, hi, hc', hst, Bool.not_false, Bool.and_self, if_true]
    exact hX g _ Th H h a T' e
   ·cases hc
  ·cases e
theorem mq_of {x y : Option AVal} (hxy : ∀ r, x = some r → y = some r) {T : TH} {H : Heap} (h : TR T H) : SimO (mq x T) (y.map (·, H)) := by
 cases hx : x with
 | none => exact SimO.nil
 | some r => rw [hxy r hx]; exact SimO.one h r
noncomputable def loadQ (P : Program) (t : TypeId) (a : AVal) (T : TH) : Option AVal :=
 PQ.rec (motive := fun _ => Option AVal) (aLoad P t a []) (fun id sz i off => match getO T id with
  | some (.ls sz' rows) => Option.rec (motive := fun _ => Option AVal) none (fun row => bIf (Nat.beq sz' sz) ((readR P t).run row off) (loadT P t ⟨readF P t⟩ (.ptr id sz i off) T)) (lgetR rows i)
  | some (.ar sz' n tr) => Option.rec (motive := fun _ => Option AVal) none (fun row => bIf (Nat.beq sz' sz) ((readR P t).run row off) (loadT P t ⟨readF P t⟩ (.ptr id sz i off) T)) (tgetR tr i)
  | _ => none) (ptrQ a)
theorem loadQ_some {P : Program} {t : TypeId} {a v : AVal} {T : TH} {H : Heap} (h : TR T H) (hl : loadQ P t a T = some v) : aLoad P t a H = some v := by
 rw [← loadT_eq h]
 cases a with
 | ptr id sz i off =>
  have hl' : (match getO T id with
   | some (.ls sz' rows) => Option.rec (motive := fun _ => Option AVal) none (fun row => bIf (Nat.beq sz' sz) ((readR P t).run row off) (loadT P t ⟨readF P t⟩ (.ptr id sz i off) T)) (lgetR rows i)
   | some (.ar sz' n tr) => Option.rec (motive := fun _ => Option AVal) none (fun row => bIf (Nat.beq sz' sz) ((readR P t).run row off) (loadT P t ⟨readF P t⟩ (.ptr id sz i off) T)) (tgetR tr i)
   | _ => none) = some v := hl
  have hd : loadT P t ⟨readF P t⟩ (.ptr id sz i off) T = (match getO T id with
   | some (.ls sz' rows) => match lgetR rows i with
    | some row => bIf (Nat.beq sz' sz) (readF P t row off) (if sz' = 1 ∧ sz ≠ 0 ∧ i = 0 then readAt P t rows.flatten off else none)
    | none => none
   | some (.ar sz' n tr) => match tgetR tr i with
    | some row => bIf (Nat.beq sz' sz) (readF P t row off) (if sz' = 1 ∧ sz ≠ 0 ∧ i = 0 then readAt P t (rowsL n tr).flatten off else none)
    | none => none
   | _ => none) := rfl
  cases hg : getO T id with
  | none => rw [hg] at hl'; cases hl'
  | some o => cases o with
   | no => rw [hg] at hl'; cases hl'
   | ls sz' rows =>
    rw [hg] at hl'
    simp only at hl'
    cases hr : lgetR rows i with
    | none => rw [hr] at hl'; cases hl'
    | some row =>
     rw [hr] at hl'
     have hl2 : bIf (Nat.beq sz' sz) ((readR P t).run row off) (loadT P t ⟨readF P t⟩ (.ptr id sz i off) T) = some v := hl'
     rw [bIf_eq] at hl2
     cases hb : Nat.beq sz' sz with
     | false => rw [hb] at hl2; exact hl2
     | true =>
      rw [hb, cond_true] at hl2
      rw [hd, hg]
      simp only [hr, hb, bIf_eq, cond_true, readF_eq]
      exact readR_some hl2
   | ar sz' n tr =>
    rw [hg] at hl'
    simp only at hl'
    cases hr : tgetR tr i with
    | none => rw [hr] at hl'; cases hl'
    | some row =>
     rw [hr] at hl'
     have hl2 : bIf (Nat.beq sz' sz) ((readR P t).run row off) (loadT P t ⟨readF P t⟩ (.ptr id sz i off) T) = some v := hl'
     rw [bIf_eq] at hl2
     cases hb : Nat.beq sz' sz with
     | false => rw [hb] at hl2; exact hl2
     | true =>
      rw [hb, cond_true] at hl2
      rw [hd, hg]
      simp only [hr, hb, bIf_eq, cond_true, readF_eq]
      exact readR_some hl2
 | _ => exact hl
noncomputable def storeQ (P : Program) (t : TypeId) (a x : AVal) (T : TH) : Option (AVal × TH) :=
 PQ.rec (motive := fun _ => Option (AVal × TH)) none (fun id sz i off => match getO T id, cellsOf x, szOf P t with
  | some (.ls sz' rows), some cs, some n => Option.rec (motive := fun _ => Option (AVal × TH)) none (fun row => bIf (Nat.beq sz' sz) (bIf (Nat.beq cs.length n) (Option.rec (motive := fun _ => Option (AVal × TH)) none (fun row' => some (.v undef, setT T id (.ls sz (lsetR rows i row')))) (writeR cs off row)) none) ((storeT P t (.ptr id sz i off) x T).map (AVal.v undef, ·))) (lgetR rows i)
  | some (.ar sz' m tr), some cs, some n => Option.rec (motive := fun _ => Option (AVal × TH)) none (fun row => bIf (Nat.beq sz' sz) (bIf (Nat.beq cs.length n) (Option.rec (motive := fun _ => Option (AVal × TH)) none (fun row' => some (.v undef, setT T id (.ar sz m (tsetR tr i row')))) (writeR cs off row)) none) ((storeT P t (.ptr id sz i off) x T).map (AVal.v undef, ·))) (tgetR tr i)
  | _, _, _ => none) (ptrQ a)
theorem storeQ_sim {P : Program} {t : TypeId} {a x : AVal} {T : TH} {H : Heap} (h : TR T H) : SimO (storeQ P t a x T) ((aStore P t a x H).map (AVal.v undef, ·)) := by
 cases a with
 | ptr id sz i off =>
  show SimO (match getO T id, cellsOf x, szOf P t with
   | some (.ls sz' rows), some cs, some n => Option.rec (motive := fun _ => Option (AVal × TH)) none (fun row => bIf (Nat.beq sz' sz) (bIf (Nat.beq cs.length n) (Option.rec (motive := fun _ => Option (AVal × TH)) none (fun row' => some (.v undef, setT T id (.ls sz (lsetR rows i row')))) (writeR cs off row)) none) ((storeT P t (.ptr id sz i off) x T).map (AVal.v undef, ·))) (lgetR rows i)
   | some (.ar sz' m tr), some cs, some n => Option.rec (motive := fun _ => Option (AVal × TH)) none (fun row => bIf (Nat.beq sz' sz) (bIf (Nat.beq cs.length n) (Option.rec (motive := fun _ => Option (AVal × TH)) none (fun row' => some (.v undef, setT T id (.ar sz m (tsetR tr i row')))) (writeR cs off row)) none) ((storeT P t (.ptr id sz i off) x T).map (AVal.v undef, ·))) (tgetR tr i)
   | _, _, _ => none) _
  have slow := storeT_sim (P := P) (t := t) (a := .ptr id sz i off) (x := x) h
  split
  ·rename_i sz' rows cs n hg hcs hn
   obtain ⟨hok, ⟨_, _, q, ho⟩ | ⟨_, _, _, q, _⟩⟩ := getO_some h hg
   case inr => cases q
   cases q
   cases hr : lgetR rows i with
   | none => exact SimO.nil
   | some row =>
    show SimO (bIf (Nat.beq sz' sz) _ _) _
    rw [bIf_eq]
    cases hb : Nat.beq sz' sz with
    | false => exact slow
    | true =>
     rw [cond_true, bIf_eq]
     cases hb2 : Nat.beq cs.length n with
     | false => exact SimO.nil
     | true =>
      rw [cond_true]
      cases hw : writeR cs off row with
      | none => exact SimO.nil
      | some row' =>
       obtain ⟨w1, w2⟩ := writeR_some hw
       have e1 := Nat.eq_of_beq_eq_true hb
       have e2 := Nat.eq_of_beq_eq_true hb2
       subst e1 e2
       have hr' : rows[i]? = some row := by rw [← lgetR_eq]; exact hr
       have := SimO.one (h.set (obj_lt ho) (y := .ls sz' (rows.set i row')) trivial) (.v undef)
       have e3 : (aStore P t (.ptr id sz' i off) x H).map (AVal.v undef, ·) = some (.v undef, H.set id (absO (.ls sz' (rows.set i row')))) := by
        simp only [aStore, ho, hr', hcs, hn, w1, and_self, if_true, Option.map_some, w2, absO]
       rw [e3]
       show SimO (some (AVal.v undef, setT T id (.ls sz' (lsetR rows i row')))) _
       rw [lsetR_eq]
       exact this
  ·rename_i sz' m tr cs n hg hcs hn
   obtain ⟨hok, ⟨_, _, q, _⟩ | ⟨_, _, _, q, ho⟩⟩ := getO_some h hg
   case inl => cases q
   cases q
   cases hr : tgetR tr i with
   | none => exact SimO.nil
   | some row =>
    show SimO (bIf (Nat.beq sz' sz) _ _) _
    rw [bIf_eq]
    cases hb : Nat.beq sz' sz with
    | false => exact slow
    | true =>
     rw [cond_true, bIf_eq]
     cases hb2 : Nat.beq cs.length n with
     | false => exact SimO.nil
     | true =>
      rw [cond_true]
      cases hw : writeR cs off row with
      | none => exact SimO.nil
      | some row' =>
       obtain ⟨w1, w2⟩ := writeR_some hw
       have e1 := Nat.eq_of_beq_eq_true hb
       have e2 := Nat.eq_of_beq_eq_true hb2
       subst e1 e2
       have hr0 : tget tr i = some row := by rw [← tgetR_eq]; exact hr
       have hi : i < m := (hok i).1 (by rw [hr0]; simp)
       have hr' : (rowsL m tr)[i]? = some row := by rw [rowsL_get hok, hr0]
       have := SimO.one (h.set (obj_lt ho) (y := .ar sz' m (tset tr i row')) (ArOk.set hok hi _)) (.v undef)
       have e3 : (aStore P t (.ptr id sz' i off) x H).map (AVal.v undef, ·) = some (.v undef, H.set id (absO (.ar sz' m (tset tr i row')))) := by
        simp only [aStore, ho, hr', hcs, hn, w1, and_self, if_true, Option.map_some, w2, absO, rowsL_set hok hi]
       rw [e3]
       show SimO (some (AVal.v undef, setT T id (.ar sz' m (tsetR tr i row')))) _
       rw [tsetR_eq]
       exact this
  ·exact SimO.nil
 | _ => exact SimO.nil
noncomputable def ixQ (P : Program) (t : TypeId) : IB :=
 match arrayOf P t with
 | some (n, e) => match szOf P e with
  | some sz => ⟨fun a i => PQ.rec (motive := fun _ => Option AVal) ((ixF P t).run a i) (fun id s j off => Option.rec (motive := fun _ => Option AVal) none (fun k => bIf (Nat.beq s 0) none (some (.ptr id s j (Nat.add off (Nat.mul k sz))))) (idxQ i n)) (ptrQ a)⟩
  | none => ixF P t
 | none => match sliceElem P t with
  | some e => match szOf P e with
   | some sz => ⟨fun a i => OQ.rec (motive := fun _ => Option AVal) ((ixF P t).run a i) (fun id sz' s len _ => bIf (Nat.beq sz' sz) (bIf (Nat.beq sz 0) none (Option.rec (motive := fun _ => Option AVal) none (fun k => some (.ptr id sz (Nat.add s k) 0)) (idxQ i len))) none) (oslQ a)⟩
   | none => ixF P t
  | none => ixF P t
theorem ixQ_some {P : Program} {t : TypeId} {a i r : AVal} (h : (ixQ P t).run a i = some r) : aIndexAddr P t a i = some r := by
 unfold ixQ at h
 split at h
 ·rename_i n e harr
  split at h
  ·rename_i sz hsz
   simp only at h
   cases hp : ptrQ a with
   | no => rw [hp] at h; rw [← ixF_eq]; exact h
   | yes id s j off =>
    rw [hp] at h
    rw [ptrQ_yes hp]
    cases hi : idxQ i n with
    | none => rw [hi] at h; cases h
    | some k =>
     rw [hi] at h
     have h' : bIf (Nat.beq s 0) none (some (AVal.ptr id s j (off + k * sz))) = some r := h
     rw [bIf_eq, beq_dec] at h'
     simp only [aIndexAddr, harr, hsz, idxQ_some hi]
     by_cases h0 : s = 0
     ·rw [decide_eq_true h0] at h'; cases h'
     ·rw [decide_eq_false h0] at h'
      rw [if_neg h0]; exact h'
  ·rw [← ixF_eq]; exact h
 ·rename_i harr
  split at h
  ·rename_i e he
   split at h
   ·rename_i sz hsz
    simp only at h
    cases hp : oslQ a with
    | no => rw [hp] at h; rw [← ixF_eq]; exact h
    | yes id sz' s len kc =>
     rw [hp] at h
     rw [oslQ_yes hp]
     have h' : bIf (Nat.beq sz' sz) (bIf (Nat.beq sz 0) none (Option.rec (motive := fun _ => Option AVal) none (fun k => some (AVal.ptr id sz (s + k) 0)) (idxQ i len))) none = some r := h
     rw [bIf_eq, bIf_eq, beq_dec, beq_dec] at h'
     by_cases h1 : sz' = sz
     ·by_cases h0 : sz = 0
      ·rw [decide_eq_true h1, decide_eq_true h0] at h'; cases h'
      ·rw [decide_eq_true h1, decide_eq_false h0] at h'
       cases hi : idxQ i len with
       | none => rw [hi] at h'; cases h'
       | some k =>
        rw [hi] at h'
        simp only [aIndexAddr, harr, he, hsz, idxQ_some hi, h1, Option.map_some]
        rw [if_pos ⟨trivial, h0⟩]
        exact h'
     ·rw [decide_eq_false h1] at h'; cases h'
   ·rw [← ixF_eq]; exact h
  ·rw [← ixF_eq]; exact h
structure FB where
 run : AVal → Option AVal
noncomputable def faQ (P : Program) (s : TypeId) (f : Nat) : FB :=
 match fieldOf P s f with
 | some (o, n, _) => ⟨fun a => PQ.rec (motive := fun _ => Option AVal) (aFieldAddr P s a f) (fun id sz i off => bIf (Nat.beq n 0) none (bIf (Nat.beq sz 0) none (some (.ptr id sz i (Nat.add off o))))) (ptrQ a)⟩
 | none => ⟨fun _ => none⟩
theorem faQ_some {P : Program} {s : TypeId} {f : Nat} {a r : AVal} (h : (faQ P s f).run a = some r) : aFieldAddr P s a f = some r := by
 unfold faQ at h
 split at h
 ·rename_i o n ty hf
  simp only at h
  cases hp : ptrQ a with
  | no => rw [hp] at h; exact h
  | yes id sz i off =>
   rw [hp] at h
   rw [ptrQ_yes hp]
   have h' : bIf (Nat.beq n 0) none (bIf (Nat.beq sz 0) none (some (AVal.ptr id sz i (off + o)))) = some r := h
   rw [bIf_eq, bIf_eq, beq_dec, beq_dec] at h'
   by_cases h1 : n = 0
   ·rw [decide_eq_true h1] at h'; cases h'
   ·by_cases h0 : sz = 0
    ·rw [decide_eq_false h1, decide_eq_true h0] at h'; cases h'
    ·rw [decide_eq_false h1, decide_eq_false h0] at h'
     simp only [aFieldAddr, hf, if_neg h1, if_neg h0]
     exact h'
 ·cases h
noncomputable def nextT (a : AVal) (T : TH) : Option AVal :=
 match a with
 | .ptr rid 1 0 0 => match mapT T rid with
  | some [[.ptr id 0 0 0, _, _], []] => match mapT T id with
   | some [] => some (.v (.tuple #[.bool false]))
   | _ => none
  | _ => none
 | _ => none
theorem nextT_some {a v : AVal} {T : TH} {H : Heap} (h : TR T H) (hn : nextT a T = some v) : aNext a H = some v := by
 unfold nextT at hn
 split at hn
 ·split at hn
  ·rename_i id _ _ h1
   split at hn
   ·rename_i h2
    obtain ⟨g1, _⟩ := mapT_some h h1
    obtain ⟨g2, _⟩ := mapT_some h h2
    simp only [aNext, g1, g2]
    exact hn
   ·cases hn
  ·cases hn
 ·cases hn
noncomputable def compV (P : Program) (T : Tab) (f : FuncId) (o : Oper) : KV :=
 match o.op with
 | .move x => ⟨fun _ _ ρ H => some (opR ρ x, H)⟩
 | .assign x => ⟨fun _ _ ρ H => some (opR ρ x, H)⟩
 | .pick c a b => ⟨fun _ _ ρ H => mq (aPick true (opR ρ c) (opv ρ a) (opv ρ b)) H⟩
 | .load t x => ⟨fun _ _ ρ H => mq (loadQ P t (opR ρ x) H) H⟩
 | .store t x y => ⟨fun _ _ ρ H => storeQ P t (opR ρ x) (opR ρ y) H⟩
 | .binOp op t x y _ => match gbin op with
  | some g => ⟨fun _ _ ρ H => mq (binQ g (opR ρ x) (opR ρ y) (binT P op t x y (opR ρ x) (opR ρ y) H)) H⟩
  | none => ⟨fun _ _ ρ H => mq (binT P op t x y (opR ρ x) (opR ρ y) H) H⟩
 | .fieldAddr s x i => ⟨fun _ _ ρ H => mq ((faQ P s i).run (opR ρ x)) H⟩
 | .field s x i => ⟨fun _ _ ρ H => mq (aField P s (opR ρ x) i) H⟩
 | .indexAddr t x i => ⟨fun _ _ ρ H => mq ((ixQ P t).run (opR ρ x) (opR ρ i)) H⟩
 | .index t x i => ⟨fun _ _ ρ H => mq (aIndex P t (opR ρ x) (opR ρ i)) H⟩
 | .extract x i => ⟨fun _ _ ρ H => mq (aExtract (opR ρ x) i) H⟩
 | .convert s d x => ⟨fun _ _ ρ H => (cvF P s d).run (opR ρ x) H⟩
 | .alloc t => ⟨fun _ _ _ H => allocT P t H⟩
 | .box _ x => ⟨fun _ _ ρ H => boxT (opR ρ x) H⟩
 | .build t parts => ⟨fun _ _ ρ H => mq (aBuild P t (parts.toList.map fun p => (p.1, opR ρ p.2))) H⟩
 | .buildSlice t len parts => ⟨fun _ _ ρ H => buildSliceT P t len (parts.toList.map fun p => (p.1, opR ρ p.2)) H⟩
 | .makeSlice t l c => ⟨fun _ _ ρ H => makeSliceT P t (opR ρ l) (opR ρ c) H⟩
 | .makeMap _ none => ⟨fun _ _ _ H => some (.ptr H.n 0 0 0, pushT H (.ls 0 []))⟩
 | .lookup t m k ok => ⟨fun _ _ ρ H => mq (lookupT P t (opR ρ m) (opR ρ k) ok H) H⟩
 | .mapUpdate t m k x => ⟨fun _ _ ρ H => mapUpdateT P t (opR ρ m) (opR ρ k) (opR ρ x) H⟩
 | .next x false => ⟨fun _ _ ρ H => mq (nextT (opR ρ x) H) H⟩
 | .range t x => ⟨fun _ _ ρ H => rangeT P t (opR ρ x) H⟩
 | .slice t x lo hi mx => match lo, hi, mx with
  | none, none, none => ⟨fun _ _ ρ H => match aSlice P t (opR ρ x) none none none with
   | some a => some (a, H)
   | none => sliceAT P t (opR ρ x) H⟩
  | lo, hi, mx => ⟨fun _ _ ρ H => mq (aSlice P t (opR ρ x) (lo.map (opR ρ)) (hi.map (opR ρ)) (mx.map (opR ρ))) H⟩
 | .call c => match c.callee with
  | .builtin b => ⟨fun _ _ ρ H => builtinT P b c.argTypes (c.args.toList.map (opR ρ)) H⟩
  | .value (.func g) => ⟨fun _ Xt ρ H => callT P T Xt g (c.args.toList.map (opR ρ) ++ []) H⟩
  | .value x => match T.rdf dynF with
   | true => ⟨fun _ _ _ _ => none⟩
   | false => ⟨fun _ Xt ρ H => match opR ρ x with
    | .fn g caps => callT P T Xt g (c.args.toList.map (opR ρ) ++ caps) H
    | _ => none⟩
  | .invoke r n => match statM (fun g => !T.rdf g) n with
   | true => ⟨fun _ Xt ρ H => match opR ρ r with
    | .ifc t x => match methodF P t n with
     | some g => match T.rdf g with
      | true => callT P T Xt g ((x :: c.args.toList.map (opR ρ)) ++ []) H
      | false => none
     | none => none
    | _ => none⟩
   | false => ⟨fun _ Xt ρ H => match opR ρ r with
    | .ifc t x => match methodF P t n with
     | some g => callT P T Xt g ((x :: c.args.toList.map (opR ρ)) ++ []) H
     | none => none
    | _ => none⟩
 | _ => match hk (fun g => !T.rdf g) o with
  | 0 => ⟨fun _ _ ρ H => mq ((astepE P (orcX T noX f) (opR ρ) o []).map Prod.fst) H⟩
  | 1 => ⟨fun X _ ρ H => mq ((astep P (orcX T X f) true (ev ρ) o (toL H)).map Prod.fst) H⟩
  | _ => ⟨fun X _ ρ H => slowO (astep P (orcX T X f) true (ev ρ) o) H⟩
theorem astepE_orc {P : Program} {C C' : Orc} {e : AEv} {o : Oper} {H : Heap} (h : ∀ c, o.op ≠ .call c) : astepE P C e o H = astepE P C' e o H := by
 unfold astepE
 cases hop : o.op
 case call c => exact absurd hop (h c)
 case makeMap t r => cases r <;> rfl
 case next x b => cases b <;> rfl
 case makeFunc fn a b => cases fn <;> rfl
 all_goals rfl
theorem compV_sim {P : Program} {T : Tab} {f : FuncId} {o : Oper} {X : XF} {Xt : XT} (hX : SimX Xt X) {ρ : Env} {Th : TH} {H : Heap} (h : TR Th H) : SimO ((compV P T f o).run X Xt ρ Th) (astep P (orcX T X f) true (ev ρ) o H) := by
 have hop : (fun x => res true (ev ρ x)) = opd ρ := by funext x; exact (opd_eq ρ x).symm
 have hop' : ∀ x, res true (ev ρ x) = opd ρ x := fun x => (opd_eq ρ x).symm
 have hdef : (∀ c, o.op ≠ .call c) → (∀ c a b, o.op ≠ .pick c a b) → SimO ((match hk (fun g => !T.rdf g) o with
   | 0 => (⟨fun _ _ ρ H => mq ((astepE P (orcX T noX f) (opd ρ) o []).map Prod.fst) H⟩ : KV)
   | 1 => ⟨fun X _ ρ H => mq ((astep P (orcX T X f) true (ev ρ) o (toL H)).map Prod.fst) H⟩
   | _ => ⟨fun X _ ρ H => slowO (astep P (orcX T X f) true (ev ρ) o) H⟩).run X Xt ρ Th) (astep P (orcX T X f) true (ev ρ) o H) := by
  intro hnc hnp
  split
  ·rename_i h0
   intro a T' e
   simp only at e
   cases hx : astepE P (orcX T noX f) (opd ρ) o [] with
   | none => rw [hx] at e; cases e
   | some r =>
    rw [hx] at e
    simp only [Option.map_some, mq, Option.some.injEq, Prod.mk.injEq] at e
    obtain ⟨rfl, rfl⟩ := e
    refine ⟨H, ?_, h⟩
    have h2 : astepE P (orcX T X f) (opd ρ) o [] = some (r.1, r.2) := by rw [astepE_orc hnc (C' := orcX T noX f), hx]
    have h3 := astepE_none (C := orcX T X f) (show hk (orcX T X f).inl o = 0 from h0) h2 H
    unfold astep
    split
    ·rename_i c a b hp; exact absurd hp (hnp c a b)
    ·rw [hop]; exact h3
  ·rename_i h1
   intro a T' e
   simp only [toL_eq h] at e
   cases hx : astep P (orcX T X f) true (ev ρ) o H with
   | none => rw [hx] at e; cases e
   | some r =>
    rw [hx] at e
    simp only [Option.map_some, mq, Option.some.injEq, Prod.mk.injEq] at e
    obtain ⟨rfl, rfl⟩ := e
    have hq : r.2 = H := astep_read (C := orcX T X f) (g := true) (av := r.1) (fun _ => rfl) (show hk (orcX T X f).inl o ≠ 2 from by rw [show hk (orcX T X f).inl o = 1 from h1]; decide) hx
    exact ⟨H, by rw [← hq], h⟩
  ·exact slowO_sim h
 unfold compV
 rw [opR_eq]
 cases ho : o.op
 case call c =>
  simp only
  have hA : astep P (orcX T X f) true (ev ρ) o H = match c.callee with
    | .builtin b => aBuiltin P b c.argTypes (c.args.toList.map (opd ρ)) H
    | .value f' => aCall P (orcX T X f) (isStatic f') (opd ρ f') (c.args.toList.map (opd ρ)) H
    | .invoke r name => aInvoke P (orcX T X f) name (opd ρ r) (c.args.toList.map (opd ρ)) H := by
   simp only [astep, astepE, ho, hop, hop']
   rfl
  rw [hA]
  cases hc : c.callee with
  | builtin b => exact builtinT_sim h
  | value x =>
   cases x with
   | func g => exact callT_sim (static := true) hX h (.inl rfl)
   | tmp t =>
    simp only
    split
    ·exact SimO.nil
    ·rename_i hd
     simp only
     split
     ·rename_i g caps hg
      rw [hg]; exact callT_sim hX h (.inr hd)
     ·exact SimO.nil
   | const v =>
    simp only
    split
    ·exact SimO.nil
    ·exact SimO.nil
   | global v =>
    simp only
    split
    ·exact SimO.nil
    ·exact SimO.nil
  | invoke r n =>
   have hi : (orcX T X f).inl = fun g => !T.rdf g := rfl
   simp only
   cases hst : statM (fun g => !T.rdf g) n with
   | true =>
    simp only
    split
    ·rename_i t x hr
     rw [hr]
     simp only [aInvoke, hi, hst, Bool.true_and]
     cases methodF P t n with
     | none => exact SimO.nil
     | some g =>
      simp only
      cases hg : T.rdf g with
      | false => exact SimO.nil
      | true => exact callT_sim (static := true) hX h (.inl rfl)
    ·exact SimO.nil
   | false =>
    simp only
    split
    ·rename_i t x hr
     rw [hr]
     simp only [aInvoke, hi, hst, Bool.false_and]
     cases methodF P t n with
     | none => exact SimO.nil
     | some g => exact callT_sim (static := true) hX h (.inl rfl)
    ·exact SimO.nil
 case next x b =>
  cases b with
  | false => simp only [astep, astepE, ho, hop, hop']; exact mq_of (fun r hr => nextT_some h hr) h
  | true => exact hdef (fun c e => by rw [ho] at e; cases e) (fun c a b e => by rw [ho] at e; cases e)
 case range t x => simp only [astep, astepE, ho, hop, hop']; exact rangeT_sim h
 case slice t x lo hi mx =>
  cases lo <;> cases hi <;> cases mx <;> simp only [astep, astepE, ho, hop, hop', Option.map_none, Option.map_some]
  ·cases aSlice P t (opd ρ x) none none none with
   | some a => exact SimO.one h _
   | none => exact sliceAT_sim h
  all_goals
   generalize aSlice P t _ _ _ _ = q
   cases q
   ·exact SimO.nil
   ·exact SimO.one h _
 case move x => simp only [astep, astepE, ho, hop, hop']; exact SimO.one h _
 case assign x => simp only [astep, astepE, ho, hop, hop']; exact SimO.one h _
 case pick c a b => simp only [astep, ho, hop', opv_eq]; exact mq_sim h
 case load t x => simp only [astep, astepE, ho, hop, hop']; exact mq_of (fun r hr => loadQ_some h hr) h
 case store t x y => simp only [astep, astepE, ho, hop, hop']; exact storeQ_sim h
 case binOp op t x y u =>
  have hE : astep P (orcX T X f) true (ev ρ) o H = binE P op t x y (opd ρ x) (opd ρ y) H := by
   simp only [astep, astepE, ho, hop, hop', binE]
   rfl
  rw [hE]
  simp only
  split
  ·rename_i g hg
   rw [← binT_eq h]
   simp only
   rw [binQ_eq hg (P := P) (op := op) (t := t) (x := x) (y := y) (fun r hr => by simp only [binT, hr])]
   exact mq_sim h
  ·rw [← binT_eq h]
   exact mq_sim h
 case fieldAddr s x i => simp only [astep, astepE, ho, hop, hop']; exact mq_of (fun r hr => faQ_some hr) h
 case field s x i => simp only [astep, astepE, ho, hop, hop']; exact mq_sim h
 case indexAddr t x i => simp only [astep, astepE, ho, hop, hop']; exact mq_of (fun r hr => ixQ_some hr) h
 case index t x i => simp only [astep, astepE, ho, hop, hop']; exact mq_sim h
 case extract x i => simp only [astep, astepE, ho, hop, hop']; exact mq_sim h
 case convert s d x => simp only [astep, astepE, ho, hop, hop']; exact cvF_sim h
 case alloc t => simp only [astep, astepE, ho, hop, hop']; exact allocT_sim h
 case box t x => simp only [astep, astepE, ho, hop, hop']; exact boxT_sim h
 case build t ps => simp only [astep, astepE, ho, hop, hop']; exact mq_sim h
 case buildSlice t len ps => simp only [astep, astepE, ho, hop, hop']; exact buildSliceT_sim h
 case makeSlice t l c => simp only [astep, astepE, ho, hop, hop']; exact makeSliceT_sim h
 case makeMap t r =>
  cases r with
  | none =>
   simp only [astep, astepE, ho, hop, hop']
   rw [← h.n]
   exact SimO.one (h.push (y := .ls 0 []) trivial) _
  | some r => exact hdef (fun c e => by rw [ho] at e; cases e) (fun c a b e => by rw [ho] at e; cases e)
 case lookup t m k ok => simp only [astep, astepE, ho, hop, hop']; exact lookupT_sim h
 case mapUpdate t m k x => simp only [astep, astepE, ho, hop, hop']; exact mapUpdateT_sim h
 all_goals exact hdef (fun c e => by rw [ho] at e; cases e) (fun c a b e => by rw [ho] at e; cases e)
end Go.AI
