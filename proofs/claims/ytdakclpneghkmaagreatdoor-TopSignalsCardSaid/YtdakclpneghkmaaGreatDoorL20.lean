/- The interpreter that runs: regions in any order by the values that are read. -/
import Derived.Test.YtdakclpneghkmaaGreatDoorL17
import Derived.Test.YtdakclpneghkmaaGreatDoorL19
namespace Go.AI
set_option linter.unusedSimpArgs false
set_option linter.unusedVariables false
set_option maxRecDepth 100000
open Go.RowKit
/-- a region in its order, with all that was met -/
def runV (P : Program) (C : Orc) (nt : Nat) (ops : Array Oper) : List Oper → Env × Heap → Option (List (Env × Heap × AVal) × (Env × Heap))
  | [], s => some ([], s)
  | o :: l, s => if dstOk nt o = true then match act P C ops o (ev s.1) s.2 with
      | some (v, H') => match runV P C nt ops l (put s.1 o.dst v, H') with
        | some (q, r) => some ((s.1, s.2, v) :: q, r)
        | none => none
      | none => none
    else none
def envV (q : List (Env × Heap × AVal)) (r : Env × Heap) (i : Nat) : Env := match q[i]? with | some x => x.1 | none => r.1
def heapV (q : List (Env × Heap × AVal)) (r : Env × Heap) (i : Nat) : Heap := match q[i]? with | some x => x.2.1 | none => r.2
def valV (q : List (Env × Heap × AVal)) (i : Nat) : AVal := match q[i]? with | some x => x.2.2 | none => .junk
/-- a reader and a writer that no edge orders -/
def pairsV (inl : FuncId → Bool) (ops : Array Oper) : List (Nat × Nat) :=
  (List.range ops.size).flatMap fun r => if hk inl (ops.getD r default) = 1 then ((List.range ops.size).filter fun w => decide (hk inl (ops.getD w default) = 2) && (if w < r then !befB ops r w else !befB ops w r)).map fun w => (r, w) else []
def againV (P : Program) (C : Orc) (ops : Array Oper) (q : List (Env × Heap × AVal)) (r : Env × Heap) (p : Nat × Nat) : Bool :=
  match act P C ops (ops.getD p.1 default) (ev (envV q r p.1)) (heapV q r (if p.2 < p.1 then p.2 else p.2 + 1)) with
  | some (v, _) => beqA v (valV q p.1)
  | none => false
def regionV (P : Program) (C : Orc) (nt : Nat) (ops : Array Oper) (ρ : Env) (H : Heap) : Option (Env × Heap) :=
  match runV P C nt ops ops.toList (ρ, H) with
  | some (q, r) => if (pairsV C.inl ops).all (againV P C ops q r) = true then some r else none
  | none => none
def rfV (inl : FuncId → Bool) (ops : Array Oper) : Bool :=
  (ops.toList.zipIdx.all fun (o, i) => o.after.all fun e => !Region.binds .any e || decide (e.on < i)) &&
  (List.range ops.size).all fun j => (List.range j).all fun i => befB ops j i || (!clash ops (ops.getD i default) (ops.getD j default) && !clash ops (ops.getD j default) (ops.getD i default) && !(hk inl (ops.getD i default) == 2 && hk inl (ops.getD j default) == 2))
section
variable {P : Program} {C : Orc} {ops : Array Oper}
theorem runV_at {nt : Nat} : ∀ {l : List Oper} {s r : Env × Heap} {q : List (Env × Heap × AVal)}, runV P C nt ops l s = some (q, r) →
    q.length = l.length ∧ envV q r 0 = s.1 ∧ heapV q r 0 = s.2 ∧ envV q r l.length = r.1 ∧ heapV q r l.length = r.2 ∧
      ∀ i o, l[i]? = some o → dstOk nt o = true ∧ act P C ops o (ev (envV q r i)) (heapV q r i) = some (valV q i, heapV q r (i + 1)) ∧ envV q r (i + 1) = put (envV q r i) o.dst (valV q i)
  | [], s, r, q, h => by
    simp only [runV, Option.some.injEq, Prod.mk.injEq] at h
    obtain ⟨rfl, rfl⟩ := h
    exact ⟨rfl, rfl, rfl, rfl, rfl, fun i o h => by simp at h⟩
  | o :: l, s, r, q, h => by
    simp only [runV] at h
    split at h
    case isFalse => cases h
    rename_i hd
    split at h
    case h_2 => cases h
    rename_i v H' ha
    split at h
    case h_2 => cases h
    rename_i q' r' hr
    simp only [Option.some.injEq, Prod.mk.injEq] at h
    obtain ⟨rfl, rfl⟩ := h
    obtain ⟨i1, i2, i3, i4, i5, i6⟩ := runV_at hr
    have e1 : ∀ i, envV ((s.1, s.2, v) :: q') r' (i + 1) = envV q' r' i := fun i => by simp [envV]
    have e2 : ∀ i, heapV ((s.1, s.2, v) :: q') r' (i + 1) = heapV q' r' i := fun i => by simp [heapV]
    have e3 : ∀ i, valV ((s.1, s.2, v) :: q') (i + 1) = valV q' i := fun i => by simp [valV]
    refine ⟨by simp [i1], rfl, rfl, by rw [List.length_cons, e1]; exact i4, by rw [List.length_cons, e2]; exact i5, fun i p hp => ?_⟩
    cases i with
    | zero =>
      simp at hp; subst hp
      rw [e1, e2, i2, i3]
      exact ⟨hd, ha, rfl⟩
    | succ i =>
      rw [e1, e2, e1, e2, e3]
      exact i6 i p (by simpa using hp)
theorem regionV_canon {nt : Nat} {ρ : Env} {H : Heap} {s : Env × Heap} (hrf : rfV C.inl ops = true) (h : regionV P C nt ops ρ H = some s) :
    ∃ V HH E, CanV P C ops nt V HH E ∧ EdgesLt ops ∧ E 0 = ρ ∧ HH 0 = H ∧ E ops.size = s.1 ∧ HH ops.size = s.2 := by
  unfold regionV at h
  split at h
  case h_2 => cases h
  rename_i q r hr
  split at h
  case isFalse => cases h
  rename_i hall
  simp only [Option.some.injEq] at h
  subst h
  obtain ⟨i1, i2, i3, i4, i5, i6⟩ := runV_at hr
  simp only [Array.length_toList] at i1 i4 i5
  have hrf' := hrf
  simp only [rfV, Bool.and_eq_true, List.all_eq_true] at hrf'
  obtain ⟨hlt, hpair⟩ := hrf'
  have hE : EdgesLt ops := by
    intro i o ho e he hb
    have h1 := hlt (o, i) (by
      rw [List.mem_zipIdx_iff_getElem?]
      simpa using ho)
    simp only [Array.all_eq_true', Bool.or_eq_true, Bool.not_eq_true', decide_eq_true_eq] at h1
    rcases h1 e (Array.mem_toList_iff.1 he) with h | h
    · rw [hb] at h; cases h
    · exact h
  have hget : ∀ i, i < ops.size → ops.toList[i]? = some (ops.getD i default) := fun i hi => by simp [Array.getD, hi]
  have hag : ∀ a w, a < ops.size → w < ops.size → hk C.inl (ops.getD a default) = 1 → hk C.inl (ops.getD w default) = 2 → (if w < a then !befB ops a w else !befB ops w a) = true → againV P C ops q r (a, w) = true := by
    intro a w ha hw h1 h2 h3
    refine List.all_eq_true.1 hall _ ?_
    unfold pairsV
    rw [List.mem_flatMap]
    refine ⟨a, by simpa using ha, ?_⟩
    rw [if_pos h1, List.mem_map]
    refine ⟨w, ?_, rfl⟩
    rw [List.mem_filter]
    refine ⟨by simpa using hw, ?_⟩
    simp only [h2, decide_true, Bool.true_and]
    exact h3
  have hval : ∀ a w, againV P C ops q r (a, w) = true → hk C.inl (ops.getD a default) = 1 → act P C ops (ops.getD a default) (ev (envV q r a)) (heapV q r (if w < a then w else w + 1)) = some (valV q a, heapV q r (if w < a then w else w + 1)) := by
    intro a w h1 h2
    unfold againV at h1
    simp only at h1
    split at h1
    · rename_i v H' hv
      have e1 := act_quiet (by omega) hv
      rw [hv, beqA_eq h1, e1]
    · cases h1
  refine ⟨valV q, heapV q r, envV q r, ⟨fun i hi => (i6 i _ (hget i hi)).1, fun i hi => (i6 i _ (hget i hi)).2.1, fun i hi => (i6 i _ (hget i hi)).2.2, fun k i hki hi => ?_, fun a w hwa ha h1 h2 h3 => ?_, fun a w haw hw h1 h2 h3 => ?_⟩, hE, i2, i3, i4, i5⟩
  · have := hpair i (by simpa using hi) k (by simpa using hki)
    simp only [Bool.or_eq_true, Bool.and_eq_true, Bool.not_eq_true'] at this
    rcases this with h | ⟨⟨h1, h2⟩, h3⟩
    · exact .inl h
    · exact .inr ⟨h1, h2, fun q => by rw [q.1, q.2] at h3; exact absurd h3 (by decide)⟩
  · have := hval a w (hag a w ha (by omega) h1 h2 (by rw [if_pos hwa, h3]; rfl)) h1
    rwa [if_pos hwa] at this
  · have := hval a w (hag a w (by omega) hw h1 h2 (by rw [if_neg (by omega), h3]; rfl)) h1
    rwa [if_neg (by omega)] at this
end
/-- a region -/
def execRV (P : Program) (C : Orc) (nt : Nat) (ops : Array Oper) (draw : Bool) (ρ : Env) (H : Heap) : Option (Env × Heap) :=
  if (draw && !raceFree C.inl ops) = true then cond (rfV C.inl ops) (regionV P C nt ops ρ H) none else runL P C nt ops ops.toList (ρ, H)
def codeRV (inl : FuncId → Bool) : Code → Bool
  | .region _ _ _ => true
  | .seq x y => codeRV inl x && codeRV inl y
  | .cond _ x y => codeRV inl x && codeRV inl y
  | .block _ x => codeRV inl x
  | .loop x => codeRV inl x
  | _ => true
section
variable {P : Program} {C : Orc} {nt n0 : Nat}
theorem execRV_sound (hC : OrcOk P C) (hm : P.follows .mixedOrders = true) {id : Nat} {ops : Array Oper} {draw : Bool} {ρ : Env} {H : Heap} {s : Env × Heap} (hrf : codeRV C.inl (.region id ops draw) = true) (h : execRV P C nt ops draw ρ H = some s) :
    AWp P nt n0 (.region id ops draw) (IsX (.normal, s.1, s.2)) ρ H := by
  intro fr base w0 β fz a w h1 h2 hs
  subst h1
  have hQ : ∀ β fz a w, Sim fr base w0 β fz s.1 s.2 a w → ∃ ρ' H' β' fz', IsX (.normal, s.1, s.2) .normal ρ' H' ∧ Sim fr base w0 β' fz' ρ' H' a w := fun β fz a w hs => ⟨s.1, s.2, β, fz, rfl, hs⟩
  unfold execRV at h
  split at h
  · rename_i hc
    simp only [Bool.and_eq_true, Bool.not_eq_true'] at hc
    obtain ⟨rfl, hnr⟩ := hc
    cases hrf : rfV C.inl ops with
    | false => rw [hrf] at h; cases h
    | true =>
    rw [hrf, cond_true] at h
    obtain ⟨V, HH, E, hcan, hE, e0, e1, e2, e3⟩ := regionV_canon hrf h
    apply wp_region_any hm
    have hrest : rest ops (Array.replicate ops.size false) = List.range ops.size := by
      unfold rest
      rw [List.filter_eq_self]
      intro i hi
      have : i < ops.size := by simpa using hi
      simp [Array.getD_eq_getD_getElem?, this]
    have hf : ∀ i, (Array.replicate ops.size false).getD i false = false := fun i => by
      rw [Array.getD_eq_getD_getElem?]
      by_cases hi : i < ops.size
      · simp [hi]
      · simp [hi]
    refine any_wpV hC hE hcan _ (fun β fz ρ a w he hs => hQ β fz a w ?_) ops.size _ ρ H β fz a _ (by simp) (by rw [hrest]; simp) ?_ ?_ hs.drew
    · rw [e3] at hs
      exact ⟨hs.heap, hs.defers, hs.size, hs.ext, fun t => by have := hs.env t; rw [← he t, e2] at this; exact this⟩
    · intro i o ho hl
      rw [hf] at hl; cases hl
    · refine ⟨fun t => ?_, 0, by omega, e1.symm, fun w _ _ => ?_⟩
      · have e4 : ∀ m, canV ops V (E 0) (fun _ => false) m = E 0 := by
          intro m
          induction m with
          | zero => rfl
          | succ m ih => simp only [canV, Bool.false_eq_true, if_false]; exact ih
        rw [canV_congr (g := fun _ => false) (fun k _ _ => hf k), e4, e0]
      · rw [hf]; simp
  · rename_i hc
    refine region_wp hC hm (fun hd => ?_) _ hs (ρn := s.1) (Hn := s.2) h hQ
    subst hd
    simpa using hc
end
theorem codeRV_true (inl : FuncId → Bool) : ∀ c : Code, codeRV inl c = true := by
  intro c
  induction c with
  | seq x y ihx ihy => simp only [codeRV, ihx, ihy, Bool.and_self]
  | cond c x y ihx ihy => simp only [codeRV, ihx, ihy, Bool.and_self]
  | block id x ih => simp only [codeRV, ih]
  | loop x ih => simp only [codeRV, ih]
  | _ => rfl
/-- what lives at a loop -/
def pruneO (L : Option (List Nat)) (ρ : Env) : Env := match L with | some L => prune L ρ | none => ρ
def execV (P : Program) (C : Orc) (nt : Nat) (live : Nat → Option (List Nat)) (k : Nat) : Code → Nat → Env → Heap → Option Res
  | .skip, _, ρ, H => some (.normal, ρ, H)
  | .region _ ops draw, _, ρ, H => match execRV P C nt ops draw ρ H with
    | some s => some (.normal, s.1, s.2)
    | none => none
  | .seq x y, b, ρ, H => match execV P C nt live k x b ρ H with
    | some (.normal, ρ', H') => execV P C nt live k y b ρ' H'
    | r => r
  | .cond c x y, b, ρ, H => match opd ρ c with
    | .v (.bool true) => execV P C nt live k x b ρ H
    | .v (.bool false) => execV P C nt live k y b ρ H
    | _ => none
  | .block id c, _, ρ, H => match execV P C nt live k c id ρ H with
    | some (.exit id', ρ', H') => if id' = id then some (.normal, ρ', H') else some (.exit id', ρ', H')
    | r => r
  | .loop c, b, ρ, H => iterP (execV P C nt live k c b) (live b) k ρ H
  | .exit id, _, ρ, H => some (.exit id, ρ, H)
  | .ret, _, ρ, H => some (.ret, ρ, H)
  | .label _, _, ρ, H => some (.normal, ρ, H)
  | _, _, _, _ => none
section
variable {P : Program} {C : Orc} {nt n0 : Nat}
theorem execV_sound (hC : OrcOk P C) (hm : P.follows .mixedOrders = true) {live : Nat → Option (List Nat)} {k : Nat} : ∀ (c : Code) (b : Nat) (ρ : Env) (H : Heap) (r : Res), codeRV C.inl c = true → execV P C nt live k c b ρ H = some r → AWp P nt n0 c (IsX r) ρ H := by
  intro c
  induction c with
  | skip => intro b ρ H r _ h f base w0 β fz a w h1 h2 hs; simp only [execV, Option.some.injEq] at h; exact wp_skip ⟨ρ, H, β, fz, h.symm, hs⟩
  | label l => intro b ρ H r _ h f base w0 β fz a w h1 h2 hs; simp only [execV, Option.some.injEq] at h; exact wp_label ⟨ρ, H, β, fz, h.symm, hs⟩
  | exit id => intro b ρ H r _ h f base w0 β fz a w h1 h2 hs; simp only [execV, Option.some.injEq] at h; exact wp_exit ⟨ρ, H, β, fz, h.symm, hs⟩
  | ret => intro b ρ H r _ h f base w0 β fz a w h1 h2 hs; simp only [execV, Option.some.injEq] at h; exact wp_ret ⟨ρ, H, β, fz, h.symm, hs⟩
  | region id ops draw =>
    intro b ρ H r hrf h
    simp only [execV] at h
    split at h
    · rename_i s hs
      simp only [Option.some.injEq] at h
      subst h
      exact execRV_sound hC hm hrf hs
    · cases h
  | seq x y ihx ihy =>
    intro b ρ H r hrf h
    simp only [codeRV, Bool.and_eq_true] at hrf
    simp only [execV] at h
    refine AWp.seq ?_
    split at h
    · rename_i ρ' H' h1
      refine (ihx _ _ _ _ hrf.1 h1).mono ?_
      rintro e ρ2 H2 q
      simp only [IsX, Prod.mk.injEq] at q
      obtain ⟨rfl, rfl, rfl⟩ := q
      exact ihy _ _ _ _ hrf.2 h
    · rename_i hn
      refine (ihx _ _ _ _ hrf.1 h).mono ?_
      rintro e ρ2 H2 q
      cases e with
      | normal =>
        simp only [IsX] at q
        subst q
        exact (hn _ _ h).elim
      | _ => exact q
  | cond c x y ihx ihy =>
    intro b ρ H r hrf h fr base w0 β fz a w h1 h2 hs
    simp only [codeRV, Bool.and_eq_true] at hrf
    simp only [execV, opd_eq] at h
    have hc := res_R (g := true) rfl (hs.ev c)
    split at h
    · rename_i ht
      rw [ht] at hc
      exact wp_cond hc.v_inv (ihx _ _ _ _ hrf.1 h fr base w0 β fz a w h1 h2 hs)
    · rename_i ht
      rw [ht] at hc
      exact wp_cond hc.v_inv (ihy _ _ _ _ hrf.2 h fr base w0 β fz a w h1 h2 hs)
    · cases h
  | block id x ih =>
    intro b ρ H r hrf h fr base w0 β fz a w h1 h2 hs
    simp only [codeRV] at hrf
    simp only [execV] at h
    split at h
    · rename_i id' ρ' H' hx
      refine wp_block (wp_mono (ih _ _ _ _ hrf hx fr base w0 β fz a w h1 h2 hs) ?_)
      rintro e a' w' ⟨ρ2, H2, β', fz', q, s⟩
      simp only [IsX, Prod.mk.injEq] at q
      obtain ⟨rfl, rfl, rfl⟩ := q
      simp only [Exit.inBlock]
      split at h <;> (rename_i hid; simp only [Option.some.injEq] at h; subst h)
      · rw [if_pos hid]; exact ⟨ρ', H', β', fz', rfl, s⟩
      · rw [if_neg hid]; exact ⟨ρ', H', β', fz', rfl, s⟩
    · rename_i hn
      refine wp_block (wp_mono (ih _ _ _ _ hrf h fr base w0 β fz a w h1 h2 hs) ?_)
      rintro e a' w' ⟨ρ2, H2, β', fz', q, s⟩
      cases e with
      | exit id' => simp only [IsX] at q; subst q; exact (hn _ _ _ h).elim
      | _ => exact ⟨ρ2, H2, β', fz', q, s⟩
  | loop x ih =>
    intro b ρ H r hrf h
    simp only [codeRV] at hrf
    simp only [execV] at h
    exact iterP_sound (fun ρ H r hW => ih b ρ H r hrf hW) h
  | rangeFunc _ _ _ _ _ _ => intro b ρ H r _ h; simp [execV] at h
  | scope _ _ => intro b ρ H r _ h; simp [execV] at h
  | goto _ => intro b ρ H r _ h; simp [execV] at h
  | refuse _ => intro b ρ H r _ h; simp [execV] at h
theorem runV_quiet {ops : Array Oper} : ∀ {l : List Oper} {s r : Env × Heap} {q : List (Env × Heap × AVal)}, (∀ o ∈ l, hk C.inl o ≠ 2) → runV P C nt ops l s = some (q, r) → r.2 = s.2
  | [], s, r, q, _, h => by simp only [runV, Option.some.injEq, Prod.mk.injEq] at h; rw [h.2]
  | o :: l, s, r, q, hl, h => by
    simp only [runV] at h
    split at h
    case isFalse => cases h
    split at h
    case h_2 => cases h
    rename_i v H' ha
    split at h
    case h_2 => cases h
    rename_i q' r' hr
    simp only [Option.some.injEq, Prod.mk.injEq] at h
    obtain ⟨_, rfl⟩ := h
    have e1 := runV_quiet (fun o ho => hl o (List.mem_cons_of_mem _ ho)) hr
    have e2 := act_quiet (hl o List.mem_cons_self) ha
    simp only at e1
    rw [e1, e2]
theorem execRV_quiet {ops : Array Oper} {draw : Bool} {ρ : Env} {H : Heap} {s : Env × Heap} (hq : quietR C.inl ops = true) (h : execRV P C nt ops draw ρ H = some s) : s.2 = H := by
  have hl : ∀ o ∈ ops.toList, hk C.inl o ≠ 2 := fun o ho => by
    have := List.all_eq_true.1 hq o ho
    simpa using this
  unfold execRV at h
  split at h
  · cases hrf : rfV C.inl ops with
    | false => rw [hrf] at h; cases h
    | true =>
    rw [hrf, cond_true] at h
    unfold regionV at h
    split at h
    case h_2 => cases h
    rename_i q r hr
    split at h
    case isFalse => cases h
    simp only [Option.some.injEq] at h
    subst h
    exact runV_quiet hl hr
  · exact runL_quiet hl h
theorem execV_quiet {live : Nat → Option (List Nat)} {k : Nat} : ∀ (c : Code) (b : Nat) (ρ : Env) (H : Heap) (r : Res), quietC C.inl c = true → execV P C nt live k c b ρ H = some r → r.2.2 = H := by
  intro c
  induction c with
  | skip => intro b ρ H r _ h; simp only [execV, Option.some.injEq] at h; subst h; rfl
  | label l => intro b ρ H r _ h; simp only [execV, Option.some.injEq] at h; subst h; rfl
  | exit id => intro b ρ H r _ h; simp only [execV, Option.some.injEq] at h; subst h; rfl
  | ret => intro b ρ H r _ h; simp only [execV, Option.some.injEq] at h; subst h; rfl
  | region id ops draw =>
    intro b ρ H r hq h
    simp only [execV] at h
    split at h
    · rename_i s hs
      simp only [Option.some.injEq] at h
      subst h
      exact execRV_quiet hq hs
    · cases h
  | seq x y ihx ihy =>
    intro b ρ H r hq h
    simp only [quietC, Bool.and_eq_true] at hq
    simp only [execV] at h
    split at h
    · rename_i ρ' H' h1
      have := ihx _ _ _ _ hq.1 h1
      simp only at this
      subst this
      exact ihy _ _ _ _ hq.2 h
    · exact ihx _ _ _ _ hq.1 h
  | cond c x y ihx ihy =>
    intro b ρ H r hq h
    simp only [quietC, Bool.and_eq_true] at hq
    simp only [execV] at h
    split at h
    · exact ihx _ _ _ _ hq.1 h
    · exact ihy _ _ _ _ hq.2 h
    · cases h
  | block id x ih =>
    intro b ρ H r hq h
    simp only [quietC] at hq
    simp only [execV] at h
    split at h
    · rename_i id' ρ' H' hx
      have := ih _ _ _ _ hq hx
      split at h <;> (simp only [Option.some.injEq] at h; subst h; exact this)
    · exact ih _ _ _ _ hq h
  | loop x ih =>
    intro b ρ H r hq h
    simp only [quietC] at hq
    simp only [execV] at h
    exact iterP_quiet (fun ρ H r hW => ih b ρ H r hq hW) h
  | rangeFunc _ _ _ _ _ _ => intro b ρ H r _ h; simp [execV] at h
  | scope _ _ => intro b ρ H r _ h; simp [execV] at h
  | goto _ => intro b ρ H r _ h; simp [execV] at h
  | refuse _ => intro b ρ H r _ h; simp [execV] at h
end
/-- whoever calls what he is given, and catches -/
def catM (P : Program) (t : TypeId) (X : XF) (args : Row) (H : Heap) : Option (AVal × Heap) :=
  match args with
  | [.fn g caps] => match callOk P g, aAlloc P t H with
    | true, some (p, H1) => match X g caps H1 with
      | some (r, H2) => match aStore P t p r H2 with
        | some H3 => (aLoad P t p H3).map (·, H3)
        | none => none
      | none => none
    | _, _ => none
  | _ => none
/-- a function's body -/
def normW (P : Program) (T : Tab) (live : FuncId → Nat → Option (List Nat)) (k : Nat) (X : XF) : XF := fun f args H =>
  match T.fin f, P.funcs[f]? with
  | true, some fn => match fn.body with
    | some c => cond (Nat.ble args.length fn.ntmps) (endK P fn.results.toList (execV P (orcX T X f) fn.ntmps (live f) k c 0 (envOf 0 args) H)) none
    | none => none
  | _, _ => none
/-- who is given plain values, and answers a plain one -/
def extM (g : Row → Option Value) (args : Row) (H : Heap) : Option (AVal × Heap) := ((g args).map AVal.v).map (·, H)
noncomputable def execW (P : Program) (T : Tab) (cat : FuncId → Sp) (live : FuncId → Nat → Option (List Nat)) (k : Nat) : Nat → XF
  | 0, _, _, _ => none
  | n + 1, f, args, H => match cat f with
    | .cat t => catM P t (execW P T cat live k n) args H
    | .snap a m l r m' l' => snapM a m l r m' l' args H
    | .emp => empM (normW P T live k (execW P T cat live k n) f) args H
    | .ext g => extM g args H
    | .no => normW P T live k (execW P T cat live k n) f args H
structure TabV (P : Program) (T : Tab) (cat : FuncId → Sp) : Prop where
  qt : ∀ f fn c, T.rdf f = true → cat f = .no → P.funcs[f]? = some fn → fn.body = some c → quietC (fun g => !T.rdf g) c = true
  nc : ∀ f, T.rdf f = true → cat f = .no ∨ cat f = .emp ∨ ∃ g, cat f = .ext g
  snap : ∀ f a m l r m' l', cat f = .snap a m l r m' l' → InlOk P f (snapM a m l r m' l')
  ext : ∀ f g, cat f = .ext g → InlOk P f (extM g)
  cat : ∀ f t, cat f = .cat t → ∀ X : XF, (∀ g, InlOk P g (X g)) → InlOk P f (catM P t X)
section
variable {P : Program} {T : Tab} {cat : FuncId → Sp} {live : FuncId → Nat → Option (List Nat)} {k : Nat}
theorem normW_some {X : XF} {f : FuncId} {args : Row} {H : Heap} {r : AVal × Heap} (h : normW P T live k X f args H = some r) : T.fin f = true ∧ ∃ fn c, P.funcs[f]? = some fn ∧ fn.body = some c ∧ args.length ≤ fn.ntmps ∧ endK P fn.results.toList (execV P (orcX T X f) fn.ntmps (live f) k c 0 (envOf 0 args) H) = some r := by
  unfold normW at h
  split at h
  · rename_i fn h1 h2
    split at h
    · rename_i c hb
      cases hl : Nat.ble args.length fn.ntmps with
      | false => rw [hl] at h; cases h
      | true =>
        rw [hl] at h
        exact ⟨h1, fn, c, h2, hb, Nat.le_of_ble_eq_true hl, h⟩
    · cases h
  · cases h
theorem execW_quiet (hT : TabV P T cat) {n : Nat} {f : FuncId} {args : Row} {H H' : Heap} {r : AVal} (hf : T.rdf f = true) (h : execW P T cat live k n f args H = some (r, H')) : H' = H := by
  cases n with
  | zero => simp [execW] at h
  | succ n =>
    rcases hT.nc f hf with hc | hc | ⟨g, hc⟩
    · simp only [execW, hc] at h
      obtain ⟨hfin, fn, c, hfn, hb, hn, he⟩ := normW_some h
      obtain ⟨e, ρ, H2, l, hx, _, _, hr⟩ := endK_some he
      have := execV_quiet c _ _ _ _ (hT.qt f fn c hf hc hfn hb) hx
      cases hr
      exact this
    · simp only [execW, hc] at h
      unfold empM at h
      split at h
      · simp only [Option.some.injEq, Prod.mk.injEq] at h; exact h.2.symm
      · cases h
    · simp only [execW, hc, extM, Option.map_map, Option.map_eq_some_iff, Function.comp, Prod.mk.injEq] at h
      obtain ⟨x, _, _, h3⟩ := h
      exact h3.symm
theorem orcV_ok (hT : TabV P T cat) {X : XF} (hX : ∀ f, InlOk P f (X f)) (hq : ∀ f args H r H', T.rdf f = true → X f args H = some (r, H') → H' = H) (g : FuncId) : OrcOk P (orcX T X g) where
  pure := fun f args r h => by simp [orcX] at h
  inline := fun f _ => hX f
  foot := fun f args ids h => by simp [orcX] at h
  rd := fun f m h => by
    simp only [orcX] at h
    split at h
    · rename_i hr
      simp only [Option.some.injEq] at h
      subst h
      intro args H r H' h2
      simp only [Option.map_map, Option.map_eq_some_iff, Function.comp, Prod.mk.injEq] at h2
      obtain ⟨q, hq1, rfl, rfl⟩ := h2
      have := hq f args H q.1 q.2 hr hq1
      exact hX f args H q.1 H (by rw [hq1, ← this])
    · cases h
  cells := fun f h => by simp [orcX] at h
theorem normW_inl (hm : P.follows .mixedOrders = true) {X : XF} (hC : ∀ f, OrcOk P (orcX T X f)) (f : FuncId) : InlOk P f (normW P T live k X f) := by
  cases hfn : P.funcs[f]? with
  | none =>
    intro args H r H' h
    obtain ⟨_, fn, c, h1, _⟩ := normW_some h
    rw [hfn] at h1; cases h1
  | some fn =>
    cases hb : fn.body with
    | none =>
      intro args H r H' h
      obtain ⟨_, fn', c, h1, h2, _⟩ := normW_some h
      rw [hfn] at h1; cases h1
      rw [hb] at h2; cases h2
    | some c =>
      refine inl_of hfn hb fun args H r H' h => ?_
      obtain ⟨hfin, fn', c', h1, h2, hn, he⟩ := normW_some h
      rw [hfn] at h1; cases h1
      rw [hb] at h2; cases h2
      obtain ⟨e, ρ, H2, l, hx, hel, hl, hr⟩ := endK_some he
      cases hr
      refine ⟨hn, (execV_sound (n0 := H.length) (hC f) hm c _ _ _ _ (codeRV_true _ c) hx).mono ?_⟩
      rintro e' ρ' H3 q
      simp only [IsX, Prod.mk.injEq] at q
      obtain ⟨rfl, rfl, rfl⟩ := q
      rcases hel with rfl | rfl <;> simp only [retA, hl, and_self]
theorem execW_inl (hT : TabV P T cat) (hm : P.follows .mixedOrders = true) : ∀ (n : Nat) (f : FuncId), InlOk P f (execW P T cat live k n f) := by
  intro n
  induction n with
  | zero => intro f args H r H' h; simp [execW] at h
  | succ n ih =>
    intro f
    have hN := normW_inl (P := P) (T := T) (live := live) (k := k) hm (fun g => orcV_ok hT (X := execW P T cat live k n) ih (fun f args H r H' hr hx => execW_quiet hT hr hx) g) f
    cases hcf : cat f with
    | snap a m l r m' l' =>
      have h2 : execW P T cat live k (n + 1) f = snapM a m l r m' l' := by
        funext args H
        simp only [execW, hcf]
      rw [h2]; exact hT.snap f a m l r m' l' hcf
    | cat t =>
      have h2 : execW P T cat live k (n + 1) f = catM P t (execW P T cat live k n) := by
        funext args H
        simp only [execW, hcf]
      rw [h2]; exact hT.cat f t hcf _ ih
    | emp =>
      have h2 : execW P T cat live k (n + 1) f = empM (normW P T live k (execW P T cat live k n) f) := by
        funext args H
        simp only [execW, hcf]
      rw [h2]; exact emp_inl hN
    | ext g =>
      have h2 : execW P T cat live k (n + 1) f = extM g := by
        funext args H
        simp only [execW, hcf]
      rw [h2]; exact hT.ext f g hcf
    | no =>
      have h2 : execW P T cat live k (n + 1) f = normW P T live k (execW P T cat live k n) f := by
        funext args H
        simp only [execW, hcf]
      rw [h2]; exact hN
end
end Go.AI
