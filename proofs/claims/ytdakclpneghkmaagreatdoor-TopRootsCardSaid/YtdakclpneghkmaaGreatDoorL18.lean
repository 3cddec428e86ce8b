/- The interpreter that runs on a tree: regions, code, functions. -/
import Derived.Test.YtdakclpneghkmaaGreatDoorL17
namespace Go.AI
set_option linter.unusedSectionVars false
variable [Sym]
set_option linter.unusedSimpArgs false
set_option linter.unusedVariables false
set_option maxRecDepth 100000
open Go.RowKit
noncomputable def compA (P : Program) (T : Tab) (f : FuncId) (ops : Array Oper) (o : Oper) : KV :=
 match o.guard with
 | none => compV P T f o
 | some _ => match Nat.beq (hk (fun g => !T.rdf g) o) 2 with
  | true => ⟨fun X Xt ρ H => match guardOk ops (ev ρ) o with
   | some true => (compV P T f o).run X Xt ρ H
   | some false => some (.v undef, H)
   | none => none⟩
  | false => ⟨fun X Xt ρ H => match guardOk ops (ev ρ) o with
   | some true => match (compV P T f o).run X Xt ρ H with
    | some (a, H') => some (.when true a, H')
    | none => none
   | some false => some (.when false (((astep P (orcX T X f) false (ev ρ) o (toL H)).map Prod.fst).getD .junk), H)
   | none => none⟩
theorem compA_sim {P : Program} {T : Tab} {f : FuncId} {ops : Array Oper} {o : Oper} {X : XF} {Xt : XT} (hX : SimX Xt X) {ρ : Env} {Th : TH} {H : Heap} (h : TR Th H) : SimO ((compA P T f ops o).run X Xt ρ Th) (act P (orcX T X f) ops o (ev ρ) H) := by
 unfold compA act
 cases hg : o.guard with
 | none => exact compV_sim hX h
 | some gw =>
  simp only [beq_dec]
  have hi : hk (orcX T X f).inl o = hk (fun g => !T.rdf g) o := rfl
  by_cases h2 : hk (fun g => !T.rdf g) o = 2
  ·rw [decide_eq_true h2]
   simp only
   split
   ·rename_i he
    simp only [he, hi, h2, if_true]
    exact compV_sim hX h
   ·rename_i he
    simp only [he, hi, h2, if_true, Bool.false_eq_true, if_false]
    exact SimO.one h _
   ·exact SimO.nil
  ·rw [decide_eq_false h2]
   simp only
   split
   ·rename_i he
    simp only [he, hi, if_neg h2]
    intro a T' e
    split at e
    ·rename_i r1 r2 hr
     simp only [Option.some.injEq, Prod.mk.injEq] at e
     obtain ⟨rfl, rfl⟩ := e
     obtain ⟨H', q1, q2⟩ := compV_sim hX h r1 r2 hr
     have hq : H' = H := astep_read (fun _ => rfl) (show hk (orcX T X f).inl o ≠ 2 from h2) q1
     subst hq
     exact ⟨H', by simp [q1], q2⟩
    ·cases e
   ·rename_i he
    simp only [he, hi, if_neg h2, toL_eq h]
    simp only [Bool.false_eq_true, false_and, if_false]
    exact SimO.one h _
   ·exact SimO.nil
structure KL where
 run : XF → XT → Env → TH → Option (Env × TH)
noncomputable def compL (P : Program) (T : Tab) (f : FuncId) (nt : Nat) (ops : Array Oper) : List Oper → KL
 | [] => ⟨fun _ _ ρ H => some (ρ, H)⟩
 | o :: l => match dstOk nt o with
  | false => ⟨fun _ _ _ _ => none⟩
  | true => match o.dst with
   | some t => ⟨fun X Xt ρ H => Option.rec (motive := fun _ => Option (Env × TH)) none (fun r => Prod.rec (motive := fun _ => Option (Env × TH)) (fun a H' => (compL P T f nt ops l).run X Xt ((t, a) :: ρ) H') r) ((compA P T f ops o).run X Xt ρ H)⟩
   | none => ⟨fun X Xt ρ H => Option.rec (motive := fun _ => Option (Env × TH)) none (fun r => Prod.rec (motive := fun _ => Option (Env × TH)) (fun _ H' => (compL P T f nt ops l).run X Xt ρ H') r) ((compA P T f ops o).run X Xt ρ H)⟩
theorem compL_sim {P : Program} {T : Tab} {f : FuncId} {nt : Nat} {ops : Array Oper} {X : XF} {Xt : XT} (hX : SimX Xt X) : ∀ (l : List Oper) (ρ : Env) (Th : TH) (H : Heap), TR Th H → SimE2 ((compL P T f nt ops l).run X Xt ρ Th) (runL P (orcX T X f) nt ops l (ρ, H))
 | [], ρ, Th, H, h => fun ρ' T' e => by
  simp only [compL, Option.some.injEq, Prod.mk.injEq] at e
  obtain ⟨rfl, rfl⟩ := e
  exact ⟨H, rfl, h⟩
 | o :: l, ρ, Th, H, h => fun ρ' T' e => by
  simp only [compL] at e
  split at e
  ·cases e
  ·rename_i hd
   have e' : (match (compA P T f ops o).run X Xt ρ Th with
     | some (a, H') => (compL P T f nt ops l).run X Xt (put ρ o.dst a) H'
     | none => none) = some (ρ', T') := by
    cases hdst : o.dst with
    | some t =>
     simp only [hdst] at e
     cases hr : (compA P T f ops o).run X Xt ρ Th with
     | none => rw [hr] at e; cases e
     | some r => rw [hr] at e; exact e
    | none =>
     simp only [hdst] at e
     cases hr : (compA P T f ops o).run X Xt ρ Th with
     | none => rw [hr] at e; cases e
     | some r => rw [hr] at e; exact e
   split at e'
   ·rename_i r1 r2 hr
    obtain ⟨H', q1, q2⟩ := compA_sim (ops := ops) hX h r1 r2 hr
    obtain ⟨H2, q3, q4⟩ := compL_sim hX l _ _ _ q2 ρ' T' e'
    refine ⟨H2, ?_, q4⟩
    simp only [runL, step1_act, hd, if_true, q1, Option.map_some]
    exact q3
   ·cases e'
structure KQ where
 run : XF → XT → Env → TH → Option (List (Env × TH × AVal) × (Env × TH))
noncomputable def compQ (P : Program) (T : Tab) (f : FuncId) (nt : Nat) (ops : Array Oper) : List Oper → KQ
 | [] => ⟨fun _ _ ρ H => some ([], (ρ, H))⟩
 | o :: l => match dstOk nt o with
  | false => ⟨fun _ _ _ _ => none⟩
  | true => ⟨fun X Xt ρ H => match (compA P T f ops o).run X Xt ρ H with
   | some (a, H') => match (compQ P T f nt ops l).run X Xt (put ρ o.dst a) H' with
    | some (q, s) => some ((ρ, H, a) :: q, s)
    | none => none
   | none => none⟩
noncomputable def envT (q : List (Env × TH × AVal)) (r : Env × TH) (i : Nat) : Env := match lgetR q i with | some x => x.1 | none => r.1
noncomputable def heapTr (q : List (Env × TH × AVal)) (r : Env × TH) (i : Nat) : TH := match lgetR q i with | some x => x.2.1 | none => r.2
noncomputable def valT (q : List (Env × TH × AVal)) (i : Nat) : AVal := match lgetR q i with | some x => x.2.2 | none => .junk
noncomputable def againT (P : Program) (T : Tab) (f : FuncId) (ops : Array Oper) (X : XF) (Xt : XT) (q : List (Env × TH × AVal)) (r : Env × TH) (p : Nat × Nat) : Bool :=
 match (compA P T f ops (ops.getD p.1 default)).run X Xt (envT q r p.1) (heapTr q r (cond (Nat.blt p.2 p.1) p.2 (p.2 + 1))) with
 | some (v, _) => beqA v (valT q p.1)
 | none => false
def allT (g : Nat × Nat → Bool) : List (Nat × Nat) → Bool
 | [] => true
 | p :: l => cond (g p) (allT g l) false
structure PB where
 l : List (Nat × Nat)
noncomputable def compR (P : Program) (T : Tab) (f : FuncId) (nt : Nat) (ops : Array Oper) (draw : Bool) : KL :=
 match draw && !raceFree (fun g => !T.rdf g) ops with
 | true => match rfV (fun g => !T.rdf g) ops with
  | true => ⟨fun X Xt ρ H => match (compQ P T f nt ops ops.toList).run X Xt ρ H with
   | some (q, r) => cond (allT (againT P T f ops X Xt q r) (pairsV (fun g => !T.rdf g) ops)) (some r) none
   | none => none⟩
  | false => ⟨fun _ _ _ _ => none⟩
 | false => compL P T f nt ops ops.toList
structure QR (q' : List (Env × TH × AVal)) (q : List (Env × Heap × AVal)) : Prop where
 len : q'.length = q.length
 at_ : ∀ (i : Nat) (x' : Env × TH × AVal), q'[i]? = some x' → ∃ x : Env × Heap × AVal, q[i]? = some x ∧ x'.1 = x.1 ∧ x'.2.2 = x.2.2 ∧ TR x'.2.1 x.2.1
theorem compQ_sim {P : Program} {T : Tab} {f : FuncId} {nt : Nat} {ops : Array Oper} {X : XF} {Xt : XT} (hX : SimX Xt X) : ∀ (l : List Oper) (ρ : Env) (Th : TH) (H : Heap), TR Th H → ∀ q' r', (compQ P T f nt ops l).run X Xt ρ Th = some (q', r') → ∃ q H', runV P (orcX T X f) nt ops l (ρ, H) = some (q, (r'.1, H')) ∧ QR q' q ∧ TR r'.2 H'
 | [], ρ, Th, H, h => fun q' r' e => by
  simp only [compQ, Option.some.injEq, Prod.mk.injEq] at e
  obtain ⟨rfl, rfl⟩ := e
  exact ⟨[], H, rfl, ⟨rfl, fun i x' hx => by simp at hx⟩, h⟩
 | o :: l, ρ, Th, H, h => fun q' r' e => by
  simp only [compQ] at e
  split at e
  ·cases e
  ·rename_i hd
   simp only at e
   split at e
   case h_2 => cases e
   rename_i r1 r2 hr
   split at e
   case h_2 => cases e
   rename_i q2 s2 h2
   simp only [Option.some.injEq, Prod.mk.injEq] at e
   obtain ⟨rfl, rfl⟩ := e
   obtain ⟨H', q1, q3⟩ := compA_sim (ops := ops) hX h r1 r2 hr
   obtain ⟨q, H2, q4, q5, q6⟩ := compQ_sim hX l _ _ _ q3 _ _ h2
   refine ⟨(ρ, H, r1) :: q, H2, ?_, ⟨by simp [q5.len], fun i x' hx => ?_⟩, q6⟩
   ·simp only [runV, hd, if_true, q1, q4]
   ·cases i with
    | zero => simp at hx; subst hx; exact ⟨(ρ, H, r1), rfl, rfl, rfl, h⟩
    | succ i => simpa using q5.at_ i x' (by simpa using hx)
theorem QR.env {q' : List (Env × TH × AVal)} {q : List (Env × Heap × AVal)} (h : QR q' q) {r' : Env × TH} {r : Env × Heap} (hr : r'.1 = r.1) (i : Nat) : envT q' r' i = envV q r i := by
 unfold envT envV
 rw [lgetR_eq]
 cases hx : q'[i]? with
 | some x' =>
  obtain ⟨x, h1, h2, _⟩ := h.at_ i x' hx
  rw [h1]; exact h2
 | none =>
  have : q[i]? = none := List.getElem?_eq_none (by rw [← h.len]; exact List.getElem?_eq_none_iff.1 hx)
  rw [this]; exact hr
theorem QR.heap {q' : List (Env × TH × AVal)} {q : List (Env × Heap × AVal)} (h : QR q' q) {r' : Env × TH} {r : Env × Heap} (hr : TR r'.2 r.2) (i : Nat) : TR (heapTr q' r' i) (heapV q r i) := by
 unfold heapTr heapV
 rw [lgetR_eq]
 cases hx : q'[i]? with
 | some x' =>
  obtain ⟨x, h1, _, _, h4⟩ := h.at_ i x' hx
  rw [h1]; exact h4
 | none =>
  have : q[i]? = none := List.getElem?_eq_none (by rw [← h.len]; exact List.getElem?_eq_none_iff.1 hx)
  rw [this]; exact hr
theorem QR.val {q' : List (Env × TH × AVal)} {q : List (Env × Heap × AVal)} (h : QR q' q) (i : Nat) : valT q' i = valV q i := by
 unfold valT valV
 rw [lgetR_eq]
 cases hx : q'[i]? with
 | some x' =>
  obtain ⟨x, h1, _, h3, _⟩ := h.at_ i x' hx
  rw [h1]; exact h3
 | none =>
  have : q[i]? = none := List.getElem?_eq_none (by rw [← h.len]; exact List.getElem?_eq_none_iff.1 hx)
  rw [this]
theorem allT_eq (g : Nat × Nat → Bool) : ∀ l, allT g l = l.all g
 | [] => rfl
 | p :: l => by
  simp only [allT, List.all_cons, allT_eq g l]
  cases g p <;> rfl
theorem compR_sim {P : Program} {T : Tab} {f : FuncId} {nt : Nat} {ops : Array Oper} {draw : Bool} {X : XF} {Xt : XT} (hX : SimX Xt X) (ρ : Env) (Th : TH) (H : Heap) (h : TR Th H) : SimE2 ((compR P T f nt ops draw).run X Xt ρ Th) (execRV P (orcX T X f) nt ops draw ρ H) := by
 have hi : (orcX T X f).inl = fun g => !T.rdf g := rfl
 unfold compR execRV
 rw [hi]
 cases hd : (draw && !raceFree (fun g => !T.rdf g) ops) with
 | false => exact compL_sim hX _ _ _ _ h
 | true =>
  rw [if_pos rfl]
  intro ρ' T' e
  simp only at e
  cases hrv : rfV (fun g => !T.rdf g) ops with
  | false => rw [hrv] at e; cases e
  | true =>
  rw [hrv] at e
  rw [cond_true]
  simp only at e
  split at e
  case h_2 => cases e
  rename_i q' r' hq
  obtain ⟨q, H', h1, h2, h3⟩ := compQ_sim hX _ _ _ _ h _ _ hq
  rw [allT_eq] at e
  cases hall : (pairsV (fun g => !T.rdf g) ops).all (againT P T f ops X Xt q' r') with
  | false => rw [hall] at e; cases e
  | true =>
   rw [hall] at e
   simp only [cond_true, Option.some.injEq] at e
   subst e
   refine ⟨H', ?_, h3⟩
   unfold regionV
   rw [h1, hi]
   simp only
   rw [if_pos]
   refine List.all_eq_true.2 fun p hp => ?_
   have := List.all_eq_true.1 hall p hp
   unfold againT at this
   unfold againV
   split at this
   ·rename_i v T2 hv
    have e1 : cond (Nat.blt p.2 p.1) p.2 (p.2 + 1) = if p.2 < p.1 then p.2 else p.2 + 1 := by
     rw [blt_dec]
     by_cases hlt : p.2 < p.1 <;> simp [hlt]
    rw [e1] at hv
    obtain ⟨H2, k1, _⟩ := compA_sim (P := P) (T := T) (f := f) (ops := ops) (o := ops.getD p.1 default) hX (h2.heap (r' := (ρ', T')) (r := (ρ', H')) h3 (if p.2 < p.1 then p.2 else p.2 + 1)) v T2 (ρ := envT q' (ρ', T') p.1) hv
    rw [h2.env (r := (ρ', H')) rfl] at k1
    rw [k1, ← h2.val]
    exact this
   ·cases this
abbrev ResT := Exit × Env × TH
inductive RT where
 | no
 | nm (ρ : Env) (T : TH)
 | ex (id : Nat) (ρ : Env) (T : TH)
 | rt (ρ : Env) (T : TH)
def toRes : RT → Option ResT
 | .no => none
 | .nm ρ T => some (.normal, ρ, T)
 | .ex id ρ T => some (.exit id, ρ, T)
 | .rt ρ T => some (.ret, ρ, T)
structure KCt where
 run : XF → XT → Env → TH → RT
def SimR (x : RT) (y : Option Res) : Prop := ∀ e ρ T', toRes x = some (e, ρ, T') → ∃ H', y = some (e, ρ, H') ∧ TR T' H'
noncomputable def pruneF : List Nat → Env → Env
 | [], _ => []
 | t :: l, ρ => match lkR ρ t with
  | .v x => match x with
   | .int k n => (t, .v (.int k n)) :: pruneF l ρ
   | y => (t, .v y) :: pruneF l ρ
  | .ptr a b c d => (t, .ptr a b c d) :: pruneF l ρ
  | .osl a b c d e => (t, .osl a b c d e) :: pruneF l ρ
  | .agg cs => (t, .agg cs) :: pruneF l ρ
  | .tup cs => (t, .tup cs) :: pruneF l ρ
  | a => (t, a) :: pruneF l ρ
theorem pruneF_eq : ∀ (l : List Nat) (ρ : Env), pruneF l ρ = prune l ρ
 | [], ρ => rfl
 | t :: l, ρ => by
  have ih := pruneF_eq l ρ
  unfold prune at ih ⊢
  rw [List.map_cons, ← ih]
  generalize hq : pruneF l ρ = q
  simp only [pruneF, hq, lkR_eq]
  cases lk ρ t with
  | v x => cases x <;> rfl
  | _ => rfl
noncomputable def livesT (L : Option (List Nat)) (ρ : Env) : Env := Option.rec (motive := fun _ => Env) ρ (fun l => pruneF l ρ) L
noncomputable def iterT (W : Env → TH → RT) (L : Option (List Nat)) (n : Nat) : Env → TH → RT :=
 Nat.rec (motive := fun _ => Env → TH → RT) (fun _ _ => .no) (fun _ ih ρ H => RT.rec (motive := fun _ => RT) .no (fun ρ' H' => ih ρ' H') (fun id ρ' H' => .ex id ρ' H') (fun ρ' H' => .rt ρ' H') (W (livesT L ρ) H)) n
theorem SimR.of {x : RT} {y : Option Res} {e : Exit} {ρ : Env} {T : TH} {H : Heap} (hx : toRes x = some (e, ρ, T)) (hy : y = some (e, ρ, H)) (h : TR T H) : SimR x y := by
 intro e' ρ' T' q
 rw [hx] at q
 cases q
 exact ⟨H, hy, h⟩
theorem SimR.nil {y : Option Res} : SimR .no y := fun e ρ T q => by cases q
theorem iterT_sim {W : Env → TH → RT} {W' : Env → Heap → Option Res} {L : Option (List Nat)} (hW : ∀ ρ T H, TR T H → SimR (W ρ T) (W' ρ H)) : ∀ (n : Nat) (ρ : Env) (T : TH) (H : Heap), TR T H → SimR (iterT W L n ρ T) (iterP W' L n ρ H)
 | 0, ρ, T, H, h => SimR.nil
 | n + 1, ρ, T, H, h => by
  have key : ∀ ρ0, SimR (RT.rec (motive := fun _ => RT) .no (fun ρ' H' => iterT W L n ρ' H') (fun id ρ' H' => .ex id ρ' H') (fun ρ' H' => .rt ρ' H') (W ρ0 T)) (match W' ρ0 H with
    | some (.normal, ρ', H') => iterP W' L n ρ' H'
    | r => r) := by
   intro ρ0
   have hw := hW ρ0 T H h
   cases hx : W ρ0 T with
   | no => exact SimR.nil
   | nm ρ2 T2 =>
    rw [hx] at hw
    obtain ⟨H2, q1, q2⟩ := hw _ _ _ rfl
    rw [q1]
    exact iterT_sim hW n _ _ _ q2
   | ex id ρ2 T2 =>
    rw [hx] at hw
    obtain ⟨H2, q1, q2⟩ := hw _ _ _ rfl
    rw [q1]
    exact SimR.of rfl rfl q2
   | rt ρ2 T2 =>
    rw [hx] at hw
    obtain ⟨H2, q1, q2⟩ := hw _ _ _ rfl
    rw [q1]
    exact SimR.of rfl rfl q2
  cases L with
  | none => exact key ρ
  | some L =>
   have := key (prune L ρ)
   rw [← pruneF_eq] at this
   simp only [iterP, ← pruneF_eq]
   exact this
noncomputable def seqT (a b : KCt) (X : XF) (Xt : XT) (ρ : Env) (H : TH) : RT :=
 RT.rec (motive := fun _ => RT) .no (fun ρ' H' => b.run X Xt ρ' H') (fun id ρ' H' => .ex id ρ' H') (fun ρ' H' => .rt ρ' H') (a.run X Xt ρ H)
noncomputable def condT (c : Operand) (a b : KCt) (X : XF) (Xt : XT) (ρ : Env) (H : TH) : RT :=
 BQ.rec (motive := fun _ => RT) .no (a.run X Xt ρ H) (b.run X Xt ρ H) (boolQ (opR ρ c))
noncomputable def blockT (id : Nat) (a : KCt) (X : XF) (Xt : XT) (ρ : Env) (H : TH) : RT :=
 RT.rec (motive := fun _ => RT) .no (fun ρ' H' => .nm ρ' H') (fun id' ρ' H' => bIf (Nat.beq id' id) (.nm ρ' H') (.ex id' ρ' H')) (fun ρ' H' => .rt ρ' H') (a.run X Xt ρ H)
noncomputable def regT (a : KL) (X : XF) (Xt : XT) (ρ : Env) (H : TH) : RT :=
 Option.rec (motive := fun _ => RT) .no (fun r => Prod.rec (motive := fun _ => RT) (fun ρ' H' => .nm ρ' H') r) (a.run X Xt ρ H)
noncomputable def compCT (P : Program) (T : Tab) (live : Nat → Option (List Nat)) (k : Nat) (f : FuncId) (nt : Nat) : Code → Nat → KCt
 | .skip, _ => ⟨fun _ _ ρ H => .nm ρ H⟩
 | .region _ ops draw, _ => ⟨regT (compR P T f nt ops draw)⟩
 | .seq x y, b => ⟨seqT (compCT P T live k f nt x b) (compCT P T live k f nt y b)⟩
 | .cond c x y, b => ⟨condT c (compCT P T live k f nt x b) (compCT P T live k f nt y b)⟩
 | .block id x, _ => ⟨blockT id (compCT P T live k f nt x id)⟩
 | .loop x, b => ⟨fun X Xt ρ H => iterT ((compCT P T live k f nt x b).run X Xt) (live b) k ρ H⟩
 | .exit id, _ => ⟨fun _ _ ρ H => .ex id ρ H⟩
 | .ret, _ => ⟨fun _ _ ρ H => .rt ρ H⟩
 | .label _, _ => ⟨fun _ _ ρ H => .nm ρ H⟩
 | _, _ => ⟨fun _ _ _ _ => .no⟩
theorem compCT_sim {P : Program} {T : Tab} {live : Nat → Option (List Nat)} {k : Nat} {f : FuncId} {nt : Nat} {X : XF} {Xt : XT} (hX : SimX Xt X) : ∀ (c : Code) (b : Nat) (ρ : Env) (Th : TH) (H : Heap), TR Th H → SimR ((compCT P T live k f nt c b).run X Xt ρ Th) (execV P (orcX T X f) nt live k c b ρ H) := by
 intro c
 induction c with
 | skip => intro b ρ Th H h; exact SimR.of rfl rfl h
 | label l => intro b ρ Th H h; exact SimR.of rfl rfl h
 | exit id => intro b ρ Th H h; exact SimR.of rfl rfl h
 | ret => intro b ρ Th H h; exact SimR.of rfl rfl h
 | region id ops draw =>
  intro b ρ Th H h
  simp only [compCT, regT, execV]
  have hs := compR_sim (P := P) (T := T) (f := f) (nt := nt) (ops := ops) (draw := draw) hX ρ Th H h
  cases hr : (compR P T f nt ops draw).run X Xt ρ Th with
  | none => exact SimR.nil
  | some s =>
   obtain ⟨ρ', T'⟩ := s
   obtain ⟨H', q1, q2⟩ := hs _ _ hr
   rw [q1]
   exact SimR.of rfl rfl q2
 | seq x y ihx ihy =>
  intro b ρ Th H h
  simp only [compCT, seqT, execV]
  have hx := ihx b ρ Th H h
  cases hr : (compCT P T live k f nt x b).run X Xt ρ Th with
  | no => exact SimR.nil
  | nm ρ2 T2 =>
   rw [hr] at hx
   obtain ⟨H2, q1, q2⟩ := hx _ _ _ rfl
   rw [q1]
   exact ihy b _ _ _ q2
  | ex id ρ2 T2 =>
   rw [hr] at hx
   obtain ⟨H2, q1, q2⟩ := hx _ _ _ rfl
   rw [q1]
   exact SimR.of rfl rfl q2
  | rt ρ2 T2 =>
   rw [hr] at hx
   obtain ⟨H2, q1, q2⟩ := hx _ _ _ rfl
   rw [q1]
   exact SimR.of rfl rfl q2
 | cond c x y ihx ihy =>
  intro b ρ Th H h
  simp only [compCT, condT, opR_eq, execV]
  cases hb : boolQ (opd ρ c) with
  | no => exact SimR.nil
  | t => rw [boolQ_t hb]; exact ihx b ρ Th H h
  | f => rw [boolQ_f hb]; exact ihy b ρ Th H h
 | block id x ih =>
  intro b ρ Th H h
  simp only [compCT, blockT, execV]
  have hx := ih id ρ Th H h
  cases hr : (compCT P T live k f nt x id).run X Xt ρ Th with
  | no => exact SimR.nil
  | nm ρ2 T2 =>
   rw [hr] at hx
   obtain ⟨H2, q1, q2⟩ := hx _ _ _ rfl
   rw [q1]
   exact SimR.of rfl rfl q2
  | ex id' ρ2 T2 =>
   rw [hr] at hx
   obtain ⟨H2, q1, q2⟩ := hx _ _ _ rfl
   rw [q1]
   simp only
   rw [bIf_eq, beq_dec]
   by_cases hid : id' = id
   ·rw [decide_eq_true hid, cond_true, if_pos hid]; exact SimR.of rfl rfl q2
   ·rw [decide_eq_false hid, cond_false, if_neg hid]; exact SimR.of rfl rfl q2
  | rt ρ2 T2 =>
   rw [hr] at hx
   obtain ⟨H2, q1, q2⟩ := hx _ _ _ rfl
   rw [q1]
   exact SimR.of rfl rfl q2
 | loop x ih =>
  intro b ρ Th H h
  exact iterT_sim (fun ρ T H h => ih b ρ T H h) k ρ Th H h
 | rangeFunc _ _ _ _ _ _ => intro b ρ Th H h; exact SimR.nil
 | scope _ _ => intro b ρ Th H h; exact SimR.nil
 | goto _ => intro b ρ Th H h; exact SimR.nil
 | refuse _ => intro b ρ Th H h; exact SimR.nil
noncomputable def resT (P : Program) (ρ : Env) (H : TH) : List ResultVar → Option Row
 | [] => some []
 | .tmp t :: r => match resT P ρ H r with
  | some l => some (lkR ρ t :: l)
  | none => none
 | .cell t ty :: r => match loadT P ty ⟨readF P ty⟩ (lkR ρ t) H with
  | some a => match resT P ρ H r with
   | some l => some (a :: l)
   | none => none
  | none => none
theorem resT_eq {P : Program} {ρ : Env} {T : TH} {H : Heap} (h : TR T H) : ∀ l, resT P ρ T l = resA P ρ H l
 | [] => rfl
 | .tmp t :: r => by
  simp only [resT, resA, resT_eq h r, lkR_eq, lk_eq]
  cases resA P ρ H r <;> rfl
 | .cell t ty :: r => by
  simp only [resT, resA, resT_eq h r, lkR_eq, lk_eq, loadT_eq h]
  cases aLoad P ty (look ρ t) H with
  | none => rfl
  | some a => cases resA P ρ H r <;> rfl
noncomputable def outT (P : Program) (rs : List ResultVar) (ρ : Env) (H : TH) : Option (AVal × TH) :=
 Option.rec (motive := fun _ => Option (AVal × TH)) none (fun l => some (tupA l, H)) (resT P ρ H rs)
noncomputable def endT (P : Program) (rs : List ResultVar) (x : RT) : Option (AVal × TH) :=
 RT.rec (motive := fun _ => Option (AVal × TH)) none (fun ρ H => outT P rs ρ H) (fun _ _ _ => none) (fun ρ H => outT P rs ρ H) x
theorem endT_sim {P : Program} {rs : List ResultVar} {x : RT} {y : Option Res} (h : SimR x y) : SimO (endT P rs x) (endK P rs y) := by
 have key : ∀ (e : Exit) (ρ : Env) (T : TH), (e = .normal ∨ e = .ret) → toRes x = some (e, ρ, T) → SimO (outT P rs ρ T) (endK P rs y) := by
  intro e ρ T he hx
  obtain ⟨H, q1, q2⟩ := h _ _ _ hx
  rw [q1]
  have hk : endK P rs (some (e, ρ, H)) = (resA P ρ H rs).map fun l => (tupA l, H) := by rcases he with rfl | rfl <;> rfl
  rw [hk]
  unfold outT
  rw [resT_eq q2]
  cases resA P ρ H rs with
  | none => exact SimO.nil
  | some l => exact SimO.one q2 _
 cases x with
 | no => exact SimO.nil
 | nm ρ T => exact key .normal ρ T (.inl rfl) rfl
 | ex id ρ T => exact SimO.nil
 | rt ρ T => exact key .ret ρ T (.inr rfl) rfl
structure KFt where
 run : XF → XT → Row → TH → Option (AVal × TH)
noncomputable def catT (P : Program) (t : TypeId) (Xt : XT) (args : Row) (H : TH) : Option (AVal × TH) :=
 match args with
 | [.fn g caps] => match callOk P g, allocT P t H with
  | true, some (p, H1) => match Xt g caps H1 with
   | some (r, H2) => match storeT P t p r H2 with
    | some H3 => mq (loadQ P t p H3) H3
    | none => none
   | none => none
  | _, _ => none
 | _ => none
theorem catT_sim {P : Program} {t : TypeId} {X : XF} {Xt : XT} (hX : SimX Xt X) {args : Row} {T : TH} {H : Heap} (h : TR T H) : SimO (catT P t Xt args T) (catM P t X args H) := by
 unfold catT catM
 split
 ·rename_i g caps
  simp only
  cases hok : callOk P g with
  | false => exact SimO.nil
  | true =>
  cases ha : allocT P t T with
  | none => exact SimO.nil
  | some q =>
   obtain ⟨p, T1⟩ := q
   obtain ⟨H1, a1, a2⟩ := allocT_sim h p T1 ha
   rw [a1]
   simp only
   cases hx : Xt g caps T1 with
   | none => exact SimO.nil
   | some q =>
    obtain ⟨r, T2⟩ := q
    obtain ⟨H2, b1, b2⟩ := hX g caps T1 H1 a2 r T2 hx
    rw [b1]
    simp only
    cases hs : storeT P t p r T2 with
    | none => exact SimO.nil
    | some T3 =>
     obtain ⟨H3, c1, c2⟩ := storeT_sim (P := P) (t := t) (a := p) (x := r) b2 (.v undef) T3 (by rw [hs]; rfl)
     cases hs2 : aStore P t p r H2 with
     | none => rw [hs2] at c1; cases c1
     | some H3' =>
      rw [hs2] at c1
      simp only [Option.map_some, Option.some.injEq, Prod.mk.injEq, true_and] at c1
      subst c1
      exact mq_of (fun v hv => loadQ_some c2 hv) c2
 ·exact SimO.nil
noncomputable def normT (P : Program) (T : Tab) (live : FuncId → Nat → Option (List Nat)) (k : Nat) (f : FuncId) : KFt :=
 match T.fin f, P.funcs[f]? with
 | true, some fn => match fn.body with
  | some c => ⟨fun X Xt args H => cond (Nat.ble args.length fn.ntmps) (endT P fn.results.toList ((compCT P T (live f) k f fn.ntmps c 0).run X Xt (envOf 0 args) H)) none⟩
  | none => ⟨fun _ _ _ _ => none⟩
 | _, _ => ⟨fun _ _ _ _ => none⟩
theorem normT_sim {P : Program} {T : Tab} {live : FuncId → Nat → Option (List Nat)} {k : Nat} {X : XF} {Xt : XT} (hX : SimX Xt X) {f : FuncId} {args : Row} {Th : TH} {H : Heap} (h : TR Th H) : SimO ((normT P T live k f).run X Xt args Th) (normW P T live k X f args H) := by
 unfold normT normW
 cases h1 : T.fin f with
 | false => exact SimO.nil
 | true => cases h2 : P.funcs[f]? with
  | none => exact SimO.nil
  | some fn =>
   simp only
   cases h3 : fn.body with
   | none => exact SimO.nil
   | some c =>
    simp only
    cases hl : Nat.ble args.length fn.ntmps with
    | false => exact SimO.nil
    | true => exact endT_sim (compCT_sim hX c 0 _ _ _ h)
noncomputable def empT (r : Option (AVal × TH)) (args : Row) (H : TH) : Option (AVal × TH) :=
 match allIsV args, r with
 | true, some (.v x, _) => some (.v x, H)
 | _, _ => none
theorem empT_sim {m : Row → Heap → Option (AVal × Heap)} {args : Row} {r : Option (AVal × TH)} (hr : SimO r (m args [])) {T : TH} {H : Heap} (h : TR T H) : SimO (empT r args T) (empM m args H) := by
 intro a T' q
 unfold empT at q
 split at q
 ·rename_i x T2 hall
  simp only [Option.some.injEq, Prod.mk.injEq] at q
  obtain ⟨rfl, rfl⟩ := q
  obtain ⟨H2, q1, _⟩ := hr _ _ rfl
  refine ⟨H, ?_, h⟩
  unfold empM
  rw [hall, q1]
 ·cases q
noncomputable def qtT (a : Tmp) (r : Option (AVal × TH)) (args : Row) (H : TH) : Option (AVal × TH) :=
 match Nat.ble args.length a, r with
 | true, some (r, _) => cond (lowA H.n r) (some (r, H)) none
 | _, _ => none
theorem qtT_sim {m : Row → Heap → Option (AVal × Heap)} {a : Tmp} {args : Row} {r : Option (AVal × TH)} {T : TH} {H : Heap} (hr : SimO r (m args H)) (h : TR T H) : SimO (qtT a r args T) (qtM m a args H) := by
 intro x T' q
 unfold qtT at q
 split at q
 ·rename_i r' T2 hb
  obtain ⟨H2, q1, _⟩ := hr _ _ rfl
  cases hl : lowA T.n r' with
  | false => rw [hl] at q; cases q
  | true =>
   rw [hl, cond_true] at q
   simp only [Option.some.injEq, Prod.mk.injEq] at q
   obtain ⟨rfl, rfl⟩ := q
   refine ⟨H, ?_, h⟩
   unfold qtM
   rw [hb, q1]
   simp only
   rw [← h.n, hl]; rfl
 ·cases q
noncomputable def compFT (P : Program) (T : Tab) (cat : FuncId → Sp) (live : FuncId → Nat → Option (List Nat)) (k : Nat) (f : FuncId) : KFt :=
 match cat f with
 | .cat t => ⟨fun _ Xt args H => catT P t Xt args H⟩
 | .snap a m l r m' l' => ⟨fun _ _ args H => snapT a m l r m' l' args H⟩
 | .emp => ⟨fun X Xt args H => empT ((normT P T live k f).run X Xt args ⟨.leaf, 0⟩) args H⟩
 | .ext g => ⟨fun _ _ args H => mq ((g args).map AVal.v) H⟩
 | .gen _ mt _ => ⟨fun X Xt args H => mt X Xt args H⟩
 | .qt a => ⟨fun X Xt args H => qtT a ((normT P T live k f).run X Xt args H) args H⟩
 | .no => normT P T live k f
noncomputable def execT (P : Program) (T : Tab) (cat : FuncId → Sp) (live : FuncId → Nat → Option (List Nat)) (k : Nat) : Nat → XT
 | 0, _, _, _ => none
 | n + 1, f, args, H => (compFT P T cat live k f).run (execW P T cat live k n) (execT P T cat live k n) args H
theorem execT_sim {P : Program} {T : Tab} {cat : FuncId → Sp} {live : FuncId → Nat → Option (List Nat)} {k : Nat} : ∀ n, SimX (execT P T cat live k n) (execW P T cat live k n)
 | 0, f, args, Th, H, h => fun a T' q => by simp [execT] at q
 | n + 1, f, args, Th, H, h => by
  have ih := execT_sim (P := P) (T := T) (cat := cat) (live := live) (k := k) n
  simp only [execT, compFT, execW]
  cases hc : cat f with
  | cat t => exact catT_sim ih h
  | snap a m l r m' l' => exact snapT_sim h
  | emp => exact empT_sim (normT_sim ih empty_R) h
  | ext g => exact mq_sim h
  | gen m mt hs => exact hs _ _ args Th H ih h
  | qt a => exact qtT_sim (normT_sim ih h) h
  | no => exact normT_sim ih h
end Go.AI
/- A part of a function's code, run by the interpreter; a region with writers in several orders. -/
namespace Go.AI
set_option linter.unusedSectionVars false
variable [Sym]
set_option linter.unusedSimpArgs false
set_option linter.unusedVariables false
set_option maxRecDepth 100000
open Go.RowKit
section
variable {P : Program} {T : Tab} {cat : FuncId → Sp} {live : FuncId → Nat → Option (List Nat)} {k : Nat}
theorem orcW_ok (hT : TabV P T cat) (hm : P.follows .mixedOrders = true) (n : Nat) (f : FuncId) : OrcOk P (orcX T (execW P T cat live k n) f) :=
 orcV_ok hT (execW_inl hT hm n) (fun f args H r H' hr hx => execW_quiet hT hr hx) f
theorem runT_sound (hT : TabV P T cat) (hm : P.follows .mixedOrders = true) {n : Nat} {f : FuncId} {nt n0 : Nat} {c : Code} {b : Nat} {ρ : Env} {Th : TH} {H : Heap} (h : TR Th H) {e : Exit} {ρ' : Env} {T' : TH}
  (hx : toRes ((compCT P T (live f) k f nt c b).run (execW P T cat live k n) (execT P T cat live k n) ρ Th) = some (e, ρ', T')) : ∃ H', TR T' H' ∧ AWp P nt n0 c (IsX (e, ρ', H')) ρ H := by
 obtain ⟨H', q1, q2⟩ := compCT_sim (execT_sim n) c b ρ Th H h e ρ' T' hx
 exact ⟨H', q2, execV_sound (orcW_ok hT hm n f) hm c b ρ H _ (codeRV_true _ c) q1⟩
theorem AWp.regM {C : Orc} (hC : OrcOk P C) (hm : P.follows .mixedOrders = true) {nt n0 id : Nat} {ops : Array Oper} {X0 : List Nat} {pairs : List (Nat × Nat)} {idx : List Nat} {Ts : List (List Nat)} (hrf : raceFreeM C.inl X0 pairs Ts ops = true) {ρ : Env} {H : Heap} {s : Env × Heap}
  (hT : ∀ τ ∈ Ts, ∃ ρ1 H1 f1, runFT P C nt ops idx H.length τ (ρ, H) = some ((ρ1, H1), f1) ∧ (∀ q ∈ pairs, apart H.length (footAt f1 q.1) (footAt f1 q.2) = true) ∧ Ent n0 s (ρ1, H1)) : AWp P nt n0 (.region id ops true) (IsX (.normal, s.1, s.2)) ρ H := by
 intro f base w0 β fz a w h1 h2 hs
 subst h1
 refine region_wpM hC hm (idx := idx) hrf _ hs (fun τ hτ => ?_)
 obtain ⟨ρ1, H1, f1, q1, q2, q3⟩ := hT τ hτ
 refine ⟨ρ1, H1, f1, q1, q2, fun β fz a w hs => ?_⟩
 obtain ⟨β', fz', hs'⟩ := q3 f base w0 β fz a w h2 hs
 exact ⟨s.1, s.2, β', fz', rfl, hs'⟩
theorem AWp.seqX {nt n0 : Nat} {x y : Code} {Q : Post} {ρ ρ' : Env} {H H' : Heap} (h : AWp P nt n0 x (IsX (.normal, ρ', H')) ρ H) (h2 : AWp P nt n0 y Q ρ' H') : AWp P nt n0 (.seq x y) Q ρ H := by
 refine AWp.seq (h.mono ?_)
 rintro e ρ2 H2 q
 simp only [IsX, Prod.mk.injEq] at q
 obtain ⟨rfl, rfl, rfl⟩ := q
 exact h2
theorem AWp.condT {nt n0 : Nat} {c : Operand} {x y : Code} {Q : Post} {ρ : Env} {H : Heap} (hc : opd ρ c = .v (.bool true)) (h : AWp P nt n0 x Q ρ H) : AWp P nt n0 (.cond c x y) Q ρ H := by
 intro f base w0 β fz a w h1 h2 hs
 have := res_R (g := true) rfl (hs.ev c)
 rw [← opd_eq, hc] at this
 exact wp_cond this.v_inv (h f base w0 β fz a w h1 h2 hs)
theorem AWp.condF {nt n0 : Nat} {c : Operand} {x y : Code} {Q : Post} {ρ : Env} {H : Heap} (hc : opd ρ c = .v (.bool false)) (h : AWp P nt n0 y Q ρ H) : AWp P nt n0 (.cond c x y) Q ρ H := by
 intro f base w0 β fz a w h1 h2 hs
 have := res_R (g := true) rfl (hs.ev c)
 rw [← opd_eq, hc] at this
 exact wp_cond this.v_inv (h f base w0 β fz a w h1 h2 hs)
theorem AWp.ofX {nt n0 : Nat} {c : Code} {Q : Post} {e : Exit} {ρ ρ' : Env} {H H' : Heap} (h : AWp P nt n0 c (IsX (e, ρ', H')) ρ H) (hq : Q e ρ' H') : AWp P nt n0 c Q ρ H := by
 refine h.mono ?_
 rintro e2 ρ2 H2 q
 simp only [IsX, Prod.mk.injEq] at q
 obtain ⟨rfl, rfl, rfl⟩ := q
 exact hq
theorem retA_mono {fn : Func} {R R' : AVal → Heap → Prop} (h : ∀ x H, R x H → R' x H) : ∀ e ρ H, retA P fn R e ρ H → retA P fn R' e ρ H := by
 intro e ρ H hr
 cases e with
 | normal =>
  simp only [retA] at hr ⊢
  split at hr
  ·exact h _ _ hr
  ·cases hr
 | ret =>
  simp only [retA] at hr ⊢
  split at hr
  ·exact h _ _ hr
  ·cases hr
 | _ => cases hr
def bodyC (f : Func) : Code := match f.body with
 | some c => c
 | none => .skip
def fstC : Code → Code
 | .seq a _ => a
 | c => c
def sndC : Code → Code
 | .seq _ b => b
 | c => c
def opsC : Code → Array Oper
 | .region _ o _ => o
 | _ => #[]
def orcN (X : XF) : Orc where
 pure := fun _ _ => none
 inl := fun _ => true
 inline := X
 dyn := fun _ => []
 fp := fun _ _ => none
 alt := fun _ => []
 rd := fun _ => none
 cl := fun _ => false
theorem orcN_ok {X : XF} (hX : ∀ g, InlOk P g (X g)) : OrcOk P (orcN X) where
 pure := fun f args r h => by simp [orcN] at h
 inline := fun f _ => hX f
 foot := fun f args ids h => by simp [orcN] at h
 rd := fun f m h => by simp [orcN] at h
 cells := fun f h => by simp [orcN] at h
def nilX : XF := fun _ _ _ => none
theorem nilX_ok (g : FuncId) : InlOk P g (nilX g) := fun args H r H' h => by cases h
theorem TabV.add (hT : TabV P T cat) {g : FuncId} {a : Row} {n : Nat} {l : LS} {r : AVal} {n' : Nat} {l' : LS} (hg : T.rdf g = false) (h : InlOk P g (snapM a n l r n' l')) : TabV P T (fun f => cond (Nat.beq f g) (.snap a n l r n' l') (cat f)) where
 qt := fun f fn c h1 h2 h3 h4 => by
  by_cases hf : f = g
  ·subst hf; rw [hg] at h1; cases h1
  ·have hb : Nat.beq f g = false := by rw [beq_dec]; exact decide_eq_false hf
   rw [hb, cond_false] at h2
   exact hT.qt f fn c h1 h2 h3 h4
 qtt := fun f x h1 => by
  by_cases hf : f = g
  ·subst hf
   have hb : Nat.beq f f = true := by rw [beq_dec]; exact decide_eq_true rfl
   rw [hb, cond_true] at h1
   cases h1
  ·have hb : Nat.beq f g = false := by rw [beq_dec]; exact decide_eq_false hf
   rw [hb, cond_false] at h1
   exact hT.qtt f x h1
 nc := fun f h1 => by
  by_cases hf : f = g
  ·subst hf; rw [hg] at h1; cases h1
  ·have hb : Nat.beq f g = false := by rw [beq_dec]; exact decide_eq_false hf
   rw [hb, cond_false]
   exact hT.nc f h1
 snap := fun f a2 m2 l2 r2 m3 l3 h1 => by
  by_cases hf : f = g
  ·subst hf
   have hb : Nat.beq f f = true := by rw [beq_dec]; exact decide_eq_true rfl
   rw [hb, cond_true] at h1
   cases h1
   exact h
  ·have hb : Nat.beq f g = false := by rw [beq_dec]; exact decide_eq_false hf
   rw [hb, cond_false] at h1
   exact hT.snap f a2 m2 l2 r2 m3 l3 h1
 cat := fun f t h1 => by
  by_cases hf : f = g
  ·subst hf
   have hb : Nat.beq f f = true := by rw [beq_dec]; exact decide_eq_true rfl
   rw [hb, cond_true] at h1
   cases h1
  ·have hb : Nat.beq f g = false := by rw [beq_dec]; exact decide_eq_false hf
   rw [hb, cond_false] at h1
   exact hT.cat f t h1
 ext := fun f e h1 => by
  by_cases hf : f = g
  ·subst hf
   have hb : Nat.beq f f = true := by rw [beq_dec]; exact decide_eq_true rfl
   rw [hb, cond_true] at h1
   cases h1
  ·have hb : Nat.beq f g = false := by rw [beq_dec]; exact decide_eq_false hf
   rw [hb, cond_false] at h1
   exact hT.ext f e h1
 gen := fun f m mt hs h1 => by
  by_cases hf : f = g
  ·subst hf
   have hb : Nat.beq f f = true := by rw [beq_dec]; exact decide_eq_true rfl
   rw [hb, cond_true] at h1
   cases h1
  ·have hb : Nat.beq f g = false := by rw [beq_dec]; exact decide_eq_false hf
   rw [hb, cond_false] at h1
   exact hT.gen f m mt hs h1
end
end Go.AI
/- A map that is read as plain, and walked through in whatever order. -/
namespace Go.AI
set_option linter.unusedSectionVars false
variable [Sym]
set_option linter.unusedSimpArgs false
set_option linter.unusedVariables false
set_option maxRecDepth 100000
open Go.RowKit
def pairR : Row → Row
 | [k, a, _] => [k, a]
 | r => r
def stampA : Row → AVal
 | [_, _, b] => b
 | _ => .junk
structure Exp (rows es : List Row) : Prop where
 perm : (es.map pairR).Perm rows
 wf : ∀ r ∈ es, ∃ (k : Value) (a : AVal) (b : Int), r = [.v k, a, .v (.int .i64 b)]
 nodup : (es.map stampA).Nodup
section
variable {base : Nat} {w0 : World} {β : Nat → Nat} {fz : Nat → Prop} {H : Heap} {w : World}
theorem HSim.setA (hs : HSim base w0 β fz H w) {id : Nat} {q q' : Nat × List Row} (hid : H[id]? = some (some q)) (hO : OSim base β fz w H.length id q'.1 q'.2) : HSim base w0 β fz (H.set id (some q')) w := by
 have hlive : Live H id := ⟨_, hid⟩
 refine ⟨fun k sz rws hk => ?_, fun a b ha hb => hs.inj a b (ha.set hlive) (hb.set hlive), fun k hk => hs.own k (hk.set hlive), hs.fzlt, hs.below, hs.base⟩
 rw [List.length_set]
 by_cases hki : k = id
 ·subst hki
  have hlt : k < H.length := (List.getElem?_eq_some_iff.1 hid).1
  rw [List.getElem?_set_self hlt] at hk
  simp only [Option.some.injEq] at hk
  subst hk
  exact hO
 ·rw [List.getElem?_set_ne (by omega)] at hk
  exact hs.objs' k sz rws hk
def stampR2 (r : Row) (en : MapEntry) : Row := match r with
 | [k, a] => [k, a, .v (.int .i64 (en.born : Int))]
 | r => r
theorem HSim.expose (hs : HSim base w0 β fz H w) {id : Nat} {rows : List Row} (hid : H[id]? = some (some (0, rows))) (hne : rows ≠ []) (h2 : ∀ r ∈ rows, r.length = 2) :
  ∃ (c : Int) (es : List Row), Exp rows es ∧ HSim base w0 β fz (H.set id (some (0, [.v (.int .i64 c)] :: es))) w := by
 have hO := hs.objs' id 0 rows hid
 rw [OSim, if_pos rfl] at hO
 obtain ⟨rs, hp, E, clock, hE, hsz, hb, hr⟩ := hO.ofMap (fun r rest e => h2 r (by rw [e]; simp))
 have hlen : rs.length = rows.length := hp.length_eq
 have hlE : E.toList.length = rs.length := by simpa using hsz
 have hat : ∀ (i : Nat) (en : MapEntry), E[i]? = some en → ∃ a, rs[i]? = some [.v en.key, a] ∧ R β (okOf base fz) w H.length a en.val := by
  intro i en hi
  have hlt : i < rs.length := by
   have := (Array.getElem?_eq_some_iff.1 hi).1
   omega
  obtain ⟨en', a, e1, e2, e3⟩ := hr i rs[i] (List.getElem?_eq_getElem hlt)
  rw [hi] at e1; cases e1
  exact ⟨a, by rw [List.getElem?_eq_getElem hlt, e2], e3⟩
 refine ⟨(clock : Int), List.zipWith stampR2 rs E.toList, ⟨?_, ?_, ?_⟩, hs.setA (q' := (0, _)) hid ?_⟩
 ·have : (List.zipWith stampR2 rs E.toList).map pairR = rs := by
   apply List.ext_getElem?
   intro i
   rw [List.getElem?_map, List.getElem?_zipWith]
   cases hi : E[i]? with
   | none =>
    have hge : rs.length ≤ i := by
     have := Array.getElem?_eq_none_iff.1 hi
     omega
    simp [List.getElem?_eq_none hge]
   | some en =>
    obtain ⟨a, e1, _⟩ := hat i en hi
    simp [e1, hi, stampR2, pairR]
  rw [this]; exact hp
 ·intro r hm
  obtain ⟨i, hi⟩ := List.mem_iff_getElem?.1 hm
  rw [List.getElem?_zipWith] at hi
  cases hEi : E[i]? with
  | none => simp [hEi] at hi
  | some en =>
   obtain ⟨a, e1, _⟩ := hat i en hEi
   simp only [e1, Array.getElem?_toList, hEi, stampR2, Option.some.injEq] at hi
   exact ⟨_, _, _, hi.symm⟩
 ·have : (List.zipWith stampR2 rs E.toList).map stampA = (E.toList.map (fun en => en.born)).map (fun (b : Nat) => AVal.v (.int .i64 (b : Int))) := by
   apply List.ext_getElem?
   intro i
   rw [List.getElem?_map, List.getElem?_zipWith, List.getElem?_map, List.getElem?_map]
   cases hi : E[i]? with
   | none => simp [hi]
   | some en =>
    obtain ⟨a, e1, _⟩ := hat i en hi
    simp [e1, hi, stampR2, stampA]
  rw [this]
  refine List.Pairwise.map _ (fun a b h q => h ?_) hb.nodup
  simp only [AVal.v.injEq, Value.int.injEq, true_and] at q
  exact Int.ofNat_inj.1 q
 ·rw [OSim, if_pos rfl]
  refine .inr ⟨.map E clock, _, hE, .inl ⟨E, clock, rfl, hb, rfl⟩, ⟨by simp [hlE], fun i r x hi hx => ?_⟩, _, _, rfl, by simp⟩
  cases i with
  | zero =>
   simp only [List.getElem?_cons_zero, Option.some.injEq] at hi hx
   subst hi; subst hx
   refine ⟨rfl, fun j a v ha hv => ?_⟩
   match j, ha, hv with
   | 0, ha, hv => simp at ha hv; subst ha; subst hv; exact .v
   | j + 1, ha, hv => simp at ha
  | succ i =>
   simp only [List.getElem?_cons_succ] at hi hx
   rw [List.getElem?_zipWith] at hi
   cases hEi : E[i]? with
   | none => simp [hEi] at hi
   | some en =>
    obtain ⟨a, e1, e3⟩ := hat i en hEi
    simp only [e1, Array.getElem?_toList, hEi, stampR2, Option.some.injEq] at hi
    simp only [List.getElem?_map, Array.getElem?_toList, hEi, Option.map_some, Option.some.injEq] at hx
    subst hi; subst hx
    refine ⟨rfl, fun j a' v ha hv => ?_⟩
    match j, ha, hv with
    | 0, ha, hv => simp at ha hv; subst ha; subst hv; exact .v
    | 1, ha, hv => simp at ha hv; subst ha; subst hv; exact e3
    | 2, ha, hv => simp at ha hv; subst ha; subst hv; exact .v
    | j + 3, ha, hv => simp at ha
theorem HSim.plain (hs : HSim base w0 β fz H w) {id : Nat} {c : Int} {rows es : List Row} (hid : H[id]? = some (some (0, [.v (.int .i64 c)] :: es))) (hx : Exp rows es) : HSim base w0 β fz (H.set id (some (0, rows))) w := by
 obtain ⟨E, clock, h1, hb, hc, hl, hr⟩ := hs.walk hid
 refine hs.setA (q' := (0, rows)) hid ?_
 rw [OSim, if_pos rfl]
 refine .inl ⟨es.map pairR, hx.perm, E, clock, h1, by simp [hl], hb, fun i r hi => ?_⟩
 rw [List.getElem?_map] at hi
 simp only [Option.map_eq_some_iff] at hi
 obtain ⟨r0, h0, rfl⟩ := hi
 have hlt : i < E.size := by have := (List.getElem?_eq_some_iff.1 h0).1; omega
 obtain ⟨k, a, b, rfl⟩ := hx.wf r0 (List.mem_of_getElem? h0)
 obtain ⟨k', x', b', e1, e2, e3, _⟩ := hr i _ E[i] h0 (Array.getElem?_eq_getElem hlt)
 simp only [List.cons.injEq, and_true] at e1
 obtain ⟨rfl, rfl, rfl⟩ := e1
 refine ⟨E[i], a, Array.getElem?_eq_getElem hlt, ?_, e3⟩
 rw [e2.v_inv]; rfl
theorem HSim.permM (hs : HSim base w0 β fz H w) {id : Nat} {rows rows' : List Row} (hid : H[id]? = some (some (0, rows))) (h2 : ∀ r ∈ rows, r.length = 2) (hp : rows.Perm rows') : HSim base w0 β fz (H.set id (some (0, rows'))) w := by
 refine hs.setA (q' := (0, rows')) hid ?_
 have hO := hs.objs' id 0 rows hid
 rw [OSim, if_pos rfl] at hO ⊢
 obtain ⟨rs, hp2, q⟩ := hO.ofMap (fun r rest e => h2 r (by rw [e]; simp))
 exact .inl ⟨rs, hp2.trans hp, q⟩
end
section
variable {P : Program} {C : Orc} {nt n0 : Nat} {ρ ρ' : Env} {H H' : Heap} {code : Code} {Q : Post}
theorem Ent.ofH (hl : H'.length = H.length) (h : ∀ {base w0 β fz w}, HSim base w0 β fz H w → HSim base w0 β fz H' w) : Ent n0 (ρ, H') (ρ, H) := by
 intro f base w0 β fz a w h0 hs
 exact ⟨β, fz, h hs.heap, hs.defers, hs.size, by show Ext _ _ _ _ H'.length _ _ _; rw [hl]; exact hs.ext, fun t => by show R _ _ _ H'.length _ _; rw [hl]; exact hs.env t⟩
theorem AWp.ent {s : Env × Heap} (h : AWp P nt n0 code Q s.1 s.2) (he : Ent n0 s (ρ, H)) : AWp P nt n0 code Q ρ H := by
 intro f base w0 β fz a w h1 h2 hs
 obtain ⟨β', fz', hs'⟩ := he f base w0 β fz a w h2 hs
 exact h f base w0 β' fz' a w h1 h2 hs'
theorem AWp.toX {e : Exit} (h : AWp P nt n0 code (fun e2 ρ2 H2 => e2 = e ∧ Ent n0 (ρ', H') (ρ2, H2)) ρ H) : AWp P nt n0 code (IsX (e, ρ', H')) ρ H := by
 intro f base w0 β fz a w h1 h2 hs
 refine wp_mono (h f base w0 β fz a w h1 h2 hs) ?_
 rintro e2 a' w' ⟨ρ2, H2, β2, fz2, ⟨rfl, hE⟩, hs2⟩
 obtain ⟨β3, fz3, hs3⟩ := hE f base w0 β2 fz2 a' w' h2 hs2
 exact ⟨ρ', H', β3, fz3, rfl, hs3⟩
theorem AWp.expose {id : Nat} {rows : List Row} (hid : H[id]? = some (some (0, rows))) (hne : rows ≠ []) (h2 : ∀ r ∈ rows, r.length = 2) (h : ∀ c es, Exp rows es → AWp P nt n0 code Q ρ (H.set id (some (0, [.v (.int .i64 c)] :: es)))) : AWp P nt n0 code Q ρ H := by
 intro f base w0 β fz a w h1 h3 hs
 obtain ⟨c, es, hx, hs'⟩ := hs.heap.expose hid hne h2
 exact h c es hx f base w0 β fz a w h1 h3 ⟨hs', hs.defers, hs.size, by rw [List.length_set]; exact hs.ext, fun t => by rw [List.length_set]; exact hs.env t⟩
theorem AWp.rangeStep (hC : OrcOk P C) {i1 B it d1 d2 : Nat} {ops : Array Oper} {body : Code} {o1 o2 : Oper} (hops : ops.toList = [o1, o2]) (g1 : o1.guard = none) (q1 : o1.op = .next (.tmp it) false) (t1 : o1.dst = some d1)
  (hn1 : d1 < nt) (hrun : ∀ (ρ : Env) (H : Heap) (b : Bool) (l : Row), runL P C nt ops [o2] ((d1, .tup (.v (.bool b) :: l)) :: ρ, H) = some ((d2, .v (.bool b)) :: (d1, .tup (.v (.bool b) :: l)) :: ρ, H))
  (hrun0 : ∀ (ρ : Env) (H : Heap), runL P C nt ops [o2] ((d1, .v (.tuple #[.bool false])) :: ρ, H) = some ((d2, .v (.bool false)) :: (d1, .v (.tuple #[.bool false])) :: ρ, H))
  {rid mid : Nat} {s c : Int} {sn : Row} {es : List Row} (hit : look ρ it = .ptr rid 1 0 0) (hI : H[rid]? = some (some (0, [[.ptr mid 0 0 0, .v (.int .i64 s), .v (.int .i64 c)], sn]))) (hM : H[mid]? = some (some (0, [.v (.int .i64 s)] :: es))) (hsc : s ≤ c)
  (hwf : ∀ r ∈ es, ∃ k a b, r = [k, a, .v (.int .i64 b)]) (hsn : ∀ x ∈ sn, ∃ b, x = AVal.v (.int .i64 b))
  (hY : ∀ (i : Nat) (k a : AVal) (b : Int), es[i]? = some [k, a, .v (.int .i64 b)] → AVal.v (.int .i64 b) ∉ sn → AWp P nt n0 body Q ((d2, .v (.bool true)) :: (d1, .tup [.v (.bool true), k, a]) :: ρ) (H.set rid (some (0, [[.ptr mid 0 0 0, .v (.int .i64 s), .v (.int .i64 s)], sn ++ [.v (.int .i64 b)]]))))
  (hN : (∀ (i : Nat) (k a : AVal) (b : Int), es[i]? = some [k, a, .v (.int .i64 b)] → AVal.v (.int .i64 b) ∈ sn) → Q (.exit B) ((d2, .v (.bool false)) :: (d1, .v (.tuple #[.bool false])) :: ρ) H) :
  AWp P nt n0 (.seq (.region i1 ops false) (.seq (.cond (.tmp d2) .skip (.exit B)) body)) Q ρ H := by
 let K : Env → Heap → Prop := fun ρ' H' => AWp P nt n0 (.seq (.cond (.tmp d2) .skip (.exit B)) body) Q ρ' H'
 have hK : RunN P C nt ops K ρ H := by
  unfold RunN
  rw [hops]
  simp only [q1, g1, t1]
  have hev : ev ρ (.tmp it) = .ptr rid 1 0 0 := hit
  rw [hev]
  refine ⟨hn1, mid, s, c, s, sn, es, hI, hM, rfl, hsc, hwf, hsn, fun i k a b hi hb => ?_, fun hall => ?_⟩
  ·unfold RunK
   show match runL P C nt ops [o2] ((d1, _) :: ρ, _) with | some s => K s.1 s.2 | none => False
   rw [hrun]
   show K _ _
   refine AWp.seq (AWp.condT (by rw [opd_eq]; show res true (look (put _ (some d2) _) d2) = _; rw [look_put, if_pos rfl]; rfl) ?_)
   intro f base w0 β fz a' w h1 h2 hs
   exact wp_skip ⟨_, _, β, fz, hY i k a b hi hb, hs⟩
  ·unfold RunK
   show match runL P C nt ops [o2] ((d1, _) :: ρ, _) with | some s => K s.1 s.2 | none => False
   rw [hrun0]
   show K _ _
   refine AWp.seq (AWp.condF (by rw [opd_eq]; show res true (look (put _ (some d2) _) d2) = _; rw [look_put, if_pos rfl]; rfl) ?_)
   intro f base w0 β fz a' w h1 h2 hs
   exact wp_exit ⟨_, _, β, fz, hN hall, hs⟩
 refine AWp.seq ?_
 intro f base w0 β fz a w h1 h2 hs
 subst h1
 exact region_wpN hC hs hK (fun ρ' H' β fz a w hk hs' => ⟨ρ', H', β, fz, hk, hs'⟩)
end
end Go.AI
/- New objects under other names. -/
namespace Go.AI
set_option linter.unusedSectionVars false
variable [Sym]
set_option linter.unusedSimpArgs false
set_option linter.unusedVariables false
open Go.RowKit
theorem R.low3 {β β2 β3 : Nat → Nat} {ok ok2 : Bool → Nat → Prop} {w w2 : World} {n n2 m : Nat} {a : AVal} {v : Value} (hβ : ∀ id, id < n → β3 id = β2 id) (hm : n ≤ m) (h : R β ok w n a v) : ∀ {v2 : Value}, R β2 ok2 w2 n2 a v2 → R β3 ok2 w2 m a v2 := by
 induction h generalizing m n2 with
 | junk => intro v' _; exact .junk
 | anyb => intro v' k; cases k; exact .anyb
 | anyi => intro v' k; cases k; exact .anyi
 | str h =>
  intro v' k
  cases k with
  | str h => exact .str h
 | v => intro v' k; cases k; exact .v
 | ptr h h0 =>
  intro v' k
  cases k with
  | ptr _ h0' => rw [← hβ _ h]; exact .ptr (Nat.lt_of_lt_of_le h hm) h0'
  | mp _ => exact absurd rfl h0
 | mp h =>
  intro v' k
  cases k with
  | ptr _ h0 => exact absurd rfl h0
  | mp _ => rw [← hβ _ h]; exact .mp (Nat.lt_of_lt_of_le h hm)
 | fptr x hb hc hr ih => intro v' k; cases k with | fptr x' hb' hc' hr' => exact .fptr x' hb' hc' fun j a ha => (ih j a ha (fun id hid => absurd hid (Nat.not_lt_zero _)) (Nat.le_refl _) (hr' j a ha))
 | osl h hl hk ha => intro v' k; cases k with | osl _ hl' hk' ha' => exact .osl (Nat.lt_of_lt_of_le h hm) hl' hk' (by rw [hβ _ h]; exact ha')
 | xsl h hl ha => intro v' k; cases k with | xsl _ hl' ha' => exact .xsl (Nat.lt_of_lt_of_le h hm) hl' (by rw [hβ _ h]; exact ha')
 | fsl x hl hs hb hc hr ih =>
  intro v' k
  cases k with
  | fsl x' hl' hs' hb' hc' hr' => exact .fsl x' hl' hs' hb' hc' fun i r hi j a ha => ih i r hi j a ha (fun id hid => absurd hid (Nat.not_lt_zero _)) (Nat.le_refl _) (hr' i r hi j a ha)
  | fsl0 => exact .fsl0
 | fsl0 =>
  intro v' k
  cases k with
  | fsl x' hl' hs' hb' hc' hr' => exact .fsl x' hl' hs' hb' hc' fun i r hi => by simp at hi
  | fsl0 => exact .fsl0
 | esl => intro v' k; cases k; exact .esl
 | agg hl hr ih => intro v' k; cases k with | agg hl' hr' => exact .agg hl' fun j a ha => ih j a ha hβ hm (hr' j a ha)
 | tup hl hr ih => intro v' k; cases k with | tup hl' hr' => exact .tup hl' fun j a ha => ih j a ha hβ hm (hr' j a ha)
 | fn hl hr ih => intro v' k; cases k with | fn hl' hr' => exact .fn hl' fun j a ha => ih j a ha hβ hm (hr' j a ha)
 | when h hu ih => intro v' k; cases k with | when h' hu' => exact .when (fun hb => ih hb hβ hm (h' hb)) hu'
 | ifc h ih => intro v' k; cases k with | ifc h' => exact .ifc (ih hβ hm h')
 | meth => intro v' k; cases k; exact .meth
section
variable {base : Nat} {w0 : World} {β0 β : Nat → Nat} {fz0 fz : Nat → Prop} {H S S' : Heap} {w1 w : World}
def perB (n0 : Nat) (θ : Nat → Nat) (β : Nat → Nat) (id : Nat) : Nat := if id < n0 then β id else β (n0 + θ (id - n0))
theorem perB_low {n0 id : Nat} {θ β : Nat → Nat} (h : id < n0) : perB n0 θ β id = β id := if_pos h
theorem perB_new {n0 j : Nat} {θ β : Nat → Nat} : perB n0 θ β (n0 + j) = β (n0 + θ j) := by
 unfold perB; rw [if_neg (by omega), Nat.add_sub_cancel_left]
theorem HSim.permNew (hs0 : HSim base w0 β0 fz0 H w1) (hs : HSim base w0 β fz (H ++ S) w) (hlen : S'.length = S.length) {θ : Nat → Nat} (hθ : ∀ j, j < S.length → θ j < S.length) (hinj : ∀ i j, i < S.length → j < S.length → θ i = θ j → i = j)
  (hc : ∀ (j sz : Nat) (rows' : List Row), S'[j]? = some (some (sz, rows')) → (sz = 0 ∧ rows' = [] ∧ S[θ j]? = some (some (0, []))) ∨ (sz ≠ 0 ∧ ∃ rows : List Row, S[θ j]? = some (some (sz, rows)) ∧ rows.length = rows'.length ∧ ∀ (i : Nat) (r r' : Row), rows[i]? = some r → rows'[i]? = some r' → r.length = r'.length ∧
   ∀ (k : Nat) (a a' : AVal), r[k]? = some a → r'[k]? = some a' → ∀ v, R β (okOf base fz) w (H ++ S).length a v → R (perB H.length θ β) (okOf base fz) w (H ++ S).length a' v)) :
  HSim base w0 (perB H.length θ β) fz (H ++ S') w := by
 have hlen2 : (H ++ S').length = (H ++ S).length := by simp [hlen]
 have hsp : ∀ {id : Nat} {q : Nat × List Row}, (H ++ S')[id]? = some (some q) → (id < H.length ∧ H[id]? = some (some q)) ∨ ∃ j, id = H.length + j ∧ S'[j]? = some (some q) := fun {id q} h => by
  by_cases hi : id < H.length
  ·rw [List.getElem?_append_left hi] at h; exact .inl ⟨hi, h⟩
  ·rw [List.getElem?_append_right (by omega)] at h
   exact .inr ⟨id - H.length, by omega, h⟩
 have hnew : ∀ {j : Nat} {q : Nat × List Row}, S'[j]? = some (some q) → j < S.length ∧ ∃ q2, (H ++ S)[H.length + θ j]? = some (some q2) := fun {j q} h => by
  have hj : j < S.length := by have := (List.getElem?_eq_some_iff.1 h).1; omega
  refine ⟨hj, ?_⟩
  rw [List.getElem?_append_right (by omega), Nat.add_sub_cancel_left]
  rcases hc j q.1 q.2 h with ⟨_, _, h3⟩ | ⟨_, rows, h3, _⟩ <;> exact ⟨_, h3⟩
 have hold : ∀ {id : Nat} {q : Nat × List Row}, H[id]? = some (some q) → (H ++ S)[id]? = some (some q) := fun h => by
  rw [List.getElem?_append_left (List.getElem?_eq_some_iff.1 h).1]; exact h
 have hlive : ∀ {id : Nat}, Live (H ++ S') id → ∃ id2, Live (H ++ S) id2 ∧ perB H.length θ β id = β id2 ∧ ((id < H.length ∧ id2 = id) ∨ ∃ j, j < S.length ∧ id = H.length + j ∧ id2 = H.length + θ j) := fun {id} ⟨q, hq⟩ => by
  rcases hsp hq with ⟨h1, h2⟩ | ⟨j, rfl, h2⟩
  ·exact ⟨id, ⟨q, hold h2⟩, perB_low h1, .inl ⟨h1, rfl⟩⟩
  ·obtain ⟨hj, q2, h3⟩ := hnew h2
   exact ⟨H.length + θ j, ⟨q2, h3⟩, perB_new, .inr ⟨j, hj, rfl, rfl⟩⟩
 refine ⟨fun id sz rows hid => ?_, fun a b ha hb he => ?_, fun k hk => ?_, hs.fzlt, hs.below, hs.base⟩
 ·rw [hlen2]
  rcases hsp hid with ⟨h1, h2⟩ | ⟨j, rfl, h2⟩
  ·have hw := hs0.wit h2
   have low : ∀ {r : Row} {a : AVal} {v : Value}, r ∈ rows → a ∈ r → R β (okOf base fz) w (H ++ S).length a v → R (perB H.length θ β) (okOf base fz) w (H ++ S).length a v := fun hr ha hR => by
    obtain ⟨v0, h0⟩ := hw _ hr _ ha
    exact h0.low3 (fun id hid => perB_low hid) (by simp) hR
   have hO := hs.objs' id sz rows (hold h2)
   unfold OSim at hO ⊢
   split at hO
   ·rename_i h0
    rw [if_pos h0]
    rcases hO with ⟨rs, hpm, es, clock, q1, q2, hbn, q3⟩ | hO
    ·refine .inl ⟨rs, hpm, es, clock, by rw [perB_low h1]; exact q1, q2, hbn, fun i r hi => ?_⟩
     obtain ⟨en, x, p1, p2, p3⟩ := q3 i r hi
     exact ⟨en, x, p1, p2, low (hpm.mem_iff.1 (List.mem_of_getElem? hi)) (by rw [p2]; simp) p3⟩
    ·exact .inr (hO.same (fun r hr c hc v hR => low hr hc hR) (by rw [perB_low h1]))
   ·rename_i h0
    rw [if_neg h0]
    obtain ⟨cs, e, q1, q2, q3, q4, q5⟩ := hO
    exact ⟨cs, e, by rw [perB_low h1]; exact q1, q2, q3, q4, fun i r hi j c hj => low (List.mem_of_getElem? hi) (List.mem_of_getElem? hj) (q5 i r hi j c hj)⟩
  ·obtain ⟨hj, _⟩ := hnew h2
   rcases hc j sz rows h2 with ⟨rfl, rfl, h3⟩ | ⟨h0, rows0, h3, h4, h5⟩
   ·have hid2 : (H ++ S)[H.length + θ j]? = some (some (0, [])) := by rw [List.getElem?_append_right (by omega), Nat.add_sub_cancel_left]; exact h3
    have hO := hs.objs' _ 0 [] hid2
    rw [OSim, if_pos rfl] at hO ⊢
    rcases hO with ⟨rs, hpm, es, clock, q1, q2, hbn, q3⟩ | ⟨o, xs, _, _, _, r, rs, h6, _⟩
    ·have hrs : rs = [] := by simpa using hpm.length_eq
     subst hrs
     exact .inl ⟨[], .nil, es, clock, by rw [perB_new]; exact q1, q2, hbn, fun i r hi => by simp at hi⟩
    ·cases h6
   ·have hid2 : (H ++ S)[H.length + θ j]? = some (some (sz, rows0)) := by rw [List.getElem?_append_right (by omega), Nat.add_sub_cancel_left]; exact h3
    have hO := hs.objs' _ sz rows0 hid2
    rw [OSim, if_neg h0] at hO ⊢
    obtain ⟨cs, e, q1, q2, q3, q4, q5⟩ := hO
    have hat : ∀ (i : Nat) (r' : Row), rows[i]? = some r' → ∃ r, rows0[i]? = some r := fun i r' hi => by
     have : i < rows0.length := by have := (List.getElem?_eq_some_iff.1 hi).1; omega
     exact ⟨_, List.getElem?_eq_getElem this⟩
    refine ⟨cs, e, by rw [perB_new]; exact q1, fun r' hr' => ?_, by rw [← h4]; exact q3, q4, fun i r' hi k c hk => ?_⟩
    ·obtain ⟨i, hi⟩ := List.mem_iff_getElem?.1 hr'
     obtain ⟨r, hri⟩ := hat i r' hi
     rw [← (h5 i r r' hri hi).1]
     exact q2 r (List.mem_of_getElem? hri)
    ·obtain ⟨r, hri⟩ := hat i r' hi
     obtain ⟨p1, p2⟩ := h5 i r r' hri hi
     have hkl : k < r.length := by rw [p1]; exact (List.getElem?_eq_some_iff.1 hk).1
     exact p2 k _ c (List.getElem?_eq_getElem hkl) hk _ (q5 i r hri k _ (List.getElem?_eq_getElem hkl))
 ·obtain ⟨a2, la, ea, ca⟩ := hlive ha
  obtain ⟨b2, lb, eb, cb⟩ := hlive hb
  have h2 := hs.inj a2 b2 la lb (by rw [← ea, ← eb]; exact he)
  rcases ca with ⟨a1, rfl⟩ | ⟨i, hi, rfl, rfl⟩ <;> rcases cb with ⟨b1, rfl⟩ | ⟨j, hj, rfl, rfl⟩
  ·exact h2
  ·omega
  ·omega
  ·rw [hinj i j hi hj (by omega)]
 ·obtain ⟨k2, lk, ek, _⟩ := hlive hk
  rw [ek]; exact hs.own k2 lk
end
end Go.AI
