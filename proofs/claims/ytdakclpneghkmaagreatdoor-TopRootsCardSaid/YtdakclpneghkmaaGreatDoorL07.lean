/- Regions in whatever order, where operations meet the heap at different objects. -/
import Derived.Test.YtdakclpneghkmaaGreatDoorL06
set_option linter.unusedSimpArgs false
set_option linter.unusedVariables false
namespace Go.AI
set_option linter.unusedSectionVars false
variable [Sym]
open Go.RowKit
inductive Foot where
 | fp (ids : List Nat) (nw : Bool)
 | maps
 | cells
 | other
 deriving DecidableEq
def bare : AVal → AVal
 | .when _ a => a
 | a => a
def plainA : AVal → Bool
 | .when _ _ => false
 | _ => true
mutual
def noId : AVal → Bool
 | .ptr _ _ _ _ => false
 | .osl _ _ _ _ _ => false
 | .xsl _ _ _ _ _ => false
 | .agg cs => noIdC cs
 | .tup vs => noIdC vs
 | .ifc _ a => noId a
 | .fn _ caps => noIdC caps
 | .when _ _ => false
 | _ => true
def noIdC : List AVal → Bool
 | [] => true
 | a :: r => noId a && noIdC r
end
def footP (a : AVal) : Foot :=
 match bare a with
 | .ptr id _ _ _ => .fp [id] false
 | .fptr _ _ => .fp [] false
 | _ => .other
def footC (C : Orc) (f : FuncId) (fv : AVal) (args : Row) : Foot :=
 match fv with
 | .fn g [] => if g = f then
   (if C.inl f then (if args.all plainA then (match C.fp f args with | some ids => .fp ids true | none => if C.cl f = true then .cells else .other) else .other)
    else if (C.rd f).isSome then .other else if args.all noId then .fp [] false else .other) else .other
 | _ => .other
def idsA : AVal → Option (List Nat)
 | .osl id _ _ _ _ => some [id]
 | .fsl _ _ _ => some []
 | .esl => some []
 | .v _ => some []
 | _ => none
def footB : Row → Foot
 | [s, x] => match idsA s, idsA x with
  | some a, some b => .fp (a ++ b) true
  | _, _ => .other
 | _ => .other
def footS (a : AVal) : Foot :=
 match bare a with
 | .osl id _ _ _ _ => .fp [id] false
 | .xsl id _ _ _ _ => .fp [id] false
 | .v _ => .fp [] false
 | .fsl _ _ _ => .fp [] false
 | .esl => .fp [] false
 | _ => .other
def foot (C : Orc) (e : AEv) (o : Oper) : Foot :=
 match o.op with
 | .load _ x => footP (e x)
 | .store _ x _ => footP (e x)
 | .lookup _ _ _ _ => if o.guard.isNone = true then .maps else .other
 | .convert _ _ x => footS (e x)
 | .alloc _ => .fp [] true
 | .makeMap _ none => .fp [] true
 | .box _ _ => .fp [] true
 | .makeSlice _ _ _ => .fp [] true
 | .buildSlice _ _ _ => .fp [] true
 | .call c => match c.callee with
  | .value (.func f) => footC C f (e (.func f)) (c.args.toList.map e)
  | .builtin .append => footB (c.args.toList.map e)
  | _ => .other
 | _ => .other
def apart (n0 : Nat) : Foot → Foot → Bool
 | .fp a x, .fp b y => (a.all fun i => !b.contains i) && !(x && y) && (!x || b.all fun i => decide (i < n0)) && (!y || a.all fun i => decide (i < n0))
 | .maps, .cells => true
 | .cells, .maps => true
 | _, _ => false
def upd (H : Heap) (id : Nat) : Option (Nat × List Row) → Heap
 | none => H
 | some o => H.set id (some o)
def act (P : Program) (C : Orc) (ops : Array Oper) (o : Oper) (e : AEv) (H : Heap) : Option (AVal × Heap) :=
 match o.guard with
 | none => astep P C true e o H
 | some _ => match guardOk ops e o with
  | some g => if hk C.inl o = 2 then (if g = true then astep P C g e o H else some (.v undef, H))
    else if g = true ∧ (astep P C g e o H).isNone = true then none else some (.when g (((astep P C g e o H).map Prod.fst).getD .junk), H)
  | none => none
section
variable {P : Program} {C : Orc} {nt : Nat} {ops : Array Oper} {o : Oper}
theorem step1_act (s : Env × Heap) : step1 P C nt ops o s = if dstOk nt o then (act P C ops o (ev s.1) s.2).map fun r => (put s.1 o.dst r.1, r.2) else none := by
 unfold step1 act
 split
 ·cases hgd : o.guard with
  | none => rfl
  | some gw =>
   simp only
   cases hg : guardOk ops (ev s.1) o with
   | none => rfl
   | some g =>
    simp only
    unfold gsel
    by_cases h : hk C.inl o = 2
    ·simp only [h, beq_self_eq_true, if_true]
     split <;> rfl
    ·have : (hk C.inl o == 2) = false := by simpa using h
     simp only [this, h, if_false, Bool.false_eq_true]
     split <;> rfl
 ·rfl
theorem act_congr {ρ ρ2 : Env} {H : Heap} (h1 : ∀ t, t ∈ readsOf ops o → look ρ2 t = look ρ t) : act P C ops o (ev ρ2) H = act P C ops o (ev ρ) H := by
 have hcong : ∀ g H, astep P C g (ev ρ2) o H = astep P C g (ev ρ) o H := fun g H => astep_congr (fun y hy => by
  cases y with
  | tmp t => exact h1 t (mem_reads hy)
  | _ => rfl)
 have hg : guardOk ops (ev ρ2) o = guardOk ops (ev ρ) o := by
  unfold guardOk
  split
  ·rfl
  ·rename_i j want hgd
   split
   ·rename_i d hdd
    have : look ρ2 d = look ρ d := h1 d (by unfold readsOf; simp [hgd, hdd])
    simp only [ev, this]
   ·rfl
 unfold act
 simp only [hcong, hg]
theorem foot_congr {ρ ρ2 : Env} (h1 : ∀ t, t ∈ readsOf ops o → look ρ2 t = look ρ t) : foot C (ev ρ2) o = foot C (ev ρ) o := by
 have hcong : ∀ y ∈ o.op.operands, ev ρ2 y = ev ρ y := fun y hy => by
  cases y with
  | tmp t => exact h1 t (mem_reads hy)
  | _ => rfl
 unfold foot
 cases hop : o.op <;> simp only [hop, Op.operands] at hcong ⊢
 case load t x => rw [hcong x (by simp)]
 case store t x y => rw [hcong x (by simp)]
 case makeMap t r => cases r <;> rfl
 case convert s d x => rw [hcong x (by simp)]
 case call c =>
  cases hc : c.callee with
  | value f =>
   cases f with
   | func f =>
    simp only [hc]
    rw [map_ev_congr (e := ev ρ2) (e' := ev ρ) (fun x hx => hcong x (by simp [Call.operands, hx]))]
    rfl
   | _ => rfl
  | builtin b =>
   cases b <;> first | rfl | (simp only [hc]; rw [map_ev_congr (e := ev ρ2) (e' := ev ρ) (fun x hx => hcong x (by simp [Call.operands, hx]))])
  | _ => rfl
theorem foot_hk {e : AEv} (h : foot C e o ≠ .other) : hk C.inl o ≠ 0 := by
 unfold foot at h
 unfold hk
 cases hop : o.op <;> simp only [hop] at h ⊢
 case call c =>
  cases hc : c.callee with
  | value f =>
   cases f with
   | func f => simp only [hc]; split <;> decide
   | _ => simp [hc] at h
  | builtin b => cases b <;> simp [hc] at h ⊢
  | _ => simp [hc] at h
 all_goals first | decide | exact absurd rfl h
theorem Loc.none {ids : List Nat} {nw : Bool} : Loc (fun _ => none) ids nw := ⟨fun _ _ => Option.none, ⟨fun _ _ _ _ => rfl, fun _ _ _ h => (by cases h), fun _ _ _ _ => rfl⟩, fun _ => rfl⟩
theorem Loc.const {ids : List Nat} {nw : Bool} (x : Option AVal) : Loc (fun H => x.map (·, H)) ids nw := by
 refine ⟨fun _ _ => x.map (·, [], []), ⟨fun _ _ _ _ => rfl, fun _ _ r h => ?_, fun _ _ _ _ => rfl⟩, fun H => ?_⟩
 ·cases x with
  | none => cases h
  | some x => simp at h; subst h; simp
 ·cases x <;> simp [updL]
theorem Loc.one {F : Heap → Option (AVal × Heap)} {id : Nat} (h : ∃ Φ : Option (Nat × List Row) → Option (AVal × Option (Nat × List Row)), ∀ H, F H = (Φ (obj H id)).map fun r => (r.1, upd H id r.2)) : Loc F [id] false := by
 obtain ⟨Φ, hΦ⟩ := h
 refine ⟨fun f _ => (Φ (f id)).map fun r => (r.1, (match r.2 with | Option.none => [] | some o => [(id, some o)]), []), ⟨fun f g n hh => by simp only [hh id (by simp)], fun f n r hr => ?_, fun _ _ _ _ => rfl⟩, fun H => ?_⟩
 ·simp only [Option.map_eq_some_iff] at hr
  obtain ⟨a, _, rfl⟩ := hr
  refine ⟨fun u hu => ?_, fun _ => rfl⟩
  simp only at hu
  split at hu
  ·simp at hu
  ·simp at hu; subst hu; simp
 ·rw [hΦ H]
  dsimp only
  generalize Φ (obj H id) = z
  cases z with
  | none => rfl
  | some r =>
   obtain ⟨r1, r2⟩ := r
   cases r2 <;> simp [updL, upd]
theorem Loc.new {F : Heap → Option (AVal × Heap)} (h : ∃ G : Nat → Option (AVal × Heap), ∀ H, F H = (G H.length).map fun r => (r.1, H ++ r.2)) : Loc F [] true := by
 obtain ⟨G, hG⟩ := h
 refine ⟨fun _ n => (G n).map fun r => (r.1, [], r.2), ⟨fun _ _ _ _ => rfl, fun f n r hr => ?_, fun h => by cases h⟩, fun H => ?_⟩
 ·simp only [Option.map_eq_some_iff] at hr
  obtain ⟨a, _, rfl⟩ := hr
  simp
 ·rw [hG H]
  dsimp only
  generalize G H.length = z
  cases z <;> simp [updL]
theorem loc_of {e : AEv} {ids : List Nat} {nw : Bool} (h : ∀ g, Loc (astep P C g e o) ids nw) : Loc (act P C ops o e) ids nw := by
 unfold act
 cases hgd : o.guard with
 | none => exact h true
 | some gw =>
  simp only
  cases hg : guardOk ops e o with
  | none => exact Loc.none
  | some g =>
   obtain ⟨Φ, ⟨w1, w2, w3⟩, hΦ⟩ := h g
   simp only
   by_cases h2 : hk C.inl o = 2
   ·simp only [h2, if_true]
    by_cases hgt : g = true
    ·simp only [hgt, if_true]
     subst hgt
     exact ⟨Φ, ⟨w1, w2, w3⟩, hΦ⟩
    ·simp only [hgt]
     exact Loc.const (some (.v undef))
   ·simp only [h2, if_false]
    refine ⟨fun f n => if g = true ∧ (Φ f n).isNone = true then none else some (.when g (((Φ f n).map Prod.fst).getD .junk), [], []), ⟨fun f f' n hh => by simp only [w1 f f' n hh], fun f n r hr => ?_, fun hn f n m => by simp only [w3 hn f n m]⟩, fun H => ?_⟩
    ·split at hr
     ·cases hr
     ·simp at hr; subst hr; simp
    ·simp only [hΦ H]
     have e1 : ((Φ (obj H) H.length).map fun r => (r.1, updL H r.2.1 ++ r.2.2)).isNone = (Φ (obj H) H.length).isNone := by cases Φ (obj H) H.length <;> rfl
     have e2 : (((Φ (obj H) H.length).map fun r => (r.1, updL H r.2.1 ++ r.2.2)).map Prod.fst) = (Φ (obj H) H.length).map Prod.fst := by cases Φ (obj H) H.length <;> rfl
     rw [e1, e2]
     split <;> simp [updL]
theorem footP_res {a : AVal} {ids : List Nat} {nw : Bool} (h : footP a = .fp ids nw) : (∃ id, ids = [id] ∧ nw = false ∧ ∀ g, (∃ sz i off, res g a = .ptr id sz i off) ∨ res g a = .junk) ∨ (ids = [] ∧ nw = false ∧ ∀ g, (∃ row off, res g a = .fptr row off) ∨ res g a = .junk) := by
 unfold footP at h
 split at h
 ·rename_i id' sz i off hb
  simp only [Foot.fp.injEq] at h
  obtain ⟨rfl, rfl⟩ := h
  refine .inl ⟨id', rfl, rfl, fun g => ?_⟩
  cases a <;> simp only [bare] at hb
  case ptr => rw [hb]; exact .inl ⟨sz, i, off, rfl⟩
  case when b x =>
   subst hb
   simp only [res]
   split
   ·exact .inl ⟨sz, i, off, rfl⟩
   ·exact .inr rfl
  all_goals cases hb
 ·rename_i row off hb
  simp only [Foot.fp.injEq] at h
  obtain ⟨rfl, rfl⟩ := h
  refine .inr ⟨rfl, rfl, fun g => ?_⟩
  cases a <;> simp only [bare] at hb
  case fptr => rw [hb]; exact .inl ⟨row, off, rfl⟩
  case when b x =>
   subst hb
   simp only [res]
   split
   ·exact .inl ⟨row, off, rfl⟩
   ·exact .inr rfl
  all_goals cases hb
 ·cases h
theorem noIdC_all (l : Row) : noIdC l = l.all noId := by
 induction l with
 | nil => simp [noIdC]
 | cons a r ih => simp [noIdC, ih]
theorem noId_view (H : Heap) : ∀ (d : Nat) (a : AVal), noId a = true → view H d a = view [] d a := by
 intro d
 induction d with
 | zero => intro a h; cases a <;> simp [view]
 | succ d ih =>
  intro a h
  cases a with
  | agg cs => simp only [view]; congr 1; simp only [noId, noIdC_all, List.all_eq_true] at h; exact List.map_congr_left fun x hx => ih x (h x hx)
  | tup cs => simp only [view]; congr 1; simp only [noId, noIdC_all, List.all_eq_true] at h; exact List.map_congr_left fun x hx => ih x (h x hx)
  | fn f cs => simp only [view]; congr 1; simp only [noId, noIdC_all, List.all_eq_true] at h; exact List.map_congr_left fun x hx => ih x (h x hx)
  | ifc t a => simp only [view]; congr 1; exact ih a (by simpa [noId] using h)
  | ptr _ _ _ _ => simp [noId] at h
  | osl _ _ _ _ _ => simp [noId] at h
  | xsl _ _ _ _ _ => simp [noId] at h
  | _ => simp [view]
theorem plain_res {g : Bool} {a : AVal} (h : plainA a = true) : res g a = a := by
 cases a <;> first | rfl | (simp [plainA] at h)
theorem noId_plain {a : AVal} (h : noId a = true) : plainA a = true := by
 cases a <;> first | rfl | (simp [noId] at h)
def rowsF (f : Nat → Option (Nat × List Row)) (sz : Nat) : AVal → Option (List Row)
 | .osl id sz' s len _ => match f id with
  | some (sz'', rows) => if sz' = sz ∧ sz'' = sz ∧ s + len ≤ rows.length then some ((rows.drop s).take len) else none
  | none => none
 | .fsl _ sz' rows => if sz' = sz then some rows else none
 | .esl => some []
 | .v (.slice none 0 0) => some []
 | _ => none
theorem rowsF_of (H : Heap) (sz : Nat) (x : AVal) : rowsOf H sz x = rowsF (obj H) sz x := by
 cases x
 case v y =>
  cases y <;> try rfl
 all_goals rfl
def appF (P : Program) (t : TypeId) (s x : AVal) (f : Nat → Option (Nat × List Row)) (n : Nat) : Option (AVal × List (Nat × Option (Nat × List Row)) × Heap) :=
 match sliceElem P t with
 | some e => match szOf P e, zeroOf P e, bytesOf P e with
  | some sz, some z, some by_ => match rowsF f sz x with
   | some xr =>
    if z.cells.size = sz ∧ allOne z.cells.toList = true ∧ 0 < sz ∧ by_ ≤ 8192 then
     match s with
     | .osl id sz' st len kc => match f id with
      | some (sz'', rows) =>
       if sz' = sz ∧ sz'' = sz ∧ st + len ≤ rows.length ∧ len + xr.length ≤ 4294967296 then
        if len + xr.length ≤ kc then
         some (.osl id sz st (len + xr.length) kc, [(id, some (sz, rows.take (st + len) ++ xr ++ rows.drop (st + len + xr.length)))], [])
        else if st = 0 ∧ len = rows.length then
         some (.osl n sz 0 (len + xr.length) (len + xr.length), [(id, none)], [some (sz, rows ++ xr)])
        else if st + len = rows.length ∧ (rows.drop st).all vRow = true ∧ xr.all vRow = true then
         some (.fsl true sz (rows.drop st ++ xr), [(id, none)], [none])
        else none
       else none
      | none => none
     | .fsl o sz' rows => if xr.length = 0 then some (.fsl o sz' rows, [], []) else none
     | .esl => if xr.length = 0 then some (.esl, [], [])
       else if xr.length ≤ 4294967296 then some (.osl n sz 0 xr.length xr.length, [], [some (sz, xr)]) else none
     | .v (.slice none 0 0) => if xr.length = 0 then some (.v (.slice none 0 0), [], [])
       else if xr.length ≤ 4294967296 then some (.osl n sz 0 xr.length xr.length, [], [some (sz, xr)]) else none
     | _ => none
    else none
   | none => none
  | _, _, _ => none
 | none => none
theorem appF_of (P : Program) (t : TypeId) (s x : AVal) (H : Heap) : aAppend P t s x H = (appF P t s x (obj H) H.length).map fun r => (r.1, updL H r.2.1 ++ r.2.2) := by
 unfold aAppend appF
 cases sliceElem P t with
 | none => rfl
 | some e =>
  dsimp only
  cases szOf P e with
  | none => rfl
  | some sz =>
   cases zeroOf P e with
   | none => rfl
   | some z =>
    cases bytesOf P e with
    | none => rfl
    | some by_ =>
     dsimp only
     rw [rowsF_of]
     cases rowsF (obj H) sz x with
     | none => rfl
     | some xr =>
      dsimp only
      by_cases hc : z.cells.size = sz ∧ allOne z.cells.toList = true ∧ 0 < sz ∧ by_ ≤ 8192
      case neg => rw [if_neg hc, if_neg hc]; rfl
      rw [if_pos hc, if_pos hc]
      have h00 : sz ≠ 0 := by have := hc.2.2.1; omega
      clear hc
      cases s
      case osl id sz' st len kc =>
       dsimp only
       cases obj H id with
       | none => rfl
       | some p =>
        obtain ⟨sz'', rows⟩ := p
        dsimp only
        by_cases h1 : sz' = sz ∧ sz'' = sz ∧ st + len ≤ rows.length ∧ len + xr.length ≤ 4294967296
        case neg => rw [if_neg h1, if_neg h1]; rfl
        rw [if_pos h1, if_pos h1]
        by_cases h2 : len + xr.length ≤ kc
        case pos => rw [if_pos h2, if_pos h2]; simp [updL]
        rw [if_neg h2, if_neg h2]
        by_cases h3 : st = 0 ∧ len = rows.length
        ·rw [if_pos h3, if_pos h3]; simp [updL]
        ·rw [if_neg h3, if_neg h3]
         by_cases h4 : st + len = rows.length ∧ (rows.drop st).all vRow = true ∧ xr.all vRow = true
         ·rw [if_pos h4, if_pos h4]; simp [updL]
         ·rw [if_neg h4, if_neg h4]; rfl
      case fsl o sz' rows =>
       dsimp only
       by_cases h1 : xr.length = 0
       ·rw [if_pos h1, if_pos h1]; simp [updL]
       ·rw [if_neg h1, if_neg h1]; rfl
      case esl =>
       dsimp only
       by_cases h1 : xr.length = 0
       ·rw [if_pos h1, if_pos h1]; simp [updL]
       ·rw [if_neg h1, if_neg h1]
        by_cases h2 : xr.length ≤ 4294967296
        ·rw [if_pos h2, if_pos h2]; simp [updL, newObj', h00]
        ·rw [if_neg h2, if_neg h2]; rfl
      case v y =>
       cases y <;> try rfl
       case slice a l c =>
        cases a <;> cases l <;> cases c <;> try rfl
        show (if xr.length = 0 then some (AVal.v (Value.slice none 0 0), H) else if xr.length ≤ 4294967296 then some (AVal.osl H.length sz 0 xr.length xr.length, newObj' H sz xr) else none) = Option.map (fun r => (r.1, updL H r.2.1 ++ r.2.2)) (if xr.length = 0 then some (AVal.v (.slice none 0 0), [], []) else if xr.length ≤ 4294967296 then some (.osl H.length sz 0 xr.length xr.length, [], [some (sz, xr)]) else none)
        by_cases h1 : xr.length = 0
        ·rw [if_pos h1, if_pos h1]; simp [updL]
        ·rw [if_neg h1, if_neg h1]
         by_cases h2 : xr.length ≤ 4294967296
         ·rw [if_pos h2, if_pos h2]; simp [updL, newObj', h00]
         ·rw [if_neg h2, if_neg h2]; rfl
      all_goals rfl
theorem rowsF_congr {f g : Nat → Option (Nat × List Row)} {sz : Nat} {x : AVal} {ids : List Nat} (h : idsA x = some ids) (hh : ∀ id ∈ ids, f id = g id) : rowsF f sz x = rowsF g sz x := by
 cases x <;> simp only [idsA, Option.some.injEq, reduceCtorEq] at h
 case osl id _ _ _ _ => subst h; simp only [rowsF, hh id (by simp)]
 case v y =>
  cases y <;> try rfl
  case slice a l c => cases a <;> cases l <;> cases c <;> rfl
 all_goals rfl
theorem app_loc {P : Program} {t : TypeId} {s x : AVal} {a b : List Nat} (ha : idsA s = some a) (hb : idsA x = some b) : Loc (aAppend P t s x) (a ++ b) true := by
 refine ⟨appF P t s x, ⟨fun f g n hh => ?_, fun f n r hr => ⟨fun u hu => ?_, fun h => by cases h⟩, fun h => by cases h⟩, fun H => appF_of P t s x H⟩
 ·have e1 : ∀ sz, rowsF f sz x = rowsF g sz x := fun sz => rowsF_congr hb (fun id hi => hh id (by simp [hi]))
  unfold appF
  simp only [e1]
  cases s <;> simp only [idsA, Option.some.injEq, reduceCtorEq] at ha
  case osl id _ _ _ _ => subst ha; simp only [hh id (by simp)]
  case v y =>
   cases y <;> try rfl
   case slice a l c => cases a <;> cases l <;> cases c <;> rfl
  all_goals rfl
 ·unfold appF at hr
  split at hr
  ·split at hr
   ·split at hr
    ·split at hr
     ·split at hr
      ·simp only [idsA, Option.some.injEq] at ha
       subst ha
       split at hr
       ·split at hr
        ·split at hr
         ·simp at hr; subst hr; simp at hu; subst hu; simp
         ·split at hr
          ·simp at hr; subst hr; simp at hu; subst hu; simp
          ·split at hr
           ·simp at hr; subst hr; simp at hu; subst hu; simp
           ·cases hr
        ·cases hr
       ·cases hr
      ·split at hr
       ·simp at hr; subst hr; simp at hu
       ·cases hr
      ·split at hr
       ·simp at hr; subst hr; simp at hu
       ·split at hr
        ·simp at hr; subst hr; simp at hu
        ·cases hr
      ·split at hr
       ·simp at hr; subst hr; simp at hu
       ·split at hr
        ·simp at hr; subst hr; simp at hu
        ·cases hr
      ·cases hr
     ·cases hr
    ·cases hr
   ·cases hr
  ·cases hr
theorem appZ_loc {P : Program} {t u : TypeId} {s x : AVal} {a b : List Nat} (ha : idsA s = some a) (hb : idsA x = some b) : Loc (aAppendZ P t u s x) (a ++ b) true := by
 have key : ∀ (q : Prop) [Decidable q] (rows : List Row) (sz : Nat), b = [] → Loc (fun H => if q then aAppend P t s (.fsl true sz rows) H else none) (a ++ b) true := fun q _ rows sz hb0 => by
  subst hb0
  by_cases hq : q
  ·simp only [if_pos hq]
   exact app_loc ha rfl
  ·simp only [if_neg hq]
   exact Loc.none
 unfold aAppendZ
 split
 ·split
  ·split
   ·simp only [idsA, reduceCtorEq] at ha
   ·refine key _ _ _ ?_
    simpa [idsA] using hb.symm
   ·exact Loc.none
  ·exact Loc.none
 ·exact Loc.none
theorem idsA_plain {a : AVal} {l : List Nat} (h : idsA a = some l) : plainA a = true := by
 cases a <;> first | rfl | (simp [idsA] at h)
theorem res_bare (g : Bool) (a : AVal) : res g a = bare a ∨ res g a = .junk := by
 cases a with
 | when b x =>
  simp only [res, bare]
  split
  ·exact .inl rfl
  ·exact .inr rfl
 | _ => exact .inl rfl
theorem str_osl {s d : TypeId} {id sz st len kc : Nat} : Loc (fun H : Heap => (aStr P s d (.osl id sz st len kc) H).map (·, H)) [id] false := by
 refine Loc.one ⟨fun ob => (if strT P s d = true then (match ob with
   | some (sz'', rows) => if sz = 1 ∧ sz'' = 1 ∧ st + len ≤ rows.length then some ((rows.drop st).take len) else none
   | none => none).bind fun rows => (bytesR rows).map fun l => AVal.v (.string (strB l)) else none).map (·, none), fun H => ?_⟩
 simp only [aStr, soft, rowsOf]
 split
 ·cases obj H id with
  | none => rfl
  | some ob =>
   obtain ⟨sz', rows⟩ := ob
   simp only
   split
   ·simp only [Option.bind_some]
    cases bytesR ((rows.drop st).take len) <;> rfl
   ·rfl
 ·rfl
theorem foot_loc (hC : ∀ f args ids, C.fp f args = some ids → Loc (C.inline f args) ids true) {e : AEv} {ids : List Nat} {nw : Bool} (h : foot C e o = .fp ids nw) : Loc (act P C ops o e) ids nw := by
 refine loc_of fun g => ?_
 unfold foot at h
 unfold astep astepE
 cases hop : o.op <;> simp only [hop, reduceCtorEq, Foot.fp.injEq] at h ⊢
 case lookup t m k ok => split at h <;> cases h
 case convert s d x =>
  have hb := res_bare g (e x)
  unfold footS at h
  have hj : Loc (fun H : Heap => (aStr P s d .junk H).map (·, H)) ids nw := by
   have : ∀ H, aStr P s d .junk H = none := fun H => by simp only [aStr, soft, rowsOf]; split <;> rfl
   simp only [this]; exact Loc.none
  split at h
  ·rename_i id sz st len kc hx
   simp only [Foot.fp.injEq] at h
   obtain ⟨rfl, rfl⟩ := h
   rcases hb with hb | hb <;> rw [hb]
   ·rw [hx]; exact str_osl
   ·exact hj
  ·rename_i id sz st len kc hx
   simp only [Foot.fp.injEq] at h
   obtain ⟨rfl, rfl⟩ := h
   rcases hb with hb | hb <;> rw [hb]
   ·rw [hx]; exact str_osl
   ·exact hj
  ·rename_i y hx
   rcases hb with hb | hb <;> rw [hb]
   ·rw [hx]
    show Loc (fun H => match asV (pr P (convert s d y)) with | some r => some (r, H) | none => (aByt P s d y).map (·, H)) ids nw
    cases asV (pr P (convert s d y)) with
    | some q => exact Loc.const (some q)
    | none => exact Loc.const _
   ·exact hj
  ·rename_i b sz rows hx
   rcases hb with hb | hb <;> rw [hb]
   ·rw [hx]
    have : ∀ H, aStr P s d (.fsl b sz rows) H = aStr P s d (.fsl b sz rows) [] := fun H => rfl
    simp only [this]
    exact Loc.const _
   ·exact hj
  ·rename_i hx
   rcases hb with hb | hb <;> rw [hb]
   ·rw [hx]
    have : ∀ H, aStr P s d .esl H = aStr P s d .esl [] := fun H => rfl
    simp only [this]
    exact Loc.const _
   ·exact hj
  ·cases h
 case load t x =>
  rcases footP_res h with ⟨id, rfl, rfl, hh⟩ | ⟨rfl, rfl, hh⟩
  rcases hh g with ⟨sz, i, off, hr⟩ | hr
  ·refine Loc.one ⟨fun ob => (match ob with
    | some (sz', rows) => match rows[i]? with
     | some row => if sz' = sz then readAt P t row off else if sz' = 1 ∧ sz ≠ 0 ∧ i = 0 then readAt P t rows.flatten off else none
     | none => none
    | none => none).map (·, none), fun H => ?_⟩
   simp only [hr, aLoad]
   cases obj H id with
   | none => rfl
   | some ob =>
    obtain ⟨sz', rows⟩ := ob
    simp only
    cases rows[i]? with
    | none => rfl
    | some row =>
     simp only
     split
     ·cases readAt P t row off <;> rfl
     ·split
      ·cases readAt P t rows.flatten off <;> rfl
      ·rfl
  ·simp only [hr, aLoad]; exact Loc.none
  rcases hh g with ⟨row, off, hr⟩ | hr
  ·simp only [hr, aLoad]; exact Loc.const _
  ·simp only [hr, aLoad]; exact Loc.none
 case store t x y =>
  rcases footP_res h with ⟨id, rfl, rfl, hh⟩ | ⟨rfl, rfl, hh⟩
  rcases hh g with ⟨sz, i, off, hr⟩ | hr
  ·refine Loc.one ⟨fun ob => match ob with
    | some (sz', rows) => match rows[i]?, cellsOf (res g (e y)), szOf P t with
     | some row, some cs, some n => if sz' = sz ∧ cs.length = n ∧ off + n ≤ row.length then some (.v undef, some (sz, rows.set i (writeAt row off cs)))
      else if sz' = 1 ∧ sz ≠ 0 ∧ i = 0 ∧ cs.length = n ∧ off + n ≤ rows.length then some (.v undef, some (1, rows.take off ++ cs.map (fun c => [c]) ++ rows.drop (off + cs.length))) else none
     | _, _, _ => none
    | none => none, fun H => ?_⟩
   simp only [hr, aStore]
   cases obj H id with
   | none => rfl
   | some ob =>
    obtain ⟨sz', rows⟩ := ob
    simp only
    split
    ·rename_i row cs n h1 h2 h3
     simp only [h1, h2, h3]
     split
     ·rfl
     ·split <;> rfl
    ·rename_i hno
     split
     ·rename_i row cs n h1 h2 h3
      exact absurd h3 (hno row cs n h1 h2)
     ·rfl
  ·simp only [hr, aStore]; exact Loc.none
  rcases hh g with ⟨row, off, hr⟩ | hr
  ·simp only [hr, aStore]; exact Loc.none
  ·simp only [hr, aStore]; exact Loc.none
 case call c =>
  cases hc : c.callee with
  | value f =>
   cases f with
   | func f =>
    simp only [hc] at h ⊢
    unfold footC at h
    split at h
    ·rename_i g' hfv
     split at h
     ·rename_i hgf
      subst hgf
      have hfn : res g (e (.func g')) = .fn g' [] := by rw [hfv]; rfl
      simp only [hfn, isStatic, Bool.true_and]
      unfold aCall
      cases hP : P.funcs[g']? with
      | none => simp only [hP]; exact Loc.none
      | some fn =>
       simp only [hP]
       by_cases hinl : C.inl g' = true
       ·simp only [hinl, if_true] at h ⊢
        split at h
        ·rename_i hpl
         split at h
         ·rename_i ids' hfp
          simp only [Foot.fp.injEq] at h
          obtain ⟨rfl, rfl⟩ := h
          have hargs : (c.args.toList.map fun x => res g (e x)) = c.args.toList.map e := by
           apply List.map_congr_left
           intro x hx
           exact plain_res (List.all_eq_true.1 hpl _ (List.mem_map_of_mem hx))
          rw [hargs, List.append_nil]
          split
          ·exact hC _ _ _ hfp
          ·exact Loc.none
         ·split at h <;> cases h
        ·cases h
       ·have hinl' : C.inl g' = false := by simpa using hinl
        simp only [hinl', Bool.false_eq_true, if_false] at h ⊢
        cases hrd : C.rd g' with
        | some m => rw [hrd] at h; simp at h
        | none =>
        ·simp only [hrd, Option.isSome_none, Bool.false_eq_true, if_false] at h
         split at h
         ·rename_i hpl
          simp only [Foot.fp.injEq] at h
          obtain ⟨rfl, rfl⟩ := h
          have hargs : ∀ H, (((c.args.toList.map fun x => res g (e x)) ++ []).map fun a => cold (view H depthV a)) = (c.args.toList.map e).map fun a => cold (view [] depthV a) := by
           intro H
           rw [List.append_nil, List.map_map, List.map_map]
           apply List.map_congr_left
           intro x hx
           have hn := List.all_eq_true.1 hpl _ (List.mem_map_of_mem hx)
           simp only [Function.comp]
           rw [plain_res (noId_plain hn), noId_view H _ _ hn]
          simp only [hargs]
          split
          ·exact Loc.none
          ·exact Loc.const _
         ·cases h
     ·cases h
    ·cases h
   | _ => simp [hc] at h
  | builtin b =>
   cases b
   case append =>
    simp only [hc] at h ⊢
    generalize hcargs : c.args.toList = args at h
    match args, h with
    | [s, x], h =>
     simp only [footB, List.map_cons, List.map_nil] at h
     split at h
     ·rename_i a b ha hb
      simp only [Foot.fp.injEq] at h
      obtain ⟨rfl, rfl⟩ := h
      simp only [List.map_cons, List.map_nil, plain_res (idsA_plain ha), plain_res (idsA_plain hb)]
      generalize c.argTypes.toList = ts
      have hB : ∀ H, aBuiltin P .append c.argTypes [e s, e x] H = match c.argTypes.toList with
        | [t, u] => (match sliceElem P u with
         | some _ => aAppend P t (e s) (e x) H
         | none => aAppendZ P t u (e s) (e x) H)
        | _ => none := by
       intro H
       unfold aBuiltin
       generalize c.argTypes.toList = ts
       match ts with
       | [] => rfl
       | [_] => rfl
       | [_, _] => rfl
       | _ :: _ :: _ :: _ => rfl
      simp only [hB]
      generalize c.argTypes.toList = ts
      match ts with
      | [] => exact Loc.none
      | [_] => exact Loc.none
      | _ :: _ :: _ :: _ => exact Loc.none
      | [t, u] =>
       dsimp only
       cases sliceElem P u with
       | some _ => exact app_loc ha hb
       | none =>
        exact appZ_loc ha hb
     ·cases h
    | [], h => simp [footB] at h
    | [_], h => simp [footB] at h
    | _ :: _ :: _ :: _, h => simp [footB] at h
   all_goals simp [hc] at h
  | _ => simp [hc] at h
 case makeMap t r =>
  cases r with
  | none =>
   simp only [Foot.fp.injEq] at h
   obtain ⟨rfl, rfl⟩ := h
   exact Loc.new ⟨fun n => some (.ptr n 0 0 0, [some (0, [])]), fun H => rfl⟩
  | some x => cases h
 case alloc t =>
  obtain ⟨rfl, rfl⟩ := h
  refine Loc.new ⟨fun n => match zeroOf P t with
   | some z => if allOne z.cells.toList = true ∧ z.cells.size ≠ 0 then some (.ptr n z.cells.size 0 0, [if z.cells.size = 0 then none else some (z.cells.size, [z.cells.toList.map .v])]) else none
   | none => none, fun H => ?_⟩
  unfold aAlloc newObj'
  cases zeroOf P t with
  | none => rfl
  | some z => simp only; split <;> rfl
 case box t x =>
  obtain ⟨rfl, rfl⟩ := h
  refine Loc.new ⟨fun n => match cellsOf (res g (e x)) with
   | some cs => if cs.length = 0 then none else some (.ptr n cs.length 0 0, [if cs.length = 0 then none else some (cs.length, [cs])])
   | none => none, fun H => ?_⟩
  unfold aBox newObj'
  cases cellsOf (res g (e x)) with
  | none => rfl
  | some cs => simp only; split <;> rfl
 case makeSlice t l c =>
  obtain ⟨rfl, rfl⟩ := h
  refine Loc.new ⟨fun n => (aMakeSlice P t (res g (e l)) (res g (e c)) []).map fun r => (match r.1 with | .osl _ sz s len kc => .osl n sz s len kc | a => a, r.2), fun H => ?_⟩
  unfold aMakeSlice newObj'
  split
  ·split
   ·split
    ·split
     ·rfl
     ·rfl
    ·rfl
   ·rfl
  ·rfl
 case buildSlice t len parts =>
  obtain ⟨rfl, rfl⟩ := h
  refine Loc.new ⟨fun n => (aBuildSlice P t len (parts.toList.map fun p => (p.1, res g (e p.2))) []).map fun r => (match r.1 with | .osl _ sz s len kc => .osl n sz s len kc | a => a, r.2), fun H => ?_⟩
  unfold aBuildSlice newObj'
  split
  ·split
   ·split
    ·split
     ·split
      ·simp
      ·rfl
     ·rfl
    ·rfl
   ·rfl
  ·rfl
theorem updL_len (us : List (Nat × Option (Nat × List Row))) : ∀ H : Heap, (updL H us).length = H.length := by
 induction us with
 | nil => intro H; rfl
 | cons u us ih => intro H; rw [updL, ih]; simp
theorem obj_updL {a : Nat} (us : List (Nat × Option (Nat × List Row))) : ∀ H : Heap, (∀ u ∈ us, u.1 ≠ a) → obj (updL H us) a = obj H a := by
 induction us with
 | nil => intro H _; rfl
 | cons u us ih =>
  intro H h
  rw [updL, ih _ (fun v hv => h v (by simp [hv]))]
  simp [obj, List.getElem?_set_ne (h u (by simp))]
theorem obj_app {H l : Heap} {a : Nat} (h : a < H.length) : obj (H ++ l) a = obj H a := by
 simp [obj, List.getElem?_append_left h]
theorem updL_app {l : Heap} (us : List (Nat × Option (Nat × List Row))) : ∀ H : Heap, (∀ u ∈ us, u.1 < H.length) → updL (H ++ l) us = updL H us ++ l := by
 induction us with
 | nil => intro H _; rfl
 | cons u us ih =>
  intro H h
  rw [updL, updL, List.set_append_left _ _ (h u (by simp)), ih _ (fun v hv => by simpa using h v (by simp [hv]))]
theorem updL_set {a : Nat} {x : Option (Nat × List Row)} (us : List (Nat × Option (Nat × List Row))) : ∀ H : Heap, (∀ u ∈ us, u.1 ≠ a) → updL (H.set a x) us = (updL H us).set a x := by
 induction us with
 | nil => intro H _; rfl
 | cons u us ih =>
  intro H h
  rw [updL, updL, List.set_comm _ _ (Ne.symm (h u (by simp))), ih _ (fun v hv => h v (by simp [hv]))]
theorem updL_comm (us vs : List (Nat × Option (Nat × List Row))) : ∀ H : Heap, (∀ u ∈ us, ∀ v ∈ vs, u.1 ≠ v.1) → updL (updL H us) vs = updL (updL H vs) us := by
 induction us with
 | nil => intro H _; rfl
 | cons u us ih =>
  intro H h
  rw [updL, updL, ih _ (fun x hx => h x (by simp [hx])), updL_set vs H (fun v hv => Ne.symm (h u (by simp) v hv))]
end
def okF (C : Orc) (n0 : Nat) (f : Foot) (o : Oper) (s : Env × Heap) : Bool := decide (f = .other) || (decide (foot C (ev s.1) o = f) && decide (n0 ≤ s.2.length))
section
variable {P : Program} {C : Orc} {nt : Nat} {ops : Array Oper} {F : Nat → Foot} {n0 : Nat}
def stepG (P : Program) (C : Orc) (nt : Nat) (ops : Array Oper) (F : Nat → Foot) (n0 : Nat) (i : Nat) (s : Env × Heap) : Option (Env × Heap) :=
 if okF C n0 (F i) (ops.getD i default) s then step1 P C nt ops (ops.getD i default) s else none
def runG (P : Program) (C : Orc) (nt : Nat) (ops : Array Oper) (F : Nat → Foot) (n0 : Nat) : List Nat → Env × Heap → Option (Env × Heap)
 | [], s => some s
 | i :: l, s => match stepG P C nt ops F n0 i s with
  | some s' => runG P C nt ops F n0 l s'
  | none => none
theorem stepG_some {i : Nat} {s r : Env × Heap} (h : stepG P C nt ops F n0 i s = some r) : okF C n0 (F i) (ops.getD i default) s = true ∧ step1 P C nt ops (ops.getD i default) s = some r := by
 unfold stepG at h
 split at h
 ·rename_i hk; exact ⟨hk, h⟩
 ·cases h
theorem stepG_of {i : Nat} {s r : Env × Heap} (h1 : okF C n0 (F i) (ops.getD i default) s = true) (h2 : step1 P C nt ops (ops.getD i default) s = some r) : stepG P C nt ops F n0 i s = some r := by
 unfold stepG; rw [if_pos h1]; exact h2
theorem okF_iff {f : Foot} {o : Oper} {s : Env × Heap} : okF C n0 f o s = true ↔ f = .other ∨ (foot C (ev s.1) o = f ∧ n0 ≤ s.2.length) := by
 simp [okF]
theorem stepG_eq {i : Nat} {s s' : Env × Heap} (h : EqS s s') {r : Env × Heap} (hr : stepG P C nt ops F n0 i s = some r) : ∃ r', stepG P C nt ops F n0 i s' = some r' ∧ EqS r r' := by
 obtain ⟨h1, h2⟩ := stepG_some hr
 obtain ⟨r', h3, h4⟩ := step1_eq h h2
 refine ⟨r', stepG_of ?_ h3, h4⟩
 rw [okF_iff] at h1 ⊢
 rw [← h.1.ev, ← h.2]; exact h1
theorem runG_eq (l : List Nat) : ∀ {s s' : Env × Heap}, EqS s s' → ∀ {r : Env × Heap}, runG P C nt ops F n0 l s = some r → ∃ r', runG P C nt ops F n0 l s' = some r' ∧ EqS r r' := by
 induction l with
 | nil => intro s s' h r hr; simp only [runG, Option.some.injEq] at hr; subst hr; exact ⟨s', rfl, h⟩
 | cons o l ih =>
  intro s s' h r hr
  simp only [runG] at hr ⊢
  split at hr
  ·rename_i x hx
   obtain ⟨y, hy, he⟩ := stepG_eq h hx
   rw [hy]
   exact ih he hr
  ·cases hr
def indepG (inl : FuncId → Bool) (ops : Array Oper) (F : Nat → Foot) (n0 p i : Nat) : Prop :=
 indep inl ops (ops.getD p default) (ops.getD i default) = true ∨ (clash ops (ops.getD p default) (ops.getD i default) = false ∧ clash ops (ops.getD i default) (ops.getD p default) = false ∧ apart n0 (F p) (F i) = true)
theorem reads_put {o p : Oper} (hc : clash ops o p = false) {ρ : Env} {a : AVal} : ∀ t, t ∈ readsOf ops p → look (put ρ o.dst a) t = look ρ t := by
 intro t ht
 rw [look_put]
 split
 ·rename_i hd; exact absurd ht (clash_no hc hd).1
 ·rfl
theorem put_swap {o p : Oper} (hc : clash ops o p = false) {ρ : Env} {a b : AVal} : EqE (put (put ρ o.dst a) p.dst b) (put (put ρ p.dst b) o.dst a) := by
 intro t
 rw [look_put, look_put, look_put, look_put]
 by_cases q1 : p.dst = some t <;> by_cases q2 : o.dst = some t
 ·exact absurd q1 (clash_no hc q2).2
 ·simp [q1, q2]
 ·simp [q1, q2]
 ·simp [q1, q2]
def FootOk (C : Orc) : Prop := (∀ f args ids, C.fp f args = some ids → Loc (C.inline f args) ids true) ∧ ∀ f, C.cl f = true → ∀ args H r H', C.inline f args H = some (r, H') → MapsSame H H' ∧ H.length ≤ H'.length
theorem OrcOk.footOk (h : OrcOk P C) : FootOk C := ⟨h.foot, h.cells⟩
theorem look_same {t : TypeId} {m k x : AVal} {ok : Bool} {H H2 : Heap} (h : aLookup P t m k ok H = some x) (hs : MapsSame H H2) : aLookup P t m k ok H2 = some x := by
 unfold aLookup at h ⊢
 split at h
 ·split at h
  ·split at h
   ·rename_i rows hob
    simp only [(hs _ _).1 hob]
    exact h
   ·cases h
  ·exact h
  ·cases h
 ·cases h
theorem maps_act {o : Oper} {e : AEv} {H H1 : Heap} {a : AVal} (h : foot C e o = .maps) (hr : act P C ops o e H = some (a, H1)) : H1 = H ∧ ∀ H2, MapsSame H H2 → act P C ops o e H2 = some (a, H2) := by
 unfold foot at h
 cases hop : o.op <;> simp only [hop, reduceCtorEq] at h
 case load t x => unfold footP at h; split at h <;> cases h
 case store t x y => unfold footP at h; split at h <;> cases h
 case makeMap t r => cases r <;> cases h
 case convert s d x => unfold footS at h; split at h <;> cases h
 case call c =>
  cases hc : c.callee with
  | value f =>
   cases f with
   | func f =>
    simp only [hc] at h
    exfalso
    unfold footC at h
    repeat' (split at h)
    all_goals cases h
   | _ => simp [hc] at h
  | builtin b =>
   cases b <;> simp [hc] at h
   unfold footB at h
   split at h
   ·split at h <;> cases h
   ·cases h
  | _ => simp [hc] at h
 case lookup t m k ok =>
  split at h
  case isFalse => cases h
  rename_i hg
  have hg : o.guard = none := Option.isNone_iff_eq_none.1 hg
  unfold act at hr ⊢
  simp only [hg] at hr ⊢
  unfold astep astepE at hr ⊢
  simp only [hop, Option.map_eq_some_iff, Prod.mk.injEq] at hr ⊢
  obtain ⟨x, hx, rfl, rfl⟩ := hr
  exact ⟨rfl, fun H2 h2 => ⟨x, look_same hx h2, rfl, trivial⟩⟩
theorem cells_act {o : Oper} (hF : FootOk C) {e : AEv} {H H1 : Heap} {a : AVal} (h : foot C e o = .cells) (hr : act P C ops o e H = some (a, H1)) : MapsSame H H1 ∧ H.length ≤ H1.length := by
 have triv : MapsSame H H ∧ H.length ≤ H.length := ⟨fun _ _ => Iff.rfl, Nat.le_refl _⟩
 unfold foot at h
 cases hop : o.op <;> simp only [hop, reduceCtorEq] at h
 case load t x => unfold footP at h; split at h <;> cases h
 case store t x y => unfold footP at h; split at h <;> cases h
 case makeMap t r => cases r <;> cases h
 case convert s d x => unfold footS at h; split at h <;> cases h
 case lookup t m k ok => split at h <;> cases h
 case call c =>
  cases hc : c.callee with
  | value f =>
   cases f with
   | func f =>
    simp only [hc] at h
    unfold footC at h
    split at h
    case h_2 => cases h
    rename_i g' hfv
    split at h
    case isFalse => cases h
    rename_i hgf
    subst hgf
    split at h
    case isFalse => split at h <;> first | (split at h <;> cases h) | cases h
    rename_i hinl
    split at h
    case isFalse => cases h
    split at h
    ·cases h
    ·split at h
     case isFalse => cases h
     rename_i hcl
     have key : ∀ g, astep P C g e o H = some (a, H1) → MapsSame H H1 ∧ H.length ≤ H1.length := by
      intro g hs
      unfold astep astepE at hs
      simp only [hop, hc] at hs
      have hfn : res g (e (.func g')) = .fn g' [] := by rw [hfv]; rfl
      simp only [hfn, isStatic, Bool.true_and] at hs
      unfold aCall at hs
      cases hP : P.funcs[g']? with
      | none => simp [hP] at hs
      | some fn =>
       simp only [hP, hinl, if_true] at hs
       split at hs
       ·exact hF.2 _ hcl _ _ _ _ hs
       ·cases hs
     unfold act at hr
     split at hr
     ·exact key _ hr
     ·split at hr
      ·split at hr
       ·split at hr
        ·exact key _ hr
        ·simp only [Option.some.injEq, Prod.mk.injEq] at hr
         obtain ⟨_, rfl⟩ := hr
         exact triv
       ·split at hr
        ·cases hr
        ·simp only [Option.some.injEq, Prod.mk.injEq] at hr
         obtain ⟨_, rfl⟩ := hr
         exact triv
      ·cases hr
   | _ => simp [hc] at h
  | builtin b =>
   cases b <;> simp [hc] at h
   unfold footB at h
   split at h
   ·split at h <;> cases h
   ·cases h
  | _ => simp [hc] at h
theorem swapD (hF : FootOk C) {o p : Oper} (c1 : clash ops o p = false) (c2 : clash ops p o = false) {fo fp : Foot} (ha : apart n0 fo fp = true) {s s1 s2 : Env × Heap} (ko : okF C n0 fo o s = true) (kp : okF C n0 fp p s1 = true)
  (h1 : step1 P C nt ops o s = some s1) (h2 : step1 P C nt ops p s1 = some s2) :
  ∃ t1 t2, step1 P C nt ops p s = some t1 ∧ step1 P C nt ops o t1 = some t2 ∧ EqS s2 t2 ∧ okF C n0 fp p s = true ∧ okF C n0 fo o t1 = true := by
 obtain ⟨ρ, H⟩ := s
 rw [step1_act] at h1 h2
 split at h1
 ·rename_i d1
  split at h2
  ·rename_i d2
   simp only [Option.map_eq_some_iff] at h1 h2
   obtain ⟨⟨a, H1⟩, e1, rfl⟩ := h1
   obtain ⟨⟨b, H2⟩, e2, rfl⟩ := h2
   simp only at e1 e2
   rw [act_congr (reads_put c1)] at e2
   rw [okF_iff] at ko kp
   simp only at ko kp
   rw [foot_congr (reads_put c1)] at kp
   have fin : ∀ H1', act P C ops p (ev ρ) H = some (b, H1') → act P C ops o (ev ρ) H1' = some (a, H2) → (fo = .other ∨ n0 ≤ H1'.length) → (fp = .other ∨ n0 ≤ H.length) →
     ∃ t1 t2, step1 P C nt ops p (ρ, H) = some t1 ∧ step1 P C nt ops o t1 = some t2 ∧ EqS (put (put ρ o.dst a) p.dst b, H2) t2 ∧ okF C n0 fp p (ρ, H) = true ∧ okF C n0 fo o t1 = true := by
    intro H1' g1 g2 g3 g4
    refine ⟨(put ρ p.dst b, H1'), (put (put ρ p.dst b) o.dst a, H2), ?_, ?_, ⟨put_swap c1, rfl⟩, ?_, ?_⟩
    ·rw [step1_act, if_pos d2, g1]; rfl
    ·rw [step1_act, if_pos d1]
     simp only
     rw [act_congr (reads_put c2), g2]; rfl
    ·rw [okF_iff]
     rcases kp with kp | kp
     ·exact .inl kp
     ·rcases g4 with g4 | g4
      ·exact .inl g4
      ·exact .inr ⟨kp.1, g4⟩
    ·rw [okF_iff]
     simp only
     rw [foot_congr (reads_put c2)]
     rcases ko with ko | ko
     ·exact .inl ko
     ·rcases g3 with g3 | g3
      ·exact .inl g3
      ·exact .inr ⟨ko.1, g3⟩
   cases fo with
   | other => cases fp <;> simp [apart] at ha
   | maps =>
    cases fp <;> simp [apart] at ha
    have ko' : foot C (ev ρ) o = .maps ∧ n0 ≤ H.length := ko.resolve_left (by simp)
    have kp' : foot C (ev ρ) p = .cells ∧ n0 ≤ H1.length := kp.resolve_left (by simp)
    obtain ⟨rfl, m2⟩ := maps_act ko'.1 e1
    obtain ⟨m3, m4⟩ := cells_act hF kp'.1 e2
    exact fin H2 e2 (m2 H2 m3) (.inr (Nat.le_trans ko'.2 m4)) (.inr ko'.2)
   | cells =>
    cases fp <;> simp [apart] at ha
    have ko' : foot C (ev ρ) o = .cells ∧ n0 ≤ H.length := ko.resolve_left (by simp)
    have kp' : foot C (ev ρ) p = .maps ∧ n0 ≤ H1.length := kp.resolve_left (by simp)
    obtain ⟨rfl, m2⟩ := maps_act kp'.1 e2
    obtain ⟨m3, m4⟩ := cells_act hF ko'.1 e1
    exact fin H (m2 H (fun id rows => (m3 id rows).symm)) e1 (.inr ko'.2) (.inr ko'.2)
   | fp A x =>
    have ko' : foot C (ev ρ) o = .fp A x ∧ n0 ≤ H.length := ko.resolve_left (by simp)
    obtain ⟨Φ, ⟨p1, p2, p3⟩, hΦ⟩ := foot_loc (P := P) (C := C) (ops := ops) hF.1 ko'.1
    cases fp with
    | other => simp [apart] at ha
    | maps => simp [apart] at ha
    | cells => simp [apart] at ha
    | fp B y =>
     have kp' : foot C (ev ρ) p = .fp B y ∧ n0 ≤ H1.length := kp.resolve_left (by simp)
     obtain ⟨Ψ, ⟨r1, r2, r3⟩, hΨ⟩ := foot_loc (P := P) (C := C) (ops := ops) hF.1 kp'.1
     simp only [apart, Bool.and_eq_true, Bool.or_eq_true, Bool.not_eq_true', List.all_eq_true, decide_eq_true_eq, Bool.and_eq_false_iff] at ha
     obtain ⟨⟨⟨ha1, ha2⟩, ha3⟩, ha4⟩ := ha
     have hdis : ∀ a ∈ A, ∀ b ∈ B, a ≠ b := by
      intro a haA b hbB he
      subst he
      have := ha1 a haA
      simp [hbB] at this
     rw [hΦ] at e1
     simp only [Option.map_eq_some_iff, Prod.mk.injEq] at e1
     obtain ⟨⟨a', U, N1⟩, q1, rfl, rfl⟩ := e1
     rw [hΨ] at e2
     simp only [Option.map_eq_some_iff, Prod.mk.injEq] at e2
     obtain ⟨⟨b', V, N2⟩, q2, rfl, rfl⟩ := e2
     obtain ⟨kU, kN1⟩ := p2 _ _ _ q1
     obtain ⟨kV, kN2⟩ := r2 _ _ _ q2
     simp only at kU kN1 kV kN2
     have hB : x = true → ∀ b ∈ B, b < n0 := fun hx => (ha3.resolve_left (by simp [hx]))
     have hA : y = true → ∀ a ∈ A, a < n0 := fun hy => (ha4.resolve_left (by simp [hy]))
     have hxy : x = false ∨ y = false := ha2
     have hlen := ko'.2
     have eqB : ∀ id ∈ B, obj (updL H U ++ N1) id = obj H id := by
      intro id hid
      have h0 : obj (updL H U) id = obj H id := obj_updL U H (fun u hu => hdis _ (kU u hu) _ hid)
      cases hx : x with
      | false => rw [kN1 hx, List.append_nil]; exact h0
      | true => rw [obj_app (by rw [updL_len]; have := hB hx id hid; omega)]; exact h0
     have q2' : Ψ (obj H) H.length = some (b', V, N2) := by
      rw [← q2, r1 _ _ _ eqB]
      cases hx : x with
      | false => rw [kN1 hx]; simp [updL_len]
      | true => exact r3 (hxy.resolve_left (by simp [hx])) _ _ _
     have eqA : ∀ id ∈ A, obj (updL H V ++ N2) id = obj H id := by
      intro id hid
      have h0 : obj (updL H V) id = obj H id := obj_updL V H (fun v hv => Ne.symm (hdis _ hid _ (kV v hv)))
      cases hy : y with
      | false => rw [kN2 hy, List.append_nil]; exact h0
      | true => rw [obj_app (by rw [updL_len]; have := hA hy id hid; omega)]; exact h0
     have q1' : Φ (obj (updL H V ++ N2)) (updL H V ++ N2).length = some (a', U, N1) := by
      rw [← q1, p1 _ _ _ eqA]
      cases hy : y with
      | false => rw [kN2 hy]; simp [updL_len]
      | true => exact p3 (hxy.resolve_right (by simp [hy])) _ _ _
     have hcomm := updL_comm U V H (fun u hu v hv => hdis _ (kU u hu) _ (kV v hv))
     have hfin : updL (updL H V ++ N2) U ++ N1 = updL (updL H U ++ N1) V ++ N2 := by
      cases hx : x with
      | false =>
       rw [kN1 hx, List.append_nil, List.append_nil, hcomm]
       cases hy : y with
       | false => rw [kN2 hy, List.append_nil, List.append_nil]
       | true => rw [updL_app U _ (fun u hu => by rw [updL_len]; have := hA hy _ (kU u hu); omega)]
      | true =>
       have hy := hxy.resolve_left (by simp [hx])
       rw [kN2 hy, List.append_nil, List.append_nil, ← hcomm, updL_app V _ (fun v hv => by rw [updL_len]; have := hB hx _ (kV v hv); omega)]
     refine fin (updL H V ++ N2) ?_ ?_ (.inr (by simp [updL_len]; omega)) (.inr hlen)
     ·rw [hΨ, q2']; rfl
     ·rw [hΦ, q1']
      simp only [Option.map_some, hfin]
  ·cases h2
 ·cases h1
theorem swapG (hF : FootOk C) {p i : Nat} (hi : indepG C.inl ops F n0 p i) {s s1 s2 : Env × Heap} (h1 : stepG P C nt ops F n0 p s = some s1) (h2 : stepG P C nt ops F n0 i s1 = some s2) :
  ∃ t1 t2, stepG P C nt ops F n0 i s = some t1 ∧ stepG P C nt ops F n0 p t1 = some t2 ∧ EqS s2 t2 := by
 obtain ⟨k1, g1⟩ := stepG_some h1
 obtain ⟨k2, g2⟩ := stepG_some h2
 rcases hi with hi | ⟨c1, c2, ha⟩
 ·obtain ⟨t1, t2, q1, q2, q3⟩ := swap hi g1 g2
  have hi' := hi
  simp only [indep, Bool.and_eq_true, Bool.not_eq_true', Bool.and_eq_false_iff] at hi'
  obtain ⟨⟨⟨c1, c2⟩, c3⟩, c4⟩ := hi'
  refine ⟨t1, t2, stepG_of ?_ q1, stepG_of ?_ q2, q3⟩
  ·rw [okF_iff] at k2 ⊢
   rcases k2 with k2 | ⟨k2, k3⟩
   ·exact .inl k2
   ·by_cases hF : F i = .other
    ·exact .inl hF
    ·right
     obtain ⟨ρ, H⟩ := s
     obtain ⟨a, H1, rfl, hn, _⟩ := step1_frame g1 ρ H (fun _ _ => rfl) (.inr rfl)
     simp only at k2 k3
     rw [foot_congr (reads_put c1)] at k2
     have hhk : hk C.inl (ops.getD i default) ≠ 0 := foot_hk (C := C) (e := ev ρ) (by rw [k2]; exact hF)
     have hh2 : hk C.inl (ops.getD p default) ≠ 2 := by
      intro h
      rcases c3 with c3 | c3
      ·rw [h] at c3; cases c3
      ·exact hhk (by rw [bne_eq_false_iff_eq] at c3; exact c3)
     rw [hn hh2] at k3
     exact ⟨k2, k3⟩
  ·rw [okF_iff] at k1 ⊢
   rcases k1 with k1 | ⟨k1, k3⟩
   ·exact .inl k1
   ·by_cases hF : F p = .other
    ·exact .inl hF
    ·right
     obtain ⟨ρ, H⟩ := s
     obtain ⟨a, H1, rfl, hn, _⟩ := step1_frame q1 ρ H (fun _ _ => rfl) (.inr rfl)
     simp only at k1 k3 ⊢
     have hhk : hk C.inl (ops.getD p default) ≠ 0 := foot_hk (C := C) (e := ev ρ) (by rw [k1]; exact hF)
     have hh2 : hk C.inl (ops.getD i default) ≠ 2 := by
      intro h
      rcases c4 with c4 | c4
      ·rw [h] at c4; cases c4
      ·exact hhk (by rw [bne_eq_false_iff_eq] at c4; exact c4)
     rw [foot_congr (reads_put c2), hn hh2]
     exact ⟨k1, k3⟩
 ·obtain ⟨t1, t2, q1, q2, q3, q4, q5⟩ := swapD hF c1 c2 ha k1 k2 g1 g2
  exact ⟨t1, t2, stepG_of q4 q1, stepG_of q5 q2, q3⟩
theorem frontG (hF : FootOk C) {i : Nat} : ∀ (l1 l2 : List Nat) {s r : Env × Heap}, (∀ p ∈ l1, indepG C.inl ops F n0 p i) → runG P C nt ops F n0 (l1 ++ i :: l2) s = some r →
  ∃ s1 r', stepG P C nt ops F n0 i s = some s1 ∧ runG P C nt ops F n0 (l1 ++ l2) s1 = some r' ∧ EqS r r'
 | [], l2, s, r, _, h => by
  simp only [List.nil_append, runG] at h ⊢
  split at h
  ·rename_i x hx
   exact ⟨x, r, hx, h, fun _ => rfl, rfl⟩
  ·cases h
 | p :: l1, l2, s, r, hi, h => by
  simp only [List.cons_append, runG] at h
  split at h
  ·rename_i x hx
   obtain ⟨s1, r1, h1, h2, h3⟩ := frontG hF l1 l2 (fun q hq => hi q (by simp [hq])) h
   obtain ⟨t1, t2, g1, g2, g3⟩ := swapG hF (hi p (by simp)) hx h1
   obtain ⟨r2, k1, k2⟩ := runG_eq _ g3 h2
   refine ⟨t1, r2, g1, ?_, fun t => (h3.1 t).trans (k2.1 t), h3.2.trans k2.2⟩
   simp only [List.cons_append, runG, g2]
   exact k1
  ·cases h
end
def raceFreeP (inl : FuncId → Bool) (pairs : List (Nat × Nat)) (ops : Array Oper) : Bool :=
 let B := befs ops.toList []
 (ops.toList.zipIdx.all fun (o, i) => o.after.all fun e => !Region.binds .any e || decide (e.on < i)) &&
 (List.range ops.size).all fun j => (List.range j).all fun i => indep inl ops (ops.getD i default) (ops.getD j default) || (pairs.contains (i, j) && !clash ops (ops.getD i default) (ops.getD j default) && !clash ops (ops.getD j default) (ops.getD i default)) || (B.getD j 0).testBit i
section
variable {nt : Fr} {base : Nat} {w0 : World} {P : Program} {C : Orc} {ops : Array Oper}
theorem any_wpD {F : Nat → Foot} {n0 : Nat} {pairs : List (Nat × Nat)} (hC : OrcOk P C) (hrf : raceFreeP C.inl pairs ops = true) (hap : ∀ q ∈ pairs, apart n0 (F q.1) (F q.2) = true) (Q : Exit → Act → World → Prop) {ρn : Env} {Hn : Heap}
  (hQ : ∀ β fz ρ a w, EqE ρn ρ → Sim nt base w0 β fz ρ Hn a w → Q .normal a w) :
  ∀ (fuel : Nat) (listed : Array Bool) (ρ : Env) (H : Heap) (β : Nat → Nat) (fz : Nat → Prop) (a : Act) (w : World) (r : Env × Heap), listed.size = ops.size → (rest ops listed).length = fuel →
   (∀ i o, ops[i]? = some o → listed.getD i false = true → ∀ e ∈ o.after.toList, Region.binds .any e = true → listed.getD e.on false = true) →
   runG P C nt.nt ops F n0 (rest ops listed) (ρ, H) = some r → EqS (ρn, Hn) r → Sim nt base w0 β fz ρ H a w → wpAny P .any ops Q fuel listed a w := by
 have hrf' := hrf
 simp only [raceFreeP, Bool.and_eq_true, List.all_eq_true] at hrf'
 obtain ⟨hlt, hpair⟩ := hrf'
 have edge_lt : ∀ i o, ops[i]? = some o → ∀ e ∈ o.after.toList, Region.binds .any e = true → e.on < i := by
  intro i o ho e he hb
  have h1 := hlt (o, i) (by
   rw [List.mem_zipIdx_iff_getElem?]
   simpa using ho)
  simp only [Array.all_eq_true', Bool.or_eq_true, Bool.not_eq_true', decide_eq_true_eq] at h1
  rcases h1 e (Array.mem_toList_iff.1 he) with h | h
  ·rw [hb] at h; cases h
  ·exact h
 intro fuel
 induction fuel with
 | zero =>
  intro listed ρ H β fz a w r hsz hlen hcl hrun hr hs
  have hnil : rest ops listed = [] := List.length_eq_zero_iff.1 hlen
  rw [hnil] at hrun
  simp only [runG, Option.some.injEq] at hrun
  subst hrun
  simp only [wpAny]
  refine ⟨?_, ?_⟩
  ·unfold Region.ready
   rw [List.filter_eq_nil_iff]
   intro i hi
   have : i ∉ rest ops listed := by rw [hnil]; simp
   unfold rest at this
   rw [List.mem_filter] at this
   simp only [hi, true_and, Bool.not_eq_true', Bool.not_eq_false] at this
   simp [this]
  ·obtain ⟨h1, h2⟩ := hr
   simp only at h1 h2
   subst h2
   exact hQ β fz ρ a w h1 hs
 | succ fuel ih =>
  intro listed ρ H β fz a w r hsz hlen hcl hrun hr hs
  simp only [wpAny]
  refine ⟨?_, ?_⟩
  ·-- there is one that is ready: the first
   intro hready
   exfalso
   cases hrest : rest ops listed with
   | nil => rw [hrest] at hlen; simp at hlen
   | cons i l =>
    have him : i ∈ rest ops listed := by rw [hrest]; simp
    unfold rest at him
    rw [List.mem_filter] at him
    obtain ⟨hi1, hi2⟩ := him
    have hi1' : i < ops.size := by simpa using hi1
    have : i ∈ Region.ready .any ops listed := by
     unfold Region.ready
     rw [List.mem_filter]
     refine ⟨hi1, ?_⟩
     rw [hi2]
     have ho : ops[i]? = some ops[i] := Array.getElem?_eq_getElem hi1'
     simp only [ho, Option.map_some, Option.getD_some, Bool.true_and]
     rw [Array.all_eq_true']
     intro e he
     by_cases hb : Region.binds .any e = true
     ·have hon := edge_lt i _ ho e (Array.mem_toList_iff.2 he) hb
      -- smaller ones are listed
      have hl : listed.getD e.on false = true := by
       rw [← getD_listed hsz (by omega)]
       cases hh : listed.getD e.on true with
       | true => rfl
       | false =>
        exfalso
        have hm : e.on ∈ rest ops listed := by
         unfold rest
         rw [List.mem_filter]
         exact ⟨by simp; omega, by simp [hh]⟩
        have hsorted : (rest ops listed).Pairwise (· < ·) := List.Pairwise.filter _ List.pairwise_lt_range
        rw [hrest] at hm hsorted
        rcases List.mem_cons.1 hm with hm | hm
        ·omega
        ·have := (List.pairwise_cons.1 hsorted).1 _ hm
         omega
      simp [hl]
     ·simp [hb]
    rw [hready] at this
    simp at this
  ·intro i hi
   unfold Region.ready at hi
   rw [List.mem_filter] at hi
   obtain ⟨hi1, hi2⟩ := hi
   have hi1' : i < ops.size := by simpa using hi1
   have ho : ops[i]? = some ops[i] := Array.getElem?_eq_getElem hi1'
   simp only [Bool.and_eq_true, ho, Option.map_some, Option.getD_some, Array.all_eq_true', Bool.or_eq_true, Bool.not_eq_true'] at hi2
   obtain ⟨hul, hed⟩ := hi2
   have him : i ∈ rest ops listed := by
    unfold rest
    rw [List.mem_filter]
    exact ⟨hi1, by simp [hul]⟩
   obtain ⟨l1, l2, hsplit⟩ := List.append_of_mem him
   -- all that comes before it by edges is listed
   have hbefore : ∀ (j : Nat) k, j < ops.size → (∀ e ∈ (ops.getD j default).after.toList, Region.binds .any e = true → listed.getD e.on false = true) → ((befs ops.toList []).getD j 0).testBit k = true → listed.getD k false = true := by
    intro j
    induction j using Nat.strongRecOn with
    | _ j ihj =>
     intro k hj hall hbit
     have hoj : ops.toList[j]? = some ops[j] := by simp [hj]
     have hoj' : ops.getD j default = ops[j] := by simp [Array.getD, hj]
     obtain ⟨e, he, hb, hk⟩ := bef_step hoj hbit
     have hle := hall e (by rw [hoj']; exact he) hb
     rcases hk with hk | hk
     ·rw [← hk]; exact hle
     ·have hon := edge_lt j ops[j] (by simp [hj]) e he hb
      refine ihj e.on hon k (by omega) ?_ hk
      have h1 : e.on < ops.size := by omega
      have : ops.getD e.on default = ops[e.on] := by simp [Array.getD, h1]
      rw [this]
      exact hcl e.on ops[e.on] (Array.getElem?_eq_getElem h1) hle
   have hgi : ops.getD i default = ops[i] := by simp [Array.getD, hi1']
   have hall : ∀ e ∈ (ops.getD i default).after.toList, Region.binds .any e = true → listed.getD e.on false = true := by
    intro e he hb
    rw [hgi] at he
    rcases hed e (Array.mem_toList_iff.1 he) with h | h
    ·rw [hb] at h; cases h
    ·exact h
   have hind : ∀ p ∈ l1, indepG C.inl ops F n0 p i := by
    intro k hk
    have hsorted : (rest ops listed).Pairwise (· < ·) := List.Pairwise.filter _ List.pairwise_lt_range
    rw [hsplit] at hsorted
    have hki : k < i := (List.pairwise_append.1 hsorted).2.2 k hk i (by simp)
    have := hpair i (by simp [hi1']) k (by simp [hki])
    simp only [Bool.or_eq_true] at this
    rcases this with (h | h) | h
    ·exact .inl h
    ·simp only [Bool.and_eq_true, Bool.not_eq_true', List.contains_iff_mem] at h
     exact .inr ⟨h.1.2, h.2, hap _ h.1.1⟩
    ·exfalso
     have hkl := hbefore i k hi1' hall h
     have hkm : k ∈ rest ops listed := by rw [hsplit]; simp [hk]
     unfold rest at hkm
     rw [List.mem_filter] at hkm
     have h1 : k < ops.size := by omega
     rw [← getD_listed hsz h1] at hkl
     rw [hkl] at hkm
     simp at hkm
   rw [hsplit] at hrun
   obtain ⟨s1, r', h1, h2, h3⟩ := frontG hC.footOk _ _ hind hrun
   have h1 := (stepG_some h1).2
   refine step1_wp (nt := nt) (base := base) (w0 := w0) hC (o := ops.getD i default) (by rw [hgi]; exact ho) hs h1 ?_
   intro a' w' β' fz' hs'
   have hrest' := rest_set hsz hi1' l1 l2 hsplit
   refine ih (listed.setIfInBounds i true) s1.1 s1.2 β' fz' a' w' r' (by simp [hsz]) ?_ ?_ ?_ ⟨fun t => (hr.1 t).trans (h3.1 t), hr.2.trans h3.2⟩ hs'
   ·rw [hrest']
    rw [hsplit] at hlen
    simp at hlen ⊢
    omega
   ·intro k o hk hkl e he hb
    have hgd : ∀ m, (listed.setIfInBounds i true).getD m false = true ↔ m = i ∨ listed.getD m false = true := by
     intro m
     by_cases hm : m = i
     ·subst hm
      simp [Array.getD_eq_getD_getElem?, hsz, hi1']
     ·rw [Array.getD_eq_getD_getElem?, Array.getElem?_setIfInBounds_ne (by omega), ← Array.getD_eq_getD_getElem?]
      simp [hm]
    rw [hgd] at hkl ⊢
    right
    rcases hkl with rfl | hkl
    ·rw [ho] at hk
     simp only [Option.some.injEq] at hk
     subst hk
     exact hall e (by rw [hgi]; exact he) hb
    ·exact hcl k o hk hkl e he hb
   ·rw [hrest']
    exact h2
def runF (P : Program) (C : Orc) (nt : Nat) (ops : Array Oper) (idx : List Nat) (n0 : Nat) : Nat → List Oper → Env × Heap → Option ((Env × Heap) × List Foot)
 | _, [], s => some (s, [])
 | k, o :: l, s =>
  if idx.contains k && !decide (n0 ≤ s.2.length) then none else
  match step1 P C nt ops o s with
  | some s' => match runF P C nt ops idx n0 (k + 1) l s' with
   | some (r, fs) => some (r, (if idx.contains k then foot C (ev s.1) o else .other) :: fs)
   | none => none
  | none => none
theorem runF_G {nt : Nat} {idx : List Nat} {n0 : Nat} : ∀ (l : List Oper) (k : Nat) (s r : Env × Heap) (fs all : List Foot), (∀ j, l[j]? = ops[k + j]?) → runF P C nt ops idx n0 k l s = some (r, fs) → (∀ j, fs[j]? = all[k + j]?) →
  runG P C nt ops (fun i => (all[i]?).getD .other) n0 (List.range' k l.length) s = some r
 | [], k, s, r, fs, all, _, h, _ => by
  simp only [runF, Option.some.injEq, Prod.mk.injEq] at h
  simp [runG, h.1]
 | o :: l, k, s, r, fs, all, hl, h, hall => by
  simp only [runF] at h
  split at h
  ·cases h
  ·rename_i hlen
   split at h
   ·rename_i s' hs'
    split at h
    ·rename_i r' fs' hr'
     simp only [Option.some.injEq, Prod.mk.injEq] at h
     obtain ⟨rfl, rfl⟩ := h
     have ho : ops[k]? = some o := by simpa using (hl 0).symm
     have hk : ops.getD k default = o := by
      have h1 : k < ops.size := (Array.getElem?_eq_some_iff.1 ho).1
      simp [Array.getD, h1]
      simpa [h1] using ho
     have hf := hall 0
     simp only [List.getElem?_cons_zero, Nat.add_zero] at hf
     simp only [List.length_cons, List.range'_succ, runG]
     have hst : stepG P C nt ops (fun i => (all[i]?).getD .other) n0 k s = some s' := by
      refine stepG_of ?_ (by rw [hk]; exact hs')
      rw [okF_iff, hk, ← hf]
      simp only [Option.getD_some]
      by_cases hc : idx.contains k = true
      ·right
       simp only [hc, if_true, true_and]
       simp only [hc, Bool.true_and, Bool.not_eq_true', decide_eq_false_iff_not, Nat.not_le, Nat.not_lt] at hlen
       omega
      ·left
       rw [if_neg hc]
     rw [hst]
     exact runF_G l (k + 1) s' r' fs' all (fun j => by have := hl (j + 1); simpa [Nat.add_assoc, Nat.add_comm 1 j] using this) hr' (fun j => by have := hall (j + 1); simpa [Nat.add_assoc, Nat.add_comm 1 j] using this)
    ·cases h
   ·cases h
theorem region_wpD (hC : OrcOk P C) (hm : P.follows .mixedOrders = true) {id : Nat} {draw : Bool} {pairs : List (Nat × Nat)} {idx : List Nat} (hrf : draw = true → raceFreeP C.inl pairs ops = true) (Q : Exit → Act → World → Prop) {ρ ρn : Env} {H Hn : Heap} {β : Nat → Nat} {fz : Nat → Prop} {a : Act} {w : World} {fs : List Foot}
  (hs : Sim nt base w0 β fz ρ H a w) (hrun : runF P C nt.nt ops idx H.length 0 ops.toList (ρ, H) = some ((ρn, Hn), fs)) (hap : ∀ q ∈ pairs, apart H.length ((fs[q.1]?).getD .other) ((fs[q.2]?).getD .other) = true)
  (hQ : ∀ β fz a w, Sim nt base w0 β fz ρn Hn a w → Q .normal a w) : (Code.region id ops draw).wp P Q a w := by
 have hG := runF_G (P := P) (C := C) (ops := ops) ops.toList 0 (ρ, H) (ρn, Hn) fs fs (by simp) hrun (by simp)
 cases draw with
 | false =>
  apply wp_region
  have hL : ∀ (l : List Oper) (k : Nat) (s : Env × Heap) (r : (Env × Heap) × List Foot), runF P C nt.nt ops idx H.length k l s = some r → runL P C nt.nt ops l s = some r.1 := by
   intro l
   induction l with
   | nil => intro k s r h; simp only [runF, Option.some.injEq] at h; subst h; rfl
   | cons o l ih =>
    intro k s r h
    simp only [runF] at h
    split at h
    ·cases h
    ·split at h
     ·rename_i s' hs'
      split at h
      ·rename_i r' fs' hr'
       simp only [Option.some.injEq] at h
       subst h
       simp only [runL, hs']
       exact ih _ _ _ hr'
      ·cases h
     ·cases h
  have := seq_wp hC Q hQ ops.toList 0 ρ H β fz a w (by simp) (hL _ _ _ _ hrun) hs
  rw [List.range_eq_range']
  simpa using this
 | true =>
  apply wp_region_any hm
  have hrest : rest ops (Array.replicate ops.size false) = List.range ops.size := by
   unfold rest
   rw [List.filter_eq_self]
   intro i hi
   have : i < ops.size := by simpa using hi
   simp [Array.getD_eq_getD_getElem?, this]
  refine any_wpD (F := fun i => (fs[i]?).getD .other) (n0 := H.length) hC (hrf rfl) hap Q (ρn := ρn) (Hn := Hn) (fun β fz ρ a w he hs => hQ β fz a w ⟨hs.heap, hs.defers, hs.size, hs.ext, fun t => by rw [he t]; exact hs.env t⟩) ops.size _ ρ H β fz a _ (ρn, Hn) (by simp) (by rw [hrest]; simp) ?_ ?_ ⟨fun _ => rfl, rfl⟩ hs.drew
  ·intro i o ho hl
   have : i < ops.size := (Array.getElem?_eq_some_iff.1 ho).1
   simp [Array.getD_eq_getD_getElem?, this] at hl
  ·rw [hrest, List.range_eq_range']
   simpa using hG
/-! Two orders: two operations that both make new objects -/
def restT (τ : List Nat) (listed : Array Bool) : List Nat := τ.filter fun i => !listed.getD i true
theorem restT_eq {τ : List Nat} {n : Nat} {listed : Array Bool} {i : Nat} (hs : listed.size = n) (hi : i < n) : restT τ (listed.setIfInBounds i true) = (restT τ listed).filter (· ≠ i) := by
 unfold restT
 rw [List.filter_filter]
 apply List.filter_congr
 intro k hk
 by_cases hki : k = i
 ·subst hki
  simp [Array.getD_eq_getD_getElem?, hs, hi]
 ·have : (listed.setIfInBounds i true).getD k true = listed.getD k true := by
   rw [Array.getD_eq_getD_getElem?, Array.getD_eq_getD_getElem?, Array.getElem?_setIfInBounds_ne (by omega)]
  simp [this, hki]
theorem restT_set {τ : List Nat} {n : Nat} {listed : Array Bool} {i : Nat} (hnd0 : τ.Nodup) (hs : listed.size = n) (hi : i < n) (l1 l2 : List Nat) (h : restT τ listed = l1 ++ i :: l2) : restT τ (listed.setIfInBounds i true) = l1 ++ l2 := by
 have hnd : (restT τ listed).Nodup := hnd0.sublist List.filter_sublist
 rw [restT_eq hs hi, h]
 rw [h] at hnd
 have h1 : i ∉ l1 := fun hm => by
  have := (List.nodup_append.1 hnd).2.2 i hm i (by simp)
  exact this rfl
 have h2 : i ∉ l2 := (List.nodup_cons.1 (List.nodup_append.1 hnd).2.1).1
 rw [List.filter_append, List.filter_cons]
 simp only [ne_eq, not_true_eq_false, decide_false, Bool.false_eq_true, if_false]
 rw [List.filter_eq_self.2 (fun a ha => by simp; exact fun e => h1 (e ▸ ha)), List.filter_eq_self.2 (fun a ha => by simp; exact fun e => h2 (e ▸ ha))]
def EdgesLt (ops : Array Oper) : Prop := ∀ i o, ops[i]? = some o → ∀ e ∈ o.after.toList, Region.binds .any e = true → e.on < i
def Closed (ops : Array Oper) (listed : Array Bool) : Prop := ∀ i o, ops[i]? = some o → listed.getD i false = true → ∀ e ∈ o.after.toList, Region.binds .any e = true → listed.getD e.on false = true
theorem bef_listed (hE : EdgesLt ops) {listed : Array Bool} (hcl : Closed ops listed) : ∀ (j : Nat) k, j < ops.size → (∀ e ∈ (ops.getD j default).after.toList, Region.binds .any e = true → listed.getD e.on false = true) → ((befs ops.toList []).getD j 0).testBit k = true → listed.getD k false = true := by
 intro j
 induction j using Nat.strongRecOn with
 | _ j ihj =>
  intro k hj hall hbit
  have hoj : ops.toList[j]? = some ops[j] := by simp [hj]
  have hoj' : ops.getD j default = ops[j] := by simp [Array.getD, hj]
  obtain ⟨e, he, hb, hk⟩ := bef_step hoj hbit
  have hle := hall e (by rw [hoj']; exact he) hb
  rcases hk with hk | hk
  ·rw [← hk]; exact hle
  ·have hon := hE j ops[j] (by simp [hj]) e he hb
   refine ihj e.on hon k (by omega) ?_ hk
   have h1 : e.on < ops.size := by omega
   have : ops.getD e.on default = ops[e.on] := by simp [Array.getD, h1]
   rw [this]
   exact hcl e.on ops[e.on] (Array.getElem?_eq_getElem h1) hle
theorem ready_first (hE : EdgesLt ops) {listed : Array Bool} (hsz : listed.size = ops.size) (hne : rest ops listed ≠ []) : Region.ready .any ops listed ≠ [] := by
 intro hready
 cases hrest : rest ops listed with
 | nil => exact hne hrest
 | cons i l =>
  have him : i ∈ rest ops listed := by rw [hrest]; simp
  unfold rest at him
  rw [List.mem_filter] at him
  obtain ⟨hi1, hi2⟩ := him
  have hi1' : i < ops.size := by simpa using hi1
  have : i ∈ Region.ready .any ops listed := by
   unfold Region.ready
   rw [List.mem_filter]
   refine ⟨hi1, ?_⟩
   rw [hi2]
   have ho : ops[i]? = some ops[i] := Array.getElem?_eq_getElem hi1'
   simp only [ho, Option.map_some, Option.getD_some, Bool.true_and]
   rw [Array.all_eq_true']
   intro e he
   by_cases hb : Region.binds .any e = true
   ·have hon := hE i _ ho e (Array.mem_toList_iff.2 he) hb
    have hl : listed.getD e.on false = true := by
     rw [← getD_listed hsz (by omega)]
     cases hh : listed.getD e.on true with
     | true => rfl
     | false =>
      exfalso
      have hm : e.on ∈ rest ops listed := by
       unfold rest
       rw [List.mem_filter]
       exact ⟨by simp; omega, by simp [hh]⟩
      have hsorted : (rest ops listed).Pairwise (· < ·) := List.Pairwise.filter _ List.pairwise_lt_range
      rw [hrest] at hm hsorted
      rcases List.mem_cons.1 hm with hm | hm
      ·omega
      ·have := (List.pairwise_cons.1 hsorted).1 _ hm
       omega
    simp [hl]
   ·simp [hb]
  rw [hready] at this
  simp at this
def FineP (C : Orc) (ops : Array Oper) (F : Nat → Foot) (n0 k i : Nat) : Prop := indepG C.inl ops F n0 k i ∨ ((befs ops.toList []).getD i 0).testBit k = true
def IsPerm (ops : Array Oper) (τ : List Nat) : Prop := τ.Nodup ∧ ∀ i, i ∈ τ ↔ i < ops.size
theorem closed_set {listed : Array Bool} (hsz : listed.size = ops.size) (hcl : Closed ops listed) {i : Nat} (hi : i < ops.size) (hall : ∀ e ∈ (ops.getD i default).after.toList, Region.binds .any e = true → listed.getD e.on false = true) : Closed ops (listed.setIfInBounds i true) := by
 have hgi : ops.getD i default = ops[i] := by simp [Array.getD, hi]
 have ho : ops[i]? = some ops[i] := Array.getElem?_eq_getElem hi
 intro k o hk hkl e he hb
 have hgd : ∀ m, (listed.setIfInBounds i true).getD m false = true ↔ m = i ∨ listed.getD m false = true := by
  intro m
  by_cases hm : m = i
  ·subst hm
   simp [Array.getD_eq_getD_getElem?, hsz, hi]
  ·rw [Array.getD_eq_getD_getElem?, Array.getElem?_setIfInBounds_ne (by omega), ← Array.getD_eq_getD_getElem?]
   simp [hm]
 rw [hgd] at hkl ⊢
 right
 rcases hkl with rfl | hkl
 ·rw [ho] at hk
  simp only [Option.some.injEq] at hk
  subst hk
  exact hall e (by rw [hgi]; exact he) hb
 ·exact hcl k o hk hkl e he hb
theorem pick_front (hC : OrcOk P C) (hE : EdgesLt ops) {listed : Array Bool} (hsz : listed.size = ops.size) (hcl : Closed ops listed) {τ : List Nat} (hτ : IsPerm ops τ) {F : Nat → Foot} {n0 : Nat} {i : Nat} (hi : i ∈ Region.ready .any ops listed)
  {s r : Env × Heap} {m : Nat} (hrun : runG P C m ops F n0 (restT τ listed) s = some r) (hf : ∀ l1 l2, restT τ listed = l1 ++ i :: l2 → ∀ k ∈ l1, FineP C ops F n0 k i) :
  i < ops.size ∧ (∀ e ∈ (ops.getD i default).after.toList, Region.binds .any e = true → listed.getD e.on false = true) ∧ ∃ s1 r', step1 P C m ops (ops.getD i default) s = some s1 ∧ runG P C m ops F n0 (restT τ (listed.setIfInBounds i true)) s1 = some r' ∧ EqS r r' ∧ (restT τ (listed.setIfInBounds i true)).length + 1 = (restT τ listed).length := by
 unfold Region.ready at hi
 rw [List.mem_filter] at hi
 obtain ⟨hi1, hi2⟩ := hi
 have hi1' : i < ops.size := by simpa using hi1
 have ho : ops[i]? = some ops[i] := Array.getElem?_eq_getElem hi1'
 simp only [Bool.and_eq_true, ho, Option.map_some, Option.getD_some, Array.all_eq_true', Bool.or_eq_true, Bool.not_eq_true'] at hi2
 obtain ⟨hul, hed⟩ := hi2
 have hgi : ops.getD i default = ops[i] := by simp [Array.getD, hi1']
 have hall : ∀ e ∈ (ops.getD i default).after.toList, Region.binds .any e = true → listed.getD e.on false = true := by
  intro e he hb
  rw [hgi] at he
  rcases hed e (Array.mem_toList_iff.1 he) with h | h
  ·rw [hb] at h; cases h
  ·exact h
 have him : i ∈ restT τ listed := by
  unfold restT
  rw [List.mem_filter]
  exact ⟨(hτ.2 i).2 hi1', by simp [hul]⟩
 obtain ⟨l1, l2, hsplit⟩ := List.append_of_mem him
 have hind : ∀ p ∈ l1, indepG C.inl ops F n0 p i := by
  intro k hk
  rcases hf l1 l2 hsplit k hk with h | h
  ·exact h
  ·exfalso
   have hkl := bef_listed hE hcl i k hi1' hall h
   have hkm : k ∈ restT τ listed := by rw [hsplit]; simp [hk]
   unfold restT at hkm
   rw [List.mem_filter] at hkm
   have h1 : k < ops.size := (hτ.2 k).1 hkm.1
   rw [← getD_listed hsz h1] at hkl
   rw [hkl] at hkm
   simp at hkm
 rw [hsplit] at hrun
 obtain ⟨s1, r', h1, h2, h3⟩ := frontG hC.footOk _ _ hind hrun
 have hrest' := restT_set hτ.1 hsz hi1' l1 l2 hsplit
 refine ⟨hi1', hall, s1, r', (stepG_some h1).2, by rw [hrest']; exact h2, h3, ?_⟩
 rw [hrest', hsplit]
 simp; omega
theorem restT_len {τ : List Nat} (hτ : IsPerm ops τ) (listed : Array Bool) : (restT τ listed).length = (rest ops listed).length := by
 unfold restT rest
 rw [← List.countP_eq_length_filter, ← List.countP_eq_length_filter]
 have hp : τ.Perm (List.range ops.size) := by
  rw [List.perm_iff_count]
  intro a
  rw [hτ.1.count, (List.nodup_range (n := ops.size)).count]
  simp [hτ.2 a]
 exact hp.countP_eq _
theorem any_end {listed : Array Bool} (hnil : rest ops listed = []) : Region.ready .any ops listed = [] := by
 unfold Region.ready
 rw [List.filter_eq_nil_iff]
 intro i hi
 have : i ∉ rest ops listed := by rw [hnil]; simp
 unfold rest at this
 rw [List.mem_filter] at this
 simp only [hi, true_and, Bool.not_eq_true', Bool.not_eq_false] at this
 simp [this]
theorem any_wpT {F : Nat → Foot} {n0 : Nat} {τ : List Nat} (hC : OrcOk P C) (hE : EdgesLt ops) (hτ : IsPerm ops τ) (Q : Exit → Act → World → Prop) {ρn : Env} {Hn : Heap}
  (hQ : ∀ β fz ρ a w, EqE ρn ρ → Sim nt base w0 β fz ρ Hn a w → Q .normal a w) :
  ∀ (fuel : Nat) (listed : Array Bool) (ρ : Env) (H : Heap) (β : Nat → Nat) (fz : Nat → Prop) (a : Act) (w : World) (r : Env × Heap), listed.size = ops.size → (rest ops listed).length = fuel → Closed ops listed →
   (∀ l1 i l2, restT τ listed = l1 ++ i :: l2 → ∀ k ∈ l1, FineP C ops F n0 k i) →
   runG P C nt.nt ops F n0 (restT τ listed) (ρ, H) = some r → EqS (ρn, Hn) r → Sim nt base w0 β fz ρ H a w → wpAny P .any ops Q fuel listed a w := by
 intro fuel
 induction fuel with
 | zero =>
  intro listed ρ H β fz a w r hsz hlen hcl hf hrun hr hs
  have hnil : rest ops listed = [] := List.length_eq_zero_iff.1 hlen
  have hnilT : restT τ listed = [] := List.length_eq_zero_iff.1 (by rw [restT_len hτ, hlen])
  rw [hnilT] at hrun
  simp only [runG, Option.some.injEq] at hrun
  subst hrun
  simp only [wpAny]
  refine ⟨any_end hnil, ?_⟩
  obtain ⟨h1, h2⟩ := hr
  simp only at h1 h2
  subst h2
  exact hQ β fz ρ a w h1 hs
 | succ fuel ih =>
  intro listed ρ H β fz a w r hsz hlen hcl hf hrun hr hs
  simp only [wpAny]
  refine ⟨fun h => absurd h (ready_first hE hsz (fun h => by rw [h] at hlen; simp at hlen)), ?_⟩
  intro i hi
  obtain ⟨hi1, hall, s1, r', h1, h2, h3, h4⟩ := pick_front hC hE hsz hcl hτ hi hrun (fun l1 l2 h => hf l1 i l2 h)
  have ho : ops[i]? = some (ops.getD i default) := by simp [Array.getD, hi1]
  refine step1_wp (nt := nt) (base := base) (w0 := w0) hC (o := ops.getD i default) ho hs h1 ?_
  intro a' w' β' fz' hs'
  have hsub : (restT τ (listed.setIfInBounds i true)).Sublist (restT τ listed) := by rw [restT_eq hsz hi1]; exact List.filter_sublist
  refine ih (listed.setIfInBounds i true) s1.1 s1.2 β' fz' a' w' r' (by simp [hsz]) ?_ (closed_set hsz hcl hi1 hall) ?_ h2 ⟨fun t => (hr.1 t).trans (h3.1 t), hr.2.trans h3.2⟩ hs'
  ·have e1 := restT_len hτ (listed.setIfInBounds i true)
   have e2 := restT_len hτ listed
   omega
  ·intro l1 j l2 hl k hk
   have hpw : (restT τ listed).Pairwise (fun x y => FineP C ops F n0 x y) := by
    rw [List.pairwise_iff_getElem]
    intro x y hx hy hxy
    have hspl : restT τ listed = (restT τ listed).take y ++ (restT τ listed)[y] :: (restT τ listed).drop (y + 1) := by
     rw [← List.drop_eq_getElem_cons hy, List.take_append_drop]
    refine hf _ _ _ hspl _ ?_
    rw [List.mem_take_iff_getElem]
    exact ⟨x, by omega, rfl⟩
   have := hpw.sublist hsub
   rw [hl] at this
   exact (List.pairwise_append.1 this).2.2 k hk j (by simp)
theorem any_wp2 {F1 F2 : Nat → Foot} {n0 : Nat} {τ1 τ2 : List Nat} {x y : Nat} (hC : OrcOk P C) (hE : EdgesLt ops) (ht1 : IsPerm ops τ1) (ht2 : IsPerm ops τ2) (Q : Exit → Act → World → Prop) {ρ1 ρ2 : Env} {H1 H2 : Heap}
  (hf1 : τ1.Pairwise fun k i => FineP C ops F1 n0 k i ∨ (k = x ∧ i = y)) (hf2 : τ2.Pairwise fun k i => FineP C ops F2 n0 k i ∨ (k = y ∧ i = x)) (hxs : x < ops.size) (hys : y < ops.size)
  (hQ1 : ∀ β fz ρ a w, EqE ρ1 ρ → Sim nt base w0 β fz ρ H1 a w → Q .normal a w) (hQ2 : ∀ β fz ρ a w, EqE ρ2 ρ → Sim nt base w0 β fz ρ H2 a w → Q .normal a w) :
  ∀ (fuel : Nat) (listed : Array Bool) (ρ : Env) (H : Heap) (β : Nat → Nat) (fz : Nat → Prop) (a : Act) (w : World) (r1 r2 : Env × Heap), listed.size = ops.size → (rest ops listed).length = fuel → Closed ops listed →
   listed.getD x true = false → listed.getD y true = false →
   runG P C nt.nt ops F1 n0 (restT τ1 listed) (ρ, H) = some r1 → EqS (ρ1, H1) r1 → runG P C nt.nt ops F2 n0 (restT τ2 listed) (ρ, H) = some r2 → EqS (ρ2, H2) r2 → Sim nt base w0 β fz ρ H a w → wpAny P .any ops Q fuel listed a w := by
 have sub : ∀ (τ : List Nat) (listed : Array Bool), (restT τ listed).Sublist τ := fun τ listed => List.filter_sublist
 have split : ∀ (τ : List Nat) (F : Nat → Foot) (p q : Nat), (τ.Pairwise fun k i => FineP C ops F n0 k i ∨ (k = p ∧ i = q)) → ∀ (listed : Array Bool) l1 i l2, restT τ listed = l1 ++ i :: l2 → ∀ k ∈ l1, FineP C ops F n0 k i ∨ (k = p ∧ i = q) := by
  intro τ F p q hp listed l1 i l2 hl k hk
  have := hp.sublist (sub τ listed)
  rw [hl] at this
  exact (List.pairwise_append.1 this).2.2 k hk i (by simp)
 have gone : ∀ (τ : List Nat) (listed : Array Bool) (i : Nat), i < ops.size → listed.size = ops.size → i ∉ restT τ (listed.setIfInBounds i true) := by
  intro τ listed i hi hsz hm
  unfold restT at hm
  rw [List.mem_filter] at hm
  simp [Array.getD_eq_getD_getElem?, hsz, hi] at hm
 intro fuel
 induction fuel with
 | zero =>
  intro listed ρ H β fz a w r1 r2 hsz hlen hcl hx hy hrun1 hr1 hrun2 hr2 hs
  exfalso
  have hnil : rest ops listed = [] := List.length_eq_zero_iff.1 hlen
  have : x ∈ rest ops listed := by
   unfold rest
   rw [List.mem_filter]
   exact ⟨by simp [hxs], by simp [hx]⟩
  rw [hnil] at this
  simp at this
 | succ fuel ih =>
  intro listed ρ H β fz a w r1 r2 hsz hlen hcl hx hy hrun1 hr1 hrun2 hr2 hs
  simp only [wpAny]
  refine ⟨fun h => absurd h (ready_first hE hsz (fun h => by rw [h] at hlen; simp at hlen)), ?_⟩
  intro i hi
  have L1 : (rest ops listed).length = (restT τ1 listed).length := (restT_len ht1 listed).symm
  have L2 : (rest ops listed).length = (restT τ2 listed).length := (restT_len ht2 listed).symm
  by_cases hiy : i = y
  ·have hixy : i ≠ x ∨ x = y := by
    by_cases h : x = y
    ·exact .inr h
    ·exact .inl (fun h2 => h (h2 ▸ hiy))
   by_cases hxy : x = y
   ·-- the same one: no matter
    obtain ⟨hi1, hall, s1, r', h1, h2, h3, h4⟩ := pick_front hC hE hsz hcl ht1 hi hrun1 (fun l1 l2 h k hk => by
     rcases split τ1 F1 x y hf1 listed l1 i l2 h k hk with q | q
     ·exact q
     ·exfalso
      have hnd := ht1.1.sublist (sub τ1 listed)
      rw [h] at hnd
      exact (List.nodup_append.1 hnd).2.2 k hk i (by simp) (q.1.trans (hxy.trans q.2.symm)))
    have ho : ops[i]? = some (ops.getD i default) := by simp [Array.getD, hi1]
    refine step1_wp (nt := nt) (base := base) (w0 := w0) hC (o := ops.getD i default) ho hs h1 ?_
    intro a' w' β' fz' hs'
    have e1 := restT_len ht1 (listed.setIfInBounds i true)
    refine any_wpT hC hE ht1 Q hQ1 fuel _ s1.1 s1.2 β' fz' a' w' r' (by simp [hsz]) (by omega) (closed_set hsz hcl hi1 hall) ?_ h2 ⟨fun t => (hr1.1 t).trans (h3.1 t), hr1.2.trans h3.2⟩ hs'
    intro l1 j l2 hl k hk
    rcases split τ1 F1 x y hf1 _ l1 j l2 hl k hk with q | q
    ·exact q
    ·exfalso
     have hnd := ht1.1.sublist (sub τ1 (listed.setIfInBounds i true))
     rw [hl] at hnd
     exact (List.nodup_append.1 hnd).2.2 k hk j (by simp) (q.1.trans (hxy.trans q.2.symm))
   ·obtain ⟨hi1, hall, s1, r', h1, h2, h3, h4⟩ := pick_front hC hE hsz hcl ht2 hi hrun2 (fun l1 l2 h k hk => by
     rcases split τ2 F2 y x hf2 listed l1 i l2 h k hk with q | q
     ·exact q
     ·exact absurd (q.2.symm.trans hiy) hxy)
    have ho : ops[i]? = some (ops.getD i default) := by simp [Array.getD, hi1]
    refine step1_wp (nt := nt) (base := base) (w0 := w0) hC (o := ops.getD i default) ho hs h1 ?_
    intro a' w' β' fz' hs'
    have e1 := restT_len ht2 (listed.setIfInBounds i true)
    refine any_wpT hC hE ht2 Q hQ2 fuel _ s1.1 s1.2 β' fz' a' w' r' (by simp [hsz]) (by omega) (closed_set hsz hcl hi1 hall) ?_ h2 ⟨fun t => (hr2.1 t).trans (h3.1 t), hr2.2.trans h3.2⟩ hs'
    intro l1 j l2 hl k hk
    rcases split τ2 F2 y x hf2 _ l1 j l2 hl k hk with q | q
    ·exact q
    ·exfalso
     refine gone τ2 listed i hi1 hsz ?_
     rw [hl, hiy, ← q.1]
     simp [hk]
  ·obtain ⟨hi1, hall, s1, r', h1, h2, h3, h4⟩ := pick_front hC hE hsz hcl ht1 hi hrun1 (fun l1 l2 h k hk => by
    rcases split τ1 F1 x y hf1 listed l1 i l2 h k hk with q | q
    ·exact q
    ·exact absurd q.2 hiy)
   have ho : ops[i]? = some (ops.getD i default) := by simp [Array.getD, hi1]
   refine step1_wp (nt := nt) (base := base) (w0 := w0) hC (o := ops.getD i default) ho hs h1 ?_
   intro a' w' β' fz' hs'
   have e1 := restT_len ht1 (listed.setIfInBounds i true)
   by_cases hix : i = x
   ·refine any_wpT hC hE ht1 Q hQ1 fuel _ s1.1 s1.2 β' fz' a' w' r' (by simp [hsz]) (by omega) (closed_set hsz hcl hi1 hall) ?_ h2 ⟨fun t => (hr1.1 t).trans (h3.1 t), hr1.2.trans h3.2⟩ hs'
    intro l1 j l2 hl k hk
    rcases split τ1 F1 x y hf1 _ l1 j l2 hl k hk with q | q
    ·exact q
    ·exfalso
     refine gone τ1 listed i hi1 hsz ?_
     rw [hl, hix, ← q.1]
     simp [hk]
   ·obtain ⟨_, _, s2, r2', g1, g2, g3, g4⟩ := pick_front hC hE hsz hcl ht2 hi hrun2 (fun l1 l2 h k hk => by
     rcases split τ2 F2 y x hf2 listed l1 i l2 h k hk with q | q
     ·exact q
     ·exact absurd q.2 hix)
    rw [h1] at g1
    simp only [Option.some.injEq] at g1
    subst g1
    have hkeep : ∀ z, z ≠ i → (listed.setIfInBounds i true).getD z true = listed.getD z true := by
     intro z hz
     rw [Array.getD_eq_getD_getElem?, Array.getElem?_setIfInBounds_ne (by omega), ← Array.getD_eq_getD_getElem?]
    refine ih (listed.setIfInBounds i true) s1.1 s1.2 β' fz' a' w' r' r2' (by simp [hsz]) (by omega) (closed_set hsz hcl hi1 hall) ?_ ?_ h2 ⟨fun t => (hr1.1 t).trans (h3.1 t), hr1.2.trans h3.2⟩ g2 ⟨fun t => (hr2.1 t).trans (g3.1 t), hr2.2.trans g3.2⟩ hs'
    ·rw [hkeep x (fun h => hix h.symm)]; exact hx
    ·rw [hkeep y (fun h => hiy h.symm)]; exact hy
def runFT (P : Program) (C : Orc) (nt : Nat) (ops : Array Oper) (idx : List Nat) (n0 : Nat) : List Nat → Env × Heap → Option ((Env × Heap) × List (Nat × Foot))
 | [], s => some (s, [])
 | k :: l, s =>
  if idx.contains k && !decide (n0 ≤ s.2.length) then none else
  match ops.toList[k]? with
  | some o => match step1 P C nt ops o s with
   | some s' => match runFT P C nt ops idx n0 l s' with
    | some (r, fs) => some (r, (k, if idx.contains k then foot C (ev s.1) o else .other) :: fs)
    | none => none
   | none => none
  | none => none
def footAt (fs : List (Nat × Foot)) (i : Nat) : Foot :=
 match fs with
 | [] => .other
 | p :: r => if i = p.1 then p.2 else footAt r i
theorem runFT_G {nt : Nat} {idx : List Nat} {n0 : Nat} : ∀ (l : List Nat) (s r : Env × Heap) (fs all : List (Nat × Foot)), l.Nodup → runFT P C nt ops idx n0 l s = some (r, fs) → (∀ i ∈ l, footAt all i = footAt fs i) →
  runG P C nt ops (footAt all) n0 l s = some r
 | [], s, r, fs, all, _, h, _ => by
  simp only [runFT, Option.some.injEq, Prod.mk.injEq] at h
  simp [runG, h.1]
 | k :: l, s, r, fs, all, hnd, h, hall => by
  simp only [runFT] at h
  split at h
  ·cases h
  ·rename_i hlen
   split at h
   ·rename_i o ho
    split at h
    ·rename_i s' hs'
     split at h
     ·rename_i r' fs' hr'
      simp only [Option.some.injEq, Prod.mk.injEq] at h
      obtain ⟨rfl, rfl⟩ := h
      have hk : ops.getD k default = o := by
       rw [Array.getElem?_toList] at ho
       have h1 : k < ops.size := (Array.getElem?_eq_some_iff.1 ho).1
       simp [Array.getD, h1]
       simpa [h1] using ho
      have hf := hall k (by simp)
      simp only [footAt, if_true] at hf
      have hst : stepG P C nt ops (footAt all) n0 k s = some s' := by
       refine stepG_of ?_ (by rw [hk]; exact hs')
       rw [okF_iff, hk, hf]
       by_cases hc : idx.contains k = true
       ·right
        simp only [hc, if_true, true_and]
        simp only [hc, Bool.true_and, Bool.not_eq_true', decide_eq_false_iff_not, Nat.not_le, Nat.not_lt] at hlen
        omega
       ·left
        rw [if_neg hc]
      simp only [runG, hst]
      refine runFT_G l s' r' fs' all (List.nodup_cons.1 hnd).2 hr' (fun i hi => ?_)
      have := hall i (by simp [hi])
      rw [this]
      have hne : i ≠ k := fun e => (List.nodup_cons.1 hnd).1 (e ▸ hi)
      simp [footAt, hne]
     ·cases h
    ·cases h
   ·cases h
theorem apart_symm {n0 : Nat} {f g : Foot} (h : apart n0 f g = true) : apart n0 g f = true := by
 cases f with
 | other => cases g <;> simp [apart] at h
 | maps => cases g <;> simp [apart] at h ⊢
 | cells => cases g <;> simp [apart] at h ⊢
 | fp A x =>
  cases g with
  | other => simp [apart] at h
  | maps => simp [apart] at h
  | cells => simp [apart] at h
  | fp B y =>
   simp only [apart, Bool.and_eq_true, Bool.or_eq_true, Bool.not_eq_true', List.all_eq_true, Bool.and_eq_false_iff] at h ⊢
   obtain ⟨⟨⟨h1, h2⟩, h3⟩, h4⟩ := h
   refine ⟨⟨⟨fun b hb => ?_, h2.symm⟩, h4⟩, h3⟩
   cases hc : A.contains b with
   | false => rfl
   | true =>
    exfalso
    have := h1 b (by simpa using hc)
    simp [hb] at this
def fineB (inl : FuncId → Bool) (pairs : List (Nat × Nat)) (ops : Array Oper) (B : List Nat) (i j : Nat) : Bool :=
 indep inl ops (ops.getD i default) (ops.getD j default) || ((pairs.contains (i, j) || pairs.contains (j, i)) && !clash ops (ops.getD i default) (ops.getD j default) && !clash ops (ops.getD j default) (ops.getD i default)) || (B.getD j 0).testBit i
def pairsAll (f : Nat → Nat → Bool) : List Nat → Bool
 | [] => true
 | i :: l => l.all (f i) && pairsAll f l
def raceFreeE (inl : FuncId → Bool) (x y : Nat) (pairs : List (Nat × Nat)) (τ : List Nat) (ops : Array Oper) : Bool :=
 let B := befs ops.toList []
 (ops.toList.zipIdx.all fun (o, i) => o.after.all fun e => !Region.binds .any e || decide (e.on < i)) &&
 (τ.all fun i => decide (i < ops.size)) && ((List.range ops.size).all fun i => τ.contains i) && pairsAll (fun i j => i != j) τ && decide (x < ops.size) && decide (y < ops.size) &&
 pairsAll (fun i j => fineB inl pairs ops B i j || (i == x && j == y)) (List.range ops.size) && pairsAll (fun i j => fineB inl pairs ops B i j || (i == y && j == x)) τ
theorem pairsAll_pw {f : Nat → Nat → Bool} : ∀ {l : List Nat}, pairsAll f l = true → l.Pairwise fun i j => f i j = true
 | [], _ => .nil
 | i :: l, h => by
  simp only [pairsAll, Bool.and_eq_true, List.all_eq_true] at h
  exact .cons h.1 (pairsAll_pw h.2)
theorem region_wpE (hC : OrcOk P C) (hm : P.follows .mixedOrders = true) {id x y : Nat} {pairs : List (Nat × Nat)} {idx τ : List Nat} (hrf : raceFreeE C.inl x y pairs τ ops = true) (Q : Exit → Act → World → Prop) {ρ ρ1 ρ2 : Env} {H H1 H2 : Heap} {β : Nat → Nat} {fz : Nat → Prop} {a : Act} {w : World} {f1 f2 : List (Nat × Foot)}
  (hs : Sim nt base w0 β fz ρ H a w) (hrun1 : runFT P C nt.nt ops idx H.length (List.range ops.size) (ρ, H) = some ((ρ1, H1), f1)) (hrun2 : runFT P C nt.nt ops idx H.length τ (ρ, H) = some ((ρ2, H2), f2))
  (hap1 : ∀ q ∈ pairs, apart H.length (footAt f1 q.1) (footAt f1 q.2) = true) (hap2 : ∀ q ∈ pairs, apart H.length (footAt f2 q.1) (footAt f2 q.2) = true)
  (hQ1 : ∀ β fz a w, Sim nt base w0 β fz ρ1 H1 a w → Q .normal a w) (hQ2 : ∀ β fz a w, Sim nt base w0 β fz ρ2 H2 a w → Q .normal a w) : (Code.region id ops true).wp P Q a w := by
 simp only [raceFreeE, Bool.and_eq_true, decide_eq_true_eq] at hrf
 obtain ⟨⟨⟨⟨⟨⟨⟨hlt, hτ1⟩, hτ2⟩, hτ3⟩, hx⟩, hy⟩, hp1⟩, hp2⟩ := hrf
 have hE : EdgesLt ops := by
  intro i o ho e he hb
  have h1 := List.all_eq_true.1 hlt (o, i) (by
   rw [List.mem_zipIdx_iff_getElem?]
   simpa using ho)
  simp only [Array.all_eq_true', Bool.or_eq_true, Bool.not_eq_true', decide_eq_true_eq] at h1
  rcases h1 e (Array.mem_toList_iff.1 he) with h | h
  ·rw [hb] at h; cases h
  ·exact h
 have hnd : τ.Nodup := by
  refine (pairsAll_pw hτ3).imp ?_
  intro i j h
  simpa using h
 have hlt2 : ∀ i ∈ τ, i < ops.size := fun i hi => by simpa using List.all_eq_true.1 hτ1 i hi
 have ht2 : IsPerm ops τ := ⟨hnd, fun i => ⟨hlt2 i, fun hi => by simpa using List.all_eq_true.1 hτ2 i (by simpa using hi)⟩⟩
 have ht1 : IsPerm ops (List.range ops.size) := ⟨List.nodup_range, fun i => by simp⟩
 have fine : ∀ (F : Nat → Foot), (∀ q ∈ pairs, apart H.length (F q.1) (F q.2) = true) → ∀ i j, fineB C.inl pairs ops (befs ops.toList []) i j = true → FineP C ops F H.length i j := by
  intro F hap i j h
  simp only [fineB, Bool.or_eq_true] at h
  rcases h with (h | h) | h
  ·exact .inl (.inl h)
  ·simp only [Bool.and_eq_true, Bool.not_eq_true', Bool.or_eq_true, List.contains_iff_mem] at h
   refine .inl (.inr ⟨h.1.2, h.2, ?_⟩)
   rcases h.1.1 with h | h
   ·exact hap _ h
   ·exact apart_symm (hap _ h)
  ·exact .inr h
 have hf1 : (List.range ops.size).Pairwise fun k i => FineP C ops (footAt f1) H.length k i ∨ (k = x ∧ i = y) := by
  refine (pairsAll_pw hp1).imp ?_
  intro i j h
  simp only [Bool.or_eq_true, Bool.and_eq_true, beq_iff_eq] at h
  rcases h with h | h
  ·exact .inl (fine _ hap1 i j h)
  ·exact .inr h
 have hf2 : τ.Pairwise fun k i => FineP C ops (footAt f2) H.length k i ∨ (k = y ∧ i = x) := by
  refine (pairsAll_pw hp2).imp ?_
  intro i j h
  simp only [Bool.or_eq_true, Bool.and_eq_true, beq_iff_eq] at h
  rcases h with h | h
  ·exact .inl (fine _ hap2 i j h)
  ·exact .inr h
 have hg1 := runFT_G (P := P) (C := C) (ops := ops) _ _ _ f1 f1 ht1.1 hrun1 (fun _ _ => rfl)
 have hg2 := runFT_G (P := P) (C := C) (ops := ops) _ _ _ f2 f2 hnd hrun2 (fun _ _ => rfl)
 apply wp_region_any hm
 have hrest : rest ops (Array.replicate ops.size false) = List.range ops.size := by
  unfold rest
  rw [List.filter_eq_self]
  intro i hi
  have : i < ops.size := by simpa using hi
  simp [Array.getD_eq_getD_getElem?, this]
 have hrT : ∀ τ', (∀ i ∈ τ', i < ops.size) → restT τ' (Array.replicate ops.size false) = τ' := by
  intro τ' h
  unfold restT
  rw [List.filter_eq_self]
  intro i hi
  have := h i hi
  simp [Array.getD_eq_getD_getElem?, this]
 refine any_wp2 (F1 := footAt f1) (F2 := footAt f2) (n0 := H.length) (x := x) (y := y) hC hE ht1 ht2 Q (ρ1 := ρ1) (ρ2 := ρ2) (H1 := H1) (H2 := H2) hf1 hf2 hx hy
  (fun β fz ρ a w he hs => hQ1 β fz a w ⟨hs.heap, hs.defers, hs.size, hs.ext, fun t => by rw [he t]; exact hs.env t⟩)
  (fun β fz ρ a w he hs => hQ2 β fz a w ⟨hs.heap, hs.defers, hs.size, hs.ext, fun t => by rw [he t]; exact hs.env t⟩)
  ops.size _ ρ H β fz a _ (ρ1, H1) (ρ2, H2) (by simp) (by rw [hrest]; simp) ?_ ?_ ?_ ?_ ⟨fun _ => rfl, rfl⟩ ?_ ⟨fun _ => rfl, rfl⟩ hs.drew
 ·intro i o ho hl
  have : i < ops.size := (Array.getElem?_eq_some_iff.1 ho).1
  simp [Array.getD_eq_getD_getElem?, this] at hl
 ·simp [Array.getD_eq_getD_getElem?, hx]
 ·simp [Array.getD_eq_getD_getElem?, hy]
 ·rw [hrT _ (by simp)]; exact hg1
 ·rw [hrT _ hlt2]; exact hg2
end
end Go.AI
