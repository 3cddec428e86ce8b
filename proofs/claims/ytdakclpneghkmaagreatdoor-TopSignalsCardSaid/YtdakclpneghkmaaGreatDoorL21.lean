/- The interpreter that runs on a tree: each operation, looked at once. -/
import Derived.Test.YtdakclpneghkmaaGreatDoorL18
import Derived.Test.YtdakclpneghkmaaGreatDoorL20
import Derived.Test.YtdakclpneghkmaaGreatDoorL19
namespace Go.AI
set_option linter.unusedSimpArgs false
set_option linter.unusedVariables false
set_option maxRecDepth 100000
open Go.RowKit
noncomputable def lkR (ρ : Env) (t : Nat) : AVal := List.rec (motive := fun _ => AVal) .junk (fun p _ ih => Prod.rec (motive := fun _ => AVal) (fun s a => bIf (Nat.beq t s) a ih) p) ρ
theorem lkR_eq : ∀ (ρ : Env) (t : Nat), lkR ρ t = lk ρ t
  | [], t => rfl
  | (s, a) :: r, t => by
    have ih := lkR_eq r t
    show bIf (Nat.beq t s) a (lkR r t) = _
    rw [ih, bIf_eq]
    rfl
/-- what is known where all holds -/
noncomputable def opR (ρ : Env) (x : Operand) : AVal := Operand.rec (motive := fun _ => AVal) (fun t => resQ (lkR ρ t)) (fun v => .v v) (fun _ => .junk) (fun f => .fn f []) x
theorem opR_eq : opR = opd := by
  funext ρ x
  cases x with
  | tmp t => show resQ (lkR ρ t) = _; rw [resQ_eq, lkR_eq]; rfl
  | _ => rfl
structure KV where
  run : XF → XT → Env → TH → Option (AVal × TH)
noncomputable def opv (ρ : Env) (x : Operand) : AVal := Operand.casesOn (motive := fun _ => AVal) x (fun t => lkR ρ t) (fun v => .v v) (fun _ => .junk) (fun f => .fn f [])
theorem opv_eq (ρ : Env) (x : Operand) : opv ρ x = ev ρ x := by
  cases x with
  | tmp t => simp only [opv, ev, lkR_eq, lk_eq]
  | _ => rfl
def mq (x : Option AVal) (T : TH) : Option (AVal × TH) := Option.casesOn (motive := fun _ => Option (AVal × TH)) x none fun a => some (a, T)
theorem mq_sim {x : Option AVal} {T : TH} {H : Heap} (h : TR T H) : SimO (mq x T) (x.map (·, H)) := by
  cases x with
  | none => exact SimO.nil
  | some x => exact SimO.one h x
noncomputable def eqHT (P : Program) (op : BinOp) (t : TypeId) (a b : AVal) (T : TH) : Option AVal :=
  match P.underlying t, op, a, b with
  | some (.pointer e), .eql, .ptr i s x y, .ptr i' s' x' y' =>
    if szOf P e = some 0 ∨ szOf P e = none then none
    else if s = s' ∧ x = x' ∧ y = y' ∧ s ≠ 0 ∧ (getO T i).isSome = true ∧ (getO T i').isSome = true then some (.v (.bool (i == i'))) else none
  | _, _, _, _ => none
theorem getO_is {T : TH} {H : Heap} (h : TR T H) (id : Nat) : (getO T id).isSome = (obj H id).isSome := by
  cases hg : getO T id with
  | none => rw [getO_none h hg]; rfl
  | some o =>
    obtain ⟨_, ⟨sz, rows, _, ho⟩ | ⟨sz, n, tr, _, ho⟩⟩ := getO_some h hg <;> rw [ho] <;> rfl
theorem eqHT_eq {P : Program} {op : BinOp} {t : TypeId} {a b : AVal} {T : TH} {H : Heap} (h : TR T H) : eqHT P op t a b T = aEqH P op t a b H := by
  unfold eqHT aEqH
  simp only [getO_is h]
  rfl
noncomputable def binT (P : Program) (op : BinOp) (t : TypeId) (x y : Operand) (a b : AVal) (T : TH) : Option AVal :=
  match aBin P op t x y a b with
  | some r => some r
  | none => match x, y with
    | .tmp _, .tmp _ => eqHT P op t a b T
    | _, _ => none
theorem binT_eq {P : Program} {op : BinOp} {t : TypeId} {x y : Operand} {a b : AVal} {T : TH} {H : Heap} (h : TR T H) : (binT P op t x y a b T).map (·, H) = binE P op t x y a b H := by
  unfold binT binE
  simp only [eqHT_eq h]
  cases aBin P op t x y a b with
  | some r => rfl
  | none => cases x <;> cases y <;> rfl
def binFT (g : IntKind → Int → Int → AVal) (a b : AVal) (els : Option AVal) : Option AVal :=
  match a with
  | .v (.int k x) => match b with
    | .v (.int k' y) => cond (kq k k') (some (g k x y)) els
    | _ => els
  | _ => els
theorem binFT_eq {g : IntKind → Int → Int → AVal} {a b : AVal} {els : Option AVal} {H : Heap} : (binFT g a b els).map (·, H) = binF g a b (els.map (·, H)) H := by
  cases a with
  | v x => cases x with
    | int k x => cases b with
      | v y => cases y with
        | int k' y =>
          simp only [binFT, binF]
          cases kq k k' <;> rfl
        | _ => rfl
      | _ => rfl
    | _ => rfl
  | _ => rfl
/-- a map's rows -/
noncomputable def mapT (T : TH) (id : Nat) : Option (List Row) :=
  match tgetR T.t id with
  | some (.ls 0 rows) => some rows
  | _ => none
theorem mapT_some {T : TH} {H : Heap} (h : TR T H) {id : Nat} {rows : List Row} (hg : mapT T id = some rows) : H[id]? = some (some (0, rows)) ∧ id < H.length := by
  unfold mapT at hg
  split at hg
  · rename_i r hr
    simp only [Option.some.injEq] at hg
    subst hg
    rw [tgetR_eq] at hr
    refine ⟨?_, h.id_lt hr⟩
    rw [← h.g, hr]; rfl
  · cases hg
noncomputable def lookupT (P : Program) (t : TypeId) (m k : AVal) (ok : Bool) (T : TH) : Option AVal :=
  match P.underlying t with
  | some (.map key elem) => match m, k with
    | .ptr id 0 0 0, .v k => match mapT T id with
      | some rows => if keyOk P key k = true then (match findR P key k rows with
          | some r => lkRes ok (zeroOf P elem) r
          | none => none) else none
      | none => none
    | .v (.map none), .v k => if keyOk P key k = true then lkRes ok (zeroOf P elem) none else none
    | _, _ => none
  | _ => none
theorem lookupT_sim {P : Program} {t : TypeId} {m k : AVal} {ok : Bool} {T : TH} {H : Heap} (h : TR T H) : SimO (mq (lookupT P t m k ok T) T) ((aLookup P t m k ok H).map (·, H)) := by
  intro a T' e
  cases hl : lookupT P t m k ok T with
  | none => rw [hl] at e; cases e
  | some x =>
    rw [hl] at e
    simp only [mq, Option.some.injEq, Prod.mk.injEq] at e
    obtain ⟨rfl, rfl⟩ := e
    refine ⟨H, ?_, h⟩
    have : aLookup P t m k ok H = some x := by
      unfold lookupT at hl
      split at hl
      case h_2 => cases hl
      rename_i key el hu
      split at hl
      · rename_i id k
        split at hl
        case h_2 => cases hl
        rename_i rows hm
        obtain ⟨hg, _⟩ := mapT_some h hm
        split at hl
        case isFalse => cases hl
        rename_i hk
        split at hl
        case h_2 => cases hl
        rename_i r hf
        simp only [aLookup, hu, hg, hk, if_true, hf]
        exact hl
      · simp only [aLookup, hu]; exact hl
      · cases hl
    rw [this]; rfl
noncomputable def mapUpdateT (P : Program) (t : TypeId) (m k x : AVal) (T : TH) : Option (AVal × TH) :=
  match P.underlying t with
  | some (.map key _) => match m, k with
    | .ptr id 0 0 0, .v k => match mapT T id with
      | some rows => if keyOk P key k = true then (match putR P key k x rows with
          | some rows' => some (.v undef, setT T id (.ls 0 rows'))
          | none => none) else none
      | none => none
    | _, _ => none
  | _ => none
theorem mapUpdateT_sim {P : Program} {t : TypeId} {m k x : AVal} {T : TH} {H : Heap} (h : TR T H) : SimO (mapUpdateT P t m k x T) ((aMapUpdate P t m k x H).map (AVal.v undef, ·)) := by
  intro a T' e
  unfold mapUpdateT at e
  split at e
  case h_2 => cases e
  rename_i key el hu
  split at e
  case h_2 => cases e
  rename_i id k
  split at e
  case h_2 => cases e
  rename_i rows hm
  obtain ⟨hg, hlt⟩ := mapT_some h hm
  split at e
  case isFalse => cases e
  rename_i hk
  split at e
  case h_2 => cases e
  rename_i rows' hp
  simp only [Option.some.injEq, Prod.mk.injEq] at e
  obtain ⟨rfl, rfl⟩ := e
  refine ⟨H.set id (some (0, rows')), ?_, h.set hlt (y := .ls 0 rows') trivial⟩
  simp only [aMapUpdate, hu, hg, hk, if_true, hp, Option.map_some]
noncomputable def convT (P : Program) (s d : TypeId) (a : AVal) (T : TH) : Option (AVal × TH) :=
  match a with
  | .v a => mq (asV (pr P (convert s d a))) T
  | a => mq (strTT P s d a T) T
structure CB where
  run : AVal → TH → Option (AVal × TH)
noncomputable def cvF (P : Program) (s d : TypeId) : CB :=
  match P.underlying s, P.underlying d with
  | some _, some (.int k) => ⟨fun a T => match a with
    | .v (.int _ n) => some (.v (.int k (wrapZ k n)), T)
    | a => convT P s d a T⟩
  | _, _ => ⟨fun a T => convT P s d a T⟩
theorem cvF_sim {P : Program} {s d : TypeId} {a : AVal} {T : TH} {H : Heap} (h : TR T H) : SimO ((cvF P s d).run a T) (match a with | .v a => (asV (pr P (convert s d a))).map (·, H) | a => (aStr P s d a H).map (·, H)) := by
  have hcv : SimO (convT P s d a T) (match a with | .v a => (asV (pr P (convert s d a))).map (·, H) | a => (aStr P s d a H).map (·, H)) := by
    unfold convT
    cases a with
    | v x => exact mq_sim h
    | _ => simp only [strTT_eq h]; exact mq_sim h
  unfold cvF
  split
  · rename_i ds k h1 h2
    simp only
    split
    · rename_i kk n
      simp only [ev_conv h1 h2, wrapZ_eq, Option.map_some]
      exact SimO.one h _
    · exact hcv
  · exact hcv
/-- a call of a function that is known -/
noncomputable def callT (P : Program) (T : Tab) (Xt : XT) (g : FuncId) (args : Row) (H : TH) : Option (AVal × TH) :=
  match T.rdf g with
  | true => match callRd P g with
    | true => match Xt g args H with
      | some (a, _) => some (a, H)
      | none => none
    | false => none
  | false => match callOk P g with
    | true => Xt g args H
    | false => none
def SimX (Xt : XT) (X : XF) : Prop := ∀ g args T H, TR T H → SimO (Xt g args T) (X g args H)
theorem callT_sim {P : Program} {T : Tab} {f g : FuncId} {X : XF} {Xt : XT} (hX : SimX Xt X) {args caps : Row} {Th : TH} {H : Heap} {static : Bool} (h : TR Th H) (hs : static = true ∨ T.rdf dynF = false) : SimO (callT P T Xt g (args ++ caps) Th) (aCall P (orcX T X f) static (.fn g caps) args H) := by
  intro a T' e
  unfold callT at e
  unfold aCall
  simp only
  split at e
  · rename_i hr
    have hi : (orcX T X f).inl g = false := by simp [orcX, hr]
    have hR : (orcX T X f).rd g = some (fun args H => (X g args H).map Prod.fst) := by simp [orcX, hr]
    split at e
    · rename_i hc
      unfold callRd at hc
      split at hc
      · rename_i fn hfn
        have hc' : (fn.name == "runtime.NumGoroutine" || fn.body.isNone) = false := by simpa using hc
        simp only [hfn, hi, hR, hc', Bool.false_eq_true, if_false]
        split at e
        · rename_i r1 r2 hx
          simp only [Option.some.injEq, Prod.mk.injEq] at e
          obtain ⟨rfl, rfl⟩ := e
          obtain ⟨H', q1, _⟩ := hX g _ Th H h r1 r2 hx
          exact ⟨H, by simp [q1], h⟩
        · cases e
      · cases hc
    · cases e
  · rename_i hr
    have hi : (orcX T X f).inl g = true := by simp [orcX, hr]
    split at e
    · rename_i hc
      unfold callOk at hc
      split at hc
      · rename_i fn hfn
        have hc' : (fn.name == "runtime.NumGoroutine") = false := by simpa using hc
        have hst : (static || (orcX T X f).inl dynF) = true := by
          rcases hs with rfl | hs
          · rfl
          · simp [orcX, hs]
        simp only [hfn, hi, hc', hst, Bool.not_false, Bool.and_self, if_true]
        exact hX g _ Th H h a T' e
      · cases hc
    · cases e
theorem mq_of {x y : Option AVal} (hxy : ∀ r, x = some r → y = some r) {T : TH} {H : Heap} (h : TR T H) : SimO (mq x T) (y.map (·, H)) := by
  cases hx : x with
  | none => exact SimO.nil
  | some r => rw [hxy r hx]; exact SimO.one h r
noncomputable def loadQ (P : Program) (t : TypeId) (a : AVal) (T : TH) : Option AVal :=
  PQ.rec (motive := fun _ => Option AVal) (aLoad P t a []) (fun id sz i off => match getO T id with
    | some (.ls sz' rows) => Option.rec (motive := fun _ => Option AVal) none (fun row => bIf (Nat.beq sz' sz) ((readR P t).run row off) (loadT P t ⟨readF P t⟩ (.ptr id sz i off) T)) (lgetR rows i)
    | some (.ar sz' n tr) => Option.rec (motive := fun _ => Option AVal) none (fun row => bIf (Nat.beq sz' sz) ((readR P t).run row off) (loadT P t ⟨readF P t⟩ (.ptr id sz i off) T)) (tgetR tr i)
    | _ => none) (ptrQ a)
theorem loadQ_some {P : Program} {t : TypeId} {a v : AVal} {T : TH} {H : Heap} (h : TR T H) (hl : loadQ P t a T = some v) : aLoad P t a H = some v := by
  rw [← loadT_eq h]
  cases a with
  | ptr id sz i off =>
    have hl' : (match getO T id with
      | some (.ls sz' rows) => Option.rec (motive := fun _ => Option AVal) none (fun row => bIf (Nat.beq sz' sz) ((readR P t).run row off) (loadT P t ⟨readF P t⟩ (.ptr id sz i off) T)) (lgetR rows i)
      | some (.ar sz' n tr) => Option.rec (motive := fun _ => Option AVal) none (fun row => bIf (Nat.beq sz' sz) ((readR P t).run row off) (loadT P t ⟨readF P t⟩ (.ptr id sz i off) T)) (tgetR tr i)
      | _ => none) = some v := hl
    have hd : loadT P t ⟨readF P t⟩ (.ptr id sz i off) T = (match getO T id with
      | some (.ls sz' rows) => match lgetR rows i with
        | some row => bIf (Nat.beq sz' sz) (readF P t row off) (if sz' = 1 ∧ sz ≠ 0 ∧ i = 0 then readAt P t rows.flatten off else none)
        | none => none
      | some (.ar sz' n tr) => match tgetR tr i with
        | some row => bIf (Nat.beq sz' sz) (readF P t row off) (if sz' = 1 ∧ sz ≠ 0 ∧ i = 0 then readAt P t (rowsL n tr).flatten off else none)
        | none => none
      | _ => none) := rfl
    cases hg : getO T id with
    | none => rw [hg] at hl'; cases hl'
    | some o => cases o with
      | no => rw [hg] at hl'; cases hl'
      | ls sz' rows =>
        rw [hg] at hl'
        simp only at hl'
        cases hr : lgetR rows i with
        | none => rw [hr] at hl'; cases hl'
        | some row =>
          rw [hr] at hl'
          have hl2 : bIf (Nat.beq sz' sz) ((readR P t).run row off) (loadT P t ⟨readF P t⟩ (.ptr id sz i off) T) = some v := hl'
          rw [bIf_eq] at hl2
          cases hb : Nat.beq sz' sz with
          | false => rw [hb] at hl2; exact hl2
          | true =>
            rw [hb, cond_true] at hl2
            rw [hd, hg]
            simp only [hr, hb, bIf_eq, cond_true, readF_eq]
            exact readR_some hl2
      | ar sz' n tr =>
        rw [hg] at hl'
        simp only at hl'
        cases hr : tgetR tr i with
        | none => rw [hr] at hl'; cases hl'
        | some row =>
          rw [hr] at hl'
          have hl2 : bIf (Nat.beq sz' sz) ((readR P t).run row off) (loadT P t ⟨readF P t⟩ (.ptr id sz i off) T) = some v := hl'
          rw [bIf_eq] at hl2
          cases hb : Nat.beq sz' sz with
          | false => rw [hb] at hl2; exact hl2
          | true =>
            rw [hb, cond_true] at hl2
            rw [hd, hg]
            simp only [hr, hb, bIf_eq, cond_true, readF_eq]
            exact readR_some hl2
  | _ => exact hl
/-- what is stored where an object's row lies -/
noncomputable def storeQ (P : Program) (t : TypeId) (a x : AVal) (T : TH) : Option (AVal × TH) :=
  PQ.rec (motive := fun _ => Option (AVal × TH)) none (fun id sz i off => match getO T id, cellsOf x, szOf P t with
    | some (.ls sz' rows), some cs, some n => Option.rec (motive := fun _ => Option (AVal × TH)) none (fun row => bIf (Nat.beq sz' sz) (bIf (Nat.beq cs.length n) (Option.rec (motive := fun _ => Option (AVal × TH)) none (fun row' => some (.v undef, setT T id (.ls sz (lsetR rows i row')))) (writeR cs off row)) none) ((storeT P t (.ptr id sz i off) x T).map (AVal.v undef, ·))) (lgetR rows i)
    | some (.ar sz' m tr), some cs, some n => Option.rec (motive := fun _ => Option (AVal × TH)) none (fun row => bIf (Nat.beq sz' sz) (bIf (Nat.beq cs.length n) (Option.rec (motive := fun _ => Option (AVal × TH)) none (fun row' => some (.v undef, setT T id (.ar sz m (tsetR tr i row')))) (writeR cs off row)) none) ((storeT P t (.ptr id sz i off) x T).map (AVal.v undef, ·))) (tgetR tr i)
    | _, _, _ => none) (ptrQ a)
theorem storeQ_sim {P : Program} {t : TypeId} {a x : AVal} {T : TH} {H : Heap} (h : TR T H) : SimO (storeQ P t a x T) ((aStore P t a x H).map (AVal.v undef, ·)) := by
  cases a with
  | ptr id sz i off =>
    show SimO (match getO T id, cellsOf x, szOf P t with
      | some (.ls sz' rows), some cs, some n => Option.rec (motive := fun _ => Option (AVal × TH)) none (fun row => bIf (Nat.beq sz' sz) (bIf (Nat.beq cs.length n) (Option.rec (motive := fun _ => Option (AVal × TH)) none (fun row' => some (.v undef, setT T id (.ls sz (lsetR rows i row')))) (writeR cs off row)) none) ((storeT P t (.ptr id sz i off) x T).map (AVal.v undef, ·))) (lgetR rows i)
      | some (.ar sz' m tr), some cs, some n => Option.rec (motive := fun _ => Option (AVal × TH)) none (fun row => bIf (Nat.beq sz' sz) (bIf (Nat.beq cs.length n) (Option.rec (motive := fun _ => Option (AVal × TH)) none (fun row' => some (.v undef, setT T id (.ar sz m (tsetR tr i row')))) (writeR cs off row)) none) ((storeT P t (.ptr id sz i off) x T).map (AVal.v undef, ·))) (tgetR tr i)
      | _, _, _ => none) _
    have slow := storeT_sim (P := P) (t := t) (a := .ptr id sz i off) (x := x) h
    split
    · rename_i sz' rows cs n hg hcs hn
      obtain ⟨hok, ⟨_, _, q, ho⟩ | ⟨_, _, _, q, _⟩⟩ := getO_some h hg
      case inr => cases q
      cases q
      cases hr : lgetR rows i with
      | none => exact SimO.nil
      | some row =>
        show SimO (bIf (Nat.beq sz' sz) _ _) _
        rw [bIf_eq]
        cases hb : Nat.beq sz' sz with
        | false => exact slow
        | true =>
          rw [cond_true, bIf_eq]
          cases hb2 : Nat.beq cs.length n with
          | false => exact SimO.nil
          | true =>
            rw [cond_true]
            cases hw : writeR cs off row with
            | none => exact SimO.nil
            | some row' =>
              obtain ⟨w1, w2⟩ := writeR_some hw
              have e1 := Nat.eq_of_beq_eq_true hb
              have e2 := Nat.eq_of_beq_eq_true hb2
              subst e1 e2
              have hr' : rows[i]? = some row := by rw [← lgetR_eq]; exact hr
              have := SimO.one (h.set (obj_lt ho) (y := .ls sz' (rows.set i row')) trivial) (.v undef)
              have e3 : (aStore P t (.ptr id sz' i off) x H).map (AVal.v undef, ·) = some (.v undef, H.set id (absO (.ls sz' (rows.set i row')))) := by
                simp only [aStore, ho, hr', hcs, hn, w1, and_self, if_true, Option.map_some, w2, absO]
              rw [e3]
              show SimO (some (AVal.v undef, setT T id (.ls sz' (lsetR rows i row')))) _
              rw [lsetR_eq]
              exact this
    · rename_i sz' m tr cs n hg hcs hn
      obtain ⟨hok, ⟨_, _, q, _⟩ | ⟨_, _, _, q, ho⟩⟩ := getO_some h hg
      case inl => cases q
      cases q
      cases hr : tgetR tr i with
      | none => exact SimO.nil
      | some row =>
        show SimO (bIf (Nat.beq sz' sz) _ _) _
        rw [bIf_eq]
        cases hb : Nat.beq sz' sz with
        | false => exact slow
        | true =>
          rw [cond_true, bIf_eq]
          cases hb2 : Nat.beq cs.length n with
          | false => exact SimO.nil
          | true =>
            rw [cond_true]
            cases hw : writeR cs off row with
            | none => exact SimO.nil
            | some row' =>
              obtain ⟨w1, w2⟩ := writeR_some hw
              have e1 := Nat.eq_of_beq_eq_true hb
              have e2 := Nat.eq_of_beq_eq_true hb2
              subst e1 e2
              have hr0 : tget tr i = some row := by rw [← tgetR_eq]; exact hr
              have hi : i < m := (hok i).1 (by rw [hr0]; simp)
              have hr' : (rowsL m tr)[i]? = some row := by rw [rowsL_get hok, hr0]
              have := SimO.one (h.set (obj_lt ho) (y := .ar sz' m (tset tr i row')) (ArOk.set hok hi _)) (.v undef)
              have e3 : (aStore P t (.ptr id sz' i off) x H).map (AVal.v undef, ·) = some (.v undef, H.set id (absO (.ar sz' m (tset tr i row')))) := by
                simp only [aStore, ho, hr', hcs, hn, w1, and_self, if_true, Option.map_some, w2, absO, rowsL_set hok hi]
              rw [e3]
              show SimO (some (AVal.v undef, setT T id (.ar sz' m (tsetR tr i row')))) _
              rw [tsetR_eq]
              exact this
    · exact SimO.nil
  | _ => exact SimO.nil
noncomputable def ixQ (P : Program) (t : TypeId) : IB :=
  match arrayOf P t with
  | some (n, e) => match szOf P e with
    | some sz => ⟨fun a i => PQ.rec (motive := fun _ => Option AVal) ((ixF P t).run a i) (fun id s j off => Option.rec (motive := fun _ => Option AVal) none (fun k => bIf (Nat.beq s 0) none (some (.ptr id s j (Nat.add off (Nat.mul k sz))))) (idxQ i n)) (ptrQ a)⟩
    | none => ixF P t
  | none => match sliceElem P t with
    | some e => match szOf P e with
      | some sz => ⟨fun a i => OQ.rec (motive := fun _ => Option AVal) ((ixF P t).run a i) (fun id sz' s len _ => bIf (Nat.beq sz' sz) (bIf (Nat.beq sz 0) none (Option.rec (motive := fun _ => Option AVal) none (fun k => some (.ptr id sz (Nat.add s k) 0)) (idxQ i len))) none) (oslQ a)⟩
      | none => ixF P t
    | none => ixF P t
theorem ixQ_some {P : Program} {t : TypeId} {a i r : AVal} (h : (ixQ P t).run a i = some r) : aIndexAddr P t a i = some r := by
  unfold ixQ at h
  split at h
  · rename_i n e harr
    split at h
    · rename_i sz hsz
      simp only at h
      cases hp : ptrQ a with
      | no => rw [hp] at h; rw [← ixF_eq]; exact h
      | yes id s j off =>
        rw [hp] at h
        rw [ptrQ_yes hp]
        cases hi : idxQ i n with
        | none => rw [hi] at h; cases h
        | some k =>
          rw [hi] at h
          have h' : bIf (Nat.beq s 0) none (some (AVal.ptr id s j (off + k * sz))) = some r := h
          rw [bIf_eq, beq_dec] at h'
          simp only [aIndexAddr, harr, hsz, idxQ_some hi]
          by_cases h0 : s = 0
          · rw [decide_eq_true h0] at h'; cases h'
          · rw [decide_eq_false h0] at h'
            rw [if_neg h0]; exact h'
    · rw [← ixF_eq]; exact h
  · rename_i harr
    split at h
    · rename_i e he
      split at h
      · rename_i sz hsz
        simp only at h
        cases hp : oslQ a with
        | no => rw [hp] at h; rw [← ixF_eq]; exact h
        | yes id sz' s len kc =>
          rw [hp] at h
          rw [oslQ_yes hp]
          have h' : bIf (Nat.beq sz' sz) (bIf (Nat.beq sz 0) none (Option.rec (motive := fun _ => Option AVal) none (fun k => some (AVal.ptr id sz (s + k) 0)) (idxQ i len))) none = some r := h
          rw [bIf_eq, bIf_eq, beq_dec, beq_dec] at h'
          by_cases h1 : sz' = sz
          · by_cases h0 : sz = 0
            · rw [decide_eq_true h1, decide_eq_true h0] at h'; cases h'
            · rw [decide_eq_true h1, decide_eq_false h0] at h'
              cases hi : idxQ i len with
              | none => rw [hi] at h'; cases h'
              | some k =>
                rw [hi] at h'
                simp only [aIndexAddr, harr, he, hsz, idxQ_some hi, h1, Option.map_some]
                rw [if_pos ⟨trivial, h0⟩]
                exact h'
          · rw [decide_eq_false h1] at h'; cases h'
      · rw [← ixF_eq]; exact h
    · rw [← ixF_eq]; exact h
structure FB where
  run : AVal → Option AVal
noncomputable def faQ (P : Program) (s : TypeId) (f : Nat) : FB :=
  match fieldOf P s f with
  | some (o, n, _) => ⟨fun a => PQ.rec (motive := fun _ => Option AVal) (aFieldAddr P s a f) (fun id sz i off => bIf (Nat.beq n 0) none (bIf (Nat.beq sz 0) none (some (.ptr id sz i (Nat.add off o))))) (ptrQ a)⟩
  | none => ⟨fun _ => none⟩
theorem faQ_some {P : Program} {s : TypeId} {f : Nat} {a r : AVal} (h : (faQ P s f).run a = some r) : aFieldAddr P s a f = some r := by
  unfold faQ at h
  split at h
  · rename_i o n ty hf
    simp only at h
    cases hp : ptrQ a with
    | no => rw [hp] at h; exact h
    | yes id sz i off =>
      rw [hp] at h
      rw [ptrQ_yes hp]
      have h' : bIf (Nat.beq n 0) none (bIf (Nat.beq sz 0) none (some (AVal.ptr id sz i (off + o)))) = some r := h
      rw [bIf_eq, bIf_eq, beq_dec, beq_dec] at h'
      by_cases h1 : n = 0
      · rw [decide_eq_true h1] at h'; cases h'
      · by_cases h0 : sz = 0
        · rw [decide_eq_false h1, decide_eq_true h0] at h'; cases h'
        · rw [decide_eq_false h1, decide_eq_false h0] at h'
          simp only [aFieldAddr, hf, if_neg h1, if_neg h0]
          exact h'
  · cases h
noncomputable def nextT (a : AVal) (T : TH) : Option AVal :=
  match a with
  | .ptr rid 1 0 0 => match mapT T rid with
    | some [[.ptr id 0 0 0, _, _], []] => match mapT T id with
      | some [] => some (.v (.tuple #[.bool false]))
      | _ => none
    | _ => none
  | _ => none
theorem nextT_some {a v : AVal} {T : TH} {H : Heap} (h : TR T H) (hn : nextT a T = some v) : aNext a H = some v := by
  unfold nextT at hn
  split at hn
  · split at hn
    · rename_i id _ _ h1
      split at hn
      · rename_i h2
        obtain ⟨g1, _⟩ := mapT_some h h1
        obtain ⟨g2, _⟩ := mapT_some h h2
        simp only [aNext, g1, g2]
        exact hn
      · cases hn
    · cases hn
  · cases hn
noncomputable def compV (P : Program) (T : Tab) (f : FuncId) (o : Oper) : KV :=
  match o.op with
  | .move x => ⟨fun _ _ ρ H => some (opR ρ x, H)⟩
  | .assign x => ⟨fun _ _ ρ H => some (opR ρ x, H)⟩
  | .pick c a b => ⟨fun _ _ ρ H => mq (aPick true (opR ρ c) (opv ρ a) (opv ρ b)) H⟩
  | .load t x => ⟨fun _ _ ρ H => mq (loadQ P t (opR ρ x) H) H⟩
  | .store t x y => ⟨fun _ _ ρ H => storeQ P t (opR ρ x) (opR ρ y) H⟩
  | .binOp op t x y _ => match gbin op with
    | some g => ⟨fun _ _ ρ H => mq (binQ g (opR ρ x) (opR ρ y) (binT P op t x y (opR ρ x) (opR ρ y) H)) H⟩
    | none => ⟨fun _ _ ρ H => mq (binT P op t x y (opR ρ x) (opR ρ y) H) H⟩
  | .fieldAddr s x i => ⟨fun _ _ ρ H => mq ((faQ P s i).run (opR ρ x)) H⟩
  | .field s x i => ⟨fun _ _ ρ H => mq (aField P s (opR ρ x) i) H⟩
  | .indexAddr t x i => ⟨fun _ _ ρ H => mq ((ixQ P t).run (opR ρ x) (opR ρ i)) H⟩
  | .index t x i => ⟨fun _ _ ρ H => mq (aIndex P t (opR ρ x) (opR ρ i)) H⟩
  | .extract x i => ⟨fun _ _ ρ H => mq (aExtract (opR ρ x) i) H⟩
  | .convert s d x => ⟨fun _ _ ρ H => (cvF P s d).run (opR ρ x) H⟩
  | .alloc t => ⟨fun _ _ _ H => allocT P t H⟩
  | .box _ x => ⟨fun _ _ ρ H => boxT (opR ρ x) H⟩
  | .build t parts => ⟨fun _ _ ρ H => mq (aBuild P t (parts.toList.map fun p => (p.1, opR ρ p.2))) H⟩
  | .buildSlice t len parts => ⟨fun _ _ ρ H => buildSliceT P t len (parts.toList.map fun p => (p.1, opR ρ p.2)) H⟩
  | .makeSlice t l c => ⟨fun _ _ ρ H => makeSliceT P t (opR ρ l) (opR ρ c) H⟩
  | .makeMap _ none => ⟨fun _ _ _ H => some (.ptr H.n 0 0 0, pushT H (.ls 0 []))⟩
  | .lookup t m k ok => ⟨fun _ _ ρ H => mq (lookupT P t (opR ρ m) (opR ρ k) ok H) H⟩
  | .mapUpdate t m k x => ⟨fun _ _ ρ H => mapUpdateT P t (opR ρ m) (opR ρ k) (opR ρ x) H⟩
  | .next x false => ⟨fun _ _ ρ H => mq (nextT (opR ρ x) H) H⟩
  | .range t x => ⟨fun _ _ ρ H => rangeT P t (opR ρ x) H⟩
  | .slice t x lo hi mx => match lo, hi, mx with
    | none, none, none => ⟨fun _ _ ρ H => match aSlice P t (opR ρ x) none none none with
      | some a => some (a, H)
      | none => sliceAT P t (opR ρ x) H⟩
    | lo, hi, mx => ⟨fun _ _ ρ H => mq (aSlice P t (opR ρ x) (lo.map (opR ρ)) (hi.map (opR ρ)) (mx.map (opR ρ))) H⟩
  | .call c => match c.callee with
    | .builtin b => ⟨fun _ _ ρ H => builtinT P b c.argTypes (c.args.toList.map (opR ρ)) H⟩
    | .value (.func g) => ⟨fun _ Xt ρ H => callT P T Xt g (c.args.toList.map (opR ρ) ++ []) H⟩
    | .value x => match T.rdf dynF with
      | true => ⟨fun _ _ _ _ => none⟩
      | false => ⟨fun _ Xt ρ H => match opR ρ x with
        | .fn g caps => callT P T Xt g (c.args.toList.map (opR ρ) ++ caps) H
        | _ => none⟩
    | .invoke r n => ⟨fun _ Xt ρ H => match opR ρ r with
      | .ifc t x => match methodF P t n with
        | some g => callT P T Xt g ((x :: c.args.toList.map (opR ρ)) ++ []) H
        | none => none
      | _ => none⟩
  | _ => match hk (fun g => !T.rdf g) o with
    | 0 => ⟨fun _ _ ρ H => mq ((astepE P (orcX T noX f) (opR ρ) o []).map Prod.fst) H⟩
    | 1 => ⟨fun X _ ρ H => mq ((astep P (orcX T X f) true (ev ρ) o (toL H)).map Prod.fst) H⟩
    | _ => ⟨fun X _ ρ H => slowO (astep P (orcX T X f) true (ev ρ) o) H⟩
theorem astepE_orc {P : Program} {C C' : Orc} {e : AEv} {o : Oper} {H : Heap} (h : ∀ c, o.op ≠ .call c) : astepE P C e o H = astepE P C' e o H := by
  unfold astepE
  cases hop : o.op
  case call c => exact absurd hop (h c)
  case makeMap t r => cases r <;> rfl
  case next x b => cases b <;> rfl
  case makeFunc fn a b => cases fn <;> rfl
  all_goals rfl
theorem compV_sim {P : Program} {T : Tab} {f : FuncId} {o : Oper} {X : XF} {Xt : XT} (hX : SimX Xt X) {ρ : Env} {Th : TH} {H : Heap} (h : TR Th H) : SimO ((compV P T f o).run X Xt ρ Th) (astep P (orcX T X f) true (ev ρ) o H) := by
  have hop : (fun x => res true (ev ρ x)) = opd ρ := by funext x; exact (opd_eq ρ x).symm
  have hop' : ∀ x, res true (ev ρ x) = opd ρ x := fun x => (opd_eq ρ x).symm
  have hdef : (∀ c, o.op ≠ .call c) → (∀ c a b, o.op ≠ .pick c a b) → SimO ((match hk (fun g => !T.rdf g) o with
      | 0 => (⟨fun _ _ ρ H => mq ((astepE P (orcX T noX f) (opd ρ) o []).map Prod.fst) H⟩ : KV)
      | 1 => ⟨fun X _ ρ H => mq ((astep P (orcX T X f) true (ev ρ) o (toL H)).map Prod.fst) H⟩
      | _ => ⟨fun X _ ρ H => slowO (astep P (orcX T X f) true (ev ρ) o) H⟩).run X Xt ρ Th) (astep P (orcX T X f) true (ev ρ) o H) := by
    intro hnc hnp
    split
    · rename_i h0
      intro a T' e
      simp only at e
      cases hx : astepE P (orcX T noX f) (opd ρ) o [] with
      | none => rw [hx] at e; cases e
      | some r =>
        rw [hx] at e
        simp only [Option.map_some, mq, Option.some.injEq, Prod.mk.injEq] at e
        obtain ⟨rfl, rfl⟩ := e
        refine ⟨H, ?_, h⟩
        have h2 : astepE P (orcX T X f) (opd ρ) o [] = some (r.1, r.2) := by rw [astepE_orc hnc (C' := orcX T noX f), hx]
        have h3 := astepE_none (C := orcX T X f) (show hk (orcX T X f).inl o = 0 from h0) h2 H
        unfold astep
        split
        · rename_i c a b hp; exact absurd hp (hnp c a b)
        · rw [hop]; exact h3
    · rename_i h1
      intro a T' e
      simp only [toL_eq h] at e
      cases hx : astep P (orcX T X f) true (ev ρ) o H with
      | none => rw [hx] at e; cases e
      | some r =>
        rw [hx] at e
        simp only [Option.map_some, mq, Option.some.injEq, Prod.mk.injEq] at e
        obtain ⟨rfl, rfl⟩ := e
        have hq : r.2 = H := astep_read (C := orcX T X f) (g := true) (av := r.1) (fun _ => rfl) (show hk (orcX T X f).inl o ≠ 2 from by rw [show hk (orcX T X f).inl o = 1 from h1]; decide) hx
        exact ⟨H, by rw [← hq], h⟩
    · exact slowO_sim h
  unfold compV
  rw [opR_eq]
  cases ho : o.op
  case call c =>
    simp only
    have hA : astep P (orcX T X f) true (ev ρ) o H = match c.callee with
        | .builtin b => aBuiltin P b c.argTypes (c.args.toList.map (opd ρ)) H
        | .value f' => aCall P (orcX T X f) (isStatic f') (opd ρ f') (c.args.toList.map (opd ρ)) H
        | .invoke r name => aInvoke P (orcX T X f) name (opd ρ r) (c.args.toList.map (opd ρ)) H := by
      simp only [astep, astepE, ho, hop, hop']
      rfl
    rw [hA]
    cases hc : c.callee with
    | builtin b => exact builtinT_sim h
    | value x =>
      cases x with
      | func g => exact callT_sim (static := true) hX h (.inl rfl)
      | tmp t =>
        simp only
        split
        · exact SimO.nil
        · rename_i hd
          simp only
          split
          · rename_i g caps hg
            rw [hg]; exact callT_sim hX h (.inr hd)
          · exact SimO.nil
      | const v =>
        simp only
        split
        · exact SimO.nil
        · exact SimO.nil
      | global v =>
        simp only
        split
        · exact SimO.nil
        · exact SimO.nil
    | invoke r n =>
      simp only
      split
      · rename_i t x hr
        rw [hr]
        simp only [aInvoke]
        cases methodF P t n with
        | none => exact SimO.nil
        | some g => exact callT_sim (static := true) hX h (.inl rfl)
      · exact SimO.nil
  case next x b =>
    cases b with
    | false => simp only [astep, astepE, ho, hop, hop']; exact mq_of (fun r hr => nextT_some h hr) h
    | true => exact hdef (fun c e => by rw [ho] at e; cases e) (fun c a b e => by rw [ho] at e; cases e)
  case range t x => simp only [astep, astepE, ho, hop, hop']; exact rangeT_sim h
  case slice t x lo hi mx =>
    cases lo <;> cases hi <;> cases mx <;> simp only [astep, astepE, ho, hop, hop', Option.map_none, Option.map_some]
    · cases aSlice P t (opd ρ x) none none none with
      | some a => exact SimO.one h _
      | none => exact sliceAT_sim h
    all_goals
      generalize aSlice P t _ _ _ _ = q
      cases q
      · exact SimO.nil
      · exact SimO.one h _
  case move x => simp only [astep, astepE, ho, hop, hop']; exact SimO.one h _
  case assign x => simp only [astep, astepE, ho, hop, hop']; exact SimO.one h _
  case pick c a b => simp only [astep, ho, hop', opv_eq]; exact mq_sim h
  case load t x => simp only [astep, astepE, ho, hop, hop']; exact mq_of (fun r hr => loadQ_some h hr) h
  case store t x y => simp only [astep, astepE, ho, hop, hop']; exact storeQ_sim h
  case binOp op t x y u =>
    have hE : astep P (orcX T X f) true (ev ρ) o H = binE P op t x y (opd ρ x) (opd ρ y) H := by
      simp only [astep, astepE, ho, hop, hop', binE]
      rfl
    rw [hE]
    simp only
    split
    · rename_i g hg
      rw [← binT_eq h]
      simp only
      rw [binQ_eq hg (P := P) (op := op) (t := t) (x := x) (y := y) (fun r hr => by simp only [binT, hr])]
      exact mq_sim h
    · rw [← binT_eq h]
      exact mq_sim h
  case fieldAddr s x i => simp only [astep, astepE, ho, hop, hop']; exact mq_of (fun r hr => faQ_some hr) h
  case field s x i => simp only [astep, astepE, ho, hop, hop']; exact mq_sim h
  case indexAddr t x i => simp only [astep, astepE, ho, hop, hop']; exact mq_of (fun r hr => ixQ_some hr) h
  case index t x i => simp only [astep, astepE, ho, hop, hop']; exact mq_sim h
  case extract x i => simp only [astep, astepE, ho, hop, hop']; exact mq_sim h
  case convert s d x => simp only [astep, astepE, ho, hop, hop']; exact cvF_sim h
  case alloc t => simp only [astep, astepE, ho, hop, hop']; exact allocT_sim h
  case box t x => simp only [astep, astepE, ho, hop, hop']; exact boxT_sim h
  case build t ps => simp only [astep, astepE, ho, hop, hop']; exact mq_sim h
  case buildSlice t len ps => simp only [astep, astepE, ho, hop, hop']; exact buildSliceT_sim h
  case makeSlice t l c => simp only [astep, astepE, ho, hop, hop']; exact makeSliceT_sim h
  case makeMap t r =>
    cases r with
    | none =>
      simp only [astep, astepE, ho, hop, hop']
      rw [← h.n]
      exact SimO.one (h.push (y := .ls 0 []) trivial) _
    | some r => exact hdef (fun c e => by rw [ho] at e; cases e) (fun c a b e => by rw [ho] at e; cases e)
  case lookup t m k ok => simp only [astep, astepE, ho, hop, hop']; exact lookupT_sim h
  case mapUpdate t m k x => simp only [astep, astepE, ho, hop, hop']; exact mapUpdateT_sim h
  all_goals exact hdef (fun c e => by rw [ho] at e; cases e) (fun c a b e => by rw [ho] at e; cases e)
end Go.AI
