/- The interpreter that runs, made fast: each operation is looked at once. -/
import Derived.Test.YtdakclpneghkmaaGreatDoorL16
namespace Go.AI
set_option linter.unusedSimpArgs false
set_option linter.unusedVariables false
set_option maxRecDepth 100000
open Go.RowKit
abbrev XF := FuncId → Row → Heap → Option (AVal × Heap)
structure KB where
  run : XF → Env → Heap → Option (Env × Heap)
def lk : Env → Nat → AVal
  | [], _ => .junk
  | p :: r, t => cond (Nat.beq t p.1) p.2 (lk r t)
theorem lk_eq (ρ : Env) (t : Nat) : lk ρ t = look ρ t := by
  induction ρ with
  | nil => rfl
  | cons p r ih =>
    obtain ⟨s, a⟩ := p
    simp only [lk, look, ih]
    by_cases h : t = s
    · subst h; simp
    · have hb : Nat.beq t s = false := by
        cases hq : Nat.beq t s with
        | false => rfl
        | true => exact absurd (Nat.eq_of_beq_eq_true hq) h
      rw [hb, if_neg h]; rfl
def opd (ρ : Env) (x : Operand) : AVal := Operand.casesOn (motive := fun _ => AVal) x (fun t => res true (lk ρ t)) (fun v => .v v) (fun _ => .junk) (fun f => .fn f [])
theorem opd_eq (ρ : Env) (x : Operand) : opd ρ x = res true (ev ρ x) := by
  cases x with
  | tmp t => simp only [opd, ev, lk_eq]
  | const v => rfl
  | global g => rfl
  | func f => rfl
/-- lists, integers, objects: the same, for a machine that counts its steps -/
def lget {α : Type} : List α → Nat → Option α
  | [], _ => none
  | x :: l, i => Nat.casesOn (motive := fun _ => Option α) i (some x) (fun j => lget l j)
theorem lget_eq {α : Type} (l : List α) (i : Nat) : lget l i = l[i]? := by
  induction l generalizing i with
  | nil => simp [lget]
  | cons x l ih => cases i with
    | zero => rfl
    | succ i => simpa [lget] using ih i
def lset {α : Type} : List α → Nat → α → List α
  | [], _, _ => []
  | x :: l, i, y => Nat.casesOn (motive := fun _ => List α) i (y :: l) (fun j => x :: lset l j y)
theorem lset_eq {α : Type} (l : List α) (i : Nat) (y : α) : lset l i y = l.set i y := by
  induction l generalizing i with
  | nil => simp [lset]
  | cons x l ih => cases i with
    | zero => rfl
    | succ i => simpa [lset] using ih i
def ltZ : Int → Int → Bool
  | .ofNat m, .ofNat n => Nat.blt m n
  | .ofNat _, .negSucc _ => false
  | .negSucc _, .ofNat _ => true
  | .negSucc m, .negSucc n => Nat.blt n m
theorem blt_dec (m n : Nat) : Nat.blt m n = decide (m < n) := by
  rw [Bool.eq_iff_iff]
  simp [Nat.blt, Nat.succ_le_iff]
theorem ltZ_eq (a b : Int) : ltZ a b = decide (a < b) := by
  rw [Bool.eq_iff_iff, decide_eq_true_iff]
  cases a with
  | ofNat m => cases b with
    | ofNat n => simp only [ltZ, blt_dec, decide_eq_true_eq, Int.ofNat_eq_natCast]; omega
    | negSucc n =>
      constructor
      · intro h; cases h
      · intro h
        have := Int.negSucc_lt_zero n
        simp only [Int.ofNat_eq_natCast] at h
        omega
  | negSucc m => cases b with
    | ofNat n =>
      constructor
      · intro _
        have := Int.negSucc_lt_zero m
        simp only [Int.ofNat_eq_natCast]
        omega
      · intro _; rfl
    | negSucc n => simp only [ltZ, blt_dec, decide_eq_true_eq, Int.negSucc_eq]; omega
def eqZ : Int → Int → Bool
  | .ofNat m, .ofNat n => Nat.beq m n
  | .negSucc m, .negSucc n => Nat.beq m n
  | _, _ => false
theorem beq_dec (m n : Nat) : Nat.beq m n = decide (m = n) := by
  rw [Bool.eq_iff_iff]; simp [Nat.beq_eq]
theorem eqZ_eq (a b : Int) : eqZ a b = (a == b) := by
  rw [Bool.eq_iff_iff, beq_iff_eq]
  cases a <;> cases b <;> simp [eqZ, beq_dec] <;> omega
def topK : IntKind → Nat
  | .i8 => 128 | .i16 => 32768 | .i32 => 2147483648 | .i64 => 9223372036854775808
  | .u8 => 256 | .u16 => 65536 | .u32 => 4294967296 | .u64 => 18446744073709551616
def sgK : IntKind → Bool
  | .i8 => true | .i16 => true | .i32 => true | .i64 => true
  | _ => false
def wrapZ (k : IntKind) (n : Int) : Int :=
  match n with
  | .ofNat m => cond (Nat.blt m (topK k)) (.ofNat m) (k.wrap (.ofNat m))
  | .negSucc m => cond (sgK k && Nat.blt m (topK k)) (.negSucc m) (k.wrap (.negSucc m))
theorem wrap_u {k : IntKind} {n : Int} (h0 : 0 ≤ n) (h : n < (topK k : Int)) : k.wrap n = n := by
  cases k <;> simp [topK] at h <;> simp [IntKind.wrap, IntKind.bits, IntKind.signed] <;> omega
theorem wrap_s {k : IntKind} {n : Int} (hk : sgK k = true) (h0 : -(topK k : Int) ≤ n) (h : n < 0) : k.wrap n = n := by
  cases k <;> simp [sgK] at hk <;> simp [topK] at h0 <;> simp [IntKind.wrap, IntKind.bits, IntKind.signed] <;> omega
theorem wrapZ_eq (k : IntKind) (n : Int) : wrapZ k n = k.wrap n := by
  cases n with
  | ofNat m =>
    simp only [wrapZ, blt_dec]
    by_cases h : m < topK k
    · rw [decide_eq_true h, cond_true, wrap_u (by simp only [Int.ofNat_eq_natCast]; omega) (by simp only [Int.ofNat_eq_natCast]; omega)]
    · rw [decide_eq_false h, cond_false]
  | negSucc m =>
    simp only [wrapZ, blt_dec]
    cases hk : sgK k with
    | false => rfl
    | true =>
      by_cases h : m < topK k
      · rw [decide_eq_true h, Bool.true_and, cond_true, wrap_s hk (by rw [Int.negSucc_eq]; omega) (Int.negSucc_lt_zero m)]
      · rw [decide_eq_false h, Bool.and_false, cond_false]
def fbin : BinOp → Option (IntKind → Int → Int → AVal)
  | .add => some fun k a b => .v (.int k (wrapZ k (a + b)))
  | .sub => some fun k a b => .v (.int k (wrapZ k (a - b)))
  | .mul => some fun k a b => .v (.int k (wrapZ k (a * b)))
  | .and => some fun k a b => .v (.int k (iand k a b))
  | .or => some fun k a b => .v (.int k (ior k a b))
  | .xor => some fun k a b => .v (.int k (ixor k a b))
  | .andNot => some fun k a b => .v (.int k (iandn k a b))
  | .eql => some fun _ a b => .v (.bool (eqZ a b))
  | .neq => some fun _ a b => .v (.bool (!eqZ a b))
  | .lss => some fun _ a b => .v (.bool (ltZ a b))
  | .leq => some fun _ a b => .v (.bool (!ltZ b a))
  | .gtr => some fun _ a b => .v (.bool (ltZ b a))
  | .geq => some fun _ a b => .v (.bool (!ltZ a b))
  | _ => none
theorem fbin_eq {P : Program} {op : BinOp} {g : IntKind → Int → Int → AVal} (h : fbin op = some g) {t : TypeId} {x y : Operand} {k : IntKind} {a b : Int} : aBin P op t x y (.v (.int k a)) (.v (.int k b)) = some (g k a b) := by
  cases op with
  | add => cases h; simp only [wrapZ_eq]; exact ev_add
  | sub => cases h; simp only [wrapZ_eq]; exact ev_sub
  | mul => cases h; simp only [wrapZ_eq]; exact ev_mul
  | and => cases h; exact ev_and
  | or => cases h; exact ev_or
  | xor => cases h; exact ev_xor
  | andNot => cases h; exact ev_andNot
  | eql => cases h; simp only [eqZ_eq]; exact ev_eql
  | neq => cases h; simp only [eqZ_eq]; exact ev_neq
  | lss => cases h; simp only [ltZ_eq]; exact ev_lss
  | gtr => cases h; simp only [ltZ_eq]; exact ev_gtr
  | leq =>
    cases h
    have : (!ltZ b a) = decide (a ≤ b) := by rw [ltZ_eq, Bool.eq_iff_iff]; simp
    simp only [this]; exact ev_leq
  | geq =>
    cases h
    have : (!ltZ a b) = decide (b ≤ a) := by rw [ltZ_eq, Bool.eq_iff_iff]; simp
    simp only [this]; exact ev_geq
  | _ => cases h
def kq : IntKind → IntKind → Bool
  | .i64, .i64 => true
  | .u8, .u8 => true
  | .u32, .u32 => true
  | k, k' => decide (k = k')
theorem kq_eq {k k' : IntKind} (h : kq k k' = true) : k = k' := by
  cases k <;> cases k' <;> first | rfl | (simp [kq] at h)
def binF (g : IntKind → Int → Int → AVal) (a b : AVal) (els : Option (AVal × Heap)) (H : Heap) : Option (AVal × Heap) :=
  match a with
  | .v (.int k x) => match b with
    | .v (.int k' y) => cond (kq k k') (some (g k x y, H)) els
    | _ => els
  | _ => els
def binE (P : Program) (op : BinOp) (t : TypeId) (x y : Operand) (a b : AVal) (H : Heap) : Option (AVal × Heap) :=
  match aBin P op t x y a b with
  | some r => some (r, H)
  | none => match x, y with
    | .tmp _, .tmp _ => (aEqH P op t a b H).map (·, H)
    | _, _ => none
theorem binF_eq {P : Program} {op : BinOp} {g : IntKind → Int → Int → AVal} (h : fbin op = some g) {t : TypeId} {x y : Operand} {a b : AVal} {H : Heap} : binF g a b (binE P op t x y a b H) H = binE P op t x y a b H := by
  unfold binF
  split
  · rename_i k x'
    split
    · rename_i k' y'
      cases hk : kq k k' with
      | false => rfl
      | true =>
        have := kq_eq hk
        subst this
        simp only [cond_true, binE, fbin_eq h]
    · rfl
  · rfl
def objF (H : Heap) (id : Nat) : Option (Nat × List Row) :=
  match lget H id with
  | some (some q) => cond (Nat.beq q.1 0) none (some q)
  | _ => none
theorem objF_eq (H : Heap) (id : Nat) : objF H id = obj H id := by
  unfold objF obj
  rw [lget_eq]
  cases H[id]? with
  | none => rfl
  | some o => cases o with
    | none => rfl
    | some q =>
      simp only [Option.bind_some, beq_dec]
      by_cases h : q.1 = 0 <;> simp [h]
def readF (P : Program) (t : TypeId) : Row → Nat → Option AVal :=
  match aggOf P t with
  | some false => lget
  | _ => readAt P t
theorem readF_eq (P : Program) (t : TypeId) (row : Row) (off : Nat) : readF P t row off = readAt P t row off := by
  unfold readF
  cases h : aggOf P t with
  | none => rfl
  | some b => cases b with
    | true => rfl
    | false =>
      unfold readAt
      rw [h]
      exact lget_eq row off
structure RB where
  run : Row → Nat → Option AVal
def loadF (P : Program) (t : TypeId) (r : RB) (a : AVal) (H : Heap) : Option AVal :=
  match a with
  | .ptr id sz i off => match objF H id with
    | some (sz', rows) => match lget rows i with
      | some row => cond (Nat.beq sz' sz) (r.run row off) (aLoad P t a H)
      | none => none
    | none => none
  | a => aLoad P t a H
theorem loadF_eq (P : Program) (t : TypeId) (a : AVal) (H : Heap) : loadF P t ⟨readF P t⟩ a H = aLoad P t a H := by
  cases a with
  | ptr id sz i off =>
    unfold loadF
    simp only [objF_eq]
    cases hob : obj H id with
    | none => simp only [aLoad, hob]
    | some q =>
      obtain ⟨sz', rows⟩ := q
      simp only [lget_eq, beq_dec]
      cases hr : rows[i]? with
      | none => simp only [aLoad, hob, hr]
      | some row =>
        simp only
        by_cases h : sz' = sz
        · rw [decide_eq_true h, cond_true, readF_eq]
          simp only [aLoad, hob, hr, h, if_true]
        · rw [decide_eq_false h, cond_false]
  | _ => rfl
def storeF (P : Program) (t : TypeId) (a x : AVal) (H : Heap) : Option Heap :=
  match a with
  | .ptr id sz i off => match objF H id with
    | some (sz', rows) => match lget rows i, cellsOf x, szOf P t with
      | some row, some cs, some n => if sz' = sz ∧ cs.length = n ∧ off + n ≤ row.length then some (lset H id (some (sz, lset rows i (writeAt row off cs)))) else aStore P t (.ptr id sz i off) x H
      | _, _, _ => none
    | none => none
  | _ => none
theorem storeF_eq (P : Program) (t : TypeId) (a x : AVal) (H : Heap) : storeF P t a x H = aStore P t a x H := by
  cases a with
  | ptr id sz i off =>
    unfold storeF
    simp only [objF_eq, lget_eq, lset_eq]
    cases hob : obj H id with
    | none => simp only [aStore, hob]
    | some q =>
      obtain ⟨sz', rows⟩ := q
      cases hr : rows[i]? with
      | none => simp only [aStore, hob, hr]
      | some row => cases hcs : cellsOf x with
        | none => simp only [aStore, hob, hr, hcs]
        | some cs => cases hz : szOf P t with
          | none => simp only [aStore, hob, hr, hcs, hz]
          | some n =>
            simp only [aStore, hob, hr, hcs, hz]
            by_cases hc : sz' = sz ∧ cs.length = n ∧ off + n ≤ row.length
            · rw [if_pos hc, if_pos hc]
            · rw [if_neg hc]
  | _ => rfl
def idxF (a : AVal) (n : Nat) : Option Nat :=
  match a with
  | .v (.int _ (.ofNat m)) => cond (Nat.blt m n) (some m) none
  | _ => none
theorem idxF_eq (a : AVal) (n : Nat) : idxF a n = idx a n := by
  unfold idxF idx
  split
  · rename_i m
    simp only [blt_dec]
    by_cases h : m < n
    · have : (0 : Int) ≤ Int.ofNat m ∧ Int.ofNat m < (n : Int) := by simp only [Int.ofNat_eq_natCast]; omega
      simp [h]
    · have : ¬ ((0 : Int) ≤ Int.ofNat m ∧ Int.ofNat m < (n : Int)) := by simp only [Int.ofNat_eq_natCast]; omega
      simp [h]
  · rename_i hn
    split
    · rename_i k i
      cases i with
      | ofNat m => exact absurd rfl (hn k m)
      | negSucc m =>
        have : ¬ ((0 : Int) ≤ Int.negSucc m ∧ Int.negSucc m < (n : Int)) := by omega
        rw [if_neg this]
    · rfl
/-- what an index into a type comes to -/
structure IB where
  run : AVal → AVal → Option AVal
def ixF (P : Program) (t : TypeId) : IB :=
  match arrayOf P t with
  | some (n, e) => match szOf P e with
    | some sz => ⟨fun a i => match idxF i n with
      | some k => match a with
        | .ptr id s j off => cond (Nat.beq s 0) none (some (.ptr id s j (off + k * sz)))
        | .fptr row off => some (.fptr row (off + k * sz))
        | _ => none
      | none => none⟩
    | none => ⟨fun a i => aIndexAddr P t a i⟩
  | none => ⟨fun a i => match a with
    | .osl id sz' s len kc => match sliceElem P t with
      | some e => match szOf P e with
        | some sz => if sz' = sz ∧ sz ≠ 0 then (match idxF i len with | some k => some (.ptr id sz (s + k) 0) | none => none) else none
        | none => none
      | none => none
    | a => aIndexAddr P t a i⟩
theorem ixF_eq (P : Program) (t : TypeId) (a i : AVal) : (ixF P t).run a i = aIndexAddr P t a i := by
  unfold ixF
  cases h : arrayOf P t with
  | some q =>
    obtain ⟨n, e⟩ := q
    simp only
    cases h2 : szOf P e with
    | none => rfl
    | some sz =>
      simp only [aIndexAddr, h, h2, idxF_eq]
      cases idx i n with
      | none => rfl
      | some k =>
        cases a with
        | ptr id s j off =>
          simp only [beq_dec]
          by_cases hs : s = 0
          · subst hs; rfl
          · rw [if_neg hs, decide_eq_false hs]; rfl
        | _ => rfl
  | none =>
    cases a with
    | osl id sz' s len kc =>
      simp only [aIndexAddr, h, idxF_eq]
      cases sliceElem P t with
      | none => rfl
      | some e =>
        simp only
        cases szOf P e with
        | none => rfl
        | some sz =>
          simp only
          split
          · cases idx i len <;> rfl
          · rfl
    | _ => rfl
def mo {α : Type} (d : Option Tmp) (x : Option α) (k : α → AVal × Heap) (ρ : Env) : Option (Env × Heap) :=
  Option.casesOn (motive := fun _ => Option (Env × Heap)) x none fun a => some (put ρ d (k a).1, (k a).2)
theorem mo_eq {α : Type} (d : Option Tmp) (x : Option α) (k : α → AVal × Heap) (ρ : Env) : mo d x k ρ = (x.map k).map fun r => (put ρ d r.1, r.2) := by cases x <;> rfl
def callOk (P : Program) (g : FuncId) : Bool := match P.funcs[g]? with
  | some fn => !(fn.name == "runtime.NumGoroutine")
  | none => false
def callRd (P : Program) (g : FuncId) : Bool := match P.funcs[g]? with
  | some fn => !(fn.name == "runtime.NumGoroutine" || fn.body.isNone)
  | none => false
def compOp (P : Program) (T : Tab) (f : FuncId) (nt : Nat) (ops : Array Oper) (o : Oper) : KB :=
  match o.guard, dstOk nt o with
  | none, true => match o.op with
    | .move x => ⟨fun _ ρ H => some (put ρ o.dst (opd ρ x), H)⟩
    | .assign x => ⟨fun _ ρ H => some (put ρ o.dst (opd ρ x), H)⟩
    | .load t x => ⟨fun _ ρ H => mo o.dst (loadF P t ⟨readF P t⟩ (opd ρ x) H) (·, H) ρ⟩
    | .store t x y => ⟨fun _ ρ H => mo o.dst (storeF P t (opd ρ x) (opd ρ y) H) (.v undef, ·) ρ⟩
    | .binOp op t x y _ => match fbin op with
      | some g => ⟨fun _ ρ H => mo o.dst (binF g (opd ρ x) (opd ρ y) (binE P op t x y (opd ρ x) (opd ρ y) H) H) id ρ⟩
      | none => ⟨fun _ ρ H => mo o.dst (binE P op t x y (opd ρ x) (opd ρ y) H) id ρ⟩
    | .fieldAddr s x i => ⟨fun _ ρ H => mo o.dst (aFieldAddr P s (opd ρ x) i) (·, H) ρ⟩
    | .field s x i => ⟨fun _ ρ H => mo o.dst (aField P s (opd ρ x) i) (·, H) ρ⟩
    | .indexAddr t x i => ⟨fun _ ρ H => mo o.dst ((ixF P t).run (opd ρ x) (opd ρ i)) (·, H) ρ⟩
    | .index t x i => ⟨fun _ ρ H => mo o.dst (aIndex P t (opd ρ x) (opd ρ i)) (·, H) ρ⟩
    | .extract x i => ⟨fun _ ρ H => mo o.dst (aExtract (opd ρ x) i) (·, H) ρ⟩
    | .alloc t => ⟨fun _ ρ H => mo o.dst (aAlloc P t H) id ρ⟩
    | .box _ x => ⟨fun _ ρ H => mo o.dst (aBox (opd ρ x) H) id ρ⟩
    | .build t parts => ⟨fun _ ρ H => mo o.dst (aBuild P t (parts.toList.map fun p => (p.1, opd ρ p.2))) (·, H) ρ⟩
    | .buildSlice t len parts => ⟨fun _ ρ H => mo o.dst (aBuildSlice P t len (parts.toList.map fun p => (p.1, opd ρ p.2)) H) id ρ⟩
    | .makeSlice t l c => ⟨fun _ ρ H => mo o.dst (aMakeSlice P t (opd ρ l) (opd ρ c) H) id ρ⟩
    | .call c => match c.callee with
      | .value (.func g) => match T.rdf g with
        | true => match callRd P g with
          | true => ⟨fun X ρ H => mo o.dst (X g (c.args.toList.map (opd ρ)) H) (fun r => (r.1, H)) ρ⟩
          | false => ⟨fun _ _ _ => none⟩
        | false => match callOk P g with
          | true => ⟨fun X ρ H => mo o.dst (X g (c.args.toList.map (opd ρ)) H) id ρ⟩
          | false => ⟨fun _ _ _ => none⟩
      | .builtin b => ⟨fun _ ρ H => mo o.dst (aBuiltin P b c.argTypes (c.args.toList.map (opd ρ)) H) id ρ⟩
      | _ => ⟨fun X ρ H => step1 P (orcX T X f) nt ops o (ρ, H)⟩
    | _ => ⟨fun X ρ H => step1 P (orcX T X f) nt ops o (ρ, H)⟩
  | _, _ => ⟨fun X ρ H => step1 P (orcX T X f) nt ops o (ρ, H)⟩
section
variable {P : Program} {T : Tab} {f : FuncId} {nt : Nat} {ops : Array Oper}
theorem compOp_eq (o : Oper) (X : XF) (ρ : Env) (H : Heap) : (compOp P T f nt ops o).run X ρ H = step1 P (orcX T X f) nt ops o (ρ, H) := by
  have hop : (fun x => res true (ev ρ x)) = opd ρ := by funext x; exact (opd_eq ρ x).symm
  have hop' : ∀ x, res true (ev ρ x) = opd ρ x := fun x => (opd_eq ρ x).symm
  have hofn : ∀ g, opd ρ (.func g) = .fn g [] := fun _ => rfl
  unfold compOp
  split
  · rename_i hg hd
    cases ho : o.op
    case call c =>
      simp only
      cases hc : c.callee with
      | value x =>
        cases x with
        | func g =>
          have hs : step1 P (orcX T X f) nt ops o (ρ, H) = (aCall P (orcX T X f) true (.fn g []) (c.args.toList.map (opd ρ)) H).map fun r => (put ρ o.dst r.1, r.2) := by
            unfold step1
            simp only [hd, if_true, hg, astep, hop, hop', astepE, ho, hc, isStatic, hofn]
          rw [hs]
          simp only
          unfold aCall
          simp only
          split
          · rename_i hr
            have hi : (orcX T X f).inl g = false := by simp [orcX, hr]
            have hR : (orcX T X f).rd g = some (fun args H => (X g args H).map Prod.fst) := by simp [orcX, hr]
            unfold callRd
            cases hfn : P.funcs[g]? with
            | none => rfl
            | some fn =>
              simp only [hi, hR, Bool.false_eq_true, if_false, List.append_nil]
              cases (fn.name == "runtime.NumGoroutine" || fn.body.isNone) with
              | true => rfl
              | false =>
                simp only [Bool.not_false, Bool.false_eq_true, if_false, mo_eq]
                cases X g (List.map (opd ρ) c.args.toList) H <;> rfl
          · rename_i hr
            have hi : (orcX T X f).inl g = true := by simp [orcX, hr]
            unfold callOk
            cases hfn : P.funcs[g]? with
            | none => rfl
            | some fn =>
              simp only [hi, if_true, Bool.true_and, List.append_nil]
              cases (fn.name == "runtime.NumGoroutine") with
              | true => rfl
              | false =>
                simp only [Bool.not_false, if_true, mo_eq, show ∀ a, (orcX T X f).inline g a H = X g a H from fun _ => rfl]
                cases X g (List.map (opd ρ) c.args.toList) H <;> rfl
        | _ => rfl
      | builtin b =>
        unfold step1
        simp only [hd, if_true, hg, astep, hop, astepE, ho, hc, mo_eq, Option.map_id, id]
      | invoke r m => rfl
    case binOp op t x y ty =>
      unfold step1
      simp only [hd, if_true, hg, astep, astepE, hop, hop', ho]
      split
      · rename_i g hgg
        simp only [binF_eq hgg, mo_eq, Option.map_id, id]
        rfl
      · simp only [mo_eq, Option.map_id, id]
        rfl
    all_goals first
      | rfl
      | (unfold step1; simp only [hd, if_true, hg, astep, astepE, hop, hop', ho, mo_eq, loadF_eq, storeF_eq, ixF_eq]; done)
      | (unfold step1; simp only [hd, if_true, hg, astep, astepE, hop, hop', ho, mo_eq, loadF_eq, storeF_eq, ixF_eq]; rfl)
      | (unfold step1; simp only [hd, if_true, hg, astep, astepE, hop, hop', ho, mo_eq, Option.map_id, id, Option.map_some]; done)
      | (unfold step1; simp only [hd, if_true, hg, astep, astepE, hop, hop', ho, mo_eq, Option.map_id, id, Option.map_some]; rfl)
  · rfl
end
/-- operations, one after the other -/
def runB : List KB → XF → Env → Heap → Option (Env × Heap)
  | [], _, ρ, H => some (ρ, H)
  | b :: l, X, ρ, H => match b.run X ρ H with
    | some s => runB l X s.1 s.2
    | none => none
theorem runB_eq {P : Program} {T : Tab} {f : FuncId} {nt : Nat} {ops : Array Oper} {X : XF} : ∀ (l : List Oper) (ρ : Env) (H : Heap), runB (l.map (compOp P T f nt ops)) X ρ H = runL P (orcX T X f) nt ops l (ρ, H)
  | [], ρ, H => rfl
  | o :: l, ρ, H => by
    simp only [List.map_cons, runB, runL, compOp_eq]
    cases step1 P (orcX T X f) nt ops o (ρ, H) with
    | none => rfl
    | some s => exact runB_eq l s.1 s.2
structure KC where
  run : XF → Env → Heap → Option Res
def prune (L : List Nat) (ρ : Env) : Env := L.map fun t => (t, lk ρ t)
theorem prune_look (L : List Nat) (ρ : Env) : ∀ p ∈ prune L ρ, look ρ p.1 = p.2 := by
  intro p hp
  unfold prune at hp
  obtain ⟨t, _, rfl⟩ := List.mem_map.1 hp
  exact (lk_eq ρ t).symm
def iterP (W : Env → Heap → Option Res) (L : Option (List Nat)) : Nat → Env → Heap → Option Res
  | 0, _, _ => none
  | n + 1, ρ, H => match W (match L with | some L => prune L ρ | none => ρ) H with
    | some (.normal, ρ', H') => iterP W L n ρ' H'
    | r => r
def seqK (a b : KC) (X : XF) (ρ : Env) (H : Heap) : Option Res :=
  match a.run X ρ H with
  | some (.normal, ρ', H') => b.run X ρ' H'
  | r => r
def condK (c : Operand) (a b : KC) (X : XF) (ρ : Env) (H : Heap) : Option Res :=
  match opd ρ c with
  | .v (.bool true) => a.run X ρ H
  | .v (.bool false) => b.run X ρ H
  | _ => none
def blockK (id : Nat) (a : KC) (X : XF) (ρ : Env) (H : Heap) : Option Res :=
  match a.run X ρ H with
  | some (.exit id', ρ', H') => if id' = id then some (.normal, ρ', H') else some (.exit id', ρ', H')
  | r => r
def regK (l : List KB) (X : XF) (ρ : Env) (H : Heap) : Option Res :=
  match runB l X ρ H with
  | some s => some (.normal, s.1, s.2)
  | none => none
/-- code, looked at once; live: what lives at a block's loop -/
def compC (P : Program) (T : Tab) (live : Nat → Option (List Nat)) (k : Nat) (f : FuncId) (nt : Nat) : Code → Nat → KC
  | .skip, _ => ⟨fun _ ρ H => some (.normal, ρ, H)⟩
  | .region id ops draw, _ => match T.dyn f id with
    | [] => ⟨regK (ops.toList.map (compOp P T f nt ops))⟩
    | _ => ⟨fun X ρ H => match execR P (orcX T X f) nt id ops ρ H with
      | some s => some (.normal, s.1, s.2)
      | none => none⟩
  | .seq x y, b => ⟨seqK (compC P T live k f nt x b) (compC P T live k f nt y b)⟩
  | .cond c x y, b => ⟨condK c (compC P T live k f nt x b) (compC P T live k f nt y b)⟩
  | .block id x, _ => ⟨blockK id (compC P T live k f nt x id)⟩
  | .loop x, b => ⟨fun X ρ H => iterP ((compC P T live k f nt x b).run X) (live b) k ρ H⟩
  | .exit id, _ => ⟨fun _ ρ H => some (.exit id, ρ, H)⟩
  | .ret, _ => ⟨fun _ ρ H => some (.ret, ρ, H)⟩
  | .label _, _ => ⟨fun _ ρ H => some (.normal, ρ, H)⟩
  | _, _ => ⟨fun _ _ _ => none⟩
section
variable {P : Program} {nt n0 : Nat}
theorem AWp.sub {c : Code} {Q : Post} {ρ ρ' : Env} {H : Heap} (hl : ∀ p ∈ ρ', look ρ p.1 = p.2) (h : AWp P nt n0 c Q ρ' H) : AWp P nt n0 c Q ρ H := by
  intro f base w0 β fz a w h1 h2 hs
  obtain ⟨β', fz', hs'⟩ := Ent.env (n0 := n0) (H := H) hl f base w0 β fz a w h2 hs
  exact h f base w0 β' fz' a w h1 h2 hs'
theorem iterP_sound {W : Env → Heap → Option Res} {L : Option (List Nat)} {c : Code} (hW : ∀ ρ H r, W ρ H = some r → AWp P nt n0 c (IsX r) ρ H) {n : Nat} {ρ : Env} {H : Heap} {r : Res} (h : iterP W L n ρ H = some r) : AWp P nt n0 (.loop c) (IsX r) ρ H := by
  refine LoopA_sound (W := fun Q ρ H => AWp P nt n0 c Q ρ H) (fun Q ρ H h => h) (.inl ⟨n, ?_⟩)
  have hpr : ∀ ρ : Env, ∀ p ∈ (match L with | some L => prune L ρ | none => ρ), look ρ p.1 = p.2 ∨ L = none := by
    intro ρ p hp
    cases L with
    | none => exact .inr rfl
    | some L => exact .inl (prune_look L ρ p hp)
  have hsub : ∀ {Q : Post} {ρ : Env} {H : Heap}, AWp P nt n0 c Q (match L with | some L => prune L ρ | none => ρ) H → AWp P nt n0 c Q ρ H := by
    intro Q ρ H hA
    cases L with
    | none => exact hA
    | some L => exact AWp.sub (prune_look L ρ) hA
  induction n generalizing ρ H with
  | zero => simp [iterP] at h
  | succ n ih =>
    simp only [UnrA]
    simp only [iterP] at h
    split at h
    · rename_i ρ' H' h1
      refine hsub ((hW _ _ _ h1).mono ?_)
      rintro e ρ2 H2 q
      simp only [IsX, Prod.mk.injEq] at q
      obtain ⟨rfl, rfl, rfl⟩ := q
      exact ih h
    · rename_i hn
      refine hsub ((hW _ _ _ h).mono ?_)
      rintro e ρ2 H2 q
      cases e with
      | normal =>
        simp only [IsX] at q
        subst q
        exact (hn _ _ h).elim
      | _ => exact q
theorem compC_sound {T : Tab} {X : XF} {f : FuncId} (hC : OrcOk P (orcX T X f)) (hm : P.follows .mixedOrders = true) {live : Nat → Option (List Nat)} {k : Nat} : ∀ (c : Code) (b : Nat) (ρ : Env) (H : Heap) (r : Res), codeRF (orcX T X f) c = true → (compC P T live k f nt c b).run X ρ H = some r → AWp P nt n0 c (IsX r) ρ H := by
  intro c
  induction c with
  | skip => intro b ρ H r _ h fr base w0 β fz a w h1 h2 hs; simp only [compC, Option.some.injEq] at h; exact wp_skip ⟨ρ, H, β, fz, h.symm, hs⟩
  | label l => intro b ρ H r _ h fr base w0 β fz a w h1 h2 hs; simp only [compC, Option.some.injEq] at h; exact wp_label ⟨ρ, H, β, fz, h.symm, hs⟩
  | exit id => intro b ρ H r _ h fr base w0 β fz a w h1 h2 hs; simp only [compC, Option.some.injEq] at h; exact wp_exit ⟨ρ, H, β, fz, h.symm, hs⟩
  | ret => intro b ρ H r _ h fr base w0 β fz a w h1 h2 hs; simp only [compC, Option.some.injEq] at h; exact wp_ret ⟨ρ, H, β, fz, h.symm, hs⟩
  | region id ops draw =>
    intro b ρ H r hrf h
    simp only [compC] at h
    split at h
    · rename_i hd
      have hd' : (orcX T X f).dyn id = [] := hd
      simp only [regK, runB_eq] at h
      split at h
      · rename_i s hs
        simp only [Option.some.injEq] at h
        subst h
        refine execR_sound hC hm hrf ?_
        unfold execR
        rw [hd']
        exact hs
      · cases h
    · simp only at h
      split at h
      · rename_i s hs
        simp only [Option.some.injEq] at h
        subst h
        exact execR_sound hC hm hrf hs
      · cases h
  | seq x y ihx ihy =>
    intro b ρ H r hrf h
    simp only [codeRF, Bool.and_eq_true] at hrf
    simp only [compC, seqK] at h
    refine AWp.seq ?_
    split at h
    · rename_i ρ' H' h1
      refine (ihx _ _ _ _ hrf.1 h1).mono ?_
      rintro e ρ2 H2 q
      simp only [IsX, Prod.mk.injEq] at q
      obtain ⟨rfl, rfl, rfl⟩ := q
      exact ihy _ _ _ _ hrf.2 h
    · rename_i hn
      refine (ihx _ _ _ _ hrf.1 h).mono ?_
      rintro e ρ2 H2 q
      cases e with
      | normal =>
        simp only [IsX] at q
        subst q
        exact (hn _ _ h).elim
      | _ => exact q
  | cond c x y ihx ihy =>
    intro b ρ H r hrf h fr base w0 β fz a w h1 h2 hs
    simp only [codeRF, Bool.and_eq_true] at hrf
    simp only [compC, condK, opd_eq] at h
    have hc := res_R (g := true) rfl (hs.ev c)
    split at h
    · rename_i ht
      rw [ht] at hc
      exact wp_cond hc.v_inv (ihx _ _ _ _ hrf.1 h fr base w0 β fz a w h1 h2 hs)
    · rename_i ht
      rw [ht] at hc
      exact wp_cond hc.v_inv (ihy _ _ _ _ hrf.2 h fr base w0 β fz a w h1 h2 hs)
    · cases h
  | block id x ih =>
    intro b ρ H r hrf h fr base w0 β fz a w h1 h2 hs
    simp only [codeRF] at hrf
    simp only [compC, blockK] at h
    split at h
    · rename_i id' ρ' H' hx
      refine wp_block (wp_mono (ih _ _ _ _ hrf hx fr base w0 β fz a w h1 h2 hs) ?_)
      rintro e a' w' ⟨ρ2, H2, β', fz', q, s⟩
      simp only [IsX, Prod.mk.injEq] at q
      obtain ⟨rfl, rfl, rfl⟩ := q
      simp only [Exit.inBlock]
      split at h <;> (rename_i hid; simp only [Option.some.injEq] at h; subst h)
      · rw [if_pos hid]; exact ⟨ρ', H', β', fz', rfl, s⟩
      · rw [if_neg hid]; exact ⟨ρ', H', β', fz', rfl, s⟩
    · rename_i hn
      refine wp_block (wp_mono (ih _ _ _ _ hrf h fr base w0 β fz a w h1 h2 hs) ?_)
      rintro e a' w' ⟨ρ2, H2, β', fz', q, s⟩
      cases e with
      | exit id' => simp only [IsX] at q; subst q; exact (hn _ _ _ h).elim
      | _ => exact ⟨ρ2, H2, β', fz', q, s⟩
  | loop x ih =>
    intro b ρ H r hrf h
    simp only [codeRF] at hrf
    simp only [compC] at h
    exact iterP_sound (fun ρ H r hW => ih b ρ H r hrf hW) h
  | rangeFunc _ _ _ _ _ _ => intro b ρ H r _ h; simp [compC] at h
  | scope _ _ => intro b ρ H r _ h; simp [compC] at h
  | goto _ => intro b ρ H r _ h; simp [compC] at h
  | refuse _ => intro b ρ H r _ h; simp [compC] at h
end
section
variable {P : Program} {nt : Nat}
theorem iterP_quiet {W : Env → Heap → Option Res} {L : Option (List Nat)} (hW : ∀ ρ H r, W ρ H = some r → r.2.2 = H) : ∀ {n : Nat} {ρ : Env} {H : Heap} {r : Res}, iterP W L n ρ H = some r → r.2.2 = H
  | 0, ρ, H, r, h => by simp [iterP] at h
  | n + 1, ρ, H, r, h => by
    simp only [iterP] at h
    split at h
    · rename_i ρ' H' h1
      have := hW _ _ _ h1
      simp only at this
      subst this
      exact iterP_quiet hW h
    · exact hW _ _ _ h
theorem compC_quiet {T : Tab} {X : XF} {f : FuncId} {live : Nat → Option (List Nat)} {k : Nat} : ∀ (c : Code) (b : Nat) (ρ : Env) (H : Heap) (r : Res), quietC (orcX T X f).inl c = true → (compC P T live k f nt c b).run X ρ H = some r → r.2.2 = H := by
  intro c
  induction c with
  | skip => intro b ρ H r _ h; simp only [compC, Option.some.injEq] at h; subst h; rfl
  | label l => intro b ρ H r _ h; simp only [compC, Option.some.injEq] at h; subst h; rfl
  | exit id => intro b ρ H r _ h; simp only [compC, Option.some.injEq] at h; subst h; rfl
  | ret => intro b ρ H r _ h; simp only [compC, Option.some.injEq] at h; subst h; rfl
  | region id ops draw =>
    intro b ρ H r hq h
    simp only [compC] at h
    split at h
    · rename_i hd
      have hd' : (orcX T X f).dyn id = [] := hd
      simp only [regK, runB_eq] at h
      split at h
      · rename_i s hs
        simp only [Option.some.injEq] at h
        subst h
        refine execR_quiet (C := orcX T X f) (nt := nt) (id := id) (ops := ops) (P := P) (ρ := ρ) (H := H) hq (s := s) ?_
        unfold execR
        rw [hd']
        exact hs
      · cases h
    · simp only at h
      split at h
      · rename_i s hs
        simp only [Option.some.injEq] at h
        subst h
        exact execR_quiet hq hs
      · cases h
  | seq x y ihx ihy =>
    intro b ρ H r hq h
    simp only [quietC, Bool.and_eq_true] at hq
    simp only [compC, seqK] at h
    split at h
    · rename_i ρ' H' h1
      have := ihx _ _ _ _ hq.1 h1
      simp only at this
      subst this
      exact ihy _ _ _ _ hq.2 h
    · exact ihx _ _ _ _ hq.1 h
  | cond c x y ihx ihy =>
    intro b ρ H r hq h
    simp only [quietC, Bool.and_eq_true] at hq
    simp only [compC, condK] at h
    split at h
    · exact ihx _ _ _ _ hq.1 h
    · exact ihy _ _ _ _ hq.2 h
    · cases h
  | block id x ih =>
    intro b ρ H r hq h
    simp only [quietC] at hq
    simp only [compC, blockK] at h
    split at h
    · rename_i id' ρ' H' hx
      have := ih _ _ _ _ hq hx
      split at h <;> (simp only [Option.some.injEq] at h; subst h; exact this)
    · exact ih _ _ _ _ hq h
  | loop x ih =>
    intro b ρ H r hq h
    simp only [quietC] at hq
    simp only [compC] at h
    exact iterP_quiet (fun ρ H r hW => ih b ρ H r hq hW) h
  | rangeFunc _ _ _ _ _ _ => intro b ρ H r _ h; simp [compC] at h
  | scope _ _ => intro b ρ H r _ h; simp [compC] at h
  | goto _ => intro b ρ H r _ h; simp [compC] at h
  | refuse _ => intro b ρ H r _ h; simp [compC] at h
end
structure KF where
  run : XF → Row → Heap → Option (AVal × Heap)
def endK (P : Program) (rs : List ResultVar) : Option Res → Option (AVal × Heap)
  | some (.normal, ρ, H) => (resA P ρ H rs).map fun l => (tupA l, H)
  | some (.ret, ρ, H) => (resA P ρ H rs).map fun l => (tupA l, H)
  | _ => none
def compF (P : Program) (T : Tab) (live : FuncId → Nat → Option (List Nat)) (k : Nat) (f : FuncId) : KF :=
  match T.fin f, P.funcs[f]? with
  | true, some fn => match fn.body with
    | some c => ⟨fun X args H => cond (Nat.ble args.length fn.ntmps) (endK P fn.results.toList ((compC P T (live f) k f fn.ntmps c 0).run X (envOf 0 args) H)) none⟩
    | none => ⟨fun _ _ _ => none⟩
  | _, _ => ⟨fun _ _ _ => none⟩
def execG (P : Program) (T : Tab) (live : FuncId → Nat → Option (List Nat)) (k : Nat) : Nat → XF
  | 0, _, _, _ => none
  | n + 1, f, args, H => (compF P T live k f).run (execG P T live k n) args H
section
variable {P : Program} {T : Tab} {live : FuncId → Nat → Option (List Nat)} {k : Nat}
theorem endK_some {rs : List ResultVar} {x : Option Res} {r : AVal × Heap} (h : endK P rs x = some r) : ∃ e ρ H l, x = some (e, ρ, H) ∧ (e = .normal ∨ e = .ret) ∧ resA P ρ H rs = some l ∧ r = (tupA l, H) := by
  unfold endK at h
  split at h
  · rename_i ρ H
    simp only [Option.map_eq_some_iff] at h
    obtain ⟨l, hl, rfl⟩ := h
    exact ⟨_, _, _, l, rfl, .inl rfl, hl, rfl⟩
  · rename_i ρ H
    simp only [Option.map_eq_some_iff] at h
    obtain ⟨l, hl, rfl⟩ := h
    exact ⟨_, _, _, l, rfl, .inr rfl, hl, rfl⟩
  · cases h
theorem compF_some {f : FuncId} {X : XF} {args : Row} {H : Heap} {r : AVal × Heap} (h : (compF P T live k f).run X args H = some r) : T.fin f = true ∧ ∃ fn c, P.funcs[f]? = some fn ∧ fn.body = some c ∧ args.length ≤ fn.ntmps ∧ endK P fn.results.toList ((compC P T (live f) k f fn.ntmps c 0).run X (envOf 0 args) H) = some r := by
  unfold compF at h
  split at h
  · rename_i fn h1 h2
    split at h
    · rename_i c hb
      simp only at h
      cases hl : Nat.ble args.length fn.ntmps with
      | false => rw [hl] at h; cases h
      | true =>
        rw [hl] at h
        exact ⟨h1, fn, c, h2, hb, Nat.le_of_ble_eq_true hl, h⟩
    · cases h
  · cases h
theorem execG_quiet (hT : TabOk P T) {n : Nat} {f : FuncId} {args : Row} {H H' : Heap} {r : AVal} (hf : T.rdf f = true) (h : execG P T live k n f args H = some (r, H')) : H' = H := by
  cases n with
  | zero => simp [execG] at h
  | succ n =>
    simp only [execG] at h
    obtain ⟨hfin, fn, c, hfn, hb, hn, he⟩ := compF_some h
    obtain ⟨e, ρ, H2, l, hx, _, _, hr⟩ := endK_some he
    have := compC_quiet c _ _ _ _ (hT.qt f fn c hf hfn hb) hx
    cases hr
    exact this
theorem execG_inl (hT : TabOk P T) (hm : P.follows .mixedOrders = true) : ∀ (n : Nat) (f : FuncId), InlOk P f (execG P T live k n f) := by
  intro n
  induction n with
  | zero => intro f args H r H' h; simp [execG] at h
  | succ n ih =>
    intro f
    cases hfn : P.funcs[f]? with
    | none =>
      intro args H r H' h
      simp only [execG] at h
      obtain ⟨_, fn, c, h1, _⟩ := compF_some h
      rw [hfn] at h1; cases h1
    | some fn =>
      cases hb : fn.body with
      | none =>
        intro args H r H' h
        simp only [execG] at h
        obtain ⟨_, fn', c, h1, h2, _⟩ := compF_some h
        rw [hfn] at h1; cases h1
        rw [hb] at h2; cases h2
      | some c =>
        refine inl_of hfn hb fun args H r H' h => ?_
        simp only [execG] at h
        obtain ⟨hfin, fn', c', h1, h2, hn, he⟩ := compF_some h
        rw [hfn] at h1; cases h1
        rw [hb] at h2; cases h2
        obtain ⟨e, ρ, H2, l, hx, hel, hl, hr⟩ := endK_some he
        cases hr
        have hrf : codeRF (orcX T (execG P T live k n) f) c = true := by rw [codeRF_X (Y := noX)]; exact hT.rf f fn c hfin hfn hb
        have hC := orcX_ok hT (X := execG P T live k n) ih (fun f args H r H' hr hx => execG_quiet hT hr hx) f
        refine ⟨hn, (compC_sound (n0 := H.length) hC hm c _ _ _ _ hrf hx).mono ?_⟩
        rintro e' ρ' H3 q
        simp only [IsX, Prod.mk.injEq] at q
        obtain ⟨rfl, rfl, rfl⟩ := q
        rcases hel with rfl | rfl <;> simp only [retA, hl, and_self]
end
end Go.AI
