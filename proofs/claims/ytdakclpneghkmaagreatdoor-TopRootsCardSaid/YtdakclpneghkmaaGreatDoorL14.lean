/- Contracts that answer one of several states: heads; a whole object known a little less. -/
import Derived.Test.YtdakclpneghkmaaGreatDoorL13
namespace Go.AI
set_option linter.unusedSectionVars false
variable [Sym]
set_option linter.unusedSimpArgs false
set_option linter.unusedVariables false
open Go.RowKit
section
variable {P : Program} {f : FuncId} {fn : Func} {code : Code} {σ α₁ α₂ α₃ α₄ α₅ : Type}
theorem Ent.rowsL {n0 : Nat} {H : Heap} {ρ : Env} {M szM : Nat} {R R' : List Row} (hM : obj H M = some (szM, R)) (hl : R'.length = R.length) (hr : ∀ (i : Nat) (r r' : Row), R[i]? = some r → R'[i]? = some r' → r'.length = r.length ∧ ∀ (j : Nat) (a b : AVal), r[j]? = some a → r'[j]? = some b → Lss a b) :
  Ent n0 (ρ, H.set M (some (szM, R'))) (ρ, H) := by
 intro f base w0 β fz act w hn0 h
 obtain ⟨hM1, hM2⟩ := obj_live hM
 have hlt : M < H.length := (List.getElem?_eq_some_iff.1 hM1).1
 have hold : ∀ k x, (H.set M (some (szM, R')))[k]? = some (some x) → Live H k := by
  intro k x hk
  by_cases e : k = M
  ·subst e; exact ⟨_, hM1⟩
  ·rw [List.getElem?_set_ne (fun q => e q.symm)] at hk; exact ⟨_, hk⟩
 refine ⟨β, fz, ⟨⟨?_, ?_, ?_, h.heap.fzlt, h.heap.below, h.heap.base⟩, h.defers, h.size, ?_, ?_⟩⟩
 ·intro k sz rws hk
  simp only [List.length_set]
  by_cases e : k = M
  ·subst e
   rw [List.getElem?_set_self hlt] at hk
   simp only [Option.some.injEq, Prod.mk.injEq] at hk
   obtain ⟨rfl, rfl⟩ := hk
   rw [OSim, if_neg hM2]
   obtain ⟨cs, e, g1, g2, g3, g4, g5⟩ := h.heap.cells0 hM1 hM2
   have hat : ∀ (i : Nat) (r' : Row), R'[i]? = some r' → ∃ r, R[i]? = some r := fun i r' hi => by
    have : i < R.length := by have := (List.getElem?_eq_some_iff.1 hi).1; omega
    exact ⟨_, List.getElem?_eq_getElem this⟩
   refine ⟨cs, e, g1, ?_, by rw [hl]; exact g3, g4, ?_⟩
   ·intro r' hr'
    obtain ⟨i, hi⟩ := List.getElem?_of_mem hr'
    obtain ⟨r, hri⟩ := hat i r' hi
    rw [(hr i r r' hri hi).1]
    exact g2 r (List.mem_of_getElem? hri)
   ·intro i r' hi j c hj
    obtain ⟨r, hri⟩ := hat i r' hi
    obtain ⟨q1, q2⟩ := hr i r r' hri hi
    have hjl : j < r.length := by have := (List.getElem?_eq_some_iff.1 hj).1; omega
    exact q2 j _ c (List.getElem?_eq_getElem hjl) hj (fun o b hb => ⟨hb.1, fun q => by cases q⟩) (g5 i r hri j _ (List.getElem?_eq_getElem hjl))
  ·rw [List.getElem?_set_ne (fun q => e q.symm)] at hk
   exact h.heap.objs' k sz rws hk
 ·exact fun a b ⟨x, hx⟩ ⟨y, hy⟩ => h.heap.inj a b (hold _ _ hx) (hold _ _ hy)
 ·exact fun k ⟨x, hx⟩ => h.heap.own k (hold _ _ hx)
 ·have := h.ext; simpa using this
 ·exact fun s => (h.env s).mono (by simp) (fun _ _ => rfl) (fun _ _ q => q) (fun _ _ _ => rfl) (Shapes.refl _)
theorem Lss.junk {a : AVal} : Lss a .junk := fun _ _ => .junk
end
section
variable {P : Program} {C : Orc} {nt n0 : Nat} {ρ : Env} {H : Heap} {ops : Array Oper} {σ : Type}
end
end Go.AI
/- The interpreter that runs, made fast: each operation is looked at once. -/
namespace Go.AI
set_option linter.unusedSectionVars false
variable [Sym]
set_option linter.unusedSimpArgs false
set_option linter.unusedVariables false
set_option maxRecDepth 100000
open Go.RowKit
abbrev XF := FuncId → Row → Heap → Option (AVal × Heap)
structure KB where
 run : XF → Env → Heap → Option (Env × Heap)
def lk : Env → Nat → AVal
 | [], _ => .junk
 | p :: r, t => cond (Nat.beq t p.1) p.2 (lk r t)
theorem lk_eq (ρ : Env) (t : Nat) : lk ρ t = look ρ t := by
 induction ρ with
 | nil => rfl
 | cons p r ih =>
  obtain ⟨s, a⟩ := p
  simp only [lk, look, ih]
  by_cases h : t = s
  ·subst h; simp
  ·have hb : Nat.beq t s = false := by
    cases hq : Nat.beq t s with
    | false => rfl
    | true => exact absurd (Nat.eq_of_beq_eq_true hq) h
   rw [hb, if_neg h]; rfl
def opd (ρ : Env) (x : Operand) : AVal := Operand.casesOn (motive := fun _ => AVal) x (fun t => res true (lk ρ t)) (fun v => .v v) (fun _ => .junk) (fun f => .fn f [])
theorem opd_eq (ρ : Env) (x : Operand) : opd ρ x = res true (ev ρ x) := by
 cases x with
 | tmp t => simp only [opd, ev, lk_eq]
 | const v => rfl
 | global g => rfl
 | func f => rfl
def lget {α : Type} : List α → Nat → Option α
 | [], _ => none
 | x :: l, i => Nat.casesOn (motive := fun _ => Option α) i (some x) (fun j => lget l j)
theorem lget_eq {α : Type} (l : List α) (i : Nat) : lget l i = l[i]? := by
 induction l generalizing i with
 | nil => simp [lget]
 | cons x l ih => cases i with
  | zero => rfl
  | succ i => simpa [lget] using ih i
def ltZ : Int → Int → Bool
 | .ofNat m, .ofNat n => Nat.blt m n
 | .ofNat _, .negSucc _ => false
 | .negSucc _, .ofNat _ => true
 | .negSucc m, .negSucc n => Nat.blt n m
theorem blt_dec (m n : Nat) : Nat.blt m n = decide (m < n) := by
 rw [Bool.eq_iff_iff]
 simp [Nat.blt, Nat.succ_le_iff]
theorem ltZ_eq (a b : Int) : ltZ a b = decide (a < b) := by
 rw [Bool.eq_iff_iff, decide_eq_true_iff]
 cases a with
 | ofNat m => cases b with
  | ofNat n => simp only [ltZ, blt_dec, decide_eq_true_eq, Int.ofNat_eq_natCast]; omega
  | negSucc n =>
   constructor
   ·intro h; cases h
   ·intro h
    have := Int.negSucc_lt_zero n
    simp only [Int.ofNat_eq_natCast] at h
    omega
 | negSucc m => cases b with
  | ofNat n =>
   constructor
   ·intro _
    have := Int.negSucc_lt_zero m
    simp only [Int.ofNat_eq_natCast]
    omega
   ·intro _; rfl
  | negSucc n => simp only [ltZ, blt_dec, decide_eq_true_eq, Int.negSucc_eq]; omega
def eqZ : Int → Int → Bool
 | .ofNat m, .ofNat n => Nat.beq m n
 | .negSucc m, .negSucc n => Nat.beq m n
 | _, _ => false
theorem beq_dec (m n : Nat) : Nat.beq m n = decide (m = n) := by
 rw [Bool.eq_iff_iff]; simp [Nat.beq_eq]
theorem eqZ_eq (a b : Int) : eqZ a b = (a == b) := by
 rw [Bool.eq_iff_iff, beq_iff_eq]
 cases a <;> cases b <;> simp [eqZ, beq_dec] <;> omega
def topK : IntKind → Nat
 | .i8 => 128 | .i16 => 32768 | .i32 => 2147483648 | .i64 => 9223372036854775808
 | .u8 => 256 | .u16 => 65536 | .u32 => 4294967296 | .u64 => 18446744073709551616
def sgK : IntKind → Bool
 | .i8 => true | .i16 => true | .i32 => true | .i64 => true
 | _ => false
def wrapZ (k : IntKind) (n : Int) : Int :=
 match n with
 | .ofNat m => cond (Nat.blt m (topK k)) (.ofNat m) (k.wrap (.ofNat m))
 | .negSucc m => cond (sgK k && Nat.blt m (topK k)) (.negSucc m) (k.wrap (.negSucc m))
theorem wrap_u {k : IntKind} {n : Int} (h0 : 0 ≤ n) (h : n < (topK k : Int)) : k.wrap n = n := by
 cases k <;> simp [topK] at h <;> simp [IntKind.wrap, IntKind.bits, IntKind.signed] <;> omega
theorem wrap_s {k : IntKind} {n : Int} (hk : sgK k = true) (h0 : -(topK k : Int) ≤ n) (h : n < 0) : k.wrap n = n := by
 cases k <;> simp [sgK] at hk <;> simp [topK] at h0 <;> simp [IntKind.wrap, IntKind.bits, IntKind.signed] <;> omega
theorem wrapZ_eq (k : IntKind) (n : Int) : wrapZ k n = k.wrap n := by
 cases n with
 | ofNat m =>
  simp only [wrapZ, blt_dec]
  by_cases h : m < topK k
  ·rw [decide_eq_true h, cond_true, wrap_u (by simp only [Int.ofNat_eq_natCast]; omega) (by simp only [Int.ofNat_eq_natCast]; omega)]
  ·rw [decide_eq_false h, cond_false]
 | negSucc m =>
  simp only [wrapZ, blt_dec]
  cases hk : sgK k with
  | false => rfl
  | true =>
   by_cases h : m < topK k
   ·rw [decide_eq_true h, Bool.true_and, cond_true, wrap_s hk (by rw [Int.negSucc_eq]; omega) (Int.negSucc_lt_zero m)]
   ·rw [decide_eq_false h, Bool.and_false, cond_false]
def fbin : BinOp → Option (IntKind → Int → Int → AVal)
 | .add => some fun k a b => .v (.int k (wrapZ k (a + b)))
 | .sub => some fun k a b => .v (.int k (wrapZ k (a - b)))
 | .mul => some fun k a b => .v (.int k (wrapZ k (a * b)))
 | .and => some fun k a b => .v (.int k (iand k a b))
 | .or => some fun k a b => .v (.int k (ior k a b))
 | .xor => some fun k a b => .v (.int k (ixor k a b))
 | .andNot => some fun k a b => .v (.int k (iandn k a b))
 | .eql => some fun _ a b => .v (.bool (eqZ a b))
 | .neq => some fun _ a b => .v (.bool (!eqZ a b))
 | .lss => some fun _ a b => .v (.bool (ltZ a b))
 | .leq => some fun _ a b => .v (.bool (!ltZ b a))
 | .gtr => some fun _ a b => .v (.bool (ltZ b a))
 | .geq => some fun _ a b => .v (.bool (!ltZ a b))
 | _ => none
theorem fbin_eq {P : Program} {op : BinOp} {g : IntKind → Int → Int → AVal} (h : fbin op = some g) {t : TypeId} {x y : Operand} {k : IntKind} {a b : Int} : aBin P op t x y (.v (.int k a)) (.v (.int k b)) = some (g k a b) := by
 cases op with
 | add => cases h; simp only [wrapZ_eq]; exact ev_add
 | sub => cases h; simp only [wrapZ_eq]; exact ev_sub
 | mul => cases h; simp only [wrapZ_eq]; exact ev_mul
 | and => cases h; exact ev_and
 | or => cases h; exact ev_or
 | xor => cases h; exact ev_xor
 | andNot => cases h; exact ev_andNot
 | eql => cases h; simp only [eqZ_eq]; exact ev_eql
 | neq => cases h; simp only [eqZ_eq]; exact ev_neq
 | lss => cases h; simp only [ltZ_eq]; exact ev_lss
 | gtr => cases h; simp only [ltZ_eq]; exact ev_gtr
 | leq =>
  cases h
  have : (!ltZ b a) = decide (a ≤ b) := by rw [ltZ_eq, Bool.eq_iff_iff]; simp
  simp only [this]; exact ev_leq
 | geq =>
  cases h
  have : (!ltZ a b) = decide (b ≤ a) := by rw [ltZ_eq, Bool.eq_iff_iff]; simp
  simp only [this]; exact ev_geq
 | _ => cases h
def kq : IntKind → IntKind → Bool
 | .i64, .i64 => true
 | .u8, .u8 => true
 | .u32, .u32 => true
 | k, k' => decide (k = k')
theorem kq_eq {k k' : IntKind} (h : kq k k' = true) : k = k' := by
 cases k <;> cases k' <;> first | rfl | (simp [kq] at h)
def binE (P : Program) (op : BinOp) (t : TypeId) (x y : Operand) (a b : AVal) (H : Heap) : Option (AVal × Heap) :=
 match aBin P op t x y a b with
 | some r => some (r, H)
 | none => match x, y with
  | .tmp _, .tmp _ => (aEqH P op t a b H).map (·, H)
  | _, _ => none
def readF (P : Program) (t : TypeId) : Row → Nat → Option AVal :=
 match aggOf P t with
 | some false => lget
 | _ => readAt P t
theorem readF_eq (P : Program) (t : TypeId) (row : Row) (off : Nat) : readF P t row off = readAt P t row off := by
 unfold readF
 cases h : aggOf P t with
 | none => rfl
 | some b => cases b with
  | true => rfl
  | false =>
   unfold readAt
   rw [h]
   exact lget_eq row off
structure RB where
 run : Row → Nat → Option AVal
def idxF (a : AVal) (n : Nat) : Option Nat :=
 match a with
 | .v (.int _ (.ofNat m)) => cond (Nat.blt m n) (some m) none
 | _ => none
theorem idxF_eq (a : AVal) (n : Nat) : idxF a n = idx a n := by
 unfold idxF idx
 split
 ·rename_i m
  simp only [blt_dec]
  by_cases h : m < n
  ·have : (0 : Int) ≤ Int.ofNat m ∧ Int.ofNat m < (n : Int) := by simp only [Int.ofNat_eq_natCast]; omega
   simp [h]
  ·have : ¬ ((0 : Int) ≤ Int.ofNat m ∧ Int.ofNat m < (n : Int)) := by simp only [Int.ofNat_eq_natCast]; omega
   simp [h]
 ·rename_i hn
  split
  ·rename_i k i
   cases i with
   | ofNat m => exact absurd rfl (hn k m)
   | negSucc m =>
    have : ¬ ((0 : Int) ≤ Int.negSucc m ∧ Int.negSucc m < (n : Int)) := by omega
    rw [if_neg this]
  ·rfl
structure IB where
 run : AVal → AVal → Option AVal
def ixF (P : Program) (t : TypeId) : IB :=
 match arrayOf P t with
 | some (n, e) => match szOf P e with
  | some sz => ⟨fun a i => match idxF i n with
   | some k => match a with
    | .ptr id s j off => cond (Nat.beq s 0) none (some (.ptr id s j (off + k * sz)))
    | .fptr row off => some (.fptr row (off + k * sz))
    | _ => none
   | none => none⟩
  | none => ⟨fun a i => aIndexAddr P t a i⟩
 | none => ⟨fun a i => match a with
  | .osl id sz' s len kc => match sliceElem P t with
   | some e => match szOf P e with
    | some sz => if sz' = sz ∧ sz ≠ 0 then (match idxF i len with | some k => some (.ptr id sz (s + k) 0) | none => none) else none
    | none => none
   | none => none
  | a => aIndexAddr P t a i⟩
theorem ixF_eq (P : Program) (t : TypeId) (a i : AVal) : (ixF P t).run a i = aIndexAddr P t a i := by
 unfold ixF
 cases h : arrayOf P t with
 | some q =>
  obtain ⟨n, e⟩ := q
  simp only
  cases h2 : szOf P e with
  | none => rfl
  | some sz =>
   simp only [aIndexAddr, h, h2, idxF_eq]
   cases idx i n with
   | none => rfl
   | some k =>
    cases a with
    | ptr id s j off =>
     simp only [beq_dec]
     by_cases hs : s = 0
     ·subst hs; rfl
     ·rw [if_neg hs, decide_eq_false hs]; rfl
    | _ => rfl
 | none =>
  cases a with
  | osl id sz' s len kc =>
   simp only [aIndexAddr, h, idxF_eq]
   cases sliceElem P t with
   | none => rfl
   | some e =>
    simp only
    cases szOf P e with
    | none => rfl
    | some sz =>
     simp only
     split
     ·cases idx i len <;> rfl
     ·rfl
  | _ => rfl
def callOk (P : Program) (g : FuncId) : Bool := match P.funcs[g]? with
 | some fn => !(fn.name == "runtime.NumGoroutine")
 | none => false
def callRd (P : Program) (g : FuncId) : Bool := match P.funcs[g]? with
 | some fn => !(fn.name == "runtime.NumGoroutine" || fn.body.isNone)
 | none => false
section
variable {P : Program} {T : Tab} {f : FuncId} {nt : Nat} {ops : Array Oper}
end
structure KC where
 run : XF → Env → Heap → Option Res
def prune (L : List Nat) (ρ : Env) : Env := L.map fun t => (t, lk ρ t)
theorem prune_look (L : List Nat) (ρ : Env) : ∀ p ∈ prune L ρ, look ρ p.1 = p.2 := by
 intro p hp
 unfold prune at hp
 obtain ⟨t, _, rfl⟩ := List.mem_map.1 hp
 exact (lk_eq ρ t).symm
def iterP (W : Env → Heap → Option Res) (L : Option (List Nat)) : Nat → Env → Heap → Option Res
 | 0, _, _ => none
 | n + 1, ρ, H => match W (match L with | some L => prune L ρ | none => ρ) H with
  | some (.normal, ρ', H') => iterP W L n ρ' H'
  | r => r
section
variable {P : Program} {nt n0 : Nat}
theorem AWp.sub {c : Code} {Q : Post} {ρ ρ' : Env} {H : Heap} (hl : ∀ p ∈ ρ', look ρ p.1 = p.2) (h : AWp P nt n0 c Q ρ' H) : AWp P nt n0 c Q ρ H := by
 intro f base w0 β fz a w h1 h2 hs
 obtain ⟨β', fz', hs'⟩ := Ent.env (n0 := n0) (H := H) hl f base w0 β fz a w h2 hs
 exact h f base w0 β' fz' a w h1 h2 hs'
theorem iterP_sound {W : Env → Heap → Option Res} {L : Option (List Nat)} {c : Code} (hW : ∀ ρ H r, W ρ H = some r → AWp P nt n0 c (IsX r) ρ H) {n : Nat} {ρ : Env} {H : Heap} {r : Res} (h : iterP W L n ρ H = some r) : AWp P nt n0 (.loop c) (IsX r) ρ H := by
 refine LoopA_sound (W := fun Q ρ H => AWp P nt n0 c Q ρ H) (fun Q ρ H h => h) (.inl ⟨n, ?_⟩)
 have hpr : ∀ ρ : Env, ∀ p ∈ (match L with | some L => prune L ρ | none => ρ), look ρ p.1 = p.2 ∨ L = none := by
  intro ρ p hp
  cases L with
  | none => exact .inr rfl
  | some L => exact .inl (prune_look L ρ p hp)
 have hsub : ∀ {Q : Post} {ρ : Env} {H : Heap}, AWp P nt n0 c Q (match L with | some L => prune L ρ | none => ρ) H → AWp P nt n0 c Q ρ H := by
  intro Q ρ H hA
  cases L with
  | none => exact hA
  | some L => exact AWp.sub (prune_look L ρ) hA
 induction n generalizing ρ H with
 | zero => simp [iterP] at h
 | succ n ih =>
  simp only [UnrA]
  simp only [iterP] at h
  split at h
  ·rename_i ρ' H' h1
   refine hsub ((hW _ _ _ h1).mono ?_)
   rintro e ρ2 H2 q
   simp only [IsX, Prod.mk.injEq] at q
   obtain ⟨rfl, rfl, rfl⟩ := q
   exact ih h
  ·rename_i hn
   refine hsub ((hW _ _ _ h).mono ?_)
   rintro e ρ2 H2 q
   cases e with
   | normal =>
    simp only [IsX] at q
    subst q
    exact (hn _ _ h).elim
   | _ => exact q
end
section
variable {P : Program} {nt : Nat}
theorem iterP_quiet {W : Env → Heap → Option Res} {L : Option (List Nat)} (hW : ∀ ρ H r, W ρ H = some r → r.2.2 = H) : ∀ {n : Nat} {ρ : Env} {H : Heap} {r : Res}, iterP W L n ρ H = some r → r.2.2 = H
 | 0, ρ, H, r, h => by simp [iterP] at h
 | n + 1, ρ, H, r, h => by
  simp only [iterP] at h
  split at h
  ·rename_i ρ' H' h1
   have := hW _ _ _ h1
   simp only at this
   subst this
   exact iterP_quiet hW h
  ·exact hW _ _ _ h
end
structure KF where
 run : XF → Row → Heap → Option (AVal × Heap)
def endK (P : Program) (rs : List ResultVar) : Option Res → Option (AVal × Heap)
 | some (.normal, ρ, H) => (resA P ρ H rs).map fun l => (tupA l, H)
 | some (.ret, ρ, H) => (resA P ρ H rs).map fun l => (tupA l, H)
 | _ => none
section
variable {P : Program} {T : Tab} {live : FuncId → Nat → Option (List Nat)} {k : Nat}
theorem endK_some {rs : List ResultVar} {x : Option Res} {r : AVal × Heap} (h : endK P rs x = some r) : ∃ e ρ H l, x = some (e, ρ, H) ∧ (e = .normal ∨ e = .ret) ∧ resA P ρ H rs = some l ∧ r = (tupA l, H) := by
 unfold endK at h
 split at h
 ·rename_i ρ H
  simp only [Option.map_eq_some_iff] at h
  obtain ⟨l, hl, rfl⟩ := h
  exact ⟨_, _, _, l, rfl, .inl rfl, hl, rfl⟩
 ·rename_i ρ H
  simp only [Option.map_eq_some_iff] at h
  obtain ⟨l, hl, rfl⟩ := h
  exact ⟨_, _, _, l, rfl, .inr rfl, hl, rfl⟩
 ·cases h
end
end Go.AI
