/- What single steps come to: for evaluation. -/
import Derived.Test.YtibpipgabcpaoaaAiR
set_option linter.unusedSimpArgs false
namespace Go.AI
open Go.RowKit
section
variable {P : Program} {α β : Type}
def iand (k : IntKind) (a b : Int) : Int := k.wrap (BitVec.ofInt k.bits a &&& BitVec.ofInt k.bits b).toNat
def ior (k : IntKind) (a b : Int) : Int := k.wrap (BitVec.ofInt k.bits a ||| BitVec.ofInt k.bits b).toNat
def ixor (k : IntKind) (a b : Int) : Int := k.wrap (BitVec.ofInt k.bits a ^^^ BitVec.ofInt k.bits b).toNat
def iandn (k : IntKind) (a b : Int) : Int := k.wrap (BitVec.ofInt k.bits a &&& ~~~BitVec.ofInt k.bits b).toNat
def ishl (k : IntKind) (a b : Int) : Int := k.wrap (a * 2 ^ (min b.toNat k.bits))
def ishr (k : IntKind) (a b : Int) : Int := a.fdiv (2 ^ (min b.toNat k.bits))
theorem w64 {a : Int} (h1 : -9223372036854775808 ≤ a) (h2 : a ≤ 9223372036854775807) : IntKind.i64.wrap a = a := by
 simp [IntKind.wrap, IntKind.bits, IntKind.signed]; omega
theorem wu32 {a : Int} (h1 : 0 ≤ a) (h2 : a ≤ 4294967295) : IntKind.u32.wrap a = a := by
 simp [IntKind.wrap, IntKind.bits, IntKind.signed]; omega
theorem wu8 {a : Int} (h1 : 0 ≤ a) (h2 : a ≤ 255) : IntKind.u8.wrap a = a := by
 simp [IntKind.wrap, IntKind.bits, IntKind.signed]; omega
theorem pr_pure (a : α) : pr P (pure a : Sem α) = some a := rfl
theorem pr_bind (x : Sem α) (f : α → Sem β) : pr P (x >>= f) = match pr P x with | some a => pr P (f a) | none => none := by
 show pr P (x.bind f) = _
 induction x with
 | pure a => rfl
 | program k ih => exact ih P
 | mark m k ih => exact ih
 | _ => rfl
variable {t u : TypeId} {x y : Operand} {k k' : IntKind} {a b : Int} {p q : Bool}
theorem ev_add : aBin P .add t x y (.v (.int k a)) (.v (.int k b)) = some (.v (.int k (k.wrap (a + b)))) := by
 simp [aBin, eqGuard, binOp, Op.intArith, pr_pure, asV]
theorem ev_sub : aBin P .sub t x y (.v (.int k a)) (.v (.int k b)) = some (.v (.int k (k.wrap (a - b)))) := by
 simp [aBin, eqGuard, binOp, Op.intArith, pr_pure, asV]
theorem ev_mul : aBin P .mul t x y (.v (.int k a)) (.v (.int k b)) = some (.v (.int k (k.wrap (a * b)))) := by
 simp [aBin, eqGuard, binOp, Op.intArith, pr_pure, asV]
theorem ev_quo (h : b ≠ 0) : aBin P .quo t x y (.v (.int k a)) (.v (.int k b)) = some (.v (.int k (k.wrap (a.tdiv b)))) := by
 simp [aBin, eqGuard, binOp, Op.intDiv, pr_pure, asV, h]
theorem ev_rem (h : b ≠ 0) : aBin P .rem t x y (.v (.int k a)) (.v (.int k b)) = some (.v (.int k (a.tmod b))) := by
 simp [aBin, eqGuard, binOp, Op.intDiv, pr_pure, asV, h]
theorem ev_and : aBin P .and t x y (.v (.int k a)) (.v (.int k b)) = some (.v (.int k (iand k a b))) := by
 simp [aBin, eqGuard, binOp, Op.intBits, pr_pure, asV, iand, ior, ixor, iandn]
theorem ev_or : aBin P .or t x y (.v (.int k a)) (.v (.int k b)) = some (.v (.int k (ior k a b))) := by
 simp [aBin, eqGuard, binOp, Op.intBits, pr_pure, asV, iand, ior, ixor, iandn]
theorem ev_xor : aBin P .xor t x y (.v (.int k a)) (.v (.int k b)) = some (.v (.int k (ixor k a b))) := by
 simp [aBin, eqGuard, binOp, Op.intBits, pr_pure, asV, iand, ior, ixor, iandn]
theorem ev_andNot : aBin P .andNot t x y (.v (.int k a)) (.v (.int k b)) = some (.v (.int k (iandn k a b))) := by
 simp [aBin, eqGuard, binOp, Op.intBits, pr_pure, asV, iand, ior, ixor, iandn]
theorem ev_shl (h : 0 ≤ b) : aBin P .shl t x y (.v (.int k a)) (.v (.int k' b)) = some (.v (.int k (ishl k a b))) := by
 have : ¬ b < 0 := by omega
 simp [aBin, eqGuard, binOp, Op.shift, pr_pure, asV, this, ishl, ishr]
theorem ev_shr (h : 0 ≤ b) : aBin P .shr t x y (.v (.int k a)) (.v (.int k' b)) = some (.v (.int k (ishr k a b))) := by
 have : ¬ b < 0 := by omega
 simp [aBin, eqGuard, binOp, Op.shift, pr_pure, asV, this, ishl, ishr]
theorem ev_eql : aBin P .eql t x y (.v (.int k a)) (.v (.int k b)) = some (.v (.bool (a == b))) := by
 simp [aBin, eqGuard, binOp, Op.intCmp, pr_pure, asV]
theorem ev_neq : aBin P .neq t x y (.v (.int k a)) (.v (.int k b)) = some (.v (.bool (a != b))) := by
 simp [aBin, eqGuard, binOp, Op.intCmp, pr_pure, asV]
theorem ev_lss : aBin P .lss t x y (.v (.int k a)) (.v (.int k b)) = some (.v (.bool (decide (a < b)))) := by
 simp [aBin, eqGuard, binOp, Op.intCmp, pr_pure, asV]
theorem ev_leq : aBin P .leq t x y (.v (.int k a)) (.v (.int k b)) = some (.v (.bool (decide (a ≤ b)))) := by
 simp [aBin, eqGuard, binOp, Op.intCmp, pr_pure, asV]
theorem ev_gtr : aBin P .gtr t x y (.v (.int k a)) (.v (.int k b)) = some (.v (.bool (decide (b < a)))) := by
 simp [aBin, eqGuard, binOp, Op.intCmp, pr_pure, asV]
theorem ev_geq : aBin P .geq t x y (.v (.int k a)) (.v (.int k b)) = some (.v (.bool (decide (b ≤ a)))) := by
 simp [aBin, eqGuard, binOp, Op.intCmp, pr_pure, asV]
theorem pr_und {d : TypeDesc} (h : P.underlying t = some d) : pr P (underlying t) = some d := by
 simp [underlying, pr_bind, program, pr, h, pr_pure]
theorem ev_agg {xs ys : Array Value} {op : BinOp} : aBin P op t x y (.v (.agg xs)) (.v (.agg ys)) = eqAgg P op t xs.toList ys.toList := rfl
theorem ev_not : asV (pr P (Op.unary .not (.bool p))) = some (.v (.bool !p)) := rfl
theorem ev_neg : asV (pr P (Op.unary .neg (.int k a))) = some (.v (.int k (k.wrap (0 - a)))) := rfl
theorem ev_conv {d : TypeDesc} (h : P.underlying t = some d) (h2 : P.underlying u = some (.int k)) : asV (pr P (convert t u (.int k' a))) = some (.v (.int k (k.wrap a))) := by
 simp only [convert, pr_bind, pr_und h, pr_und h2]
 cases d <;> rfl
theorem ev_min2 {c d : Int} {ts : Array TypeId} : asV (pr P (Builtin.min_ ts 0 #[.int k c, .int k' d])) = some (.v (.int k (if d < c then d else c))) := rfl
theorem ev_max2 {c d : Int} {ts : Array TypeId} : asV (pr P (Builtin.max_ ts 0 #[.int k c, .int k' d])) = some (.v (.int k (if d > c then d else c))) := rfl
end
end Go.AI
namespace Go.AI
section
variable {P : Program} {C : Orc} {nt : Nat} {ops : Array Oper} {o : Oper} {ρ : Env} {H : Heap}
theorem gsel_f {x : Option (AVal × Heap)} {d : Option Tmp} : gsel false true x ρ H d = some (put ρ d (.v undef), H) := rfl
theorem gsel_t {x : Option (AVal × Heap)} {d : Option Tmp} : gsel true true x ρ H d = x.map fun r => (put ρ d r.1, r.2) := rfl
theorem gsel_s {b : Bool} {x : Option (AVal × Heap)} {d : Option Tmp} : gsel b false x ρ H d = if b = true ∧ x.isNone = true then none else some (put ρ d (.when b ((x.map Prod.fst).getD .junk)), H) := rfl
theorem imp_left {p q : Prop} : (p → q → p) ↔ True := ⟨fun _ => trivial, fun _ h _ => h⟩
theorem res_same {g : Bool} {x : AVal} : res g (.when g x) = x := by simp [res]
theorem res_and1 {g t : Bool} {x : AVal} : res (g && t) (.when g x) = x := by cases g <;> simp [res]
theorem res_and2 {g t : Bool} {x : AVal} : res (g && t) (.when t x) = x := by cases t <;> simp [res]
theorem res_and3 {g t s : Bool} {x : AVal} : res (g && t && s) (.when g x) = x := by cases g <;> simp [res]
theorem res_and4 {g t s : Bool} {x : AVal} : res (g && t && s) (.when t x) = x := by cases t <;> simp [res]
theorem res_and5 {g t s u : Bool} {x : AVal} : res (g && t && s && u) (.when g x) = x := by cases g <;> simp [res]
theorem res_and6 {g t s u : Bool} {x : AVal} : res (g && t && s && u) (.when (g && t) x) = x := by cases g <;> cases t <;> simp [res]
theorem res_false {g : Bool} {x : AVal} : res false (.when g x) = x := by simp [res]
theorem res_true {g : Bool} {x : AVal} : res g (.when true x) = x := by simp [res]
theorem res_v {g : Bool} {x : Value} : res g (.v x) = .v x := rfl
theorem res_ptr {g : Bool} {a b c d : Nat} : res g (.ptr a b c d) = .ptr a b c d := rfl
theorem res_fptr {g : Bool} {r : Row} {d : Nat} : res g (.fptr r d) = .fptr r d := rfl
theorem res_osl {g : Bool} {a b c d e : Nat} : res g (.osl a b c d e) = .osl a b c d e := rfl
theorem res_xsl {g : Bool} {a b c d e : Nat} : res g (.xsl a b c d e) = .xsl a b c d e := rfl
theorem res_fsl {g o : Bool} {a : Nat} {r : List Row} : res g (.fsl o a r) = .fsl o a r := rfl
theorem res_esl {g : Bool} : res g .esl = .esl := rfl
theorem res_agg {g : Bool} {r : Row} : res g (.agg r) = .agg r := rfl
theorem res_tup {g : Bool} {r : Row} : res g (.tup r) = .tup r := rfl
theorem res_fn {g : Bool} {f : FuncId} {r : Row} : res g (.fn f r) = .fn f r := rfl
theorem res_junk {g : Bool} : res g .junk = .junk := rfl
theorem res_anyb {g : Bool} : res g .anyb = .anyb := rfl
theorem iteV {c : Prop} [Decidable c] {p q : Bool} : (if c then AVal.v (.bool p) else AVal.v (.bool q)) = AVal.v (.bool (if c then p else q)) := by split <;> rfl
end
end Go.AI
namespace Go.AI
theorem hotR_set {rows : List Row} {k : Nat} {r : Row} (h : hotR rows = true) (h2 : hotC r = true) : hotR (rows.set k r) = true := by
 rw [hotR_all, List.all_eq_true] at *
 rw [hotC_all] at h2
 intro x hx
 rcases List.mem_or_eq_of_mem_set hx with hx | rfl
 ·exact h x hx
 ·exact h2
theorem hotR_append {rows rows' : List Row} (h : hotR rows = true) (h2 : hotR rows' = true) : hotR (rows ++ rows') = true := by
 rw [hotR_all] at *
 rw [List.all_append, h, h2]; rfl
theorem take_map_set {α : Type} {l : List α} {g : α → Row} {k : Nat} {r : Row} : List.take l.length ((l.map g).set k r) = (l.map g).set k r := List.take_of_length_le (by simp)
end Go.AI
namespace Go.AI
def irow (k : IntKind) (n : Int) : Row := [.v (.int k n)]
def irowDec (k : IntKind) : Row → Option Int
 | [.v (.int k' n)] => if k' = k then some n else none
 | _ => none
def rI (k : IntKind) : RCod Int := RCod.plain 1 (irow k) (irowDec k)
 (fun e => by simp [irowDec, irow]) (fun _ => rfl) (fun r e h => by
  unfold irowDec at h
  split at h
  ·split at h
   ·rename_i hk; simp at h; rw [hk, h]; rfl
   ·cases h
  ·cases h)
section
variable {k : IntKind}
theorem irow_cold (l : List Int) : coldR (l.map (irow k)) = l.map (irow k) := by
 induction l with
 | nil => simp [coldR]
 | cons e l ih => simp [coldR, coldC, AI.cold, ih, irow]
theorem irow_mapM (l : List Int) : (l.map (irow k)).mapM (irowDec k) = some l := mapM_dec (rI k) l
theorem irow_mapMc (l : List Int) : l.mapM (irowDec k ∘ irow k) = some l := mapM_dec' (rI k) l
theorem irow_view (H : Heap) (n : Nat) (e : Int) : List.map (AI.view H n) (irow k e) = irow k e := by cases n <;> simp [irow, AI.view]
theorem irow_viewc (H : Heap) (n : Nat) : List.map (AI.view H n) ∘ irow k = irow k := by funext e; exact irow_view H n e
theorem irow_hotR (l : List Int) : AI.hotR (l.map (irow k)) = true := by
 induction l with
 | nil => simp [AI.hotR]
 | cons e l ih => simp [AI.hotR, hotC, hot, ih, irow]
theorem irow_ren (n : Nat) (th : List Nat) (e : Int) : List.map (ren n th) (irow k e) = irow k e := by simp [irow, ren]
theorem irow_renc (n : Nat) (th : List Nat) : List.map (ren n th) ∘ irow k = irow k := by funext e; exact irow_ren n th e
theorem irow_low (n : Nat) (e : Int) : (irow k e).all (lowA n) = true := by simp [irow, lowA]
end
end Go.AI
namespace Go.AI
theorem ev_lenN {P : Program} {t e : TypeId} (h : P.underlying t = some (.slice e)) : asV (pr P (Builtin.len_ #[t] 0 #[.slice none 0 0])) = some (.v (.int .i64 0)) := by
 simp only [Builtin.len_]
 simp [pr_bind, pr_und h, pr_pure, asV, goInt]
end Go.AI
