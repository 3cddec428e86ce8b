/- Loops that count. -/
import Derived.Test.YtibpipgabcpaoaaAiS
import Derived.Lib.Overlaps
set_option linter.unusedSimpArgs false
set_option linter.unusedVariables false
namespace Go.AI
section
variable {P : Program} {C : Orc} {nt n0 : Nat} {ρ ρ' : Env} {H H' : Heap}
theorem wpX_mono {L : Code → Post → Env → Heap → Prop} (hL : ∀ c Q Q' ρ H, (∀ e ρ H, Q e ρ H → Q' e ρ H) → L c Q ρ H → L c Q' ρ H) :
  ∀ (c : Code) (Q Q' : Post) (ρ : Env) (H : Heap), (∀ e ρ H, Q e ρ H → Q' e ρ H) → wpX P C nt L c Q ρ H → wpX P C nt L c Q' ρ H := by
 intro c
 induction c with
 | skip => intro Q Q' ρ H hq h; exact hq _ _ _ h
 | label l => intro Q Q' ρ H hq h; exact hq _ _ _ h
 | exit id => intro Q Q' ρ H hq h; exact hq _ _ _ h
 | ret => intro Q Q' ρ H hq h; exact hq _ _ _ h
 | region id ops draw =>
  intro Q Q' ρ H hq h
  simp only [wpX] at h ⊢
  split at h
  ·rename_i hd
   rw [if_pos hd]
   simp only [RunA] at h ⊢
   split at h
   ·exact hq _ _ _ h
   ·exact h.elim
  ·rename_i hd
   rw [if_neg hd]
   unfold RunR at h ⊢
   by_cases hnx : C.dyn id = [(1000000, 1000000)]
   ·rw [if_pos hnx] at h ⊢
    exact ⟨h.1, RunN_mono (fun ρ H q => hq _ _ _ q) h.2⟩
   rw [if_neg hnx] at h ⊢
   split at h
   ·rename_i ha
    rw [if_pos ha]
    simp only [RunD] at h ⊢
    split at h
    ·exact ⟨h.1, hq _ _ _ h.2⟩
    ·exact h.elim
   ·rename_i ha
    rw [if_neg ha]
    by_cases hmo : ((C.dyn id).headD (0, 0)).1 = 1000001
    ·rw [if_pos hmo] at h ⊢
     obtain ⟨s, hK, hT⟩ := h
     exact ⟨s, hq _ _ _ hK, hT⟩
    rw [if_neg hmo] at h ⊢
    have key : ∀ τ, RunE P C nt (C.dyn id).tail τ ops (Q .normal) ρ H → RunE P C nt (C.dyn id).tail τ ops (Q' .normal) ρ H := by
     intro τ h
     simp only [RunE] at h ⊢
     split at h
     ·exact ⟨h.1, hq _ _ _ h.2⟩
     ·exact h.elim
    exact ⟨key _ h.1, key _ h.2⟩
 | seq x y ihx ihy =>
  intro Q Q' ρ H hq h
  simp only [wpX] at h ⊢
  refine ihx _ _ ρ H ?_ h
  intro e ρ' H' q
  cases e with
  | normal => exact ihy _ _ _ _ hq q
  | _ => exact hq _ _ _ q
 | cond c x y ihx ihy =>
  intro Q Q' ρ H hq h
  simp only [wpX, condA] at h ⊢
  split at h
  ·rename_i t ht
   cases t
   ·exact ihy _ _ _ _ hq h
   ·exact ihx _ _ _ _ hq h
  ·exact ⟨ihx _ _ _ _ hq h.1, ihy _ _ _ _ hq h.2⟩
  ·exact h.elim
 | block id x ih =>
  intro Q Q' ρ H hq h
  simp only [wpX] at h ⊢
  refine ih _ _ ρ H ?_ h
  intro e ρ' H' q
  cases e with
  | exit id' =>
   simp only [blockA] at q ⊢
   split at q
   ·rename_i hh; rw [if_pos hh]; exact hq _ _ _ q
   ·rename_i hh; rw [if_neg hh]; exact hq _ _ _ q
  | _ => exact hq _ _ _ q
 | loop x ih => intro Q Q' ρ H hq h; exact hL x Q Q' ρ H hq h
 | rangeFunc _ _ _ _ _ _ => intro Q Q' ρ H _ h; simp [wpX] at h
 | scope _ _ => intro Q Q' ρ H _ h; simp [wpX] at h
 | goto _ => intro Q Q' ρ H _ h; simp [wpX] at h
 | refuse _ => intro Q Q' ρ H _ h; simp [wpX] at h
theorem thenA_mono {N N' : Env → Heap → Prop} {Q Q' : Post} (h1 : ∀ ρ H, N ρ H → N' ρ H) (h2 : ∀ e ρ H, Q e ρ H → Q' e ρ H) : ∀ e ρ H, thenA N Q e ρ H → thenA N' Q' e ρ H := by
 intro e ρ H q
 cases e with
 | normal => exact h1 _ _ q
 | _ => exact h2 _ _ _ q
theorem LoopK_mono : ∀ (k : Nat) (c : Code) (Q Q' : Post) (ρ : Env) (H : Heap), (∀ e ρ H, Q e ρ H → Q' e ρ H) → LoopK P C nt n0 k c Q ρ H → LoopK P C nt n0 k c Q' ρ H
 | 0, _, _, _, _, _, _, h => h.elim
 | k + 1, c, Q, Q', ρ, H, hq, h => by
  have hW : ∀ {Q Q' : Post} {ρ H}, (∀ e ρ H, Q e ρ H → Q' e ρ H) → wpX P C nt (LoopK P C nt n0 k) c Q ρ H → wpX P C nt (LoopK P C nt n0 k) c Q' ρ H := fun hq h => wpX_mono (LoopK_mono k) c _ _ _ _ hq h
  rcases h with ⟨n, h⟩ | ⟨σ, st, μ, s0, hw, hround⟩ | ⟨σ, st, μ, s0, th, hw, hround⟩ | ⟨σ, st, μ, s0, hw, hround⟩
  ·refine .inl ⟨n, ?_⟩
   induction n generalizing ρ H with
   | zero => exact h
   | succ n ihn => exact hW (thenA_mono (fun ρ H q => ihn ρ H q) hq) h
  ·exact .inr (.inl ⟨σ, st, μ, s0, hw, fun s => hW (thenA_mono (fun _ _ q => q) hq) (hround s)⟩)
  ·exact .inr (.inr (.inl ⟨σ, st, μ, s0, th, hw, fun s => hW (thenA_mono (fun _ _ q => q) hq) (hround s)⟩))
  ·exact .inr (.inr (.inr ⟨σ, st, μ, s0, hw, fun s => hW (thenA_mono (fun _ _ q => q) hq) (hround s)⟩))
def NextF {α : Type} (n0 : Nat) (st : Nat → α → Env × Heap) (inv : Nat → α → Prop) (k : Nat) (ρ : Env) (H : Heap) : Prop := ∃ a, inv k a ∧ Weaker n0 (st k a) (ρ, H)
@[congr] theorem NextF_congr {α : Type} {st : Nat → α → Env × Heap} {inv : Nat → α → Prop} {k : Nat} (h1 : ρ = ρ') (h2 : H = H') : NextF n0 st inv k ρ H = NextF n0 st inv k ρ' H' := by rw [h1, h2]
theorem wrapN {k n : Nat} (h : k < n) (hn : n ≤ 4294967296) : IntKind.i64.wrap ((k : Int) + 1) = (k : Int) + 1 := by
 rw [w64 (by omega) (by omega)]
theorem loop_for {K : Nat} {c : Code} {Q : Post} {α : Type} (n : Nat) (st : Nat → α → Env × Heap) (inv : Nat → α → Prop) (a0 : α) (hn : n ≤ 4294967296) (hi : inv 0 a0) (h0 : Weaker n0 (st 0 a0) (ρ, H))
  (step : ∀ k a, k < n → inv k a → IntKind.i64.wrap ((k : Int) + 1) = (k : Int) + 1 → wpX P C nt (LoopK P C nt n0 K) c (thenA (NextF n0 st inv (k + 1)) Q) (st k a).1 (st k a).2)
  (last : ∀ a, inv n a → wpX P C nt (LoopK P C nt n0 K) c (thenA (fun _ _ => False) Q) (st n a).1 (st n a).2) : LoopK P C nt n0 (K + 1) c Q ρ H := by
 refine loop_inv (σ := {p : Nat × α // p.1 ≤ n ∧ inv p.1 p.2}) (fun p => st p.val.1 p.val.2) (fun p => n - p.val.1) ⟨(0, a0), Nat.zero_le _, hi⟩ h0 ?_
 rintro ⟨⟨k, a⟩, hk, hka⟩
 simp only at hk hka ⊢
 rcases Nat.lt_or_ge k n with hlt | hge
 ·refine wpX_mono (LoopK_mono K) c _ _ _ _ (thenA_mono ?_ fun _ _ _ q => q) (step k a hlt hka (wrapN hlt hn))
  rintro ρ H ⟨a', h1, h2⟩
  exact ⟨⟨(k + 1, a'), hlt, h1⟩, by simp only; omega, h2⟩
 ·have : k = n := by omega
  subst this
  exact wpX_mono (LoopK_mono K) c _ _ _ _ (thenA_mono (fun _ _ q => q.elim) fun _ _ _ q => q) (last a hka)
def NextT {α : Type} (n0 : Nat) (st : Nat → α → Env × Heap) (inv : Nat → α → Prop) (k : Nat) (ρ : Env) (H : Heap) : Prop := ∃ a, inv k a ∧ ∃ th, WeakT n0 th (st k a) (ρ, H)
@[congr] theorem NextT_congr {α : Type} {st : Nat → α → Env × Heap} {inv : Nat → α → Prop} {k : Nat} (h1 : ρ = ρ') (h2 : H = H') : NextT n0 st inv k ρ H = NextT n0 st inv k ρ' H' := by rw [h1, h2]
end
end Go.AI
namespace Go.AI
def ownA (id sz : Nat) (rows : List Row) : AVal := if rows = [] then .v (.slice none 0 0) else .osl id sz 0 rows.length rows.length
def ownT (sz : Nat) (rows : List Row) : Heap := if rows = [] then [] else [some (sz, rows)]
theorem ownA_nil {id sz : Nat} : ownA id sz [] = .v (.slice none 0 0) := rfl
theorem ownT_nil {sz : Nat} : ownT sz [] = [] := rfl
end Go.AI
namespace Go.AI
theorem body_gen {P : Program} {fn : Func} {c : Code} {C : Orc} {args : Row} {r : AVal} (hC : OrcOk P C) (hm : P.follows .mixedOrders = true) (hrf : codeRF C c = true) (hn : args.length ≤ fn.ntmps)
  (h : ∀ C' : Orc, C'.pure = C.pure → C'.inl = C.inl → C'.inline = C.inline → C'.dyn = C.dyn → C'.fp = C.fp → C'.alt = C.alt → C'.rd = C.rd → C'.cl = C.cl → wpA P C' fn.ntmps 0 c (retA P fn fun x H => view H depthV x = r ∧ hot r = true) (envOf 0 args) []) : Body P fn c args r :=
 body_of hC hm hrf hn (h C rfl rfl rfl rfl rfl rfl rfl rfl)
theorem orcP {P : Program} {C : Orc} {f : FuncId} {m : Row → Option AVal} (_ : PureOk P f m) (h : C.pure f = m) : C.pure f = m := h
theorem orcI {P : Program} {C : Orc} {f : FuncId} {m : Row → Heap → Option (AVal × Heap)} (_ : InlOk P f m) (h : C.inline f = m) : C.inline f = m := h
end Go.AI
namespace Go.AI
theorem selfLt {n : Nat} : ((n : Int) < (n : Int) + 1) = True := eq_true (by omega)
theorem natLt0 {n : Nat} : ((n : Int) + 1 = 0) = False := eq_false (by omega)
theorem natLt1 {n : Nat} : ((n : Int) + 1 ≤ 0) = False := eq_false (by omega)
theorem getLastMap {α β : Type} {g : α → β} {l : List α} {a : β} : (l.map g ++ [a])[l.length]? = some a := by
 simp
end Go.AI
namespace Go.AI
theorem ownA_c {id sz : Nat} {x : Row} {l : List Row} : ownA id sz (x :: l) = .osl id sz 0 (l.length + 1) (l.length + 1) := rfl
theorem ownT_c {sz : Nat} {x : Row} {l : List Row} : ownT sz (x :: l) = [some (sz, x :: l)] := rfl
theorem ownA_s {id sz : Nat} {x : Row} {l m : List Row} : ownA id sz (l ++ x :: m) = .osl id sz 0 (l ++ x :: m).length (l ++ x :: m).length := by simp [ownA]
theorem ownT_s {sz : Nat} {x : Row} {l m : List Row} : ownT sz (l ++ x :: m) = [some (sz, l ++ x :: m)] := by simp [ownT]
end Go.AI
namespace Go.AI
theorem takeMapLen {α β : Type} {l : List α} {g : α → β} : List.take l.length (l.map g) = l.map g := List.take_of_length_le (by simp)
end Go.AI
/- Function values; what slices' functions answer. -/
namespace Go.AI
set_option linter.unusedSimpArgs false
set_option linter.unusedVariables false
def fnDec {γ : Type} (g : FuncId) (c : RCod γ) : AVal → Option γ
 | .fn g' caps => if g' = g then c.dec caps else none
 | _ => none
def cFn {γ : Type} (g : FuncId) (c : RCod γ) : Cod γ where
 enc e := .fn g (c.enc e)
 dec := fnDec g c
 de e := by simp [fnDec, c.de]
 ok := by
  intro x e h β ok w n v hok hr
  unfold fnDec at h
  split at h
  ·rename_i g' caps
   split at h
   ·rename_i hg
    subst hg
    cases hr with
    | @fn _ _ _ xs hl hr =>
     obtain ⟨h1, h2⟩ := c.ok h (x := fun j => xs[j]?.getD undef) hok hr
     exact .fn (by rw [c.len, ← h1]; exact hl) h2
   ·cases h
  ·cases h
def rNil : RCod Unit := RCod.plain 0 (fun _ => []) (fun r => match r with | [] => some () | _ => none) (fun _ => rfl) (fun _ => rfl) (fun r e h => by
 split at h
 ·rfl
 ·cases h)
def idxP {α : Type} (p : α → Bool) (l : List α) : Int := match l.findIdx? p with | some k => k | none => -1
theorem idxP_some {α : Type} {p : α → Bool} {l : List α} (h : ¬ idxP p l < 0) : ∃ k : Nat, idxP p l = k ∧ ∃ hk : k < l.length, p l[k] = true ∧ ∀ j (hj : j < k), p (l[j]'(by omega)) = false := by
 unfold idxP at h ⊢
 cases hk : l.findIdx? p with
 | none => rw [hk] at h; simp at h
 | some k =>
  simp only [List.findIdx?_eq_some_iff_getElem] at hk
  obtain ⟨hk, h1, h2⟩ := hk
  exact ⟨k, rfl, hk, h1, fun j hj => by simpa using h2 j hj⟩
theorem idxP_none {α : Type} {p : α → Bool} {l : List α} (h : idxP p l < 0) : ∀ x ∈ l, p x = false := by
 unfold idxP at h
 cases hk : l.findIdx? p with
 | none => simpa [List.findIdx?_eq_none_iff] using hk
 | some k => rw [hk] at h; simp at h; omega
theorem find_drop {α : Type} {p : α → Bool} {l : List α} {k : Nat} (hk : k < l.length) : ((l.drop k).findIdx? p).map (· + k) = if p l[k] then some k else ((l.drop (k + 1)).findIdx? p).map (· + (k + 1)) := by
 rw [List.drop_eq_getElem_cons hk, List.findIdx?_cons]
 split
 ·simp
 ·rw [Option.map_map]
  congr 1
  funext z
  simp; omega
end Go.AI
/- slices.Insert of one element; slices.overlaps. -/
namespace Go.AI
set_option linter.unusedSimpArgs false
set_option linter.unusedVariables false
open Go.RowKit
section
variable {base : Nat} {w0 : World} {β : Nat → Nat} {fz : Nat → Prop} {H : Heap} {w : World} {P : Program}
theorem obj_get {H : Heap} {id : Nat} {x : Nat × List Row} (h : obj H id = some x) : H[id]? = some (some x) := obj_some h
def ovlI : Row → Heap → Option (AVal × Heap)
 | [.osl a sza _ la _, .xsl b szb _ lb _], H => if a ≠ b ∧ 0 < la ∧ 0 < lb ∧ 0 < sza ∧ 0 < szb ∧ (obj H a).isSome = true ∧ (obj H b).isSome = true then some (.v (.bool false), H) else none
 | _, _ => none
end
end Go.AI
