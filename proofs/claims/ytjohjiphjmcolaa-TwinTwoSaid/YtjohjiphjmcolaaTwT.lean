/- Rooms that are halved, as lists. No program in sight. -/
import Derived.Test.YtjohjiphjmcolaaFacts
namespace Go.Proofs.Ytjohjiphjmcolaa
open Go.AI
set_option linter.unusedSimpArgs false
set_option linter.unusedVariables false
structure Rm where
  at_ : Int
  order : Int
  deriving DecidableEq
def rmDec : Row → Option Rm
  | [.v (.int .i64 x0), .v (.int .i64 x1)] => some ⟨x0, x1⟩
  | _ => none
def Rm.row (e : Rm) : Row := [.v (.int .i64 e.at_), .v (.int .i64 e.order)]
def rRm : RCod Rm := RCod.plain 2 Rm.row rmDec
  (fun e => rfl) (fun _ => rfl) (fun r e h => by
    unfold rmDec at h
    split at h
    · simp at h; subst h; rfl
    · cases h)
def Rm.val (e : Rm) : Value := .agg #[.int .i64 e.at_, .int .i64 e.order]
theorem Rm.eta (e : Rm) : Rm.mk e.at_ e.order = e := rfl
attribute [local simp] Rm.eta
theorem Rm.cold (l : List Rm) : coldR (l.map Rm.row) = l.map Rm.row := by
  induction l with
  | nil => simp [coldR]
  | cons e l ih => simp [coldR, coldC, AI.cold, ih, Rm.row]
theorem Rm.mapM (l : List Rm) : (l.map Rm.row).mapM rmDec = some l := mapM_dec rRm l
theorem Rm.mapMc (l : List Rm) : l.mapM (rmDec ∘ Rm.row) = some l := mapM_dec' rRm l
theorem Rm.view (H : Heap) (n : Nat) (e : Rm) : List.map (AI.view H n) e.row = e.row := by cases n <;> simp [Rm.row, AI.view]
theorem Rm.viewc (H : Heap) (n : Nat) : List.map (AI.view H n) ∘ Rm.row = Rm.row := by funext e; exact Rm.view H n e
theorem Rm.hotR (l : List Rm) : AI.hotR (l.map Rm.row) = true := by
  induction l with
  | nil => simp [AI.hotR]
  | cons e l ih => simp [AI.hotR, hotC, hot, ih, Rm.row]
theorem Rm.ren (n : Nat) (th : List Nat) (e : Rm) : List.map (AI.ren n th) e.row = e.row := by simp [Rm.row, AI.ren]
theorem Rm.renc (n : Nat) (th : List Nat) : List.map (AI.ren n th) ∘ Rm.row = Rm.row := by funext e; exact Rm.ren n th e
theorem Rm.low (n : Nat) (e : Rm) : e.row.all (lowA n) = true := by simp [Rm.row, lowA]
theorem Rm.tau (fp : List Nat) (n : Nat) (e : Rm) : List.map (AI.tau fp n) e.row = e.row := by simp [Rm.row, AI.tau]
theorem Rm.tauc (fp : List Nat) (n : Nat) : List.map (AI.tau fp n) ∘ Rm.row = Rm.row := by funext e; exact Rm.tau fp n e
theorem Rm.bare (e : Rm) : e.row.all bareA = true := by simp [Rm.row, bareA]
theorem Rm.flat (l : List Rm) : flat0 (l.map Rm.row) = true := by simp [flat0, Rm.low]
theorem Rm.flat1 (e : Rm) : flat0 [e.row] = true := by simp [flat0, Rm.low]
theorem Rm.exact : Exact rRm := by
  intro r e h
  simp only [rRm, RCod.plain] at h ⊢
  unfold rmDec at h
  split at h
  · simp at h; subst h; rfl
  · cases h
theorem Rm.mapMt (k : Nat) (l : List Rm) : (List.take k (l.map Rm.row)).mapM rmDec = some (l.take k) := by rw [← List.map_take]; exact mapM_dec rRm _
theorem Rm.mapMd (k : Nat) (l : List Rm) : (List.drop k (l.map Rm.row)).mapM rmDec = some (l.drop k) := by rw [← List.map_drop]; exact mapM_dec rRm _
theorem Rm.coldt (k : Nat) (l : List Rm) : coldR (List.take k (l.map Rm.row)) = List.take k (l.map Rm.row) := by rw [← List.map_take]; exact Rm.cold _
theorem Rm.coldd (k : Nat) (l : List Rm) : coldR (List.drop k (l.map Rm.row)) = List.drop k (l.map Rm.row) := by rw [← List.map_drop]; exact Rm.cold _
theorem Rm.hotRt (k : Nat) (l : List Rm) : AI.hotR (List.take k (l.map Rm.row)) = true := by rw [← List.map_take]; exact Rm.hotR _
theorem Rm.hotRd (k : Nat) (l : List Rm) : AI.hotR (List.drop k (l.map Rm.row)) = true := by rw [← List.map_drop]; exact Rm.hotR _
attribute [local simp] Rm.hotRt Rm.hotRd
attribute [local simp] Rm.tau Rm.tauc Rm.bare Rm.flat Rm.flat1 Rm.mapMt Rm.mapMd Rm.coldt Rm.coldd
attribute [local simp] Rm.cold Rm.mapM Rm.mapMc Rm.view Rm.viewc Rm.hotR Rm.ren Rm.renc Rm.low
theorem rm_eq (a b : Rm) : a = b ↔ (a.at_ = b.at_ ∧ a.order = b.order) := by cases a; cases b; simp
def pw (o : Int) : Int := 2 ^ o.toNat
theorem pw_pos (o : Int) : 0 < pw o := by unfold pw; exact Int.pow_pos (by decide)
theorem pw_succ {o : Int} (h : 0 ≤ o) : pw (o + 1) = 2 * pw o := by
  unfold pw
  have : (o + 1).toNat = o.toNat + 1 := by omega
  rw [this, Int.pow_succ]; omega
theorem pw_dvd {a b : Int} (h : a ≤ b) : pw a ∣ pw b := by
  unfold pw
  have : a.toNat ≤ b.toNat := by omega
  exact ⟨2 ^ (b.toNat - a.toNat), by rw [← Int.pow_add]; congr 1; omega⟩
theorem pw_le {a b : Int} (h : a ≤ b) : pw a ≤ pw b := Int.le_of_dvd (pw_pos _) (pw_dvd h)
theorem pw6 {o : Int} (h0 : 0 ≤ o) (h6 : o ≤ 6) : o = 0 ∨ o = 1 ∨ o = 2 ∨ o = 3 ∨ o = 4 ∨ o = 5 ∨ o = 6 := by omega
theorem pw_le64 {o : Int} (h6 : o ≤ 6) : pw o ≤ 64 := pw_le (b := 6) h6

def Rm.end_ (r : Rm) : Int := r.at_ + pw r.order
def Fit (N : Int) (r : Rm) : Prop := 0 ≤ r.order ∧ r.order ≤ N ∧ 0 ≤ r.at_ ∧ r.end_ ≤ pw N ∧ pw r.order ∣ r.at_
def Bud (a b : Rm) : Prop := a.order = b.order ∧ ((b.at_ = a.end_ ∧ pw (a.order + 1) ∣ a.at_) ∨ (a.at_ = b.end_ ∧ pw (a.order + 1) ∣ b.at_))
theorem Bud.symm {a b : Rm} (h : Bud a b) : Bud b a := by
  obtain ⟨h1, h2 | h2⟩ := h
  · exact ⟨h1.symm, .inr (by rw [← h1]; exact h2)⟩
  · exact ⟨h1.symm, .inl (by rw [← h1]; exact h2)⟩
def Rm.has (r : Rm) (q : Int) : Prop := r.at_ ≤ q ∧ q < r.end_
def Cov (l : List Rm) (q : Int) : Prop := ∃ r ∈ l, r.has q
/-- one behind the other, and no twins -/
def Tw (a b : Rm) : Prop := a.end_ ≤ b.at_ ∧ ¬ Bud a b
def Okl (N : Int) (l : List Rm) : Prop := (∀ r ∈ l, Fit N r) ∧ l.Pairwise Tw
theorem Fit.lt {N : Int} {r : Rm} (h : Fit N r) : r.at_ < r.end_ := by have := pw_pos r.order; simp only [Rm.end_]; omega

theorem cov_nil {q : Int} : ¬ Cov [] q := by rintro ⟨r, h, _⟩; simp at h
theorem cov_cons {r : Rm} {l : List Rm} {q : Int} : Cov (r :: l) q ↔ r.has q ∨ Cov l q := by
  simp [Cov]
theorem cov_append {l m : List Rm} {q : Int} : Cov (l ++ m) q ↔ Cov l q ∨ Cov m q := by
  simp only [Cov, List.mem_append]
  constructor
  · rintro ⟨r, h | h, k⟩
    · exact .inl ⟨r, h, k⟩
    · exact .inr ⟨r, h, k⟩
  · rintro (⟨r, h, k⟩ | ⟨r, h, k⟩)
    · exact ⟨r, .inl h, k⟩
    · exact ⟨r, .inr h, k⟩
theorem okl_cons {N : Int} {r : Rm} {l : List Rm} : Okl N (r :: l) ↔ Fit N r ∧ (∀ s ∈ l, Tw r s) ∧ Okl N l := by
  simp only [Okl, List.mem_cons, forall_eq_or_imp, List.pairwise_cons]
  constructor
  · rintro ⟨⟨h1, h2⟩, h3, h4⟩; exact ⟨h1, h3, h2, h4⟩
  · rintro ⟨h1, h3, h2, h4⟩; exact ⟨⟨h1, h2⟩, h3, h4⟩
theorem okl_behind {N : Int} {r : Rm} {l : List Rm} (h : Okl N (r :: l)) {q : Int} (hq : Cov l q) : r.end_ ≤ q := by
  obtain ⟨s, hs, k⟩ := hq
  have := (okl_cons.1 h).2.1 s hs
  have h1 := this.1
  have h2 := k.1
  omega

theorem dvd_half {o k b : Int} (h0 : 0 ≤ o) (ho : o < k) (hb : pw k ∣ b) {s : Int} (hs : pw s ∣ b + pw o) : s ≤ o := by
  by_cases h : s ≤ o
  · exact h
  · exfalso
    have h1 : pw (o + 1) ∣ b := Int.dvd_trans (pw_dvd (by omega)) hb
    have h2 : pw (o + 1) ∣ b + pw o := Int.dvd_trans (pw_dvd (by omega)) hs
    have h3 : pw (o + 1) ∣ pw o := by
      have := Int.dvd_sub h2 h1
      rwa [show b + pw o - b = pw o by omega] at this
    have h4 := Int.le_of_dvd (pw_pos _) h3
    rw [pw_succ h0] at h4
    have := pw_pos o
    omega

theorem no_fine {N : Int} : ∀ (n : Nat) (l : List Rm) (r : Rm) (k : Int), Okl N (r :: l) → r.order.toNat = n → r.order < k → pw k ∣ r.at_ → (∀ q, r.at_ ≤ q → q < r.at_ + pw k → Cov (r :: l) q) → False := by
  intro n
  induction n using Nat.strongRecOn with
  | ind n ih =>
    intro l r k hok hn hk hd hc
    obtain ⟨f, t, ol⟩ := okl_cons.1 hok
    have hp := pw_pos r.order
    have hpk : pw (r.order + 1) ≤ pw k := pw_le (by omega)
    rw [pw_succ f.1] at hpk
    have h1 := hc r.end_ (by simp only [Rm.end_]; omega) (by simp only [Rm.end_]; omega)
    have h2 : Cov l r.end_ := by
      rcases cov_cons.1 h1 with h | h
      · have := h.2; omega
      · exact h
    cases l with
    | nil => exact cov_nil h2
    | cons s l =>
      have ts := t s (by simp)
      have fs := (okl_cons.1 ol).1
      have hs : s.at_ = r.end_ := by
        rcases cov_cons.1 h2 with h | h
        · have := h.1; have := ts.1; omega
        · have := okl_behind ol h
          have := fs.lt
          have := ts.1
          omega
      have hle : s.order ≤ r.order := dvd_half f.1 hk hd (by have := fs.2.2.2.2; rw [hs] at this; exact this)
      have hne : s.order ≠ r.order := by
        intro he
        exact ts.2 ⟨he.symm, .inl ⟨hs, Int.dvd_trans (pw_dvd (by omega)) hd⟩⟩
      refine ih s.order.toNat (by have := fs.1; omega) l s r.order ol rfl (by omega) ?_ ?_
      · rw [hs]
        exact Int.dvd_add f.2.2.2.2 (Int.dvd_refl _)
      · intro q q1 q2
        have := hc q (by rw [hs] at q1; simp only [Rm.end_] at q1; omega) (by rw [hs] at q2; simp only [Rm.end_] at q2; omega)
        rcases cov_cons.1 this with h | h
        · have := h.2; omega
        · exact h

/-- what is free says how it is told -/
theorem tw_one {N : Int} {l m : List Rm} (h : Okl N l) (k : Okl N m) (he : ∀ q, Cov l q ↔ Cov m q) : l = m := by
  induction l generalizing m with
  | nil =>
    cases m with
    | nil => rfl
    | cons s m => exact absurd ((he s.at_).2 (cov_cons.2 (.inl ⟨Int.le_refl _, (okl_cons.1 k).1.lt⟩))) cov_nil
  | cons r l ih =>
    cases m with
    | nil => exact absurd ((he r.at_).1 (cov_cons.2 (.inl ⟨Int.le_refl _, (okl_cons.1 h).1.lt⟩))) cov_nil
    | cons s m =>
      have fr := (okl_cons.1 h).1
      have fs := (okl_cons.1 k).1
      have hat : r.at_ = s.at_ := by
        have c1 := (he r.at_).1 (cov_cons.2 (.inl ⟨Int.le_refl _, fr.lt⟩))
        have c2 := (he s.at_).2 (cov_cons.2 (.inl ⟨Int.le_refl _, fs.lt⟩))
        have g1 : s.at_ ≤ r.at_ := by
          rcases cov_cons.1 c1 with q | q
          · exact q.1
          · have := okl_behind k q; have := fs.lt; omega
        have g2 : r.at_ ≤ s.at_ := by
          rcases cov_cons.1 c2 with q | q
          · exact q.1
          · have := okl_behind h q; have := fr.lt; omega
        omega
      have hord : r.order = s.order := by
        rcases Int.lt_trichotomy r.order s.order with q | q | q
        · exfalso
          refine no_fine _ l r s.order h rfl q (by rw [hat]; exact fs.2.2.2.2) fun p p1 p2 => (he p).2 (cov_cons.2 (.inl ⟨by omega, by simp only [Rm.end_]; omega⟩))
        · exact q
        · exfalso
          refine no_fine _ m s r.order k rfl q (by rw [← hat]; exact fr.2.2.2.2) fun p p1 p2 => (he p).1 (cov_cons.2 (.inl ⟨by omega, by simp only [Rm.end_]; omega⟩))
      have hrs : r = s := (rm_eq r s).2 ⟨hat, hord⟩
      subst hrs
      congr 1
      refine ih (okl_cons.1 h).2.2 (okl_cons.1 k).2.2 fun q => ?_
      constructor
      · intro c
        have hb := okl_behind h c
        rcases cov_cons.1 ((he q).1 (cov_cons.2 (.inr c))) with d | d
        · have := d.2; omega
        · exact d
      · intro c
        have hb := okl_behind k c
        rcases cov_cons.1 ((he q).2 (cov_cons.2 (.inr c))) with d | d
        · have := d.2; omega
        · exact d

/-- what is left of a room -/
def leftR (a : Int) (o : Int) : Nat → List Rm
  | 0 => []
  | n + 1 => ⟨a + pw o, o⟩ :: leftR a (o + 1) n
theorem leftR_ok {N : Int} {a o : Int} {n : Nat} (h0 : 0 ≤ o) (hN : o + n ≤ N) (ha : 0 ≤ a) (he : a + pw (o + n) ≤ pw N) (hd : pw (o + n) ∣ a) :
    Okl N (leftR a o n) ∧ (∀ x ∈ leftR a o n, a + pw o ≤ x.at_ ∧ x.end_ ≤ a + pw (o + n) ∧ o ≤ x.order ∧ x.order < o + n ∧ x.at_ = a + pw x.order) ∧ ∀ q, Cov (leftR a o n) q ↔ a + pw o ≤ q ∧ q < a + pw (o + n) := by
  induction n generalizing o with
  | zero =>
    refine ⟨⟨by simp [leftR], by simp [leftR]⟩, by simp [leftR], fun q => ?_⟩
    constructor
    · intro h; exact absurd h cov_nil
    · intro h; simp at h; omega
  | succ n ih =>
    have e : o + 1 + (n : Int) = o + ((n + 1 : Nat) : Int) := by omega
    obtain ⟨i1, i2, i3⟩ := ih (o := o + 1) (by omega) (by omega) (by rw [e]; exact he) (by rw [e]; exact hd)
    rw [e] at i2 i3
    have hp := pw_pos o
    have hs := pw_succ h0
    have hle : pw (o + 1) ≤ pw (o + ((n + 1 : Nat) : Int)) := pw_le (by omega)
    have hend : (⟨a + pw o, o⟩ : Rm).end_ = a + pw (o + 1) := by simp only [Rm.end_]; omega
    refine ⟨okl_cons.2 ⟨⟨h0, by simp; omega, by simp; omega, by rw [hend]; exact Int.le_trans (Int.add_le_add_left hle a) he, Int.dvd_add (Int.dvd_trans (pw_dvd (a := o) (b := o + ((n + 1 : Nat) : Int)) (by omega)) hd) (Int.dvd_refl _)⟩, fun x hx => ?_, i1⟩, ?_, fun q => ?_⟩
    · obtain ⟨x1, x2, x3, x4, x5⟩ := i2 x hx
      refine ⟨by rw [hend]; exact x1, fun hb => ?_⟩
      have := hb.1
      simp at this
      omega
    · intro x hx
      simp only [leftR, List.mem_cons] at hx
      rcases hx with rfl | hx
      · refine ⟨by simp, by rw [hend]; omega, by simp, by simp; omega, rfl⟩
      · obtain ⟨x1, x2, x3, x4, x5⟩ := i2 x hx
        exact ⟨by omega, x2, by omega, x4, x5⟩
    · simp only [leftR]
      rw [cov_cons, i3]
      simp only [Rm.has, hend]
      omega

/-- a room taken out of a list -/
theorem take_ok {N : Int} {A B : List Rm} {r : Rm} {o : Int} (h : Okl N (A ++ r :: B)) (h0 : 0 ≤ o) (ho : o ≤ r.order) :
    Okl N (A ++ (leftR r.at_ o (r.order - o).toNat ++ B)) ∧ (∀ q, Cov (A ++ (leftR r.at_ o (r.order - o).toNat ++ B)) q ↔ Cov (A ++ r :: B) q ∧ ¬ (r.at_ ≤ q ∧ q < r.at_ + pw o)) ∧ (∀ q, r.at_ ≤ q ∧ q < r.at_ + pw o → Cov (A ++ r :: B) q) := by
  obtain ⟨hf, hp⟩ := h
  have fr : Fit N r := hf r (by simp)
  have e : o + ((r.order - o).toNat : Int) = r.order := by omega
  obtain ⟨l1, l2, l3⟩ := leftR_ok (N := N) (a := r.at_) (o := o) (n := (r.order - o).toNat) h0 (by rw [e]; exact fr.2.1) fr.2.2.1 (by rw [e]; exact fr.2.2.2.1) (by rw [e]; exact fr.2.2.2.2)
  rw [e] at l2 l3
  have hpo := pw_pos o
  have hpr : pw o ≤ pw r.order := pw_le ho
  rw [List.pairwise_append] at hp
  obtain ⟨pA, pB, pAB⟩ := hp
  rw [List.pairwise_cons] at pB
  have tA : ∀ a ∈ A, Tw a r := fun a ha => pAB a ha r (by simp)
  have tB : ∀ b ∈ B, Tw r b := fun b hb => pB.1 b hb
  refine ⟨⟨?_, ?_⟩, ?_, ?_⟩
  · intro x hx
    simp only [List.mem_append] at hx
    rcases hx with hx | hx | hx
    · exact hf x (by simp [hx])
    · exact l1.1 x hx
    · exact hf x (by simp [hx])
  · rw [List.pairwise_append, List.pairwise_append]
    refine ⟨pA, ⟨l1.2, pB.2, ?_⟩, ?_⟩
    · intro x hx b hb
      obtain ⟨x1, x2, x3, x4, x5⟩ := l2 x hx
      have t := tB b hb
      have t1 := t.1
      refine ⟨by simp only [Rm.end_] at *; omega, fun hbud => ?_⟩
      obtain ⟨b1, ⟨b2, b3⟩ | ⟨b2, b3⟩⟩ := hbud
      · have : pw (x.order + 1) ∣ r.at_ := Int.dvd_trans (pw_dvd (by omega)) fr.2.2.2.2
        have h3 : pw (x.order + 1) ∣ pw x.order := by
          have := Int.dvd_sub b3 this
          rwa [x5, show r.at_ + pw x.order - r.at_ = pw x.order by omega] at this
        have h4 := Int.le_of_dvd (pw_pos _) h3
        rw [pw_succ (by omega)] at h4
        have := pw_pos x.order
        omega
      · have := pw_pos b.order
        simp only [Rm.end_] at *; omega
    · intro a ha y hy
      have t := tA a ha
      have t1 := t.1
      rcases List.mem_append.1 hy with hy | hy
      · obtain ⟨x1, x2, x3, x4, x5⟩ := l2 y hy
        refine ⟨by omega, fun hbud => ?_⟩
        obtain ⟨b1, ⟨b2, b3⟩ | ⟨b2, b3⟩⟩ := hbud
        · omega
        · have := pw_pos y.order
          have := pw_pos a.order
          simp only [Rm.end_] at *; omega
      · exact pAB a ha y (by simp [hy])
  · intro q
    rw [cov_append, cov_append, cov_append, cov_cons, l3]
    constructor
    · rintro (h | h | h)
      · refine ⟨.inl h, ?_⟩
        obtain ⟨a, ha, k⟩ := h
        have := (tA a ha).1
        have := k.2
        omega
      · exact ⟨.inr (.inl ⟨by omega, by simp only [Rm.end_]; omega⟩), by omega⟩
      · refine ⟨.inr (.inr h), ?_⟩
        obtain ⟨b, hb, k⟩ := h
        have := (tB b hb).1
        have := k.1
        simp only [Rm.end_] at *
        omega
    · rintro ⟨h | h | h, hn⟩
      · exact .inl h
      · have h1 := h.1
        have h2 := h.2
        simp only [Rm.end_] at h2
        exact .inr (.inl ⟨by omega, by omega⟩)
      · exact .inr (.inr h)
  · intro q hq
    rw [cov_append, cov_cons]
    exact .inr (.inl ⟨hq.1, by simp only [Rm.end_]; omega⟩)

/-- a room that meets no free one -/
def Off (l : List Rm) (r : Rm) : Prop := ∀ x ∈ l, x.end_ ≤ r.at_ ∨ r.end_ ≤ x.at_
theorem bud_merge {N : Int} {x r : Rm} (hx : Fit N x) (hr : Fit N r) (hb : Bud x r) (hN : r.order < N) : Fit N ⟨min r.at_ x.at_, r.order + 1⟩ ∧ ∀ q, (⟨min r.at_ x.at_, r.order + 1⟩ : Rm).has q ↔ r.has q ∨ x.has q := by
  have hs := pw_succ hr.1
  have hp := pw_pos r.order
  obtain ⟨h1, ⟨h2, h3⟩ | ⟨h2, h3⟩⟩ := hb
  · have hmin : min r.at_ x.at_ = x.at_ := by simp only [Rm.end_] at h2; rw [h1] at h2; omega
    rw [hmin]
    rw [h1] at h3
    refine ⟨⟨by simp; have := hr.1; omega, by simp; omega, hx.2.2.1, ?_, h3⟩, fun q => ?_⟩
    · have := hr.2.2.2.1
      simp only [Rm.end_] at *
      rw [hs]; rw [h1] at h2; omega
    · simp only [Rm.has, Rm.end_] at *
      rw [hs]; rw [h1] at h2 ⊢; omega
  · have hmin : min r.at_ x.at_ = r.at_ := by simp only [Rm.end_] at h2; omega
    rw [hmin]
    rw [h1] at h3
    refine ⟨⟨by simp; have := hr.1; omega, by simp; omega, hr.2.2.1, ?_, h3⟩, fun q => ?_⟩
    · have := hx.2.2.2.1
      simp only [Rm.end_] at *
      rw [hs]; rw [h1] at this; omega
    · simp only [Rm.has, Rm.end_] at *
      rw [hs]; rw [h1]; omega

theorem off_merge {N : Int} {x r y : Rm} (hr : Fit N r) (hb : Bud x r) (a1 : y.end_ ≤ x.at_ ∨ x.end_ ≤ y.at_) (a2 : y.end_ ≤ r.at_ ∨ r.end_ ≤ y.at_) (fy : y.at_ < y.end_) : y.end_ ≤ (⟨min r.at_ x.at_, r.order + 1⟩ : Rm).at_ ∨ (⟨min r.at_ x.at_, r.order + 1⟩ : Rm).end_ ≤ y.at_ := by
  have hs := pw_succ hr.1
  have hp := pw_pos r.order
  have e : (⟨min r.at_ x.at_, r.order + 1⟩ : Rm).end_ = min r.at_ x.at_ + 2 * pw r.order := by simp only [Rm.end_]; rw [hs]
  rw [e]
  have e2 : x.end_ = x.at_ + pw r.order := by simp only [Rm.end_]; rw [hb.1]
  have e3 : r.end_ = r.at_ + pw r.order := rfl
  obtain ⟨h1, ⟨h2, h3⟩ | ⟨h2, h3⟩⟩ := hb
  · simp only; omega
  · simp only; omega

/-- a room at its place -/
def insR (l : List Rm) (r : Rm) : List Rm := l.takeWhile (fun x => decide (x.at_ < r.at_)) ++ r :: l.dropWhile (fun x => decide (x.at_ < r.at_))
theorem insR_ok {N : Int} {l : List Rm} {r : Rm} (h : Okl N l) (hr : Fit N r) (ho : Off l r) (hb : ∀ x ∈ l, ¬ Bud x r) : Okl N (insR l r) ∧ ∀ q, Cov (insR l r) q ↔ r.has q ∨ Cov l q := by
  induction l with
  | nil => exact ⟨okl_cons.2 ⟨hr, by simp, ⟨by simp, by simp⟩⟩, fun q => by simp [insR, cov_cons, cov_nil]⟩
  | cons x l ih =>
    obtain ⟨fx, tx, ol⟩ := okl_cons.1 h
    have hx := ho x (by simp)
    have hl := fx.lt
    have hl2 := hr.lt
    by_cases q : x.at_ < r.at_
    · have e1 : insR (x :: l) r = x :: insR l r := by simp [insR, q]
      rw [e1]
      obtain ⟨i1, i2⟩ := ih ol (fun y hy => ho y (by simp [hy])) (fun y hy => hb y (by simp [hy]))
      have hm : ∀ y, y ∈ insR l r ↔ y = r ∨ y ∈ l := by
        intro y
        simp only [insR, List.mem_append, List.mem_cons]
        have hsplit : y ∈ l ↔ y ∈ l.takeWhile (fun x => decide (x.at_ < r.at_)) ∨ y ∈ l.dropWhile (fun x => decide (x.at_ < r.at_)) := by
          rw [← List.mem_append, List.takeWhile_append_dropWhile]
        rw [hsplit]
        constructor
        · rintro (h | h | h)
          · exact .inr (.inl h)
          · exact .inl h
          · exact .inr (.inr h)
        · rintro (h | h | h)
          · exact .inr (.inl h)
          · exact .inl h
          · exact .inr (.inr h)
      refine ⟨okl_cons.2 ⟨fx, fun y hy => ?_, i1⟩, fun p => ?_⟩
      · rcases (hm y).1 hy with rfl | hy
        · exact ⟨by omega, hb x (by simp)⟩
        · exact tx y hy
      · rw [cov_cons, i2, cov_cons]
        constructor
        · rintro (h | h | h)
          · exact .inr (.inl h)
          · exact .inl h
          · exact .inr (.inr h)
        · rintro (h | h | h)
          · exact .inr (.inl h)
          · exact .inl h
          · exact .inr (.inr h)
    · have e1 : insR (x :: l) r = r :: x :: l := by simp [insR, q]
      rw [e1]
      have hx' : r.end_ ≤ x.at_ := by omega
      refine ⟨okl_cons.2 ⟨hr, fun y hy => ?_, h⟩, fun p => cov_cons⟩
      refine ⟨?_, fun hbb => hb y hy hbb.symm⟩
      rcases List.mem_cons.1 hy with rfl | hy
      · exact hx'
      · have := (tx y hy).1; omega

/-- twins come together -/
def giveGo (bud : Rm → Rm → Bool) (N : Int) : Nat → Rm → List Rm → List Rm
  | 0, r, l => insR l r
  | n + 1, r, l => match l.findIdx? (bud · r) with
    | some i => giveGo bud N n ⟨min r.at_ (l[i]?.getD r).at_, r.order + 1⟩ (l.eraseIdx i)
    | none => insR l r
theorem giveGo_ok {bud : Rm → Rm → Bool} {N : Int} (hbud : ∀ x r, Fit N x → Fit N r → (bud x r = true ↔ Bud x r)) : ∀ (n : Nat) (r : Rm) (l : List Rm), Okl N l → Fit N r → Off l r → (N - r.order).toNat = n → Okl N (giveGo bud N n r l) ∧ ∀ q, Cov (giveGo bud N n r l) q ↔ r.has q ∨ Cov l q := by
  intro n
  induction n with
  | zero =>
    intro r l h hr ho hn
    simp only [giveGo]
    refine insR_ok h hr ho fun x hx hb => ?_
    have fx := h.1 x hx
    have : r.order = N := by have := hr.2.1; omega
    have h1 := hb.1
    have h2 := ho x hx
    have h3 := hr.2.2
    have h4 := fx.2.2
    have hp := pw_pos N
    simp only [Rm.end_] at *
    rw [h1, this] at h4 h2
    rw [this] at h3
    omega
  | succ n ih =>
    intro r l h hr ho hn
    simp only [giveGo]
    split
    · rename_i i hi
      obtain ⟨hil, hb, _⟩ := List.findIdx?_eq_some_iff_getElem.1 hi
      have fx := h.1 _ (List.getElem_mem hil)
      have hB := (hbud _ _ fx hr).1 hb
      obtain ⟨m1, m2⟩ := bud_merge fx hr hB (by omega)
      have e : (l[i]?.getD r) = l[i] := by simp [hil]
      rw [e]
      have hsub : (l.eraseIdx i).Sublist l := List.eraseIdx_sublist ..
      have hmem : ∀ y, y ∈ l.eraseIdx i → y.end_ ≤ l[i].at_ ∨ l[i].end_ ≤ y.at_ := by
        intro y hy
        rw [List.mem_eraseIdx_iff_getElem] at hy
        obtain ⟨j, hj, hne, rfl⟩ := hy
        have hp := List.pairwise_iff_getElem.1 h.2
        rcases Nat.lt_or_gt_of_ne hne with q | q
        · exact .inl (hp _ _ hj hil q).1
        · exact .inr (hp _ _ hil hj q).1
      obtain ⟨i1, i2⟩ := ih ⟨min r.at_ l[i].at_, r.order + 1⟩ (l.eraseIdx i) ⟨fun y hy => h.1 y (hsub.subset hy), h.2.sublist hsub⟩ m1 (by
        intro y hy
        exact off_merge hr hB (hmem y hy) (ho y (hsub.subset hy)) (h.1 y (hsub.subset hy)).lt) (by simp; omega)
      refine ⟨i1, fun q => ?_⟩
      rw [i2, m2]
      have hc : Cov l q ↔ l[i].has q ∨ Cov (l.eraseIdx i) q := by
        constructor
        · rintro ⟨y, hy, k⟩
          obtain ⟨j, hj, rfl⟩ := List.getElem_of_mem hy
          by_cases hji : j = i
          · subst hji; exact .inl k
          · exact .inr ⟨_, List.mem_eraseIdx_iff_getElem.2 ⟨j, hj, hji, rfl⟩, k⟩
        · rintro (k | ⟨y, hy, k⟩)
          · exact ⟨_, List.getElem_mem hil, k⟩
          · exact ⟨y, hsub.subset hy, k⟩
      rw [hc]
      constructor
      · rintro ((h | h) | h)
        · exact .inl h
        · exact .inr (.inl h)
        · exact .inr (.inr h)
      · rintro (h | h | h)
        · exact .inl (.inl h)
        · exact .inl (.inr h)
        · exact .inr h
    · rename_i hi
      rw [List.findIdx?_eq_none_iff] at hi
      exact insR_ok h hr ho fun x hx hb => by
        have := hi x hx
        rw [(hbud x r (h.1 x hx) hr).2 hb] at this
        cases this
end Go.Proofs.Ytjohjiphjmcolaa
