/- Areas, as lists: what lists in the right form say of pages. No program in sight. -/
import Derived.Test.YtjohjiphjmcolaaFacts
namespace Go.Proofs.Ytjohjiphjmcolaa
open Go.AI
set_option linter.unusedSimpArgs false
set_option linter.unusedVariables false
structure Ar where
  page : Int
  n : Int
  rights : Int
  deriving DecidableEq
def arDec : Row → Option Ar
  | [.v (.int .i64 x0), .v (.int .i64 x1), .v (.int .i64 x2)] => some ⟨x0, x1, x2⟩
  | _ => none
def Ar.row (e : Ar) : Row := [.v (.int .i64 e.page), .v (.int .i64 e.n), .v (.int .i64 e.rights)]
def rAr : RCod Ar := RCod.plain 3 Ar.row arDec
  (fun e => rfl) (fun _ => rfl) (fun r e h => by
    unfold arDec at h
    split at h
    · simp at h; subst h; rfl
    · cases h)
def Ar.val (e : Ar) : Value := .agg #[.int .i64 e.page, .int .i64 e.n, .int .i64 e.rights]
theorem Ar.eta (e : Ar) : Ar.mk e.page e.n e.rights = e := rfl
attribute [local simp] Ar.eta
theorem Ar.cold (l : List Ar) : coldR (l.map Ar.row) = l.map Ar.row := by
  induction l with
  | nil => simp [coldR]
  | cons e l ih => simp [coldR, coldC, AI.cold, ih, Ar.row]
theorem Ar.mapM (l : List Ar) : (l.map Ar.row).mapM arDec = some l := mapM_dec rAr l
theorem Ar.mapMc (l : List Ar) : l.mapM (arDec ∘ Ar.row) = some l := mapM_dec' rAr l
theorem Ar.view (H : Heap) (n : Nat) (e : Ar) : List.map (AI.view H n) e.row = e.row := by cases n <;> simp [Ar.row, AI.view]
theorem Ar.viewc (H : Heap) (n : Nat) : List.map (AI.view H n) ∘ Ar.row = Ar.row := by funext e; exact Ar.view H n e
theorem Ar.hotR (l : List Ar) : AI.hotR (l.map Ar.row) = true := by
  induction l with
  | nil => simp [AI.hotR]
  | cons e l ih => simp [AI.hotR, hotC, hot, ih, Ar.row]
theorem Ar.ren (n : Nat) (th : List Nat) (e : Ar) : List.map (AI.ren n th) e.row = e.row := by simp [Ar.row, AI.ren]
theorem Ar.renc (n : Nat) (th : List Nat) : List.map (AI.ren n th) ∘ Ar.row = Ar.row := by funext e; exact Ar.ren n th e
theorem Ar.low (n : Nat) (e : Ar) : e.row.all (lowA n) = true := by simp [Ar.row, lowA]
theorem Ar.tau (fp : List Nat) (n : Nat) (e : Ar) : List.map (AI.tau fp n) e.row = e.row := by simp [Ar.row, AI.tau]
theorem Ar.tauc (fp : List Nat) (n : Nat) : List.map (AI.tau fp n) ∘ Ar.row = Ar.row := by funext e; exact Ar.tau fp n e
theorem Ar.bare (e : Ar) : e.row.all bareA = true := by simp [Ar.row, bareA]
theorem Ar.flat (l : List Ar) : flat0 (l.map Ar.row) = true := by simp [flat0, Ar.low]
theorem Ar.flat1 (e : Ar) : flat0 [e.row] = true := by simp [flat0, Ar.low]
theorem Ar.exact : Exact rAr := by
  intro r e h
  simp only [rAr, RCod.plain] at h ⊢
  unfold arDec at h
  split at h
  · simp at h; subst h; rfl
  · cases h
attribute [local simp] Ar.tau Ar.tauc Ar.bare Ar.flat Ar.flat1
attribute [local simp] Ar.cold Ar.mapM Ar.mapMc Ar.view Ar.viewc Ar.hotR Ar.ren Ar.renc Ar.low
theorem ar_eq (a b : Ar) : a = b ↔ (a.page = b.page ∧ a.n = b.n ∧ a.rights = b.rights) := by cases a; cases b; simp

def Ar.end_ (a : Ar) : Int := a.page + a.n
def Ar.right (a : Ar) : Bool := decide (0 ≤ a.page) && decide (a.page < 64) && decide (1 ≤ a.n) && decide (a.n ≤ 64 - a.page) && decide (0 ≤ a.rights) && decide (a.rights ≤ 7)
theorem Ar.right_iff {a : Ar} : a.right = true ↔ 0 ≤ a.page ∧ a.page < 64 ∧ 1 ≤ a.n ∧ a.n ≤ 64 - a.page ∧ 0 ≤ a.rights ∧ a.rights ≤ 7 := by
  simp [Ar.right]; omega
def Ar.meets (b a : Ar) : Bool := decide (a.page < b.page + b.n) || (decide (a.page = b.page + b.n) && decide (a.rights = b.rights))

/-- the right form, behind an area that ends at a page -/
def arGo : Option Ar → List Ar → Int
  | _, [] => 0
  | p, a :: l => if a.right = true then (match p with | some b => if b.meets a = true then 3 else arGo (some a) l | none => arGo (some a) l) else 1
def arCheck (l : List Ar) : Int := if 64 < l.length then 2 else arGo none l

/-- the same, as a property -/
def Good : Option Ar → List Ar → Prop
  | _, [] => True
  | p, a :: l => a.right = true ∧ (∀ b, p = some b → b.meets a = false) ∧ Good (some a) l
theorem arGo_iff {p : Option Ar} {l : List Ar} : arGo p l = 0 ↔ Good p l := by
  induction l generalizing p with
  | nil => simp [arGo, Good]
  | cons a l ih =>
    simp only [arGo, Good]
    by_cases h : a.right = true
    · cases p with
      | none => simp [h, ih]
      | some b =>
        by_cases h2 : b.meets a = true
        · simp [h, h2]
        · simp [h, h2, ih]
    · simp [h]
theorem meets_f {a b : Ar} : b.meets a = false ↔ b.end_ ≤ a.page ∧ ¬ (a.page = b.end_ ∧ a.rights = b.rights) := by
  simp [Ar.meets, Ar.end_]
theorem good_len {p : Option Ar} {l : List Ar} (h : Good p l) (a : Ar) (hp : p = some a) : (l.length : Int) ≤ 64 - a.end_ ∨ l = [] := by
  induction l generalizing p a with
  | nil => simp
  | cons b l ih =>
    obtain ⟨h1, h2, h3⟩ := h
    have h4 := meets_f.1 (h2 a hp)
    have h5 := Ar.right_iff.1 h1
    left
    rcases ih h3 b rfl with h6 | h6
    · simp only [Ar.end_] at *; simp; omega
    · subst h6; simp only [Ar.end_] at *; simp; omega
theorem good_len0 {l : List Ar} (h : Good none l) : l.length ≤ 64 := by
  cases l with
  | nil => simp
  | cons b l =>
    obtain ⟨h1, h2, h3⟩ := h
    have h5 := Ar.right_iff.1 h1
    rcases good_len h3 b rfl with h6 | h6
    · simp only [Ar.end_] at *; simp; omega
    · subst h6; simp
theorem arCheck_iff {l : List Ar} : arCheck l = 0 ↔ Good none l := by
  unfold arCheck
  split
  · rename_i h
    simp
    intro hg
    have := good_len0 hg
    omega
  · exact arGo_iff
theorem Good.weak {p : Option Ar} {l : List Ar} (h : Good p l) : Good none l := by
  cases l with
  | nil => trivial
  | cons a l => exact ⟨h.1, by simp, h.2.2⟩
theorem Good.mem {p : Option Ar} {l : List Ar} (h : Good p l) {a : Ar} (ha : a ∈ l) : a.right = true := by
  induction l generalizing p with
  | nil => simp at ha
  | cons b l ih =>
    rcases List.mem_cons.1 ha with rfl | ha
    · exact h.1
    · exact ih h.2.2 ha

/-- is a page in an area -/
def Ar.has (a : Ar) (p : Int) : Bool := decide (a.page ≤ p) && decide (p < a.page + a.n)
def arAt (l : List Ar) (p : Int) : Option Ar := l.find? (·.has p)
def atR (l : List Ar) (p : Int) : Option Int := (arAt l p).map (·.rights)
theorem atR_nil (p : Int) : atR [] p = none := rfl
theorem atR_cons (a : Ar) (l : List Ar) (p : Int) : atR (a :: l) p = if a.has p = true then some a.rights else atR l p := by
  simp only [atR, arAt, List.find?_cons]
  cases h : a.has p <;> simp
theorem atR_append (l m : List Ar) (p : Int) : atR (l ++ m) p = (atR l p).or (atR m p) := by
  induction l with
  | nil => simp [atR_nil]
  | cons a l ih =>
    rw [List.cons_append, atR_cons, atR_cons, ih]
    split <;> simp
theorem has_iff {a : Ar} {p : Int} : a.has p = true ↔ a.page ≤ p ∧ p < a.end_ := by simp [Ar.has, Ar.end_]
/-- nothing ahead of a list -/
theorem good_before {b : Ar} {l : List Ar} (h : Good (some b) l) {p : Int} (hp : p < b.end_) : atR l p = none := by
  induction l generalizing b with
  | nil => rfl
  | cons a l ih =>
    obtain ⟨h1, h2, h3⟩ := h
    have h4 := meets_f.1 (h2 b rfl)
    have h5 := Ar.right_iff.1 h1
    rw [atR_cons, if_neg, ih h3]
    · simp only [Ar.end_] at *; omega
    · rw [has_iff]; omega
/-- two lists in the right form that say the same are the same -/
theorem good_one {l m : List Ar} (h : Good none l) (k : Good none m) (he : ∀ p, atR l p = atR m p) : l = m := by
  induction l generalizing m with
  | nil =>
    cases m with
    | nil => rfl
    | cons b m =>
      have := he b.page
      have hb := Ar.right_iff.1 k.1
      rw [atR_cons, if_pos (by rw [has_iff]; simp only [Ar.end_]; omega)] at this
      simp [atR_nil] at this
  | cons a l ih =>
    cases m with
    | nil =>
      have := he a.page
      have hb := Ar.right_iff.1 h.1
      rw [atR_cons, if_pos (by rw [has_iff]; simp only [Ar.end_]; omega)] at this
      simp [atR_nil] at this
    | cons b m =>
      obtain ⟨a1, _, a3⟩ := h
      obtain ⟨b1, _, b3⟩ := k
      have qa := Ar.right_iff.1 a1
      have qb := Ar.right_iff.1 b1
      have A : ∀ p, a.page ≤ p → p < a.end_ → atR (a :: l) p = some a.rights := fun p h1 h2 => by rw [atR_cons, if_pos (has_iff.2 ⟨h1, h2⟩)]
      have B : ∀ p, b.page ≤ p → p < b.end_ → atR (b :: m) p = some b.rights := fun p h1 h2 => by rw [atR_cons, if_pos (has_iff.2 ⟨h1, h2⟩)]
      have A0 : ∀ p, p < a.page → atR (a :: l) p = none := fun p h1 => by
        rw [atR_cons, if_neg (by rw [has_iff]; omega)]; exact good_before a3 (by simp only [Ar.end_]; omega)
      have B0 : ∀ p, p < b.page → atR (b :: m) p = none := fun p h1 => by
        rw [atR_cons, if_neg (by rw [has_iff]; omega)]; exact good_before b3 (by simp only [Ar.end_]; omega)
      have AE : ∀ p, a.end_ ≤ p → atR (a :: l) p = atR l p := fun p h1 => by rw [atR_cons, if_neg (by rw [has_iff]; omega)]
      have BE : ∀ p, b.end_ ≤ p → atR (b :: m) p = atR m p := fun p h1 => by rw [atR_cons, if_neg (by rw [has_iff]; omega)]
      have hpage : a.page = b.page := by
        rcases Int.lt_trichotomy a.page b.page with q | q | q
        · have := he a.page
          rw [A _ (by omega) (by simp only [Ar.end_]; omega), B0 _ q] at this
          cases this
        · exact q
        · have := he b.page
          rw [B _ (by omega) (by simp only [Ar.end_]; omega), A0 _ q] at this
          cases this
      have hr : a.rights = b.rights := by
        have := he a.page
        rw [A _ (by omega) (by simp only [Ar.end_]; omega), B _ (by omega) (by simp only [Ar.end_]; omega)] at this
        simpa using this
      -- what comes right behind an area has other rights
      have behind : ∀ (x : Ar) (r : List Ar), Good (some x) r → atR r x.end_ ≠ some x.rights := by
        intro x r hr
        cases r with
        | nil => simp [atR_nil]
        | cons y r =>
          obtain ⟨y1, y2, y3⟩ := hr
          have y4 := meets_f.1 (y2 x rfl)
          have y5 := Ar.right_iff.1 y1
          rw [atR_cons]
          split
          · rename_i hh
            have hh := has_iff.1 hh
            simp
            exact fun hq => y4.2 ⟨by omega, hq⟩
          · rename_i hh
            rw [good_before y3]
            · simp
            · rw [has_iff] at hh; simp only [Ar.end_] at *; omega
      have hend : a.end_ = b.end_ := by
        rcases Int.lt_trichotomy a.end_ b.end_ with q | q | q
        · have := he a.end_
          rw [AE _ (by omega), B _ (by simp only [Ar.end_] at *; omega) q, ← hr] at this
          exact absurd this (behind a l a3)
        · exact q
        · have := he b.end_
          rw [BE _ (by omega), A _ (by simp only [Ar.end_] at *; omega) q, hr] at this
          exact absurd this.symm (behind b m b3)
      have hab : a = b := by rw [ar_eq]; simp only [Ar.end_] at hend; exact ⟨hpage, by omega, hr⟩
      subst hab
      congr 1
      refine ih a3.weak b3.weak fun p => ?_
      by_cases hp : p < a.end_
      · rw [good_before a3 hp, good_before b3 hp]
      · have := he p
        rwa [AE _ (by omega), BE _ (by omega)] at this

/-- areas one behind the other -/
def Dis : Int → List Ar → Prop
  | _, [] => True
  | e, a :: l => a.right = true ∧ e ≤ a.page ∧ Dis a.end_ l
def joins (b a : Ar) : Bool := decide (b.page + b.n = a.page) && decide (b.rights = a.rights)
def join1 (out : List Ar) (a : Ar) : List Ar :=
  match out.getLast? with
  | some b => if joins b a = true then out.dropLast ++ [⟨b.page, b.n + a.n, b.rights⟩] else out ++ [a]
  | none => [a]
def joinAll (l : List Ar) : List Ar := l.foldl join1 []
def lastEnd (e : Int) (l : List Ar) : Int := match l.getLast? with | some b => b.end_ | none => e
theorem good_snoc {p : Option Ar} {l : List Ar} {a : Ar} : Good p (l ++ [a]) ↔ Good p l ∧ a.right = true ∧ ∀ b, l.getLast?.or p = some b → b.meets a = false := by
  induction l generalizing p with
  | nil => simp [Good]
  | cons x l ih =>
    rw [List.cons_append]
    simp only [Good, ih]
    have : (x :: l).getLast?.or p = l.getLast?.or (some x) := by
      cases l with
      | nil => simp
      | cons y l =>
        rw [List.getLast?_cons_cons]
        have : (y :: l).getLast? = some ((y :: l).getLast (by simp)) := List.getLast?_eq_some_getLast _
        rw [this]; rfl
    rw [this]
    constructor
    · rintro ⟨h1, h2, h3, h4, h5⟩; exact ⟨⟨h1, h2, h3⟩, h4, h5⟩
    · rintro ⟨⟨h1, h2, h3⟩, h4, h5⟩; exact ⟨h1, h2, h3, h4, h5⟩
theorem join1_ok {out : List Ar} {a : Ar} (h : Good none out) (ha : a.right = true) (hl : lastEnd 0 out ≤ a.page) :
    Good none (join1 out a) ∧ lastEnd 0 (join1 out a) = a.end_ ∧ ∀ p, atR (join1 out a) p = (atR out p).or (if a.has p = true then some a.rights else none) := by
  rcases List.eq_nil_or_concat out with rfl | ⟨o, b, rfl⟩
  · refine ⟨⟨ha, by simp, trivial⟩, by simp [join1, lastEnd], fun p => by simp [join1, atR_nil, atR_cons]⟩
  · simp only [List.concat_eq_append] at *
    have hlast : (o ++ [b]).getLast? = some b := by simp
    simp only [lastEnd, hlast] at hl
    obtain ⟨g1, g2, g3⟩ := good_snoc.1 h
    have ra := Ar.right_iff.1 ha
    have rb := Ar.right_iff.1 g2
    unfold join1
    rw [hlast]
    simp only
    split
    · rename_i hj
      simp only [joins, Bool.and_eq_true, decide_eq_true_eq] at hj
      have hdrop : (o ++ [b]).dropLast = o := by simp
      rw [hdrop]
      refine ⟨good_snoc.2 ⟨g1, Ar.right_iff.2 (by simp; omega), fun c hc => ?_⟩, by simp [lastEnd, Ar.end_]; omega, fun p => ?_⟩
      · have := meets_f.1 (g3 c hc)
        exact meets_f.2 this
      · rw [atR_append, atR_append, atR_cons, atR_cons, atR_nil]
        cases atR o p with
        | some x => simp
        | none =>
          simp only [Option.none_or]
          by_cases q1 : b.has p = true
          · have q1' := has_iff.1 q1
            rw [if_pos q1, if_pos (has_iff.2 (by simp only [Ar.end_] at *; omega))]; rfl
          · by_cases q2 : a.has p = true
            · have q2' := has_iff.1 q2
              rw [if_neg q1, if_pos q2, if_pos (has_iff.2 (by simp only [Ar.end_] at *; omega)), hj.2]; rfl
            · rw [has_iff] at q1 q2
              have q1' : ¬ b.has p = true := by rw [has_iff]; exact q1
              have q2' : ¬ a.has p = true := by rw [has_iff]; exact q2
              rw [if_neg q1', if_neg q2', if_neg (by rw [has_iff]; simp only [Ar.end_] at *; omega)]; rfl
    · rename_i hj
      refine ⟨good_snoc.2 ⟨h, ha, fun c hc => ?_⟩, by simp [lastEnd], fun p => ?_⟩
      · rw [hlast] at hc
        simp at hc
        subst hc
        rw [meets_f]
        refine ⟨hl, fun hq => hj ?_⟩
        simp only [joins, Bool.and_eq_true, decide_eq_true_eq, Ar.end_] at *
        omega
      · rw [atR_append, atR_cons, atR_nil]
theorem joinAll_ok {l out : List Ar} (h : Good none out) (hd : Dis (lastEnd 0 out) l) :
    Good none (l.foldl join1 out) ∧ ∀ p, atR (l.foldl join1 out) p = (atR out p).or (atR l p) := by
  induction l generalizing out with
  | nil => exact ⟨h, fun p => by simp [atR_nil]⟩
  | cons a l ih =>
    obtain ⟨d1, d2, d3⟩ := hd
    obtain ⟨j1, j2, j3⟩ := join1_ok h d1 d2
    obtain ⟨k1, k2⟩ := ih j1 (by rw [j2]; exact d3)
    refine ⟨k1, fun p => ?_⟩
    rw [List.foldl_cons, k2, j3, atR_cons]
    cases atR out p <;> simp
    split <;> simp

/-- an area at its place -/
def insA (l : List Ar) (a : Ar) : List Ar := l.takeWhile (fun x => decide (x.page < a.page)) ++ a :: l.dropWhile (fun x => decide (x.page < a.page))
def layA (l : List Ar) (a : Ar) : List Ar := joinAll (insA l a)
def Apart (l : List Ar) (a : Ar) : Prop := ∀ x ∈ l, x.end_ ≤ a.page ∨ a.end_ ≤ x.page
theorem good_dis {b : Ar} {l : List Ar} (h : Good (some b) l) : Dis b.end_ l := by
  induction l generalizing b with
  | nil => trivial
  | cons a l ih => exact ⟨h.1, (meets_f.1 (h.2.1 b rfl)).1, ih h.2.2⟩
theorem Dis.mono {e e' : Int} {l : List Ar} (h : Dis e l) (he : e' ≤ e) : Dis e' l := by
  cases l with
  | nil => trivial
  | cons a l => exact ⟨h.1, by have := h.2.1; omega, h.2.2⟩
theorem good_dis0 {l : List Ar} (h : Good none l) : Dis 0 l := by
  cases l with
  | nil => trivial
  | cons a l => exact ⟨h.1, (Ar.right_iff.1 h.1).1, good_dis h.2.2⟩
theorem insA_dis {e : Int} {l : List Ar} {a : Ar} (h : Dis e l) (ha : a.right = true) (hap : Apart l a) (he : e ≤ a.page) : Dis e (insA l a) ∧ ∀ p, atR (insA l a) p = if a.has p = true then some a.rights else atR l p := by
  induction l generalizing e with
  | nil => exact ⟨⟨ha, he, trivial⟩, fun p => by simp [insA, atR_cons, atR_nil]⟩
  | cons x l ih =>
    obtain ⟨h1, h2, h3⟩ := h
    have hx := hap x (by simp)
    have r1 := Ar.right_iff.1 h1
    have r2 := Ar.right_iff.1 ha
    by_cases q : x.page < a.page
    · have e1 : insA (x :: l) a = x :: insA l a := by simp [insA, q]
      rw [e1]
      have hx' : x.end_ ≤ a.page := by simp only [Ar.end_] at *; omega
      obtain ⟨i1, i2⟩ := ih h3 (fun y hy => hap y (by simp [hy])) hx'
      refine ⟨⟨h1, h2, i1⟩, fun p => ?_⟩
      rw [atR_cons, atR_cons, i2]
      by_cases q1 : x.has p = true
      · have q1' := has_iff.1 q1
        rw [if_pos q1, if_neg (by rw [has_iff]; omega), if_pos q1]
      · simp [q1]
    · have e1 : insA (x :: l) a = a :: x :: l := by simp [insA, q]
      rw [e1]
      have hx' : a.end_ ≤ x.page := by simp only [Ar.end_] at *; omega
      exact ⟨⟨ha, he, h1, hx', h3⟩, fun p => by rw [atR_cons]⟩
theorem layA_ok {l : List Ar} {a : Ar} (h : Good none l) (ha : a.right = true) (hap : Apart l a) : Good none (layA l a) ∧ ∀ p, atR (layA l a) p = if a.has p = true then some a.rights else atR l p := by
  obtain ⟨i1, i2⟩ := insA_dis (good_dis0 h) ha hap (Ar.right_iff.1 ha).1
  obtain ⟨j1, j2⟩ := joinAll_ok (out := []) (l := insA l a) trivial (by simpa [lastEnd] using i1)
  exact ⟨j1, fun p => by rw [layA, joinAll, j2, atR_nil, i2]; simp⟩

/-- a stretch cut out -/
def cut1 (a : Ar) (f t : Int) : List Ar :=
  (if a.page < min a.end_ f then [⟨a.page, min a.end_ f - a.page, a.rights⟩] else []) ++ (if max a.page t < a.end_ then [⟨max a.page t, a.end_ - max a.page t, a.rights⟩] else [])
def cutA (l : List Ar) (f t : Int) : List Ar := l.flatMap fun a => cut1 a f t
theorem cut1_at (a : Ar) (f t p : Int) (ha : a.right = true) (hft : f < t) : atR (cut1 a f t) p = if f ≤ p ∧ p < t then none else if a.has p = true then some a.rights else none := by
  have r := Ar.right_iff.1 ha
  unfold cut1
  rw [atR_append]
  have e1 : atR (if a.page < min a.end_ f then [⟨a.page, min a.end_ f - a.page, a.rights⟩] else []) p = if a.page ≤ p ∧ p < a.end_ ∧ p < f then some a.rights else none := by
    by_cases q1 : a.page < min a.end_ f
    · rw [if_pos q1, atR_cons, atR_nil]
      have : (⟨a.page, min a.end_ f - a.page, a.rights⟩ : Ar).has p = true ↔ a.page ≤ p ∧ p < a.end_ ∧ p < f := by
        rw [has_iff]; simp only [Ar.end_]; omega
      simp only [this]
    · rw [if_neg q1, atR_nil, if_neg (by omega)]
  have e2 : atR (if max a.page t < a.end_ then [⟨max a.page t, a.end_ - max a.page t, a.rights⟩] else []) p = if a.page ≤ p ∧ p < a.end_ ∧ t ≤ p then some a.rights else none := by
    by_cases q1 : max a.page t < a.end_
    · rw [if_pos q1, atR_cons, atR_nil]
      have : (⟨max a.page t, a.end_ - max a.page t, a.rights⟩ : Ar).has p = true ↔ a.page ≤ p ∧ p < a.end_ ∧ t ≤ p := by
        rw [has_iff]; simp only [Ar.end_]; omega
      simp only [this]
    · rw [if_neg q1, atR_nil, if_neg (by omega)]
  rw [e1, e2]
  by_cases q : a.has p = true
  · have q' := has_iff.1 q
    rw [if_pos q]
    by_cases c1 : p < f
    · rw [if_pos (by omega), if_neg (by omega), if_neg (by omega)]; rfl
    · by_cases c2 : t ≤ p
      · rw [if_neg (by omega), if_pos (by omega), if_neg (by omega)]; rfl
      · rw [if_neg (by omega), if_neg (by omega), if_pos (by omega)]; rfl
  · rw [if_neg q]
    rw [has_iff] at q
    rw [if_neg (by omega), if_neg (by omega)]
    simp
theorem cut1_good {q : Option Ar} {a : Ar} {l : List Ar} {f t : Int} (ha : a.right = true) (hft : f < t) (hq : ∀ b, q = some b → b.meets a = false)
    (hl : ∀ c : Ar, c.end_ ≤ a.end_ → (c.end_ = a.end_ → c.rights = a.rights) → Good (some c) l) (hn : ∀ b, q = some b → Good (some b) l) (hz : q = none → Good none l) : Good q (cut1 a f t ++ l) := by
  have r := Ar.right_iff.1 ha
  have h0 : Good q l := by
    cases q with
    | none => exact hz rfl
    | some b => exact hn b rfl
  have m1 : ∀ (x : Ar), x.page = a.page → x.rights = a.rights → ∀ b, q = some b → b.meets x = false := by
    intro x h1 h2 b hb
    have := meets_f.1 (hq b hb)
    rw [meets_f]; omega
  have m2 : ∀ (x : Ar), a.page < x.page → ∀ b, q = some b → b.meets x = false := by
    intro x h1 b hb
    have := meets_f.1 (hq b hb)
    rw [meets_f]; omega
  unfold cut1
  by_cases q1 : a.page < min a.end_ f <;> by_cases q2 : max a.page t < a.end_ <;> simp only [q1, q2, if_true, if_false, List.nil_append, List.cons_append]
  · refine ⟨Ar.right_iff.2 (by simp only [Ar.end_] at *; omega), m1 _ rfl rfl, Ar.right_iff.2 (by simp only [Ar.end_] at *; omega), ?_, hl _ (by simp only [Ar.end_]; omega) (fun _ => rfl)⟩
    rintro b ⟨rfl⟩
    rw [meets_f]; simp only [Ar.end_] at *; omega
  · exact ⟨Ar.right_iff.2 (by simp only [Ar.end_] at *; omega), m1 _ rfl rfl, hl _ (by simp only [Ar.end_] at *; omega) (fun _ => rfl)⟩
  · refine ⟨Ar.right_iff.2 (by simp only [Ar.end_] at *; omega), ?_, hl _ (by simp only [Ar.end_]; omega) (fun _ => rfl)⟩
    by_cases q3 : a.page < max a.page t
    · exact m2 _ q3
    · exact m1 _ (by simp; omega) rfl
  · exact h0
theorem good_swap {b c : Ar} {l : List Ar} (h : Good (some b) l) (h1 : c.end_ ≤ b.end_) (h2 : c.end_ = b.end_ → c.rights = b.rights) : Good (some c) l := by
  cases l with
  | nil => trivial
  | cons a l =>
    refine ⟨h.1, ?_, h.2.2⟩
    rintro x ⟨rfl⟩
    have := meets_f.1 (h.2.1 b rfl)
    rw [meets_f]
    refine ⟨by omega, fun hq => this.2 ⟨by omega, ?_⟩⟩
    rw [hq.2, h2 (by omega)]
theorem cutA_good {q q' : Option Ar} {l : List Ar} {f t : Int} (hft : f < t) (h : Good q l) (hq : ∀ b, q' = some b → ∃ a, q = some a ∧ b.end_ ≤ a.end_ ∧ (b.end_ = a.end_ → b.rights = a.rights)) : Good q' (cutA l f t) := by
  induction l generalizing q q' with
  | nil => trivial
  | cons a l ih =>
    obtain ⟨h1, h2, h3⟩ := h
    rw [cutA, List.flatMap_cons]
    have hqa : ∀ b, q' = some b → b.meets a = false := by
      intro b hb
      obtain ⟨x, hx, e1, e2⟩ := hq b hb
      have := meets_f.1 (h2 x hx)
      rw [meets_f]
      refine ⟨by omega, fun hh => this.2 ⟨by omega, ?_⟩⟩
      rw [hh.2, e2 (by omega)]
    have r := Ar.right_iff.1 h1
    refine cut1_good h1 hft hqa (fun c e1 e2 => ih h3 ?_) (fun b hb => ?_) (fun hn => ?_)
    · rintro x ⟨rfl⟩; exact ⟨a, rfl, e1, e2⟩
    · refine ih h3 ?_
      rintro x hx
      cases hx
      have := meets_f.1 (hqa b hb)
      refine ⟨a, rfl, by simp only [Ar.end_] at *; omega, fun e => ?_⟩
      simp only [Ar.end_] at *; omega
    · refine (ih (q' := none) h3 ?_)
      rintro x hx; cases hx
theorem cutA_at {q : Option Ar} {l : List Ar} {f t p : Int} (hft : f < t) (h : Good q l) : atR (cutA l f t) p = if f ≤ p ∧ p < t then none else atR l p := by
  induction l generalizing q with
  | nil => simp [cutA, atR_nil]
  | cons a l ih =>
    have e : cutA (a :: l) f t = cut1 a f t ++ cutA l f t := by simp [cutA]
    rw [e, atR_append, cut1_at _ _ _ _ h.1 hft, ih h.2.2, atR_cons]
    (repeat' split) <;> simp
theorem cutA_ok {l : List Ar} {f t : Int} (hft : f < t) (h : Good none l) : Good none (cutA l f t) ∧ ∀ p, atR (cutA l f t) p = if f ≤ p ∧ p < t then none else atR l p :=
  ⟨cutA_good hft h (fun b hb => by cases hb), fun p => cutA_at hft h⟩

/-- how many pages of a stretch -/
def many1 (a : Ar) (f t : Int) : Int := max 0 (min a.end_ t - max a.page f)
def manyA (l : List Ar) (f t : Int) : Int := (l.map fun a => many1 a f t).foldr (· + ·) 0
theorem manyA_nil (f t : Int) : manyA [] f t = 0 := rfl
theorem manyA_cons (a : Ar) (l : List Ar) (f t : Int) : manyA (a :: l) f t = many1 a f t + manyA l f t := rfl
theorem manyA_nn (l : List Ar) (f t : Int) : 0 ≤ manyA l f t := by
  induction l with
  | nil => simp [manyA_nil]
  | cons a l ih => rw [manyA_cons]; unfold many1; omega
theorem manyA_zero {q : Option Ar} {l : List Ar} {a : Ar} (h : Good q l) (ha : a.right = true) : manyA l a.page a.end_ = 0 ↔ Apart l a := by
  induction l generalizing q with
  | nil => simp [manyA_nil, Apart]
  | cons x l ih =>
    have r1 := Ar.right_iff.1 h.1
    have r2 := Ar.right_iff.1 ha
    have i := ih h.2.2
    have n := manyA_nn l a.page a.end_
    rw [manyA_cons]
    constructor
    · intro hz
      have hx : many1 x a.page a.end_ = 0 := by unfold many1 at *; omega
      intro y hy
      rcases List.mem_cons.1 hy with rfl | hy
      · simp only [many1, Ar.end_] at *; omega
      · exact i.1 (by rw [hx] at hz; omega) y hy
    · intro hz
      have := i.2 (fun y hy => hz y (by simp [hy]))
      have hx := hz x (by simp)
      simp only [many1, Ar.end_] at *; omega
theorem manyA_none {q : Option Ar} {l : List Ar} (h : Good q l) {f t : Int} (hb : ∀ b, q = some b → t ≤ b.end_) (hq : q ≠ none) : manyA l f t = 0 := by
  induction l generalizing q with
  | nil => rfl
  | cons x l ih =>
    cases q with
    | none => exact absurd rfl hq
    | some b =>
      have h1 := meets_f.1 (h.2.1 b rfl)
      have h2 := hb b rfl
      have r1 := Ar.right_iff.1 h.1
      rw [manyA_cons, ih h.2.2 (by rintro y ⟨rfl⟩; simp only [Ar.end_] at *; omega) (by simp)]
      simp only [many1, Ar.end_] at *; omega
theorem manyA_le {q : Option Ar} {l : List Ar} (h : Good q l) {f t : Int} (hft : f ≤ t) : manyA l f t ≤ t - f ∧ ∀ b, q = some b → f ≤ b.end_ → b.end_ ≤ t → manyA l f t ≤ t - b.end_ := by
  induction l generalizing q with
  | nil => simp [manyA_nil]; omega
  | cons x l ih =>
    have r1 := Ar.right_iff.1 h.1
    obtain ⟨i1, i2⟩ := ih h.2.2
    rw [manyA_cons]
    have key : many1 x f t + manyA l f t ≤ t - f ∧ (f ≤ x.page → x.page ≤ t → many1 x f t + manyA l f t ≤ t - x.page) ∧ (t < x.page → many1 x f t + manyA l f t = 0) := by
      by_cases c1 : x.end_ < f
      · have : many1 x f t = 0 := by simp only [many1, Ar.end_] at *; omega
        refine ⟨by omega, fun c => ?_, fun c => ?_⟩
        · simp only [Ar.end_] at *; omega
        · simp only [Ar.end_] at *; omega
      · by_cases c2 : x.end_ ≤ t
        · have := i2 x rfl (by omega) c2
          simp only [many1, Ar.end_] at *
          refine ⟨by omega, fun _ _ => by omega, fun c => by omega⟩
        · have hz := manyA_none h.2.2 (f := f) (t := t) (by rintro b ⟨rfl⟩; omega) (by simp)
          rw [hz]
          simp only [many1, Ar.end_] at *
          refine ⟨by omega, fun _ _ => by omega, fun c => by omega⟩
    refine ⟨key.1, fun b hb c1 c2 => ?_⟩
    have h1 := meets_f.1 (h.2.1 b hb)
    by_cases c3 : x.page ≤ t
    · have := key.2.1 (by omega) c3; omega
    · have := key.2.2 (by omega); omega
/-- all pages of a stretch are in areas -/
theorem manyA_full {q : Option Ar} {l : List Ar} (h : Good q l) {f t : Int} (hft : f ≤ t) (h64 : t ≤ 64) : manyA l f t = t - f ↔ ∀ p, f ≤ p → p < t → atR l p ≠ none := by
  induction l generalizing q f with
  | nil =>
    simp only [manyA_nil, atR_nil]
    constructor
    · intro h p h1 h2; omega
    · intro h
      by_cases c : f < t
      · exact absurd rfl (h f (by omega) c)
      · omega
  | cons x l ih =>
    have r1 := Ar.right_iff.1 h.1
    rw [manyA_cons]
    obtain ⟨l1, l2⟩ := manyA_le h.2.2 hft
    by_cases c1 : x.end_ ≤ f
    · have e1 : many1 x f t = 0 := by simp only [many1, Ar.end_] at *; omega
      have i := ih h.2.2 hft
      rw [e1, Int.zero_add, i]
      constructor
      · intro hh p h1 h2; rw [atR_cons, if_neg (by rw [has_iff]; omega)]; exact hh p h1 h2
      · intro hh p h1 h2; have := hh p h1 h2; rwa [atR_cons, if_neg (by rw [has_iff]; omega)] at this
    · by_cases c2 : f < x.page
      · by_cases c3 : f < t
        · constructor
          · intro hh
            exfalso
            by_cases c4 : x.page ≤ t
            · by_cases c5 : x.end_ ≤ t
              · have := l2 x rfl (by omega) c5
                simp only [many1, Ar.end_] at *; omega
              · have hz := manyA_none h.2.2 (f := f) (t := t) (by rintro b ⟨rfl⟩; omega) (by simp)
                simp only [many1, Ar.end_] at *; omega
            · have hz := manyA_none h.2.2 (f := f) (t := t) (by rintro b ⟨rfl⟩; simp only [Ar.end_] at *; omega) (by simp)
              simp only [many1, Ar.end_] at *; omega
          · intro hh
            have := hh f (by omega) c3
            rw [atR_cons, if_neg (by rw [has_iff]; omega), good_before h.2.2 (by simp only [Ar.end_] at *; omega)] at this
            exact absurd rfl this
        · have : t = f := by omega
          subst this
          have hz := manyA_none h.2.2 (f := t) (t := t) (by rintro b ⟨rfl⟩; simp only [Ar.end_] at *; omega) (by simp)
          rw [hz]
          constructor
          · intro _ p h1 h2; omega
          · intro _; simp only [many1, Ar.end_] at *; omega
      · by_cases c3 : x.end_ ≤ t
        · have i := ih h.2.2 (f := x.end_) c3
          have e2 : manyA l f t = manyA l x.end_ t := by
            clear ih i l1 l2
            have : ∀ (m : List Ar) (b : Ar), Good (some b) m → x.end_ ≤ b.end_ → manyA m f t = manyA m x.end_ t := by
              intro m
              induction m with
              | nil => intro b _ _; rfl
              | cons y m ihm =>
                intro b hb hx
                have g := meets_f.1 (hb.2.1 b rfl)
                have ry := Ar.right_iff.1 hb.1
                rw [manyA_cons, manyA_cons, ihm y hb.2.2 (by simp only [Ar.end_] at *; omega)]
                congr 1
                simp only [many1, Ar.end_] at *; omega
            exact this l x h.2.2 (Int.le_refl _)
          have e1 : many1 x f t = x.end_ - f := by simp only [many1, Ar.end_] at *; omega
          rw [e1, e2]
          constructor
          · intro hh p h1 h2
            rw [atR_cons]
            split
            · simp
            · rename_i hn
              rw [has_iff] at hn
              exact i.1 (by omega) p (by omega) h2
          · intro hh
            have := i.2 (fun p h1 h2 => by
              have := hh p (by omega) h2
              rwa [atR_cons, if_neg (by rw [has_iff]; omega)] at this)
            omega
        · have hz := manyA_none h.2.2 (f := f) (t := t) (by rintro b ⟨rfl⟩; omega) (by simp)
          rw [hz]
          constructor
          · intro _ p h1 h2
            rw [atR_cons, if_pos (has_iff.2 (by omega))]; simp
          · intro _; simp only [many1, Ar.end_] at *; omega

/-- the first gap -/
def gapGo (n : Int) : Int → List Ar → Int
  | e, [] => if 64 - e < n then -1 else e
  | e, a :: l => if n ≤ a.page - e then e else gapGo n a.end_ l
theorem gapGo_ok {n e : Int} {l : List Ar} {b : Ar} (h : Dis e l) (hn : 1 ≤ n) (h0 : 0 ≤ e) (he : e ≤ 64) (hb : b.right = true) (hbn : b.n = n) (hbe : e ≤ b.page) (hap : Apart l b) : 0 ≤ gapGo n e l ∧ gapGo n e l ≤ b.page := by
  induction l generalizing e with
  | nil =>
    have r := Ar.right_iff.1 hb
    simp only [gapGo]
    split <;> omega
  | cons a l ih =>
    have r := Ar.right_iff.1 hb
    have ra := Ar.right_iff.1 h.1
    simp only [gapGo]
    split
    · omega
    · rename_i hg
      have hx := hap a (by simp)
      have : a.end_ ≤ b.page := by
        rcases hx with hx | hx
        · exact hx
        · simp only [Ar.end_] at *; omega
      exact ih h.2.2 (by simp only [Ar.end_] at *; omega) (by simp only [Ar.end_] at *; omega) this (fun y hy => hap y (by simp [hy]))
theorem gapGo_fits {n e : Int} {l : List Ar} (h : Dis e l) (hn : 1 ≤ n) (h0 : 0 ≤ e) (he : e ≤ 64) (hg : 0 ≤ gapGo n e l) : e ≤ gapGo n e l ∧ gapGo n e l + n ≤ 64 ∧ Apart l ⟨gapGo n e l, n, 0⟩ := by
  induction l generalizing e with
  | nil =>
    simp only [gapGo] at *
    split at hg
    · omega
    · rename_i hh
      rw [if_neg hh]
      exact ⟨by omega, by omega, by simp [Apart]⟩
  | cons a l ih =>
    have ra := Ar.right_iff.1 h.1
    simp only [gapGo] at *
    split at hg
    · rename_i hh
      rw [if_pos hh]
      refine ⟨by omega, by omega, fun x hx => ?_⟩
      right
      have key : ∀ (m : List Ar) (e' : Int), Dis e' m → ∀ x ∈ m, e' ≤ x.page := by
        intro m
        induction m with
        | nil => intro e' _ x hx; simp at hx
        | cons y m ihm =>
          intro e' hd x hx
          have ry := Ar.right_iff.1 hd.1
          rcases List.mem_cons.1 hx with rfl | hx
          · exact hd.2.1
          · have := ihm y.end_ hd.2.2 x hx
            have := hd.2.1
            simp only [Ar.end_] at *; omega
      rcases List.mem_cons.1 hx with rfl | hx
      · simp only [Ar.end_]; omega
      · have := key l _ h.2.2 x hx
        have := h.2.1
        simp only [Ar.end_] at *; omega
    · rename_i hh
      rw [if_neg hh]
      have := h.2.1
      obtain ⟨i1, i2, i3⟩ := ih h.2.2 (by simp only [Ar.end_] at *; omega) (by simp only [Ar.end_] at *; omega) hg
      refine ⟨by simp only [Ar.end_] at *; omega, i2, fun x hx => ?_⟩
      rcases List.mem_cons.1 hx with rfl | hx
      · left; exact i1
      · exact i3 x hx
end Go.Proofs.Ytjohjiphjmcolaa
