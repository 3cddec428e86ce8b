/- Areas, as lists: what lists in the right form say of pages. No program in sight. Package area: what its functions answer. Package area: areas laid. Package area: what its functions answer, the rest. Package area: Put, Turn, Out; their results are one's own. -/
import Derived.Test.YtebpjfdbjhodiaaFaT
import Derived.Test.YtebpjfdbjhodiaaToA
import Derived.Test.YtebpjfdbjhodiaaAiZe
import Derived.Test.YtebpjfdbjhodiaaAiZi
namespace Go.Proofs.Ytebpjfdbjhodiaa
open Go.AI
set_option linter.unusedSimpArgs false
set_option linter.unusedVariables false
section
set_option linter.unusedSimpArgs false
set_option linter.unusedVariables false
structure Ar where
  page : Int
  n : Int
  rights : Int
  deriving DecidableEq
def arDec : Row → Option Ar
  | [.v (.int .i64 x0), .v (.int .i64 x1), .v (.int .i64 x2)] => some ⟨x0, x1, x2⟩
  | _ => none
def Ar.row (e : Ar) : Row := [.v (.int .i64 e.page), .v (.int .i64 e.n), .v (.int .i64 e.rights)]
def rAr : RCod Ar := RCod.plain 3 Ar.row arDec
  (fun e => rfl) (fun _ => rfl) (fun r e h => by
    unfold arDec at h
    split at h
    · simp at h; subst h; rfl
    · cases h)
def Ar.val (e : Ar) : Value := .agg #[.int .i64 e.page, .int .i64 e.n, .int .i64 e.rights]
theorem Ar.eta (e : Ar) : Ar.mk e.page e.n e.rights = e := rfl
attribute [local simp] Ar.eta
theorem Ar.cold (l : List Ar) : coldR (l.map Ar.row) = l.map Ar.row := by
  induction l with
  | nil => simp [coldR]
  | cons e l ih => simp [coldR, coldC, AI.cold, ih, Ar.row]
theorem Ar.mapM (l : List Ar) : (l.map Ar.row).mapM arDec = some l := mapM_dec rAr l
theorem Ar.mapMc (l : List Ar) : l.mapM (arDec ∘ Ar.row) = some l := mapM_dec' rAr l
theorem Ar.view (H : Heap) (n : Nat) (e : Ar) : List.map (AI.view H n) e.row = e.row := by cases n <;> simp [Ar.row, AI.view]
theorem Ar.viewc (H : Heap) (n : Nat) : List.map (AI.view H n) ∘ Ar.row = Ar.row := by funext e; exact Ar.view H n e
theorem Ar.hotR (l : List Ar) : AI.hotR (l.map Ar.row) = true := by
  induction l with
  | nil => simp [AI.hotR]
  | cons e l ih => simp [AI.hotR, hotC, hot, ih, Ar.row]
theorem Ar.ren (n : Nat) (th : List Nat) (e : Ar) : List.map (AI.ren n th) e.row = e.row := by simp [Ar.row, AI.ren]
theorem Ar.renc (n : Nat) (th : List Nat) : List.map (AI.ren n th) ∘ Ar.row = Ar.row := by funext e; exact Ar.ren n th e
theorem Ar.low (n : Nat) (e : Ar) : e.row.all (lowA n) = true := by simp [Ar.row, lowA]
theorem Ar.tau (fp : List Nat) (n : Nat) (e : Ar) : List.map (AI.tau fp n) e.row = e.row := by simp [Ar.row, AI.tau]
theorem Ar.tauc (fp : List Nat) (n : Nat) : List.map (AI.tau fp n) ∘ Ar.row = Ar.row := by funext e; exact Ar.tau fp n e
theorem Ar.bare (e : Ar) : e.row.all bareA = true := by simp [Ar.row, bareA]
theorem Ar.flat (l : List Ar) : flat0 (l.map Ar.row) = true := by simp [flat0, Ar.low]
theorem Ar.flat1 (e : Ar) : flat0 [e.row] = true := by simp [flat0, Ar.low]
theorem Ar.exact : Exact rAr := by
  intro r e h
  simp only [rAr, RCod.plain] at h ⊢
  unfold arDec at h
  split at h
  · simp at h; subst h; rfl
  · cases h
theorem Ar.mapMt (k : Nat) (l : List Ar) : (List.take k (l.map Ar.row)).mapM arDec = some (l.take k) := by rw [← List.map_take]; exact mapM_dec rAr _
theorem Ar.mapMd (k : Nat) (l : List Ar) : (List.drop k (l.map Ar.row)).mapM arDec = some (l.drop k) := by rw [← List.map_drop]; exact mapM_dec rAr _
theorem Ar.coldt (k : Nat) (l : List Ar) : coldR (List.take k (l.map Ar.row)) = List.take k (l.map Ar.row) := by rw [← List.map_take]; exact Ar.cold _
theorem Ar.coldd (k : Nat) (l : List Ar) : coldR (List.drop k (l.map Ar.row)) = List.drop k (l.map Ar.row) := by rw [← List.map_drop]; exact Ar.cold _
theorem Ar.hotRt (k : Nat) (l : List Ar) : AI.hotR (List.take k (l.map Ar.row)) = true := by rw [← List.map_take]; exact Ar.hotR _
theorem Ar.hotRd (k : Nat) (l : List Ar) : AI.hotR (List.drop k (l.map Ar.row)) = true := by rw [← List.map_drop]; exact Ar.hotR _
attribute [local simp] Ar.hotRt Ar.hotRd
attribute [local simp] Ar.tau Ar.tauc Ar.bare Ar.flat Ar.flat1 Ar.mapMt Ar.mapMd Ar.coldt Ar.coldd
attribute [local simp] Ar.cold Ar.mapM Ar.mapMc Ar.view Ar.viewc Ar.hotR Ar.ren Ar.renc Ar.low
theorem ar_eq (a b : Ar) : a = b ↔ (a.page = b.page ∧ a.n = b.n ∧ a.rights = b.rights) := by cases a; cases b; simp

def Ar.end_ (a : Ar) : Int := a.page + a.n
def Ar.right (a : Ar) : Bool := decide (0 ≤ a.page) && decide (a.page < 64) && decide (1 ≤ a.n) && decide (a.n ≤ 64 - a.page) && decide (0 ≤ a.rights) && decide (a.rights ≤ 7)
theorem Ar.right_iff {a : Ar} : a.right = true ↔ 0 ≤ a.page ∧ a.page < 64 ∧ 1 ≤ a.n ∧ a.n ≤ 64 - a.page ∧ 0 ≤ a.rights ∧ a.rights ≤ 7 := by
  simp [Ar.right]; omega
def Ar.meets (b a : Ar) : Bool := decide (a.page < b.page + b.n) || (decide (a.page = b.page + b.n) && decide (a.rights = b.rights))

/-- the right form, behind an area that ends at a page -/
def arGo : Option Ar → List Ar → Int
  | _, [] => 0
  | p, a :: l => if a.right = true then (match p with | some b => if b.meets a = true then 3 else arGo (some a) l | none => arGo (some a) l) else 1
def arCheck (l : List Ar) : Int := if 64 < l.length then 2 else arGo none l

/-- the same, as a property -/
def Good : Option Ar → List Ar → Prop
  | _, [] => True
  | p, a :: l => a.right = true ∧ (∀ b, p = some b → b.meets a = false) ∧ Good (some a) l
theorem arGo_iff {p : Option Ar} {l : List Ar} : arGo p l = 0 ↔ Good p l := by
  induction l generalizing p with
  | nil => simp [arGo, Good]
  | cons a l ih =>
    simp only [arGo, Good]
    by_cases h : a.right = true
    · cases p with
      | none => simp [h, ih]
      | some b =>
        by_cases h2 : b.meets a = true
        · simp [h, h2]
        · simp [h, h2, ih]
    · simp [h]
theorem meets_f {a b : Ar} : b.meets a = false ↔ b.end_ ≤ a.page ∧ ¬ (a.page = b.end_ ∧ a.rights = b.rights) := by
  simp [Ar.meets, Ar.end_]
theorem good_len {p : Option Ar} {l : List Ar} (h : Good p l) (a : Ar) (hp : p = some a) : (l.length : Int) ≤ 64 - a.end_ ∨ l = [] := by
  induction l generalizing p a with
  | nil => simp
  | cons b l ih =>
    obtain ⟨h1, h2, h3⟩ := h
    have h4 := meets_f.1 (h2 a hp)
    have h5 := Ar.right_iff.1 h1
    left
    rcases ih h3 b rfl with h6 | h6
    · simp only [Ar.end_] at *; simp; omega
    · subst h6; simp only [Ar.end_] at *; simp; omega
theorem good_len0 {l : List Ar} (h : Good none l) : l.length ≤ 64 := by
  cases l with
  | nil => simp
  | cons b l =>
    obtain ⟨h1, h2, h3⟩ := h
    have h5 := Ar.right_iff.1 h1
    rcases good_len h3 b rfl with h6 | h6
    · simp only [Ar.end_] at *; simp; omega
    · subst h6; simp
theorem arCheck_iff {l : List Ar} : arCheck l = 0 ↔ Good none l := by
  unfold arCheck
  split
  · rename_i h
    simp
    intro hg
    have := good_len0 hg
    omega
  · exact arGo_iff
theorem Good.weak {p : Option Ar} {l : List Ar} (h : Good p l) : Good none l := by
  cases l with
  | nil => trivial
  | cons a l => exact ⟨h.1, by simp, h.2.2⟩
theorem Good.mem {p : Option Ar} {l : List Ar} (h : Good p l) {a : Ar} (ha : a ∈ l) : a.right = true := by
  induction l generalizing p with
  | nil => simp at ha
  | cons b l ih =>
    rcases List.mem_cons.1 ha with rfl | ha
    · exact h.1
    · exact ih h.2.2 ha

/-- is a page in an area -/
def Ar.has (a : Ar) (p : Int) : Bool := decide (a.page ≤ p) && decide (p < a.page + a.n)
def arAt (l : List Ar) (p : Int) : Option Ar := l.find? (·.has p)
def atR (l : List Ar) (p : Int) : Option Int := (arAt l p).map (·.rights)
theorem atR_nil (p : Int) : atR [] p = none := rfl
theorem atR_cons (a : Ar) (l : List Ar) (p : Int) : atR (a :: l) p = if a.has p = true then some a.rights else atR l p := by
  simp only [atR, arAt, List.find?_cons]
  cases h : a.has p <;> simp
theorem atR_append (l m : List Ar) (p : Int) : atR (l ++ m) p = (atR l p).or (atR m p) := by
  induction l with
  | nil => simp [atR_nil]
  | cons a l ih =>
    rw [List.cons_append, atR_cons, atR_cons, ih]
    split <;> simp
theorem has_iff {a : Ar} {p : Int} : a.has p = true ↔ a.page ≤ p ∧ p < a.end_ := by simp [Ar.has, Ar.end_]
/-- nothing ahead of a list -/
theorem good_before {b : Ar} {l : List Ar} (h : Good (some b) l) {p : Int} (hp : p < b.end_) : atR l p = none := by
  induction l generalizing b with
  | nil => rfl
  | cons a l ih =>
    obtain ⟨h1, h2, h3⟩ := h
    have h4 := meets_f.1 (h2 b rfl)
    have h5 := Ar.right_iff.1 h1
    rw [atR_cons, if_neg, ih h3]
    · simp only [Ar.end_] at *; omega
    · rw [has_iff]; omega
/-- two lists in the right form that say the same are the same -/
theorem good_one {l m : List Ar} (h : Good none l) (k : Good none m) (he : ∀ p, atR l p = atR m p) : l = m := by
  induction l generalizing m with
  | nil =>
    cases m with
    | nil => rfl
    | cons b m =>
      have := he b.page
      have hb := Ar.right_iff.1 k.1
      rw [atR_cons, if_pos (by rw [has_iff]; simp only [Ar.end_]; omega)] at this
      simp [atR_nil] at this
  | cons a l ih =>
    cases m with
    | nil =>
      have := he a.page
      have hb := Ar.right_iff.1 h.1
      rw [atR_cons, if_pos (by rw [has_iff]; simp only [Ar.end_]; omega)] at this
      simp [atR_nil] at this
    | cons b m =>
      obtain ⟨a1, _, a3⟩ := h
      obtain ⟨b1, _, b3⟩ := k
      have qa := Ar.right_iff.1 a1
      have qb := Ar.right_iff.1 b1
      have A : ∀ p, a.page ≤ p → p < a.end_ → atR (a :: l) p = some a.rights := fun p h1 h2 => by rw [atR_cons, if_pos (has_iff.2 ⟨h1, h2⟩)]
      have B : ∀ p, b.page ≤ p → p < b.end_ → atR (b :: m) p = some b.rights := fun p h1 h2 => by rw [atR_cons, if_pos (has_iff.2 ⟨h1, h2⟩)]
      have A0 : ∀ p, p < a.page → atR (a :: l) p = none := fun p h1 => by
        rw [atR_cons, if_neg (by rw [has_iff]; omega)]; exact good_before a3 (by simp only [Ar.end_]; omega)
      have B0 : ∀ p, p < b.page → atR (b :: m) p = none := fun p h1 => by
        rw [atR_cons, if_neg (by rw [has_iff]; omega)]; exact good_before b3 (by simp only [Ar.end_]; omega)
      have AE : ∀ p, a.end_ ≤ p → atR (a :: l) p = atR l p := fun p h1 => by rw [atR_cons, if_neg (by rw [has_iff]; omega)]
      have BE : ∀ p, b.end_ ≤ p → atR (b :: m) p = atR m p := fun p h1 => by rw [atR_cons, if_neg (by rw [has_iff]; omega)]
      have hpage : a.page = b.page := by
        rcases Int.lt_trichotomy a.page b.page with q | q | q
        · have := he a.page
          rw [A _ (by omega) (by simp only [Ar.end_]; omega), B0 _ q] at this
          cases this
        · exact q
        · have := he b.page
          rw [B _ (by omega) (by simp only [Ar.end_]; omega), A0 _ q] at this
          cases this
      have hr : a.rights = b.rights := by
        have := he a.page
        rw [A _ (by omega) (by simp only [Ar.end_]; omega), B _ (by omega) (by simp only [Ar.end_]; omega)] at this
        simpa using this
      -- what comes right behind an area has other rights
      have behind : ∀ (x : Ar) (r : List Ar), Good (some x) r → atR r x.end_ ≠ some x.rights := by
        intro x r hr
        cases r with
        | nil => simp [atR_nil]
        | cons y r =>
          obtain ⟨y1, y2, y3⟩ := hr
          have y4 := meets_f.1 (y2 x rfl)
          have y5 := Ar.right_iff.1 y1
          rw [atR_cons]
          split
          · rename_i hh
            have hh := has_iff.1 hh
            simp
            exact fun hq => y4.2 ⟨by omega, hq⟩
          · rename_i hh
            rw [good_before y3]
            · simp
            · rw [has_iff] at hh; simp only [Ar.end_] at *; omega
      have hend : a.end_ = b.end_ := by
        rcases Int.lt_trichotomy a.end_ b.end_ with q | q | q
        · have := he a.end_
          rw [AE _ (by omega), B _ (by simp only [Ar.end_] at *; omega) q, ← hr] at this
          exact absurd this (behind a l a3)
        · exact q
        · have := he b.end_
          rw [BE _ (by omega), A _ (by simp only [Ar.end_] at *; omega) q, hr] at this
          exact absurd this.symm (behind b m b3)
      have hab : a = b := by rw [ar_eq]; simp only [Ar.end_] at hend; exact ⟨hpage, by omega, hr⟩
      subst hab
      congr 1
      refine ih a3.weak b3.weak fun p => ?_
      by_cases hp : p < a.end_
      · rw [good_before a3 hp, good_before b3 hp]
      · have := he p
        rwa [AE _ (by omega), BE _ (by omega)] at this

/-- areas one behind the other -/
def Dis : Int → List Ar → Prop
  | _, [] => True
  | e, a :: l => a.right = true ∧ e ≤ a.page ∧ Dis a.end_ l
def joinsA (b a : Ar) : Bool := decide (b.page + b.n = a.page) && decide (b.rights = a.rights)
def join1 (out : List Ar) (a : Ar) : List Ar :=
  match out.getLast? with
  | some b => if joinsA b a = true then out.dropLast ++ [⟨b.page, b.n + a.n, b.rights⟩] else out ++ [a]
  | none => [a]
def joinAll (l : List Ar) : List Ar := l.foldl join1 []
def lastEnd (e : Int) (l : List Ar) : Int := match l.getLast? with | some b => b.end_ | none => e
theorem good_snoc {p : Option Ar} {l : List Ar} {a : Ar} : Good p (l ++ [a]) ↔ Good p l ∧ a.right = true ∧ ∀ b, l.getLast?.or p = some b → b.meets a = false := by
  induction l generalizing p with
  | nil => simp [Good]
  | cons x l ih =>
    rw [List.cons_append]
    simp only [Good, ih]
    have : (x :: l).getLast?.or p = l.getLast?.or (some x) := by
      cases l with
      | nil => simp
      | cons y l =>
        rw [List.getLast?_cons_cons]
        have : (y :: l).getLast? = some ((y :: l).getLast (by simp)) := List.getLast?_eq_some_getLast _
        rw [this]; rfl
    rw [this]
    constructor
    · rintro ⟨h1, h2, h3, h4, h5⟩; exact ⟨⟨h1, h2, h3⟩, h4, h5⟩
    · rintro ⟨⟨h1, h2, h3⟩, h4, h5⟩; exact ⟨h1, h2, h3, h4, h5⟩
theorem join1_ok {out : List Ar} {a : Ar} (h : Good none out) (ha : a.right = true) (hl : lastEnd 0 out ≤ a.page) :
    Good none (join1 out a) ∧ lastEnd 0 (join1 out a) = a.end_ ∧ ∀ p, atR (join1 out a) p = (atR out p).or (if a.has p = true then some a.rights else none) := by
  rcases List.eq_nil_or_concat out with rfl | ⟨o, b, rfl⟩
  · refine ⟨⟨ha, by simp, trivial⟩, by simp [join1, lastEnd], fun p => by simp [join1, atR_nil, atR_cons]⟩
  · simp only [List.concat_eq_append] at *
    have hlast : (o ++ [b]).getLast? = some b := by simp
    simp only [lastEnd, hlast] at hl
    obtain ⟨g1, g2, g3⟩ := good_snoc.1 h
    have ra := Ar.right_iff.1 ha
    have rb := Ar.right_iff.1 g2
    unfold join1
    rw [hlast]
    simp only
    split
    · rename_i hj
      simp only [joinsA, Bool.and_eq_true, decide_eq_true_eq] at hj
      have hdrop : (o ++ [b]).dropLast = o := by simp
      rw [hdrop]
      refine ⟨good_snoc.2 ⟨g1, Ar.right_iff.2 (by simp; omega), fun c hc => ?_⟩, by simp [lastEnd, Ar.end_]; omega, fun p => ?_⟩
      · have := meets_f.1 (g3 c hc)
        exact meets_f.2 this
      · rw [atR_append, atR_append, atR_cons, atR_cons, atR_nil]
        cases atR o p with
        | some x => simp
        | none =>
          simp only [Option.none_or]
          by_cases q1 : b.has p = true
          · have q1' := has_iff.1 q1
            rw [if_pos q1, if_pos (has_iff.2 (by simp only [Ar.end_] at *; omega))]; rfl
          · by_cases q2 : a.has p = true
            · have q2' := has_iff.1 q2
              rw [if_neg q1, if_pos q2, if_pos (has_iff.2 (by simp only [Ar.end_] at *; omega)), hj.2]; rfl
            · rw [has_iff] at q1 q2
              have q1' : ¬ b.has p = true := by rw [has_iff]; exact q1
              have q2' : ¬ a.has p = true := by rw [has_iff]; exact q2
              rw [if_neg q1', if_neg q2', if_neg (by rw [has_iff]; simp only [Ar.end_] at *; omega)]; rfl
    · rename_i hj
      refine ⟨good_snoc.2 ⟨h, ha, fun c hc => ?_⟩, by simp [lastEnd], fun p => ?_⟩
      · rw [hlast] at hc
        simp at hc
        subst hc
        rw [meets_f]
        refine ⟨hl, fun hq => hj ?_⟩
        simp only [joinsA, Bool.and_eq_true, decide_eq_true_eq, Ar.end_] at *
        omega
      · rw [atR_append, atR_cons, atR_nil]
theorem joinAll_ok {l out : List Ar} (h : Good none out) (hd : Dis (lastEnd 0 out) l) :
    Good none (l.foldl join1 out) ∧ ∀ p, atR (l.foldl join1 out) p = (atR out p).or (atR l p) := by
  induction l generalizing out with
  | nil => exact ⟨h, fun p => by simp [atR_nil]⟩
  | cons a l ih =>
    obtain ⟨d1, d2, d3⟩ := hd
    obtain ⟨j1, j2, j3⟩ := join1_ok h d1 d2
    obtain ⟨k1, k2⟩ := ih j1 (by rw [j2]; exact d3)
    refine ⟨k1, fun p => ?_⟩
    rw [List.foldl_cons, k2, j3, atR_cons]
    cases atR out p <;> simp
    split <;> simp

/-- an area at its place -/
def insA (l : List Ar) (a : Ar) : List Ar := l.takeWhile (fun x => decide (x.page < a.page)) ++ a :: l.dropWhile (fun x => decide (x.page < a.page))
def layA (l : List Ar) (a : Ar) : List Ar := joinAll (insA l a)
def Apart (l : List Ar) (a : Ar) : Prop := ∀ x ∈ l, x.end_ ≤ a.page ∨ a.end_ ≤ x.page
theorem good_dis {b : Ar} {l : List Ar} (h : Good (some b) l) : Dis b.end_ l := by
  induction l generalizing b with
  | nil => trivial
  | cons a l ih => exact ⟨h.1, (meets_f.1 (h.2.1 b rfl)).1, ih h.2.2⟩
theorem Dis.mono {e e' : Int} {l : List Ar} (h : Dis e l) (he : e' ≤ e) : Dis e' l := by
  cases l with
  | nil => trivial
  | cons a l => exact ⟨h.1, by have := h.2.1; omega, h.2.2⟩
theorem good_dis0 {l : List Ar} (h : Good none l) : Dis 0 l := by
  cases l with
  | nil => trivial
  | cons a l => exact ⟨h.1, (Ar.right_iff.1 h.1).1, good_dis h.2.2⟩
theorem insA_dis {e : Int} {l : List Ar} {a : Ar} (h : Dis e l) (ha : a.right = true) (hap : Apart l a) (he : e ≤ a.page) : Dis e (insA l a) ∧ ∀ p, atR (insA l a) p = if a.has p = true then some a.rights else atR l p := by
  induction l generalizing e with
  | nil => exact ⟨⟨ha, he, trivial⟩, fun p => by simp [insA, atR_cons, atR_nil]⟩
  | cons x l ih =>
    obtain ⟨h1, h2, h3⟩ := h
    have hx := hap x (by simp)
    have r1 := Ar.right_iff.1 h1
    have r2 := Ar.right_iff.1 ha
    by_cases q : x.page < a.page
    · have e1 : insA (x :: l) a = x :: insA l a := by simp [insA, q]
      rw [e1]
      have hx' : x.end_ ≤ a.page := by simp only [Ar.end_] at *; omega
      obtain ⟨i1, i2⟩ := ih h3 (fun y hy => hap y (by simp [hy])) hx'
      refine ⟨⟨h1, h2, i1⟩, fun p => ?_⟩
      rw [atR_cons, atR_cons, i2]
      by_cases q1 : x.has p = true
      · have q1' := has_iff.1 q1
        rw [if_pos q1, if_neg (by rw [has_iff]; omega), if_pos q1]
      · simp [q1]
    · have e1 : insA (x :: l) a = a :: x :: l := by simp [insA, q]
      rw [e1]
      have hx' : a.end_ ≤ x.page := by simp only [Ar.end_] at *; omega
      exact ⟨⟨ha, he, h1, hx', h3⟩, fun p => by rw [atR_cons]⟩
theorem layA_ok {l : List Ar} {a : Ar} (h : Good none l) (ha : a.right = true) (hap : Apart l a) : Good none (layA l a) ∧ ∀ p, atR (layA l a) p = if a.has p = true then some a.rights else atR l p := by
  obtain ⟨i1, i2⟩ := insA_dis (good_dis0 h) ha hap (Ar.right_iff.1 ha).1
  obtain ⟨j1, j2⟩ := joinAll_ok (out := []) (l := insA l a) trivial (by simpa [lastEnd] using i1)
  exact ⟨j1, fun p => by rw [layA, joinAll, j2, atR_nil, i2]; simp⟩

/-- a stretch cut out -/
def cut1 (a : Ar) (f t : Int) : List Ar :=
  (if a.page < min a.end_ f then [⟨a.page, min a.end_ f - a.page, a.rights⟩] else []) ++ (if max a.page t < a.end_ then [⟨max a.page t, a.end_ - max a.page t, a.rights⟩] else [])
def cutA (l : List Ar) (f t : Int) : List Ar := l.flatMap fun a => cut1 a f t
theorem cut1_at (a : Ar) (f t p : Int) (ha : a.right = true) (hft : f < t) : atR (cut1 a f t) p = if f ≤ p ∧ p < t then none else if a.has p = true then some a.rights else none := by
  have r := Ar.right_iff.1 ha
  unfold cut1
  rw [atR_append]
  have e1 : atR (if a.page < min a.end_ f then [⟨a.page, min a.end_ f - a.page, a.rights⟩] else []) p = if a.page ≤ p ∧ p < a.end_ ∧ p < f then some a.rights else none := by
    by_cases q1 : a.page < min a.end_ f
    · rw [if_pos q1, atR_cons, atR_nil]
      have : (⟨a.page, min a.end_ f - a.page, a.rights⟩ : Ar).has p = true ↔ a.page ≤ p ∧ p < a.end_ ∧ p < f := by
        rw [has_iff]; simp only [Ar.end_]; omega
      simp only [this]
    · rw [if_neg q1, atR_nil, if_neg (by omega)]
  have e2 : atR (if max a.page t < a.end_ then [⟨max a.page t, a.end_ - max a.page t, a.rights⟩] else []) p = if a.page ≤ p ∧ p < a.end_ ∧ t ≤ p then some a.rights else none := by
    by_cases q1 : max a.page t < a.end_
    · rw [if_pos q1, atR_cons, atR_nil]
      have : (⟨max a.page t, a.end_ - max a.page t, a.rights⟩ : Ar).has p = true ↔ a.page ≤ p ∧ p < a.end_ ∧ t ≤ p := by
        rw [has_iff]; simp only [Ar.end_]; omega
      simp only [this]
    · rw [if_neg q1, atR_nil, if_neg (by omega)]
  rw [e1, e2]
  by_cases q : a.has p = true
  · have q' := has_iff.1 q
    rw [if_pos q]
    by_cases c1 : p < f
    · rw [if_pos (by omega), if_neg (by omega), if_neg (by omega)]; rfl
    · by_cases c2 : t ≤ p
      · rw [if_neg (by omega), if_pos (by omega), if_neg (by omega)]; rfl
      · rw [if_neg (by omega), if_neg (by omega), if_pos (by omega)]; rfl
  · rw [if_neg q]
    rw [has_iff] at q
    rw [if_neg (by omega), if_neg (by omega)]
    simp
theorem cut1_good {q : Option Ar} {a : Ar} {l : List Ar} {f t : Int} (ha : a.right = true) (hft : f < t) (hq : ∀ b, q = some b → b.meets a = false)
    (hl : ∀ c : Ar, c.end_ ≤ a.end_ → (c.end_ = a.end_ → c.rights = a.rights) → Good (some c) l) (hn : ∀ b, q = some b → Good (some b) l) (hz : q = none → Good none l) : Good q (cut1 a f t ++ l) := by
  have r := Ar.right_iff.1 ha
  have h0 : Good q l := by
    cases q with
    | none => exact hz rfl
    | some b => exact hn b rfl
  have m1 : ∀ (x : Ar), x.page = a.page → x.rights = a.rights → ∀ b, q = some b → b.meets x = false := by
    intro x h1 h2 b hb
    have := meets_f.1 (hq b hb)
    rw [meets_f]; omega
  have m2 : ∀ (x : Ar), a.page < x.page → ∀ b, q = some b → b.meets x = false := by
    intro x h1 b hb
    have := meets_f.1 (hq b hb)
    rw [meets_f]; omega
  unfold cut1
  by_cases q1 : a.page < min a.end_ f <;> by_cases q2 : max a.page t < a.end_ <;> simp only [q1, q2, if_true, if_false, List.nil_append, List.cons_append]
  · refine ⟨Ar.right_iff.2 (by simp only [Ar.end_] at *; omega), m1 _ rfl rfl, Ar.right_iff.2 (by simp only [Ar.end_] at *; omega), ?_, hl _ (by simp only [Ar.end_]; omega) (fun _ => rfl)⟩
    rintro b ⟨rfl⟩
    rw [meets_f]; simp only [Ar.end_] at *; omega
  · exact ⟨Ar.right_iff.2 (by simp only [Ar.end_] at *; omega), m1 _ rfl rfl, hl _ (by simp only [Ar.end_] at *; omega) (fun _ => rfl)⟩
  · refine ⟨Ar.right_iff.2 (by simp only [Ar.end_] at *; omega), ?_, hl _ (by simp only [Ar.end_]; omega) (fun _ => rfl)⟩
    by_cases q3 : a.page < max a.page t
    · exact m2 _ q3
    · exact m1 _ (by simp; omega) rfl
  · exact h0
theorem good_swap {b c : Ar} {l : List Ar} (h : Good (some b) l) (h1 : c.end_ ≤ b.end_) (h2 : c.end_ = b.end_ → c.rights = b.rights) : Good (some c) l := by
  cases l with
  | nil => trivial
  | cons a l =>
    refine ⟨h.1, ?_, h.2.2⟩
    rintro x ⟨rfl⟩
    have := meets_f.1 (h.2.1 b rfl)
    rw [meets_f]
    refine ⟨by omega, fun hq => this.2 ⟨by omega, ?_⟩⟩
    rw [hq.2, h2 (by omega)]
theorem cutA_good {q q' : Option Ar} {l : List Ar} {f t : Int} (hft : f < t) (h : Good q l) (hq : ∀ b, q' = some b → ∃ a, q = some a ∧ b.end_ ≤ a.end_ ∧ (b.end_ = a.end_ → b.rights = a.rights)) : Good q' (cutA l f t) := by
  induction l generalizing q q' with
  | nil => trivial
  | cons a l ih =>
    obtain ⟨h1, h2, h3⟩ := h
    rw [cutA, List.flatMap_cons]
    have hqa : ∀ b, q' = some b → b.meets a = false := by
      intro b hb
      obtain ⟨x, hx, e1, e2⟩ := hq b hb
      have := meets_f.1 (h2 x hx)
      rw [meets_f]
      refine ⟨by omega, fun hh => this.2 ⟨by omega, ?_⟩⟩
      rw [hh.2, e2 (by omega)]
    have r := Ar.right_iff.1 h1
    refine cut1_good h1 hft hqa (fun c e1 e2 => ih h3 ?_) (fun b hb => ?_) (fun hn => ?_)
    · rintro x ⟨rfl⟩; exact ⟨a, rfl, e1, e2⟩
    · refine ih h3 ?_
      rintro x hx
      cases hx
      have := meets_f.1 (hqa b hb)
      refine ⟨a, rfl, by simp only [Ar.end_] at *; omega, fun e => ?_⟩
      simp only [Ar.end_] at *; omega
    · refine (ih (q' := none) h3 ?_)
      rintro x hx; cases hx
theorem cutA_at {q : Option Ar} {l : List Ar} {f t p : Int} (hft : f < t) (h : Good q l) : atR (cutA l f t) p = if f ≤ p ∧ p < t then none else atR l p := by
  induction l generalizing q with
  | nil => simp [cutA, atR_nil]
  | cons a l ih =>
    have e : cutA (a :: l) f t = cut1 a f t ++ cutA l f t := by simp [cutA]
    rw [e, atR_append, cut1_at _ _ _ _ h.1 hft, ih h.2.2, atR_cons]
    (repeat' split) <;> simp
theorem cutA_ok {l : List Ar} {f t : Int} (hft : f < t) (h : Good none l) : Good none (cutA l f t) ∧ ∀ p, atR (cutA l f t) p = if f ≤ p ∧ p < t then none else atR l p :=
  ⟨cutA_good hft h (fun b hb => by cases hb), fun p => cutA_at hft h⟩

/-- how many pages of a stretch -/
def many1 (a : Ar) (f t : Int) : Int := max 0 (min a.end_ t - max a.page f)
def manyA (l : List Ar) (f t : Int) : Int := (l.map fun a => many1 a f t).foldr (· + ·) 0
theorem manyA_nil (f t : Int) : manyA [] f t = 0 := rfl
theorem manyA_cons (a : Ar) (l : List Ar) (f t : Int) : manyA (a :: l) f t = many1 a f t + manyA l f t := rfl
theorem manyA_nn (l : List Ar) (f t : Int) : 0 ≤ manyA l f t := by
  induction l with
  | nil => simp [manyA_nil]
  | cons a l ih => rw [manyA_cons]; unfold many1; omega
theorem manyA_zero {q : Option Ar} {l : List Ar} {a : Ar} (h : Good q l) (ha : a.right = true) : manyA l a.page a.end_ = 0 ↔ Apart l a := by
  induction l generalizing q with
  | nil => simp [manyA_nil, Apart]
  | cons x l ih =>
    have r1 := Ar.right_iff.1 h.1
    have r2 := Ar.right_iff.1 ha
    have i := ih h.2.2
    have n := manyA_nn l a.page a.end_
    rw [manyA_cons]
    constructor
    · intro hz
      have hx : many1 x a.page a.end_ = 0 := by unfold many1 at *; omega
      intro y hy
      rcases List.mem_cons.1 hy with rfl | hy
      · simp only [many1, Ar.end_] at *; omega
      · exact i.1 (by rw [hx] at hz; omega) y hy
    · intro hz
      have := i.2 (fun y hy => hz y (by simp [hy]))
      have hx := hz x (by simp)
      simp only [many1, Ar.end_] at *; omega
theorem manyA_none {q : Option Ar} {l : List Ar} (h : Good q l) {f t : Int} (hb : ∀ b, q = some b → t ≤ b.end_) (hq : q ≠ none) : manyA l f t = 0 := by
  induction l generalizing q with
  | nil => rfl
  | cons x l ih =>
    cases q with
    | none => exact absurd rfl hq
    | some b =>
      have h1 := meets_f.1 (h.2.1 b rfl)
      have h2 := hb b rfl
      have r1 := Ar.right_iff.1 h.1
      rw [manyA_cons, ih h.2.2 (by rintro y ⟨rfl⟩; simp only [Ar.end_] at *; omega) (by simp)]
      simp only [many1, Ar.end_] at *; omega
theorem manyA_le {q : Option Ar} {l : List Ar} (h : Good q l) {f t : Int} (hft : f ≤ t) : manyA l f t ≤ t - f ∧ ∀ b, q = some b → f ≤ b.end_ → b.end_ ≤ t → manyA l f t ≤ t - b.end_ := by
  induction l generalizing q with
  | nil => simp [manyA_nil]; omega
  | cons x l ih =>
    have r1 := Ar.right_iff.1 h.1
    obtain ⟨i1, i2⟩ := ih h.2.2
    rw [manyA_cons]
    have key : many1 x f t + manyA l f t ≤ t - f ∧ (f ≤ x.page → x.page ≤ t → many1 x f t + manyA l f t ≤ t - x.page) ∧ (t < x.page → many1 x f t + manyA l f t = 0) := by
      by_cases c1 : x.end_ < f
      · have : many1 x f t = 0 := by simp only [many1, Ar.end_] at *; omega
        refine ⟨by omega, fun c => ?_, fun c => ?_⟩
        · simp only [Ar.end_] at *; omega
        · simp only [Ar.end_] at *; omega
      · by_cases c2 : x.end_ ≤ t
        · have := i2 x rfl (by omega) c2
          simp only [many1, Ar.end_] at *
          refine ⟨by omega, fun _ _ => by omega, fun c => by omega⟩
        · have hz := manyA_none h.2.2 (f := f) (t := t) (by rintro b ⟨rfl⟩; omega) (by simp)
          rw [hz]
          simp only [many1, Ar.end_] at *
          refine ⟨by omega, fun _ _ => by omega, fun c => by omega⟩
    refine ⟨key.1, fun b hb c1 c2 => ?_⟩
    have h1 := meets_f.1 (h.2.1 b hb)
    by_cases c3 : x.page ≤ t
    · have := key.2.1 (by omega) c3; omega
    · have := key.2.2 (by omega); omega
/-- all pages of a stretch are in areas -/
theorem manyA_full {q : Option Ar} {l : List Ar} (h : Good q l) {f t : Int} (hft : f ≤ t) (h64 : t ≤ 64) : manyA l f t = t - f ↔ ∀ p, f ≤ p → p < t → atR l p ≠ none := by
  induction l generalizing q f with
  | nil =>
    simp only [manyA_nil, atR_nil]
    constructor
    · intro h p h1 h2; omega
    · intro h
      by_cases c : f < t
      · exact absurd rfl (h f (by omega) c)
      · omega
  | cons x l ih =>
    have r1 := Ar.right_iff.1 h.1
    rw [manyA_cons]
    obtain ⟨l1, l2⟩ := manyA_le h.2.2 hft
    by_cases c1 : x.end_ ≤ f
    · have e1 : many1 x f t = 0 := by simp only [many1, Ar.end_] at *; omega
      have i := ih h.2.2 hft
      rw [e1, Int.zero_add, i]
      constructor
      · intro hh p h1 h2; rw [atR_cons, if_neg (by rw [has_iff]; omega)]; exact hh p h1 h2
      · intro hh p h1 h2; have := hh p h1 h2; rwa [atR_cons, if_neg (by rw [has_iff]; omega)] at this
    · by_cases c2 : f < x.page
      · by_cases c3 : f < t
        · constructor
          · intro hh
            exfalso
            by_cases c4 : x.page ≤ t
            · by_cases c5 : x.end_ ≤ t
              · have := l2 x rfl (by omega) c5
                simp only [many1, Ar.end_] at *; omega
              · have hz := manyA_none h.2.2 (f := f) (t := t) (by rintro b ⟨rfl⟩; omega) (by simp)
                simp only [many1, Ar.end_] at *; omega
            · have hz := manyA_none h.2.2 (f := f) (t := t) (by rintro b ⟨rfl⟩; simp only [Ar.end_] at *; omega) (by simp)
              simp only [many1, Ar.end_] at *; omega
          · intro hh
            have := hh f (by omega) c3
            rw [atR_cons, if_neg (by rw [has_iff]; omega), good_before h.2.2 (by simp only [Ar.end_] at *; omega)] at this
            exact absurd rfl this
        · have : t = f := by omega
          subst this
          have hz := manyA_none h.2.2 (f := t) (t := t) (by rintro b ⟨rfl⟩; simp only [Ar.end_] at *; omega) (by simp)
          rw [hz]
          constructor
          · intro _ p h1 h2; omega
          · intro _; simp only [many1, Ar.end_] at *; omega
      · by_cases c3 : x.end_ ≤ t
        · have i := ih h.2.2 (f := x.end_) c3
          have e2 : manyA l f t = manyA l x.end_ t := by
            clear ih i l1 l2
            have : ∀ (m : List Ar) (b : Ar), Good (some b) m → x.end_ ≤ b.end_ → manyA m f t = manyA m x.end_ t := by
              intro m
              induction m with
              | nil => intro b _ _; rfl
              | cons y m ihm =>
                intro b hb hx
                have g := meets_f.1 (hb.2.1 b rfl)
                have ry := Ar.right_iff.1 hb.1
                rw [manyA_cons, manyA_cons, ihm y hb.2.2 (by simp only [Ar.end_] at *; omega)]
                congr 1
                simp only [many1, Ar.end_] at *; omega
            exact this l x h.2.2 (Int.le_refl _)
          have e1 : many1 x f t = x.end_ - f := by simp only [many1, Ar.end_] at *; omega
          rw [e1, e2]
          constructor
          · intro hh p h1 h2
            rw [atR_cons]
            split
            · simp
            · rename_i hn
              rw [has_iff] at hn
              exact i.1 (by omega) p (by omega) h2
          · intro hh
            have := i.2 (fun p h1 h2 => by
              have := hh p (by omega) h2
              rwa [atR_cons, if_neg (by rw [has_iff]; omega)] at this)
            omega
        · have hz := manyA_none h.2.2 (f := f) (t := t) (by rintro b ⟨rfl⟩; omega) (by simp)
          rw [hz]
          constructor
          · intro _ p h1 h2
            rw [atR_cons, if_pos (has_iff.2 (by omega))]; simp
          · intro _; simp only [many1, Ar.end_] at *; omega

/-- the first gap -/
def gapGo (n : Int) : Int → List Ar → Int
  | e, [] => if 64 - e < n then -1 else e
  | e, a :: l => if n ≤ a.page - e then e else gapGo n a.end_ l
theorem gapGo_ok {n e : Int} {l : List Ar} {b : Ar} (h : Dis e l) (hn : 1 ≤ n) (h0 : 0 ≤ e) (he : e ≤ 64) (hb : b.right = true) (hbn : b.n = n) (hbe : e ≤ b.page) (hap : Apart l b) : 0 ≤ gapGo n e l ∧ gapGo n e l ≤ b.page := by
  induction l generalizing e with
  | nil =>
    have r := Ar.right_iff.1 hb
    simp only [gapGo]
    split <;> omega
  | cons a l ih =>
    have r := Ar.right_iff.1 hb
    have ra := Ar.right_iff.1 h.1
    simp only [gapGo]
    split
    · omega
    · rename_i hg
      have hx := hap a (by simp)
      have : a.end_ ≤ b.page := by
        rcases hx with hx | hx
        · exact hx
        · simp only [Ar.end_] at *; omega
      exact ih h.2.2 (by simp only [Ar.end_] at *; omega) (by simp only [Ar.end_] at *; omega) this (fun y hy => hap y (by simp [hy]))
theorem gapGo_fits {n e : Int} {l : List Ar} (h : Dis e l) (hn : 1 ≤ n) (h0 : 0 ≤ e) (he : e ≤ 64) (hg : 0 ≤ gapGo n e l) : e ≤ gapGo n e l ∧ gapGo n e l + n ≤ 64 ∧ Apart l ⟨gapGo n e l, n, 0⟩ := by
  induction l generalizing e with
  | nil =>
    simp only [gapGo] at *
    split at hg
    · omega
    · rename_i hh
      rw [if_neg hh]
      exact ⟨by omega, by omega, by simp [Apart]⟩
  | cons a l ih =>
    have ra := Ar.right_iff.1 h.1
    simp only [gapGo] at *
    split at hg
    · rename_i hh
      rw [if_pos hh]
      refine ⟨by omega, by omega, fun x hx => ?_⟩
      right
      have key : ∀ (m : List Ar) (e' : Int), Dis e' m → ∀ x ∈ m, e' ≤ x.page := by
        intro m
        induction m with
        | nil => intro e' _ x hx; simp at hx
        | cons y m ihm =>
          intro e' hd x hx
          have ry := Ar.right_iff.1 hd.1
          rcases List.mem_cons.1 hx with rfl | hx
          · exact hd.2.1
          · have := ihm y.end_ hd.2.2 x hx
            have := hd.2.1
            simp only [Ar.end_] at *; omega
      rcases List.mem_cons.1 hx with rfl | hx
      · simp only [Ar.end_]; omega
      · have := key l _ h.2.2 x hx
        have := h.2.1
        simp only [Ar.end_] at *; omega
    · rename_i hh
      rw [if_neg hh]
      have := h.2.1
      obtain ⟨i1, i2, i3⟩ := ih h.2.2 (by simp only [Ar.end_] at *; omega) (by simp only [Ar.end_] at *; omega) hg
      refine ⟨by simp only [Ar.end_] at *; omega, i2, fun x hx => ?_⟩
      rcases List.mem_cons.1 hx with rfl | hx
      · left; exact i1
      · exact i3 x hx
end
section
set_option maxHeartbeats 2000000
set_option maxRecDepth 100000
set_option linter.unusedSimpArgs false
set_option linter.unusedVariables false
attribute [local simp] wpA wpX RunA RunD runF foot footP footB idsA bare apart runL step1 gsel_f gsel_t gsel_s res_same res_and1 res_and2 res_and3 res_and4 res_and5 res_and6 res_false res_true res_v res_ptr res_fptr res_osl res_xsl soft aAppendZ aCap ovlI ovlJ res_fsl res_esl res_agg res_tup res_fn res_junk res_anyb aPick hk imp_left iteV dstOk guardOk astep astepE AI.ev AI.look AI.put envOf aBox cellsOf allOne allOneA oneA Value.oneCell' Value.cells newObj' aFieldAddr aLoad obj readAt thenA blockA condA retA resA tupA view hot hotC hotR depthV cAgg cInt cBool mkAgg allV aAlloc aBuild fillA writeAt aStore isAggA aField idx aIndexAddr aIndex bnd aSlice aExtract aLen aBuiltin aCall isStatic eqAgg eqTy eqC ev_add ev_sub ev_mul ev_quo ev_rem ev_and ev_or ev_xor ev_andNot ev_shl ev_shr ev_eql ev_neq ev_lss ev_leq ev_gtr ev_geq ev_agg w64 wu32 wu8 ev_not ev_neg Cod.plain RCod.plain argM finM cold coldC coldR goInt intDec boolDec aggDec Weaker heapW lowA lowC Again slDec undef aBuildSlice setRows aAppend rowsOf aMakeSlice aClear aCopy softer_self softer_nil valsOf ev_min2 ev_max2 hotR_set hotR_append take_map_set irow_cold irow_mapM irow_mapMc irow_view irow_viewc irow_hotR irow_ren irow_renc irow_low WeakT heapT thOf ren renC AgainT NextF NextT fnDec cFn rNil selfLt natLt0 natLt1 getLastMap frame0 frame1 own0 own1 argG finG tau tauI tauO tauC bareA bareC bareH irow_tau irow_tauc irow_bare irow_flat irow_bareR ownA_nil ownT_nil ownA_c ownT_c ownA_s ownT_s takeMapLen footC plainA noId noIdC cloneF frame0F frame1F insertF replaceI replaceF cellDec rCell fpDec cFp rTwo deleteF allV_oA oneA_oA res_oA RunR RunE runFT footAt hotR_cat tmodN aEqH aSliceA frameN newA newC newH fxSz3 fxAg3 fxSl3 fxAg4 fxSz53 fxBy53 fxAg53 fxZe53 fxSl53 fxAr53 fxSz55 fxAg55 fxZe55 fxFi55x0 fxFi55x1 fxPl55 fxSz57 fxAg57 fxZe57 fxAr57 fxPl57 fxSz59 fxBy59 fxAg59 fxZe59 fxFi59x0 fxFi59x1 fxFi59x2 fxFi59x3 fxFi59x4 fxFi59x5 fxPl59 fxSz60 fxAg60 fxSl60 fxAr60 fxSz62 fxBy62 fxAg62 fxZe62 fxFi62x0 fxFi62x1 fxSz63 fxAg63 fxZe63 fxSl63 fxAr63 fxSz65 fxBy65 fxAg65 fxZe65 fxFi65x0 fxFi65x1 fxFi65x2 fxPl65 fxSz66 fxAg66 fxZe66 fxSl66 fxAr66 fxSz68 fxAg68 fxZe68 fxSl68 fxAr68 fxSz69 fxBy69 fxAg69 fxZe69 fxSl69 fxAr69 fxSz70 fxAg70 fxSl70 fxAr70 fxSz72 fxBy72 fxAg72 fxZe72 fxFi72x0 fxFi72x1 fxSz74 fxAg74 fxSz76 fxBy76 fxAg76 fxZe76 fxFi76x0 fxFi76x1 fxFi76x2 fxPl76 fxZe92 fxAr92 fxPl92 fxZe93 fxAr93 fxPl93 fxZe94 fxAr94 fxPl94 fxEq59 fxEq65 fxEq76 fxNe53 fxOe53 fxXe53 fxNe60 fxOe60 fxXe60 fxLn63 fxNe63 fxOe63 fxXe63 fxNe69 fxOe69 fxXe69 fxNe70 fxOe70 fxXe70 fxFm22 fxFi22 fxFm23 fxFi23 fxFm24 fxFi24 fxFm25 fxFi25 fxFm26 fxFi26 fxFm27 fxFm28 fxFi28 fxFj28 fxFm29 fxFi29 fxFm30 fxFi30 fxFm31 fxFi31 fxFm32 fxFm33 fxFm34 fxFm36 fxFi36 fxFm38 fxFi38 fxFm39 fxFm40 fxFm93 fxFi93 fxFm94 fxFi94 fxFm95 fxFi95 fxFm96 fxFm97 fxFm98 fxFm99 fxFi99 fxFm100 fxFi100 fxFm101 fxFi101 fxFm102 fxFi102 fxFm103 fxFi103 fxFm104 fxFm105 fxFm106 fxFm107 fxFi107 fxFm108 fxFm109 fxFi109 fxFm110 fxFi110 fxFm111 fxFm112 fxFm163 fxFi163 fxFm164 fxFi164 fxFm165 fxFm166 fxFm167 fxFi167 fxFm168 fxFi168 fxFm169 fxFi169 fxFm170 fxFi170 fxFm171 fxFm199 fxFi199 fxFm200 fxFi200 fxFm201 fxFm221 fxFi221
section
attribute [local simp] Ar.eta Ar.cold Ar.mapM Ar.mapMc Ar.view Ar.viewc Ar.hotR Ar.ren Ar.renc Ar.low Ar.tau Ar.tauc Ar.bare Ar.flat Ar.flat1 Ar.mapMt Ar.mapMd Ar.coldt Ar.coldd Ar.hotRt Ar.hotRd
theorem right_pure : PureOk Try.prog 170 (argM (cAgg rAr) fun a => finM (some (.v (.bool a.right)))) := by
  refine pure1 Try.func170 rfl ?_
  rintro a r hr
  simp only [Option.some.injEq] at hr
  subst hr
  refine body_gen noOrc_ok fxMix (by kernel_rfl) (by simp [Try.ntmps170]) ?_
  intro C cP cI cN cD cF cA cR cL
  replace cI : C.inl = fun _ => false := cI
  replace cR : C.rd = fun _ => none := cR
  replace cD : C.dyn = fun _ => [] := cD
  clear cP cN cF cA
  by_cases h1 : 0 ≤ a.page
  · by_cases h2 : a.page < 64
    · have hw : IntKind.i64.wrap (64 - a.page) = 64 - a.page := w64 (by omega) (by omega)
      simp [Try.ntmps170, Try.results170, cSl, cI, cD, cR, rAr, Ar.row, Ar.right, h1, h2, hw]
    · simp [Try.ntmps170, Try.results170, cSl, cI, cD, cR, rAr, Ar.row, Ar.right, h1, h2]
  · simp [Try.ntmps170, Try.results170, cSl, cI, cD, cR, rAr, Ar.row, Ar.right, h1]

theorem right_wrap {a : Ar} (h : a.right = true) : IntKind.i64.wrap (a.page + a.n) = a.page + a.n := by
  have := Ar.right_iff.1 h
  exact w64 (by omega) (by omega)
def prevA (l : List Ar) (k : Nat) : Option Ar := match k with | 0 => none | j + 1 => l[j]?

theorem arCheck_pure : PureOk Try.prog 169 (argM (cSl rAr) fun l => finM (some (.v (.int .i64 (arCheck l))))) := by
  refine pure1 Try.func169 rfl ?_
  rintro l r hr
  simp only [Option.some.injEq] at hr
  subst hr
  refine body_gen (noOrc_ok.withP right_pure) fxMix (by kernel_rfl) (by simp [Try.ntmps169]) ?_
  intro C cP cI cN cD cF cA cR cL
  have cp0 := orcP right_pure (C := C) (by rw [cP]; rfl)
  replace cI : C.inl = fun _ => false := cI
  replace cR : C.rd = fun _ => none := cR
  replace cD : C.dyn = fun _ => [] := cD
  clear cP cN cF cA
  simp [Try.ntmps169, Try.results169, cSl, cp0, cI, cD, cR, rAr]
  unfold arCheck
  split
  · rename_i h; simp [show 64 < l.length by omega]
  · rename_i h
    rw [if_neg (by omega)]
    refine loop_for l.length (fun k (_ : Unit) => ([(0, .fsl false 3 (l.map Ar.row)), (9, .fsl false 3 (l.map Ar.row)), (10, .v (.int .i64 l.length)), (11, .v (.int .i64 k))], [])) (fun k _ => arGo (prevA l k) (l.drop k) = arGo none l ∧ ∀ b, prevA l k = some b → b.right = true) () (by omega) ⟨rfl, by simp [prevA]⟩ (by simp) ?_ ?_
    · rintro k _ hk ⟨hall, hprev⟩ hw
      rw [List.drop_eq_getElem_cons hk] at hall
      by_cases q1 : l[k].right = true
      · by_cases q0 : k = 0
        · have q0' : (k = 0) = True := eq_true q0
          have hp : prevA l k = none := by rw [q0]; rfl
          have hp2 : prevA l (k + 1) = some l[k] := by simp [prevA, hk]
          simp only [arGo, hp, q1, if_true] at hall
          clear q0 hprev
          simp [Try.ntmps169, Try.results169, cSl, cp0, cI, cD, cR, rAr, hk, hw, Ar.row, arDec, q1, q0', hp2]
          exact hall
        · have hj : k - 1 < l.length := by omega
          have hp : prevA l k = some l[k - 1] := by
            cases k with
            | zero => exact absurd rfl q0
            | succ j => simp [prevA]
          have hp2 : prevA l (k + 1) = some l[k] := by simp [prevA, hk]
          have hr := right_wrap (hprev _ hp)
          have hjw : IntKind.i64.wrap ((k : Int) - 1) = ((k - 1 : Nat) : Int) := by rw [w64 (by omega) (by omega)]; omega
          simp only [arGo, hp, q1, if_true] at hall
          by_cases q2 : l[k - 1].meets l[k] = true
          · rw [if_pos q2] at hall
            simp [Ar.meets] at q2
            clear hprev
            simp [Try.ntmps169, Try.results169, cSl, cp0, cI, cD, cR, rAr, hk, hj, hw, Ar.row, arDec, q1, q0, hr, hjw]
            by_cases q3 : l[k].page < l[k - 1].page + l[k - 1].n
            · simp [q3, hall]
            · have q4 := q2.resolve_left q3
              simp [q3, q4, hall]
          · rw [if_neg q2] at hall
            simp [Ar.meets] at q2
            have q3 : ¬ l[k].page < l[k - 1].page + l[k - 1].n := by omega
            clear hprev
            by_cases q4 : l[k].page = l[k - 1].page + l[k - 1].n
            · have q5 := q2.2 q4
              replace q4 := eq_true q4
              simp [Try.ntmps169, Try.results169, cSl, cp0, cI, cD, cR, rAr, hk, hj, hw, Ar.row, arDec, q1, q0, hr, hjw, q3, q4, q5, hp2]
              exact hall
            · simp [Try.ntmps169, Try.results169, cSl, cp0, cI, cD, cR, rAr, hk, hj, hw, Ar.row, arDec, q1, q0, hr, hjw, q3, q4, hp2]
              exact hall
      · simp only [arGo, q1, if_false, Bool.false_eq_true] at hall
        simp at q1
        simp [Try.ntmps169, Try.results169, cSl, cp0, cI, cD, cR, rAr, hk, hw, Ar.row, arDec, q1]
        exact hall
    · rintro _ ⟨hall, _⟩
      simp [arGo] at hall
      simp [Try.ntmps169, Try.results169, cSl, cp0, cI, cD, cR, hall]

def arChk (l : List Ar) (a : Ar) : Int := if arCheck l = 0 then (if a.right = true then 0 else 1) else arCheck l
theorem arChk_pure : PureOk Try.prog 109 (argM (cSl rAr) fun l => argM (cAgg rAr) fun a => finM (some (.v (.int .i64 (arChk l a))))) := by
  refine pure2 Try.func109 rfl ?_
  rintro l a r hr
  simp only [Option.some.injEq] at hr
  subst hr
  refine body_gen ((noOrc_ok.withP arCheck_pure).withP right_pure) fxMix (by kernel_rfl) (by simp [Try.ntmps109]) ?_
  intro C cP cI cN cD cF cA cR cL
  have cp0 := orcP arCheck_pure (C := C) (by rw [cP]; rfl)
  have cp1 := orcP right_pure (C := C) (by rw [cP]; rfl)
  replace cI : C.inl = fun _ => false := cI
  replace cR : C.rd = fun _ => none := cR
  replace cD : C.dyn = fun _ => [] := cD
  clear cP cN cF cA
  unfold arChk
  by_cases h0 : arCheck l = 0
  · by_cases h1 : a.right = true
    · simp [Try.ntmps109, Try.results109, cSl, cp0, cp1, cI, cD, cR, rAr, Ar.row, arDec, h0, h1]
    · simp at h1
      simp [Try.ntmps109, Try.results109, cSl, cp0, cp1, cI, cD, cR, rAr, Ar.row, arDec, h0, h1]
  · simp [Try.ntmps109, Try.results109, cSl, cp0, cp1, cI, cD, cR, rAr, Ar.row, arDec, h0]
theorem arChk_ok {l : List Ar} {a : Ar} : arChk l a = 0 ↔ Good none l ∧ a.right = true := by
  unfold arChk
  rw [← arCheck_iff]
  split
  · rename_i h; simp [h]
  · rename_i h; simp [h]

theorem manyA_take {l : List Ar} {k : Nat} {f t : Int} (hk : k < l.length) : manyA (l.take (k + 1)) f t = manyA (l.take k) f t + many1 l[k] f t := by
  induction l generalizing k with
  | nil => simp at hk
  | cons a l ih =>
    cases k with
    | zero => simp [manyA_cons, manyA_nil]
    | succ k =>
      simp only [List.take_succ_cons, manyA_cons, List.getElem_cons_succ]
      rw [ih (by simpa using hk)]; omega
theorem good_take {p : Option Ar} {l : List Ar} (h : Good p l) (k : Nat) : Good p (l.take k) := by
  induction l generalizing p k with
  | nil => simp [Good]
  | cons a l ih =>
    cases k with
    | zero => simp [Good]
    | succ k => exact ⟨h.1, h.2.1, ih h.2.2 k⟩
theorem many_pure : PureOk Try.prog 110 (argM (cSl rAr) fun l => argM (cInt .i64) fun f => argM (cInt .i64) fun t => finM (if arCheck l = 0 ∧ 0 ≤ f ∧ f ≤ t ∧ t ≤ 64 then some (.v (.int .i64 (manyA l f t))) else none)) := by
  refine pure3 Try.func110 rfl ?_
  rintro l f t r hr
  by_cases hc : arCheck l = 0 ∧ 0 ≤ f ∧ f ≤ t ∧ t ≤ 64
  case neg => rw [if_neg hc] at hr; cases hr
  rw [if_pos hc] at hr
  simp only [Option.some.injEq] at hr
  subst hr
  refine body_gen noOrc_ok fxMix (by kernel_rfl) (by simp [Try.ntmps110]) ?_
  intro C cP cI cN cD cF cA cR cL
  replace cI : C.inl = fun _ => false := cI
  replace cR : C.rd = fun _ => none := cR
  replace cD : C.dyn = fun _ => [] := cD
  clear cP cN cF cA
  obtain ⟨h0, h1, h2, h3⟩ := hc
  have hg := arCheck_iff.1 h0
  have hl := good_len0 hg
  simp [Try.ntmps110, Try.results110, cSl, cI, cD, cR, rAr]
  refine loop_for l.length (fun k (_ : Unit) => ([(1, .v (.int .i64 f)), (2, .v (.int .i64 t)), (7, .v (.int .i64 (manyA (l.take k) f t))), (10, .fsl false 3 (l.map Ar.row)), (11, .v (.int .i64 l.length)), (12, .v (.int .i64 k))], [])) (fun k _ => True) () (by omega) trivial (by simp [manyA_nil]) ?_ ?_
  · rintro k _ hk _ hw
    have hr := hg.mem (List.getElem_mem hk)
    have hr1 := right_wrap hr
    have hr2 := Ar.right_iff.1 hr
    have m1 := manyA_le (good_take hg k) (f := f) (t := t) h2
    have m2 := manyA_nn (l.take k) f t
    have m3 := manyA_take (f := f) (t := t) hk
    have e1 : (if t < l[k].page + l[k].n then t else l[k].page + l[k].n) = min l[k].end_ t := by simp only [Ar.end_]; omega
    have e2 : (if f > l[k].page then f else l[k].page) = max l[k].page f := by omega
    have e2' : (if l[k].page < f then f else l[k].page) = max l[k].page f := by omega
    have w1 : IntKind.i64.wrap (min l[k].end_ t - max l[k].page f) = min l[k].end_ t - max l[k].page f := w64 (by simp only [Ar.end_]; omega) (by simp only [Ar.end_]; omega)
    have e3 : (if min l[k].end_ t - max l[k].page f > 0 then min l[k].end_ t - max l[k].page f else 0) = many1 l[k] f t := by unfold many1; omega
    have e3' : (if 0 < min l[k].end_ t - max l[k].page f then min l[k].end_ t - max l[k].page f else 0) = many1 l[k] f t := by unfold many1; omega
    have e4 : (if max l[k].page f < min l[k].end_ t then min l[k].end_ t - max l[k].page f else 0) = many1 l[k] f t := by unfold many1; omega
    have w2 : IntKind.i64.wrap (manyA (l.take k) f t + many1 l[k] f t) = manyA (l.take k) f t + many1 l[k] f t := w64 (by unfold many1; omega) (by simp only [many1, Ar.end_]; omega)
    simp [Try.ntmps110, Try.results110, cSl, cI, cD, cR, hk, hw, Ar.row, hr1, e1, e2, e2', w1, e3, e3', e4, w2, m3]
  · intro _ _
    simp [Try.ntmps110, Try.results110, cSl, cI, cD, cR]
theorem cutA_take {l : List Ar} {k : Nat} {f t : Int} (hk : k < l.length) : cutA (l.take (k + 1)) f t = cutA (l.take k) f t ++ cut1 l[k] f t := by
  unfold cutA
  rw [List.take_succ_eq_append_getElem hk, List.flatMap_append, List.flatMap_singleton]
theorem cutA_len (l : List Ar) (f t : Int) : (cutA l f t).length ≤ 2 * l.length := by
  induction l with
  | nil => simp [cutA]
  | cons a l ih =>
    have e : cutA (a :: l) f t = cut1 a f t ++ cutA l f t := by simp [cutA]
    rw [e, List.length_append, List.length_cons]
    have : (cut1 a f t).length ≤ 2 := by
      unfold cut1
      rw [List.length_append]
      split <;> split <;> simp
    omega
theorem cut_own : InlOk Try.prog 112 (own0 (argG (cSl rAr) fun l => argG (cInt .i64) fun f => argG (cInt .i64) fun t => finG (if arCheck l = 0 ∧ 0 ≤ f ∧ f ≤ t ∧ t ≤ 64 then some ((ownA 0 3 ((cutA l f t).map Ar.row), ownT 3 ((cutA l f t).map Ar.row))) else none))) := by
  refine own0_3 Try.func112 rfl ?_
  rintro l f t r H' hr
  by_cases hc : arCheck l = 0 ∧ 0 ≤ f ∧ f ≤ t ∧ t ≤ 64
  case neg => rw [if_neg hc] at hr; cases hr
  rw [if_pos hc] at hr
  simp only [Option.some.injEq, Prod.mk.injEq] at hr
  obtain ⟨rfl, rfl⟩ := hr
  refine bodyI_of noOrc_ok fxMix (by kernel_rfl) (by simp [Try.ntmps112]) ?_
  intro C cP cI cN cD cF cA cR cL
  replace cI : C.inl = fun _ => false := cI
  replace cR : C.rd = fun _ => none := cR
  replace cD : C.dyn = fun _ => [] := cD
  clear cP cN cF cA
  obtain ⟨h0, h1, h2, h3⟩ := hc
  have hg := arCheck_iff.1 h0
  have hl := good_len0 hg
  simp [Try.ntmps112, Try.results112, cSl, cI, cD, cR, rAr]
  refine loop_forT l.length (fun k (out : List Ar) => ([(1, .v (.int .i64 f)), (2, .v (.int .i64 t)), (7, ownA 0 3 (out.map Ar.row)), (13, .fsl false 3 (l.map Ar.row)), (14, .v (.int .i64 l.length)), (15, .v (.int .i64 k))], ownT 3 (out.map Ar.row))) (fun k out => out = cutA (l.take k) f t) [] [] (by omega) (by simp [cutA]) (by simp [ownA_nil, ownT_nil]) ?_ ?_
  · rintro k out hk hout hw
    have hr := hg.mem (List.getElem_mem hk)
    have hr1 := right_wrap hr
    have hr2 := Ar.right_iff.1 hr
    have hlen := cutA_len (l.take k) f t
    rw [← hout] at hlen
    simp at hlen
    have hlen1 : out.length + 1 ≤ 4294967296 := by omega
    have hlen2 : out.length + 2 ≤ 4294967296 := by omega
    have m3 := cutA_take (f := f) (t := t) hk
    rw [← hout] at m3
    have e1 : (if f < l[k].page + l[k].n then f else l[k].page + l[k].n) = min l[k].end_ f := by simp only [Ar.end_]; omega
    have e2 : (if t > l[k].page then t else l[k].page) = max l[k].page t := by omega
    have e2' : (if l[k].page < t then t else l[k].page) = max l[k].page t := by omega
    have w1 : IntKind.i64.wrap (min l[k].end_ f - l[k].page) = min l[k].end_ f - l[k].page := w64 (by simp only [Ar.end_]; omega) (by simp only [Ar.end_]; omega)
    have w2 : IntKind.i64.wrap (l[k].end_ - max l[k].page t) = l[k].end_ - max l[k].page t := w64 (by simp only [Ar.end_]; omega) (by simp only [Ar.end_]; omega)
    have ee : l[k].page + l[k].n = l[k].end_ := rfl
    rw [ee] at hr1 e1
    unfold cut1 at m3
    have n1 : ¬ (out.length + 1 ≤ out.length) := by omega
    by_cases q1 : l[k].page < min l[k].end_ f <;> by_cases q2 : max l[k].page t < l[k].end_
    all_goals
      simp only [q1, q2, if_true, if_false, List.append_nil, List.nil_append] at m3
      by_cases ho : out = []
    all_goals
      first
      | (subst ho; have o1 : True := trivial; have o2 : True := trivial)
      | (have o1 : ownA 0 3 (out.map Ar.row) = .osl 0 3 0 out.length out.length := by simp [ownA, ho]
         have o2 : ownT 3 (out.map Ar.row) = [some (3, out.map Ar.row)] := by simp [ownT, ho])
      simp [Try.ntmps112, Try.results112, cSl, cI, cD, cR, hk, hw, Ar.row, hr1, ee, e1, e2, e2', w1, w2, q1, q2, hlen1, hlen2, o1, o2, n1, m3]
      first
      | done
      | (refine ⟨[], ?_⟩; simp [o1, o2]; done)
      | (refine ⟨[0], ?_⟩; simp [o1, o2]; done)
      | (refine ⟨[1], ?_⟩; simp [o1, o2]; done)
      | (refine ⟨[2], ?_⟩; simp [o1, o2]; done)
      | (refine ⟨[3], ?_⟩; simp [o1, o2]; done)
      | (refine ⟨[4], ?_⟩; simp [o1, o2]; done)
      | (refine ⟨[5], ?_⟩; simp [o1, o2]; done)
      | (refine ⟨[6], ?_⟩; simp [o1, o2]; done)
      | (refine ⟨[7], ?_⟩; simp [o1, o2]; done)
      | (refine ⟨[8], ?_⟩; simp [o1, o2]; done)
  · intro out hout
    simp at hout
    subst hout
    simp [Try.ntmps112, Try.results112, cSl, cI, cD, cR]
    by_cases ho : cutA l f t = []
    · rw [ho]
      first
      | done
      | (refine ⟨[], ?_⟩; simp []; done)
      | (refine ⟨[0], ?_⟩; simp []; done)
      | (refine ⟨[1], ?_⟩; simp []; done)
      | (refine ⟨[2], ?_⟩; simp []; done)
      | (refine ⟨[3], ?_⟩; simp []; done)
      | (refine ⟨[4], ?_⟩; simp []; done)
      | (refine ⟨[5], ?_⟩; simp []; done)
      | (refine ⟨[6], ?_⟩; simp []; done)
      | (refine ⟨[7], ?_⟩; simp []; done)
      | (refine ⟨[8], ?_⟩; simp []; done)
    · have o1 : ownA 0 3 ((cutA l f t).map Ar.row) = .osl 0 3 0 (cutA l f t).length (cutA l f t).length := by simp [ownA, ho]
      have o2 : ownT 3 ((cutA l f t).map Ar.row) = [some (3, (cutA l f t).map Ar.row)] := by simp [ownT, ho]
      first
      | done
      | (refine ⟨[], ?_⟩; simp [o1, o2]; done)
      | (refine ⟨[0], ?_⟩; simp [o1, o2]; done)
      | (refine ⟨[1], ?_⟩; simp [o1, o2]; done)
      | (refine ⟨[2], ?_⟩; simp [o1, o2]; done)
      | (refine ⟨[3], ?_⟩; simp [o1, o2]; done)
      | (refine ⟨[4], ?_⟩; simp [o1, o2]; done)
      | (refine ⟨[5], ?_⟩; simp [o1, o2]; done)
      | (refine ⟨[6], ?_⟩; simp [o1, o2]; done)
      | (refine ⟨[7], ?_⟩; simp [o1, o2]; done)
      | (refine ⟨[8], ?_⟩; simp [o1, o2]; done)
theorem cut_inl : InlOk Try.prog 112 (frame0 (own0 (argG (cSl rAr) fun l => argG (cInt .i64) fun f => argG (cInt .i64) fun t => finG (if arCheck l = 0 ∧ 0 ≤ f ∧ f ≤ t ∧ t ≤ 64 then some ((ownA 0 3 ((cutA l f t).map Ar.row), ownT 3 ((cutA l f t).map Ar.row))) else none)))) := frame0_ok cut_own
end
section
attribute [local simp] Ar.eta Ar.cold Ar.mapM Ar.mapMc Ar.view Ar.viewc Ar.hotR Ar.ren Ar.renc Ar.low Ar.tau Ar.tauc Ar.bare Ar.flat Ar.flat1 Ar.mapMt Ar.mapMd Ar.coldt Ar.coldd Ar.hotRt Ar.hotRd
theorem arInsOv : InlOk Try.prog 201 ovlI := ovl_inl (t := 63) (r := 4) Try.func201 (by kernel_rfl) (by kernel_rfl) (by kernel_rfl) (by kernel_rfl) Try.underlying63 (sz := 3) (by kernel_rfl)
theorem arIns : InlOk Try.prog 171 (insertI 3) := by
  have hC := (noOrc_ok (P := Try.prog)).withI arInsOv
  refine insert_of Try.func171 rfl (by simp [Try.ntmps171]) ?_ ?_ ?_ ?_
  · intro H vid vr h1
    refine wpA_sound hC fxMix _ _ _ _ (by kernel_rfl) ?_
    have h1' := obj_get h1
    simp [Try.ntmps171, Try.results171, noOrc, Orc.withI, h1']
  · intro H id vid rows vr h1 h2 h3 h5
    refine wpA_sound hC fxMix _ _ _ _ (by kernel_rfl) ?_
    have h1' := obj_get h1
    have h2' := obj_get h2
    have h6 : ¬ (rows.length + 1 ≤ rows.length) := by omega
    have h7 : rows.length ≤ 4294967295 := by omega
    simp [Try.ntmps171, Try.results171, noOrc, Orc.withI, h1', h2', h6, h7]
  · intro H id vid i rows vr h1 h2 h3 h4 h5 h6 h7
    refine wpA_sound hC fxMix _ _ _ _ (by kernel_rfl) ?_
    have h1' := obj_get h1
    have h2' := obj_get h2
    have w1 : IntKind.i64.wrap ((rows.length : Int) + 1) = ((rows.length + 1 : Nat) : Int) := by rw [w64 (by omega) (by omega)]; simp
    obtain ⟨k, hk⟩ : ∃ k, k = rows.length + 1 - i := ⟨_, rfl⟩
    have w2 : IntKind.i64.wrap ((rows.length : Int) + 1 - i) = (k : Int) := by rw [w64 (by omega) (by omega)]; omega
    have w3 : IntKind.i64.wrap ((i : Int) + 1) = ((i + 1 : Nat) : Int) := by rw [w64 (by omega) (by omega)]; simp
    have h8 : ¬ i = rows.length := by omega
    have g1 := (List.getElem?_eq_some_iff.1 h1').2
    have g2 := (List.getElem?_eq_some_iff.1 h2').2
    have b1 : ¬ (i : Int) = rows.length := by omega
    have b2 : ¬ (rows.length : Int) = i := by omega
    have e1 : ∀ l, (H ++ l)[vid]? = some (some (3, [vr])) := by intro l; rw [List.getElem?_append_left h5, h2']
    have e2 : ∀ l, (H ++ l)[id]? = some (some (3, rows)) := by intro l; rw [List.getElem?_append_left h4, h1']
    have d0 : ¬ vid = id := fun h => h3 h.symm
    have d1 : 0 < rows.length - i := by omega
    have d2 : min 1 (rows.length + 1 - i) = 1 := by omega
    have d3 : List.take (rows.length + 1 - i) [vr] = [vr] := List.take_of_length_le (by simp; omega)
    have d4 : rows.length - i ≤ rows.length + 1 - (i + 1) := by omega
    have d5 : min (rows.length - i) (rows.length + 1 - (i + 1)) = rows.length - i := by omega
    have d6 : i + 1 + (rows.length - i) ≤ i + (rows.length - i + 1) := by omega
    have d7 : i + 1 + (rows.length - i) ≤ rows.length + 1 := by omega
    have d8 : min (i + 1) rows.length = i + 1 := by omega
    have d9 : rows.length + 1 ≤ i + 1 + (rows.length - i) := by omega
    have f1 : ∀ X, List.take (i + 1) (List.take i rows ++ vr :: X) = List.take i rows ++ [vr] := by
      intro X
      have hl : (List.take i rows).length = i := by simp; omega
      rw [List.take_append, hl, List.take_of_length_le (by omega)]; simp
    have f2 : List.take (rows.length - i) (List.drop i rows) = List.drop i rows := List.take_of_length_le (by simp)
    have f7 : ∀ X, List.take i (List.take (i + 1) rows ++ X) = List.take i rows := by intro X; rw [List.take_append_of_le_length (by simp; omega), List.take_take]; congr 1; omega
    have f8 : ∀ X, List.drop (i + 1) (List.take (i + 1) rows ++ X) = X := by intro X; rw [List.drop_append_of_le_length (by simp; omega), List.drop_eq_nil_of_le (by simp; omega)]; rfl
    have c1 : (i : Int) ≤ rows.length + 1 := by omega
    have c2 : 0 ≤ (rows.length : Int) + 1 := by omega
    have c3 : (i : Int) + 1 ≤ rows.length + 1 := by omega
    have c4 : 0 ≤ (i : Int) + 1 := by omega
    have c5 : i + 1 ≤ rows.length + 1 := by omega
    have c6 : i + (rows.length + 1 - i) = rows.length + 1 := by omega
    have c7 : i + 1 + (rows.length + 1 - (i + 1)) = rows.length + 1 := by omega
    have a1 : i ≤ rows.length := by omega
    have a2 : i + k = rows.length + 1 := by omega
    have a3 : rows.length < rows.length + 1 := by omega
    have a4 : rows.length + 1 ≤ 4294967296 := by omega
    have a5 : i ≤ rows.length + 1 := by omega
    have a6 : min i rows.length = i := by omega
    have f3 : ∀ (z : Row), List.drop (i + 1 + (rows.length - i)) (List.take i rows ++ vr :: List.drop (i + 1) (List.take i rows ++ List.replicate k z)) = [] := by intro z; apply List.drop_eq_nil_of_le; simp; omega
    simp [Try.ntmps171, Try.results171, noOrc, Orc.withI, h1', h2', w1, w2, w3, h8, h4, h5, g1, g2, e1, e2, d0, d1, d2, d3, d4, d5, d6, d7, d8, d9, f1, f2, f3,  b1, b2, c1, c2, c3, c4, c5, c6, c7, a1, a2, a3, a4, a5, a6]
  · intro H id vid i cap rows vr jr h1 h2 h3 h4 h5 h6 h7 h8
    refine wpA_sound hC fxMix _ _ _ _ (by kernel_rfl) ?_
    have h1' := obj_get h1
    have h2' := obj_get h2
    have w1 : IntKind.i64.wrap ((rows.length : Int) + 1) = ((rows.length + 1 : Nat) : Int) := by rw [w64 (by omega) (by omega)]; simp
    have w3 : IntKind.i64.wrap ((i : Int) + 1) = ((i + 1 : Nat) : Int) := by rw [w64 (by omega) (by omega)]; simp
    have h9 : ¬ i = rows.length := by omega
    have g1 := (List.getElem?_eq_some_iff.1 h1').2
    have g2 := (List.getElem?_eq_some_iff.1 h2').2
    have b1 : ¬ (i : Int) = rows.length := by omega
    have b2 : ¬ (rows.length : Int) = i := by omega
    have e1 : ∀ l, (H ++ l)[vid]? = some (some (3, [vr])) := by intro l; rw [List.getElem?_append_left h5, h2']
    have e2 : ∀ l, (H ++ l)[id]? = some (some (3, rows ++ [jr])) := by intro l; rw [List.getElem?_append_left h4, h1']
    have d0 : ¬ vid = id := fun h => h3 h.symm
    have d1 : 0 < rows.length - i := by omega
    have d2 : min 1 (rows.length + 1 - i) = 1 := by omega
    have d3 : List.take (rows.length + 1 - i) [vr] = [vr] := List.take_of_length_le (by simp; omega)
    have d4 : rows.length - i ≤ rows.length + 1 - (i + 1) := by omega
    have d5 : min (rows.length - i) (rows.length + 1 - (i + 1)) = rows.length - i := by omega
    have d6 : i + 1 + (rows.length - i) ≤ i + (rows.length - i + 1) := by omega
    have d7 : i + 1 + (rows.length - i) ≤ rows.length + 1 := by omega
    have d8 : min (i + 1) rows.length = i + 1 := by omega
    have d9 : rows.length + 1 ≤ i + 1 + (rows.length - i) := by omega
    have f1 : ∀ X, List.take (i + 1) (List.take i rows ++ vr :: X) = List.take i rows ++ [vr] := by
      intro X
      have hl : (List.take i rows).length = i := by simp; omega
      rw [List.take_append, hl, List.take_of_length_le (by omega)]; simp
    have f2 : List.take (rows.length - i) (List.drop i rows) = List.drop i rows := List.take_of_length_le (by simp)
    have f7 : ∀ X, List.take i (List.take (i + 1) rows ++ X) = List.take i rows := by intro X; rw [List.take_append_of_le_length (by simp; omega), List.take_take]; congr 1; omega
    have f8 : ∀ X, List.drop (i + 1) (List.take (i + 1) rows ++ X) = X := by intro X; rw [List.drop_append_of_le_length (by simp; omega), List.drop_eq_nil_of_le (by simp; omega)]; rfl
    have c1 : (i : Int) ≤ rows.length + 1 := by omega
    have c2 : 0 ≤ (rows.length : Int) + 1 := by omega
    have c3 : (i : Int) + 1 ≤ rows.length + 1 := by omega
    have c4 : 0 ≤ (i : Int) + 1 := by omega
    have c5 : i + 1 ≤ rows.length + 1 := by omega
    have c6 : i + (rows.length + 1 - i) = rows.length + 1 := by omega
    have c7 : i + 1 + (rows.length + 1 - (i + 1)) = rows.length + 1 := by omega
    have a1 : i ≤ rows.length := by omega
    have a3 : ¬ cap < rows.length + 1 := by omega
    have a5 : i ≤ rows.length + 1 := by omega
    have a6 : min i rows.length = i := by omega
    have a7 : (rows.length : Int) + 1 ≤ cap := by omega
    have b3 : ¬ (cap : Int) < rows.length + 1 := by omega
    have a8 : i ≤ cap := by omega
    have f4 : List.take (rows.length - i) (List.take (rows.length + 1 - i) (List.drop i (rows ++ [jr]))) = List.drop i rows := by
      rw [List.take_take, List.drop_append_of_le_length a1, List.take_append_of_le_length (by simp; omega), List.take_of_length_le (by simp; omega)]
    have f5 : List.drop (i + 1 + (rows.length - i)) (rows ++ [jr]) = [] := List.drop_eq_nil_of_le (by simp; omega)
    have f6 : List.take (i + 1) (rows ++ [jr]) = List.take (i + 1) rows := List.take_append_of_le_length (by omega)
    simp [Try.ntmps171, Try.results171, noOrc, Orc.withI, h1', h2', w1, w3, h9, h4, h5, g1, g2, e1, e2, d0, d1, d2, d3, d4, d5, d6, d7, d8, d9, f2, f4, f5, f6, f7, f8, h3, List.getElem_set_ne,  b1, b2, c1, c2, c3, c4, c5, c6, c7, a1, a3, a5, a6, a7, a8, b3]

theorem tw_lt {α : Type} {p : α → Bool} {l : List α} {i : Nat} (h : i < (l.takeWhile p).length) : ∃ hl : i < l.length, p l[i] = true := by
  induction l generalizing i with
  | nil => simp at h
  | cons a l ih =>
    by_cases q : p a = true
    · simp only [List.takeWhile_cons, q, if_true, List.length_cons] at h
      cases i with
      | zero => exact ⟨by simp, by simpa using q⟩
      | succ i =>
        obtain ⟨h1, h2⟩ := ih (i := i) (by omega)
        exact ⟨by simp; exact h1, by simpa using h2⟩
    · simp [List.takeWhile_cons, q] at h
theorem tw_end {α : Type} (p : α → Bool) (l : List α) : (l.takeWhile p).length = l.length ∨ ∃ hl : (l.takeWhile p).length < l.length, p l[(l.takeWhile p).length] = false := by
  induction l with
  | nil => simp
  | cons a l ih =>
    by_cases q : p a = true
    · rcases ih with h | ⟨h1, h2⟩
      · left; simp [List.takeWhile_cons, q, h]
      · right
        refine ⟨by simp [List.takeWhile_cons, q]; exact h1, ?_⟩
        simpa [List.takeWhile_cons, q] using h2
    · right
      simp at q
      exact ⟨by simp [List.takeWhile_cons, q], by simp [List.takeWhile_cons, q]⟩
theorem tw_take {α : Type} (p : α → Bool) (l : List α) : l.take (l.takeWhile p).length = l.takeWhile p ∧ l.drop (l.takeWhile p).length = l.dropWhile p := by
  induction l with
  | nil => simp
  | cons a l ih =>
    by_cases q : p a = true
    · simp [List.takeWhile_cons, List.dropWhile_cons, q, ih]
    · simp [List.takeWhile_cons, List.dropWhile_cons, q]
theorem tw_le {α : Type} (p : α → Bool) (l : List α) : (l.takeWhile p).length ≤ l.length := by
  have := congrArg List.length (tw_take p l).1
  simp at this
  omega
theorem insA_rows (l : List Ar) (a : Ar) : (insA l a).map Ar.row = List.take (l.takeWhile (fun x => decide (x.page < a.page))).length (l.map Ar.row) ++ a.row :: List.drop (l.takeWhile (fun x => decide (x.page < a.page))).length (l.map Ar.row) := by
  obtain ⟨h1, h2⟩ := tw_take (fun x : Ar => decide (x.page < a.page)) l
  rw [← List.map_take, ← List.map_drop, h1, h2]
  simp [insA]
theorem insA_len (l : List Ar) (a : Ar) : (insA l a).length = l.length + 1 := by
  have h1 := congrArg List.length (insA_rows l a)
  have h2 := tw_le (fun x : Ar => decide (x.page < a.page)) l
  simp at h1
  omega
theorem insA_mem {l : List Ar} {a x : Ar} (h : x ∈ insA l a) : x = a ∨ x ∈ l := by
  simp only [insA, List.mem_append, List.mem_cons] at h
  rcases h with h | h | h
  · right; rw [← List.takeWhile_append_dropWhile (p := fun x : Ar => decide (x.page < a.page)) (l := l)]; exact List.mem_append_left _ h
  · exact .inl h
  · right; rw [← List.takeWhile_append_dropWhile (p := fun x : Ar => decide (x.page < a.page)) (l := l)]; exact List.mem_append_right _ h
theorem join1_len (out : List Ar) (a : Ar) : (join1 out a).length ≤ out.length + 1 ∧ join1 out a ≠ [] := by
  rcases List.eq_nil_or_concat out with rfl | ⟨o, b, rfl⟩
  · simp [join1]
  · simp [join1]
    split <;> simp
theorem fold_take {l : List Ar} {k : Nat} (hk : k < l.length) : (l.take (k + 1)).foldl join1 [] = join1 ((l.take k).foldl join1 []) l[k] := by
  rw [List.take_succ_eq_append_getElem hk, List.foldl_append]; rfl
theorem fold_len (l : List Ar) (out : List Ar) : (l.foldl join1 out).length ≤ out.length + l.length := by
  induction l generalizing out with
  | nil => simp
  | cons a l ih =>
    have := ih (join1 out a)
    have := (join1_len out a).1
    simp only [List.foldl_cons, List.length_cons]; omega
/-- bounds that joining keeps -/
def Bnd (B : Int) (l : List Ar) : Prop := ∀ x ∈ l, 0 ≤ x.page ∧ x.page < 64 ∧ 1 ≤ x.n ∧ x.n ≤ B
theorem join1_bnd {B : Int} {out : List Ar} {a : Ar} (h : Bnd B out) (ha : a.right = true) (hB : 0 ≤ B) : Bnd (B + 64) (join1 out a) := by
  have r := Ar.right_iff.1 ha
  rcases List.eq_nil_or_concat out with rfl | ⟨o, b, rfl⟩
  · intro x hx
    simp [join1] at hx
    subst hx; omega
  · simp only [List.concat_eq_append] at *
    have hb := h b (by simp)
    intro x hx
    simp only [join1, List.getLast?_append, List.getLast?_singleton, Option.some_or] at hx
    split at hx
    · simp at hx
      rcases hx with hx | rfl
      · have := h x (by simp [hx]); omega
      · simp; omega
    · simp at hx
      rcases hx with hx | rfl | rfl
      · have := h x (by simp [hx]); omega
      · omega
      · omega
theorem fold_bnd {l : List Ar} (h : ∀ x ∈ l, x.right = true) : Bnd (64 * l.length) (l.foldl join1 []) := by
  have : ∀ (l : List Ar) (B : Int) (out : List Ar), 0 ≤ B → Bnd B out → (∀ x ∈ l, x.right = true) → Bnd (B + 64 * l.length) (l.foldl join1 out) := by
    intro l
    induction l with
    | nil => intro B out _ hb _; simpa using hb
    | cons a l ih =>
      intro B out hB hb hl
      have := ih (B + 64) (join1 out a) (by omega) (join1_bnd hb (hl a (by simp)) hB) (fun x hx => hl x (by simp [hx]))
      have e : B + 64 * ((a :: l).length : Int) = B + 64 + 64 * (l.length : Int) := by simp; omega
      rw [e]; exact this
  have h2 := this l 0 [] (by omega) (by intro x hx; simp at hx) h
  simpa using h2

theorem lay_own : InlOk Try.prog 111 (own1 rAr (argG (cAgg rAr) fun a => finG (if a.right = true then some ((.osl 0 3 0 1 1, [some (3, [a.row])])) else none)) (fun l => argG (cAgg rAr) fun a => finG (if arCheck l = 0 ∧ a.right = true then some ((.osl 1 3 0 (layA l a).length (layA l a).length, [none, some (3, (layA l a).map Ar.row)])) else none))) := by
  refine own1_1 Ar.exact Try.func111 rfl ?_ ?_
  · rintro a r H' hr
    by_cases hc : a.right = true
    case neg => rw [if_neg hc] at hr; cases hr
    rw [if_pos hc] at hr
    simp only [Option.some.injEq, Prod.mk.injEq] at hr
    obtain ⟨rfl, rfl⟩ := hr
    refine bodyI_of (noOrc_ok.withI arIns) fxMix (by kernel_rfl) (by simp [Try.ntmps111]) ?_
    intro C cP cI cN cD cF cA cR cL
    have cn0 := orcI arIns (C := C) (by rw [cN]; rfl)
    replace cI := fun g => congrFun cI g
    simp only [Orc.withP, Orc.withI, Orc.withF, Orc.withD, Orc.withA, Orc.withR, Orc.withC, noOrc] at cI
    replace cR : C.rd = fun _ => none := cR
    replace cD : C.dyn = fun _ => [] := cD
    clear cP cN cF cA
    simp [Try.ntmps111, Try.results111, cSl, cn0, cI, cD, cR, rAr, Ar.row]
    refine loop_rounds 1 ?_
    simp [Try.ntmps111, Try.results111, cSl, cn0, cI, cD, cR, UnrK, insertI]
    refine loop_rounds 2 ?_
    simp [Try.ntmps111, Try.results111, cSl, cn0, cI, cD, cR, UnrK]
    exact ⟨[5], by simp⟩
  · rintro l a r H' hne hr
    by_cases hc : arCheck l = 0 ∧ a.right = true
    case neg => rw [if_neg hc] at hr; cases hr
    rw [if_pos hc] at hr
    simp only [Option.some.injEq, Prod.mk.injEq] at hr
    obtain ⟨rfl, rfl⟩ := hr
    refine bodyI_of (noOrc_ok.withI arIns) fxMix (by kernel_rfl) (by simp [Try.ntmps111]) ?_
    intro C cP cI cN cD cF cA cR cL
    have cn0 := orcI arIns (C := C) (by rw [cN]; rfl)
    replace cI := fun g => congrFun cI g
    simp only [Orc.withP, Orc.withI, Orc.withF, Orc.withD, Orc.withA, Orc.withR, Orc.withC, noOrc] at cI
    replace cR : C.rd = fun _ => none := cR
    replace cD : C.dyn = fun _ => [] := cD
    clear cP cN cF cA
    obtain ⟨h0, ha⟩ := hc
    have hg := arCheck_iff.1 h0
    have hl := good_len0 hg
    simp [Try.ntmps111, Try.results111, cSl, cn0, cI, cD, cR, rAr, Ar.row]
    generalize htw : (l.takeWhile (fun x => decide (x.page < a.page))).length = tw
    have htl : tw ≤ l.length := by rw [← htw]; exact tw_le _ _
    refine loop_inv (σ := {i : Nat // i ≤ tw}) (fun p => ([(0, .osl 0 3 0 l.length l.length), (3, .ptr 1 3 0 0), (5, .v (.int .i64 p.val))], [some (3, l.map Ar.row), some (3, [a.row])])) (fun p => tw - p.val) ⟨0, by omega⟩ (by simp [Ar.row]) ?_
    rintro ⟨i, hi⟩
    have hw : IntKind.i64.wrap ((i : Int) + 1) = ((i + 1 : Nat) : Int) := by rw [w64 (by omega) (by omega)]; simp
    rcases Nat.lt_or_ge i tw with hit | hit
    · obtain ⟨hil, hip⟩ := tw_lt (p := fun x : Ar => decide (x.page < a.page)) (l := l) (i := i) (by rw [htw]; exact hit)
      simp at hip
      simp [Try.ntmps111, Try.results111, cSl, cn0, cI, cD, cR, hil, Ar.row, hip, hw]
      exact ⟨i + 1, by omega, by omega, by simp⟩
    · have hitw : i = tw := by omega
      subst hitw
      have hrows := insA_rows l a
      have hlen := insA_len l a
      have hend := tw_end (fun x : Ar => decide (x.page < a.page)) l
      rw [htw] at hrows
      simp only [htw] at hend
      have hcond : ¬ ∃ hh : i < l.length, l[i].page < a.page := by
        rintro ⟨h1, h2⟩
        rcases hend with h | ⟨_, h⟩
        · omega
        · simp at h; omega
      generalize hm : insA l a = m at *
      have hml : m.length ≤ 65 := by omega
      have hmr : ∀ x ∈ m, x.right = true := by
        intro x hx
        rw [← hm] at hx
        rcases insA_mem hx with rfl | hx
        · exact ha
        · exact hg.mem hx
      have hlay : layA l a = m.foldl join1 [] := by rw [← hm]; rfl
      have hl1 : l.length ≤ 1048576 := by omega
      have hpos : 0 < l.length := List.length_pos_iff.2 hne
      have hile : i ≤ l.length := htl
      simp only [Ar.row] at hrows
      rw [hlay]
      by_cases hil : i < l.length
      · have hp : ¬ l[i].page < a.page := fun h => hcond ⟨hil, h⟩
        simp [Try.ntmps111, Try.results111, cSl, cn0, cI, cD, cR, hil, Ar.row, hp, insertI, hl1, hpos, hne, hile]
        rw [← hrows]
        refine loop_forT m.length (fun k (out : List Ar) => ([(6, ownA 2 3 (out.map Ar.row)), (31, .osl 1 3 0 m.length m.length), (32, .v (.int .i64 m.length)), (33, .v (.int .i64 k))], [none, some (3, m.map Ar.row)] ++ ownT 3 (out.map Ar.row))) (fun k out => out = (m.take k).foldl join1 []) [] [3] (by omega) (by simp) (by simp [hlen]) ?_ ?_
        · rintro k out hk hout hw
          have hfold := fold_take hk
          rw [← hout] at hfold
          have hb := fold_bnd (l := m.take k) (fun x hx => hmr x (List.mem_of_mem_take hx))
          rw [← hout] at hb
          have hol := fold_len (m.take k) []
          rw [← hout] at hol
          simp at hol
          have hxr := Ar.right_iff.1 (hmr _ (List.getElem_mem hk))
          rcases List.eq_nil_or_concat out with ho | ⟨o, b, ho⟩
          · subst ho
            simp only [join1, List.getLast?_nil] at hfold
            simp [Try.ntmps111, Try.results111, cSl, cn0, cI, cD, cR, hk, hw, Ar.row, hfold]
            exact ⟨[1, 4], by simp⟩
          · simp only [List.concat_eq_append] at ho
            subst ho
            have hbb := hb b (by simp)
            have hkl : (m.take k).length ≤ 65 := by simp; omega
            have w1 : IntKind.i64.wrap (b.page + b.n) = b.page + b.n := w64 (by omega) (by omega)
            have w2 : IntKind.i64.wrap (b.n + m[k].n) = b.n + m[k].n := w64 (by omega) (by omega)
            have w3 : IntKind.i64.wrap (o.length : Int) = (o.length : Int) := by simp at hol; exact w64 (by omega) (by omega)
            have hset : ∀ x y : Row, (o.map Ar.row ++ [y]).set o.length x = o.map Ar.row ++ [x] := by intro x y; simp
            simp only [join1, List.getLast?_append, List.getLast?_singleton, Option.some_or, joinsA, Bool.and_eq_true, decide_eq_true_eq] at hfold
            have n1 : o.length + 1 + 1 ≤ 4294967296 := by simp at hol; omega
            have n2 : ¬ (o.length + 1 + 1 ≤ o.length + 1) := by omega
            by_cases q1 : b.page + b.n = m[k].page
            · by_cases q2 : b.rights = m[k].rights
              · rw [if_pos ⟨q1, q2⟩, List.dropLast_concat] at hfold
                replace q1 := eq_true q1
                replace q2 := eq_true q2
                simp [Try.ntmps111, Try.results111, cSl, cn0, cI, cD, cR, hk, hw, Ar.row, hfold, w1, w2, w3, hset, q1, q2]
                exact ⟨[1, 2], by simp⟩
              · rw [if_neg (fun h => q2 h.2)] at hfold
                replace q1 := eq_true q1
                simp [Try.ntmps111, Try.results111, cSl, cn0, cI, cD, cR, hk, hw, Ar.row, hfold, w1, w2, w3, hset, q1, q2, n1, n2]
                exact ⟨[1, 5], by simp⟩
            · rw [if_neg (fun h => q1 h.1)] at hfold
              simp [Try.ntmps111, Try.results111, cSl, cn0, cI, cD, cR, hk, hw, Ar.row, hfold, w1, w2, w3, hset, q1, n1, n2]
              exact ⟨[1, 5], by simp⟩
        · rintro out hout
          simp at hout
          have hol := fold_len m []
          rw [← hout] at hol
          have hne2 : out ≠ [] := by
            have hpm : 0 < m.length := by omega
            have := fold_take (l := m) (k := m.length - 1) (by omega)
            rw [show m.length - 1 + 1 = m.length by omega, List.take_length, ← hout] at this
            rw [this]; exact (join1_len _ _).2
          have o1 : ∀ id, ownA id 3 (out.map Ar.row) = .osl id 3 0 out.length out.length := by intro id; simp [ownA, hne2]
          have o2 : ownT 3 (out.map Ar.row) = [some (3, out.map Ar.row)] := by simp [ownT, hne2]
          rw [← hout]
          simp [Try.ntmps111, Try.results111, cSl, cn0, cI, cD, cR, o1, o2]
          exact ⟨[2], by simp⟩
      · have hile2 : i = l.length := by omega
        simp [Try.ntmps111, Try.results111, cSl, cn0, cI, cD, cR, hil, Ar.row, insertI, hl1, hpos, hne, hile]
        rw [← hrows]
        refine loop_forT m.length (fun k (out : List Ar) => ([(6, ownA 2 3 (out.map Ar.row)), (31, .osl 1 3 0 m.length m.length), (32, .v (.int .i64 m.length)), (33, .v (.int .i64 k))], [none, some (3, m.map Ar.row)] ++ ownT 3 (out.map Ar.row))) (fun k out => out = (m.take k).foldl join1 []) [] [3] (by omega) (by simp) (by simp [hlen]) ?_ ?_
        · rintro k out hk hout hw
          have hfold := fold_take hk
          rw [← hout] at hfold
          have hb := fold_bnd (l := m.take k) (fun x hx => hmr x (List.mem_of_mem_take hx))
          rw [← hout] at hb
          have hol := fold_len (m.take k) []
          rw [← hout] at hol
          simp at hol
          have hxr := Ar.right_iff.1 (hmr _ (List.getElem_mem hk))
          rcases List.eq_nil_or_concat out with ho | ⟨o, b, ho⟩
          · subst ho
            simp only [join1, List.getLast?_nil] at hfold
            simp [Try.ntmps111, Try.results111, cSl, cn0, cI, cD, cR, hk, hw, Ar.row, hfold]
            exact ⟨[1, 4], by simp⟩
          · simp only [List.concat_eq_append] at ho
            subst ho
            have hbb := hb b (by simp)
            have hkl : (m.take k).length ≤ 65 := by simp; omega
            have w1 : IntKind.i64.wrap (b.page + b.n) = b.page + b.n := w64 (by omega) (by omega)
            have w2 : IntKind.i64.wrap (b.n + m[k].n) = b.n + m[k].n := w64 (by omega) (by omega)
            have w3 : IntKind.i64.wrap (o.length : Int) = (o.length : Int) := by simp at hol; exact w64 (by omega) (by omega)
            have hset : ∀ x y : Row, (o.map Ar.row ++ [y]).set o.length x = o.map Ar.row ++ [x] := by intro x y; simp
            simp only [join1, List.getLast?_append, List.getLast?_singleton, Option.some_or, joinsA, Bool.and_eq_true, decide_eq_true_eq] at hfold
            have n1 : o.length + 1 + 1 ≤ 4294967296 := by simp at hol; omega
            have n2 : ¬ (o.length + 1 + 1 ≤ o.length + 1) := by omega
            by_cases q1 : b.page + b.n = m[k].page
            · by_cases q2 : b.rights = m[k].rights
              · rw [if_pos ⟨q1, q2⟩, List.dropLast_concat] at hfold
                replace q1 := eq_true q1
                replace q2 := eq_true q2
                simp [Try.ntmps111, Try.results111, cSl, cn0, cI, cD, cR, hk, hw, Ar.row, hfold, w1, w2, w3, hset, q1, q2]
                exact ⟨[1, 2], by simp⟩
              · rw [if_neg (fun h => q2 h.2)] at hfold
                replace q1 := eq_true q1
                simp [Try.ntmps111, Try.results111, cSl, cn0, cI, cD, cR, hk, hw, Ar.row, hfold, w1, w2, w3, hset, q1, q2, n1, n2]
                exact ⟨[1, 5], by simp⟩
            · rw [if_neg (fun h => q1 h.1)] at hfold
              simp [Try.ntmps111, Try.results111, cSl, cn0, cI, cD, cR, hk, hw, Ar.row, hfold, w1, w2, w3, hset, q1, n1, n2]
              exact ⟨[1, 5], by simp⟩
        · rintro out hout
          simp at hout
          have hol := fold_len m []
          rw [← hout] at hol
          have hne2 : out ≠ [] := by
            have hpm : 0 < m.length := by omega
            have := fold_take (l := m) (k := m.length - 1) (by omega)
            rw [show m.length - 1 + 1 = m.length by omega, List.take_length, ← hout] at this
            rw [this]; exact (join1_len _ _).2
          have o1 : ∀ id, ownA id 3 (out.map Ar.row) = .osl id 3 0 out.length out.length := by intro id; simp [ownA, hne2]
          have o2 : ownT 3 (out.map Ar.row) = [some (3, out.map Ar.row)] := by simp [ownT, hne2]
          rw [← hout]
          simp [Try.ntmps111, Try.results111, cSl, cn0, cI, cD, cR, o1, o2]
          exact ⟨[2], by simp⟩
theorem lay_inl : InlOk Try.prog 111 (frame1 (own1 rAr (argG (cAgg rAr) fun a => finG (if a.right = true then some ((.osl 0 3 0 1 1, [some (3, [a.row])])) else none)) (fun l => argG (cAgg rAr) fun a => finG (if arCheck l = 0 ∧ a.right = true then some ((.osl 1 3 0 (layA l a).length (layA l a).length, [none, some (3, (layA l a).map Ar.row)])) else none)))) := frame1_ok lay_own
end
section
attribute [local simp] Ar.eta Ar.cold Ar.mapM Ar.mapMc Ar.view Ar.viewc Ar.hotR Ar.ren Ar.renc Ar.low Ar.tau Ar.tauc Ar.bare Ar.flat Ar.flat1 Ar.mapMt Ar.mapMd Ar.coldt Ar.coldd Ar.hotRt Ar.hotRd
theorem arClone_inl : InlOk Try.prog 27 (cloneI 3) := by
  refine inl_soft Try.func27 rfl ?_
  intro args H r H' hr
  rcases cloneI_some hr with ⟨o, rows, rfl, hl, hc⟩ | ⟨id, st, k, kc, rows, rfl, hob, hle, hl, hc⟩ | ⟨rfl, rfl, rfl⟩
  · refine ⟨by simp [Try.ntmps27], wpA_sound noOrc_ok fxMix _ _ _ _ (by kernel_rfl) ?_⟩
    rcases hc with ⟨rfl, rfl, rfl⟩ | ⟨h0, rfl, rfl⟩
    · simp [Try.ntmps27, Try.results27, noOrc]
    · simp [Try.ntmps27, Try.results27, h0, hl, noOrc]
  · refine ⟨by simp [Try.ntmps27], wpA_sound noOrc_ok fxMix _ _ _ _ (by kernel_rfl) ?_⟩
    have hob' := obj_get hob
    have e1 : min k (rows.length - st) = k := by omega
    have e2 : st + k ≤ rows.length := hle
    have e3 : st ≤ rows.length := by omega
    rcases hc with ⟨rfl, rfl, rfl⟩ | ⟨h0, rfl, rfl⟩
    · simp [Try.ntmps27, Try.results27, noOrc, hob', e2, e3]
    · simp [Try.ntmps27, Try.results27, hl, noOrc, hob', e1, e2, h0]
  · refine ⟨by simp [Try.ntmps27], wpA_sound noOrc_ok fxMix _ _ _ _ (by kernel_rfl) ?_⟩
    simp [Try.ntmps27, Try.results27, noOrc]
def arPut (l : List Ar) (a : Ar) : Except Int (List Ar) := if arChk l a = 0 then (if 0 < manyA l a.page a.end_ then .error 5 else .ok (layA l a)) else .error (arChk l a)
theorem arPut_pure : PureOk Try.prog 38 (argM (cSl rAr) fun l => argM (cAgg rAr) fun a => finM (some (slE 3 Ar.row (arPut l a)))) := by
  refine pure2 Try.func38 rfl ?_
  rintro l a r hr
  simp only [Option.some.injEq] at hr
  subst hr
  refine body_gen (((((noOrc_ok.withP arChk_pure).withP many_pure).withIF arClone_inl clone_loc).withIF lay_inl frame1_loc).withD (fun i => if i = 6 then [(1,2)] else [])) fxMix (by kernel_rfl) (by simp [Try.ntmps38]) ?_
  intro C cP cI cN cD cF cA cR cL
  have cp0 := orcP arChk_pure (C := C) (by rw [cP]; rfl)
  have cp1 := orcP many_pure (C := C) (by rw [cP]; rfl)
  have cn0 := orcI arClone_inl (C := C) (by rw [cN]; rfl)
  have cn1 := orcI lay_inl (C := C) (by rw [cN]; rfl)
  replace cI := fun g => congrFun cI g
  simp only [Orc.withP, Orc.withI, Orc.withF, Orc.withD, Orc.withA, Orc.withR, Orc.withC, noOrc] at cI
  replace cR : C.rd = fun _ => none := cR
  replace cD : C.dyn = fun i => if i = 6 then [(1,2)] else [] := cD
  replace cF := fun g => congrFun cF g
  simp only [Orc.withP, Orc.withI, Orc.withF, Orc.withD, Orc.withA, Orc.withR, Orc.withC, noOrc] at cF
  replace cA : C.alt = fun _ => [] := cA
  clear cP cN
  unfold arPut
  by_cases h0 : arChk l a = 0
  · obtain ⟨hg, ha⟩ := arChk_ok.1 h0
    have hl := good_len0 hg
    have hck := arCheck_iff.2 hg
    have r := Ar.right_iff.1 ha
    have hw := right_wrap ha
    have c1 : a.page ≤ a.page + a.n := by omega
    have c2 : a.page + a.n ≤ 64 := by omega
    have hl2 : l.length ≤ 4294967296 := by omega
    rw [show a.end_ = a.page + a.n from rfl]
    by_cases h1 : 0 < manyA l a.page (a.page + a.n)
    · simp [Try.ntmps38, Try.results38, cSl, cp0, cp1, cn0, cn1, cI, cD, cR, cF, cA, rAr, Ar.row, arDec, h0, hck, hw, r.1, c1, c2, h1, slE]
    · by_cases hne : l = []
      · subst hne
        have e : layA [] a = [a] := rfl
        simp only [manyA_nil] at h1
        simp [Try.ntmps38, Try.results38, cSl, cp0, cp1, cn0, cn1, cI, cD, cR, cF, cA, rAr, Ar.row, arDec, h0, hck, hw, r.1, c1, c2, slE, cloneI, manyA_nil, ha, e]
      · have hpos : 0 < l.length := List.length_pos_iff.2 hne
        simp [Try.ntmps38, Try.results38, cSl, cp0, cp1, cn0, cn1, cI, cD, cR, cF, cA, rAr, Ar.row, arDec, h0, hck, hw, r.1, c1, c2, h1, slE, cloneI, ha, hne, hl2, hpos]
  · simp [Try.ntmps38, Try.results38, cSl, cp0, cp1, cn0, cn1, cI, cD, cR, cF, cA, rAr, Ar.row, arDec, h0, slE]
def arOut (l : List Ar) (p n : Int) : Except Int (List Ar) := if arChk l ⟨p, n, 0⟩ = 0 then .ok (cutA l p (p + n)) else .error (arChk l ⟨p, n, 0⟩)
def outE : Except Int (List Ar) → AVal
  | .ok m => if m = [] then .v (.tuple #[.slice none 0 0, .int .i64 0]) else slE 3 Ar.row (.ok m)
  | .error e => slE 3 Ar.row (.error e)
theorem arOut_pure : PureOk Try.prog 40 (argM (cSl rAr) fun l => argM (cInt .i64) fun p => argM (cInt .i64) fun n => finM (some (outE (arOut l p n)))) := by
  refine pure3 Try.func40 rfl ?_
  rintro l p n r hr
  simp only [Option.some.injEq] at hr
  subst hr
  refine body_gen ((noOrc_ok.withP arChk_pure).withI cut_inl) fxMix (by kernel_rfl) (by simp [Try.ntmps40]) ?_
  intro C cP cI cN cD cF cA cR cL
  have cp0 := orcP arChk_pure (C := C) (by rw [cP]; rfl)
  have cn0 := orcI cut_inl (C := C) (by rw [cN]; rfl)
  replace cI := fun g => congrFun cI g
  simp only [Orc.withP, Orc.withI, Orc.withF, Orc.withD, Orc.withA, Orc.withR, Orc.withC, noOrc] at cI
  replace cR : C.rd = fun _ => none := cR
  replace cD : C.dyn = fun _ => [] := cD
  clear cP cN cF cA
  unfold arOut
  by_cases h0 : arChk l ⟨p, n, 0⟩ = 0
  · obtain ⟨hg, ha⟩ := arChk_ok.1 h0
    have hl := good_len0 hg
    have hck := arCheck_iff.2 hg
    have r := Ar.right_iff.1 ha
    have hw := right_wrap ha
    simp only at r hw
    have c1 : p ≤ p + n := by omega
    have c2 : p + n ≤ 64 := by omega
    by_cases hne : cutA l p (p + n) = []
    · simp [Try.ntmps40, Try.results40, cSl, cp0, cn0, cI, cD, cR, rAr, Ar.row, arDec, h0, hck, hw, r.1, c1, c2, slE, outE, hne]
    · have o1 : ownA 0 3 ((cutA l p (p + n)).map Ar.row) = .osl 0 3 0 (cutA l p (p + n)).length (cutA l p (p + n)).length := by simp [ownA, hne]
      have o2 : ownT 3 ((cutA l p (p + n)).map Ar.row) = [some (3, (cutA l p (p + n)).map Ar.row)] := by simp [ownT, hne]
      simp [Try.ntmps40, Try.results40, cSl, cp0, cn0, cI, cD, cR, rAr, Ar.row, arDec, h0, hck, hw, r.1, c1, c2, slE, outE, hne, o1, o2]
  · simp [Try.ntmps40, Try.results40, cSl, cp0, cn0, cI, cD, cR, rAr, Ar.row, arDec, h0, slE, outE]
def arTurn (l : List Ar) (a : Ar) : Except Int (List Ar) := if arChk l a = 0 then (if manyA l a.page a.end_ < a.n then .error 11 else .ok (layA (cutA l a.page a.end_) a)) else .error (arChk l a)
theorem arTurn_pure : PureOk Try.prog 39 (argM (cSl rAr) fun l => argM (cAgg rAr) fun a => finM (some (slE 3 Ar.row (arTurn l a)))) := by
  refine pure2 Try.func39 rfl ?_
  rintro l a r hr
  simp only [Option.some.injEq] at hr
  subst hr
  refine body_gen (((((noOrc_ok.withP arChk_pure).withP many_pure).withIF cut_inl frame0_loc).withIF lay_inl frame1_loc).withD (fun i => if i = 6 then [(8,9)] else [])) fxMix (by kernel_rfl) (by simp [Try.ntmps39]) ?_
  intro C cP cI cN cD cF cA cR cL
  have cp0 := orcP arChk_pure (C := C) (by rw [cP]; rfl)
  have cp1 := orcP many_pure (C := C) (by rw [cP]; rfl)
  have cn0 := orcI cut_inl (C := C) (by rw [cN]; rfl)
  have cn1 := orcI lay_inl (C := C) (by rw [cN]; rfl)
  replace cI := fun g => congrFun cI g
  simp only [Orc.withP, Orc.withI, Orc.withF, Orc.withD, Orc.withA, Orc.withR, Orc.withC, noOrc] at cI
  replace cR : C.rd = fun _ => none := cR
  replace cD : C.dyn = fun i => if i = 6 then [(8,9)] else [] := cD
  replace cF := fun g => congrFun cF g
  simp only [Orc.withP, Orc.withI, Orc.withF, Orc.withD, Orc.withA, Orc.withR, Orc.withC, noOrc] at cF
  replace cA : C.alt = fun _ => [] := cA
  clear cP cN
  unfold arTurn
  by_cases h0 : arChk l a = 0
  · obtain ⟨hg, ha⟩ := arChk_ok.1 h0
    have hl := good_len0 hg
    have hck := arCheck_iff.2 hg
    have r := Ar.right_iff.1 ha
    have hw := right_wrap ha
    have c1 : a.page ≤ a.page + a.n := by omega
    have c2 : a.page + a.n ≤ 64 := by omega
    rw [show a.end_ = a.page + a.n from rfl]
    have hcut := arCheck_iff.2 (cutA_ok (f := a.page) (t := a.page + a.n) (by omega) hg).1
    by_cases h1 : manyA l a.page (a.page + a.n) < a.n
    · simp [Try.ntmps39, Try.results39, cSl, cp0, cp1, cn0, cn1, cI, cD, cR, cF, cA, rAr, Ar.row, arDec, h0, hck, hw, r.1, c1, c2, h1, slE]
    · by_cases hne : cutA l a.page (a.page + a.n) = []
      · have e : layA [] a = [a] := rfl
        simp [Try.ntmps39, Try.results39, cSl, cp0, cp1, cn0, cn1, cI, cD, cR, cF, cA, rAr, Ar.row, arDec, h0, hck, hw, r.1, c1, c2, slE, h1, ha, e, hne]
      · have hpos : 0 < (cutA l a.page (a.page + a.n)).length := List.length_pos_iff.2 hne
        have o1 : ownA 0 3 ((cutA l a.page (a.page + a.n)).map Ar.row) = .osl 0 3 0 (cutA l a.page (a.page + a.n)).length (cutA l a.page (a.page + a.n)).length := by simp [ownA, hne]
        have o2 : ownT 3 ((cutA l a.page (a.page + a.n)).map Ar.row) = [some (3, (cutA l a.page (a.page + a.n)).map Ar.row)] := by simp [ownT, hne]
        simp [Try.ntmps39, Try.results39, cSl, cp0, cp1, cn0, cn1, cI, cD, cR, cF, cA, rAr, Ar.row, arDec, h0, hck, hw, r.1, c1, c2, h1, slE, ha, hne, hpos, o1, o2, hcut]
  · simp [Try.ntmps39, Try.results39, cSl, cp0, cp1, cn0, cn1, cI, cD, cR, cF, cA, rAr, Ar.row, arDec, h0, slE]
def noAr : Ar := ⟨0, 0, 0⟩
def arAtC (l : List Ar) (p : Int) : Int := arChk l ⟨p, 1, 0⟩
def arAtA (l : List Ar) (p : Int) : Ar := if arAtC l p = 0 then (arAt l p).getD noAr else noAr
def arAtB (l : List Ar) (p : Int) : Bool := if arAtC l p = 0 then (arAt l p).isSome else false
def arGapC (l : List Ar) (n : Int) : Int := if arChk l ⟨0, n, 0⟩ = 0 then (if gapGo n 0 l < 0 then 6 else 0) else arChk l ⟨0, n, 0⟩
def arGap (l : List Ar) (n : Int) : Int := if arGapC l n = 0 then gapGo n 0 l else 0
end
section
attribute [local simp] Ar.eta Ar.cold Ar.mapM Ar.mapMc Ar.view Ar.viewc Ar.hotR Ar.ren Ar.renc Ar.low Ar.tau Ar.tauc Ar.bare Ar.flat Ar.flat1 Ar.mapMt Ar.mapMd Ar.coldt Ar.coldd Ar.hotRt Ar.hotRd
attribute [local simp] okL_tau okL_bare okL_allV okL_one okL_res
theorem join1_ne (out : List Ar) (a : Ar) : join1 out a ≠ [] := by
  unfold join1
  split
  · split <;> simp
  · simp
theorem foldl_join_ne : ∀ (l : List Ar) (out : List Ar), out ≠ [] → l.foldl join1 out ≠ []
  | [], _, h => h
  | a :: l, out, _ => foldl_join_ne l _ (join1_ne out a)
theorem layA_ne (l : List Ar) (a : Ar) : layA l a ≠ [] := by
  unfold layA joinAll
  cases h : insA l a with
  | nil => simp [insA] at h
  | cons x xs => exact foldl_join_ne xs _ (join1_ne [] x)
def arX : Except Int (List Ar) → Bool × List Ar × Int
  | .ok l => (!l.isEmpty, l, 0)
  | .error e => (false, [], e)
def arU (q : Bool × List Ar × Int) : AVal × Heap := (.tup [okL q.1 0 3 q.2.1.length, .v (.int .i64 q.2.2)], [okO q.1 3 (q.2.1.map Ar.row)])
theorem ar_err {e : Int} : Lss (.v (.tuple #[.slice none 0 0, .int .i64 e])) (.tup [.esl, .v (.int .i64 e)]) :=
  (Lss.vals (vs := [.slice none 0 0, .int .i64 e]) rfl (fun j v r hv hr => by
    match j, hv, hr with
    | 0, hv, hr => simp at hv hr; subst hv hr; exact @Lss.nil_esl'
    | 1, hv, hr => simp at hv hr; subst hv hr; exact @Lss.refl _
    | j + 2, hv, hr => simp at hv)).1
theorem arPut_own : InlOk Try.prog 38 (own0 (argG (cSl rAr) fun l => argG (cAgg rAr) fun a => finG (some (arU (arX (arPut l a)))))) := by
  refine ownE_2 Try.func38 rfl ?_
  rintro l a r H' hr
  simp only [Option.some.injEq, Prod.mk.injEq] at hr
  obtain ⟨rfl, rfl⟩ := hr
  refine bodyE_of (((((noOrc_ok.withP arChk_pure).withP many_pure).withIF arClone_inl clone_loc).withIF lay_inl frame1_loc).withD (fun i => if i = 6 then [(1,2)] else [])) fxMix (by kernel_rfl) (by simp [Try.ntmps38]) ?_
  intro C cP cI cN cD cF cA cR cL
  have cp0 := orcP arChk_pure (C := C) (by rw [cP]; rfl)
  have cp1 := orcP many_pure (C := C) (by rw [cP]; rfl)
  have cn0 := orcI arClone_inl (C := C) (by rw [cN]; rfl)
  have cn1 := orcI lay_inl (C := C) (by rw [cN]; rfl)
  replace cI := fun g => congrFun cI g
  simp only [Orc.withP, Orc.withI, Orc.withF, Orc.withD, Orc.withA, Orc.withR, Orc.withC, noOrc] at cI
  replace cR : C.rd = fun _ => none := cR
  replace cD : C.dyn = fun i => if i = 6 then [(1,2)] else [] := cD
  replace cF := fun g => congrFun cF g
  simp only [Orc.withP, Orc.withI, Orc.withF, Orc.withD, Orc.withA, Orc.withR, Orc.withC, noOrc] at cF
  replace cA : C.alt = fun _ => [] := cA
  clear cP cN
  unfold arPut
  by_cases h0 : arChk l a = 0
  · obtain ⟨hg, ha⟩ := arChk_ok.1 h0
    have hl := good_len0 hg
    have hck := arCheck_iff.2 hg
    have r := Ar.right_iff.1 ha
    have hw := right_wrap ha
    have c1 : a.page ≤ a.page + a.n := by omega
    have c2 : a.page + a.n ≤ 64 := by omega
    have hl2 : l.length ≤ 4294967296 := by omega
    rw [show a.end_ = a.page + a.n from rfl]
    by_cases h1 : 0 < manyA l a.page (a.page + a.n)
    · simp [Try.ntmps38, Try.results38, cSl, cp0, cp1, cn0, cn1, cI, cD, cR, cF, cA, rAr, Ar.row, arDec, h0, hck, hw, r.1, c1, c2, h1, arX, arU, okL, okO]
      first
      | exact ent_err (@ar_err _) (by simp [lowA, lowC])
      | (refine Ent.weakT (th := [0]) ?_; simp []; done)
      | (refine Ent.weakT (th := [1]) ?_; simp []; done)
      | (refine Ent.weakT (th := [2]) ?_; simp []; done)
      | (refine Ent.weakT (th := [3]) ?_; simp []; done)
      | (refine Ent.weakT (th := [4]) ?_; simp []; done)
      | (refine Ent.weakT (th := [5]) ?_; simp []; done)
      | (refine Ent.weakT (th := [6]) ?_; simp []; done)
      | (refine Ent.weakT (th := [7]) ?_; simp []; done)
      | (refine Ent.weakT (th := [8]) ?_; simp []; done)
      | (refine Ent.weakT (th := [9]) ?_; simp []; done)
      | (refine Ent.weakT (th := [10]) ?_; simp []; done)
      | (refine Ent.weakT (th := [11]) ?_; simp []; done)
    · by_cases hne : l = []
      · subst hne
        have e : layA [] a = [a] := rfl
        simp only [manyA_nil] at h1
        simp [Try.ntmps38, Try.results38, cSl, cp0, cp1, cn0, cn1, cI, cD, cR, cF, cA, rAr, Ar.row, arDec, h0, hck, hw, r.1, c1, c2, arX, arU, okL, okO, cloneI, manyA_nil, ha, e]
        first
        | exact ent_err (@ar_err _) (by simp [lowA, lowC])
        | (refine Ent.weakT (th := [0]) ?_; simp []; done)
        | (refine Ent.weakT (th := [1]) ?_; simp []; done)
        | (refine Ent.weakT (th := [2]) ?_; simp []; done)
        | (refine Ent.weakT (th := [3]) ?_; simp []; done)
        | (refine Ent.weakT (th := [4]) ?_; simp []; done)
        | (refine Ent.weakT (th := [5]) ?_; simp []; done)
        | (refine Ent.weakT (th := [6]) ?_; simp []; done)
        | (refine Ent.weakT (th := [7]) ?_; simp []; done)
        | (refine Ent.weakT (th := [8]) ?_; simp []; done)
        | (refine Ent.weakT (th := [9]) ?_; simp []; done)
        | (refine Ent.weakT (th := [10]) ?_; simp []; done)
        | (refine Ent.weakT (th := [11]) ?_; simp []; done)
      · have hpos : 0 < l.length := List.length_pos_iff.2 hne
        have hy := layA_ne l a
        have hy2 : (layA l a).isEmpty = false := by simpa using hy
        simp [Try.ntmps38, Try.results38, cSl, cp0, cp1, cn0, cn1, cI, cD, cR, cF, cA, rAr, Ar.row, arDec, h0, hck, hw, r.1, c1, c2, h1, arX, arU, okL, okO, cloneI, ha, hne, hl2, hpos, hy, hy2]
        first
        | exact ent_err (@ar_err _) (by simp [lowA, lowC])
        | (refine Ent.weakT (th := [0]) ?_; simp []; done)
        | (refine Ent.weakT (th := [1]) ?_; simp []; done)
        | (refine Ent.weakT (th := [2]) ?_; simp []; done)
        | (refine Ent.weakT (th := [3]) ?_; simp []; done)
        | (refine Ent.weakT (th := [4]) ?_; simp []; done)
        | (refine Ent.weakT (th := [5]) ?_; simp []; done)
        | (refine Ent.weakT (th := [6]) ?_; simp []; done)
        | (refine Ent.weakT (th := [7]) ?_; simp []; done)
        | (refine Ent.weakT (th := [8]) ?_; simp []; done)
        | (refine Ent.weakT (th := [9]) ?_; simp []; done)
        | (refine Ent.weakT (th := [10]) ?_; simp []; done)
        | (refine Ent.weakT (th := [11]) ?_; simp []; done)
  · simp [Try.ntmps38, Try.results38, cSl, cp0, cp1, cn0, cn1, cI, cD, cR, cF, cA, rAr, Ar.row, arDec, h0, arX, arU, okL, okO]
    first
    | exact ent_err (@ar_err _) (by simp [lowA, lowC])
    | (refine Ent.weakT (th := [0]) ?_; simp []; done)
    | (refine Ent.weakT (th := [1]) ?_; simp []; done)
    | (refine Ent.weakT (th := [2]) ?_; simp []; done)
    | (refine Ent.weakT (th := [3]) ?_; simp []; done)
    | (refine Ent.weakT (th := [4]) ?_; simp []; done)
    | (refine Ent.weakT (th := [5]) ?_; simp []; done)
    | (refine Ent.weakT (th := [6]) ?_; simp []; done)
    | (refine Ent.weakT (th := [7]) ?_; simp []; done)
    | (refine Ent.weakT (th := [8]) ?_; simp []; done)
    | (refine Ent.weakT (th := [9]) ?_; simp []; done)
    | (refine Ent.weakT (th := [10]) ?_; simp []; done)
    | (refine Ent.weakT (th := [11]) ?_; simp []; done)
theorem arPutU_inl : InlOk Try.prog 38 (frame0 (own0 (argG (cSl rAr) fun l => argG (cAgg rAr) fun a => finG (some (arU (arX (arPut l a))))))) := frame0_ok arPut_own
theorem arOut_own : InlOk Try.prog 40 (own0 (argG (cSl rAr) fun l => argG (cInt .i64) fun p => argG (cInt .i64) fun n => finG (some (arU (arX (arOut l p n)))))) := by
  refine ownE_3 Try.func40 rfl ?_
  rintro l p n r H' hr
  simp only [Option.some.injEq, Prod.mk.injEq] at hr
  obtain ⟨rfl, rfl⟩ := hr
  refine bodyE_of ((noOrc_ok.withP arChk_pure).withI cut_inl) fxMix (by kernel_rfl) (by simp [Try.ntmps40]) ?_
  intro C cP cI cN cD cF cA cR cL
  have cp0 := orcP arChk_pure (C := C) (by rw [cP]; rfl)
  have cn0 := orcI cut_inl (C := C) (by rw [cN]; rfl)
  replace cI := fun g => congrFun cI g
  simp only [Orc.withP, Orc.withI, Orc.withF, Orc.withD, Orc.withA, Orc.withR, Orc.withC, noOrc] at cI
  replace cR : C.rd = fun _ => none := cR
  replace cD : C.dyn = fun _ => [] := cD
  clear cP cN cF cA
  unfold arOut
  by_cases h0 : arChk l ⟨p, n, 0⟩ = 0
  · obtain ⟨hg, ha⟩ := arChk_ok.1 h0
    have hl := good_len0 hg
    have hck := arCheck_iff.2 hg
    have r := Ar.right_iff.1 ha
    have hw := right_wrap ha
    simp only at r hw
    have c1 : p ≤ p + n := by omega
    have c2 : p + n ≤ 64 := by omega
    by_cases hne : cutA l p (p + n) = []
    · have o1 : ownA 0 3 ((cutA l p (p + n)).map Ar.row) = .v (.slice none 0 0) := by simp [ownA, hne]
      have o2 : ownT 3 ((cutA l p (p + n)).map Ar.row) = [] := by simp [ownT, hne]
      simp [Try.ntmps40, Try.results40, cSl, cp0, cn0, cI, cD, cR, rAr, Ar.row, arDec, h0, hck, hw, r.1, c1, c2, arX, arU, okL, okO, hne, o1, o2]
      first
      | exact ent_err (@ar_err _) (by simp [lowA, lowC])
      | (refine Ent.weakT (th := [0]) ?_; simp []; done)
      | (refine Ent.weakT (th := [1]) ?_; simp []; done)
      | (refine Ent.weakT (th := [2]) ?_; simp []; done)
      | (refine Ent.weakT (th := [3]) ?_; simp []; done)
      | (refine Ent.weakT (th := [4]) ?_; simp []; done)
      | (refine Ent.weakT (th := [5]) ?_; simp []; done)
      | (refine Ent.weakT (th := [6]) ?_; simp []; done)
      | (refine Ent.weakT (th := [7]) ?_; simp []; done)
      | (refine Ent.weakT (th := [8]) ?_; simp []; done)
      | (refine Ent.weakT (th := [9]) ?_; simp []; done)
      | (refine Ent.weakT (th := [10]) ?_; simp []; done)
      | (refine Ent.weakT (th := [11]) ?_; simp []; done)
    · have o1 : ownA 0 3 ((cutA l p (p + n)).map Ar.row) = .osl 0 3 0 (cutA l p (p + n)).length (cutA l p (p + n)).length := by simp [ownA, hne]
      have o2 : ownT 3 ((cutA l p (p + n)).map Ar.row) = [some (3, (cutA l p (p + n)).map Ar.row)] := by simp [ownT, hne]
      simp [Try.ntmps40, Try.results40, cSl, cp0, cn0, cI, cD, cR, rAr, Ar.row, arDec, h0, hck, hw, r.1, c1, c2, arX, arU, okL, okO, hne, o1, o2]
      first
      | exact ent_err (@ar_err _) (by simp [lowA, lowC])
      | (refine Ent.weakT (th := [0]) ?_; simp []; done)
      | (refine Ent.weakT (th := [1]) ?_; simp []; done)
      | (refine Ent.weakT (th := [2]) ?_; simp []; done)
      | (refine Ent.weakT (th := [3]) ?_; simp []; done)
      | (refine Ent.weakT (th := [4]) ?_; simp []; done)
      | (refine Ent.weakT (th := [5]) ?_; simp []; done)
      | (refine Ent.weakT (th := [6]) ?_; simp []; done)
      | (refine Ent.weakT (th := [7]) ?_; simp []; done)
      | (refine Ent.weakT (th := [8]) ?_; simp []; done)
      | (refine Ent.weakT (th := [9]) ?_; simp []; done)
      | (refine Ent.weakT (th := [10]) ?_; simp []; done)
      | (refine Ent.weakT (th := [11]) ?_; simp []; done)
  · simp [Try.ntmps40, Try.results40, cSl, cp0, cn0, cI, cD, cR, rAr, Ar.row, arDec, h0, arX, arU, okL, okO]
    first
    | exact ent_err (@ar_err _) (by simp [lowA, lowC])
    | (refine Ent.weakT (th := [0]) ?_; simp []; done)
    | (refine Ent.weakT (th := [1]) ?_; simp []; done)
    | (refine Ent.weakT (th := [2]) ?_; simp []; done)
    | (refine Ent.weakT (th := [3]) ?_; simp []; done)
    | (refine Ent.weakT (th := [4]) ?_; simp []; done)
    | (refine Ent.weakT (th := [5]) ?_; simp []; done)
    | (refine Ent.weakT (th := [6]) ?_; simp []; done)
    | (refine Ent.weakT (th := [7]) ?_; simp []; done)
    | (refine Ent.weakT (th := [8]) ?_; simp []; done)
    | (refine Ent.weakT (th := [9]) ?_; simp []; done)
    | (refine Ent.weakT (th := [10]) ?_; simp []; done)
    | (refine Ent.weakT (th := [11]) ?_; simp []; done)
theorem arOutU_inl : InlOk Try.prog 40 (frame0 (own0 (argG (cSl rAr) fun l => argG (cInt .i64) fun p => argG (cInt .i64) fun n => finG (some (arU (arX (arOut l p n))))))) := frame0_ok arOut_own
theorem arTurn_own : InlOk Try.prog 39 (own0 (argG (cSl rAr) fun l => argG (cAgg rAr) fun a => finG (some (arU (arX (arTurn l a)))))) := by
  refine ownE_2 Try.func39 rfl ?_
  rintro l a r H' hr
  simp only [Option.some.injEq, Prod.mk.injEq] at hr
  obtain ⟨rfl, rfl⟩ := hr
  refine bodyE_of (((((noOrc_ok.withP arChk_pure).withP many_pure).withIF cut_inl frame0_loc).withIF lay_inl frame1_loc).withD (fun i => if i = 6 then [(8,9)] else [])) fxMix (by kernel_rfl) (by simp [Try.ntmps39]) ?_
  intro C cP cI cN cD cF cA cR cL
  have cp0 := orcP arChk_pure (C := C) (by rw [cP]; rfl)
  have cp1 := orcP many_pure (C := C) (by rw [cP]; rfl)
  have cn0 := orcI cut_inl (C := C) (by rw [cN]; rfl)
  have cn1 := orcI lay_inl (C := C) (by rw [cN]; rfl)
  replace cI := fun g => congrFun cI g
  simp only [Orc.withP, Orc.withI, Orc.withF, Orc.withD, Orc.withA, Orc.withR, Orc.withC, noOrc] at cI
  replace cR : C.rd = fun _ => none := cR
  replace cD : C.dyn = fun i => if i = 6 then [(8,9)] else [] := cD
  replace cF := fun g => congrFun cF g
  simp only [Orc.withP, Orc.withI, Orc.withF, Orc.withD, Orc.withA, Orc.withR, Orc.withC, noOrc] at cF
  replace cA : C.alt = fun _ => [] := cA
  clear cP cN
  unfold arTurn
  by_cases h0 : arChk l a = 0
  · obtain ⟨hg, ha⟩ := arChk_ok.1 h0
    have hl := good_len0 hg
    have hck := arCheck_iff.2 hg
    have r := Ar.right_iff.1 ha
    have hw := right_wrap ha
    have c1 : a.page ≤ a.page + a.n := by omega
    have c2 : a.page + a.n ≤ 64 := by omega
    rw [show a.end_ = a.page + a.n from rfl]
    have hcut := arCheck_iff.2 (cutA_ok (f := a.page) (t := a.page + a.n) (by omega) hg).1
    by_cases h1 : manyA l a.page (a.page + a.n) < a.n
    · simp [Try.ntmps39, Try.results39, cSl, cp0, cp1, cn0, cn1, cI, cD, cR, cF, cA, rAr, Ar.row, arDec, h0, hck, hw, r.1, c1, c2, h1, arX, arU, okL, okO]
      first
      | exact ent_err (@ar_err _) (by simp [lowA, lowC])
      | (refine Ent.weakT (th := [0]) ?_; simp []; done)
      | (refine Ent.weakT (th := [1]) ?_; simp []; done)
      | (refine Ent.weakT (th := [2]) ?_; simp []; done)
      | (refine Ent.weakT (th := [3]) ?_; simp []; done)
      | (refine Ent.weakT (th := [4]) ?_; simp []; done)
      | (refine Ent.weakT (th := [5]) ?_; simp []; done)
      | (refine Ent.weakT (th := [6]) ?_; simp []; done)
      | (refine Ent.weakT (th := [7]) ?_; simp []; done)
      | (refine Ent.weakT (th := [8]) ?_; simp []; done)
      | (refine Ent.weakT (th := [9]) ?_; simp []; done)
      | (refine Ent.weakT (th := [10]) ?_; simp []; done)
      | (refine Ent.weakT (th := [11]) ?_; simp []; done)
    · have hy := layA_ne (cutA l a.page (a.page + a.n)) a
      have hy2 : (layA (cutA l a.page (a.page + a.n)) a).isEmpty = false := by simpa using hy
      by_cases hne : cutA l a.page (a.page + a.n) = []
      · have e : layA [] a = [a] := rfl
        simp [Try.ntmps39, Try.results39, cSl, cp0, cp1, cn0, cn1, cI, cD, cR, cF, cA, rAr, Ar.row, arDec, h0, hck, hw, r.1, c1, c2, arX, arU, okL, okO, h1, ha, e, hne]
        first
        | exact ent_err (@ar_err _) (by simp [lowA, lowC])
        | (refine Ent.weakT (th := [0]) ?_; simp []; done)
        | (refine Ent.weakT (th := [1]) ?_; simp []; done)
        | (refine Ent.weakT (th := [2]) ?_; simp []; done)
        | (refine Ent.weakT (th := [3]) ?_; simp []; done)
        | (refine Ent.weakT (th := [4]) ?_; simp []; done)
        | (refine Ent.weakT (th := [5]) ?_; simp []; done)
        | (refine Ent.weakT (th := [6]) ?_; simp []; done)
        | (refine Ent.weakT (th := [7]) ?_; simp []; done)
        | (refine Ent.weakT (th := [8]) ?_; simp []; done)
        | (refine Ent.weakT (th := [9]) ?_; simp []; done)
        | (refine Ent.weakT (th := [10]) ?_; simp []; done)
        | (refine Ent.weakT (th := [11]) ?_; simp []; done)
      · have hpos : 0 < (cutA l a.page (a.page + a.n)).length := List.length_pos_iff.2 hne
        have o1 : ownA 0 3 ((cutA l a.page (a.page + a.n)).map Ar.row) = .osl 0 3 0 (cutA l a.page (a.page + a.n)).length (cutA l a.page (a.page + a.n)).length := by simp [ownA, hne]
        have o2 : ownT 3 ((cutA l a.page (a.page + a.n)).map Ar.row) = [some (3, (cutA l a.page (a.page + a.n)).map Ar.row)] := by simp [ownT, hne]
        simp [Try.ntmps39, Try.results39, cSl, cp0, cp1, cn0, cn1, cI, cD, cR, cF, cA, rAr, Ar.row, arDec, h0, hck, hw, r.1, c1, c2, h1, arX, arU, okL, okO, ha, hne, hpos, o1, o2, hcut, hy, hy2]
        first
        | exact ent_err (@ar_err _) (by simp [lowA, lowC])
        | (refine Ent.weakT (th := [0]) ?_; simp []; done)
        | (refine Ent.weakT (th := [1]) ?_; simp []; done)
        | (refine Ent.weakT (th := [2]) ?_; simp []; done)
        | (refine Ent.weakT (th := [3]) ?_; simp []; done)
        | (refine Ent.weakT (th := [4]) ?_; simp []; done)
        | (refine Ent.weakT (th := [5]) ?_; simp []; done)
        | (refine Ent.weakT (th := [6]) ?_; simp []; done)
        | (refine Ent.weakT (th := [7]) ?_; simp []; done)
        | (refine Ent.weakT (th := [8]) ?_; simp []; done)
        | (refine Ent.weakT (th := [9]) ?_; simp []; done)
        | (refine Ent.weakT (th := [10]) ?_; simp []; done)
        | (refine Ent.weakT (th := [11]) ?_; simp []; done)
  · simp [Try.ntmps39, Try.results39, cSl, cp0, cp1, cn0, cn1, cI, cD, cR, cF, cA, rAr, Ar.row, arDec, h0, arX, arU, okL, okO]
    first
    | exact ent_err (@ar_err _) (by simp [lowA, lowC])
    | (refine Ent.weakT (th := [0]) ?_; simp []; done)
    | (refine Ent.weakT (th := [1]) ?_; simp []; done)
    | (refine Ent.weakT (th := [2]) ?_; simp []; done)
    | (refine Ent.weakT (th := [3]) ?_; simp []; done)
    | (refine Ent.weakT (th := [4]) ?_; simp []; done)
    | (refine Ent.weakT (th := [5]) ?_; simp []; done)
    | (refine Ent.weakT (th := [6]) ?_; simp []; done)
    | (refine Ent.weakT (th := [7]) ?_; simp []; done)
    | (refine Ent.weakT (th := [8]) ?_; simp []; done)
    | (refine Ent.weakT (th := [9]) ?_; simp []; done)
    | (refine Ent.weakT (th := [10]) ?_; simp []; done)
    | (refine Ent.weakT (th := [11]) ?_; simp []; done)
theorem arTurnU_inl : InlOk Try.prog 39 (frame0 (own0 (argG (cSl rAr) fun l => argG (cAgg rAr) fun a => finG (some (arU (arX (arTurn l a))))))) := frame0_ok arTurn_own
end
end
end Go.Proofs.Ytebpjfdbjhodiaa
