/- Each step of the interpreter is true of the model: the heap. -/
import Derived.Test.YtebpjfdbjhodiaaAiB
import Derived.Laws.CopyRow
import Derived.Laws.Rows
import Derived.Laws.CopyOwn
import Derived.Laws.World
namespace Go.AI
set_option linter.unusedSimpArgs false
set_option linter.unusedVariables false
open Go.RowKit

theorem add_none (b o k : Nat) : (⟨b, o, none⟩ : Addr).add k = ⟨b, o + k, none⟩ := by
  unfold Addr.add; split <;> simp_all

section
variable {base : Nat} {w0 : World} {β : Nat → Nat} {fz : Nat → Prop} {H : Heap} {w : World} {P : Program} {n : Nat} {ok : Bool → Nat → Prop}

theorem one_R {a : AVal} {x : Value} (h : oneA a = true) (hr : R β ok w n a x) : x.oneCell' = true := by
  cases hr <;> simp_all [oneA, Value.oneCell']

theorem cells_one {x : Value} (h : x.oneCell' = true) : x.cells = #[x] := by
  cases x <;> simp_all [Value.oneCell', Value.cells]

theorem cells_R {a : AVal} {cs : Row} {x : Value} (h : cellsOf a = some cs) (hr : R β ok w n a x) :
    x.cells.size = cs.length ∧ (∀ (j : Nat) (c : AVal), cs[j]? = some c → R β ok w n c (x.cells[j]?.getD undef)) ∧ ∀ c, c ∈ x.cells → c.oneCell' = true := by
  have one : ∀ a : AVal, oneA a = true → R β ok w n a x → x.cells.size = [a].length ∧ (∀ (j : Nat) (c : AVal), [a][j]? = some c → R β ok w n c (x.cells[j]?.getD undef)) ∧ ∀ c, c ∈ x.cells → c.oneCell' = true := by
    intro a ha hr
    have h1 := one_R ha hr
    rw [cells_one h1]
    refine ⟨rfl, fun j c hj => ?_, fun c hc => ?_⟩
    · cases j with
      | zero => simp at hj; subst hj; simpa using hr
      | succ j => simp at hj
    · simp at hc; subst hc; exact h1
  cases a with
  | v y =>
    cases hr
    by_cases hy : x.oneCell' = true
    · have : cs = [.v x] := by
        cases x <;> simp_all [cellsOf, Value.oneCell']
      subst this
      exact one _ hy .v
    · cases x with
      | agg ys =>
        simp only [cellsOf] at h
        split at h
        · rename_i hall
          simp only [Option.some.injEq] at h
          subst h
          refine ⟨by simp [Value.cells], fun j c hj => ?_, fun c hc => ?_⟩
          · simp only [List.getElem?_map, Option.map_eq_some_iff, Array.getElem?_toList] at hj
            obtain ⟨y, hy, rfl⟩ := hj
            simp only [Value.cells, hy, Option.getD_some]
            exact .v
          · exact allOne_mem hall c (Array.mem_toList_iff.2 hc)
        · cases h
      | _ => simp_all [Value.oneCell', cellsOf]
  | agg ys =>
    cases hr with
    | @agg _ _ xs hl hr =>
      simp only [cellsOf] at h
      split at h
      · rename_i hall
        simp only [Option.some.injEq] at h
        subst h
        refine ⟨hl.symm, hr, fun c hc => ?_⟩
        obtain ⟨j, hj⟩ := Array.getElem?_of_mem hc
        change xs[j]? = some c at hj
        have hj' : j < xs.size := (Array.getElem?_eq_some_iff.1 hj).1
        have hjy : j < ys.length := by omega
        have := hr j ys[j] (List.getElem?_eq_getElem hjy)
        rw [hj] at this
        exact one_R (allOneA_mem hall _ (List.getElem_mem hjy)) this
      · cases h
  | junk => simp [cellsOf] at h
  | tup vs => simp [cellsOf] at h
  | anyb => simp [cellsOf] at h; subst h; exact one _ rfl hr
  | ptr _ _ _ _ => simp [cellsOf] at h; subst h; exact one _ rfl hr
  | fptr _ _ => simp [cellsOf] at h; subst h; exact one _ rfl hr
  | osl _ _ _ _ _ => simp [cellsOf] at h; subst h; exact one _ rfl hr
  | xsl _ _ _ _ _ => simp [cellsOf] at h; subst h; exact one _ rfl hr
  | fsl _ _ _ => simp [cellsOf] at h; subst h; exact one _ rfl hr
  | esl => simp [cellsOf] at h; subst h; exact one _ rfl hr
  | fn _ _ => simp [cellsOf] at h; subst h; exact one _ rfl hr
  | when _ _ => simp [cellsOf] at h

theorem allV_some {cs : Row} {xs : List Value} (h : allV cs = some xs) : cs = xs.map .v := by
  induction cs generalizing xs with
  | nil => simp [allV] at h; subst h; rfl
  | cons a r ih =>
    cases a <;> simp only [allV, Option.map_eq_some_iff, reduceCtorEq] at h
    obtain ⟨ys, hy, rfl⟩ := h
    simp [ih hy]

theorem mkAgg_R {cs : Row} {xs : Array Value} (hl : cs.length = xs.size) (hr : ∀ (j : Nat) (a : AVal), cs[j]? = some a → R β ok w n a (xs[j]?.getD undef)) : R β ok w n (mkAgg cs) (.agg xs) := by
  unfold mkAgg
  split
  · rename_i ys hy
    have hcs := allV_some hy
    subst hcs
    have : xs = ys.toArray := by
      apply Array.ext (by simpa using hl.symm)
      intro j h1 h2
      have := hr j (.v (ys[j]'(by simpa using h2))) (by simp at h2; simp [h2])
      generalize hz : xs[j]?.getD undef = z at this
      cases this
      simp [h1] at hz
      simpa using hz
    rw [this]; exact .v
  · exact .agg hl hr

/-- what a row in memory shows -/
theorem read_R {t : TypeId} {row : Row} {off : Nat} {a : AVal} (h : readAt P t row off = some a) (b o : Nat) (x : Nat → Value)
    (hc : ∀ j : Nat, j < row.length → w.cell? ⟨b, o + j, none⟩ = some (x j)) (hr : ∀ (j : Nat) (c : AVal), row[j]? = some c → R β ok w n c (x j)) :
    ∃ y, (loadVar t ⟨b, o + off, none⟩).run P w = .ok y w ∧ R β ok w n a y := by
  unfold readAt at h
  split at h
  · rename_i hagg
    have hA : (isAgg t).run P w = .ok true w := by
      unfold aggOf at hagg
      unfold isAgg underlying
      cases hu : P.underlying t with
      | none => simp [hu] at hagg
      | some d => cases d <;> simp_all
    split at h
    · rename_i k hk
      split at h
      · rename_i hle
        simp only [Option.some.injEq] at h
        subst h
        have hS : (sizeOf t).run P w = .ok k w := by
          unfold szOf at hk
          unfold sizeOf typeInfo
          cases hi : P.info? t with
          | none => simp [hi] at hk
          | some i => simp [hi] at hk; simp [hi, hk]
        have hL := run_loadCells (P := P) w ⟨b, o + off, none⟩ k (fun j => x (off + j)) (fun j hj => by
          rw [add_none]; have := hc (off + j) (by omega); rwa [← Nat.add_assoc] at this)
        refine ⟨.agg ((List.range k).map fun j => x (off + j)).toArray, ?_, ?_⟩
        · simp [loadVar, hA, hS, hL]
        · refine mkAgg_R (by simp; omega) fun j c hj => ?_
          have hjk : j < k := by
            have := (List.getElem?_eq_some_iff.1 hj).1; simp at this; omega
          have : ((row.drop off).take k)[j]? = row[off + j]? := by
            rw [List.getElem?_take_of_lt hjk, List.getElem?_drop]
          rw [this] at hj
          have := hr _ _ hj
          simpa [hjk] using this
      · cases h
    · cases h
  · rename_i hagg
    have hA : (isAgg t).run P w = .ok false w := by
      unfold aggOf at hagg
      unfold isAgg underlying
      cases hu : P.underlying t with
      | none => simp [hu] at hagg
      | some d => cases d <;> simp_all
    have hlt : off < row.length := (List.getElem?_eq_some_iff.1 h).1
    refine ⟨x off, ?_, hr _ _ h⟩
    simp [loadVar, hA, hc off hlt]
  · cases h

theorem part_R {t : TypeId} {row : Row} {off : Nat} {a : AVal} (h : readAt P t row off = some a) (xs : Array Value) (hl : xs.size = row.length)
    (hr : ∀ (j : Nat) (c : AVal), row[j]? = some c → R β ok w n c (xs[j]?.getD undef)) :
    ∃ y, (part t xs off).run P w = .ok y w ∧ R β ok w n a y := by
  unfold readAt at h
  split at h
  · rename_i hagg
    have hA : (isAgg t).run P w = .ok true w := by
      unfold aggOf at hagg
      unfold isAgg underlying
      cases hu : P.underlying t with
      | none => simp [hu] at hagg
      | some d => cases d <;> simp_all
    split at h
    · rename_i k hk
      split at h
      · rename_i hle
        simp only [Option.some.injEq] at h
        subst h
        have hS : (sizeOf t).run P w = .ok k w := by
          unfold szOf at hk
          unfold sizeOf typeInfo
          cases hi : P.info? t with
          | none => simp [hi] at hk
          | some i => simp [hi] at hk; simp [hi, hk]
        refine ⟨.agg (xs.extract off (off + k)), ?_, ?_⟩
        · simp [part, hA, hS]
        · refine mkAgg_R (by simp; omega) fun j c hj => ?_
          have hjk : j < k := by
            have := (List.getElem?_eq_some_iff.1 hj).1; simp at this; omega
          have : ((row.drop off).take k)[j]? = row[off + j]? := by
            rw [List.getElem?_take_of_lt hjk, List.getElem?_drop]
          rw [this] at hj
          have h2 := hr _ _ hj
          have : (xs.extract off (off + k))[j]? = xs[off + j]? := by
            rw [Array.getElem?_extract, if_pos (by omega)]
          rw [this]; exact h2
      · cases h
    · cases h
  · rename_i hagg
    have hA : (isAgg t).run P w = .ok false w := by
      unfold aggOf at hagg
      unfold isAgg underlying
      cases hu : P.underlying t with
      | none => simp [hu] at hagg
      | some d => cases d <;> simp_all
    have hlt : off < row.length := (List.getElem?_eq_some_iff.1 h).1
    have hx : xs[off]? = some (xs[off]'(by omega)) := Array.getElem?_eq_getElem (by omega)
    refine ⟨xs[off]'(by omega), ?_, ?_⟩
    · simp only [part, Sem.run_bind, hA, Result.andThen_ok, Bool.false_eq_true, if_false, hx]; rfl
    · have := hr _ _ h; rwa [hx] at this
  · cases h
end
end Go.AI
