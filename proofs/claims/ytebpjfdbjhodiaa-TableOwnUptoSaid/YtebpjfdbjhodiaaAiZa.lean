/- More codecs; slices.Delete. -/
import Derived.Test.YtebpjfdbjhodiaaAiZ
set_option linter.unusedSimpArgs false
set_option linter.unusedVariables false
namespace Go.AI
open Go.RowKit

/-- one cell -/
def cellDec {α : Type} (c : Cod α) : Row → Option α
  | [x] => c.dec x
  | _ => none
def rCell {α : Type} (c : Cod α) : RCod α where
  sz := 1
  enc e := [c.enc e]
  dec := cellDec c
  de e := c.de e
  len _ := rfl
  ok := by
    intro r e h β ok w n x hok hr
    unfold cellDec at h
    split at h
    · refine ⟨rfl, fun j a hj => ?_⟩
      cases j with
      | zero => simp at hj; subst hj; exact c.ok h hok (hr 0 _ rfl)
      | succ j => simp at hj
    · cases h
/-- a pointer to a variable -/
def fpDec {α : Type} (c : RCod α) : AVal → Option α
  | .fptr row 0 => c.dec row
  | _ => none
def cFp {α : Type} (c : RCod α) : Cod α where
  enc e := .fptr (c.enc e) 0
  dec := fpDec c
  de e := by simp [fpDec, c.de]
  ok := by
    intro x e h β ok w n v hok hr
    unfold fpDec at h
    split at h
    · rename_i row
      cases hr with
      | fptr x' hb hc hr =>
        obtain ⟨h1, h2⟩ := c.ok h (β := β) (ok := ok) (w := w) (n := 0) (x := x') hok hr
        exact .fptr x' (fun hne => hok _ _ (hb (by rintro rfl; exact hne (List.length_eq_zero_iff.1 (by rw [c.len]; exact h1.symm))))) (fun j hj => hc j (by rw [c.len] at hj; omega)) h2
    · cases h
/-- two codecs, one behind the other, of cells -/
def rTwo {α β : Type} (a : Cod α) (b : Cod β) : RCod (α × β) where
  sz := 2
  enc e := [a.enc e.1, b.enc e.2]
  dec r := match r with
    | [x, y] => match a.dec x, b.dec y with | some x, some y => some (x, y) | _, _ => none
    | _ => none
  de e := by simp [a.de, b.de]
  len _ := rfl
  ok := by
    intro r e h β ok w n x hok hr
    split at h
    · rename_i u v
      split at h
      · rename_i p q hp hq
        simp at h
        subst h
        refine ⟨rfl, fun j c hj => ?_⟩
        match j, hj with
        | 0, hj => simp at hj; subst hj; exact a.ok hp hok (hr 0 _ rfl)
        | 1, hj => simp at hj; subst hj; exact b.ok hq hok (hr 1 _ rfl)
        | j + 2, hj => simp at hj
      · cases h
    · cases h

section
variable {base : Nat} {w0 : World} {β : Nat → Nat} {fz : Nat → Prop} {H : Heap} {w : World} {P : Program}

/-- some rows forgotten -/
theorem HSim.trunc (hs : HSim base w0 β fz H w) {id sz : Nat} {L M : List Row} (hid : H[id]? = some (some (sz, L ++ M))) (h00 : sz ≠ 0) : HSim base w0 β fz (H.set id (some (sz, L))) w ∧ Ext H.length β fz w (H.set id (some (sz, L))).length β fz w := by
  have hlt : id < H.length := (List.getElem?_eq_some_iff.1 hid).1
  have live : ∀ k, Live (H.set id (some (sz, L))) k → Live H k := fun k hk => Live.set hk ⟨_, hid⟩
  refine ⟨⟨fun k s2 r2 hk => ?_, fun a b ha hb => hs.inj a b (live a ha) (live b hb), fun k hk => hs.own k (live k hk), hs.fzlt, hs.below, hs.base⟩, ⟨by simp, fun _ _ => rfl, fun _ h => h, fun _ _ => rfl, Shapes.refl _⟩⟩
  by_cases hki : k = id
  · subst hki
    rw [List.getElem?_set_self hlt] at hk
    simp only [Option.some.injEq, Prod.mk.injEq] at hk
    obtain ⟨rfl, rfl⟩ := hk
    obtain ⟨cs, e, g1, g2, g3, g4, g5⟩ := hs.cells0 hid h00
    rw [OSim, if_neg h00]
    refine ⟨cs, e, g1, fun r hr => g2 r (by simp [hr]), Nat.le_trans (Nat.mul_le_mul_right _ (by simp)) g3, g4, fun i r hi j c hj => ?_⟩
    rw [List.length_set]
    have hil := (List.getElem?_eq_some_iff.1 hi).1
    exact g5 i r (by rw [List.getElem?_append_left hil]; exact hi) j c hj
  · rw [List.getElem?_set_ne (by omega)] at hk
    rw [List.length_set]
    exact hs.objs' k s2 r2 hk

/-- slices.Delete, of one element -/
def deleteI (sz : Nat) : Row → Heap → Option (AVal × Heap)
  | [.osl id sz1 0 n kc, .v (.int .i64 i), .v (.int .i64 j)], H =>
    match obj H id with
    | some (sz3, rows) =>
      if sz1 = sz ∧ sz3 = sz ∧ 0 < sz ∧ rows.length = n ∧ kc = n ∧ 0 ≤ i ∧ i < n ∧ j = i + 1 ∧ n ≤ 1048576 then
        some (.osl id sz 0 (n - 1) (n - 1), H.set id (some (sz, rows.eraseIdx i.toNat)))
      else none
    | none => none
  | _, _ => none
def deleteF : Row → Option (List Nat)
  | [.osl id _ 0 _ _, .v (.int .i64 _), .v (.int .i64 _)] => some [id]
  | _ => none
theorem delete_loc {sz : Nat} : ∀ args ids, deleteF args = some ids → Loc (deleteI sz args) ids true := by
  intro args ids h
  unfold deleteF at h
  split at h
  · rename_i id sz1 n kc i j
    simp at h
    subst h
    refine ⟨fun f _ => match f id with
      | some (sz3, rows) =>
        if sz1 = sz ∧ sz3 = sz ∧ 0 < sz ∧ rows.length = n ∧ kc = n ∧ 0 ≤ i ∧ i < n ∧ j = i + 1 ∧ n ≤ 1048576 then
          some (.osl id sz 0 (n - 1) (n - 1), [(id, some (sz, rows.eraseIdx i.toNat))], [])
        else none
      | none => none, ⟨fun f g n hh => by simp only [hh id (by simp)], fun f n r hr => ?_, fun h => by cases h⟩, fun H => ?_⟩
    · refine ⟨fun u hu => ?_, fun h => by cases h⟩
      split at hr
      · split at hr
        · simp at hr; subst hr; simp at hu; subst hu; simp
        · cases hr
      · cases hr
    · simp only [deleteI]
      cases obj H id with
      | none => rfl
      | some p =>
        obtain ⟨sz3, rows⟩ := p
        simp only
        split <;> simp [updL]
  · cases h
theorem delete_of {f : FuncId} {fn : Func} {c : Code} {sz : Nat} {z : Row} (hf : P.funcs[f]? = some fn) (hb : fn.body = some c) (hn : 3 ≤ fn.ntmps)
    (hA : ∀ (H : Heap) (id i : Nat) (rows : List Row), obj H id = some (sz, rows) → id < H.length → i < rows.length → rows.length ≤ 1048576 →
      AWp P fn.ntmps H.length c (retA P fn fun x H2 => x = .osl id sz 0 (rows.length - 1) rows.length ∧ H2 = H.set id (some (sz, rows.take i ++ rows.drop (i + 1) ++ [z]))) (envOf 0 [.osl id sz 0 rows.length rows.length, .v (.int .i64 i), .v (.int .i64 ((i : Int) + 1))]) H) :
    InlOk P f (deleteI sz) := by
  intro args H x H' hr base w0 β fz w vals hs hargs
  refine .of hf hb ?_
  unfold deleteI at hr
  split at hr
  · rename_i id sz1 n kc i j
    split at hr
    · rename_i sz3 rows hid
      split at hr
      · rename_i hc
        obtain ⟨rfl, rfl, hz, rfl, rfl, hi0, hin, rfl, hn2⟩ := hc
        simp only [Option.some.injEq, Prod.mk.injEq] at hr
        obtain ⟨rfl, rfl⟩ := hr
        obtain ⟨k, rfl⟩ := Int.eq_ofNat_of_zero_le hi0
        simp only [Int.toNat_natCast]
        have hidl := (List.getElem?_eq_some_iff.1 (obj_some hid)).1
        have hk : k < rows.length := by omega
        refine body_calls hf hb (by simpa using hn) (hA H id k rows hid hidl hk hn2) ⟨fn.ntmps, H.length, β, fz, w⟩ rfl rfl hs (Ext.refl _ _ _ _) hargs _ ?_
        rintro x v β' fz' H2 w' ⟨rfl, rfl⟩ hs' he hR
        have hget : (H.set id (some (sz3, rows.take k ++ rows.drop (k + 1) ++ [z])))[id]? = some (some (sz3, rows.take k ++ rows.drop (k + 1) ++ [z])) := List.getElem?_set_self hidl
        obtain ⟨t1, t2⟩ := hs'.trunc hget (obj_live hid).2
        rw [List.set_set] at t1 t2
        have he2 : rows.eraseIdx k = rows.take k ++ rows.drop (k + 1) := List.eraseIdx_eq_take_drop_succ ..
        rw [he2]
        refine ⟨v, β', fz', rfl, t1, ?_, ?_⟩
        · simp only [List.length_set] at he t2 ⊢
          exact he
        · simp only [List.length_set] at hR ⊢
          cases hR with
          | osl h hl hk' ha => exact .osl h (Nat.le_refl _) (by omega) ha
      · cases hr
    · cases hr
  · cases hr
end
end Go.AI
namespace Go.AI
theorem hotR_cat (a b : List Row) : hotR (a ++ b) = (hotR a && hotR b) := by simp [hotR_all]
theorem tmodN {a b : Nat} : Int.tmod (a : Int) (b : Int) = ((a % b : Nat) : Int) := rfl
end Go.AI
