/- From what the statements say of arguments to what the interpreter knows of them. -/
import Derived.Test.YtdakclpneghkmaaGreatDoorL11
import Derived.ProofKit
import Derived.OpenShut
import Derived.Deep.Slices
import Derived.Test.YtdakclpneghkmaaGreatDoorL12
namespace Go.AI
set_option linter.unusedSimpArgs false
set_option linter.unusedVariables false
open Go.RowKit Go.ChangeShapes Go.WideShapes Go.ChangeAt Go.Deep

theorem law_calls {P : Program} {f : FuncId} {m : Row → Option AVal} {args : Row} {vals : Array Value} {W : World} (hp : PureOk P f m) (hm : m args = some (.v (.bool true))) (hargs : ArgsR β0 (ok0 W) W 0 args vals) :
    Calls P f vals W fun e W' => e = .returned (.bool true) ∧ RowKit.Below W.heap.size W W' := by
  refine (hp args _ hm W vals hargs).mono ?_
  rintro e w' ⟨v, rfl, hb, hR⟩
  rw [hR.v_inv]
  exact ⟨rfl, hb.kit⟩

theorem ArgsR.nil {W : World} : ArgsR β0 (ok0 W) W 0 [] #[] := ⟨rfl, fun j a h => by simp at h⟩
theorem ArgsR.of {W : World} {args : Row} {vals : List Value} (h : vals.length = args.length) (k : ∀ (j : Nat) (a : AVal), args[j]? = some a → R β0 (ok0 W) W 0 a (vals[j]?.getD undef)) : ArgsR β0 (ok0 W) W 0 args vals.toArray :=
  ⟨by simpa using h, fun j a ha => by simpa using k j a ha⟩

section
variable {H : Type} {enc : TypeId × Value → H} {P : Program} {W : World} {base : Nat} {spare : Nat → Bool} {held : Bool}

/-- a row of a type, read -/
def RdRow {α : Type} (P : Program) (t : TypeId) (c : RCod α) (good : α → Prop) : Prop :=
  ∀ {H : Type} {enc : TypeId × Value → H} {W : World} {base : Nat} {spare : Nat → Bool} {held : Bool} {fuel : Nat} {cs : List Value} {x : DataW H × List MemPlace},
    DataW.trod enc P W base spare held fuel t cs = some x → cs.length = c.sz ∧ (∀ v ∈ cs, v.oneCell' = true) ∧ ∃ e : α, good e ∧ ∀ (j : Nat) (a : AVal), (c.enc e)[j]? = some a → R β0 (ok0 W) W 0 a (cs[j]?.getD undef)

theorem rd_int {t : TypeId} {k : IntKind} {v : Value} {d : DataW H} {p : List MemPlace} (ht : P.underlying t = some (.int k)) (hv : Value.okWide P W .any base t v) (h : DataW.Trod enc P W 0 spare held t v d p) :
    ∃ n : Int, (Lit.int k n).wf = true ∧ v = .int k n := by
  obtain ⟨n, rfl, _, _, hw⟩ := open_int ht hv h
  exact ⟨n, hw, rfl⟩

theorem rd_bool {t : TypeId} {v : Value} {d : DataW H} {p : List MemPlace} (ht : P.underlying t = some .bool) (hv : Value.okWide P W .any base t v) (h : DataW.Trod enc P W 0 spare held t v d p) : ∃ b : Bool, v = .bool b := by
  obtain ⟨b, rfl, _, _⟩ := open_bool ht hv h
  exact ⟨b, rfl⟩

theorem rd_agg {α : Type} {t : TypeId} {fs : Array Field} {c : RCod α} {good : α → Prop} {v : Value} {d : DataW H} {p : List MemPlace} (ht : P.underlying t = some (.struct fs)) (hc : RdRow P t c good) (hv : Value.okWide P W .any base t v) (h : DataW.Trod enc P W 0 spare held t v d p) :
    ∃ e, good e ∧ R β0 (ok0 W) W 0 ((cAgg c).enc e) v := by
  obtain ⟨cs, rfl, _⟩ := okWide_struct ht hv
  obtain ⟨fuel, hf⟩ := h
  obtain ⟨h1, h2, e, he, hR⟩ := hc hf
  refine ⟨e, he, mkAgg_R (by rw [c.len]; simpa [Value.cells] using h1.symm) fun j a ha => ?_⟩
  simpa [Value.cells] using hR j a ha

theorem rd_slv {α : Type} {t e : TypeId} {c : RCod α} {good : α → Prop} {v : Value} (ht : P.underlying t = some (.slice e)) (hsz : P.cellsOf e = c.sz) (h0 : 0 < c.sz) (hc : RdRow P e c good) (hv : ∃ a l k, v = .slice a l k) {bs : Nat} {fuel : Nat} {dx : DataW H × List MemPlace}
    (hf : DataW.trod enc P W bs spare held fuel t v.cells.toList = some dx) : ∃ l : List α, l.length ≤ maxLen ∧ (∀ x ∈ l, good x) ∧ R β0 (ok0 W) W 0 ((cSl c).enc l) v := by
  obtain ⟨a0, len0, cap0, rfl⟩ := hv
  rcases open_slice ht hf with ⟨hcs, _⟩ | ⟨a, len, cap, m, n, D, Pl, hcs, _, hl, hm, hmm, _, hi⟩
  · simp [Value.cells] at hcs
    obtain ⟨rfl, rfl, rfl⟩ := hcs
    exact ⟨[], by simp, by simp, .fsl0⟩
  · simp [Value.cells] at hcs
    obtain ⟨rfl, rfl, rfl⟩ := hcs
    rw [hsz] at hi
    have hml : len0 ≤ m := by rw [hmm]; split <;> omega
    -- the elements, one by one
    have hex : ∀ i, i < len0 → ∃ x : α, good x ∧ ∃ cs : List Value, cs.length = c.sz ∧ (∀ v ∈ cs, v.oneCell' = true) ∧ (∀ j, j < c.sz → W.cell? (a.add (i * c.sz + j)) = cs[j]?) ∧ ∀ (j : Nat) (b : AVal), (c.enc x)[j]? = some b → R β0 (ok0 W) W 0 b (cs[j]?.getD undef) := by
      intro i hil
      obtain ⟨cs', hc1, hc2⟩ := hi i (by omega)
      obtain ⟨g1, g2, x, hx, hR⟩ := hc hc2
      obtain ⟨_, hcl, hat⟩ := World.cells?_some hc1
      refine ⟨x, hx, cs', g1, g2, fun j hj => ?_, hR⟩
      have := hat j (by omega)
      rwa [Go.Deep.add_add] at this
    have hlist : ∃ l : List α, l.length = len0 ∧ ∀ i x, l[i]? = some x → good x ∧ ∃ cs : List Value, cs.length = c.sz ∧ (∀ v ∈ cs, v.oneCell' = true) ∧ (∀ j, j < c.sz → W.cell? (a.add (i * c.sz + j)) = cs[j]?) ∧ ∀ (j : Nat) (b : AVal), (c.enc x)[j]? = some b → R β0 (ok0 W) W 0 b (cs[j]?.getD undef) := by
      have : ∀ k, k ≤ len0 → ∃ l : List α, l.length = k ∧ ∀ i x, l[i]? = some x → good x ∧ ∃ cs : List Value, cs.length = c.sz ∧ (∀ v ∈ cs, v.oneCell' = true) ∧ (∀ j, j < c.sz → W.cell? (a.add (i * c.sz + j)) = cs[j]?) ∧ ∀ (j : Nat) (b : AVal), (c.enc x)[j]? = some b → R β0 (ok0 W) W 0 b (cs[j]?.getD undef) := by
        intro k
        induction k with
        | zero => intro _; exact ⟨[], rfl, fun i x h => by simp at h⟩
        | succ k ih =>
          intro hk
          obtain ⟨l, hl1, hl2⟩ := ih (by omega)
          obtain ⟨x, hx, cs, q⟩ := hex k (by omega)
          refine ⟨l ++ [x], by simp [hl1], fun i y hy => ?_⟩
          rw [List.getElem?_append] at hy
          split at hy
          · exact hl2 i y hy
          · rename_i hge
            have h00 : i - l.length = 0 := by
              by_cases h00 : i - l.length = 0
              · exact h00
              · simp [h00] at hy
            rw [h00] at hy
            simp at hy
            subst hy
            have : i = k := by omega
            subst this
            exact ⟨hx, cs, q⟩
      exact this len0 (Nat.le_refl _)
    obtain ⟨l, hl1, hl2⟩ := hlist
    refine ⟨l, by omega, fun x hx => ?_, ?_⟩
    · obtain ⟨i, hi⟩ := List.getElem?_of_mem hx
      exact (hl2 i x hi).1
    · by_cases hl0 : len0 = 0
      · have : l = [] := List.length_eq_zero_iff.1 (by omega)
        subst this
        subst hl0
        exact .fsl0
      · obtain ⟨b, off, spot⟩ := a
        have h1 := hl2 0 l[0] (by simp)
        obtain ⟨_, cs0, k1, k2, k3, k4⟩ := h1
        have hcell := k3 0 h0
        have hc0 : cs0[0]? = some (cs0[0]'(by omega)) := List.getElem?_eq_getElem (by omega)
        rw [hc0] at hcell
        have hspot : spot = none := by simpa [Addr.add] using World.cell?_spot hcell
        subst hspot
        have hblk : b < W.heap.size := by
          rw [Nat.zero_mul, Nat.zero_add, add_none] at hcell
          by_cases hb : b < W.heap.size
          · exact hb
          · simp [World.cell?, Array.getElem?_eq_none (Nat.le_of_not_lt hb)] at hcell
        have := R.fsl (β := β0) (ok := ok0 W) (w := W) (n := 0) (o := false) (sz := c.sz) (rows := l.map c.enc) (b := b) (off := off) (cap := cap0)
          (fun i j => (W.cell? ⟨b, off + i * c.sz + j, none⟩).getD undef) (by simp; omega)
          (fun r hr => by
            simp only [List.mem_map] at hr
            obtain ⟨y, _, rfl⟩ := hr
            exact c.len y) (fun _ => ⟨hblk, fun h => by cases h⟩)
          (fun i j hi hj => by
            have hil : i < l.length := by simpa using hi
            obtain ⟨_, cs, q1, q2, q3, q4⟩ := hl2 i l[i] (List.getElem?_eq_getElem hil)
            have := q3 j hj
            rw [add_none, ← Nat.add_assoc] at this
            have hcj : cs[j]? = some (cs[j]'(by omega)) := List.getElem?_eq_getElem (by omega)
            rw [hcj] at this
            rw [this]
            exact ⟨rfl, q2 _ (List.getElem_mem _)⟩)
          (fun i r hi j b' hj => by
            simp only [List.getElem?_map, Option.map_eq_some_iff] at hi
            obtain ⟨y, hy, rfl⟩ := hi
            obtain ⟨_, cs, q1, q2, q3, q4⟩ := hl2 i y hy
            have hjl : j < c.sz := by
              have := (List.getElem?_eq_some_iff.1 hj).1
              rwa [c.len] at this
            have e1 := q3 j hjl
            rw [add_none, ← Nat.add_assoc] at e1
            rw [e1]
            exact q4 j b' hj)
        simpa [cSl, hl1] using this
theorem rd_sl {α : Type} {t e : TypeId} {c : RCod α} {good : α → Prop} {v : Value} {d : DataW H} {p : List MemPlace} (ht : P.underlying t = some (.slice e)) (hsz : P.cellsOf e = c.sz) (h0 : 0 < c.sz) (hc : RdRow P e c good) (hv : Value.okWide P W .any base t v)
    (h : DataW.Trod enc P W 0 spare held t v d p) : ∃ l : List α, l.length ≤ maxLen ∧ (∀ x ∈ l, good x) ∧ R β0 (ok0 W) W 0 ((cSl c).enc l) v := by
  obtain ⟨fuel, hf⟩ := h
  exact rd_slv ht hsz h0 hc (okWide_slice ht hv) hf
end
end Go.AI
/- slices.Replace, of one element by some; slices.overlaps the other way round. -/
set_option linter.unusedSimpArgs false
set_option linter.unusedVariables false
namespace Go.AI
open Go.RowKit
section
variable {base : Nat} {w0 : World} {β : Nat → Nat} {fz : Nat → Prop} {H : Heap} {w : World} {P : Program}

/-- slices.overlaps of two objects of one's own: no -/
def ovlJ : Row → Heap → Option (AVal × Heap)
  | [.xsl a sza _ la _, .osl b szb _ lb _], H => if a ≠ b ∧ 0 < la ∧ 0 < lb ∧ 0 < sza ∧ 0 < szb ∧ (obj H a).isSome = true ∧ (obj H b).isSome = true then some (.v (.bool false), H) else none
  | _, _ => none

theorem ovlJ_inl {f : FuncId} {fn : Func} {t e r : TypeId} {sz : Nat} (hf : P.funcs[f]? = some fn) (hname : (fn.name == "runtime.NumGoroutine") = false) (hb : fn.body.isNone = true) (hn : Extern.findNext fn = none)
    (he : Extern.find fn = some (Extern.SlicesOverlaps.overlaps #[t, t] #[r])) (ht : P.underlying t = some (.slice e)) (hsz : szOf P e = some sz) : InlOk P f ovlJ := by
  intro args H x H' hr base w0 β fz w vals hs hargs fn' hf'
  rw [hf] at hf'
  simp only [Option.some.injEq] at hf'
  subst hf'
  refine ⟨(fun h => by rw [hb] at h; cases h), fun _ => ?_⟩
  unfold ovlJ at hr
  split at hr
  · rename_i a sza sa la ca b szb sb lb kb
    split at hr
    · rename_i hc
      obtain ⟨hab, hla, hlb, hza, hzb, hoa, hob⟩ := hc
      simp only [Option.some.injEq, Prod.mk.injEq] at hr
      obtain ⟨rfl, rfl⟩ := hr
      obtain ⟨⟨sz1, rows1⟩, hoa⟩ := Option.isSome_iff_exists.1 hoa
      obtain ⟨⟨sz2, rows2⟩, hob⟩ := Option.isSome_iff_exists.1 hob
      obtain ⟨cs1, e1, a1, a2, a3, a4, a5⟩ := hs.cells hoa
      obtain ⟨cs2, e2, b1, b2, b3, b4, b5⟩ := hs.cells hob
      have hne : β a ≠ β b := fun h => hab (hs.inj a b ⟨_, obj_some hoa⟩ ⟨_, obj_some hob⟩ h)
      obtain ⟨hvl, hva⟩ := hargs
      have r0 := hva 0 _ rfl
      have r1 := hva 1 _ rfl
      have hvals : vals = #[vals[0]?.getD undef, vals[1]?.getD undef] := by
        apply Array.ext
        · simpa using hvl
        · intro j h1 h2
          simp only [List.length_cons, List.length_nil] at hvl
          have : j = 0 ∨ j = 1 := by omega
          rcases this with rfl | rfl <;> simp [h1]
      generalize vals[0]?.getD undef = v0 at *
      generalize vals[1]?.getD undef = v1 at *
      cases r0 with
      | @xsl _ _ _ _ _ _ ad0 h0 hl0 ha0 =>
        cases r1 with
        | @osl _ _ _ _ _ _ ad1 cap1 h1 hl1 hk1 ha1 =>
          rcases ha0 with ha0 | ⟨rfl, c0, t0, f0, i0, j0⟩
          · omega
          rcases ha1 with ha1 | ⟨rfl, c1, t1, f1, i1, j1⟩
          · omega
          rw [a1] at i0
          rw [b1] at i1
          simp only [Option.some.injEq, Obj.cells.injEq] at i0 i1
          obtain ⟨rfl, rfl, rfl⟩ := i0
          obtain ⟨rfl, rfl, rfl⟩ := i1
          refine ⟨.bool false, w, ?_, .bool false, β, fz, rfl, hs, Ext.refl _ _ _ _, .v⟩
          rw [run_callFunc_extern hf hname hb hn he, hvals]
          have hsz2 : cs2.size ≠ 0 := by
            have : 0 < (sb + cap1) * szb := Nat.mul_pos (by omega) hzb
            omega
          rw [Go.Lib.run_overlaps_apart w t r e ht sz (fun w => run_sz hsz w) ⟨β a, sa * sza, none⟩ ⟨β b, sb * szb, none⟩ la ca lb cap1 hne e1 e2 cs1.size cs2.size
            (by simp [World.shape?, a1]) (by simp [World.shape?, b1]) hsz2 (by simp [World.frozen?, a1]) (by simp [World.frozen?, a1])]
          rfl
    · cases hr
  · cases hr

/-- rows more of an object, nothing known of them -/
theorem HSim.addRows {id sz : Nat} {cs : Array Value} {e : TypeId} {f : Nat × Nat} (hb : w.heap[β id]? = some (.cells cs e f)) : ∀ (m : Nat) {H : Heap} {rows : List Row}, HSim base w0 β fz H w → H[id]? = some (some (sz, rows)) → (rows.length + m) * sz ≤ cs.size →
    HSim base w0 β fz (H.set id (some (sz, rows ++ List.replicate m (List.replicate sz .junk)))) w
  | 0, H, rows, hs, hid, hle => by
    have : H.set id (some (sz, rows ++ List.replicate 0 (List.replicate sz .junk))) = H := by
      simp only [List.replicate_zero, List.append_nil]
      apply List.ext_getElem?
      intro k
      by_cases hk : k = id
      · subst hk; rw [List.getElem?_set_self (List.getElem?_eq_some_iff.1 hid).1, hid]
      · rw [List.getElem?_set_ne (by omega)]
    rw [this]; exact hs
  | m + 1, H, rows, hs, hid, hle => by
    have hlt : id < H.length := (List.getElem?_eq_some_iff.1 hid).1
    have h1 := hs.addRow hid hb (Nat.le_trans (Nat.mul_le_mul_right _ (by omega)) hle)
    have h2 := HSim.addRows hb m (rows := rows ++ [List.replicate sz .junk]) h1 (List.getElem?_set_self hlt) (by simp only [List.length_append, List.length_cons, List.length_nil]; rw [show rows.length + (0 + 1) + m = rows.length + (m + 1) by omega]; exact hle)
    rw [List.set_set, List.append_assoc] at h2
    exact h2

/-- slices.Replace, of one element by some -/
def replaceI (sz : Nat) : Row → Heap → Option (AVal × Heap)
  | [.osl id sz1 0 n kc, .v (.int .i64 i), .v (.int .i64 j), .v (.slice none 0 0)], H =>
    match obj H id with
    | some (sz3, rows) =>
      if sz1 = sz ∧ sz3 = sz ∧ 0 < sz ∧ rows.length = n ∧ kc = n ∧ 0 ≤ i ∧ i < n ∧ j = i + 1 ∧ n ≤ 1048576 then
        some (.osl id sz 0 (n - 1) (n - 1), H.set id (some (sz, rows.eraseIdx i.toNat)))
      else none
    | none => none
  | [.osl id sz1 0 n kc, .v (.int .i64 i), .v (.int .i64 j), .osl vid sz2 0 m kv], H =>
    match obj H id, obj H vid with
    | some (sz3, rows), some (sz4, vr) =>
      if sz1 = sz ∧ sz2 = sz ∧ sz3 = sz ∧ sz4 = sz ∧ 0 < sz ∧ id ≠ vid ∧ rows.length = n ∧ kc = n ∧ vr.length = m ∧ kv = m ∧ 0 < m ∧ 0 ≤ i ∧ i < n ∧ j = i + 1 ∧ n ≤ 1048576 ∧ m ≤ 1048576 then
        some (.osl H.length sz 0 (n - 1 + m) (n - 1 + m), (H.set id none) ++ [some (sz, rows.take i.toNat ++ vr ++ rows.drop (i.toNat + 1))])
      else none
    | _, _ => none
  | _, _ => none

theorem replace_of {f : FuncId} {fn : Func} {c : Code} {sz : Nat} {z : Row} (hf : P.funcs[f]? = some fn) (hb : fn.body = some c) (hn : 4 ≤ fn.ntmps)
    (hN0 : ∀ (H : Heap) (id i : Nat) (rows : List Row), obj H id = some (sz, rows) → id < H.length → rows.length = i + 1 → rows.length ≤ 1048576 →
      AWp P fn.ntmps H.length c (retA P fn fun x H2 => x = .osl id sz 0 i rows.length ∧ H2 = H.set id (some (sz, rows.take i ++ [z]))) (envOf 0 [.osl id sz 0 rows.length rows.length, .v (.int .i64 i), .v (.int .i64 ((i : Int) + 1)), .v (.slice none 0 0)]) H)
    (hN1 : ∀ (H : Heap) (id i cap : Nat) (rows : List Row), obj H id = some (sz, rows) → id < H.length → i + 1 < rows.length → rows.length ≤ 1048576 → rows.length ≤ cap →
      AWp P fn.ntmps H.length c (retA P fn fun x H2 => x = .xsl id sz 0 (rows.length - 1) cap ∧ H2 = H.set id (some (sz, rows.take i ++ rows.drop (i + 1) ++ [z]))) (envOf 0 [.xsl id sz 0 rows.length cap, .v (.int .i64 i), .v (.int .i64 ((i : Int) + 1)), .v (.slice none 0 0)]) H)
    (hE1 : ∀ (H : Heap) (id vid i : Nat) (rows vr : List Row), obj H id = some (sz, rows) → obj H vid = some (sz, vr) → id ≠ vid → id < H.length → vid < H.length → rows.length = i + 1 → rows.length ≤ 1048576 → vr.length = 1 →
      AWp P fn.ntmps H.length c (retA P fn fun x H2 => x = .osl id sz 0 rows.length rows.length ∧ H2 = H.set id (some (sz, rows.take i ++ vr))) (envOf 0 [.osl id sz 0 rows.length rows.length, .v (.int .i64 i), .v (.int .i64 ((i : Int) + 1)), .osl vid sz 0 1 1]) H)
    (hE2 : ∀ (H : Heap) (id vid i : Nat) (rows vr : List Row), obj H id = some (sz, rows) → obj H vid = some (sz, vr) → id ≠ vid → id < H.length → vid < H.length → rows.length = i → i ≤ 1048576 → 2 ≤ vr.length → vr.length ≤ 1048576 →
      AWp P fn.ntmps H.length c (retA P fn fun x H2 => x = .osl H.length sz 0 (i + vr.length) (i + vr.length) ∧ H2 = (H.set id none) ++ [some (sz, rows ++ vr)]) (envOf 0 [.osl id sz 0 (i + 1) (i + 1), .v (.int .i64 i), .v (.int .i64 ((i : Int) + 1)), .osl vid sz 0 vr.length vr.length]) H)
    (hG : ∀ (H : Heap) (id vid i cap : Nat) (rows vr : List Row), obj H id = some (sz, rows) → obj H vid = some (sz, vr) → id ≠ vid → id < H.length → vid < H.length → i + 1 < rows.length → rows.length ≤ 1048576 → 2 ≤ vr.length → vr.length ≤ 1048576 → rows.length ≤ cap → cap < rows.length - 1 + vr.length →
      AWp P fn.ntmps H.length c (retA P fn fun x H2 => x = .osl H.length sz 0 (rows.length - 1 + vr.length) (rows.length - 1 + vr.length) ∧ H2 = H ++ [some (sz, rows.take i ++ vr ++ rows.drop (i + 1))]) (envOf 0 [.xsl id sz 0 rows.length cap, .v (.int .i64 i), .v (.int .i64 ((i : Int) + 1)), .osl vid sz 0 vr.length vr.length]) H)
    (hI : ∀ (H : Heap) (id vid i cap : Nat) (rows vr jr : List Row), obj H id = some (sz, rows ++ jr) → obj H vid = some (sz, vr) → id ≠ vid → id < H.length → vid < H.length → i + 1 < rows.length → rows.length ≤ 1048576 → jr.length + 1 = vr.length → vr.length ≤ 1048576 → rows.length - 1 + vr.length ≤ cap →
      AWp P fn.ntmps H.length c (retA P fn fun x H2 => x = .xsl id sz 0 (rows.length - 1 + vr.length) cap ∧ H2 = H.set id (some (sz, rows.take i ++ vr ++ rows.drop (i + 1)))) (envOf 0 [.xsl id sz 0 rows.length cap, .v (.int .i64 i), .v (.int .i64 ((i : Int) + 1)), .osl vid sz 0 vr.length vr.length]) H) :
    InlOk P f (replaceI sz) := by
  intro args H x H' hr base w0 β fz w vals hs hargs
  refine .of hf hb ?_
  unfold replaceI at hr
  split at hr
  · rename_i id sz1 n kc i j
    split at hr
    · rename_i sz3 rows hid
      split at hr
      · rename_i hc
        obtain ⟨rfl, rfl, hz, rfl, rfl, hi0, hin, rfl, hn2⟩ := hc
        simp only [Option.some.injEq, Prod.mk.injEq] at hr
        obtain ⟨rfl, rfl⟩ := hr
        obtain ⟨k, rfl⟩ := Int.eq_ofNat_of_zero_le hi0
        simp only [Int.toNat_natCast]
        have hidl := (List.getElem?_eq_some_iff.1 (obj_some hid)).1
        have hkl : k < rows.length := by omega
        by_cases hk : k + 1 = rows.length
        · have hA := hN0 H id k rows hid hidl hk.symm hn2
          refine body_calls hf hb (by simpa using hn) hA ⟨fn.ntmps, H.length, β, fz, w⟩ rfl rfl hs (Ext.refl _ _ _ _) hargs _ ?_
          rintro x v β' fz' H2 w' ⟨rfl, rfl⟩ hs' he hR
          have hget : (H.set id (some (sz3, rows.take k ++ [z])))[id]? = some (some (sz3, rows.take k ++ [z])) := List.getElem?_set_self hidl
          obtain ⟨p1, p2⟩ := hs'.trunc hget (obj_live hid).2
          rw [List.set_set] at p1 p2
          have he2 : rows.eraseIdx k = rows.take k := by
            rw [List.eraseIdx_eq_take_drop_succ, List.drop_eq_nil_of_le (by omega), List.append_nil]
          refine ⟨v, β', fz', rfl, by rw [he2]; exact p1, by rw [he2]; exact he.trans p2, ?_⟩
          have hR2 := hR.ext p2
          rw [he2]
          have e1 : rows.length - 1 = k := by omega
          rw [e1]
          cases hR2 with
          | osl h hl hk ha => exact .osl h (by omega) (by omega) ha
        · have r0 := hargs.2 0 _ rfl
          generalize hv0 : vals[0]?.getD undef = v0 at r0
          cases r0 with
          | @osl _ _ _ _ _ _ ad cap h0' hl0 hk0 ha0 =>
            have hargs' : ArgsR β (okOf base fz) w H.length [.xsl id sz3 0 rows.length cap, .v (.int .i64 k), .v (.int .i64 ((k : Int) + 1)), .v (.slice none 0 0)] vals := by
              refine ⟨hargs.1, fun j a ha => ?_⟩
              cases j with
              | zero => simp at ha; subst ha; rw [hv0]; exact .xsl h0' (by omega) ha0
              | succ j => exact hargs.2 (j + 1) a (by simpa using ha)
            have hA := hN1 H id k cap rows hid hidl (by omega) hn2 (by omega)
            refine body_calls hf hb (by simpa using hn) hA ⟨fn.ntmps, H.length, β, fz, w⟩ rfl rfl hs (Ext.refl _ _ _ _) hargs' _ ?_
            rintro x v β' fz' H2 w' ⟨rfl, rfl⟩ hs' he hR
            have hget : (H.set id (some (sz3, rows.take k ++ rows.drop (k + 1) ++ [z])))[id]? = some (some (sz3, (rows.take k ++ rows.drop (k + 1)) ++ [z])) := List.getElem?_set_self hidl
            obtain ⟨p1, p2⟩ := hs'.trunc hget (obj_live hid).2
            rw [List.set_set] at p1 p2
            have he2 : rows.eraseIdx k = rows.take k ++ rows.drop (k + 1) := List.eraseIdx_eq_take_drop_succ ..
            refine ⟨v, β', fz', rfl, by rw [he2]; exact p1, by rw [he2]; exact he.trans p2, ?_⟩
            have hR2 := hR.ext p2
            rw [he2]
            cases hR2 with
            | xsl h hl ha => exact .osl h (by omega) (by omega) ha
      · cases hr
    · cases hr
  · rename_i id sz1 n kc i j vid sz2 m kv
    split at hr
    · rename_i sz3 rows sz4 vr hid hvid
      split at hr
      · rename_i hc
        obtain ⟨rfl, rfl, rfl, rfl, hz, hne, rfl, rfl, rfl, rfl, hm0, hi0, hin, rfl, hn2, hm2⟩ := hc
        simp only [Option.some.injEq, Prod.mk.injEq] at hr
        obtain ⟨rfl, rfl⟩ := hr
        obtain ⟨k, rfl⟩ := Int.eq_ofNat_of_zero_le hi0
        simp only [Int.toNat_natCast]
        have hidl := (List.getElem?_eq_some_iff.1 (obj_some hid)).1
        have hvidl := (List.getElem?_eq_some_iff.1 (obj_some hvid)).1
        have hkl : k < rows.length := by omega
        have h00 : sz4 ≠ 0 := (obj_live hid).2
        -- an object under a new name
        have fin : ∀ (rows' : List Row) (β' : Nat → Nat) (fz' : Nat → Prop) (w' : World) (v : Value) (L cap : Nat), L = rows'.length → 0 < L → HSim base w0 β' fz' (H.set id (some (sz4, rows'))) w' → Ext H.length β fz w (H.set id (some (sz4, rows'))).length β' fz' w' →
            (R β' (okOf base fz') w' (H.set id (some (sz4, rows'))).length (.osl id sz4 0 L cap) v ∧ L ≤ cap) →
            ∃ v' β'' fz'', Ending.returned v = .returned v' ∧ HSim base w0 β'' fz'' ((H.set id none) ++ [some (sz4, rows')]) w' ∧ Ext H.length β fz w ((H.set id none) ++ [some (sz4, rows')]).length β'' fz'' w' ∧ R β'' (okOf base fz'') w' ((H.set id none) ++ [some (sz4, rows')]).length (.osl H.length sz4 0 L L) v' := by
          rintro rows' β' fz' w' v L cap hL hL0 hs' he ⟨hR, hLc⟩
          have hget : (H.set id (some (sz4, rows')))[id]? = some (some (sz4, rows')) := List.getElem?_set_self hidl
          obtain ⟨p1, p2⟩ := hs'.rename hget
          rw [List.set_set] at p1 p2
          have hN : newObj' (H.set id none) sz4 rows' = H.set id none ++ [some (sz4, rows')] := by simp [newObj', h00]
          rw [hN] at p1 p2
          simp only [List.length_set] at p1 p2 he hR
          cases hR with
          | @osl _ _ _ _ _ _ ad' cap2 hh hl' hk' ha' =>
            rcases ha' with ha' | ⟨rfl, cs', e', ff', hcs', hle'⟩
            · omega
            have hnew := newSl β' (H.set id none) (β' id) sz4 L cap2 (okOf base fz') w' rows' hcs' (by simpa using hle') (kc := L) (Nat.le_refl _) (by omega)
            simp only [List.length_set] at hnew
            refine ⟨_, _, fz', rfl, p1, he.trans p2, ?_⟩
            simpa [newObj'] using hnew
        by_cases hk : k + 1 = rows.length
        · have hdrop : rows.drop (k + 1) = [] := List.drop_eq_nil_of_le (by omega)
          rw [hdrop, List.append_nil]
          have htl : (rows.take k).length = k := by simp; omega
          by_cases hm1 : vr.length = 1
          · have hA := hE1 H id vid k rows vr hid hvid hne hidl hvidl hk.symm hn2 hm1
            rw [hm1] at hargs
            refine body_calls hf hb (by simpa using hn) hA ⟨fn.ntmps, H.length, β, fz, w⟩ rfl rfl hs (Ext.refl _ _ _ _) hargs _ ?_
            rintro x v β' fz' H2 w' ⟨rfl, rfl⟩ hs' he hR
            have e1 : rows.length - 1 + vr.length = rows.length := by omega
            rw [e1]
            exact fin _ β' fz' w' v _ _ (by rw [List.length_append, htl]; omega) (by omega) hs' he ⟨hR, Nat.le_refl _⟩
          · have hgt : H[id]? = some (some (sz4, rows.take k ++ rows.drop k)) := by rw [List.take_append_drop]; exact obj_some hid
            obtain ⟨t1, t2⟩ := hs.trunc hgt (obj_live hid).2
            have hlen2 : (H.set id (some (sz4, rows.take k))).length = H.length := by simp
            have ho1 : obj (H.set id (some (sz4, rows.take k))) id = some (sz4, rows.take k) := by simp [obj, hidl, h00]
            have ho2 : obj (H.set id (some (sz4, rows.take k))) vid = some (sz4, vr) := by
              unfold obj at hvid ⊢
              rw [List.getElem?_set_ne hne]; exact hvid
            have hA := hE2 (H.set id (some (sz4, rows.take k))) id vid k (rows.take k) vr ho1 ho2 hne (by rw [hlen2]; exact hidl) (by rw [hlen2]; exact hvidl) htl (by omega) (by omega) hm2
            rw [hlen2] at hA
            have hargs2 : ArgsR β (okOf base fz) w (H.set id (some (sz4, rows.take k))).length [.osl id sz4 0 (k + 1) (k + 1), .v (.int .i64 k), .v (.int .i64 ((k : Int) + 1)), .osl vid sz4 0 vr.length vr.length] vals := by
              rw [hlen2, hk]; exact hargs
            refine body_calls hf hb (by simpa using hn) hA ⟨fn.ntmps, H.length, β, fz, w⟩ rfl rfl t1 t2 hargs2 _ ?_
            rintro x v β' fz' H2 w' ⟨rfl, rfl⟩ hs' he hR
            have e1 : rows.length - 1 + vr.length = k + vr.length := by omega
            rw [e1]
            rw [List.set_set] at hs' he hR
            exact ⟨v, β', fz', rfl, hs', he, hR⟩
        · have r0 := hargs.2 0 _ rfl
          generalize hv0 : vals[0]?.getD undef = v0 at r0
          have htl : (rows.take k ++ vr ++ rows.drop (k + 1)).length = rows.length - 1 + vr.length := by simp; omega
          cases r0 with
          | @osl _ _ _ _ _ _ ad cap h0' hl0 hk0 ha0 =>
            have hargs' : ArgsR β (okOf base fz) w H.length [.xsl id sz4 0 rows.length cap, .v (.int .i64 k), .v (.int .i64 ((k : Int) + 1)), .osl vid sz4 0 vr.length vr.length] vals := by
              refine ⟨hargs.1, fun j a ha => ?_⟩
              cases j with
              | zero => simp at ha; subst ha; rw [hv0]; exact .xsl h0' (by omega) ha0
              | succ j => exact hargs.2 (j + 1) a (by simpa using ha)
            rcases ha0 with ha0 | ⟨rfl, cs, e, ff, hcs, hle⟩
            · omega
            by_cases hcap : cap < rows.length - 1 + vr.length
            · have hA := hG H id vid k cap rows vr hid hvid hne hidl hvidl (by omega) hn2 (by omega) hm2 (by omega) hcap
              refine body_calls hf hb (by simpa using hn) hA ⟨fn.ntmps, H.length, β, fz, w⟩ rfl rfl hs (Ext.refl _ _ _ _) hargs' _ ?_
              rintro x v β' fz' H2 w' ⟨rfl, rfl⟩ hs' he hR
              obtain ⟨q1, q2⟩ := hs'.kill id
              rw [List.set_append_left _ _ hidl] at q1 q2
              refine ⟨v, β', fz', rfl, q1, he.trans q2, ?_⟩
              simpa using hR
            · have hle2 : (rows.length + (vr.length - 1)) * sz4 ≤ cs.size := Nat.le_trans (Nat.mul_le_mul_right _ (by omega)) hle
              have hs2 := HSim.addRows hcs (vr.length - 1) hs (obj_some hid) hle2
              generalize hjr : List.replicate (vr.length - 1) (List.replicate sz4 AVal.junk) = jr at hs2
              have hjl : jr.length + 1 = vr.length := by rw [← hjr]; simp; omega
              have hlen2 : (H.set id (some (sz4, rows ++ jr))).length = H.length := by simp
              have ho1 : obj (H.set id (some (sz4, rows ++ jr))) id = some (sz4, rows ++ jr) := by simp [obj, hidl, h00]
              have ho2 : obj (H.set id (some (sz4, rows ++ jr))) vid = some (sz4, vr) := by
                unfold obj at hvid ⊢
                rw [List.getElem?_set_ne hne]; exact hvid
              have hA := hI (H.set id (some (sz4, rows ++ jr))) id vid k cap rows vr jr ho1 ho2 hne (by rw [hlen2]; exact hidl) (by rw [hlen2]; exact hvidl) (by omega) hn2 hjl hm2 (by omega)
              rw [hlen2] at hA
              refine body_calls hf hb (by simpa using hn) hA ⟨fn.ntmps, H.length, β, fz, w⟩ rfl rfl hs2 (by rw [hlen2]; exact Ext.refl _ _ _ _) (by rw [hlen2]; exact hargs') _ ?_
              rintro x v β' fz' H2 w' ⟨rfl, rfl⟩ hs' he hR
              rw [List.set_set] at hs' he hR
              refine fin _ β' fz' w' v _ cap htl.symm (by omega) hs' he ⟨?_, by omega⟩
              cases hR with
              | xsl h hl ha => exact .osl h (by omega) (by omega) ha
      · cases hr
    · cases hr
  · cases hr
/-- a loop from 0 to n, of which the invariant says that it is not long -/
theorem loop_forB {C : Orc} {nt n0 : Nat} {ρ : Env} {H : Heap} {K : Nat} {c : Code} {Q : Post} {α : Type} (n : Nat) (st : Nat → α → Env × Heap) (inv : Nat → α → Prop) (a0 : α) (hb : ∀ k a, k < n → inv k a → k < 4294967296) (hi : inv 0 a0) (h0 : Weaker n0 (st 0 a0) (ρ, H))
    (step : ∀ k a, k < n → inv k a → IntKind.i64.wrap ((k : Int) + 1) = (k : Int) + 1 → wpX P C nt (LoopK P C nt n0 K) c (thenA (NextF n0 st inv (k + 1)) Q) (st k a).1 (st k a).2)
    (last : ∀ a, inv n a → wpX P C nt (LoopK P C nt n0 K) c (thenA (fun _ _ => False) Q) (st n a).1 (st n a).2) : LoopK P C nt n0 (K + 1) c Q ρ H := by
  refine loop_inv (σ := {p : Nat × α // p.1 ≤ n ∧ inv p.1 p.2}) (fun p => st p.val.1 p.val.2) (fun p => n - p.val.1) ⟨(0, a0), Nat.zero_le _, hi⟩ h0 ?_
  rintro ⟨⟨k, a⟩, hk, hka⟩
  simp only at hk hka ⊢
  rcases Nat.lt_or_ge k n with hlt | hge
  · refine wpX_mono (LoopK_mono K) c _ _ _ _ (thenA_mono ?_ fun _ _ _ q => q) (step k a hlt hka (by have := hb k a hlt hka; exact w64 (by omega) (by omega)))
    rintro ρ H ⟨a', h1, h2⟩
    exact ⟨⟨(k + 1, a'), hlt, h1⟩, by simp only; omega, h2⟩
  · have : k = n := by omega
    subst this
    exact wpX_mono (LoopK_mono K) c _ _ _ _ (thenA_mono (fun _ _ q => q.elim) fun _ _ _ q => q) (last a hka)
def replaceF : Row → Option (List Nat)
  | [.osl id _ 0 _ _, .v (.int .i64 _), .v (.int .i64 _), .v (.slice none 0 0)] => some [id]
  | [.osl id _ 0 _ _, .v (.int .i64 _), .v (.int .i64 _), .osl vid _ 0 _ _] => some [id, vid]
  | _ => none
theorem replace_loc {sz : Nat} : ∀ args ids, replaceF args = some ids → Loc (replaceI sz args) ids true := by
  intro args ids h
  unfold replaceF at h
  split at h
  · rename_i id sz1 n kc i j
    simp at h
    subst h
    refine ⟨fun f _ => match f id with
      | some (sz3, rows) =>
        if sz1 = sz ∧ sz3 = sz ∧ 0 < sz ∧ rows.length = n ∧ kc = n ∧ 0 ≤ i ∧ i < n ∧ j = i + 1 ∧ n ≤ 1048576 then
          some (.osl id sz 0 (n - 1) (n - 1), [(id, some (sz, rows.eraseIdx i.toNat))], [])
        else none
      | none => none, ⟨fun f g n hh => by simp only [hh id (by simp)], fun f n r hr => ?_, fun h => by cases h⟩, fun H => ?_⟩
    · refine ⟨fun u hu => ?_, fun h => by cases h⟩
      split at hr
      · split at hr
        · simp at hr; subst hr; simp at hu; subst hu; simp
        · cases hr
      · cases hr
    · simp only [replaceI]
      cases obj H id with
      | none => rfl
      | some p =>
        obtain ⟨sz3, rows⟩ := p
        simp only
        split <;> simp [updL]
  · rename_i id sz1 n kc i j vid sz2 m kv
    simp at h
    subst h
    refine ⟨fun f q => match f id, f vid with
      | some (sz3, rows), some (sz4, vr) =>
        if sz1 = sz ∧ sz2 = sz ∧ sz3 = sz ∧ sz4 = sz ∧ 0 < sz ∧ id ≠ vid ∧ rows.length = n ∧ kc = n ∧ vr.length = m ∧ kv = m ∧ 0 < m ∧ 0 ≤ i ∧ i < n ∧ j = i + 1 ∧ n ≤ 1048576 ∧ m ≤ 1048576 then
          some (.osl q sz 0 (n - 1 + m) (n - 1 + m), [(id, none)], [some (sz, rows.take i.toNat ++ vr ++ rows.drop (i.toNat + 1))])
        else none
      | _, _ => none, ⟨fun f g n hh => by simp only [hh id (by simp), hh vid (by simp)], fun f n r hr => ?_, fun h => by cases h⟩, fun H => ?_⟩
    · refine ⟨fun u hu => ?_, fun h => by cases h⟩
      split at hr
      · split at hr
        · simp at hr; subst hr; simp at hu; subst hu; simp
        · cases hr
      · cases hr
    · simp only [replaceI]
      cases obj H id with
      | none => rfl
      | some p =>
        obtain ⟨sz3, rows⟩ := p
        cases obj H vid with
        | none => rfl
        | some p =>
          obtain ⟨sz4, vr⟩ := p
          simp only
          split <;> simp [updL]
  · cases h
end
end Go.AI
/- Arguments read part by part. -/
namespace Go.AI
set_option linter.unusedSimpArgs false
set_option linter.unusedVariables false
open Go.RowKit Go.ChangeShapes Go.WideShapes Go.ChangeAt Go.Deep

/-- one cell -/
def rB : RCod Bool := RCod.plain 1 (fun b => [.v (.bool b)]) (fun r => match r with | [.v (.bool b)] => some b | _ => none) (fun _ => rfl) (fun _ => rfl) (fun r e h => by
  split at h
  · simp at h; subst h; rfl
  · cases h)
def InK (k : IntKind) (n : Int) : Prop := (Lit.int k n).wf = true

theorem rdI {P : Program} {t : TypeId} {k : IntKind} (ht : P.underlying t = some (.int k)) : RdRow P t (rI k) (InK k) := by
  intro H enc W base spare held fuel cs x h
  obtain ⟨n, e, hw⟩ := DataW.trod_int ht h
  subst e
  refine ⟨rfl, by simp [Value.oneCell'], n, hw.2, fun j a ha => ?_⟩
  simp only [rI, RCod.plain, irow] at ha
  match j, ha with
  | 0, ha => simp at ha; subst ha; exact .v
  | j + 1, ha => simp at ha
theorem rdB {P : Program} {t : TypeId} (ht : P.underlying t = some .bool) : RdRow P t rB (fun _ => True) := by
  intro H enc W base spare held fuel cs x h
  obtain ⟨n, e, hw⟩ := DataW.trod_bool ht h
  subst e
  refine ⟨rfl, by simp [Value.oneCell'], n, trivial, fun j a ha => ?_⟩
  simp only [rB, RCod.plain] at ha
  match j, ha with
  | 0, ha => simp at ha; subst ha; exact .v
  | j + 1, ha => simp at ha

/-- a row of cells from a place on -/
def RowsAt (W : World) (cs : List Value) (o : Nat) (r : Row) : Prop := (∀ v ∈ cs.drop o, v.oneCell' = true) ∧ ∀ (j : Nat) (a : AVal), r[j]? = some a → R β0 (ok0 W) W 0 a ((cs.drop o)[j]?.getD undef)
theorem RowsAt.nil {W : World} {cs : List Value} {o : Nat} (h : cs.length ≤ o) : RowsAt W cs o [] := by
  refine ⟨fun v hv => ?_, fun j a ha => by simp at ha⟩
  rw [List.drop_eq_nil_of_le h] at hv
  simp at hv
theorem RowsAt.cons {W : World} {cs : List Value} {o n : Nat} {r s : Row} (h1 : ∀ v ∈ (cs.drop o).take n, v.oneCell' = true) (hl : ((cs.drop o).take n).length = n) (hr : r.length = n)
    (h2 : ∀ (j : Nat) (a : AVal), r[j]? = some a → R β0 (ok0 W) W 0 a (((cs.drop o).take n)[j]?.getD undef)) (h3 : RowsAt W cs (o + n) s) : RowsAt W cs o (r ++ s) := by
  have hd : cs.drop o = (cs.drop o).take n ++ cs.drop (o + n) := by rw [← List.drop_drop, List.take_append_drop]
  constructor
  · intro v hv
    rw [hd] at hv
    rcases List.mem_append.1 hv with h | h
    · exact h1 v h
    · exact h3.1 v h
  · intro j a ha
    rw [hd]
    by_cases hj : j < n
    · rw [List.getElem?_append_left (by omega)] at ha
      rw [List.getElem?_append_left (by omega)]
      exact h2 j a ha
    · rw [List.getElem?_append_right (by omega)] at ha
      rw [List.getElem?_append_right (by omega), hl]
      rw [hr] at ha
      exact h3.2 _ a ha
theorem RowsAt.field {P : Program} {α : Type} {t : TypeId} {c : RCod α} {good : α → Prop} (hc : RdRow P t c good) {H : Type} {enc : TypeId × Value → H} {W : World} {base : Nat} {spare : Nat → Bool} {held : Bool} {fuel : Nat} {cs : List Value} {o n : Nat} {x : DataW H × List MemPlace}
    (hn : P.cellsOf t = n) (h : DataW.trod enc P W base spare held fuel t ((cs.drop o).take (P.cellsOf t)) = some x) : ∃ e, good e ∧ ∀ s, RowsAt W cs (o + n) s → RowsAt W cs o (c.enc e ++ s) := by
  rw [hn] at h
  obtain ⟨h1, h2, e, he, hR⟩ := hc h
  refine ⟨e, he, fun s hs => ?_⟩
  have hle : ((cs.drop o).take n).length ≤ n := by simp; omega
  by_cases hh : ((cs.drop o).take n).length = n
  · exact .cons h2 hh (by rw [c.len, ← h1, hh]) hR hs
  · have hd : cs.drop (o + n) = [] := by
      apply List.drop_eq_nil_of_le
      simp at hh
      omega
    have ht : (cs.drop o).take n = cs.drop o := List.take_of_length_le (by simp at hh ⊢; omega)
    rw [ht] at h1 h2 hR
    refine ⟨h2, fun j a ha => ?_⟩
    by_cases hj : j < (c.enc e).length
    · rw [List.getElem?_append_left hj] at ha
      exact hR j a ha
    · rw [List.getElem?_append_right (by omega)] at ha
      have := hs.2 _ a ha
      rw [hd] at this
      have hx : (cs.drop o)[j]? = none := List.getElem?_eq_none (by rw [h1, ← c.len e]; omega)
      rw [hx]
      simpa using this

theorem okWide_arrA {P : Program} {W : World} {base n : Nat} {t e : TypeId} {v : Value} (ht : P.underlying t = some (.array n e)) (h : Value.okWide P W .any base t v) : ∃ cs, v = .agg cs ∧ cs.size = P.cellsOf t := by
  simp only [Value.okWide, ht] at h
  obtain ⟨cs, h1, h2, _⟩ := h
  exact ⟨cs, h1, h2⟩
theorem rd_arr {H : Type} {enc : TypeId × Value → H} {P : Program} {W : World} {base : Nat} {spare : Nat → Bool} {held : Bool} {α : Type} {t e : TypeId} {n : Nat} {c : RCod α} {good : α → Prop} {v : Value} {d : DataW H} {p : List MemPlace} (ht : P.underlying t = some (.array n e)) (hc : RdRow P t c good) (hv : Value.okWide P W .any base t v) (h : DataW.Trod enc P W 0 spare held t v d p) :
    ∃ e, good e ∧ R β0 (ok0 W) W 0 ((cAgg c).enc e) v := by
  obtain ⟨cs, rfl, _⟩ := okWide_arrA ht hv
  obtain ⟨fuel, hf⟩ := h
  obtain ⟨h1, h2, e, he, hR⟩ := hc hf
  refine ⟨e, he, mkAgg_R (by rw [c.len]; simpa [Value.cells] using h1.symm) fun j a ha => ?_⟩
  simpa [Value.cells] using hR j a ha
/-- a slice inside -/
def rS {α : Type} (c : RCod α) : RCod (List α) := rCell (cSl c)
theorem rdS {P : Program} {t e : TypeId} {α : Type} {c : RCod α} {good : α → Prop} (ht : P.underlying t = some (.slice e)) (hsz : P.cellsOf e = c.sz) (h0 : 0 < c.sz) (hc : RdRow P e c good) : RdRow P t (rS c) (fun l => l.length ≤ maxLen ∧ ∀ x ∈ l, good x) := by
  intro H enc W base spare held fuel cs x h
  have hcs : ∃ a l k, cs = [.slice a l k] := by
    rcases open_slice ht h with ⟨hcs, _⟩ | ⟨a, len, cap, m, n, D, Pl, hcs, _⟩
    · exact ⟨_, _, _, hcs⟩
    · exact ⟨_, _, _, hcs⟩
  obtain ⟨a, l, k, rfl⟩ := hcs
  obtain ⟨xs, h1, h2, h3⟩ := rd_slv (v := .slice a l k) ht hsz h0 hc ⟨a, l, k, rfl⟩ h
  refine ⟨rfl, by simp [Value.oneCell'], xs, ⟨h1, h2⟩, fun j b hj => ?_⟩
  cases j with
  | zero => simp [rS, rCell] at hj; subst hj; simpa using h3
  | succ j => simp [rS, rCell] at hj
end Go.AI
