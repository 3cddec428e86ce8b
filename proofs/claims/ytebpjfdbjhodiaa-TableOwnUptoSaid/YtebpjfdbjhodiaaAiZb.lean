/- slices.Replace, of one element by some; slices.overlaps the other way round. -/
import Derived.Test.YtebpjfdbjhodiaaAiZa
import Derived.Test.YtebpjfdbjhodiaaAiT
set_option linter.unusedSimpArgs false
set_option linter.unusedVariables false
namespace Go.AI
open Go.RowKit
section
variable {base : Nat} {w0 : World} {β : Nat → Nat} {fz : Nat → Prop} {H : Heap} {w : World} {P : Program}

/-- slices.overlaps of two objects of one's own: no -/
def ovlJ : Row → Heap → Option (AVal × Heap)
  | [.xsl a sza _ la _, .osl b szb _ lb _], H => if a ≠ b ∧ 0 < la ∧ 0 < lb ∧ 0 < sza ∧ 0 < szb ∧ (obj H a).isSome = true ∧ (obj H b).isSome = true then some (.v (.bool false), H) else none
  | _, _ => none

theorem ovlJ_inl {f : FuncId} {fn : Func} {t e r : TypeId} {sz : Nat} (hf : P.funcs[f]? = some fn) (hname : (fn.name == "runtime.NumGoroutine") = false) (hb : fn.body.isNone = true) (hn : Extern.findNext fn = none)
    (he : Extern.find fn = some (Extern.SlicesOverlaps.overlaps #[t, t] #[r])) (ht : P.underlying t = some (.slice e)) (hsz : szOf P e = some sz) : InlOk P f ovlJ := by
  intro args H x H' hr base w0 β fz w vals hs hargs fn' hf'
  rw [hf] at hf'
  simp only [Option.some.injEq] at hf'
  subst hf'
  refine ⟨(fun h => by rw [hb] at h; cases h), fun _ => ?_⟩
  unfold ovlJ at hr
  split at hr
  · rename_i a sza sa la ca b szb sb lb kb
    split at hr
    · rename_i hc
      obtain ⟨hab, hla, hlb, hza, hzb, hoa, hob⟩ := hc
      simp only [Option.some.injEq, Prod.mk.injEq] at hr
      obtain ⟨rfl, rfl⟩ := hr
      obtain ⟨⟨sz1, rows1⟩, hoa⟩ := Option.isSome_iff_exists.1 hoa
      obtain ⟨⟨sz2, rows2⟩, hob⟩ := Option.isSome_iff_exists.1 hob
      obtain ⟨cs1, e1, a1, a2, a3, a4, a5⟩ := hs.cells hoa
      obtain ⟨cs2, e2, b1, b2, b3, b4, b5⟩ := hs.cells hob
      have hne : β a ≠ β b := fun h => hab (hs.inj a b ⟨_, obj_some hoa⟩ ⟨_, obj_some hob⟩ h)
      obtain ⟨hvl, hva⟩ := hargs
      have r0 := hva 0 _ rfl
      have r1 := hva 1 _ rfl
      have hvals : vals = #[vals[0]?.getD undef, vals[1]?.getD undef] := by
        apply Array.ext
        · simpa using hvl
        · intro j h1 h2
          simp only [List.length_cons, List.length_nil] at hvl
          have : j = 0 ∨ j = 1 := by omega
          rcases this with rfl | rfl <;> simp [h1]
      generalize vals[0]?.getD undef = v0 at *
      generalize vals[1]?.getD undef = v1 at *
      cases r0 with
      | @xsl _ _ _ _ _ _ ad0 h0 hl0 ha0 =>
        cases r1 with
        | @osl _ _ _ _ _ _ ad1 cap1 h1 hl1 hk1 ha1 =>
          rcases ha0 with ha0 | ⟨rfl, c0, t0, f0, i0, j0⟩
          · omega
          rcases ha1 with ha1 | ⟨rfl, c1, t1, f1, i1, j1⟩
          · omega
          rw [a1] at i0
          rw [b1] at i1
          simp only [Option.some.injEq, Obj.cells.injEq] at i0 i1
          obtain ⟨rfl, rfl, rfl⟩ := i0
          obtain ⟨rfl, rfl, rfl⟩ := i1
          refine ⟨.bool false, w, ?_, .bool false, β, fz, rfl, hs, Ext.refl _ _ _ _, .v⟩
          rw [run_callFunc_extern hf hname hb hn he, hvals]
          have hsz2 : cs2.size ≠ 0 := by
            have : 0 < (sb + cap1) * szb := Nat.mul_pos (by omega) hzb
            omega
          rw [Go.Lib.run_overlaps_apart w t r e ht sz (fun w => run_sz hsz w) ⟨β a, sa * sza, none⟩ ⟨β b, sb * szb, none⟩ la ca lb cap1 hne e1 e2 cs1.size cs2.size
            (by simp [World.shape?, a1]) (by simp [World.shape?, b1]) hsz2 (by simp [World.frozen?, a1]) (by simp [World.frozen?, a1])]
          rfl
    · cases hr
  · cases hr

/-- rows more of an object, nothing known of them -/
theorem HSim.addRows {id sz : Nat} {cs : Array Value} {e : TypeId} {f : Nat × Nat} (hb : w.heap[β id]? = some (.cells cs e f)) : ∀ (m : Nat) {H : Heap} {rows : List Row}, HSim base w0 β fz H w → H[id]? = some (some (sz, rows)) → (rows.length + m) * sz ≤ cs.size →
    HSim base w0 β fz (H.set id (some (sz, rows ++ List.replicate m (List.replicate sz .junk)))) w
  | 0, H, rows, hs, hid, hle => by
    have : H.set id (some (sz, rows ++ List.replicate 0 (List.replicate sz .junk))) = H := by
      simp only [List.replicate_zero, List.append_nil]
      apply List.ext_getElem?
      intro k
      by_cases hk : k = id
      · subst hk; rw [List.getElem?_set_self (List.getElem?_eq_some_iff.1 hid).1, hid]
      · rw [List.getElem?_set_ne (by omega)]
    rw [this]; exact hs
  | m + 1, H, rows, hs, hid, hle => by
    have hlt : id < H.length := (List.getElem?_eq_some_iff.1 hid).1
    have h1 := hs.addRow hid hb (Nat.le_trans (Nat.mul_le_mul_right _ (by omega)) hle)
    have h2 := HSim.addRows hb m (rows := rows ++ [List.replicate sz .junk]) h1 (List.getElem?_set_self hlt) (by simp only [List.length_append, List.length_cons, List.length_nil]; rw [show rows.length + (0 + 1) + m = rows.length + (m + 1) by omega]; exact hle)
    rw [List.set_set, List.append_assoc] at h2
    exact h2

/-- slices.Replace, of one element by some -/
def replaceI (sz : Nat) : Row → Heap → Option (AVal × Heap)
  | [.osl id sz1 0 n kc, .v (.int .i64 i), .v (.int .i64 j), .v (.slice none 0 0)], H =>
    match obj H id with
    | some (sz3, rows) =>
      if sz1 = sz ∧ sz3 = sz ∧ 0 < sz ∧ rows.length = n ∧ kc = n ∧ 0 ≤ i ∧ i < n ∧ j = i + 1 ∧ n ≤ 1048576 then
        some (.osl id sz 0 (n - 1) (n - 1), H.set id (some (sz, rows.eraseIdx i.toNat)))
      else none
    | none => none
  | [.osl id sz1 0 n kc, .v (.int .i64 i), .v (.int .i64 j), .osl vid sz2 0 m kv], H =>
    match obj H id, obj H vid with
    | some (sz3, rows), some (sz4, vr) =>
      if sz1 = sz ∧ sz2 = sz ∧ sz3 = sz ∧ sz4 = sz ∧ 0 < sz ∧ id ≠ vid ∧ rows.length = n ∧ kc = n ∧ vr.length = m ∧ kv = m ∧ 0 < m ∧ 0 ≤ i ∧ i < n ∧ j = i + 1 ∧ n ≤ 1048576 ∧ m ≤ 1048576 then
        some (.osl H.length sz 0 (n - 1 + m) (n - 1 + m), (H.set id none) ++ [some (sz, rows.take i.toNat ++ vr ++ rows.drop (i.toNat + 1))])
      else none
    | _, _ => none
  | _, _ => none

theorem replace_of {f : FuncId} {fn : Func} {c : Code} {sz : Nat} {z : Row} (hf : P.funcs[f]? = some fn) (hb : fn.body = some c) (hn : 4 ≤ fn.ntmps)
    (hN0 : ∀ (H : Heap) (id i : Nat) (rows : List Row), obj H id = some (sz, rows) → id < H.length → rows.length = i + 1 → rows.length ≤ 1048576 →
      AWp P fn.ntmps H.length c (retA P fn fun x H2 => x = .osl id sz 0 i rows.length ∧ H2 = H.set id (some (sz, rows.take i ++ [z]))) (envOf 0 [.osl id sz 0 rows.length rows.length, .v (.int .i64 i), .v (.int .i64 ((i : Int) + 1)), .v (.slice none 0 0)]) H)
    (hN1 : ∀ (H : Heap) (id i cap : Nat) (rows : List Row), obj H id = some (sz, rows) → id < H.length → i + 1 < rows.length → rows.length ≤ 1048576 → rows.length ≤ cap →
      AWp P fn.ntmps H.length c (retA P fn fun x H2 => x = .xsl id sz 0 (rows.length - 1) cap ∧ H2 = H.set id (some (sz, rows.take i ++ rows.drop (i + 1) ++ [z]))) (envOf 0 [.xsl id sz 0 rows.length cap, .v (.int .i64 i), .v (.int .i64 ((i : Int) + 1)), .v (.slice none 0 0)]) H)
    (hE1 : ∀ (H : Heap) (id vid i : Nat) (rows vr : List Row), obj H id = some (sz, rows) → obj H vid = some (sz, vr) → id ≠ vid → id < H.length → vid < H.length → rows.length = i + 1 → rows.length ≤ 1048576 → vr.length = 1 →
      AWp P fn.ntmps H.length c (retA P fn fun x H2 => x = .osl id sz 0 rows.length rows.length ∧ H2 = H.set id (some (sz, rows.take i ++ vr))) (envOf 0 [.osl id sz 0 rows.length rows.length, .v (.int .i64 i), .v (.int .i64 ((i : Int) + 1)), .osl vid sz 0 1 1]) H)
    (hE2 : ∀ (H : Heap) (id vid i : Nat) (rows vr : List Row), obj H id = some (sz, rows) → obj H vid = some (sz, vr) → id ≠ vid → id < H.length → vid < H.length → rows.length = i → i ≤ 1048576 → 2 ≤ vr.length → vr.length ≤ 1048576 →
      AWp P fn.ntmps H.length c (retA P fn fun x H2 => x = .osl H.length sz 0 (i + vr.length) (i + vr.length) ∧ H2 = (H.set id none) ++ [some (sz, rows ++ vr)]) (envOf 0 [.osl id sz 0 (i + 1) (i + 1), .v (.int .i64 i), .v (.int .i64 ((i : Int) + 1)), .osl vid sz 0 vr.length vr.length]) H)
    (hG : ∀ (H : Heap) (id vid i cap : Nat) (rows vr : List Row), obj H id = some (sz, rows) → obj H vid = some (sz, vr) → id ≠ vid → id < H.length → vid < H.length → i + 1 < rows.length → rows.length ≤ 1048576 → 2 ≤ vr.length → vr.length ≤ 1048576 → rows.length ≤ cap → cap < rows.length - 1 + vr.length →
      AWp P fn.ntmps H.length c (retA P fn fun x H2 => x = .osl H.length sz 0 (rows.length - 1 + vr.length) (rows.length - 1 + vr.length) ∧ H2 = H ++ [some (sz, rows.take i ++ vr ++ rows.drop (i + 1))]) (envOf 0 [.xsl id sz 0 rows.length cap, .v (.int .i64 i), .v (.int .i64 ((i : Int) + 1)), .osl vid sz 0 vr.length vr.length]) H)
    (hI : ∀ (H : Heap) (id vid i cap : Nat) (rows vr jr : List Row), obj H id = some (sz, rows ++ jr) → obj H vid = some (sz, vr) → id ≠ vid → id < H.length → vid < H.length → i + 1 < rows.length → rows.length ≤ 1048576 → jr.length + 1 = vr.length → vr.length ≤ 1048576 → rows.length - 1 + vr.length ≤ cap →
      AWp P fn.ntmps H.length c (retA P fn fun x H2 => x = .xsl id sz 0 (rows.length - 1 + vr.length) cap ∧ H2 = H.set id (some (sz, rows.take i ++ vr ++ rows.drop (i + 1)))) (envOf 0 [.xsl id sz 0 rows.length cap, .v (.int .i64 i), .v (.int .i64 ((i : Int) + 1)), .osl vid sz 0 vr.length vr.length]) H) :
    InlOk P f (replaceI sz) := by
  intro args H x H' hr base w0 β fz w vals hs hargs
  refine .of hf hb ?_
  unfold replaceI at hr
  split at hr
  · rename_i id sz1 n kc i j
    split at hr
    · rename_i sz3 rows hid
      split at hr
      · rename_i hc
        obtain ⟨rfl, rfl, hz, rfl, rfl, hi0, hin, rfl, hn2⟩ := hc
        simp only [Option.some.injEq, Prod.mk.injEq] at hr
        obtain ⟨rfl, rfl⟩ := hr
        obtain ⟨k, rfl⟩ := Int.eq_ofNat_of_zero_le hi0
        simp only [Int.toNat_natCast]
        have hidl := (List.getElem?_eq_some_iff.1 (obj_some hid)).1
        have hkl : k < rows.length := by omega
        by_cases hk : k + 1 = rows.length
        · have hA := hN0 H id k rows hid hidl hk.symm hn2
          refine body_calls hf hb (by simpa using hn) hA ⟨fn.ntmps, H.length, β, fz, w⟩ rfl rfl hs (Ext.refl _ _ _ _) hargs _ ?_
          rintro x v β' fz' H2 w' ⟨rfl, rfl⟩ hs' he hR
          have hget : (H.set id (some (sz3, rows.take k ++ [z])))[id]? = some (some (sz3, rows.take k ++ [z])) := List.getElem?_set_self hidl
          obtain ⟨p1, p2⟩ := hs'.trunc hget (obj_live hid).2
          rw [List.set_set] at p1 p2
          have he2 : rows.eraseIdx k = rows.take k := by
            rw [List.eraseIdx_eq_take_drop_succ, List.drop_eq_nil_of_le (by omega), List.append_nil]
          refine ⟨v, β', fz', rfl, by rw [he2]; exact p1, by rw [he2]; exact he.trans p2, ?_⟩
          have hR2 := hR.ext p2
          rw [he2]
          have e1 : rows.length - 1 = k := by omega
          rw [e1]
          cases hR2 with
          | osl h hl hk ha => exact .osl h (by omega) (by omega) ha
        · have r0 := hargs.2 0 _ rfl
          generalize hv0 : vals[0]?.getD undef = v0 at r0
          cases r0 with
          | @osl _ _ _ _ _ _ ad cap h0' hl0 hk0 ha0 =>
            have hargs' : ArgsR β (okOf base fz) w H.length [.xsl id sz3 0 rows.length cap, .v (.int .i64 k), .v (.int .i64 ((k : Int) + 1)), .v (.slice none 0 0)] vals := by
              refine ⟨hargs.1, fun j a ha => ?_⟩
              cases j with
              | zero => simp at ha; subst ha; rw [hv0]; exact .xsl h0' (by omega) ha0
              | succ j => exact hargs.2 (j + 1) a (by simpa using ha)
            have hA := hN1 H id k cap rows hid hidl (by omega) hn2 (by omega)
            refine body_calls hf hb (by simpa using hn) hA ⟨fn.ntmps, H.length, β, fz, w⟩ rfl rfl hs (Ext.refl _ _ _ _) hargs' _ ?_
            rintro x v β' fz' H2 w' ⟨rfl, rfl⟩ hs' he hR
            have hget : (H.set id (some (sz3, rows.take k ++ rows.drop (k + 1) ++ [z])))[id]? = some (some (sz3, (rows.take k ++ rows.drop (k + 1)) ++ [z])) := List.getElem?_set_self hidl
            obtain ⟨p1, p2⟩ := hs'.trunc hget (obj_live hid).2
            rw [List.set_set] at p1 p2
            have he2 : rows.eraseIdx k = rows.take k ++ rows.drop (k + 1) := List.eraseIdx_eq_take_drop_succ ..
            refine ⟨v, β', fz', rfl, by rw [he2]; exact p1, by rw [he2]; exact he.trans p2, ?_⟩
            have hR2 := hR.ext p2
            rw [he2]
            cases hR2 with
            | xsl h hl ha => exact .osl h (by omega) (by omega) ha
      · cases hr
    · cases hr
  · rename_i id sz1 n kc i j vid sz2 m kv
    split at hr
    · rename_i sz3 rows sz4 vr hid hvid
      split at hr
      · rename_i hc
        obtain ⟨rfl, rfl, rfl, rfl, hz, hne, rfl, rfl, rfl, rfl, hm0, hi0, hin, rfl, hn2, hm2⟩ := hc
        simp only [Option.some.injEq, Prod.mk.injEq] at hr
        obtain ⟨rfl, rfl⟩ := hr
        obtain ⟨k, rfl⟩ := Int.eq_ofNat_of_zero_le hi0
        simp only [Int.toNat_natCast]
        have hidl := (List.getElem?_eq_some_iff.1 (obj_some hid)).1
        have hvidl := (List.getElem?_eq_some_iff.1 (obj_some hvid)).1
        have hkl : k < rows.length := by omega
        have h00 : sz4 ≠ 0 := (obj_live hid).2
        -- an object under a new name
        have fin : ∀ (rows' : List Row) (β' : Nat → Nat) (fz' : Nat → Prop) (w' : World) (v : Value) (L cap : Nat), L = rows'.length → 0 < L → HSim base w0 β' fz' (H.set id (some (sz4, rows'))) w' → Ext H.length β fz w (H.set id (some (sz4, rows'))).length β' fz' w' →
            (R β' (okOf base fz') w' (H.set id (some (sz4, rows'))).length (.osl id sz4 0 L cap) v ∧ L ≤ cap) →
            ∃ v' β'' fz'', Ending.returned v = .returned v' ∧ HSim base w0 β'' fz'' ((H.set id none) ++ [some (sz4, rows')]) w' ∧ Ext H.length β fz w ((H.set id none) ++ [some (sz4, rows')]).length β'' fz'' w' ∧ R β'' (okOf base fz'') w' ((H.set id none) ++ [some (sz4, rows')]).length (.osl H.length sz4 0 L L) v' := by
          rintro rows' β' fz' w' v L cap hL hL0 hs' he ⟨hR, hLc⟩
          have hget : (H.set id (some (sz4, rows')))[id]? = some (some (sz4, rows')) := List.getElem?_set_self hidl
          obtain ⟨p1, p2⟩ := hs'.rename hget
          rw [List.set_set] at p1 p2
          have hN : newObj' (H.set id none) sz4 rows' = H.set id none ++ [some (sz4, rows')] := by simp [newObj', h00]
          rw [hN] at p1 p2
          simp only [List.length_set] at p1 p2 he hR
          cases hR with
          | @osl _ _ _ _ _ _ ad' cap2 hh hl' hk' ha' =>
            rcases ha' with ha' | ⟨rfl, cs', e', ff', hcs', hle'⟩
            · omega
            have hnew := newSl β' (H.set id none) (β' id) sz4 L cap2 (okOf base fz') w' rows' hcs' (by simpa using hle') (kc := L) (Nat.le_refl _) (by omega)
            simp only [List.length_set] at hnew
            refine ⟨_, _, fz', rfl, p1, he.trans p2, ?_⟩
            simpa [newObj'] using hnew
        by_cases hk : k + 1 = rows.length
        · have hdrop : rows.drop (k + 1) = [] := List.drop_eq_nil_of_le (by omega)
          rw [hdrop, List.append_nil]
          have htl : (rows.take k).length = k := by simp; omega
          by_cases hm1 : vr.length = 1
          · have hA := hE1 H id vid k rows vr hid hvid hne hidl hvidl hk.symm hn2 hm1
            rw [hm1] at hargs
            refine body_calls hf hb (by simpa using hn) hA ⟨fn.ntmps, H.length, β, fz, w⟩ rfl rfl hs (Ext.refl _ _ _ _) hargs _ ?_
            rintro x v β' fz' H2 w' ⟨rfl, rfl⟩ hs' he hR
            have e1 : rows.length - 1 + vr.length = rows.length := by omega
            rw [e1]
            exact fin _ β' fz' w' v _ _ (by rw [List.length_append, htl]; omega) (by omega) hs' he ⟨hR, Nat.le_refl _⟩
          · have hgt : H[id]? = some (some (sz4, rows.take k ++ rows.drop k)) := by rw [List.take_append_drop]; exact obj_some hid
            obtain ⟨t1, t2⟩ := hs.trunc hgt (obj_live hid).2
            have hlen2 : (H.set id (some (sz4, rows.take k))).length = H.length := by simp
            have ho1 : obj (H.set id (some (sz4, rows.take k))) id = some (sz4, rows.take k) := by simp [obj, hidl, h00]
            have ho2 : obj (H.set id (some (sz4, rows.take k))) vid = some (sz4, vr) := by
              unfold obj at hvid ⊢
              rw [List.getElem?_set_ne hne]; exact hvid
            have hA := hE2 (H.set id (some (sz4, rows.take k))) id vid k (rows.take k) vr ho1 ho2 hne (by rw [hlen2]; exact hidl) (by rw [hlen2]; exact hvidl) htl (by omega) (by omega) hm2
            rw [hlen2] at hA
            have hargs2 : ArgsR β (okOf base fz) w (H.set id (some (sz4, rows.take k))).length [.osl id sz4 0 (k + 1) (k + 1), .v (.int .i64 k), .v (.int .i64 ((k : Int) + 1)), .osl vid sz4 0 vr.length vr.length] vals := by
              rw [hlen2, hk]; exact hargs
            refine body_calls hf hb (by simpa using hn) hA ⟨fn.ntmps, H.length, β, fz, w⟩ rfl rfl t1 t2 hargs2 _ ?_
            rintro x v β' fz' H2 w' ⟨rfl, rfl⟩ hs' he hR
            have e1 : rows.length - 1 + vr.length = k + vr.length := by omega
            rw [e1]
            rw [List.set_set] at hs' he hR
            exact ⟨v, β', fz', rfl, hs', he, hR⟩
        · have r0 := hargs.2 0 _ rfl
          generalize hv0 : vals[0]?.getD undef = v0 at r0
          have htl : (rows.take k ++ vr ++ rows.drop (k + 1)).length = rows.length - 1 + vr.length := by simp; omega
          cases r0 with
          | @osl _ _ _ _ _ _ ad cap h0' hl0 hk0 ha0 =>
            have hargs' : ArgsR β (okOf base fz) w H.length [.xsl id sz4 0 rows.length cap, .v (.int .i64 k), .v (.int .i64 ((k : Int) + 1)), .osl vid sz4 0 vr.length vr.length] vals := by
              refine ⟨hargs.1, fun j a ha => ?_⟩
              cases j with
              | zero => simp at ha; subst ha; rw [hv0]; exact .xsl h0' (by omega) ha0
              | succ j => exact hargs.2 (j + 1) a (by simpa using ha)
            rcases ha0 with ha0 | ⟨rfl, cs, e, ff, hcs, hle⟩
            · omega
            by_cases hcap : cap < rows.length - 1 + vr.length
            · have hA := hG H id vid k cap rows vr hid hvid hne hidl hvidl (by omega) hn2 (by omega) hm2 (by omega) hcap
              refine body_calls hf hb (by simpa using hn) hA ⟨fn.ntmps, H.length, β, fz, w⟩ rfl rfl hs (Ext.refl _ _ _ _) hargs' _ ?_
              rintro x v β' fz' H2 w' ⟨rfl, rfl⟩ hs' he hR
              obtain ⟨q1, q2⟩ := hs'.kill id
              rw [List.set_append_left _ _ hidl] at q1 q2
              refine ⟨v, β', fz', rfl, q1, he.trans q2, ?_⟩
              simpa using hR
            · have hle2 : (rows.length + (vr.length - 1)) * sz4 ≤ cs.size := Nat.le_trans (Nat.mul_le_mul_right _ (by omega)) hle
              have hs2 := HSim.addRows hcs (vr.length - 1) hs (obj_some hid) hle2
              generalize hjr : List.replicate (vr.length - 1) (List.replicate sz4 AVal.junk) = jr at hs2
              have hjl : jr.length + 1 = vr.length := by rw [← hjr]; simp; omega
              have hlen2 : (H.set id (some (sz4, rows ++ jr))).length = H.length := by simp
              have ho1 : obj (H.set id (some (sz4, rows ++ jr))) id = some (sz4, rows ++ jr) := by simp [obj, hidl, h00]
              have ho2 : obj (H.set id (some (sz4, rows ++ jr))) vid = some (sz4, vr) := by
                unfold obj at hvid ⊢
                rw [List.getElem?_set_ne hne]; exact hvid
              have hA := hI (H.set id (some (sz4, rows ++ jr))) id vid k cap rows vr jr ho1 ho2 hne (by rw [hlen2]; exact hidl) (by rw [hlen2]; exact hvidl) (by omega) hn2 hjl hm2 (by omega)
              rw [hlen2] at hA
              refine body_calls hf hb (by simpa using hn) hA ⟨fn.ntmps, H.length, β, fz, w⟩ rfl rfl hs2 (by rw [hlen2]; exact Ext.refl _ _ _ _) (by rw [hlen2]; exact hargs') _ ?_
              rintro x v β' fz' H2 w' ⟨rfl, rfl⟩ hs' he hR
              rw [List.set_set] at hs' he hR
              refine fin _ β' fz' w' v _ cap htl.symm (by omega) hs' he ⟨?_, by omega⟩
              cases hR with
              | xsl h hl ha => exact .osl h (by omega) (by omega) ha
      · cases hr
    · cases hr
  · cases hr
/-- a loop from 0 to n, of which the invariant says that it is not long -/
theorem loop_forB {C : Orc} {nt n0 : Nat} {ρ : Env} {H : Heap} {K : Nat} {c : Code} {Q : Post} {α : Type} (n : Nat) (st : Nat → α → Env × Heap) (inv : Nat → α → Prop) (a0 : α) (hb : ∀ k a, k < n → inv k a → k < 4294967296) (hi : inv 0 a0) (h0 : Weaker n0 (st 0 a0) (ρ, H))
    (step : ∀ k a, k < n → inv k a → IntKind.i64.wrap ((k : Int) + 1) = (k : Int) + 1 → wpX P C nt (LoopK P C nt n0 K) c (thenA (NextF n0 st inv (k + 1)) Q) (st k a).1 (st k a).2)
    (last : ∀ a, inv n a → wpX P C nt (LoopK P C nt n0 K) c (thenA (fun _ _ => False) Q) (st n a).1 (st n a).2) : LoopK P C nt n0 (K + 1) c Q ρ H := by
  refine loop_inv (σ := {p : Nat × α // p.1 ≤ n ∧ inv p.1 p.2}) (fun p => st p.val.1 p.val.2) (fun p => n - p.val.1) ⟨(0, a0), Nat.zero_le _, hi⟩ h0 ?_
  rintro ⟨⟨k, a⟩, hk, hka⟩
  simp only at hk hka ⊢
  rcases Nat.lt_or_ge k n with hlt | hge
  · refine wpX_mono (LoopK_mono K) c _ _ _ _ (thenA_mono ?_ fun _ _ _ q => q) (step k a hlt hka (by have := hb k a hlt hka; exact w64 (by omega) (by omega)))
    rintro ρ H ⟨a', h1, h2⟩
    exact ⟨⟨(k + 1, a'), hlt, h1⟩, by simp only; omega, h2⟩
  · have : k = n := by omega
    subst this
    exact wpX_mono (LoopK_mono K) c _ _ _ _ (thenA_mono (fun _ _ q => q.elim) fun _ _ _ q => q) (last a hka)
def replaceF : Row → Option (List Nat)
  | [.osl id _ 0 _ _, .v (.int .i64 _), .v (.int .i64 _), .v (.slice none 0 0)] => some [id]
  | [.osl id _ 0 _ _, .v (.int .i64 _), .v (.int .i64 _), .osl vid _ 0 _ _] => some [id, vid]
  | _ => none
theorem replace_loc {sz : Nat} : ∀ args ids, replaceF args = some ids → Loc (replaceI sz args) ids true := by
  intro args ids h
  unfold replaceF at h
  split at h
  · rename_i id sz1 n kc i j
    simp at h
    subst h
    refine ⟨fun f _ => match f id with
      | some (sz3, rows) =>
        if sz1 = sz ∧ sz3 = sz ∧ 0 < sz ∧ rows.length = n ∧ kc = n ∧ 0 ≤ i ∧ i < n ∧ j = i + 1 ∧ n ≤ 1048576 then
          some (.osl id sz 0 (n - 1) (n - 1), [(id, some (sz, rows.eraseIdx i.toNat))], [])
        else none
      | none => none, ⟨fun f g n hh => by simp only [hh id (by simp)], fun f n r hr => ?_, fun h => by cases h⟩, fun H => ?_⟩
    · refine ⟨fun u hu => ?_, fun h => by cases h⟩
      split at hr
      · split at hr
        · simp at hr; subst hr; simp at hu; subst hu; simp
        · cases hr
      · cases hr
    · simp only [replaceI]
      cases obj H id with
      | none => rfl
      | some p =>
        obtain ⟨sz3, rows⟩ := p
        simp only
        split <;> simp [updL]
  · rename_i id sz1 n kc i j vid sz2 m kv
    simp at h
    subst h
    refine ⟨fun f q => match f id, f vid with
      | some (sz3, rows), some (sz4, vr) =>
        if sz1 = sz ∧ sz2 = sz ∧ sz3 = sz ∧ sz4 = sz ∧ 0 < sz ∧ id ≠ vid ∧ rows.length = n ∧ kc = n ∧ vr.length = m ∧ kv = m ∧ 0 < m ∧ 0 ≤ i ∧ i < n ∧ j = i + 1 ∧ n ≤ 1048576 ∧ m ≤ 1048576 then
          some (.osl q sz 0 (n - 1 + m) (n - 1 + m), [(id, none)], [some (sz, rows.take i.toNat ++ vr ++ rows.drop (i.toNat + 1))])
        else none
      | _, _ => none, ⟨fun f g n hh => by simp only [hh id (by simp), hh vid (by simp)], fun f n r hr => ?_, fun h => by cases h⟩, fun H => ?_⟩
    · refine ⟨fun u hu => ?_, fun h => by cases h⟩
      split at hr
      · split at hr
        · simp at hr; subst hr; simp at hu; subst hu; simp
        · cases hr
      · cases hr
    · simp only [replaceI]
      cases obj H id with
      | none => rfl
      | some p =>
        obtain ⟨sz3, rows⟩ := p
        cases obj H vid with
        | none => rfl
        | some p =>
          obtain ⟨sz4, vr⟩ := p
          simp only
          split <;> simp [updL]
  · cases h
end
end Go.AI
