/- slices.Insert of one element; slices.overlaps. -/
import Derived.Test.YtebpjfdbjhodiaaAiW
import Derived.Lib.Overlaps
namespace Go.AI
set_option linter.unusedSimpArgs false
set_option linter.unusedVariables false
open Go.RowKit
section
variable {base : Nat} {w0 : World} {β : Nat → Nat} {fz : Nat → Prop} {H : Heap} {w : World} {P : Program}

theorem obj_get {H : Heap} {id : Nat} {x : Nat × List Row} (h : obj H id = some x) : H[id]? = some (some x) := obj_some h

/-- slices.overlaps of two objects of one's own: no -/
def ovlI : Row → Heap → Option (AVal × Heap)
  | [.osl a sza _ la _, .xsl b szb _ lb _], H => if a ≠ b ∧ 0 < la ∧ 0 < lb ∧ 0 < sza ∧ 0 < szb ∧ (obj H a).isSome = true ∧ (obj H b).isSome = true then some (.v (.bool false), H) else none
  | _, _ => none

theorem ovl_inl {f : FuncId} {fn : Func} {t e r : TypeId} {sz : Nat} (hf : P.funcs[f]? = some fn) (hname : (fn.name == "runtime.NumGoroutine") = false) (hb : fn.body.isNone = true) (hn : Extern.findNext fn = none)
    (he : Extern.find fn = some (Extern.SlicesOverlaps.overlaps #[t, t] #[r])) (ht : P.underlying t = some (.slice e)) (hsz : szOf P e = some sz) : InlOk P f ovlI := by
  intro args H x H' hr base w0 β fz w vals hs hargs fn' hf'
  rw [hf] at hf'
  simp only [Option.some.injEq] at hf'
  subst hf'
  refine ⟨(fun h => by rw [hb] at h; cases h), fun _ => ?_⟩
  unfold ovlI at hr
  split at hr
  · rename_i a sza sa la ka b szb sb lb cb
    split at hr
    · rename_i hc
      obtain ⟨hab, hla, hlb, hza, hzb, hoa, hob⟩ := hc
      simp only [Option.some.injEq, Prod.mk.injEq] at hr
      obtain ⟨rfl, rfl⟩ := hr
      obtain ⟨⟨sz1, rows1⟩, hoa⟩ := Option.isSome_iff_exists.1 hoa
      obtain ⟨⟨sz2, rows2⟩, hob⟩ := Option.isSome_iff_exists.1 hob
      obtain ⟨cs1, e1, a1, a2, a3, a4, a5⟩ := hs.cells hoa
      obtain ⟨cs2, e2, b1, b2, b3, b4, b5⟩ := hs.cells hob
      have hne : β a ≠ β b := fun h => hab (hs.inj a b ⟨_, obj_some hoa⟩ ⟨_, obj_some hob⟩ h)
      obtain ⟨hvl, hva⟩ := hargs
      have r0 := hva 0 _ rfl
      have r1 := hva 1 _ rfl
      have hvals : vals = #[vals[0]?.getD undef, vals[1]?.getD undef] := by
        apply Array.ext
        · simpa using hvl
        · intro j h1 h2
          simp only [List.length_cons, List.length_nil] at hvl
          have : j = 0 ∨ j = 1 := by omega
          rcases this with rfl | rfl <;> simp [h1]
      generalize vals[0]?.getD undef = v0 at *
      generalize vals[1]?.getD undef = v1 at *
      cases r0 with
      | @osl _ _ _ _ _ _ ad0 cap0 h0 hl0 hk0 ha0 =>
        cases r1 with
        | @xsl _ _ _ _ _ _ ad1 h1 hl1 ha1 =>
          rcases ha0 with ha0 | ⟨rfl, c0, t0, f0, i0, j0⟩
          · omega
          rcases ha1 with ha1 | ⟨rfl, c1, t1, f1, i1, j1⟩
          · omega
          rw [a1] at i0
          rw [b1] at i1
          simp only [Option.some.injEq, Obj.cells.injEq] at i0 i1
          obtain ⟨rfl, rfl, rfl⟩ := i0
          obtain ⟨rfl, rfl, rfl⟩ := i1
          refine ⟨.bool false, w, ?_, .bool false, β, fz, rfl, hs, Ext.refl _ _ _ _, .v⟩
          rw [run_callFunc_extern hf hname hb hn he, hvals]
          have hsz2 : cs2.size ≠ 0 := by
            have : 0 < (sb + cb) * szb := Nat.mul_pos (by omega) hzb
            omega
          rw [Go.Lib.run_overlaps_apart w t r e ht sz (fun w => run_sz hsz w) ⟨β a, sa * sza, none⟩ ⟨β b, sb * szb, none⟩ la cap0 lb cb hne e1 e2 cs1.size cs2.size
            (by simp [World.shape?, a1]) (by simp [World.shape?, b1]) hsz2 (by simp [World.frozen?, a1]) (by simp [World.frozen?, a1])]
          rfl
    · cases hr
  · cases hr

/-- a row more of an object, nothing known of it -/
theorem HSim.addRow (hs : HSim base w0 β fz H w) {id sz : Nat} {rows : List Row} (hid : H[id]? = some (some (sz, rows))) {cs : Array Value} {e : TypeId} {f : Nat × Nat} (hb : w.heap[β id]? = some (.cells cs e f)) (hle : (rows.length + 1) * sz ≤ cs.size) :
    HSim base w0 β fz (H.set id (some (sz, rows ++ [List.replicate sz .junk]))) w := by
  have hlt : id < H.length := (List.getElem?_eq_some_iff.1 hid).1
  have live : ∀ k, Live (H.set id (some (sz, rows ++ [List.replicate sz .junk]))) k → Live H k := fun k hk => Live.set hk ⟨_, hid⟩
  refine ⟨fun k s2 r2 hk => ?_, fun a b ha hb => hs.inj a b (live a ha) (live b hb), fun k hk => hs.own k (live k hk), hs.fzlt, hs.below, hs.base⟩
  by_cases hki : k = id
  · subst hki
    rw [List.getElem?_set_self hlt] at hk
    simp only [Option.some.injEq, Prod.mk.injEq] at hk
    obtain ⟨rfl, rfl⟩ := hk
    obtain ⟨h00, cs', e', g1, g2, g3, g4, g5⟩ := hs.cells1 hid hb
    rw [OSim, if_neg h00]
    rw [g1] at hb
    simp only [Option.some.injEq, Obj.cells.injEq] at hb
    obtain ⟨rfl, rfl, rfl⟩ := hb
    refine ⟨cs', e', g1, fun r hr => ?_, by simpa using hle, g4, fun i r hi j c hj => ?_⟩
    · rcases List.mem_append.1 hr with hr | hr
      · exact g2 r hr
      · simp at hr; subst hr; simp
    · rw [List.length_set]
      rw [List.getElem?_append] at hi
      split at hi
      · exact g5 i r hi j c hj
      · have hi0 : i - rows.length = 0 := by
          cases hq : i - rows.length with
          | zero => rfl
          | succ q => simp [hq] at hi
        simp [hi0] at hi
        subst hi
        have hj' := List.mem_of_getElem? hj
        have := List.eq_of_mem_replicate hj'
        subst this
        exact .junk
  · rw [List.getElem?_set_ne (by omega)] at hk
    rw [List.length_set]
    exact hs.objs' k s2 r2 hk

/-- slices.Insert, of one element -/
def insertI (sz : Nat) : Row → Heap → Option (AVal × Heap)
  | [.osl id sz1 0 n kc, .v (.int .i64 i), .osl vid sz2 0 1 1], H =>
    match obj H id, obj H vid with
    | some (sz3, rows), some (sz4, [vr]) =>
      if sz1 = sz ∧ sz2 = sz ∧ sz3 = sz ∧ sz4 = sz ∧ 0 < sz ∧ id ≠ vid ∧ rows.length = n ∧ kc = n ∧ 0 ≤ i ∧ i ≤ n ∧ n ≤ 1048576 then
        some (.osl H.length sz 0 (n + 1) (n + 1), (H.set id none) ++ [some (sz, rows.take i.toNat ++ [vr] ++ rows.drop i.toNat)])
      else none
    | _, _ => none
  | [.esl, .v (.int .i64 i), .osl vid sz2 0 1 1], H =>
    match obj H vid with
    | some (sz4, [vr]) => if sz2 = sz ∧ sz4 = sz ∧ 0 < sz ∧ i = 0 then some (.osl H.length sz 0 1 1, newObj' H sz [vr]) else none
    | _ => none
  | _, _ => none

theorem insert_of {f : FuncId} {fn : Func} {c : Code} {sz : Nat} (hf : P.funcs[f]? = some fn) (hb : fn.body = some c) (hn : 3 ≤ fn.ntmps)
    (h0 : ∀ (H : Heap) (vid : Nat) (vr : Row), obj H vid = some (sz, [vr]) → AWp P fn.ntmps H.length c (retA P fn fun x H2 => x = .osl H.length sz 0 1 1 ∧ H2 = newObj' H sz [vr]) (envOf 0 [.esl, .v (.int .i64 0), .osl vid sz 0 1 1]) H)
    (hE : ∀ (H : Heap) (id vid : Nat) (rows : List Row) (vr : Row), obj H id = some (sz, rows) → obj H vid = some (sz, [vr]) → id ≠ vid → rows.length ≤ 1048576 →
      AWp P fn.ntmps H.length c (retA P fn fun x H2 => x = .osl H.length sz 0 (rows.length + 1) (rows.length + 1) ∧ H2 = (H.set id none) ++ [some (sz, rows ++ [vr])]) (envOf 0 [.osl id sz 0 rows.length rows.length, .v (.int .i64 rows.length), .osl vid sz 0 1 1]) H)
    (hG : ∀ (H : Heap) (id vid i : Nat) (rows : List Row) (vr : Row), obj H id = some (sz, rows) → obj H vid = some (sz, [vr]) → id ≠ vid → id < H.length → vid < H.length → i < rows.length → rows.length ≤ 1048576 →
      AWp P fn.ntmps H.length c (retA P fn fun x H2 => x = .osl H.length sz 0 (rows.length + 1) (rows.length + 1) ∧ H2 = H ++ [some (sz, rows.take i ++ [vr] ++ rows.drop i)]) (envOf 0 [.xsl id sz 0 rows.length rows.length, .v (.int .i64 i), .osl vid sz 0 1 1]) H)
    (hI : ∀ (H : Heap) (id vid i cap : Nat) (rows : List Row) (vr jr : Row), obj H id = some (sz, rows ++ [jr]) → obj H vid = some (sz, [vr]) → id ≠ vid → id < H.length → vid < H.length → i < rows.length → rows.length ≤ 1048576 → rows.length + 1 ≤ cap →
      AWp P fn.ntmps H.length c (retA P fn fun x H2 => x = .xsl id sz 0 (rows.length + 1) cap ∧ H2 = H.set id (some (sz, rows.take i ++ [vr] ++ rows.drop i))) (envOf 0 [.xsl id sz 0 rows.length cap, .v (.int .i64 i), .osl vid sz 0 1 1]) H) :
    InlOk P f (insertI sz) := by
  intro args H x H' hr base w0 β fz w vals hs hargs
  refine .of hf hb ?_
  unfold insertI at hr
  split at hr
  · rename_i id sz1 n kc i vid sz2
    split at hr
    · rename_i sz3 rows sz4 vr hid hvid
      split at hr
      · rename_i hc
        obtain ⟨rfl, rfl, rfl, rfl, hz, hne, rfl, rfl, hi0, hin, hn2⟩ := hc
        simp only [Option.some.injEq, Prod.mk.injEq] at hr
        obtain ⟨rfl, rfl⟩ := hr
        obtain ⟨k, rfl⟩ := Int.eq_ofNat_of_zero_le hi0
        simp only [Int.toNat_natCast]
        have hidl := (List.getElem?_eq_some_iff.1 (obj_some hid)).1
        have hvidl := (List.getElem?_eq_some_iff.1 (obj_some hvid)).1
        by_cases hk : k = rows.length
        · subst hk
          refine body_calls hf hb (by simpa using hn) (hE H id vid rows vr hid hvid hne hn2) ⟨fn.ntmps, H.length, β, fz, w⟩ rfl rfl hs (Ext.refl _ _ _ _) hargs _ ?_
          rintro x v β' fz' H2 w' ⟨rfl, rfl⟩ hs' he hR
          exact ⟨v, β', fz', rfl, by simpa using hs', by simpa using he, by simpa using hR⟩
        · have hkl : k < rows.length := by omega
          have r0 := hargs.2 0 _ rfl
          generalize hv0 : vals[0]?.getD undef = v0 at r0
          cases r0 with
          | @osl _ _ _ _ _ _ ad cap h0' hl0 hk0 ha0 =>
            have hargs' : ArgsR β (okOf base fz) w H.length [.xsl id sz4 0 rows.length cap, .v (.int .i64 k), .osl vid sz4 0 1 1] vals := by
              refine ⟨hargs.1, fun j a ha => ?_⟩
              cases j with
              | zero => simp at ha; subst ha; rw [hv0]; exact .xsl h0' (by omega) ha0
              | succ j => exact hargs.2 (j + 1) a (by simpa using ha)
            rcases ha0 with ha0 | ⟨rfl, cs, e, ff, hcs, hle⟩
            · omega
            by_cases hcap : cap = rows.length
            · subst hcap
              refine body_calls hf hb (by simpa using hn) (hG H id vid k rows vr hid hvid hne hidl hvidl hkl hn2) ⟨fn.ntmps, H.length, β, fz, w⟩ rfl rfl hs (Ext.refl _ _ _ _) hargs' _ ?_
              rintro x v β' fz' H2 w' ⟨rfl, rfl⟩ hs' he hR
              obtain ⟨q1, q2⟩ := hs'.kill id
              rw [List.set_append_left _ _ hidl] at q1 q2
              refine ⟨v, β', fz', rfl, q1, he.trans q2, ?_⟩
              simpa using hR
            · have hcap2 : rows.length + 1 ≤ cap := by omega
              have hle2 : (rows.length + 1) * sz4 ≤ cs.size := Nat.le_trans (Nat.mul_le_mul_right _ (by omega)) hle
              have h00 : sz4 ≠ 0 := (obj_live hid).2
              have hs2 := hs.addRow (obj_some hid) hcs hle2
              have hlen2 : (H.set id (some (sz4, rows ++ [List.replicate sz4 .junk]))).length = H.length := by simp
              have ho1 : obj (H.set id (some (sz4, rows ++ [List.replicate sz4 .junk]))) id = some (sz4, rows ++ [List.replicate sz4 .junk]) := by simp [obj, hidl, h00]
              have ho2 : obj (H.set id (some (sz4, rows ++ [List.replicate sz4 .junk]))) vid = some (sz4, [vr]) := by
                unfold obj at hvid ⊢
                rw [List.getElem?_set_ne hne]; exact hvid
              have hA := hI (H.set id (some (sz4, rows ++ [List.replicate sz4 .junk]))) id vid k cap rows vr (List.replicate sz4 .junk) ho1 ho2 hne (by rw [hlen2]; exact hidl) (by rw [hlen2]; exact hvidl) hkl hn2 hcap2
              rw [hlen2] at hA
              refine body_calls hf hb (by simpa using hn) hA ⟨fn.ntmps, H.length, β, fz, w⟩ rfl rfl hs2 (by rw [hlen2]; exact Ext.refl _ _ _ _) (by rw [hlen2]; exact hargs') _ ?_
              rintro x v β' fz' H2 w' ⟨rfl, rfl⟩ hs' he hR
              rw [List.set_set] at hs' he hR
              have hget : (H.set id (some (sz4, rows.take k ++ [vr] ++ rows.drop k)))[id]? = some (some (sz4, rows.take k ++ [vr] ++ rows.drop k)) := List.getElem?_set_self hidl
              obtain ⟨p1, p2⟩ := hs'.rename hget
              rw [List.set_set] at p1 p2
              have hN : newObj' (H.set id none) sz4 (rows.take k ++ [vr] ++ rows.drop k) = H.set id none ++ [some (sz4, rows.take k ++ [vr] ++ rows.drop k)] := by simp [newObj', h00]
              rw [hN] at p1 p2
              simp only [List.length_set] at p1 p2 he hR
              cases hR with
              | @xsl _ _ _ _ _ _ ad' hh hl' ha' =>
                rcases ha' with ha' | ⟨rfl, cs', e', ff', hcs', hle'⟩
                · omega
                have hnew := newSl β' (H.set id none) (β' id) sz4 (rows.length + 1) cap (okOf base fz') w' (rows.take k ++ [vr] ++ rows.drop k) hcs' (by simpa using hle') (kc := rows.length + 1) (Nat.le_refl _) hcap2
                simp only [List.length_set] at hnew
                refine ⟨_, _, fz', rfl, p1, he.trans p2, ?_⟩
                simpa [newObj'] using hnew
      · cases hr
    · cases hr
  · rename_i i vid sz2
    split at hr
    · rename_i sz4 vr hvid
      split at hr
      · rename_i hc
        obtain ⟨rfl, rfl, hz, rfl⟩ := hc
        simp only [Option.some.injEq, Prod.mk.injEq] at hr
        obtain ⟨rfl, rfl⟩ := hr
        refine body_calls hf hb (by simpa using hn) (h0 H vid vr hvid) ⟨fn.ntmps, H.length, β, fz, w⟩ rfl rfl hs (Ext.refl _ _ _ _) hargs _ ?_
        rintro x v β' fz' H2 w' ⟨rfl, rfl⟩ hs' he hR
        exact ⟨v, β', fz', rfl, hs', he, hR⟩
      · cases hr
    · cases hr
  · cases hr
end
end Go.AI
