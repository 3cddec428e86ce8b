/- A call that is handed one object inside an aggregate. -/
import Derived.Test.YtebpjfdbjhodiaaAiZf
namespace Go.AI
set_option linter.unusedSimpArgs false
set_option linter.unusedVariables false
open Go.RowKit
section
variable {base : Nat} {w0 : World} {β : Nat → Nat} {fz : Nat → Prop} {H : Heap} {w : World} {P : Program}
/-- a call that is handed one object, in its first argument, behind a plain value -/
def frameA (m : Row → Heap → Option (AVal × Heap)) : Row → Heap → Option (AVal × Heap)
  | .agg [.v x0, .osl id sz s len kc] :: rest, H =>
    match obj H id with
    | some (sz', rows) =>
      if flat0 rows then
        match m (.agg [.v x0, .osl 0 sz s len kc] :: rest.map fun a => cold (view (H.set id none) depthV a)) [some (sz', rows)] with
        | some (r, o :: H1) => if bareA r && bareH (o :: H1) then some (tau [id] H.length r, (H.set id (tauO [id] H.length o)) ++ H1.map (tauO [id] H.length)) else none
        | _ => none
      else none
    | none => none
  | args, H => frame0 m args H

theorem frameA_ok {f : FuncId} {m : Row → Heap → Option (AVal × Heap)} (hm : InlOk P f m) : InlOk P f (frameA m) := by
  intro args H x H' hr base w0 β fz w vals hs hargs fn hfn
  unfold frameA at hr
  split at hr
  · rename_i x0 id sz s len kc rest
    split at hr
    · rename_i sz' rows hob
      split at hr
      · rename_i hflat
        split at hr
        · rename_i r o H1 hm1
          split at hr
          · rename_i hb
            simp only [Bool.and_eq_true] at hb
            simp only [Option.some.injEq, Prod.mk.injEq] at hr
            obtain ⟨rfl, rfl⟩ := hr
            have hid := obj_some hob
            have hidl := (List.getElem?_eq_some_iff.1 hid).1
            have hβ' : ∀ (j i : Nat), [id][j]? = some i → (fun _ : Nat => β id) j = β i := by
              intro j i h
              cases j with
              | zero => simp at h; rw [h]
              | succ j => simp at h
            have hs0 : HSim base w0 (fun _ => β id) (fzOf β fz H [id]) [some (sz', rows)] w := frame_start hs (by simp) hβ' (fun j o h => by
              cases j with
              | zero => simp at h; subst h; exact ⟨id, by simp, hid, hflat⟩
              | succ j => simp at h)
            obtain ⟨hk1, hk2⟩ := hs.kill id
            have hlive : ∀ k, Live (H.set id none) k → Live H k ∧ k ≠ id := by
              rintro k ⟨p, hp⟩
              by_cases hki : k = id
              · subst hki; rw [List.getElem?_set_self hidl] at hp; simp at hp
              · rw [List.getElem?_set_ne (by omega)] at hp; exact ⟨⟨p, hp⟩, hki⟩
            have hargs' : ArgsR (fun _ => β id) (okOf base (fzOf β fz H [id])) w ([some (sz', rows)] : Heap).length (.agg [.v x0, .osl 0 sz s len kc] :: rest.map fun a => cold (view (H.set id none) depthV a)) vals := by
              refine ⟨by simpa using hargs.1, fun j a ha => ?_⟩
              cases j with
              | zero =>
                simp at ha
                subst ha
                have := hargs.2 0 _ rfl
                generalize vals[0]?.getD undef = v0 at *
                cases this with
                | @agg _ _ xs hl hr =>
                  refine .agg hl fun j' c hj' => ?_
                  match j', hj' with
                  | 0, hj' =>
                    simp at hj'; subst hj'
                    have := hr 0 _ rfl
                    rw [this.v_inv]; exact .v
                  | 1, hj' =>
                    simp at hj'; subst hj'
                    have := hr 1 _ rfl
                    generalize xs[1]?.getD undef = v1 at *
                    cases this with
                    | osl h hl hk hc => exact .osl (by simp) hl hk hc
                  | j' + 2, hj' => simp at hj'
              | succ j =>
                simp only [List.getElem?_cons_succ, List.getElem?_map, Option.map_eq_some_iff] at ha
                obtain ⟨y, hy, rfl⟩ := ha
                have hy' := (hargs.2 (j + 1) y (by simpa using hy)).ext hk2
                have h1 := view_R' (fz' := fzOf β fz H [id]) hk1 (fun b hb => .inl hb) (fun k hk => .inr ⟨k, (hlive k hk).1, by simpa using (hlive k hk).2, rfl⟩) depthV y _ hy'
                have h2 := cold_R (ok' := okOf base (fzOf β fz H [id])) h1 (fun o b hb => ⟨hb.1, fun h => by cases h⟩)
                exact h2.mono (Nat.zero_le _) (fun _ h => absurd h (Nat.not_lt_zero _)) (fun _ _ h => h) (fun _ _ _ => rfl) (Shapes.refl _)
            have key : ∀ (e : Ending) (w1 : World), (∃ v β' fz', e = .returned v ∧ HSim base w0 β' fz' (o :: H1) w1 ∧ Ext ([some (sz', rows)] : Heap).length (fun _ => β id) (fzOf β fz H [id]) w (o :: H1).length β' fz' w1 ∧ R β' (okOf base fz') w1 (o :: H1).length r v) →
                ∃ v β' fz', e = .returned v ∧ HSim base w0 β' fz' ((H.set id (tauO [id] H.length o)) ++ H1.map (tauO [id] H.length)) w1 ∧ Ext H.length β fz w ((H.set id (tauO [id] H.length o)) ++ H1.map (tauO [id] H.length)).length β' fz' w1 ∧ R β' (okOf base fz') w1 ((H.set id (tauO [id] H.length o)) ++ H1.map (tauO [id] H.length)).length (tau [id] H.length r) v := by
              rintro e w1 ⟨v, β1, fz1, he, k1, k2, k3⟩
              obtain ⟨β2, fz2, q1, q2, q3⟩ := frame_end (fp := [id]) (H2 := (H.set id (tauO [id] H.length o)) ++ H1.map (tauO [id] H.length)) hs (by simpa using hidl) hβ' k1 k2 k3 hb.1 (bareH_get hb.2) (by simp) (by
                intro q p hq
                rw [List.getElem?_append] at hq
                split at hq
                · rename_i hlt
                  simp only [List.length_set] at hlt
                  by_cases hqi : q = id
                  · subst hqi
                    rw [List.getElem?_set_self hlt] at hq
                    simp only [Option.some.injEq] at hq
                    cases o with
                    | none => simp [tauO] at hq
                    | some o => exact .inl ⟨0, o, by simp [tauI], by simp, hq.symm⟩
                  · rw [List.getElem?_set_ne (by omega)] at hq
                    exact .inr ⟨hlt, by simpa using hqi, hq⟩
                · rename_i hlt
                  left
                  simp only [List.length_set] at hlt hq
                  simp only [List.getElem?_map, Option.map_eq_some_iff] at hq
                  obtain ⟨o1, ho1, ho2⟩ := hq
                  cases o1 with
                  | none => simp [tauO] at ho2
                  | some o1 => exact ⟨q - H.length + 1, o1, by simp [tauI]; omega, by simpa using ho1, ho2.symm⟩)
              exact ⟨v, β2, fz2, he, q1, q2, q3⟩
            obtain ⟨c1, c2⟩ := hm _ _ _ _ hm1 base w0 _ (fzOf β fz H [id]) w vals hs0 hargs' fn hfn
            refine ⟨fun h => (c1 h).mono (fun e w1 => key e w1), fun h => ?_⟩
            obtain ⟨v, w', h1, h2⟩ := c2 h
            exact ⟨v, w', h1, key _ _ h2⟩
          · cases hr
        · cases hr
      · cases hr
    · cases hr
  · exact frame0_ok hm _ _ _ _ hr base w0 β fz w vals hs hargs fn hfn

end
def frameAF : Row → Option (List Nat)
  | .agg [.v _, .osl id _ _ _ _] :: rest => if rest.all noId then some [id] else none
  | args => frame0F args
theorem frameA_loc {m : Row → Heap → Option (AVal × Heap)} : ∀ args ids, frameAF args = some ids → Loc (frameA m args) ids true := by
  intro args ids h
  unfold frameAF at h
  split at h
  · rename_i x0 id sz s len kc rest
    split at h
    · rename_i hn
      simp at h
      subst h
      have e : ∀ H, (rest.map fun a => cold (view H depthV a)) = rest.map fun a => cold (view [] depthV a) := by
        intro H
        apply List.map_congr_left
        intro x hx
        rw [noId_view H _ _ (List.all_eq_true.1 hn x hx)]
      refine ⟨fun f n => match f id with
        | some (sz', rows) =>
          if flat0 rows then
            match m (.agg [.v x0, .osl 0 sz s len kc] :: rest.map fun a => cold (view [] depthV a)) [some (sz', rows)] with
            | some (r, o :: H1) => if bareA r && bareH (o :: H1) then some (tau [id] n r, [(id, tauO [id] n o)], H1.map (tauO [id] n)) else none
            | _ => none
          else none
        | none => none, ⟨fun f g n hh => by simp only [hh id (by simp)], fun f n r hr => ?_, fun h => by cases h⟩, fun H => ?_⟩
      · refine ⟨fun u hu => ?_, fun h => by cases h⟩
        split at hr
        · split at hr
          · split at hr
            · split at hr
              · simp at hr; subst hr; simp at hu; subst hu; simp
              · cases hr
            · cases hr
          · cases hr
        · cases hr
      · simp only [frameA, e]
        cases obj H id with
        | none => rfl
        | some p =>
          obtain ⟨sz', rows⟩ := p
          simp only
          split
          · generalize m (.agg [.v x0, .osl 0 sz s len kc] :: rest.map fun a => cold (view [] depthV a)) [some (sz', rows)] = z
            cases z with
            | none => rfl
            | some q =>
              obtain ⟨r, H1⟩ := q
              cases H1 with
              | nil => rfl
              | cons o H1 =>
                simp only
                split <;> simp [updL]
          · rfl
    · cases h
  · rename_i hne
    have : frameA m args = frame0 m args := by
      funext H
      unfold frameA
      split
      · rename_i x0 id sz s len kc rest
        exact absurd rfl (hne _ _ _ _ _ _ _)
      · rfl
    rw [this]
    exact frame0_loc args ids h
end Go.AI
