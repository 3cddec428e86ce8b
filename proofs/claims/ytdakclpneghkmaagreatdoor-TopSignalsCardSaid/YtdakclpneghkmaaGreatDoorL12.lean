/- Calls of functions that own what they return: the frame. -/
import Derived.Test.YtdakclpneghkmaaGreatDoorL11
set_option linter.unusedSimpArgs false
set_option linter.unusedVariables false
namespace Go.AI
open Go.RowKit
section
variable {base : Nat} {w0 : World} {β : Nat → Nat} {fz fz' : Nat → Prop} {H : Heap} {w : World} {P : Program}

theorem inner1 {x : AVal} {v : Value} (h1 : ∀ b, fz b → fz' b) (h : R β (okOf base fz) w 0 x v) (n : Nat) : R β0 (okOf base fz') w n x v :=
  h.mono (Nat.zero_le _) (fun _ h => absurd h (Nat.not_lt_zero _)) (fun _ b hb => ⟨h1 b hb.1, hb.2⟩) (fun _ _ _ => rfl) (Shapes.refl _)

theorem view_R' (hs : HSim base w0 β fz H w) (h1 : ∀ b, fz b → fz' b) (h2 : ∀ id, Live H id → fz' (β id)) : ∀ (d : Nat) (x : AVal) (v : Value), R β (okOf base fz) w H.length x v → R β0 (okOf base fz') w 0 (view H d x) v := by
  intro d
  induction d with
  | zero =>
    intro x v h
    cases h with
    | junk => simp only [view]; exact .junk
    | anyb => simp only [view]; exact .anyb
    | v => simp only [view]; exact .v
    | ptr h _ => simp only [view]; exact .junk
    | mp h => simp only [view]; exact .junk
    | fptr x hb hc hr => simp only [view]; exact .fptr x (fun h => ⟨h1 _ (hb h).1, (hb h).2⟩) hc (fun j a ha => inner1 h1 (hr j a ha) 0)
    | osl h hl hk ha => simp only [view]; exact .junk
    | xsl h hl ha => simp only [view]; exact .junk
    | fsl x hl hsz hb hc hr => simp only [view]; exact .fsl x hl hsz (fun h => ⟨h1 _ (hb h).1, (hb h).2⟩) hc (fun i r hi j a ha => inner1 h1 (hr i r hi j a ha) 0)
    | fsl0 => simp only [view]; exact .fsl0
    | esl => simp only [view]; exact .esl
    | agg hl hr => simp only [view]; exact .junk
    | tup hl hr => simp only [view]; exact .junk
    | fn hl hr => simp only [view]; exact .junk
    | when h hu => simp only [view]; exact .junk
    | ifc h => simp only [view]; exact .junk
    | meth => simp only [view]; exact .meth
  | succ d ih =>
    intro x v h
    cases h with
    | junk => simp only [view]; exact .junk
    | anyb => simp only [view]; exact .anyb
    | v => simp only [view]; exact .v
    | @mp _ id h =>
      simp only [view]
      split
      · rename_i sz' rows hob
        split
        · split
          · rename_i hsz; exact absurd hsz (obj_live hob).2
          · exact .junk
        · exact .junk
      · exact .junk
    | @ptr _ id sz i off h _ =>
      simp only [view]
      split
      · rename_i sz' rows hob
        split
        · rename_i r hr
          split
          · rename_i hsz
            subst hsz
            obtain ⟨cs, e, g1, g2, g3, g4, g5⟩ := hs.cells hob
            have hi : i < rows.length := (List.getElem?_eq_some_iff.1 hr).1
            have hrl : r.length = sz' := g2 r (List.mem_of_getElem? hr)
            have hmul : (i + 1) * sz' ≤ rows.length * sz' := Nat.mul_le_mul_right _ hi
            rw [Nat.succ_mul] at hmul
            refine .fptr (fun j => cs[i * sz' + j]?.getD undef) (fun _ => ⟨h2 id ⟨_, obj_some hob⟩, fun h => by cases h⟩) (fun j hj => ?_) (fun j c hj => ?_)
            · have : i * sz' + j < cs.size := by simp at hj; omega
              simp [World.cell?, g1, this]
            · simp only [List.getElem?_map, Option.map_eq_some_iff] at hj
              obtain ⟨y, hy, rfl⟩ := hj
              exact ih _ _ (g5 i r hr j y hy)
          · exact .junk
        · exact .junk
      · exact .junk
    | fptr x hb hc hr => simp only [view]; exact .fptr x (fun h => ⟨h1 _ (hb h).1, (hb h).2⟩) hc (fun j a ha => inner1 h1 (hr j a ha) 0)
    | @osl _ id sz s len kc ad cap h hl hk ha =>
      simp only [view]
      split
      · rename_i sz' rows hob
        split
        · rename_i hcond
          obtain ⟨rfl, hsl⟩ := hcond
          obtain ⟨cs, e, g1, g2, g3, g4, g5⟩ := hs.cells hob
          have hbase := (hs.own id ⟨_, obj_some hob⟩).1
          have hlen : (((rows.drop s).take len).map fun r => r.map (view H d)).length = len := by simp; omega
          by_cases hl0 : len = 0
          · subst hl0
            simp only [List.take_zero, List.map_nil]
            exact .fsl0
          · rcases ha with ha | ⟨rfl, _⟩
            · omega
            · have := R.fsl (β := β0) (ok := okOf base fz') (w := w) (n := 0) (o := true) (sz := sz') (rows := ((rows.drop s).take len).map fun r => r.map (view H d)) (b := β id) (off := s * sz') (cap := cap)
                (fun i j => cs[(s + i) * sz' + j]?.getD undef) (by omega)
                (fun r hr => by
                  simp only [List.mem_map] at hr
                  obtain ⟨r', hr', rfl⟩ := hr
                  simpa using g2 r' (List.mem_of_mem_drop (List.mem_of_mem_take hr'))) (fun _ => ⟨h2 id ⟨_, obj_some hob⟩, fun _ => hbase⟩)
                (fun i j hi hj => by
                  rw [hlen] at hi
                  have h1 : (s + i) * sz' + j < rows.length * sz' := row_lt (by omega) hj
                  have h2 : (s + i) * sz' + j < cs.size := by omega
                  have e1 : s * sz' + i * sz' + j = (s + i) * sz' + j := by rw [Nat.add_mul]
                  rw [e1]
                  refine ⟨by simp [World.cell?, g1, h2], g4 ((s + i) * sz' + j) _ (by simp [h2])⟩)
                (fun i r hi j c hj => by
                  have hil : i < len := by have := (List.getElem?_eq_some_iff.1 hi).1; omega
                  simp only [List.getElem?_map, Option.map_eq_some_iff] at hi
                  obtain ⟨r', hr', rfl⟩ := hi
                  simp only [List.getElem?_map, Option.map_eq_some_iff] at hj
                  obtain ⟨y, hy, rfl⟩ := hj
                  rw [List.getElem?_take_of_lt hil, List.getElem?_drop] at hr'
                  exact ih _ _ (g5 (s + i) r' hr' j y hy))
              rwa [hlen] at this
        · exact .junk
      · exact .junk
    | xsl h hl ha => simp only [view]; exact .junk
    | fsl x hl hsz hb hc hr => simp only [view]; exact .fsl x hl hsz (fun h => ⟨h1 _ (hb h).1, (hb h).2⟩) hc (fun i r hi j a ha => inner1 h1 (hr i r hi j a ha) 0)
    | fsl0 => simp only [view]; exact .fsl0
    | esl => simp only [view]; exact .esl
    | agg hl hr =>
      simp only [view]
      refine .agg (by simpa using hl) fun j a ha => ?_
      simp only [List.getElem?_map, Option.map_eq_some_iff] at ha
      obtain ⟨y, hy, rfl⟩ := ha
      exact ih _ _ (hr j y hy)
    | tup hl hr =>
      simp only [view]
      refine .tup (by simpa using hl) fun j a ha => ?_
      simp only [List.getElem?_map, Option.map_eq_some_iff] at ha
      obtain ⟨y, hy, rfl⟩ := ha
      exact ih _ _ (hr j y hy)
    | fn hl hr =>
      simp only [view]
      refine .fn (by simpa using hl) fun j a ha => ?_
      simp only [List.getElem?_map, Option.map_eq_some_iff] at ha
      obtain ⟨y, hy, rfl⟩ := ha
      exact ih _ _ (hr j y hy)
    | when h hu => simp only [view]; exact .junk
    | ifc h => simp only [view]; exact .ifc (ih _ _ h)
    | meth => simp only [view]; exact .meth

/-- the caller's names of the callee's objects -/
def tauI (fp : List Nat) (n : Nat) (j : Nat) : Nat := match fp[j]? with | some id => id | none => n + (j - fp.length)
mutual
def tau (fp : List Nat) (n : Nat) : AVal → AVal
  | .ptr id sz i off => .ptr (tauI fp n id) sz i off
  | .osl id sz s len kc => .osl (tauI fp n id) sz s len kc
  | .xsl id sz s len kc => .xsl (tauI fp n id) sz s len kc
  | .agg cs => .agg (tauC fp n cs)
  | .tup vs => .tup (tauC fp n vs)
  | a => a
def tauC (fp : List Nat) (n : Nat) : List AVal → List AVal
  | [] => []
  | a :: r => tau fp n a :: tauC fp n r
end
mutual
/-- nothing frozen in it -/
def bareA : AVal → Bool
  | .v _ => true
  | .ptr _ _ _ _ => true
  | .osl _ _ _ _ _ => true
  | .xsl _ _ _ _ _ => true
  | .esl => true
  | .junk => true
  | .anyb => true
  | .agg cs => bareC cs
  | .tup vs => bareC vs
  | .fsl _ _ rows => rows.isEmpty
  | _ => false
def bareC : List AVal → Bool
  | [] => true
  | a :: r => bareA a && bareC r
end
theorem tauC_map (fp : List Nat) (n : Nat) (l : Row) : tauC fp n l = l.map (tau fp n) := by
  induction l with
  | nil => simp [tauC]
  | cons a r ih => simp [tauC, ih]
theorem bareC_all (l : Row) : bareC l = l.all bareA := by
  induction l with
  | nil => simp [bareC]
  | cons a r ih => simp [bareC, ih]

theorem tau_R {fp : List Nat} {n m n2 : Nat} {β1 β2 : Nat → Nat} {ok ok2 : Bool → Nat → Prop} (hβ : ∀ j, j < m → β2 (tauI fp n j) = β1 j ∧ tauI fp n j < n2) : ∀ {a : AVal} {v : Value}, R β1 ok w m a v → bareA a = true → R β2 ok2 w n2 (tau fp n a) v := by
  intro a v h
  induction h with
  | junk => intro _; simp only [tau]; exact .junk
  | anyb => intro _; simp only [tau]; exact .anyb
  | v => intro _; simp only [tau]; exact .v
  | ptr h h0 => intro _; simp only [tau]; rw [← (hβ _ h).1]; exact .ptr (hβ _ h).2 h0
  | mp h => intro _; simp only [tau]; rw [← (hβ _ h).1]; exact .mp (hβ _ h).2
  | fptr x hb hc hr ih => intro hb; simp [bareA] at hb
  | osl h hl hk ha => intro _; simp only [tau]; exact .osl (hβ _ h).2 hl hk (by rw [(hβ _ h).1]; exact ha)
  | xsl h hl ha => intro _; simp only [tau]; exact .xsl (hβ _ h).2 hl (by rw [(hβ _ h).1]; exact ha)
  | @fsl _ _ _ rows _ _ _ x hl hs hb hc hr ih =>
    intro hb
    simp [bareA] at hb
    subst hb
    simp only [tau]; exact .fsl0
  | fsl0 => intro _; simp only [tau]; exact .fsl0
  | esl => intro _; simp only [tau]; exact .esl
  | agg hl hr ih =>
    intro hb
    simp only [bareA, bareC_all] at hb
    simp only [tau, tauC_map]
    refine .agg (by simpa using hl) fun j a ha => ?_
    simp only [List.getElem?_map, Option.map_eq_some_iff] at ha
    obtain ⟨y, hy, rfl⟩ := ha
    exact ih j y hy hβ (List.all_eq_true.1 hb y (List.mem_of_getElem? hy))
  | tup hl hr ih =>
    intro hb
    simp only [bareA, bareC_all] at hb
    simp only [tau, tauC_map]
    refine .tup (by simpa using hl) fun j a ha => ?_
    simp only [List.getElem?_map, Option.map_eq_some_iff] at ha
    obtain ⟨y, hy, rfl⟩ := ha
    exact ih j y hy hβ (List.all_eq_true.1 hb y (List.mem_of_getElem? hy))
  | fn hl hr ih => intro hb; simp [bareA] at hb
  | when h hu ih => intro hb; simp [bareA] at hb
  | ifc h ih => intro hb; simp [bareA] at hb
  | meth => intro hb; simp [bareA] at hb

/-- all that is not handed over counts as frozen -/
def fzOf (β : Nat → Nat) (fz : Nat → Prop) (H : Heap) (fp : List Nat) (b : Nat) : Prop := fz b ∨ ∃ id, Live H id ∧ id ∉ fp ∧ b = β id
def tauO (fp : List Nat) (n : Nat) : Option (Nat × List Row) → Option (Nat × List Row)
  | some o => some (o.1, o.2.map (List.map (tau fp n)))
  | none => none
def flat0 (rows : List Row) : Bool := rows.all fun r => r.all (lowA 0)

theorem frame_start (hs : HSim base w0 β fz H w) {fp : List Nat} (hnd : fp.Nodup) {β' : Nat → Nat} (hβ' : ∀ (j id : Nat), fp[j]? = some id → β' j = β id) {H0 : Heap}
    (hH0 : ∀ (j : Nat) o, H0[j]? = some (some o) → ∃ id, fp[j]? = some id ∧ H[id]? = some (some o) ∧ flat0 o.2 = true) : HSim base w0 β' (fzOf β fz H fp) H0 w := by
  have hlive : ∀ j, Live H0 j → ∃ id, fp[j]? = some id ∧ Live H id := by
    rintro j ⟨o, ho⟩
    obtain ⟨id, h1, h2, _⟩ := hH0 j o ho
    exact ⟨id, h1, o, h2⟩
  refine ⟨?_, ?_, ?_, ?_, hs.below, hs.base⟩
  · intro j sz rows hj
    obtain ⟨id, h1, h2, h3⟩ := hH0 j _ hj
    have hlow : ∀ (i : Nat) (r : Row), rows[i]? = some r → ∀ (k : Nat) (a : AVal), r[k]? = some a → lowA 0 a = true := fun i r hi k a ha => by
      have := List.all_eq_true.1 h3 r (List.mem_of_getElem? hi)
      exact List.all_eq_true.1 this a (List.mem_of_getElem? ha)
    have hO := hs.objs' id _ _ h2
    unfold OSim at hO ⊢
    split at hO
    · rename_i h0
      rw [if_pos h0]
      rcases hO with hO | hO
      case inr =>
        refine .inr (hO.same (fun r hr c hc v hR => ?_) (by rw [hβ' j id h1]))
        have hl : lowA 0 c = true := List.all_eq_true.1 (List.all_eq_true.1 h3 r hr) c hc
        exact (low_R hR hl).mono (Nat.zero_le _) (fun _ h => absurd h (Nat.not_lt_zero _)) (fun _ b hb => ⟨.inl hb.1, hb.2⟩) (fun _ _ _ => rfl) (Shapes.refl _)
      obtain ⟨rs, hp, es, clock, q1, q2, hbn, q3⟩ := hO
      refine .inl ⟨rs, hp, es, clock, by rw [hβ' j id h1]; exact q1, q2, hbn, fun i r hi => ?_⟩
      obtain ⟨en, x, p1, p2, p3⟩ := q3 i r hi
      obtain ⟨i', hi'⟩ := List.mem_iff_getElem?.1 (hp.mem_iff.1 (List.mem_of_getElem? hi))
      exact ⟨en, x, p1, p2, (low_R p3 (hlow i' r hi' 1 x (by rw [p2]; rfl))).mono (Nat.zero_le _) (fun _ h => absurd h (Nat.not_lt_zero _)) (fun _ b hb => ⟨.inl hb.1, hb.2⟩) (fun _ _ _ => rfl) (Shapes.refl _)⟩
    rename_i h0
    rw [if_neg h0]
    obtain ⟨cs, e, g1, g2, g3, g4, g5⟩ := hO
    refine ⟨cs, e, by rw [hβ' j id h1]; exact g1, g2, g3, g4, fun i r hi k a ha => ?_⟩
    exact (low_R (g5 i r hi k a ha) (hlow i r hi k a ha)).mono (Nat.zero_le _) (fun _ h => absurd h (Nat.not_lt_zero _)) (fun _ b hb => ⟨.inl hb.1, hb.2⟩) (fun _ _ _ => rfl) (Shapes.refl _)
  · intro a b ha hb hab
    obtain ⟨x, hx, hlx⟩ := hlive a ha
    obtain ⟨y, hy, hly⟩ := hlive b hb
    rw [hβ' a x hx, hβ' b y hy] at hab
    have hxy := hs.inj x y hlx hly hab
    subst hxy
    obtain ⟨h1, h2⟩ := List.getElem?_eq_some_iff.1 hx
    obtain ⟨h3, h4⟩ := List.getElem?_eq_some_iff.1 hy
    have hpw := List.pairwise_iff_getElem.1 hnd
    rcases Nat.lt_trichotomy a b with q | q | q
    · exact absurd (h2.trans h4.symm) (hpw _ _ h1 h3 q)
    · exact q
    · exact absurd (h4.trans h2.symm) (hpw _ _ h3 h1 q)
  · intro a ha
    obtain ⟨x, hx, hlx⟩ := hlive a ha
    rw [hβ' a x hx]
    refine ⟨(hs.own x hlx).1, ?_⟩
    rintro (h | ⟨id, h1, h2, h3⟩)
    · exact (hs.own x hlx).2 h
    · have := hs.inj x id hlx h1 h3
      subst this
      exact h2 (List.mem_of_getElem? hx)
  · rintro b (h | ⟨id, ⟨o, ho⟩, _, rfl⟩)
    · exact hs.fzlt b h
    · exact hs.blt ⟨_, ho⟩

theorem frame_end (hs : HSim base w0 β fz H w) {fp : List Nat} (hfp : ∀ id ∈ fp, id < H.length) {β' β1 : Nat → Nat} (hβ' : ∀ (j id : Nat), fp[j]? = some id → β' j = β id) {fz1 : Nat → Prop} {H1 H2 : Heap} {w1 : World} {r : AVal} {v : Value}
    (hs1 : HSim base w0 β1 fz1 H1 w1) (he : Ext fp.length β' (fzOf β fz H fp) w H1.length β1 fz1 w1) (hR : R β1 (okOf base fz1) w1 H1.length r v) (hbr : bareA r = true)
    (hbH : ∀ (j : Nat) o, H1[j]? = some (some o) → (o.2.all fun row => row.all bareA) = true) (hlen : H2.length = H.length + (H1.length - fp.length))
    (hL : ∀ (q : Nat) o, H2[q]? = some (some o) → (∃ j o1, q = tauI fp H.length j ∧ H1[j]? = some (some o1) ∧ some o = tauO fp H.length (some o1)) ∨ (q < H.length ∧ q ∉ fp ∧ H[q]? = some (some o))) :
    ∃ β2 fz2, HSim base w0 β2 fz2 H2 w1 ∧ Ext H.length β fz w H2.length β2 fz2 w1 ∧ R β2 (okOf base fz2) w1 H2.length (tau fp H.length r) v := by
  have hn := he.hn
  refine ⟨fun id => if id < H.length then β id else β1 (id - H.length + fp.length), fun b => fz1 b ∧ ¬ ∃ id, Live H id ∧ id ∉ fp ∧ b = β id, ?_⟩
  generalize hβ2 : (fun id => if id < H.length then β id else β1 (id - H.length + fp.length)) = β2
  generalize hfz2 : (fun b => fz1 b ∧ ¬ ∃ id, Live H id ∧ id ∉ fp ∧ b = β id) = fz2
  have bOld : ∀ id, id < H.length → β2 id = β id := by intro id h; rw [← hβ2]; simp [h]
  have bNew : ∀ j, j < H1.length → β2 (tauI fp H.length j) = β1 j ∧ tauI fp H.length j < H2.length := by
    intro j hj
    unfold tauI
    cases hq : fp[j]? with
    | some id =>
      simp only
      have hm := hfp id (List.mem_of_getElem? hq)
      have hjl : j < fp.length := (List.getElem?_eq_some_iff.1 hq).1
      rw [bOld id hm, he.hβ j hjl, hβ' j id hq]
      exact ⟨rfl, by omega⟩
    | none =>
      simp only
      have hjl : fp.length ≤ j := by simpa using hq
      rw [← hβ2]
      have : ¬ H.length + (j - fp.length) < H.length := by omega
      have e : H.length + (j - fp.length) - H.length + fp.length = j := by omega
      simp only [this, if_false, e, true_and]
      omega
  have fzUp : ∀ b, fz b → fz2 b := by
    intro b hb
    rw [← hfz2]
    refine ⟨he.hfz b (.inl hb), ?_⟩
    rintro ⟨id, h1, _, rfl⟩
    exact (hs.own id h1).2 hb
  have ext : Ext H.length β fz w H2.length β2 fz2 w1 := ⟨by omega, bOld, fzUp, fun b hb => he.blk b (.inl hb), he.shape⟩
  have hRn : ∀ {a : AVal} {x : Value}, R β1 (okOf base fz1) w1 H1.length a x → bareA a = true → R β2 (okOf base fz2) w1 H2.length (tau fp H.length a) x := fun h hb => tau_R bNew h hb
  refine ⟨⟨?_, ?_, ?_, ?_, hs1.below, hs1.base⟩, ext, hRn hR hbr⟩
  · intro q sz rows hq
    rcases hL q _ hq with ⟨j, ⟨sz1, rows1⟩, rfl, hj, ho⟩ | ⟨h1, h2, h3⟩
    · simp only [tauO, Option.some.injEq, Prod.mk.injEq] at ho
      obtain ⟨rfl, rfl⟩ := ho
      have hO := hs1.objs' j _ _ hj
      have hjl := (List.getElem?_eq_some_iff.1 hj).1
      unfold OSim at hO ⊢
      split at hO
      · rename_i h0
        rw [if_pos h0]
        rcases hO with hO | hO
        case inr => exact .inr (hO.map (fun r hr c hc v hR => hRn hR (List.all_eq_true.1 (List.all_eq_true.1 (hbH j _ hj) r hr) c hc)) (by rw [(bNew j hjl).1]))
        obtain ⟨rs, hp, es, clock, q1, q2, hbn, q3⟩ := hO
        refine .inl ⟨rs.map (List.map (tau fp H.length)), hp.map _, es, clock, by rw [(bNew j hjl).1]; exact q1, by simpa using q2, hbn, fun i rr hi => ?_⟩
        simp only [List.getElem?_map, Option.map_eq_some_iff] at hi
        obtain ⟨r', hr', rfl⟩ := hi
        obtain ⟨en, x, p1, p2, p3⟩ := q3 i r' hr'
        have hb := List.all_eq_true.1 (hbH j _ hj) r' (hp.mem_iff.1 (List.mem_of_getElem? hr'))
        subst p2
        exact ⟨en, tau fp H.length x, p1, by simp [tau], hRn p3 (List.all_eq_true.1 hb x (by simp))⟩
      rename_i h0
      rw [if_neg h0]
      obtain ⟨cs, e, g1, g2, g3, g4, g5⟩ := hO
      refine ⟨cs, e, by rw [(bNew j hjl).1]; exact g1, ?_, by simpa using g3, g4, fun i rr hi k a ha => ?_⟩
      · intro rr hr
        simp only [List.mem_map] at hr
        obtain ⟨r', hr', rfl⟩ := hr
        simpa using g2 r' hr'
      · simp only [List.getElem?_map, Option.map_eq_some_iff] at hi
        obtain ⟨r', hr', rfl⟩ := hi
        simp only [List.getElem?_map, Option.map_eq_some_iff] at ha
        obtain ⟨y, hy, rfl⟩ := ha
        have hb := List.all_eq_true.1 (hbH j _ hj) r' (List.mem_of_getElem? hr')
        exact hRn (g5 i r' hr' k y hy) (List.all_eq_true.1 hb y (List.mem_of_getElem? hy))
    · refine (hs.objs' q _ _ h3).ext ext ?_
      rw [bOld q h1, he.blk _ (.inr ⟨q, ⟨_, h3⟩, h2, rfl⟩)]
  · rintro a b ⟨oa, ha⟩ ⟨ob, hb⟩ hab
    rcases hL a _ ha with ⟨j, o1, rfl, hj, ho⟩ | ⟨h1, h2, h3⟩
    · have hjl := (List.getElem?_eq_some_iff.1 hj).1
      rcases hL b _ hb with ⟨j', o1', rfl, hj', ho'⟩ | ⟨h1', h2', h3'⟩
      · have hjl' := (List.getElem?_eq_some_iff.1 hj').1
        rw [(bNew j hjl).1, (bNew j' hjl').1] at hab
        rw [hs1.inj j j' ⟨_, hj⟩ ⟨_, hj'⟩ hab]
      · exfalso
        rw [(bNew j hjl).1, bOld b h1'] at hab
        refine (hs1.own j ⟨_, hj⟩).2 ?_
        rw [hab]
        exact he.hfz _ (.inr ⟨b, ⟨_, h3'⟩, h2', rfl⟩)
    · rcases hL b _ hb with ⟨j', o1', rfl, hj', ho'⟩ | ⟨h1', h2', h3'⟩
      · exfalso
        have hjl' := (List.getElem?_eq_some_iff.1 hj').1
        rw [(bNew j' hjl').1, bOld a h1] at hab
        refine (hs1.own j' ⟨_, hj'⟩).2 ?_
        rw [← hab]
        exact he.hfz _ (.inr ⟨a, ⟨_, h3⟩, h2, rfl⟩)
      · rw [bOld a h1, bOld b h1'] at hab
        exact hs.inj a b ⟨_, h3⟩ ⟨_, h3'⟩ hab
  · rintro a ⟨oa, ha⟩
    rcases hL a _ ha with ⟨j, o1, rfl, hj, ho⟩ | ⟨h1, h2, h3⟩
    · have hjl := (List.getElem?_eq_some_iff.1 hj).1
      rw [(bNew j hjl).1]
      refine ⟨(hs1.own j ⟨_, hj⟩).1, fun h => (hs1.own j ⟨_, hj⟩).2 ?_⟩
      rw [← hfz2] at h
      exact h.1
    · rw [bOld a h1]
      refine ⟨(hs.own a ⟨_, h3⟩).1, fun h => ?_⟩
      rw [← hfz2] at h
      exact h.2 ⟨a, ⟨_, h3⟩, h2, rfl⟩
  · intro b hb
    rw [← hfz2] at hb
    exact hs1.fzlt b hb.1

def bareH : Heap → Bool
  | [] => true
  | some o :: r => (o.2.all fun row => row.all bareA) && bareH r
  | none :: r => bareH r
theorem bareH_get : ∀ {H1 : Heap}, bareH H1 = true → ∀ (j : Nat) o, H1[j]? = some (some o) → (o.2.all fun row => row.all bareA) = true
  | [], _, j, o, h => by simp at h
  | none :: r, hb, j, o, h => by
    cases j with
    | zero => simp at h
    | succ j => exact bareH_get (H1 := r) (by simpa [bareH] using hb) j o (by simpa using h)
  | some p :: r, hb, j, o, h => by
    simp only [bareH, Bool.and_eq_true] at hb
    cases j with
    | zero => simp at h; subst h; exact hb.1
    | succ j => exact bareH_get (H1 := r) hb.2 j o (by simpa using h)

/-- a call that is handed no object -/
def frame0 (m : Row → Heap → Option (AVal × Heap)) (args : Row) (H : Heap) : Option (AVal × Heap) :=
  match m (args.map fun a => cold (view H depthV a)) [] with
  | some (r, H1) => if bareA r && bareH H1 then some (tau [] H.length r, H ++ H1.map (tauO [] H.length)) else none
  | none => none
/-- a call that is handed one object, as its first argument -/
def frame1 (m : Row → Heap → Option (AVal × Heap)) : Row → Heap → Option (AVal × Heap)
  | .osl id sz s len kc :: rest, H =>
    match obj H id with
    | some (sz', rows) =>
      if flat0 rows then
        match m (.osl 0 sz s len kc :: rest.map fun a => cold (view (H.set id none) depthV a)) [some (sz', rows)] with
        | some (r, o :: H1) => if bareA r && bareH (o :: H1) then some (tau [id] H.length r, (H.set id (tauO [id] H.length o)) ++ H1.map (tauO [id] H.length)) else none
        | _ => none
      else none
    | none => none
  | args, H => frame0 m args H

theorem frame0_ok {f : FuncId} {m : Row → Heap → Option (AVal × Heap)} (hm : InlOk P f m) : InlOk P f (frame0 m) := by
  intro args H x H' hr base w0 β fz w vals hs hargs fn hfn
  unfold frame0 at hr
  split at hr
  · rename_i r H1 hm1
    split at hr
    · rename_i hb
      simp only [Bool.and_eq_true] at hb
      simp only [Option.some.injEq, Prod.mk.injEq] at hr
      obtain ⟨rfl, rfl⟩ := hr
      have hs0 : HSim base w0 β (fzOf β fz H []) [] w := frame_start hs (List.nodup_nil) (fun j id h => by simp at h) (fun j o h => by simp at h)
      have hargs' : ArgsR β (okOf base (fzOf β fz H [])) w ([] : Heap).length (args.map fun a => cold (view H depthV a)) vals := by
        refine ⟨by simpa using hargs.1, fun j a ha => ?_⟩
        simp only [List.getElem?_map, Option.map_eq_some_iff] at ha
        obtain ⟨y, hy, rfl⟩ := ha
        have h1 := view_R' (fz' := fzOf β fz H []) hs (fun b hb => .inl hb) (fun id hid => .inr ⟨id, hid, by simp, rfl⟩) depthV y _ (hargs.2 j y hy)
        have h2 := cold_R (ok' := okOf base (fzOf β fz H [])) h1 (fun o b hb => ⟨hb.1, fun h => by cases h⟩)
        exact h2.mono (Nat.zero_le _) (fun _ h => absurd h (Nat.not_lt_zero _)) (fun _ _ h => h) (fun _ _ _ => rfl) (Shapes.refl _)
      have key : ∀ (e : Ending) (w1 : World), (∃ v β' fz', e = .returned v ∧ HSim base w0 β' fz' H1 w1 ∧ Ext ([] : Heap).length β (fzOf β fz H []) w H1.length β' fz' w1 ∧ R β' (okOf base fz') w1 H1.length r v) →
          ∃ v β' fz', e = .returned v ∧ HSim base w0 β' fz' (H ++ H1.map (tauO [] H.length)) w1 ∧ Ext H.length β fz w (H ++ H1.map (tauO [] H.length)).length β' fz' w1 ∧ R β' (okOf base fz') w1 (H ++ H1.map (tauO [] H.length)).length (tau [] H.length r) v := by
        rintro e w1 ⟨v, β1, fz1, he, k1, k2, k3⟩
        obtain ⟨β2, fz2, q1, q2, q3⟩ := frame_end (fp := []) (H2 := H ++ H1.map (tauO [] H.length)) hs (by simp) (fun j id h => by simp at h) k1 k2 k3 hb.1 (bareH_get hb.2) (by simp) (by
          intro q o hq
          rw [List.getElem?_append] at hq
          split at hq
          · rename_i hlt; exact .inr ⟨hlt, by simp, hq⟩
          · rename_i hlt
            left
            simp only [List.getElem?_map, Option.map_eq_some_iff] at hq
            obtain ⟨o1, ho1, ho2⟩ := hq
            cases o1 with
            | none => simp [tauO] at ho2
            | some o1 => exact ⟨q - H.length, o1, by simp [tauI]; omega, ho1, ho2.symm⟩)
        exact ⟨v, β2, fz2, he, q1, q2, q3⟩
      obtain ⟨c1, c2⟩ := hm _ _ _ _ hm1 base w0 β (fzOf β fz H []) w vals hs0 hargs' fn hfn
      refine ⟨fun h => (c1 h).mono (fun e w1 => key e w1), fun h => ?_⟩
      obtain ⟨v, w', h1, h2⟩ := c2 h
      exact ⟨v, w', h1, key _ _ h2⟩
    · cases hr
  · cases hr

theorem frame1_ok {f : FuncId} {m : Row → Heap → Option (AVal × Heap)} (hm : InlOk P f m) : InlOk P f (frame1 m) := by
  intro args H x H' hr base w0 β fz w vals hs hargs fn hfn
  unfold frame1 at hr
  split at hr
  · rename_i id sz s len kc rest
    split at hr
    · rename_i sz' rows hob
      split at hr
      · rename_i hflat
        split at hr
        · rename_i r o H1 hm1
          split at hr
          · rename_i hb
            simp only [Bool.and_eq_true] at hb
            simp only [Option.some.injEq, Prod.mk.injEq] at hr
            obtain ⟨rfl, rfl⟩ := hr
            have hid := obj_some hob
            have hidl := (List.getElem?_eq_some_iff.1 hid).1
            have hβ' : ∀ (j i : Nat), [id][j]? = some i → (fun _ : Nat => β id) j = β i := by
              intro j i h
              cases j with
              | zero => simp at h; rw [h]
              | succ j => simp at h
            have hs0 : HSim base w0 (fun _ => β id) (fzOf β fz H [id]) [some (sz', rows)] w := frame_start hs (by simp) hβ' (fun j o h => by
              cases j with
              | zero => simp at h; subst h; exact ⟨id, by simp, hid, hflat⟩
              | succ j => simp at h)
            obtain ⟨hk1, hk2⟩ := hs.kill id
            have hlive : ∀ k, Live (H.set id none) k → Live H k ∧ k ≠ id := by
              rintro k ⟨p, hp⟩
              by_cases hki : k = id
              · subst hki; rw [List.getElem?_set_self hidl] at hp; simp at hp
              · rw [List.getElem?_set_ne (by omega)] at hp; exact ⟨⟨p, hp⟩, hki⟩
            have hargs' : ArgsR (fun _ => β id) (okOf base (fzOf β fz H [id])) w ([some (sz', rows)] : Heap).length (.osl 0 sz s len kc :: rest.map fun a => cold (view (H.set id none) depthV a)) vals := by
              refine ⟨by simpa using hargs.1, fun j a ha => ?_⟩
              cases j with
              | zero =>
                simp at ha
                subst ha
                have := hargs.2 0 _ rfl
                generalize vals[0]?.getD undef = v0 at *
                cases this with
                | osl h hl hk hc => exact .osl (by simp) hl hk hc
              | succ j =>
                simp only [List.getElem?_cons_succ, List.getElem?_map, Option.map_eq_some_iff] at ha
                obtain ⟨y, hy, rfl⟩ := ha
                have hy' := (hargs.2 (j + 1) y (by simpa using hy)).ext hk2
                have h1 := view_R' (fz' := fzOf β fz H [id]) hk1 (fun b hb => .inl hb) (fun k hk => .inr ⟨k, (hlive k hk).1, by simpa using (hlive k hk).2, rfl⟩) depthV y _ hy'
                have h2 := cold_R (ok' := okOf base (fzOf β fz H [id])) h1 (fun o b hb => ⟨hb.1, fun h => by cases h⟩)
                exact h2.mono (Nat.zero_le _) (fun _ h => absurd h (Nat.not_lt_zero _)) (fun _ _ h => h) (fun _ _ _ => rfl) (Shapes.refl _)
            have key : ∀ (e : Ending) (w1 : World), (∃ v β' fz', e = .returned v ∧ HSim base w0 β' fz' (o :: H1) w1 ∧ Ext ([some (sz', rows)] : Heap).length (fun _ => β id) (fzOf β fz H [id]) w (o :: H1).length β' fz' w1 ∧ R β' (okOf base fz') w1 (o :: H1).length r v) →
                ∃ v β' fz', e = .returned v ∧ HSim base w0 β' fz' ((H.set id (tauO [id] H.length o)) ++ H1.map (tauO [id] H.length)) w1 ∧ Ext H.length β fz w ((H.set id (tauO [id] H.length o)) ++ H1.map (tauO [id] H.length)).length β' fz' w1 ∧ R β' (okOf base fz') w1 ((H.set id (tauO [id] H.length o)) ++ H1.map (tauO [id] H.length)).length (tau [id] H.length r) v := by
              rintro e w1 ⟨v, β1, fz1, he, k1, k2, k3⟩
              obtain ⟨β2, fz2, q1, q2, q3⟩ := frame_end (fp := [id]) (H2 := (H.set id (tauO [id] H.length o)) ++ H1.map (tauO [id] H.length)) hs (by simpa using hidl) hβ' k1 k2 k3 hb.1 (bareH_get hb.2) (by simp) (by
                intro q p hq
                rw [List.getElem?_append] at hq
                split at hq
                · rename_i hlt
                  simp only [List.length_set] at hlt
                  by_cases hqi : q = id
                  · subst hqi
                    rw [List.getElem?_set_self hlt] at hq
                    simp only [Option.some.injEq] at hq
                    cases o with
                    | none => simp [tauO] at hq
                    | some o => exact .inl ⟨0, o, by simp [tauI], by simp, hq.symm⟩
                  · rw [List.getElem?_set_ne (by omega)] at hq
                    exact .inr ⟨hlt, by simpa using hqi, hq⟩
                · rename_i hlt
                  left
                  simp only [List.length_set] at hlt hq
                  simp only [List.getElem?_map, Option.map_eq_some_iff] at hq
                  obtain ⟨o1, ho1, ho2⟩ := hq
                  cases o1 with
                  | none => simp [tauO] at ho2
                  | some o1 => exact ⟨q - H.length + 1, o1, by simp [tauI]; omega, by simpa using ho1, ho2.symm⟩)
              exact ⟨v, β2, fz2, he, q1, q2, q3⟩
            obtain ⟨c1, c2⟩ := hm _ _ _ _ hm1 base w0 _ (fzOf β fz H [id]) w vals hs0 hargs' fn hfn
            refine ⟨fun h => (c1 h).mono (fun e w1 => key e w1), fun h => ?_⟩
            obtain ⟨v, w', h1, h2⟩ := c2 h
            exact ⟨v, w', h1, key _ _ h2⟩
          · cases hr
        · cases hr
      · cases hr
    · cases hr
  · exact frame0_ok hm _ _ _ _ hr base w0 β fz w vals hs hargs fn hfn

/-- objects under other names behind a call -/
theorem hsim_weakT {n0 : Nat} {βe : Nat → Nat} {fze : Nat → Prop} {we : World} {x r : AVal} {v : Value} {H' : Heap} {th : List Nat} (hs : HSim base w0 β fz H w) (he : Ext n0 βe fze we H.length β fz w) (hR : R β (okOf base fz) w H.length x v)
    (h : WeakT n0 th ([(0, r)], H') ([(0, x)], H)) : ∃ β', HSim base w0 β' fz H' w ∧ Ext n0 βe fze we H'.length β' fz w ∧ R β' (okOf base fz) w H'.length r v := by
  have hsim : Sim ⟨1, n0, βe, fze, we⟩ base w0 β fz [(0, x)] H { tmps := #[v], defers := [] } w := by
    refine ⟨hs, rfl, rfl, he, fun t => ?_⟩
    cases t with
    | zero => simpa [look] using hR
    | succ t => simp only [look]; exact .junk
  have hw := hsim.weakT h
  have := hw.env 0
  exact ⟨_, hw.heap, hw.ext, by simpa [look] using this⟩

theorem inl_ren {f : FuncId} {fn : Func} {c : Code} (hf : P.funcs[f]? = some fn) (hb : fn.body = some c) {m : Row → Heap → Option (AVal × Heap)}
    (h : ∀ args H r H', m args H = some (r, H') → args.length ≤ fn.ntmps ∧ AWp P fn.ntmps H.length c (retA P fn fun x H2 => ∃ th, WeakT H.length th ([(0, r)], H') ([(0, x)], H2)) (envOf 0 args) H) : InlOk P f m := by
  intro args H r H' hr base w0 β fz w vals hs hargs
  obtain ⟨h1, h2⟩ := h args H r H' hr
  refine .of hf hb (body_calls hf hb h1 h2 ⟨fn.ntmps, H.length, β, fz, w⟩ rfl rfl hs (Ext.refl _ _ _ _) hargs _ ?_)
  rintro x v β' fz' H2 w' ⟨th, hx⟩ hs' he hR
  obtain ⟨β2, q1, q2, q3⟩ := hsim_weakT hs' he hR hx
  exact ⟨v, β2, fz', rfl, q1, q2, q3⟩
end
end Go.AI
/- Contracts of functions that own what they return. -/
set_option linter.unusedSimpArgs false
set_option linter.unusedVariables false
namespace Go.AI
open Go.RowKit
section
variable {P : Program} {f : FuncId} {fn : Func} {code : Code} {α α₁ α₂ α₃ ρ : Type}

def argG (c : Cod α) (k : α → Row → Option ρ) : Row → Option ρ
  | x :: r => match c.dec x with
    | some e => k e r
    | none => none
  | [] => none
def finG (a : Option ρ) : Row → Option ρ
  | [] => a
  | _ :: _ => none
/-- nothing is handed over -/
def own0 (k : Row → Option (AVal × Heap)) : Row → Heap → Option (AVal × Heap)
  | args, [] => k args
  | _, _ :: _ => none
/-- a slice is handed over -/
def own1 (c : RCod α) (k0 : Row → Option (AVal × Heap)) (k : List α → Row → Option (AVal × Heap)) : Row → Heap → Option (AVal × Heap)
  | .osl 0 sz 0 n kc :: rest, [some (sz', rows)] => if sz = c.sz ∧ sz' = c.sz ∧ n = rows.length ∧ kc = n ∧ 0 < n then (match rows.mapM c.dec with | some l => k l rest | none => none) else none
  | .esl :: rest, [] => k0 rest
  | .v (.slice none 0 0) :: rest, [] => k0 rest
  | _, _ => none

theorem argG_some {c : Cod α} {k : α → Row → Option ρ} {args : Row} {r : ρ} (h : argG c k args = some r) : ∃ x e rest, args = x :: rest ∧ c.dec x = some e ∧ k e rest = some r := by
  cases args with
  | nil => simp [argG] at h
  | cons x rest =>
    simp only [argG] at h
    split at h
    · rename_i e he; exact ⟨x, e, rest, rfl, he, h⟩
    · cases h
theorem finG_some {g : Option ρ} {args : Row} {r : ρ} (h : finG g args = some r) : args = [] ∧ g = some r := by
  cases args with
  | nil => exact ⟨rfl, h⟩
  | cons _ _ => simp [finG] at h

theorem Canon.argsX {args args' : Row} (h : Canon args args') {β : Nat → Nat} {base : Nat} {fz : Nat → Prop} {w : World} {n : Nat} {vals : Array Value} (hargs : ArgsR β (okOf base fz) w n args vals) : ArgsR β (okOf base fz) w n args' vals :=
  ⟨hargs.1.trans h.1.symm, fun j x hj => h.2 (fun _ _ hb => ⟨hb.1, fun h => by cases h⟩) j x _ hj (fun y hy => hargs.2 j y hy)⟩

def BodyI (P : Program) (fn : Func) (c : Code) (args : Row) (H : Heap) (r : AVal) (H' : Heap) : Prop :=
  args.length ≤ fn.ntmps ∧ AWp P fn.ntmps H.length c (retA P fn fun x H2 => ∃ th, WeakT H.length th ([(0, r)], H') ([(0, x)], H2)) (envOf 0 args) H

theorem inl_canon (hf : P.funcs[f]? = some fn) (hb : fn.body = some code) {m : Row → Heap → Option (AVal × Heap)}
    (h : ∀ args H r H', m args H = some (r, H') → ∃ args', Canon args args' ∧ BodyI P fn code args' H r H') : InlOk P f m := by
  intro args H r H' hr base w0 β fz w vals hs hargs
  obtain ⟨args', hc, h1, h2⟩ := h args H r H' hr
  refine .of hf hb (body_calls hf hb h1 h2 ⟨fn.ntmps, H.length, β, fz, w⟩ rfl rfl hs (Ext.refl _ _ _ _) (hc.argsX hargs) _ ?_)
  rintro x v β' fz' H2 w' ⟨th, hx⟩ hs' he hR
  obtain ⟨β2, q1, q2, q3⟩ := hsim_weakT hs' he hR hx
  exact ⟨v, β2, fz', rfl, q1, q2, q3⟩

theorem bodyI_of {C : Orc} {args : Row} {H H' : Heap} {r : AVal} (hC : OrcOk P C) (hm : P.follows .mixedOrders = true) (hrf : codeRF C code = true) (hn : args.length ≤ fn.ntmps)
    (h : ∀ C' : Orc, C'.pure = C.pure → C'.inl = C.inl → C'.inline = C.inline → C'.dyn = C.dyn → C'.fp = C.fp → C'.alt = C.alt → C'.rd = C.rd → C'.cl = C.cl → wpA P C' fn.ntmps H.length code (retA P fn fun x H2 => ∃ th, WeakT H.length th ([(0, r)], H') ([(0, x)], H2)) (envOf 0 args) H) : BodyI P fn code args H r H' :=
  ⟨hn, wpA_sound hC hm _ _ _ _ hrf (h C rfl rfl rfl rfl rfl rfl rfl rfl)⟩

theorem own0_1 {c1 : Cod α₁} (hf : P.funcs[f]? = some fn) (hb : fn.body = some code) {g : α₁ → Option (AVal × Heap)} (h : ∀ e1 r H', g e1 = some (r, H') → BodyI P fn code [c1.enc e1] [] r H') : InlOk P f (own0 (argG c1 fun e1 => finG (g e1))) := by
  refine inl_canon hf hb fun args H r H' hr => ?_
  cases H with
  | cons _ _ => simp [own0] at hr
  | nil =>
    simp only [own0] at hr
    obtain ⟨x1, e1, r1, rfl, h1, hr⟩ := argG_some hr
    obtain ⟨rfl, hr⟩ := finG_some hr
    exact ⟨_, .cons c1 h1 .nil, h e1 r H' hr⟩
theorem own0_2 {c1 : Cod α₁} {c2 : Cod α₂} (hf : P.funcs[f]? = some fn) (hb : fn.body = some code) {g : α₁ → α₂ → Option (AVal × Heap)} (h : ∀ e1 e2 r H', g e1 e2 = some (r, H') → BodyI P fn code [c1.enc e1, c2.enc e2] [] r H') : InlOk P f (own0 (argG c1 fun e1 => argG c2 fun e2 => finG (g e1 e2))) := by
  refine inl_canon hf hb fun args H r H' hr => ?_
  cases H with
  | cons _ _ => simp [own0] at hr
  | nil =>
    simp only [own0] at hr
    obtain ⟨x1, e1, r1, rfl, h1, hr⟩ := argG_some hr
    obtain ⟨x2, e2, r2, rfl, h2, hr⟩ := argG_some hr
    obtain ⟨rfl, hr⟩ := finG_some hr
    exact ⟨_, .cons c1 h1 (.cons c2 h2 .nil), h e1 e2 r H' hr⟩
theorem own0_3 {c1 : Cod α₁} {c2 : Cod α₂} {c3 : Cod α₃} (hf : P.funcs[f]? = some fn) (hb : fn.body = some code) {g : α₁ → α₂ → α₃ → Option (AVal × Heap)} (h : ∀ e1 e2 e3 r H', g e1 e2 e3 = some (r, H') → BodyI P fn code [c1.enc e1, c2.enc e2, c3.enc e3] [] r H') : InlOk P f (own0 (argG c1 fun e1 => argG c2 fun e2 => argG c3 fun e3 => finG (g e1 e2 e3))) := by
  refine inl_canon hf hb fun args H r H' hr => ?_
  cases H with
  | cons _ _ => simp [own0] at hr
  | nil =>
    simp only [own0] at hr
    obtain ⟨x1, e1, r1, rfl, h1, hr⟩ := argG_some hr
    obtain ⟨x2, e2, r2, rfl, h2, hr⟩ := argG_some hr
    obtain ⟨x3, e3, r3, rfl, h3, hr⟩ := argG_some hr
    obtain ⟨rfl, hr⟩ := finG_some hr
    exact ⟨_, .cons c1 h1 (.cons c2 h2 (.cons c3 h3 .nil)), h e1 e2 e3 r H' hr⟩

def Exact (c : RCod α) : Prop := ∀ r e, c.dec r = some e → r = c.enc e
theorem Exact.rows {c : RCod α} (hp : Exact c) : ∀ {rows : List Row} {l : List α}, rows.mapM c.dec = some l → rows = l.map c.enc
  | [], l, h => by simp at h; subst h; rfl
  | r :: rows, l, h => by
    simp only [List.mapM_cons, Option.bind_eq_bind, Option.bind_eq_some_iff, Option.pure_def, Option.some.injEq] at h
    obtain ⟨e, he, l', hl', rfl⟩ := h
    rw [hp r e he, Exact.rows hp hl', List.map_cons]

theorem Canon.soften {rest rest' : Row} (h : Canon rest rest') {x y : AVal} (hxy : ∀ {β : Nat → Nat} {ok : Bool → Nat → Prop} {w : World} {n : Nat} {v : Value}, R β ok w n x v → R β ok w n y v) : Canon (x :: rest) (y :: rest') := by
  refine ⟨by simp [h.1], fun hok j z v hj hy => ?_⟩
  cases j with
  | zero => simp at hj; subst hj; exact hxy (hy x (by simp))
  | succ j => exact h.2 hok j z v (by simpa using hj) (fun a ha => hy a (by simpa using ha))

theorem own1_1 {c : RCod α} {c1 : Cod α₁} (hp : Exact c) (hf : P.funcs[f]? = some fn) (hb : fn.body = some code) {g0 : α₁ → Option (AVal × Heap)} {g : List α → α₁ → Option (AVal × Heap)}
    (h0 : ∀ e1 r H', g0 e1 = some (r, H') → BodyI P fn code [.esl, c1.enc e1] [] r H')
    (h : ∀ l e1 r H', l ≠ [] → g l e1 = some (r, H') → BodyI P fn code [.osl 0 c.sz 0 l.length l.length, c1.enc e1] [some (c.sz, l.map c.enc)] r H') :
    InlOk P f (own1 c (argG c1 fun e1 => finG (g0 e1)) (fun l => argG c1 fun e1 => finG (g l e1))) := by
  refine inl_canon hf hb fun args H r H' hr => ?_
  unfold own1 at hr
  split at hr
  · rename_i sz n kc rest sz' rows
    split at hr
    · rename_i hc
      obtain ⟨rfl, rfl, rfl, rfl, hn⟩ := hc
      split at hr
      · rename_i l hl
        have hrows := hp.rows hl
        subst hrows
        obtain ⟨x1, e1, r1, rfl, h1, hr⟩ := argG_some hr
        obtain ⟨rfl, hr⟩ := finG_some hr
        have hl0 : l ≠ [] := by rintro rfl; simp at hn
        have := h l e1 r H' hl0 hr
        exact ⟨_, .soften (.cons c1 h1 .nil) (fun h => h), by simpa using this⟩
      · cases hr
    · cases hr
  · obtain ⟨x1, e1, r1, rfl, h1, hr⟩ := argG_some hr
    obtain ⟨rfl, hr⟩ := finG_some hr
    exact ⟨_, .soften (.cons c1 h1 .nil) (fun h => h), h0 e1 r H' hr⟩
  · obtain ⟨x1, e1, r1, rfl, h1, hr⟩ := argG_some hr
    obtain ⟨rfl, hr⟩ := finG_some hr
    exact ⟨_, .soften (.cons c1 h1 .nil) (fun h => by rw [h.v_inv]; exact .esl), h0 e1 r H' hr⟩
  · cases hr
end
end Go.AI
namespace Go.AI
section
variable {k : IntKind}
theorem irow_tau (fp : List Nat) (n : Nat) (e : Int) : List.map (tau fp n) (irow k e) = irow k e := by simp [irow, tau]
theorem irow_tauc (fp : List Nat) (n : Nat) : List.map (tau fp n) ∘ irow k = irow k := by funext e; exact irow_tau fp n e
theorem irow_bare (e : Int) : (irow k e).all bareA = true := by simp [irow, bareA]
theorem irow_bareR (l : List Int) : ((l.map (irow k)).all fun row => row.all bareA) = true := by simp [irow_bare]
theorem irow_flat (l : List Int) : flat0 (l.map (irow k)) = true := by simp [flat0, irow_low]
theorem irow_exact : Exact (rI k) := by
  intro r e h
  simp only [rI, RCod.plain] at h ⊢
  unfold irowDec at h
  split at h
  · split at h
    · rename_i hk; simp at h; rw [hk, h]; rfl
    · cases h
  · cases h
end
end Go.AI
namespace Go.AI
/-- what they meet -/
def cloneF : Row → Option (List Nat)
  | [.fsl _ _ _] => some []
  | [.osl id _ _ _ _] => some [id]
  | [.esl] => some []
  | _ => none
theorem clone_loc {sz : Nat} : ∀ args ids, cloneF args = some ids → Loc (cloneI sz args) ids true := by
  intro args ids h
  unfold cloneF at h
  split at h
  · rename_i o s rows
    simp at h
    subst h
    refine Loc.new ⟨fun n => if s = sz ∧ rows.length ≤ 4294967296 then (if rows.isEmpty then some (.esl, []) else some (.osl n sz 0 rows.length rows.length, [if sz = 0 then none else some (sz, rows)])) else none, fun H => ?_⟩
    simp only [cloneI, newObj']
    split
    · split <;> simp
    · rfl
  · rename_i id s st n kc
    simp at h
    subst h
    refine ⟨fun f m => match f id with
      | some (s', rows) => if s = sz ∧ s' = sz ∧ st + n ≤ rows.length ∧ n ≤ 4294967296 then (if n = 0 then some (.esl, [], []) else some (.osl m sz 0 n n, [], [if sz = 0 then none else some (sz, (rows.drop st).take n)])) else none
      | none => none, ⟨fun f g n hh => by simp only [hh id (by simp)], fun f n r hr => ?_, fun h => by cases h⟩, fun H => ?_⟩
    · refine ⟨fun u hu => ?_, fun h => by cases h⟩
      split at hr
      · split at hr
        · split at hr
          · simp at hr; subst hr; simp at hu
          · simp at hr; subst hr; simp at hu
        · cases hr
      · cases hr
    · simp only [cloneI, newObj']
      cases obj H id with
      | none => rfl
      | some p =>
        obtain ⟨s', rows⟩ := p
        simp only
        split
        · split <;> simp [updL]
        · rfl
  · simp at h
    subst h
    exact Loc.const (some .esl)
  · cases h
def frame0F (args : Row) : Option (List Nat) := if args.all noId then some [] else none
theorem frame0_loc {m : Row → Heap → Option (AVal × Heap)} : ∀ args ids, frame0F args = some ids → Loc (frame0 m args) ids true := by
  intro args ids h
  unfold frame0F at h
  split at h
  · rename_i hn
    simp at h
    subst h
    have e : ∀ H, (args.map fun a => cold (view H depthV a)) = args.map fun a => cold (view [] depthV a) := by
      intro H
      apply List.map_congr_left
      intro x hx
      rw [noId_view H _ _ (List.all_eq_true.1 hn x hx)]
    refine Loc.new ⟨fun n => match m (args.map fun a => cold (view [] depthV a)) [] with
      | some (r, H1) => if bareA r && bareH H1 then some (tau [] n r, H1.map (tauO [] n)) else none
      | none => none, fun H => ?_⟩
    unfold frame0
    rw [e H]
    cases m (args.map fun a => cold (view [] depthV a)) [] with
    | none => rfl
    | some p =>
      obtain ⟨r, H1⟩ := p
      simp only
      split <;> rfl
  · cases h
def frame1F : Row → Option (List Nat)
  | .osl id _ _ _ _ :: rest => if rest.all noId then some [id] else none
  | args => frame0F args
theorem frame1_loc {m : Row → Heap → Option (AVal × Heap)} : ∀ args ids, frame1F args = some ids → Loc (frame1 m args) ids true := by
  intro args ids h
  unfold frame1F at h
  split at h
  · rename_i id sz s len kc rest
    split at h
    · rename_i hn
      simp at h
      subst h
      have e : ∀ H, (rest.map fun a => cold (view H depthV a)) = rest.map fun a => cold (view [] depthV a) := by
        intro H
        apply List.map_congr_left
        intro x hx
        rw [noId_view H _ _ (List.all_eq_true.1 hn x hx)]
      refine ⟨fun f n => match f id with
        | some (sz', rows) =>
          if flat0 rows then
            match m (.osl 0 sz s len kc :: rest.map fun a => cold (view [] depthV a)) [some (sz', rows)] with
            | some (r, o :: H1) => if bareA r && bareH (o :: H1) then some (tau [id] n r, [(id, tauO [id] n o)], H1.map (tauO [id] n)) else none
            | _ => none
          else none
        | none => none, ⟨fun f g n hh => by simp only [hh id (by simp)], fun f n r hr => ?_, fun h => by cases h⟩, fun H => ?_⟩
      · refine ⟨fun u hu => ?_, fun h => by cases h⟩
        split at hr
        · split at hr
          · split at hr
            · split at hr
              · simp at hr; subst hr; simp at hu; subst hu; simp
              · cases hr
            · cases hr
          · cases hr
        · cases hr
      · simp only [frame1, e]
        cases obj H id with
        | none => rfl
        | some p =>
          obtain ⟨sz', rows⟩ := p
          simp only
          split
          · generalize m (.osl 0 sz s len kc :: rest.map fun a => cold (view [] depthV a)) [some (sz', rows)] = z
            cases z with
            | none => rfl
            | some q =>
              obtain ⟨r, H1⟩ := q
              cases H1 with
              | nil => rfl
              | cons o H1 =>
                simp only
                split <;> simp [updL]
          · rfl
    · cases h
  · rename_i hne
    have : frame1 m args = frame0 m args := by
      funext H
      cases args with
      | nil => rfl
      | cons a r =>
        cases a <;> first | rfl | exact absurd rfl (hne _ _ _ _ _ _)
    rw [this]
    exact frame0_loc args ids h
def insertF : Row → Option (List Nat)
  | [.osl id _ 0 _ _, .v (.int .i64 _), .osl vid _ 0 1 1] => some [id, vid]
  | [.esl, .v (.int .i64 _), .osl vid _ 0 1 1] => some [vid]
  | _ => none
theorem insert_loc {sz : Nat} : ∀ args ids, insertF args = some ids → Loc (insertI sz args) ids true := by
  intro args ids h
  unfold insertF at h
  split at h
  · rename_i id sz1 n kc i vid sz2
    simp at h
    subst h
    refine ⟨fun f m => match f id, f vid with
      | some (sz3, rows), some (sz4, [vr]) =>
        if sz1 = sz ∧ sz2 = sz ∧ sz3 = sz ∧ sz4 = sz ∧ 0 < sz ∧ id ≠ vid ∧ rows.length = n ∧ kc = n ∧ 0 ≤ i ∧ i ≤ n ∧ n ≤ 1048576 then
          some (.osl m sz 0 (n + 1) (n + 1), [(id, none)], [some (sz, rows.take i.toNat ++ [vr] ++ rows.drop i.toNat)])
        else none
      | _, _ => none, ⟨fun f g n hh => by simp only [hh id (by simp), hh vid (by simp)], fun f n r hr => ?_, fun h => by cases h⟩, fun H => ?_⟩
    · refine ⟨fun u hu => ?_, fun h => by cases h⟩
      split at hr
      · split at hr
        · simp at hr; subst hr; simp at hu; subst hu; simp
        · cases hr
      · cases hr
    · simp only [insertI]
      split
      · rename_i h1 h2
        simp only [h1, h2]
        split <;> simp [updL]
      · rename_i hno
        split
        · rename_i h1 h2
          exact absurd h2 (hno _ _ _ _ h1)
        · rfl
  · rename_i i vid sz2
    simp at h
    subst h
    refine ⟨fun f m => match f vid with
      | some (sz4, [vr]) => if sz2 = sz ∧ sz4 = sz ∧ 0 < sz ∧ i = 0 then some (.osl m sz 0 1 1, [], [if sz = 0 then none else some (sz, [vr])]) else none
      | _ => none, ⟨fun f g n hh => by simp only [hh vid (by simp)], fun f n r hr => ?_, fun h => by cases h⟩, fun H => ?_⟩
    · refine ⟨fun u hu => ?_, fun h => by cases h⟩
      split at hr
      · split at hr
        · simp at hr; subst hr; simp at hu
        · cases hr
      · cases hr
    · simp only [insertI, newObj']
      split
      · rename_i h1
        simp only [h1]
        split <;> simp [updL]
      · rename_i hno
        split
        · rename_i h1
          exact absurd h1 (hno _ _)
        · rfl
  · cases h
end Go.AI
/- More codecs; slices.Delete. -/
set_option linter.unusedSimpArgs false
set_option linter.unusedVariables false
namespace Go.AI
open Go.RowKit

/-- one cell -/
def cellDec {α : Type} (c : Cod α) : Row → Option α
  | [x] => c.dec x
  | _ => none
def rCell {α : Type} (c : Cod α) : RCod α where
  sz := 1
  enc e := [c.enc e]
  dec := cellDec c
  de e := c.de e
  len _ := rfl
  ok := by
    intro r e h β ok w n x hok hr
    unfold cellDec at h
    split at h
    · refine ⟨rfl, fun j a hj => ?_⟩
      cases j with
      | zero => simp at hj; subst hj; exact c.ok h hok (hr 0 _ rfl)
      | succ j => simp at hj
    · cases h
/-- a pointer to a variable -/
def fpDec {α : Type} (c : RCod α) : AVal → Option α
  | .fptr row 0 => c.dec row
  | _ => none
def cFp {α : Type} (c : RCod α) : Cod α where
  enc e := .fptr (c.enc e) 0
  dec := fpDec c
  de e := by simp [fpDec, c.de]
  ok := by
    intro x e h β ok w n v hok hr
    unfold fpDec at h
    split at h
    · rename_i row
      cases hr with
      | fptr x' hb hc hr =>
        obtain ⟨h1, h2⟩ := c.ok h (β := β) (ok := ok) (w := w) (n := 0) (x := x') hok hr
        exact .fptr x' (fun hne => hok _ _ (hb (by rintro rfl; exact hne (List.length_eq_zero_iff.1 (by rw [c.len]; exact h1.symm))))) (fun j hj => hc j (by rw [c.len] at hj; omega)) h2
    · cases h
/-- two codecs, one behind the other, of cells -/
def rTwo {α β : Type} (a : Cod α) (b : Cod β) : RCod (α × β) where
  sz := 2
  enc e := [a.enc e.1, b.enc e.2]
  dec r := match r with
    | [x, y] => match a.dec x, b.dec y with | some x, some y => some (x, y) | _, _ => none
    | _ => none
  de e := by simp [a.de, b.de]
  len _ := rfl
  ok := by
    intro r e h β ok w n x hok hr
    split at h
    · rename_i u v
      split at h
      · rename_i p q hp hq
        simp at h
        subst h
        refine ⟨rfl, fun j c hj => ?_⟩
        match j, hj with
        | 0, hj => simp at hj; subst hj; exact a.ok hp hok (hr 0 _ rfl)
        | 1, hj => simp at hj; subst hj; exact b.ok hq hok (hr 1 _ rfl)
        | j + 2, hj => simp at hj
      · cases h
    · cases h

section
variable {base : Nat} {w0 : World} {β : Nat → Nat} {fz : Nat → Prop} {H : Heap} {w : World} {P : Program}

/-- some rows forgotten -/
theorem HSim.trunc (hs : HSim base w0 β fz H w) {id sz : Nat} {L M : List Row} (hid : H[id]? = some (some (sz, L ++ M))) (h00 : sz ≠ 0) : HSim base w0 β fz (H.set id (some (sz, L))) w ∧ Ext H.length β fz w (H.set id (some (sz, L))).length β fz w := by
  have hlt : id < H.length := (List.getElem?_eq_some_iff.1 hid).1
  have live : ∀ k, Live (H.set id (some (sz, L))) k → Live H k := fun k hk => Live.set hk ⟨_, hid⟩
  refine ⟨⟨fun k s2 r2 hk => ?_, fun a b ha hb => hs.inj a b (live a ha) (live b hb), fun k hk => hs.own k (live k hk), hs.fzlt, hs.below, hs.base⟩, ⟨by simp, fun _ _ => rfl, fun _ h => h, fun _ _ => rfl, Shapes.refl _⟩⟩
  by_cases hki : k = id
  · subst hki
    rw [List.getElem?_set_self hlt] at hk
    simp only [Option.some.injEq, Prod.mk.injEq] at hk
    obtain ⟨rfl, rfl⟩ := hk
    obtain ⟨cs, e, g1, g2, g3, g4, g5⟩ := hs.cells0 hid h00
    rw [OSim, if_neg h00]
    refine ⟨cs, e, g1, fun r hr => g2 r (by simp [hr]), Nat.le_trans (Nat.mul_le_mul_right _ (by simp)) g3, g4, fun i r hi j c hj => ?_⟩
    rw [List.length_set]
    have hil := (List.getElem?_eq_some_iff.1 hi).1
    exact g5 i r (by rw [List.getElem?_append_left hil]; exact hi) j c hj
  · rw [List.getElem?_set_ne (by omega)] at hk
    rw [List.length_set]
    exact hs.objs' k s2 r2 hk

/-- slices.Delete, of one element -/
def deleteI (sz : Nat) : Row → Heap → Option (AVal × Heap)
  | [.osl id sz1 0 n kc, .v (.int .i64 i), .v (.int .i64 j)], H =>
    match obj H id with
    | some (sz3, rows) =>
      if sz1 = sz ∧ sz3 = sz ∧ 0 < sz ∧ rows.length = n ∧ kc = n ∧ 0 ≤ i ∧ i < n ∧ j = i + 1 ∧ n ≤ 1048576 then
        some (.osl id sz 0 (n - 1) (n - 1), H.set id (some (sz, rows.eraseIdx i.toNat)))
      else none
    | none => none
  | _, _ => none
def deleteF : Row → Option (List Nat)
  | [.osl id _ 0 _ _, .v (.int .i64 _), .v (.int .i64 _)] => some [id]
  | _ => none
theorem delete_loc {sz : Nat} : ∀ args ids, deleteF args = some ids → Loc (deleteI sz args) ids true := by
  intro args ids h
  unfold deleteF at h
  split at h
  · rename_i id sz1 n kc i j
    simp at h
    subst h
    refine ⟨fun f _ => match f id with
      | some (sz3, rows) =>
        if sz1 = sz ∧ sz3 = sz ∧ 0 < sz ∧ rows.length = n ∧ kc = n ∧ 0 ≤ i ∧ i < n ∧ j = i + 1 ∧ n ≤ 1048576 then
          some (.osl id sz 0 (n - 1) (n - 1), [(id, some (sz, rows.eraseIdx i.toNat))], [])
        else none
      | none => none, ⟨fun f g n hh => by simp only [hh id (by simp)], fun f n r hr => ?_, fun h => by cases h⟩, fun H => ?_⟩
    · refine ⟨fun u hu => ?_, fun h => by cases h⟩
      split at hr
      · split at hr
        · simp at hr; subst hr; simp at hu; subst hu; simp
        · cases hr
      · cases hr
    · simp only [deleteI]
      cases obj H id with
      | none => rfl
      | some p =>
        obtain ⟨sz3, rows⟩ := p
        simp only
        split <;> simp [updL]
  · cases h
theorem delete_of {f : FuncId} {fn : Func} {c : Code} {sz : Nat} {z : Row} (hf : P.funcs[f]? = some fn) (hb : fn.body = some c) (hn : 3 ≤ fn.ntmps)
    (hA : ∀ (H : Heap) (id i : Nat) (rows : List Row), obj H id = some (sz, rows) → id < H.length → i < rows.length → rows.length ≤ 1048576 →
      AWp P fn.ntmps H.length c (retA P fn fun x H2 => x = .osl id sz 0 (rows.length - 1) rows.length ∧ H2 = H.set id (some (sz, rows.take i ++ rows.drop (i + 1) ++ [z]))) (envOf 0 [.osl id sz 0 rows.length rows.length, .v (.int .i64 i), .v (.int .i64 ((i : Int) + 1))]) H) :
    InlOk P f (deleteI sz) := by
  intro args H x H' hr base w0 β fz w vals hs hargs
  refine .of hf hb ?_
  unfold deleteI at hr
  split at hr
  · rename_i id sz1 n kc i j
    split at hr
    · rename_i sz3 rows hid
      split at hr
      · rename_i hc
        obtain ⟨rfl, rfl, hz, rfl, rfl, hi0, hin, rfl, hn2⟩ := hc
        simp only [Option.some.injEq, Prod.mk.injEq] at hr
        obtain ⟨rfl, rfl⟩ := hr
        obtain ⟨k, rfl⟩ := Int.eq_ofNat_of_zero_le hi0
        simp only [Int.toNat_natCast]
        have hidl := (List.getElem?_eq_some_iff.1 (obj_some hid)).1
        have hk : k < rows.length := by omega
        refine body_calls hf hb (by simpa using hn) (hA H id k rows hid hidl hk hn2) ⟨fn.ntmps, H.length, β, fz, w⟩ rfl rfl hs (Ext.refl _ _ _ _) hargs _ ?_
        rintro x v β' fz' H2 w' ⟨rfl, rfl⟩ hs' he hR
        have hget : (H.set id (some (sz3, rows.take k ++ rows.drop (k + 1) ++ [z])))[id]? = some (some (sz3, rows.take k ++ rows.drop (k + 1) ++ [z])) := List.getElem?_set_self hidl
        obtain ⟨t1, t2⟩ := hs'.trunc hget (obj_live hid).2
        rw [List.set_set] at t1 t2
        have he2 : rows.eraseIdx k = rows.take k ++ rows.drop (k + 1) := List.eraseIdx_eq_take_drop_succ ..
        rw [he2]
        refine ⟨v, β', fz', rfl, t1, ?_, ?_⟩
        · simp only [List.length_set] at he t2 ⊢
          exact he
        · simp only [List.length_set] at hR ⊢
          cases hR with
          | osl h hl hk' ha => exact .osl h (Nat.le_refl _) (by omega) ha
      · cases hr
    · cases hr
  · cases hr
end
end Go.AI
namespace Go.AI
theorem hotR_cat (a b : List Row) : hotR (a ++ b) = (hotR a && hotR b) := by simp [hotR_all]
theorem tmodN {a b : Nat} : Int.tmod (a : Int) (b : Int) = ((a % b : Nat) : Int) := rfl
end Go.AI
