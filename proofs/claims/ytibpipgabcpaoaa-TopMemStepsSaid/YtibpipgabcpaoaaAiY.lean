/- Calls of functions that own what they return: the frame. -/
import Derived.Test.YtibpipgabcpaoaaGB
set_option linter.unusedSimpArgs false
set_option linter.unusedVariables false
namespace Go.AI
open Go.RowKit
section
variable {base : Nat} {w0 : World} {β : Nat → Nat} {fz fz' : Nat → Prop} {H : Heap} {w : World} {P : Program}
theorem inner1 {x : AVal} {v : Value} (h1 : ∀ b, fz b → fz' b) (h : R β (okOf base fz) w 0 x v) (n : Nat) : R β0 (okOf base fz') w n x v :=
 h.mono (Nat.zero_le _) (fun _ h => absurd h (Nat.not_lt_zero _)) (fun _ b hb => ⟨h1 b hb.1, hb.2⟩) (fun _ _ _ => rfl) (Shapes.refl _)
theorem view_R' (hs : HSim base w0 β fz H w) (h1 : ∀ b, fz b → fz' b) (h2 : ∀ id, Live H id → fz' (β id)) : ∀ (d : Nat) (x : AVal) (v : Value), R β (okOf base fz) w H.length x v → R β0 (okOf base fz') w 0 (view H d x) v := by
 intro d
 induction d with
 | zero =>
  intro x v h
  cases h with
  | junk => simp only [view]; exact .junk
  | anyb => simp only [view]; exact .anyb
  | v => simp only [view]; exact .v
  | ptr h _ => simp only [view]; exact .junk
  | mp h => simp only [view]; exact .junk
  | fptr x hb hc hr => simp only [view]; exact .fptr x (fun h => ⟨h1 _ (hb h).1, (hb h).2⟩) hc (fun j a ha => inner1 h1 (hr j a ha) 0)
  | osl h hl hk ha => simp only [view]; exact .junk
  | xsl h hl ha => simp only [view]; exact .junk
  | fsl x hl hsz hb hc hr => simp only [view]; exact .fsl x hl hsz (fun h => ⟨h1 _ (hb h).1, (hb h).2⟩) hc (fun i r hi j a ha => inner1 h1 (hr i r hi j a ha) 0)
  | fsl0 => simp only [view]; exact .fsl0
  | esl => simp only [view]; exact .esl
  | agg hl hr => simp only [view]; exact .junk
  | tup hl hr => simp only [view]; exact .junk
  | fn hl hr => simp only [view]; exact .junk
  | when h hu => simp only [view]; exact .junk
  | ifc h => simp only [view]; exact .junk
  | meth => simp only [view]; exact .meth
 | succ d ih =>
  intro x v h
  cases h with
  | junk => simp only [view]; exact .junk
  | anyb => simp only [view]; exact .anyb
  | v => simp only [view]; exact .v
  | @mp _ id h =>
   simp only [view]
   split
   ·rename_i sz' rows hob
    split
    ·split
     ·rename_i hsz; exact absurd hsz (obj_live hob).2
     ·exact .junk
    ·exact .junk
   ·exact .junk
  | @ptr _ id sz i off h _ =>
   simp only [view]
   split
   ·rename_i sz' rows hob
    split
    ·rename_i r hr
     split
     ·rename_i hsz
      subst hsz
      obtain ⟨cs, e, g1, g2, g3, g4, g5⟩ := hs.cells hob
      have hi : i < rows.length := (List.getElem?_eq_some_iff.1 hr).1
      have hrl : r.length = sz' := g2 r (List.mem_of_getElem? hr)
      have hmul : (i + 1) * sz' ≤ rows.length * sz' := Nat.mul_le_mul_right _ hi
      rw [Nat.succ_mul] at hmul
      refine .fptr (fun j => cs[i * sz' + j]?.getD undef) (fun _ => ⟨h2 id ⟨_, obj_some hob⟩, fun h => by cases h⟩) (fun j hj => ?_) (fun j c hj => ?_)
      ·have : i * sz' + j < cs.size := by simp at hj; omega
       simp [World.cell?, g1, this]
      ·simp only [List.getElem?_map, Option.map_eq_some_iff] at hj
       obtain ⟨y, hy, rfl⟩ := hj
       exact ih _ _ (g5 i r hr j y hy)
     ·exact .junk
    ·exact .junk
   ·exact .junk
  | fptr x hb hc hr => simp only [view]; exact .fptr x (fun h => ⟨h1 _ (hb h).1, (hb h).2⟩) hc (fun j a ha => inner1 h1 (hr j a ha) 0)
  | @osl _ id sz s len kc ad cap h hl hk ha =>
   simp only [view]
   split
   ·rename_i sz' rows hob
    split
    ·rename_i hcond
     obtain ⟨rfl, hsl⟩ := hcond
     obtain ⟨cs, e, g1, g2, g3, g4, g5⟩ := hs.cells hob
     have hbase := (hs.own id ⟨_, obj_some hob⟩).1
     have hlen : (((rows.drop s).take len).map fun r => r.map (view H d)).length = len := by simp; omega
     by_cases hl0 : len = 0
     ·subst hl0
      simp only [List.take_zero, List.map_nil]
      exact .fsl0
     ·rcases ha with ha | ⟨rfl, _⟩
      ·omega
      ·have := R.fsl (β := β0) (ok := okOf base fz') (w := w) (n := 0) (o := true) (sz := sz') (rows := ((rows.drop s).take len).map fun r => r.map (view H d)) (b := β id) (off := s * sz') (cap := cap)
        (fun i j => cs[(s + i) * sz' + j]?.getD undef) (by omega)
        (fun r hr => by
         simp only [List.mem_map] at hr
         obtain ⟨r', hr', rfl⟩ := hr
         simpa using g2 r' (List.mem_of_mem_drop (List.mem_of_mem_take hr'))) (fun _ => ⟨h2 id ⟨_, obj_some hob⟩, fun _ => hbase⟩)
        (fun i j hi hj => by
         rw [hlen] at hi
         have h1 : (s + i) * sz' + j < rows.length * sz' := row_lt (by omega) hj
         have h2 : (s + i) * sz' + j < cs.size := by omega
         have e1 : s * sz' + i * sz' + j = (s + i) * sz' + j := by rw [Nat.add_mul]
         rw [e1]
         refine ⟨by simp [World.cell?, g1, h2], g4 ((s + i) * sz' + j) _ (by simp [h2])⟩)
        (fun i r hi j c hj => by
         have hil : i < len := by have := (List.getElem?_eq_some_iff.1 hi).1; omega
         simp only [List.getElem?_map, Option.map_eq_some_iff] at hi
         obtain ⟨r', hr', rfl⟩ := hi
         simp only [List.getElem?_map, Option.map_eq_some_iff] at hj
         obtain ⟨y, hy, rfl⟩ := hj
         rw [List.getElem?_take_of_lt hil, List.getElem?_drop] at hr'
         exact ih _ _ (g5 (s + i) r' hr' j y hy))
       rwa [hlen] at this
    ·exact .junk
   ·exact .junk
  | xsl h hl ha => simp only [view]; exact .junk
  | fsl x hl hsz hb hc hr => simp only [view]; exact .fsl x hl hsz (fun h => ⟨h1 _ (hb h).1, (hb h).2⟩) hc (fun i r hi j a ha => inner1 h1 (hr i r hi j a ha) 0)
  | fsl0 => simp only [view]; exact .fsl0
  | esl => simp only [view]; exact .esl
  | agg hl hr =>
   simp only [view]
   refine .agg (by simpa using hl) fun j a ha => ?_
   simp only [List.getElem?_map, Option.map_eq_some_iff] at ha
   obtain ⟨y, hy, rfl⟩ := ha
   exact ih _ _ (hr j y hy)
  | tup hl hr =>
   simp only [view]
   refine .tup (by simpa using hl) fun j a ha => ?_
   simp only [List.getElem?_map, Option.map_eq_some_iff] at ha
   obtain ⟨y, hy, rfl⟩ := ha
   exact ih _ _ (hr j y hy)
  | fn hl hr =>
   simp only [view]
   refine .fn (by simpa using hl) fun j a ha => ?_
   simp only [List.getElem?_map, Option.map_eq_some_iff] at ha
   obtain ⟨y, hy, rfl⟩ := ha
   exact ih _ _ (hr j y hy)
  | when h hu => simp only [view]; exact .junk
  | ifc h => simp only [view]; exact .ifc (ih _ _ h)
  | meth => simp only [view]; exact .meth
def tauI (fp : List Nat) (n : Nat) (j : Nat) : Nat := match fp[j]? with | some id => id | none => n + (j - fp.length)
mutual
def tau (fp : List Nat) (n : Nat) : AVal → AVal
 | .ptr id sz i off => .ptr (tauI fp n id) sz i off
 | .osl id sz s len kc => .osl (tauI fp n id) sz s len kc
 | .xsl id sz s len kc => .xsl (tauI fp n id) sz s len kc
 | .agg cs => .agg (tauC fp n cs)
 | .tup vs => .tup (tauC fp n vs)
 | a => a
def tauC (fp : List Nat) (n : Nat) : List AVal → List AVal
 | [] => []
 | a :: r => tau fp n a :: tauC fp n r
end
mutual
def bareA : AVal → Bool
 | .v _ => true
 | .ptr _ _ _ _ => true
 | .osl _ _ _ _ _ => true
 | .xsl _ _ _ _ _ => true
 | .esl => true
 | .junk => true
 | .anyb => true
 | .agg cs => bareC cs
 | .tup vs => bareC vs
 | .fsl _ _ rows => rows.isEmpty
 | _ => false
def bareC : List AVal → Bool
 | [] => true
 | a :: r => bareA a && bareC r
end
theorem tauC_map (fp : List Nat) (n : Nat) (l : Row) : tauC fp n l = l.map (tau fp n) := by
 induction l with
 | nil => simp [tauC]
 | cons a r ih => simp [tauC, ih]
theorem bareC_all (l : Row) : bareC l = l.all bareA := by
 induction l with
 | nil => simp [bareC]
 | cons a r ih => simp [bareC, ih]
theorem tau_R {fp : List Nat} {n m n2 : Nat} {β1 β2 : Nat → Nat} {ok ok2 : Bool → Nat → Prop} (hβ : ∀ j, j < m → β2 (tauI fp n j) = β1 j ∧ tauI fp n j < n2) : ∀ {a : AVal} {v : Value}, R β1 ok w m a v → bareA a = true → R β2 ok2 w n2 (tau fp n a) v := by
 intro a v h
 induction h with
 | junk => intro _; simp only [tau]; exact .junk
 | anyb => intro _; simp only [tau]; exact .anyb
 | v => intro _; simp only [tau]; exact .v
 | ptr h h0 => intro _; simp only [tau]; rw [← (hβ _ h).1]; exact .ptr (hβ _ h).2 h0
 | mp h => intro _; simp only [tau]; rw [← (hβ _ h).1]; exact .mp (hβ _ h).2
 | fptr x hb hc hr ih => intro hb; simp [bareA] at hb
 | osl h hl hk ha => intro _; simp only [tau]; exact .osl (hβ _ h).2 hl hk (by rw [(hβ _ h).1]; exact ha)
 | xsl h hl ha => intro _; simp only [tau]; exact .xsl (hβ _ h).2 hl (by rw [(hβ _ h).1]; exact ha)
 | @fsl _ _ _ rows _ _ _ x hl hs hb hc hr ih =>
  intro hb
  simp [bareA] at hb
  subst hb
  simp only [tau]; exact .fsl0
 | fsl0 => intro _; simp only [tau]; exact .fsl0
 | esl => intro _; simp only [tau]; exact .esl
 | agg hl hr ih =>
  intro hb
  simp only [bareA, bareC_all] at hb
  simp only [tau, tauC_map]
  refine .agg (by simpa using hl) fun j a ha => ?_
  simp only [List.getElem?_map, Option.map_eq_some_iff] at ha
  obtain ⟨y, hy, rfl⟩ := ha
  exact ih j y hy hβ (List.all_eq_true.1 hb y (List.mem_of_getElem? hy))
 | tup hl hr ih =>
  intro hb
  simp only [bareA, bareC_all] at hb
  simp only [tau, tauC_map]
  refine .tup (by simpa using hl) fun j a ha => ?_
  simp only [List.getElem?_map, Option.map_eq_some_iff] at ha
  obtain ⟨y, hy, rfl⟩ := ha
  exact ih j y hy hβ (List.all_eq_true.1 hb y (List.mem_of_getElem? hy))
 | fn hl hr ih => intro hb; simp [bareA] at hb
 | when h hu ih => intro hb; simp [bareA] at hb
 | ifc h ih => intro hb; simp [bareA] at hb
 | meth => intro hb; simp [bareA] at hb
def fzOf (β : Nat → Nat) (fz : Nat → Prop) (H : Heap) (fp : List Nat) (b : Nat) : Prop := fz b ∨ ∃ id, Live H id ∧ id ∉ fp ∧ b = β id
def tauO (fp : List Nat) (n : Nat) : Option (Nat × List Row) → Option (Nat × List Row)
 | some o => some (o.1, o.2.map (List.map (tau fp n)))
 | none => none
def flat0 (rows : List Row) : Bool := rows.all fun r => r.all (lowA 0)
theorem frame_start (hs : HSim base w0 β fz H w) {fp : List Nat} (hnd : fp.Nodup) {β' : Nat → Nat} (hβ' : ∀ (j id : Nat), fp[j]? = some id → β' j = β id) {H0 : Heap}
  (hH0 : ∀ (j : Nat) o, H0[j]? = some (some o) → ∃ id, fp[j]? = some id ∧ H[id]? = some (some o) ∧ flat0 o.2 = true) : HSim base w0 β' (fzOf β fz H fp) H0 w := by
 have hlive : ∀ j, Live H0 j → ∃ id, fp[j]? = some id ∧ Live H id := by
  rintro j ⟨o, ho⟩
  obtain ⟨id, h1, h2, _⟩ := hH0 j o ho
  exact ⟨id, h1, o, h2⟩
 refine ⟨?_, ?_, ?_, ?_, hs.below, hs.base⟩
 ·intro j sz rows hj
  obtain ⟨id, h1, h2, h3⟩ := hH0 j _ hj
  have hlow : ∀ (i : Nat) (r : Row), rows[i]? = some r → ∀ (k : Nat) (a : AVal), r[k]? = some a → lowA 0 a = true := fun i r hi k a ha => by
   have := List.all_eq_true.1 h3 r (List.mem_of_getElem? hi)
   exact List.all_eq_true.1 this a (List.mem_of_getElem? ha)
  have hO := hs.objs' id _ _ h2
  unfold OSim at hO ⊢
  split at hO
  ·rename_i h0
   rw [if_pos h0]
   rcases hO with hO | hO
   case inr =>
    refine .inr (hO.same (fun r hr c hc v hR => ?_) (by rw [hβ' j id h1]))
    have hl : lowA 0 c = true := List.all_eq_true.1 (List.all_eq_true.1 h3 r hr) c hc
    exact (low_R hR hl).mono (Nat.zero_le _) (fun _ h => absurd h (Nat.not_lt_zero _)) (fun _ b hb => ⟨.inl hb.1, hb.2⟩) (fun _ _ _ => rfl) (Shapes.refl _)
   obtain ⟨rs, hp, es, clock, q1, q2, hbn, q3⟩ := hO
   refine .inl ⟨rs, hp, es, clock, by rw [hβ' j id h1]; exact q1, q2, hbn, fun i r hi => ?_⟩
   obtain ⟨en, x, p1, p2, p3⟩ := q3 i r hi
   obtain ⟨i', hi'⟩ := List.mem_iff_getElem?.1 (hp.mem_iff.1 (List.mem_of_getElem? hi))
   exact ⟨en, x, p1, p2, (low_R p3 (hlow i' r hi' 1 x (by rw [p2]; rfl))).mono (Nat.zero_le _) (fun _ h => absurd h (Nat.not_lt_zero _)) (fun _ b hb => ⟨.inl hb.1, hb.2⟩) (fun _ _ _ => rfl) (Shapes.refl _)⟩
  rename_i h0
  rw [if_neg h0]
  obtain ⟨cs, e, g1, g2, g3, g4, g5⟩ := hO
  refine ⟨cs, e, by rw [hβ' j id h1]; exact g1, g2, g3, g4, fun i r hi k a ha => ?_⟩
  exact (low_R (g5 i r hi k a ha) (hlow i r hi k a ha)).mono (Nat.zero_le _) (fun _ h => absurd h (Nat.not_lt_zero _)) (fun _ b hb => ⟨.inl hb.1, hb.2⟩) (fun _ _ _ => rfl) (Shapes.refl _)
 ·intro a b ha hb hab
  obtain ⟨x, hx, hlx⟩ := hlive a ha
  obtain ⟨y, hy, hly⟩ := hlive b hb
  rw [hβ' a x hx, hβ' b y hy] at hab
  have hxy := hs.inj x y hlx hly hab
  subst hxy
  obtain ⟨h1, h2⟩ := List.getElem?_eq_some_iff.1 hx
  obtain ⟨h3, h4⟩ := List.getElem?_eq_some_iff.1 hy
  have hpw := List.pairwise_iff_getElem.1 hnd
  rcases Nat.lt_trichotomy a b with q | q | q
  ·exact absurd (h2.trans h4.symm) (hpw _ _ h1 h3 q)
  ·exact q
  ·exact absurd (h4.trans h2.symm) (hpw _ _ h3 h1 q)
 ·intro a ha
  obtain ⟨x, hx, hlx⟩ := hlive a ha
  rw [hβ' a x hx]
  refine ⟨(hs.own x hlx).1, ?_⟩
  rintro (h | ⟨id, h1, h2, h3⟩)
  ·exact (hs.own x hlx).2 h
  ·have := hs.inj x id hlx h1 h3
   subst this
   exact h2 (List.mem_of_getElem? hx)
 ·rintro b (h | ⟨id, ⟨o, ho⟩, _, rfl⟩)
  ·exact hs.fzlt b h
  ·exact hs.blt ⟨_, ho⟩
theorem frame_end (hs : HSim base w0 β fz H w) {fp : List Nat} (hfp : ∀ id ∈ fp, id < H.length) {β' β1 : Nat → Nat} (hβ' : ∀ (j id : Nat), fp[j]? = some id → β' j = β id) {fz1 : Nat → Prop} {H1 H2 : Heap} {w1 : World} {r : AVal} {v : Value}
  (hs1 : HSim base w0 β1 fz1 H1 w1) (he : Ext fp.length β' (fzOf β fz H fp) w H1.length β1 fz1 w1) (hR : R β1 (okOf base fz1) w1 H1.length r v) (hbr : bareA r = true)
  (hbH : ∀ (j : Nat) o, H1[j]? = some (some o) → (o.2.all fun row => row.all bareA) = true) (hlen : H2.length = H.length + (H1.length - fp.length))
  (hL : ∀ (q : Nat) o, H2[q]? = some (some o) → (∃ j o1, q = tauI fp H.length j ∧ H1[j]? = some (some o1) ∧ some o = tauO fp H.length (some o1)) ∨ (q < H.length ∧ q ∉ fp ∧ H[q]? = some (some o))) :
  ∃ β2 fz2, HSim base w0 β2 fz2 H2 w1 ∧ Ext H.length β fz w H2.length β2 fz2 w1 ∧ R β2 (okOf base fz2) w1 H2.length (tau fp H.length r) v := by
 have hn := he.hn
 refine ⟨fun id => if id < H.length then β id else β1 (id - H.length + fp.length), fun b => fz1 b ∧ ¬ ∃ id, Live H id ∧ id ∉ fp ∧ b = β id, ?_⟩
 generalize hβ2 : (fun id => if id < H.length then β id else β1 (id - H.length + fp.length)) = β2
 generalize hfz2 : (fun b => fz1 b ∧ ¬ ∃ id, Live H id ∧ id ∉ fp ∧ b = β id) = fz2
 have bOld : ∀ id, id < H.length → β2 id = β id := by intro id h; rw [← hβ2]; simp [h]
 have bNew : ∀ j, j < H1.length → β2 (tauI fp H.length j) = β1 j ∧ tauI fp H.length j < H2.length := by
  intro j hj
  unfold tauI
  cases hq : fp[j]? with
  | some id =>
   simp only
   have hm := hfp id (List.mem_of_getElem? hq)
   have hjl : j < fp.length := (List.getElem?_eq_some_iff.1 hq).1
   rw [bOld id hm, he.hβ j hjl, hβ' j id hq]
   exact ⟨rfl, by omega⟩
  | none =>
   simp only
   have hjl : fp.length ≤ j := by simpa using hq
   rw [← hβ2]
   have : ¬ H.length + (j - fp.length) < H.length := by omega
   have e : H.length + (j - fp.length) - H.length + fp.length = j := by omega
   simp only [this, if_false, e, true_and]
   omega
 have fzUp : ∀ b, fz b → fz2 b := by
  intro b hb
  rw [← hfz2]
  refine ⟨he.hfz b (.inl hb), ?_⟩
  rintro ⟨id, h1, _, rfl⟩
  exact (hs.own id h1).2 hb
 have ext : Ext H.length β fz w H2.length β2 fz2 w1 := ⟨by omega, bOld, fzUp, fun b hb => he.blk b (.inl hb), he.shape⟩
 have hRn : ∀ {a : AVal} {x : Value}, R β1 (okOf base fz1) w1 H1.length a x → bareA a = true → R β2 (okOf base fz2) w1 H2.length (tau fp H.length a) x := fun h hb => tau_R bNew h hb
 refine ⟨⟨?_, ?_, ?_, ?_, hs1.below, hs1.base⟩, ext, hRn hR hbr⟩
 ·intro q sz rows hq
  rcases hL q _ hq with ⟨j, ⟨sz1, rows1⟩, rfl, hj, ho⟩ | ⟨h1, h2, h3⟩
  ·simp only [tauO, Option.some.injEq, Prod.mk.injEq] at ho
   obtain ⟨rfl, rfl⟩ := ho
   have hO := hs1.objs' j _ _ hj
   have hjl := (List.getElem?_eq_some_iff.1 hj).1
   unfold OSim at hO ⊢
   split at hO
   ·rename_i h0
    rw [if_pos h0]
    rcases hO with hO | hO
    case inr => exact .inr (hO.map (fun r hr c hc v hR => hRn hR (List.all_eq_true.1 (List.all_eq_true.1 (hbH j _ hj) r hr) c hc)) (by rw [(bNew j hjl).1]))
    obtain ⟨rs, hp, es, clock, q1, q2, hbn, q3⟩ := hO
    refine .inl ⟨rs.map (List.map (tau fp H.length)), hp.map _, es, clock, by rw [(bNew j hjl).1]; exact q1, by simpa using q2, hbn, fun i rr hi => ?_⟩
    simp only [List.getElem?_map, Option.map_eq_some_iff] at hi
    obtain ⟨r', hr', rfl⟩ := hi
    obtain ⟨en, x, p1, p2, p3⟩ := q3 i r' hr'
    have hb := List.all_eq_true.1 (hbH j _ hj) r' (hp.mem_iff.1 (List.mem_of_getElem? hr'))
    subst p2
    exact ⟨en, tau fp H.length x, p1, by simp [tau], hRn p3 (List.all_eq_true.1 hb x (by simp))⟩
   rename_i h0
   rw [if_neg h0]
   obtain ⟨cs, e, g1, g2, g3, g4, g5⟩ := hO
   refine ⟨cs, e, by rw [(bNew j hjl).1]; exact g1, ?_, by simpa using g3, g4, fun i rr hi k a ha => ?_⟩
   ·intro rr hr
    simp only [List.mem_map] at hr
    obtain ⟨r', hr', rfl⟩ := hr
    simpa using g2 r' hr'
   ·simp only [List.getElem?_map, Option.map_eq_some_iff] at hi
    obtain ⟨r', hr', rfl⟩ := hi
    simp only [List.getElem?_map, Option.map_eq_some_iff] at ha
    obtain ⟨y, hy, rfl⟩ := ha
    have hb := List.all_eq_true.1 (hbH j _ hj) r' (List.mem_of_getElem? hr')
    exact hRn (g5 i r' hr' k y hy) (List.all_eq_true.1 hb y (List.mem_of_getElem? hy))
  ·refine (hs.objs' q _ _ h3).ext ext ?_
   rw [bOld q h1, he.blk _ (.inr ⟨q, ⟨_, h3⟩, h2, rfl⟩)]
 ·rintro a b ⟨oa, ha⟩ ⟨ob, hb⟩ hab
  rcases hL a _ ha with ⟨j, o1, rfl, hj, ho⟩ | ⟨h1, h2, h3⟩
  ·have hjl := (List.getElem?_eq_some_iff.1 hj).1
   rcases hL b _ hb with ⟨j', o1', rfl, hj', ho'⟩ | ⟨h1', h2', h3'⟩
   ·have hjl' := (List.getElem?_eq_some_iff.1 hj').1
    rw [(bNew j hjl).1, (bNew j' hjl').1] at hab
    rw [hs1.inj j j' ⟨_, hj⟩ ⟨_, hj'⟩ hab]
   ·exfalso
    rw [(bNew j hjl).1, bOld b h1'] at hab
    refine (hs1.own j ⟨_, hj⟩).2 ?_
    rw [hab]
    exact he.hfz _ (.inr ⟨b, ⟨_, h3'⟩, h2', rfl⟩)
  ·rcases hL b _ hb with ⟨j', o1', rfl, hj', ho'⟩ | ⟨h1', h2', h3'⟩
   ·exfalso
    have hjl' := (List.getElem?_eq_some_iff.1 hj').1
    rw [(bNew j' hjl').1, bOld a h1] at hab
    refine (hs1.own j' ⟨_, hj'⟩).2 ?_
    rw [← hab]
    exact he.hfz _ (.inr ⟨a, ⟨_, h3⟩, h2, rfl⟩)
   ·rw [bOld a h1, bOld b h1'] at hab
    exact hs.inj a b ⟨_, h3⟩ ⟨_, h3'⟩ hab
 ·rintro a ⟨oa, ha⟩
  rcases hL a _ ha with ⟨j, o1, rfl, hj, ho⟩ | ⟨h1, h2, h3⟩
  ·have hjl := (List.getElem?_eq_some_iff.1 hj).1
   rw [(bNew j hjl).1]
   refine ⟨(hs1.own j ⟨_, hj⟩).1, fun h => (hs1.own j ⟨_, hj⟩).2 ?_⟩
   rw [← hfz2] at h
   exact h.1
  ·rw [bOld a h1]
   refine ⟨(hs.own a ⟨_, h3⟩).1, fun h => ?_⟩
   rw [← hfz2] at h
   exact h.2 ⟨a, ⟨_, h3⟩, h2, rfl⟩
 ·intro b hb
  rw [← hfz2] at hb
  exact hs1.fzlt b hb.1
def bareH : Heap → Bool
 | [] => true
 | some o :: r => (o.2.all fun row => row.all bareA) && bareH r
 | none :: r => bareH r
theorem bareH_get : ∀ {H1 : Heap}, bareH H1 = true → ∀ (j : Nat) o, H1[j]? = some (some o) → (o.2.all fun row => row.all bareA) = true
 | [], _, j, o, h => by simp at h
 | none :: r, hb, j, o, h => by
  cases j with
  | zero => simp at h
  | succ j => exact bareH_get (H1 := r) (by simpa [bareH] using hb) j o (by simpa using h)
 | some p :: r, hb, j, o, h => by
  simp only [bareH, Bool.and_eq_true] at hb
  cases j with
  | zero => simp at h; subst h; exact hb.1
  | succ j => exact bareH_get (H1 := r) hb.2 j o (by simpa using h)
def frame0 (m : Row → Heap → Option (AVal × Heap)) (args : Row) (H : Heap) : Option (AVal × Heap) :=
 match m (args.map fun a => cold (view H depthV a)) [] with
 | some (r, H1) => if bareA r && bareH H1 then some (tau [] H.length r, H ++ H1.map (tauO [] H.length)) else none
 | none => none
def frame1 (m : Row → Heap → Option (AVal × Heap)) : Row → Heap → Option (AVal × Heap)
 | .osl id sz s len kc :: rest, H =>
  match obj H id with
  | some (sz', rows) =>
   if flat0 rows then
    match m (.osl 0 sz s len kc :: rest.map fun a => cold (view (H.set id none) depthV a)) [some (sz', rows)] with
    | some (r, o :: H1) => if bareA r && bareH (o :: H1) then some (tau [id] H.length r, (H.set id (tauO [id] H.length o)) ++ H1.map (tauO [id] H.length)) else none
    | _ => none
   else none
  | none => none
 | args, H => frame0 m args H
theorem frame0_ok {f : FuncId} {m : Row → Heap → Option (AVal × Heap)} (hm : InlOk P f m) : InlOk P f (frame0 m) := by
 intro args H x H' hr base w0 β fz w vals hs hargs fn hfn
 unfold frame0 at hr
 split at hr
 ·rename_i r H1 hm1
  split at hr
  ·rename_i hb
   simp only [Bool.and_eq_true] at hb
   simp only [Option.some.injEq, Prod.mk.injEq] at hr
   obtain ⟨rfl, rfl⟩ := hr
   have hs0 : HSim base w0 β (fzOf β fz H []) [] w := frame_start hs (List.nodup_nil) (fun j id h => by simp at h) (fun j o h => by simp at h)
   have hargs' : ArgsR β (okOf base (fzOf β fz H [])) w ([] : Heap).length (args.map fun a => cold (view H depthV a)) vals := by
    refine ⟨by simpa using hargs.1, fun j a ha => ?_⟩
    simp only [List.getElem?_map, Option.map_eq_some_iff] at ha
    obtain ⟨y, hy, rfl⟩ := ha
    have h1 := view_R' (fz' := fzOf β fz H []) hs (fun b hb => .inl hb) (fun id hid => .inr ⟨id, hid, by simp, rfl⟩) depthV y _ (hargs.2 j y hy)
    have h2 := cold_R (ok' := okOf base (fzOf β fz H [])) h1 (fun o b hb => ⟨hb.1, fun h => by cases h⟩)
    exact h2.mono (Nat.zero_le _) (fun _ h => absurd h (Nat.not_lt_zero _)) (fun _ _ h => h) (fun _ _ _ => rfl) (Shapes.refl _)
   have key : ∀ (e : Ending) (w1 : World), (∃ v β' fz', e = .returned v ∧ HSim base w0 β' fz' H1 w1 ∧ Ext ([] : Heap).length β (fzOf β fz H []) w H1.length β' fz' w1 ∧ R β' (okOf base fz') w1 H1.length r v) →
     ∃ v β' fz', e = .returned v ∧ HSim base w0 β' fz' (H ++ H1.map (tauO [] H.length)) w1 ∧ Ext H.length β fz w (H ++ H1.map (tauO [] H.length)).length β' fz' w1 ∧ R β' (okOf base fz') w1 (H ++ H1.map (tauO [] H.length)).length (tau [] H.length r) v := by
    rintro e w1 ⟨v, β1, fz1, he, k1, k2, k3⟩
    obtain ⟨β2, fz2, q1, q2, q3⟩ := frame_end (fp := []) (H2 := H ++ H1.map (tauO [] H.length)) hs (by simp) (fun j id h => by simp at h) k1 k2 k3 hb.1 (bareH_get hb.2) (by simp) (by
     intro q o hq
     rw [List.getElem?_append] at hq
     split at hq
     ·rename_i hlt; exact .inr ⟨hlt, by simp, hq⟩
     ·rename_i hlt
      left
      simp only [List.getElem?_map, Option.map_eq_some_iff] at hq
      obtain ⟨o1, ho1, ho2⟩ := hq
      cases o1 with
      | none => simp [tauO] at ho2
      | some o1 => exact ⟨q - H.length, o1, by simp [tauI]; omega, ho1, ho2.symm⟩)
    exact ⟨v, β2, fz2, he, q1, q2, q3⟩
   obtain ⟨c1, c2⟩ := hm _ _ _ _ hm1 base w0 β (fzOf β fz H []) w vals hs0 hargs' fn hfn
   refine ⟨fun h => (c1 h).mono (fun e w1 => key e w1), fun h => ?_⟩
   obtain ⟨v, w', h1, h2⟩ := c2 h
   exact ⟨v, w', h1, key _ _ h2⟩
  ·cases hr
 ·cases hr
theorem frame1_ok {f : FuncId} {m : Row → Heap → Option (AVal × Heap)} (hm : InlOk P f m) : InlOk P f (frame1 m) := by
 intro args H x H' hr base w0 β fz w vals hs hargs fn hfn
 unfold frame1 at hr
 split at hr
 ·rename_i id sz s len kc rest
  split at hr
  ·rename_i sz' rows hob
   split at hr
   ·rename_i hflat
    split at hr
    ·rename_i r o H1 hm1
     split at hr
     ·rename_i hb
      simp only [Bool.and_eq_true] at hb
      simp only [Option.some.injEq, Prod.mk.injEq] at hr
      obtain ⟨rfl, rfl⟩ := hr
      have hid := obj_some hob
      have hidl := (List.getElem?_eq_some_iff.1 hid).1
      have hβ' : ∀ (j i : Nat), [id][j]? = some i → (fun _ : Nat => β id) j = β i := by
       intro j i h
       cases j with
       | zero => simp at h; rw [h]
       | succ j => simp at h
      have hs0 : HSim base w0 (fun _ => β id) (fzOf β fz H [id]) [some (sz', rows)] w := frame_start hs (by simp) hβ' (fun j o h => by
       cases j with
       | zero => simp at h; subst h; exact ⟨id, by simp, hid, hflat⟩
       | succ j => simp at h)
      obtain ⟨hk1, hk2⟩ := hs.kill id
      have hlive : ∀ k, Live (H.set id none) k → Live H k ∧ k ≠ id := by
       rintro k ⟨p, hp⟩
       by_cases hki : k = id
       ·subst hki; rw [List.getElem?_set_self hidl] at hp; simp at hp
       ·rw [List.getElem?_set_ne (by omega)] at hp; exact ⟨⟨p, hp⟩, hki⟩
      have hargs' : ArgsR (fun _ => β id) (okOf base (fzOf β fz H [id])) w ([some (sz', rows)] : Heap).length (.osl 0 sz s len kc :: rest.map fun a => cold (view (H.set id none) depthV a)) vals := by
       refine ⟨by simpa using hargs.1, fun j a ha => ?_⟩
       cases j with
       | zero =>
        simp at ha
        subst ha
        have := hargs.2 0 _ rfl
        generalize vals[0]?.getD undef = v0 at *
        cases this with
        | osl h hl hk hc => exact .osl (by simp) hl hk hc
       | succ j =>
        simp only [List.getElem?_cons_succ, List.getElem?_map, Option.map_eq_some_iff] at ha
        obtain ⟨y, hy, rfl⟩ := ha
        have hy' := (hargs.2 (j + 1) y (by simpa using hy)).ext hk2
        have h1 := view_R' (fz' := fzOf β fz H [id]) hk1 (fun b hb => .inl hb) (fun k hk => .inr ⟨k, (hlive k hk).1, by simpa using (hlive k hk).2, rfl⟩) depthV y _ hy'
        have h2 := cold_R (ok' := okOf base (fzOf β fz H [id])) h1 (fun o b hb => ⟨hb.1, fun h => by cases h⟩)
        exact h2.mono (Nat.zero_le _) (fun _ h => absurd h (Nat.not_lt_zero _)) (fun _ _ h => h) (fun _ _ _ => rfl) (Shapes.refl _)
      have key : ∀ (e : Ending) (w1 : World), (∃ v β' fz', e = .returned v ∧ HSim base w0 β' fz' (o :: H1) w1 ∧ Ext ([some (sz', rows)] : Heap).length (fun _ => β id) (fzOf β fz H [id]) w (o :: H1).length β' fz' w1 ∧ R β' (okOf base fz') w1 (o :: H1).length r v) →
        ∃ v β' fz', e = .returned v ∧ HSim base w0 β' fz' ((H.set id (tauO [id] H.length o)) ++ H1.map (tauO [id] H.length)) w1 ∧ Ext H.length β fz w ((H.set id (tauO [id] H.length o)) ++ H1.map (tauO [id] H.length)).length β' fz' w1 ∧ R β' (okOf base fz') w1 ((H.set id (tauO [id] H.length o)) ++ H1.map (tauO [id] H.length)).length (tau [id] H.length r) v := by
       rintro e w1 ⟨v, β1, fz1, he, k1, k2, k3⟩
       obtain ⟨β2, fz2, q1, q2, q3⟩ := frame_end (fp := [id]) (H2 := (H.set id (tauO [id] H.length o)) ++ H1.map (tauO [id] H.length)) hs (by simpa using hidl) hβ' k1 k2 k3 hb.1 (bareH_get hb.2) (by simp) (by
        intro q p hq
        rw [List.getElem?_append] at hq
        split at hq
        ·rename_i hlt
         simp only [List.length_set] at hlt
         by_cases hqi : q = id
         ·subst hqi
          rw [List.getElem?_set_self hlt] at hq
          simp only [Option.some.injEq] at hq
          cases o with
          | none => simp [tauO] at hq
          | some o => exact .inl ⟨0, o, by simp [tauI], by simp, hq.symm⟩
         ·rw [List.getElem?_set_ne (by omega)] at hq
          exact .inr ⟨hlt, by simpa using hqi, hq⟩
        ·rename_i hlt
         left
         simp only [List.length_set] at hlt hq
         simp only [List.getElem?_map, Option.map_eq_some_iff] at hq
         obtain ⟨o1, ho1, ho2⟩ := hq
         cases o1 with
         | none => simp [tauO] at ho2
         | some o1 => exact ⟨q - H.length + 1, o1, by simp [tauI]; omega, by simpa using ho1, ho2.symm⟩)
       exact ⟨v, β2, fz2, he, q1, q2, q3⟩
      obtain ⟨c1, c2⟩ := hm _ _ _ _ hm1 base w0 _ (fzOf β fz H [id]) w vals hs0 hargs' fn hfn
      refine ⟨fun h => (c1 h).mono (fun e w1 => key e w1), fun h => ?_⟩
      obtain ⟨v, w', h1, h2⟩ := c2 h
      exact ⟨v, w', h1, key _ _ h2⟩
     ·cases hr
    ·cases hr
   ·cases hr
  ·cases hr
 ·exact frame0_ok hm _ _ _ _ hr base w0 β fz w vals hs hargs fn hfn
theorem hsim_weakT {n0 : Nat} {βe : Nat → Nat} {fze : Nat → Prop} {we : World} {x r : AVal} {v : Value} {H' : Heap} {th : List Nat} (hs : HSim base w0 β fz H w) (he : Ext n0 βe fze we H.length β fz w) (hR : R β (okOf base fz) w H.length x v)
  (h : WeakT n0 th ([(0, r)], H') ([(0, x)], H)) : ∃ β', HSim base w0 β' fz H' w ∧ Ext n0 βe fze we H'.length β' fz w ∧ R β' (okOf base fz) w H'.length r v := by
 have hsim : Sim ⟨1, n0, βe, fze, we⟩ base w0 β fz [(0, x)] H { tmps := #[v], defers := [] } w := by
  refine ⟨hs, rfl, rfl, he, fun t => ?_⟩
  cases t with
  | zero => simpa [look] using hR
  | succ t => simp only [look]; exact .junk
 have hw := hsim.weakT h
 have := hw.env 0
 exact ⟨_, hw.heap, hw.ext, by simpa [look] using this⟩
end
end Go.AI
