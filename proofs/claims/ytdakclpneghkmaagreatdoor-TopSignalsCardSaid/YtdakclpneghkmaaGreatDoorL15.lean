/- A call that is handed no object, and answers new objects that may hold new frozen data. -/
import Derived.Test.YtdakclpneghkmaaGreatDoorL14
namespace Go.AI
set_option linter.unusedSimpArgs false
set_option linter.unusedVariables false
open Go.RowKit
mutual
/-- nothing in it but ids, plain values and new frozen data -/
def newA : AVal → Bool
  | .v _ => true
  | .ptr _ _ _ _ => true
  | .osl _ _ _ _ _ => true
  | .xsl _ _ _ _ _ => true
  | .esl => true
  | .junk => true
  | .anyb => true
  | .agg cs => newC cs
  | .tup vs => newC vs
  | .fsl o _ rows => (o || rows.isEmpty) && hotR rows
  | _ => false
def newC : List AVal → Bool
  | [] => true
  | a :: r => newA a && newC r
end
theorem newC_all (l : Row) : newC l = l.all newA := by
  induction l with
  | nil => simp [newC]
  | cons a r ih => simp [newC, ih]
def newH : Heap → Bool
  | [] => true
  | some o :: r => (o.2.all fun row => row.all newA) && newH r
  | none :: r => newH r
theorem newH_get : ∀ {H1 : Heap}, newH H1 = true → ∀ (j : Nat) o, H1[j]? = some (some o) → (o.2.all fun row => row.all newA) = true
  | [], _, j, o, h => by simp at h
  | none :: r, hb, 0, o, h => by simp at h
  | none :: r, hb, j + 1, o, h => newH_get (H1 := r) (by simpa [newH] using hb) j o (by simpa using h)
  | some o1 :: r, hb, 0, o, h => by
    simp only [newH, Bool.and_eq_true] at hb
    simp at h; subst h; exact hb.1
  | some o1 :: r, hb, j + 1, o, h => by
    simp only [newH, Bool.and_eq_true] at hb
    exact newH_get hb.2 j o (by simpa using h)
theorem newH_app {X Y : Heap} : newH (X ++ Y) = (newH X && newH Y) := by
  induction X with
  | nil => simp [newH]
  | cons o X ih => cases o <;> simp [newH, ih, Bool.and_assoc]
section
variable {base : Nat} {w0 : World} {β : Nat → Nat} {fz : Nat → Prop} {H : Heap} {w : World} {P : Program}
/-- new data is new to anybody -/
theorem hot_R2 {β1 β2 : Nat → Nat} {ok1 ok2 : Bool → Nat → Prop} (h2 : ∀ b, ok1 true b → ok2 true b) {m : Nat} : ∀ {a : AVal} {v : Value}, R β1 ok1 w m a v → hot a = true → ∀ n, R β2 ok2 w n a v := by
  intro a v h
  induction h with
  | junk => intro _ _; exact .junk
  | anyb => intro _ _; exact .anyb
  | v => intro _ _; exact .v
  | ptr h _ => intro hh; simp [hot] at hh
  | mp h => intro hh; simp [hot] at hh
  | fptr x hb hc hr ih => intro hh; simp [hot] at hh
  | osl h hl hk ha => intro hh; simp [hot] at hh
  | xsl h hl ha => intro hh; simp [hot] at hh
  | @fsl n o sz rows b off cap x hl hs hb hc hr ih =>
    intro hh n'
    simp only [hot, Bool.and_eq_true, Bool.or_eq_true] at hh
    obtain ⟨h1, h3⟩ := hh
    rw [hotR_all] at h3
    by_cases hr0 : rows = []
    · subst hr0; exact .fsl0
    · have ho : o = true := by
        rcases h1 with h1 | h1
        · exact h1
        · exact absurd (by simpa using h1) hr0
      subst ho
      refine .fsl x hl hs (fun h => h2 _ (hb h)) hc (fun i r hi j a ha => ih i r hi j a ha ?_ 0)
      have h4 := List.all_eq_true.1 h3 r (List.mem_of_getElem? hi)
      exact List.all_eq_true.1 h4 a (List.mem_of_getElem? ha)
  | fsl0 => intro _ _; exact .fsl0
  | esl => intro _ _; exact .esl
  | agg hl hr ih =>
    intro hh n
    simp only [hot, hotC_all] at hh
    exact .agg hl fun j a ha => ih j a ha (List.all_eq_true.1 hh a (List.mem_of_getElem? ha)) n
  | tup hl hr ih =>
    intro hh n
    simp only [hot, hotC_all] at hh
    exact .tup hl fun j a ha => ih j a ha (List.all_eq_true.1 hh a (List.mem_of_getElem? ha)) n
  | fn hl hr ih => intro hh; simp [hot] at hh
  | when h hu ih => intro hh; simp [hot] at hh
  | ifc h ih => intro hh; simp [hot] at hh
  | meth => intro hh; simp [hot] at hh
theorem tauN_R {n m n2 : Nat} {β1 β2 : Nat → Nat} {ok1 ok2 : Bool → Nat → Prop} (h2 : ∀ b, ok1 true b → ok2 true b) (hβ : ∀ j, j < m → β2 (tauI [] n j) = β1 j ∧ tauI [] n j < n2) : ∀ {a : AVal} {v : Value}, R β1 ok1 w m a v → newA a = true → R β2 ok2 w n2 (tau [] n a) v := by
  intro a v h
  induction h with
  | junk => intro _; simp only [tau]; exact .junk
  | anyb => intro _; simp only [tau]; exact .anyb
  | v => intro _; simp only [tau]; exact .v
  | ptr h h0 => intro _; simp only [tau]; rw [← (hβ _ h).1]; exact .ptr (hβ _ h).2 h0
  | mp h => intro _; simp only [tau]; rw [← (hβ _ h).1]; exact .mp (hβ _ h).2
  | fptr x hb hc hr ih => intro hb; simp [newA] at hb
  | osl h hl hk ha => intro _; simp only [tau]; exact .osl (hβ _ h).2 hl hk (by rw [(hβ _ h).1]; exact ha)
  | xsl h hl ha => intro _; simp only [tau]; exact .xsl (hβ _ h).2 hl (by rw [(hβ _ h).1]; exact ha)
  | @fsl n o sz rows b off cap x hl hs hb hc hr ih =>
    intro hh
    simp only [tau]
    exact hot_R2 (β1 := β1) (ok1 := ok1) h2 (.fsl (n := 0) x hl hs hb hc hr) (by simpa [newA, hot] using hh) n2
  | fsl0 => intro _; simp only [tau]; exact .fsl0
  | esl => intro _; simp only [tau]; exact .esl
  | agg hl hr ih =>
    intro hb
    simp only [newA, newC_all] at hb
    simp only [tau, tauC_map]
    refine .agg (by simpa using hl) fun j a ha => ?_
    simp only [List.getElem?_map, Option.map_eq_some_iff] at ha
    obtain ⟨y, hy, rfl⟩ := ha
    exact ih j y hy hβ (List.all_eq_true.1 hb y (List.mem_of_getElem? hy))
  | tup hl hr ih =>
    intro hb
    simp only [newA, newC_all] at hb
    simp only [tau, tauC_map]
    refine .tup (by simpa using hl) fun j a ha => ?_
    simp only [List.getElem?_map, Option.map_eq_some_iff] at ha
    obtain ⟨y, hy, rfl⟩ := ha
    exact ih j y hy hβ (List.all_eq_true.1 hb y (List.mem_of_getElem? hy))
  | fn hl hr ih => intro hb; simp [newA] at hb
  | when h hu ih => intro hb; simp [newA] at hb
  | ifc h ih => intro hb; simp [newA] at hb
  | meth => intro hb; simp [newA] at hb
/-- a call that is handed no object: what it answers is new -/
def frameN (m : Row → Heap → Option (AVal × Heap)) (args : Row) (H : Heap) : Option (AVal × Heap) :=
  match m (args.map fun a => cold (view H depthV a)) [] with
  | some (r, H1) => if newA r && newH H1 then some (tau [] H.length r, H ++ H1.map (tauO [] H.length)) else none
  | none => none
theorem frameN_end (hs : HSim base w0 β fz H w) {β1 : Nat → Nat} {fz1 : Nat → Prop} {H1 : Heap} {w1 : World} {r : AVal} {v : Value} (hs1 : HSim w.heap.size w β1 fz1 H1 w1) (hsh : Shapes w w1) (hR : R β1 (okOf w.heap.size fz1) w1 H1.length r v) (hr : newA r = true) (hH : newH H1 = true) :
    ∃ β2 fz2, HSim base w0 β2 fz2 (H ++ H1.map (tauO [] H.length)) w1 ∧ Ext H.length β fz w (H ++ H1.map (tauO [] H.length)).length β2 fz2 w1 ∧ R β2 (okOf base fz2) w1 (H ++ H1.map (tauO [] H.length)).length (tau [] H.length r) v := by
  have hbase : base ≤ w.heap.size := Nat.le_trans hs.base hs.below.size
  have hold : ∀ b, b < w.heap.size → w1.heap[b]? = w.heap[b]? := fun b hb => hs1.below.block b hb
  obtain ⟨β2, hβ2⟩ : ∃ β2 : Nat → Nat, β2 = fun id => if id < H.length then β id else β1 (id - H.length) := ⟨_, rfl⟩
  obtain ⟨fz2, hfz2⟩ : ∃ fz2 : Nat → Prop, fz2 = fun b => fz b ∨ (fz1 b ∧ w.heap.size ≤ b) := ⟨_, rfl⟩
  have hlen : (H ++ H1.map (tauO [] H.length)).length = H.length + H1.length := by simp
  have b0 : ∀ id, id < H.length → β2 id = β id := fun id h => by rw [hβ2]; simp [h]
  have b1 : ∀ j, β2 (H.length + j) = β1 j := fun j => by rw [hβ2]; simp only []; rw [if_neg (by omega)]; congr 1; omega
  have ext : Ext H.length β fz w (H ++ H1.map (tauO [] H.length)).length β2 fz2 w1 :=
    ⟨by rw [hlen]; omega, b0, fun b hb => by rw [hfz2]; exact .inl hb, fun b hb => hold b (hs.fzlt b hb), hsh⟩
  have hok : ∀ b, okOf w.heap.size fz1 true b → okOf base fz2 true b := fun b hb => by
    have h2 := hb.2 rfl
    rw [hfz2]
    exact ⟨.inr ⟨hb.1, h2⟩, fun _ => Nat.le_trans hbase h2⟩
  have htau : ∀ j, j < H1.length → β2 (tauI [] H.length j) = β1 j ∧ tauI [] H.length j < (H ++ H1.map (tauO [] H.length)).length := fun j hj => by
    have : tauI [] H.length j = H.length + j := by simp [tauI]
    rw [this]
    exact ⟨b1 j, by rw [hlen]; omega⟩
  have look : ∀ (q : Nat) o, (H ++ H1.map (tauO [] H.length))[q]? = some (some o) → (q < H.length ∧ H[q]? = some (some o)) ∨ ∃ j o1, q = H.length + j ∧ H1[j]? = some (some o1) ∧ o = (o1.1, o1.2.map (List.map (tau [] H.length))) := by
    intro q o hq
    rw [List.getElem?_append] at hq
    split at hq
    · rename_i hlt; exact .inl ⟨hlt, hq⟩
    · rename_i hlt
      right
      simp only [List.getElem?_map, Option.map_eq_some_iff] at hq
      obtain ⟨o1, ho1, ho2⟩ := hq
      cases o1 with
      | none => simp [tauO] at ho2
      | some o1 => exact ⟨q - H.length, o1, by omega, ho1, by simpa [tauO] using ho2.symm⟩
  refine ⟨β2, fz2, ⟨?_, ?_, ?_, ?_, ?_, hs.base⟩, ext, tauN_R hok htau hR hr⟩
  · intro q sz rows hq
    rcases look q _ hq with ⟨hlt, ho⟩ | ⟨j, o1, rfl, ho1, he⟩
    · refine (hs.objs' q sz rows ho).ext ext ?_
      rw [b0 q hlt]
      exact hold _ (hs.blt ⟨_, ho⟩)
    · obtain ⟨sz1, rows1⟩ := o1
      simp only [Prod.mk.injEq] at he
      obtain ⟨rfl, rfl⟩ := he
      have hO := hs1.objs' j sz rows1 ho1
      have hnew := newH_get hH j _ ho1
      rw [List.all_eq_true] at hnew
      unfold OSim at hO ⊢
      split
      · rename_i h0
        rw [if_pos h0] at hO
        rcases hO with hO | hO
        case inr =>
          refine .inr (hO.map (fun r hr c hc v hR => ?_) (by rw [b1]))
          have hn := hnew r hr
          rw [List.all_eq_true] at hn
          exact tauN_R hok htau hR (hn c hc)
        obtain ⟨rs, hp, es, clock, h1, h2, hbn, h3⟩ := hO
        refine .inl ⟨rs.map (List.map (tau [] H.length)), hp.map _, es, clock, by rw [b1]; exact h1, by simpa using h2, hbn, fun i r hi => ?_⟩
        simp only [List.getElem?_map, Option.map_eq_some_iff] at hi
        obtain ⟨r0, hr0, rfl⟩ := hi
        obtain ⟨en, a, g1, rfl, g3⟩ := h3 i r0 hr0
        have hn := hnew _ (hp.mem_iff.1 (List.mem_of_getElem? hr0))
        rw [List.all_eq_true] at hn
        exact ⟨en, tau [] H.length a, g1, rfl, tauN_R hok htau g3 (hn a (by simp))⟩
      · rename_i h0
        rw [if_neg h0] at hO
        obtain ⟨cs, e, h1, h2, h3, h4, h5⟩ := hO
        refine ⟨cs, e, by rw [b1]; exact h1, ?_, by simpa using h3, h4, ?_⟩
        · intro r hr
          simp only [List.mem_map] at hr
          obtain ⟨r0, hr0, rfl⟩ := hr
          simpa using h2 r0 hr0
        · intro i r hi j' a ha
          simp only [List.getElem?_map, Option.map_eq_some_iff] at hi
          obtain ⟨r0, hr0, rfl⟩ := hi
          simp only [List.getElem?_map, Option.map_eq_some_iff] at ha
          obtain ⟨a0, ha0, rfl⟩ := ha
          have hn := hnew _ (List.mem_of_getElem? hr0)
          rw [List.all_eq_true] at hn
          exact tauN_R hok htau (h5 i r0 hr0 j' a0 ha0) (hn a0 (List.mem_of_getElem? ha0))
  · rintro a b ⟨x, hx⟩ ⟨y, hy⟩ he
    rcases look a _ hx with ⟨ha, hxa⟩ | ⟨ja, oa, rfl, hoa, _⟩ <;> rcases look b _ hy with ⟨hb, hyb⟩ | ⟨jb, ob, rfl, hob, _⟩
    · rw [b0 a ha, b0 b hb] at he
      exact hs.inj a b ⟨_, hxa⟩ ⟨_, hyb⟩ he
    · rw [b0 a ha, b1] at he
      have h1 := hs.blt ⟨_, hxa⟩
      have h2 := (hs1.own jb ⟨_, hob⟩).1
      omega
    · rw [b0 b hb, b1] at he
      have h1 := hs.blt ⟨_, hyb⟩
      have h2 := (hs1.own ja ⟨_, hoa⟩).1
      omega
    · rw [b1, b1] at he
      have := hs1.inj ja jb ⟨_, hoa⟩ ⟨_, hob⟩ he
      omega
  · rintro q ⟨x, hx⟩
    rcases look q _ hx with ⟨hq, hxq⟩ | ⟨j, o1, rfl, ho1, _⟩
    · rw [b0 q hq, hfz2]
      have h1 := hs.own q ⟨_, hxq⟩
      have h2 := hs.blt ⟨_, hxq⟩
      refine ⟨h1.1, ?_⟩
      rintro (h | ⟨_, h⟩)
      · exact h1.2 h
      · omega
    · rw [b1, hfz2]
      have h1 := hs1.own j ⟨_, ho1⟩
      refine ⟨Nat.le_trans hbase h1.1, ?_⟩
      rintro (h | ⟨h, _⟩)
      · have := hs.fzlt _ h; omega
      · exact h1.2 h
  · intro b hb
    rw [hfz2] at hb
    rcases hb with h | ⟨h, _⟩
    · have := hs.fzlt b h
      have := hs1.below.size
      omega
    · exact hs1.fzlt b h
  · exact hs.below.trans (hs1.below.mono hbase)
theorem frameN_ok {f : FuncId} {m : Row → Heap → Option (AVal × Heap)} (hm : InlOk P f m) : InlOk P f (frameN m) := by
  intro args H x H' hr base w0 β fz w vals hs hargs fn hfn
  unfold frameN at hr
  split at hr
  · rename_i r H1 hm1
    split at hr
    · rename_i hb
      simp only [Bool.and_eq_true] at hb
      simp only [Option.some.injEq, Prod.mk.injEq] at hr
      obtain ⟨rfl, rfl⟩ := hr
      have hs0 := HSim.start w
      have hargs' : ArgsR β0 (okOf w.heap.size (· < w.heap.size)) w ([] : Heap).length (args.map fun a => cold (view H depthV a)) vals := by
        refine ⟨by simpa using hargs.1, fun j a ha => ?_⟩
        simp only [List.getElem?_map, Option.map_eq_some_iff] at ha
        obtain ⟨y, hy, rfl⟩ := ha
        have h1 := view_R hs depthV y _ (hargs.2 j y hy)
        exact cold_R (ok' := okOf w.heap.size (· < w.heap.size)) h1 (fun o b hb => ⟨hb.1, fun h => by cases h⟩)
      have key : ∀ (e : Ending) (w1 : World), (∃ v β' fz', e = .returned v ∧ HSim w.heap.size w β' fz' H1 w1 ∧ Ext ([] : Heap).length β0 (· < w.heap.size) w H1.length β' fz' w1 ∧ R β' (okOf w.heap.size fz') w1 H1.length r v) →
          ∃ v β' fz', e = .returned v ∧ HSim base w0 β' fz' (H ++ H1.map (tauO [] H.length)) w1 ∧ Ext H.length β fz w (H ++ H1.map (tauO [] H.length)).length β' fz' w1 ∧ R β' (okOf base fz') w1 (H ++ H1.map (tauO [] H.length)).length (tau [] H.length r) v := by
        rintro e w1 ⟨v, β1, fz1, he, k1, k2, k3⟩
        obtain ⟨β2, fz2, q1, q2, q3⟩ := frameN_end hs k1 k2.shape k3 hb.1 hb.2
        exact ⟨v, β2, fz2, he, q1, q2, q3⟩
      obtain ⟨c1, c2⟩ := hm _ _ _ _ hm1 w.heap.size w β0 (· < w.heap.size) w vals hs0 hargs' fn hfn
      refine ⟨fun h => (c1 h).mono (fun e w1 => key e w1), fun h => ?_⟩
      obtain ⟨v, w', h1, h2⟩ := c2 h
      exact ⟨v, w', h1, key _ _ h2⟩
    · cases hr
  · cases hr
end
theorem frameN_loc {m : Row → Heap → Option (AVal × Heap)} : ∀ args ids, frame0F args = some ids → Loc (frameN m args) ids true := by
  intro args ids h
  unfold frame0F at h
  split at h
  · rename_i hn
    simp at h
    subst h
    have e : ∀ H, (args.map fun a => cold (view H depthV a)) = args.map fun a => cold (view [] depthV a) := by
      intro H
      apply List.map_congr_left
      intro x hx
      rw [noId_view H _ _ (List.all_eq_true.1 hn x hx)]
    refine Loc.new ⟨fun n => match m (args.map fun a => cold (view [] depthV a)) [] with
      | some (r, H1) => if newA r && newH H1 then some (tau [] n r, H1.map (tauO [] n)) else none
      | none => none, fun H => ?_⟩
    unfold frameN
    rw [e H]
    cases m (args.map fun a => cold (view [] depthV a)) [] with
    | none => rfl
    | some p =>
      obtain ⟨r, H1⟩ := p
      simp only
      split <;> rfl
  · cases h
end Go.AI
/- A cell, or a slot, known a little less. -/
namespace Go.AI
set_option linter.unusedSimpArgs false
set_option linter.unusedVariables false
open Go.RowKit
section
variable {n0 : Nat} {H : Heap}
theorem Ent.cell {ρ : Env} {M i j szM : Nat} {R : List Row} {row : Row} {a r : AVal} (hM : obj H M = some (szM, R)) (hr : R[i]? = some row) (hc : row[j]? = some a) (hs : Sof r a) :
    Ent n0 (ρ, H.set M (some (szM, R.set i (row.set j r)))) (ρ, H) := by
  intro f base w0 β fz act w hn0 h
  obtain ⟨hM1, hM2⟩ := obj_live hM
  have hlt : M < H.length := (List.getElem?_eq_some_iff.1 hM1).1
  have hold : ∀ k x, (H.set M (some (szM, R.set i (row.set j r))))[k]? = some (some x) → Live H k := by
    intro k x hk
    by_cases e : k = M
    · subst e; exact ⟨_, hM1⟩
    · rw [List.getElem?_set_ne (fun q => e q.symm)] at hk; exact ⟨_, hk⟩
  refine ⟨β, fz, ⟨⟨?_, ?_, ?_, h.heap.fzlt, h.heap.below, h.heap.base⟩, h.defers, h.size, ?_, ?_⟩⟩
  · intro k sz rws hk
    simp only [List.length_set]
    by_cases e : k = M
    · subst e
      rw [List.getElem?_set_self hlt] at hk
      simp only [Option.some.injEq, Prod.mk.injEq] at hk
      obtain ⟨rfl, rfl⟩ := hk
      rw [OSim, if_neg hM2]
      obtain ⟨cs, e, g1, g2, g3, g4, g5⟩ := h.heap.cells0 hM1 hM2
      have hi : i < R.length := (List.getElem?_eq_some_iff.1 hr).1
      have hrl := g2 row (List.mem_of_getElem? hr)
      refine ⟨cs, e, g1, ?_, by simpa using g3, g4, ?_⟩
      · intro r' hr'
        rcases List.mem_or_eq_of_mem_set hr' with q | q
        · exact g2 r' q
        · rw [q]; simpa using hrl
      · intro i' r' hi' j' c hj'
        by_cases hii : i' = i
        · subst hii
          rw [List.getElem?_set_self hi] at hi'
          cases hi'
          by_cases hjj : j' = j
          · subst hjj
            have hj : j' < row.length := (List.getElem?_eq_some_iff.1 hc).1
            rw [List.getElem?_set_self hj] at hj'
            cases hj'
            exact hs.known (g5 i' row hr j' _ hc)
          · rw [List.getElem?_set_ne (fun q => hjj q.symm)] at hj'
            exact g5 i' row hr j' c hj'
        · rw [List.getElem?_set_ne (fun q => hii q.symm)] at hi'
          exact g5 i' r' hi' j' c hj'
    · rw [List.getElem?_set_ne (fun q => e q.symm)] at hk
      exact h.heap.objs' k sz rws hk
  · exact fun a b ⟨x, hx⟩ ⟨y, hy⟩ => h.heap.inj a b (hold _ _ hx) (hold _ _ hy)
  · exact fun k ⟨x, hx⟩ => h.heap.own k (hold _ _ hx)
  · have := h.ext; simpa using this
  · intro t; have := h.env t; simpa using this
theorem Ent.slot {ρ : Env} {t : Nat} {r : AVal} (hs : Sof r (look ρ t)) : Ent n0 ((t, r) :: ρ, H) (ρ, H) := by
  intro f base w0 β fz act w hn0 h
  refine ⟨β, fz, ⟨h.heap, h.defers, h.size, h.ext, fun s => ?_⟩⟩
  simp only [look]
  split
  · rename_i e; subst e; exact hs.known (h.env s)
  · exact h.env s
/-- known less, whatever the memory -/
def Lss (a r : AVal) : Prop := ∀ {β : Nat → Nat} {ok : Bool → Nat → Prop} {w : World} {n : Nat} {v : Value}, (∀ o b, ok o b → ok false b) → R β ok w n a v → R β ok w n r v
theorem Lss.refl (a : AVal) : Lss a a := fun _ h => h
theorem Lss.sof {a r : AVal} (h : Sof r a) : Lss a r := fun _ hr => h.known hr
theorem Lss.cold (a : AVal) : Lss a (cold a) := fun hok h => cold_R h hok
theorem Ent.rowL {ρ : Env} {M i szM : Nat} {R : List Row} {row row' : Row} (hM : obj H M = some (szM, R)) (hr : R[i]? = some row) (hl : row'.length = row.length) (hs : ∀ (j : Nat) (a r : AVal), row[j]? = some a → row'[j]? = some r → Lss a r) :
    Ent n0 (ρ, H.set M (some (szM, R.set i row'))) (ρ, H) := by
  intro f base w0 β fz act w hn0 h
  obtain ⟨hM1, hM2⟩ := obj_live hM
  have hlt : M < H.length := (List.getElem?_eq_some_iff.1 hM1).1
  have hold : ∀ k x, (H.set M (some (szM, R.set i row')))[k]? = some (some x) → Live H k := by
    intro k x hk
    by_cases e : k = M
    · subst e; exact ⟨_, hM1⟩
    · rw [List.getElem?_set_ne (fun q => e q.symm)] at hk; exact ⟨_, hk⟩
  refine ⟨β, fz, ⟨⟨?_, ?_, ?_, h.heap.fzlt, h.heap.below, h.heap.base⟩, h.defers, h.size, ?_, ?_⟩⟩
  · intro k sz rws hk
    simp only [List.length_set]
    by_cases e : k = M
    · subst e
      rw [List.getElem?_set_self hlt] at hk
      simp only [Option.some.injEq, Prod.mk.injEq] at hk
      obtain ⟨rfl, rfl⟩ := hk
      rw [OSim, if_neg hM2]
      obtain ⟨cs, e, g1, g2, g3, g4, g5⟩ := h.heap.cells0 hM1 hM2
      have hi : i < R.length := (List.getElem?_eq_some_iff.1 hr).1
      have hrl := g2 row (List.mem_of_getElem? hr)
      refine ⟨cs, e, g1, ?_, by simpa using g3, g4, ?_⟩
      · intro r' hr'
        rcases List.mem_or_eq_of_mem_set hr' with q | q
        · exact g2 r' q
        · rw [q, hl]; exact hrl
      · intro i' r' hi' j' c hj'
        by_cases hii : i' = i
        · subst hii
          rw [List.getElem?_set_self hi] at hi'
          cases hi'
          have hj : j' < row.length := by have := (List.getElem?_eq_some_iff.1 hj').1; omega
          exact hs j' _ c (List.getElem?_eq_getElem hj) hj' (fun o b hb => ⟨hb.1, fun q => by cases q⟩) (g5 i' row hr j' _ (List.getElem?_eq_getElem hj))
        · rw [List.getElem?_set_ne (fun q => hii q.symm)] at hi'
          exact g5 i' r' hi' j' c hj'
    · rw [List.getElem?_set_ne (fun q => e q.symm)] at hk
      exact h.heap.objs' k sz rws hk
  · exact fun a b ⟨x, hx⟩ ⟨y, hy⟩ => h.heap.inj a b (hold _ _ hx) (hold _ _ hy)
  · exact fun k ⟨x, hx⟩ => h.heap.own k (hold _ _ hx)
  · have := h.ext; simpa using this
  · intro t; have := h.env t; simpa using this
theorem Ent.coldRow {ρ : Env} {M i szM : Nat} {R : List Row} {row : Row} (hM : obj H M = some (szM, R)) (hr : R[i]? = some row) : Ent n0 (ρ, H.set M (some (szM, R.set i (coldC row)))) (ρ, H) :=
  Ent.rowL hM hr (by rw [coldC_map]; simp) fun j a r ha hr => by
    rw [coldC_map, List.getElem?_map, ha] at hr
    cases hr
    exact Lss.cold a
theorem Ent.slotL {ρ : Env} {t : Nat} {r : AVal} (hs : Lss (look ρ t) r) : Ent n0 ((t, r) :: ρ, H) (ρ, H) := by
  intro f base w0 β fz act w hn0 h
  refine ⟨β, fz, ⟨h.heap, h.defers, h.size, h.ext, fun s => ?_⟩⟩
  simp only [look]
  split
  · rename_i e; subst e; exact hs (fun o b hb => ⟨hb.1, fun q => by cases q⟩) (h.env s)
  · exact h.env s
end
end Go.AI
/- A call that is handed one object inside an aggregate. -/
namespace Go.AI
set_option linter.unusedSimpArgs false
set_option linter.unusedVariables false
open Go.RowKit
section
variable {base : Nat} {w0 : World} {β : Nat → Nat} {fz : Nat → Prop} {H : Heap} {w : World} {P : Program}
/-- a call that is handed one object, in its first argument, behind a plain value -/
def frameA (m : Row → Heap → Option (AVal × Heap)) : Row → Heap → Option (AVal × Heap)
  | .agg [.v x0, .osl id sz s len kc] :: rest, H =>
    match obj H id with
    | some (sz', rows) =>
      if flat0 rows then
        match m (.agg [.v x0, .osl 0 sz s len kc] :: rest.map fun a => cold (view (H.set id none) depthV a)) [some (sz', rows)] with
        | some (r, o :: H1) => if bareA r && bareH (o :: H1) then some (tau [id] H.length r, (H.set id (tauO [id] H.length o)) ++ H1.map (tauO [id] H.length)) else none
        | _ => none
      else none
    | none => none
  | args, H => frame0 m args H

theorem frameA_ok {f : FuncId} {m : Row → Heap → Option (AVal × Heap)} (hm : InlOk P f m) : InlOk P f (frameA m) := by
  intro args H x H' hr base w0 β fz w vals hs hargs fn hfn
  unfold frameA at hr
  split at hr
  · rename_i x0 id sz s len kc rest
    split at hr
    · rename_i sz' rows hob
      split at hr
      · rename_i hflat
        split at hr
        · rename_i r o H1 hm1
          split at hr
          · rename_i hb
            simp only [Bool.and_eq_true] at hb
            simp only [Option.some.injEq, Prod.mk.injEq] at hr
            obtain ⟨rfl, rfl⟩ := hr
            have hid := obj_some hob
            have hidl := (List.getElem?_eq_some_iff.1 hid).1
            have hβ' : ∀ (j i : Nat), [id][j]? = some i → (fun _ : Nat => β id) j = β i := by
              intro j i h
              cases j with
              | zero => simp at h; rw [h]
              | succ j => simp at h
            have hs0 : HSim base w0 (fun _ => β id) (fzOf β fz H [id]) [some (sz', rows)] w := frame_start hs (by simp) hβ' (fun j o h => by
              cases j with
              | zero => simp at h; subst h; exact ⟨id, by simp, hid, hflat⟩
              | succ j => simp at h)
            obtain ⟨hk1, hk2⟩ := hs.kill id
            have hlive : ∀ k, Live (H.set id none) k → Live H k ∧ k ≠ id := by
              rintro k ⟨p, hp⟩
              by_cases hki : k = id
              · subst hki; rw [List.getElem?_set_self hidl] at hp; simp at hp
              · rw [List.getElem?_set_ne (by omega)] at hp; exact ⟨⟨p, hp⟩, hki⟩
            have hargs' : ArgsR (fun _ => β id) (okOf base (fzOf β fz H [id])) w ([some (sz', rows)] : Heap).length (.agg [.v x0, .osl 0 sz s len kc] :: rest.map fun a => cold (view (H.set id none) depthV a)) vals := by
              refine ⟨by simpa using hargs.1, fun j a ha => ?_⟩
              cases j with
              | zero =>
                simp at ha
                subst ha
                have := hargs.2 0 _ rfl
                generalize vals[0]?.getD undef = v0 at *
                cases this with
                | @agg _ _ xs hl hr =>
                  refine .agg hl fun j' c hj' => ?_
                  match j', hj' with
                  | 0, hj' =>
                    simp at hj'; subst hj'
                    have := hr 0 _ rfl
                    rw [this.v_inv]; exact .v
                  | 1, hj' =>
                    simp at hj'; subst hj'
                    have := hr 1 _ rfl
                    generalize xs[1]?.getD undef = v1 at *
                    cases this with
                    | osl h hl hk hc => exact .osl (by simp) hl hk hc
                  | j' + 2, hj' => simp at hj'
              | succ j =>
                simp only [List.getElem?_cons_succ, List.getElem?_map, Option.map_eq_some_iff] at ha
                obtain ⟨y, hy, rfl⟩ := ha
                have hy' := (hargs.2 (j + 1) y (by simpa using hy)).ext hk2
                have h1 := view_R' (fz' := fzOf β fz H [id]) hk1 (fun b hb => .inl hb) (fun k hk => .inr ⟨k, (hlive k hk).1, by simpa using (hlive k hk).2, rfl⟩) depthV y _ hy'
                have h2 := cold_R (ok' := okOf base (fzOf β fz H [id])) h1 (fun o b hb => ⟨hb.1, fun h => by cases h⟩)
                exact h2.mono (Nat.zero_le _) (fun _ h => absurd h (Nat.not_lt_zero _)) (fun _ _ h => h) (fun _ _ _ => rfl) (Shapes.refl _)
            have key : ∀ (e : Ending) (w1 : World), (∃ v β' fz', e = .returned v ∧ HSim base w0 β' fz' (o :: H1) w1 ∧ Ext ([some (sz', rows)] : Heap).length (fun _ => β id) (fzOf β fz H [id]) w (o :: H1).length β' fz' w1 ∧ R β' (okOf base fz') w1 (o :: H1).length r v) →
                ∃ v β' fz', e = .returned v ∧ HSim base w0 β' fz' ((H.set id (tauO [id] H.length o)) ++ H1.map (tauO [id] H.length)) w1 ∧ Ext H.length β fz w ((H.set id (tauO [id] H.length o)) ++ H1.map (tauO [id] H.length)).length β' fz' w1 ∧ R β' (okOf base fz') w1 ((H.set id (tauO [id] H.length o)) ++ H1.map (tauO [id] H.length)).length (tau [id] H.length r) v := by
              rintro e w1 ⟨v, β1, fz1, he, k1, k2, k3⟩
              obtain ⟨β2, fz2, q1, q2, q3⟩ := frame_end (fp := [id]) (H2 := (H.set id (tauO [id] H.length o)) ++ H1.map (tauO [id] H.length)) hs (by simpa using hidl) hβ' k1 k2 k3 hb.1 (bareH_get hb.2) (by simp) (by
                intro q p hq
                rw [List.getElem?_append] at hq
                split at hq
                · rename_i hlt
                  simp only [List.length_set] at hlt
                  by_cases hqi : q = id
                  · subst hqi
                    rw [List.getElem?_set_self hlt] at hq
                    simp only [Option.some.injEq] at hq
                    cases o with
                    | none => simp [tauO] at hq
                    | some o => exact .inl ⟨0, o, by simp [tauI], by simp, hq.symm⟩
                  · rw [List.getElem?_set_ne (by omega)] at hq
                    exact .inr ⟨hlt, by simpa using hqi, hq⟩
                · rename_i hlt
                  left
                  simp only [List.length_set] at hlt hq
                  simp only [List.getElem?_map, Option.map_eq_some_iff] at hq
                  obtain ⟨o1, ho1, ho2⟩ := hq
                  cases o1 with
                  | none => simp [tauO] at ho2
                  | some o1 => exact ⟨q - H.length + 1, o1, by simp [tauI]; omega, by simpa using ho1, ho2.symm⟩)
              exact ⟨v, β2, fz2, he, q1, q2, q3⟩
            obtain ⟨c1, c2⟩ := hm _ _ _ _ hm1 base w0 _ (fzOf β fz H [id]) w vals hs0 hargs' fn hfn
            refine ⟨fun h => (c1 h).mono (fun e w1 => key e w1), fun h => ?_⟩
            obtain ⟨v, w', h1, h2⟩ := c2 h
            exact ⟨v, w', h1, key _ _ h2⟩
          · cases hr
        · cases hr
      · cases hr
    · cases hr
  · exact frame0_ok hm _ _ _ _ hr base w0 β fz w vals hs hargs fn hfn

end
def frameAF : Row → Option (List Nat)
  | .agg [.v _, .osl id _ _ _ _] :: rest => if rest.all noId then some [id] else none
  | args => frame0F args
theorem frameA_loc {m : Row → Heap → Option (AVal × Heap)} : ∀ args ids, frameAF args = some ids → Loc (frameA m args) ids true := by
  intro args ids h
  unfold frameAF at h
  split at h
  · rename_i x0 id sz s len kc rest
    split at h
    · rename_i hn
      simp at h
      subst h
      have e : ∀ H, (rest.map fun a => cold (view H depthV a)) = rest.map fun a => cold (view [] depthV a) := by
        intro H
        apply List.map_congr_left
        intro x hx
        rw [noId_view H _ _ (List.all_eq_true.1 hn x hx)]
      refine ⟨fun f n => match f id with
        | some (sz', rows) =>
          if flat0 rows then
            match m (.agg [.v x0, .osl 0 sz s len kc] :: rest.map fun a => cold (view [] depthV a)) [some (sz', rows)] with
            | some (r, o :: H1) => if bareA r && bareH (o :: H1) then some (tau [id] n r, [(id, tauO [id] n o)], H1.map (tauO [id] n)) else none
            | _ => none
          else none
        | none => none, ⟨fun f g n hh => by simp only [hh id (by simp)], fun f n r hr => ?_, fun h => by cases h⟩, fun H => ?_⟩
      · refine ⟨fun u hu => ?_, fun h => by cases h⟩
        split at hr
        · split at hr
          · split at hr
            · split at hr
              · simp at hr; subst hr; simp at hu; subst hu; simp
              · cases hr
            · cases hr
          · cases hr
        · cases hr
      · simp only [frameA, e]
        cases obj H id with
        | none => rfl
        | some p =>
          obtain ⟨sz', rows⟩ := p
          simp only
          split
          · generalize m (.agg [.v x0, .osl 0 sz s len kc] :: rest.map fun a => cold (view [] depthV a)) [some (sz', rows)] = z
            cases z with
            | none => rfl
            | some q =>
              obtain ⟨r, H1⟩ := q
              cases H1 with
              | nil => rfl
              | cons o H1 =>
                simp only
                split <;> simp [updL]
          · rfl
    · cases h
  · rename_i hne
    have : frameA m args = frame0 m args := by
      funext H
      unfold frameA
      split
      · rename_i x0 id sz s len kc rest
        exact absurd rfl (hne _ _ _ _ _ _ _)
      · rfl
    rw [this]
    exact frame0_loc args ids h
end Go.AI
/- An own list, of which only a part is shown, becomes frozen data in the cell that holds it. -/
namespace Go.AI
set_option linter.unusedSimpArgs false
set_option linter.unusedVariables false
open Go.RowKit
section
variable {base : Nat} {w0 : World} {β : Nat → Nat} {fz : Nat → Prop} {H : Heap} {w : World} {P : Program} {n0 : Nat}
/-- what a list of one's own is, frozen -/
theorem HSim.frozeT (hs : HSim base w0 β fz H w) {n sz kc len : Nat} {rows : List Row} (hob : obj H n = some (sz, rows)) (hlen : len ≤ rows.length) (hflat : ∀ r ∈ rows, r.all (lowA 0) = true) {v : Value} {fz' : Nat → Prop} (hf : ∀ b, fz b → fz' b) (hn : fz' (β n)) {m : Nat}
    (h : R β (okOf base fz) w H.length (.osl n sz 0 len kc) v) : R β (okOf base fz') w m (.fsl true sz (rows.take len)) v := by
  cases h with
  | @osl _ _ _ _ _ _ a cap h hl hk ha =>
    by_cases h0 : len = 0
    · subst h0; rw [List.take_zero]; exact .fsl0
    · have hpos : 0 < len := Nat.pos_of_ne_zero h0
      have hlt : (rows.take len).length = len := by rw [List.length_take]; omega
      rcases ha with ha | ⟨rfl, _⟩
      · omega
      · obtain ⟨cs, e, g1, g2, g3, g4, g5⟩ := hs.cells hob
        rw [Nat.zero_mul]
        have key : AI.R β (okOf base fz') w m (.fsl true sz (rows.take len)) (.slice (some ⟨β n, 0, none⟩) (rows.take len).length cap) := by
         refine .fsl (fun i j => cs[i * sz + j]?.getD undef) (by rw [hlt]; omega) (fun r hr => g2 r (List.mem_of_mem_take hr)) (fun _ => ⟨hn, fun _ => (hs.own n ⟨_, obj_some hob⟩).1⟩) ?_ ?_
         · intro i j hi hj
           rw [hlt] at hi
           have h1 : i * sz + j < rows.length * sz := row_lt (by omega) hj
           have h2 : i * sz + j < cs.size := by omega
           rw [Nat.zero_add]
           exact ⟨by simp [World.cell?, g1, h2], g4 (i * sz + j) _ (by simp [h2])⟩
         · intro i r hi j c hj
           have hi2 : rows[i]? = some r := by
             rw [List.getElem?_take] at hi
             split at hi
             · exact hi
             · cases hi
           have hr := g5 i r hi2 j c hj
           have hlow := hflat r (List.mem_of_getElem? hi2)
           rw [List.all_eq_true] at hlow
           have := low_R hr (hlow c (List.mem_of_getElem? hj))
           exact this.mono (Nat.le_refl 0) (fun _ h => absurd h (Nat.not_lt_zero _)) (fun _ b hb => ⟨hf b hb.1, hb.2⟩) (fun _ _ _ => rfl) (Shapes.refl w)
        rw [hlt] at key
        exact key
/-- a list of one's own, frozen in the cell that holds it -/
theorem Ent.frzT {ρ : Env} {n M i j sz kc szM len : Nat} {rows R : List Row} {r : Row} (hob : obj H n = some (sz, rows)) (hlen : len ≤ rows.length) (hflat : ∀ r ∈ rows, r.all (lowA 0) = true)
    (hM : obj H M = some (szM, R)) (hMn : M ≠ n) (hr : R[i]? = some r) (hc : r[j]? = some (.osl n sz 0 len kc)) :
    Ent n0 (ρ, (H.set M (some (szM, R.set i (r.set j (.fsl true sz (rows.take len)))))).set n none) (ρ, H) := by
  intro f base w0 β fz a w hn0 hs
  have hl : Live H n := ⟨_, obj_some hob⟩
  obtain ⟨s1, e1⟩ := hs.heap.freeze hl
  obtain ⟨hM1, hM2⟩ := obj_live hM
  have hMH : (H.set n none)[M]? = some (some (szM, R)) := by rw [List.getElem?_set_ne (fun e => hMn e.symm)]; exact hM1
  have hlen2 : (H.set n none).length = H.length := by simp
  have hcomm : (H.set M (some (szM, R.set i (r.set j (.fsl true sz (rows.take len)))))).set n none = (H.set n none).set M (some (szM, R.set i (r.set j (.fsl true sz (rows.take len))))) := List.set_comm _ _ hMn
  refine ⟨β, fun b => fz b ∨ b = β n, ⟨?_, hs.defers, hs.size, ?_, fun t => ?_⟩⟩
  · simp only []
    rw [hcomm]
    refine ⟨?_, ?_, ?_, s1.fzlt, s1.below, s1.base⟩
    · intro k sz' rws hk
      rw [List.length_set]
      by_cases hkM : k = M
      · subst hkM
        have hlt : k < (H.set n none).length := (List.getElem?_eq_some_iff.1 hMH).1
        rw [List.getElem?_set_self hlt] at hk
        simp only [Option.some.injEq, Prod.mk.injEq] at hk
        obtain ⟨rfl, rfl⟩ := hk
        rw [OSim, if_neg hM2]
        obtain ⟨cs, e, g1, g2, g3, g4, g5⟩ := s1.cells0 hMH hM2
        have hi : i < R.length := (List.getElem?_eq_some_iff.1 hr).1
        have hrl := g2 r (List.mem_of_getElem? hr)
        refine ⟨cs, e, g1, ?_, by simpa using g3, g4, ?_⟩
        · intro r' hr'
          rcases List.mem_or_eq_of_mem_set hr' with h | h
          · exact g2 r' h
          · rw [h]; simpa using hrl
        · intro i' r' hi' j' c hj'
          by_cases hii : i' = i
          · subst hii
            rw [List.getElem?_set_self hi] at hi'
            cases hi'
            by_cases hjj : j' = j
            · subst hjj
              have hj : j' < r.length := (List.getElem?_eq_some_iff.1 hc).1
              rw [List.getElem?_set_self hj] at hj'
              cases hj'
              obtain ⟨cs0, e0, q1, _, _, _, q5⟩ := hs.heap.cells hM
              rw [g1] at q1
              cases q1
              exact hs.heap.frozeT hob hlen hflat (fun b hb => .inl hb) (.inr rfl) (q5 i' r hr j' _ hc)
            · rw [List.getElem?_set_ne (fun e => hjj e.symm)] at hj'
              exact g5 i' r hr j' c hj'
          · rw [List.getElem?_set_ne (fun e => hii e.symm)] at hi'
            exact g5 i' r' hi' j' c hj'
      · rw [List.getElem?_set_ne (fun e => hkM e.symm)] at hk
        exact s1.objs' k sz' rws hk
    · exact fun a b ha hb => s1.inj a b (ha.set ⟨_, hMH⟩) (hb.set ⟨_, hMH⟩)
    · exact fun k hk => s1.own k (hk.set ⟨_, hMH⟩)
  · have := hs.ext.trans e1
    simpa using this
  · have := (hs.env t).ext e1
    simpa using this
end
end Go.AI
/- A function that hands an argument on, or new memory: its answer is what it was handed, known no better. -/
namespace Go.AI
set_option linter.unusedSimpArgs false
set_option linter.unusedVariables false
open Go.RowKit
def passI (m : Row → Option AVal) : Row → Heap → Option (AVal × Heap) := fun args H => (m args).map fun r => (r, H)
section
variable {P : Program} {f : FuncId} {fn : Func} {code : Code} {α₁ α₂ α₃ α₄ : Type} {n0 : Nat} {H : Heap}
theorem pass_1 {c1 : Cod α₁} (hf : P.funcs[f]? = some fn) (hb : fn.body = some code) {g : α₁ → Option AVal} (h : ∀ e1 r, g e1 = some r → ∀ H, BodyE P fn code [c1.enc e1] H r H) : InlOk P f (passI (argM c1 fun e1 => finM (g e1))) :=
  inl_canonE hf hb fun args H r H' hr => by
    simp only [passI, Option.map_eq_some_iff, Prod.mk.injEq] at hr
    obtain ⟨r0, hr, rfl, rfl⟩ := hr
    obtain ⟨x1, e1, r1, rfl, h1, hr⟩ := argM_some hr
    obtain ⟨rfl, hr⟩ := finM_some hr
    exact ⟨_, .cons c1 h1 .nil, h e1 r0 hr H⟩
theorem pass_2 {c1 : Cod α₁} {c2 : Cod α₂} (hf : P.funcs[f]? = some fn) (hb : fn.body = some code) {g : α₁ → α₂ → Option AVal} (h : ∀ e1 e2 r, g e1 e2 = some r → ∀ H, BodyE P fn code [c1.enc e1, c2.enc e2] H r H) : InlOk P f (passI (argM c1 fun e1 => argM c2 fun e2 => finM (g e1 e2))) :=
  inl_canonE hf hb fun args H r H' hr => by
    simp only [passI, Option.map_eq_some_iff, Prod.mk.injEq] at hr
    obtain ⟨r0, hr, rfl, rfl⟩ := hr
    obtain ⟨x1, e1, r1, rfl, h1, hr⟩ := argM_some hr
    obtain ⟨x2, e2, r2, rfl, h2, hr⟩ := argM_some hr
    obtain ⟨rfl, hr⟩ := finM_some hr
    exact ⟨_, .cons c1 h1 (.cons c2 h2 .nil), h e1 e2 r0 hr H⟩
theorem pass_3 {c1 : Cod α₁} {c2 : Cod α₂} {c3 : Cod α₃} (hf : P.funcs[f]? = some fn) (hb : fn.body = some code) {g : α₁ → α₂ → α₃ → Option AVal} (h : ∀ e1 e2 e3 r, g e1 e2 e3 = some r → ∀ H, BodyE P fn code [c1.enc e1, c2.enc e2, c3.enc e3] H r H) : InlOk P f (passI (argM c1 fun e1 => argM c2 fun e2 => argM c3 fun e3 => finM (g e1 e2 e3))) :=
  inl_canonE hf hb fun args H r H' hr => by
    simp only [passI, Option.map_eq_some_iff, Prod.mk.injEq] at hr
    obtain ⟨r0, hr, rfl, rfl⟩ := hr
    obtain ⟨x1, e1, r1, rfl, h1, hr⟩ := argM_some hr
    obtain ⟨x2, e2, r2, rfl, h2, hr⟩ := argM_some hr
    obtain ⟨x3, e3, r3, rfl, h3, hr⟩ := argM_some hr
    obtain ⟨rfl, hr⟩ := finM_some hr
    exact ⟨_, .cons c1 h1 (.cons c2 h2 (.cons c3 h3 .nil)), h e1 e2 e3 r0 hr H⟩
theorem look_sub {ρ' ρ : Env} (h : ∀ p ∈ ρ', look ρ p.1 = p.2) (s : Nat) : look ρ' s = look ρ s ∨ look ρ' s = .junk := by
  induction ρ' with
  | nil => exact .inr rfl
  | cons p ρ' ih =>
    obtain ⟨t, x⟩ := p
    simp only [look]
    split
    · rename_i e; subst e; exact .inl (h (s, x) List.mem_cons_self).symm
    · exact ih fun q hq => h q (List.mem_cons_of_mem _ hq)
/-- a part of the slots, whatever the memory -/
theorem Ent.env {ρ' ρ : Env} (hl : ∀ p ∈ ρ', look ρ p.1 = p.2) : Ent n0 (ρ', H) (ρ, H) := by
  intro f base w0 β fz act w hn0 h
  refine ⟨β, fz, ⟨h.heap, h.defers, h.size, h.ext, fun s => ?_⟩⟩
  simp only
  rcases look_sub hl s with e | e
  · rw [e]; exact h.env s
  · rw [e]; exact .junk
end
section
variable {P : Program} {f : FuncId} {fn : Func} {c : Code} {α₁ α₂ α₃ α₄ α₅ α₆ α₇ : Type}
theorem pure7 {c1 : Cod α₁} {c2 : Cod α₂} {c3 : Cod α₃} {c4 : Cod α₄} {c5 : Cod α₅} {c6 : Cod α₆} {c7 : Cod α₇} (hf : P.funcs[f]? = some fn) (hb : fn.body = some c) {g : α₁ → α₂ → α₃ → α₄ → α₅ → α₆ → α₇ → Option AVal} (h : ∀ e1 e2 e3 e4 e5 e6 e7 r, g e1 e2 e3 e4 e5 e6 e7 = some r → Body P fn c [c1.enc e1, c2.enc e2, c3.enc e3, c4.enc e4, c5.enc e5, c6.enc e6, c7.enc e7] r) : PureOk P f (argM c1 fun e1 => argM c2 fun e2 => argM c3 fun e3 => argM c4 fun e4 => argM c5 fun e5 => argM c6 fun e6 => argM c7 fun e7 => finM (g e1 e2 e3 e4 e5 e6 e7)) := by
  refine pure_canon hf hb fun args r hr => ?_
  obtain ⟨x1, e1, r1, rfl, h1, hr⟩ := argM_some hr
  obtain ⟨x2, e2, r2, rfl, h2, hr⟩ := argM_some hr
  obtain ⟨x3, e3, r3, rfl, h3, hr⟩ := argM_some hr
  obtain ⟨x4, e4, r4, rfl, h4, hr⟩ := argM_some hr
  obtain ⟨x5, e5, r5, rfl, h5, hr⟩ := argM_some hr
  obtain ⟨x6, e6, r6, rfl, h6, hr⟩ := argM_some hr
  obtain ⟨x7, e7, r7, rfl, h7, hr⟩ := argM_some hr
  obtain ⟨rfl, hr⟩ := finM_some hr
  exact ⟨_, .cons c1 h1 (.cons c2 h2 (.cons c3 h3 (.cons c4 h4 (.cons c5 h5 (.cons c6 h6 (.cons c7 h7 .nil)))))), h e1 e2 e3 e4 e5 e6 e7 r hr⟩
end
section
variable {P : Program} {C : Orc} {nt n0 : Nat} {ρ : Env} {H : Heap}
/-- a loop from 0 to n, as long as any list is -/
theorem loop_forM {K : Nat} {c : Code} {Q : Post} {α : Type} (n : Nat) (st : Nat → α → Env × Heap) (inv : Nat → α → Prop) (a0 : α) (hn : n ≤ 9223372036854775807) (hi : inv 0 a0) (h0 : Weaker n0 (st 0 a0) (ρ, H))
    (step : ∀ k a, k < n → inv k a → IntKind.i64.wrap ((k : Int) + 1) = (k : Int) + 1 → wpX P C nt (LoopK P C nt n0 K) c (thenA (NextF n0 st inv (k + 1)) Q) (st k a).1 (st k a).2)
    (last : ∀ a, inv n a → wpX P C nt (LoopK P C nt n0 K) c (thenA (fun _ _ => False) Q) (st n a).1 (st n a).2) : LoopK P C nt n0 (K + 1) c Q ρ H := by
  refine loop_inv (σ := {p : Nat × α // p.1 ≤ n ∧ inv p.1 p.2}) (fun p => st p.val.1 p.val.2) (fun p => n - p.val.1) ⟨(0, a0), Nat.zero_le _, hi⟩ h0 ?_
  rintro ⟨⟨k, a⟩, hk, hka⟩
  simp only at hk hka ⊢
  rcases Nat.lt_or_ge k n with hlt | hge
  · refine wpX_mono (LoopK_mono K) c _ _ _ _ (thenA_mono ?_ fun _ _ _ q => q) (step k a hlt hka (w64 (by omega) (by omega)))
    rintro ρ H ⟨a', h1, h2⟩
    exact ⟨⟨(k + 1, a'), hlt, h1⟩, by simp only; omega, h2⟩
  · have : k = n := by omega
    subst this
    exact wpX_mono (LoopK_mono K) c _ _ _ _ (thenA_mono (fun _ _ q => q.elim) fun _ _ _ q => q) (last a hka)
end
end Go.AI
/- What a call leaves is one of several states; a state split into several. -/
namespace Go.AI
set_option linter.unusedSimpArgs false
set_option linter.unusedVariables false
open Go.RowKit
/-- a state is one of several -/
def EntS {σ : Type} (n0 : Nat) (st : σ → Env × Heap) (s : Env × Heap) : Prop :=
  ∀ (f : Fr) (base : Nat) (w0 : World) (β : Nat → Nat) (fz : Nat → Prop) (a : Act) (w : World), f.n0 = n0 → Sim f base w0 β fz s.1 s.2 a w → ∃ (x : σ) (β' : Nat → Nat) (fz' : Nat → Prop), Sim f base w0 β' fz' (st x).1 (st x).2 a w
/-- a function that works on its caller's objects; what it leaves is one of several -/
def InlR (P : Program) (f : FuncId) {σ : Type} (m : Row → Heap → Option (σ → AVal × Heap)) : Prop :=
  ∀ args H g, m args H = some g → ∀ (base : Nat) (w0 : World) (β : Nat → Nat) (fz : Nat → Prop) (w : World) (vals : Array Value), HSim base w0 β fz H w → ArgsR β (okOf base fz) w H.length args vals →
    CallsX P f vals w fun e w' => ∃ (x : σ) (v : Value) (β' : Nat → Nat) (fz' : Nat → Prop), e = .returned v ∧ HSim base w0 β' fz' (g x).2 w' ∧ Ext H.length β fz w (g x).2.length β' fz' w' ∧ R β' (okOf base fz') w' (g x).2.length (g x).1 v
section
variable {P : Program} {C : Orc} {nt n0 : Nat} {ρ : Env} {H : Heap} {σ : Type}
theorem AWp.entS {st : σ → Env × Heap} {c : Code} {Q : Post} (h : ∀ x, AWp P nt n0 c Q (st x).1 (st x).2) (he : EntS n0 st (ρ, H)) : AWp P nt n0 c Q ρ H := by
  intro f base w0 β fz a w h1 h2 hs
  obtain ⟨x, β', fz', hs'⟩ := he f base w0 β fz a w h2 hs
  exact h x f base w0 β' fz' a w h1 h2 hs'
theorem EntS.of {st : σ → Env × Heap} {s : Env × Heap} (x : σ) (h : Ent n0 (st x) s) : EntS n0 st s := fun f base w0 β fz a w h0 hs => by
  obtain ⟨β', fz', hs'⟩ := h f base w0 β fz a w h0 hs
  exact ⟨x, β', fz', hs'⟩
theorem inlR_ren {f : FuncId} {fn : Func} {c : Code} (hf : P.funcs[f]? = some fn) (hb : fn.body = some c) {m : Row → Heap → Option (σ → AVal × Heap)}
    (h : ∀ args H g, m args H = some g → ∃ args', Canon args args' ∧ args'.length ≤ fn.ntmps ∧ AWp P fn.ntmps H.length c (retA P fn fun x H2 => ∃ y th, WeakT H.length th ([(0, (g y).1)], (g y).2) ([(0, x)], H2)) (envOf 0 args') H) : InlR P f m := by
  intro args H g hr base w0 β fz w vals hs hargs
  obtain ⟨args', hc, h1, h2⟩ := h args H g hr
  refine .of hf hb (body_calls hf hb h1 h2 ⟨fn.ntmps, H.length, β, fz, w⟩ rfl rfl hs (Ext.refl _ _ _ _) (hc.argsX hargs) _ ?_)
  rintro x v β' fz' H2 w' ⟨y, th, hx⟩ hs' he hR
  obtain ⟨β2, q1, q2, q3⟩ := hsim_weakT hs' he hR hx
  exact ⟨y, v, β2, fz', rfl, q1, q2, q3⟩
/-- a call that is handed no object -/
def frameR (m : Row → Heap → Option (σ → AVal × Heap)) (args : Row) (H : Heap) : Option (σ → AVal × Heap) :=
  (m (args.map fun a => cold (view H depthV a)) []).map fun g x => (tau [] H.length (g x).1, H ++ (g x).2.map (tauO [] H.length))
theorem frameR_ok {f : FuncId} {m : Row → Heap → Option (σ → AVal × Heap)} (hm : InlR P f m) (hb : ∀ args g, m args [] = some g → ∀ x, bareA (g x).1 = true ∧ bareH (g x).2 = true) : InlR P f (frameR m) := by
  intro args H g hr base w0 β fz w vals hs hargs fn hfn
  unfold frameR at hr
  simp only [Option.map_eq_some_iff] at hr
  obtain ⟨g1, hm1, rfl⟩ := hr
  have hb1 := hb _ _ hm1
  have hs0 : HSim base w0 β (fzOf β fz H []) [] w := frame_start hs (List.nodup_nil) (fun j id h => by simp at h) (fun j o h => by simp at h)
  have hargs' : ArgsR β (okOf base (fzOf β fz H [])) w ([] : Heap).length (args.map fun a => cold (view H depthV a)) vals := by
    refine ⟨by simpa using hargs.1, fun j a ha => ?_⟩
    simp only [List.getElem?_map, Option.map_eq_some_iff] at ha
    obtain ⟨y, hy, rfl⟩ := ha
    have h1 := view_R' (fz' := fzOf β fz H []) hs (fun b hb => .inl hb) (fun id hid => .inr ⟨id, hid, by simp, rfl⟩) depthV y _ (hargs.2 j y hy)
    have h2 := cold_R (ok' := okOf base (fzOf β fz H [])) h1 (fun o b hb => ⟨hb.1, fun h => by cases h⟩)
    exact h2.mono (Nat.zero_le _) (fun _ h => absurd h (Nat.not_lt_zero _)) (fun _ _ h => h) (fun _ _ _ => rfl) (Shapes.refl _)
  have key : ∀ (e : Ending) (w1 : World), (∃ (x : σ) (v : Value) (β' : Nat → Nat) (fz' : Nat → Prop), e = .returned v ∧ HSim base w0 β' fz' (g1 x).2 w1 ∧ Ext ([] : Heap).length β (fzOf β fz H []) w (g1 x).2.length β' fz' w1 ∧ R β' (okOf base fz') w1 (g1 x).2.length (g1 x).1 v) →
      ∃ (x : σ) (v : Value) (β' : Nat → Nat) (fz' : Nat → Prop), e = .returned v ∧ HSim base w0 β' fz' (H ++ (g1 x).2.map (tauO [] H.length)) w1 ∧ Ext H.length β fz w (H ++ (g1 x).2.map (tauO [] H.length)).length β' fz' w1 ∧ R β' (okOf base fz') w1 (H ++ (g1 x).2.map (tauO [] H.length)).length (tau [] H.length (g1 x).1) v := by
    rintro e w1 ⟨x, v, β1, fz1, he, k1, k2, k3⟩
    obtain ⟨β2, fz2, q1, q2, q3⟩ := frame_end (fp := []) (H2 := H ++ (g1 x).2.map (tauO [] H.length)) hs (by simp) (fun j id h => by simp at h) k1 k2 k3 (hb1 x).1 (bareH_get (hb1 x).2) (by simp) (by
      intro q o hq
      rw [List.getElem?_append] at hq
      split at hq
      · rename_i hlt; exact .inr ⟨hlt, by simp, hq⟩
      · rename_i hlt
        left
        simp only [List.getElem?_map, Option.map_eq_some_iff] at hq
        obtain ⟨o1, ho1, ho2⟩ := hq
        cases o1 with
        | none => simp [tauO] at ho2
        | some o1 => exact ⟨q - H.length, o1, by simp [tauI]; omega, ho1, ho2.symm⟩)
    exact ⟨x, v, β2, fz2, he, q1, q2, q3⟩
  obtain ⟨c1, c2⟩ := hm _ _ _ hm1 base w0 β (fzOf β fz H []) w vals hs0 hargs' fn hfn
  refine ⟨fun h => (c1 h).mono (fun e w1 => key e w1), fun h => ?_⟩
  obtain ⟨v, w', h1, h2⟩ := c2 h
  exact ⟨v, w', h1, key _ _ h2⟩
end
section
variable {nt : Fr} {base : Nat} {w0 : World} {β : Nat → Nat} {fz : Nat → Prop} {ρ : Env} {H : Heap} {a : Act} {w : World} {P : Program} {C : Orc} {ops : Array Oper} {σ : Type}
theorem seqK_wp (hC : OrcOk P C) (Q : Exit → Act → World → Prop) (rest : List Nat) {ρn : Env} {Hn : Heap} (hQ : ∀ β fz a w, Sim nt base w0 β fz ρn Hn a w → wpOps P ops Q rest a w) :
    ∀ (l : List Oper) (k : Nat) (ρ : Env) (H : Heap) (β : Nat → Nat) (fz : Nat → Prop) (a : Act) (w : World), (∀ j, j < l.length → l[j]? = ops[k + j]?) → runL P C nt.nt ops l (ρ, H) = some (ρn, Hn) → Sim nt base w0 β fz ρ H a w →
      wpOps P ops Q (List.range' k l.length ++ rest) a w
  | [], k, ρ, H, β, fz, a, w, _, hrun, hs => by
    simp only [runL, Option.some.injEq, Prod.mk.injEq] at hrun
    obtain ⟨rfl, rfl⟩ := hrun
    simpa using hQ β fz a w hs
  | o :: l, k, ρ, H, β, fz, a, w, hl, hrun, hs => by
    simp only [runL] at hrun
    split at hrun
    · rename_i s1 h1
      have ho : ops[k]? = some o := by simpa using (hl 0 (by simp)).symm
      simp only [List.length_cons, List.range'_succ, List.cons_append]
      rw [wpOps_cons]
      refine step1_wp hC ho hs h1 (fun a' w' β' fz' hs' => ?_)
      exact seqK_wp hC Q rest hQ l (k + 1) s1.1 s1.2 β' fz' a' w' (fun j hj => by have := hl (j + 1) (by simp; omega); simpa [Nat.add_assoc, Nat.add_comm 1 j] using this) hrun hs'
    · cases hrun
/-- a call whose answer is one of several -/
theorem does_callR {o : Oper} {c : Call} {f : FuncId} {fn : Func} {m : Row → Heap → Option (σ → AVal × Heap)} {g : σ → AVal × Heap} {e' : AEv} (hop : o.op = .call c) (hf : c.callee = .value (.func f)) (hfn : P.funcs[f]? = some fn) (hname : ¬ fn.name = "runtime.NumGoroutine") (hbody : fn.body.isNone = false) (hm : InlR P f m) (hs : SimE base w0 β fz e' H a w)
    (h : m (c.args.toList.map e') H = some g) (K : Act → World → Prop) (Q : Exit → Act → World → Prop)
    (hK : ∀ (x : σ) (y : Value) (β' : Nat → Nat) (fz' : Nat → Prop) (w' : World), HSim base w0 β' fz' (g x).2 w' → Ext H.length β fz w (g x).2.length β' fz' w' → R β' (okOf base fz') w' (g x).2.length (g x).1 y → K (a.put o.dst y) w') : o.wp P a w K Q := by
  have hargs : ArgsR β (okOf base fz) w H.length (c.args.toList.map e') (c.args.map a.eval ++ #[]) := by
    refine ⟨by simp, fun j x hj => ?_⟩
    simp only [Array.append_empty]
    simp only [List.getElem?_map, Option.map_eq_some_iff, Array.getElem?_toList] at hj
    obtain ⟨y, hy, rfl⟩ := hj
    simp only [Array.getElem?_map, hy, Option.map_some, Option.getD_some]
    exact hs.ev y
  have hv : a.eval (.func f) = .func (.func f) #[] #[] := rfl
  have hb : fn.body ≠ none := by
    intro h0; rw [h0] at hbody; simp at hbody
  have hrun : (execOp a.eval o).run P w = .ok (.enter f (c.args.map a.eval ++ #[])) w := by
    simp only [execOp, hop, resolve, hf, hv, Deferred.ofValue]
    simp [invoke, callFunc, hfn, hname, hb]
  have hcall := hm _ _ _ h base w0 β fz w _ hs.heap hargs fn hfn
  unfold Oper.wp
  rw [hrun]
  show Calls P f _ w _
  refine (hcall.1 hbody).mono ?_
  rintro e w' ⟨x, v, β', fz', rfl, h1, h2, h3⟩
  exact hK x v β' fz' w' h1 h2 h3
end
section
variable {P : Program} {C : Orc} {nt n0 : Nat} {ρ : Env} {H : Heap} {σ : Type} {ops : Array Oper}
/-- a region in order, with a call whose answer is one of several -/
theorem AWp.callR (hC : OrcOk P C) {id : Nat} {l1 l2 : List Oper} {o : Oper} {c : Call} {f : FuncId} {fn : Func} {d : Tmp} {m : Row → Heap → Option (σ → AVal × Heap)} {g : σ → AVal × Heap} {s1 : Env × Heap} {Q : Post}
    (hops : ops.toList = l1 ++ o :: l2) (hop : o.op = .call c) (hf : c.callee = .value (.func f)) (hgd : o.guard = none) (hdst : o.dst = some d) (hd : d < nt)
    (hfn : P.funcs[f]? = some fn) (hname : ¬ fn.name = "runtime.NumGoroutine") (hbody : fn.body.isNone = false) (hm : InlR P f m)
    (h1 : runL P C nt ops l1 (ρ, H) = some s1) (h : m (c.args.toList.map fun x => res true (ev s1.1 x)) s1.2 = some g)
    (h2 : ∀ x, match runL P C nt ops l2 (put s1.1 (some d) (g x).1, (g x).2) with | some s2 => Q .normal s2.1 s2.2 | none => False) : AWp P nt n0 (.region id ops false) Q ρ H := by
  intro fr base w0 β fz a w e1 e2 hs
  subst e1
  apply wp_region
  have hsz : ops.size = l1.length + (1 + l2.length) := by rw [← Array.length_toList, hops]; simp; omega
  have hrng : List.range ops.size = List.range' 0 l1.length ++ (l1.length :: List.range' (l1.length + 1) l2.length) := by
    rw [hsz, List.range_eq_range', ← List.range'_append_1, Nat.zero_add, Nat.add_comm 1, List.range'_succ]
  rw [hrng]
  have hgetop : ∀ j, ops[j]? = (l1 ++ o :: l2)[j]? := fun j => by rw [← Array.getElem?_toList, hops]
  refine seqK_wp hC _ _ (ρn := s1.1) (Hn := s1.2) (fun β1 fz1 a1 w1 hs1 => ?_) l1 0 ρ H β fz a w (fun j hj => by rw [Nat.zero_add, hgetop, List.getElem?_append_left hj]) h1 hs
  rw [wpOps_cons]
  unfold wpOp
  have ho : ops[l1.length]? = some o := by rw [hgetop, List.getElem?_append_right (Nat.le_refl _), Nat.sub_self]; rfl
  simp only [ho]
  have hw : Region.wanted o (yielded ops a1.tmps) = true := by simp [Region.wanted, hgd]
  rw [hw]
  simp only [if_true]
  left
  refine does_callR hop hf hfn hname hbody hm (hs1.res rfl) h _ _ (fun x y β' fz' w' k1 k2 k3 => ?_)
  have hs2 := hs1.put k1 k2 (d := o.dst) (fun t ht => by rw [hdst] at ht; cases ht; exact hd) k3
  rw [hdst] at hs2
  have h3 := h2 x
  split at h3
  · rename_i s2 hrun
    rw [hdst]
    exact seq_wp hC _ (fun β2 fz2 a2 w2 hs3 => ⟨s2.1, s2.2, β2, fz2, h3, hs3⟩) l2 (l1.length + 1) _ _ β' fz' _ w' (fun j => by rw [hgetop, List.getElem?_append_right (by omega), show l1.length + 1 + j - l1.length = j + 1 by omega]; rfl) hrun hs2
  · exact h3.elim
end
end Go.AI
