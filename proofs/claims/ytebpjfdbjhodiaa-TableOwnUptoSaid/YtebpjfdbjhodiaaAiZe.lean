/- A call that is handed no object, and answers new objects that may hold new frozen data. -/
import Derived.Test.YtebpjfdbjhodiaaAiZd
namespace Go.AI
set_option linter.unusedSimpArgs false
set_option linter.unusedVariables false
open Go.RowKit
mutual
/-- nothing in it but ids, plain values and new frozen data -/
def newA : AVal → Bool
  | .v _ => true
  | .ptr _ _ _ _ => true
  | .osl _ _ _ _ _ => true
  | .xsl _ _ _ _ _ => true
  | .esl => true
  | .junk => true
  | .anyb => true
  | .agg cs => newC cs
  | .tup vs => newC vs
  | .fsl o _ rows => (o || rows.isEmpty) && hotR rows
  | _ => false
def newC : List AVal → Bool
  | [] => true
  | a :: r => newA a && newC r
end
theorem newC_all (l : Row) : newC l = l.all newA := by
  induction l with
  | nil => simp [newC]
  | cons a r ih => simp [newC, ih]
def newH : Heap → Bool
  | [] => true
  | some o :: r => (o.2.all fun row => row.all newA) && newH r
  | none :: r => newH r
theorem newH_get : ∀ {H1 : Heap}, newH H1 = true → ∀ (j : Nat) o, H1[j]? = some (some o) → (o.2.all fun row => row.all newA) = true
  | [], _, j, o, h => by simp at h
  | none :: r, hb, 0, o, h => by simp at h
  | none :: r, hb, j + 1, o, h => newH_get (H1 := r) (by simpa [newH] using hb) j o (by simpa using h)
  | some o1 :: r, hb, 0, o, h => by
    simp only [newH, Bool.and_eq_true] at hb
    simp at h; subst h; exact hb.1
  | some o1 :: r, hb, j + 1, o, h => by
    simp only [newH, Bool.and_eq_true] at hb
    exact newH_get hb.2 j o (by simpa using h)
theorem newH_app {X Y : Heap} : newH (X ++ Y) = (newH X && newH Y) := by
  induction X with
  | nil => simp [newH]
  | cons o X ih => cases o <;> simp [newH, ih, Bool.and_assoc]
section
variable {base : Nat} {w0 : World} {β : Nat → Nat} {fz : Nat → Prop} {H : Heap} {w : World} {P : Program}
/-- new data is new to anybody -/
theorem hot_R2 {β1 β2 : Nat → Nat} {ok1 ok2 : Bool → Nat → Prop} (h2 : ∀ b, ok1 true b → ok2 true b) {m : Nat} : ∀ {a : AVal} {v : Value}, R β1 ok1 w m a v → hot a = true → ∀ n, R β2 ok2 w n a v := by
  intro a v h
  induction h with
  | junk => intro _ _; exact .junk
  | anyb => intro _ _; exact .anyb
  | v => intro _ _; exact .v
  | ptr h _ => intro hh; simp [hot] at hh
  | mp h => intro hh; simp [hot] at hh
  | fptr x hb hc hr ih => intro hh; simp [hot] at hh
  | osl h hl hk ha => intro hh; simp [hot] at hh
  | xsl h hl ha => intro hh; simp [hot] at hh
  | @fsl n o sz rows b off cap x hl hs hb hc hr ih =>
    intro hh n'
    simp only [hot, Bool.and_eq_true, Bool.or_eq_true] at hh
    obtain ⟨h1, h3⟩ := hh
    rw [hotR_all] at h3
    by_cases hr0 : rows = []
    · subst hr0; exact .fsl0
    · have ho : o = true := by
        rcases h1 with h1 | h1
        · exact h1
        · exact absurd (by simpa using h1) hr0
      subst ho
      refine .fsl x hl hs (fun h => h2 _ (hb h)) hc (fun i r hi j a ha => ih i r hi j a ha ?_ 0)
      have h4 := List.all_eq_true.1 h3 r (List.mem_of_getElem? hi)
      exact List.all_eq_true.1 h4 a (List.mem_of_getElem? ha)
  | fsl0 => intro _ _; exact .fsl0
  | esl => intro _ _; exact .esl
  | agg hl hr ih =>
    intro hh n
    simp only [hot, hotC_all] at hh
    exact .agg hl fun j a ha => ih j a ha (List.all_eq_true.1 hh a (List.mem_of_getElem? ha)) n
  | tup hl hr ih =>
    intro hh n
    simp only [hot, hotC_all] at hh
    exact .tup hl fun j a ha => ih j a ha (List.all_eq_true.1 hh a (List.mem_of_getElem? ha)) n
  | fn hl hr ih => intro hh; simp [hot] at hh
  | when h hu ih => intro hh; simp [hot] at hh
theorem tauN_R {n m n2 : Nat} {β1 β2 : Nat → Nat} {ok1 ok2 : Bool → Nat → Prop} (h2 : ∀ b, ok1 true b → ok2 true b) (hβ : ∀ j, j < m → β2 (tauI [] n j) = β1 j ∧ tauI [] n j < n2) : ∀ {a : AVal} {v : Value}, R β1 ok1 w m a v → newA a = true → R β2 ok2 w n2 (tau [] n a) v := by
  intro a v h
  induction h with
  | junk => intro _; simp only [tau]; exact .junk
  | anyb => intro _; simp only [tau]; exact .anyb
  | v => intro _; simp only [tau]; exact .v
  | ptr h h0 => intro _; simp only [tau]; rw [← (hβ _ h).1]; exact .ptr (hβ _ h).2 h0
  | mp h => intro _; simp only [tau]; rw [← (hβ _ h).1]; exact .mp (hβ _ h).2
  | fptr x hb hc hr ih => intro hb; simp [newA] at hb
  | osl h hl hk ha => intro _; simp only [tau]; exact .osl (hβ _ h).2 hl hk (by rw [(hβ _ h).1]; exact ha)
  | xsl h hl ha => intro _; simp only [tau]; exact .xsl (hβ _ h).2 hl (by rw [(hβ _ h).1]; exact ha)
  | @fsl n o sz rows b off cap x hl hs hb hc hr ih =>
    intro hh
    simp only [tau]
    exact hot_R2 (β1 := β1) (ok1 := ok1) h2 (.fsl (n := 0) x hl hs hb hc hr) (by simpa [newA, hot] using hh) n2
  | fsl0 => intro _; simp only [tau]; exact .fsl0
  | esl => intro _; simp only [tau]; exact .esl
  | agg hl hr ih =>
    intro hb
    simp only [newA, newC_all] at hb
    simp only [tau, tauC_map]
    refine .agg (by simpa using hl) fun j a ha => ?_
    simp only [List.getElem?_map, Option.map_eq_some_iff] at ha
    obtain ⟨y, hy, rfl⟩ := ha
    exact ih j y hy hβ (List.all_eq_true.1 hb y (List.mem_of_getElem? hy))
  | tup hl hr ih =>
    intro hb
    simp only [newA, newC_all] at hb
    simp only [tau, tauC_map]
    refine .tup (by simpa using hl) fun j a ha => ?_
    simp only [List.getElem?_map, Option.map_eq_some_iff] at ha
    obtain ⟨y, hy, rfl⟩ := ha
    exact ih j y hy hβ (List.all_eq_true.1 hb y (List.mem_of_getElem? hy))
  | fn hl hr ih => intro hb; simp [newA] at hb
  | when h hu ih => intro hb; simp [newA] at hb
/-- a call that is handed no object: what it answers is new -/
def frameN (m : Row → Heap → Option (AVal × Heap)) (args : Row) (H : Heap) : Option (AVal × Heap) :=
  match m (args.map fun a => cold (view H depthV a)) [] with
  | some (r, H1) => if newA r && newH H1 then some (tau [] H.length r, H ++ H1.map (tauO [] H.length)) else none
  | none => none
theorem frameN_end (hs : HSim base w0 β fz H w) {β1 : Nat → Nat} {fz1 : Nat → Prop} {H1 : Heap} {w1 : World} {r : AVal} {v : Value} (hs1 : HSim w.heap.size w β1 fz1 H1 w1) (hsh : Shapes w w1) (hR : R β1 (okOf w.heap.size fz1) w1 H1.length r v) (hr : newA r = true) (hH : newH H1 = true) :
    ∃ β2 fz2, HSim base w0 β2 fz2 (H ++ H1.map (tauO [] H.length)) w1 ∧ Ext H.length β fz w (H ++ H1.map (tauO [] H.length)).length β2 fz2 w1 ∧ R β2 (okOf base fz2) w1 (H ++ H1.map (tauO [] H.length)).length (tau [] H.length r) v := by
  have hbase : base ≤ w.heap.size := Nat.le_trans hs.base hs.below.size
  have hold : ∀ b, b < w.heap.size → w1.heap[b]? = w.heap[b]? := fun b hb => hs1.below.block b hb
  obtain ⟨β2, hβ2⟩ : ∃ β2 : Nat → Nat, β2 = fun id => if id < H.length then β id else β1 (id - H.length) := ⟨_, rfl⟩
  obtain ⟨fz2, hfz2⟩ : ∃ fz2 : Nat → Prop, fz2 = fun b => fz b ∨ (fz1 b ∧ w.heap.size ≤ b) := ⟨_, rfl⟩
  have hlen : (H ++ H1.map (tauO [] H.length)).length = H.length + H1.length := by simp
  have b0 : ∀ id, id < H.length → β2 id = β id := fun id h => by rw [hβ2]; simp [h]
  have b1 : ∀ j, β2 (H.length + j) = β1 j := fun j => by rw [hβ2]; simp only []; rw [if_neg (by omega)]; congr 1; omega
  have ext : Ext H.length β fz w (H ++ H1.map (tauO [] H.length)).length β2 fz2 w1 :=
    ⟨by rw [hlen]; omega, b0, fun b hb => by rw [hfz2]; exact .inl hb, fun b hb => hold b (hs.fzlt b hb), hsh⟩
  have hok : ∀ b, okOf w.heap.size fz1 true b → okOf base fz2 true b := fun b hb => by
    have h2 := hb.2 rfl
    rw [hfz2]
    exact ⟨.inr ⟨hb.1, h2⟩, fun _ => Nat.le_trans hbase h2⟩
  have htau : ∀ j, j < H1.length → β2 (tauI [] H.length j) = β1 j ∧ tauI [] H.length j < (H ++ H1.map (tauO [] H.length)).length := fun j hj => by
    have : tauI [] H.length j = H.length + j := by simp [tauI]
    rw [this]
    exact ⟨b1 j, by rw [hlen]; omega⟩
  have look : ∀ (q : Nat) o, (H ++ H1.map (tauO [] H.length))[q]? = some (some o) → (q < H.length ∧ H[q]? = some (some o)) ∨ ∃ j o1, q = H.length + j ∧ H1[j]? = some (some o1) ∧ o = (o1.1, o1.2.map (List.map (tau [] H.length))) := by
    intro q o hq
    rw [List.getElem?_append] at hq
    split at hq
    · rename_i hlt; exact .inl ⟨hlt, hq⟩
    · rename_i hlt
      right
      simp only [List.getElem?_map, Option.map_eq_some_iff] at hq
      obtain ⟨o1, ho1, ho2⟩ := hq
      cases o1 with
      | none => simp [tauO] at ho2
      | some o1 => exact ⟨q - H.length, o1, by omega, ho1, by simpa [tauO] using ho2.symm⟩
  refine ⟨β2, fz2, ⟨?_, ?_, ?_, ?_, ?_, hs.base⟩, ext, tauN_R hok htau hR hr⟩
  · intro q sz rows hq
    rcases look q _ hq with ⟨hlt, ho⟩ | ⟨j, o1, rfl, ho1, he⟩
    · refine (hs.objs' q sz rows ho).ext ext ?_
      rw [b0 q hlt]
      exact hold _ (hs.blt ⟨_, ho⟩)
    · obtain ⟨sz1, rows1⟩ := o1
      simp only [Prod.mk.injEq] at he
      obtain ⟨rfl, rfl⟩ := he
      have hO := hs1.objs' j sz rows1 ho1
      have hnew := newH_get hH j _ ho1
      rw [List.all_eq_true] at hnew
      unfold OSim at hO ⊢
      split
      · rename_i h0
        rw [if_pos h0] at hO
        rcases hO with hO | hO
        case inr =>
          refine .inr (hO.map (fun r hr c hc v hR => ?_) (by rw [b1]))
          have hn := hnew r hr
          rw [List.all_eq_true] at hn
          exact tauN_R hok htau hR (hn c hc)
        obtain ⟨rs, hp, es, clock, h1, h2, hbn, h3⟩ := hO
        refine .inl ⟨rs.map (List.map (tau [] H.length)), hp.map _, es, clock, by rw [b1]; exact h1, by simpa using h2, hbn, fun i r hi => ?_⟩
        simp only [List.getElem?_map, Option.map_eq_some_iff] at hi
        obtain ⟨r0, hr0, rfl⟩ := hi
        obtain ⟨en, a, g1, rfl, g3⟩ := h3 i r0 hr0
        have hn := hnew _ (hp.mem_iff.1 (List.mem_of_getElem? hr0))
        rw [List.all_eq_true] at hn
        exact ⟨en, tau [] H.length a, g1, rfl, tauN_R hok htau g3 (hn a (by simp))⟩
      · rename_i h0
        rw [if_neg h0] at hO
        obtain ⟨cs, e, h1, h2, h3, h4, h5⟩ := hO
        refine ⟨cs, e, by rw [b1]; exact h1, ?_, by simpa using h3, h4, ?_⟩
        · intro r hr
          simp only [List.mem_map] at hr
          obtain ⟨r0, hr0, rfl⟩ := hr
          simpa using h2 r0 hr0
        · intro i r hi j' a ha
          simp only [List.getElem?_map, Option.map_eq_some_iff] at hi
          obtain ⟨r0, hr0, rfl⟩ := hi
          simp only [List.getElem?_map, Option.map_eq_some_iff] at ha
          obtain ⟨a0, ha0, rfl⟩ := ha
          have hn := hnew _ (List.mem_of_getElem? hr0)
          rw [List.all_eq_true] at hn
          exact tauN_R hok htau (h5 i r0 hr0 j' a0 ha0) (hn a0 (List.mem_of_getElem? ha0))
  · rintro a b ⟨x, hx⟩ ⟨y, hy⟩ he
    rcases look a _ hx with ⟨ha, hxa⟩ | ⟨ja, oa, rfl, hoa, _⟩ <;> rcases look b _ hy with ⟨hb, hyb⟩ | ⟨jb, ob, rfl, hob, _⟩
    · rw [b0 a ha, b0 b hb] at he
      exact hs.inj a b ⟨_, hxa⟩ ⟨_, hyb⟩ he
    · rw [b0 a ha, b1] at he
      have h1 := hs.blt ⟨_, hxa⟩
      have h2 := (hs1.own jb ⟨_, hob⟩).1
      omega
    · rw [b0 b hb, b1] at he
      have h1 := hs.blt ⟨_, hyb⟩
      have h2 := (hs1.own ja ⟨_, hoa⟩).1
      omega
    · rw [b1, b1] at he
      have := hs1.inj ja jb ⟨_, hoa⟩ ⟨_, hob⟩ he
      omega
  · rintro q ⟨x, hx⟩
    rcases look q _ hx with ⟨hq, hxq⟩ | ⟨j, o1, rfl, ho1, _⟩
    · rw [b0 q hq, hfz2]
      have h1 := hs.own q ⟨_, hxq⟩
      have h2 := hs.blt ⟨_, hxq⟩
      refine ⟨h1.1, ?_⟩
      rintro (h | ⟨_, h⟩)
      · exact h1.2 h
      · omega
    · rw [b1, hfz2]
      have h1 := hs1.own j ⟨_, ho1⟩
      refine ⟨Nat.le_trans hbase h1.1, ?_⟩
      rintro (h | ⟨h, _⟩)
      · have := hs.fzlt _ h; omega
      · exact h1.2 h
  · intro b hb
    rw [hfz2] at hb
    rcases hb with h | ⟨h, _⟩
    · have := hs.fzlt b h
      have := hs1.below.size
      omega
    · exact hs1.fzlt b h
  · exact hs.below.trans (hs1.below.mono hbase)
theorem frameN_ok {f : FuncId} {m : Row → Heap → Option (AVal × Heap)} (hm : InlOk P f m) : InlOk P f (frameN m) := by
  intro args H x H' hr base w0 β fz w vals hs hargs fn hfn
  unfold frameN at hr
  split at hr
  · rename_i r H1 hm1
    split at hr
    · rename_i hb
      simp only [Bool.and_eq_true] at hb
      simp only [Option.some.injEq, Prod.mk.injEq] at hr
      obtain ⟨rfl, rfl⟩ := hr
      have hs0 := HSim.start w
      have hargs' : ArgsR β0 (okOf w.heap.size (· < w.heap.size)) w ([] : Heap).length (args.map fun a => cold (view H depthV a)) vals := by
        refine ⟨by simpa using hargs.1, fun j a ha => ?_⟩
        simp only [List.getElem?_map, Option.map_eq_some_iff] at ha
        obtain ⟨y, hy, rfl⟩ := ha
        have h1 := view_R hs depthV y _ (hargs.2 j y hy)
        exact cold_R (ok' := okOf w.heap.size (· < w.heap.size)) h1 (fun o b hb => ⟨hb.1, fun h => by cases h⟩)
      have key : ∀ (e : Ending) (w1 : World), (∃ v β' fz', e = .returned v ∧ HSim w.heap.size w β' fz' H1 w1 ∧ Ext ([] : Heap).length β0 (· < w.heap.size) w H1.length β' fz' w1 ∧ R β' (okOf w.heap.size fz') w1 H1.length r v) →
          ∃ v β' fz', e = .returned v ∧ HSim base w0 β' fz' (H ++ H1.map (tauO [] H.length)) w1 ∧ Ext H.length β fz w (H ++ H1.map (tauO [] H.length)).length β' fz' w1 ∧ R β' (okOf base fz') w1 (H ++ H1.map (tauO [] H.length)).length (tau [] H.length r) v := by
        rintro e w1 ⟨v, β1, fz1, he, k1, k2, k3⟩
        obtain ⟨β2, fz2, q1, q2, q3⟩ := frameN_end hs k1 k2.shape k3 hb.1 hb.2
        exact ⟨v, β2, fz2, he, q1, q2, q3⟩
      obtain ⟨c1, c2⟩ := hm _ _ _ _ hm1 w.heap.size w β0 (· < w.heap.size) w vals hs0 hargs' fn hfn
      refine ⟨fun h => (c1 h).mono (fun e w1 => key e w1), fun h => ?_⟩
      obtain ⟨v, w', h1, h2⟩ := c2 h
      exact ⟨v, w', h1, key _ _ h2⟩
    · cases hr
  · cases hr
end
theorem frameN_loc {m : Row → Heap → Option (AVal × Heap)} : ∀ args ids, frame0F args = some ids → Loc (frameN m args) ids true := by
  intro args ids h
  unfold frame0F at h
  split at h
  · rename_i hn
    simp at h
    subst h
    have e : ∀ H, (args.map fun a => cold (view H depthV a)) = args.map fun a => cold (view [] depthV a) := by
      intro H
      apply List.map_congr_left
      intro x hx
      rw [noId_view H _ _ (List.all_eq_true.1 hn x hx)]
    refine Loc.new ⟨fun n => match m (args.map fun a => cold (view [] depthV a)) [] with
      | some (r, H1) => if newA r && newH H1 then some (tau [] n r, H1.map (tauO [] n)) else none
      | none => none, fun H => ?_⟩
    unfold frameN
    rw [e H]
    cases m (args.map fun a => cold (view [] depthV a)) [] with
    | none => rfl
    | some p =>
      obtain ⟨r, H1⟩ := p
      simp only
      split <;> rfl
  · cases h
end Go.AI
