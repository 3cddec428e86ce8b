/- Calls. -/
import Derived.Test.YtdakclpneghkmaaGreatDoorL05
import Derived.LaidEqlPtr
import Derived.Maps.RangeRun
namespace Go.AI
set_option linter.unusedSimpArgs false
set_option linter.unusedVariables false
open Go.RowKit

def β0 : Nat → Nat := fun _ => 0
def ok0 (w : World) : Bool → Nat → Prop := okOf w.heap.size (· < w.heap.size)
def okNew (lo : Nat) (w' : World) : Bool → Nat → Prop := fun _ b => lo ≤ b ∧ b < w'.heap.size

/-- arguments as they are known -/
def ArgsR (β : Nat → Nat) (ok : Bool → Nat → Prop) (w : World) (n : Nat) (args : Row) (vals : Array Value) : Prop :=
  vals.size = args.length ∧ ∀ (j : Nat) (a : AVal), args[j]? = some a → R β ok w n a (vals[j]?.getD undef)

/-- a function that makes nothing but new memory -/
def PureOk (P : Program) (f : FuncId) (m : Row → Option AVal) : Prop :=
  ∀ args r, m args = some r → ∀ (w : World) (vals : Array Value), ArgsR β0 (ok0 w) w 0 args vals →
    Calls P f vals w fun e w' => ∃ v, e = .returned v ∧ Below w.heap.size w w' ∧ R β0 (okNew w.heap.size w') w' 0 r v

/-- a call of a function, with a body or without -/
def CallsX (P : Program) (f : FuncId) (vals : Array Value) (w : World) (K : Ending → World → Prop) : Prop :=
  ∀ fn, P.funcs[f]? = some fn → (fn.body.isNone = false → Calls P f vals w K) ∧ (fn.body.isNone = true → ∃ v w', (callFunc f vals).run P w = .ok (.value v) w' ∧ K (.returned v) w')
theorem CallsX.of {P : Program} {f : FuncId} {fn : Func} {c : Code} {vals : Array Value} {w : World} {K : Ending → World → Prop} (hf : P.funcs[f]? = some fn) (hb : fn.body = some c) (h : Calls P f vals w K) : CallsX P f vals w K := by
  intro fn' hf'
  rw [hf] at hf'
  simp only [Option.some.injEq] at hf'
  subst hf'
  exact ⟨fun _ => h, fun h0 => by rw [hb] at h0; cases h0⟩

/-- a function that works on its caller's objects -/
def InlOk (P : Program) (f : FuncId) (m : Row → Heap → Option (AVal × Heap)) : Prop :=
  ∀ args H r H', m args H = some (r, H') → ∀ (base : Nat) (w0 : World) (β : Nat → Nat) (fz : Nat → Prop) (w : World) (vals : Array Value), HSim base w0 β fz H w → ArgsR β (okOf base fz) w H.length args vals →
    CallsX P f vals w fun e w' => ∃ v β' fz', e = .returned v ∧ HSim base w0 β' fz' H' w' ∧ Ext H.length β fz w H'.length β' fz' w' ∧ R β' (okOf base fz') w' H'.length r v

/-- the maps are the same -/
def MapsSame (H H' : Heap) : Prop := ∀ (id : Nat) (rows : List Row), H[id]? = some (some (0, rows)) ↔ H'[id]? = some (some (0, rows))
structure OrcOk (P : Program) (C : Orc) : Prop where
  pure : ∀ f, PureOk P f (C.pure f)
  inline : ∀ f, C.inl f = true → InlOk P f (C.inline f)
  foot : ∀ f args ids, C.fp f args = some ids → Loc (C.inline f args) ids true
  rd : ∀ f m, C.rd f = some m → InlOk P f (fun args H => (m args H).map (·, H))
  cells : ∀ f, C.cl f = true → ∀ args H r H', C.inline f args H = some (r, H') → MapsSame H H' ∧ H.length ≤ H'.length

section
variable {base : Nat} {w0 : World} {β : Nat → Nat} {fz : Nat → Prop} {e' : AEv} {H H' : Heap} {a : Act} {w : World} {P : Program} {C : Orc} {o : Oper} {av : AVal} {n : Nat} {ok ok' : Bool → Nat → Prop}

theorem cold_R {x : AVal} {v : Value} (h : R β ok w n x v) (hok : ∀ o b, ok o b → ok' false b) : R β ok' w n (cold x) v := by
  induction h with
  | junk => simp only [cold]; exact .junk
  | anyb => simp only [cold]; exact .anyb
  | v => simp only [cold]; exact .v
  | ptr h h0 => simp only [cold]; exact .ptr h h0
  | mp h => simp only [cold]; exact .mp h
  | fptr x hb hc hr ih =>
    simp only [cold, coldC_map]
    refine .fptr x (fun h => hok _ _ (hb (ne_map h))) (fun j hj => hc j (by simpa using hj)) (fun j a ha => ?_)
    simp only [List.getElem?_map, Option.map_eq_some_iff] at ha
    obtain ⟨y, hy, rfl⟩ := ha
    exact ih j y hy
  | osl h hl hk ha => simp only [cold]; exact .osl h hl hk ha
  | xsl h hl ha => simp only [cold]; exact .xsl h hl ha
  | @fsl n o sz rows b off cap x hl hs hb hc hr ih =>
    simp only [cold, coldR_map]
    have := R.fsl (β := β) (ok := ok') (w := w) (n := n) (o := false) (sz := sz) (rows := rows.map (List.map cold)) (b := b) (off := off) (cap := cap) x (by simpa using hl)
      (fun r hr => by
        simp only [List.mem_map] at hr
        obtain ⟨r', hr', rfl⟩ := hr
        simpa using hs r' hr') (fun h => hok _ _ (hb (ne_maps (fun _ => ne_map) h))) (fun i j hi hj => hc i j (by simpa using hi) hj)
      (fun i r hi j c hj => by
        simp only [List.getElem?_map, Option.map_eq_some_iff] at hi
        obtain ⟨r', hr', rfl⟩ := hi
        simp only [List.getElem?_map, Option.map_eq_some_iff] at hj
        obtain ⟨y, hy, rfl⟩ := hj
        exact ih i r' hr' j y hy)
    simpa using this
  | fsl0 => simp only [cold, coldR_map, List.map_nil]; exact .fsl0
  | esl => simp only [cold]; exact .esl
  | agg hl hr ih =>
    simp only [cold, coldC_map]
    refine .agg (by simpa using hl) fun j a ha => ?_
    simp only [List.getElem?_map, Option.map_eq_some_iff] at ha
    obtain ⟨y, hy, rfl⟩ := ha
    exact ih j y hy
  | tup hl hr ih =>
    simp only [cold, coldC_map]
    refine .tup (by simpa using hl) fun j a ha => ?_
    simp only [List.getElem?_map, Option.map_eq_some_iff] at ha
    obtain ⟨y, hy, rfl⟩ := ha
    exact ih j y hy
  | fn hl hr ih =>
    simp only [cold, coldC_map]
    refine .fn (by simpa using hl) fun j a ha => ?_
    simp only [List.getElem?_map, Option.map_eq_some_iff] at ha
    obtain ⟨y, hy, rfl⟩ := ha
    exact ih j y hy
  | when h hu ih => simp only [cold]; exact .junk
  | ifc h ih => simp only [cold]; exact .ifc ih
  | meth => simp only [cold]; exact .meth

/-- what may be looked at: frozen data and one's own -/
def okV (base : Nat) (w : World) : Bool → Nat → Prop := fun o b => b < w.heap.size ∧ (o = true → base ≤ b)

theorem inner0 {x : AVal} {v : Value} (hs : HSim base w0 β fz H w) (h : R β (okOf base fz) w 0 x v) (n : Nat) : R β0 (okV base w) w n x v :=
  h.mono (Nat.zero_le _) (fun _ h => absurd h (Nat.not_lt_zero _)) (fun _ b hb => ⟨hs.fzlt b hb.1, hb.2⟩) (fun _ _ _ => rfl) (Shapes.refl _)

theorem view_R (hs : HSim base w0 β fz H w) : ∀ (d : Nat) (x : AVal) (v : Value), R β (okOf base fz) w H.length x v → R β0 (okV base w) w 0 (view H d x) v := by
  intro d
  induction d with
  | zero =>
    intro x v h
    cases h with
    | junk => simp only [view]; exact .junk
    | anyb => simp only [view]; exact .anyb
    | v => simp only [view]; exact .v
    | ptr h _ => simp only [view]; exact .junk
    | mp h => simp only [view]; exact .junk
    | fptr x hb hc hr => simp only [view]; exact .fptr x (fun h => ⟨hs.fzlt _ (hb h).1, (hb h).2⟩) hc (fun j a ha => inner0 hs (hr j a ha) 0)
    | osl h hl hk ha => simp only [view]; exact .junk
    | xsl h hl ha => simp only [view]; exact .junk
    | fsl x hl hsz hb hc hr => simp only [view]; exact .fsl x hl hsz (fun h => ⟨hs.fzlt _ (hb h).1, (hb h).2⟩) hc (fun i r hi j a ha => inner0 hs (hr i r hi j a ha) 0)
    | fsl0 => simp only [view]; exact .fsl0
    | esl => simp only [view]; exact .esl
    | agg hl hr => simp only [view]; exact .junk
    | tup hl hr => simp only [view]; exact .junk
    | fn hl hr => simp only [view]; exact .junk
    | when h hu => simp only [view]; exact .junk
    | ifc h => simp only [view]; exact .junk
    | meth => simp only [view]; exact .meth
  | succ d ih =>
    intro x v h
    cases h with
    | junk => simp only [view]; exact .junk
    | anyb => simp only [view]; exact .anyb
    | v => simp only [view]; exact .v
    | @mp _ id h =>
      simp only [view]
      split
      · rename_i sz' rows hob
        split
        · split
          · rename_i hsz; exact absurd hsz (obj_live hob).2
          · exact .junk
        · exact .junk
      · exact .junk
    | @ptr _ id sz i off h _ =>
      simp only [view]
      split
      · rename_i sz' rows hob
        split
        · rename_i r hr
          split
          · rename_i hsz
            subst hsz
            obtain ⟨cs, e, g1, g2, g3, g4, g5⟩ := hs.cells hob
            have hi : i < rows.length := (List.getElem?_eq_some_iff.1 hr).1
            have hrl : r.length = sz' := g2 r (List.mem_of_getElem? hr)
            have hmul : (i + 1) * sz' ≤ rows.length * sz' := Nat.mul_le_mul_right _ hi
            rw [Nat.succ_mul] at hmul
            have hlt : β id < w.heap.size := (Array.getElem?_eq_some_iff.1 g1).1
            refine .fptr (fun j => cs[i * sz' + j]?.getD undef) (fun _ => ⟨hlt, fun h => by cases h⟩) (fun j hj => ?_) (fun j c hj => ?_)
            · have : i * sz' + j < cs.size := by simp at hj; omega
              simp [World.cell?, g1, this]
            · simp only [List.getElem?_map, Option.map_eq_some_iff] at hj
              obtain ⟨y, hy, rfl⟩ := hj
              exact ih _ _ (g5 i r hr j y hy)
          · exact .junk
        · exact .junk
      · exact .junk
    | fptr x hb hc hr => simp only [view]; exact .fptr x (fun h => ⟨hs.fzlt _ (hb h).1, (hb h).2⟩) hc (fun j a ha => inner0 hs (hr j a ha) 0)
    | @osl _ id sz s len kc ad cap h hl hk ha =>
      simp only [view]
      split
      · rename_i sz' rows hob
        split
        · rename_i hcond
          obtain ⟨rfl, hsl⟩ := hcond
          obtain ⟨cs, e, g1, g2, g3, g4, g5⟩ := hs.cells hob
          have hlt : β id < w.heap.size := (Array.getElem?_eq_some_iff.1 g1).1
          have hbase := (hs.own id ⟨_, obj_some hob⟩).1
          have hlen : (((rows.drop s).take len).map fun r => r.map (view H d)).length = len := by simp; omega
          by_cases hl0 : len = 0
          · subst hl0
            simp only [List.take_zero, List.map_nil]
            exact .fsl0
          · rcases ha with ha | ⟨rfl, _⟩
            · omega
            · have := R.fsl (β := β0) (ok := okV base w) (w := w) (n := 0) (o := true) (sz := sz') (rows := ((rows.drop s).take len).map fun r => r.map (view H d)) (b := β id) (off := s * sz') (cap := cap)
                (fun i j => cs[(s + i) * sz' + j]?.getD undef) (by omega)
                (fun r hr => by
                  simp only [List.mem_map] at hr
                  obtain ⟨r', hr', rfl⟩ := hr
                  simpa using g2 r' (List.mem_of_mem_drop (List.mem_of_mem_take hr'))) (fun _ => ⟨hlt, fun _ => hbase⟩)
                (fun i j hi hj => by
                  rw [hlen] at hi
                  have h1 : (s + i) * sz' + j < rows.length * sz' := row_lt (by omega) hj
                  have h2 : (s + i) * sz' + j < cs.size := by omega
                  have e1 : s * sz' + i * sz' + j = (s + i) * sz' + j := by rw [Nat.add_mul]
                  rw [e1]
                  refine ⟨by simp [World.cell?, g1, h2], g4 ((s + i) * sz' + j) _ (by simp [h2])⟩)
                (fun i r hi j c hj => by
                  have hil : i < len := by have := (List.getElem?_eq_some_iff.1 hi).1; omega
                  simp only [List.getElem?_map, Option.map_eq_some_iff] at hi
                  obtain ⟨r', hr', rfl⟩ := hi
                  simp only [List.getElem?_map, Option.map_eq_some_iff] at hj
                  obtain ⟨y, hy, rfl⟩ := hj
                  rw [List.getElem?_take_of_lt hil, List.getElem?_drop] at hr'
                  exact ih _ _ (g5 (s + i) r' hr' j y hy))
              rwa [hlen] at this
        · exact .junk
      · exact .junk
    | xsl h hl ha => simp only [view]; exact .junk
    | fsl x hl hsz hb hc hr => simp only [view]; exact .fsl x hl hsz (fun h => ⟨hs.fzlt _ (hb h).1, (hb h).2⟩) hc (fun i r hi j a ha => inner0 hs (hr i r hi j a ha) 0)
    | fsl0 => simp only [view]; exact .fsl0
    | esl => simp only [view]; exact .esl
    | agg hl hr =>
      simp only [view]
      refine .agg (by simpa using hl) fun j a ha => ?_
      simp only [List.getElem?_map, Option.map_eq_some_iff] at ha
      obtain ⟨y, hy, rfl⟩ := ha
      exact ih _ _ (hr j y hy)
    | tup hl hr =>
      simp only [view]
      refine .tup (by simpa using hl) fun j a ha => ?_
      simp only [List.getElem?_map, Option.map_eq_some_iff] at ha
      obtain ⟨y, hy, rfl⟩ := ha
      exact ih _ _ (hr j y hy)
    | fn hl hr =>
      simp only [view]
      refine .fn (by simpa using hl) fun j a ha => ?_
      simp only [List.getElem?_map, Option.map_eq_some_iff] at ha
      obtain ⟨y, hy, rfl⟩ := ha
      exact ih _ _ (hr j y hy)
    | when h hu => simp only [view]; exact .junk
    | ifc h => simp only [view]; exact .ifc (ih _ _ h)
    | meth => simp only [view]; exact .meth

theorem hot_R {x : AVal} {v : Value} {lo : Nat} (hh : hot x = true) (h : R β0 (okV lo w) w n x v) : R β0 (okNew lo w) w n x v := by
  induction h with
  | junk => exact .junk
  | anyb => exact .anyb
  | v => exact .v
  | ptr h _ => simp [hot] at hh
  | mp h => simp [hot] at hh
  | fptr x hb hc hr ih => simp [hot] at hh
  | osl h hl hk ha => simp [hot] at hh
  | xsl h hl ha => simp [hot] at hh
  | @fsl n o sz rows b off cap x hl hs hb hc hr ih =>
    simp only [hot, Bool.and_eq_true, Bool.or_eq_true] at hh
    obtain ⟨h1, h2⟩ := hh
    rw [hotR_all] at h2
    by_cases hr0 : rows = []
    · subst hr0; exact .fsl0
    · have ho : o = true := by
        rcases h1 with h1 | h1
        · exact h1
        · exact absurd (by simpa using h1) hr0
      refine .fsl x hl hs (fun h => ⟨(hb h).2 ho, (hb h).1⟩) hc (fun i r hi j a ha => ih i r hi j a ha ?_)
      have h3 := List.all_eq_true.1 h2 r (List.mem_of_getElem? hi)
      exact List.all_eq_true.1 h3 a (List.mem_of_getElem? ha)
  | fsl0 => exact .fsl0
  | esl => exact .esl
  | agg hl hr ih =>
    simp only [hot, hotC_all] at hh
    exact .agg hl fun j a ha => ih j a ha (List.all_eq_true.1 hh a (List.mem_of_getElem? ha))
  | tup hl hr ih =>
    simp only [hot, hotC_all] at hh
    exact .tup hl fun j a ha => ih j a ha (List.all_eq_true.1 hh a (List.mem_of_getElem? ha))
  | fn hl hr ih => simp [hot] at hh
  | when h hu ih => simp [hot] at hh
  | ifc h ih => simp [hot] at hh
  | meth => simp [hot] at hh

theorem callee_does {st : Bool} {g : FuncId} {caps args : Row} {vals : Array Value} (hC : OrcOk P C) (hs : SimE base w0 β fz e' H a w) (hargs : ArgsR β (okOf base fz) w H.length (args ++ caps) vals)
    (hrun2 : (execOp a.eval o).run P w = (callFunc g vals).run P w) (h : aCall P C st (.fn g caps) args H = some (av, H')) : Does P o a w base w0 β fz H av H' := by
  unfold aCall at h
  simp only at h
  split at h
  · rename_i fn hfn
    have hrun : (fn.name == "runtime.NumGoroutine") = false → fn.body.isNone = false → (execOp a.eval o).run P w = .ok (.enter g vals) w := by
      intro hname hbody
      rw [hrun2]
      have hn : ¬ fn.name = "runtime.NumGoroutine" := by simpa using hname
      have hb : fn.body ≠ none := by
        intro h0; rw [h0] at hbody; simp at hbody
      simp [callFunc, hfn, hn, hb]
    split at h
    · rename_i hin
      split at h
      · rename_i hst
        simp only [Bool.and_eq_true, Bool.not_eq_true'] at hst
        have hcall := hC.inline g hin _ _ _ _ h base w0 β fz w _ hs.heap hargs fn hfn
        cases hbody : fn.body.isNone with
        | false =>
          intro K Q hK
          unfold Oper.wp
          rw [hrun hst.2 hbody]
          show Calls P g _ w _
          refine (hcall.1 hbody).mono ?_
          rintro e w' ⟨v, β', fz', rfl, h1, h2, h3⟩
          exact hK v β' fz' w' h1 h2 h3
        | true =>
          obtain ⟨v, w', h0, v', β', fz', he, h1, h2, h3⟩ := hcall.2 hbody
          simp only [Ending.returned.injEq] at he
          subst he
          exact does_val (hrun2.trans h0) h1 h2 h3
      · cases h
    · split at h
      · cases h
      · rename_i hcond
        simp only [Bool.or_eq_true, not_or, Bool.not_eq_true] at hcond
        obtain ⟨hname, hbody⟩ := hcond
        intro K Q hK
        unfold Oper.wp
        rw [hrun hname hbody]
        show Calls P g _ w _
        split at h
        · rename_i m hm
          have hcall := (hC.rd g m hm) _ _ _ _ h base w0 β fz w _ hs.heap hargs fn hfn
          refine (hcall.1 hbody).mono ?_
          rintro e w' ⟨v, β', fz', rfl, h1, h2, h3⟩
          exact hK v β' fz' w' h1 h2 h3
        simp only [Option.map_eq_some_iff, Prod.mk.injEq] at h
        obtain ⟨r, hr', rfl, rfl⟩ := h
        have hargs' : ArgsR β0 (ok0 w) w 0 ((args ++ caps).map fun a => cold (view H depthV a)) vals := by
          refine ⟨by simpa using hargs.1, fun j x hj => ?_⟩
          simp only [List.getElem?_map, Option.map_eq_some_iff] at hj
          obtain ⟨y, hy, rfl⟩ := hj
          refine cold_R (view_R hs.heap depthV y _ (hargs.2 j y hy)) (fun _ b hb => ⟨hb.1, fun h => by cases h⟩)
        refine (hC.pure g _ _ hr' w _ hargs').mono ?_
        rintro e w' ⟨v, rfl, hb, hR⟩
        obtain ⟨q1, q2⟩ := hs.heap.called hb
        have hbase : base ≤ w.heap.size := Nat.le_trans hs.heap.base hs.heap.below.size
        exact hK v _ _ w' q1 q2 (hR.mono (Nat.zero_le _) (fun _ h => absurd h (Nat.not_lt_zero _)) (fun _ b hb => ⟨.inr hb, fun _ => Nat.le_trans hbase hb.1⟩) (fun _ _ _ => rfl) (Shapes.refl _))
  · cases h
theorem does_call {c : Call} {f : Operand} (hop : o.op = .call c) (hf : c.callee = .value f) (hC : OrcOk P C) (hs : SimE base w0 β fz e' H a w)
    (h : aCall P C (isStatic f) (e' f) (c.args.toList.map (e')) H = some (av, H')) : Does P o a w base w0 β fz H av H' := by
  have hfv := hs.ev f
  cases hp : e' f with
  | fn g caps =>
    rw [hp] at hfv h
    generalize hv : a.eval f = vf at hfv
    cases hfv with
    | @fn _ _ _ xs hl hr =>
      have hargs : ArgsR β (okOf base fz) w H.length (c.args.toList.map (e') ++ caps) (c.args.map a.eval ++ xs) := by
        refine ⟨by simp [hl], fun j x hj => ?_⟩
        rw [List.getElem?_append] at hj
        rw [Array.getElem?_append]
        simp only [List.length_map, Array.length_toList] at hj
        simp only [Array.size_map]
        split at hj
        · rename_i hlt
          rw [if_pos hlt]
          simp only [List.getElem?_map, Option.map_eq_some_iff, Array.getElem?_toList] at hj
          obtain ⟨y, hy, rfl⟩ := hj
          simp only [Array.getElem?_map, hy, Option.map_some, Option.getD_some]
          exact hs.ev y
        · rename_i hlt
          rw [if_neg hlt]
          exact hr _ _ hj
      refine callee_does hC hs hargs ?_ h
      simp only [execOp, hop, resolve, hf, hv, Deferred.ofValue]
      simp [invoke]
  | _ => rw [hp] at h; simp [aCall] at h
theorem method_run {t : TypeId} {name : String} {g : FuncId} {v : Value} {n : Nat} (h : methodF P t name = some g) (w : World) : (method (n + 1) t v name).run P w = .ok (g, v) w := by
  unfold methodF at h
  split at h
  · rename_i i d hi hd
    split at h
    · rename_i m hm
      split at h
      · rename_i hp
        have hti : ∀ w : World, (typeInfo t).run P w = .ok i w := fun w => by simp [typeInfo, hi]
        have hun : ∀ w : World, (underlying t).run P w = .ok d w := fun w => by simp [underlying, hd]
        cases hfn : m.func with
        | none => rw [hfn] at h; simp at h
        | some q =>
          obtain ⟨f, pr⟩ := q
          rw [hfn] at h
          cases d <;> cases pr <;> simp at h <;> subst h <;> simp [method, hti, hun, hm, hp, hfn, follow, receiverAt, Place.get]
      · cases h
    · cases h
  · cases h
theorem does_invoke {c : Call} {r : Operand} {name : String} (hop : o.op = .call c) (hf : c.callee = .invoke r name) (hC : OrcOk P C) (hs : SimE base w0 β fz e' H a w)
    (h : aInvoke P C name (e' r) (c.args.toList.map (e')) H = some (av, H')) : Does P o a w base w0 β fz H av H' := by
  have hrv := hs.ev r
  unfold aInvoke at h
  split at h
  · rename_i t x hp
    rw [hp] at hrv
    generalize hv : a.eval r = vr at hrv
    cases hrv with
    | @ifc _ _ _ v hx =>
      split at h
      · rename_i g hg
        have hargs : ArgsR β (okOf base fz) w H.length ((x :: c.args.toList.map (e')) ++ []) (#[v] ++ c.args.map a.eval) := by
          refine ⟨by simp; omega, fun j y hj => ?_⟩
          rw [List.append_nil] at hj
          cases j with
          | zero =>
            simp only [List.getElem?_cons_zero, Option.some.injEq] at hj
            subst hj
            have : (#[v] ++ c.args.map a.eval)[0]? = some v := by rw [Array.getElem?_append_left (by simp)]; rfl
            rw [this]
            exact hx
          | succ j =>
            simp only [List.getElem?_cons_succ, List.getElem?_map, Option.map_eq_some_iff, Array.getElem?_toList] at hj
            obtain ⟨z, hz, rfl⟩ := hj
            have : (#[v] ++ c.args.map a.eval)[j + 1]? = some (a.eval z) := by
              rw [Array.getElem?_append_right (by simp)]
              simp [hz]
            rw [this]
            exact hs.ev z
        refine callee_does hC hs hargs ?_ h
        have hext : (#[Value.iface t v] ++ c.args.map a.eval).extract 1 (#[Value.iface t v] ++ c.args.map a.eval).size = c.args.map a.eval := by
          apply Array.ext'
          simp
          rw [List.take_of_length_le (by simp)]
        have h0 : (#[Value.iface t v] ++ c.args.map a.eval)[0]? = some (.iface t v) := by rw [Array.getElem?_append_left (by simp)]; rfl
        have hex : (c.args.map a.eval).extract 0 c.args.size = c.args.map a.eval := by
          apply Array.ext'
          simp
          rw [List.take_of_length_le (by simp)]
        have hm := fun n w => method_run (n := n) (v := v) hg w
        simp only [execOp, hop, resolve, hf, hv]
        simp [-List.getElem?_toArray, invoke, callMethod, h0, hext, hex, Made.depth, hm]
      · cases h
  · cases h
theorem does_mkI {t : TypeId} {x : Operand} (hop : o.op = .makeInterface t x) (hs : SimE base w0 β fz e' H a w) (h : aMkI P t (e' x) = some av) : Does P o a w base w0 β fz H av H := by
  unfold aMkI at h
  split at h
  · cases h
  · rename_i d hd hn
    simp only [Option.some.injEq] at h
    subst h
    refine does_pure hs.heap (x := .iface t (a.eval x)) ?_ (.ifc (hs.ev x))
    have hun : (underlying t).run P w = .ok d w := by simp [underlying, hn]
    simp only [execOp, hop, Instr.makeInterface, Sem.run_bind, hun]
    cases d <;> first | rfl | (exact (hd _ rfl).elim)
  · cases h
end
end Go.AI
/- Each step of the interpreter is true of the model: maps walked through, pointers compared, arrays sliced. -/
namespace Go.AI
set_option linter.unusedSimpArgs false
set_option linter.unusedVariables false
open Go.RowKit
section
variable {base : Nat} {w0 : World} {β : Nat → Nat} {fz : Nat → Prop} {e' : AEv} {H H' : Heap} {a : Act} {w : World} {P : Program} {C : Orc} {o : Oper} {av : AVal} {n : Nat} {ok : Bool → Nat → Prop}

/-- rows that are no keys and values belong to no plain map -/
theorem KSim.walked {base n id : Nat} {rows : List Row} {r : Row} (h : KSim base β fz w n id rows) (hr : r ∈ rows) (h2 : r.length ≠ 2) : GSim base β fz w n id rows := by
  rcases h with ⟨rs, hp, es, clock, _, _, _, h3⟩ | h
  · exfalso
    obtain ⟨i, hi⟩ := List.mem_iff_getElem?.1 (hp.mem_iff.2 hr)
    obtain ⟨_, _, _, e, _⟩ := h3 i r hi
    rw [e] at h2; exact h2 rfl
  · exact h
/-- a map that is walked through -/
theorem HSim.walk (hs : HSim base w0 β fz H w) {id : Nat} {c : Int} {L : List Row} (h : H[id]? = some (some (0, [.v (.int .i64 c)] :: L))) :
    ∃ (es : Array MapEntry) (clock : Nat), w.heap[β id]? = some (.map es clock) ∧ Born es.toList clock ∧ c = (clock : Int) ∧ L.length = es.size ∧
      ∀ (i : Nat) (r : Row) (en : MapEntry), L[i]? = some r → es[i]? = some en → ∃ k x b, r = [k, x, b] ∧ R β (okOf base fz) w H.length k en.key ∧ R β (okOf base fz) w H.length x en.val ∧ R β (okOf base fz) w H.length b (.int .i64 (en.born : Int)) := by
  have hO := hs.objs' id 0 _ h
  rw [OSim, if_pos rfl] at hO
  obtain ⟨ob, xs, h1, h2, ⟨h3, h4⟩, _⟩ := hO.walked (r := [.v (.int .i64 c)]) (by simp) (by simp)
  rcases h2 with ⟨es, clock, rfl, hb, rfl⟩ | ⟨m, si, st, seen, rfl, rfl⟩
  · have hc := ((h4 0 _ _ rfl rfl).2 0 _ _ rfl rfl).v_inv
    simp only [Value.int.injEq, true_and] at hc
    refine ⟨es, clock, h1, hb, hc.symm, by simpa using h3.symm, fun i r en hi he => ?_⟩
    have he2 : ([Value.int .i64 (clock : Int)] :: es.toList.map fun e => [e.key, e.val, .int .i64 (e.born : Int)])[i + 1]? = some [en.key, en.val, .int .i64 (en.born : Int)] := by
      simp [he]
    obtain ⟨q1, q2⟩ := h4 (i + 1) r _ (by simpa using hi) he2
    match r, q1 with
    | [k, x, b], _ => exact ⟨k, x, b, rfl, q2 0 _ _ rfl rfl, q2 1 _ _ rfl rfl, q2 2 _ _ rfl rfl⟩
  · have := (h4 0 _ _ rfl rfl).1
    simp at this
/-- an iterator -/
theorem HSim.iter (hs : HSim base w0 β fz H w) {rid id : Nat} {s c : Int} {sn : Row} (h : H[rid]? = some (some (0, [[.ptr id 0 0 0, .v (.int .i64 s), .v (.int .i64 c)], sn]))) :
    ∃ (since stepped : Nat) (seen : Array Nat), w.heap[β rid]? = some (.mapIter (some (β id)) since seen stepped) ∧ s = (since : Int) ∧ c = (stepped : Int) ∧ sn.length = seen.size ∧
      ∀ (j : Nat) (x : AVal) (b : Nat), sn[j]? = some x → seen[j]? = some b → R β (okOf base fz) w H.length x (.int .i64 (b : Int)) := by
  have hO := hs.objs' rid 0 _ h
  rw [OSim, if_pos rfl] at hO
  obtain ⟨ob, xs, h1, h2, ⟨h3, h4⟩, _⟩ := hO.walked (r := [.ptr id 0 0 0, .v (.int .i64 s), .v (.int .i64 c)]) (by simp) (by simp)
  rcases h2 with ⟨es, clock, rfl, hb, rfl⟩ | ⟨m, si, st, seen, rfl, rfl⟩
  · have := (h4 0 _ _ rfl rfl).1
    simp at this
  · obtain ⟨_, q⟩ := h4 0 _ _ rfl rfl
    have hm := q 0 _ _ rfl rfl
    have hm2 : m = β id := by
      generalize hv : Value.map (some m) = v at hm
      cases hm with
      | ptr _ h0 => exact absurd rfl h0
      | mp _ => simpa using hv
    subst hm2
    have e1 := (q 1 _ _ rfl rfl).v_inv
    have e2 := (q 2 _ _ rfl rfl).v_inv
    simp only [Value.int.injEq, true_and] at e1 e2
    obtain ⟨l1, l2⟩ := h4 1 sn _ rfl rfl
    refine ⟨si, st, seen, h1, e1.symm, e2.symm, by simpa using l1.symm, fun j x b hx hb => l2 j x _ hx (by simp [hb])⟩
/-- a new object that is no cells -/
theorem HSim.allocG (hs : HSim base w0 β fz H w) {rows : List Row} {ob : Obj} (hG : GSim base (bump β H.length w.heap.size) fz (w.alloc ob) (H ++ [some (0, rows)]).length H.length rows) :
    HSim base w0 (bump β H.length w.heap.size) fz (H ++ [some (0, rows)]) (w.alloc ob) ∧ Ext H.length β fz w (H ++ [some (0, rows)]).length (bump β H.length w.heap.size) fz (w.alloc ob) := by
  have hbl := Nat.le_trans hs.base hs.below.size
  have ext : Ext H.length β fz w (H ++ [some (0, rows)]).length (bump β H.length w.heap.size) fz (w.alloc ob) :=
    ⟨by simp, fun id hi => by simp [bump]; omega, fun _ h => h, fun b hb => Below.heap_alloc w _ b (hs.fzlt b hb), Shapes.alloc w _⟩
  have hold : ∀ k x, (H ++ [some (0, rows)])[k]? = some x → k ≠ H.length → H[k]? = some x := by
    intro k x hk hne
    rw [List.getElem?_append] at hk
    split at hk
    · exact hk
    · have : k - H.length ≠ 0 := by omega
      simp [this] at hk
  have hlive : ∀ k, Live (H ++ [some (0, rows)]) k → k ≠ H.length → Live H k := fun k ⟨x, hx⟩ hne => ⟨x, hold k _ hx hne⟩
  refine ⟨⟨?_, ?_, ?_, ?_, hs.below.alloc hbl _, hs.base⟩, ext⟩
  · intro k sz' rws hk
    by_cases hki : k = H.length
    · subst hki
      have : (H ++ [some (0, rows)])[H.length]? = some (some (0, rows)) := by simp
      rw [this] at hk
      simp only [Option.some.injEq, Prod.mk.injEq] at hk
      obtain ⟨rfl, rfl⟩ := hk
      rw [OSim, if_pos rfl]
      exact .inr hG
    · have hk' := hold k _ hk hki
      refine (hs.objs' k sz' rws hk').ext ext ?_
      simp only [bump, hki, if_false]
      rw [Below.heap_alloc w _ (β k) (hs.blt ⟨_, hk'⟩)]
  · intro a b ha hb he
    by_cases h1 : a = H.length <;> by_cases h2 : b = H.length
    · omega
    · have := hs.blt (hlive b hb h2)
      simp [bump, h1, h2] at he; omega
    · have := hs.blt (hlive a ha h1)
      simp [bump, h1, h2] at he; omega
    · simp only [bump, h1, h2, if_false] at he
      exact hs.inj a b (hlive a ha h1) (hlive b hb h2) he
  · intro k hk
    by_cases h1 : k = H.length
    · simp only [bump, h1, if_true]
      exact ⟨hbl, fun hf => Nat.lt_irrefl _ (hs.fzlt _ hf)⟩
    · simp only [bump, h1, if_false]
      exact hs.own k (hlive k hk h1)
  · exact fun b hb => by have := hs.fzlt b hb; show b < (w.heap.push _).size; simp; omega
theorem mapV {v : Value} {id : Nat} (h : R β ok w n (.ptr id 0 0 0) v) : v = .map (some (β id)) := by
  cases h with
  | ptr _ h0 => exact absurd rfl h0
  | mp _ => rfl
theorem ptrV {v : Value} {id sz i off : Nat} (h0 : sz ≠ 0) (h : R β ok w n (.ptr id sz i off) v) : id < n ∧ v = .pointer (some ⟨β id, i * sz + off, none⟩) := by
  cases h with
  | ptr h _ => exact ⟨h, rfl⟩
  | mp _ => exact absurd rfl h0
/-- a map that is empty -/
theorem HSim.void (hs : HSim base w0 β fz H w) {id : Nat} (h : H[id]? = some (some (0, []))) : ∃ clock, w.heap[β id]? = some (.map #[] clock) := by
  have hO := hs.objs' id 0 _ h
  rw [OSim, if_pos rfl] at hO
  obtain ⟨rs, hp, es, clock, h1, h2, _⟩ := hO.ofMap (fun _ _ e => by cases e)
  have hr : rs = [] := List.Perm.eq_nil hp
  subst hr
  have : es = #[] := Array.eq_empty_of_size_eq_zero (by simpa using h2)
  subst this
  exact ⟨clock, h1⟩
/-- an iterator that has seen nothing -/
theorem HSim.iter0 (hs : HSim base w0 β fz H w) {rid id : Nat} {s c : AVal} (h : H[rid]? = some (some (0, [[.ptr id 0 0 0, s, c], []]))) :
    ∃ (since stepped : Nat), w.heap[β rid]? = some (.mapIter (some (β id)) since #[] stepped) := by
  have hO := hs.objs' rid 0 _ h
  rw [OSim, if_pos rfl] at hO
  obtain ⟨ob, xs, h1, h2, ⟨h3, h4⟩, _⟩ := hO.walked (r := [.ptr id 0 0 0, s, c]) (by simp) (by simp)
  rcases h2 with ⟨es, clock, rfl, hb, rfl⟩ | ⟨m, si, st, seen, rfl, rfl⟩
  · have := (h4 0 _ _ rfl rfl).1
    simp at this
  · obtain ⟨_, q⟩ := h4 0 _ _ rfl rfl
    have hm := q 0 _ _ rfl rfl
    have hm2 : m = β id := by
      generalize hv : Value.map (some m) = v at hm
      cases hm with
      | ptr _ h0 => exact absurd rfl h0
      | mp _ => simpa using hv
    subst hm2
    obtain ⟨l1, _⟩ := h4 1 [] _ rfl rfl
    have : seen = #[] := Array.eq_empty_of_size_eq_zero (by simpa using l1)
    subst this
    exact ⟨si, st, h1⟩
theorem does_next0 {x : Operand} (hop : o.op = .next x false) (hs : SimE base w0 β fz e' H a w) (h : aNext (e' x) H = some av) : Does P o a w base w0 β fz H av H := by
  have hx := hs.ev x
  unfold aNext at h
  split at h
  · rename_i rid hp
    rw [hp] at hx
    obtain ⟨_, hv⟩ := ptrV (by decide) hx
    split at h
    · rename_i id s c hit
      split at h
      · rename_i hmp
        simp only [Option.some.injEq] at h
        subst h
        obtain ⟨clock, h1⟩ := hs.heap.void hmp
        obtain ⟨si, st, h2⟩ := hs.heap.iter0 hit
        refine does_pure hs.heap (x := .tuple #[.bool false]) ?_ .v
        simp only [execOp, hop, hv]
        simp [Instr.next, getObj, Sem.run_bind, Sem.run, h1, h2, Result.andThen, choose, Question.forced]
      · cases h
    · cases h
  · cases h
theorem does_range {t : TypeId} {x : Operand} (hop : o.op = .range t x) (hs : SimE base w0 β fz e' H a w) (h : aRange P t (e' x) H = some (av, H')) : Does P o a w base w0 β fz H av H' := by
  have hx := hs.ev x
  unfold aRange at h
  split at h
  · rename_i k el id hu hp
    rw [hp] at hx
    have hv := mapV hx
    split at h
    · rename_i c L hob
      simp only [Option.some.injEq, Prod.mk.injEq] at h
      obtain ⟨rfl, rfl⟩ := h
      obtain ⟨es, clock, h1, hb, rfl, hl, hr⟩ := hs.heap.walk hob
      have hid : id < H.length := (List.getElem?_eq_some_iff.1 hob).1
      have hG : GSim base (bump β H.length w.heap.size) fz (w.alloc (.mapIter (some (β id)) clock #[] clock)) (H ++ [some (0, [[AVal.ptr id 0 0 0, .v (.int .i64 (clock : Int)), .v (.int .i64 (clock : Int))], []])]).length H.length
          [[.ptr id 0 0 0, .v (.int .i64 (clock : Int)), .v (.int .i64 (clock : Int))], []] := by
        refine ⟨.mapIter (some (β id)) clock #[] clock, [[.map (some (β id)), .int .i64 (clock : Int), .int .i64 (clock : Int)], []], ?_, .inr ⟨β id, clock, clock, #[], rfl, rfl⟩, ⟨rfl, fun i r xx hi hxx => ?_⟩, _, _, rfl, by simp⟩
        · simp only [bump, if_true]
          show (w.heap.push _)[w.heap.size]? = _
          simp
        · match i, hi, hxx with
          | 0, hi, hxx =>
            simp at hi hxx
            subst hi hxx
            refine ⟨rfl, fun j y v hy hv => ?_⟩
            match j, hy, hv with
            | 0, hy, hv =>
              simp at hy hv
              subst hy hv
              have := R.mp (β := bump β H.length w.heap.size) (ok := okOf base fz) (w := w.alloc (.mapIter (some (β id)) clock #[] clock)) (n := (H ++ [some (0, [[AVal.ptr id 0 0 0, .v (.int .i64 (clock : Int)), .v (.int .i64 (clock : Int))], []])]).length) (id := id) (by simp; omega)
              have hne : id ≠ H.length := by omega
              simpa [bump, hne] using this
            | 1, hy, hv => simp at hy hv; subst hy hv; exact .v
            | 2, hy, hv => simp at hy hv; subst hy hv; exact .v
          | 1, hi, hxx =>
            simp at hi hxx
            subst hi hxx
            exact ⟨rfl, fun j y v hy _ => by simp at hy⟩
      obtain ⟨q1, q2⟩ := hs.heap.allocG hG
      refine does_val (w' := w.alloc (.mapIter (some (β id)) clock #[] clock)) (x := .pointer (some ⟨w.heap.size, 0, none⟩)) ?_ q1 q2 ?_
      · simp only [execOp, hop, hv]
        simp [run_range_map w t k el (β id) es clock hu h1]
      · have := R.ptr (β := bump β H.length w.heap.size) (ok := okOf base fz) (w := w.alloc (.mapIter (some (β id)) clock #[] clock)) (n := (H ++ [some (0, [[AVal.ptr id 0 0 0, .v (.int .i64 (clock : Int)), .v (.int .i64 (clock : Int))], []])]).length) (id := H.length) (sz := 1) (i := 0) (off := 0) (by simp) (by decide)
        simpa [bump] using this
    · rename_i hob
      simp only [Option.some.injEq, Prod.mk.injEq] at h
      obtain ⟨rfl, rfl⟩ := h
      obtain ⟨clock, h1⟩ := hs.heap.void hob
      have hid : id < H.length := (List.getElem?_eq_some_iff.1 hob).1
      have hG : GSim base (bump β H.length w.heap.size) fz (w.alloc (.mapIter (some (β id)) clock #[] clock)) (H ++ [some (0, [[AVal.ptr id 0 0 0, .junk, .junk], []])]).length H.length
          [[.ptr id 0 0 0, .junk, .junk], []] := by
        refine ⟨.mapIter (some (β id)) clock #[] clock, [[.map (some (β id)), .int .i64 (clock : Int), .int .i64 (clock : Int)], []], ?_, .inr ⟨β id, clock, clock, #[], rfl, rfl⟩, ⟨rfl, fun i r xx hi hxx => ?_⟩, _, _, rfl, by simp⟩
        · simp only [bump, if_true]
          show (w.heap.push _)[w.heap.size]? = _
          simp
        · match i, hi, hxx with
          | 0, hi, hxx =>
            simp at hi hxx
            subst hi hxx
            refine ⟨rfl, fun j y v hy hv => ?_⟩
            match j, hy, hv with
            | 0, hy, hv =>
              simp at hy hv
              subst hy hv
              have := R.mp (β := bump β H.length w.heap.size) (ok := okOf base fz) (w := w.alloc (.mapIter (some (β id)) clock #[] clock)) (n := (H ++ [some (0, [[AVal.ptr id 0 0 0, .junk, .junk], []])]).length) (id := id) (by simp; omega)
              have hne : id ≠ H.length := by omega
              simpa [bump, hne] using this
            | 1, hy, hv => simp at hy hv; subst hy hv; exact .junk
            | 2, hy, hv => simp at hy hv; subst hy hv; exact .junk
          | 1, hi, hxx =>
            simp at hi hxx
            subst hi hxx
            exact ⟨rfl, fun j y v hy _ => by simp at hy⟩
      obtain ⟨q1, q2⟩ := hs.heap.allocG hG
      refine does_val (w' := w.alloc (.mapIter (some (β id)) clock #[] clock)) (x := .pointer (some ⟨w.heap.size, 0, none⟩)) ?_ q1 q2 ?_
      · simp only [execOp, hop, hv]
        simp [run_range_map w t k el (β id) #[] clock hu h1]
      · have := R.ptr (β := bump β H.length w.heap.size) (ok := okOf base fz) (w := w.alloc (.mapIter (some (β id)) clock #[] clock)) (n := (H ++ [some (0, [[AVal.ptr id 0 0 0, .junk, .junk], []])]).length) (id := H.length) (sz := 1) (i := 0) (off := 0) (by simp) (by decide)
        simpa [bump] using this
    · cases h
  · cases h
theorem stamp_at {s : Int} : ∀ {L : List Row} {k x : AVal}, stampR s L = some (k, x) → ∃ i : Nat, L[i]? = some [k, x, .v (.int .i64 s)]
  | [], _, _, h => by simp [stampR] at h
  | r :: L, k, x, h => by
    unfold stampR at h
    split at h
    · cases ‹_ = []›
    · rename_i k' a' t r' e
      cases e
      split at h
      · rename_i ht
        cases h
        exact ⟨0, by rw [ht]; rfl⟩
      · obtain ⟨i, hi⟩ := stamp_at h
        exact ⟨i + 1, by simpa using hi⟩
    · cases h
theorem does_entry {x : Operand} (hop : o.op = .entry x) (hs : SimE base w0 β fz e' H a w) (h : aEntry (e' x) H = some av) : Does P o a w base w0 β fz H av H := by
  have hx := hs.ev x
  unfold aEntry at h
  split at h
  · rename_i rid hp
    rw [hp] at hx
    obtain ⟨_, hv⟩ := ptrV (by decide) hx
    split at h
    · rename_i id s0 c sn hit
      split at h
      · rename_i c' L s hmp hla
        split at h
        · rename_i hcc
          subst hcc
          simp only [Option.map_eq_some_iff] at h
          obtain ⟨⟨k, y⟩, hst, rfl⟩ := h
          obtain ⟨es, clock, h1, hb, e1, hl, hr⟩ := hs.heap.walk hmp
          obtain ⟨since, stepped, seen, g1, g2, g3, g4, g5⟩ := hs.heap.iter hit
          have hcl : clock = stepped := by omega
          obtain ⟨i, hi⟩ := stamp_at hst
          have hie : i < es.size := by rw [← hl]; exact (List.getElem?_eq_some_iff.1 hi).1
          obtain ⟨k', y', b', e2, r1, r2, r3⟩ := hr i _ es[i] hi (Array.getElem?_eq_getElem hie)
          simp only [List.cons.injEq, and_true] at e2
          obtain ⟨rfl, rfl, rfl⟩ := e2
          have hbn := r3.v_inv
          simp only [Value.int.injEq, true_and] at hbn
          have hsz : 0 < seen.size := by
            rw [← g4]
            cases sn with
            | nil => simp at hla
            | cons _ _ => simp
          have hla2 : sn[seen.size - 1]? = some (.v (.int .i64 s)) := by rw [← g4, ← List.getLast?_eq_getElem?]; exact hla
          have hbk : seen.back? = some seen[seen.size - 1] := by
            rw [Array.back?_eq_getElem?, Array.getElem?_eq_getElem (by omega)]
          have hsl := (g5 (seen.size - 1) _ _ hla2 (Array.getElem?_eq_getElem (by omega))).v_inv
          simp only [Value.int.injEq, true_and] at hsl
          have hst2 : es[i].born = seen[seen.size - 1] := by omega
          have hf : es.find? (·.born == seen[seen.size - 1]) = some es[i] := by
            rw [← hst2, ← Array.find?_toList]
            exact find_born es[i] es.toList hb.nodup (by simp)
          refine does_pure hs.heap (x := .tuple #[es[i].key, es[i].val]) ?_ ?_
          · simp only [execOp, hop, hv]
            subst hcl
            simp only [Instr.entry, getObj]
            simp [Sem.run, g1, h1, hbk, hf, Result.andThen]
          · refine .tup (by simp) fun j a' ha => ?_
            match j, ha with
            | 0, ha => simp at ha; subst ha; simpa using r1
            | 1, ha => simp at ha; subst ha; simpa using r2
        · cases h
      · cases h
    · cases h
  · cases h
/-- an object's cells, in rows of another length -/
theorem HSim.rerow (hs : HSim base w0 β fz H w) {id sz sz' : Nat} {R R' : List Row} (hob : obj H id = some (sz, R)) (h0 : sz' ≠ 0) (hC : CSim base β fz w H.length id sz' R') :
    HSim base w0 β fz (H.set id (some (sz', R'))) w := by
  have hlive : Live H id := ⟨_, obj_some hob⟩
  refine ⟨fun k z rws hk => ?_, fun a b ha hb => hs.inj a b (ha.set hlive) (hb.set hlive), fun k hk => hs.own k (hk.set hlive), hs.fzlt, hs.below, hs.base⟩
  rw [List.length_set]
  by_cases hki : k = id
  · subst hki
    have hlt : k < H.length := (List.getElem?_eq_some_iff.1 (obj_some hob)).1
    rw [List.getElem?_set_self hlt] at hk
    simp only [Option.some.injEq, Prod.mk.injEq] at hk
    obtain ⟨rfl, rfl⟩ := hk
    rw [OSim, if_neg h0]
    exact hC
  · rw [List.getElem?_set_ne (fun e => hki e.symm)] at hk
    exact hs.objs' k z rws hk
theorem does_sliceA {t : TypeId} {x : Operand} (hop : o.op = .slice t x none none none) (hs : SimE base w0 β fz e' H a w) (h : aSliceA P t (e' x) H = some (av, H')) : Does P o a w base w0 β fz H av H' := by
  have hx := hs.ev x
  unfold aSliceA at h
  split at h
  · rename_i n e id sz off harr hp
    rw [hp] at hx
    split at h
    · rename_i sz' rows hob
      split at h
      · rename_i hc
        obtain ⟨hsz, hz0, hn⟩ := hc
        obtain ⟨hlt, hv⟩ := ptrV hz0 hx
        obtain ⟨cs, ty, g1, g2, g3, g4, g5⟩ := hs.heap.cells hob
        have hu : P.underlying t = some (.array n e) := by
          unfold arrayOf at harr
          split at harr
          · rename_i n' e' hu; cases harr; exact hu
          · cases harr
        have h0 : ¬ n = 0 := by omega
        split at h
        · rename_i h1
          subst h1
          split at h
          case isFalse => cases h
          rename_i hoff
          simp only [Option.some.injEq, Prod.mk.injEq] at h
          obtain ⟨rfl, rfl⟩ := h
          have hcs : rows.length ≤ cs.size := by simpa using g3
          refine does_pure hs.heap (x := .slice (some ⟨β id, off, none⟩) n n) ?_ ?_
          · simp only [execOp, hop, hv]
            simp [Instr.sliceAt, run_underlying hu, Instr.sureAddr, Instr.sliceBounds, run_sz hsz, Addr.add, h0]
          · exact R.osl (β := β) (ok := okOf base fz) (w := w) (n := H.length) (id := id) (sz := 1) (s := off) (len := n) (kc := n) (a := ⟨β id, off, none⟩) (cap := n) hlt (Nat.le_refl _) (Nat.le_refl _) (.inr ⟨by simp, cs, ty, _, g1, by omega⟩)
        · split at h
          case h_2 => cases h
          rename_i row
          split at h
          case isFalse => cases h
          rename_i hoff
          obtain ⟨rfl, hoff⟩ := hoff
          simp only [Option.some.injEq, Prod.mk.injEq] at h
          obtain ⟨rfl, rfl⟩ := h
          have hrl : row.length = sz' := g2 row (by simp)
          have hcs : sz' ≤ cs.size := by simpa using g3
          have hC : CSim base β fz w H.length id 1 (row.map fun c => [c]) := by
            refine ⟨cs, ty, g1, fun r hr => ?_, by simp; omega, g4, fun i r hi j y hy => ?_⟩
            · obtain ⟨c, _, rfl⟩ := List.mem_map.1 hr; rfl
            · simp only [List.getElem?_map, Option.map_eq_some_iff] at hi
              obtain ⟨c, hc, rfl⟩ := hi
              cases j with
              | succ j => simp at hy
              | zero =>
                simp at hy; subst hy
                have := g5 0 row rfl i c hc
                simpa using this
          have ext : Ext H.length β fz w (H.set id (some (1, row.map fun c => [c]))).length β fz w := ⟨by simp, fun _ _ => rfl, fun _ h => h, fun _ _ => rfl, Shapes.refl _⟩
          refine does_val (w' := w) (x := .slice (some ⟨β id, off, none⟩) n n) ?_ (hs.heap.rerow hob (by decide) hC) ext ?_
          · simp only [execOp, hop, hv]
            simp [Instr.sliceAt, run_underlying hu, Instr.sureAddr, Instr.sliceBounds, run_sz hsz, Addr.add, h0]
          · exact R.osl (β := β) (ok := okOf base fz) (w := w) (n := (H.set id (some (1, row.map fun c => [c]))).length) (id := id) (sz := 1) (s := off) (len := n) (kc := n) (a := ⟨β id, off, none⟩) (cap := n) (by simpa using hlt) (Nat.le_refl _) (Nat.le_refl _) (.inr ⟨by simp, cs, ty, _, g1, by omega⟩)
      · cases h
    · cases h
  · cases h
theorem does_eqH {op : BinOp} {t u : TypeId} {x y : Operand} (hop : o.op = .binOp op t x y u) (hs : SimE base w0 β fz e' H a w) (h : aEqH P op t (e' x) (e' y) H = some av) : Does P o a w base w0 β fz H av H := by
  have hx := hs.ev x
  have hy := hs.ev y
  unfold aEqH at h
  split at h
  · rename_i te i s xx yy i' s' x' y' hu hp hq
    split at h
    · cases h
    · rename_i hsz
      split at h
      · rename_i hc
        obtain ⟨rfl, rfl, rfl, hs0, hl1, hl2⟩ := hc
        simp only [Option.some.injEq] at h
        subst h
        rw [hp] at hx; rw [hq] at hy
        obtain ⟨_, hvx⟩ := ptrV hs0 hx
        obtain ⟨_, hvy⟩ := ptrV hs0 hy
        have hj : ∃ j : TypeInfo, P.info? te = some j ∧ j.size ≠ 0 := by
          unfold szOf at hsz
          cases hi : P.info? te with
          | none => rw [hi] at hsz; exact absurd (.inr rfl) hsz
          | some j => rw [hi] at hsz; exact ⟨j, rfl, fun e => hsz (.inl (by simp [e]))⟩
        obtain ⟨j, hj1, hj2⟩ := hj
        have hlive : ∀ {k : Nat}, (obj H k).isSome = true → ∃ q, obj H k = some q := fun h => Option.isSome_iff_exists.1 h
        obtain ⟨⟨z1, R1⟩, o1⟩ := hlive hl1
        obtain ⟨⟨z2, R2⟩, o2⟩ := hlive hl2
        obtain ⟨c1, t1, k1, _⟩ := hs.heap.cells o1
        obtain ⟨c2, t2, k2, _⟩ := hs.heap.cells o2
        refine does_pure hs.heap (x := .bool (i == i')) ?_ .v
        simp only [execOp, hop, hvx, hvy]
        simp only [eqGuard]
        by_cases he : i = i'
        · subst he
          simp [run_eql_ptr_same w _ hu hj1]
        · have hne : β i ≠ β i' := fun e => he (hs.heap.inj i i' ⟨_, obj_some o1⟩ ⟨_, obj_some o2⟩ e)
          have := run_eql_ptr_other w (a := ⟨β i, xx * s + yy, none⟩) (b := ⟨β i', xx * s + yy, none⟩) hu hj1 hj2 (fun e => hne (by injection e)) k1 k2
          simp [this, he]
      · cases h
  · cases h
end
theorem b2s_run {P : Program} {w : World} {a : Addr} {l : List Int} {cap : Nat} (h : (loadCells a l.length).run P w = .ok (l.map fun n => Value.int .u8 n).toArray w) : (Conv.bytesToString (.slice (some a) l.length cap)).run P w = .ok (.string (strB l)) w := by
  unfold Conv.bytesToString
  simp [h, strB]
theorem bytesR_len : ∀ {rows : List Row} {l : List Int}, bytesR rows = some l → rows = l.map fun n => [.v (.int .u8 n)]
  | [], l, h => by simp only [bytesR, Option.some.injEq] at h; subst h; rfl
  | r :: rows, l, h => by
    unfold bytesR at h
    split at h
    · rename_i h0; cases h0
    · rename_i n r' h0
      cases h0
      simp only [Option.map_eq_some_iff] at h
      obtain ⟨l', h1, rfl⟩ := h
      rw [bytesR_len h1]; rfl
    · cases h
section
variable {base : Nat} {w0 : World} {β : Nat → Nat} {fz : Nat → Prop} {H : Heap} {w : World} {P : Program}
theorem str_run {s d : TypeId} {x r : AVal} {v : Value} (hs : HSim base w0 β fz H w) (hv : R β (okOf base fz) w H.length x v) (h : aStr P s d x H = some r) : ∃ b, r = .v (.string b) ∧ (convert s d v).run P w = .ok (.string b) w := by
  unfold aStr at h
  split at h
  case isFalse => cases h
  rename_i hT
  unfold strT at hT
  split at hT
  · rename_i e hd hS
    split at hT
    · rename_i he
      simp only [Option.bind_eq_some_iff] at h
      obtain ⟨rows, hr, h⟩ := h
      · simp only [Option.map_eq_some_iff] at h
        obtain ⟨l, hl, rfl⟩ := h
        refine ⟨_, rfl, ?_⟩
        obtain ⟨ad, cap, cs, rfl, hcap, hF, hrun⟩ := rows_R (P := P) hs hr (by decide) (soft_R hv)
        have hrows := bytesR_len hl
        have hlen : rows.length = l.length := by rw [hrows, List.length_map]
        have hcs : cs = l.map fun n => Value.int .u8 n := by
          apply List.ext_getElem
          · rw [hF.2.1, hlen, List.length_map]; omega
          · intro i h1 h2
            rw [List.length_map] at h2
            have h3 := hF.2.2.2 i [.v (.int .u8 l[i])] (by rw [hrows]; simp [h2]) 0 _ rfl
            rw [Nat.mul_one, Nat.add_zero] at h3
            have h4 := h3.v_inv
            rw [List.getElem?_eq_getElem h1] at h4
            simpa using h4
        have hk := hrun rows.length (Nat.le_refl _)
        rw [hlen] at hk ⊢
        have hu1 : (underlying s).run P w = .ok (.slice e) w := by simp [underlying, hS]
        have hu2 : (underlying d).run P w = .ok .string w := by simp [underlying, hd]
        have hu3 : (underlying e).run P w = .ok (.int .u8) w := by simp [underlying, he]
        unfold convert
        cases ad with
        | none =>
          simp only [Builtin.firstCells] at hk
          rw [hcs, List.take_of_length_le (by simp)] at hk
          have hl0 : l = [] := by
            simp at hk
            simpa using hk
          subst hl0
          simp [hu1, hu2, hu3, Conv.bytesToString, strB]
        | some a =>
          have hk2 : (loadCells a l.length).run P w = .ok (l.map fun n => Value.int .u8 n).toArray w := by
            simp only [Builtin.firstCells, Nat.mul_one] at hk
            rw [hk, hcs, List.take_of_length_le (by simp)]
          have := b2s_run (cap := cap) hk2
          simp [hu1, hu2, hu3, this]
    · cases hT
  · cases hT
theorem does_str {e' : AEv} {a : Act} {o : Oper} {av : AVal} {s d : TypeId} {x : Operand} (hop : o.op = .convert s d x) (hs : SimE base w0 β fz e' H a w) (h : aStr P s d (e' x) H = some av) : Does P o a w base w0 β fz H av H := by
  obtain ⟨b, rfl, hrun⟩ := str_run (P := P) hs.heap (hs.ev x) h
  refine does_pure hs.heap (x := .string b) ?_ .v
  simp only [execOp, hop]
  simp [hrun]
end
end Go.AI
