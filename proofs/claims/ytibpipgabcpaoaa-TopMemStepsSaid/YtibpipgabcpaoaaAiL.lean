/- Calls. -/
import Derived.Test.YtibpipgabcpaoaaAiK
namespace Go.AI
set_option linter.unusedSimpArgs false
set_option linter.unusedVariables false
open Go.RowKit
def β0 : Nat → Nat := fun _ => 0
def ok0 (w : World) : Bool → Nat → Prop := okOf w.heap.size (· < w.heap.size)
def okNew (lo : Nat) (w' : World) : Bool → Nat → Prop := fun _ b => lo ≤ b ∧ b < w'.heap.size
def ArgsR (β : Nat → Nat) (ok : Bool → Nat → Prop) (w : World) (n : Nat) (args : Row) (vals : Array Value) : Prop :=
 vals.size = args.length ∧ ∀ (j : Nat) (a : AVal), args[j]? = some a → R β ok w n a (vals[j]?.getD undef)
def PureOk (P : Program) (f : FuncId) (m : Row → Option AVal) : Prop :=
 ∀ args r, m args = some r → ∀ (w : World) (vals : Array Value), ArgsR β0 (ok0 w) w 0 args vals →
  Calls P f vals w fun e w' => ∃ v, e = .returned v ∧ Below w.heap.size w w' ∧ R β0 (okNew w.heap.size w') w' 0 r v
def CallsX (P : Program) (f : FuncId) (vals : Array Value) (w : World) (K : Ending → World → Prop) : Prop :=
 ∀ fn, P.funcs[f]? = some fn → (fn.body.isNone = false → Calls P f vals w K) ∧ (fn.body.isNone = true → ∃ v w', (callFunc f vals).run P w = .ok (.value v) w' ∧ K (.returned v) w')
theorem CallsX.of {P : Program} {f : FuncId} {fn : Func} {c : Code} {vals : Array Value} {w : World} {K : Ending → World → Prop} (hf : P.funcs[f]? = some fn) (hb : fn.body = some c) (h : Calls P f vals w K) : CallsX P f vals w K := by
 intro fn' hf'
 rw [hf] at hf'
 simp only [Option.some.injEq] at hf'
 subst hf'
 exact ⟨fun _ => h, fun h0 => by rw [hb] at h0; cases h0⟩
def InlOk (P : Program) (f : FuncId) (m : Row → Heap → Option (AVal × Heap)) : Prop :=
 ∀ args H r H', m args H = some (r, H') → ∀ (base : Nat) (w0 : World) (β : Nat → Nat) (fz : Nat → Prop) (w : World) (vals : Array Value), HSim base w0 β fz H w → ArgsR β (okOf base fz) w H.length args vals →
  CallsX P f vals w fun e w' => ∃ v β' fz', e = .returned v ∧ HSim base w0 β' fz' H' w' ∧ Ext H.length β fz w H'.length β' fz' w' ∧ R β' (okOf base fz') w' H'.length r v
def MapsSame (H H' : Heap) : Prop := ∀ (id : Nat) (rows : List Row), H[id]? = some (some (0, rows)) ↔ H'[id]? = some (some (0, rows))
structure OrcOk (P : Program) (C : Orc) : Prop where
 pure : ∀ f, PureOk P f (C.pure f)
 inline : ∀ f, C.inl f = true → InlOk P f (C.inline f)
 foot : ∀ f args ids, C.fp f args = some ids → Loc (C.inline f args) ids true
 rd : ∀ f m, C.rd f = some m → InlOk P f (fun args H => (m args H).map (·, H))
 cells : ∀ f, C.cl f = true → ∀ args H r H', C.inline f args H = some (r, H') → MapsSame H H' ∧ H.length ≤ H'.length
section
variable {base : Nat} {w0 : World} {β : Nat → Nat} {fz : Nat → Prop} {e' : AEv} {H H' : Heap} {a : Act} {w : World} {P : Program} {C : Orc} {o : Oper} {av : AVal} {n : Nat} {ok ok' : Bool → Nat → Prop}
theorem cold_R {x : AVal} {v : Value} (h : R β ok w n x v) (hok : ∀ o b, ok o b → ok' false b) : R β ok' w n (cold x) v := by
 induction h with
 | junk => simp only [cold]; exact .junk
 | anyb => simp only [cold]; exact .anyb
 | v => simp only [cold]; exact .v
 | ptr h h0 => simp only [cold]; exact .ptr h h0
 | mp h => simp only [cold]; exact .mp h
 | fptr x hb hc hr ih =>
  simp only [cold, coldC_map]
  refine .fptr x (fun h => hok _ _ (hb (ne_map h))) (fun j hj => hc j (by simpa using hj)) (fun j a ha => ?_)
  simp only [List.getElem?_map, Option.map_eq_some_iff] at ha
  obtain ⟨y, hy, rfl⟩ := ha
  exact ih j y hy
 | osl h hl hk ha => simp only [cold]; exact .osl h hl hk ha
 | xsl h hl ha => simp only [cold]; exact .xsl h hl ha
 | @fsl n o sz rows b off cap x hl hs hb hc hr ih =>
  simp only [cold, coldR_map]
  have := R.fsl (β := β) (ok := ok') (w := w) (n := n) (o := false) (sz := sz) (rows := rows.map (List.map cold)) (b := b) (off := off) (cap := cap) x (by simpa using hl)
   (fun r hr => by
    simp only [List.mem_map] at hr
    obtain ⟨r', hr', rfl⟩ := hr
    simpa using hs r' hr') (fun h => hok _ _ (hb (ne_maps (fun _ => ne_map) h))) (fun i j hi hj => hc i j (by simpa using hi) hj)
   (fun i r hi j c hj => by
    simp only [List.getElem?_map, Option.map_eq_some_iff] at hi
    obtain ⟨r', hr', rfl⟩ := hi
    simp only [List.getElem?_map, Option.map_eq_some_iff] at hj
    obtain ⟨y, hy, rfl⟩ := hj
    exact ih i r' hr' j y hy)
  simpa using this
 | fsl0 => simp only [cold, coldR_map, List.map_nil]; exact .fsl0
 | esl => simp only [cold]; exact .esl
 | agg hl hr ih =>
  simp only [cold, coldC_map]
  refine .agg (by simpa using hl) fun j a ha => ?_
  simp only [List.getElem?_map, Option.map_eq_some_iff] at ha
  obtain ⟨y, hy, rfl⟩ := ha
  exact ih j y hy
 | tup hl hr ih =>
  simp only [cold, coldC_map]
  refine .tup (by simpa using hl) fun j a ha => ?_
  simp only [List.getElem?_map, Option.map_eq_some_iff] at ha
  obtain ⟨y, hy, rfl⟩ := ha
  exact ih j y hy
 | fn hl hr ih =>
  simp only [cold, coldC_map]
  refine .fn (by simpa using hl) fun j a ha => ?_
  simp only [List.getElem?_map, Option.map_eq_some_iff] at ha
  obtain ⟨y, hy, rfl⟩ := ha
  exact ih j y hy
 | when h hu ih => simp only [cold]; exact .junk
 | ifc h ih => simp only [cold]; exact .ifc ih
 | meth => simp only [cold]; exact .meth
def okV (base : Nat) (w : World) : Bool → Nat → Prop := fun o b => b < w.heap.size ∧ (o = true → base ≤ b)
theorem inner0 {x : AVal} {v : Value} (hs : HSim base w0 β fz H w) (h : R β (okOf base fz) w 0 x v) (n : Nat) : R β0 (okV base w) w n x v :=
 h.mono (Nat.zero_le _) (fun _ h => absurd h (Nat.not_lt_zero _)) (fun _ b hb => ⟨hs.fzlt b hb.1, hb.2⟩) (fun _ _ _ => rfl) (Shapes.refl _)
theorem view_R (hs : HSim base w0 β fz H w) : ∀ (d : Nat) (x : AVal) (v : Value), R β (okOf base fz) w H.length x v → R β0 (okV base w) w 0 (view H d x) v := by
 intro d
 induction d with
 | zero =>
  intro x v h
  cases h with
  | junk => simp only [view]; exact .junk
  | anyb => simp only [view]; exact .anyb
  | v => simp only [view]; exact .v
  | ptr h _ => simp only [view]; exact .junk
  | mp h => simp only [view]; exact .junk
  | fptr x hb hc hr => simp only [view]; exact .fptr x (fun h => ⟨hs.fzlt _ (hb h).1, (hb h).2⟩) hc (fun j a ha => inner0 hs (hr j a ha) 0)
  | osl h hl hk ha => simp only [view]; exact .junk
  | xsl h hl ha => simp only [view]; exact .junk
  | fsl x hl hsz hb hc hr => simp only [view]; exact .fsl x hl hsz (fun h => ⟨hs.fzlt _ (hb h).1, (hb h).2⟩) hc (fun i r hi j a ha => inner0 hs (hr i r hi j a ha) 0)
  | fsl0 => simp only [view]; exact .fsl0
  | esl => simp only [view]; exact .esl
  | agg hl hr => simp only [view]; exact .junk
  | tup hl hr => simp only [view]; exact .junk
  | fn hl hr => simp only [view]; exact .junk
  | when h hu => simp only [view]; exact .junk
  | ifc h => simp only [view]; exact .junk
  | meth => simp only [view]; exact .meth
 | succ d ih =>
  intro x v h
  cases h with
  | junk => simp only [view]; exact .junk
  | anyb => simp only [view]; exact .anyb
  | v => simp only [view]; exact .v
  | @mp _ id h =>
   simp only [view]
   split
   ·rename_i sz' rows hob
    split
    ·split
     ·rename_i hsz; exact absurd hsz (obj_live hob).2
     ·exact .junk
    ·exact .junk
   ·exact .junk
  | @ptr _ id sz i off h _ =>
   simp only [view]
   split
   ·rename_i sz' rows hob
    split
    ·rename_i r hr
     split
     ·rename_i hsz
      subst hsz
      obtain ⟨cs, e, g1, g2, g3, g4, g5⟩ := hs.cells hob
      have hi : i < rows.length := (List.getElem?_eq_some_iff.1 hr).1
      have hrl : r.length = sz' := g2 r (List.mem_of_getElem? hr)
      have hmul : (i + 1) * sz' ≤ rows.length * sz' := Nat.mul_le_mul_right _ hi
      rw [Nat.succ_mul] at hmul
      have hlt : β id < w.heap.size := (Array.getElem?_eq_some_iff.1 g1).1
      refine .fptr (fun j => cs[i * sz' + j]?.getD undef) (fun _ => ⟨hlt, fun h => by cases h⟩) (fun j hj => ?_) (fun j c hj => ?_)
      ·have : i * sz' + j < cs.size := by simp at hj; omega
       simp [World.cell?, g1, this]
      ·simp only [List.getElem?_map, Option.map_eq_some_iff] at hj
       obtain ⟨y, hy, rfl⟩ := hj
       exact ih _ _ (g5 i r hr j y hy)
     ·exact .junk
    ·exact .junk
   ·exact .junk
  | fptr x hb hc hr => simp only [view]; exact .fptr x (fun h => ⟨hs.fzlt _ (hb h).1, (hb h).2⟩) hc (fun j a ha => inner0 hs (hr j a ha) 0)
  | @osl _ id sz s len kc ad cap h hl hk ha =>
   simp only [view]
   split
   ·rename_i sz' rows hob
    split
    ·rename_i hcond
     obtain ⟨rfl, hsl⟩ := hcond
     obtain ⟨cs, e, g1, g2, g3, g4, g5⟩ := hs.cells hob
     have hlt : β id < w.heap.size := (Array.getElem?_eq_some_iff.1 g1).1
     have hbase := (hs.own id ⟨_, obj_some hob⟩).1
     have hlen : (((rows.drop s).take len).map fun r => r.map (view H d)).length = len := by simp; omega
     by_cases hl0 : len = 0
     ·subst hl0
      simp only [List.take_zero, List.map_nil]
      exact .fsl0
     ·rcases ha with ha | ⟨rfl, _⟩
      ·omega
      ·have := R.fsl (β := β0) (ok := okV base w) (w := w) (n := 0) (o := true) (sz := sz') (rows := ((rows.drop s).take len).map fun r => r.map (view H d)) (b := β id) (off := s * sz') (cap := cap)
        (fun i j => cs[(s + i) * sz' + j]?.getD undef) (by omega)
        (fun r hr => by
         simp only [List.mem_map] at hr
         obtain ⟨r', hr', rfl⟩ := hr
         simpa using g2 r' (List.mem_of_mem_drop (List.mem_of_mem_take hr'))) (fun _ => ⟨hlt, fun _ => hbase⟩)
        (fun i j hi hj => by
         rw [hlen] at hi
         have h1 : (s + i) * sz' + j < rows.length * sz' := row_lt (by omega) hj
         have h2 : (s + i) * sz' + j < cs.size := by omega
         have e1 : s * sz' + i * sz' + j = (s + i) * sz' + j := by rw [Nat.add_mul]
         rw [e1]
         refine ⟨by simp [World.cell?, g1, h2], g4 ((s + i) * sz' + j) _ (by simp [h2])⟩)
        (fun i r hi j c hj => by
         have hil : i < len := by have := (List.getElem?_eq_some_iff.1 hi).1; omega
         simp only [List.getElem?_map, Option.map_eq_some_iff] at hi
         obtain ⟨r', hr', rfl⟩ := hi
         simp only [List.getElem?_map, Option.map_eq_some_iff] at hj
         obtain ⟨y, hy, rfl⟩ := hj
         rw [List.getElem?_take_of_lt hil, List.getElem?_drop] at hr'
         exact ih _ _ (g5 (s + i) r' hr' j y hy))
       rwa [hlen] at this
    ·exact .junk
   ·exact .junk
  | xsl h hl ha => simp only [view]; exact .junk
  | fsl x hl hsz hb hc hr => simp only [view]; exact .fsl x hl hsz (fun h => ⟨hs.fzlt _ (hb h).1, (hb h).2⟩) hc (fun i r hi j a ha => inner0 hs (hr i r hi j a ha) 0)
  | fsl0 => simp only [view]; exact .fsl0
  | esl => simp only [view]; exact .esl
  | agg hl hr =>
   simp only [view]
   refine .agg (by simpa using hl) fun j a ha => ?_
   simp only [List.getElem?_map, Option.map_eq_some_iff] at ha
   obtain ⟨y, hy, rfl⟩ := ha
   exact ih _ _ (hr j y hy)
  | tup hl hr =>
   simp only [view]
   refine .tup (by simpa using hl) fun j a ha => ?_
   simp only [List.getElem?_map, Option.map_eq_some_iff] at ha
   obtain ⟨y, hy, rfl⟩ := ha
   exact ih _ _ (hr j y hy)
  | fn hl hr =>
   simp only [view]
   refine .fn (by simpa using hl) fun j a ha => ?_
   simp only [List.getElem?_map, Option.map_eq_some_iff] at ha
   obtain ⟨y, hy, rfl⟩ := ha
   exact ih _ _ (hr j y hy)
  | when h hu => simp only [view]; exact .junk
  | ifc h => simp only [view]; exact .ifc (ih _ _ h)
  | meth => simp only [view]; exact .meth
theorem hot_R {x : AVal} {v : Value} {lo : Nat} (hh : hot x = true) (h : R β0 (okV lo w) w n x v) : R β0 (okNew lo w) w n x v := by
 induction h with
 | junk => exact .junk
 | anyb => exact .anyb
 | v => exact .v
 | ptr h _ => simp [hot] at hh
 | mp h => simp [hot] at hh
 | fptr x hb hc hr ih => simp [hot] at hh
 | osl h hl hk ha => simp [hot] at hh
 | xsl h hl ha => simp [hot] at hh
 | @fsl n o sz rows b off cap x hl hs hb hc hr ih =>
  simp only [hot, Bool.and_eq_true, Bool.or_eq_true] at hh
  obtain ⟨h1, h2⟩ := hh
  rw [hotR_all] at h2
  by_cases hr0 : rows = []
  ·subst hr0; exact .fsl0
  ·have ho : o = true := by
    rcases h1 with h1 | h1
    ·exact h1
    ·exact absurd (by simpa using h1) hr0
   refine .fsl x hl hs (fun h => ⟨(hb h).2 ho, (hb h).1⟩) hc (fun i r hi j a ha => ih i r hi j a ha ?_)
   have h3 := List.all_eq_true.1 h2 r (List.mem_of_getElem? hi)
   exact List.all_eq_true.1 h3 a (List.mem_of_getElem? ha)
 | fsl0 => exact .fsl0
 | esl => exact .esl
 | agg hl hr ih =>
  simp only [hot, hotC_all] at hh
  exact .agg hl fun j a ha => ih j a ha (List.all_eq_true.1 hh a (List.mem_of_getElem? ha))
 | tup hl hr ih =>
  simp only [hot, hotC_all] at hh
  exact .tup hl fun j a ha => ih j a ha (List.all_eq_true.1 hh a (List.mem_of_getElem? ha))
 | fn hl hr ih => simp [hot] at hh
 | when h hu ih => simp [hot] at hh
 | ifc h ih => simp [hot] at hh
 | meth => simp [hot] at hh
theorem callee_does {st : Bool} {g : FuncId} {caps args : Row} {vals : Array Value} (hC : OrcOk P C) (hs : SimE base w0 β fz e' H a w) (hargs : ArgsR β (okOf base fz) w H.length (args ++ caps) vals)
  (hrun2 : (execOp a.eval o).run P w = (callFunc g vals).run P w) (h : aCall P C st (.fn g caps) args H = some (av, H')) : Does P o a w base w0 β fz H av H' := by
 unfold aCall at h
 simp only at h
 split at h
 ·rename_i fn hfn
  have hrun : (fn.name == "runtime.NumGoroutine") = false → fn.body.isNone = false → (execOp a.eval o).run P w = .ok (.enter g vals) w := by
   intro hname hbody
   rw [hrun2]
   have hn : ¬ fn.name = "runtime.NumGoroutine" := by simpa using hname
   have hb : fn.body ≠ none := by
    intro h0; rw [h0] at hbody; simp at hbody
   simp [callFunc, hfn, hn, hb]
  split at h
  ·rename_i hin
   split at h
   ·rename_i hst
    simp only [Bool.and_eq_true, Bool.not_eq_true'] at hst
    have hcall := hC.inline g hin _ _ _ _ h base w0 β fz w _ hs.heap hargs fn hfn
    cases hbody : fn.body.isNone with
    | false =>
     intro K Q hK
     unfold Oper.wp
     rw [hrun hst.2 hbody]
     show Calls P g _ w _
     refine (hcall.1 hbody).mono ?_
     rintro e w' ⟨v, β', fz', rfl, h1, h2, h3⟩
     exact hK v β' fz' w' h1 h2 h3
    | true =>
     obtain ⟨v, w', h0, v', β', fz', he, h1, h2, h3⟩ := hcall.2 hbody
     simp only [Ending.returned.injEq] at he
     subst he
     exact does_val (hrun2.trans h0) h1 h2 h3
   ·cases h
  ·split at h
   ·cases h
   ·rename_i hcond
    simp only [Bool.or_eq_true, not_or, Bool.not_eq_true] at hcond
    obtain ⟨hname, hbody⟩ := hcond
    intro K Q hK
    unfold Oper.wp
    rw [hrun hname hbody]
    show Calls P g _ w _
    split at h
    ·rename_i m hm
     have hcall := (hC.rd g m hm) _ _ _ _ h base w0 β fz w _ hs.heap hargs fn hfn
     refine (hcall.1 hbody).mono ?_
     rintro e w' ⟨v, β', fz', rfl, h1, h2, h3⟩
     exact hK v β' fz' w' h1 h2 h3
    simp only [Option.map_eq_some_iff, Prod.mk.injEq] at h
    obtain ⟨r, hr', rfl, rfl⟩ := h
    have hargs' : ArgsR β0 (ok0 w) w 0 ((args ++ caps).map fun a => cold (view H depthV a)) vals := by
     refine ⟨by simpa using hargs.1, fun j x hj => ?_⟩
     simp only [List.getElem?_map, Option.map_eq_some_iff] at hj
     obtain ⟨y, hy, rfl⟩ := hj
     refine cold_R (view_R hs.heap depthV y _ (hargs.2 j y hy)) (fun _ b hb => ⟨hb.1, fun h => by cases h⟩)
    refine (hC.pure g _ _ hr' w _ hargs').mono ?_
    rintro e w' ⟨v, rfl, hb, hR⟩
    obtain ⟨q1, q2⟩ := hs.heap.called hb
    have hbase : base ≤ w.heap.size := Nat.le_trans hs.heap.base hs.heap.below.size
    exact hK v _ _ w' q1 q2 (hR.mono (Nat.zero_le _) (fun _ h => absurd h (Nat.not_lt_zero _)) (fun _ b hb => ⟨.inr hb, fun _ => Nat.le_trans hbase hb.1⟩) (fun _ _ _ => rfl) (Shapes.refl _))
 ·cases h
theorem does_call {c : Call} {f : Operand} (hop : o.op = .call c) (hf : c.callee = .value f) (hC : OrcOk P C) (hs : SimE base w0 β fz e' H a w)
  (h : aCall P C (isStatic f) (e' f) (c.args.toList.map (e')) H = some (av, H')) : Does P o a w base w0 β fz H av H' := by
 have hfv := hs.ev f
 cases hp : e' f with
 | fn g caps =>
  rw [hp] at hfv h
  generalize hv : a.eval f = vf at hfv
  cases hfv with
  | @fn _ _ _ xs hl hr =>
   have hargs : ArgsR β (okOf base fz) w H.length (c.args.toList.map (e') ++ caps) (c.args.map a.eval ++ xs) := by
    refine ⟨by simp [hl], fun j x hj => ?_⟩
    rw [List.getElem?_append] at hj
    rw [Array.getElem?_append]
    simp only [List.length_map, Array.length_toList] at hj
    simp only [Array.size_map]
    split at hj
    ·rename_i hlt
     rw [if_pos hlt]
     simp only [List.getElem?_map, Option.map_eq_some_iff, Array.getElem?_toList] at hj
     obtain ⟨y, hy, rfl⟩ := hj
     simp only [Array.getElem?_map, hy, Option.map_some, Option.getD_some]
     exact hs.ev y
    ·rename_i hlt
     rw [if_neg hlt]
     exact hr _ _ hj
   refine callee_does hC hs hargs ?_ h
   simp only [execOp, hop, resolve, hf, hv, Deferred.ofValue]
   simp [invoke]
 | _ => rw [hp] at h; simp [aCall] at h
theorem method_run {t : TypeId} {name : String} {g : FuncId} {v : Value} {n : Nat} (h : methodF P t name = some g) (w : World) : (method (n + 1) t v name).run P w = .ok (g, v) w := by
 unfold methodF at h
 split at h
 ·rename_i i d hi hd
  split at h
  ·rename_i m hm
   split at h
   ·rename_i hp
    have hti : ∀ w : World, (typeInfo t).run P w = .ok i w := fun w => by simp [typeInfo, hi]
    have hun : ∀ w : World, (underlying t).run P w = .ok d w := fun w => by simp [underlying, hd]
    cases hfn : m.func with
    | none => rw [hfn] at h; simp at h
    | some q =>
     obtain ⟨f, pr⟩ := q
     rw [hfn] at h
     cases d <;> cases pr <;> simp at h <;> subst h <;> simp [method, hti, hun, hm, hp, hfn, follow, receiverAt, Place.get]
   ·cases h
  ·cases h
 ·cases h
theorem does_invoke {c : Call} {r : Operand} {name : String} (hop : o.op = .call c) (hf : c.callee = .invoke r name) (hC : OrcOk P C) (hs : SimE base w0 β fz e' H a w)
  (h : aInvoke P C name (e' r) (c.args.toList.map (e')) H = some (av, H')) : Does P o a w base w0 β fz H av H' := by
 have hrv := hs.ev r
 unfold aInvoke at h
 split at h
 ·rename_i t x hp
  rw [hp] at hrv
  generalize hv : a.eval r = vr at hrv
  cases hrv with
  | @ifc _ _ _ v hx =>
   split at h
   ·rename_i g hg
    have hargs : ArgsR β (okOf base fz) w H.length ((x :: c.args.toList.map (e')) ++ []) (#[v] ++ c.args.map a.eval) := by
     refine ⟨by simp; omega, fun j y hj => ?_⟩
     rw [List.append_nil] at hj
     cases j with
     | zero =>
      simp only [List.getElem?_cons_zero, Option.some.injEq] at hj
      subst hj
      have : (#[v] ++ c.args.map a.eval)[0]? = some v := by rw [Array.getElem?_append_left (by simp)]; rfl
      rw [this]
      exact hx
     | succ j =>
      simp only [List.getElem?_cons_succ, List.getElem?_map, Option.map_eq_some_iff, Array.getElem?_toList] at hj
      obtain ⟨z, hz, rfl⟩ := hj
      have : (#[v] ++ c.args.map a.eval)[j + 1]? = some (a.eval z) := by
       rw [Array.getElem?_append_right (by simp)]
       simp [hz]
      rw [this]
      exact hs.ev z
    refine callee_does hC hs hargs ?_ h
    have hext : (#[Value.iface t v] ++ c.args.map a.eval).extract 1 (#[Value.iface t v] ++ c.args.map a.eval).size = c.args.map a.eval := by
     apply Array.ext'
     simp
     rw [List.take_of_length_le (by simp)]
    have h0 : (#[Value.iface t v] ++ c.args.map a.eval)[0]? = some (.iface t v) := by rw [Array.getElem?_append_left (by simp)]; rfl
    have hex : (c.args.map a.eval).extract 0 c.args.size = c.args.map a.eval := by
     apply Array.ext'
     simp
     rw [List.take_of_length_le (by simp)]
    have hm := fun n w => method_run (n := n) (v := v) hg w
    simp only [execOp, hop, resolve, hf, hv]
    simp [-List.getElem?_toArray, invoke, callMethod, h0, hext, hex, Made.depth, hm]
   ·cases h
 ·cases h
theorem does_mkI {t : TypeId} {x : Operand} (hop : o.op = .makeInterface t x) (hs : SimE base w0 β fz e' H a w) (h : aMkI P t (e' x) = some av) : Does P o a w base w0 β fz H av H := by
 unfold aMkI at h
 split at h
 ·cases h
 ·rename_i d hd hn
  simp only [Option.some.injEq] at h
  subst h
  refine does_pure hs.heap (x := .iface t (a.eval x)) ?_ (.ifc (hs.ev x))
  have hun : (underlying t).run P w = .ok d w := by simp [underlying, hn]
  simp only [execOp, hop, Instr.makeInterface, Sem.run_bind, hun]
  cases d <;> first | rfl | (exact (hd _ rfl).elim)
 ·cases h
end
end Go.AI
